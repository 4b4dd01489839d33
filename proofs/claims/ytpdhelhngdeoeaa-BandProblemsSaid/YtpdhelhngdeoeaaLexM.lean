/- Appends inside a region that draws its order. Nothing of the program is named here. -/
import Derived.Test.YtpdhelhngdeoeaaLex
import Derived.Test.YtpdhelhngdeoeaaBase
import Derived.Maps.AppendAt
import Derived.OwnWalk
import Derived.Laws.OwnMore
namespace Go.Proofs.Ytpdhelhngdeoeaa
open Go.RowKit
namespace Lx
variable {P : Program} {ops : Array Oper} {C : World → Prop} {hs : List Nat} {Q : Act → World → Prop} {k : Nat} {o : Oper} {r : List Oper} {a : Act} {w : World}
theorem lex_append (hk : kind hs k o = 2) (hgd : o.guard = none) (s x : Operand) (t : TypeId)
    (ho : o.op = .call { callee := .builtin .append, args := #[s, x], argTypes := #[t, t] })
    (base : Nat) (e : TypeId) (i : TypeInfo) (z : Value) (size bytes : Nat) (ht : P.underlying t = some (.slice e)) (hi : P.info? e = some i) (hz : i.zero = some z)
    (hsize : i.size = size) (hby : i.bytes = bytes) (hzs : z.cells.size = size) (hsz : 0 < size)
    (v : Value) (n : Nat) (xs : List Value) (hsv : a.eval s = v) (hown : w.ownsRow base e size v n xs)
    (ad : Addr) (m c : Nat) (news : List Value) (hx : a.eval x = .slice (some ad) m c) (hl : news.length = m * size) (hnews : ∀ j u, news[j]? = some u → w.cell? (ad.add j) = some u) (h1 : ∀ u ∈ news, u.oneCell' = true)
    (h63 : n + m ≤ maxLen) (hbytes : (n + m) * bytes ≤ 140737488355328) (hbase : base ≤ w.heap.size)
    (h : ∀ v' w', w'.ownsRow base e size v' (n + m) (xs ++ news) → w.grownBy w' v.ownBlock → (v'.ownBlock = v.ownBlock ∨ v'.ownBlock = some w.heap.size) → C w' ∧ lex P ops C hs Q (k + 1) r (a.put o.dst v') w') :
    lex P ops C hs Q k (o :: r) a w := by
  refine lex_eff hk (w0 hgd) fun K hK => ?_
  obtain ⟨v', w', hr, h2, h3, _, h5⟩ := run_append_own_at (P := P) w base t o.type e i z size bytes ht hi hz hsize hby hzs hsz v n xs hown ad m c news hl hnews h1 h63 hbytes hbase
  unfold Oper.wp execOp
  simp only [ho, resolve, invoke, builtin, Sem.run_bind, Sem.run_pure, Result.andThen_ok, List.map_toArray, List.map_cons, List.map_nil, hsv, hx, hr]
  exact hK _ _ (h v' w' h2 h3 h5).1 (h v' w' h2 h3 h5).2
end Lx

/-- a new slice of zeros, as it is made -/
theorem made_zeros {w : World} {base e g n : Nat} {f : Int → Value} (hf : f 0 = .int .i64 0) (h : w.ownsRow base e 1 (.slice (some ⟨g, 0, none⟩) n n) n (madeCells (Value.int .i64 0).cells (n * 1)).toList) : w.ownsRow base e 1 (.slice (some ⟨g, 0, none⟩) n n) n ((List.replicate n (0 : Int)).map f) := by
  rw [Nat.mul_one, show (Value.int .i64 0).cells = #[.int .i64 0] from rfl, toList_madeCells_one] at h
  rw [List.map_replicate, hf]
  exact h

theorem own_cell {w : World} {base e g n cap k : Nat} {xs : List Value} (h : w.ownsRow base e 1 (.slice (some ⟨g, 0, none⟩) n cap) n xs) (hk : k < n) : ∃ u, w.cell? ⟨g, k, none⟩ = some u := by
  have h1 := h.cellAt k (by omega)
  have hl : k < xs.length := by rw [h.1]; omega
  exact ⟨_, h1.trans (List.getElem?_eq_getElem hl)⟩

/-- a list that is filled from the left -/
theorem fill_set {α : Type} (z : α) (xs : List α) (n k : Nat) (y : α) (hn : xs.length = n) (hy : xs[k]? = some y) : (xs.take k ++ List.replicate (n - k) z).set k y = xs.take (k + 1) ++ List.replicate (n - (k + 1)) z := by
  have hk : k < xs.length := (List.getElem?_eq_some_iff.1 hy).1
  have hk2 : n - k = (n - (k + 1)) + 1 := by omega
  rw [List.set_append_right _ _ (by simp; omega), List.length_take, Nat.min_eq_left (by omega), Nat.sub_self, hk2, List.replicate_succ, List.set_cons_zero, List.take_add_one, hy]
  simp
end Go.Proofs.Ytpdhelhngdeoeaa
