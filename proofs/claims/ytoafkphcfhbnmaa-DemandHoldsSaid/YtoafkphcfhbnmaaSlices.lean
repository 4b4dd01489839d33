/- Contract of slices.Clone at []int. -/
import Derived.Test.YtoafkphcfhbnmaaRef34A
import Derived.Lib.SliceRun
import Derived.Deep.Heap
namespace Go.Proofs.Ytoafkphcfhbnmaa
open Go.RowKit

/-- a new slice of numbers is returned -/
def NewInts (xs : List Int) (w : World) (e : Ending) (w' : World) : Prop := ∃ v, e = .returned v ∧ w'.ownsRow w.heap.size 3 1 v xs.length (xs.map intV) ∧ Below w.heap.size w w'

section
variable {P : Program}
/-- append of a row of one-cell elements, whatever its address -/
theorem run_append_row {α : Type} {f : α → Value} (hf : ∀ a, (f a).oneCell' = true) (w : World) (base : Nat) (t ty e : TypeId) (i : TypeInfo) (z : Value) (bytes : Nat) (ht : P.underlying t = some (.slice e)) (hi : P.info? e = some i) (hz : i.zero = some z)
    (hsize : i.size = 1) (hby : i.bytes = bytes) (hzs : z.cells.size = 1) (v : Value) (n : Nat) (xs : List Value) (hown : w.ownsRow base e 1 v n xs) (A : Option Addr) (m c : Nat) (ys : List α) (D : Nat) (hy : Row1 f w D A m ys)
    (h63 : n + m ≤ maxLen) (hbytes : (n + m) * bytes ≤ 140737488355328) (hbase : base ≤ w.heap.size) :
    ∃ v' w', (Builtin.append_ #[t, t] ty #[v, .slice A m c]).run P w = .ok v' w' ∧ w'.ownsRow base e 1 v' (n + m) (xs ++ ys.map f) ∧ w.grownBy w' v.ownBlock ∧ (v'.ownBlock = v.ownBlock ∨ v'.ownBlock = some w.heap.size) := by
  cases A with
  | none =>
    have hn0 : m = 0 := by
      rcases Nat.eq_zero_or_pos m with h | h
      · exact h
      · obtain ⟨_, _, h1, _⟩ := hy.2 h; cases h1
    have hxs : ys = [] := List.eq_nil_of_length_eq_zero (by have := hy.1; omega)
    subst hn0 hxs
    refine ⟨v, w, ?_, by simpa using hown, ⟨rfl, rfl, rfl, Nat.le_refl _, fun _ _ _ => rfl⟩, .inl rfl⟩
    rcases hown.2 with ⟨rfl, rfl⟩ | ⟨g, cap, cur, rfl, hbg, hg, hnc, hcm, hcs, htake⟩
    · simp [Builtin.append_, run_underlying ht, sizeOf, typeInfo, hi, Builtin.lenOf, Builtin.firstCells]
    · simp [Builtin.append_, run_underlying ht, sizeOf, typeInfo, hi, Builtin.lenOf, Builtin.firstCells, loadCells, storeCells, hnc]
  | some ad =>
    have hlen := hy.1
    have hcells : ∀ j u, (ys.map f)[j]? = some u → w.cell? (ad.add j) = some u := by
      intro j u hu
      rcases Nat.eq_zero_or_pos m with h | h
      · have hxs : ys = [] := List.eq_nil_of_length_eq_zero (by omega)
        subst hxs
        simp at hu
      · obtain ⟨b, off, h1, _, h3⟩ := hy.2 h
        injection h1 with h1
        subst h1
        rw [List.getElem?_map] at hu
        cases hk : ys[j]? with
        | none => rw [hk] at hu; cases hu
        | some x =>
          rw [hk] at hu
          injection hu with hu
          subst hu
          have := h3 j x hk
          unfold Addr.add
          by_cases hj : j = 0
          · subst hj; simpa using this
          · rw [if_neg hj]; exact this
    obtain ⟨v', w', hr, h2, h3, _, h5⟩ := run_append_own_at (P := P) w base t ty e i z 1 bytes ht hi hz hsize hby hzs (by decide) v n xs hown ad m c (ys.map f) (by simp [hlen]) hcells
      (by intro u hu; obtain ⟨y, _, rfl⟩ := List.mem_map.1 hu; exact hf y) h63 hbytes hbase
    exact ⟨v', w', hr, h2, h3, h5⟩

theorem wpList_append_row {w : World} {ops : Array Oper} {rest : List Oper} {o : Oper} {a : Act} {Q : Exit → Act → World → Prop} (hgd : o.guard = none) (s x : Operand) (t : TypeId)
    (ho : o.op = .call { callee := .builtin .append, args := #[s, x], argTypes := #[t, t] })
    {α : Type} {f : α → Value} (hf : ∀ a, (f a).oneCell' = true) (base : Nat) (e : TypeId) (i : TypeInfo) (z : Value) (bytes : Nat) (ht : P.underlying t = some (.slice e)) (hi : P.info? e = some i) (hz : i.zero = some z)
    (hsize : i.size = 1) (hby : i.bytes = bytes) (hzs : z.cells.size = 1)
    (v : Value) (n : Nat) (xs : List Value) (hs : a.eval s = v) (hown : w.ownsRow base e 1 v n xs) (A : Option Addr) (m c : Nat) (ys : List α) (D : Nat) (hx : a.eval x = .slice A m c) (hy : Row1 f w D A m ys)
    (h63 : n + m ≤ maxLen) (hbytes : (n + m) * bytes ≤ 140737488355328) (hbase : base ≤ w.heap.size)
    (h : ∀ v' w', w'.ownsRow base e 1 v' (n + m) (xs ++ ys.map f) → w.grownBy w' v.ownBlock → (v'.ownBlock = v.ownBlock ∨ v'.ownBlock = some w.heap.size) → wpList P ops Q rest (a.put o.dst v') w') :
    wpList P ops Q (o :: rest) a w := by
  refine wpList_plain hgd fun K hK => ?_
  obtain ⟨v', w', hr, h2, h3, h5⟩ := run_append_row (P := P) hf w base t o.type e i z bytes ht hi hz hsize hby hzs v n xs hown A m c ys D hy h63 hbytes hbase
  unfold Oper.wp execOp
  simp only [ho, resolve, invoke, builtin, Sem.run_bind, Sem.run_pure, Result.andThen_ok, List.map_toArray, List.map_cons, List.map_nil, hs, hx, hr]
  exact hK _ _ (h v' w' h2 h3 h5)
end

theorem intV_one (a : Int) : (intV a).oneCell' = true := rfl

theorem row1_add {w : World} {D : Nat} {A : Option Addr} {n : Nat} {xs : List Int} (h : Row1 intV w D A n xs) (hD : D ≤ w.heap.size) (o : Obj) : Row1 intV (w.alloc o) D A n xs := h.below ((Below.refl _ _).alloc hD _)

theorem own_congr {w w' : World} {base e size n : Nat} {v : Value} {xs : List Value} (h : w.ownsRow base e size v n xs) (hh : ∀ g, base ≤ g → g < w.heap.size → w'.heap[g]? = w.heap[g]?) : w'.ownsRow base e size v n xs := by
  refine ⟨h.1, h.2.imp id ?_⟩
  rintro ⟨g, cap, cur, rfl, h1, h2, h3⟩
  refine ⟨g, cap, cur, rfl, h1, ?_, h3⟩
  rw [hh g h1 ?_, h2]
  rcases Nat.lt_or_ge g w.heap.size with h4 | h4
  · exact h4
  · rw [Array.getElem?_eq_none h4] at h2; cases h2

theorem own_set {w : World} {base e size n : Nat} {v : Value} {xs : List Value} (h : w.ownsRow base e size v n xs) {a : Addr} (ha : a.block < base) (u : Value) : (w.setCell a u).ownsRow base e size v n xs :=
  own_congr h fun g hg _ => Go.Deep.blk_setCell_other _ _ _ _ (by omega)

theorem own_low {w : World} {base base' e size n : Nat} {v : Value} {xs : List Value} (h : w.ownsRow base e size v n xs) (hb : base' ≤ base) : w.ownsRow base' e size v n xs := by
  refine ⟨h.1, h.2.imp id ?_⟩
  rintro ⟨g, cap, cur, rfl, h1, h2⟩
  exact ⟨g, cap, cur, rfl, Nat.le_trans hb h1, h2⟩

theorem own_keep {w w' : World} {base e size n : Nat} {v : Value} {xs : List Value} (h : w.ownsRow base e size v n xs) (hb : Below w.heap.size w w') : w'.ownsRow base e size v n xs :=
  own_congr h fun g _ hg => hb.block g hg

/-- the form of an owned slice of numbers -/
theorem own_form {w : World} {base e n : Nat} {v : Value} {xs : List Int} (h : w.ownsRow base e 1 v n (xs.map intV)) : ∃ A c, v = .slice A n c ∧ Row1 intV w w.heap.size A n xs ∧ (∀ a, A = some a → base ≤ a.block ∧ a.block < w.heap.size ∧ a.spot = none ∧ a.off = 0 ∧ w.frozen? a = false) := by
  obtain ⟨A, c, rfl, hr⟩ := row1_of_own h
  refine ⟨A, c, rfl, hr, ?_⟩
  rintro a rfl
  rcases h.2 with ⟨h1, _⟩ | ⟨g, cap, cur, h1, h2, h3, _⟩
  · cases h1
  · injection h1 with h1 _ _
    injection h1 with h1
    subst h1
    refine ⟨h2, ?_, rfl, rfl, ?_⟩
    · rcases Nat.lt_or_ge g w.heap.size with h4 | h4
      · exact h4
      · rw [Array.getElem?_eq_none h4] at h3; cases h3
    · simp [World.frozen?, h3]

theorem clone_any (A : Option Addr) (n c : Nat) (w : World) (xs : List Int) (hn : n ≤ 1000) (hx : Row1 intV w w.heap.size A n xs) :
    Calls Try.prog 40 #[.slice A n c] w (NewInts xs w) := by
  obtain ⟨i0, hi, hz0, hz1, hz2⟩ := info_parts int_info
  have Hlen := Eqn.mk hx.1
  have Hx := Lib.hid hx
  have heq := fun W => Lib.run_eql_slice_nil (P := Try.prog) W 23 3 A n c 0 0 Try.underlying23
  cases A with
  | none =>
    have hn0 : n = 0 := by
      rcases Nat.eq_zero_or_pos n with h | h
      · exact h
      · obtain ⟨_, _, h1, _⟩ := hx.2 h; cases h1
    have hxs : xs = [] := List.eq_nil_of_length_eq_zero (by have := hx.1; omega)
    subst hxs hn0
    clear hx
    go_enter Try.func40, Try.ntmps40
    go_wp2
    go_ret
    exact ⟨_, rfl, World.ownsRow_nil _ _ _ _, Below.refl _ _⟩
  | some ad =>
    clear hx
    go_enter Try.func40, Try.ntmps40
    go_wp2_with (at_builtin; refine wpList_append_row rfl _ _ 23 rfl intV_one w.heap.size 3 i0 (.int .i64 0) 8 Try.underlying23 hi hz0 hz1 hz2 rfl _ 0 [] rfl (World.ownsRow_made w #[] 0 (Nat.le_refl _) (by unfold maxLen; omega) rfl) (some ad) n c xs w.heap.size rfl (by exact row1_add Hx.out (Nat.le_refl _) _) (by unfold maxLen; omega) (by omega) (by simp) ?_; intro v' w1 hown' hgrow hat)
    go_ret
    refine ⟨_, rfl, ?_, ((Below.refl _ _).alloc (Nat.le_refl _) _).grown hgrow (by simp) (fun g hg => by injection hg with hg; exact Nat.le_of_eq hg)⟩
    rw [Nat.zero_add, List.nil_append] at hown'
    rw [Hlen.out]
    exact hown'
end Go.Proofs.Ytoafkphcfhbnmaa
