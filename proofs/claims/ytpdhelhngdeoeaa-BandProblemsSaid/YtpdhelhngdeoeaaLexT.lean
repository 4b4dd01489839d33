/- As XLex, with a tail: operations from n on that wait for all those ahead of them; what is said of the world (C) is owed only until the tail begins, then C'. So a load of a cell that the tail stores into may be unordered beside a call. Nothing of the program is named here. -/
import Derived.Test.YtpdhelhngdeoeaaLex
import Derived.Test.YtpdhelhngdeoeaaLexM
import Derived.Test.YtpdhelhngdeoeaaMem
namespace Go.Proofs.Ytpdhelhngdeoeaa
open Go.RowKit

namespace Lx
section
variable {P : Program} {ops : Array Oper} {C C' : World → Prop} {hs : List Nat}

def tailOk (n : Nat) (ops : Array Oper) : Bool :=
  let M := masks ops.toList []
  (List.range ops.size).all fun j => decide (j < n) || (List.range n).all fun i => (M.getD j 0).testBit i

theorem any_of_lexT {Q : Exit → Act → World → Prop} {n : Nat} (hok : ok hs ops = true) (ht : tailOk n ops = true) : ∀ (fuel : Nat) (L1 L2 : List Nat) (listed : Array Bool) (a : Act) (w : World), C w → (L1 ++ L2).length = fuel →
    (∀ i, i ∈ L1 ++ L2 ↔ i < ops.size ∧ listed.getD i true = false) → (L1 ++ L2).Pairwise (· < ·) → (∀ i ∈ L1, i < n) → (∀ i ∈ L2, n ≤ i) → Down ops listed → listed.size = ops.size →
    lexN P ops C hs (fun a w => C' w ∧ lexN P ops C' hs (fun a w => Q .normal a w) L2 a w) L1 a w → wpAny P .any ops Q fuel listed a w := by
  have htl : ∀ j, n ≤ j → j < ops.size → ∀ i, i < n → ((masks ops.toList []).getD j 0).testBit i = true := by
    intro j hj hjs i hi
    have h1 := List.all_eq_true.1 ht j (List.mem_range.2 hjs)
    simp only [Bool.or_eq_true, decide_eq_true_eq] at h1
    rcases h1 with h1 | h1
    · omega
    · exact List.all_eq_true.1 h1 i (List.mem_range.2 hi)
  have hok' : ∀ (j : Nat) (oj : Oper), ops[j]? = some oj → noSel oj = true ∧ (∀ e ∈ oj.after, Region.binds .any e = true → e.on < j) ∧ ∀ i, i < j → ((masks ops.toList []).getD j 0).testBit i = true ∨ pair ops hs i j = true := by
    intro j oj hj
    have hlt : j < ops.size := (Array.getElem?_eq_some_iff.1 hj).1
    have h1 := List.all_eq_true.1 hok j (List.mem_range.2 hlt)
    simp only [hj, Bool.and_eq_true] at h1
    obtain ⟨⟨h2, h3⟩, h4⟩ := h1
    refine ⟨h2, fun e he hb => ?_, fun i hi => ?_⟩
    · have := Array.all_eq_true'.1 h3 e he
      simpa [hb] using this
    · have := List.all_eq_true.1 h4 i (List.mem_range.2 hi)
      simpa using this
  have hsel : ∀ (j : Nat) (o : Oper) cs b, ops[j]? = some o → o.op ≠ .select cs b := by
    intro j o cs b hj he
    have := (hok' j o hj).1
    simp [noSel, he] at this
  intro fuel
  induction fuel with
  | zero =>
    intro L1 L2 listed a w hC hL hm hs' h1 h2 hD hsz h
    have hnil : L1 = [] := List.eq_nil_of_length_eq_zero (by simp at hL; simp [hL])
    subst hnil
    exact any_of_lex hok _ L2 listed a w h.1 (by simpa using hL) (by simpa using hm) (by simpa using hs') hD hsz h.2
  | succ fuel ih =>
    intro L1 L2 listed a w hC hL hm hs' h1 h2 hD hsz h
    cases L1 with
    | nil => exact any_of_lex hok _ L2 listed a w h.1 (by simpa using hL) (by simpa using hm) (by simpa using hs') hD hsz h.2
    | cons i0 L0 =>
      have hi0 : i0 < n := h1 i0 (by simp)
      obtain ⟨hi1, hi2⟩ := (hm i0).1 (by simp)
      refine ⟨fun hr => ?_, fun j hj => ?_⟩
      · exfalso
        have ho : ops[i0]? = some ops[i0] := Array.getElem?_eq_getElem hi1
        have hri : i0 ∈ Region.ready .any ops listed := by
          refine mem_ready.2 ⟨hi2, _, ho, fun e he hb => ?_⟩
          have hlt := (hok' i0 _ ho).2.1 e he hb
          by_cases hle : listed.getD e.on true = false
          · have hmem : e.on ∈ i0 :: (L0 ++ L2) := (hm e.on).2 ⟨by omega, hle⟩
            rcases List.mem_cons.1 hmem with h | h
            · omega
            · have := (List.pairwise_cons.1 hs').1 e.on h
              omega
          · have hb2 : e.on < listed.size := by omega
            simp only [Array.getD_eq_getD_getElem?, Array.getElem?_eq_getElem hb2, Option.getD_some] at hle ⊢
            simpa using hle
        rw [hr] at hri
        cases hri
      · obtain ⟨hj1, oj, hoj, hjr⟩ := mem_ready.1 hj
        have hjlt : j < ops.size := (Array.getElem?_eq_some_iff.1 hoj).1
        have hmem : j ∈ i0 :: L0 := by
          rcases List.mem_append.1 ((hm j).2 ⟨hjlt, hj1⟩) with h | h
          · exact h
          · exfalso
            have hl := masks_sound hD (j + 1) j oj (by omega) hoj hjr i0 (htl j (h2 j h) hjlt i0 hi0)
            have hb2 : i0 < listed.size := by omega
            simp only [Array.getD_eq_getD_getElem?, Array.getElem?_eq_getElem hb2, Option.getD_some] at hl hi2
            rw [hl] at hi2
            cases hi2
        obtain ⟨pre, post, hsplit⟩ := List.append_of_mem hmem
        rw [hsplit] at hs' hm hL h h1
        clear hsplit hmem
        have hs1 := (List.pairwise_append.1 hs').1
        have hpre : ∀ i ∈ pre, i < j := by
          intro i hi
          exact (List.pairwise_append.1 hs1).2.2 i hi j (by simp)
        have hpost : ∀ i ∈ post, j < i := fun i hi => (List.pairwise_cons.1 (List.pairwise_append.1 hs1).2.1).1 i hi
        have hpair : ∀ i ∈ pre, pair ops hs i j = true := by
          intro i hi
          rcases (hok' j oj hoj).2.2 i (hpre i hi) with h1 | h1
          · exfalso
            have hl := masks_sound hD (j + 1) j oj (by omega) hoj hjr i h1
            obtain ⟨hi1, hi2⟩ := (hm i).1 (by simp [hi])
            have hb2 : i < listed.size := by omega
            simp only [Array.getD_eq_getD_getElem?, Array.getElem?_eq_getElem hb2, Option.getD_some] at hl hi2
            rw [hl] at hi2
            cases hi2
          · exact h1
        have hp1 := pull hoj hsel post pre a w hpair hC h
        have hset : ∀ i, (listed.setIfInBounds j true).getD i true = false ↔ (listed.getD i true = false ∧ i ≠ j) := by
          intro i
          by_cases hij : i = j
          · subst hij
            simp [Array.getD_eq_getD_getElem?, Array.getElem?_setIfInBounds]
            split <;> simp_all
          · simp [Array.getD_eq_getD_getElem?, Array.getElem?_setIfInBounds_ne (Ne.symm hij), hij]
        have hp2 : step P ops C hs j oj (wpAny P .any ops Q fuel (listed.setIfInBounds j true)) a w := by
          refine step_mono hC hp1 fun a' w' hC' _ hK => ih (pre ++ post) L2 _ a' w' hC' ?_ ?_ ?_ ?_ h2 ?_ (by simp [hsz]) hK
          · simp at hL ⊢; omega
          · intro i
            rw [hset]
            constructor
            · intro hi
              have hi' : i ∈ (pre ++ j :: post) ++ L2 := by
                simp only [List.mem_append, List.mem_cons] at hi ⊢
                rcases hi with (h | h) | h <;> simp [h]
              obtain ⟨q1, q2⟩ := (hm i).1 hi'
              refine ⟨q1, q2, ?_⟩
              simp only [List.mem_append] at hi
              rcases hi with (h | h) | h
              · have := hpre i h; omega
              · have := hpost i h; omega
              · have := h1 j (by simp)
                have := h2 i h
                omega
            · rintro ⟨q1, q2, q3⟩
              have := (hm i).2 ⟨q1, q2⟩
              simp only [List.mem_append, List.mem_cons] at this ⊢
              rcases this with (h | h | h) | h
              · simp [h]
              · exact absurd h q3
              · simp [h]
              · simp [h]
          · have hp := List.pairwise_append.1 hs'
            refine List.pairwise_append.2 ⟨?_, hp.2.1, fun x hx y hy => hp.2.2 x (by simp only [List.mem_append, List.mem_cons] at hx ⊢; rcases hx with h | h <;> simp [h]) y hy⟩
            have hq := List.pairwise_append.1 hs1
            refine List.pairwise_append.2 ⟨hq.1, (List.pairwise_cons.1 hq.2.1).2, fun x hx y hy => ?_⟩
            have := hpre x hx
            have := hpost y hy
            omega
          · intro i hi
            refine h1 i ?_
            simp only [List.mem_append, List.mem_cons] at hi ⊢
            rcases hi with h | h <;> simp [h]
          · intro j' o' ho' hl' e he hb
            by_cases hjj : j' = j
            · subst hjj
              rw [hoj] at ho'
              injection ho' with ho'
              subst ho'
              exact getD_set_true (hjr e he hb)
            · rw [getD_set_ne false (Ne.symm hjj)] at hl'
              exact getD_set_true (hD j' o' ho' hl' e he hb)
        unfold step at hp2
        unfold wpOp
        simp only [hoj]
        split
        · rename_i hw
          rw [if_pos hw] at hp2
          left
          rcases hp2 with ⟨_, v, h3, h4⟩ | ⟨_, v, h3, h4⟩ | ⟨_, h3⟩
          · unfold Oper.wp; rw [h3 w hC]; exact h4
          · unfold Oper.wp; rw [h3]; exact h4
          · exact Oper.wp_mono (fun _ _ hh => hh.2) (wp_noQ h3)
        · rename_i hw
          rw [if_neg hw] at hp2
          exact hp2
end

theorem lexN_of_lexP {P : Program} {ops : Array Oper} {C : World → Prop} {hs : List Nat} {Q : Act → World → Prop} : ∀ (l : List Oper) (k : Nat), (∀ m, m < l.length → l[m]? = ops[k + m]?) → lex P ops C hs Q k l = lexN P ops C hs Q (List.range' k l.length) := by
  intro l
  induction l with
  | nil => intro k _; funext a w; simp [lex, lexN]
  | cons o r ih =>
    intro k h
    have h0 : ops[k]? = some o := by simpa using (h 0 (by simp)).symm
    have ih' := ih (k + 1) (fun m hm => by have := h (m + 1) (by simp; omega); simpa [Nat.add_assoc, Nat.add_comm 1 m] using this)
    funext a w
    simp only [lex, List.length_cons, List.range'_succ, lexN, h0, ih']

/-- THE REGION with a tail: l1 ahead, l2 behind -/
theorem regionT {P : Program} {C C' : World → Prop} {hs : List Nat} {id : Nat} {l : List Oper} {Q : Exit → Act → World → Prop} {a : Act} {w : World} (n : Nat) (l1 l2 : List Oper) (hl : l = l1 ++ l2) (hn : l1.length = n) (hm : P.follows .mixedOrders = true) (hok : ok hs l.toArray = true) (ht : tailOk n l.toArray = true) (hC : C w.drew)
    (h : lex P l.toArray C hs (fun a w => C' w ∧ lex P l.toArray C' hs (fun a w => Q .normal a w) n l2 a w) 0 l1 a w.drew) : (Code.region id l.toArray true).wp P Q a w := by
  subst hl
  refine wp_region_any hm ?_
  refine any_of_lexT (C := C) (C' := C') (hs := hs) (n := n) hok ht _ (List.range' 0 n) (List.range' n l2.length) _ a _ hC (by simp [hn]) ?_ ?_ ?_ ?_ ?_ (by simp) ?_
  · intro i
    simp [Array.getD_eq_getD_getElem?, Array.getElem?_replicate, hn]
    constructor
    · intro hi
      have : i < n + l2.length := by omega
      exact ⟨this, by simp [this]⟩
    · rintro ⟨hi, _⟩
      omega
  · have h1 := List.pairwise_lt_range (n := n + l2.length)
    rw [List.range_eq_range', List.range'_append_1.symm] at h1
    simpa using h1
  · intro i hi; simp at hi; exact hi
  · intro i hi; simp at hi; exact hi.1
  · intro j o ho hl
    simp [Array.getD_eq_getD_getElem?, Array.getElem?_replicate] at hl
    split at hl <;> simp at hl
  · have e2 := lexN_of_lex (P := P) (ops := (l1 ++ l2).toArray) (C := C') (hs := hs) (Q := fun a w => Q .normal a w) l2 n (fun m => by rw [List.getElem?_toArray, List.getElem?_append_right (by omega)]; congr 1; omega)
    rw [e2] at h
    have e1 := lexN_of_lexP (P := P) (ops := (l1 ++ l2).toArray) (C := C) (hs := hs) (Q := fun a w => C' w ∧ lexN P (l1 ++ l2).toArray C' hs (fun a w => Q .normal a w) (List.range' n l2.length) a w) l1 0 (fun m hm => by rw [Nat.zero_add, List.getElem?_toArray, List.getElem?_append_left hm])
    rw [e1, hn] at h
    exact h
section
variable {P : Program} {ops : Array Oper} {C : World → Prop} {hs : List Nat} {Q : Act → World → Prop} {k : Nat} {o : Oper} {r : List Oper} {a : Act} {w : World}
/-- append of a row of one-cell elements, whatever its address -/
theorem lex_append_row (hk : kind hs k o = 2) (hgd : o.guard = none) (s x : Operand) (t : TypeId)
    (ho : o.op = .call { callee := .builtin .append, args := #[s, x], argTypes := #[t, t] })
    {α : Type} {f : α → Value} (hf : ∀ a, (f a).oneCell' = true) (base : Nat) (e : TypeId) (i : TypeInfo) (z : Value) (bytes : Nat) (ht : P.underlying t = some (.slice e)) (hi : P.info? e = some i) (hz : i.zero = some z)
    (hsize : i.size = 1) (hby : i.bytes = bytes) (hzs : z.cells.size = 1)
    (v : Value) (n : Nat) (xs : List Value) (hsv : a.eval s = v) (hown : w.ownsRow base e 1 v n xs)
    (A : Option Addr) (m c : Nat) (ys : List α) (D : Nat) (hx : a.eval x = .slice A m c) (hy : Row1 f w D A m ys)
    (h63 : n + m ≤ maxLen) (hbytes : (n + m) * bytes ≤ 140737488355328) (hbase : base ≤ w.heap.size)
    (h : ∀ v' w', w'.ownsRow base e 1 v' (n + m) (xs ++ ys.map f) → w.grownBy w' v.ownBlock → (v'.ownBlock = v.ownBlock ∨ v'.ownBlock = some w.heap.size) → C w' ∧ lex P ops C hs Q (k + 1) r (a.put o.dst v') w') :
    lex P ops C hs Q k (o :: r) a w := by
  refine lex_eff hk (w0 hgd) fun K hK => ?_
  obtain ⟨v', w', hr, h2, h3, h5⟩ := run_append_row (P := P) hf w base t o.type e i z bytes ht hi hz hsize hby hzs v n xs hown A m c ys D hy h63 hbytes hbase
  unfold Oper.wp execOp
  simp only [ho, resolve, invoke, builtin, Sem.run_bind, Sem.run_pure, Result.andThen_ok, List.map_toArray, List.map_cons, List.map_nil, hsv, hx, hr]
  exact hK _ _ (h v' w' h2 h3 h5).1 (h v' w' h2 h3 h5).2
end
end Lx
end Go.Proofs.Ytpdhelhngdeoeaa
