/- A region that draws its order, by an invariant over what has come up. Nothing of the program is named here. -/
import Derived.WalkKit
import Derived.Deep.Draws
namespace Go.Proofs.Ytpdhelhngdeoeaa
open Go.RowKit

namespace Ay
variable {P : Program} {ops : Array Oper} {Q : Exit → Act → World → Prop}

theorem count_set {l : List Bool} {j : Nat} (h : l[j]? = some false) : (l.set j true).count false + 1 = l.count false := by
  induction l generalizing j with
  | nil => simp at h
  | cons x l ih =>
    cases j with
    | zero =>
      simp at h
      subst h
      simp
    | succ j =>
      simp at h
      have := ih h
      rw [List.set_cons_succ, List.count_cons, List.count_cons]
      omega

theorem any_inv (Inv : Array Bool → Act → World → Prop)
    (hend : ∀ (listed : Array Bool) a w, listed.size = ops.size → Region.ready .any ops listed = [] → Inv listed a w → Q .normal a w)
    (hstep : ∀ (listed : Array Bool) a w j o, ops[j]? = some o → listed.getD j true = false → (∀ e ∈ o.after, Region.binds .any e = true → listed.getD e.on false = true) → listed.size = ops.size → Inv listed a w →
      Region.wanted o (yielded ops a.tmps) = true ∧ o.wp P a w (fun a' w' => Inv (listed.setIfInBounds j true) a' w') Q) :
    ∀ (fuel : Nat) (listed : Array Bool) (a : Act) (w : World), listed.size = ops.size → listed.toList.count false = fuel → Inv listed a w → wpAny P .any ops Q fuel listed a w := by
  intro fuel
  induction fuel with
  | zero =>
    intro listed a w hs hc hI
    have hr : Region.ready .any ops listed = [] := by
      cases hr : Region.ready .any ops listed with
      | nil => rfl
      | cons x xs =>
        have hx : x ∈ Region.ready .any ops listed := by rw [hr]; simp
        obtain ⟨h1, o, ho, _⟩ := mem_ready.1 hx
        have hlt : x < listed.size := by rw [hs]; exact (Array.getElem?_eq_some_iff.1 ho).1
        have h2 : listed.toList[x]? = some false := by
          rw [Array.getElem?_toList, Array.getElem?_eq_getElem hlt]
          simp only [Array.getD_eq_getD_getElem?, Array.getElem?_eq_getElem hlt, Option.getD_some] at h1
          rw [h1]
        have := List.count_pos_iff.2 (List.mem_of_getElem? h2)
        omega
    exact ⟨hr, hend _ _ _ hs hr hI⟩
  | succ fuel ih =>
    intro listed a w hs hc hI
    refine ⟨fun hr => hend _ _ _ hs hr hI, fun j hj => ?_⟩
    obtain ⟨h1, o, ho, h2⟩ := mem_ready.1 hj
    obtain ⟨hw, h3⟩ := hstep listed a w j o ho h1 h2 hs hI
    have hlt : j < listed.size := by rw [hs]; exact (Array.getElem?_eq_some_iff.1 ho).1
    unfold wpOp
    simp only [ho, hw, if_true]
    left
    refine Oper.wp_mono (fun a' w' h => ih _ a' w' (by simp [hs]) ?_ h) h3
    have h4 : listed.toList[j]? = some false := by
      rw [Array.getElem?_toList, Array.getElem?_eq_getElem hlt]
      simp only [Array.getD_eq_getD_getElem?, Array.getElem?_eq_getElem hlt, Option.getD_some] at h1
      rw [h1]
    have := count_set h4
    rw [Array.toList_setIfInBounds]
    omega

/-- where nothing is left, all has come up -/
theorem all_listed {listed : Array Bool} (hs : listed.size = ops.size) (hd : ops.toList.zipIdx.all (fun p => p.1.after.all fun e => decide (e.on < p.2)) = true) (hr : Region.ready .any ops listed = []) : ∀ j, j < ops.size → listed.getD j false = true := by
  intro j
  induction j using Nat.strongRecOn with
  | ind j ih =>
    intro hj
    have hjl : j < listed.size := by omega
    cases hl : listed.getD j false with
    | true => rfl
    | false =>
      exfalso
      have ho : ops[j]? = some ops[j] := Array.getElem?_eq_getElem hj
      have hmem : j ∈ Region.ready .any ops listed := by
        refine mem_ready.2 ⟨?_, _, ho, fun e he _ => ?_⟩
        · simp only [Array.getD_eq_getD_getElem?, Array.getElem?_eq_getElem hjl, Option.getD_some] at hl ⊢
          exact hl
        · have h1 := List.all_eq_true.1 hd (ops[j], j) (by
            rw [List.mem_iff_getElem?]
            exact ⟨j, by simp [hj]⟩)
          have h2 := Array.all_eq_true'.1 h1 e he
          have h3 : e.on < j := by simpa using h2
          exact ih e.on h3 (by omega)
      rw [hr] at hmem
      cases hmem

theorem region {id : Nat} {a : Act} {w : World} (hm : P.follows .mixedOrders = true) (Inv : Array Bool → Act → World → Prop) (h0 : Inv (Array.replicate ops.size false) a w.drew)
    (hend : ∀ (listed : Array Bool) a w, listed.size = ops.size → Region.ready .any ops listed = [] → Inv listed a w → Q .normal a w)
    (hstep : ∀ (listed : Array Bool) a w j o, ops[j]? = some o → listed.getD j true = false → (∀ e ∈ o.after, Region.binds .any e = true → listed.getD e.on false = true) → listed.size = ops.size → Inv listed a w →
      Region.wanted o (yielded ops a.tmps) = true ∧ o.wp P a w (fun a' w' => Inv (listed.setIfInBounds j true) a' w') Q) :
    (Code.region id ops true).wp P Q a w := by
  refine wp_region_any hm ?_
  exact any_inv Inv hend hstep _ _ a _ (by simp) (by simp) h0
end Ay
end Go.Proofs.Ytpdhelhngdeoeaa
