/- The plain law: product.Valid answers as the reference. -/
import Derived.Test.YtpgomblalmnonaaDoorRef33
namespace Go.Proofs.YtpgomblalmnonaaDoor

def SupInv (prev : Option Prod) (s : List Int) : Prop :=
  s.length = 64 ∧ match prev with
    | none => ∀ a : Nat, s.getD a 0 = 0
    | some q => (1 ≤ q.cat ∧ q.cat ≤ 2 ∧ 0 ≤ q.area ∧ q.area ≤ 63) ∧ (∀ a : Nat, q.area < a → s.getD a 0 = 0) ∧ (q.cat = 1 → s.getD q.area.toNat 0 = q.sup)

theorem cmpP_neg (q p : Prod) : (0 ≤ cmpP q p) ↔ ¬ (q.area < p.area ∨ (q.area = p.area ∧ q.cat < p.cat)) := by
  unfold cmpP orF cmpF
  split <;> split <;> (try split) <;> (try split) <;> omega

theorem okBB_iff (p : Prod) : okBB p = true ↔ okB p := by
  unfold okBB okB withinB
  simp only [Bool.and_eq_true, decide_eq_true_eq]
  omega

theorem getD_set (s : List Int) (i : Nat) (x : Int) (h : i < s.length) (a : Nat) : (s.set i x).getD a 0 = if a = i then x else s.getD a 0 := by
  rw [List.getD_eq_getElem?_getD, List.getElem?_set]
  split
  · rename_i e; subst e; rw [if_pos rfl]; rfl
  · rename_i e; rw [if_neg (Ne.symm e), List.getD_eq_getElem?_getD]

theorem prodGo_eq (l : List Prod) : ∀ (prev : Option Prod) (s : List Int), SupInv prev s → prodGo l prev s = refGo l prev := by
  induction l with
  | nil => intro prev s _; rfl
  | cons p l ih =>
    intro prev s hI
    unfold prodGo refGo
    by_cases hb : badP p
    · rw [if_pos hb]
      by_cases ha : okAB p = false
      · rw [if_pos ha]
      · rw [if_neg ha]
        have ha' := (okAB_iff p).1 (by simpa using ha)
        rw [if_pos]
        rw [Bool.and_eq_false_iff]
        right
        rw [← Bool.not_eq_true, okBB_iff]
        unfold okA at ha'; unfold badP at hb; unfold okB
        omega
    · rw [if_neg hb]
      have ha : okAB p = true := (okAB_iff p).2 (by unfold okA; unfold badP at hb; omega)
      have hB : okBB p = true := (okBB_iff p).2 (by unfold okB; unfold badP at hb; omega)
      rw [if_neg (by rw [ha]; simp), hB, Bool.and_true]
      obtain ⟨hl, hI⟩ := hI
      unfold badP at hb
      have hset : ∀ a : Nat, (s.set p.area.toNat (s.getD p.area.toNat 0 + p.sup)).getD a 0 = if a = p.area.toNat then s.getD p.area.toNat 0 + p.sup else s.getD a 0 := getD_set s _ _ (by omega)
      cases prev with
      | none =>
        dsimp only at hI ⊢
        have h0 := hI p.area.toNat
        rw [if_neg (by rw [decide_eq_true (by omega : s.getD p.area.toNat 0 + p.sup ≤ 12)]; simp)]
        refine ih _ _ ⟨by simp [hl], by omega, fun a ha => ?_, fun _ => ?_⟩
        · rw [hset, if_neg (by omega)]; exact hI a
        · rw [hset, if_pos rfl, h0]; omega
      | some q =>
        dsimp only at hI ⊢
        obtain ⟨hq, hz, h1⟩ := hI
        by_cases hbq : badQ q p
        · rw [if_pos hbq]
          unfold badQ at hbq
          split
          · rfl
          · rename_i hs
            rw [if_pos]
            rw [cmpP_neg]
            intro hc
            simp only [decide_eq_false_iff_not, Decidable.not_not] at hs
            rcases hbq with h | ⟨h, h2⟩
            · omega
            · have hqc : q.cat = 1 := by omega
              have := h1 hqc
              rw [← h] at this
              omega
        · rw [if_neg hbq]
          unfold badQ at hbq
          have hc : ¬ 0 ≤ cmpP q p := by
            rw [cmpP_neg]; omega
          have hsum : s.getD p.area.toNat 0 + p.sup ≤ 12 := by
            by_cases he : p.area = q.area
            · have hqc : q.cat = 1 := by omega
              have := h1 hqc
              rw [he]
              omega
            · have := hz p.area.toNat (by omega)
              omega
          rw [if_neg (by rw [decide_eq_true hsum]; simp), if_neg hc]
          refine ih _ _ ⟨by simp [hl], by omega, fun a ha => ?_, fun hp1 => ?_⟩
          · rw [hset, if_neg (by omega)]; exact hz a (by omega)
          · rw [hset, if_pos rfl, hz p.area.toNat (by omega)]; omega

theorem prodValid_eq (l : List Prod) : prodValid l = refValid l :=
  prodGo_eq l none _ ⟨by simp, fun a => by rw [List.getD_eq_getElem?_getD, List.getElem?_replicate]; split <;> rfl⟩

/-- what a valid product is like -/
theorem refGo_ok (l : List Prod) : ∀ prev, refGo l prev = true → ∀ p ∈ l, ¬ badP p := by
  induction l with
  | nil => intro _ _ p hp; cases hp
  | cons q l ih =>
    intro prev h p hp
    unfold refGo at h
    by_cases hb : badP q
    · rw [if_pos hb] at h; cases h
    · rw [if_neg hb] at h
      rcases List.mem_cons.1 hp with rfl | hp
      · exact hb
      · cases prev with
        | none => exact ih _ h p hp
        | some r =>
          dsimp only at h
          split at h
          · cases h
          · exact ih _ h p hp
end Go.Proofs.YtpgomblalmnonaaDoor
