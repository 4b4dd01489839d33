/- Plain laws for AssignValue and AssignHolds. No walk. -/
import Derived.Test.YteckijkmcafpaaaIs39
import Derived.Test.YteckijkmcafpaaaChk39
import Derived.Test.YteckijkmcafpaaaSolve39
import Derived.Test.YteckijkmcafpaaaStart39
namespace Go.Proofs.Yteckijkmcafpaaa
open Go.RowKit

theorem slotsOf_cons (c : Claim) (l : List Claim) (s : Int) (f : List Int) : slotsOf (c :: l) (s :: f) = ⟨c.win, s, c.cnt⟩ :: slotsOf l f := rfl
theorem is_of_rs {b : Int} {B : Nat} (hb : b = B) : ∀ (l : List Claim) (u : List Bool) (f : List Int), u.length = B → (∀ c ∈ l, 1 ≤ c.cnt ∧ c.cnt ≤ b) → f ∈ rs (csOf l) u → isGo b l (slotsOf l f) u = true := by
  intro l
  induction l with
  | nil => intro u f _ _ _; rw [isGo]; simp
  | cons c r ih =>
    intro u f hu hc hf
    have hcc := hc c (by simp)
    have e : csOf (c :: r) = c.cnt.toNat :: csOf r := rfl
    rw [e, rs, List.mem_flatMap] at hf
    obtain ⟨s, hs, hx⟩ := hf
    have hs' := List.mem_range.1 hs
    split at hx
    · rename_i hfr
      obtain ⟨y, hy, rfl⟩ := List.mem_map.1 hx
      rw [slotsOf_cons, isGo, if_neg (by unfold badS; dsimp only; omega)]
      dsimp only
      rw [Int.toNat_natCast, if_pos hfr]
      exact ih _ y (by rw [markU_len]; exact hu) (fun z hz => hc z (by simp [hz])) hy
    · cases hx
theorem rs_of_is {b : Int} {B : Nat} (hb : b = B) : ∀ (l : List Claim) (s : List Slot) (u : List Bool), u.length = B → (∀ c ∈ l, 1 ≤ c.cnt ∧ c.cnt ≤ b) → s.length = l.length → isGo b l s u = true → s.map Slot.start ∈ rs (csOf l) u ∧ s = slotsOf l (s.map Slot.start) := by
  intro l
  induction l with
  | nil => intro s u _ _ hl _; cases s with | nil => exact ⟨by simp [csOf, rs], rfl⟩ | cons x s => simp at hl
  | cons c r ih =>
    intro s u hu hc hl h
    cases s with
    | nil => simp at hl
    | cons x s =>
      have hcc := hc c (by simp)
      rw [isGo] at h
      split at h
      · cases h
      · rename_i hb'
        unfold badS at hb'
        split at h
        · rename_i hfr
          have hw : x.win = c.win := Classical.byContradiction fun hh => hb' (.inl hh)
          have hcn : x.cnt = c.cnt := Classical.byContradiction fun hh => hb' (.inr (.inl hh))
          obtain ⟨k, hk⟩ := Int.eq_ofNat_of_zero_le (show 0 ≤ x.start by omega)
          obtain ⟨h1, h2⟩ := ih s _ (by rw [markU_len]; exact hu) (fun z hz => hc z (by simp [hz])) (by simpa using hl) h
          have e : csOf (c :: r) = c.cnt.toNat :: csOf r := rfl
          refine ⟨?_, ?_⟩
          · rw [e, rs, List.map_cons, List.mem_flatMap]
            refine ⟨k, List.mem_range.2 (by omega), ?_⟩
            rw [hk, hcn, Int.toNat_natCast] at hfr h1
            rw [if_pos hfr]
            exact List.mem_map.2 ⟨_, h1, by rw [hk]⟩
          · rw [List.map_cons, slotsOf_cons, ← h2, ← hw, ← hcn]
        · cases h

/-- the value of slots for some winners -/
def worthS (ws : List Wish) (wn : List Int) : List Slot → Int
  | [] => 0
  | x :: r => worthS ws wn r + fuOf ws wn x.win x.start.toNat
theorem worthS_eq (ws : List Wish) (wn : List Int) : ∀ (l : List Claim) (f : List Int), f.length = l.length → worthS ws wn (slotsOf l f) = worthL (psOf l ws wn) f := by
  intro l
  induction l with
  | nil => intro f hf; cases f with | nil => rfl | cons a f => simp at hf
  | cons c r ih =>
    intro f hf
    cases f with
    | nil => simp at hf
    | cons a f =>
      rw [slotsOf_cons, worthS, ih f (by simpa using hf)]
      rfl
def valueF (b : Int) (l : List Claim) (ws : List Wish) (s : List Slot) (wn : List Int) : Int × Int :=
  if checkedF b l ws wn = 0 then (if isF b l s = true then (worthS ws wn s, 0) else (0, 10)) else (0, checkedF b l ws wn)

theorem among_all {b : Int} {l : List Claim} (hv : validF b l = true) : amongF l (l.map Claim.win) = 0 := by
  have hinc : ∀ l : List Claim, l.Pairwise (fun a b => a.win < b.win) → incF (l.map Claim.win) = true := by
    intro l
    induction l with
    | nil => intro _; rfl
    | cons c r ih =>
      intro h
      cases r with
      | nil => rfl
      | cons d r =>
        rw [List.pairwise_cons] at h
        have := h.1 d (by simp)
        rw [List.map_cons, List.map_cons, incF, if_neg (by omega)]
        exact ih h.2
  have hf : ∀ (m : List Claim), (∀ c ∈ m, c ∈ l) → foundF l (m.map Claim.win) = true := by
    intro m
    induction m with
    | nil => intro _; rfl
    | cons c r ih =>
      intro h
      obtain ⟨i, hi⟩ := List.mem_iff_getElem?.1 (h c (by simp))
      rw [List.map_cons, foundF, if_neg (by rw [findC_own hv hi]; omega)]
      exact ih (fun z hz => h z (by simp [hz]))
  have hp : l.Pairwise (fun a b => a.win < b.win) := by
    have hv' := hv
    unfold validF at hv'
    split at hv'
    · cases hv'
    · exact (valid_inc l _ _ hv').1
  unfold amongF
  rw [if_pos (hinc l hp), if_pos (hf l (fun _ h => h))]

theorem has_own {l : List Claim} {c : Claim} (h : c ∈ l) : hasF (l.map Claim.win) c.win = true := by
  rw [hasF, List.any_eq_true]; exact ⟨c.win, List.mem_map.2 ⟨c, h, rfl⟩, by simp⟩

/-- fewer winners: not a greater value -/
theorem worthL_le {b : Int} {l : List Claim} {ws : List Wish} (h : vwF b l ws = true) (wn : List Int) (x : List Int) : worthL (psOf l ws wn) x ≤ worthL (psOf l ws (l.map Claim.win)) x := by
  have ho := okV_ps h (l.map Claim.win)
  have key : ∀ (m : List Claim) (x : List Int), (∀ c ∈ m, c ∈ l) → worthL (m.map fun c => (c.cnt.toNat, fuOf ws wn c.win)) x ≤ worthL (m.map fun c => (c.cnt.toNat, fuOf ws (l.map Claim.win) c.win)) x := by
    intro m
    induction m with
    | nil => intro x _; cases x <;> exact Int.le_refl _
    | cons c r ih =>
      intro x hm
      cases x with
      | nil => exact Int.le_refl _
      | cons a x =>
        rw [List.map_cons, List.map_cons, worthL, worthL]
        have h1 := ih x (fun z hz => hm z (by simp [hz]))
        have h2 : fuOf ws wn c.win a.toNat ≤ fuOf ws (l.map Claim.win) c.win a.toNat := by
          have h3 : 0 ≤ fuOf ws (l.map Claim.win) c.win a.toNat := (ho (c.cnt.toNat, fuOf ws (l.map Claim.win) c.win) (List.mem_map.2 ⟨c, hm c (by simp), rfl⟩) a.toNat).1
          unfold fuOf at h3 ⊢
          rw [if_pos (has_own (hm c (by simp)))] at h3 ⊢
          split
          · exact Int.le_refl _
          · exact h3
        dsimp only
        omega
  exact key l x (fun _ h => h)

/-- all that AssignHolds says of valid wishes -/
theorem holds_plain {b : Int} {l : List Claim} {ws : List Wish} (h : vwF b l ws = true) :
    ∃ v f, solveF b l ws = (slotsOf l f, v, 0) ∧ f.length = l.length ∧ isF b l (slotsOf l f) = true ∧ valueF b l ws (slotsOf l f) (l.map Claim.win) = (v, 0) ∧ bestF b l ws (l.map Claim.win) = (v, 0) ∧
      (∀ wn, (checkedF b l ws wn = 0 → ∃ so ow, bestF b l ws wn = (so, 0) ∧ valueF b l ws (slotsOf l f) wn = (ow, 0) ∧ ow ≤ so ∧ so ≤ v) ∧ (checkedF b l ws wn ≠ 0 → bestF b l ws wn = (0, checkedF b l ws wn) ∧ valueF b l ws (slotsOf l f) wn = (0, checkedF b l ws wn))) ∧
      (∀ s, isF b l s = true → ∃ z, valueF b l ws s (l.map Claim.win) = (z, 0) ∧ z ≤ v ∧ s.length = l.length ∧ ∀ (i : Nat) (x : Slot), s[i]? = some x → ∃ st, startsF b l x.win = (st, 0) ∧ hasF st x.start = true) := by
  obtain ⟨hv, hw⟩ := vwF_yes h
  have hva := validF_all hv
  obtain ⟨B, rfl⟩ := Int.eq_ofNat_of_zero_le (show 0 ≤ b by omega)
  obtain ⟨v, f, hsr, hf1, hf2, hf3, _⟩ := first_best h rfl (l.map Claim.win)
  have hcb : ∀ c ∈ l, 1 ≤ c.cnt ∧ c.cnt ≤ (B : Int) := fun c hc => ⟨(hva.2.2.2 c hc).2.2.1, (hva.2.2.2 c hc).2.2.2⟩
  have hfl : f.length = l.length := by
    have := ((mem_rs _ (csOf_pos hv) _ f).1 hf1).1
    simpa [csOf] using this
  have hsl : (slotsOf l f).length = l.length := by unfold slotsOf; rw [List.length_zipWith, hfl, Nat.min_self]
  have his : isF B l (slotsOf l f) = true := by
    unfold isF
    rw [if_pos hsl, Int.toNat_natCast]
    exact is_of_rs rfl l _ f (by simp) hcb hf1
  have hck : checkedF B l ws (l.map Claim.win) = 0 := by unfold checkedF; rw [if_pos h, among_all hv]
  have hbest : bestF B l ws (l.map Claim.win) = (v, 0) := by unfold bestF; rw [if_pos hck, Int.toNat_natCast, hsr]
  refine ⟨v, f, by unfold solveF; rw [if_pos h, Int.toNat_natCast, hsr], hfl, his, ?_, hbest, fun wn => ⟨fun hc0 => ?_, fun hc0 => ?_⟩, fun s hs => ?_⟩
  · unfold valueF
    rw [if_pos hck, if_pos his, worthS_eq _ _ l f hfl, hf2]
  · obtain ⟨so, g, hsr2, hg1, hg2, hg3, _⟩ := first_best h rfl wn
    refine ⟨so, worthL (psOf l ws wn) f, by unfold bestF; rw [if_pos hc0, Int.toNat_natCast, hsr2], by unfold valueF; rw [if_pos hc0, if_pos his, worthS_eq _ _ l f hfl], hg3 f hf1, ?_⟩
    have h1 := worthL_le h wn g
    have h2 := hf3 g hg1
    omega
  · exact ⟨by unfold bestF; rw [if_neg hc0], by unfold valueF; rw [if_neg hc0]⟩
  · have hs' := hs
    unfold isF at hs'
    split at hs'
    · rename_i hlen
      rw [Int.toNat_natCast] at hs'
      obtain ⟨r1, r2⟩ := rs_of_is rfl l s (List.replicate B false) (by simp) hcb hlen hs'
      refine ⟨worthL (psOf l ws (l.map Claim.win)) (s.map Slot.start), ?_, hf3 _ r1, hlen, fun i x hx => ?_⟩
      · unfold valueF
        rw [if_pos hck, if_pos hs]
        have : worthS ws (l.map Claim.win) s = worthL (psOf l ws (l.map Claim.win)) (s.map Slot.start) := by
          have e := worthS_eq ws (l.map Claim.win) l (s.map Slot.start) (by simpa using hlen)
          rw [← r2] at e
          exact e
        rw [this]
      · have hin : i < l.length := by rw [← hlen]; exact (List.getElem?_eq_some_iff.1 hx).1
        obtain ⟨c, hc⟩ : ∃ c, l[i]? = some c := ⟨_, List.getElem?_eq_getElem hin⟩
        have hxs : (s.map Slot.start)[i]? = some x.start := by rw [List.getElem?_map, hx]; rfl
        have hxe : x = ⟨c.win, x.start, c.cnt⟩ := by
          have : (slotsOf l (s.map Slot.start))[i]? = some x := by rw [← r2]; exact hx
          unfold slotsOf at this
          rw [List.getElem?_zipWith, hc, hxs] at this
          injection this with this
          exact this.symm
        have hxw : x.win = c.win := by rw [hxe]
        have hcc := hcb c (List.mem_of_getElem? hc)
        obtain ⟨q, hq⟩ := Int.eq_ofNat_of_zero_le (show 0 ≤ c.cnt by omega)
        have hfi := findC_own hv hc
        have hca : cntAt l (findC l c.win) = q := by unfold cntAt; rw [hfi, Int.toNat_natCast, hc]; exact hq
        have hnx : nth (s.map Slot.start) i = x.start := by unfold nth; exact getD_at hxs
        have hcs : (csOf l)[i]? = some q := by unfold csOf; rw [List.getElem?_map, hc, Option.map_some, hq]; rfl
        have hg := ((mem_rs _ (csOf_pos hv) _ _).1 r1).2.1 i q hcs
        rw [hnx, List.length_replicate] at hg
        obtain ⟨k, hk⟩ := Int.eq_ofNat_of_zero_le hg.1
        refine ⟨startsL l B i q (B + 1 - q), ?_, ?_⟩
        · unfold startsF
          rw [if_pos hv, hxw, if_neg (by omega), hca, hfi]; rfl
        · have ht : startT l B i q k = true := by
            have hb := (beside (csOf_pos hv) (B := B) hcs (s := k) (by omega)).1 ⟨_, r1, by rw [hnx, hk]⟩
            unfold startT
            have F := sol_sr (psOf (l.eraseIdx i) [] []) (markU (List.replicate B false) k q)
            rw [psOf_fst, csOf_erase] at F
            rcases F with ⟨h1, _⟩ | ⟨h1, _⟩
            · exact absurd h1 hb
            · exact h1
          rw [hasF, List.any_eq_true]
          refine ⟨(k : Int), ?_, by rw [hk]; simp⟩
          unfold startsL
          exact List.mem_map.2 ⟨k, List.mem_filter.2 ⟨List.mem_range.2 (by omega), ht⟩, rfl⟩
    · cases hs'
end Go.Proofs.Yteckijkmcafpaaa
