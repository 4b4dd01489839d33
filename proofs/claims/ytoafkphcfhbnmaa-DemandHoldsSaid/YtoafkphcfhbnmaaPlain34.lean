/- Plain laws on demands: changed and changed back; carried. -/
import Derived.Test.YtoafkphcfhbnmaaChg
import Derived.Test.YtoafkphcfhbnmaaCarry
namespace Go.Proofs.Ytoafkphcfhbnmaa
open Go.RowKit

/-- a place as one number -/
def keyN (p : Prod) : Int := 4 * p.area + p.cat
theorem keyN_eq {p q : Prod} (hp : ¬ badP p) (hq : ¬ badP q) (h : keyN p = keyN q) : p.area = q.area ∧ p.cat = q.cat := by
  unfold badP at hp hq; unfold keyN at h; omega

theorem refGo_lt (l : List Prod) : ∀ prev, refGo l prev = true → (∀ q, prev = some q → ¬ badP q ∧ ∀ p ∈ l, keyN q < keyN p) ∨ (∃ q, prev = some q ∧ badP q) := by
  induction l with
  | nil =>
    intro prev _
    by_cases h : ∃ q, prev = some q ∧ badP q
    · exact .inr h
    · left; intro q hq; exact ⟨fun hb => h ⟨q, hq, hb⟩, fun p hp => by cases hp⟩
  | cons p l ih =>
    intro prev h
    unfold refGo at h
    by_cases hb : badP p
    · rw [if_pos hb] at h; cases h
    · rw [if_neg hb] at h
      cases prev with
      | none => left; intro q hq; cases hq
      | some q =>
        dsimp only at h
        by_cases hbq : badP q
        · exact .inr ⟨q, rfl, hbq⟩
        · split at h
          · cases h
          · rename_i hnq
            left
            intro r hr
            injection hr with hr
            subst hr
            refine ⟨hbq, fun x hx => ?_⟩
            have hqp : keyN q < keyN p := by unfold badQ at hnq; unfold badP at hb hbq; unfold keyN; omega
            rcases List.mem_cons.1 hx with rfl | hx
            · exact hqp
            · rcases ih (some p) h with h1 | ⟨z, hz, hzb⟩
              · have := (h1 p rfl).2 x hx; omega
              · injection hz with hz; subst hz; exact absurd hzb hb

theorem refGo_pair (l : List Prod) : ∀ prev, refGo l prev = true → l.Pairwise (fun p q => keyN p < keyN q) := by
  induction l with
  | nil => intro _ _; exact List.Pairwise.nil
  | cons p l ih =>
    intro prev h
    have hb : ¬ badP p := refGo_ok _ _ h p (by simp)
    have h' : refGo l (some p) = true := by
      unfold refGo at h
      rw [if_neg hb] at h
      cases prev with
      | none => exact h
      | some q => dsimp only at h; split at h; cases h; exact h
    refine List.Pairwise.cons (fun x hx => ?_) (ih _ h')
    rcases refGo_lt l (some p) h' with h1 | ⟨z, hz, hzb⟩
    · exact (h1 p rfl).2 x hx
    · injection hz with hz; subst hz; exact absurd hzb hb

theorem prodValid_pair {l : List Prod} (h : prodValid l = true) : l.Pairwise (fun p q => keyN p < keyN q) := by
  rw [prodValid_eq] at h; exact refGo_pair l none h

/-- the blocks at a place, of a list whose places are different -/
theorem heldZ_acc (zs : List (Prod × Int)) (y : Int × Int) : ∀ acc, (∀ z ∈ zs, y ≠ (z.1.area, z.1.cat)) → zs.foldl (fun acc z => if y = (z.1.area, z.1.cat) then some z.2 else acc) acc = acc := by
  induction zs with
  | nil => intro acc _; rfl
  | cons z zs ih =>
    intro acc h
    rw [List.foldl_cons, if_neg (h z (by simp))]
    exact ih acc fun x hx => h x (by simp [hx])

theorem heldZ_one (zs : List (Prod × Int)) (hp : zs.Pairwise (fun a b => (a.1.area, a.1.cat) ≠ (b.1.area, b.1.cat))) : ∀ z ∈ zs, heldZ zs (z.1.area, z.1.cat) = some z.2 := by
  unfold heldZ
  generalize (none : Option Int) = acc
  induction zs generalizing acc with
  | nil => intro z hz; cases hz
  | cons x zs ih =>
    obtain ⟨h1, h2⟩ := List.pairwise_cons.1 hp
    intro z hz
    rw [List.foldl_cons]
    rcases List.mem_cons.1 hz with rfl | hz
    · rw [if_pos rfl]
      exact heldZ_acc zs _ _ fun x hx => h1 x hx
    · exact ih h2 _ z hz

theorem heldZ_mem (zs : List (Prod × Int)) (y : Int × Int) : ∀ (acc : Option Int) (b : Int), zs.foldl (fun acc z => if y = (z.1.area, z.1.cat) then some z.2 else acc) acc = some b → acc = some b ∨ ∃ z ∈ zs, y = (z.1.area, z.1.cat) ∧ z.2 = b := by
  induction zs with
  | nil => intro acc b h; exact .inl h
  | cons x zs ih =>
    intro acc b h
    rw [List.foldl_cons] at h
    rcases ih _ b h with h1 | ⟨z, hz, h2⟩
    · split at h1
      · rename_i hy
        injection h1 with h1
        exact .inr ⟨x, by simp, hy, h1⟩
      · exact .inl h1
    · exact .inr ⟨z, by simp [hz], h2⟩

theorem zip_pair {l : List Prod} (hv : prodValid l = true) (bs : List Int) : (l.zip bs).Pairwise (fun a b => (a.1.area, a.1.cat) ≠ (b.1.area, b.1.cat)) := by
  have hp := prodValid_pair hv
  have key : ∀ (l : List Prod) (bs : List Int), l.Pairwise (fun p q => keyN p < keyN q) → (l.zip bs).Pairwise (fun a b => keyN a.1 < keyN b.1) := by
    intro l
    induction l with
    | nil => intro bs _; simp
    | cons p l ih =>
      intro bs h
      cases bs with
      | nil => simp
      | cons b bs =>
        obtain ⟨h1, h2⟩ := List.pairwise_cons.1 h
        rw [List.zip_cons_cons]
        exact List.Pairwise.cons (fun z hz => h1 z.1 (List.of_mem_zip (a := z.1) (b := z.2) hz).1) (ih bs h2)
  refine (key l bs hp).imp fun {a b} h e => ?_
  simp only [_root_.Prod.mk.injEq] at e
  unfold keyN at h
  omega

theorem carF_same {l : List Prod} {bs : List Int} (h : dValid l bs = true) : carF l l bs = (bs, 0) := by
  have h0 := h
  unfold dValid at h0
  rw [Bool.and_eq_true] at h0
  obtain ⟨hv, hf⟩ := h0
  obtain ⟨h5, h6⟩ := fitsF_spec l bs hf
  unfold carF
  rw [if_pos ⟨h, hv⟩]
  congr 1
  apply List.ext_getElem?
  intro i
  rw [List.getElem?_map]
  by_cases hi : i < l.length
  · have hp : l[i]? = some l[i] := List.getElem?_eq_getElem hi
    have hb : bs[i]? = some (bs[i]'(by omega)) := List.getElem?_eq_getElem (by omega)
    have h7 := h6 i _ _ hp hb
    have h8 := heldZ_one (l.zip bs) (zip_pair hv bs) _ (List.mem_of_getElem? (zip_at hp hb))
    dsimp only at h8
    rw [hp, hb, Option.map_some]
    unfold carN heldN
    rw [h8, Option.getD_some, if_neg (by omega)]
  · rw [List.getElem?_eq_none (by omega), List.getElem?_eq_none (by omega)]; rfl

theorem held_bd {l : List Prod} {bs : List Int} (h : dValid l bs = true) (p : Prod) : 0 ≤ heldN l bs p := by
  unfold dValid at h
  rw [Bool.and_eq_true] at h
  obtain ⟨h5, h6⟩ := fitsF_spec l bs h.2
  unfold heldN
  cases hh : heldZ (l.zip bs) (p.area, p.cat) with
  | none => simp
  | some b =>
    unfold heldZ at hh
    rcases heldZ_mem _ _ _ _ hh with h1 | ⟨z, hz, _, h2⟩
    · cases h1
    · obtain ⟨i, hi⟩ := List.getElem?_of_mem hz
      have := List.getElem?_zip_eq_some.1 hi
      have := h6 i _ _ this.1 this.2
      simp; omega

theorem fitsF_car {l : List Prod} {bs : List Int} (h : dValid l bs = true) : ∀ (r : List Prod), (∀ p ∈ r, ¬ badP p) → fitsF r (r.map (carN l bs)) = true := by
  intro r
  induction r with
  | nil => intro _; rfl
  | cons p r ih =>
    intro hr
    have h0 := held_bd h p
    have h1 := hr p (by simp)
    rw [List.map_cons, fitsF, if_neg]
    · exact ih fun q hq => hr q (by simp [hq])
    · unfold badP at h1; unfold carN; split <;> omega

/-! ### carrying does not raise the units -/
def aliOne (a : Prod) : List Prod → Bool
  | [] => true
  | b :: r => if a.area = b.area ∧ a.cat = b.cat ∧ a.units ≠ b.units then false else aliOne a r
def aliF (to : List Prod) : List Prod → Bool
  | [] => true
  | a :: r => if aliOne a to = false then false else aliF to r
theorem aliOne_mem {a : Prod} : ∀ {r : List Prod}, aliOne a r = true → ∀ b ∈ r, a.area = b.area → a.cat = b.cat → a.units = b.units := by
  intro r
  induction r with
  | nil => intro _ b hb; cases hb
  | cons x r ih =>
    intro h b hb h1 h2
    rw [aliOne] at h
    split at h
    · cases h
    · rename_i hn
      rcases List.mem_cons.1 hb with rfl | hb
      · apply Decidable.byContradiction; intro h3; exact hn ⟨h1, h2, h3⟩
      · exact ih h b hb h1 h2
theorem aliF_mem {to : List Prod} : ∀ {l : List Prod}, aliF to l = true → ∀ a ∈ l, aliOne a to = true := by
  intro l
  induction l with
  | nil => intro _ a ha; cases ha
  | cons x l ih =>
    intro h a ha
    rw [aliF] at h
    split at h
    · cases h
    · rename_i hn
      rcases List.mem_cons.1 ha with rfl | ha
      · simpa using hn
      · exact ih h a ha

def costZ : List (Prod × Int) → Int
  | [] => 0
  | z :: zs => z.2 * z.1.units + costZ zs
/-- the units at a place -/
def atZ (y : Int) : List (Prod × Int) → Int
  | [] => 0
  | z :: zs => (if keyN z.1 = y then z.2 * z.1.units else 0) + atZ y zs
theorem atZ_nn (y : Int) : ∀ zs : List (Prod × Int), (∀ z ∈ zs, 0 ≤ z.2 * z.1.units) → 0 ≤ atZ y zs := by
  intro zs
  induction zs with
  | nil => intro _; simp [atZ]
  | cons z zs ih => intro h; have h1 := h z (by simp); have h2 := ih fun x hx => h x (by simp [hx]); rw [atZ]; split <;> omega
theorem atZ_mem (y : Int) : ∀ zs : List (Prod × Int), (∀ z ∈ zs, 0 ≤ z.2 * z.1.units) → ∀ z ∈ zs, keyN z.1 = y → z.2 * z.1.units ≤ atZ y zs := by
  intro zs
  induction zs with
  | nil => intro _ z hz; cases hz
  | cons x zs ih =>
    intro h z hz hk
    have h2 := atZ_nn y zs fun x hx => h x (by simp [hx])
    have h1 := h x (by simp)
    rw [atZ]
    rcases List.mem_cons.1 hz with rfl | hz
    · rw [if_pos hk]; omega
    · have := ih (fun x hx => h x (by simp [hx])) z hz hk
      split <;> omega
def sumAt (zs : List (Prod × Int)) : List Int → Int
  | [] => 0
  | y :: ys => atZ y zs + sumAt zs ys
def cnt (c : Int) (k : Int) : List Int → Int
  | [] => 0
  | y :: ys => (if k = y then c else 0) + cnt c k ys
theorem sumAt_cons (z : Prod × Int) (zs : List (Prod × Int)) : ∀ ys, sumAt (z :: zs) ys = cnt (z.2 * z.1.units) (keyN z.1) ys + sumAt zs ys := by
  intro ys
  induction ys with
  | nil => rfl
  | cons y ys ih => rw [sumAt, sumAt, cnt, ih, atZ]; omega
theorem cnt_zero (c k : Int) : ∀ ys : List Int, k ∉ ys → cnt c k ys = 0 := by
  intro ys
  induction ys with
  | nil => intro _; rfl
  | cons y ys ih =>
    intro h
    simp only [List.mem_cons, not_or] at h
    rw [cnt, if_neg h.1, ih h.2]; rfl
theorem cnt_le (c k : Int) (hc : 0 ≤ c) : ∀ ys : List Int, ys.Pairwise (· < ·) → cnt c k ys ≤ c := by
  intro ys
  induction ys with
  | nil => intro _; exact hc
  | cons y ys ih =>
    intro h
    obtain ⟨h1, h2⟩ := List.pairwise_cons.1 h
    rw [cnt]
    by_cases hk : k = y
    · rw [if_pos hk, cnt_zero c k ys (fun hm => by have := h1 k hm; omega)]; omega
    · rw [if_neg hk]; have := ih h2; omega
theorem sumAt_le (ys : List Int) (hy : ys.Pairwise (· < ·)) : ∀ zs : List (Prod × Int), (∀ z ∈ zs, 0 ≤ z.2 * z.1.units) → sumAt zs ys ≤ costZ zs := by
  intro zs
  induction zs with
  | nil =>
    intro _
    have : ∀ ys, sumAt [] ys = 0 := by intro ys; induction ys with | nil => rfl | cons y ys ih => rw [sumAt, ih]; rfl
    rw [this]; exact Int.le_refl _
  | cons z zs ih =>
    intro h
    rw [sumAt_cons, costZ]
    have h1 := cnt_le (z.2 * z.1.units) (keyN z.1) (h z (by simp)) ys hy
    have h2 := ih fun x hx => h x (by simp [hx])
    omega

theorem costZ_units : ∀ (l : List Prod) (bs : List Int) (acc : Int), unitsGo l bs acc = acc + costZ (l.zip bs) := by
  intro l
  induction l with
  | nil => intro bs acc; cases bs <;> simp [unitsGo, costZ]
  | cons p l ih =>
    intro bs acc
    cases bs with
    | nil => simp [unitsGo, costZ]
    | cons b bs => rw [unitsGo, ih, List.zip_cons_cons, costZ]; dsimp only; omega

theorem car_units {l to : List Prod} {bs : List Int} (h : dValid l bs = true) (hto : prodValid to = true) (ha : aliF to l = true) : unitsF to (to.map (carN l bs)) ≤ unitsF l bs := by
  have h0 := h
  unfold dValid at h0
  rw [Bool.and_eq_true] at h0
  obtain ⟨hv, hf⟩ := h0
  obtain ⟨h5, h6⟩ := fitsF_spec l bs hf
  have hok := prodValid_ok hv
  have hokt := prodValid_ok hto
  have hnn : ∀ z ∈ l.zip bs, 0 ≤ z.2 * z.1.units := by
    intro z hz
    obtain ⟨i, hi⟩ := List.getElem?_of_mem hz
    have h7 := List.getElem?_zip_eq_some.1 hi
    have h8 := h6 i _ _ h7.1 h7.2
    have h9 := hok z.1 (List.mem_of_getElem? h7.1)
    unfold badP at h9
    exact Int.mul_nonneg h8.1 (by omega)
  have hone : ∀ p ∈ to, carN l bs p * p.units ≤ atZ (keyN p) (l.zip bs) := by
    intro p hp
    have hbp := hokt p hp
    unfold carN heldN
    cases hh : heldZ (l.zip bs) (p.area, p.cat) with
    | none =>
      have := atZ_nn (keyN p) _ hnn
      unfold badP at hbp
      rw [Option.getD_none, if_neg (by omega)]
      omega
    | some b =>
      have hh' := hh
      unfold heldZ at hh'
      rcases heldZ_mem _ _ _ _ hh' with h1 | ⟨z, hz, hk, h2⟩
      · cases h1
      · have hzl : z.1 ∈ l := (List.of_mem_zip (a := z.1) (b := z.2) hz).1
        simp only [_root_.Prod.mk.injEq] at hk
        have hu := aliOne_mem (aliF_mem ha z.1 hzl) p hp hk.1.symm hk.2.symm
        have h3 := atZ_mem (keyN p) _ hnn z hz (by unfold keyN; omega)
        rw [h2, hu] at h3
        have hb9 := hokt p hp
        unfold badP at hb9
        rw [Option.getD_some]
        have hle : (if p.sup < b then p.sup else b) ≤ b := by split <;> omega
        have := Int.mul_le_mul_of_nonneg_right hle (by omega : (0 : Int) ≤ p.units)
        omega
  have hsum : ∀ r : List Prod, (∀ p ∈ r, p ∈ to) → costZ (r.zip (r.map (carN l bs))) ≤ sumAt (l.zip bs) (r.map keyN) := by
    intro r
    induction r with
    | nil => intro _; exact Int.le_refl _
    | cons p r ih =>
      intro hr
      have h1 := hone p (hr p (by simp))
      have h2 := ih fun q hq => hr q (by simp [hq])
      rw [List.map_cons, List.zip_cons_cons, costZ, List.map_cons, sumAt]
      dsimp only
      omega
  have h1 := hsum to fun p hp => hp
  have h2 := sumAt_le (to.map keyN) (by rw [List.pairwise_map]; exact prodValid_pair hto) (l.zip bs) hnn
  unfold unitsF
  rw [costZ_units, costZ_units]
  omega

/-- a change and the opposite change -/
theorem change_back {l : List Prod} {bs : List Int} (h : dValid l bs = true) {k : Nat} (hk : k < l.length) {ch : Int} {next : List Int} {er : Int} (hc : chF l bs k ch = (next, er)) :
    (er = 3 ∧ next = []) ∨ (er = 0 ∧ next.length = l.length ∧ -12 ≤ ch ∧ ch ≤ 12 ∧ dValid l next = true ∧ chF l next k (-ch) = (bs, 0) ∧ ∃ p, l[k]? = some p ∧ 1 ≤ p.units ∧ p.units ≤ 100000 ∧ unitsF l next = unitsF l bs + ch * p.units) := by
  obtain ⟨p, y, hp, hy, hp', hy', hll, b0, b1, b2, b3, b4⟩ := dValid_at h (k := k) hk
  have h0 := h
  unfold dValid at h0
  rw [Bool.and_eq_true] at h0
  unfold chF at hc
  rw [if_pos ⟨h, by omega, by omega⟩, Int.toNat_natCast, hp', hy'] at hc
  split at hc
  · left
    simp only [_root_.Prod.mk.injEq] at hc
    exact ⟨hc.2.symm, hc.1.symm⟩
  · rename_i hn
    right
    simp only [_root_.Prod.mk.injEq] at hc
    obtain ⟨rfl, rfl⟩ := hc
    have hv2 : dValid l (bs.set k (y + ch)) = true := by
      unfold dValid; rw [h0.1, fitsF_set l bs k p (y + ch) h0.2 hp (by omega) (by omega)]; rfl
    refine ⟨rfl, by simp [hll], by omega, by omega, hv2, ?_, p, hp, b3, b4, ?_⟩
    · have hyn : (bs.set k (y + ch)).getD k 0 = y + ch := by
        rw [List.getD_eq_getElem?_getD, List.getElem?_set_self (by omega)]; rfl
      unfold chF
      rw [if_pos ⟨hv2, by omega, by omega⟩, Int.toNat_natCast, hp', hyn, if_neg (by omega), List.set_set, show y + ch + -ch = y by omega]
      congr 1
      apply List.ext_getElem?
      intro i
      rw [List.getElem?_set]
      by_cases hik : k = i
      · subst hik; rw [if_pos rfl, if_pos (by omega), hy]
      · rw [if_neg hik]
    · rw [unitsF_set l bs k p y (y + ch) hp hy, show y + ch - y = ch by omega]
end Go.Proofs.Ytoafkphcfhbnmaa
