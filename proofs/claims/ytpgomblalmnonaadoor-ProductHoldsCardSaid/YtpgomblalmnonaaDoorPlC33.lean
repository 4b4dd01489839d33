/- The plain law: the program's counts of blocks are the reference's. -/
import Derived.Test.YtpgomblalmnonaaDoorCtl33
import Derived.Test.YtpgomblalmnonaaDoorRArea33
namespace Go.Proofs.YtpgomblalmnonaaDoor
open Go.RowKit

def keyI (i : Imp) : Int := 16 * i.area + i.block
theorem impsGo_pair : ∀ (l : List Imp) (prev : Option Imp), impsGo l prev = true → l.Pairwise (fun p q => keyI p < keyI q) ∧ ∀ q, prev = some q → ¬ badI q → ∀ p ∈ l, keyI q < keyI p := by
  intro l
  induction l with
  | nil => intro _ _; exact ⟨List.Pairwise.nil, fun _ _ _ p hp => by cases hp⟩
  | cons a r ih =>
    intro prev h
    rw [impsGo] at h
    split at h
    · cases h
    · rename_i hb
      split at h
      · cases h
      · rename_i hpv
        obtain ⟨h1, h2⟩ := ih _ h
        have h3 := h2 a rfl hb
        refine ⟨List.Pairwise.cons h3 h1, fun q hq hbq p hp => ?_⟩
        subst hq
        have hqa : keyI q < keyI a := by
          simp only [prevI, decide_eq_true_eq] at hpv
          unfold notAft at hpv; unfold badI at hb hbq; unfold keyI; omega
        rcases List.mem_cons.1 hp with rfl | hp
        · exact hqa
        · have := h3 p hp; omega

def lastP (area block : Int) : List Imp → Int → Int
  | [], d => d
  | i :: r, d => lastP area block r (if i.area = area ∧ i.block = block then i.pct else d)
theorem lastP_no (area block : Int) : ∀ (l : List Imp) (d : Int), (∀ i ∈ l, ¬ (i.area = area ∧ i.block = block)) → lastP area block l d = d := by
  intro l
  induction l with
  | nil => intro d _; rfl
  | cons i r ih => intro d h; rw [lastP, if_neg (h i (by simp))]; exact ih d fun x hx => h x (by simp [hx])
theorem lastP_first (area block : Int) : ∀ (l : List Imp), (∀ i ∈ l, ¬ badI i) → l.Pairwise (fun p q => keyI p < keyI q) → lastP area block l 0 = pctF area block l := by
  intro l
  induction l with
  | nil => intro _ _; rfl
  | cons i r ih =>
    intro hb hp
    obtain ⟨h1, h2⟩ := List.pairwise_cons.1 hp
    rw [lastP, pctF]
    by_cases h : i.area = area ∧ i.block = block
    · rw [if_pos h, if_pos h]
      refine lastP_no area block r _ fun x hx hxx => ?_
      have := h1 x hx
      unfold keyI at this; omega
    · rw [if_neg h, if_neg h]
      exact ih (fun x hx => hb x (by simp [hx])) h2

theorem pcsGo_at (area : Int) : ∀ (l : List Imp) (s : List Int) (b : Nat), (∀ i ∈ l, ¬ badI i) → s.length = 12 → b < 12 → (pcsGo area l s).getD b 0 = lastP area b l (s.getD b 0) := by
  intro l
  induction l with
  | nil => intro s b _ _ _; rfl
  | cons i r ih =>
    intro s b hb hs hlt
    have hbi := hb i (by simp)
    unfold badI at hbi
    rw [pcsGo, lastP, ih _ b (fun x hx => hb x (by simp [hx])) (by split <;> simp [hs]) hlt]
    congr 1
    by_cases h1 : i.area = area
    · rw [if_pos h1]
      by_cases h2 : i.block = b
      · rw [if_pos ⟨h1, h2⟩, h2, Int.toNat_natCast, List.getD_eq_getElem?_getD, List.getElem?_set_self (by omega)]; rfl
      · rw [if_neg (fun h => h2 h.2), List.getD_eq_getElem?_getD, List.getElem?_set_ne (by omega), ← List.getD_eq_getElem?_getD]
    · rw [if_neg h1, if_neg (fun h => h1 h.1)]

theorem pcsF_at {area : Int} {l : List Imp} (h : impsF l = true) {b : Nat} (hb : b < 12) : (pcsF area l)[b]? = some (pctF area b l) := by
  have hlen : (pcsF area l).length = 12 := by unfold pcsF; rw [pcsGo_len]; simp
  have hok := impsGo_ok l none h
  have h1 := pcsGo_at area l (List.replicate 12 0) b hok (by simp) hb
  have h2 := lastP_first area b l hok (impsGo_pair l none h).1
  have h3 : (List.replicate 12 (0 : Int)).getD b 0 = 0 := by rw [List.getD_eq_getElem?_getD, List.getElem?_replicate]; split <;> rfl
  rw [h3, h2] at h1
  have h4 : (pcsF area l)[b]? = some ((pcsF area l)[b]'(by omega)) := List.getElem?_eq_getElem (by omega)
  rw [List.getD_eq_getElem?_getD] at h1
  unfold pcsF at h4 ⊢
  rw [h4, Option.getD_some] at h1
  rw [h4, h1]

/-- how many have category c -/
def cntC (c : Int) : List Int → Int
  | [] => 0
  | p :: r => (if (catF p).1 = c then 1 else 0) + cntC c r
theorem cntC_snoc (c : Int) : ∀ (l : List Int) (p : Int), cntC c (l ++ [p]) = cntC c l + (if (catF p).1 = c then 1 else 0) := by
  intro l
  induction l with
  | nil => intro p; simp [cntC]
  | cons x r ih => intro p; rw [List.cons_append, cntC, cntC, ih]; omega
theorem cntC_bd (c : Int) : ∀ l : List Int, 0 ≤ cntC c l ∧ cntC c l ≤ l.length := by
  intro l
  induction l with
  | nil => simp [cntC]
  | cons x r ih => rw [cntC, List.length_cons]; split <;> omega
theorem cntGo_at (c : Nat) (hc : c < 3) : ∀ (l n : List Int), n.length = 3 → (cntGo l n).getD c 0 = n.getD c 0 + cntC c l := by
  intro l
  induction l with
  | nil => intro n _; simp [cntGo, cntC]
  | cons p r ih =>
    intro n hn
    have hb := catF_bd p
    obtain ⟨k, hk⟩ := Int.eq_ofNat_of_zero_le hb.1
    rw [cntGo, cntC, ih _ (by simp [hn]), hk, Int.toNat_natCast]
    by_cases h : k = c
    · subst h
      rw [List.getD_eq_getElem?_getD, List.getElem?_set_self (by omega), if_pos rfl]; simp; omega
    · rw [List.getD_eq_getElem?_getD, List.getElem?_set_ne h, ← List.getD_eq_getElem?_getD, if_neg (by omega)]; omega

/-- the per cents of the first blocks -/
def pctL (area : Int) (l : List Imp) (nb : Nat) : List Int := (List.range nb).map fun b : Nat => pctF area (b : Int) l
theorem pctL_snoc (area : Int) (l : List Imp) (b : Nat) : pctL area l (b + 1) = pctL area l b ++ [pctF area b l] := by
  simp [pctL, List.range_succ]
theorem counts_ref {area : Int} {l : List Imp} (h : impsF l = true) {nb : Nat} (hnb : nb ≤ 12) (c : Nat) (hc : c < 3) : (countsF area nb l).getD c 0 = cntC c (pctL area l nb) := by
  have hlen : (pcsF area l).length = 12 := by unfold pcsF; rw [pcsGo_len]; simp
  have ht : (pcsF area l).take nb = pctL area l nb := by
    apply List.ext_getElem?
    intro b
    by_cases hb : b < nb
    · rw [List.getElem?_take_of_lt hb, pcsF_at h (by omega)]
      simp [pctL, hb]
    · rw [List.getElem?_eq_none (by rw [List.length_take]; omega), List.getElem?_eq_none (by simp [pctL]; omega)]
  unfold countsF
  rw [ht, cntGo_at c hc _ _ rfl]
  match c, hc with
  | 0, _ | 1, _ | 2, _ => simp
end Go.Proofs.YtpgomblalmnonaaDoor
