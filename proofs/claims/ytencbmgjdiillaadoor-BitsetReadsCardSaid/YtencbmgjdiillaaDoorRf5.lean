/- The reference's Read and Parse: contracts and plain laws. -/
import Derived.Test.YtencbmgjdiillaaDoorRf4
namespace Go.Proofs.YtencbmgjdiillaaDoor
open Go.RowKit

/-- the numbers that stand in a string -/
def readGo : List UInt8 → Int → Nat → List Int
  | [], n, d => if 0 < d then [n] else []
  | c :: r, n, d => if 48 ≤ c.toNat ∧ c.toNat ≤ 57 then readGo r (if d < 4 then 10 * n + ((c.toNat : Int) - 48) else n) (d + 1) else (if 0 < d then [n] else []) ++ readGo r 0 0
def readF (l : List UInt8) : List Int := readGo l 0 0

theorem readGo_len : ∀ (l : List UInt8) (n : Int) (d : Nat), (readGo l n d).length ≤ l.length + 1 := by
  intro l
  induction l with
  | nil => intro n d; rw [readGo]; split <;> simp
  | cons c r ih =>
    intro n d
    rw [readGo]
    split
    · have := ih (if d < 4 then 10 * n + ((c.toNat : Int) - 48) else n) (d + 1); simp only [List.length_cons]; omega
    · have := ih 0 0
      rw [List.length_append]
      simp only [List.length_cons]
      split <;> simp <;> omega

def digS (c : UInt8) : Bool := decide (48 ≤ c.toNat ∧ c.toNat ≤ 57)
def valS (n : Int) (p : List UInt8) : Int := p.foldl (fun n c => 10 * n + ((c.toNat : Int) - 48)) n
theorem readGo_digs : ∀ (p q : List UInt8) (n : Int) (d : Nat), p.all digS = true → d + p.length ≤ 4 → readGo (p ++ q) n d = readGo q (valS n p) (d + p.length) := by
  intro p
  induction p with
  | nil => intro q n d _ _; rfl
  | cons c r ih =>
    intro q n d h hd
    rw [List.all_cons, Bool.and_eq_true] at h
    have h1 : 48 ≤ c.toNat ∧ c.toNat ≤ 57 := by simpa [digS] using h.1
    simp only [List.length_cons] at hd
    rw [List.cons_append, readGo, if_pos h1, if_pos (by omega), ih _ _ _ h.2 (by omega)]
    simp only [List.length_cons, valS, List.foldl_cons]
    congr 1
    omega
theorem itoa_digs : ∀ m : Fin 512, (Lib.itoa (m.1 : Int)).all digS = true ∧ (Lib.itoa (m.1 : Int)).length ≤ 3 ∧ 0 < (Lib.itoa (m.1 : Int)).length ∧ valS 0 (Lib.itoa (m.1 : Int)) = (m.1 : Int) := by decide +kernel
theorem readGo_num {m : Nat} (hm : m < 512) (c : UInt8) (r : List UInt8) (hc : ¬ (48 ≤ c.toNat ∧ c.toNat ≤ 57)) : readGo (itoaN m ++ c :: r) 0 0 = (m : Int) :: readGo r 0 0 := by
  obtain ⟨h1, h2, h3, h4⟩ := itoa_digs ⟨m, hm⟩
  dsimp only at h1 h2 h3 h4
  rw [itoaN, readGo_digs _ _ _ _ h1 (by omega), h4, readGo, if_neg hc, if_pos (by omega)]
  rfl
theorem readGo_join : ∀ l : List Nat, (∀ m ∈ l, m < 512) → readGo (joinC (l.map itoaN) ++ [125]) 0 0 = l.map fun m : Nat => (m : Int) := by
  intro l
  induction l with
  | nil => intro _; decide
  | cons m r ih =>
    intro h
    cases r with
    | nil =>
      simp only [List.map_cons, List.map_nil, joinC]
      rw [readGo_num (h m (by simp)) _ _ (by decide)]
      rfl
    | cons m2 r =>
      rw [List.map_cons, joinC_cons _ (by simp), List.append_assoc, List.cons_append, readGo_num (h m (by simp)) _ _ (by decide), ih (fun x hx => h x (by simp [hx]))]
      rfl
theorem read_text (S : Nat) : readF (textF S) = memI S := by
  rw [readF, textF_join, readGo, if_neg (by decide), if_neg (by decide), readGo_join _ (fun m hm => mem_lt hm)]
  rfl

/-- what the reference's Parse answers -/
def parRF (l : List UInt8) : List Int × Bool := if allowF (readF l) then (ofK (readF l) 512, decide (textP (((List.range 512).filter fun i : Nat => inF (readF l) (i : Int))) ++ [125] = l)) else ([], false)
theorem allow_memI (S : Nat) : allowF (memI S) = true := by
  have : ∀ l : List Nat, (∀ m ∈ l, m < 512) → allowF (l.map fun m : Nat => (m : Int)) = true := by
    intro l
    induction l with
    | nil => intro _; rfl
    | cons m r ih => intro h; rw [List.map_cons, allowF, if_neg (by have := h m (by simp); omega)]; exact ih fun x hx => h x (by simp [hx])
  exact this _ fun m hm => mem_lt hm
theorem par_good {l : List UInt8} (h : (parRF l).2 = true) : ∃ S, Fit S ∧ parRF l = (memI S, true) ∧ l = textF S ∧ parseF l = (S, 0) := by
  unfold parRF at h ⊢
  split at h
  · rename_i ha
    obtain ⟨S, h1, h2, h3, h4⟩ := of_good ha
    have hm : ((List.range 512).filter fun i : Nat => inF (readF l) (i : Int)) = mem S := by
      unfold mem
      apply List.filter_congr
      intro i _
      rw [h4]
    rw [hm] at h ⊢
    have ht : textF S = l := by simpa [textF] using h
    refine ⟨S, h2, ?_, ht.symm, by rw [← ht]; exact parse_text h2⟩
    rw [if_pos ha, h3]
    simp [← ht, textF]
  · cases h
theorem par_bad {l : List UInt8} (h : (parRF l).2 = false) : parseF l = (0, 6) := by
  by_cases he : (parseF l).2 = 0
  · exfalso
    obtain ⟨S, hS⟩ : ∃ S, parseF l = (S, 0) := ⟨(parseF l).1, by rw [← he]⟩
    obtain ⟨h1, h2⟩ := parse_inv hS
    subst h2
    unfold parRF at h
    rw [read_text, if_pos (allow_memI S)] at h
    have hm : ((List.range 512).filter fun i : Nat => inF (memI S) (i : Int)) = mem S := by
      have h3 : ofK (memI S) 512 = memI S := ofK_mem (fun i hi => by
        rw [inF_memI h1, hasS]
        simp [show (i : Int) < 512 by omega])
      unfold mem
      apply List.filter_congr
      intro i hi
      rw [inF_memI h1, hasS]
      have := List.mem_range.1 hi
      simp [show (i : Int) < 512 by omega]
    rw [hm] at h
    simp [textF] at h
  · exact parse_err he
end Go.Proofs.YtencbmgjdiillaaDoor
