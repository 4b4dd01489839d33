/- Plain laws: the bytes of a set are read again, and whatever bytes are read as a set are its bytes. -/
import Derived.Test.YtencbmgjdiillaaDoorTx07
namespace Go.Proofs.YtencbmgjdiillaaDoor

/-- bit i of bytes -/
def bitB (b : List UInt8) (i : Nat) : Bool := ((b.getD (i / 8) 0).toNat).testBit (i % 8)
/-- the last byte is not 0 -/
def tight (b : List UInt8) : Prop := b = [] ∨ (b.getD (b.length - 1) 0).toNat ≠ 0

theorem getD_pad (acc : List UInt8) (n j : Nat) : (padB acc n).getD j 0 = acc.getD j 0 := by
  unfold padB
  rw [List.getD_eq_getElem?_getD, List.getD_eq_getElem?_getD]
  by_cases h : j < acc.length
  · rw [List.getElem?_append_left h]
  · rw [List.getElem?_append_right (by omega), List.getElem?_eq_none (l := acc) (by omega), List.getElem?_replicate]
    split <;> rfl
theorem getD_set (l : List UInt8) (i j : Nat) (v : UInt8) (hi : i < l.length) : (l.set i v).getD j 0 = if j = i then v else l.getD j 0 := by
  rw [List.getD_eq_getElem?_getD, List.getElem?_set, List.getD_eq_getElem?_getD]
  by_cases h : i = j
  · subst h; simp [hi]
  · have : ¬ j = i := fun e => h e.symm
    simp [h, this]
theorem enc_bit (acc : List UInt8) (x i : Nat) : bitB (encGo acc x) i = (bitB acc i || decide (i = x)) := by
  unfold bitB encGo
  rw [getD_set _ _ _ _ (by rw [padB_len]; omega), getD_pad, getD_pad]
  by_cases h : i / 8 = x / 8
  · rw [if_pos h, orB_nat _ (by omega), Nat.testBit_or, bit_tb, h]
    congr 1
    apply decide_eq_decide.2
    omega
  · rw [if_neg h]
    have : ¬ i = x := fun e => h (by rw [e])
    simp [this]
theorem encP_bit (l : List Nat) (i : Nat) : bitB (encP l) i = decide (i ∈ l) := by
  rw [← List.reverse_reverse l]
  generalize l.reverse = r
  induction r with
  | nil => simp [encP, bitB]
  | cons x r ih =>
    rw [List.reverse_cons, encP_snoc, enc_bit, ih]
    by_cases h : i = x
    · subst h; simp
    · simp [h]
theorem encP_tight (l : List Nat) (hs : l.Pairwise (· < ·)) : tight (encP l) ∧ (∀ m ∈ l, m / 8 < (encP l).length) ∧ (l = [] ∨ ∃ m ∈ l, (encP l).length = m / 8 + 1) := by
  rw [← List.reverse_reverse l] at hs ⊢
  generalize l.reverse = r at *
  induction r with
  | nil => exact ⟨.inl rfl, (fun _ h => by simp at h), .inl rfl⟩
  | cons x r ih =>
    rw [List.reverse_cons] at hs ⊢
    have hs' := List.pairwise_append.1 hs
    obtain ⟨h1, h2, h3⟩ := ih hs'.1
    have hlen : (encP (r.reverse ++ [x])).length = x / 8 + 1 := by
      rw [encP_snoc, encGo_len]
      rcases h3 with h3 | ⟨m, hm, h3⟩
      · rw [h3]; simp [encP]
      · have : m < x := hs'.2.2 m hm x (by simp)
        omega
    refine ⟨.inr ?_, fun m hm => ?_, .inr ⟨x, by simp, hlen⟩⟩
    · intro h0
      have hb := encP_bit (r.reverse ++ [x]) x
      unfold bitB at hb
      rw [hlen, show x / 8 + 1 - 1 = x / 8 by omega] at h0
      rw [h0, Nat.zero_testBit] at hb
      simp at hb
    · rw [hlen]
      rcases List.mem_append.1 hm with h | h
      · have : m < x := hs'.2.2 m h x (by simp)
        omega
      · simp at h; subst h; omega

theorem byte_top {n : Nat} (h : n ≠ 0) (hn : n < 256) : ∃ j, j < 8 ∧ n.testBit j = true := by
  refine Classical.byContradiction fun hc => h ?_
  apply Nat.eq_of_testBit_eq
  intro j
  rw [Nat.zero_testBit]
  by_cases hj : j < 8
  · cases hb : n.testBit j with
    | false => rfl
    | true => exact absurd ⟨j, hj, hb⟩ hc
  · exact byte_tb hn (by omega)
theorem tight_le {a b : List UInt8} (h : ∀ i, bitB a i = bitB b i) (hb : tight b) : b.length ≤ a.length := by
  refine Nat.le_of_not_lt fun hlt => ?_
  rcases hb with rfl | hb
  · simp at hlt
  · obtain ⟨j, hj, ht⟩ := byte_top hb (UInt8.toNat_lt _)
    have h1 := h (8 * (b.length - 1) + j)
    unfold bitB at h1
    rw [show (8 * (b.length - 1) + j) / 8 = b.length - 1 by omega, show (8 * (b.length - 1) + j) % 8 = j by omega, ht] at h1
    rw [List.getD_eq_getElem?_getD, List.getElem?_eq_none (by omega)] at h1
    simp at h1
theorem bytes_ext {a b : List UInt8} (h : ∀ i, bitB a i = bitB b i) (ha : tight a) (hb : tight b) : a = b := by
  have hl : a.length = b.length := Nat.le_antisymm (tight_le (fun i => (h i).symm) ha) (tight_le h hb)
  apply List.ext_getElem?
  intro k
  by_cases hk : k < a.length
  · rw [List.getElem?_eq_getElem hk, List.getElem?_eq_getElem (by omega)]
    congr 1
    apply UInt8.toNat_inj.1
    apply Nat.eq_of_testBit_eq
    intro j
    by_cases hj : j < 8
    · have h1 := h (8 * k + j)
      unfold bitB at h1
      rw [show (8 * k + j) / 8 = k by omega, show (8 * k + j) % 8 = j by omega, List.getD_eq_getElem?_getD, List.getD_eq_getElem?_getD, List.getElem?_eq_getElem hk, List.getElem?_eq_getElem (show k < b.length by omega)] at h1
      exact h1
    · rw [byte_tb (UInt8.toNat_lt _) (by omega), byte_tb (UInt8.toNat_lt _) (by omega)]
  · rw [List.getElem?_eq_none (by omega), List.getElem?_eq_none (by omega)]

theorem dec_tb : ∀ (l : List UInt8) (acc m i : Nat), (decGo acc m l).testBit i = (acc.testBit i || (decide (8 * m ≤ i) && bitB l (i - 8 * m))) := by
  intro l
  induction l with
  | nil => intro acc m i; simp [decGo, bitB]
  | cons c r ih =>
    intro acc m i
    rw [decGo, ih, Nat.testBit_or, shl_tb]
    by_cases h1 : 8 * m ≤ i
    · by_cases h2 : 8 * (m + 1) ≤ i
      · have hb : c.toNat.testBit (i - 8 * m) = false := byte_tb c.toNat_lt (by omega)
        have hx : bitB (c :: r) (i - 8 * m) = bitB r (i - 8 * (m + 1)) := by
          unfold bitB
          rw [show (i - 8 * m) / 8 = (i - 8 * (m + 1)) / 8 + 1 by omega, show (i - 8 * m) % 8 = (i - 8 * (m + 1)) % 8 by omega]
          rfl
        simp [h1, h2, hb, hx]
      · have hx : bitB (c :: r) (i - 8 * m) = c.toNat.testBit (i - 8 * m) := by
          unfold bitB
          rw [show (i - 8 * m) / 8 = 0 by omega, show (i - 8 * m) % 8 = i - 8 * m by omega]
          rfl
        simp [h1, h2, hx]
    · simp [h1, show ¬ 8 * (m + 1) ≤ i by omega]
theorem dec_bit (l : List UInt8) (i : Nat) : (decGo 0 0 l).testBit i = bitB l i := by
  rw [dec_tb]
  simp
theorem tight_last {b : List UInt8} : tight b ↔ b.getLast? ≠ some 0 := by
  unfold tight
  cases hb : b with
  | nil => simp
  | cons c r =>
    rw [List.getLast?_eq_getElem?, List.getD_eq_getElem?_getD]
    have hl : (c :: r).length - 1 < (c :: r).length := by simp
    rw [List.getElem?_eq_getElem hl]
    simp only [Option.getD_some, ne_eq, Option.some.injEq]
    constructor
    · rintro (h | h)
      · cases h
      · intro e; exact h (by rw [e]; rfl)
    · intro h
      exact .inr fun e => h (UInt8.toNat_inj.1 e)

/-- the bytes of a set are read again -/
theorem dec_enc {S : Nat} (hS : Fit S) : decF (encF S) = (S, 0) := by
  obtain ⟨h1, h2, h3⟩ := encP_tight (mem S) (mem_sorted S)
  have hlen : (encF S).length ≤ 64 := by
    unfold encF
    rcases h3 with h3 | ⟨m, hm, h3⟩
    · rw [h3]; simp [encP]
    · have := mem_lt hm; omega
  have hS' : decGo 0 0 (encF S) = S := by
    refine ext_tb fun i => ?_
    rw [dec_bit]
    unfold encF
    rw [encP_bit]
    have := mem_iff (i := i) hS
    cases h : S.testBit i
    · simp only [decide_eq_false_iff_not]; rw [this, h]; simp
    · simp only [decide_eq_true_eq]; exact this.2 h
  unfold decF
  rw [if_neg (by omega), if_neg (show ¬ (encF S).getLast? = some 0 from tight_last.1 h1), hS']
/-- whatever bytes are read as a set are its bytes -/
theorem enc_dec {b : List UInt8} (hl : b.length ≤ 64) (hb : b.getLast? ≠ some 0) : encF (decGo 0 0 b) = b := by
  have hf : Fit (decGo 0 0 b) := dec_fit b 0 0 fit_zero (by omega)
  refine bytes_ext (fun i => ?_) (encP_tight _ (mem_sorted _)).1 (tight_last.2 hb)
  unfold encF
  rw [encP_bit, ← dec_bit]
  have := mem_iff (i := i) hf
  cases h : (decGo 0 0 b).testBit i
  · simp only [decide_eq_false_iff_not]; rw [this, h]; simp
  · simp only [decide_eq_true_eq]; exact this.2 h
end Go.Proofs.YtencbmgjdiillaaDoor
