/- Plain laws: the text of a set is read again, and whatever is read as a set is its text. -/
import Derived.Test.YtencbmgjdiillaaDoorPl07
namespace Go.Proofs.YtencbmgjdiillaaDoor

/-- parts with commas between them -/
def joinC : List (List UInt8) → List UInt8
  | [] => []
  | [p] => p
  | p :: q :: r => p ++ 44 :: joinC (q :: r)
theorem joinC_cons (p : List UInt8) {r : List (List UInt8)} (h : r ≠ []) : joinC (p :: r) = p ++ 44 :: joinC r := by
  cases r with
  | nil => exact absurd rfl h
  | cons q r => rfl
theorem joinC_snoc : ∀ (ps : List (List UInt8)) (p : List UInt8), ps ≠ [] → joinC (ps ++ [p]) = joinC ps ++ 44 :: p := by
  intro ps
  induction ps with
  | nil => intro p h; exact absurd rfl h
  | cons q r ih =>
    intro p _
    cases r with
    | nil => simp [joinC]
    | cons a b =>
      rw [List.cons_append, joinC_cons q (by simp), ih p (by simp), joinC_cons q (by simp)]
      simp
theorem joinC_ne {ps : List (List UInt8)} (h : ps ≠ []) (hp : ∀ p ∈ ps, p ≠ []) : joinC ps ≠ [] := by
  cases ps with
  | nil => exact absurd rfl h
  | cons p r =>
    have := hp p (by simp)
    cases r with
    | nil => simpa [joinC] using this
    | cons q r => rw [joinC_cons p (by simp)]; simp
theorem split_no : ∀ p : List UInt8, 44 ∉ p → splitC p = [p] := by
  intro p
  induction p with
  | nil => intro _; rfl
  | cons c r ih =>
    intro h
    have h1 : ¬ c = 44 := fun e => h (by simp [e])
    rw [splitC, if_neg h1, ih (fun e => h (by simp [e]))]
    rfl
theorem split_app : ∀ (p r : List UInt8), 44 ∉ p → splitC (p ++ 44 :: r) = p :: splitC r := by
  intro p
  induction p with
  | nil => intro r _; simp [splitC]
  | cons c q ih =>
    intro r h
    have h1 : ¬ c = 44 := fun e => h (by simp [e])
    rw [List.cons_append, splitC, if_neg h1, ih r (fun e => h (by simp [e]))]
    rfl
theorem split_join : ∀ ps : List (List UInt8), ps ≠ [] → (∀ p ∈ ps, 44 ∉ p) → splitC (joinC ps) = ps := by
  intro ps
  induction ps with
  | nil => intro h; exact absurd rfl h
  | cons p r ih =>
    intro _ hp
    cases r with
    | nil => simpa [joinC] using split_no p (hp p (by simp))
    | cons q r =>
      rw [joinC_cons p (by simp), split_app _ _ (hp p (by simp)), ih (by simp) (fun x hx => hp x (by simp [hx]))]
theorem join_split : ∀ l : List UInt8, joinC (splitC l) = l := by
  intro l
  induction l with
  | nil => rfl
  | cons c r ih =>
    rw [splitC]
    by_cases h : c = 44
    · rw [if_pos h, joinC_cons _ (splitC_ne r), ih, h]; rfl
    · rw [if_neg h]
      cases hs : splitC r with
      | nil => exact absurd hs (splitC_ne r)
      | cons p q =>
        rw [hs] at ih
        simp only [List.headD_cons, List.tail_cons]
        cases q with
        | nil => simp only [joinC] at ih ⊢; rw [ih]
        | cons a b => rw [joinC_cons _ (by simp)] at ih ⊢; rw [← ih]; rfl

theorem itoa_facts : ∀ m : Fin 512, Lib.itoa (m.1 : Int) ≠ [] ∧ 44 ∉ Lib.itoa (m.1 : Int) ∧ memF (Lib.itoa (m.1 : Int)) = ((m.1 : Int), true) := by decide +kernel
def itoaN (m : Nat) : List UInt8 := Lib.itoa (m : Int)
theorem itoaN_ne {m : Nat} (h : m < 512) : itoaN m ≠ [] := (itoa_facts ⟨m, h⟩).1
theorem itoaN_no {m : Nat} (h : m < 512) : 44 ∉ itoaN m := (itoa_facts ⟨m, h⟩).2.1
theorem itoaN_mem {m : Nat} (h : m < 512) : memF (itoaN m) = ((m : Int), true) := (itoa_facts ⟨m, h⟩).2.2

theorem textP_join (l : List Nat) (hl : ∀ m ∈ l, m < 512) : textP l = 123 :: joinC (l.map itoaN) := by
  rw [← List.reverse_reverse l] at hl ⊢
  generalize l.reverse = r at *
  induction r with
  | nil => rfl
  | cons x r ih =>
    have ih := ih (fun m hm => hl m (by simp at hm ⊢; exact .inl hm))
    rw [List.reverse_cons, textP_snoc, ih, List.map_append, List.map_cons, List.map_nil, textGo]
    by_cases h0 : r.reverse = []
    · rw [h0]; simp [joinC, itoaN]
    · have h1 : (r.reverse.map itoaN) ≠ [] := by simpa using h0
      have h2 := joinC_ne h1 (fun p hp => by
        obtain ⟨m, hm, rfl⟩ := List.mem_map.1 hp
        exact itoaN_ne (hl m (by simp at hm ⊢; exact .inl hm)))
      rw [joinC_snoc _ _ h1, if_pos]
      · simp [itoaN]
      · cases hj : joinC (r.reverse.map itoaN) with
        | nil => exact absurd hj h2
        | cons a b => simp
theorem textF_join (S : Nat) : textF S = 123 :: (joinC ((mem S).map itoaN) ++ [125]) := by
  unfold textF
  rw [textP_join _ (fun m hm => mem_lt hm)]
  rfl

/-- the set of a list of numbers -/
def orL (S : Nat) (l : List Nat) : Nat := l.foldl (fun a m => a ||| 2 ^ m) S
theorem orL_tb : ∀ (l : List Nat) (S i : Nat), (orL S l).testBit i = (S.testBit i || decide (i ∈ l)) := by
  intro l
  induction l with
  | nil => intro S i; simp [orL]
  | cons m r ih =>
    intro S i
    show (orL (S ||| 2 ^ m) r).testBit i = _
    rw [ih, Nat.testBit_or, bit_tb]
    by_cases h : m = i
    · subst h; simp
    · have : ¬ i = m := fun e => h e.symm
      simp [h, this]
theorem orL_mem {S : Nat} (hS : Fit S) : orL 0 (mem S) = S := by
  refine ext_tb fun i => ?_
  rw [orL_tb, Nat.zero_testBit, Bool.false_or]
  have := mem_iff (i := i) hS
  cases h : S.testBit i
  · simp only [decide_eq_false_iff_not]; rw [this, h]; simp
  · simp only [decide_eq_true_eq]; exact this.2 h
theorem orL_fit {l : List Nat} (hl : ∀ m ∈ l, m < 512) : Fit (orL 0 l) := fun i hi => by
  rw [orL_tb, Nat.zero_testBit, Bool.false_or]
  simp only [decide_eq_false_iff_not]
  intro h
  have := hl i h
  omega
theorem mem_orL {l : List Nat} (hs : l.Pairwise (· < ·)) (hl : ∀ m ∈ l, m < 512) : mem (orL 0 l) = l := by
  refine sorted_ext (mem_sorted _) hs (fun x => ?_)
  rw [mem_iff (orL_fit hl), orL_tb, Nat.zero_testBit, Bool.false_or]
  simp

theorem parGo_list : ∀ (l : List Nat) (last : Int) (S : Nat), l.Pairwise (· < ·) → (∀ m ∈ l, m < 512 ∧ last < (m : Int)) → parGo (l.map itoaN) last S = some (orL S l) := by
  intro l
  induction l with
  | nil => intro _ S _ _; rfl
  | cons m r ih =>
    intro last S hs hl
    have h1 := hl m (by simp)
    have hs' := List.pairwise_cons.1 hs
    rw [List.map_cons, parGo, itoaN_mem h1.1]
    dsimp only
    rw [if_neg (by simp; omega), ih _ _ hs'.2 (fun x hx => ⟨(hl x (by simp [hx])).1, by have := hs'.1 x hx; omega⟩)]
    simp [orL]

theorem body_of (X : List UInt8) : fenced (123 :: (X ++ [125])) = true ∧ bodyOf (123 :: (X ++ [125])) = X := by
  have h1 : Lib.hasPrefix (123 :: (X ++ [125])) [123] = true := by simp [Lib.hasPrefix, List.isPrefixOf]
  have h2 : Lib.trimPrefix (123 :: (X ++ [125])) [123] = X ++ [125] := by unfold Lib.trimPrefix; rw [if_pos h1]; rfl
  have h3 : Lib.hasSuffix (X ++ [125]) [125] = true := by unfold Lib.hasSuffix; rw [List.isSuffixOf_iff_suffix]; exact List.suffix_append _ _
  refine ⟨by unfold fenced; rw [h1, h2, h3]; rfl, ?_⟩
  unfold bodyOf
  rw [h2]
  unfold Lib.trimSuffix
  rw [if_pos h3]
  simp
theorem fenced_inv {t : List UInt8} (h : fenced t = true) : t = 123 :: (bodyOf t ++ [125]) := by
  unfold fenced at h
  simp only [Bool.and_eq_true] at h
  obtain ⟨h1, h2⟩ := h
  unfold Lib.hasPrefix at h1
  cases t with
  | nil => simp [List.isPrefixOf] at h1
  | cons c r =>
    simp [List.isPrefixOf] at h1
    subst h1
    have h3 : Lib.trimPrefix (123 :: r) [123] = r := by unfold Lib.trimPrefix Lib.hasPrefix; simp [List.isPrefixOf]
    rw [h3] at h2
    have h4 : ∃ X, r = X ++ [125] := by
      unfold Lib.hasSuffix at h2
      rw [List.isSuffixOf_iff_suffix] at h2
      obtain ⟨X, hX⟩ := h2
      exact ⟨X, hX.symm⟩
    obtain ⟨X, rfl⟩ := h4
    rw [(body_of X).2]

theorem parse_text {S : Nat} (hS : Fit S) : parseF (textF S) = (S, 0) := by
  rw [textF_join]
  obtain ⟨h1, h2⟩ := body_of (joinC ((mem S).map itoaN))
  unfold parseF
  rw [h1, if_pos rfl, h2]
  have hp : partsOf (joinC ((mem S).map itoaN)) = (mem S).map itoaN := by
    unfold partsOf
    by_cases h0 : mem S = []
    · rw [h0]; rfl
    · have h3 : (mem S).map itoaN ≠ [] := by simpa using h0
      rw [if_neg (joinC_ne h3 (fun p hp => by obtain ⟨m, hm, rfl⟩ := List.mem_map.1 hp; exact itoaN_ne (mem_lt hm)))]
      exact split_join _ h3 (fun p hp => by obtain ⟨m, hm, rfl⟩ := List.mem_map.1 hp; exact itoaN_no (mem_lt hm))
  rw [hp, parGo_list _ _ _ (mem_sorted S) (fun m hm => ⟨mem_lt hm, by omega⟩), orL_mem hS]
theorem text_inj {S T : Nat} (hS : Fit S) (hT : Fit T) (h : textF S = textF T) : S = T := by
  have h1 := parse_text hS
  rw [h, parse_text hT] at h1
  exact (congrArg Prod.fst h1).symm

theorem canon1 : ∀ x : Fin 10, itoaN x.1 = [UInt8.ofNat (48 + x.1)] := by decide +kernel
theorem canon2 : ∀ x y : Fin 10, x.1 ≠ 0 → itoaN (10 * x.1 + y.1) = [UInt8.ofNat (48 + x.1), UInt8.ofNat (48 + y.1)] := by decide +kernel
theorem canon3 : ∀ x y z : Fin 10, x.1 ≠ 0 → itoaN (10 * (10 * x.1 + y.1) + z.1) = [UInt8.ofNat (48 + x.1), UInt8.ofNat (48 + y.1), UInt8.ofNat (48 + z.1)] := by decide +kernel
theorem dig_of {a : UInt8} (h : ¬ (a.toNat < 48 ∨ 57 < a.toNat)) : ∃ x : Fin 10, a = UInt8.ofNat (48 + x.1) ∧ (a.toNat : Int) - 48 = (x.1 : Int) ∧ a.toNat = 48 + x.1 := by
  refine ⟨⟨a.toNat - 48, by omega⟩, ?_, ?_, ?_⟩
  · rw [show 48 + (a.toNat - 48) = a.toNat by omega, UInt8.ofNat_toNat]
  · simp; omega
  · simp; omega
theorem memF_canon {p : List UInt8} (h : (memF p).2 = true) : ∃ m : Nat, m < 512 ∧ (memF p).1 = (m : Int) ∧ p = itoaN m := by
  have hr := memF_range h
  unfold memF at h hr ⊢
  split at h
  · cases h
  · rename_i hc
    rw [if_neg hc] at hr ⊢
    cases hn : numGo 0 p with
    | none => rw [hn] at h; cases h
    | some v =>
      rw [hn] at hr
      dsimp only at hr ⊢
      match p, hc, hn with
      | [], hc, _ => exact absurd (.inl (by simp)) hc
      | [a], _, hn =>
        rw [numGo] at hn
        split at hn
        · cases hn
        · rename_i ha
          obtain ⟨x, h1, h2, _⟩ := dig_of ha
          simp only [numGo, Option.some.injEq] at hn
          refine ⟨x.1, by omega, by omega, ?_⟩
          rw [canon1 x, h1]
      | [a, b], hc, hn =>
        rw [numGo] at hn
        split at hn
        · cases hn
        · rename_i ha
          rw [numGo] at hn
          split at hn
          · cases hn
          · rename_i hb
            obtain ⟨x, h1, h2, h3⟩ := dig_of ha
            obtain ⟨y, h4, h5, _⟩ := dig_of hb
            simp only [numGo, Option.some.injEq] at hn
            have hx : x.1 ≠ 0 := by
              intro h0
              apply hc
              refine .inr (.inr ⟨?_, by simp⟩)
              rw [h1, h0]; rfl
            refine ⟨10 * x.1 + y.1, by omega, by omega, ?_⟩
            rw [canon2 x y hx, ← h1, ← h4]
      | [a, b, c], hc, hn =>
        rw [numGo] at hn
        split at hn
        · cases hn
        · rename_i ha
          rw [numGo] at hn
          split at hn
          · cases hn
          · rename_i hb
            rw [numGo] at hn
            split at hn
            · cases hn
            · rename_i hcc
              obtain ⟨x, h1, h2, h3⟩ := dig_of ha
              obtain ⟨y, h4, h5, _⟩ := dig_of hb
              obtain ⟨z, h6, h7, _⟩ := dig_of hcc
              simp only [numGo, Option.some.injEq] at hn
              have hx : x.1 ≠ 0 := by
                intro h0
                apply hc
                refine .inr (.inr ⟨?_, by simp⟩)
                rw [h1, h0]; rfl
              refine ⟨10 * (10 * x.1 + y.1) + z.1, by omega, by omega, ?_⟩
              rw [canon3 x y z hx, ← h1, ← h4, ← h6]
      | _ :: _ :: _ :: _ :: _, hc, _ => exact absurd (.inr (.inl (by simp))) hc

theorem parGo_inv : ∀ (ps : List (List UInt8)) (last : Int) (S0 S : Nat), parGo ps last S0 = some S → ∃ ms : List Nat, ps = ms.map itoaN ∧ ms.Pairwise (· < ·) ∧ (∀ m ∈ ms, m < 512 ∧ last < (m : Int)) ∧ S = orL S0 ms := by
  intro ps
  induction ps with
  | nil => intro last S0 S h; rw [parGo] at h; cases h; exact ⟨[], rfl, List.Pairwise.nil, (fun _ h => by cases h), rfl⟩
  | cons p r ih =>
    intro last S0 S h
    rw [parGo] at h
    split at h
    · cases h
    · rename_i hb
      have h2 : (memF p).2 = true := by cases hh : (memF p).2 with | false => exact absurd (.inl hh) hb | true => rfl
      obtain ⟨m, hm, hv, hp⟩ := memF_canon h2
      rw [hv] at h
      obtain ⟨ms, h3, h4, h5, h6⟩ := ih _ _ _ h
      have hlt : last < (m : Int) := by
        have : ¬ (memF p).1 ≤ last := fun e => hb (.inr e)
        omega
      refine ⟨m :: ms, by rw [List.map_cons, ← h3, ← hp], List.pairwise_cons.2 ⟨fun x hx => by have := (h5 x hx).2; omega, h4⟩, ?_, ?_⟩
      · intro x hx
        rcases List.mem_cons.1 hx with rfl | hx
        · exact ⟨hm, hlt⟩
        · exact ⟨(h5 x hx).1, by have := (h5 x hx).2; omega⟩
      · rw [h6]; simp [orL]

/-- whatever is read as a set is its text -/
theorem parse_inv {t : List UInt8} {S : Nat} (h : parseF t = (S, 0)) : Fit S ∧ t = textF S := by
  unfold parseF at h
  split at h
  · rename_i hf
    cases hg : parGo (partsOf (bodyOf t)) (-1) 0 with
    | none => rw [hg] at h; cases h
    | some S' =>
      rw [hg] at h
      obtain rfl : S' = S := congrArg Prod.fst h
      obtain ⟨ms, h1, h2, h3, rfl⟩ := parGo_inv _ _ _ _ hg
      have hl : ∀ m ∈ ms, m < 512 := fun m hm => (h3 m hm).1
      refine ⟨orL_fit hl, ?_⟩
      rw [textF_join, mem_orL h2 hl]
      have ht := fenced_inv hf
      have hb : bodyOf t = joinC (ms.map itoaN) := by
        unfold partsOf at h1
        split at h1
        · rename_i h0
          rw [h0, ← h1]; rfl
        · rw [← h1, join_split]
      rw [← hb]
      exact ht
  · cases h
theorem parse_err {t : List UInt8} (h : (parseF t).2 ≠ 0) : parseF t = (0, 6) := by
  unfold parseF at h ⊢
  split
  · rename_i hf
    rw [if_pos hf] at h
    cases hg : parGo (partsOf (bodyOf t)) (-1) 0 with
    | none => rfl
    | some S' => rw [hg] at h; exact absurd rfl h
  · rfl
end Go.Proofs.YtencbmgjdiillaaDoor
