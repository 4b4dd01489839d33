/- Plain laws for Starts: a start of one claim, and the others beside it. No walk. -/
import Derived.Test.YteckijkmcafpaaaPs39
namespace Go.Proofs.Yteckijkmcafpaaa
open Go.RowKit

theorem nth_erase (x : List Int) (k i : Nat) : nth (x.eraseIdx k) i = if i < k then nth x i else nth x (i + 1) := by
  unfold nth
  rw [List.getD_eq_getElem?_getD, List.getElem?_eraseIdx]
  split <;> rw [List.getD_eq_getElem?_getD]
def insK (y : List Int) (k : Nat) (s : Int) : List Int := y.take k ++ s :: y.drop k
theorem nth_ins {y : List Int} {k : Nat} (hk : k ≤ y.length) (s : Int) (i : Nat) : nth (insK y k s) i = if i < k then nth y i else if i = k then s else nth y (i - 1) := by
  unfold insK nth
  have hl : (y.take k).length = k := by simp; omega
  rw [List.getD_eq_getElem?_getD, List.getElem?_append, hl]
  by_cases h : i < k
  · rw [if_pos h, if_pos h, List.getElem?_take, if_pos h, List.getD_eq_getElem?_getD]
  · rw [if_neg h, if_neg h]
    by_cases e : i = k
    · subst e; rw [if_pos rfl, Nat.sub_self]; rfl
    · rw [if_neg e, show i - k = (i - 1 - k) + 1 by omega, List.getElem?_cons_succ, List.getElem?_drop, show k + (i - 1 - k) = i - 1 by omega, List.getD_eq_getElem?_getD]

theorem beside {cs : List Nat} (hc : ∀ c ∈ cs, 1 ≤ c) {B k q : Nat} (hk : cs[k]? = some q) {s : Nat} (hs : s + q ≤ B) :
    (∃ x ∈ rs cs (List.replicate B false), nth x k = s) ↔ rs (cs.eraseIdx k) (markU (List.replicate B false) s q) ≠ [] := by
  have hkl : k < cs.length := (List.getElem?_eq_some_iff.1 hk).1
  have hq : 1 ≤ q := hc q (List.mem_of_getElem? hk)
  have hce : ∀ c ∈ cs.eraseIdx k, 1 ≤ c := fun c h => hc c (List.mem_of_mem_eraseIdx h)
  have hat : ∀ i, (cs.eraseIdx k)[i]? = if i < k then cs[i]? else cs[i + 1]? := fun i => by rw [List.getElem?_eraseIdx]
  have hz : ∀ b : Nat, (List.replicate B false).getD b false = false := fun b => by
    rw [List.getD_eq_getElem?_getD, List.getElem?_replicate]; split <;> rfl
  constructor
  · rintro ⟨x, hx, hxs⟩
    rw [mem_rs cs hc] at hx
    obtain ⟨g1, g2, g3⟩ := hx
    have : x.eraseIdx k ∈ rs (cs.eraseIdx k) (markU (List.replicate B false) s q) := by
      rw [mem_rs _ hce]
      refine ⟨by rw [List.length_eraseIdx_of_lt (by omega), List.length_eraseIdx_of_lt hkl, g1], fun i c hi => ?_, fun i j ci cj hij hi hj => ?_⟩
      · rw [hat] at hi
        obtain ⟨i', hi', hne, hn⟩ : ∃ i', cs[i']? = some c ∧ i' ≠ k ∧ nth (x.eraseIdx k) i = nth x i' := by
          rw [nth_erase]
          by_cases h : i < k
          · rw [if_pos h] at hi ⊢; exact ⟨i, hi, by omega, rfl⟩
          · rw [if_neg h] at hi ⊢; exact ⟨i + 1, hi, by omega, rfl⟩
        rw [hn]
        have h1 := g2 i' c hi'
        rw [List.length_replicate] at h1
        rw [markU_len, List.length_replicate]
        refine ⟨h1.1, h1.2.1, fun b hb1 hb2 => ?_⟩
        rw [markU_at _ _ _ _ (by rw [List.length_replicate]; exact hs), hz, Bool.false_or, Bool.and_eq_false_iff, decide_eq_false_iff_not, decide_eq_false_iff_not]
        have h2 := g3 i' k c q hne hi' hk
        rw [hxs] at h2
        rcases h2 with h2 | h2
        · left; omega
        · right; omega
      · rw [hat] at hi hj
        rw [nth_erase, nth_erase]
        by_cases h1 : i < k
        · rw [if_pos h1] at hi ⊢
          by_cases h2 : j < k
          · rw [if_pos h2] at hj ⊢; exact g3 i j ci cj hij hi hj
          · rw [if_neg h2] at hj ⊢; exact g3 i (j + 1) ci cj (by omega) hi hj
        · rw [if_neg h1] at hi ⊢
          by_cases h2 : j < k
          · rw [if_pos h2] at hj ⊢; exact g3 (i + 1) j ci cj (by omega) hi hj
          · rw [if_neg h2] at hj ⊢; exact g3 (i + 1) (j + 1) ci cj (by omega) hi hj
    intro e
    rw [e] at this
    cases this
  · intro hne
    obtain ⟨y, hy⟩ := List.exists_mem_of_ne_nil _ hne
    rw [mem_rs _ hce] at hy
    obtain ⟨g1, g2, g3⟩ := hy
    have hyl : y.length + 1 = cs.length := by rw [g1, List.length_eraseIdx_of_lt hkl]; omega
    have hky : k ≤ y.length := by omega
    have own : ∀ (i c : Nat), cs[i]? = some c → i ≠ k → ∃ i', (cs.eraseIdx k)[i']? = some c ∧ nth (insK y k s) i = nth y i' ∧ (i < k → i' = i) ∧ (k < i → i' + 1 = i) := by
      intro i c hi hik
      rw [nth_ins hky]
      by_cases h : i < k
      · exact ⟨i, by rw [hat, if_pos h]; exact hi, by rw [if_pos h], fun _ => rfl, fun h' => by omega⟩
      · exact ⟨i - 1, by rw [hat, if_neg (by omega), show i - 1 + 1 = i by omega]; exact hi, by rw [if_neg h, if_neg hik], fun h' => by omega, fun _ => by omega⟩
    have hself : nth (insK y k s) k = s := by rw [nth_ins hky, if_neg (by omega), if_pos rfl]
    have sep : ∀ (i c : Nat), cs[i]? = some c → i ≠ k → nth (insK y k s) i + c ≤ s ∨ (s : Int) + q ≤ nth (insK y k s) i := by
      intro i c hi hik
      obtain ⟨i', hi', hn, _⟩ := own i c hi hik
      have h1 := g2 i' c hi'
      rw [hn]
      have hcc := hc c (List.mem_of_getElem? hi)
      by_cases a1 : nth y i' + c ≤ s
      · exact .inl a1
      · by_cases a2 : (s : Int) + q ≤ nth y i'
        · exact .inr a2
        · exfalso
          have hb := h1.2.2 (if (s : Int) ≤ nth y i' then (nth y i').toNat else s) (by split <;> omega) (by split <;> omega)
          rw [markU_at _ _ _ _ (by rw [List.length_replicate]; exact hs), hz, Bool.false_or] at hb
          simp only [Bool.and_eq_false_iff, decide_eq_false_iff_not] at hb
          split at hb <;> omega
    refine ⟨insK y k s, (mem_rs cs hc _ _).2 ⟨by simp [insK]; omega, fun i c hi => ?_, fun i j ci cj hij hi hj => ?_⟩, hself⟩
    · rw [List.length_replicate]
      by_cases hik : i = k
      · subst hik
        rw [hk] at hi
        injection hi with hi
        subst hi
        rw [hself]
        exact ⟨by omega, by omega, fun b _ _ => hz b⟩
      · obtain ⟨i', hi', hn, _⟩ := own i c hi hik
        have h1 := g2 i' c hi'
        rw [markU_len, List.length_replicate] at h1
        rw [hn]
        exact ⟨h1.1, h1.2.1, fun b _ _ => hz b⟩
    · by_cases hik : i = k
      · subst hik
        rw [hk] at hi
        injection hi with hi
        subst hi
        rw [hself]
        exact (sep j cj hj (fun e => hij e.symm)).symm
      · by_cases hjk : j = k
        · subst hjk
          rw [hk] at hj
          injection hj with hj
          subst hj
          rw [hself]
          exact sep i ci hi hik
        · obtain ⟨i', hi', hn, ha, hb⟩ := own i ci hi hik
          obtain ⟨j', hj', hn', ha', hb'⟩ := own j cj hj hjk
          rw [hn, hn']
          refine g3 i' j' ci cj ?_ hi' hj'
          rcases Nat.lt_or_gt_of_ne hik with h1 | h1 <;> rcases Nat.lt_or_gt_of_ne hjk with h2 | h2
          · have := ha h1; have := ha' h2; omega
          · have := ha h1; have := hb' h2; omega
          · have := hb h1; have := ha' h2; omega
          · have := hb h1; have := hb' h2; omega

/-- whether a start can be had -/
def startT (l : List Claim) (B k q s : Nat) : Bool := (srF (psOf (l.eraseIdx k) [] []) (markU (List.replicate B false) s q)).1
theorem csOf_erase (l : List Claim) (k : Nat) : csOf (l.eraseIdx k) = (csOf l).eraseIdx k := by
  unfold csOf
  apply List.ext_getElem?
  intro i
  rw [List.getElem?_map, List.getElem?_eraseIdx, List.getElem?_eraseIdx]
  split <;> rw [List.getElem?_map]
theorem start_test {b : Int} {l : List Claim} {B n k q : Nat} (hv : validF b l = true) (hB : b = B) (hn : l.length = n) {c : Claim} (hk : l[k]? = some c) (hq : c.cnt = q) {s : Nat} (hs : s + q ≤ B) :
    0 < (dpT n B (cnOf l) (nth ((List.replicate n (-1)).set k s)) (valOf (rowsOf n (tabG l (fun _ => true) [] (fun _ _ => 0)))) B 0 (2 ^ n - 1)).2 ↔ startT l B k q s = true := by
  have hkn : k < n := by rw [← hn]; exact (List.getElem?_eq_some_iff.1 hk).1
  obtain ⟨E, S, hE⟩ := dp_fix (wn := l.map Claim.win) (P := fun _ => true) (by unfold vwF; rw [if_pos hv]; rfl : vwF b l [] = true) (fun c hc => by
    rw [hasF, eq_comm, List.any_eq_true]; exact ⟨c.win, List.mem_map.2 ⟨c, hc, rfl⟩, by simp⟩) hB hn ((List.replicate n (-1)).set k s)
  rw [S.1]
  have hck : (csOf l)[k]? = some q := by unfold csOf; rw [List.getElem?_map, hk, Option.map_some, hq]; rfl
  have hb := beside (csOf_pos hv) (B := B) hck hs
  have hag : ∀ x, agree n ((List.replicate n (-1)).set k s) x ↔ nth x k = s := by
    intro x
    have hns : ∀ i, nth ((List.replicate n (-1)).set k (s : Int)) i = if i = k then (s : Int) else -1 := fun i => by
      rw [nth_set _ _ _ _ (by simpa using hkn), nth_rep]
    constructor
    · intro h
      have := h k hkn
      rw [hns, if_pos rfl] at this
      omega
    · intro h i hi hh
      rw [hns] at hh
      by_cases e : i = k
      · subst e; rw [if_pos rfl] at hh; omega
      · rw [if_neg e] at hh; omega
  have hE' : (0 : Int) < E.length ↔ ∃ x ∈ rs (csOf l) (List.replicate B false), nth x k = s := by
    constructor
    · intro h
      obtain ⟨x, hx⟩ := List.exists_mem_of_ne_nil E (fun e => by rw [e] at h; simp at h)
      obtain ⟨h1, h2⟩ := (hE x).1 hx
      exact ⟨x, h1, (hag x).1 h2⟩
    · rintro ⟨x, h1, h2⟩
      have := List.length_pos_of_mem ((hE x).2 ⟨h1, (hag x).2 h2⟩)
      omega
  rw [hE', hb, ← csOf_erase]
  unfold startT
  have F := sol_sr (psOf (l.eraseIdx k) [] []) (markU (List.replicate B false) s q)
  rw [psOf_fst] at F
  rcases F with ⟨h1, h2⟩ | ⟨h1, pre, post, h2, _⟩
  · rw [h1, h2]; simp
  · rw [h1, h2]; simp

/-- the starts of a winner, and an error -/
def startsL (l : List Claim) (B k q m : Nat) : List Int := ((List.range m).filter fun s => startT l B k q s).map (fun s : Nat => (s : Int))
def startsF (b : Int) (l : List Claim) (x : Int) : List Int × Int :=
  if validF b l = true then (if findC l x < 0 then ([], 9) else (startsL l b.toNat (findC l x).toNat (cntAt l (findC l x)).toNat (b.toNat + 1 - (cntAt l (findC l x)).toNat), 0)) else ([], 2)
theorem startsL_succ (l : List Claim) (B k q m : Nat) : startsL l B k q (m + 1) = if startT l B k q m = true then startsL l B k q m ++ [(m : Int)] else startsL l B k q m := by
  unfold startsL
  rw [List.range_succ, List.filter_append]
  by_cases h : startT l B k q m = true
  · rw [if_pos h]; simp [h]
  · rw [if_neg h]; simp [h]
theorem startsL_len (l : List Claim) (B k q m : Nat) : (startsL l B k q m).length ≤ m := by
  unfold startsL
  rw [List.length_map]
  exact Nat.le_trans (List.length_filter_le _ _) (by simp)
end Go.Proofs.Yteckijkmcafpaaa
