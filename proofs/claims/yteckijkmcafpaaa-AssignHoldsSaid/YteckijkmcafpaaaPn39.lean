/- Plain laws: what table holds are the wishes; what solve finds is what the search finds. No walk. -/
import Derived.Test.YteckijkmcafpaaaTbl39
import Derived.Test.YteckijkmcafpaaaSr39
namespace Go.Proofs.Yteckijkmcafpaaa
open Go.RowKit

theorem valid_inc : ∀ (l : List Claim) (last left : Int), validGo l last left = true → l.Pairwise (fun a b => a.win < b.win) ∧ ∀ c ∈ l, last < c.win := by
  intro l
  induction l with
  | nil => intro _ _ _; exact ⟨List.Pairwise.nil, fun c h => by cases h⟩
  | cons c r ih =>
    intro last left h
    rw [validGo] at h
    split at h
    · cases h
    · rename_i hb
      unfold badC at hb
      obtain ⟨h1, h2⟩ := ih _ _ h
      refine ⟨List.Pairwise.cons h2 h1, fun x hx => ?_⟩
      rcases List.mem_cons.1 hx with rfl | hx
      · omega
      · have := h2 x hx; omega
theorem find_at (x : Int) : ∀ (l : List Claim) (k : Int) (i : Nat) (c : Claim), l.Pairwise (fun a b => a.win < b.win) → l[i]? = some c → c.win = x → findGo x l k = k + i := by
  intro l
  induction l with
  | nil => intro _ _ _ _ h; cases h
  | cons y r ih =>
    intro k i c hp hi hc
    rw [List.pairwise_cons] at hp
    cases i with
    | zero =>
      simp at hi
      subst hi
      rw [findGo, if_pos hc]; omega
    | succ i =>
      have hm : r[i]? = some c := by simpa using hi
      have := hp.1 c (List.mem_of_getElem? hm)
      rw [findGo, if_neg (by omega), ih (k + 1) i c hp.2 hm hc]
      omega
theorem findC_own {b : Int} {l : List Claim} (hv : validF b l = true) {i : Nat} {c : Claim} (hi : l[i]? = some c) : findC l c.win = i := by
  unfold validF at hv
  split at hv
  · cases hv
  · have := find_at c.win l 0 i c (valid_inc l _ _ hv).1 hi rfl
    unfold findC
    omega

def wlt (x y : Wish) : Prop := x.win < y.win ∨ (x.win = y.win ∧ x.start < y.start)
theorem vw_inc {b : Int} {l : List Claim} : ∀ (ws : List Wish) (prev : Option Wish), vwGo b l ws prev = true → ws.Pairwise wlt ∧ ∀ p, prev = some p → ∀ x ∈ ws, wlt p x := by
  intro ws
  induction ws with
  | nil => intro _ _; exact ⟨List.Pairwise.nil, fun _ _ x h => by cases h⟩
  | cons y r ih =>
    intro prev h
    rw [vwGo] at h
    split at h
    · cases h
    · split at h
      · cases h
      · rename_i hq
        obtain ⟨h1, h2⟩ := ih (some y) h
        have h2' := h2 y rfl
        refine ⟨List.Pairwise.cons h2' h1, fun p hp x hx => ?_⟩
        have hpy : wlt p y := by
          subst hp
          simp only [prevB, decide_eq_true_eq] at hq
          unfold badQ at hq
          unfold wlt
          omega
        rcases List.mem_cons.1 hx with rfl | hx
        · exact hpy
        · have := h2' x hx
          unfold wlt at *
          omega

def wishD (x s d : Int) : List Wish → Int
  | [] => d
  | y :: r => if y.win = x ∧ y.start = s then y.val else wishD x s d r
theorem wishD_zero (x s : Int) (ws : List Wish) : wishD x s 0 ws = wishF x s ws := by
  induction ws with
  | nil => rfl
  | cons y r ih => rw [wishD, wishF, ih]
theorem wishD_none (x s d : Int) : ∀ (ws : List Wish), (∀ y ∈ ws, ¬ (y.win = x ∧ y.start = s)) → wishD x s d ws = d := by
  intro ws
  induction ws with
  | nil => intro _; rfl
  | cons y r ih => intro h; rw [wishD, if_neg (h y (by simp)), ih (fun z hz => h z (by simp [hz]))]
theorem tabG_law {b : Int} {l : List Claim} (hv : validF b l = true) (P : Int → Bool) {i : Nat} {c : Claim} (hi : l[i]? = some c) (s : Nat) : ∀ (ws : List Wish) (F : Nat → Nat → Int), (∀ x ∈ ws, wok l x) → ws.Pairwise wlt → tabG l P ws F i s = if P c.win = true then wishD c.win s (F i s) ws else F i s := by
  intro ws
  induction ws with
  | nil => intro F _ _; rw [tabG, wishD]; split <;> rfl
  | cons x r ih =>
    intro F hw hp
    rw [List.pairwise_cons] at hp
    obtain ⟨w1, w2, w3⟩ := hw x (by simp)
    rw [tabG, ih _ (fun y hy => hw y (by simp [hy])) hp.2, wishD]
    by_cases hPx : P x.win = true
    · rw [if_pos hPx]
      by_cases hm : x.win = c.win ∧ x.start = s
      · have hF : updF F (findC l x.win).toNat x.start.toNat x.val i s = x.val := by
          unfold updF
          rw [if_pos ⟨by rw [hm.1, findC_own hv hi]; simp, by omega⟩]
        rw [hF, if_pos (by rw [← hm.1]; exact hPx), if_pos (by rw [← hm.1]; exact hPx), if_pos hm]
        apply wishD_none
        intro y hy hh
        have := hp.1 y hy
        unfold wlt at this
        omega
      · have hF : updF F (findC l x.win).toNat x.start.toNat x.val i s = F i s := by
          unfold updF
          rw [if_neg]
          rintro ⟨h1, h2⟩
          apply hm
          refine ⟨?_, by omega⟩
          rcases findC_cases l x.win with h3 | ⟨j, d, h3, h4, h5⟩
          · omega
          · have : j = i := by omega
            subst this
            rw [hi] at h4
            injection h4 with h4
            rw [← h5, h4]
        rw [hF, if_neg hm]
    · rw [if_neg hPx]
      by_cases hPc : P c.win = true
      · rw [if_pos hPc, if_pos hPc, if_neg]
        rintro ⟨h1, _⟩
        rw [h1] at hPx
        exact hPx hPc
      · rw [if_neg hPc, if_neg hPc]

theorem tabG_bd (l : List Claim) (P : Int → Bool) : ∀ (ws : List Wish) (F : Nat → Nat → Int), (∀ x ∈ ws, 0 ≤ x.val ∧ x.val ≤ 1099511627776) → (∀ i s, 0 ≤ F i s ∧ F i s ≤ 1099511627776) → ∀ i s, 0 ≤ tabG l P ws F i s ∧ tabG l P ws F i s ≤ 1099511627776 := by
  intro ws
  induction ws with
  | nil => intro F _ h; exact h
  | cons x r ih =>
    intro F hw hF
    rw [tabG]
    refine ih _ (fun y hy => hw y (by simp [hy])) ?_
    intro i s
    split
    · unfold updF
      split
      · exact hw x (by simp)
      · exact hF i s
    · exact hF i s

theorem psOf_at {l : List Claim} {ws : List Wish} {wn : List Int} {i : Nat} {p : Nat × (Nat → Int)} (h : (psOf l ws wn)[i]? = some p) : ∃ c, l[i]? = some c ∧ p = (c.cnt.toNat, fuOf ws wn c.win) := by
  unfold psOf at h
  rw [List.getElem?_map] at h
  cases hc : l[i]? with
  | none => rw [hc] at h; cases h
  | some c => rw [hc] at h; injection h with h; exact ⟨c, rfl, h.symm⟩
theorem cnOf_at {l : List Claim} {i : Nat} {c : Claim} (h : l[i]? = some c) : cnOf l i = c.cnt.toNat := by unfold cnOf; rw [h]

theorem vwF_yes {b : Int} {l : List Claim} {ws : List Wish} (h : vwF b l ws = true) : validF b l = true ∧ vwGo b l ws none = true := by
  unfold vwF at h
  split at h
  · rename_i hv; exact ⟨hv, h⟩
  · cases h

theorem okV_ps {b : Int} {l : List Claim} {ws : List Wish} (h : vwF b l ws = true) (wn : List Int) : okV (psOf l ws wn) := by
  obtain ⟨hv, hw⟩ := vwF_yes h
  have hb := fun x hx => (vw_ok hv ws none hw x hx).2
  have key : ∀ (x s : Int) (ws : List Wish), (∀ y ∈ ws, 0 ≤ y.val ∧ y.val ≤ 1099511627776) → 0 ≤ wishF x s ws ∧ wishF x s ws ≤ 1099511627776 := by
    intro x s ws
    induction ws with
    | nil => intro _; simp [wishF]
    | cons y r ih =>
      intro h
      rw [wishF]
      split
      · exact h y (by simp)
      · exact ih (fun z hz => h z (by simp [hz]))
  intro p hp s
  unfold psOf at hp
  obtain ⟨c, _, rfl⟩ := List.mem_map.1 hp
  dsimp only
  unfold fuOf
  split
  · exact key _ _ ws hb
  · omega

/-- the table's answer for valid wishes is the search's answer, whatever starts are fixed: none here -/
theorem dp_all {b : Int} {l : List Claim} {ws : List Wish} {wn : List Int} {P : Int → Bool} (h : vwF b l ws = true) (hP : ∀ c ∈ l, P c.win = hasF wn c.win) {B n : Nat} (hB : b = B) (hn : l.length = n) :
    dpT n B (cnOf l) (nth (List.replicate n (-1))) (valOf (rowsOf n (tabG l P ws (fun _ _ => 0)))) B 0 (2 ^ n - 1) = ((srF (psOf l ws wn) (List.replicate B false)).2.1, nmF (csOf l) (List.replicate B false)) ∧ ((srF (psOf l ws wn) (List.replicate B false)).1 = true ↔ 0 < nmF (csOf l) (List.replicate B false)) := by
  obtain ⟨hv, hw⟩ := vwF_yes h
  have hva := validF_all hv
  have hl : (psOf l ws wn).length = n := by simp [psOf, hn]
  have := dp_sr (ps := psOf l ws wn) (B := B) (cn := cnOf l) (val := valOf (rowsOf n (tabG l P ws (fun _ _ => 0)))) (fun p hp => ?_) (fun i p hp => ?_) (fun i p hp s hs => ?_) (nth (List.replicate n (-1))) (fun i _ => by rw [nth_rep]; omega)
  · rw [hl, psOf_fst] at this
    exact this
  · unfold psOf at hp
    obtain ⟨c, hc, rfl⟩ := List.mem_map.1 hp
    have := hva.2.2.2 c hc
    dsimp only
    omega
  · obtain ⟨c, hc, rfl⟩ := psOf_at hp
    exact cnOf_at hc
  · obtain ⟨c, hc, rfl⟩ := psOf_at hp
    have hcb := hva.2.2.2 c (List.mem_of_getElem? hc)
    have hin : i < n := by rw [← hn]; exact (List.getElem?_eq_some_iff.1 hc).1
    dsimp only at hs ⊢
    rw [valOf_rows hin (by omega), tabG_law hv P hc s ws _ (fun x hx => (vw_ok hv ws none hw x hx).1) (vw_inc ws none hw).1, wishD_zero, hP c (List.mem_of_getElem? hc)]
    rfl
end Go.Proofs.Yteckijkmcafpaaa
