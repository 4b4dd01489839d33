/- The contract of Components of digraph, with the memory of what is returned. -/
import Derived.Test.YtpaakgngoocjeaaDoorDig16
import Derived.Test.YtpaakgngoocjeaaDoorDig10
/- Order of digraph over a graph of a list: the two ways out, with the reference's cycle. -/
namespace Go.Proofs.YtpaakgngoocjeaaDoor
open Go.RowKit

theorem idxGo_spec : ∀ (P : List Nat) (k j T : Nat), P[j]? = some T → 1 < (mem T).length → (∀ (i U : Nat), i < j → P[i]? = some U → ¬ 1 < (mem U).length) → idxGo P k = ((k + j : Nat) : Int) := by
  intro P
  induction P with
  | nil => intro k j T h; simp at h
  | cons X r ih =>
    intro k j T h h1 h2
    unfold idxGo
    cases j with
    | zero => cases h; rw [if_pos h1]; rfl
    | succ j =>
      rw [if_neg (h2 0 X (by omega) rfl), ih (k + 1) j T h h1 (fun i U hi hU => h2 (i + 1) U (by omega) hU)]
      omega
section
variable {S : List Nat} (hI : InG S) (h512 : S.length ≤ 512)
include hI h512
theorem part_two {v : Nat} (hv : v < S.length) : 2 ≤ (partL S v).length ↔ ∃ u, u ≠ v ∧ Sc S v u := by
  have hs := partL_sorted (S := S) v
  have hm := fun u => partL_mem hI h512 (w := u) hv
  have hself := partL_self hI h512 hv
  constructor
  · intro h
    cases hp : partL S v with
    | nil => rw [hp] at h; simp at h
    | cons a r =>
      cases r with
      | nil => rw [hp] at h; simp at h
      | cons b q =>
        rw [hp] at hs hm
        have hab := (List.pairwise_cons.1 hs).1 b (by simp)
        by_cases ha : a = v
        · exact ⟨b, by omega, (hm b).1 (by simp)⟩
        · exact ⟨a, ha, (hm a).1 (by simp)⟩
  · rintro ⟨u, hu, hsc⟩
    have h1 := (hm u).2 hsc
    cases hp : partL S v with
    | nil => rw [hp] at h1; cases h1
    | cons a r =>
      cases r with
      | nil =>
        rw [hp, List.mem_singleton] at h1 hself
        omega
      | cons b q => simp
theorem acyc_small (h : Acyc S) : ∀ v, v < S.length → (partL S v).length < 2 := by
  intro v hv
  rcases Nat.lt_or_ge (partL S v).length 2 with h1 | h1
  · exact h1
  · obtain ⟨u, h2, h3⟩ := (part_two hI h512 hv).1 h1
    exact absurd (h v u hv h3) h2
/-- the first vertex of a cycle -/
theorem first_ex (h : ¬ Acyc S) : ∃ t, t < S.length ∧ 2 ≤ (partL S t).length ∧ (∀ v, v < t → (partL S v).length < 2) ∧ isL S t = true := by
  have : ∃ v, v < S.length ∧ 2 ≤ (partL S v).length := by
    apply Classical.byContradiction
    intro hn
    refine h fun v u hv hsc => ?_
    apply Classical.byContradiction
    intro hu
    exact hn ⟨v, hv, (part_two hI h512 hv).2 ⟨u, hu, hsc⟩⟩
  obtain ⟨v0, hv0⟩ := this
  obtain ⟨t, ⟨h1, h2⟩, h3⟩ := least_ex (fun v => v < S.length ∧ 2 ≤ (partL S v).length) hv0
  refine ⟨t, h1, h2, fun v hv => ?_, (isL_iff hI h512 h1).2 fun u hu => ?_⟩
  · rcases Nat.lt_or_ge (partL S v).length 2 with h4 | h4
    · exact h4
    · exact absurd ⟨by omega, h4⟩ (h3 v hv)
  · rcases Nat.lt_or_ge u t with h4 | h4
    · refine absurd ⟨by omega, ?_⟩ (h3 u h4)
      rw [← partL_eq hI h512 h1 hu]; exact h2
    · exact h4
end
/-- the two ways out of Order -/
def OrdTwo (S : List Nat) (o C : List Nat) : Prop := Greedy S.length (Ed S) o ∧ Stuck S.length (Ed S) o ∧ RCy S C ∧ C.length ≤ 1000 ∧
  ((Acyc S ∧ o.length = S.length ∧ C = []) ∨ (¬ Acyc S ∧ o.length < S.length ∧ 2 ≤ C.length ∧ ∃ t, C[0]? = some t ∧ ∀ i x y, (C ++ [t])[i]? = some x → (C ++ [t])[i + 1]? = some y → Ed S x y))
theorem order_two {gb rb cap : Nat} {ext : List Value} {S : List Nat} {arcs : Int} (w : World) (hT : Tab w) (h : GAt w gb rb cap ext S arcs) (hI : InG S) (hN : NoLoop S) :
    ∃ o C, OrdTwo S o C ∧ ∀ W, Below w.heap.size w W → Calls Tryd.prog 31 #[.pointer (some ⟨gb, 0, none⟩)] W (TwoInts (if o.length < S.length then ([], zs C) else (zs o, [])) W) := by
  have h512 := h.2.2.2
  have hF := h.2.2.1
  obtain ⟨o, h1, h2, h3⟩ := ordF_spec hI h512 hF hN
  have ha := acyc_iff hI hN h2 h3
  have hlen := greedy_len h2
  by_cases hac : Acyc S
  · have hl := ha.2 hac
    refine ⟨o, [], ⟨h2, h3, .inl ⟨rfl, acyc_small hI h512 hac⟩, by simp, .inl ⟨hac, hl, rfl⟩⟩, fun W hb => ?_⟩
    exact gorder_any S.length o [] W (hT.keep hb) (h.keep hb) hI (by omega) h1 (fun hlt => by omega)
  · have hl : o.length < S.length := by
      rcases Nat.lt_or_ge o.length S.length with h4 | h4
      · exact h4
      · exact absurd (ha.1 (by omega)) hac
    obtain ⟨t, t1, t2, t3, t4⟩ := first_ex hI h512 hac
    obtain ⟨D, d1, d2, d3⟩ := distF_spec hI t1
    obtain ⟨C, c1, c2, c3, c4, c5, c6⟩ := cyc_ex hI hF h512 d3 hN t1 ((part_two hI h512 t1).1 t2)
    refine ⟨o, C, ⟨h2, h3, .inr ⟨t, D, t1, t3, t2, d3, c1⟩, c4, .inr ⟨hac, hl, c3, t, c5, c6⟩⟩, fun W hb => ?_⟩
    refine gorder_any S.length o (zs C) W (hT.keep hb) (h.keep hb) hI (by omega) h1 (fun _ X hX => ?_)
    have hbX := hb.trans (hX.mono hb.size)
    obtain ⟨j, hj⟩ := List.getElem?_of_mem (leads_mem.2 ⟨t1, t4⟩)
    have hps := (parts_spec hI h512 _ (Nat.le_refl _)).2.1
    have hmem : mem (orBits (partL S t)) = partL S t := mem_part hI h512 t1
    obtain ⟨tl, htl⟩ : ∃ tl, partL S t = t :: tl := by
      unfold isL at t4
      rw [beq_iff_eq] at t4
      cases hp : partL S t with
      | nil => rw [hp] at t4; cases t4
      | cons a r => rw [hp] at t4; cases t4; exact ⟨r, rfl⟩
    refine gcycle_any j t (S.length + 1) 1000 (orBits (partL S t)) tl D (zs C) X (hT.keep hbX) (h.keep hbX) hI ?_ ?_ (by rw [hmem, htl]) (fit_lt h512 (fun b hb' => partL_lt hI h512 t1 ((orBits_tb b _).1 hb'))) t1 (by omega) d1 d2 (by omega) c2
    · rw [hps, idxGo_spec _ 0 j (orBits (partL S t)) (by rw [List.getElem?_map, hj]; rfl) (by rw [hmem]; omega) ?_]
      · rw [Nat.zero_add]
      · intro i U hi hU
        rw [List.getElem?_map] at hU
        cases hli : (leads S S.length)[i]? with
        | none => rw [hli] at hU; cases hU
        | some v =>
          rw [hli] at hU
          cases hU
          have hvt : v < t := by
            have := List.pairwise_iff_getElem.1 (leads_sorted S S.length) i j (List.getElem?_eq_some_iff.1 hli).1 (List.getElem?_eq_some_iff.1 hj).1 hi
            rw [(List.getElem?_eq_some_iff.1 hli).2, (List.getElem?_eq_some_iff.1 hj).2] at this
            exact this
          rw [mem_part hI h512 (by omega)]
          have := t3 v hvt
          omega
    · rw [hps, List.getElem?_map, hj]; rfl
/-- the reference's order where there is no cycle -/
theorem flat_single (o : List Nat) : (o.map fun v => [v]).flatten = o := by
  induction o with
  | nil => rfl
  | cons x r ih => simp [ih]
end Go.Proofs.YtpaakgngoocjeaaDoor

/- Components, cycles, orders and reductions in plain Lean, as the theorem of the stage asks for them. -/
namespace Go.Proofs.YtpaakgngoocjeaaDoor
open Go.RowKit

section
variable {S : List Nat} (hI : InG S) (h512 : S.length ≤ 512) (hF : ∀ x ∈ S, Fit x)
/-- the index of the component of each vertex, after some components -/
def cAt (n : Nat) (Ls : List (List Nat)) (i : Nat) : List Int := (List.range i).foldl (fun X j => setIdx X (Ls.getD j []) (j : Int)) (List.replicate n 0)
omit S in
theorem cAt_succ (n : Nat) (Ls : List (List Nat)) (i : Nat) : cAt n Ls (i + 1) = setIdx (cAt n Ls i) (Ls.getD i []) (i : Int) := by unfold cAt; rw [List.range_succ, List.foldl_append]; rfl
omit S in
theorem cAt_len (n : Nat) (Ls : List (List Nat)) : ∀ i, (cAt n Ls i).length = n := by
  intro i
  induction i with
  | zero => simp [cAt]
  | succ i ih => rw [cAt_succ, setIdx_len, ih]
omit S in
theorem setIdx_take {X : List Int} {L : List Nat} {k x : Nat} {m : Int} (h : L[k]? = some x) : setIdx X (L.take (k + 1)) m = (setIdx X (L.take k) m).set x m := by rw [List.take_add_one, h]; exact setIdx_snoc _ _ _ _
omit S in
theorem cAt_get {n : Nat} {Ls : List (List Nat)} (hn : Ls.flatten.Nodup) (hl : ∀ l ∈ Ls, ∀ x ∈ l, x < n) : ∀ i, i ≤ Ls.length → ∀ j l x, j < i → Ls[j]? = some l → x ∈ l → (cAt n Ls i).getD x 0 = (j : Int) := by
  intro i
  induction i with
  | zero => intro _ j l x hj; omega
  | succ i ih =>
    intro hi j l x hj hjl hx
    rw [cAt_succ, setIdx_get _ _ _ _ (by rw [cAt_len]; exact hl l (List.mem_of_getElem? hjl) x hx)]
    rcases Nat.lt_or_ge j i with h | h
    · rw [if_neg, ih (by omega) j l x h hjl hx]
      intro hm
      obtain ⟨l', hl'⟩ : ∃ l', Ls[i]? = some l' := ⟨_, List.getElem?_eq_getElem (by omega)⟩
      rw [List.getD_eq_getElem?_getD, hl'] at hm
      have hp := (List.pairwise_flatten.1 hn).2
      have := List.pairwise_iff_getElem.1 hp j i (List.getElem?_eq_some_iff.1 hjl).1 (List.getElem?_eq_some_iff.1 hl').1 h
      rw [(List.getElem?_eq_some_iff.1 hjl).2, (List.getElem?_eq_some_iff.1 hl').2] at this
      exact this x hx x hm rfl
    · have : j = i := by omega
      subst this
      rw [List.getD_eq_getElem?_getD, hjl, Option.getD_some, if_pos hx]
/-- the components -/
structure CompTh (S : List Nat) (Ls : List (List Nat)) : Prop where
  len : Ls.length ≤ S.length
  small : ∀ l ∈ Ls, ∀ x ∈ l, x < S.length
  ne : ∀ l ∈ Ls, l.length ≤ 512
  count : Ls.flatten.length = S.length
  le : ∀ a b, Ed S a b → (cAt S.length Ls Ls.length).getD a 0 ≤ (cAt S.length Ls Ls.length).getD b 0
  cyc : Acyc S ↔ Ls.length = S.length
include hI h512 hF
theorem comp_th : CompTh S (compF S) := by
  obtain ⟨G, h1, h2, h3, h4⟩ := compF_spec hI h512 hF
  have hGl := greedy_lt h1
  have hfl : (compF S).flatten = (G.map (ldr S)).flatMap (partL S) := by rw [h4, List.flatMap_map, List.flatMap_def]
  obtain ⟨p1, p2⟩ := parts_nodup hI h512 hGl.1 hGl.2
  have hall : ∀ u, u < S.length → u ∈ (G.map (ldr S)).flatMap (partL S) := fun u hu => (listed_iff hI h512 hGl.1 hu).2 (h2 _ (idx_ldr hI h512 hu).1)
  have hlen : (compF S).length = cmN S := by rw [h4, List.length_map, h3]
  have hsm : ∀ l ∈ compF S, ∀ x ∈ l, x < S.length := by
    intro l hl x hx
    rw [h4] at hl
    obtain ⟨j, hj, rfl⟩ := List.mem_map.1 hl
    exact partL_lt hI h512 (ldr_lt (hGl.1 j hj)).1 hx
  have hat : ∀ (v i : Nat), v < S.length → G[i]? = some (idx S v) → (cAt S.length (compF S) (compF S).length).getD v 0 = (i : Int) := by
    intro v i hv hi
    have hi' := (List.getElem?_eq_some_iff.1 hi).1
    refine cAt_get (by rw [hfl]; exact p1) hsm _ (Nat.le_refl _) i (partL S (ldr S (idx S v))) v (by rw [h4, List.length_map]; exact hi') (by rw [h4, List.getElem?_map, hi]; rfl) ?_
    have h5 := idx_ldr hI h512 hv
    exact (partL_mem hI h512 h5.2.2).2 h5.2.1
  refine ⟨by rw [hlen]; exact leads_len S _, hsm, fun l hl => ?_, ?_, fun a b he => ?_, ?_⟩
  · rw [h4] at hl
    obtain ⟨j, _, rfl⟩ := List.mem_map.1 hl
    have h5 := mem_len (reachM S (ldr S j))
    have h6 := List.length_filter_le (fun w => (reachM S w).testBit (ldr S j)) (mem (reachM S (ldr S j)))
    unfold partL; omega
  · rw [hfl]
    exact Nat.le_antisymm (nodup_len p1 p2) (full_len _ hall)
  · have hl := ed_lt hI he
    obtain ⟨j, hj⟩ := List.getElem?_of_mem (h2 _ (idx_ldr hI h512 hl.2).1)
    obtain ⟨i, hi⟩ := List.getElem?_of_mem (h2 _ (idx_ldr hI h512 hl.1).1)
    rw [hat a i hl.1 hi, hat b j hl.2 hj]
    by_cases hq : idx S a = idx S b
    · rw [hq] at hi
      have := nodup_at hGl.2 hi hj
      omega
    · obtain ⟨k, hk, hkq⟩ := greedy_before h1 j (idx S b) hj (idx S a) (idx_ldr hI h512 hl.1).1 ⟨hq, a, b, he, rfl, rfl⟩
      have := nodup_at hGl.2 hkq hi
      omega
  · rw [hlen]
    constructor
    · exact fun ha => acyc_cm hI h512 ha
    · intro hc v u hv hsc
      have hL : ∀ x, x < S.length → isL S x = true := fun x hx => by
        have := full_mem (N := S.length) ((leads_sorted S S.length).imp (fun h => by omega)) (fun y hy => (leads_mem.1 hy).1) (show S.length ≤ (leads S S.length).length by unfold cmN at hc; omega) x hx
        exact (leads_mem.1 this).2
      have hu := sc_lt hI hv hsc
      exact (lead_uniq hI h512 hv hu (hL v hv) (hL u hu) hsc).symm
omit hI hF in
theorem ed_arcF (hI : InG S) {a b : Nat} (h : Ed S a b) : arcF S (a : Int) (b : Int) = true := by
  have hl := ed_lt hI h
  unfold arcF hasS
  rw [Bool.and_eq_true, Bool.and_eq_true, decide_eq_true_eq, decide_eq_true_eq, Int.toNat_natCast, Int.toNat_natCast]
  exact ⟨by omega, by omega, h⟩
omit hI hF h512 in
theorem cyc_at {C : List Nat} {t : Nat} (h0 : C[0]? = some t) (h : ∀ i x y, (C ++ [t])[i]? = some x → (C ++ [t])[i + 1]? = some y → Ed S x y) {i x y : Nat} (hx : C[i]? = some x) (hy : C[(i + 1) % C.length]? = some y) : Ed S x y := by
  have hi := (List.getElem?_eq_some_iff.1 hx).1
  refine h i x y (by rw [List.getElem?_append_left hi]; exact hx) ?_
  rcases Nat.lt_or_ge (i + 1) C.length with h1 | h1
  · rw [Nat.mod_eq_of_lt h1] at hy
    rw [List.getElem?_append_left h1]; exact hy
  · have e : i + 1 = C.length := by omega
    rw [e, Nat.mod_self, h0] at hy
    cases hy
    rw [e, List.getElem?_append_right (Nat.le_refl _)]; simp
omit h512 hF hI in
/-- ranks -/
theorem anc_lt (ha : Acyc S) {u b : Nat} (h : Rch S u b) (hne : u ≠ b) (hb : b < S.length) : anc S u < anc S b := by
  rcases Nat.lt_or_ge (anc S u) (anc S b) with h1 | h1
  · exact h1
  · have := anc_eq hb h h1
    exact absurd (ha b u hb ⟨this, h⟩) hne
omit h512 hF in
theorem red_rch {S' : List Nat} (hE : ∀ v w, Ed S' v w ↔ Need S v w) (hN : NoLoop S) (ha : Acyc S) : ∀ N a b, Ed S a b → anc S b - anc S a ≤ N → Rch S' a b := by
  intro N
  induction N with
  | zero =>
    intro a b he h
    have hl := ed_lt hI he
    have := anc_lt ha (rch_one he) (fun e => hN b (by rw [e] at he; exact he)) hl.2
    omega
  | succ N ih =>
    intro a b he h
    have hl := ed_lt hI he
    by_cases hn : Need S a b
    · exact rch_one ((hE a b).2 hn)
    · obtain ⟨u, h1, h2, h3⟩ : ∃ u, Ed S a u ∧ u ≠ b ∧ Rch S u b := by
        apply Classical.byContradiction
        intro hc
        exact hn ⟨he, hc⟩
      have hul := (ed_lt hI h1).2
      have r1 := anc_lt ha (rch_one h1) (fun e => hN u (by rw [e] at h1; exact h1)) hul
      have r2 := anc_lt ha h3 h2 hl.2
      have key : ∀ c, Rch S u c → anc S c ≤ anc S b → Rch S' u c := by
        intro c hc
        induction hc with
        | refl => intro _; exact .refl
        | @step x y hx hy ih2 =>
          intro hle
          have h4 := anc_le (rch_one hy)
          have h5 := anc_le hx
          exact rch_trans (ih2 (by omega)) (ih x y hy (by omega))
      exact rch_trans (ih a u h1 (by omega)) (key b h3 (Nat.le_refl _))
omit h512 hF in
theorem red_same {S' : List Nat} (hE : ∀ v w, Ed S' v w ↔ Need S v w) (hN : NoLoop S) (ha : Acyc S) {a b : Nat} : Rch S' a b ↔ Rch S a b := by
  constructor
  · intro h
    induction h with
    | refl => exact .refl
    | step _ he ih => exact .step ih ((hE _ _).1 he).1
  · intro h
    induction h with
    | refl => exact .refl
    | @step x y _ he ih => exact rch_trans ih (red_rch hI hE hN ha _ x y he (Nat.le_refl _))
omit h512 hF in
theorem red_reachM {S' : List Nat} (hE : ∀ v w, Ed S' v w ↔ Need S v w) (hN : NoLoop S) (ha : Acyc S) (v : Nat) : reachM S' v = reachM S v := by
  apply Nat.eq_of_testBit_eq
  intro i
  rw [Bool.eq_iff_iff, reachM_tb, reachM_tb, red_same hI hE hN ha]
omit h512 hF hI in
theorem red_apart {S' : List Nat} (hE : ∀ v w, Ed S' v w ↔ Need S v w) {v x y : Nat} (hx : Ed S' v x) (hy : Ed S' v y) (hxy : x ≠ y) (h : Rch S' x y) : False := by
  have hs : Rch S x y := by
    clear hx hy hxy
    induction h with
    | refl => exact .refl
    | step _ he ih => exact .step ih ((hE _ _).1 he).1
  exact ((hE v y).1 hy).2 ⟨x, ((hE v x).1 hx).1, hxy, hs⟩
end
/-- before the vertex of an arc in the order -/
theorem early_ex {S o : List Nat} (hI : InG S) (hG : Greedy S.length (Ed S) o) (hl : o.length = S.length) {a b : Nat} (he : Ed S a b) : ∃ j, o[j]? = some b ∧ (∀ i x, i < j → o[i]? = some x → x ≠ b) ∧ a ∈ o.take j := by
  have hb := (ed_lt hI he).2
  obtain ⟨j, hj⟩ := List.getElem?_of_mem (full_mem (greedy_lt hG).2 (greedy_lt hG).1 (by omega) b hb)
  obtain ⟨i, hi, hia⟩ := greedy_before hG j b hj a (ed_lt hI he).1 he
  refine ⟨j, hj, fun k x hk hx e => ?_, ?_⟩
  · subst e; have := nodup_at (greedy_lt hG).2 hx hj; omega
  · have : (o.take j)[i]? = some a := by rw [List.getElem?_take, if_pos hi]; exact hia
    exact List.mem_of_getElem? this
end Go.Proofs.YtpaakgngoocjeaaDoor

namespace Go.Proofs.YtpaakgngoocjeaaDoor
open Go.RowKit Go.Shelf Go.ChangeShapes Go.WideShapes Go.ChangeAt Go.Deep Go.Joins

attribute [local go_sem] Oper.semAt_some

set_option maxRecDepth 100000 in
set_option maxHeartbeats 4000000 in
theorem gcomps_own {gb rb cap : Nat} {ext : List Value} {S : List Nat} {arcs : Int} (w : World) (hT : Tab w) (h : GAt w gb rb cap ext S arcs) (hI : InG S) :
    Calls Tryd.prog 29 #[.pointer (some ⟨gb, 0, none⟩)] w fun e w' => ∃ A c cs, e = .returned (.slice A cs.length c) ∧ cs.map Prod.snd = compF S ∧ Hp w w w' (.row (.slice A cs.length c) 36 1 cs.length (cs.map fun x => sv x.1) :: exL cs) [] := by
  have h512 := h.2.2.2
  have HG := Lib.hid h
  have HF : Hid (∀ x ∈ S, Fit x) := Lib.hid h.2.2.1
  have HT := Lib.hid hT
  have HI := Lib.hid hI
  have h4 : tabN ≤ w.heap.size := hT.1
  have HA := Lib.hid (fun T W => all_any T W)
  have HMI := Lib.hid (fun A B W => minus_any A B W)
  have HRM := Lib.hid (fun A i W hi => remove_in A i W hi)
  have HIX := Lib.hid (parts_idx S S.length)
  have HPL := Lib.hid (parts_lt hI S.length (Nat.le_refl _))
  have HLN := Lib.hid (partsK_len S S.length)
  have HCF := Eqn.mk (show compF S = (compK S (partsK S S.length).2.2 (partsK S S.length).2.1 (partsK S S.length).2.1.length).2.1 from rfl)
  obtain ⟨i0, hi, hz0, hz1, hz2⟩ := info_parts int_info
  obtain ⟨s0, si, sz0, sz1, sz2⟩ := info_parts ints_info
  have HLI := Lib.hid (fun T W hF hW => list_any T W hF hW)
  have hP0 := (Hp.start w).alloc1 (.pointer (some ⟨gb, 0, none⟩)) 24
  obtain ⟨V0, hV0⟩ : ∃ V0, V0 = w.alloc (.cells #[.pointer (some ⟨gb, 0, none⟩)] 24) := ⟨_, rfl⟩
  rw [← hV0] at hP0
  have HPA := Lib.hid (gparts_any V0 (hT.keep hP0.below) (h.keep hP0.below) hI)
  have HP0 := Lib.hid hP0
  have c0 := hP0.c 0 0 rfl rfl; have f0 := hP0.f 0 rfl; have l0 := hP0.lt 0 rfl
  clear h hI hT hP0
  unfold sV at HA HMI HRM HLI
  generalize partsK S S.length = pk at *
  obtain ⟨seen, P, X⟩ := pk
  dsimp only at HPA HIX HPL HLN HCF
  generalize compF S = CF at *
  refine (callsIn_wide (n := 7)).1 ?_
  refine callsIn_of_wp_marks Tryd.func29 rfl trivial ?_ rfl
  simp only [Tryd.ntmps29, List.size_toArray, List.length_cons, List.length_nil, Nat.reduceAdd, Nat.reduceSub, Array.replicate_succ, Array.replicate_zero, List.push_toArray, List.append_toArray, List.nil_append, List.cons_append]
  gi_upto_region 1 with fail
  rw [← hV0]
  clear hV0
  gi_wp2_with fail
  refine ⟨trivial, (callsIn_wide.2 HPA.out).mono ?_⟩
  rintro e W1 ⟨vP, A6, rfl, hown, hX, hA6, hb⟩
  have hP1 := (HP0.out.push2 hb (e := .row vP 40 8 P.length (rowC P)) (e' := .blk A6 3 (X.map intV)) hown hX (fun g hg => own_ge hown g hg) (fun g hg => by cases hg; exact hA6) (fun g hg hg' => by
    have hg2 : vP.ownBlock = some A6 := by
      have h0 : some A6 = some g := hg'
      rw [h0]; exact hg
    rcases hown.2 with ⟨h1, _⟩ | ⟨g', cap', cur', h1, _, h3, _⟩
    · rw [h1] at hg2; cases hg2
    · rw [h1] at hg2
      cases hg2
      have hX2 : W1.heap[g']? = _ := hX
      rw [h3] at hX2
      cases hX2))
  have hPl : P.length ≤ S.length := HLN.out.2
  obtain ⟨AP, cP, rfl⟩ := hP1.form 1 rfl
  have hP2 := (hP1.alloc1 (.slice AP P.length cP) 65).alloc1 (.slice (some ⟨A6, 0, none⟩) S.length S.length) 36
  obtain ⟨V2, hV2⟩ : ∃ V2, V2 = (W1.alloc (.cells #[.slice AP P.length cP] 65)).alloc (.cells #[.slice (some ⟨A6, 0, none⟩) S.length S.length] 36) := ⟨_, rfl⟩
  rw [← hV2, World.size_alloc] at hP2
  have HP2 := Lib.hid hP2
  clear hown hX hA6 hb hP1 HPA c0 f0 l0
  have c3 := hP2.c 3 0 rfl rfl; have f3 := hP2.f 3 rfl; have l3 := hP2.lt 3 rfl
  clear hP2
  gi_upto_region 2 with fail
  rw [← hV2]
  clear hV2
  generalize W1.heap.size + 1 = p4 at *
  generalize W1.heap.size = p3 at *
  gi_wp2_with (gi_at_make; refine wpListIn_make_full _ rfl _ _ 36 rfl w.heap.size 3 i0 (.int .i64 0) 1 Tryd.underlying36 hi hz0 hz1 .i64 .i64 _ _ P.length rfl rfl rfl rfl (by rw [hz2]; omega) (by unfold maxLen; omega) HP2.out.below.size ?_; intro W3 hown hgrow; rw [made_ints] at hown; have hP3 := (HP2.out.made hown hgrow (Nat.le_refl _)).alloc1 (.slice (some ⟨V2.heap.size, 0, none⟩) P.length P.length) 36; have HP3 := Lib.hid hP3; have q4 := hP3.c 4 0 rfl rfl; clear hown hgrow hP3)
  obtain ⟨V3, hV3⟩ : ∃ V3, V3 = W3.alloc (.cells #[.slice (some ⟨V2.heap.size, 0, none⟩) P.length P.length] 36) := ⟨_, rfl⟩
  rw [← hV3] at HP3 q4 ⊢
  clear hV3 q4 c3 f3 l3
  generalize W3.heap.size = p5 at *
  generalize V2.heap.size = gI at *
  have HXB : Hid (0 < S.length → ∀ v, v < S.length → ∃ j : Nat, j < P.length ∧ X[v]? = some (j : Int) ∧ X.getD v 0 = (j : Int)) := Lib.hid (fun h0 v hv => by
    obtain ⟨x, hx⟩ : ∃ x, X[v]? = some x := ⟨_, List.getElem?_eq_getElem (by have := HLN.out.1; omega)⟩
    obtain ⟨j, h1, h2⟩ := HIX.out.1 x (List.mem_of_getElem? hx)
    have h3 := HIX.out.2 h0
    refine ⟨j, by omega, by rw [hx, h1], by rw [List.getD_eq_getElem?_getD, hx, h1]; rfl⟩)
  refine wpIn_loop_ghost (fun m a W => ∃ (k : Nat) (ds : List Nat), m = S.length - k ∧ k ≤ S.length ∧ CoF1 w.heap.size p3 p4 p5 A6 S.length k ds a ∧ Hp w W W (CoH (⟨w.heap.size, p3, p4, p5, 0, 0, A6, gI, gb, S.length, .slice AP P.length cP, P, X⟩ : Cp) (incC S X P.length k)) ds) (S.length - 0) ?start ?round
  case start => exact ⟨0, [], rfl, Nat.zero_le _, CoF1_mk, HP3.out.rebase⟩
  case round =>
    clear HP3
    rintro m a W ⟨k, ds, rfl, hk, ⟨u, rfl⟩, hP⟩
    have HP := Lib.hid hP
    by_cases hlt : k < S.length
    · have j0 : (k : Int) < (S.length : Int) := by omega
      have HST := Eqn.mk (incC_succ S X P.length k)
      have HIL := Lib.hid (incC_len S X P.length k)
      have e1 : IntKind.i64.wrap ((k : Int) + 1) = (k : Int) + 1 := IntWalk.i64_in _ (by omega)
      obtain ⟨T, hT⟩ : ∃ T, S[k]? = some T := ⟨_, List.getElem?_eq_getElem hlt⟩
      have HTT : Hid (T ∈ S ∧ S.getD k 0 = T) := Lib.hid ⟨List.mem_of_getElem? hT, by rw [List.getD_eq_getElem?_getD, hT]; rfl⟩
      obtain ⟨jp, hjp, hXk, hXd⟩ := HXB.out (by omega) k hlt
      rw [HTT.out.2, hXd] at HST
      have cX := hP.cI 2 k rfl hXk
      have hP1 := hP.alloc1 (.int .i64 (jp : Int)) 3
      obtain ⟨V4, hV4⟩ : ∃ V4, V4 = W.alloc (.cells #[.int .i64 (jp : Int)] 3) := ⟨_, rfl⟩
      rw [← hV4] at hP1
      have HP1 := Lib.hid hP1
      have hG := HG.out.keep hP1.below
      obtain ⟨_, q1, _, q3⟩ := hG.cells
      obtain ⟨y0, y1, y2, y3, y4, y5, y6, y7, y8⟩ := row_cells hG.2.1 hT
      have c0 := hP1.c 0 0 rfl rfl; have f0 := hP1.f 0 rfl; have l0 := hP1.lt 0 rfl
      clear hP hP1 hT hG hXk hXd
      generalize incC S X P.length k = I0 at *
      gi_upto_region 6 with fail
      rw [← hV4]
      clear hV4 cX
      generalize W.heap.size = p7 at *
      gi_wp2_with fail
      refine ⟨trivial, (callsIn_wide.2 (HA.out T _)).mono ?_⟩
      rintro e WE ⟨rfl, hWE⟩
      have HPE := Lib.hid (HP1.out.allocS T 40)
      rw [← hWE] at HPE
      clear hWE q1 q3 y0 y1 y2 y3 y4 y5 y6 y7 y8 c0 f0 l0
      generalize V4.heap.size = Bn at *
      gi_wp2_with fail
      refine hp_range (w := w) (ds := ds) (σ := List Int) (fun I => (CoH (⟨w.heap.size, p3, p4, p5, 0, 0, A6, gI, gb, S.length, .slice AP P.length cP, P, X⟩ : Cp) I ++ [.blk p7 3 [.int .i64 (jp : Int)]]) ++ [.blk Bn 40 (tabL 8 (sC T))])
        (fun pre I => I = (pre.map Fin.val).foldl (bumpC X jp) I0) (fun _ _ _ => False) 8 ?a₁ (by decide)
        (gf := 63) (lb := #[.pointer (some ⟨Bn, 0, none⟩)]) rfl (enters_of Tryd.func63 (by kernel_rfl) rfl) (all_stopsF S.length 6 (by decide) Bn w.heap.size T (HF.out T HTT.out.1) (fun x hx => HI.out T HTT.out.1 x (mem_tb hx)) h4 WE (HPE.out.blk 8 rfl) (HT.out.keep HPE.out.below)) rfl (Nat.le_refl _) (fun _ => rfl) I0 rfl HPE.out (fun _ => rfl) ?assign ?body ?done ?stop
      case assign =>
        intro l x X K hK
        gi_wp2
        exact hK
      case body =>
        rintro l pre x Y _ _ rfl hX hlen
        have HX := Lib.hid hX
        have hLl : ((pre.map Fin.val).foldl (bumpC X jp) I0).length = P.length := by rw [bumpsC_len, HIL.out]
        have HSN : Hid (((pre ++ [x]).map Fin.val).foldl (bumpC X jp) I0 = bumpC X jp ((pre.map Fin.val).foldl (bumpC X jp) I0) x.1) := Lib.hid (by rw [List.map_append, List.foldl_append]; rfl)
        have hxn := x.2
        generalize (pre.map Fin.val).foldl (bumpC X jp) I0 = L at *
        generalize x.1 = xn at *
        have j1 : (xn : Int) < (S.length : Int) := by omega
        obtain ⟨jx, hjx, hXx, hXd⟩ := HXB.out (by omega) xn hxn
        obtain ⟨z, hz⟩ : ∃ z, L[jx]? = some z := ⟨_, List.getElem?_eq_getElem (by omega)⟩
        have HB : Hid (bumpC X jp L xn = if (jx : Int) ≠ jp then L.set jx (wrap64 (z + 1)) else L) := Lib.hid (by unfold bumpC; rw [hXd, Int.toNat_natCast, List.getD_eq_getElem?_getD, hz]; rfl)
        have j2 : (jx : Int) < (P.length : Int) := by omega
        have cX := hX.cI 2 xn rfl hXx
        have cI := hX.cI 5 jx rfl hz
        have fI := hX.f 5 rfl
        have lI := hX.lt 5 rfl
        have c4 := hX.c 4 0 rfl rfl; have f4 := hX.f 4 rfl; have l4 := hX.lt 4 rfl; have c6 := hX.c 6 0 rfl rfl; have f6 := hX.f 6 rfl; have l6 := hX.lt 6 rfl; have c7 := hX.c 7 0 rfl rfl; have f7 := hX.f 7 rfl; have l7 := hX.lt 7 rfl
        clear hX hLl hz hXx hXd
        gi_wp2_with fail
        refine Lx.regionIn (C := fun _ => True) (hs := []) (by kernel_rfl) (by kernel_rfl) (by kernel_rfl) trivial ?_
        repeat' (first
          | (refine Lx.lex_no (Lx.n1 rfl rfl rfl (by with_reducible rfl)) (fun K hK => ?_); go_simp; refine hK _ ?_; clear hK K)
          | (refine Lx.lex_no (Lx.n0 rfl rfl rfl (by with_reducible rfl)) (fun K hK => ?_); go_simp; refine hK _ ?_; clear hK K)
          | (refine Lx.lex_no (Lx.n2 rfl rfl rfl) (fun K hK => ?_); go_simp; refine hK _ ?_; clear hK K)
          | (refine Lx.lex_pure (v := ?_) rfl (by first | exact Lx.w0 rfl | exact Lx.w1 rfl rfl rfl (by with_reducible rfl)) ?_ (fun K hK => ?_); rotate_left 1; (intro w' hCw; (try dsimp only at hCw); go_simp; done); go_simp; refine hK _ ?_; clear hK K)
          | (refine Lx.lex_pure (v := ?_) rfl (by first | exact Lx.w0 rfl | exact Lx.w1 rfl rfl rfl (by with_reducible rfl)) ?_ (fun K hK => ?_); rotate_left 1; (intro w' hCw; (try dsimp only at hCw); go_simp; with_reducible rfl); go_simp; refine hK _ ?_; clear hK K)
          | (refine Lx.lex_read (v := ?_) rfl (by first | exact Lx.w0 rfl | exact Lx.w1 rfl rfl rfl (by with_reducible rfl)) ?_ (fun K hK => ?_); rotate_left 1; (go_simp; done); go_simp; refine hK _ ?_; clear hK K)
          | (refine Lx.lex_read (v := ?_) rfl (by first | exact Lx.w0 rfl | exact Lx.w1 rfl rfl rfl (by with_reducible rfl)) ?_ (fun K hK => ?_); rotate_left 1; (go_simp; with_reducible rfl); go_simp; refine hK _ ?_; clear hK K)
          | (refine Lx.lex_eff rfl (by first | exact Lx.w0 rfl | exact Lx.w1 rfl rfl rfl (by with_reducible rfl)) (fun K hK => ?_); go_simp; (first | fail | skip); refine hK _ _ (trivial) ?_; clear hK K)
          | (refine Lx.lex_cases rfl rfl rfl (fun hgd K hK => ?_) (fun hgd K hK => ?_) <;> (try simp only [decide_eq_true_eq, decide_eq_false_iff_not] at hgd) <;> (first | (exfalso; omega) | (go_simp; refine hK _ ?_; clear hK K))))
        all_goals (refine Lx.lex_nil ?_)
        by_cases hjj : jx = jp
        · have d0 : decide ((jx : Int) = (jp : Int)) = true := decide_eq_true (by omega)
          rw [if_neg (by omega)] at HB
          have j3 : ¬ ((jx : Int) ≠ (jp : Int)) := by omega
          clear hjj
          gi_wp2_with fail
          refine ⟨_, HSN.out.symm, ?_⟩
          rw [HB.out]
          exact HX.out.drew
        · have d0 : decide ((jx : Int) = (jp : Int)) = false := decide_eq_false (by omega)
          rw [if_pos (by omega)] at HB
          have j3 : (jx : Int) ≠ (jp : Int) := by omega
          clear hjj
          gi_wp2_with fail
          refine Lx.regionIn (C := fun _ => True) (hs := []) (by kernel_rfl) (by kernel_rfl) (by kernel_rfl) trivial ?_
          repeat' (first
            | (refine Lx.lex_no (Lx.n1 rfl rfl rfl (by with_reducible rfl)) (fun K hK => ?_); go_simp; refine hK _ ?_; clear hK K)
            | (refine Lx.lex_no (Lx.n0 rfl rfl rfl (by with_reducible rfl)) (fun K hK => ?_); go_simp; refine hK _ ?_; clear hK K)
            | (refine Lx.lex_no (Lx.n2 rfl rfl rfl) (fun K hK => ?_); go_simp; refine hK _ ?_; clear hK K)
            | (refine Lx.lex_pure (v := ?_) rfl (by first | exact Lx.w0 rfl | exact Lx.w1 rfl rfl rfl (by with_reducible rfl)) ?_ (fun K hK => ?_); rotate_left 1; (intro w' hCw; (try dsimp only at hCw); go_simp; done); go_simp; refine hK _ ?_; clear hK K)
            | (refine Lx.lex_pure (v := ?_) rfl (by first | exact Lx.w0 rfl | exact Lx.w1 rfl rfl rfl (by with_reducible rfl)) ?_ (fun K hK => ?_); rotate_left 1; (intro w' hCw; (try dsimp only at hCw); go_simp; with_reducible rfl); go_simp; refine hK _ ?_; clear hK K)
            | (refine Lx.lex_read (v := ?_) rfl (by first | exact Lx.w0 rfl | exact Lx.w1 rfl rfl rfl (by with_reducible rfl)) ?_ (fun K hK => ?_); rotate_left 1; (go_simp; done); go_simp; refine hK _ ?_; clear hK K)
            | (refine Lx.lex_read (v := ?_) rfl (by first | exact Lx.w0 rfl | exact Lx.w1 rfl rfl rfl (by with_reducible rfl)) ?_ (fun K hK => ?_); rotate_left 1; (go_simp; with_reducible rfl); go_simp; refine hK _ ?_; clear hK K)
            | (refine Lx.lex_eff rfl (by first | exact Lx.w0 rfl | exact Lx.w1 rfl rfl rfl (by with_reducible rfl)) (fun K hK => ?_); go_simp; (first | fail | skip); refine hK _ _ (trivial) ?_; clear hK K)
            | (refine Lx.lex_cases rfl rfl rfl (fun hgd K hK => ?_) (fun hgd K hK => ?_) <;> (try simp only [decide_eq_true_eq, decide_eq_false_iff_not] at hgd) <;> (first | (exfalso; omega) | (go_simp; refine hK _ ?_; clear hK K))))
          all_goals (refine Lx.lex_nil ?_)
          gi_wp2_with fail
          refine ⟨_, HSN.out.symm, ?_⟩
          rw [HB.out, wrap64_eq]
          exact (HX.out.setI 5 jx (IntKind.i64.wrap (z + 1)) rfl).drew.drew
      case done =>
        rintro D ys Y _ hys rfl hX
        have hys' : ys.map Fin.val = mem T := hys
        rw [hys', ← HST.out] at hX
        have HX := Lib.hid hX
        clear hys hys' hX
        gi_wp2_with fail
        exact ⟨_, by omega, k + 1, D :: ds, rfl, hlt, CoF1_mk, (HX.out.sub (by rw [List.append_assoc]; exact List.sublist_append_left _ _)).rebase⟩
      case stop =>
        rintro D c pre X _ _ h _
        exact h.elim
    · obtain rfl : k = S.length := by omega
      clear hP
      gi_upto_region 12 with fail
      obtain ⟨V5, hV5⟩ : ∃ V5, V5 = W.alloc (.cells #[.slice none 0 0] 52) := ⟨_, rfl⟩
      have hP5 := (HP.out.alloc1 (.slice none 0 0) 52).nil 36 1
      rw [← hV5] at hP5 ⊢
      have HP5 := Lib.hid hP5
      have HBL := Lib.hid (below_in P.length V5 (by omega))
      unfold sV at HBL
      have c3 := hP5.c 3 0 rfl rfl; have f3 := hP5.f 3 rfl; have l3 := hP5.lt 3 rfl
      clear hV5 hP5 HP
      generalize W.heap.size = p9 at *
      gi_wp2_with fail
      refine ⟨trivial, (callsIn_wide.2 HBL.out).mono ?_⟩
      rintro e W6 ⟨rfl, hb6⟩
      obtain ⟨V6, hV6⟩ : ∃ V6, V6 = W6.alloc (.cells (sL (2 ^ P.length - 1)).toArray 40) := ⟨_, rfl⟩
      have hP6 := (HP5.out.keep hb6).allocS (2 ^ P.length - 1) 40
      rw [← hV6] at hP6
      unfold sL at hV6
      have HP6 := Lib.hid hP6
      clear hb6 HP5 HBL c3 f3 l3
      have c3 := hP6.c 3 0 rfl rfl; have f3 := hP6.f 3 rfl; have l3 := hP6.lt 3 rfl
      clear hP6
      gi_upto_region 13 with fail
      rw [← hV6]
      clear hV6
      generalize W6.heap.size = p10 at *
      gi_wp2_with fail
      clear c3 f3 l3
      refine wpIn_loop_ghost (fun m a W => ∃ (k : Nat) (cs : List ((Option Addr × Nat × Nat) × List Nat)) (v9 : Value) (ds : List Nat), m = P.length - k ∧ k ≤ P.length ∧ cs.map Prod.snd = (compK S X P k).2.1 ∧ CoF2 w.heap.size p3 p4 p5 p9 p10 P.length k ds a ∧ Hp w W W (CoL (⟨w.heap.size, p3, p4, p5, p9, p10, A6, gI, gb, S.length, .slice AP P.length cP, P, X⟩ : Cp) (compK S X P k).2.2 (compK S X P k).1 v9 cs ++ exL cs) ds) (P.length - 0) ?start2 ?round2
      case start2 => exact ⟨0, [], _, ds, rfl, Nat.zero_le _, rfl, CoF2_mk, HP6.out.rebase⟩
      case round2 =>
        clear HP6
        rintro m a W ⟨k, cs, v9, ds, rfl, hk, hcs, ⟨u2, rfl⟩, hP⟩
        have HP := Lib.hid hP
        have HCS := Lib.hid hcs
        obtain ⟨A9, c9, rfl⟩ := hP.form 8 rfl
        by_cases hlt : k < P.length
        · have j0 : (k : Int) < (P.length : Int) := by omega
          have HST := Eqn.mk (show compK S X P (k + 1) = compStep S X P (compK S X P k) from rfl)
          have HOK := Lib.hid (compK_ok S X P k)
          have e1 : IntKind.i64.wrap ((k : Int) + 1) = (k : Int) + 1 := IntWalk.i64_in _ (by omega)
          generalize compK S X P k = st at *
          obtain ⟨left, L0, inc⟩ := st
          dsimp only at HP hP HOK HCS HST hcs
          have HLF := Lib.hid (fit_lt (by omega) HOK.out.1)
          obtain ⟨c9_0, c9_1, c9_2, c9_3, c9_4, c9_5, c9_6, c9_7⟩ := (hP.blk 9 rfl).eight; have f9 := hP.f 9 rfl; have l9 := hP.lt 9 rfl
          clear hP hcs
          gi_wp2_with fail
          refine ⟨trivial, (callsIn_wide.2 (HA.out left _)).mono ?_⟩
          rintro e WE ⟨rfl, hWE⟩
          have HPE := Lib.hid ((HP.out.allocS left 40).perm (perm_in _ _ _))
          rw [← hWE] at HPE
          clear hWE c9_0 c9_1 c9_2 c9_3 c9_4 c9_5 c9_6 c9_7 f9 l9
          generalize W.heap.size = Bn at *
          gi_wp2_with fail
          refine hp_rangeC (w := w) (ds := ds) (σ := Nat × List Int × Value × List ((Option Addr × Nat × Nat) × List Nat)) ((CoL (⟨w.heap.size, p3, p4, p5, p9, p10, A6, gI, gb, S.length, .slice AP P.length cP, P, X⟩ : Cp) inc left (.slice A9 cs.length c9) cs ++ [.blk Bn 40 (tabL 8 (sC left))]) ++ exL cs)
            (CoR inc) (fun s => CoL (⟨w.heap.size, p3, p4, p5, p9, p10, A6, gI, gb, S.length, .slice AP P.length cP, P, X⟩ : Cp) s.2.1 s.1 s.2.2.1 s.2.2.2 ++ exL s.2.2.2)
            (CoE S X P left inc cs)
            10 ?a6 3 (fun x => .int .i64 (x.1 : Int)) (by decide)
            (gf := 63) (lb := #[.pointer (some ⟨Bn, 0, none⟩)]) rfl (enters_of Tryd.func63 (by kernel_rfl) rfl) (all_stopsF P.length 6 (by decide) Bn w.heap.size left HLF.out (fun x hx => HOK.out.1 x (mem_tb hx)) h4 WE (HPE.out.blk 10 rfl) (HT.out.keep HPE.out.below)) rfl (Nat.le_refl _) (fun _ => rfl) (fun q hq => by cases hq) HPE.out rfl ?assign6 ?body6 ?done6 ?stop6
          case assign6 =>
            intro l x p X K hp hK
            gi_wp2
            rw [← hp]
            exact hK
          case body6 =>
            rintro l pre x p12 Y hrec hR hX hlen
            have hX2 := hX.perm (perm_in _ _ _)
            have HX := Lib.hid hX2
            have HR := Lib.hid hR
            have HREC := Lib.hid hrec
            have hxn := x.2
            obtain ⟨z, hz⟩ : ∃ z, inc[x.1]? = some z := ⟨_, List.getElem?_eq_getElem (by have := HOK.out.2.1; omega)⟩
            have HZ : Hid (inc.getD x.1 0 = z) := Lib.hid (by rw [List.getD_eq_getElem?_getD, hz]; rfl)
            have j1 : (x.1 : Int) < (P.length : Int) := by omega
            have cI := hX2.cI 5 x.1 rfl hz
            have lI := hX2.lt 5 rfl
            have c6 := hX2.c 6 0 rfl rfl; have f6 := hX2.f 6 rfl; have l6 := hX2.lt 6 rfl; have c11 := hX2.c 11 0 rfl rfl; have f11 := hX2.f 11 rfl; have l11 := hX2.lt 11 rfl; obtain ⟨c9_0, c9_1, c9_2, c9_3, c9_4, c9_5, c9_6, c9_7⟩ := (hX2.blk 9 rfl).eight; have f9 := hX2.f 9 rfl; have l9 := hX2.lt 9 rfl
            clear hX hX2 hR hrec hz
            generalize hxv : x.1 = xn at *
            have HXV := Lib.hid hxv
            clear hxv
            by_cases hz0 : 0 < z
            · have HZ0 := Lib.hid hz0
              gi_wp2_with fail
              show CoR inc (pre ++ [x]) ∧ Hp w Y Y ((CoL (⟨w.heap.size, p3, p4, p5, p9, p10, A6, gI, gb, S.length, .slice AP P.length cP, P, X⟩ : Cp) inc left (.slice A9 cs.length c9) cs ++ [.blk Bn 40 (tabL 8 (sC left))]) ++ exL cs) ds
              refine ⟨fun q hq => ?_, HX.out.sub (List.sublist_append_left _ _ |>.append_right _)⟩
              rcases List.mem_append.1 hq with h | h
              · exact HR.out q h
              · rw [List.mem_singleton] at h
                subst h
                rw [HXV.out, HZ.out]
                have := HZ0.out
                omega
            · have HZ0 := Lib.hid hz0
              have HRX := HRM.out left (xn : Int) Y (by omega)
              rw [Int.toNat_natCast] at HRX
              replace HRX := Lib.hid HRX
              obtain ⟨T, hT⟩ : ∃ T, P[xn]? = some T := ⟨_, List.getElem?_eq_getElem hxn⟩
              have HTT : Hid (P[xn]? = some T ∧ T ∈ P ∧ P.getD xn 0 = T) := Lib.hid ⟨hT, List.mem_of_getElem? hT, by rw [List.getD_eq_getElem?_getD, hT]; rfl⟩
              have HTF : Hid (Fit T) := Lib.hid (fit_lt h512 (HPL.out T HTT.out.2.1))
              obtain ⟨gP, cP', hAP, _⟩ := HX.out.rowSet 1 xn rfl hT
              injection hAP with hAP _ hc
              subst hAP hc
              generalize hl2 : mi left (2 ^ xn) = left2 at *
              have HL2 := Lib.hid hl2
              clear hl2
              clear hT hz0
              gi_wp2_with fail
              refine ⟨trivial, (CallsIn.inRound l (callsIn_wide.2 HRX.out)).mono ?_⟩
              rintro e W7 ⟨rfl, hb7⟩
              have hP7 := HX.out.keep hb7
              have HP7 := Lib.hid hP7
              clear hb7 c6 f6 l6 c11 f11 l11 c9_0 c9_1 c9_2 c9_3 c9_4 c9_5 c9_6 c9_7 f9 l9
              clear cI lI
              obtain ⟨c9_0, c9_1, c9_2, c9_3, c9_4, c9_5, c9_6, c9_7⟩ := (hP7.blk 9 rfl).eight; have f9 := hP7.f 9 rfl; have l9 := hP7.lt 9 rfl
              clear hP7
              gi_upto_region 19 with fail
              obtain ⟨V8, hV8⟩ : ∃ V8, V8 = set8 W7 p10 left2 := ⟨_, rfl⟩
              have hP8 : Hp w Y V8 (((CoL (⟨w.heap.size, p3, p4, p5, p9, p10, A6, gI, gb, S.length, .slice (some ⟨gP, 0, none⟩) P.length cP, P, X⟩ : Cp) inc left2 (.slice A9 cs.length c9) cs ++ [.blk Bn 40 (tabL 8 (sC left))]) ++ [.blk p12 3 [.int .i64 (xn : Int)]]) ++ exL cs) ds := by rw [hV8]; exact HP7.out.set8 9 left2 rfl
              have HP8 := Lib.hid hP8
              unfold set8 at hV8
              rw [← hV8]
              obtain ⟨gP', cP'', hAP', y0, y1, y2, y3, y4, y5, y6, y7, y8⟩ := hP8.rowSet 1 xn rfl HTT.out.1
              injection hAP' with hAP' _ hc
              injection hAP' with hAP'
              injection hAP' with hAP'
              subst hAP' hc
              clear hV8 HP7 c9_0 c9_1 c9_2 c9_3 c9_4 c9_5 c9_6 c9_7 f9 l9
              have c3 := hP8.c 3 0 rfl rfl; have f3 := hP8.f 3 rfl; have l3 := hP8.lt 3 rfl; have c7 := hP8.c 7 0 rfl rfl; have f7 := hP8.f 7 rfl; have l7 := hP8.lt 7 rfl; have c11 := hP8.c 11 0 rfl rfl; have f11 := hP8.f 11 rfl; have l11 := hP8.lt 11 rfl
              clear hP8
              have hcl : cs.length ≤ k := by have h1 := congrArg List.length HCS.out; rw [List.length_map] at h1; have := HOK.out.2.2; omega
              have HLX := Lib.hid (fun W hW => HLI.out T W HTF.out (HT.out.keep hW))
              refine Lx.regionTIn (C := fun W' => W'.cell? ⟨p9, 0, none⟩ = some (.slice A9 cs.length c9)) (C' := fun _ => True) (hs := [0]) 8 (List.take 8 _) (List.drop 8 _) (List.take_append_drop 8 _).symm rfl (by kernel_rfl) (by kernel_rfl) (by kernel_rfl) (by kernel_rfl) c7 ?_
              simp only [List.take_succ_cons, List.take_zero, List.drop_succ_cons, List.drop_zero]
              repeat' (first
                | (refine Lx.lex_no (Lx.n1 rfl rfl rfl (by with_reducible rfl)) (fun K hK => ?_); go_simp; skip; refine hK _ ?_; clear hK K)
                | (refine Lx.lex_no (Lx.n0 rfl rfl rfl (by with_reducible rfl)) (fun K hK => ?_); go_simp; skip; refine hK _ ?_; clear hK K)
                | (refine Lx.lex_no (Lx.n2 rfl rfl rfl) (fun K hK => ?_); go_simp; skip; refine hK _ ?_; clear hK K)
                | (refine Lx.lex_pure (v := ?_) rfl (by first | exact Lx.w0 rfl | exact Lx.w1 rfl rfl rfl (by with_reducible rfl)) ?_ (fun K hK => ?_); rotate_left 1; (intro w' hCw; (try dsimp only at hCw); go_simp; first | done | with_reducible rfl); go_simp; skip; refine hK _ ?_; clear hK K)
                | (refine Lx.lex_read (v := ?_) rfl (by first | exact Lx.w0 rfl | exact Lx.w1 rfl rfl rfl (by with_reducible rfl)) ?_ (fun K hK => ?_); rotate_left 1; (go_simp; first | done | with_reducible rfl); go_simp; skip; refine hK _ ?_; clear hK K)
                | (refine Lx.lex_eff rfl (by first | exact Lx.w0 rfl | exact Lx.w1 rfl rfl rfl (by with_reducible rfl)) (fun K hK => ?_); go_simp; (first | (go_at_call 22; refine (HLX.out _ HP8.out.drew.below).mono ?_; rintro e W9 ⟨vL, rfl, hown, hb9⟩; rw [show (memI T).length = (mem T).length by simp [memI]] at hown; obtain ⟨AL, cL, rfl⟩ := ((Hp.start V8.drew).pushRow hb9 hown).form 0 rfl; have hP9 := HP8.out.drew.pushRow hb9 hown; have HP9 := Lib.hid hP9; have hC9 := hP9.c 7 0 rfl rfl; have HC10 := Lib.hid ((hP9.alloc1 (.slice AL (mem T).length cL) 36).c 7 0 rfl rfl); clear hown hb9 hP9) | skip); refine hK _ _ (by first | with_reducible exact hC9 | with_reducible exact HC10.out) ?_; clear hK K))
              refine Lx.lex_append rfl rfl _ _ 52 rfl w.heap.size 36 s0 (.slice none 0 0) 1 24 Tryd.underlying52 si sz0 sz1 sz2 rfl (by decide) _ _ _ rfl ((HP9.out.row 8 rfl).alloc _) ⟨W9.heap.size, 0, none⟩ 1 1 [.slice AL (mem T).length cL] rfl rfl (cell_one_new _ _ _) (by simp [Value.oneCell']) (by unfold maxLen; omega) (by omega) (by have := HP9.out.below.size; simp; omega) ?_
              intro v' w11 hown' hgrow hat
              have hP11 := (HP9.out.alloc0 _).grow 8 rfl hgrow hown' hat
              obtain ⟨A11, q11, rfl⟩ := hP11.form 8 rfl
              refine ⟨hP11.c 7 0 rfl rfl, ?_⟩
              have HP11 := Lib.hid hP11
              obtain ⟨cs2, hcs2⟩ : ∃ cs2, cs2 = cs ++ [((AL, (mem T).length, cL), mem T)] := ⟨_, rfl⟩
              obtain ⟨V12, hV12⟩ : ∃ V12, V12 = w11.setCell ⟨p9, 0, none⟩ (.slice A11 (cs.length + 1) q11) := ⟨_, rfl⟩
              have hP12 : Hp w Y V12 (((CoL (⟨w.heap.size, p3, p4, p5, p9, p10, A6, gI, gb, S.length, .slice (some ⟨gP, 0, none⟩) P.length cP, P, X⟩ : Cp) inc left2 (.slice A11 (cs.length + 1) q11) cs2 ++ [.blk Bn 40 (tabL 8 (sC left))]) ++ [.blk p12 3 [.int .i64 (xn : Int)]]) ++ exL cs2) ds := by
                rw [hV12, hcs2]
                simp only [CoL, exL, List.length_append, List.map_append, List.length_singleton, List.map_cons, List.map_nil]
                exact HP11.out.set 7 0 (.slice A11 (cs.length + 1) q11) rfl
              have HP12 := Lib.hid hP12
              have HC2 := Lib.hid hcs2
              have c9' : w11.cell? ⟨p9, 0, none⟩ = some (.slice A9 cs.length c9) := hP11.c 7 0 rfl rfl
              have f9 : ∀ o, w11.frozen? ⟨p9, o, none⟩ = false := hP11.f 7 rfl
              have l9 : p9 < w11.heap.size := hP11.lt 7 rfl
              clear hP11 hown' hgrow hat hcs2 hC9
              refine Lx.lex_nil ⟨trivial, ?_⟩
              go_simp
              repeat' (first
                | (refine Lx.lex_no (Lx.n1 rfl rfl rfl (by with_reducible rfl)) (fun K hK => ?_); go_simp; skip; refine hK _ ?_; clear hK K)
                | (refine Lx.lex_no (Lx.n0 rfl rfl rfl (by with_reducible rfl)) (fun K hK => ?_); go_simp; skip; refine hK _ ?_; clear hK K)
                | (refine Lx.lex_no (Lx.n2 rfl rfl rfl) (fun K hK => ?_); go_simp; skip; refine hK _ ?_; clear hK K)
                | (refine Lx.lex_pure (v := ?_) rfl (by first | exact Lx.w0 rfl | exact Lx.w1 rfl rfl rfl (by with_reducible rfl)) ?_ (fun K hK => ?_); rotate_left 1; (intro w' hCw; (try dsimp only at hCw); go_simp; first | done | with_reducible rfl); go_simp; skip; refine hK _ ?_; clear hK K)
                | (refine Lx.lex_read (v := ?_) rfl (by first | exact Lx.w0 rfl | exact Lx.w1 rfl rfl rfl (by with_reducible rfl)) ?_ (fun K hK => ?_); rotate_left 1; (go_simp; first | done | with_reducible rfl); go_simp; skip; refine hK _ ?_; clear hK K)
                | (refine Lx.lex_eff rfl (by first | exact Lx.w0 rfl | exact Lx.w1 rfl rfl rfl (by with_reducible rfl)) (fun K hK => ?_); go_simp; (first | skip); refine hK _ _ (trivial) ?_; clear hK K))
              all_goals (refine Lx.lex_nil ?_)
              rw [← hV12]
              clear hV12 c9' f9 l9 y0 y1 y2 y3 y4 y5 y6 y7 y8 c3 f3 l3 c7 f7 l7 c11 f11 l11
              obtain ⟨gP', cP'', hAP', y0, y1, y2, y3, y4, y5, y6, y7, y8⟩ := hP12.rowSet 1 xn rfl HTT.out.1
              injection hAP' with hAP' _ hc
              injection hAP' with hAP'
              injection hAP' with hAP'
              subst hAP' hc
              have c3 := hP12.c 3 0 rfl rfl; have f3 := hP12.f 3 rfl; have l3 := hP12.lt 3 rfl; have c11 := hP12.c 11 0 rfl rfl; have f11 := hP12.f 11 rfl; have l11 := hP12.lt 11 rfl
              clear hP12
              gi_wp2_with fail
              refine ⟨trivial, (CallsIn.inRound l (callsIn_wide.2 (HA.out T _))).mono ?_⟩
              rintro e WE2 ⟨rfl, hWE⟩
              have HPE2 := Lib.hid ((HP12.out.allocS T 40).perm (perm_in _ _ _))
              rw [← hWE] at HPE2
              clear hWE y0 y1 y2 y3 y4 y5 y6 y7 y8 c3 f3 l3 c11 f11 l11
              generalize V12.heap.size = B2 at *
              have hrec2 : ∃ r, WE2.heap[l]? = some (.loop r) := by obtain ⟨r, hr⟩ := HREC.out; exact ⟨r, HPE2.out.since.same l _ hr rfl⟩
              gi_wp2_with fail
              refine hp_rangeN (w := w) (ds := ds) (σ := List Int) (fun I => ((((CoL (⟨w.heap.size, p3, p4, p5, p9, p10, A6, gI, gb, S.length, .slice (some ⟨gP, 0, none⟩) P.length cP, P, X⟩ : Cp) I left2 (.slice A11 (cs.length + 1) q11) cs2 ++ [.blk Bn 40 (tabL 8 (sC left))]) ++ [.blk p12 3 [.int .i64 (xn : Int)]]) ++ [.blk B2 40 (tabL 8 (sC T))]) ++ exL cs2)) (fun pre I => I = (pre.map Fin.val).foldl (downP S X T) inc) (fun _ _ _ => False) 12 ?a8 (by decide) hrec2
                (gf := 63) (lb := #[.pointer (some ⟨B2, 0, none⟩)]) rfl (enters_of Tryd.func63 (by kernel_rfl) rfl) (all_stopsF S.length 4 (by decide) B2 w.heap.size T HTF.out (fun x hx => HPL.out T HTT.out.2.1 x (mem_tb hx)) h4 WE2 (HPE2.out.blk 12 rfl) (HT.out.keep HPE2.out.below)) rfl (Nat.le_refl _) (fun _ => rfl) inc rfl HPE2.out (fun _ => rfl) ?assign8 ?body8 ?done8 ?stop8
              case assign8 =>
                intro l x X K hK
                gi_wp2
                exact hK
              case body8 =>
                rintro l2 pre2 x2 Y2 _ hrecl2 rfl hX2 hlen2
                have HX2 := Lib.hid hX2
                have HREC2 := Lib.hid hrecl2
                have hx2n := x2.2
                have HSN2 : Hid (((pre2 ++ [x2]).map Fin.val).foldl (downP S X T) inc = downP S X T ((pre2.map Fin.val).foldl (downP S X T) inc) x2.1) := Lib.hid (by rw [List.map_append, List.foldl_append]; rfl)
                have HLL2 : Hid (((pre2.map Fin.val).foldl (downP S X T) inc).length = P.length) := Lib.hid (by rw [downsP_len]; exact HOK.out.2.1)
                generalize (pre2.map Fin.val).foldl (downP S X T) inc = I0 at *
                generalize x2.1 = v at *
                have j2 : (v : Int) < (S.length : Int) := by omega
                obtain ⟨R, hR⟩ : ∃ R, S[v]? = some R := ⟨_, List.getElem?_eq_getElem hx2n⟩
                have HRR : Hid (R ∈ S ∧ S.getD v 0 = R) := Lib.hid ⟨List.mem_of_getElem? hR, by rw [List.getD_eq_getElem?_getD, hR]; rfl⟩
                have HDP : Hid (downP S X T I0 v = (mem (mi R T)).foldl (downC X) I0) := Lib.hid (by unfold downP; rw [HRR.out.2])
                have hG := HG.out.keep hX2.below
                obtain ⟨_, q1, _, q3⟩ := hG.cells
                obtain ⟨z0, z1, z2, z3, z4, z5, z6, z7, z8⟩ := row_cells hG.2.1 hR
                obtain ⟨gP', cP'', hAP', y0, y1, y2, y3, y4, y5, y6, y7, y8⟩ := hX2.rowSet 1 xn rfl HTT.out.1
                injection hAP' with hAP' _ hc
                injection hAP' with hAP'
                injection hAP' with hAP'
                subst hAP' hc
                have c0 := hX2.c 0 0 rfl rfl; have f0 := hX2.f 0 rfl; have l0 := hX2.lt 0 rfl; have c3 := hX2.c 3 0 rfl rfl; have f3 := hX2.f 3 rfl; have l3 := hX2.lt 3 rfl; have c11 := hX2.c 11 0 rfl rfl; have f11 := hX2.f 11 rfl; have l11 := hX2.lt 11 rfl
                clear hX2 hrecl2 hG hR
                have HMX := Lib.hid (fun W => HMI.out R T W)
                have HMF : Hid (Fit (mi R T) ∧ ∀ x ∈ mem (mi R T), x < S.length) := Lib.hid ⟨mi_lt _ (HF.out R HRR.out.1), fun x hx => by have := mem_tb hx; rw [mi_tb, Bool.and_eq_true] at this; exact HI.out R HRR.out.1 x this.1⟩
                generalize mi R T = M at *
                gi_wp2_with fail
                refine Lx.regionIn (C := fun _ => True) (hs := []) (by kernel_rfl) (by kernel_rfl) (by kernel_rfl) trivial ?_
                repeat' (first
                  | (refine Lx.lex_no (Lx.n1 rfl rfl rfl (by with_reducible rfl)) (fun K hK => ?_); go_simp; skip; refine hK _ ?_; clear hK K)
                  | (refine Lx.lex_no (Lx.n0 rfl rfl rfl (by with_reducible rfl)) (fun K hK => ?_); go_simp; skip; refine hK _ ?_; clear hK K)
                  | (refine Lx.lex_no (Lx.n2 rfl rfl rfl) (fun K hK => ?_); go_simp; skip; refine hK _ ?_; clear hK K)
                  | (refine Lx.lex_pure (v := ?_) rfl (by first | exact Lx.w0 rfl | exact Lx.w1 rfl rfl rfl (by with_reducible rfl)) ?_ (fun K hK => ?_); rotate_left 1; (intro w' hCw; (try dsimp only at hCw); go_simp; first | done | with_reducible rfl); go_simp; skip; refine hK _ ?_; clear hK K)
                  | (refine Lx.lex_read (v := ?_) rfl (by first | exact Lx.w0 rfl | exact Lx.w1 rfl rfl rfl (by with_reducible rfl)) ?_ (fun K hK => ?_); rotate_left 1; (go_simp; first | done | with_reducible rfl); go_simp; skip; refine hK _ ?_; clear hK K)
                  | (refine Lx.lex_eff rfl (by first | exact Lx.w0 rfl | exact Lx.w1 rfl rfl rfl (by with_reducible rfl)) (fun K hK => ?_); go_simp; (first | (go_at_call 52; refine (HMX.out _).mono ?_; rintro e W14 ⟨rfl, hb14⟩; have HP14 := Lib.hid (HX2.out.drew.keep hb14); clear hb14) | (go_at_call 46; refine (HA.out M _).mono ?_; rintro e WE3 ⟨rfl, hWE⟩) | skip); refine hK _ _ (trivial) ?_; clear hK K))
                all_goals (refine Lx.lex_nil ?_)
                have HPE3 := Lib.hid ((HP14.out.allocS M 40).perm (perm_in _ _ _))
                rw [← hWE] at HPE3
                clear hWE q1 q3 y0 y1 y2 y3 y4 y5 y6 y7 y8 z0 z1 z2 z3 z4 z5 z6 z7 z8 c0 f0 l0 c3 f3 l3 c11 f11 l11
                generalize W14.heap.size = B3 at *
                have hrec3 : ∃ r, WE3.heap[l2]? = some (.loop r) := by obtain ⟨r, hr⟩ := HREC2.out; exact ⟨r, HPE3.out.since.same l2 _ hr rfl⟩
                gi_wp2_with fail
                refine hp_rangeN (w := w) (ds := ds) (σ := List Int) (fun I => (((((CoL (⟨w.heap.size, p3, p4, p5, p9, p10, A6, gI, gb, S.length, .slice (some ⟨gP, 0, none⟩) P.length cP, P, X⟩ : Cp) I left2 (.slice A11 (cs.length + 1) q11) cs2 ++ [.blk Bn 40 (tabL 8 (sC left))]) ++ [.blk p12 3 [.int .i64 (xn : Int)]]) ++ [.blk B2 40 (tabL 8 (sC T))]) ++ [.blk B3 40 (tabL 8 (sC M))]) ++ exL cs2)) (fun pre I => I = (pre.map Fin.val).foldl (downC X) I0) (fun _ _ _ => False) 13 ?a10 (by decide) hrec3
                  (gf := 63) (lb := #[.pointer (some ⟨B3, 0, none⟩)]) rfl (enters_of Tryd.func63 (by kernel_rfl) rfl) (all_stopsF S.length 2 (by decide) B3 w.heap.size M HMF.out.1 HMF.out.2 h4 WE3 (HPE3.out.blk 13 rfl) (HT.out.keep HPE3.out.below)) rfl (Nat.le_refl _) (fun _ => rfl) I0 rfl HPE3.out (fun _ => rfl) ?assign10 ?body10 ?done10 ?stop10
                case assign10 =>
                  intro l x X K hK
                  gi_wp2
                  exact hK
                case body10 =>
                  rintro l3 pre3 x3 Y3 _ _ rfl hX3 hlen3
                  have HX3 := Lib.hid hX3
                  have hx3n := x3.2
                  have HSN3 : Hid (((pre3 ++ [x3]).map Fin.val).foldl (downC X) I0 = downC X ((pre3.map Fin.val).foldl (downC X) I0) x3.1) := Lib.hid (by rw [List.map_append, List.foldl_append]; rfl)
                  have hLl : ((pre3.map Fin.val).foldl (downC X) I0).length = P.length := by rw [downsC_len]; exact HLL2.out
                  generalize (pre3.map Fin.val).foldl (downC X) I0 = I1 at *
                  generalize x3.1 = xm at *
                  have j3 : (xm : Int) < (S.length : Int) := by omega
                  obtain ⟨jx, hjx, hXx, hXd⟩ := HXB.out (by omega) xm hx3n
                  obtain ⟨y, hy⟩ : ∃ y, I1[jx]? = some y := ⟨_, List.getElem?_eq_getElem (by omega)⟩
                  have HB : Hid (downC X I1 xm = I1.set jx (wrap64 (y - 1))) := Lib.hid (by unfold downC; rw [hXd, Int.toNat_natCast, List.getD_eq_getElem?_getD, hy]; rfl)
                  have j4 : (jx : Int) < (P.length : Int) := by omega
                  have cX := hX3.cI 2 xm rfl hXx
                  have cI := hX3.cI 5 jx rfl hy
                  have fI := hX3.f 5 rfl
                  have lI := hX3.lt 5 rfl
                  have c4 := hX3.c 4 0 rfl rfl; have f4 := hX3.f 4 rfl; have l4 := hX3.lt 4 rfl; have c6 := hX3.c 6 0 rfl rfl; have f6 := hX3.f 6 rfl; have l6 := hX3.lt 6 rfl
                  clear hX3 hLl hy hXx hXd
                  gi_wp2_with fail
                  refine Lx.regionIn (C := fun _ => True) (hs := []) (by kernel_rfl) (by kernel_rfl) (by kernel_rfl) trivial ?_
                  repeat' (first
                    | (refine Lx.lex_no (Lx.n1 rfl rfl rfl (by with_reducible rfl)) (fun K hK => ?_); go_simp; refine hK _ ?_; clear hK K)
                    | (refine Lx.lex_no (Lx.n0 rfl rfl rfl (by with_reducible rfl)) (fun K hK => ?_); go_simp; refine hK _ ?_; clear hK K)
                    | (refine Lx.lex_no (Lx.n2 rfl rfl rfl) (fun K hK => ?_); go_simp; refine hK _ ?_; clear hK K)
                    | (refine Lx.lex_pure (v := ?_) rfl (by first | exact Lx.w0 rfl | exact Lx.w1 rfl rfl rfl (by with_reducible rfl)) ?_ (fun K hK => ?_); rotate_left 1; (intro w' hCw; (try dsimp only at hCw); go_simp; done); go_simp; refine hK _ ?_; clear hK K)
                    | (refine Lx.lex_pure (v := ?_) rfl (by first | exact Lx.w0 rfl | exact Lx.w1 rfl rfl rfl (by with_reducible rfl)) ?_ (fun K hK => ?_); rotate_left 1; (intro w' hCw; (try dsimp only at hCw); go_simp; with_reducible rfl); go_simp; refine hK _ ?_; clear hK K)
                    | (refine Lx.lex_read (v := ?_) rfl (by first | exact Lx.w0 rfl | exact Lx.w1 rfl rfl rfl (by with_reducible rfl)) ?_ (fun K hK => ?_); rotate_left 1; (go_simp; done); go_simp; refine hK _ ?_; clear hK K)
                    | (refine Lx.lex_read (v := ?_) rfl (by first | exact Lx.w0 rfl | exact Lx.w1 rfl rfl rfl (by with_reducible rfl)) ?_ (fun K hK => ?_); rotate_left 1; (go_simp; with_reducible rfl); go_simp; refine hK _ ?_; clear hK K)
                    | (refine Lx.lex_eff rfl (by first | exact Lx.w0 rfl | exact Lx.w1 rfl rfl rfl (by with_reducible rfl)) (fun K hK => ?_); go_simp; (first | fail | skip); refine hK _ _ (trivial) ?_; clear hK K)
                    | (refine Lx.lex_cases rfl rfl rfl (fun hgd K hK => ?_) (fun hgd K hK => ?_) <;> (try simp only [decide_eq_true_eq, decide_eq_false_iff_not] at hgd) <;> (first | (exfalso; omega) | (go_simp; refine hK _ ?_; clear hK K))))
                  all_goals (refine Lx.lex_nil ?_)
                  gi_wp2_with fail
                  refine ⟨_, HSN3.out.symm, ?_⟩
                  rw [HB.out, wrap64_eq]
                  exact (HX3.out.setI 5 jx (IntKind.i64.wrap (y - 1)) rfl).drew
                case done10 =>
                  rintro ys Y3 _ hys rfl hX3
                  have hys' : ys.map Fin.val = mem M := hys
                  rw [hys', ← HDP.out] at hX3
                  have HX3 := Lib.hid hX3
                  clear hys hys' hX3
                  gi_wp2_with fail
                  refine ⟨_, HSN2.out.symm, ?_⟩
                  exact HX3.out.sub ((List.sublist_append_left _ _).append_right _)
                case stop10 =>
                  rintro c pre X _ _ h _
                  exact h.elim
              case done8 =>
                rintro ys Y2 _ hys rfl hX2
                have hys' : ys.map Fin.val = mem T := hys
                rw [hys'] at hX2
                have HX2 := Lib.hid hX2
                clear hys hys' hX2
                gi_wp2_with fail
                refine ⟨(left2, (mem T).foldl (downP S X T) inc, (.slice A11 (cs.length + 1) q11), cs2), ⟨rfl, pre, x, rfl, HR.out, ?_, ?_, ?_, ?_⟩, HX2.out.sub (((((List.sublist_append_left _ _).trans (List.sublist_append_left _ _)).trans (List.sublist_append_left _ _))).append_right _)⟩
                · rw [HXV.out, HZ.out]
                  have := HZ0.out
                  omega
                · rw [HXV.out, HL2.out]
                · rw [HXV.out, HTT.out.2.2]
                · rw [HXV.out, HTT.out.2.2, HC2.out, List.map_append]; rfl
              case stop8 =>
                rintro c pre X _ _ h _
                exact h.elim
          case done6 =>
            rintro D xs Y hxs hR hX
            have HX := Lib.hid hX
            have HE := comp_none (S := S) (X := X) (P := P) (left := left) (L := L0) hxs hR
            rw [← HST.out] at HE
            replace HE := Lib.hid HE
            clear hX hR hxs
            gi_wp2_with fail
            exact ⟨_, by omega, k + 1, cs, _, D :: ds, rfl, hlt, by rw [HE.out]; exact HCS.out, CoF2_mk, by rw [HE.out]; exact (HX.out.sub ((List.sublist_append_left _ _).append_right _)).rebase⟩
          case stop6 =>
            rintro D c pre Y s hpre hE hX
            have HX := Lib.hid hX
            have HE := comp_some (S := S) (X := X) (P := P) HCS.out hpre hE
            rw [← HST.out] at HE
            replace HE := Lib.hid HE
            obtain ⟨rfl, _⟩ := hE
            obtain ⟨left2, inc2, v92, cs2⟩ := s
            dsimp only at HE HX hX
            clear hX hpre
            gi_wp2_with fail
            exact ⟨_, by omega, k + 1, rfl, hlt, cs2, by rw [HE.out], _, D :: ds, CoF2_mk, by rw [HE.out]; exact HX.out.rebase⟩
        · obtain rfl : k = P.length := by omega
          have c7 := hP.c 7 0 rfl rfl; have f7 := hP.f 7 rfl; have l7 := hP.lt 7 rfl
          clear hP hcs
          gi_wp2_with fail
          show LeavesInM _ _ _ _ _ _ (marksOf ds) .returning _
          refine hp_leaves (fun Y hY => ?_) _ _ _ (HP.out.sub (L' := .row (.slice A9 cs.length c9) 36 1 cs.length (cs.map fun x => sv x.1) :: exL cs) ?_)
          · refine ⟨.slice A9 cs.length c9, by simp [results, Tryd.results29, go_sem], A9, c9, cs, rfl, ?_, ⟨hY.below, keeps_below hY.below, hY.all, hY.low, hY.apart, hY.marks, hY.nodup⟩⟩
            rw [HCF.out, ← HCS.out]
          · exact List.Sublist.append_right (l₁ := [_]) (by unfold CoL; simp) (exL cs)
end Go.Proofs.YtpaakgngoocjeaaDoor
