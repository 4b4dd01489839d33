/- DigraphPaths: the longest paths and the transitive reduction, or the errors, are those of the reference, whatever the number of vertices and the arcs. -/
import Derived.Test.YtpaakgngoocjeaaDoorDig16
/- Order of digraph over a graph of a list: the two ways out, with the reference's cycle. -/
namespace Go.Proofs.YtpaakgngoocjeaaDoor
open Go.RowKit

theorem idxGo_spec : ∀ (P : List Nat) (k j T : Nat), P[j]? = some T → 1 < (mem T).length → (∀ (i U : Nat), i < j → P[i]? = some U → ¬ 1 < (mem U).length) → idxGo P k = ((k + j : Nat) : Int) := by
  intro P
  induction P with
  | nil => intro k j T h; simp at h
  | cons X r ih =>
    intro k j T h h1 h2
    unfold idxGo
    cases j with
    | zero => cases h; rw [if_pos h1]; rfl
    | succ j =>
      rw [if_neg (h2 0 X (by omega) rfl), ih (k + 1) j T h h1 (fun i U hi hU => h2 (i + 1) U (by omega) hU)]
      omega
section
variable {S : List Nat} (hI : InG S) (h512 : S.length ≤ 512)
include hI h512
theorem part_two {v : Nat} (hv : v < S.length) : 2 ≤ (partL S v).length ↔ ∃ u, u ≠ v ∧ Sc S v u := by
  have hs := partL_sorted (S := S) v
  have hm := fun u => partL_mem hI h512 (w := u) hv
  have hself := partL_self hI h512 hv
  constructor
  · intro h
    cases hp : partL S v with
    | nil => rw [hp] at h; simp at h
    | cons a r =>
      cases r with
      | nil => rw [hp] at h; simp at h
      | cons b q =>
        rw [hp] at hs hm
        have hab := (List.pairwise_cons.1 hs).1 b (by simp)
        by_cases ha : a = v
        · exact ⟨b, by omega, (hm b).1 (by simp)⟩
        · exact ⟨a, ha, (hm a).1 (by simp)⟩
  · rintro ⟨u, hu, hsc⟩
    have h1 := (hm u).2 hsc
    cases hp : partL S v with
    | nil => rw [hp] at h1; cases h1
    | cons a r =>
      cases r with
      | nil =>
        rw [hp, List.mem_singleton] at h1 hself
        omega
      | cons b q => simp
theorem acyc_small (h : Acyc S) : ∀ v, v < S.length → (partL S v).length < 2 := by
  intro v hv
  rcases Nat.lt_or_ge (partL S v).length 2 with h1 | h1
  · exact h1
  · obtain ⟨u, h2, h3⟩ := (part_two hI h512 hv).1 h1
    exact absurd (h v u hv h3) h2
/-- the first vertex of a cycle -/
theorem first_ex (h : ¬ Acyc S) : ∃ t, t < S.length ∧ 2 ≤ (partL S t).length ∧ (∀ v, v < t → (partL S v).length < 2) ∧ isL S t = true := by
  have : ∃ v, v < S.length ∧ 2 ≤ (partL S v).length := by
    apply Classical.byContradiction
    intro hn
    refine h fun v u hv hsc => ?_
    apply Classical.byContradiction
    intro hu
    exact hn ⟨v, hv, (part_two hI h512 hv).2 ⟨u, hu, hsc⟩⟩
  obtain ⟨v0, hv0⟩ := this
  obtain ⟨t, ⟨h1, h2⟩, h3⟩ := least_ex (fun v => v < S.length ∧ 2 ≤ (partL S v).length) hv0
  refine ⟨t, h1, h2, fun v hv => ?_, (isL_iff hI h512 h1).2 fun u hu => ?_⟩
  · rcases Nat.lt_or_ge (partL S v).length 2 with h4 | h4
    · exact h4
    · exact absurd ⟨by omega, h4⟩ (h3 v hv)
  · rcases Nat.lt_or_ge u t with h4 | h4
    · refine absurd ⟨by omega, ?_⟩ (h3 u h4)
      rw [← partL_eq hI h512 h1 hu]; exact h2
    · exact h4
end
/-- the two ways out of Order -/
def OrdTwo (S : List Nat) (o C : List Nat) : Prop := Greedy S.length (Ed S) o ∧ Stuck S.length (Ed S) o ∧ RCy S C ∧ C.length ≤ 1000 ∧
  ((Acyc S ∧ o.length = S.length ∧ C = []) ∨ (¬ Acyc S ∧ o.length < S.length ∧ 2 ≤ C.length ∧ ∃ t, C[0]? = some t ∧ ∀ i x y, (C ++ [t])[i]? = some x → (C ++ [t])[i + 1]? = some y → Ed S x y))
theorem order_two {gb rb cap : Nat} {ext : List Value} {S : List Nat} {arcs : Int} (w : World) (hT : Tab w) (h : GAt w gb rb cap ext S arcs) (hI : InG S) (hN : NoLoop S) :
    ∃ o C, OrdTwo S o C ∧ ∀ W, Below w.heap.size w W → Calls Tryd.prog 31 #[.pointer (some ⟨gb, 0, none⟩)] W (TwoInts (if o.length < S.length then ([], zs C) else (zs o, [])) W) := by
  have h512 := h.2.2.2
  have hF := h.2.2.1
  obtain ⟨o, h1, h2, h3⟩ := ordF_spec hI h512 hF hN
  have ha := acyc_iff hI hN h2 h3
  have hlen := greedy_len h2
  by_cases hac : Acyc S
  · have hl := ha.2 hac
    refine ⟨o, [], ⟨h2, h3, .inl ⟨rfl, acyc_small hI h512 hac⟩, by simp, .inl ⟨hac, hl, rfl⟩⟩, fun W hb => ?_⟩
    exact gorder_any S.length o [] W (hT.keep hb) (h.keep hb) hI (by omega) h1 (fun hlt => by omega)
  · have hl : o.length < S.length := by
      rcases Nat.lt_or_ge o.length S.length with h4 | h4
      · exact h4
      · exact absurd (ha.1 (by omega)) hac
    obtain ⟨t, t1, t2, t3, t4⟩ := first_ex hI h512 hac
    obtain ⟨D, d1, d2, d3⟩ := distF_spec hI t1
    obtain ⟨C, c1, c2, c3, c4, c5, c6⟩ := cyc_ex hI hF h512 d3 hN t1 ((part_two hI h512 t1).1 t2)
    refine ⟨o, C, ⟨h2, h3, .inr ⟨t, D, t1, t3, t2, d3, c1⟩, c4, .inr ⟨hac, hl, c3, t, c5, c6⟩⟩, fun W hb => ?_⟩
    refine gorder_any S.length o (zs C) W (hT.keep hb) (h.keep hb) hI (by omega) h1 (fun _ X hX => ?_)
    have hbX := hb.trans (hX.mono hb.size)
    obtain ⟨j, hj⟩ := List.getElem?_of_mem (leads_mem.2 ⟨t1, t4⟩)
    have hps := (parts_spec hI h512 _ (Nat.le_refl _)).2.1
    have hmem : mem (orBits (partL S t)) = partL S t := mem_part hI h512 t1
    obtain ⟨tl, htl⟩ : ∃ tl, partL S t = t :: tl := by
      unfold isL at t4
      rw [beq_iff_eq] at t4
      cases hp : partL S t with
      | nil => rw [hp] at t4; cases t4
      | cons a r => rw [hp] at t4; cases t4; exact ⟨r, rfl⟩
    refine gcycle_any j t (S.length + 1) 1000 (orBits (partL S t)) tl D (zs C) X (hT.keep hbX) (h.keep hbX) hI ?_ ?_ (by rw [hmem, htl]) (fit_lt h512 (fun b hb' => partL_lt hI h512 t1 ((orBits_tb b _).1 hb'))) t1 (by omega) d1 d2 (by omega) c2
    · rw [hps, idxGo_spec _ 0 j (orBits (partL S t)) (by rw [List.getElem?_map, hj]; rfl) (by rw [hmem]; omega) ?_]
      · rw [Nat.zero_add]
      · intro i U hi hU
        rw [List.getElem?_map] at hU
        cases hli : (leads S S.length)[i]? with
        | none => rw [hli] at hU; cases hU
        | some v =>
          rw [hli] at hU
          cases hU
          have hvt : v < t := by
            have := List.pairwise_iff_getElem.1 (leads_sorted S S.length) i j (List.getElem?_eq_some_iff.1 hli).1 (List.getElem?_eq_some_iff.1 hj).1 hi
            rw [(List.getElem?_eq_some_iff.1 hli).2, (List.getElem?_eq_some_iff.1 hj).2] at this
            exact this
          rw [mem_part hI h512 (by omega)]
          have := t3 v hvt
          omega
    · rw [hps, List.getElem?_map, hj]; rfl
/-- the reference's order where there is no cycle -/
theorem flat_single (o : List Nat) : (o.map fun v => [v]).flatten = o := by
  induction o with
  | nil => rfl
  | cons x r ih => simp [ih]
end Go.Proofs.YtpaakgngoocjeaaDoor

namespace Go.Proofs.YtpaakgngoocjeaaDoor
open Go.RowKit Go.ChangeShapes Go.WideShapes Go.ChangeAt Go.Deep Go.Joins

theorem va_bounds {n : Nat} {A : List (Int × Int)} (h : VA n A) : ∀ p ∈ A, (0 ≤ p.1 ∧ p.1 < (n : Int)) ∧ 0 ≤ p.2 ∧ p.2 < (n : Int) := by
  rintro ⟨a, b⟩ hp
  have := hasA_va h (hasA_mem.2 hp)
  exact ⟨⟨this.1, this.2.1⟩, this.2.2.1, this.2.2.2.1⟩
theorem red_gat {gb rb cap n : Nat} {ext : List Value} {A : List (Int × Int)} {W : World} (hn : n ≤ 512) (hA : VA n A) (hnd : A.Nodup) (h : GAt W gb rb cap ext (redK (graphOf n A) n).1 (redK (graphOf n A) n).2) : GAt W gb rb cap ext (graphOf n (redR n A)) ((redR n A).length : Int) := by
  rw [red_graph hn hA, red_len hn hA hnd] at h; exact h
theorem redR_len (n : Nat) (A : List (Int × Int)) : (redR n A).length ≤ A.length := List.length_filter_le _ _

set_option maxRecDepth 100000 in
set_option maxHeartbeats 2000000 in
theorem digraphPaths_in (w : World) (hT : Tab w) (n : Nat) (Al : Option Addr) (m c : Nat) (l : List (Int × Int)) (hl : RowS 2 arcV w w.heap.size Al m l) (hn : n ≤ 12) (hm : m ≤ 30) :
    Calls Tryd.prog 7 #[.int .i64 n, .slice Al m c] w fun e w' => e = .returned (.bool true) ∧ Below w.heap.size w w' := by
  have HT := Lib.hid hT
  have HB := Lib.hid (build_any n Al m c l w (by omega) (by omega) hl)
  have hAl := buildK_len n l l.length
  have HVA := Lib.hid (va_build n l l.length)
  have HND := Lib.hid (nodup_build n l l.length)
  rw [show buildK n l l.length = buildA n l from rfl, hl.1] at hAl
  rw [show buildK n l l.length = buildA n l from rfl] at HVA HND
  have j0 : ¬ ((n : Int) < 0) := by omega
  have j1 : ¬ ((12 : Int) < (n : Int)) := by omega
  have j2 : ¬ ((30 : Int) < (m : Int)) := by omega
  generalize buildA n l = B at *
  clear hT hl
  go_enter Tryd.func7, Tryd.ntmps7
  go_wp2_with fail
  refine HB.out.mono ?_
  rintro e W1 ⟨gb, rb, cap, ext, vA, rfl, hP⟩
  have HP1 := Lib.hid hP
  have hG := bE_gat hP (by omega)
  have HG := Lib.hid hG
  obtain ⟨Ad, cA, rfl, hrow⟩ := bE_row hP
  have HROW := Lib.hid hrow
  clear hP hrow HB
  have hnl : NoLoop (graphOf n B) := noloop_graph HVA.out
  obtain ⟨o, C, ⟨ho1, ho2, ho3, ho4, ho5⟩, hO⟩ := order_two W1 (HT.out.keep HP1.out.below) hG (graphOf_in n B) hnl
  have HO := Lib.hid hO
  have HRC := Lib.hid (fun W hb => rcycle_any n Ad B.length cA B C W (by omega) (by omega) ((HROW.out.below hb).up hb.size) hnl ho3)
  have hll := greedy_len ho1
  rw [graphOf_len] at hll
  rcases ho5 with ⟨ha, hl, rfl⟩ | ⟨ha, hl, hC2, _⟩
  · rw [if_neg (by omega)] at HO
    have hL := glongest_ok o W1 (HT.out.keep HP1.out.below) hG (graphOf_in n B) (greedy_lt ho1).1 (by omega) (HO.out W1 (Below.refl _ _))
    have hq := lgR_eq (graphOf_in n B) (by rw [graphOf_len]; omega) (graphOf_fit (by omega) B) hnl (okA_graph HVA.out) (fun _ _ h => ed_arc h) ho1 hl
    rw [← hq] at hL
    rw [graphOf_len] at hL
    have HL := Lib.hid hL
    have HLR := Lib.hid (lgR_len n B n)
    have HRL := Lib.hid (fun W (hb : Below W1.heap.size W1 W) => rlongest_any n Ad B.length cA B W (by omega) (by omega) ((HROW.out.below hb).up hb.size) (va_bounds HVA.out))
    generalize lgR n B n = X at *
    have HRD : Hid (∀ W, Below W1.heap.size W1 W → Calls Tryd.prog 35 #[.pointer (some ⟨gb, 0, none⟩)] W (GRet (redK (graphOf n B) n).1 (redK (graphOf n B) n).2 W)) := Lib.hid (fun W hb => by
      have := greduce_ok (zs o) W (HT.out.keep (HP1.out.below.trans (hb.mono HP1.out.below.size))) (HG.out.keep hb) (graphOf_in n B) (HO.out W hb)
      rw [graphOf_len] at this; exact this)
    have HRG := Lib.hid (fun gb rb cap ext W h => red_gat (gb := gb) (rb := rb) (cap := cap) (ext := ext) (n := n) (W := W) (by omega) HVA.out HND.out h)
    have HRR := Lib.hid (fun W (hb : Below W1.heap.size W1 W) => rreduce_any n Ad B.length cA B W (by omega) (by omega) ((HROW.out.below hb).up hb.size) (va_bounds HVA.out))
    have hrl := redR_len n B
    generalize redR n B = RB at *
    clear hG ho1 ho2 ho3 ho4 ha hl hO hnl hL hq HO
    go_wp2_with fail
    refine HL.out.mono ?_
    rintro e W2 ⟨v2, rfl, hown2, hb2⟩
    dsimp only at hown2
    rw [HLR.out] at hown2
    have HQ2 := Lib.hid (((Hp.start W1).pushRow hb2 hown2))
    obtain ⟨A2, c2, rfl, hr2⟩ := row1_of_own hown2
    have HR2 := Lib.hid hr2
    have HD2 := Lib.hid (HRD.out W2 hb2)
    clear hown2 hr2 hb2 HRD HL
    go_wp2_with fail
    refine HD2.out.mono ?_
    rintro e W3 ⟨gb', rb', cap', ext', rfl, hG3, h1, h2, hb3⟩
    have HG3 := Lib.hid (HRG.out gb' rb' cap' ext' W3 hG3)
    have HQ3 := Lib.hid (HQ2.out.keep hb3)
    have HR3 := Lib.hid ((HR2.out.below hb3).up hb3.size)
    have HC3 := Lib.hid (HRC.out W3 HQ3.out.below)
    clear hG3 h1 h2 hb3 HD2 HR2 HRC
    go_wp2_with fail
    refine HC3.out.mono ?_
    rintro e W4 ⟨v4, rfl, hown4, hb4⟩
    obtain ⟨A4, c4, rfl, _⟩ := row1_of_own hown4
    have HQ4 := Lib.hid (HQ3.out.keep hb4)
    have HG4 := Lib.hid (HG3.out.keep hb4)
    have HR4 := Lib.hid ((HR3.out.below hb4).up hb4.size)
    have HL4 := Lib.hid (HRL.out W4 HQ4.out.below)
    clear hown4 hb4 HC3 HR3 HG3 HRL
    go_wp2_with fail
    refine HL4.out.mono ?_
    rintro e W5 ⟨v5, rfl, hown5, hb5⟩
    rw [HLR.out] at hown5
    obtain ⟨A5, c5, rfl, hr5⟩ := row1_of_own hown5
    have HQ5 := Lib.hid (HQ4.out.keep hb5)
    have HG5 := Lib.hid (HG4.out.keep hb5)
    have HEQ := equal_any A2 A5 n c2 n c5 W5 W5.heap.size X X (by omega) ((HR4.out.below hb5).up hb5.size) hr5
    rw [sameL_refl] at HEQ
    replace HEQ := Lib.hid HEQ
    clear hown5 hb5 hr5 HL4 HR4 HG4
    go_wp2_with fail
    refine HEQ.out.mono ?_
    rintro e W6 ⟨rfl, hb6⟩
    have HQ6 := Lib.hid (HQ5.out.keep hb6)
    have HG6 := Lib.hid (HG5.out.keep hb6)
    have HR6 := Lib.hid (HRR.out W6 HQ6.out.below)
    clear hb6 HEQ HG5 HRR
    go_wp2_with fail
    refine HR6.out.mono ?_
    rintro e W7 ⟨v7, rfl, hown7, hb7⟩
    have HQ7 := Lib.hid (HQ6.out.keep hb7)
    have HG7 := Lib.hid (HG6.out.keep hb7)
    obtain ⟨A7, c7, rfl, hr7⟩ := own_formS (f := arcV) (by decide) hown7
    have HH7 := Lib.hid (has_graph n RB (.slice A7 RB.length c7) A7 c7 W7 (by omega) (by omega) (HT.out.keep (HP1.out.below.trans (HQ7.out.below.mono HP1.out.below.size))) HG7.out rfl hr7)
    clear hown7 hb7 HR6 HG6 hr7
    go_wp2_with fail
    refine HH7.out.mono ?_
    rintro e W8 ⟨rfl, hb8⟩
    have HQ8 := Lib.hid (HQ7.out.keep hb8)
    have HH8 := Lib.hid (has_graph n B (.slice Ad B.length cA) Ad cA W8 (by omega) (by omega) (HT.out.keep (HP1.out.below.trans (HQ8.out.below.mono HP1.out.below.size))) (HG.out.keep HQ8.out.below) rfl ((HROW.out.below HQ8.out.below).up HQ8.out.below.size))
    clear hb8 HH7
    go_wp2_with fail
    refine HH8.out.mono ?_
    rintro e W9 ⟨rfl, hb9⟩
    have HB9 := Lib.hid (HP1.out.below.trans ((HQ8.out.keep hb9).below.mono HP1.out.below.size))
    clear hb9 HH8
    go_wp2_with fail
    refine (known_any _ (HT.out.keep HB9.out)).mono ?_
    rintro e Wa ⟨rfl, hba⟩
    have HBa := Lib.hid (HB9.out.trans (hba.mono HB9.out.size))
    clear hba
    go_wp2_with fail
    go_ret
    exact ⟨rfl, HBa.out⟩
  · rw [if_pos hl] at HO
    have HL := Lib.hid (glongest_cyc (zs C) W1 hG (by rw [zs_len]; omega) (HO.out W1 (Below.refl _ _)))
    have HRD := Lib.hid (fun W hb => greduce_cyc (zs C) W (HG.out.keep hb) (by rw [zs_len]; omega) (HO.out W hb))
    have hC0 : (0 : Int) < (C.length : Int) := by omega
    clear hG ho1 ho2 ho3 ha hl hO hnl hC2 HO HG
    go_wp2_with fail
    refine HL.out.mono ?_
    rintro e W2 ⟨rfl, hb2⟩
    have HQ2 := Lib.hid ((Hp.start W1).keep hb2)
    have HD2 := Lib.hid (HRD.out W2 hb2)
    clear hb2 HRD HL
    go_wp2_with fail
    refine HD2.out.mono ?_
    rintro e W3 ⟨rfl, hb3⟩
    have HQ3 := Lib.hid (HQ2.out.keep hb3)
    have HC3 := Lib.hid (HRC.out W3 HQ3.out.below)
    clear hb3 HD2 HRC
    go_wp2_with fail
    refine HC3.out.mono ?_
    rintro e W4 ⟨v4, rfl, hown4, hb4⟩
    rw [zs_len] at hown4
    obtain ⟨A4, c4, rfl, _⟩ := row1_of_own hown4
    have HB4 := Lib.hid (HP1.out.below.trans ((HQ3.out.keep hb4).below.mono HP1.out.below.size))
    clear hown4 hb4 HC3
    go_wp2_with fail
    refine (known_any _ (HT.out.keep HB4.out)).mono ?_
    rintro e W5 ⟨rfl, hb5⟩
    have HB5 := Lib.hid (HB4.out.trans (hb5.mono HB4.out.size))
    clear hb5
    go_wp2_with fail
    go_ret
    exact ⟨rfl, HB5.out⟩
set_option maxRecDepth 100000 in
theorem digraphPaths_out (w : World) (hT : Tab w) (n : Int) (A : Option Addr) (m c : Nat) (h : ¬ (0 ≤ n ∧ n ≤ 12 ∧ (m : Int) ≤ 30)) :
    Calls Tryd.prog 7 #[.int .i64 n, .slice A m c] w fun e w' => e = .returned (.bool true) ∧ Below w.heap.size w w' := by
  have HK := Lib.hid (known_any w hT)
  clear hT
  by_cases h0 : n < 0
  · clear h
    go_enter Tryd.func7, Tryd.ntmps7
    go_wp2_with fail
    refine HK.out.mono ?_
    rintro e W1 ⟨rfl, hb1⟩
    have HB1 := Lib.hid hb1
    clear hb1
    go_wp2_with fail
    go_ret
    exact ⟨rfl, HB1.out⟩
  · by_cases h1 : 12 < n
    · clear h
      go_enter Tryd.func7, Tryd.ntmps7
      go_wp2_with fail
      refine HK.out.mono ?_
      rintro e W1 ⟨rfl, hb1⟩
      have HB1 := Lib.hid hb1
      clear hb1
      go_wp2_with fail
      go_ret
      exact ⟨rfl, HB1.out⟩
    · have h2 : (30 : Int) < (m : Int) := by omega
      clear h
      go_enter Tryd.func7, Tryd.ntmps7
      go_wp2_with fail
      refine HK.out.mono ?_
      rintro e W1 ⟨rfl, hb1⟩
      have HB1 := Lib.hid hb1
      clear hb1
      go_wp2_with fail
      go_ret
      exact ⟨rfl, HB1.out⟩
theorem digraphPaths_walk (w : World) (hT : Tab w) (n : Int) (_ : I64 n) (A : Option Addr) (m c : Nat) (l : List (Int × Int)) (hl : RowS 2 arcV w w.heap.size A m l ∧ m ≤ 9223372036854775807) :
    Calls Tryd.prog 7 #[.int .i64 n, .slice A m c] w fun e w' => e = .returned (.bool true) ∧ Below w.heap.size w w' := by
  by_cases h : 0 ≤ n ∧ n ≤ 12 ∧ (m : Int) ≤ 30
  · obtain ⟨k, rfl⟩ : ∃ k : Nat, n = (k : Int) := ⟨n.toNat, by omega⟩
    exact digraphPaths_in w hT k A m c l hl.1 (by omega) (by omega)
  · exact digraphPaths_out w hT n A m c h

set_option maxRecDepth 100000 in
theorem digraphPaths_lifted (os : Os) (started : os.Started) (H : Type) (enc : TypeId × Value → H) :
    ReturnsInHanded {} Tryd.checked os 7 .any (fun w args => (Rows.digraphPathsSpec.pre enc Tryd.prog Tryd.f7 [] false w args ∧ laidMetH Tryd.prog laid07 w) ∧ sizedMet enc Tryd.prog Tryd.f7 (OpenSpec.ofChange Rows.digraphPathsSpec) false w args) (Rows.digraphPathsSpec.post enc Tryd.prog Tryd.f7 false true false false) := by
  refine handed_laid (C := Tryd.checked) (laid := laid07) own started (by kernel_rfl) Tryd.func7
    (ChangeSpec.witness_shaped (enc := enc) (C := Tryd.checked) (os := os) (X := fun w _ => laidMetH Tryd.prog laid07 w) false (World.laidAll Tryd.prog os laid07) #[.int .i64 0, .slice none 0 0] 8 (World.laidAll_os _ _ _) (World.shaped_of_ZipB (by kernel_rfl) (by kernel_rfl)) (by kernel_rfl) (by kernel_rfl) (by kernel_rfl) (laidHold os _)) ?_
  intro W base args ds gs before hval0 hW hL hsh
  have hTab := tab_of hL hsh
  have hval : ∀ (j : Nat) t v, Tryd.f7.params[j]? = some t → args[j]? = some v → Value.okWide Tryd.prog W .any base t v := hval0
  have hW' := hW
  obtain ⟨p, q, hA0, hV, rfl, hfz, hnd⟩ := hW
  have hA : DataW.TrodAll enc Tryd.prog W 0 (fun _ => true) true Tryd.f7.params.toList args.toList ds p := hA0
  rw [Tryd.params7] at hA hval
  obtain ⟨v0, vs0, d0, ds0, p0, q0, hargs, rfl, rfl, h0, r0⟩ := trodAll_cons hA
  obtain ⟨v1, vs1, d1, ds1, p1, q1, rfl, rfl, rfl, h1, r1⟩ := trodAll_cons r0
  obtain ⟨rfl, rfl, rfl⟩ := trodAll_nil r1
  obtain rfl : args = #[v0, v1] := by cases args; simp_all
  obtain ⟨rfl, rfl⟩ := trodVars_none hV
  have k0 := h0
  have lt0 : ∀ x ∈ p0, x.block < W.heap.size := by obtain ⟨m, hm⟩ := k0; exact DataW.trod_lt m _ _ _ hm
  have k1 := h1
  have lt1 : ∀ x ∈ p1, x.block < W.heap.size := by obtain ⟨m, hm⟩ := k1; exact DataW.trod_lt m _ _ _ hm
  obtain ⟨x0, rfl, b0⟩ := arg_int Tryd.underlying3 (hval 0 3 _ rfl rfl) h0
  obtain ⟨A1, n1, c1, xs1, rfl, R1⟩ := arg_arcs (hval 1 22 _ rfl rfl) h1
  clear hA0 hval0
  refine (digraphPaths_walk W hTab x0 b0 A1 n1 c1 xs1 R1).mono fun e W' ⟨he, bel⟩ => ?_
  subst he
  exact ⟨_, rfl, _, _, _, [], _, [], hW', trodAll_mk1 (shut_bool Tryd.underlying4 _), (trodAll_cons_mk (Below.trod laidOut (by kernel_rfl) (of_decide_eq_true (by kernel_rfl)) k0 bel lt0) (trodAll_cons_mk (Below.trod laidOut (by kernel_rfl) (of_decide_eq_true (by kernel_rfl)) k1 bel lt1) trodAll_mk0)), rfl, bel.frame _, fun h => by cases h⟩

theorem digraphPaths_over : Rows.digraphPathsRow.holds Tryd.pinned (OpenSpec.ofChange Rows.digraphPathsSpec) :=
  OpenClaim.holds_of_wide 7 Tryd.f7 rfl rfl rfl rfl rfl rfl rfl ⟨rfl, rfl, rfl, rfl, rfl⟩ rfl rfl rfl rfl rfl (by kernel_rfl) Tryd.func7 (by kernel_rfl)
    (of_decide_eq_true (by kernel_rfl)) (by unfold Func.isWrapper; first | (rw [if_pos (by decide +kernel)]; kernel_rfl) | (rw [if_neg (by decide +kernel)]; exact ⟨rfl, rfl⟩))
    (fun os started H enc _ => digraphPaths_lifted os started H enc)

theorem digraphPathsCard_holds : Rows.DigraphPathsCardSaid :=
  Claim7.holds_tied_plain_at .later [] [.data, .data, .data] true (true, "dec048aedef4f191fc220134fd400c69f28150d87cfbdac39091d757f58f0cd7") false
    digraphPaths_over (fun _ h => by cases h) (by kernel_rfl) (fun _ h => by cases h) digraphPaths_row_tie rfl ⟨rfl, rfl⟩ (by kernel_rfl) rfl
    (fun f fn hf hfn => by
      obtain rfl : f = 7 := Option.some.inj ((show Tryd.prog.funcNamed "bandplan/bandplanlaw09.DigraphPaths" = some 7 by kernel_rfl).symm.trans hf) |>.symm
      obtain rfl : fn = Tryd.f7 := (Option.some.inj (Tryd.func7.symm.trans hfn)).symm
      exact ⟨by kernel_rfl, fun j t ht => by
        rw [Tryd.params7] at ht
        rcases j with _ | j
        · obtain rfl : t = 3 := by simpa using ht.symm
          exact (show Tryd.prog.wantsStandIn 3 = false by kernel_rfl)
        rcases j with _ | j
        · obtain rfl : t = 22 := by simpa using ht.symm
          exact (show Tryd.prog.wantsStandIn 22 = false by kernel_rfl)
        · simp at ht⟩)
    (by kernel_rfl)
#print axioms digraphPathsCard_holds
end Go.Proofs.YtpaakgngoocjeaaDoor
