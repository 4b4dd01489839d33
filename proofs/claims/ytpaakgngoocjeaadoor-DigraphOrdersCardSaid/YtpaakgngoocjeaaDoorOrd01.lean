/- DigraphOrders: the topological order, or the first cycle, is that of the reference, whatever the number of vertices and the arcs. -/
import Derived.Test.YtpaakgngoocjeaaDoorDig16
/- Order of digraph over a graph of a list: the two ways out, with the reference's cycle. -/
namespace Go.Proofs.YtpaakgngoocjeaaDoor
open Go.RowKit

theorem idxGo_spec : ∀ (P : List Nat) (k j T : Nat), P[j]? = some T → 1 < (mem T).length → (∀ (i U : Nat), i < j → P[i]? = some U → ¬ 1 < (mem U).length) → idxGo P k = ((k + j : Nat) : Int) := by
  intro P
  induction P with
  | nil => intro k j T h; simp at h
  | cons X r ih =>
    intro k j T h h1 h2
    unfold idxGo
    cases j with
    | zero => cases h; rw [if_pos h1]; rfl
    | succ j =>
      rw [if_neg (h2 0 X (by omega) rfl), ih (k + 1) j T h h1 (fun i U hi hU => h2 (i + 1) U (by omega) hU)]
      omega
section
variable {S : List Nat} (hI : InG S) (h512 : S.length ≤ 512)
include hI h512
theorem part_two {v : Nat} (hv : v < S.length) : 2 ≤ (partL S v).length ↔ ∃ u, u ≠ v ∧ Sc S v u := by
  have hs := partL_sorted (S := S) v
  have hm := fun u => partL_mem hI h512 (w := u) hv
  have hself := partL_self hI h512 hv
  constructor
  · intro h
    cases hp : partL S v with
    | nil => rw [hp] at h; simp at h
    | cons a r =>
      cases r with
      | nil => rw [hp] at h; simp at h
      | cons b q =>
        rw [hp] at hs hm
        have hab := (List.pairwise_cons.1 hs).1 b (by simp)
        by_cases ha : a = v
        · exact ⟨b, by omega, (hm b).1 (by simp)⟩
        · exact ⟨a, ha, (hm a).1 (by simp)⟩
  · rintro ⟨u, hu, hsc⟩
    have h1 := (hm u).2 hsc
    cases hp : partL S v with
    | nil => rw [hp] at h1; cases h1
    | cons a r =>
      cases r with
      | nil =>
        rw [hp, List.mem_singleton] at h1 hself
        omega
      | cons b q => simp
theorem acyc_small (h : Acyc S) : ∀ v, v < S.length → (partL S v).length < 2 := by
  intro v hv
  rcases Nat.lt_or_ge (partL S v).length 2 with h1 | h1
  · exact h1
  · obtain ⟨u, h2, h3⟩ := (part_two hI h512 hv).1 h1
    exact absurd (h v u hv h3) h2
/-- the first vertex of a cycle -/
theorem first_ex (h : ¬ Acyc S) : ∃ t, t < S.length ∧ 2 ≤ (partL S t).length ∧ (∀ v, v < t → (partL S v).length < 2) ∧ isL S t = true := by
  have : ∃ v, v < S.length ∧ 2 ≤ (partL S v).length := by
    apply Classical.byContradiction
    intro hn
    refine h fun v u hv hsc => ?_
    apply Classical.byContradiction
    intro hu
    exact hn ⟨v, hv, (part_two hI h512 hv).2 ⟨u, hu, hsc⟩⟩
  obtain ⟨v0, hv0⟩ := this
  obtain ⟨t, ⟨h1, h2⟩, h3⟩ := least_ex (fun v => v < S.length ∧ 2 ≤ (partL S v).length) hv0
  refine ⟨t, h1, h2, fun v hv => ?_, (isL_iff hI h512 h1).2 fun u hu => ?_⟩
  · rcases Nat.lt_or_ge (partL S v).length 2 with h4 | h4
    · exact h4
    · exact absurd ⟨by omega, h4⟩ (h3 v hv)
  · rcases Nat.lt_or_ge u t with h4 | h4
    · refine absurd ⟨by omega, ?_⟩ (h3 u h4)
      rw [← partL_eq hI h512 h1 hu]; exact h2
    · exact h4
end
/-- the two ways out of Order -/
def OrdTwo (S : List Nat) (o C : List Nat) : Prop := Greedy S.length (Ed S) o ∧ Stuck S.length (Ed S) o ∧ RCy S C ∧ C.length ≤ 1000 ∧
  ((Acyc S ∧ o.length = S.length ∧ C = []) ∨ (¬ Acyc S ∧ o.length < S.length ∧ 2 ≤ C.length ∧ ∃ t, C[0]? = some t ∧ ∀ i x y, (C ++ [t])[i]? = some x → (C ++ [t])[i + 1]? = some y → Ed S x y))
theorem order_two {gb rb cap : Nat} {ext : List Value} {S : List Nat} {arcs : Int} (w : World) (hT : Tab w) (h : GAt w gb rb cap ext S arcs) (hI : InG S) (hN : NoLoop S) :
    ∃ o C, OrdTwo S o C ∧ ∀ W, Below w.heap.size w W → Calls Tryd.prog 31 #[.pointer (some ⟨gb, 0, none⟩)] W (TwoInts (if o.length < S.length then ([], zs C) else (zs o, [])) W) := by
  have h512 := h.2.2.2
  have hF := h.2.2.1
  obtain ⟨o, h1, h2, h3⟩ := ordF_spec hI h512 hF hN
  have ha := acyc_iff hI hN h2 h3
  have hlen := greedy_len h2
  by_cases hac : Acyc S
  · have hl := ha.2 hac
    refine ⟨o, [], ⟨h2, h3, .inl ⟨rfl, acyc_small hI h512 hac⟩, by simp, .inl ⟨hac, hl, rfl⟩⟩, fun W hb => ?_⟩
    exact gorder_any S.length o [] W (hT.keep hb) (h.keep hb) hI (by omega) h1 (fun hlt => by omega)
  · have hl : o.length < S.length := by
      rcases Nat.lt_or_ge o.length S.length with h4 | h4
      · exact h4
      · exact absurd (ha.1 (by omega)) hac
    obtain ⟨t, t1, t2, t3, t4⟩ := first_ex hI h512 hac
    obtain ⟨D, d1, d2, d3⟩ := distF_spec hI t1
    obtain ⟨C, c1, c2, c3, c4, c5, c6⟩ := cyc_ex hI hF h512 d3 hN t1 ((part_two hI h512 t1).1 t2)
    refine ⟨o, C, ⟨h2, h3, .inr ⟨t, D, t1, t3, t2, d3, c1⟩, c4, .inr ⟨hac, hl, c3, t, c5, c6⟩⟩, fun W hb => ?_⟩
    refine gorder_any S.length o (zs C) W (hT.keep hb) (h.keep hb) hI (by omega) h1 (fun _ X hX => ?_)
    have hbX := hb.trans (hX.mono hb.size)
    obtain ⟨j, hj⟩ := List.getElem?_of_mem (leads_mem.2 ⟨t1, t4⟩)
    have hps := (parts_spec hI h512 _ (Nat.le_refl _)).2.1
    have hmem : mem (orBits (partL S t)) = partL S t := mem_part hI h512 t1
    obtain ⟨tl, htl⟩ : ∃ tl, partL S t = t :: tl := by
      unfold isL at t4
      rw [beq_iff_eq] at t4
      cases hp : partL S t with
      | nil => rw [hp] at t4; cases t4
      | cons a r => rw [hp] at t4; cases t4; exact ⟨r, rfl⟩
    refine gcycle_any j t (S.length + 1) 1000 (orBits (partL S t)) tl D (zs C) X (hT.keep hbX) (h.keep hbX) hI ?_ ?_ (by rw [hmem, htl]) (fit_lt h512 (fun b hb' => partL_lt hI h512 t1 ((orBits_tb b _).1 hb'))) t1 (by omega) d1 d2 (by omega) c2
    · rw [hps, idxGo_spec _ 0 j (orBits (partL S t)) (by rw [List.getElem?_map, hj]; rfl) (by rw [hmem]; omega) ?_]
      · rw [Nat.zero_add]
      · intro i U hi hU
        rw [List.getElem?_map] at hU
        cases hli : (leads S S.length)[i]? with
        | none => rw [hli] at hU; cases hU
        | some v =>
          rw [hli] at hU
          cases hU
          have hvt : v < t := by
            have := List.pairwise_iff_getElem.1 (leads_sorted S S.length) i j (List.getElem?_eq_some_iff.1 hli).1 (List.getElem?_eq_some_iff.1 hj).1 hi
            rw [(List.getElem?_eq_some_iff.1 hli).2, (List.getElem?_eq_some_iff.1 hj).2] at this
            exact this
          rw [mem_part hI h512 (by omega)]
          have := t3 v hvt
          omega
    · rw [hps, List.getElem?_map, hj]; rfl
/-- the reference's order where there is no cycle -/
theorem flat_single (o : List Nat) : (o.map fun v => [v]).flatten = o := by
  induction o with
  | nil => rfl
  | cons x r ih => simp [ih]
end Go.Proofs.YtpaakgngoocjeaaDoor

namespace Go.Proofs.YtpaakgngoocjeaaDoor
open Go.RowKit Go.ChangeShapes Go.WideShapes Go.ChangeAt Go.Deep Go.Joins

set_option maxRecDepth 100000 in
set_option maxHeartbeats 2000000 in
theorem digraphOrders_in (w : World) (hT : Tab w) (n : Nat) (Al : Option Addr) (m c : Nat) (l : List (Int × Int)) (hl : RowS 2 arcV w w.heap.size Al m l) (hn : n ≤ 10) (hm : m ≤ 25) :
    Calls Tryd.prog 6 #[.int .i64 n, .slice Al m c] w fun e w' => e = .returned (.bool true) ∧ Below w.heap.size w w' := by
  have HT := Lib.hid hT
  have HB := Lib.hid (build_any n Al m c l w (by omega) (by omega) hl)
  have hAl := buildK_len n l l.length
  have HVA := Lib.hid (va_build n l l.length)
  have HND := Lib.hid (nodup_build n l l.length)
  rw [show buildK n l l.length = buildA n l from rfl, hl.1] at hAl
  rw [show buildK n l l.length = buildA n l from rfl] at HVA HND
  have j0 : ¬ ((n : Int) < 0) := by omega
  have j1 : ¬ ((10 : Int) < (n : Int)) := by omega
  have j2 : ¬ ((25 : Int) < (m : Int)) := by omega
  generalize buildA n l = B at *
  clear hT hl
  go_enter Tryd.func6, Tryd.ntmps6
  go_wp2_with fail
  refine HB.out.mono ?_
  rintro e W1 ⟨gb, rb, cap, ext, vA, rfl, hP⟩
  have HP1 := Lib.hid hP
  have hG := bE_gat hP (by omega)
  have HG := Lib.hid hG
  obtain ⟨Ad, cA, rfl, hrow⟩ := bE_row hP
  have HROW := Lib.hid hrow
  clear hP hrow HB
  have hnl : NoLoop (graphOf n B) := noloop_graph HVA.out
  obtain ⟨o, C, ⟨ho1, ho2, ho3, ho4, ho5⟩, hO⟩ := order_two W1 (HT.out.keep HP1.out.below) hG (graphOf_in n B) hnl
  have HO := Lib.hid (hO W1 (Below.refl _ _))
  have HRC := Lib.hid (fun W hb => rcycle_any n Ad B.length cA B C W (by omega) (by omega) ((HROW.out.below hb).up hb.size) hnl ho3)
  have hll := greedy_len ho1
  rw [graphOf_len] at hll
  rcases ho5 with ⟨ha, hl, rfl⟩ | ⟨ha, hl, hC2, _⟩
  · have HRO : Hid (∀ W, Below W1.heap.size W1 W → Calls Tryd.prog 33 #[.int .i64 n, .slice Ad B.length cA] W (NewInts (zs o) W)) := Lib.hid (fun W hb => by
      have hc := acyc_comp (graphOf_in n B) (by rw [graphOf_len]; omega) ha (graphOf_fit (by omega) B) hnl ho1 ho2
      have := rorder_any n Ad B.length cA B (compF (graphOf n B)) W (by omega) (by omega) ((HROW.out.below hb).up hb.size) (rspec_graph (graphOf_in n B) (by rw [graphOf_len]; omega) (graphOf_fit (by omega) B) (okA_graph HVA.out) (fun _ _ h => ed_arc h)) (by rw [hc, List.length_map]; omega) (by rw [hc, flat_single]; omega)
      rw [hc, flat_single] at this
      exact this)
    rw [if_neg (by omega)] at HO
    replace HO := Lib.hid HO.out
    clear hG HG ho1 ho2 ho3 ho4 ha hl hO hnl
    go_wp2_with fail
    refine HO.out.mono ?_
    rintro e W2 ⟨v1, v2, rfl, ho1, ho2, hb2⟩
    dsimp only at ho1 ho2
    rw [zs_len] at ho1
    have HQ2 := Lib.hid (((Hp.start W1).pushRow hb2 ho1))
    obtain ⟨A1, c1, rfl, hr1⟩ := row1_of_own ho1
    obtain ⟨A2, c2, rfl, _⟩ := row1_of_own ho2
    have HR1 := Lib.hid hr1
    have HR2 := Lib.hid (HRC.out W2 hb2)
    clear ho1 ho2 hr1 hb2 HRC
    go_wp2_with fail
    refine HR2.out.mono ?_
    rintro e W3 ⟨v3, rfl, hown3, hb3⟩
    obtain ⟨A3, c3, rfl, _⟩ := row1_of_own hown3
    have HQ3 := Lib.hid (HQ2.out.keep hb3)
    have HR1' := Lib.hid ((HR1.out.below hb3).up hb3.size)
    have HO3 := Lib.hid (HRO.out W3 HQ3.out.below)
    clear hown3 hb3 HR2 HR1
    go_wp2_with fail
    refine HO3.out.mono ?_
    rintro e W4 ⟨v4, rfl, hown4, hb4⟩
    rw [zs_len] at hown4
    obtain ⟨A4, c4, rfl, hr4⟩ := row1_of_own hown4
    have HQ4 := Lib.hid (HQ3.out.keep hb4)
    have HEQ := equal_any A1 A4 o.length c1 o.length c4 W4 W4.heap.size (zs o) (zs o) (by omega) ((HR1'.out.below hb4).up hb4.size) hr4
    rw [sameL_refl] at HEQ
    replace HEQ := Lib.hid HEQ
    clear hown4 hr4 hb4 HO3 HR1'
    go_wp2_with fail
    refine HEQ.out.mono ?_
    rintro e W5 ⟨rfl, hb5⟩
    have HB5 := Lib.hid (HP1.out.below.trans ((HQ4.out.keep hb5).below.mono HP1.out.below.size))
    clear hb5 HEQ
    go_wp2_with fail
    refine (known_any _ (HT.out.keep HB5.out)).mono ?_
    rintro e W6 ⟨rfl, hb6⟩
    have HB6 := Lib.hid (HB5.out.trans (hb6.mono HB5.out.size))
    clear hb6
    go_wp2_with fail
    go_ret
    exact ⟨rfl, HB6.out⟩
  · rw [if_pos hl] at HO
    replace HO := Lib.hid HO.out
    have hC0 : (0 : Int) < (C.length : Int) := by omega
    clear hG HG ho1 ho2 ho3 ha hl hO hnl hC2
    go_wp2_with fail
    refine HO.out.mono ?_
    rintro e W2 ⟨v1, v2, rfl, ho1, ho2, hb2⟩
    dsimp only at ho1 ho2
    rw [zs_len] at ho2
    have HQ2 := Lib.hid (((Hp.start W1).pushRow hb2 ho2))
    obtain ⟨A1, c1, rfl, _⟩ := row1_of_own ho1
    obtain ⟨A2, c2, rfl, hr2⟩ := row1_of_own ho2
    have HR1 := Lib.hid hr2
    have HR2 := Lib.hid (HRC.out W2 hb2)
    clear ho1 ho2 hr2 hb2 HRC
    go_wp2_with fail
    refine HR2.out.mono ?_
    rintro e W3 ⟨v3, rfl, hown3, hb3⟩
    rw [zs_len] at hown3
    obtain ⟨A3, c3, rfl, hr3⟩ := row1_of_own hown3
    have HQ3 := Lib.hid (HQ2.out.keep hb3)
    have HEQ := equal_any A2 A3 C.length c2 C.length c3 W3 W3.heap.size (zs C) (zs C) (by omega) ((HR1.out.below hb3).up hb3.size) hr3
    rw [sameL_refl] at HEQ
    replace HEQ := Lib.hid HEQ
    clear hown3 hb3 HR2 HR1 hr3
    go_wp2_with fail
    refine HEQ.out.mono ?_
    rintro e W5 ⟨rfl, hb5⟩
    have HB5 := Lib.hid (HP1.out.below.trans ((HQ3.out.keep hb5).below.mono HP1.out.below.size))
    clear hb5 HEQ
    go_wp2_with fail
    refine (known_any _ (HT.out.keep HB5.out)).mono ?_
    rintro e W6 ⟨rfl, hb6⟩
    have HB6 := Lib.hid (HB5.out.trans (hb6.mono HB5.out.size))
    clear hb6
    go_wp2_with fail
    go_ret
    exact ⟨rfl, HB6.out⟩
set_option maxRecDepth 100000 in
theorem digraphOrders_out (w : World) (hT : Tab w) (n : Int) (A : Option Addr) (m c : Nat) (h : ¬ (0 ≤ n ∧ n ≤ 10 ∧ (m : Int) ≤ 25)) :
    Calls Tryd.prog 6 #[.int .i64 n, .slice A m c] w fun e w' => e = .returned (.bool true) ∧ Below w.heap.size w w' := by
  have HK := Lib.hid (known_any w hT)
  clear hT
  by_cases h0 : n < 0
  · clear h
    go_enter Tryd.func6, Tryd.ntmps6
    go_wp2_with fail
    refine HK.out.mono ?_
    rintro e W1 ⟨rfl, hb1⟩
    have HB1 := Lib.hid hb1
    clear hb1
    go_wp2_with fail
    go_ret
    exact ⟨rfl, HB1.out⟩
  · by_cases h1 : 10 < n
    · clear h
      go_enter Tryd.func6, Tryd.ntmps6
      go_wp2_with fail
      refine HK.out.mono ?_
      rintro e W1 ⟨rfl, hb1⟩
      have HB1 := Lib.hid hb1
      clear hb1
      go_wp2_with fail
      go_ret
      exact ⟨rfl, HB1.out⟩
    · have h2 : (25 : Int) < (m : Int) := by omega
      clear h
      go_enter Tryd.func6, Tryd.ntmps6
      go_wp2_with fail
      refine HK.out.mono ?_
      rintro e W1 ⟨rfl, hb1⟩
      have HB1 := Lib.hid hb1
      clear hb1
      go_wp2_with fail
      go_ret
      exact ⟨rfl, HB1.out⟩
theorem digraphOrders_walk (w : World) (hT : Tab w) (n : Int) (_ : I64 n) (A : Option Addr) (m c : Nat) (l : List (Int × Int)) (hl : RowS 2 arcV w w.heap.size A m l ∧ m ≤ 9223372036854775807) :
    Calls Tryd.prog 6 #[.int .i64 n, .slice A m c] w fun e w' => e = .returned (.bool true) ∧ Below w.heap.size w w' := by
  by_cases h : 0 ≤ n ∧ n ≤ 10 ∧ (m : Int) ≤ 25
  · obtain ⟨k, rfl⟩ : ∃ k : Nat, n = (k : Int) := ⟨n.toNat, by omega⟩
    exact digraphOrders_in w hT k A m c l hl.1 (by omega) (by omega)
  · exact digraphOrders_out w hT n A m c h

set_option maxRecDepth 100000 in
theorem digraphOrders_lifted (os : Os) (started : os.Started) (H : Type) (enc : TypeId × Value → H) :
    ReturnsInHanded {} Tryd.checked os 6 .any (fun w args => (Rows.digraphOrdersSpec.pre enc Tryd.prog Tryd.f6 [] false w args ∧ laidMetH Tryd.prog laid07 w) ∧ sizedMet enc Tryd.prog Tryd.f6 (OpenSpec.ofChange Rows.digraphOrdersSpec) false w args) (Rows.digraphOrdersSpec.post enc Tryd.prog Tryd.f6 false true false false) := by
  refine handed_laid (C := Tryd.checked) (laid := laid07) own started (by kernel_rfl) Tryd.func6
    (ChangeSpec.witness_shaped (enc := enc) (C := Tryd.checked) (os := os) (X := fun w _ => laidMetH Tryd.prog laid07 w) false (World.laidAll Tryd.prog os laid07) #[.int .i64 0, .slice none 0 0] 8 (World.laidAll_os _ _ _) (World.shaped_of_ZipB (by kernel_rfl) (by kernel_rfl)) (by kernel_rfl) (by kernel_rfl) (by kernel_rfl) (laidHold os _)) ?_
  intro W base args ds gs before hval0 hW hL hsh
  have hTab := tab_of hL hsh
  have hval : ∀ (j : Nat) t v, Tryd.f6.params[j]? = some t → args[j]? = some v → Value.okWide Tryd.prog W .any base t v := hval0
  have hW' := hW
  obtain ⟨p, q, hA0, hV, rfl, hfz, hnd⟩ := hW
  have hA : DataW.TrodAll enc Tryd.prog W 0 (fun _ => true) true Tryd.f6.params.toList args.toList ds p := hA0
  rw [Tryd.params6] at hA hval
  obtain ⟨v0, vs0, d0, ds0, p0, q0, hargs, rfl, rfl, h0, r0⟩ := trodAll_cons hA
  obtain ⟨v1, vs1, d1, ds1, p1, q1, rfl, rfl, rfl, h1, r1⟩ := trodAll_cons r0
  obtain ⟨rfl, rfl, rfl⟩ := trodAll_nil r1
  obtain rfl : args = #[v0, v1] := by cases args; simp_all
  obtain ⟨rfl, rfl⟩ := trodVars_none hV
  have k0 := h0
  have lt0 : ∀ x ∈ p0, x.block < W.heap.size := by obtain ⟨m, hm⟩ := k0; exact DataW.trod_lt m _ _ _ hm
  have k1 := h1
  have lt1 : ∀ x ∈ p1, x.block < W.heap.size := by obtain ⟨m, hm⟩ := k1; exact DataW.trod_lt m _ _ _ hm
  obtain ⟨x0, rfl, b0⟩ := arg_int Tryd.underlying3 (hval 0 3 _ rfl rfl) h0
  obtain ⟨A1, n1, c1, xs1, rfl, R1⟩ := arg_arcs (hval 1 22 _ rfl rfl) h1
  clear hA0 hval0
  refine (digraphOrders_walk W hTab x0 b0 A1 n1 c1 xs1 R1).mono fun e W' ⟨he, bel⟩ => ?_
  subst he
  exact ⟨_, rfl, _, _, _, [], _, [], hW', trodAll_mk1 (shut_bool Tryd.underlying4 _), (trodAll_cons_mk (Below.trod laidOut (by kernel_rfl) (of_decide_eq_true (by kernel_rfl)) k0 bel lt0) (trodAll_cons_mk (Below.trod laidOut (by kernel_rfl) (of_decide_eq_true (by kernel_rfl)) k1 bel lt1) trodAll_mk0)), rfl, bel.frame _, fun h => by cases h⟩

theorem digraphOrders_over : Rows.digraphOrdersRow.holds Tryd.pinned (OpenSpec.ofChange Rows.digraphOrdersSpec) :=
  OpenClaim.holds_of_wide 6 Tryd.f6 rfl rfl rfl rfl rfl rfl rfl ⟨rfl, rfl, rfl, rfl, rfl⟩ rfl rfl rfl rfl rfl (by kernel_rfl) Tryd.func6 (by kernel_rfl)
    (of_decide_eq_true (by kernel_rfl)) (by unfold Func.isWrapper; first | (rw [if_pos (by decide +kernel)]; kernel_rfl) | (rw [if_neg (by decide +kernel)]; exact ⟨rfl, rfl⟩))
    (fun os started H enc _ => digraphOrders_lifted os started H enc)

theorem digraphOrdersCard_holds : Rows.DigraphOrdersCardSaid :=
  Claim7.holds_tied_plain_at .later [] [.data, .data, .data] true (true, "dec048aedef4f191fc220134fd400c69f28150d87cfbdac39091d757f58f0cd7") false
    digraphOrders_over (fun _ h => by cases h) (by kernel_rfl) (fun _ h => by cases h) digraphOrders_row_tie rfl ⟨rfl, rfl⟩ (by kernel_rfl) rfl
    (fun f fn hf hfn => by
      obtain rfl : f = 6 := Option.some.inj ((show Tryd.prog.funcNamed "bandplan/bandplanlaw09.DigraphOrders" = some 6 by kernel_rfl).symm.trans hf) |>.symm
      obtain rfl : fn = Tryd.f6 := (Option.some.inj (Tryd.func6.symm.trans hfn)).symm
      exact ⟨by kernel_rfl, fun j t ht => by
        rw [Tryd.params6] at ht
        rcases j with _ | j
        · obtain rfl : t = 3 := by simpa using ht.symm
          exact (show Tryd.prog.wantsStandIn 3 = false by kernel_rfl)
        rcases j with _ | j
        · obtain rfl : t = 22 := by simpa using ht.symm
          exact (show Tryd.prog.wantsStandIn 22 = false by kernel_rfl)
        · simp at ht⟩)
    (by kernel_rfl)
#print axioms digraphOrdersCard_holds
end Go.Proofs.YtpaakgngoocjeaaDoor
