/- The contract of Reduce of digraph. -/
import Derived.Test.YtpaakgngoocjeaaDoorDig07
import Derived.Test.YtpaakgngoocjeaaDoorDig08
namespace Go.Proofs.YtpaakgngoocjeaaDoor
open Go.RowKit Go.Shelf Go.ChangeShapes Go.WideShapes Go.ChangeAt Go.Deep Go.Joins

attribute [local go_sem] Oper.semAt_some

/-- what can be reached further from the vertices of a list -/
noncomputable def farS (S L : List Nat) : Nat := L.foldl (fun a w => a ||| mi (reachM S w) (2 ^ w)) 0
theorem farS_snoc (S L : List Nat) (x : Nat) : farS S (L ++ [x]) = farS S L ||| mi (reachM S x) (2 ^ x) := by unfold farS; rw [List.foldl_append]; rfl
noncomputable def redRow (S : List Nat) (k : Nat) : Nat := mi (S.getD k 0) (farS S (mem (S.getD k 0)))
/-- the first k rows are reduced; the number of arcs -/
noncomputable def redK (S : List Nat) (k : Nat) : List Nat × Int := (List.range k).foldl (fun st v => (st.1.set v (redRow S v), wrap64 (st.2 + ((mem (redRow S v)).length : Int)))) (List.replicate S.length 0, 0)
theorem redK_succ (S : List Nat) (k : Nat) : redK S (k + 1) = ((redK S k).1.set k (redRow S k), wrap64 ((redK S k).2 + ((mem (redRow S k)).length : Int))) := by unfold redK; rw [List.range_succ, List.foldl_append]; rfl
theorem redK_len (S : List Nat) : ∀ k, (redK S k).1.length = S.length := by
  intro k
  induction k with
  | zero => simp [redK]
  | succ k ih => rw [redK_succ, List.length_set, ih]
theorem redK_fit {S : List Nat} (hF : ∀ x ∈ S, Fit x) : ∀ k, ∀ x ∈ (redK S k).1, Fit x := by
  intro k
  induction k with
  | zero => intro x hx; simp [redK] at hx; rw [hx.2]; exact fit_zero
  | succ k ih =>
    intro x hx
    rw [redK_succ] at hx
    rcases List.mem_or_eq_of_mem_set hx with h | h
    · exact ih x h
    · rw [h]; exact mi_lt _ (getD_fit hF k)
theorem Hp.setRowS {w u W : World} {L : List Ent} {ds : List Nat} (h : Hp w u W L ds) (i k T : Nat) {g t x : Nat} {S : List Nat} {ext : List Value} (hi : L[i]? = some (.blk g t (rowC S ++ ext))) (hk : S[k]? = some x) : Hp w u (setAt W g (k * 8) T) (L.set i (.blk g t (rowC (S.set k T) ++ ext))) ds :=
  h.upd i hi (grown_setAt W g (k * 8) T) ((h.blk i hi).setRow hk) (fun _ hg' => .inl hg')
/-- a row of sets, just made -/
theorem Hp.madeS {w u W X : World} {L : List Ent} {ds : List Nat} (h : Hp w u W L ds) {g t n : Nat} (hown : X.ownsRow w.heap.size t 8 (.slice (some ⟨g, 0, none⟩) n n) n (rowC (List.replicate n 0))) (hg : W.grownBy X none) (hl : W.heap.size ≤ g) : Hp w u X (L ++ [.blk g t (rowC (List.replicate n 0) ++ [])]) ds := by
  rw [List.append_nil]
  exact h.pushBlk ⟨hg.os, hg.tape, hg.output, hg.size, fun k hk => hg.block k hk (by simp)⟩ (blk_of_own hown).1 hl
/-- a graph of its own is returned -/
def GRet (S : List Nat) (arcs : Int) (w : World) (e : Ending) (w' : World) : Prop := ∃ gb rb cap ext, e = .returned (.tuple #[.pointer (some ⟨gb, 0, none⟩), .int .i64 0]) ∧ GAt w' gb rb cap ext S arcs ∧ w.heap.size ≤ gb ∧ w.heap.size ≤ rb ∧ Below w.heap.size w w'

def RuF (gb p6 p7 rb cap n k : Nat) (ds : List Nat) (a : Act) : Prop := ∃ u : Nat → Value, a = { tmps := #[(.pointer (some ⟨gb, 0, none⟩)), u 1, (.pointer none), (.int .i64 0), u 4, u 5, (.pointer (some ⟨p6, 0, none⟩)), (.pointer (some ⟨p7, 0, none⟩)), u 8, u 9, u 10, u 11, u 12, u 13, u 14, u 15, u 16, u 17, u 18, u 19, u 20, u 21, u 22, u 23, u 24, u 25, u 26, u 27, u 28, u 29, u 30, u 31, u 32, u 33, u 34, u 35, u 36, u 37, (.slice (some ⟨rb, 0, none⟩) n cap), (.int .i64 (n : Int)), (.int .i64 (k : Int)), u 41, u 42, u 43, u 44, u 45, u 46, u 47, u 48, u 49, u 50, u 51, u 52, u 53, u 54, u 55, u 56, u 57, u 58, u 59, u 60, u 61, u 62, u 63, u 64, u 65, u 66, u 67, u 68, u 69, u 70, u 71, u 72, u 73, u 74, u 75, u 76, u 77, u 78, u 79, u 80, u 81, u 82, u 83, u 84, u 85], defers := marksOf ds }
theorem RuF_mk {gb p6 p7 rb cap n k : Nat} {ds : List Nat} {u1 u4 u5 u8 u9 u10 u11 u12 u13 u14 u15 u16 u17 u18 u19 u20 u21 u22 u23 u24 u25 u26 u27 u28 u29 u30 u31 u32 u33 u34 u35 u36 u37 u41 u42 u43 u44 u45 u46 u47 u48 u49 u50 u51 u52 u53 u54 u55 u56 u57 u58 u59 u60 u61 u62 u63 u64 u65 u66 u67 u68 u69 u70 u71 u72 u73 u74 u75 u76 u77 u78 u79 u80 u81 u82 u83 u84 u85 : Value} : RuF gb p6 p7 rb cap n k ds { tmps := #[(.pointer (some ⟨gb, 0, none⟩)), u1, (.pointer none), (.int .i64 0), u4, u5, (.pointer (some ⟨p6, 0, none⟩)), (.pointer (some ⟨p7, 0, none⟩)), u8, u9, u10, u11, u12, u13, u14, u15, u16, u17, u18, u19, u20, u21, u22, u23, u24, u25, u26, u27, u28, u29, u30, u31, u32, u33, u34, u35, u36, u37, (.slice (some ⟨rb, 0, none⟩) n cap), (.int .i64 (n : Int)), (.int .i64 (k : Int)), u41, u42, u43, u44, u45, u46, u47, u48, u49, u50, u51, u52, u53, u54, u55, u56, u57, u58, u59, u60, u61, u62, u63, u64, u65, u66, u67, u68, u69, u70, u71, u72, u73, u74, u75, u76, u77, u78, u79, u80, u81, u82, u83, u84, u85], defers := marksOf ds } := ⟨fun i => [undef, u1, undef, undef, u4, u5, undef, undef, u8, u9, u10, u11, u12, u13, u14, u15, u16, u17, u18, u19, u20, u21, u22, u23, u24, u25, u26, u27, u28, u29, u30, u31, u32, u33, u34, u35, u36, u37, undef, undef, undef, u41, u42, u43, u44, u45, u46, u47, u48, u49, u50, u51, u52, u53, u54, u55, u56, u57, u58, u59, u60, u61, u62, u63, u64, u65, u66, u67, u68, u69, u70, u71, u72, u73, u74, u75, u76, u77, u78, u79, u80, u81, u82, u83, u84, u85].getD i undef, rfl⟩
theorem greduce_cyc {gb rb cap : Nat} {ext : List Value} {S : List Nat} {arcs : Int} (c : List Int) (w : World) (h : GAt w gb rb cap ext S arcs) (hc : 0 < c.length)
    (hO : Calls Tryd.prog 31 #[.pointer (some ⟨gb, 0, none⟩)] w (TwoInts ([], c) w)) :
    Calls Tryd.prog 35 #[.pointer (some ⟨gb, 0, none⟩)] w (RetPost (.tuple #[.pointer none, .int .i64 8]) w.heap.size w) := by
  have HV := Lib.hid (gvalid_any w h)
  have HO := Lib.hid hO
  have j0 : (0 : Int) < (c.length : Int) := by omega
  clear h hO hc
  refine (callsIn_wide (n := 3)).1 ?_
  refine callsIn_of_wp_marks Tryd.func35 rfl trivial ?_ rfl
  simp only [Tryd.ntmps35, List.size_toArray, List.length_cons, List.length_nil, Nat.reduceAdd, Nat.reduceSub, Array.replicate_succ, Array.replicate_zero, List.push_toArray, List.append_toArray, List.nil_append, List.cons_append]
  gi_wp2_with fail
  refine ⟨trivial, (callsIn_wide.2 HV.out).mono ?_⟩
  rintro e W1 ⟨rfl, rfl⟩
  clear HV
  gi_wp2_with fail
  refine ⟨trivial, (callsIn_wide.2 HO.out).mono ?_⟩
  rintro e W1 ⟨v1, v2, rfl, ho1, ho2, hb⟩
  obtain ⟨A2, cp2, rfl⟩ := ((Hp.start w).pushRow hb ho2).form 0 rfl
  have HB := Lib.hid hb
  clear ho1 ho2 hb
  dsimp only
  gi_wp2_with fail
  show LeavesInM _ _ _ _ _ _ (marksOf []) .returning _
  exact ⟨_, by simp [results, Tryd.results35, go_sem], rfl, HB.out⟩

set_option maxRecDepth 100000 in
set_option maxHeartbeats 4000000 in
theorem greduce_ok {gb rb cap : Nat} {ext : List Value} {S : List Nat} {arcs : Int} (o : List Int) (w : World) (hT : Tab w) (h : GAt w gb rb cap ext S arcs) (hI : InG S)
    (hO : Calls Tryd.prog 31 #[.pointer (some ⟨gb, 0, none⟩)] w (TwoInts (o, []) w)) :
    Calls Tryd.prog 35 #[.pointer (some ⟨gb, 0, none⟩)] w (GRet (redK S S.length).1 (redK S S.length).2 w) := by
  have h512 := h.2.2.2
  have HG := Lib.hid h
  have HF : Hid (∀ x ∈ S, Fit x) := Lib.hid h.2.2.1
  have HT := Lib.hid hT
  have HI := Lib.hid hI
  have h4 : tabN ≤ w.heap.size := hT.1
  have HV := Lib.hid (gvalid_any w h)
  have HO := Lib.hid hO
  have HA := Lib.hid (fun T W => all_any T W)
  have HU := Lib.hid (fun A B W => union_any A B W)
  have HM := Lib.hid (fun A B W => minus_any A B W)
  have HL := Lib.hid (fun A W => len_any A W)
  have HRM := Lib.hid (fun A i W hi => remove_in A i W hi)
  obtain ⟨s0, si, sz0, sz1, sz2⟩ := info_parts set_info
  clear h hI hT hO
  unfold sV at HA HU HM HL HRM
  refine (callsIn_wide (n := 3)).1 ?_
  refine callsIn_of_wp_marks Tryd.func35 rfl trivial ?_ rfl
  simp only [Tryd.ntmps35, List.size_toArray, List.length_cons, List.length_nil, Nat.reduceAdd, Nat.reduceSub, Array.replicate_succ, Array.replicate_zero, List.push_toArray, List.append_toArray, List.nil_append, List.cons_append]
  gi_wp2_with fail
  refine ⟨trivial, (callsIn_wide.2 HV.out).mono ?_⟩
  rintro e W1 ⟨rfl, rfl⟩
  clear HV
  gi_wp2_with fail
  refine ⟨trivial, (callsIn_wide.2 HO.out).mono ?_⟩
  rintro e W1 ⟨v1, v2, rfl, ho1, ho2, hb⟩
  obtain ⟨A2, cp2, rfl⟩ := ((Hp.start w).pushRow hb ho2).form 0 rfl
  have HP1 := Lib.hid ((Hp.start w).keep hb)
  have HRS := Lib.hid (greaches_any W1 (HT.out.keep HP1.out.below) (HG.out.keep HP1.out.below) HI.out)
  clear ho1 ho2 hb
  dsimp only
  gi_wp2_with fail
  refine ⟨trivial, (callsIn_wide.2 HRS.out).mono ?_⟩
  rintro e W2 ⟨rfl, hA, hb⟩
  have HP2 := Lib.hid ((HP1.out.pushBlk hb hA (Nat.le_refl _)).alloc1 (.slice (some ⟨W1.heap.size, 0, none⟩) S.length S.length) 65)
  obtain ⟨_, q1, _, q3⟩ := (HG.out.keep HP2.out.below).cells
  clear HRS hA hb
  generalize W1.heap.size = gR at *
  gi_upto_region 8 with (gi_at_make; refine wpListIn_make_full _ rfl _ _ 65 rfl w.heap.size 40 s0 (.agg #[.int .u64 0, .int .u64 0, .int .u64 0, .int .u64 0, .int .u64 0, .int .u64 0, .int .u64 0, .int .u64 0]) 8 Tryd.underlying65 si sz0 sz1 .i64 .i64 _ _ S.length rfl rfl rfl rfl (by rw [sz2]; omega) (by unfold maxLen; omega) HP2.out.below.size ?_; intro W3 hown hgrow; rw [made_sets] at hown; have HP3 := Lib.hid (HP2.out.madeS hown hgrow (Nat.le_refl _)); clear hown hgrow)
  obtain ⟨V4, hV4⟩ : ∃ V4, V4 = W3.alloc (.cells #[.bool true, .slice (some ⟨W2.heap.size + 1, 0, none⟩) S.length S.length, .int .i64 0] 67) := ⟨_, rfl⟩
  have hP4 := HP3.out.alloc [.bool true, .slice (some ⟨W2.heap.size + 1, 0, none⟩) S.length S.length, .int .i64 0] 67
  rw [← hV4] at hP4 ⊢
  rw [World.size_alloc] at hP4
  have HP4 := Lib.hid hP4
  clear q1 q3 hV4 hP4 HP3 HP2
  obtain ⟨_, q1, _, q3⟩ := (HG.out.keep HP4.out.below).cells
  generalize W2.heap.size + 1 = gN at *
  generalize W2.heap.size = p6 at *
  generalize W3.heap.size = p7 at *
  gi_wp2_with fail
  refine wpIn_loop_ghost (fun m a W => ∃ (k : Nat) (ds : List Nat), m = S.length - k ∧ k ≤ S.length ∧ RuF gb p6 p7 rb cap S.length k ds a ∧ Hp w W W [.blk gR 40 (rowC (reachesM S) ++ []), .blk p6 65 [.slice (some ⟨gR, 0, none⟩) S.length S.length], .blk gN 40 (rowC (redK S k).1 ++ []), .blk p7 67 [.bool true, .slice (some ⟨gN, 0, none⟩) S.length S.length, .int .i64 (redK S k).2]] ds) (S.length - 0) ?start ?round
  case start => exact ⟨0, [], rfl, Nat.zero_le _, RuF_mk, HP4.out.rebase⟩
  case round =>
    clear HP4 q1 q3
    rintro m a W ⟨k, ds, rfl, hk, ⟨u, rfl⟩, hP⟩
    have HP := Lib.hid hP
    by_cases hlt : k < S.length
    · have j0 : (k : Int) < (S.length : Int) := by omega
      have HST := Eqn.mk (redK_succ S k)
      have HLN := Lib.hid (redK_len S k)
      have e1 : IntKind.i64.wrap ((k : Int) + 1) = (k : Int) + 1 := IntWalk.i64_in _ (by omega)
      obtain ⟨T, hT⟩ : ∃ T, S[k]? = some T := ⟨_, List.getElem?_eq_getElem hlt⟩
      have HTT : Hid (T ∈ S ∧ S.getD k 0 = T) := Lib.hid ⟨List.mem_of_getElem? hT, by rw [List.getD_eq_getElem?_getD, hT]; rfl⟩
      have HRR : Hid (redRow S k = mi T (farS S (mem T))) := Lib.hid (by unfold redRow; rw [HTT.out.2])
      have hG := HG.out.keep hP.below
      obtain ⟨y0, y1, y2, y3, y4, y5, y6, y7, y8⟩ := row_cells hG.2.1 hT
      clear hP hT hG
      generalize redK S k = st at *
      obtain ⟨RS, ac⟩ := st
      dsimp only at HLN HP HST
      gi_upto_region 12 with fail
      obtain ⟨V5, hV5⟩ : ∃ V5, V5 = (W.alloc (.cells (sL T).toArray 40)).alloc (.cells (sL 0).toArray 40) := ⟨_, rfl⟩
      have hP5 := (HP.out.allocS T 40).allocS 0 40
      rw [← hV5, World.size_alloc] at hP5
      rw [sL_zero] at hV5
      unfold sL at hV5
      have HP5 := Lib.hid hP5
      obtain ⟨c4_0, c4_1, c4_2, c4_3, c4_4, c4_5, c4_6, c4_7⟩ := (hP5.blk 4 rfl).eight; have f4 := hP5.f 4 rfl; have l4 := hP5.lt 4 rfl
      rw [← hV5]
      clear hV5 hP5 y0 y1 y2 y3 y4 y5 y6 y7 y8
      generalize W.heap.size + 1 = p10 at *
      generalize W.heap.size = p9 at *
      gi_wp2_with fail
      refine ⟨trivial, (callsIn_wide.2 (HA.out T _)).mono ?_⟩
      rintro e WE ⟨rfl, hWE⟩
      have HPE := Lib.hid (HP5.out.allocS T 40)
      rw [← hWE] at HPE
      clear hWE c4_0 c4_1 c4_2 c4_3 c4_4 c4_5 c4_6 c4_7 f4 l4
      generalize V5.heap.size = Bn at *
      gi_wp2_with fail
      refine hp_range (w := w) (ds := ds) (σ := Nat) (fun A => [.blk gR 40 (rowC (reachesM S) ++ []), .blk p6 65 [.slice (some ⟨gR, 0, none⟩) S.length S.length], .blk gN 40 (rowC RS ++ []), .blk p7 67 [.bool true, .slice (some ⟨gN, 0, none⟩) S.length S.length, .int .i64 ac], .blk p9 40 (tabL 8 (sC T)), .blk p10 40 (tabL 8 (sC A)), .blk Bn 40 (tabL 8 (sC T))])
        (fun pre A => A = farS S (pre.map Fin.val)) (fun _ _ _ => False) 6 ?a₁ (by decide)
        (gf := 63) (lb := #[.pointer (some ⟨Bn, 0, none⟩)]) rfl (enters_of Tryd.func63 (by kernel_rfl) rfl) (all_stopsF S.length 2 (by decide) Bn w.heap.size T (HF.out T HTT.out.1) (fun x hx => HI.out T HTT.out.1 x (mem_tb hx)) h4 WE (HPE.out.blk 6 rfl) (HT.out.keep HPE.out.below)) rfl (Nat.le_refl _) (fun _ => rfl) 0 rfl HPE.out (fun _ => rfl) ?assign ?body ?done ?stop
      case assign =>
        intro l x X K hK
        gi_wp2
        exact hK
      case body =>
        rintro l pre x X _ _ rfl hX hlen
        have HX := Lib.hid hX
        have HSN : Hid (farS S ((pre ++ [x]).map Fin.val) = farS S (pre.map Fin.val) ||| mi (reachM S x.1) (2 ^ x.1)) := Lib.hid (by rw [List.map_append, List.map_cons, List.map_nil, farS_snoc])
        have hxn := x.2
        generalize farS S (pre.map Fin.val) = A at *
        generalize x.1 = xn at *
        have j1 : (xn : Int) < (S.length : Int) := by omega
        obtain ⟨y0, y1, y2, y3, y4, y5, y6, y7, y8⟩ := row_cells (hX.blk 0 rfl) (reachesM_at hxn)
        have HRX := HRM.out (reachM S xn) (xn : Int) X (by omega)
        rw [Int.toNat_natCast] at HRX
        replace HRX := Lib.hid HRX
        have c1 := hX.c 1 0 rfl rfl; have f1 := hX.f 1 rfl; have l1 := hX.lt 1 rfl
        clear hX
        generalize mi (reachM S xn) (2 ^ xn) = Q at *
        generalize reachM S xn = RX at *
        gi_wp2_with fail
        refine ⟨trivial, (CallsIn.inRound l (callsIn_wide.2 HRX.out)).mono ?_⟩
        rintro e W4 ⟨rfl, hb4⟩
        obtain ⟨V6, hV6⟩ : ∃ V6, V6 = W4.alloc (.cells (sL Q).toArray 40) := ⟨_, rfl⟩
        have hP6 := (HX.out.keep hb4).allocS Q 40
        rw [← hV6] at hP6
        unfold sL at hV6
        have HP6 := Lib.hid hP6
        clear hb4 y0 y1 y2 y3 y4 y5 y6 y7 y8 c1 f1 l1
        obtain ⟨c5_0, c5_1, c5_2, c5_3, c5_4, c5_5, c5_6, c5_7⟩ := (hP6.blk 5 rfl).eight; have f5 := hP6.f 5 rfl; have l5 := hP6.lt 5 rfl; obtain ⟨c7_0, c7_1, c7_2, c7_3, c7_4, c7_5, c7_6, c7_7⟩ := (hP6.blk 7 rfl).eight; have f7 := hP6.f 7 rfl; have l7 := hP6.lt 7 rfl
        clear hP6
        gi_upto_region 15 with fail
        rw [← hV6]
        clear hV6
        generalize W4.heap.size = p12 at *
        gi_wp2_with fail
        refine ⟨trivial, (CallsIn.inRound l (callsIn_wide.2 (HU.out A Q _))).mono ?_⟩
        rintro e W7 ⟨rfl, hb7⟩
        have hP7 := HP6.out.keep hb7
        have HP7 := Lib.hid hP7
        clear hb7 c5_0 c5_1 c5_2 c5_3 c5_4 c5_5 c5_6 c5_7 f5 l5 c7_0 c7_1 c7_2 c7_3 c7_4 c7_5 c7_6 c7_7 f7 l7
        obtain ⟨c5_0, c5_1, c5_2, c5_3, c5_4, c5_5, c5_6, c5_7⟩ := (hP7.blk 5 rfl).eight; have f5 := hP7.f 5 rfl; have l5 := hP7.lt 5 rfl
        clear hP7
        gi_wp2_with fail
        refine ⟨_, HSN.out.symm, ?_⟩
        exact (HP7.out.set8 5 (A ||| Q) rfl).sub (by simp)
      case done =>
        rintro D ys X _ hys rfl hX
        have hys' : ys.map Fin.val = mem T := hys
        rw [hys'] at hX
        have HX := Lib.hid hX
        obtain ⟨c4_0, c4_1, c4_2, c4_3, c4_4, c4_5, c4_6, c4_7⟩ := (hX.blk 4 rfl).eight; have f4 := hX.f 4 rfl; have l4 := hX.lt 4 rfl; obtain ⟨c5_0, c5_1, c5_2, c5_3, c5_4, c5_5, c5_6, c5_7⟩ := (hX.blk 5 rfl).eight; have f5 := hX.f 5 rfl; have l5 := hX.lt 5 rfl
        have c6 := hX.c 3 1 rfl rfl
        have l6 := hX.lt 3 rfl
        clear hys hys' hX
        have HMX := Lib.hid (fun W => HM.out T (farS S (mem T)) W)
        rw [← HRR.out] at HMX
        generalize farS S (mem T) = A at *
        generalize redRow S k = Q at *
        gi_wp2_with fail
        refine Lx.regionW (C := fun W' => W'.cell? ⟨p7, 1, none⟩ = some (.slice (some ⟨gN, 0, none⟩) S.length S.length)) (hs := [3]) (by kernel_rfl) (by kernel_rfl) (by kernel_rfl) c6 ?_
        repeat' (first
          | (refine Lx.lex_no (Lx.n1 rfl rfl rfl (by with_reducible rfl)) (fun K hK => ?_); go_simp; skip; refine hK _ ?_; clear hK K)
          | (refine Lx.lex_no (Lx.n0 rfl rfl rfl (by with_reducible rfl)) (fun K hK => ?_); go_simp; skip; refine hK _ ?_; clear hK K)
          | (refine Lx.lex_no (Lx.n2 rfl rfl rfl) (fun K hK => ?_); go_simp; skip; refine hK _ ?_; clear hK K)
          | (refine Lx.lex_pure (v := ?_) rfl (by first | exact Lx.w0 rfl | exact Lx.w1 rfl rfl rfl (by with_reducible rfl)) ?_ (fun K hK => ?_); rotate_left 1; (intro w' hCw; (try dsimp only at hCw); go_simp; first | done | with_reducible rfl); go_simp; skip; refine hK _ ?_; clear hK K)
          | (refine Lx.lex_read (v := ?_) rfl (by first | exact Lx.w0 rfl | exact Lx.w1 rfl rfl rfl (by with_reducible rfl)) ?_ (fun K hK => ?_); rotate_left 1; (go_simp; first | done | with_reducible rfl); go_simp; skip; refine hK _ ?_; clear hK K)
          | (refine Lx.lex_eff rfl (by first | exact Lx.w0 rfl | exact Lx.w1 rfl rfl rfl (by with_reducible rfl)) (fun K hK => ?_); go_simp; (first | (go_at_call 52; refine (HMX.out _).mono ?_; rintro e W7 ⟨rfl, hb7⟩; have hP7 := HX.out.drew.keep hb7; have HP7 := Lib.hid hP7; clear hb7; have r0 : RS.length = S.length := HLN.out; obtain ⟨x0, hx0⟩ : ∃ x, RS[k]? = some x := ⟨_, List.getElem?_eq_getElem (by omega)⟩; have HX0 := Lib.hid hx0; obtain ⟨z0, z1, z2, z3, z4, z5, z6, z7, z8⟩ := row_cells (hP7.blk 2 rfl) hx0; have zf := hP7.f 2 rfl; have hC7 := hP7.c 3 1 rfl rfl; have HC8 := Lib.hid ((HP7.out.setRowS 2 k Q rfl HX0.out).c 3 1 rfl rfl); unfold setAt at HC8; clear hx0 hP7 r0) | skip); refine hK _ _ (by first | with_reducible exact hC7 | with_reducible exact HC8.out) ?_; clear hK K))
        all_goals (refine Lx.lex_nil ?_)
        obtain ⟨V8, hV8⟩ : ∃ V8, V8 = setAt W7 gN (k * 8) Q := ⟨_, rfl⟩
        have hP8 := HP7.out.setRowS 2 k Q rfl HX0.out
        rw [← hV8] at hP8
        unfold setAt at hV8
        rw [← hV8]
        have HP8 := Lib.hid hP8
        have hQk : (RS.set k Q)[k]? = some Q := by rw [List.getElem?_set, if_pos rfl, if_pos (by have := HLN.out; omega)]
        obtain ⟨y0, y1, y2, y3, y4, y5, y6, y7, y8⟩ := row_cells (hP8.blk 2 rfl) hQk
        have c71 := hP8.c 3 1 rfl rfl
        have c72 := hP8.c 3 2 rfl rfl
        have f7 := hP8.f 3 rfl
        have l7 := hP8.lt 3 rfl
        have HLX := Lib.hid (fun W => HL.out Q W)
        clear hV8 hP8 hQk c6 l6 zf hC7 z0 z1 z2 z3 z4 z5 z6 z7 z8 c4_0 c4_1 c4_2 c4_3 c4_4 c4_5 c4_6 c4_7 f4 l4 c5_0 c5_1 c5_2 c5_3 c5_4 c5_5 c5_6 c5_7 f5 l5
        gi_wp2_with fail
        refine Lx.regionTW (C := fun W' => W'.cell? ⟨p7, 2, none⟩ = some (.int .i64 ac)) (C' := fun _ => True) (hs := [3]) 15 (List.take 15 _) (List.drop 15 _) (List.take_append_drop 15 _).symm rfl (by kernel_rfl) (by kernel_rfl) (by kernel_rfl) (by kernel_rfl) c72 ?_
        simp only [List.take_succ_cons, List.take_zero, List.drop_succ_cons, List.drop_zero]
        repeat' (first
          | (refine Lx.lex_no (Lx.n1 rfl rfl rfl (by with_reducible rfl)) (fun K hK => ?_); go_simp; skip; refine hK _ ?_; clear hK K)
          | (refine Lx.lex_no (Lx.n0 rfl rfl rfl (by with_reducible rfl)) (fun K hK => ?_); go_simp; skip; refine hK _ ?_; clear hK K)
          | (refine Lx.lex_no (Lx.n2 rfl rfl rfl) (fun K hK => ?_); go_simp; skip; refine hK _ ?_; clear hK K)
          | (refine Lx.lex_pure (v := ?_) rfl (by first | exact Lx.w0 rfl | exact Lx.w1 rfl rfl rfl (by with_reducible rfl)) ?_ (fun K hK => ?_); rotate_left 1; (intro w' hCw; (try dsimp only at hCw); go_simp; first | done | with_reducible rfl); go_simp; skip; refine hK _ ?_; clear hK K)
          | (refine Lx.lex_read (v := ?_) rfl (by first | exact Lx.w0 rfl | exact Lx.w1 rfl rfl rfl (by with_reducible rfl)) ?_ (fun K hK => ?_); rotate_left 1; (go_simp; first | done | with_reducible rfl); go_simp; skip; refine hK _ ?_; clear hK K)
          | (refine Lx.lex_eff rfl (by first | exact Lx.w0 rfl | exact Lx.w1 rfl rfl rfl (by with_reducible rfl)) (fun K hK => ?_); go_simp; (first | (go_at_call 45; refine (HLX.out _).mono ?_; rintro e W9 ⟨rfl, hb9⟩; have hP9 := HP8.out.drew.keep hb9; have HP9 := Lib.hid hP9; have c73 := hP9.c 3 2 rfl rfl; have f73 := hP9.f 3 rfl; have l73 := hP9.lt 3 rfl; clear hb9 hP9) | skip); refine hK _ _ (by with_reducible exact c73) ?_; clear hK K))
        refine Lx.lex_nil ⟨trivial, ?_⟩
        repeat' (first
          | (refine Lx.lex_no (Lx.n1 rfl rfl rfl (by with_reducible rfl)) (fun K hK => ?_); go_simp; skip; refine hK _ ?_; clear hK K)
          | (refine Lx.lex_no (Lx.n0 rfl rfl rfl (by with_reducible rfl)) (fun K hK => ?_); go_simp; skip; refine hK _ ?_; clear hK K)
          | (refine Lx.lex_no (Lx.n2 rfl rfl rfl) (fun K hK => ?_); go_simp; skip; refine hK _ ?_; clear hK K)
          | (refine Lx.lex_pure (v := ?_) rfl (by first | exact Lx.w0 rfl | exact Lx.w1 rfl rfl rfl (by with_reducible rfl)) ?_ (fun K hK => ?_); rotate_left 1; (intro w' hCw; (try dsimp only at hCw); go_simp; first | done | with_reducible rfl); go_simp; skip; refine hK _ ?_; clear hK K)
          | (refine Lx.lex_read (v := ?_) rfl (by first | exact Lx.w0 rfl | exact Lx.w1 rfl rfl rfl (by with_reducible rfl)) ?_ (fun K hK => ?_); rotate_left 1; (go_simp; first | done | with_reducible rfl); go_simp; skip; refine hK _ ?_; clear hK K)
          | (refine Lx.lex_eff rfl (by first | exact Lx.w0 rfl | exact Lx.w1 rfl rfl rfl (by with_reducible rfl)) (fun K hK => ?_); go_simp; (first | skip); refine hK _ _ (trivial) ?_; clear hK K))
        all_goals (refine Lx.lex_nil ?_)
        gi_wp2_with fail
        have hP10 := HP9.out.set 3 2 (.int .i64 (wrap64 (ac + ((mem Q).length : Int)))) rfl
        exact ⟨_, by omega, k + 1, D :: ds, rfl, hlt, RuF_mk, by rw [HST.out]; exact (hP10.sub (by simp)).rebase⟩
      case stop =>
        rintro D c pre X _ _ h _
        exact h.elim
    · obtain rfl : k = S.length := by omega
      clear hP
      gi_wp2_with fail
      show LeavesInM _ _ _ _ _ _ (marksOf ds) .returning _
      refine hp_leaves (fun X hX => ?_) _ _ _ HP.out
      have hLn := redK_len S S.length
      refine ⟨.tuple #[.pointer (some ⟨p7, 0, none⟩), .int .i64 0], by simp [results, Tryd.results35, go_sem], p7, gN, S.length, [], rfl, ?_, hX.lo 3 rfl, hX.lo 2 rfl, hX.below⟩
      exact ⟨by rw [hLn]; exact hX.blk 3 rfl, hX.blk 2 rfl, redK_fit HF.out _, by rw [hLn]; exact h512⟩
end Go.Proofs.YtpaakgngoocjeaaDoor
