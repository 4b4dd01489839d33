/-
  DERIVED: THE SHELF's CONTRACTS AT THIS DUMP, IN PLAIN WORDS (tools/lay-plain.mjs out of 'TrydShelf.lean', which tools/lay-shelf.mjs wrote): THE SAME DECLARATIONS UNDER THE SAME NAMES: 'import', 'namespace', 'open', 'def', 'theorem' AND NOTHING ELSE: no command of the shelf's: FOR A HAND-IN. Each laying: the table of numbers ('.._ren') and one theorem, a field a fact of the dump's own or the kernel's comparison; each contract: ONE APPLICATION.
-/
import Derived.Shelf.Strconv.Itoa0
import Derived.Shelf.Strconv.Itoa1
import Derived.Shelf.LaysM
import Derived.Shelf.Strconv.Itoa2
import Derived.Shelf.Strconv.AppendUint10
import Derived.Shelf.Strconv.AppendInt10
import Derived.Shelf.Strconv.AppendIntPublic10
import Derived.Test.YtpaakgngoocjeaaDoorProg
import Derived.Test.YtpaakgngoocjeaaDoorDig06
import Derived.Test.YtpaakgngoocjeaaDoorDig08
/- The contract of cycle of digraph. -/
namespace Go.Proofs.YtpaakgngoocjeaaDoor
open Go.RowKit Go.Shelf Go.ChangeShapes Go.WideShapes Go.ChangeAt Go.Deep Go.Joins

attribute [local go_sem] Oper.semAt_some

/-- the index of the first set with more than one member -/
def idxGo : List Nat → Nat → Int
  | [], _ => -1
  | T :: r, k => if 1 < (mem T).length then (k : Int) else idxGo r (k + 1)
theorem gcyc1_any (T : Nat) (w : World) : Calls Tryd.prog 66 #[sV T] w (RetPost (.bool (decide (1 < (mem T).length))) w.heap.size w) := by
  have HL := Lib.hid (fun W => len_any T W)
  unfold sV at *
  obtain ⟨W0, hW0⟩ : ∃ W0, W0 = w.alloc (.cells (sL T).toArray 40) := ⟨_, rfl⟩
  have hB0 : Below w.heap.size w W0 := by rw [hW0]; exact (Below.refl _ w).alloc (Nat.le_refl _) _
  have hS : Blk W0 w.heap.size 40 (tabL 8 (sC T)) := by rw [hW0, ← sL_tab]; exact blk_new w _ _
  obtain ⟨z0, z1, z2, z3, z4, z5, z6, z7⟩ := hS.eight
  have zl := hS.lt
  have HB := Lib.hid hB0
  clear hB0 hS
  unfold sL at hW0
  have HD : Eqn (decide (1 < (mem T).length)) (decide ((1 : Int) < ((mem T).length : Int))) := by rw [Eqn]; congr 1; rw [eq_iff_iff]; omega
  rw [HD.out]
  go_enter Tryd.func66, Tryd.ntmps66
  go_upto_region 1 with fail
  rw [← hW0]
  clear hW0
  go_wp2_with fail
  refine (HL.out _).mono ?_
  rintro e W1 ⟨rfl, hb1⟩
  have HB1 := Lib.hid (HB.out.trans (hb1.mono HB.out.size))
  clear hb1 z0 z1 z2 z3 z4 z5 z6 z7 zl
  go_wp2_with fail
  go_ret
  exact ⟨ret_bool (by first | rfl | simp), HB1.out⟩

set_option maxHeartbeats 1000000 in
theorem gidx_any (A : Option Addr) (n c : Nat) (w : World) (P : List Nat) (hn : n ≤ 100000) (hP : RowS 8 sC w w.heap.size A n P) :
    Calls Tryd.prog 65 #[.slice A n c, .func (.func 66) #[] #[]] w (RetPost (.int .i64 (idxGo P 0)) w.heap.size w) := by
  have HC := Lib.hid (fun T W => gcyc1_any T W)
  have HP := Lib.hid hP
  have hlen := hP.1
  clear hP
  unfold sV at HC
  go_enter Tryd.func65, Tryd.ntmps65
  go_wp2_with fail
  go_loopw [8] (fun i wr => ∃ k : Nat, k ≤ n ∧ i = .int .i64 k ∧ Eqn (idxGo P 0) (idxGo (P.drop k) k) ∧ Below w.heap.size w wr) (fun i _ => n - (intOf i).toNat)
  case atStart => exact ⟨0, Nat.zero_le _, rfl, rfl, Below.refl _ _⟩
  case round =>
    obtain ⟨k, hk, rfl, hE, hB⟩ := hrel
    have HB := Lib.hid hB
    by_cases hlt : k < n
    · have j0 : (k : Int) < (n : Int) := by omega
      obtain ⟨T, hT, hd⟩ := drop_at (xs := P) (k := k) (by omega)
      have HS : Eqn (idxGo P 0) (if 1 < (mem T).length then (k : Int) else idxGo (P.drop (k + 1)) (k + 1)) := by rw [Eqn, hE.out, hd]; rfl
      obtain ⟨b, off, rfl, hbw, hcell⟩ := (HP.out.below hB).2 (by omega)
      have y0 : wr.cell? ⟨b, off + k * 8, none⟩ = some (sC T 0) := hcell k T hT 0 (by decide)
      have y1 := hcell k T hT 1 (by decide)
      have y2 := hcell k T hT 2 (by decide)
      have y3 := hcell k T hT 3 (by decide)
      have y4 := hcell k T hT 4 (by decide)
      have y5 := hcell k T hT 5 (by decide)
      have y6 := hcell k T hT 6 (by decide)
      have y7 := hcell k T hT 7 (by decide)
      unfold sC at y0 y1 y2 y3 y4 y5 y6 y7
      have hbr := hB.size
      have y8 : b < wr.heap.size := by omega
      have HCT := Lib.hid (HC.out T wr)
      clear hE hB hT hd hcell hbr hbw
      by_cases h1 : 1 < (mem T).length
      · rw [decide_eq_true h1] at HCT
        rw [if_pos h1] at HS
        clear h1
        go_wp2_with fail
        refine HCT.out.mono ?_
        rintro e W1 ⟨rfl, hb1⟩
        have HB1 := Lib.hid (HB.out.trans (hb1.mono HB.out.size))
        clear hb1 y0 y1 y2 y3 y4 y5 y6 y7 y8
        go_wp2_with fail
        go_ret
        exact ⟨by rw [HS.out]; rfl, HB1.out⟩
      · rw [decide_eq_false h1] at HCT
        rw [if_neg h1] at HS
        clear h1
        go_wp2_with fail
        refine HCT.out.mono ?_
        rintro e W1 ⟨rfl, hb1⟩
        have HB1 := Lib.hid (HB.out.trans (hb1.mono HB.out.size))
        clear hb1 y0 y1 y2 y3 y4 y5 y6 y7 y8
        go_wp2_with fail
        go_roundw
        case rel => exact ⟨k + 1, hlt, by go_num, HS, HB1.out⟩
        case measure => simp [intOf]; omega
    · obtain rfl : k = n := by omega
      have HS : Eqn (idxGo P 0) (-1) := by rw [Eqn, hE.out, List.drop_of_length_le (by omega)]; rfl
      clear hE hB
      go_wp2_with fail
      go_ret
      exact ⟨by rw [HS.out]; rfl, HB.out⟩

def bestStep (D : List Int) (b : Int) (w : Nat) : Int := if 0 < D.getD w 0 ∧ (b < 0 ∨ D.getD w 0 < D.getD b.toNat 0) then (w : Int) else b
theorem bests_lt (D : List Int) (n : Nat) : ∀ (L : List Nat) (b : Int), (∀ x ∈ L, x < n) → (b < 0 → b = -1) → b < (n : Int) → (L.foldl (bestStep D) b < 0 → L.foldl (bestStep D) b = -1) ∧ L.foldl (bestStep D) b < (n : Int) := by
  intro L
  induction L with
  | nil => intro b _ h1 h2; exact ⟨h1, h2⟩
  | cons x r ih =>
    intro b hL h1 h2
    have hx := hL x (by simp)
    rw [List.foldl_cons]
    refine ih _ (fun y hy => hL y (by simp [hy])) ?_ ?_
    · unfold bestStep; split
      · intro h; omega
      · exact h1
    · unfold bestStep; split
      · omega
      · exact h2
/-- the next vertex of the cycle -/
def nextC (S : List Nat) (D : List Int) (v : Nat) : Int := match (mem (S.getD v 0)).find? (fun w => decide (D.getD w 0 = wrap64 (D.getD v 0 - 1))) with | none => -1 | some w => (w : Int)
def cycGo (S : List Nat) (D : List Int) (first : Nat) : Nat → Int → List Int → Option (List Int)
  | f, v, c => if 0 ≤ v ∧ v ≠ (first : Int) then match f with
    | 0 => none
    | f + 1 => cycGo S D first f (nextC S D v.toNat) (c ++ [v])
    else some c

/-- no member of a list is the next vertex -/
def CyR (D : List Int) (v : Nat) {N : Nat} (pre : List (Fin N)) (s : Int) : Prop := s = -1 ∧ ∀ q ∈ pre, ¬ D.getD q.1 0 = wrap64 (D.getD v 0 - 1)
def CyE (D : List Int) (v : Nat) {N : Nat} (c : Code) (xs : List (Fin N)) (s : Int) : Prop := c = .exit 4 ∧ ∃ (pre : List (Fin N)) (p : Fin N), xs = pre ++ [p] ∧ (∀ q ∈ pre, ¬ D.getD q.1 0 = wrap64 (D.getD v 0 - 1)) ∧ D.getD p.1 0 = wrap64 (D.getD v 0 - 1) ∧ s = (p.1 : Int)
theorem cy_none {S : List Nat} {D : List Int} {v N : Nat} {xs : List (Fin N)} {s : Int} (hxs : xs.map Fin.val = mem (S.getD v 0)) (h : CyR D v xs s) : nextC S D v = s := by
  unfold nextC
  rw [List.find?_eq_none.2 (fun q hq => ?_), h.1]
  rw [← hxs, List.mem_map] at hq
  obtain ⟨y, hy, rfl⟩ := hq
  rw [decide_eq_true_eq]
  exact h.2 y hy
theorem cy_some {S : List Nat} {D : List Int} {v N : Nat} {xs : List (Fin N)} {s : Int} {c : Code} (hxs : xs.map Fin.val <+: mem (S.getD v 0)) (h : CyE D v c xs s) : nextC S D v = s ∧ 0 ≤ s ∧ s < (N : Int) := by
  obtain ⟨_, pre, p, rfl, h1, h2, rfl⟩ := h
  rw [List.map_append, List.map_singleton] at hxs
  unfold nextC
  rw [find_pre (p := p.1) hxs (fun q hq => ?_) (decide_eq_true h2)]
  · exact ⟨rfl, by omega, by have := p.2; omega⟩
  · obtain ⟨y, hy, rfl⟩ := List.mem_map.1 hq
    exact decide_eq_false (h1 y hy)
def CyF (gb p7 p11 first : Nat) (v10 : Value) (ds : List Nat) (a : Act) : Prop := ∃ u : Nat → Value, a = { tmps := #[(.pointer (some ⟨gb, 0, none⟩)), u 1, (.slice none 0 0), u 3, u 4, u 5, (.int .i64 (first : Int)), (.pointer (some ⟨p7, 0, none⟩)), u 8, u 9, v10, (.pointer (some ⟨p11, 0, none⟩)), u 12, u 13, u 14, u 15, u 16, u 17, u 18, u 19, u 20, u 21, u 22, u 23, u 24, u 25, u 26, u 27, u 28, u 29, u 30, u 31, u 32, u 33, u 34, u 35, u 36, u 37, u 38, u 39, u 40, u 41, u 42, u 43, u 44, u 45, u 46, u 47, u 48, u 49, u 50, u 51, u 52, u 53, u 54, u 55, u 56, u 57, u 58, u 59, u 60, u 61, u 62, u 63, u 64, u 65, u 66, u 67, u 68, u 69, u 70, u 71, u 72, u 73, u 74, u 75, u 76, u 77, u 78, u 79, u 80, u 81, u 82, u 83, u 84, u 85, u 86, u 87, u 88, u 89, u 90, u 91, u 92, u 93, u 94, u 95, u 96, u 97], defers := marksOf ds }
theorem CyF_mk {gb p7 p11 first : Nat} {v10 : Value} {ds : List Nat} {u1 u3 u4 u5 u8 u9 u12 u13 u14 u15 u16 u17 u18 u19 u20 u21 u22 u23 u24 u25 u26 u27 u28 u29 u30 u31 u32 u33 u34 u35 u36 u37 u38 u39 u40 u41 u42 u43 u44 u45 u46 u47 u48 u49 u50 u51 u52 u53 u54 u55 u56 u57 u58 u59 u60 u61 u62 u63 u64 u65 u66 u67 u68 u69 u70 u71 u72 u73 u74 u75 u76 u77 u78 u79 u80 u81 u82 u83 u84 u85 u86 u87 u88 u89 u90 u91 u92 u93 u94 u95 u96 u97 : Value} : CyF gb p7 p11 first v10 ds { tmps := #[(.pointer (some ⟨gb, 0, none⟩)), u1, (.slice none 0 0), u3, u4, u5, (.int .i64 (first : Int)), (.pointer (some ⟨p7, 0, none⟩)), u8, u9, v10, (.pointer (some ⟨p11, 0, none⟩)), u12, u13, u14, u15, u16, u17, u18, u19, u20, u21, u22, u23, u24, u25, u26, u27, u28, u29, u30, u31, u32, u33, u34, u35, u36, u37, u38, u39, u40, u41, u42, u43, u44, u45, u46, u47, u48, u49, u50, u51, u52, u53, u54, u55, u56, u57, u58, u59, u60, u61, u62, u63, u64, u65, u66, u67, u68, u69, u70, u71, u72, u73, u74, u75, u76, u77, u78, u79, u80, u81, u82, u83, u84, u85, u86, u87, u88, u89, u90, u91, u92, u93, u94, u95, u96, u97], defers := marksOf ds } := ⟨fun i => [undef, u1, undef, u3, u4, u5, undef, undef, u8, u9, undef, undef, u12, u13, u14, u15, u16, u17, u18, u19, u20, u21, u22, u23, u24, u25, u26, u27, u28, u29, u30, u31, u32, u33, u34, u35, u36, u37, u38, u39, u40, u41, u42, u43, u44, u45, u46, u47, u48, u49, u50, u51, u52, u53, u54, u55, u56, u57, u58, u59, u60, u61, u62, u63, u64, u65, u66, u67, u68, u69, u70, u71, u72, u73, u74, u75, u76, u77, u78, u79, u80, u81, u82, u83, u84, u85, u86, u87, u88, u89, u90, u91, u92, u93, u94, u95, u96, u97].getD i undef, rfl⟩
set_option maxRecDepth 100000 in
set_option maxHeartbeats 4000000 in
theorem gcycle_any {gb rb cap : Nat} {ext : List Value} {S : List Nat} {arcs : Int} (at' first f fq : Nat) (T : Nat) (tl : List Nat) (D : List Int) (c : List Int) (w : World) (hT : Tab w) (h : GAt w gb rb cap ext S arcs) (hI : InG S)
    (hat : idxGo (partsK S S.length).2.1 0 = (at' : Int)) (hatT : (partsK S S.length).2.1[at']? = some T) (hmT : mem T = first :: tl) (hTF : Fit T) (hfn : first < S.length) (hf : f ≤ 1000) (hD : distF S f first = some D) (hDl : D.length = S.length) (hfq : fq ≤ 100000)
    (hc : cycGo S D first fq ((mem (S.getD first 0)).foldl (bestStep D) (-1)) [(first : Int)] = some c) :
    Calls Tryd.prog 55 #[.pointer (some ⟨gb, 0, none⟩)] w (NewInts c w) := by
  have h512 := h.2.2.2
  have HG := Lib.hid h
  have HF : Hid (∀ x ∈ S, Fit x) := Lib.hid h.2.2.1
  have HT := Lib.hid hT
  have HI := Lib.hid hI
  have h4 : tabN ≤ w.heap.size := hT.1
  have HA := Lib.hid (fun T W => all_any T W)
  have HPA := Lib.hid (gparts_any w hT h hI)
  have HLN := Lib.hid (partsK_len S S.length)
  have HMI := Lib.hid (fun W hW => min_any T W hTF hW)
  have hmin : nextF T 0 = (first : Int) := by rw [next_first]; unfold atK; rw [hmT]; rfl
  rw [hmin] at HMI
  have HDI := Lib.hid (fun W hG => gdist_any (gb := gb) (rb := rb) (cap := cap) (ext := ext) (arcs := arcs) first f D W hG hfn hf hD)
  have HC := Eqn.mk hc
  have HAT := Lib.hid hat
  have HATT := Lib.hid hatT
  obtain ⟨i0, hi, hz0, hz1, hz2⟩ := info_parts int_info
  clear h hI hT hat hatT hmT hTF hD hc hmin
  unfold sV at HA HMI
  generalize partsK S S.length = pk at *
  obtain ⟨seen, P, X⟩ := pk
  dsimp only at HPA HLN HAT HATT
  refine (callsIn_wide (n := 3)).1 ?_
  refine callsIn_of_wp_marks Tryd.func55 rfl trivial ?_ rfl
  simp only [Tryd.ntmps55, List.size_toArray, List.length_cons, List.length_nil, Nat.reduceAdd, Nat.reduceSub, Array.replicate_succ, Array.replicate_zero, List.push_toArray, List.append_toArray, List.nil_append, List.cons_append]
  gi_wp2_with fail
  refine ⟨trivial, (callsIn_wide.2 HPA.out).mono ?_⟩
  rintro e W1 ⟨vP, A6, rfl, hown, _, _, hb⟩
  have hP1 := (Hp.start w).pushRow hb hown
  obtain ⟨AP, cP, rfl⟩ := hP1.form 0 rfl
  have hPl : P.length ≤ 512 := by have := HLN.out.2; omega
  have hrow : RowS 8 sC W1 W1.heap.size AP P.length P := by
    obtain ⟨A', c', e, hr⟩ := own_formS (f := sC) (by decide) hown
    injection e with e1 _ _
    subst e1
    exact hr
  have HIX := Lib.hid (gidx_any AP P.length cP W1 P (by omega) hrow)
  rw [HAT.out] at HIX
  have HP1 := Lib.hid hP1
  clear hown hb hP1 HPA hrow
  gi_wp2_with fail
  refine ⟨trivial, (callsIn_wide.2 HIX.out).mono ?_⟩
  rintro e W2 ⟨rfl, hb2⟩
  have hP2 := HP1.out.keep hb2
  have HP2 := Lib.hid hP2
  have hatl : at' < P.length := (List.getElem?_eq_some_iff.1 HATT.out).1
  have j0 : ¬ ((at' : Int) < 0) := by omega
  have j1 : (at' : Int) < (P.length : Int) := by omega
  have j2 : (0 : Int) ≤ (at' : Int) := by omega
  obtain ⟨gP, cP', hAP, y0, y1, y2, y3, y4, y5, y6, y7, y8⟩ := hP2.rowSet 0 at' rfl HATT.out
  injection hAP with hAP _ hc
  subst hAP hc
  clear hb2 hP2 HP1
  gi_wp2_with fail
  refine ⟨trivial, (callsIn_wide.2 (HMI.out _ (HT.out.keep HP2.out.below))).mono ?_⟩
  rintro e W3 ⟨rfl, hb3⟩
  have HP3 := Lib.hid ((HP2.out.keep hb3).sub (L' := []) (by simp))
  clear hb3 y0 y1 y2 y3 y4 y5 y6 y7 y8 HP2 HMI
  gi_wp2_with fail
  refine ⟨trivial, (callsIn_wide.2 (HDI.out _ (HG.out.keep HP3.out.below))).mono ?_⟩
  rintro e W4 ⟨gD, rfl, hgD, hBD, hb4⟩
  have hP4 := HP3.out.pushBlk hb4 hBD hgD
  rw [hDl]
  have hP5 := (hP4.alloc1 (.slice (some ⟨gD, 0, none⟩) S.length S.length) 36).alloc1 (.int .i64 (-1)) 3
  obtain ⟨V5, hV5⟩ : ∃ V5, V5 = (W4.alloc (.cells #[.slice (some ⟨gD, 0, none⟩) S.length S.length] 36)).alloc (.cells #[.int .i64 (-1)] 3) := ⟨_, rfl⟩
  rw [← hV5, World.size_alloc] at hP5
  have HP5 := Lib.hid hP5
  have hG := HG.out.keep hP5.below
  obtain ⟨_, q1, _, q3⟩ := hG.cells
  obtain ⟨R, hR⟩ : ∃ R, S[first]? = some R := ⟨_, List.getElem?_eq_getElem hfn⟩
  have HRR : Hid (R ∈ S ∧ S.getD first 0 = R) := Lib.hid ⟨List.mem_of_getElem? hR, by rw [List.getD_eq_getElem?_getD, hR]; rfl⟩
  rw [HRR.out.2] at HC
  obtain ⟨y0, y1, y2, y3, y4, y5, y6, y7, y8⟩ := row_cells hG.2.1 hR
  have j3 : (first : Int) < (S.length : Int) := by omega
  clear hgD hBD hb4 hP4 hP5 hG hR HP3 HDI j0 j1 j2
  gi_upto_region 8 with fail
  rw [← hV5]
  clear hV5
  generalize W4.heap.size + 1 = p8 at *
  generalize W4.heap.size = p7 at *
  gi_wp2_with fail
  refine ⟨trivial, (callsIn_wide.2 (HA.out R _)).mono ?_⟩
  rintro e WE ⟨rfl, hWE⟩
  have HPE := Lib.hid (HP5.out.allocS R 40)
  rw [← hWE] at HPE
  clear hWE q1 q3 y0 y1 y2 y3 y4 y5 y6 y7 y8
  generalize V5.heap.size = Bn at *
  gi_wp2_with fail
  refine hp_range (w := w) (ds := []) (σ := Int) (fun b => [.blk gD 3 (D.map intV), .blk p7 36 [.slice (some ⟨gD, 0, none⟩) S.length S.length], .blk p8 3 [.int .i64 b], .blk Bn 40 (tabL 8 (sC R))])
    (fun pre b => b = (pre.map Fin.val).foldl (bestStep D) (-1)) (fun _ _ _ => False) 3 ?a₁ (by decide)
    (gf := 63) (lb := #[.pointer (some ⟨Bn, 0, none⟩)]) rfl (enters_of Tryd.func63 (by kernel_rfl) rfl) (all_stopsF S.length 2 (by decide) Bn w.heap.size R (HF.out R HRR.out.1) (fun x hx => HI.out R HRR.out.1 x (mem_tb hx)) h4 WE (HPE.out.blk 3 rfl) (HT.out.keep HPE.out.below)) rfl (Nat.le_refl _) (fun _ => rfl) (-1) rfl HPE.out (fun _ => rfl) ?assign ?body ?done ?stop
  case assign =>
    intro l x X K hK
    gi_wp2
    exact hK
  case body =>
    rintro l pre x Y _ _ rfl hX hlen
    have HX := Lib.hid hX
    have HSN : Hid (((pre ++ [x]).map Fin.val).foldl (bestStep D) (-1) = bestStep D ((pre.map Fin.val).foldl (bestStep D) (-1)) x.1) := Lib.hid (by rw [List.map_append, List.foldl_append]; rfl)
    have HBL := Lib.hid (bests_lt D S.length (pre.map Fin.val) (-1) (fun y hy => by obtain ⟨z, _, rfl⟩ := List.mem_map.1 hy; exact z.2) (fun _ => rfl) (by omega))
    have hxn := x.2
    generalize (pre.map Fin.val).foldl (bestStep D) (-1) = b at *
    generalize x.1 = xn at *
    have j4 : (xn : Int) < (S.length : Int) := by omega
    obtain ⟨z, hz⟩ : ∃ z, D[xn]? = some z := ⟨_, List.getElem?_eq_getElem (by omega)⟩
    have hDz : D.getD xn 0 = z := by rw [List.getD_eq_getElem?_getD, hz]; rfl
    have HBS : Hid (bestStep D b xn = if 0 < z ∧ (b < 0 ∨ z < D.getD b.toNat 0) then (xn : Int) else b) := Lib.hid (by unfold bestStep; rw [hDz])
    have cA := hX.cI 0 xn rfl hz
    have c1 := hX.c 1 0 rfl rfl; have f1 := hX.f 1 rfl; have l1 := hX.lt 1 rfl; have c2 := hX.c 2 0 rfl rfl; have f2 := hX.f 2 rfl; have l2 := hX.lt 2 rfl
    by_cases hz0 : 0 < z
    · by_cases hb0 : b < 0
      · rw [if_pos ⟨hz0, .inl hb0⟩] at HBS
        clear hX hz hDz
        gi_wp2_with fail
        refine Lx.regionIn (C := fun _ => True) (hs := []) (by kernel_rfl) (by kernel_rfl) (by kernel_rfl) trivial ?_
        repeat' (first
          | (refine Lx.lex_no (Lx.n1 rfl rfl rfl (by with_reducible rfl)) (fun K hK => ?_); go_simp; refine hK _ ?_; clear hK K)
          | (refine Lx.lex_no (Lx.n0 rfl rfl rfl (by with_reducible rfl)) (fun K hK => ?_); go_simp; refine hK _ ?_; clear hK K)
          | (refine Lx.lex_no (Lx.n2 rfl rfl rfl) (fun K hK => ?_); go_simp; refine hK _ ?_; clear hK K)
          | (refine Lx.lex_pure (v := ?_) rfl (by first | exact Lx.w0 rfl | exact Lx.w1 rfl rfl rfl (by with_reducible rfl)) ?_ (fun K hK => ?_); rotate_left 1; (intro w' hCw; (try dsimp only at hCw); go_simp; done); go_simp; refine hK _ ?_; clear hK K)
          | (refine Lx.lex_pure (v := ?_) rfl (by first | exact Lx.w0 rfl | exact Lx.w1 rfl rfl rfl (by with_reducible rfl)) ?_ (fun K hK => ?_); rotate_left 1; (intro w' hCw; (try dsimp only at hCw); go_simp; with_reducible rfl); go_simp; refine hK _ ?_; clear hK K)
          | (refine Lx.lex_read (v := ?_) rfl (by first | exact Lx.w0 rfl | exact Lx.w1 rfl rfl rfl (by with_reducible rfl)) ?_ (fun K hK => ?_); rotate_left 1; (go_simp; done); go_simp; refine hK _ ?_; clear hK K)
          | (refine Lx.lex_read (v := ?_) rfl (by first | exact Lx.w0 rfl | exact Lx.w1 rfl rfl rfl (by with_reducible rfl)) ?_ (fun K hK => ?_); rotate_left 1; (go_simp; with_reducible rfl); go_simp; refine hK _ ?_; clear hK K)
          | (refine Lx.lex_eff rfl (by first | exact Lx.w0 rfl | exact Lx.w1 rfl rfl rfl (by with_reducible rfl)) (fun K hK => ?_); go_simp; (first | fail | skip); refine hK _ _ (trivial) ?_; clear hK K)
          | (refine Lx.lex_cases rfl rfl rfl (fun hgd K hK => ?_) (fun hgd K hK => ?_) <;> (try simp only [decide_eq_true_eq, decide_eq_false_iff_not] at hgd) <;> (first | (exfalso; omega) | (go_simp; refine hK _ ?_; clear hK K))))
        all_goals (refine Lx.lex_nil ?_)
        gi_wp2_with fail
        refine ⟨_, HSN.out.symm, ?_⟩
        rw [HBS.out]
        exact (HX.out.drew.set 2 0 (.int .i64 (xn : Int)) rfl)
      · obtain ⟨bn, rfl⟩ : ∃ bn : Nat, b = (bn : Int) := ⟨b.toNat, by omega⟩
        have hbn : bn < S.length := by have := HBL.out.2; omega
        obtain ⟨y, hy⟩ : ∃ y, D[bn]? = some y := ⟨_, List.getElem?_eq_getElem (by omega)⟩
        have hDy : D.getD bn 0 = y := by rw [List.getD_eq_getElem?_getD, hy]; rfl
        rw [Int.toNat_natCast, hDy] at HBS
        have cB := hX.cI 0 bn rfl hy
        have j5 : (bn : Int) < (S.length : Int) := by omega
        have j6 : (0 : Int) ≤ (bn : Int) := by omega
        clear hX hz hDz hy hDy
        by_cases hzy : z < y
        · rw [if_pos ⟨hz0, .inr hzy⟩] at HBS
          gi_wp2_with fail
          refine Lx.regionIn (C := fun _ => True) (hs := []) (by kernel_rfl) (by kernel_rfl) (by kernel_rfl) trivial ?_
          repeat' (first
            | (refine Lx.lex_no (Lx.n1 rfl rfl rfl (by with_reducible rfl)) (fun K hK => ?_); go_simp; refine hK _ ?_; clear hK K)
            | (refine Lx.lex_no (Lx.n0 rfl rfl rfl (by with_reducible rfl)) (fun K hK => ?_); go_simp; refine hK _ ?_; clear hK K)
            | (refine Lx.lex_no (Lx.n2 rfl rfl rfl) (fun K hK => ?_); go_simp; refine hK _ ?_; clear hK K)
            | (refine Lx.lex_pure (v := ?_) rfl (by first | exact Lx.w0 rfl | exact Lx.w1 rfl rfl rfl (by with_reducible rfl)) ?_ (fun K hK => ?_); rotate_left 1; (intro w' hCw; (try dsimp only at hCw); go_simp; done); go_simp; refine hK _ ?_; clear hK K)
            | (refine Lx.lex_pure (v := ?_) rfl (by first | exact Lx.w0 rfl | exact Lx.w1 rfl rfl rfl (by with_reducible rfl)) ?_ (fun K hK => ?_); rotate_left 1; (intro w' hCw; (try dsimp only at hCw); go_simp; with_reducible rfl); go_simp; refine hK _ ?_; clear hK K)
            | (refine Lx.lex_read (v := ?_) rfl (by first | exact Lx.w0 rfl | exact Lx.w1 rfl rfl rfl (by with_reducible rfl)) ?_ (fun K hK => ?_); rotate_left 1; (go_simp; done); go_simp; refine hK _ ?_; clear hK K)
            | (refine Lx.lex_read (v := ?_) rfl (by first | exact Lx.w0 rfl | exact Lx.w1 rfl rfl rfl (by with_reducible rfl)) ?_ (fun K hK => ?_); rotate_left 1; (go_simp; with_reducible rfl); go_simp; refine hK _ ?_; clear hK K)
            | (refine Lx.lex_eff rfl (by first | exact Lx.w0 rfl | exact Lx.w1 rfl rfl rfl (by with_reducible rfl)) (fun K hK => ?_); go_simp; (first | fail | skip); refine hK _ _ (trivial) ?_; clear hK K)
            | (refine Lx.lex_cases rfl rfl rfl (fun hgd K hK => ?_) (fun hgd K hK => ?_) <;> (try simp only [decide_eq_true_eq, decide_eq_false_iff_not] at hgd) <;> (first | (exfalso; omega) | (go_simp; refine hK _ ?_; clear hK K))))
          all_goals (refine Lx.lex_nil ?_)
          gi_wp2_with fail
          refine ⟨_, HSN.out.symm, ?_⟩
          rw [HBS.out]
          exact (HX.out.drew.set 2 0 (.int .i64 (xn : Int)) rfl)
        · rw [if_neg (by rintro ⟨_, h | h⟩ <;> omega)] at HBS
          gi_wp2_with fail
          refine Lx.regionIn (C := fun _ => True) (hs := []) (by kernel_rfl) (by kernel_rfl) (by kernel_rfl) trivial ?_
          repeat' (first
            | (refine Lx.lex_no (Lx.n1 rfl rfl rfl (by with_reducible rfl)) (fun K hK => ?_); go_simp; refine hK _ ?_; clear hK K)
            | (refine Lx.lex_no (Lx.n0 rfl rfl rfl (by with_reducible rfl)) (fun K hK => ?_); go_simp; refine hK _ ?_; clear hK K)
            | (refine Lx.lex_no (Lx.n2 rfl rfl rfl) (fun K hK => ?_); go_simp; refine hK _ ?_; clear hK K)
            | (refine Lx.lex_pure (v := ?_) rfl (by first | exact Lx.w0 rfl | exact Lx.w1 rfl rfl rfl (by with_reducible rfl)) ?_ (fun K hK => ?_); rotate_left 1; (intro w' hCw; (try dsimp only at hCw); go_simp; done); go_simp; refine hK _ ?_; clear hK K)
            | (refine Lx.lex_pure (v := ?_) rfl (by first | exact Lx.w0 rfl | exact Lx.w1 rfl rfl rfl (by with_reducible rfl)) ?_ (fun K hK => ?_); rotate_left 1; (intro w' hCw; (try dsimp only at hCw); go_simp; with_reducible rfl); go_simp; refine hK _ ?_; clear hK K)
            | (refine Lx.lex_read (v := ?_) rfl (by first | exact Lx.w0 rfl | exact Lx.w1 rfl rfl rfl (by with_reducible rfl)) ?_ (fun K hK => ?_); rotate_left 1; (go_simp; done); go_simp; refine hK _ ?_; clear hK K)
            | (refine Lx.lex_read (v := ?_) rfl (by first | exact Lx.w0 rfl | exact Lx.w1 rfl rfl rfl (by with_reducible rfl)) ?_ (fun K hK => ?_); rotate_left 1; (go_simp; with_reducible rfl); go_simp; refine hK _ ?_; clear hK K)
            | (refine Lx.lex_eff rfl (by first | exact Lx.w0 rfl | exact Lx.w1 rfl rfl rfl (by with_reducible rfl)) (fun K hK => ?_); go_simp; (first | fail | skip); refine hK _ _ (trivial) ?_; clear hK K)
            | (refine Lx.lex_cases rfl rfl rfl (fun hgd K hK => ?_) (fun hgd K hK => ?_) <;> (try simp only [decide_eq_true_eq, decide_eq_false_iff_not] at hgd) <;> (first | (exfalso; omega) | (go_simp; refine hK _ ?_; clear hK K))))
          all_goals (refine Lx.lex_nil ?_)
          gi_wp2_with fail
          refine ⟨_, HSN.out.symm, ?_⟩
          rw [HBS.out]
          exact HX.out.drew
    · rw [if_neg (by rintro ⟨h, _⟩; exact hz0 h)] at HBS
      clear hX hz hDz
      gi_wp2_with fail
      refine Lx.regionIn (C := fun _ => True) (hs := []) (by kernel_rfl) (by kernel_rfl) (by kernel_rfl) trivial ?_
      repeat' (first
        | (refine Lx.lex_no (Lx.n1 rfl rfl rfl (by with_reducible rfl)) (fun K hK => ?_); go_simp; refine hK _ ?_; clear hK K)
        | (refine Lx.lex_no (Lx.n0 rfl rfl rfl (by with_reducible rfl)) (fun K hK => ?_); go_simp; refine hK _ ?_; clear hK K)
        | (refine Lx.lex_no (Lx.n2 rfl rfl rfl) (fun K hK => ?_); go_simp; refine hK _ ?_; clear hK K)
        | (refine Lx.lex_pure (v := ?_) rfl (by first | exact Lx.w0 rfl | exact Lx.w1 rfl rfl rfl (by with_reducible rfl)) ?_ (fun K hK => ?_); rotate_left 1; (intro w' hCw; (try dsimp only at hCw); go_simp; done); go_simp; refine hK _ ?_; clear hK K)
        | (refine Lx.lex_pure (v := ?_) rfl (by first | exact Lx.w0 rfl | exact Lx.w1 rfl rfl rfl (by with_reducible rfl)) ?_ (fun K hK => ?_); rotate_left 1; (intro w' hCw; (try dsimp only at hCw); go_simp; with_reducible rfl); go_simp; refine hK _ ?_; clear hK K)
        | (refine Lx.lex_read (v := ?_) rfl (by first | exact Lx.w0 rfl | exact Lx.w1 rfl rfl rfl (by with_reducible rfl)) ?_ (fun K hK => ?_); rotate_left 1; (go_simp; done); go_simp; refine hK _ ?_; clear hK K)
        | (refine Lx.lex_read (v := ?_) rfl (by first | exact Lx.w0 rfl | exact Lx.w1 rfl rfl rfl (by with_reducible rfl)) ?_ (fun K hK => ?_); rotate_left 1; (go_simp; with_reducible rfl); go_simp; refine hK _ ?_; clear hK K)
        | (refine Lx.lex_eff rfl (by first | exact Lx.w0 rfl | exact Lx.w1 rfl rfl rfl (by with_reducible rfl)) (fun K hK => ?_); go_simp; (first | fail | skip); refine hK _ _ (trivial) ?_; clear hK K)
        | (refine Lx.lex_cases rfl rfl rfl (fun hgd K hK => ?_) (fun hgd K hK => ?_) <;> (try simp only [decide_eq_true_eq, decide_eq_false_iff_not] at hgd) <;> (first | (exfalso; omega) | (go_simp; refine hK _ ?_; clear hK K))))
      all_goals (refine Lx.lex_nil ?_)
      gi_wp2_with fail
      refine ⟨_, HSN.out.symm, ?_⟩
      rw [HBS.out]
      exact HX.out.drew
  case done =>
    rintro Dm ys Y _ hys rfl hX
    have hys' : ys.map Fin.val = mem R := hys
    rw [hys'] at hX
    have HX := Lib.hid hX
    have HBL := Lib.hid (bests_lt D S.length (mem R) (-1) (fun y hy => HI.out R HRR.out.1 y (mem_tb hy)) (fun _ => rfl) (by omega))
    generalize (mem R).foldl (bestStep D) (-1) = b at *
    have c2 := hX.c 2 0 rfl rfl; have f2 := hX.f 2 rfl; have l2 := hX.lt 2 rfl
    clear hys hys' hX
    gi_wp2_with fail
    have hP6 := (((HX.out.sub (L' := [.blk gD 3 (D.map intV), .blk p7 36 [.slice (some ⟨gD, 0, none⟩) S.length S.length]]) (by simp)).alloc1 (.int .i64 (first : Int)) 3).alloc1 (.int .i64 b) 3).toRow 2 1 1 rfl (by simp) (by decide)
    obtain ⟨V6, hV6⟩ : ∃ V6, V6 = (Y.alloc (.cells #[.int .i64 (first : Int)] 3)).alloc (.cells #[.int .i64 b] 3) := ⟨_, rfl⟩
    rw [← hV6, World.size_alloc] at hP6
    rw [← hV6]
    have HP6 := Lib.hid hP6
    clear hV6 hP6 HX c2 f2 l2
    refine wpIn_loop_ghost (fun m a W => ∃ (q : Nat) (v : Int) (cl : List Int) (v10 : Value) (p11 : Nat) (ds : List Nat), m = q ∧ cl.length + q ≤ 100001 ∧ v < (S.length : Int) ∧ Eqn (some c) (cycGo S D first q v cl) ∧ CyF gb p7 p11 first v10 ds a ∧
      Hp w W W [.blk gD 3 (D.map intV), .blk p7 36 [.slice (some ⟨gD, 0, none⟩) S.length S.length], .row v10 3 1 cl.length (cl.map intV), .blk p11 3 [.int .i64 v]] ds) fq ?start2 ?round2
    case start2 => exact ⟨fq, b, [(first : Int)], _, _, [Dm], rfl, by simp; omega, HBL.out.2, HC.out.symm, CyF_mk, HP6.out.rebase⟩
    case round2 =>
      clear HP6 HC HBL
      rintro m a W ⟨q, v, cl, v10, p11, ds, rfl, hq, hvn, hGo, ⟨u, rfl⟩, hP⟩
      have HP := Lib.hid hP
      obtain ⟨A10, c10, rfl⟩ := hP.form 2 rfl
      have c3 := hP.c 3 0 rfl rfl; have f3 := hP.f 3 rfl; have l3 := hP.lt 3 rfl
      clear hP
      by_cases hv0 : 0 ≤ v
      · obtain ⟨vn, rfl⟩ : ∃ vn : Nat, v = (vn : Int) := ⟨v.toNat, by omega⟩
        by_cases hvf : vn = first
        · have HGo : Eqn cl c := by
            have := hGo.out
            unfold cycGo at this
            rw [if_neg (by rintro ⟨_, h⟩; omega)] at this
            exact (Option.some.inj this).symm
          subst hvf
          clear hGo
          gi_wp2_with fail
          show LeavesInM _ _ _ _ _ _ (marksOf ds) .returning _
          refine hp_leaves (fun X hX => ?_) _ _ _ HP.out
          exact ⟨.slice A10 cl.length c10, by simp [results, Tryd.results55, go_sem], _, rfl, by rw [← HGo.out]; exact hX.row 2 rfl, hX.below⟩
        · have HGo : Hid (∃ q', m = q' + 1 ∧ Eqn (some c) (cycGo S D first q' (nextC S D vn) (cl ++ [(vn : Int)]))) := Lib.hid (by
            have := hGo.out
            unfold cycGo at this
            rw [if_pos ⟨hv0, by omega⟩] at this
            cases m with
            | zero => cases this
            | succ q => exact ⟨q, rfl, by rw [Int.toNat_natCast] at this; exact this⟩)
          have j4 : decide ((vn : Int) = (first : Int)) = false := decide_eq_false (by omega)
          have j5 : (vn : Int) ≠ (first : Int) := by omega
          clear hGo hvf
          have hvn' : vn < S.length := by omega
          obtain ⟨R2, hR⟩ : ∃ R, S[vn]? = some R := ⟨_, List.getElem?_eq_getElem hvn'⟩
          have HR2 : Hid (R2 ∈ S ∧ S.getD vn 0 = R2 ∧ S[vn]? = some R2) := Lib.hid ⟨List.mem_of_getElem? hR, by rw [List.getD_eq_getElem?_getD, hR]; rfl, hR⟩
          clear hR
          gi_upto_region 17 with (gi_at_builtin; go_loud (refine wpListIn_append_own_at _ rfl _ _ 36 rfl w.heap.size 3 i0 (.int .i64 0) 1 8 Tryd.underlying36 hi hz0 hz1 hz2 rfl (by decide) _ _ _ rfl ((HP.out.row 2 rfl).alloc _) ⟨W.heap.size, 0, none⟩ 1 1 [.int .i64 (vn : Int)] rfl rfl (cell_one_new _ _ _) (by simp [Value.oneCell']) (by unfold maxLen; omega) (by omega) (by have := HP.out.below.size; simp; omega) ?_); intro v8 w8 hown' hgrow _ hat; have HP8 := Lib.hid ((HP.out.alloc0 _).grow 2 rfl hgrow hown' hat); obtain ⟨A8, cp8, rfl⟩ := HP8.out.form 2 rfl; clear hown' hgrow hat)
          have hP9 := HP8.out.alloc1 (.int .i64 (-1)) 3
          obtain ⟨V9, hV9⟩ : ∃ V9, V9 = w8.alloc (.cells #[.int .i64 (-1)] 3) := ⟨_, rfl⟩
          rw [← hV9] at hP9 ⊢
          have HP9 := Lib.hid hP9
          clear hV9 HP c3 f3 l3
          generalize w8.heap.size = p12 at *
          have hG := HG.out.keep hP9.below
          obtain ⟨_, q1, _, q3⟩ := hG.cells
          obtain ⟨y0, y1, y2, y3, y4, y5, y6, y7, y8⟩ := row_cells hG.2.1 HR2.out.2.2
          have c3 := hP9.c 3 0 rfl rfl; have f3 := hP9.f 3 rfl; have l3 := hP9.lt 3 rfl
          clear hG hP9
          refine Lx.regionW (C := fun _ => True) (hs := []) (by kernel_rfl) (by kernel_rfl) (by kernel_rfl) trivial ?_
          repeat' (first
            | (refine Lx.lex_no (Lx.n1 rfl rfl rfl (by with_reducible rfl)) (fun K hK => ?_); go_simp; refine hK _ ?_; clear hK K)
            | (refine Lx.lex_no (Lx.n0 rfl rfl rfl (by with_reducible rfl)) (fun K hK => ?_); go_simp; refine hK _ ?_; clear hK K)
            | (refine Lx.lex_no (Lx.n2 rfl rfl rfl) (fun K hK => ?_); go_simp; refine hK _ ?_; clear hK K)
            | (refine Lx.lex_pure (v := ?_) rfl (by first | exact Lx.w0 rfl | exact Lx.w1 rfl rfl rfl (by with_reducible rfl)) ?_ (fun K hK => ?_); rotate_left 1; (intro w' hCw; (try dsimp only at hCw); go_simp; done); go_simp; refine hK _ ?_; clear hK K)
            | (refine Lx.lex_pure (v := ?_) rfl (by first | exact Lx.w0 rfl | exact Lx.w1 rfl rfl rfl (by with_reducible rfl)) ?_ (fun K hK => ?_); rotate_left 1; (intro w' hCw; (try dsimp only at hCw); go_simp; with_reducible rfl); go_simp; refine hK _ ?_; clear hK K)
            | (refine Lx.lex_read (v := ?_) rfl (by first | exact Lx.w0 rfl | exact Lx.w1 rfl rfl rfl (by with_reducible rfl)) ?_ (fun K hK => ?_); rotate_left 1; (go_simp; done); go_simp; refine hK _ ?_; clear hK K)
            | (refine Lx.lex_read (v := ?_) rfl (by first | exact Lx.w0 rfl | exact Lx.w1 rfl rfl rfl (by with_reducible rfl)) ?_ (fun K hK => ?_); rotate_left 1; (go_simp; with_reducible rfl); go_simp; refine hK _ ?_; clear hK K)
            | (refine Lx.lex_eff rfl (by first | exact Lx.w0 rfl | exact Lx.w1 rfl rfl rfl (by with_reducible rfl)) (fun K hK => ?_); go_simp; (first | (go_at_call 46; refine (HA.out R2 _).mono ?_; rintro e WE2 ⟨rfl, hWE⟩) | skip); refine hK _ _ (trivial) ?_; clear hK K)
            | (refine Lx.lex_cases rfl rfl rfl (fun hgd K hK => ?_) (fun hgd K hK => ?_) <;> (try simp only [decide_eq_true_eq, decide_eq_false_iff_not] at hgd) <;> (first | (exfalso; omega) | (go_simp; refine hK _ ?_; clear hK K))))
          all_goals (refine Lx.lex_nil ?_)
          have HPE2 := Lib.hid (HP9.out.drew.allocS R2 40)
          rw [← hWE] at HPE2
          clear hWE q1 q3 y0 y1 y2 y3 y4 y5 y6 y7 y8 c3 f3 l3
          generalize V9.drew.heap.size = B2 at *
          gi_wp2_with fail
          refine hp_range (w := w) (ds := ds) (σ := Int) (fun s => [.blk gD 3 (D.map intV), .blk p7 36 [.slice (some ⟨gD, 0, none⟩) S.length S.length], .row (.slice A8 (cl.length + 1) cp8) 3 1 (cl.length + 1) (cl.map intV ++ [.int .i64 (vn : Int)]), .blk p11 3 [.int .i64 (vn : Int)], .blk p12 3 [.int .i64 s], .blk B2 40 (tabL 8 (sC R2))]) (CyR D vn) (CyE D vn) 5 ?a4 (by decide)
            (gf := 63) (lb := #[.pointer (some ⟨B2, 0, none⟩)]) rfl (enters_of Tryd.func63 (by kernel_rfl) rfl) (all_stopsF S.length 2 (by decide) B2 w.heap.size R2 (HF.out R2 HR2.out.1) (fun x hx => HI.out R2 HR2.out.1 x (mem_tb hx)) h4 WE2 (HPE2.out.blk 5 rfl) (HT.out.keep HPE2.out.below)) rfl (Nat.le_refl _) (fun _ => rfl) (-1) ⟨rfl, fun q hq => by cases hq⟩ HPE2.out (fun _ => rfl) ?assign4 ?body4 ?done4 ?stop4
          case assign4 =>
            intro l x X K hK
            gi_wp2
            exact hK
          case body4 =>
            rintro l pre x Y s _ hR hX hlen
            obtain ⟨rfl, hR⟩ := hR
            have HR := Lib.hid hR
            have HX := Lib.hid hX
            have hxn := x.2
            obtain ⟨z, hz⟩ : ∃ z, D[x.1]? = some z := ⟨_, List.getElem?_eq_getElem (by omega)⟩
            have HZ : Hid (D.getD x.1 0 = z) := Lib.hid (by rw [List.getD_eq_getElem?_getD, hz]; rfl)
            obtain ⟨y, hy⟩ : ∃ y, D[vn]? = some y := ⟨_, List.getElem?_eq_getElem (by omega)⟩
            have HY : Hid (D.getD vn 0 = y) := Lib.hid (by rw [List.getD_eq_getElem?_getD, hy]; rfl)
            have cA := hX.cI 0 x.1 rfl hz
            have cB := hX.cI 0 vn rfl hy
            have j6 : (x.1 : Int) < (S.length : Int) := by omega
            have c1 := hX.c 1 0 rfl rfl; have f1 := hX.f 1 rfl; have l1 := hX.lt 1 rfl; have c3 := hX.c 3 0 rfl rfl; have f3 := hX.f 3 rfl; have l3 := hX.lt 3 rfl; have c4 := hX.c 4 0 rfl rfl; have f4 := hX.f 4 rfl; have l4 := hX.lt 4 rfl
            clear hX hR hz hy
            generalize hxv : x.1 = xn at *
            have HXV := Lib.hid hxv
            clear hxv
            by_cases hzy : z = wrap64 (y - 1)
            · have HZY := Lib.hid hzy
              subst hzy
              have j7 : (wrap64 (y - 1) == IntKind.i64.wrap (y - 1)) = true := by rw [wrap64_eq]; simp
              gi_wp2_with fail
              refine Lx.regionIn (C := fun _ => True) (hs := []) (by kernel_rfl) (by kernel_rfl) (by kernel_rfl) trivial ?_
              repeat' (first
                | (refine Lx.lex_no (Lx.n1 rfl rfl rfl (by with_reducible rfl)) (fun K hK => ?_); go_simp; refine hK _ ?_; clear hK K)
                | (refine Lx.lex_no (Lx.n0 rfl rfl rfl (by with_reducible rfl)) (fun K hK => ?_); go_simp; refine hK _ ?_; clear hK K)
                | (refine Lx.lex_no (Lx.n2 rfl rfl rfl) (fun K hK => ?_); go_simp; refine hK _ ?_; clear hK K)
                | (refine Lx.lex_pure (v := ?_) rfl (by first | exact Lx.w0 rfl | exact Lx.w1 rfl rfl rfl (by with_reducible rfl)) ?_ (fun K hK => ?_); rotate_left 1; (intro w' hCw; (try dsimp only at hCw); go_simp; done); go_simp; refine hK _ ?_; clear hK K)
                | (refine Lx.lex_pure (v := ?_) rfl (by first | exact Lx.w0 rfl | exact Lx.w1 rfl rfl rfl (by with_reducible rfl)) ?_ (fun K hK => ?_); rotate_left 1; (intro w' hCw; (try dsimp only at hCw); go_simp; with_reducible rfl); go_simp; refine hK _ ?_; clear hK K)
                | (refine Lx.lex_read (v := ?_) rfl (by first | exact Lx.w0 rfl | exact Lx.w1 rfl rfl rfl (by with_reducible rfl)) ?_ (fun K hK => ?_); rotate_left 1; (go_simp; done); go_simp; refine hK _ ?_; clear hK K)
                | (refine Lx.lex_read (v := ?_) rfl (by first | exact Lx.w0 rfl | exact Lx.w1 rfl rfl rfl (by with_reducible rfl)) ?_ (fun K hK => ?_); rotate_left 1; (go_simp; with_reducible rfl); go_simp; refine hK _ ?_; clear hK K)
                | (refine Lx.lex_eff rfl (by first | exact Lx.w0 rfl | exact Lx.w1 rfl rfl rfl (by with_reducible rfl)) (fun K hK => ?_); go_simp; (first | fail | skip); refine hK _ _ (trivial) ?_; clear hK K)
                | (refine Lx.lex_cases rfl rfl rfl (fun hgd K hK => ?_) (fun hgd K hK => ?_) <;> (try simp only [decide_eq_true_eq, decide_eq_false_iff_not] at hgd) <;> (first | (exfalso; omega) | (go_simp; refine hK _ ?_; clear hK K))))
              all_goals (refine Lx.lex_nil ?_)
              gi_wp2_with fail
              refine ⟨(x.1 : Int), ⟨rfl, pre, x, rfl, HR.out, by rw [HXV.out, HZ.out, HY.out], rfl⟩, ?_⟩
              rw [HXV.out]
              exact HX.out.drew.set 4 0 (.int .i64 (xn : Int)) rfl
            · have HZY := Lib.hid hzy
              have j7 : (z == IntKind.i64.wrap (y - 1)) = false := by rw [beq_eq_false_iff_ne, ← wrap64_eq]; exact hzy
              clear hzy
              gi_wp2_with fail
              refine Lx.regionIn (C := fun _ => True) (hs := []) (by kernel_rfl) (by kernel_rfl) (by kernel_rfl) trivial ?_
              repeat' (first
                | (refine Lx.lex_no (Lx.n1 rfl rfl rfl (by with_reducible rfl)) (fun K hK => ?_); go_simp; refine hK _ ?_; clear hK K)
                | (refine Lx.lex_no (Lx.n0 rfl rfl rfl (by with_reducible rfl)) (fun K hK => ?_); go_simp; refine hK _ ?_; clear hK K)
                | (refine Lx.lex_no (Lx.n2 rfl rfl rfl) (fun K hK => ?_); go_simp; refine hK _ ?_; clear hK K)
                | (refine Lx.lex_pure (v := ?_) rfl (by first | exact Lx.w0 rfl | exact Lx.w1 rfl rfl rfl (by with_reducible rfl)) ?_ (fun K hK => ?_); rotate_left 1; (intro w' hCw; (try dsimp only at hCw); go_simp; done); go_simp; refine hK _ ?_; clear hK K)
                | (refine Lx.lex_pure (v := ?_) rfl (by first | exact Lx.w0 rfl | exact Lx.w1 rfl rfl rfl (by with_reducible rfl)) ?_ (fun K hK => ?_); rotate_left 1; (intro w' hCw; (try dsimp only at hCw); go_simp; with_reducible rfl); go_simp; refine hK _ ?_; clear hK K)
                | (refine Lx.lex_read (v := ?_) rfl (by first | exact Lx.w0 rfl | exact Lx.w1 rfl rfl rfl (by with_reducible rfl)) ?_ (fun K hK => ?_); rotate_left 1; (go_simp; done); go_simp; refine hK _ ?_; clear hK K)
                | (refine Lx.lex_read (v := ?_) rfl (by first | exact Lx.w0 rfl | exact Lx.w1 rfl rfl rfl (by with_reducible rfl)) ?_ (fun K hK => ?_); rotate_left 1; (go_simp; with_reducible rfl); go_simp; refine hK _ ?_; clear hK K)
                | (refine Lx.lex_eff rfl (by first | exact Lx.w0 rfl | exact Lx.w1 rfl rfl rfl (by with_reducible rfl)) (fun K hK => ?_); go_simp; (first | fail | skip); refine hK _ _ (trivial) ?_; clear hK K)
                | (refine Lx.lex_cases rfl rfl rfl (fun hgd K hK => ?_) (fun hgd K hK => ?_) <;> (try simp only [decide_eq_true_eq, decide_eq_false_iff_not] at hgd) <;> (first | (exfalso; omega) | (go_simp; refine hK _ ?_; clear hK K))))
              all_goals (refine Lx.lex_nil ?_)
              gi_wp2_with fail
              refine ⟨-1, ⟨rfl, fun q hq => ?_⟩, HX.out.drew⟩
              rcases List.mem_append.1 hq with h | h
              · exact HR.out q h
              · rw [List.mem_singleton] at h
                subst h
                rw [HXV.out, HZ.out, HY.out]
                exact HZY.out
          case done4 =>
            rintro Dm2 ys Y s hys hR hX
            have hN := cy_none (S := S) (D := D) (v := vn) (by rw [HR2.out.2.1]; exact hys) hR
            obtain ⟨q', hm, hGo'⟩ := HGo.out
            rw [hN] at hGo'
            have hs := hR.1
            subst hs
            have HX := Lib.hid hX
            have c3 := hX.c 3 0 rfl rfl; have f3 := hX.f 3 rfl; have l3 := hX.lt 3 rfl; have c4 := hX.c 4 0 rfl rfl; have f4 := hX.f 4 rfl; have l4 := hX.lt 4 rfl
            clear hX hys hN hR
            gi_wp2_with fail
            have hP11 := ((HX.out.set 3 0 (.int .i64 (-1)) rfl).sub (L' := [.blk gD 3 (D.map intV), .blk p7 36 [.slice (some ⟨gD, 0, none⟩) S.length S.length], .row (.slice A8 (cl.length + 1) cp8) 3 1 (cl.length + 1) (cl.map intV ++ [.int .i64 (vn : Int)])]) (by simp)).alloc1 (.int .i64 (-1)) 3
            simp only [World.size_setCell] at hP11
            refine ⟨q', by omega, q', (-1), cl ++ [(vn : Int)], _, _, Dm2 :: ds, rfl, by rw [List.length_append, List.length_singleton]; omega, by omega, hGo', CyF_mk, ?_⟩
            rw [List.length_append, List.length_singleton, List.map_append]
            exact hP11.rebase
          case stop4 =>
            rintro Dm2 c' pre Y s hpre hE hX
            have hN := cy_some (S := S) (D := D) (v := vn) (by rw [HR2.out.2.1]; exact hpre) hE
            obtain ⟨q', hm, hGo'⟩ := HGo.out
            rw [hN.1] at hGo'
            obtain ⟨rfl, _⟩ := hE
            have HX := Lib.hid hX
            have hsn := hN.2.2
            have c3 := hX.c 3 0 rfl rfl; have f3 := hX.f 3 rfl; have l3 := hX.lt 3 rfl; have c4 := hX.c 4 0 rfl rfl; have f4 := hX.f 4 rfl; have l4 := hX.lt 4 rfl
            clear hX hpre hN
            gi_wp2_with fail
            have hP11 := ((HX.out.set 3 0 (.int .i64 s) rfl).sub (L' := [.blk gD 3 (D.map intV), .blk p7 36 [.slice (some ⟨gD, 0, none⟩) S.length S.length], .row (.slice A8 (cl.length + 1) cp8) 3 1 (cl.length + 1) (cl.map intV ++ [.int .i64 (vn : Int)])]) (by simp)).alloc1 (.int .i64 s) 3
            simp only [World.size_setCell] at hP11
            refine ⟨q', by omega, q', s, cl ++ [(vn : Int)], _, _, Dm2 :: ds, rfl, by rw [List.length_append, List.length_singleton]; omega, by omega, hGo', CyF_mk, ?_⟩
            rw [List.length_append, List.length_singleton, List.map_append]
            exact hP11.rebase
      · have HGo : Eqn cl c := by
          have := hGo.out
          unfold cycGo at this
          rw [if_neg (by rintro ⟨h, _⟩; omega)] at this
          exact (Option.some.inj this).symm
        clear hGo
        gi_wp2_with fail
        show LeavesInM _ _ _ _ _ _ (marksOf ds) .returning _
        refine hp_leaves (fun X hX => ?_) _ _ _ HP.out
        exact ⟨.slice A10 cl.length c10, by simp [results, Tryd.results55, go_sem], _, rfl, by rw [← HGo.out]; exact hX.row 2 rfl, hX.below⟩
  case stop =>
    rintro Dm c pre X _ _ h _
    exact h.elim
end Go.Proofs.YtpaakgngoocjeaaDoor

namespace Go.Proofs
open Go.Shelf
def Tryd.lays129_ren : Go.Shelf.Ren := ⟨fun | 129 => 77 | n => n, fun | 53 => 37 | 3 => 3 | 4 => 4 | 46 => 89 | 5 => 5 | 9 => 9 | n => n, fun | n => n⟩
theorem Tryd.lays129 : Go.Proofs.Lays.n129 Tryd.prog Tryd.lays129_ren := {
  mixed := by kernel_rfl
  f129 := Tryd.func77.trans (congrArg some (by kernel_rfl))
  t3 := Tryd.underlying3
  a3 := Tryd.isAgg3
  z3 := Tryd.sizeOf3
  v3 := Tryd.zeroValue3
  t4 := Tryd.underlying4
  a4 := Tryd.isAgg4
  z4 := Tryd.sizeOf4
  v4 := Tryd.zeroValue4
  t5 := Tryd.underlying5
  a5 := Tryd.isAgg5
  z5 := Tryd.sizeOf5
  v5 := Tryd.zeroValue5
  t9 := Tryd.underlying9
  a9 := Tryd.isAgg9
  z9 := Tryd.sizeOf9
  v9 := Tryd.zeroValue9
  t46 := Tryd.underlying89
  a46 := Tryd.isAgg89
  z46 := Tryd.sizeOf89
  v46 := Tryd.zeroValue89
  t53 := Tryd.underlying37
  a53 := Tryd.isAgg37
  z53 := Tryd.sizeOf37
  v53 := Tryd.zeroValue37 }
/-- bits.Len64: "Len64 returns the minimum number of bits required to represent x; the result is 0 for x == 0.": IT RETURNS 'Lib.bitLen x'; the world is as it was. ('h0', 'h1': x is a uint64.) (LAID: no walk: one application.) -/
theorem Tryd.bits_Len64 (x : Int) (w : World) (h0 : 0 ≤ x) (h1 : x ≤ 18446744073709551615) :
    Calls Tryd.prog 77 #[.int .u64 x] w fun e w' => e = .returned (.int .i64 (Lib.bitLen x.toNat)) ∧ w' = w := Any.bits_Len64 Tryd.lays129 x w h0 h1
def Tryd.lays317_ren : Go.Shelf.Ren := ⟨fun | 317 => 76 | n => n, fun | 3 => 3 | 46 => 89 | n => n, fun | n => n⟩
theorem Tryd.lays317 : Go.Proofs.Lays.n317 Tryd.prog Tryd.lays317_ren := {
  mixed := by kernel_rfl
  f317 := Tryd.func76.trans (congrArg some (by kernel_rfl))
  t3 := Tryd.underlying3
  a3 := Tryd.isAgg3
  z3 := Tryd.sizeOf3
  v3 := Tryd.zeroValue3
  t46 := Tryd.underlying89
  a46 := Tryd.isAgg89
  z46 := Tryd.sizeOf89
  v46 := Tryd.zeroValue89 }
open Go.Lib in
/-- internal/strconv.log10Pow2: "log10Pow2(x) returns ⌊log₁₀ 2**x⌋ = ⌊x * log₁₀ 2⌋.": '(x * 78913) >> 18', at an x up to 64 (a length in bits). The world is as it was. (LAID: no walk: one application.) -/
theorem Tryd.internal_strconv_log10Pow2 (x : Nat) (h : x ≤ 64) (w : World) :
    Calls Tryd.prog 76 #[.int .i64 x] w fun e w' => e = .returned (.int .i64 (Lib.l10 x)) ∧ w' = w := Any.internal_strconv_log10Pow2 Tryd.lays317 x h w
def Tryd.lays318_ren : Go.Shelf.Ren := ⟨fun | 318 => 78 | n => n, fun | 3 => 3 | 4 => 4 | n => n, fun | n => n⟩
theorem Tryd.lays318 : Go.Proofs.Lays.n318 Tryd.prog Tryd.lays318_ren := {
  mixed := by kernel_rfl
  f318 := Tryd.func78.trans (congrArg some (by kernel_rfl))
  t3 := Tryd.underlying3
  a3 := Tryd.isAgg3
  z3 := Tryd.sizeOf3
  v3 := Tryd.zeroValue3
  t4 := Tryd.underlying4
  a4 := Tryd.isAgg4
  z4 := Tryd.sizeOf4
  v4 := Tryd.zeroValue4 }
open Go.Lib in
/-- internal/strconv.bool2: "bool2 converts b to an integer: 1 for true, 0 for false." The world is as it was. (LAID: no walk: one application.) -/
theorem Tryd.internal_strconv_bool2_int (b : Bool) (w : World) :
    Calls Tryd.prog 78 #[.bool b] w fun e w' => e = .returned (.int .i64 (if b then 1 else 0)) ∧ w' = w := Any.internal_strconv_bool2_int Tryd.lays318 b w
def Tryd.lays283_ren : Go.Shelf.Ren := ⟨fun | 283 => 72 | n => n, fun | 3 => 3 | 9 => 9 | 4 => 4 | n => n, fun | n => n⟩
theorem Tryd.lays283 : Go.Proofs.Lays.n283 Tryd.prog Tryd.lays283_ren := {
  mixed := by kernel_rfl
  f283 := Tryd.func72.trans (congrArg some (by kernel_rfl))
  t3 := Tryd.underlying3
  a3 := Tryd.isAgg3
  z3 := Tryd.sizeOf3
  v3 := Tryd.zeroValue3
  t4 := Tryd.underlying4
  a4 := Tryd.isAgg4
  z4 := Tryd.sizeOf4
  v4 := Tryd.zeroValue4
  t9 := Tryd.underlying9
  a9 := Tryd.isAgg9
  z9 := Tryd.sizeOf9
  v9 := Tryd.zeroValue9 }
open Go.Lib in
/-- internal/strconv.small: "small returns the string for an i with 0 <= i < nSmalls.": i's decimal numeral. The world is as it was. (LAID: no walk: one application.) -/
theorem Tryd.internal_strconv_small (i : Nat) (h : i < 100) (w : World) :
    Calls Tryd.prog 72 #[.int .i64 i] w fun e w' => e = .returned (.string ⟨(Lib.decDigits i).toArray⟩) ∧ w' = w := Any.internal_strconv_small Tryd.lays283 i h w
def Tryd.laysM284_ren : Go.Shelf.Ren := ⟨fun | 284 => 73 | 129 => 77 | 317 => 76 | 318 => 78 | n => n, fun | 53 => 37 | 3 => 3 | 212 => 98 | 0 => 0 | 4 => 4 | 46 => 89 | 5 => 5 | 9 => 9 | n => n, fun | 17 => 1 | n => n⟩
theorem Tryd.laysM284 : Go.Proofs.LaysM.n284 Tryd.prog Tryd.laysM284_ren := {
  mixed := by kernel_rfl
  f129 := Tryd.func77.trans (congrArg some (by kernel_rfl))
  f284 := Tryd.func73.trans (congrArg some (by kernel_rfl))
  f317 := Tryd.func76.trans (congrArg some (by kernel_rfl))
  f318 := Tryd.func78.trans (congrArg some (by kernel_rfl))
  t0 := Tryd.underlying0
  a0 := Tryd.isAgg0
  z0 := Tryd.sizeOf0
  v0 := Tryd.zeroValue0
  t3 := Tryd.underlying3
  a3 := Tryd.isAgg3
  z3 := Tryd.sizeOf3
  v3 := Tryd.zeroValue3
  t4 := Tryd.underlying4
  a4 := Tryd.isAgg4
  z4 := Tryd.sizeOf4
  v4 := Tryd.zeroValue4
  t5 := Tryd.underlying5
  a5 := Tryd.isAgg5
  z5 := Tryd.sizeOf5
  v5 := Tryd.zeroValue5
  t9 := Tryd.underlying9
  a9 := Tryd.isAgg9
  z9 := Tryd.sizeOf9
  v9 := Tryd.zeroValue9
  t46 := Tryd.underlying89
  a46 := Tryd.isAgg89
  z46 := Tryd.sizeOf89
  v46 := Tryd.zeroValue89
  t53 := Tryd.underlying37
  a53 := Tryd.isAgg37
  z53 := Tryd.sizeOf37
  v53 := Tryd.zeroValue37
  t212 := Tryd.underlying98
  a212 := Tryd.isAgg98
  z212 := Tryd.sizeOf98
  v212 := Tryd.zeroValue98
  g17 := by kernel_rfl
  i0 := by kernel_rfl
  i3 := by kernel_rfl
  i4 := by kernel_rfl
  i5 := by kernel_rfl
  i9 := by kernel_rfl
  i46 := by kernel_rfl
  i53 := by kernel_rfl
  i212 := by kernel_rfl
  m17 := by kernel_rfl }
open Go.Lib in
/-- internal/strconv.numDigits, at a d that is not 0: THE NUMBER OF d's DECIMAL DIGITS. The world is as it was. (LAID: no walk: one application.) -/
theorem Tryd.internal_strconv_numDigits (u : Nat) (h1 : 1 ≤ u) (h2 : u < 18446744073709551616) (w : World) (htab : Lib.TabIs Tryd.prog w "internal/strconv.uint64pow10" .u64 Lib.pow10Tab) :
    Calls Tryd.prog 73 #[.int .u64 u] w fun e w' => e = .returned (.int .i64 (Lib.nDigits u)) ∧ w' = w := Any.internal_strconv_numDigits Tryd.laysM284 u h1 h2 w htab
def Tryd.lays285_ren : Go.Shelf.Ren := ⟨fun | 285 => 74 | n => n, fun | 37 => 81 | 53 => 37 | 3 => 3 | 4 => 4 | 51 => 99 | 9 => 9 | 5 => 5 | 0 => 0 | n => n, fun | n => n⟩
theorem Tryd.lays285 : Go.Proofs.Lays.n285 Tryd.prog Tryd.lays285_ren := {
  mixed := by kernel_rfl
  f285 := Tryd.func74.trans (congrArg some (by kernel_rfl))
  t0 := Tryd.underlying0
  a0 := Tryd.isAgg0
  z0 := Tryd.sizeOf0
  v0 := Tryd.zeroValue0
  t3 := Tryd.underlying3
  a3 := Tryd.isAgg3
  z3 := Tryd.sizeOf3
  v3 := Tryd.zeroValue3
  t4 := Tryd.underlying4
  a4 := Tryd.isAgg4
  z4 := Tryd.sizeOf4
  v4 := Tryd.zeroValue4
  t5 := Tryd.underlying5
  a5 := Tryd.isAgg5
  z5 := Tryd.sizeOf5
  v5 := Tryd.zeroValue5
  t9 := Tryd.underlying9
  a9 := Tryd.isAgg9
  z9 := Tryd.sizeOf9
  v9 := Tryd.zeroValue9
  t37 := Tryd.underlying81
  a37 := Tryd.isAgg81
  z37 := Tryd.sizeOf81
  v37 := Tryd.zeroValue81
  t51 := Tryd.underlying99
  a51 := Tryd.isAgg99
  z51 := Tryd.sizeOf99
  v51 := Tryd.zeroValue99
  t53 := Tryd.underlying37
  a53 := Tryd.isAgg37
  z53 := Tryd.sizeOf37
  v53 := Tryd.zeroValue37 }
open Go.RowKit Go.Sort Go.Lib in
/-- internal/strconv.formatBase10: "formatBase10 formats the decimal representation of u into a. The caller is responsible for ensuring that a is big enough to hold u. If a is too big, leading zeros will be filled in as needed.": THE ROW HOLDS u's DIGITS ('FmtInv .. 0 ..': every place t holds 'dg u (len - 1 - t)'); all else is as it was but for the count of draws. (LAID: no walk: one application.) -/
theorem Tryd.internal_strconv_formatBase10 (blk off cap : Nat) (u : Nat) (d : Array UInt8) (w : World) (hH : Holds (fun (b : UInt8) => Value.int .u8 (b.toNat : Int)) w blk off d) (hu : u < 10 ^ d.size) (hu64 : u < 18446744073709551616) (hsz : d.size < 4611686018427387904) :
    Calls Tryd.prog 74 #[.slice (some ⟨blk, off, none⟩) d.size cap, .int .u64 u] w fun e w' =>
      e = .returned (.tuple #[]) ∧ ∃ (n v' : Nat) (dk : Array UInt8), w' = (putRow (fun (b : UInt8) => Value.int .u8 (b.toNat : Int)) w blk off dk).drewN n ∧ FmtInv d.size u 0 v' dk := Any.internal_strconv_formatBase10 Tryd.lays285 blk off cap u d w hH hu hu64 hsz
def Tryd.laysM288_ren : Go.Shelf.Ren := ⟨fun | 288 => 71 | 283 => 72 | 284 => 73 | 285 => 74 | 286 => 75 | 129 => 77 | 317 => 76 | 318 => 78 | 319 => 79 | 320 => 80 | 337 => 81 | 338 => 69 | n => n, fun | 37 => 81 | 53 => 37 | 3 => 3 | 4 => 4 | 9 => 9 | 171 => 93 | 0 => 0 | 173 => 95 | 212 => 98 | 51 => 99 | 5 => 5 | 20 => 20 | 213 => 100 | 46 => 89 | 232 => 103 | 233 => 91 | n => n, fun | 17 => 1 | 18 => 2 | 19 => 0 | n => n⟩
theorem Tryd.laysM288 : Go.Proofs.LaysM.n288 Tryd.prog Tryd.laysM288_ren := {
  mixed := by kernel_rfl
  f129 := Tryd.func77.trans (congrArg some (by kernel_rfl))
  f283 := Tryd.func72.trans (congrArg some (by kernel_rfl))
  f284 := Tryd.func73.trans (congrArg some (by kernel_rfl))
  f285 := Tryd.func74.trans (congrArg some (by kernel_rfl))
  f286 := Tryd.func75.trans (congrArg some (by kernel_rfl))
  f288 := Tryd.func71.trans (congrArg some (by kernel_rfl))
  f317 := Tryd.func76.trans (congrArg some (by kernel_rfl))
  f318 := Tryd.func78.trans (congrArg some (by kernel_rfl))
  f319 := Tryd.func79.trans (congrArg some (by kernel_rfl))
  f320 := Tryd.func80.trans (congrArg some (by kernel_rfl))
  f337 := Tryd.func81.trans (congrArg some (by kernel_rfl))
  f338 := Tryd.func69.trans (congrArg some (by kernel_rfl))
  t0 := Tryd.underlying0
  a0 := Tryd.isAgg0
  z0 := Tryd.sizeOf0
  v0 := Tryd.zeroValue0
  t3 := Tryd.underlying3
  a3 := Tryd.isAgg3
  z3 := Tryd.sizeOf3
  v3 := Tryd.zeroValue3
  t4 := Tryd.underlying4
  a4 := Tryd.isAgg4
  z4 := Tryd.sizeOf4
  v4 := Tryd.zeroValue4
  t5 := Tryd.underlying5
  a5 := Tryd.isAgg5
  z5 := Tryd.sizeOf5
  v5 := Tryd.zeroValue5
  t9 := Tryd.underlying9
  a9 := Tryd.isAgg9
  z9 := Tryd.sizeOf9
  v9 := Tryd.zeroValue9
  t20 := Tryd.underlying20
  a20 := Tryd.isAgg20
  z20 := Tryd.sizeOf20
  v20 := Tryd.zeroValue20
  t37 := Tryd.underlying81
  a37 := Tryd.isAgg81
  z37 := Tryd.sizeOf81
  v37 := Tryd.zeroValue81
  t46 := Tryd.underlying89
  a46 := Tryd.isAgg89
  z46 := Tryd.sizeOf89
  v46 := Tryd.zeroValue89
  t51 := Tryd.underlying99
  a51 := Tryd.isAgg99
  z51 := Tryd.sizeOf99
  v51 := Tryd.zeroValue99
  t53 := Tryd.underlying37
  a53 := Tryd.isAgg37
  z53 := Tryd.sizeOf37
  v53 := Tryd.zeroValue37
  t171 := Tryd.underlying93
  a171 := Tryd.isAgg93
  z171 := Tryd.sizeOf93
  v171 := Tryd.zeroValue93
  t173 := Tryd.underlying95
  a173 := Tryd.isAgg95
  z173 := Tryd.sizeOf95
  v173 := Tryd.zeroValue95
  t212 := Tryd.underlying98
  a212 := Tryd.isAgg98
  z212 := Tryd.sizeOf98
  v212 := Tryd.zeroValue98
  t213 := Tryd.underlying100
  a213 := Tryd.isAgg100
  z213 := Tryd.sizeOf100
  t232 := Tryd.underlying103
  a232 := Tryd.isAgg103
  z232 := Tryd.sizeOf103
  v232 := Tryd.zeroValue103
  t233 := Tryd.underlying91
  a233 := Tryd.isAgg91
  z233 := Tryd.sizeOf91
  v233 := Tryd.zeroValue91
  g17 := by kernel_rfl
  g18 := by kernel_rfl
  g19 := by kernel_rfl
  i0 := by kernel_rfl
  i3 := by kernel_rfl
  i4 := by kernel_rfl
  i5 := by kernel_rfl
  i9 := by kernel_rfl
  i20 := by kernel_rfl
  i37 := by kernel_rfl
  i46 := by kernel_rfl
  i51 := by kernel_rfl
  i53 := by kernel_rfl
  i171 := by kernel_rfl
  i173 := by kernel_rfl
  i212 := by kernel_rfl
  i232 := by kernel_rfl
  i233 := by kernel_rfl
  m17 := by kernel_rfl
  m18 := by kernel_rfl
  m19 := by kernel_rfl }
open Go.RowKit Go.Sort Go.Lib in
/-- internal/strconv.AppendUint(dst, i, 10), i BELOW 100: WHAT COMES BACK OWNS dst's CELLS AND, BEHIND THEM, i's DECIMAL NUMERAL. No table is read. Below the call's own blocks nothing has turned. (LAID: no walk: one application.) -/
theorem Tryd.internal_strconv_AppendUint_10_small (B n u : Nat) (hu : u < 100) (sv : Value) (xs : List Value) (w : World) (hown : w.ownsRow B 5 1 sv n xs) (hBw : B ≤ w.heap.size) (hlim : n + 20 ≤ 140737488355328) :
    Calls Tryd.prog 71 #[sv, .int .u64 u, .int .i64 10] w fun e w' => ∃ v', e = .returned v' ∧ w'.ownsRow B 5 1 v' (n + (Lib.decDigits u).length) (xs ++ Lib.byteCells (Lib.decDigits u)) ∧ Below B w w' ∧ Lib.OthersKept 5 none w w' := Any.internal_strconv_AppendUint_10_small Tryd.laysM288 B n u hu sv xs w hown hBw hlim
open Go.RowKit Go.Sort Go.Lib in
/-- internal/strconv.AppendUint(dst, i, 10), i FROM 100 ON: likewise; the digits are laid in an array of the call's own and appended. (LAID: no walk: one application.) -/
theorem Tryd.internal_strconv_AppendUint_10_big (B n u : Nat) (hu : 100 ≤ u) (hu64 : u < 18446744073709551616) (sv : Value) (xs : List Value) (w : World) (hown : w.ownsRow B 5 1 sv n xs) (hBw : B ≤ w.heap.size) (hlim : n + 20 ≤ 140737488355328) (htab : Lib.TabIs Tryd.prog w "internal/strconv.uint64pow10" .u64 Lib.pow10Tab) :
    Calls Tryd.prog 71 #[sv, .int .u64 u, .int .i64 10] w fun e w' => ∃ v', e = .returned v' ∧ w'.ownsRow B 5 1 v' (n + (Lib.decDigits u).length) (xs ++ Lib.byteCells (Lib.decDigits u)) ∧ Below B w w' ∧ Lib.OthersKept 5 none w w' := Any.internal_strconv_AppendUint_10_big Tryd.laysM288 B n u hu hu64 sv xs w hown hBw hlim htab
open Go.RowKit Go.Sort Go.Lib in
/-- internal/strconv.AppendUint(dst, i, 10): the two contracts as one. NO WALK. (LAID: no walk: one application.) -/
theorem Tryd.internal_strconv_AppendUint_10 (B n u : Nat) (hu64 : u < 18446744073709551616) (sv : Value) (xs : List Value) (w : World) (hown : w.ownsRow B 5 1 sv n xs) (hBw : B ≤ w.heap.size) (hlim : n + 20 ≤ 140737488355328) (htab : Lib.TabIs Tryd.prog w "internal/strconv.uint64pow10" .u64 Lib.pow10Tab) :
    Calls Tryd.prog 71 #[sv, .int .u64 u, .int .i64 10] w fun e w' => ∃ v', e = .returned v' ∧ w'.ownsRow B 5 1 v' (n + (Lib.decDigits u).length) (xs ++ Lib.byteCells (Lib.decDigits u)) ∧ Below B w w' ∧ Lib.OthersKept 5 none w w' := Any.internal_strconv_AppendUint_10 Tryd.laysM288 B n u hu64 sv xs w hown hBw hlim htab
def Tryd.laysM249_ren : Go.Shelf.Ren := ⟨fun | 249 => 68 | 288 => 71 | 283 => 72 | 284 => 73 | 285 => 74 | 286 => 75 | 129 => 77 | 317 => 76 | 318 => 78 | 319 => 79 | 320 => 80 | 337 => 81 | 338 => 69 | n => n, fun | 37 => 81 | 2 => 2 | 3 => 3 | 53 => 37 | 4 => 4 | 9 => 9 | 171 => 93 | 0 => 0 | 173 => 95 | 212 => 98 | 51 => 99 | 5 => 5 | 20 => 20 | 213 => 100 | 46 => 89 | 232 => 103 | 233 => 91 | n => n, fun | 17 => 1 | 18 => 2 | 19 => 0 | n => n⟩
theorem Tryd.laysM249 : Go.Proofs.LaysM.n249 Tryd.prog Tryd.laysM249_ren := {
  mixed := by kernel_rfl
  f129 := Tryd.func77.trans (congrArg some (by kernel_rfl))
  f249 := Tryd.func68.trans (congrArg some (by kernel_rfl))
  f283 := Tryd.func72.trans (congrArg some (by kernel_rfl))
  f284 := Tryd.func73.trans (congrArg some (by kernel_rfl))
  f285 := Tryd.func74.trans (congrArg some (by kernel_rfl))
  f286 := Tryd.func75.trans (congrArg some (by kernel_rfl))
  f288 := Tryd.func71.trans (congrArg some (by kernel_rfl))
  f317 := Tryd.func76.trans (congrArg some (by kernel_rfl))
  f318 := Tryd.func78.trans (congrArg some (by kernel_rfl))
  f319 := Tryd.func79.trans (congrArg some (by kernel_rfl))
  f320 := Tryd.func80.trans (congrArg some (by kernel_rfl))
  f337 := Tryd.func81.trans (congrArg some (by kernel_rfl))
  f338 := Tryd.func69.trans (congrArg some (by kernel_rfl))
  t0 := Tryd.underlying0
  a0 := Tryd.isAgg0
  z0 := Tryd.sizeOf0
  v0 := Tryd.zeroValue0
  t2 := Tryd.underlying2
  a2 := Tryd.isAgg2
  z2 := Tryd.sizeOf2
  v2 := Tryd.zeroValue2
  t3 := Tryd.underlying3
  a3 := Tryd.isAgg3
  z3 := Tryd.sizeOf3
  v3 := Tryd.zeroValue3
  t4 := Tryd.underlying4
  a4 := Tryd.isAgg4
  z4 := Tryd.sizeOf4
  v4 := Tryd.zeroValue4
  t5 := Tryd.underlying5
  a5 := Tryd.isAgg5
  z5 := Tryd.sizeOf5
  v5 := Tryd.zeroValue5
  t9 := Tryd.underlying9
  a9 := Tryd.isAgg9
  z9 := Tryd.sizeOf9
  v9 := Tryd.zeroValue9
  t20 := Tryd.underlying20
  a20 := Tryd.isAgg20
  z20 := Tryd.sizeOf20
  v20 := Tryd.zeroValue20
  t37 := Tryd.underlying81
  a37 := Tryd.isAgg81
  z37 := Tryd.sizeOf81
  v37 := Tryd.zeroValue81
  t46 := Tryd.underlying89
  a46 := Tryd.isAgg89
  z46 := Tryd.sizeOf89
  v46 := Tryd.zeroValue89
  t51 := Tryd.underlying99
  a51 := Tryd.isAgg99
  z51 := Tryd.sizeOf99
  v51 := Tryd.zeroValue99
  t53 := Tryd.underlying37
  a53 := Tryd.isAgg37
  z53 := Tryd.sizeOf37
  v53 := Tryd.zeroValue37
  t171 := Tryd.underlying93
  a171 := Tryd.isAgg93
  z171 := Tryd.sizeOf93
  v171 := Tryd.zeroValue93
  t173 := Tryd.underlying95
  a173 := Tryd.isAgg95
  z173 := Tryd.sizeOf95
  v173 := Tryd.zeroValue95
  t212 := Tryd.underlying98
  a212 := Tryd.isAgg98
  z212 := Tryd.sizeOf98
  v212 := Tryd.zeroValue98
  t213 := Tryd.underlying100
  a213 := Tryd.isAgg100
  z213 := Tryd.sizeOf100
  t232 := Tryd.underlying103
  a232 := Tryd.isAgg103
  z232 := Tryd.sizeOf103
  v232 := Tryd.zeroValue103
  t233 := Tryd.underlying91
  a233 := Tryd.isAgg91
  z233 := Tryd.sizeOf91
  v233 := Tryd.zeroValue91
  g17 := by kernel_rfl
  g18 := by kernel_rfl
  g19 := by kernel_rfl
  i0 := by kernel_rfl
  i2 := by kernel_rfl
  i3 := by kernel_rfl
  i4 := by kernel_rfl
  i5 := by kernel_rfl
  i9 := by kernel_rfl
  i20 := by kernel_rfl
  i37 := by kernel_rfl
  i46 := by kernel_rfl
  i51 := by kernel_rfl
  i53 := by kernel_rfl
  i171 := by kernel_rfl
  i173 := by kernel_rfl
  i212 := by kernel_rfl
  i232 := by kernel_rfl
  i233 := by kernel_rfl
  m17 := by kernel_rfl
  m18 := by kernel_rfl
  m19 := by kernel_rfl }
open Go.RowKit Go.Sort Go.Lib in
/-- internal/strconv.AppendInt: "AppendInt appends the string form of the integer i, as generated by FormatInt, to dst and returns the extended buffer.": AT BASE 10: WHAT COMES BACK OWNS dst's CELLS AND, BEHIND THEM, i's DECIMAL NUMERAL ('Lib.itoa i': at most 20 bytes), for every int64. Below the call's own blocks nothing has turned. (LAID: no walk: one application.) -/
theorem Tryd.internal_strconv_AppendInt_10 (B n : Nat) (i : Int) (h0 : -9223372036854775808 ≤ i) (h1 : i ≤ 9223372036854775807) (sv : Value) (xs : List Value) (w : World) (hown : w.ownsRow B 5 1 sv n xs) (hBw : B ≤ w.heap.size) (hlim : n + 21 ≤ 140737488355328) (htab : Lib.TabBelow Tryd.prog B w "internal/strconv.uint64pow10" .u64 Lib.pow10Tab) :
    Calls Tryd.prog 68 #[sv, .int .i64 i, .int .i64 10] w fun e w' => ∃ v', e = .returned v' ∧ w'.ownsRow B 5 1 v' (n + (Lib.itoa i).length) (xs ++ Lib.byteCells (Lib.itoa i)) ∧ Below B w w' ∧ Lib.OthersKept 5 none w w' := Any.internal_strconv_AppendInt_10 Tryd.laysM249 B n i h0 h1 sv xs w hown hBw hlim htab
def Tryd.laysM176_ren : Go.Shelf.Ren := ⟨fun | 176 => 60 | 249 => 68 | 288 => 71 | 283 => 72 | 284 => 73 | 285 => 74 | 286 => 75 | 129 => 77 | 317 => 76 | 318 => 78 | 319 => 79 | 320 => 80 | 337 => 81 | 338 => 69 | n => n, fun | 37 => 81 | 2 => 2 | 3 => 3 | 53 => 37 | 4 => 4 | 9 => 9 | 171 => 93 | 0 => 0 | 173 => 95 | 212 => 98 | 51 => 99 | 5 => 5 | 20 => 20 | 213 => 100 | 46 => 89 | 232 => 103 | 233 => 91 | n => n, fun | 17 => 1 | 18 => 2 | 19 => 0 | n => n⟩
theorem Tryd.laysM176 : Go.Proofs.LaysM.n176 Tryd.prog Tryd.laysM176_ren := {
  mixed := by kernel_rfl
  f129 := Tryd.func77.trans (congrArg some (by kernel_rfl))
  f176 := Tryd.func60.trans (congrArg some (by kernel_rfl))
  f249 := Tryd.func68.trans (congrArg some (by kernel_rfl))
  f283 := Tryd.func72.trans (congrArg some (by kernel_rfl))
  f284 := Tryd.func73.trans (congrArg some (by kernel_rfl))
  f285 := Tryd.func74.trans (congrArg some (by kernel_rfl))
  f286 := Tryd.func75.trans (congrArg some (by kernel_rfl))
  f288 := Tryd.func71.trans (congrArg some (by kernel_rfl))
  f317 := Tryd.func76.trans (congrArg some (by kernel_rfl))
  f318 := Tryd.func78.trans (congrArg some (by kernel_rfl))
  f319 := Tryd.func79.trans (congrArg some (by kernel_rfl))
  f320 := Tryd.func80.trans (congrArg some (by kernel_rfl))
  f337 := Tryd.func81.trans (congrArg some (by kernel_rfl))
  f338 := Tryd.func69.trans (congrArg some (by kernel_rfl))
  t0 := Tryd.underlying0
  a0 := Tryd.isAgg0
  z0 := Tryd.sizeOf0
  v0 := Tryd.zeroValue0
  t2 := Tryd.underlying2
  a2 := Tryd.isAgg2
  z2 := Tryd.sizeOf2
  v2 := Tryd.zeroValue2
  t3 := Tryd.underlying3
  a3 := Tryd.isAgg3
  z3 := Tryd.sizeOf3
  v3 := Tryd.zeroValue3
  t4 := Tryd.underlying4
  a4 := Tryd.isAgg4
  z4 := Tryd.sizeOf4
  v4 := Tryd.zeroValue4
  t5 := Tryd.underlying5
  a5 := Tryd.isAgg5
  z5 := Tryd.sizeOf5
  v5 := Tryd.zeroValue5
  t9 := Tryd.underlying9
  a9 := Tryd.isAgg9
  z9 := Tryd.sizeOf9
  v9 := Tryd.zeroValue9
  t20 := Tryd.underlying20
  a20 := Tryd.isAgg20
  z20 := Tryd.sizeOf20
  v20 := Tryd.zeroValue20
  t37 := Tryd.underlying81
  a37 := Tryd.isAgg81
  z37 := Tryd.sizeOf81
  v37 := Tryd.zeroValue81
  t46 := Tryd.underlying89
  a46 := Tryd.isAgg89
  z46 := Tryd.sizeOf89
  v46 := Tryd.zeroValue89
  t51 := Tryd.underlying99
  a51 := Tryd.isAgg99
  z51 := Tryd.sizeOf99
  v51 := Tryd.zeroValue99
  t53 := Tryd.underlying37
  a53 := Tryd.isAgg37
  z53 := Tryd.sizeOf37
  v53 := Tryd.zeroValue37
  t171 := Tryd.underlying93
  a171 := Tryd.isAgg93
  z171 := Tryd.sizeOf93
  v171 := Tryd.zeroValue93
  t173 := Tryd.underlying95
  a173 := Tryd.isAgg95
  z173 := Tryd.sizeOf95
  v173 := Tryd.zeroValue95
  t212 := Tryd.underlying98
  a212 := Tryd.isAgg98
  z212 := Tryd.sizeOf98
  v212 := Tryd.zeroValue98
  t213 := Tryd.underlying100
  a213 := Tryd.isAgg100
  z213 := Tryd.sizeOf100
  t232 := Tryd.underlying103
  a232 := Tryd.isAgg103
  z232 := Tryd.sizeOf103
  v232 := Tryd.zeroValue103
  t233 := Tryd.underlying91
  a233 := Tryd.isAgg91
  z233 := Tryd.sizeOf91
  v233 := Tryd.zeroValue91
  g17 := by kernel_rfl
  g18 := by kernel_rfl
  g19 := by kernel_rfl
  i0 := by kernel_rfl
  i2 := by kernel_rfl
  i3 := by kernel_rfl
  i4 := by kernel_rfl
  i5 := by kernel_rfl
  i9 := by kernel_rfl
  i20 := by kernel_rfl
  i37 := by kernel_rfl
  i46 := by kernel_rfl
  i51 := by kernel_rfl
  i53 := by kernel_rfl
  i171 := by kernel_rfl
  i173 := by kernel_rfl
  i212 := by kernel_rfl
  i232 := by kernel_rfl
  i233 := by kernel_rfl
  m17 := by kernel_rfl
  m18 := by kernel_rfl
  m19 := by kernel_rfl }
open Go.RowKit Go.Sort Go.Lib in
/-- strconv.AppendInt: "AppendInt appends the string form of the integer i, as generated by FormatInt, to dst and returns the extended buffer.": AT BASE 10: WHAT COMES BACK OWNS dst's CELLS AND, BEHIND THEM, i's DECIMAL NUMERAL ('Lib.itoa i': at most 20 bytes), for every int64. Below the call's own blocks nothing has turned. (LAID: no walk: one application.) -/
theorem Tryd.strconv_AppendInt_10 (B n : Nat) (i : Int) (h0 : -9223372036854775808 ≤ i) (h1 : i ≤ 9223372036854775807) (sv : Value) (xs : List Value) (w : World) (hown : w.ownsRow B 5 1 sv n xs) (hBw : B ≤ w.heap.size) (hlim : n + 21 ≤ 140737488355328) (htab : Lib.TabBelow Tryd.prog B w "internal/strconv.uint64pow10" .u64 Lib.pow10Tab) :
    Calls Tryd.prog 60 #[sv, .int .i64 i, .int .i64 10] w fun e w' => ∃ v', e = .returned v' ∧ w'.ownsRow B 5 1 v' (n + (Lib.itoa i).length) (xs ++ Lib.byteCells (Lib.itoa i)) ∧ Below B w w' ∧ Lib.OthersKept 5 none w w' := Any.strconv_AppendInt_10 Tryd.laysM176 B n i h0 h1 sv xs w hown hBw hlim htab
end Go.Proofs
