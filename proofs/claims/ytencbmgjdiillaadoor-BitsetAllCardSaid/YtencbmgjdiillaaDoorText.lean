/- The contract of Text: the string of a set. -/
import Derived.Test.YtencbmgjdiillaaDoorList
import Derived.Test.YtencbmgjdiillaaDoorShelf07
import Derived.Laws.IdiomStrings
namespace Go.Proofs.YtencbmgjdiillaaDoor
open Go.RowKit Go.Shelf

attribute [local go_sem] Oper.semAt_some

theorem u8_info : (Tryd.prog.info? 5).map (fun i => (i.zero, i.size, i.bytes)) = some (some (.int .u8 0), 1, 1) := by kernel_rfl

/-- the text behind one member more -/
def textGo (acc : List UInt8) (x : Nat) : List UInt8 := (if 1 < acc.length then acc ++ [44] else acc) ++ Lib.itoa (x : Int)
def textP (l : List Nat) : List UInt8 := l.foldl textGo [123]
/-- the text of a set -/
def textF (S : Nat) : List UInt8 := textP (mem S) ++ [125]
theorem textP_snoc (l : List Nat) (x : Nat) : textP (l ++ [x]) = textGo (textP l) x := by simp [textP]
theorem itoa_len : ∀ x : Fin 512, 1 ≤ (Lib.itoa ((x.1 : Nat) : Int)).length ∧ (Lib.itoa ((x.1 : Nat) : Int)).length ≤ 3 := by decide +kernel
theorem textP_len (l : List (Fin 512)) : (textP (l.map Fin.val)).length ≤ 1 + 4 * l.length ∧ 1 ≤ (textP (l.map Fin.val)).length := by
  rw [← List.reverse_reverse l]
  generalize l.reverse = r
  induction r with
  | nil => simp [textP]
  | cons x r ih =>
    rw [List.reverse_cons, List.map_append, List.map_cons, List.map_nil, textP_snoc]
    have h := itoa_len x
    unfold textGo
    rw [List.length_append, List.length_append, List.length_singleton]
    split
    · rw [List.length_append, List.length_singleton]; omega
    · omega

theorem bc_append (a b : List UInt8) : Lib.byteCells (a ++ b) = Lib.byteCells a ++ Lib.byteCells b := by simp [Lib.byteCells]
theorem bc_len (a : List UInt8) : (Lib.byteCells a).length = a.length := by simp [Lib.byteCells]

/-- what a call that keeps all that is no bytes keeps -/
theorem others_boxed {W W' : World} {B t : Nat} {v : Value} (h : Boxed W B t v) (ho : Lib.OthersKept 5 none W W') (ht : t ≠ 5) : Boxed W' B t v := ho B _ h (by simp) (fun c fz e => by cases e; exact ht rfl)
theorem others_blk {W W' : World} {B t : Nat} {s : List Value} (h : Blk W B t s) (ho : Lib.OthersKept 5 none W W') (ht : t ≠ 5) : Blk W' B t s := ho B _ h (by simp) (fun c fz e => by cases e; exact ht rfl)
theorem others_keeps {W W' : World} (ho : Lib.OthersKept 5 none W W') (hs : W.heap.size ≤ W'.heap.size) : KeepsOthers W W' :=
  ⟨hs, fun k o hk hc => ho k o hk (by simp) (fun c fz e => by rw [e] at hc; cases hc)⟩
theorem own_lit (w : World) {base : Nat} (hb : base ≤ w.heap.size) (e : TypeId) (v : Value) : (w.alloc (.cells #[v] e)).ownsRow base e 1 (.slice (some ⟨w.heap.size, 0, none⟩) 1 1) 1 [v] :=
  ⟨rfl, .inr ⟨w.heap.size, 1, #[v], rfl, hb, heap_alloc_new w _, Nat.le_refl _, by decide, rfl, rfl⟩⟩
theorem own_not_obj {W : World} {base size k D : Nat} {e : TypeId} {v : Value} {xs : List Value} {o : Obj} (hr : W.ownsRow base e size v k xs) (hD : W.heap[D]? = some o) (ho : o.isCells = false) : some D ≠ v.ownBlock := by
  rcases hr.2 with ⟨rfl, _⟩ | ⟨g, cap, cur, rfl, _, hgb, _⟩
  · simp [Value.ownBlock]
  · intro e'
    obtain rfl : D = g := by simpa [Value.ownBlock] using e'
    rw [hD] at hgb
    cases hgb
    cases ho
/-- a slice of bytes made a string -/
theorem conv_own {w : World} {base g n cap : Nat} {l : List UInt8} (h : w.ownsRow base 5 1 (.slice (some ⟨g, 0, none⟩) n cap) n (Lib.byteCells l)) :
    (convert 50 9 (.slice (some ⟨g, 0, none⟩) n cap)).run Tryd.prog w = .ok (.string ⟨l.toArray⟩) w := by
  have hl : l.length = n := by have := h.1; rw [bc_len] at this; omega
  subst hl
  refine run_convert_bytes_back w 50 9 5 ⟨g, 0, none⟩ cap l Tryd.underlying50 Tryd.underlying5 Tryd.underlying9 (fun j hj => ?_)
  have h2 := h.cells (g := g) rfl j (.int .u8 (l[j].toNat : Int)) (by simp [Lib.byteCells, hj])
  exact h2
/-- the closing brace, and the string -/
theorem text_fin {w W w1 : World} {n g cap g' cap' D : Nat} {R T : List UInt8} (hF : R = T ++ [125]) (hW : W.ownsRow w.heap.size 5 1 (.slice (some ⟨g, 0, none⟩) (n + 1) cap) (n + 1) (Lib.byteCells T))
    (hK : W.heap[D]? = some (.deferred (some []))) (hB : Below w.heap.size w W) (hbs : w.heap.size ≤ W.heap.size) (hown : w1.ownsRow w.heap.size 5 1 (.slice (some ⟨g', 0, none⟩) (n + 1 + 1) cap') (n + 1 + 1) (Lib.byteCells T ++ [.int .u8 125]))
    (hgr : (W.alloc (.cells #[.int .u8 125] 5)).grownBy w1 (some g)) :
    (convert 50 9 (.slice (some ⟨g', 0, none⟩) (n + 1 + 1) cap')).run Tryd.prog w1 = .ok (.string ⟨R.toArray⟩) w1 ∧ Hid (w1.heap[D]? = some (.deferred (some [])) ∧ Below w.heap.size w w1) := by
  have hR : w1.ownsRow w.heap.size 5 1 (.slice (some ⟨g', 0, none⟩) (n + 1 + 1) cap') (n + 1 + 1) (Lib.byteCells R) := by rw [hF, bc_append]; exact hown
  have hDl : D < W.heap.size := (Array.getElem?_eq_some_iff.1 hK).1
  have hK1 : w1.heap[D]? = some (.deferred (some [])) := (hgr.block D (by simp; omega) (own_not_obj hW hK rfl)).trans ((Below.heap_alloc W _ D hDl).trans hK)
  have hg0 : w.heap.size ≤ g := own_ge hW g rfl
  exact ⟨conv_own hR, Lib.hid ⟨hK1, (hB.alloc hbs _).grown hgr (by simp; omega) (fun k e => by cases e; exact hg0)⟩⟩
/-- an append behind which the box does not change yet -/
theorem row_after {W w1 : World} {n₀ : Nat} {e : TypeId} {v : Value} {tmp : Obj} {Bn tS : Nat} {s : List Value} {k : Nat} {xs : List Value} (hS : Blk W Bn tS s) (hse : tS ≠ e) (hrow : W.ownsRow n₀ e 1 v k xs) (hgrow : (W.alloc tmp).grownBy w1 v.ownBlock) : Blk w1 Bn tS s :=
  (hS.alloc tmp).kept hgrow (hS.not_row hse hrow)

set_option maxRecDepth 100000 in
set_option maxHeartbeats 2000000 in
theorem text_any (S : Nat) (w : World) (hS : Fit S) (hT : Tab w) : Calls Tryd.prog 20 #[sV S] w (RetPost (.string ⟨(textF S).toArray⟩) w.heap.size w) := by
  obtain ⟨i0, hi, hz0, hz1, hz2⟩ := info_parts u8_info
  have hml := mem_len S
  refine (callsIn_wide (n := 3)).1 ?_
  refine callsIn_of_wp_marks Tryd.func20 rfl trivial ?_ rfl
  have HA := Lib.hid (fun w' => all_any S w')
  unfold sV at HA ⊢
  simp only [Tryd.ntmps20, List.size_toArray, List.length_cons, List.length_nil, Nat.reduceAdd, Nat.reduceSub, Array.replicate_succ, Array.replicate_zero, List.push_toArray, List.append_toArray, List.nil_append, List.cons_append]
  gi_wp2_with fail
  refine ⟨trivial, (callsIn_wide.2 (HA.out _)).mono ?_⟩
  rintro e W3 ⟨rfl, hW3⟩
  gi_wp2_with fail
  rw [← hW3]
  have h4 : 4 ≤ w.heap.size := hT.1
  have bO : Boxed W3 (w.heap.size + 2) 50 (.slice (some ⟨w.heap.size + 1, 0, none⟩) 1 1) := by
    rw [hW3]
    have := Boxed.new ((w.alloc (.cells (sL S).toArray 28)).alloc (.cells #[.int .u8 123] 5)) 50 (.slice (some ⟨w.heap.size + 1, 0, none⟩) 1 1)
    simp only [World.size_alloc] at this
    exact this.alloc _
  have hSB : Blk W3 (w.heap.size + 3) 28 (tabL 8 (sC S)) := by
    rw [hW3, ← sL_tab]
    have := blk_new (((w.alloc (.cells (sL S).toArray 28)).alloc (.cells #[.int .u8 123] 5)).alloc (.cells #[Value.slice (some ⟨w.heap.size + 1, 0, none⟩) 1 1] 50)) (sL S) 28
    simp only [World.size_alloc] at this
    exact this
  have hO3 : W3.ownsRow w.heap.size 5 1 (.slice (some ⟨w.heap.size + 1, 0, none⟩) 1 1) 1 [.int .u8 123] := by
    rw [hW3]
    have := own_lit (w.alloc (.cells (sL S).toArray 28)) (base := w.heap.size) (by simp) 5 (.int .u8 123)
    simp only [World.size_alloc] at this
    exact (this.alloc _).alloc _
  have hB3 : Below w.heap.size w W3 := by rw [hW3]; exact ((((Below.refl _ w).alloc (Nat.le_refl _) _).alloc (by simp) _).alloc (by simp; omega) _).alloc (by simp; omega) _
  have h3s : W3.heap.size = w.heap.size + 4 := by rw [hW3]; simp
  have hT3 := hT.keep hB3
  clear hW3 HA
  refine wpIn_rangeFunc_ownG rfl (by decide) (gf := 42) (lb := #[.pointer (some ⟨w.heap.size + 3, 0, none⟩)]) rfl trivial (enters_of Tryd.func42 (by kernel_rfl) rfl)
    (all_stops5 2 (by decide) (w.heap.size + 3) w.heap.size S hS h4 W3 hSB hT3) keep1_t (keep1_b (by omega) (by omega)) (Below.refl _ _) (fun _ => rfl)
    (fun (pre : List (Fin 512)) W => (∃ v, Boxed W (w.heap.size + 2) 50 v ∧ W.ownsRow w.heap.size 5 1 v (textP (pre.map Fin.val)).length (Lib.byteCells (textP (pre.map Fin.val))) ∧ True) ∧ (Blk W (w.heap.size + 3) 28 (tabL 8 (sC S)) ∧ Below w.heap.size w W))
    (fun _ _ _ => False)
    (OwnFrom.and (Own.from (holdsRow_own w.heap.size (w.heap.size + 2) 50 5 1 (fun pre : List (Fin 512) => (textP (pre.map Fin.val)).length) (fun pre : List (Fin 512) => Lib.byteCells (textP (pre.map Fin.val))) (fun _ _ => True)) _) (OwnFrom.and (Own.from (blk_own _ _ _) _) (ownFrom_below (Nat.le_refl _) (by omega))))
    (fun _ _ _ _ _ hs _ _ => hs)
    ⟨⟨_, bO, hO3, trivial⟩, hSB, hB3⟩
    (fun x => { tmps := #[.agg #[.int .u64 (wd S 0), .int .u64 (wd S 1), .int .u64 (wd S 2), .int .u64 (wd S 3), .int .u64 (wd S 4), .int .u64 (wd S 5), .int .u64 (wd S 6), .int .u64 (wd S 7)], .pointer (some ⟨w.heap.size, 0, none⟩), .string ⟨#[]⟩, .pointer (some ⟨w.heap.size + 1 + 1, 0, none⟩), .int .i64 (x.1 : Int), .slice (some ⟨w.heap.size + 1, 0, none⟩) 1 1, .agg #[.int .u64 (wd S 0), .int .u64 (wd S 1), .int .u64 (wd S 2), .int .u64 (wd S 3), .int .u64 (wd S 4), .int .u64 (wd S 5), .int .u64 (wd S 6), .int .u64 (wd S 7)], .func (.func 42) #[] #[.pointer (some ⟨w.heap.size + 3, 0, none⟩)], .int .i64 (x.1 : Int), undef, undef, undef, undef, undef, undef, undef, undef, undef, undef, undef, undef, undef], defers := [] }) ?assign ?body ?done ?stop
  case assign =>
    intro l x W K hK
    gi_wp2
    exact hK
  case body =>
    rintro l pre x W ⟨⟨v, hv, hrow, _⟩, hSW, hB⟩ hlt
    have hbs := hB.size
    have hTW : Tab W := tab_keepB hT h4 hB
    obtain ⟨hl1, hl2⟩ := textP_len pre
    have hx := itoa_len x
    have hnew : textP ((pre ++ [x]).map Fin.val) = textGo (textP (pre.map Fin.val)) x.1 := by rw [List.map_append, List.map_cons, List.map_nil, textP_snoc]
    have hpl : pre.length < 512 := by omega
    have hx5 := x.2
    generalize textP (pre.map Fin.val) = T at *
    obtain ⟨n, hn⟩ : ∃ n, T.length = n + 1 := ⟨T.length - 1, by omega⟩
    rw [hn] at hrow
    obtain ⟨g, cap, rfl⟩ := ownsRow_succ hrow
    have hc := hv.cell
    have HW := Lib.hid (And.intro hTW (And.intro hrow (And.intro hSW hB)))
    have HV := Lib.hid hv
    have HX := Lib.hid (And.intro hx hnew)
    have HN := Lib.hid hn
    have hnb : n ≤ 3000 := by omega
    clear hTW hSW hx hnew hB hv hrow
    by_cases h1 : n = 0
    · subst h1
      have HG : Hid (textGo T x.1 = T ++ Lib.itoa (x.1 : Int)) := Lib.hid (by unfold textGo; rw [if_neg (by omega)])
      clear hn
      gi_wp2_with fail
      refine ⟨trivial, (CallsIn.inRound l (callsIn_wide.2 (Tryd.strconv_AppendInt_10 w.heap.size 1 x.1 (by omega) (by omega) _ _ W HW.out.2.1 hbs (by omega) (fun w' hb => (tab_keepB HW.out.1 h4 hb).2.2.1)))).mono ?_⟩
      rintro e W4 ⟨v4, rfl, hrow4, hb4, ho4⟩
      have hv4 := others_boxed HV.out ho4 (by decide)
      have hs4 := others_blk HW.out.2.2.1 ho4 (by decide)
      obtain ⟨m4, hm4⟩ : ∃ m4, 1 + (Lib.itoa (x.1 : Int)).length = m4 + 1 := ⟨_, Nat.add_comm _ _⟩
      rw [hm4] at hrow4
      obtain ⟨g4, cap4, rfl⟩ := ownsRow_succ hrow4
      have hc4 := hv4.cell
      have hf4 := hv4.frozen
      have H4 := Lib.hid (And.intro hrow4 (And.intro hb4 (And.intro ho4 (And.intro hv4 hs4))))
      have HM := Lib.hid hm4
      clear hrow4 hb4 ho4 hv4 hs4 hc hm4
      gi_wp2_with fail
      obtain ⟨hrow4, hb4, ho4, hv4, hs4⟩ := H4.out
      have hk := (others_keeps ho4 hb4.size).trans (KeepsOthers.setCell W4 ⟨w.heap.size + 2, 0, none⟩ (.slice (some ⟨g4, 0, none⟩) (m4 + 1) cap4))
      have hbb := hb4.setCell (p := ⟨w.heap.size + 2, 0, none⟩) (by simp) (.slice (some ⟨g4, 0, none⟩) (m4 + 1) cap4)
      have hss := hs4.other ⟨w.heap.size + 2, 0, none⟩ (.slice (some ⟨g4, 0, none⟩) (m4 + 1) cap4) (by simp)
      refine ⟨hk.from _, ⟨hbb, (show _ = _ from hss).trans (show _ = _ from HW.out.2.2.1).symm⟩, ⟨_, hv4.set _, ?_, trivial⟩, hss, HW.out.2.2.2.trans hbb⟩
      have hr := hrow4.kept (grownBy_setCell' W4 (w.heap.size + 2) (.slice (some ⟨g4, 0, none⟩) (m4 + 1) cap4)) (.inr (hv4.not_row (by decide) hrow4).symm)
      rw [HX.out.2, HG.out, bc_append, List.length_append, HN.out, HM.out]
      exact hr
    · have h1' : (1 : Int) < ((n + 1 : Nat) : Int) := by omega
      have HG : Hid (textGo T x.1 = (T ++ [44]) ++ Lib.itoa (x.1 : Int)) := Lib.hid (by unfold textGo; rw [if_pos (by omega)])
      clear hn
      gi_wp2_with (gi_at_builtin; refine wpListIn_append_own _ rfl _ _ 50 rfl w.heap.size 5 i0 (.int .u8 0) 1 1 Tryd.underlying50 hi hz0 hz1 hz2 rfl (by decide) _ _ _ rfl (HW.out.2.1.alloc _) ⟨W.heap.size, 0, none⟩ 1 1 [.int .u8 44] rfl rfl (cell_one_new _ _ _) (by simp [Value.oneCell']) (by unfold maxLen; omega) (by omega) (by simp; omega) ?_; intro v' w1 hown' hgrow _; obtain ⟨g', cap', rfl⟩ := ownsRow_succ hown'; obtain ⟨hv1, hv2, hr2, hk2, hb2, hs2⟩ := appendedK HV.out HW.out.2.2.1 (by decide) (by decide) (by omega) HW.out.2.1 hbs (by omega) hown' hgrow; have hc1 := hv1.cell; have hf1 := hv1.frozen; have H2 := Lib.hid (And.intro hv2 (And.intro hr2 (And.intro hk2 (And.intro hb2 hs2)))); clear hv1 hv2 hr2 hk2 hb2 hs2 hown' hgrow)
      obtain ⟨hv2, hr2, hk2, hb2, hs2⟩ := H2.out
      refine ⟨trivial, (CallsIn.inRound l (callsIn_wide.2 (Tryd.strconv_AppendInt_10 w.heap.size (n + 1 + 1) x.1 (by omega) (by omega) _ _ _ hr2 (by have := hb2.1.size; omega) (by omega) (fun w' hb => (tab_keepB HW.out.1 h4 (hb2.1.trans hb)).2.2.1)))).mono ?_⟩
      clear hv2 hr2 hk2 hb2 hs2 hc1 hf1 hc
      generalize w1.setCell ⟨w.heap.size + 2, 0, none⟩ (.slice (some ⟨g', 0, none⟩) (n + 1 + 1) cap') = w5 at *
      rintro e W4 ⟨v4, rfl, hrow4, hb4, ho4⟩
      have hv4 := others_boxed H2.out.1 ho4 (by decide)
      have hs4 := others_blk H2.out.2.2.2.2 ho4 (by decide)
      obtain ⟨m4, hm4⟩ : ∃ m4, n + 1 + 1 + (Lib.itoa (x.1 : Int)).length = m4 + 1 := ⟨n + 1 + (Lib.itoa (x.1 : Int)).length, by omega⟩
      rw [hm4] at hrow4
      obtain ⟨g4, cap4, rfl⟩ := ownsRow_succ hrow4
      have hc4 := hv4.cell
      have hf4 := hv4.frozen
      have H4 := Lib.hid (And.intro hrow4 (And.intro hb4 (And.intro ho4 (And.intro hv4 hs4))))
      have HM := Lib.hid hm4
      clear hrow4 hb4 ho4 hv4 hs4 hm4
      gi_wp2_with fail
      obtain ⟨hrow4, hb4, ho4, hv4, hs4⟩ := H4.out
      have hk := (H2.out.2.2.1.trans (others_keeps ho4 hb4.size)).trans (KeepsOthers.setCell W4 ⟨w.heap.size + 2, 0, none⟩ (.slice (some ⟨g4, 0, none⟩) (m4 + 1) cap4))
      have hbb := H2.out.2.2.2.1.1.trans (hb4.setCell (p := ⟨w.heap.size + 2, 0, none⟩) (by simp) (.slice (some ⟨g4, 0, none⟩) (m4 + 1) cap4))
      have hss := hs4.other ⟨w.heap.size + 2, 0, none⟩ (.slice (some ⟨g4, 0, none⟩) (m4 + 1) cap4) (by simp)
      refine ⟨hk.from _, ⟨hbb, (show _ = _ from hss).trans (show _ = _ from HW.out.2.2.1).symm⟩, ⟨_, hv4.set _, ?_, trivial⟩, hss, HW.out.2.2.2.trans hbb⟩
      have hr := hrow4.kept (grownBy_setCell' W4 (w.heap.size + 2) (.slice (some ⟨g4, 0, none⟩) (m4 + 1) cap4)) (.inr (hv4.not_row (by decide) hrow4).symm)
      rw [HX.out.2, HG.out, bc_append, bc_append, List.length_append, List.length_append, List.length_singleton, HN.out, HM.out]
      exact hr
  case done =>
    rintro D ys W hD hys ⟨⟨v, hv, hrow, _⟩, hSW, hB⟩ hK
    have hys' : ys.map Fin.val = mem S := hys
    rw [hys'] at hrow
    have hbs := hB.size
    obtain ⟨hl1, hl2⟩ := textP_len ys
    rw [hys'] at hl1 hl2
    have hyl : ys.length ≤ 512 := by have : (ys.map Fin.val).length = (mem S).length := by rw [hys']
                                     rw [List.length_map] at this; omega
    have HF : Hid (textF S = textP (mem S) ++ [125]) := Lib.hid rfl
    generalize textF S = R at *
    generalize textP (mem S) = T at *
    obtain ⟨n, hn⟩ : ∃ n, T.length = n + 1 := ⟨T.length - 1, by omega⟩
    rw [hn] at hrow
    obtain ⟨g, cap, rfl⟩ := ownsRow_succ hrow
    have hc := hv.cell
    have hnb : n ≤ 3000 := by omega
    have HN := Lib.hid hn
    have HW := Lib.hid (And.intro hrow hB)
    have HK := Lib.hid (And.intro hK hD)
    have HV := Lib.hid hv
    clear hys hys' hrow hn hB hK hv hSW hD
    gi_wp2_with (gi_at_builtin; refine wpListIn_append_own _ rfl _ _ 50 rfl w.heap.size 5 i0 (.int .u8 0) 1 1 Tryd.underlying50 hi hz0 hz1 hz2 rfl (by decide) _ _ _ rfl (HW.out.1.alloc _) ⟨W.heap.size, 0, none⟩ 1 1 [.int .u8 125] rfl rfl (cell_one_new _ _ _) (by simp [Value.oneCell']) (by unfold maxLen; omega) (by omega) (by simp; omega) ?_; intro v' w1 hown' hgrow _; obtain ⟨g', cap', rfl⟩ := ownsRow_succ hown'; obtain ⟨hcv, H1⟩ := text_fin HF.out HW.out.1 HK.out.1 HW.out.2 hbs hown' hgrow; clear hown' hgrow)
    refine ⟨by simp, .inl ⟨_, _, rfl, run_takeDeferred H1.out.1, ?_⟩⟩
    exact ⟨_, results_tmp rfl _ _ _, rfl, H1.out.2.trans (belowK_b (w := w) (Nat.le_refl _) w1 D _ _ (by have := HK.out.2; omega) H1.out.1 rfl rfl)⟩
  case stop =>
    rintro D c pre W _ _ h _
    exact h.elim
end Go.Proofs.YtencbmgjdiillaaDoor
