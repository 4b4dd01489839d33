/- The reference's In (lines of XRf1 turned to this seat). -/
import Derived.Laws.IdiomStrings
import Derived.Test.YtpaakgngoocjeaaDoorRows
import Derived.Test.YtpaakgngoocjeaaDoorTie
import Derived.Test.YtpaakgngoocjeaaDoorCards
import Derived.Test.YtpaakgngoocjeaaDoorChecked
import Derived.KernelRfl
import Derived.Lay
import Derived.MakeChecks
import Derived.LaidOnce
import Derived.SevenTiedAt
import Derived.HandedShaped
import Derived.Stop.LaidErr
import Derived.Lib.SmallJoins
import Derived.Test.YtpaakgngoocjeaaDoorDig01
import Derived.Test.YtpaakgngoocjeaaDoorDig03
import Derived.Test.YtpaakgngoocjeaaDoorDig08
import Derived.Test.YtpaakgngoocjeaaDoorDig09
import Derived.Test.YtpaakgngoocjeaaDoorDig10
import Derived.Test.YtpaakgngoocjeaaDoorDig11
/- The contract of Text: the string of a set. -/
namespace Go.Proofs.YtpaakgngoocjeaaDoor
open Go.RowKit Go.Shelf

attribute [local go_sem] Oper.semAt_some

theorem u8_info : (Tryd.prog.info? 5).map (fun i => (i.zero, i.size, i.bytes)) = some (some (.int .u8 0), 1, 1) := by kernel_rfl

/-- the text behind one member more -/
def textGo (acc : List UInt8) (x : Nat) : List UInt8 := (if 1 < acc.length then acc ++ [44] else acc) ++ Lib.itoa (x : Int)
def textP (l : List Nat) : List UInt8 := l.foldl textGo [123]
/-- the text of a set -/
def textF (S : Nat) : List UInt8 := textP (mem S) ++ [125]
theorem textP_snoc (l : List Nat) (x : Nat) : textP (l ++ [x]) = textGo (textP l) x := by simp [textP]
theorem itoa_len : ∀ x : Fin 512, 1 ≤ (Lib.itoa ((x.1 : Nat) : Int)).length ∧ (Lib.itoa ((x.1 : Nat) : Int)).length ≤ 3 := by decide +kernel
theorem textP_len (l : List (Fin 512)) : (textP (l.map Fin.val)).length ≤ 1 + 4 * l.length ∧ 1 ≤ (textP (l.map Fin.val)).length := by
  rw [← List.reverse_reverse l]
  generalize l.reverse = r
  induction r with
  | nil => simp [textP]
  | cons x r ih =>
    rw [List.reverse_cons, List.map_append, List.map_cons, List.map_nil, textP_snoc]
    have h := itoa_len x
    unfold textGo
    rw [List.length_append, List.length_append, List.length_singleton]
    split
    · rw [List.length_append, List.length_singleton]; omega
    · omega

theorem bc_append (a b : List UInt8) : Lib.byteCells (a ++ b) = Lib.byteCells a ++ Lib.byteCells b := by simp [Lib.byteCells]
theorem bc_len (a : List UInt8) : (Lib.byteCells a).length = a.length := by simp [Lib.byteCells]

/-- what a call that keeps all that is no bytes keeps -/
theorem others_boxed {W W' : World} {B t : Nat} {v : Value} (h : Boxed W B t v) (ho : Lib.OthersKept 5 none W W') (ht : t ≠ 5) : Boxed W' B t v := ho B _ h (by simp) (fun c fz e => by cases e; exact ht rfl)
theorem others_blk {W W' : World} {B t : Nat} {s : List Value} (h : Blk W B t s) (ho : Lib.OthersKept 5 none W W') (ht : t ≠ 5) : Blk W' B t s := ho B _ h (by simp) (fun c fz e => by cases e; exact ht rfl)
theorem others_keeps {W W' : World} (ho : Lib.OthersKept 5 none W W') (hs : W.heap.size ≤ W'.heap.size) : KeepsOthers W W' :=
  ⟨hs, fun k o hk hc => ho k o hk (by simp) (fun c fz e => by rw [e] at hc; cases hc)⟩
theorem own_lit (w : World) {base : Nat} (hb : base ≤ w.heap.size) (e : TypeId) (v : Value) : (w.alloc (.cells #[v] e)).ownsRow base e 1 (.slice (some ⟨w.heap.size, 0, none⟩) 1 1) 1 [v] :=
  ⟨rfl, .inr ⟨w.heap.size, 1, #[v], rfl, hb, heap_alloc_new w _, Nat.le_refl _, by decide, rfl, rfl⟩⟩
theorem own_not_obj {W : World} {base size k D : Nat} {e : TypeId} {v : Value} {xs : List Value} {o : Obj} (hr : W.ownsRow base e size v k xs) (hD : W.heap[D]? = some o) (ho : o.isCells = false) : some D ≠ v.ownBlock := by
  rcases hr.2 with ⟨rfl, _⟩ | ⟨g, cap, cur, rfl, _, hgb, _⟩
  · simp [Value.ownBlock]
  · intro e'
    obtain rfl : D = g := by simpa [Value.ownBlock] using e'
    rw [hD] at hgb
    cases hgb
    cases ho
/-- a slice of bytes made a string -/
theorem conv_own {w : World} {base g n cap : Nat} {l : List UInt8} (h : w.ownsRow base 5 1 (.slice (some ⟨g, 0, none⟩) n cap) n (Lib.byteCells l)) :
    (convert 81 9 (.slice (some ⟨g, 0, none⟩) n cap)).run Tryd.prog w = .ok (.string ⟨l.toArray⟩) w := by
  have hl : l.length = n := by have := h.1; rw [bc_len] at this; omega
  subst hl
  refine run_convert_bytes_back w 81 9 5 ⟨g, 0, none⟩ cap l Tryd.underlying81 Tryd.underlying5 Tryd.underlying9 (fun j hj => ?_)
  have h2 := h.cells (g := g) rfl j (.int .u8 (l[j].toNat : Int)) (by simp [Lib.byteCells, hj])
  exact h2
/-- the closing brace, and the string -/
theorem text_fin {w W w1 : World} {n g cap g' cap' D : Nat} {R T : List UInt8} (hF : R = T ++ [125]) (hW : W.ownsRow w.heap.size 5 1 (.slice (some ⟨g, 0, none⟩) (n + 1) cap) (n + 1) (Lib.byteCells T))
    (hK : W.heap[D]? = some (.deferred (some []))) (hB : Below w.heap.size w W) (hbs : w.heap.size ≤ W.heap.size) (hown : w1.ownsRow w.heap.size 5 1 (.slice (some ⟨g', 0, none⟩) (n + 1 + 1) cap') (n + 1 + 1) (Lib.byteCells T ++ [.int .u8 125]))
    (hgr : (W.alloc (.cells #[.int .u8 125] 5)).grownBy w1 (some g)) :
    (convert 81 9 (.slice (some ⟨g', 0, none⟩) (n + 1 + 1) cap')).run Tryd.prog w1 = .ok (.string ⟨R.toArray⟩) w1 ∧ Hid (w1.heap[D]? = some (.deferred (some [])) ∧ Below w.heap.size w w1) := by
  have hR : w1.ownsRow w.heap.size 5 1 (.slice (some ⟨g', 0, none⟩) (n + 1 + 1) cap') (n + 1 + 1) (Lib.byteCells R) := by rw [hF, bc_append]; exact hown
  have hDl : D < W.heap.size := (Array.getElem?_eq_some_iff.1 hK).1
  have hK1 : w1.heap[D]? = some (.deferred (some [])) := (hgr.block D (by simp; omega) (own_not_obj hW hK rfl)).trans ((Below.heap_alloc W _ D hDl).trans hK)
  have hg0 : w.heap.size ≤ g := own_ge hW g rfl
  exact ⟨conv_own hR, Lib.hid ⟨hK1, (hB.alloc hbs _).grown hgr (by simp; omega) (fun k e => by cases e; exact hg0)⟩⟩
/-- an append behind which the box does not change yet -/
theorem row_after {W w1 : World} {n₀ : Nat} {e : TypeId} {v : Value} {tmp : Obj} {Bn tS : Nat} {s : List Value} {k : Nat} {xs : List Value} (hS : Blk W Bn tS s) (hse : tS ≠ e) (hrow : W.ownsRow n₀ e 1 v k xs) (hgrow : (W.alloc tmp).grownBy w1 v.ownBlock) : Blk w1 Bn tS s :=
  (hS.alloc tmp).kept hgrow (hS.not_row hse hrow)

set_option maxRecDepth 100000 in
set_option maxHeartbeats 2000000 in
theorem text_any (S : Nat) (w : World) (hS : Fit S) (hT : Tab w) : Calls Tryd.prog 40 #[sV S] w (RetPost (.string ⟨(textF S).toArray⟩) w.heap.size w) := by
  obtain ⟨i0, hi, hz0, hz1, hz2⟩ := info_parts u8_info
  have hml := mem_len S
  refine (callsIn_wide (n := 3)).1 ?_
  refine callsIn_of_wp_marks Tryd.func40 rfl trivial ?_ rfl
  have HA := Lib.hid (fun w' => all_any S w')
  unfold sV at HA ⊢
  simp only [Tryd.ntmps40, List.size_toArray, List.length_cons, List.length_nil, Nat.reduceAdd, Nat.reduceSub, Array.replicate_succ, Array.replicate_zero, List.push_toArray, List.append_toArray, List.nil_append, List.cons_append]
  gi_wp2_with fail
  refine ⟨trivial, (callsIn_wide.2 (HA.out _)).mono ?_⟩
  rintro e W3 ⟨rfl, hW3⟩
  gi_wp2_with fail
  rw [← hW3]
  have h4 : tabN ≤ w.heap.size := hT.1
  have bO : Boxed W3 (w.heap.size + 2) 81 (.slice (some ⟨w.heap.size + 1, 0, none⟩) 1 1) := by
    rw [hW3]
    have := Boxed.new ((w.alloc (.cells (sL S).toArray 40)).alloc (.cells #[.int .u8 123] 5)) 81 (.slice (some ⟨w.heap.size + 1, 0, none⟩) 1 1)
    simp only [World.size_alloc] at this
    exact this.alloc _
  have hSB : Blk W3 (w.heap.size + 3) 40 (tabL 8 (sC S)) := by
    rw [hW3, ← sL_tab]
    have := blk_new (((w.alloc (.cells (sL S).toArray 40)).alloc (.cells #[.int .u8 123] 5)).alloc (.cells #[Value.slice (some ⟨w.heap.size + 1, 0, none⟩) 1 1] 81)) (sL S) 40
    simp only [World.size_alloc] at this
    exact this
  have hO3 : W3.ownsRow w.heap.size 5 1 (.slice (some ⟨w.heap.size + 1, 0, none⟩) 1 1) 1 [.int .u8 123] := by
    rw [hW3]
    have := own_lit (w.alloc (.cells (sL S).toArray 40)) (base := w.heap.size) (by simp) 5 (.int .u8 123)
    simp only [World.size_alloc] at this
    exact (this.alloc _).alloc _
  have hB3 : Below w.heap.size w W3 := by rw [hW3]; exact ((((Below.refl _ w).alloc (Nat.le_refl _) _).alloc (by simp) _).alloc (by simp; omega) _).alloc (by simp; omega) _
  have h3s : W3.heap.size = w.heap.size + 4 := by rw [hW3]; simp
  have hT3 := hT.keep hB3
  clear hW3 HA
  refine wpIn_rangeFunc_ownG rfl (by decide) (gf := 63) (lb := #[.pointer (some ⟨w.heap.size + 3, 0, none⟩)]) rfl trivial (enters_of Tryd.func63 (by kernel_rfl) rfl)
    (all_stops5 2 (by decide) (w.heap.size + 3) w.heap.size S hS h4 W3 hSB hT3) keep1_t (keep1_b (by omega) (by omega)) (Below.refl _ _) (fun _ => rfl)
    (fun (pre : List (Fin 512)) W => (∃ v, Boxed W (w.heap.size + 2) 81 v ∧ W.ownsRow w.heap.size 5 1 v (textP (pre.map Fin.val)).length (Lib.byteCells (textP (pre.map Fin.val))) ∧ True) ∧ (Blk W (w.heap.size + 3) 40 (tabL 8 (sC S)) ∧ Below w.heap.size w W))
    (fun _ _ _ => False)
    (OwnFrom.and (Own.from (holdsRow_own w.heap.size (w.heap.size + 2) 81 5 1 (fun pre : List (Fin 512) => (textP (pre.map Fin.val)).length) (fun pre : List (Fin 512) => Lib.byteCells (textP (pre.map Fin.val))) (fun _ _ => True)) _) (OwnFrom.and (Own.from (blk_own _ _ _) _) (ownFrom_below (Nat.le_refl _) (by omega))))
    (fun _ _ _ _ _ hs _ _ => hs)
    ⟨⟨_, bO, hO3, trivial⟩, hSB, hB3⟩
    (fun x => { tmps := #[.agg #[.int .u64 (wd S 0), .int .u64 (wd S 1), .int .u64 (wd S 2), .int .u64 (wd S 3), .int .u64 (wd S 4), .int .u64 (wd S 5), .int .u64 (wd S 6), .int .u64 (wd S 7)], .pointer (some ⟨w.heap.size, 0, none⟩), .string ⟨#[]⟩, .pointer (some ⟨w.heap.size + 1 + 1, 0, none⟩), .int .i64 (x.1 : Int), .slice (some ⟨w.heap.size + 1, 0, none⟩) 1 1, .agg #[.int .u64 (wd S 0), .int .u64 (wd S 1), .int .u64 (wd S 2), .int .u64 (wd S 3), .int .u64 (wd S 4), .int .u64 (wd S 5), .int .u64 (wd S 6), .int .u64 (wd S 7)], .func (.func 63) #[] #[.pointer (some ⟨w.heap.size + 3, 0, none⟩)], .int .i64 (x.1 : Int), undef, undef, undef, undef, undef, undef, undef, undef, undef, undef, undef, undef, undef], defers := [] }) ?assign ?body ?done ?stop
  case assign =>
    intro l x W K hK
    gi_wp2
    exact hK
  case body =>
    rintro l pre x W ⟨⟨v, hv, hrow, _⟩, hSW, hB⟩ hlt
    have hbs := hB.size
    have hTW : Tab W := tab_keepB hT h4 hB
    obtain ⟨hl1, hl2⟩ := textP_len pre
    have hx := itoa_len x
    have hnew : textP ((pre ++ [x]).map Fin.val) = textGo (textP (pre.map Fin.val)) x.1 := by rw [List.map_append, List.map_cons, List.map_nil, textP_snoc]
    have hpl : pre.length < 512 := by omega
    have hx5 := x.2
    generalize textP (pre.map Fin.val) = T at *
    obtain ⟨n, hn⟩ : ∃ n, T.length = n + 1 := ⟨T.length - 1, by omega⟩
    rw [hn] at hrow
    obtain ⟨g, cap, rfl⟩ := ownsRow_succ hrow
    have hc := hv.cell
    have HW := Lib.hid (And.intro hTW (And.intro hrow (And.intro hSW hB)))
    have HV := Lib.hid hv
    have HX := Lib.hid (And.intro hx hnew)
    have HN := Lib.hid hn
    have hnb : n ≤ 3000 := by omega
    clear hTW hSW hx hnew hB hv hrow
    by_cases h1 : n = 0
    · subst h1
      have HG : Hid (textGo T x.1 = T ++ Lib.itoa (x.1 : Int)) := Lib.hid (by unfold textGo; rw [if_neg (by omega)])
      clear hn
      gi_wp2_with fail
      refine ⟨trivial, (CallsIn.inRound l (callsIn_wide.2 (Tryd.strconv_AppendInt_10 w.heap.size 1 x.1 (by omega) (by omega) _ _ W HW.out.2.1 hbs (by omega) (fun w' hb => (tab_keepB HW.out.1 h4 hb).2.2.1)))).mono ?_⟩
      rintro e W4 ⟨v4, rfl, hrow4, hb4, ho4⟩
      have hv4 := others_boxed HV.out ho4 (by decide)
      have hs4 := others_blk HW.out.2.2.1 ho4 (by decide)
      obtain ⟨m4, hm4⟩ : ∃ m4, 1 + (Lib.itoa (x.1 : Int)).length = m4 + 1 := ⟨_, Nat.add_comm _ _⟩
      rw [hm4] at hrow4
      obtain ⟨g4, cap4, rfl⟩ := ownsRow_succ hrow4
      have hc4 := hv4.cell
      have hf4 := hv4.frozen
      have H4 := Lib.hid (And.intro hrow4 (And.intro hb4 (And.intro ho4 (And.intro hv4 hs4))))
      have HM := Lib.hid hm4
      clear hrow4 hb4 ho4 hv4 hs4 hc hm4
      gi_wp2_with fail
      obtain ⟨hrow4, hb4, ho4, hv4, hs4⟩ := H4.out
      have hk := (others_keeps ho4 hb4.size).trans (KeepsOthers.setCell W4 ⟨w.heap.size + 2, 0, none⟩ (.slice (some ⟨g4, 0, none⟩) (m4 + 1) cap4))
      have hbb := hb4.setCell (p := ⟨w.heap.size + 2, 0, none⟩) (by simp) (.slice (some ⟨g4, 0, none⟩) (m4 + 1) cap4)
      have hss := hs4.other ⟨w.heap.size + 2, 0, none⟩ (.slice (some ⟨g4, 0, none⟩) (m4 + 1) cap4) (by simp)
      refine ⟨hk.from _, ⟨hbb, (show _ = _ from hss).trans (show _ = _ from HW.out.2.2.1).symm⟩, ⟨_, hv4.set _, ?_, trivial⟩, hss, HW.out.2.2.2.trans hbb⟩
      have hr := hrow4.kept (grownBy_setCell' W4 (w.heap.size + 2) (.slice (some ⟨g4, 0, none⟩) (m4 + 1) cap4)) (.inr (hv4.not_row (by decide) hrow4).symm)
      rw [HX.out.2, HG.out, bc_append, List.length_append, HN.out, HM.out]
      exact hr
    · have h1' : (1 : Int) < ((n + 1 : Nat) : Int) := by omega
      have HG : Hid (textGo T x.1 = (T ++ [44]) ++ Lib.itoa (x.1 : Int)) := Lib.hid (by unfold textGo; rw [if_pos (by omega)])
      clear hn
      gi_wp2_with (gi_at_builtin; refine wpListIn_append_own _ rfl _ _ 81 rfl w.heap.size 5 i0 (.int .u8 0) 1 1 Tryd.underlying81 hi hz0 hz1 hz2 rfl (by decide) _ _ _ rfl (HW.out.2.1.alloc _) ⟨W.heap.size, 0, none⟩ 1 1 [.int .u8 44] rfl rfl (cell_one_new _ _ _) (by simp [Value.oneCell']) (by unfold maxLen; omega) (by omega) (by simp; omega) ?_; intro v' w1 hown' hgrow _; obtain ⟨g', cap', rfl⟩ := ownsRow_succ hown'; obtain ⟨hv1, hv2, hr2, hk2, hb2, hs2⟩ := appendedK HV.out HW.out.2.2.1 (by decide) (by decide) (by omega) HW.out.2.1 hbs (by omega) hown' hgrow; have hc1 := hv1.cell; have hf1 := hv1.frozen; have H2 := Lib.hid (And.intro hv2 (And.intro hr2 (And.intro hk2 (And.intro hb2 hs2)))); clear hv1 hv2 hr2 hk2 hb2 hs2 hown' hgrow)
      obtain ⟨hv2, hr2, hk2, hb2, hs2⟩ := H2.out
      refine ⟨trivial, (CallsIn.inRound l (callsIn_wide.2 (Tryd.strconv_AppendInt_10 w.heap.size (n + 1 + 1) x.1 (by omega) (by omega) _ _ _ hr2 (by have := hb2.1.size; omega) (by omega) (fun w' hb => (tab_keepB HW.out.1 h4 (hb2.1.trans hb)).2.2.1)))).mono ?_⟩
      clear hv2 hr2 hk2 hb2 hs2 hc1 hf1 hc
      generalize w1.setCell ⟨w.heap.size + 2, 0, none⟩ (.slice (some ⟨g', 0, none⟩) (n + 1 + 1) cap') = w5 at *
      rintro e W4 ⟨v4, rfl, hrow4, hb4, ho4⟩
      have hv4 := others_boxed H2.out.1 ho4 (by decide)
      have hs4 := others_blk H2.out.2.2.2.2 ho4 (by decide)
      obtain ⟨m4, hm4⟩ : ∃ m4, n + 1 + 1 + (Lib.itoa (x.1 : Int)).length = m4 + 1 := ⟨n + 1 + (Lib.itoa (x.1 : Int)).length, by omega⟩
      rw [hm4] at hrow4
      obtain ⟨g4, cap4, rfl⟩ := ownsRow_succ hrow4
      have hc4 := hv4.cell
      have hf4 := hv4.frozen
      have H4 := Lib.hid (And.intro hrow4 (And.intro hb4 (And.intro ho4 (And.intro hv4 hs4))))
      have HM := Lib.hid hm4
      clear hrow4 hb4 ho4 hv4 hs4 hm4
      gi_wp2_with fail
      obtain ⟨hrow4, hb4, ho4, hv4, hs4⟩ := H4.out
      have hk := (H2.out.2.2.1.trans (others_keeps ho4 hb4.size)).trans (KeepsOthers.setCell W4 ⟨w.heap.size + 2, 0, none⟩ (.slice (some ⟨g4, 0, none⟩) (m4 + 1) cap4))
      have hbb := H2.out.2.2.2.1.1.trans (hb4.setCell (p := ⟨w.heap.size + 2, 0, none⟩) (by simp) (.slice (some ⟨g4, 0, none⟩) (m4 + 1) cap4))
      have hss := hs4.other ⟨w.heap.size + 2, 0, none⟩ (.slice (some ⟨g4, 0, none⟩) (m4 + 1) cap4) (by simp)
      refine ⟨hk.from _, ⟨hbb, (show _ = _ from hss).trans (show _ = _ from HW.out.2.2.1).symm⟩, ⟨_, hv4.set _, ?_, trivial⟩, hss, HW.out.2.2.2.trans hbb⟩
      have hr := hrow4.kept (grownBy_setCell' W4 (w.heap.size + 2) (.slice (some ⟨g4, 0, none⟩) (m4 + 1) cap4)) (.inr (hv4.not_row (by decide) hrow4).symm)
      rw [HX.out.2, HG.out, bc_append, bc_append, List.length_append, List.length_append, List.length_singleton, HN.out, HM.out]
      exact hr
  case done =>
    rintro D ys W hD hys ⟨⟨v, hv, hrow, _⟩, hSW, hB⟩ hK
    have hys' : ys.map Fin.val = mem S := hys
    rw [hys'] at hrow
    have hbs := hB.size
    obtain ⟨hl1, hl2⟩ := textP_len ys
    rw [hys'] at hl1 hl2
    have hyl : ys.length ≤ 512 := by have : (ys.map Fin.val).length = (mem S).length := by rw [hys']
                                     rw [List.length_map] at this; omega
    have HF : Hid (textF S = textP (mem S) ++ [125]) := Lib.hid rfl
    generalize textF S = R at *
    generalize textP (mem S) = T at *
    obtain ⟨n, hn⟩ : ∃ n, T.length = n + 1 := ⟨T.length - 1, by omega⟩
    rw [hn] at hrow
    obtain ⟨g, cap, rfl⟩ := ownsRow_succ hrow
    have hc := hv.cell
    have hnb : n ≤ 3000 := by omega
    have HN := Lib.hid hn
    have HW := Lib.hid (And.intro hrow hB)
    have HK := Lib.hid (And.intro hK hD)
    have HV := Lib.hid hv
    clear hys hys' hrow hn hB hK hv hSW hD
    gi_wp2_with (gi_at_builtin; refine wpListIn_append_own _ rfl _ _ 81 rfl w.heap.size 5 i0 (.int .u8 0) 1 1 Tryd.underlying81 hi hz0 hz1 hz2 rfl (by decide) _ _ _ rfl (HW.out.1.alloc _) ⟨W.heap.size, 0, none⟩ 1 1 [.int .u8 125] rfl rfl (cell_one_new _ _ _) (by simp [Value.oneCell']) (by unfold maxLen; omega) (by omega) (by simp; omega) ?_; intro v' w1 hown' hgrow _; obtain ⟨g', cap', rfl⟩ := ownsRow_succ hown'; obtain ⟨hcv, H1⟩ := text_fin HF.out HW.out.1 HK.out.1 HW.out.2 hbs hown' hgrow; clear hown' hgrow)
    refine ⟨by simp, .inl ⟨_, _, rfl, run_takeDeferred H1.out.1, ?_⟩⟩
    exact ⟨_, results_tmp rfl _ _ _, rfl, H1.out.2.trans (belowK_b (w := w) (Nat.le_refl _) w1 D _ _ (by have := HK.out.2; omega) H1.out.1 rfl rfl)⟩
  case stop =>
    rintro D c pre W _ _ h _
    exact h.elim
end Go.Proofs.YtpaakgngoocjeaaDoor

/- The examples of known: what the program computes at the two graphs. -/
namespace Go.Proofs.YtpaakgngoocjeaaDoor
open Go.RowKit

/-- the vertices that can be reached, by a program -/
def reachGo (S : List Nat) : Nat → Nat → Nat → Option Nat
  | f, F, T => if T = 0 then some F else match f with
    | 0 => none
    | f + 1 => reachGo S f (F ||| mi (stepG S (mem T)) F) (mi (stepG S (mem T)) F)
theorem reachGo_of {S : List Nat} {v : Nat} (hF : ∀ x ∈ S, Fit x) : ∀ (f F T R : Nat), RInv S v F T → reachGo S f F T = some R → R = reachM S v := by
  intro f
  induction f with
  | zero =>
    intro F T R h hg
    unfold reachGo at hg
    split at hg
    · rename_i h0
      subst h0
      cases hg
      exact rinv_end h
    · cases hg
  | succ f ih =>
    intro F T R h hg
    unfold reachGo at hg
    split at hg
    · rename_i h0
      subst h0
      cases hg
      exact rinv_end h
    · exact ih _ _ R (rinv_next hF h) hg
theorem reachM_of {S : List Nat} {v R : Nat} (f : Nat) (hF : ∀ x ∈ S, Fit x) (hv : v < 512) (h : reachGo S f (2 ^ v) (2 ^ v) = some R) : reachM S v = R := (reachGo_of hF f _ _ R (rinv_start S hv) h).symm
/-- the components, by a program, from the vertices that can be reached -/
def stepC (RM : List Nat) (st : Nat × List Nat × List Int) (v : Nat) : Nat × List Nat × List Int := if st.1.testBit v then st else
  (st.1 ||| orBits ((mem (RM.getD v 0)).filter fun w => (RM.getD w 0).testBit v), st.2.1 ++ [orBits ((mem (RM.getD v 0)).filter fun w => (RM.getD w 0).testBit v)], setIdx st.2.2 ((mem (RM.getD v 0)).filter fun w => (RM.getD w 0).testBit v) st.2.1.length)
def partsC (RM : List Nat) (n k : Nat) : Nat × List Nat × List Int := (List.range k).foldl (stepC RM) (0, [], List.replicate n 0)
theorem partL_of {S RM : List Nat} (hI : InG S) (h : ∀ v, v < S.length → reachM S v = RM.getD v 0) {v : Nat} (hv : v < S.length) : partL S v = (mem (RM.getD v 0)).filter fun w => (RM.getD w 0).testBit v := by
  unfold partL
  rw [← h v hv]
  apply List.filter_congr
  intro w hw
  have := mem_tb hw
  rw [reachM_tb] at this
  rw [h w (rch_lt hI hv this.2)]
theorem partsK_of {S RM : List Nat} (hI : InG S) (h : ∀ v, v < S.length → reachM S v = RM.getD v 0) : ∀ k, k ≤ S.length → partsK S k = partsC RM S.length k := by
  intro k
  induction k with
  | zero => intro _; rfl
  | succ k ih =>
    intro hk
    rw [partsK_succ, ih (by omega)]
    unfold partsC
    rw [List.range_succ, List.foldl_append]
    show stepP S _ k = stepC RM _ k
    unfold stepP stepC
    rw [partL_of hI h (by omega)]
/-- the reduction, by a program -/
def redRowC (S RM : List Nat) (k : Nat) : Nat := mi (S.getD k 0) ((mem (S.getD k 0)).foldl (fun a w => a ||| mi (RM.getD w 0) (2 ^ w)) 0)
def redC (S RM : List Nat) (k : Nat) : List Nat × Int := (List.range k).foldl (fun st v => (st.1.set v (redRowC S RM v), wrap64 (st.2 + ((mem (redRowC S RM v)).length : Int)))) (List.replicate S.length 0, 0)
theorem redK_of {S RM : List Nat} (hI : InG S) (h : ∀ v, v < S.length → reachM S v = RM.getD v 0) : ∀ k, k ≤ S.length → redK S k = redC S RM k := by
  have hrow : ∀ k, redRow S k = redRowC S RM k := by
    intro k
    unfold redRow redRowC farS
    congr 1
    have key : ∀ (L : List Nat) (acc : Nat), (∀ x ∈ L, x < S.length) → L.foldl (fun a w => a ||| mi (reachM S w) (2 ^ w)) acc = L.foldl (fun a w => a ||| mi (RM.getD w 0) (2 ^ w)) acc := by
      intro L
      induction L with
      | nil => intro acc _; rfl
      | cons x r ih => intro acc hx; rw [List.foldl_cons, List.foldl_cons, h x (hx x (by simp)), ih _ (fun y hy => hx y (by simp [hy]))]
    refine key _ 0 (fun x hx => ?_)
    have := mem_tb hx
    rw [List.getD_eq_getElem?_getD] at this
    cases h2 : S[k]? with
    | none => rw [h2] at this; simp at this
    | some y => rw [h2] at this; exact hI y (List.mem_of_getElem? h2) _ this
  intro k
  induction k with
  | zero => intro _; rfl
  | succ k ih =>
    intro hk
    rw [redK_succ, ih (by omega), hrow]
    unfold redC
    rw [List.range_succ, List.foldl_append]
    rfl

def exA : List (Int × Int) := [(3, 1), (1, 0), (3, 0), (0, 2)]
def exS1 : List Nat := [4, 1, 0, 3, 0]
def exS2 : List Nat := [4, 1, 2, 3, 0]
theorem ex_build : buildA 5 exA = exA := by decide
theorem ex_graph : graphOf 5 exA = exS1 := by decide
theorem ex_add : addA 5 exA 2 1 = exA ++ [(2, 1)] := by decide
theorem ex_graph2 : graphOf 5 (exA ++ [(2, 1)]) = exS2 := by decide
theorem ex_in1 : InG exS1 := by rw [← ex_graph]; exact graphOf_in _ _
theorem ex_in2 : InG exS2 := by rw [← ex_graph2]; exact graphOf_in _ _
theorem ex_fit1 : ∀ x ∈ exS1, Fit x := by rw [← ex_graph]; exact graphOf_fit (by decide) _
theorem ex_fit2 : ∀ x ∈ exS2, Fit x := by rw [← ex_graph2]; exact graphOf_fit (by decide) _
theorem ex_ord1 : ordF 10 exS1 = some [3, 1, 0, 2, 4] := by decide +kernel
theorem ex_ord2 : ordF 10 exS2 = some [3, 4] := by decide +kernel
theorem ex_lg : lgK exS1 [3, 1, 0, 2, 4] 5 = [2, 1, 3, 0, 0] := by decide +kernel
theorem ex_r1 : ∀ v, v < exS1.length → reachM exS1 v = [5, 7, 4, 15, 16].getD v 0 := by
  intro v hv
  have hv : v < 5 := hv
  match v, hv with
  | 0, _ => exact reachM_of 10 ex_fit1 (by decide) (by decide +kernel)
  | 1, _ => exact reachM_of 10 ex_fit1 (by decide) (by decide +kernel)
  | 2, _ => exact reachM_of 10 ex_fit1 (by decide) (by decide +kernel)
  | 3, _ => exact reachM_of 10 ex_fit1 (by decide) (by decide +kernel)
  | 4, _ => exact reachM_of 10 ex_fit1 (by decide) (by decide +kernel)
theorem ex_r2 : ∀ v, v < exS2.length → reachM exS2 v = [7, 7, 7, 15, 16].getD v 0 := by
  intro v hv
  have hv : v < 5 := hv
  match v, hv with
  | 0, _ => exact reachM_of 10 ex_fit2 (by decide) (by decide +kernel)
  | 1, _ => exact reachM_of 10 ex_fit2 (by decide) (by decide +kernel)
  | 2, _ => exact reachM_of 10 ex_fit2 (by decide) (by decide +kernel)
  | 3, _ => exact reachM_of 10 ex_fit2 (by decide) (by decide +kernel)
  | 4, _ => exact reachM_of 10 ex_fit2 (by decide) (by decide +kernel)
theorem ex_red : redK exS1 5 = ([4, 1, 0, 2, 0], 3) := by rw [redK_of ex_in1 ex_r1 5 (by decide)]; decide +kernel
theorem ex_parts : partsK exS2 5 = (31, [7, 8, 16], [0, 0, 0, 1, 2]) := by rw [partsK_of ex_in2 ex_r2 5 (by decide)]; decide +kernel
theorem ex_comp : compF exS2 = [[3], [0, 1, 2], [4]] := by
  unfold compF
  rw [show exS2.length = 5 from rfl, ex_parts]
  decide +kernel
theorem ex_dist : distF exS2 10 0 = some [0, 1, 2, 1, -1] := by decide +kernel
theorem ex_cyc : cycGo exS2 [0, 1, 2, 1, -1] 0 10 ((mem (exS2.getD 0 0)).foldl (bestStep [0, 1, 2, 1, -1]) (-1)) [(0 : Nat)] = some [0, 2, 1] := by decide +kernel
theorem ex_text : textF 7 = [123, 48, 44, 49, 44, 50, 125] := by decide +kernel
theorem ex_mem7 : mem 7 = [0, 1, 2] := by decide +kernel

/-- the calls of known at the first graph -/
theorem k_order1 {gb rb cap : Nat} {ext : List Value} {arcs : Int} (w : World) (hT : Tab w) (h : GAt w gb rb cap ext exS1 arcs) : Calls Tryd.prog 31 #[.pointer (some ⟨gb, 0, none⟩)] w (TwoInts (zs [3, 1, 0, 2, 4], []) w) :=
  gorder_any 10 [3, 1, 0, 2, 4] [] w hT h ex_in1 (by decide) ex_ord1 (fun h => absurd h (by decide))
theorem k_longest1 {gb rb cap : Nat} {ext : List Value} {arcs : Int} (w : World) (hT : Tab w) (h : GAt w gb rb cap ext exS1 arcs) : Calls Tryd.prog 34 #[.pointer (some ⟨gb, 0, none⟩)] w (ListPost ([2, 1, 3, 0, 0], 0) w) := by
  have := glongest_ok [3, 1, 0, 2, 4] w hT h ex_in1 (by decide) (by decide) (k_order1 w hT h)
  rw [show ([3, 1, 0, 2, 4] : List Nat).length = 5 from rfl, ex_lg] at this
  exact this
theorem k_reduce1 {gb rb cap : Nat} {ext : List Value} {arcs : Int} (w : World) (hT : Tab w) (h : GAt w gb rb cap ext exS1 arcs) : Calls Tryd.prog 35 #[.pointer (some ⟨gb, 0, none⟩)] w (GRet [4, 1, 0, 2, 0] 3 w) := by
  have := greduce_ok _ w hT h ex_in1 (k_order1 w hT h)
  rw [show exS1.length = 5 from rfl, ex_red] at this
  exact this
theorem k_reach1 {gb rb cap : Nat} {ext : List Value} {arcs : Int} (w : World) (hT : Tab w) (h : GAt w gb rb cap ext exS1 arcs) : Calls Tryd.prog 20 #[.pointer (some ⟨gb, 0, none⟩), .int .i64 1] w (RetPost (.tuple #[sV 7, .int .i64 0]) w.heap.size w) := by
  have := greachable_any 1 w hT h ex_in1 (by decide)
  rw [ex_r1 1 (by decide)] at this
  exact this
theorem k_cycle2 {gb rb cap : Nat} {ext : List Value} {arcs : Int} (w : World) (hT : Tab w) (h : GAt w gb rb cap ext exS2 arcs) : Calls Tryd.prog 55 #[.pointer (some ⟨gb, 0, none⟩)] w (NewInts [0, 2, 1] w) := by
  refine gcycle_any 0 0 10 10 7 [1, 2] [0, 1, 2, 1, -1] [0, 2, 1] w hT h ex_in2 ?_ ?_ ex_mem7 (fit_lt (n := 3) (by decide) ?_) (by decide) (by decide) ex_dist rfl (by decide) ex_cyc
  · rw [show exS2.length = 5 from rfl, ex_parts]; decide +kernel
  · rw [show exS2.length = 5 from rfl, ex_parts]; rfl
  · intro b hb
    rcases Nat.lt_or_ge b 3 with h | h
    · exact h
    · rw [Nat.testBit_lt_two_pow (x := 7) (Nat.lt_of_lt_of_le (by decide) (Nat.pow_le_pow_right (by decide) h))] at hb; cases hb
theorem k_order2 {gb rb cap : Nat} {ext : List Value} {arcs : Int} (w : World) (hT : Tab w) (h : GAt w gb rb cap ext exS2 arcs) : Calls Tryd.prog 31 #[.pointer (some ⟨gb, 0, none⟩)] w (TwoInts ([], [0, 2, 1]) w) :=
  gorder_any 10 [3, 4] [0, 2, 1] w hT h ex_in2 (by decide) ex_ord2 (fun _ W hb => k_cycle2 W (hT.keep hb) (h.keep hb))
theorem k_longest2 {gb rb cap : Nat} {ext : List Value} {arcs : Int} (w : World) (hT : Tab w) (h : GAt w gb rb cap ext exS2 arcs) : Calls Tryd.prog 34 #[.pointer (some ⟨gb, 0, none⟩)] w (RetPost (.tuple #[.slice none 0 0, .int .i64 8]) w.heap.size w) :=
  glongest_cyc [0, 2, 1] w h (by decide) (k_order2 w hT h)
theorem k_comps2 {gb rb cap : Nat} {ext : List Value} {arcs : Int} (w : World) (hT : Tab w) (h : GAt w gb rb cap ext exS2 arcs) : Calls Tryd.prog 29 #[.pointer (some ⟨gb, 0, none⟩)] w fun e w' => ∃ v, e = .returned v ∧ Lls w' w'.heap.size v [[3], [0, 1, 2], [4]] ∧ Below w.heap.size w w' := by
  have := gcomps_any w hT h ex_in2
  rw [ex_comp] at this
  exact this
end Go.Proofs.YtpaakgngoocjeaaDoor

/- The contract of known of the laws. -/
namespace Go.Proofs.YtpaakgngoocjeaaDoor
open Go.RowKit

theorem rowS_of_blk {α : Type} {sz : Nat} {f : α → Nat → Value} {W : World} {g t : Nat} {l : List α} (h : Blk W g t (flat sz f l)) : RowS sz f W W.heap.size (some ⟨g, 0, none⟩) l.length l :=
  ⟨rfl, fun _ => ⟨g, 0, rfl, h.lt, fun k x hx j hj => by have := h.cell (flat_at sz f l k x hx j hj); rw [Nat.zero_add]; exact this⟩⟩
theorem row1_of_blk {W : World} {g t : Nat} {l : List Int} (h : Blk W g t (l.map intV)) : Row1 intV W W.heap.size (some ⟨g, 0, none⟩) l.length l :=
  ⟨rfl, fun _ => ⟨g, 0, rfl, h.lt, fun k x hx => by have := h.cell (i := k) (x := intV x) (by rw [List.getElem?_map, hx]; rfl); rw [Nat.zero_add]; exact this⟩⟩

theorem ex_has : ∀ v, v < ([4, 1, 0, 2, 0] : List Nat).length → memI (([4, 1, 0, 2, 0] : List Nat).getD v 0) = nextL [(3, 1), (1, 0), (0, 2)] (v : Int) ([4, 1, 0, 2, 0] : List Nat).length := by
  intro v hv
  have hv : v < 5 := hv
  match v, hv with
  | 0, _ => decide +kernel
  | 1, _ => decide +kernel
  | 2, _ => decide +kernel
  | 3, _ => decide +kernel
  | 4, _ => decide +kernel
theorem ex_fit3 : ∀ x ∈ ([4, 1, 0, 2, 0] : List Nat), Fit x := by
  rw [show ([4, 1, 0, 2, 0] : List Nat) = graphOf 5 [(3, 1), (1, 0), (0, 2)] by decide]
  exact graphOf_fit (by decide) _
theorem k_has {gb rb cap : Nat} {ext : List Value} (g : Nat) (W : World) (hT : Tab W) (h : GAt W gb rb cap ext [4, 1, 0, 2, 0] 3) (hl : Blk W g 31 (flat 2 arcV [(3, 1), (1, 0), (0, 2)])) :
    Calls Tryd.prog 37 #[.pointer (some ⟨gb, 0, none⟩), .int .i64 5, .slice (some ⟨g, 0, none⟩) 3 3] W (RetPost (.bool true) W.heap.size W) :=
  has_yes (S := [4, 1, 0, 2, 0]) (some ⟨g, 0, none⟩) 3 3 [(3, 1), (1, 0), (0, 2)] W hT h (by decide) (rowS_of_blk hl) ex_has
theorem k_add1 {gb rb cap : Nat} {ext : List Value} (W : World) (h : GAt W gb rb cap ext exS1 4) : Calls Tryd.prog 14 #[.pointer (some ⟨gb, 0, none⟩), .int .i64 2, .int .i64 1] W fun e w' => e = .returned (.int .i64 0) ∧ GAt w' gb rb cap ext exS2 5 ∧ Kp2 gb rb W w' := by
  have := gadd_all (gb := gb) (rb := rb) (cap := cap) (ext := ext) 5 exA 2 1 W (by decide) (by decide) (by rw [ex_graph]; exact h)
  rw [ex_add, ex_graph2, show errA 5 exA 2 1 = 0 by decide] at this
  exact this
theorem k_add {gb rb cap : Nat} {ext : List Value} (W : World) (h : GAt W gb rb cap ext exS2 5) (a b er : Int) (he : errA 5 (exA ++ [(2, 1)]) a b = er) (ha : addA 5 (exA ++ [(2, 1)]) a b = exA ++ [(2, 1)]) :
    Calls Tryd.prog 14 #[.pointer (some ⟨gb, 0, none⟩), .int .i64 a, .int .i64 b] W fun e w' => e = .returned (.int .i64 er) ∧ GAt w' gb rb cap ext exS2 5 ∧ Kp2 gb rb W w' := by
  have := gadd_all (gb := gb) (rb := rb) (cap := cap) (ext := ext) 5 (exA ++ [(2, 1)]) a b W (by decide) (by decide) (by rw [ex_graph2]; exact h)
  rw [ha, ex_graph2, he] at this
  exact this
theorem Hp.row1 {w u W : World} {L : List Ent} {ds : List Nat} (h : Hp w u W L ds) (i : Nat) {A : Option Addr} {n c t : Nat} {xs : List Int} (hi : L[i]? = some (.row (.slice A n c) t 1 n (xs.map intV))) : Row1 intV W W.heap.size A n xs := by
  obtain ⟨A', c', e, hr⟩ := row1_of_own (h.row i hi)
  injection e with e1 _ _
  subst e1
  exact hr
set_option maxRecDepth 100000 in
set_option maxHeartbeats 4000000 in
theorem known_any (w : World) (hT : Tab w) : Calls Tryd.prog 11 #[] w (RetPost (.bool true) w.heap.size w) := by
  have HT := Lib.hid hT
  clear hT
  have hP0 := (Hp.start w).alloc (flat 2 arcV exA) 31
  obtain ⟨W0, hW0⟩ : ∃ W0, W0 = w.alloc (.cells (flat 2 arcV exA).toArray 31) := ⟨_, rfl⟩
  rw [← hW0] at hP0
  have HP0 := Lib.hid hP0
  have HB := build_any 5 (some ⟨w.heap.size, 0, none⟩) 4 4 exA W0 (by decide) (by decide) (rowS_of_blk (hP0.blk 0 rfl))
  rw [ex_build, show ((5 : Nat) : Int) = 5 from rfl] at HB
  replace HB := Lib.hid HB
  clear hP0
  rw [show (flat 2 arcV exA).toArray = #[.int .i64 3, .int .i64 1, .int .i64 1, .int .i64 0, .int .i64 3, .int .i64 0, .int .i64 0, .int .i64 2] from rfl] at hW0
  go_enter Tryd.func11, Tryd.ntmps11
  go_wp2_with fail
  rw [← hW0]
  refine HB.out.mono ?_
  rintro e W1 ⟨gb, rb, cap, ext, vA, rfl, hP⟩
  have hP1 := HP0.out.join hP
  unfold bE at hP1
  rw [ex_graph] at hP1
  have HP1 := Lib.hid (hP1.sub (L' := gE gb rb cap ext exS1 (exA.length : Int) ++ []) (by unfold gE; simp))
  have HG := Lib.hid (fun W L arcs (h : Hp w w W (gE gb rb cap ext exS1 arcs ++ L) []) => (h.gat 0 rfl rfl ex_fit1 (by decide) : GAt W gb rb cap ext exS1 arcs))
  clear hP hP1 hW0 HB HP0
  go_wp2_with fail
  refine (k_order1 W1 (HT.out.keep HP1.out.below) (HG.out _ _ _ HP1.out)).mono ?_
  rintro e W2 ⟨v1, v2, rfl, ho1, ho2, hb⟩
  dsimp only at ho1 ho2
  obtain ⟨A2, cp2, rfl⟩ := ((Hp.start W1).pushRow hb ho2).form 0 rfl
  obtain ⟨A1, cp1, rfl⟩ := ((Hp.start W1).pushRow hb ho1).form 0 rfl
  have HP2 := Lib.hid (HP1.out.pushRow hb ho1)
  clear ho1 ho2 hb HP1
  go_wp2_with fail
  refine (k_longest1 W2 (HT.out.keep HP2.out.below) (HG.out _ _ _ HP2.out)).mono ?_
  rintro e W3 ⟨v3, rfl, ho3, hb⟩
  dsimp only at ho3
  obtain ⟨A3, cp3, rfl⟩ := ((Hp.start W2).pushRow hb ho3).form 0 rfl
  have HP3 := Lib.hid (HP2.out.pushRow hb ho3)
  clear ho3 hb HP2
  go_wp2_with fail
  refine (k_reduce1 W3 (HT.out.keep HP3.out.below) (HG.out _ _ _ HP3.out)).mono ?_
  rintro e W4 ⟨gb', rb', cap', ext', rfl, hGr, hgb, hrb, hb⟩
  have HP4 := Lib.hid (HP3.out.graph hb hGr hgb hrb)
  have HGR : Hid (∀ W, Below W4.heap.size W4 W → GAt W gb' rb' cap' ext' [4, 1, 0, 2, 0] 3) := Lib.hid (fun W hW => hGr.keep hW)
  clear hGr hgb hrb hb HP3
  have HR1 := k_reach1 W4 (HT.out.keep HP4.out.below) (HG.out _ _ _ HP4.out)
  unfold sV at HR1
  replace HR1 := Lib.hid HR1
  go_wp2_with fail
  refine HR1.out.mono ?_
  rintro e W5 ⟨rfl, hb5⟩
  have HB5 := Lib.hid hb5
  have hP5 := (HP4.out.keep hb5).allocS 7 40
  obtain ⟨V5, hV5⟩ : ∃ V5, V5 = W5.alloc (.cells (sL 7).toArray 40) := ⟨_, rfl⟩
  rw [← hV5] at hP5
  have HB6 : Hid (Below W4.heap.size W4 V5) := Lib.hid (by rw [hV5]; exact hb5.alloc hb5.size _)
  unfold sL at hV5
  have HP5 := Lib.hid hP5
  clear hb5 hP5 HP4 HR1
  go_upto_region 8 with fail
  rw [← hV5]
  clear hV5
  generalize W5.heap.size = p9 at *
  have hP6 := HP5.out.alloc ([3, 1, 0, 2, 4].map intV) 3
  obtain ⟨V6, hV6⟩ : ∃ V6, V6 = V5.alloc (.cells ([3, 1, 0, 2, 4].map intV).toArray 3) := ⟨_, rfl⟩
  rw [← hV6] at hP6
  rw [show (([3, 1, 0, 2, 4] : List Int).map intV).toArray = #[.int .i64 3, .int .i64 1, .int .i64 0, .int .i64 2, .int .i64 4] from rfl] at hV6
  have HP6 := Lib.hid hP6
  clear hP6
  go_wp2_with fail
  rw [← hV6]
  have HE1 := Lib.hid (equal_any A1 (some ⟨V5.heap.size, 0, none⟩) (zs [3, 1, 0, 2, 4]).length cp1 5 5 V6 V6.heap.size (zs [3, 1, 0, 2, 4]) [3, 1, 0, 2, 4] (by decide) (HP6.out.row1 2 rfl) (row1_of_blk (HP6.out.blk 7 rfl)))
  clear hV6
  refine HE1.out.mono ?_
  rintro e W7 ⟨rfl, hb7⟩
  have HP7 := Lib.hid (HP6.out.keep hb7)
  have HB7 := Lib.hid (HB6.out.trans (((Below.refl V5.heap.size V5).mono HB6.out.size)))
  rw [show sameL (zs [3, 1, 0, 2, 4]) [3, 1, 0, 2, 4] = true from rfl]
  have hP8 := HP7.out.alloc ([2, 1, 3, 0, 0].map intV) 3
  obtain ⟨V8, hV8⟩ : ∃ V8, V8 = W7.alloc (.cells ([2, 1, 3, 0, 0].map intV).toArray 3) := ⟨_, rfl⟩
  rw [← hV8] at hP8
  rw [show (([2, 1, 3, 0, 0] : List Int).map intV).toArray = #[.int .i64 2, .int .i64 1, .int .i64 3, .int .i64 0, .int .i64 0] from rfl] at hV8
  have HP8 := Lib.hid hP8
  clear hP8 hb7 HE1 HP6
  go_wp2_with fail
  rw [← hV8]
  clear hV8
  have HE2 := Lib.hid (equal_any A3 (some ⟨W7.heap.size, 0, none⟩) ([2, 1, 3, 0, 0] : List Int).length cp3 5 5 V8 V8.heap.size [2, 1, 3, 0, 0] [2, 1, 3, 0, 0] (by decide) (HP8.out.row1 3 rfl) (row1_of_blk (HP8.out.blk 8 rfl)))
  refine HE2.out.mono ?_
  rintro e W9 ⟨rfl, hb9⟩
  rw [show sameL [2, 1, 3, 0, 0] [2, 1, 3, 0, 0] = true from rfl]
  have hP10 := (HP8.out.keep hb9).alloc (flat 2 arcV [(3, 1), (1, 0), (0, 2)]) 31
  obtain ⟨V10, hV10⟩ : ∃ V10, V10 = W9.alloc (.cells (flat 2 arcV [(3, 1), (1, 0), (0, 2)]).toArray 31) := ⟨_, rfl⟩
  rw [← hV10] at hP10
  rw [show (flat 2 arcV [(3, 1), (1, 0), (0, 2)]).toArray = #[.int .i64 3, .int .i64 1, .int .i64 1, .int .i64 0, .int .i64 0, .int .i64 2] from rfl] at hV10
  have HP10 := Lib.hid hP10
  clear hP10 hb9 HE2 HP8
  go_wp2_with fail
  rw [← hV10]
  clear hV10
  refine (k_has W9.heap.size V10 (HT.out.keep HP10.out.below) (HP10.out.gat 4 rfl rfl ex_fit3 (by decide)) (HP10.out.blk 9 rfl)).mono ?_
  rintro e W11 ⟨rfl, hb11⟩
  have hP11 := HP10.out.keep hb11
  have HP11 := Lib.hid hP11
  obtain ⟨c6_0, c6_1, c6_2, c6_3, c6_4, c6_5, c6_6, c6_7⟩ := (hP11.blk 6 rfl).eight; have f6 := hP11.f 6 rfl; have l6 := hP11.lt 6 rfl
  have HTX := text_any 7 W11 (fit_lt (n := 3) (by decide) (fun b hb => by
    rcases Nat.lt_or_ge b 3 with h | h
    · exact h
    · rw [Nat.testBit_lt_two_pow (x := 7) (Nat.lt_of_lt_of_le (by decide) (Nat.pow_le_pow_right (by decide) h))] at hb; cases hb)) (HT.out.keep hP11.below)
  rw [ex_text] at HTX
  unfold sV at HTX
  replace HTX := Lib.hid HTX
  clear hP11 hb11 HP10
  go_wp2_with fail
  refine HTX.out.mono ?_
  rintro e W12 ⟨rfl, hb12⟩
  have HP12 := Lib.hid (HP11.out.keep hb12)
  clear hb12 HTX HP11 c6_0 c6_1 c6_2 c6_3 c6_4 c6_5 c6_6 c6_7 f6 l6
  go_wp2_with fail
  have HP13 : Hid (Hp w w W12 (gE gb rb cap ext exS1 4) []) := Lib.hid (HP12.out.sub (List.Sublist.cons_cons _ (List.Sublist.cons_cons _ (List.nil_sublist _))))
  clear HP12 HB5 HB6 HB7 HGR
  refine (k_add1 W12 (HP13.out.gat 0 rfl rfl ex_fit1 (by decide))).mono ?_
  rintro e X14 ⟨rfl, hG, hk⟩
  have HP14 : Hid (Hp w w X14 (gE gb rb cap ext exS2 5) []) := Lib.hid (HP13.out.gadd 0 rfl rfl hG hk)
  clear hG hk HP13
  go_wp2_with fail
  refine (k_add X14 (HP14.out.gat 0 rfl rfl ex_fit2 (by decide)) 3 1 11 (by decide) (by decide)).mono ?_
  rintro e X15 ⟨rfl, hG, hk⟩
  have HP15 : Hid (Hp w w X15 (gE gb rb cap ext exS2 5) []) := Lib.hid (HP14.out.gadd 0 rfl rfl hG hk)
  clear hG hk HP14
  go_wp2_with fail
  refine (k_add X15 (HP15.out.gat 0 rfl rfl ex_fit2 (by decide)) 1 1 2 (by decide) (by decide)).mono ?_
  rintro e X16 ⟨rfl, hG, hk⟩
  have HP16 : Hid (Hp w w X16 (gE gb rb cap ext exS2 5) []) := Lib.hid (HP15.out.gadd 0 rfl rfl hG hk)
  clear hG hk HP15
  go_wp2_with fail
  refine (k_add X16 (HP16.out.gat 0 rfl rfl ex_fit2 (by decide)) 5 0 2 (by decide) (by decide)).mono ?_
  rintro e X17 ⟨rfl, hG, hk⟩
  have HP17 : Hid (Hp w w X17 (gE gb rb cap ext exS2 5) []) := Lib.hid (HP16.out.gadd 0 rfl rfl hG hk)
  clear hG hk HP16
  go_wp2_with fail
  have HAR := Lib.hid (ghasarc_any 0 1 X17 (HP17.out.gat 0 rfl rfl ex_fit2 (by decide)))
  rw [show arcF exS2 0 1 = false by decide] at HAR
  refine HAR.out.mono ?_
  rintro e X18 ⟨rfl, hb18⟩
  have HP18 := Lib.hid (HP17.out.keep hb18)
  clear hb18 HAR HP17
  go_wp2_with fail
  refine (k_order2 X18 (HT.out.keep HP18.out.below) (HP18.out.gat 0 rfl rfl ex_fit2 (by decide))).mono ?_
  rintro e X19 ⟨w1, w2, rfl, ho1, ho2, hb⟩
  dsimp only at ho1 ho2
  obtain ⟨B1, e1, rfl⟩ := ((Hp.start X18).pushRow hb ho1).form 0 rfl
  obtain ⟨B2, e2, rfl⟩ := ((Hp.start X18).pushRow hb ho2).form 0 rfl
  have HP19 := Lib.hid (HP18.out.pushRow hb ho2)
  clear ho1 ho2 hb HP18
  go_wp2_with fail
  refine (k_longest2 X19 (HT.out.keep HP19.out.below) (HP19.out.gat 0 rfl rfl ex_fit2 (by decide))).mono ?_
  rintro e X20 ⟨rfl, hb⟩
  have hP21 := (HP19.out.keep hb).alloc ([0, 2, 1].map intV) 3
  obtain ⟨V21, hV21⟩ : ∃ V21, V21 = X20.alloc (.cells ([0, 2, 1].map intV).toArray 3) := ⟨_, rfl⟩
  rw [← hV21] at hP21
  rw [show (([0, 2, 1] : List Int).map intV).toArray = #[.int .i64 0, .int .i64 2, .int .i64 1] from rfl] at hV21
  have HP21 := Lib.hid hP21
  clear hP21 hb HP19
  go_wp2_with fail
  rw [← hV21]
  clear hV21
  have HE3 := Lib.hid (equal_any B2 (some ⟨X20.heap.size, 0, none⟩) ([0, 2, 1] : List Int).length e2 3 3 V21 V21.heap.size [0, 2, 1] [0, 2, 1] (by decide) (HP21.out.row1 2 rfl) (row1_of_blk (HP21.out.blk 3 rfl)))
  refine HE3.out.mono ?_
  rintro e X22 ⟨rfl, hb22⟩
  rw [show sameL [0, 2, 1] [0, 2, 1] = true from rfl]
  have HP22 := Lib.hid (HP21.out.keep hb22)
  clear hb22 HE3 HP21
  go_wp2_with fail
  refine (k_comps2 X22 (HT.out.keep HP22.out.below) (HP22.out.gat 0 rfl rfl ex_fit2 (by decide))).mono ?_
  rintro e X23 ⟨vc, rfl, hlls, hb23⟩
  have HLL := Lib.hid hlls
  have HP23 := Lib.hid ((Hp.start w).keep (HP22.out.below.trans (hb23.mono HP22.out.below.size)))
  clear hb23 HP22 hlls
  obtain ⟨Ac, nc, cc, rfl⟩ : ∃ A n c, vc = .slice A n c := by obtain ⟨A, c, _, h, _⟩ := HLL.out; exact ⟨_, _, _, h⟩
  go_wp2_with fail
  have hP24 := ((((Hp.start X23).alloc ([3].map intV) 3).alloc ([0, 1, 2].map intV) 3).alloc ([4].map intV) 3).alloc ([((some ⟨X23.heap.size, 0, none⟩ : Option Addr), 1, 1), (some ⟨X23.heap.size + 1, 0, none⟩, 3, 3), (some ⟨X23.heap.size + 1 + 1, 0, none⟩, 1, 1)].map sv) 36
  obtain ⟨V24, hV24⟩ : ∃ V24, V24 = (((X23.alloc (.cells ([3].map intV).toArray 3)).alloc (.cells ([0, 1, 2].map intV).toArray 3)).alloc (.cells ([4].map intV).toArray 3)).alloc (.cells ([((some ⟨X23.heap.size, 0, none⟩ : Option Addr), 1, 1), (some ⟨X23.heap.size + 1, 0, none⟩, 3, 3), (some ⟨X23.heap.size + 1 + 1, 0, none⟩, 1, 1)].map sv).toArray 36) := ⟨_, rfl⟩
  rw [← hV24] at hP24
  simp only [World.size_alloc] at hP24
  have hL2 : Lls V24 V24.heap.size (.slice (some ⟨X23.heap.size + 1 + 1 + 1, 0, none⟩) 3 3) [[3], [0, 1, 2], [4]] := by
    refine ⟨_, 3, [((some ⟨X23.heap.size, 0, none⟩ : Option Addr), 1, 1), (some ⟨X23.heap.size + 1, 0, none⟩, 3, 3), (some ⟨X23.heap.size + 1 + 1, 0, none⟩, 1, 1)], rfl, ?_, rfl, ?_⟩
    · refine ⟨rfl, fun _ => ⟨_, 0, rfl, (hP24.lt 3 rfl), fun k x hx => ?_⟩⟩
      rw [Nat.zero_add]
      exact hP24.c 3 k rfl (by rw [List.getElem?_map, hx]; rfl)
    · intro k x l hx hl
      match k, hx, hl with
      | 0, hx, hl => cases hx; cases hl; exact row1_of_blk (l := [3]) (hP24.blk 0 rfl)
      | 1, hx, hl => cases hx; cases hl; exact row1_of_blk (l := [0, 1, 2]) (hP24.blk 1 rfl)
      | 2, hx, hl => cases hx; cases hl; exact row1_of_blk (l := [4]) (hP24.blk 2 rfl)
  have hB24 := hP24.below
  have HAL := Lib.hid (alike_yes (.slice Ac nc cc) _ [[3], [0, 1, 2], [4]] V24 (by
    obtain ⟨A, c, vs, h1, h2, h3, h4⟩ := HLL.out
    exact ⟨A, c, vs, h1, (h2.below hB24).up hB24.size, h3, fun k x l hx hl => ((h4 k x l hx hl).below hB24).up hB24.size⟩) hL2 (by decide) (by decide))
  have HB24 := Lib.hid (HP23.out.below.trans (hB24.mono HP23.out.below.size))
  rw [show (([3] : List Int).map intV).toArray = #[.int .i64 3] from rfl, show (([0, 1, 2] : List Int).map intV).toArray = #[.int .i64 0, .int .i64 1, .int .i64 2] from rfl, show (([4] : List Int).map intV).toArray = #[.int .i64 4] from rfl] at hV24
  simp only [List.map_cons, List.map_nil, sv] at hV24
  clear hP24 hL2 hB24 HLL HP23
  rw [← hV24]
  clear hV24
  refine HAL.out.mono ?_
  rintro e X25 ⟨rfl, hb25⟩
  have HB25 := Lib.hid (HB24.out.trans (hb25.mono HB24.out.size))
  clear hb25
  go_wp2_with fail
  go_ret
  exact ⟨rfl, HB25.out⟩
end Go.Proofs.YtpaakgngoocjeaaDoor

/- The laid variables of the rows on layer 09: what they give to a walk; the wrap of a row that lists variables and keeps the world's shape. -/
namespace Go.Proofs.YtpaakgngoocjeaaDoor
open Go.RowKit Go.ChangeShapes Go.WideShapes Go.ChangeAt Go.Deep Go.Joins

theorem own : ownKnob Tryd.prog.godebug = none := by kernel_rfl
theorem laidOut : laidOutB Tryd.prog = true := by kernel_rfl
def laid07 : List (String × DataW Unit) := [("math/bits.deBruijn32tab", Rows.laid_math_bits_deBruijn32tab), ("math/bits.deBruijn64tab", Rows.laid_math_bits_deBruijn64tab), ("internal/strconv.uint64pow10", Rows.laid_internal_strconv_uint64pow10)]
theorem laidHold (os : Os) (args : Array Value) : laidMetH Tryd.prog laid07 ((World.laidAll Tryd.prog os laid07).forCall (fun _ _ => 0) ⟨#[], args, []⟩).memory := by
  rw [MakeChecks.laidMetH_plain _ _ _ (by kernel_rfl)]
  exact laidMet_laidAll _ (by kernel_rfl) (by kernel_rfl)

section
variable {H : Type} {enc : TypeId × Value → H}
/-- a row that lists variables: the contract is handed what they hold and the world's shape -/
theorem handed_laid {a : Assume} {C : Checked} {os : Os} {f : FuncId} {fn : Func} {s : ChangeSpec} {conds : List PathCond} {apart fresh handsOn again : Bool} {laid : List (String × DataW Unit)}
    (hown : ownKnob C.prog.godebug = none) (started : os.Started) (noInit : C.prog.inits.idxOf? f = none) (hfn : C.prog.funcs[f]? = some fn)
    (witness : ∃ (w : World) (tape : Tape) (i : Input), w.os = os ∧ (w.forCall tape i).Shaped C.prog ∧ i.vars = [] ∧ Input.okWide C.prog (w.forCall tape i) .any w.heap.size f i ∧
      ((s.pre enc C.prog fn conds apart (w.forCall tape i).memory i.args ∧ laidMetH C.prog laid (w.forCall tape i).memory) ∧ sizedMet enc C.prog fn (OpenSpec.ofChange s) apart (w.forCall tape i).memory i.args) ∧ a.holds C.prog (lone (Frame.enter C.prog f i.args .normal) [] (w.forCall tape i)))
    (contract : ∀ (W : World) (base : Nat) (args : Array Value) (ds gs : List (DataW H)) (before : List MemPlace),
      (∀ (j : Nat) t v, fn.params[j]? = some t → args[j]? = some v → Value.okWide C.prog W .any base t v) →
      DataW.Whole enc C.prog fn.params.toList s.vars apart W args.toList ds gs before →
      laidMetH C.prog laid W → W.ShapedOpen C.prog →
      Calls C.prog f args W fun e W' => ∃ v, e = .returned v ∧ s.post enc C.prog fn apart fresh handsOn again W args v W') :
    ReturnsInHanded a C os f .any (fun w args => (s.pre enc C.prog fn conds apart w args ∧ laidMetH C.prog laid w) ∧ sizedMet enc C.prog fn (OpenSpec.ofChange s) apart w args) (s.post enc C.prog fn apart fresh handsOn again) := by
  refine returnsInHanded_of_calls hown started noInit witness ?_
  intro w tape i _ hsh _ hok hpre _
  obtain ⟨_, _, _, fn', hfn', _, _, _, _, hval⟩ := hok
  obtain rfl : fn' = fn := Option.some.inj (hfn'.symm.trans hfn)
  obtain ⟨⟨⟨ds, gs, before, hw, _⟩, hx⟩, _⟩ := hpre
  refine (contract (w.forCall tape i) w.heap.size i.args ds gs before hval (DataW.Whole.of_heap (w' := w.forCall tape i) (by rfl) hw) (hx.of_heap (by rfl)) hsh).mono fun e W' ⟨v, he, hp⟩ => ?_
  subst he
  exact ChangeSpec.post_blind hp
end

section
variable {H : Type} {enc : TypeId × Value → H} {w : World} {base b0 : Nat} {spare : Nat → Bool} {held : Bool} {r : Reach}
theorem arg_arcs {v : Value} {d : DataW H} {p : List MemPlace} (hv : Value.okWide Tryd.prog w r b0 22 v) (h : DataW.Trod enc Tryd.prog w base spare held 22 v d p) :
    ∃ A n c xs, v = .slice A n c ∧ RowS 2 arcV w w.heap.size A n xs ∧ n ≤ 9223372036854775807 := by
  obtain ⟨A, n, c, rfl⟩ := okWide_slice Tryd.underlying22 hv
  obtain ⟨fuel, hf⟩ := h
  obtain ⟨hn, G, m, h1, h2⟩ := elems_of_trod (sz := 2) Tryd.underlying22 (by kernel_rfl) (by omega) (by simpa [Value.cells] using hf)
  obtain ⟨xs, hx, _⟩ := rowS_of_elems (w := w) (A := A) arcV (fun _ => True) G (fun i hi => by
    obtain ⟨_, y, hy⟩ := h1 i hi
    obtain ⟨g, hg⟩ := ints_of_struct Tryd.underlying31 (by kernel_rfl) (by kernel_rfl) (by kernel_rfl) hy
    refine ⟨(g 0, g 1), trivial, fun j hj => ?_⟩
    have := (hg j hj).1
    match j, hj with
    | 0, _ => exact this
    | 1, _ => exact this) h2
  exact ⟨A, n, c, xs, rfl, hx, hn⟩
theorem arg_arc {v : Value} {d : DataW H} {p : List MemPlace} (hv : Value.okWide Tryd.prog w r b0 31 v) (h : DataW.Trod enc Tryd.prog w base spare held 31 v d p) :
    ∃ y : Int × Int, v = .agg #[.int .i64 y.1, .int .i64 y.2] ∧ True := by
  obtain ⟨cs, rfl, hsz⟩ := okWide_struct Tryd.underlying31 hv
  obtain ⟨fuel, hf⟩ := h
  have hf' : DataW.trod enc Tryd.prog w base spare held fuel 31 cs.toList = some (d, p) := by simpa [Value.cells] using hf
  obtain ⟨g, hg⟩ := ints_of_struct Tryd.underlying31 (by kernel_rfl) (by kernel_rfl) (by kernel_rfl) hf'
  have hs1 : cs.size = 2 := hsz.trans (by kernel_rfl)
  refine ⟨(g 0, g 1), ?_, trivial⟩
  congr 1
  apply Array.ext_getElem?
  intro j
  match j with
  | 0 => simpa using (hg 0 (by decide)).1
  | 1 => simpa using (hg 1 (by decide)).1
  | j + 2 => rw [Array.getElem?_eq_none (by omega), Array.getElem?_eq_none (by simp)]
end

def dB64 : List Int := Lib.deBruijn64tab.map fun n : Nat => (n : Int)
def dB32 : List Int := Lib.deBruijn32tab.map fun n : Nat => (n : Int)
theorem tab_of {W : World} (hL : laidMetH Tryd.prog laid07 W) (_ : W.ShapedOpen Tryd.prog) : Tab W := by
  rw [MakeChecks.laidMetH_plain _ _ _ (by kernel_rfl)] at hL
  have h1 : laidMet Tryd.prog (("math/bits.deBruijn32tab", Lib.tabData .u8 dB32) :: [("math/bits.deBruijn64tab", Rows.laid_math_bits_deBruijn64tab), ("internal/strconv.uint64pow10", Rows.laid_internal_strconv_uint64pow10)]) W := hL
  have h2 : laidMet Tryd.prog (("math/bits.deBruijn64tab", Lib.tabData .u8 dB64) :: [("internal/strconv.uint64pow10", Rows.laid_internal_strconv_uint64pow10)]) W := hL.tail
  have h3 : laidMet Tryd.prog (("internal/strconv.uint64pow10", Lib.tabData .u64 Lib.pow10Tab) :: []) W := hL.tail.tail
  have t1 := Lib.tabIs_of_head (g := 2) (t := 103) (e := 5) (n := 32) (by kernel_rfl) (by kernel_rfl) (by kernel_rfl) (by kernel_rfl) (by kernel_rfl) (by kernel_rfl) h1
  have t2 := Lib.tabIs_of_head (g := 0) (t := 91) (e := 5) (n := 64) (by kernel_rfl) (by kernel_rfl) (by kernel_rfl) (by kernel_rfl) (by kernel_rfl) (by kernel_rfl) h2
  have t3 := Lib.tabIs_of_head (g := 1) (t := 98) (e := 37) (n := 20) (by kernel_rfl) (by kernel_rfl) (by kernel_rfl) (by kernel_rfl) (by kernel_rfl) (by kernel_rfl) h3
  have c1 := t1.cell (g := 2) (by kernel_rfl) 0 (by decide)
  have hsz : 2 < W.heap.size := (lt_of_cell c1).1
  have c3 := t2.cell (g := 0) (by kernel_rfl) 0 (by decide)
  have hsz2 : 0 < W.heap.size := (lt_of_cell c3).1
  have c4 := t3.cell (g := 1) (by kernel_rfl) 0 (by decide)
  have hsz3 : 1 < W.heap.size := (lt_of_cell c4).1
  refine ⟨by omega, fun j hj => ?_, t3, trivial⟩
  have c2 := t2.cell (g := 0) (by kernel_rfl) j (by exact hj)
  rw [c2]
  congr 2
  unfold dB64
  rw [List.getD_eq_getElem?_getD, List.getElem?_map, List.getD_eq_getElem?_getD]
  cases Lib.deBruijn64tab[j]? <;> rfl
end Go.Proofs.YtpaakgngoocjeaaDoor

/- has at a graph of a list; rows of arcs in the memory of a law. -/
namespace Go.Proofs.YtpaakgngoocjeaaDoor
open Go.RowKit

theorem mem_filter_eq {T n : Nat} {p : Nat → Bool} (hn : n ≤ 512) (h : ∀ b, T.testBit b = true ↔ b < n ∧ p b = true) : mem T = (List.range n).filter p := by
  have hs : ∀ (l1 l2 : List Nat), l1.Pairwise (· < ·) → l2.Pairwise (· < ·) → (∀ x, x ∈ l1 ↔ x ∈ l2) → l1 = l2 := by
    intro l1
    induction l1 with
    | nil =>
      intro l2 _ _ h
      cases l2 with
      | nil => rfl
      | cons y r => exact absurd ((h y).2 (by simp)) (by simp)
    | cons x r ih =>
      intro l2 h1 h2 h
      cases l2 with
      | nil => exact absurd ((h x).1 (by simp)) (by simp)
      | cons y s =>
        rw [List.pairwise_cons] at h1 h2
        have hxy : x = y := by
          have a1 : x ∈ y :: s := (h x).1 (by simp)
          have a2 : y ∈ x :: r := (h y).2 (by simp)
          rcases List.mem_cons.1 a1 with e | e
          · exact e
          · rcases List.mem_cons.1 a2 with e' | e'
            · exact e'.symm
            · have := h2.1 x e
              have := h1.1 y e'
              omega
        subst hxy
        congr 1
        refine ih s h1.2 h2.2 (fun z => ?_)
        have hz := h z
        simp only [List.mem_cons] at hz
        constructor
        · intro hr
          rcases hz.1 (.inr hr) with e | e
          · have := h1.1 z hr; omega
          · exact e
        · intro hr
          rcases hz.2 (.inr hr) with e | e
          · have := h2.1 z hr; omega
          · exact e
  refine hs _ _ (mem_sorted T) (List.Pairwise.filter _ List.pairwise_lt_range) (fun x => ?_)
  have hF : Fit T := fit_lt hn (fun b hb => ((h b).1 hb).1)
  rw [mem_iff hF, h x, List.mem_filter, List.mem_range]
theorem mem_rowOf {n : Nat} (hn : n ≤ 512) (A : List (Int × Int)) (v : Nat) : mem (rowOf n A v) = (List.range n).filter fun w : Nat => hasA A (v : Int) (w : Int) := mem_filter_eq hn (rowOf_tb n A v)
theorem memI_rowOf {n : Nat} (hn : n ≤ 512) (A : List (Int × Int)) (v : Nat) : memI (rowOf n A v) = nextL A (v : Int) n := by unfold memI nextL; rw [mem_rowOf hn]
theorem has_graph {gb rb cap : Nat} {ext : List Value} (n : Nat) (A : List (Int × Int)) (v : Value) (Ad : Option Addr) (c : Nat) (W : World) (hn : n ≤ 512) (hA : A.length ≤ 1000) (hT : Tab W) (h : GAt W gb rb cap ext (graphOf n A) (A.length : Int)) (hv : v = .slice Ad A.length c) (hl : RowS 2 arcV W W.heap.size Ad A.length A) :
    Calls Tryd.prog 37 #[.pointer (some ⟨gb, 0, none⟩), .int .i64 (n : Int), v] W (RetPost (.bool true) W.heap.size W) := by
  subst hv
  have := has_yes (S := graphOf n A) Ad A.length c A W hT h hA hl (fun u hu => by rw [graphOf_len] at hu ⊢; rw [graphOf_getD hu]; exact memI_rowOf hn A u)
  rw [graphOf_len] at this
  exact this
section
variable {w u W X : World} {L : List Ent} {ds : List Nat}
theorem Hp.arcs (h : Hp w u W L ds) (i : Nat) {v : Value} {A : List (Int × Int)} (hi : L[i]? = some (.row v 31 2 A.length (flat 2 arcV A))) : ∃ Ad c, v = .slice Ad A.length c ∧ RowS 2 arcV W W.heap.size Ad A.length A := own_formS (f := arcV) (by decide) (h.row i hi)
theorem row_stays {i j g t : Nat} {s : List Value} {e : Ent} {v : Value} {t' size n : Nat} {xs : List Value} (hi : L[i]? = some (.row v t' size n xs)) (hj : L[j]? = some (.blk g t s)) : (L.set j e)[i]? = some (.row v t' size n xs) := by
  have hij : j ≠ i := by
    rintro rfl
    rw [hi] at hj
    cases hj
  rw [List.getElem?_set_ne hij]
  exact hi
/-- Add of the program: where the other entries stand -/
theorem Hp.gadd' (h : Hp w u W L ds) (i : Nat) {gb rb cap : Nat} {ext : List Value} {S S' : List Nat} {arcs arcs' : Int} (hi : L[i]? = some (.blk gb 67 [.bool true, .slice (some ⟨rb, 0, none⟩) S.length cap, .int .i64 arcs])) (hj : L[i + 1]? = some (.blk rb 40 (rowC S ++ ext)))
    (hG : GAt X gb rb cap ext S' arcs') (hk : Kp2 gb rb W X) : ∃ L' : List Ent, Hp w u X L' ds ∧ L'[i]? = some (.blk gb 67 [.bool true, .slice (some ⟨rb, 0, none⟩) S'.length cap, .int .i64 arcs']) ∧ L'[i + 1]? = some (.blk rb 40 (rowC S' ++ ext)) ∧
      (∀ (k : Nat) (e : Ent), k ≠ i → k ≠ i + 1 → L[k]? = some e → L'[k]? = some e) ∧ ∀ (k : Nat) (v : Value) (t size n : Nat) (xs : List Value), L[k]? = some (.row v t size n xs) → L'[k]? = some (.row v t size n xs) := by
  have hil := (List.getElem?_eq_some_iff.1 hi).1
  have hjl := (List.getElem?_eq_some_iff.1 hj).1
  refine ⟨_, h.gadd i hi hj hG hk, ?_, ?_, ?_, ?_⟩
  · rw [List.getElem?_set_ne (by omega), List.getElem?_set, if_pos rfl, if_pos hil]
  · rw [List.getElem?_set, if_pos rfl, if_pos (by rw [List.length_set]; exact hjl)]
  · intro k e h1 h2 he
    rw [List.getElem?_set_ne (fun e => h2 e.symm), List.getElem?_set_ne (fun e => h1 e.symm)]
    exact he
  · intro k v t size n xs he
    exact row_stays (row_stays he hi) (by rw [List.getElem?_set_ne (by omega)]; exact hj)
/-- Add of the reference: its list stands among the entries -/
theorem Hp.radd (h : Hp w u W L ds) (i : Nat) {v v' : Value} {A A' : List (Int × Int)} (hi : L[i]? = some (.row v 31 2 A.length (flat 2 arcV A))) (hb : Below W.heap.size W X)
    (hc : (v' = v ∧ A' = A) ∨ X.ownsRow W.heap.size 31 2 v' A'.length (flat 2 arcV A')) : ∃ (E : List Ent) (i' : Nat), Hp w u X (L ++ E) ds ∧ (L ++ E)[i']? = some (Ent.row v' 31 2 A'.length (flat 2 arcV A')) := by
  rcases hc with ⟨rfl, rfl⟩ | hown
  · exact ⟨[], i, by rw [List.append_nil]; exact h.keep hb, by rw [List.append_nil]; exact hi⟩
  · exact ⟨[.row v' 31 2 A'.length (flat 2 arcV A')], L.length, h.pushRow hb hown, by simp⟩
end
end Go.Proofs.YtpaakgngoocjeaaDoor

/- The arcs of the graphs of the laws lead from vertices to vertices. -/
namespace Go.Proofs.YtpaakgngoocjeaaDoor
open Go.RowKit

/-- the arcs of a list lead from vertices to vertices -/
def VA (n : Nat) (A : List (Int × Int)) : Prop := ∀ p ∈ A, ¬ badA n p.1 p.2
theorem va_add {n : Nat} {A : List (Int × Int)} {a b : Int} (h : VA n A) : VA n (addA n A a b) := by
  unfold addA
  split
  · exact h
  · rename_i hb
    split
    · exact h
    · intro p hp
      rcases List.mem_append.1 hp with h1 | h1
      · exact h p h1
      · rw [List.mem_singleton] at h1; subst h1; exact hb
theorem va_build (n : Nat) (l : List (Int × Int)) : ∀ k, VA n (buildK n l k) := by
  intro k
  induction k with
  | zero => intro p hp; simp [buildK] at hp
  | succ k ih =>
    cases h : l[k]? with
    | none =>
      have hl := List.getElem?_eq_none_iff.1 h
      have : buildK n l (k + 1) = buildK n l k := by unfold buildK; rw [List.take_of_length_le (by omega), List.take_of_length_le (by omega)]
      rw [this]; exact ih
    | some p => rw [buildK_succ h]; exact va_add ih
theorem hasA_va {n : Nat} {A : List (Int × Int)} {a b : Int} (h : VA n A) (hh : hasA A a b = true) : 0 ≤ a ∧ a < (n : Int) ∧ 0 ≤ b ∧ b < (n : Int) ∧ a ≠ b := by
  unfold hasA at hh
  rw [List.any_eq_true] at hh
  obtain ⟨p, hp, hd⟩ := hh
  rw [decide_eq_true_eq] at hd
  have := h p hp
  unfold badA at this
  rw [hd.1, hd.2] at this
  omega
theorem arcF_graph {n : Nat} {A : List (Int × Int)} (hn : n ≤ 512) (h : VA n A) (a b : Int) : arcF (graphOf n A) a b = hasA A a b := by
  rw [Bool.eq_iff_iff]
  unfold arcF hasS
  rw [graphOf_len]
  constructor
  · intro hh
    rw [Bool.and_eq_true, Bool.and_eq_true, decide_eq_true_eq, decide_eq_true_eq] at hh
    obtain ⟨h1, h2, h3⟩ := hh
    rw [graphOf_getD (by omega)] at h3
    have := ((rowOf_tb n A a.toNat b.toNat).1 h3).2
    rw [Int.toNat_of_nonneg h1.1, Int.toNat_of_nonneg h2.1] at this
    exact this
  · intro hh
    obtain ⟨h1, h2, h3, h4, _⟩ := hasA_va h hh
    rw [Bool.and_eq_true, Bool.and_eq_true, decide_eq_true_eq, decide_eq_true_eq]
    refine ⟨⟨h1, h2⟩, ⟨h3, by omega⟩, ?_⟩
    rw [graphOf_getD (by omega)]
    refine (rowOf_tb n A a.toNat b.toNat).2 ⟨by omega, ?_⟩
    rw [Int.toNat_of_nonneg h1, Int.toNat_of_nonneg h3]
    exact hh
end Go.Proofs.YtpaakgngoocjeaaDoor

namespace Go.Proofs.YtpaakgngoocjeaaDoor
open Go.RowKit

def inF (l : List Int) (x : Int) : Bool := l.any fun y => decide (y = x)
theorem inF_cons (y : Int) (l : List Int) (x : Int) : inF (y :: l) x = if y = x then true else inF l x := by
  unfold inF
  rw [List.any_cons]
  by_cases h : y = x <;> simp [h]
theorem inF_iff (l : List Int) (x : Int) : inF l x = true ↔ x ∈ l := by
  unfold inF
  rw [List.any_eq_true]
  constructor
  · rintro ⟨y, h1, h2⟩; simp at h2; subst h2; exact h1
  · intro h; exact ⟨x, h, by simp⟩

theorem rin_any (A : Option Addr) (n c : Nat) (x : Int) (w : World) (D : Nat) (l : List Int) (hn : n ≤ 100000) (hl : Row1 intV w D A n l) :
    Calls Tryd.prog 48 #[.slice A n c, .int .i64 x] w fun e w' => e = .returned (.bool (inF l x)) ∧ w = w' := by
  have Hl := Lib.hid hl
  have Hlen := Eqn.mk hl.1
  clear hl
  go_enter Tryd.func48, Tryd.ntmps48
  go_wp2
  go_loop [5] (fun i => ∃ k : Nat, k ≤ n ∧ i = .int .i64 k ∧ Eqn (inF l x) (inF (l.drop k) x)) (fun i => n - (intOf i).toNat)
  case atStart => exact ⟨0, Nat.zero_le _, rfl, rfl⟩
  case round =>
    obtain ⟨k, hk, rfl, HR⟩ := hrel
    by_cases hlt : k < n
    · obtain ⟨p, hp, hpd⟩ := drop_at (xs := l) (k := k) (by rw [Hlen.out]; exact hlt)
      obtain ⟨b, off, rfl, hbl, hc⟩ := Hl.out.2 (by omega)
      have c0 := hc k p hp
      simp only [intV] at c0
      have HR' : Eqn (inF l x) (if p = x then true else inF (l.drop (k + 1)) x) := by
        have := HR.out; rw [hpd, inF_cons] at this; exact this
      have j0 : (k : Int) < (n : Int) := by omega
      clear hc hp hpd HR
      by_cases he : p = x
      · have hd : (p == x) = true := by simpa using he
        have HR2 : Eqn (inF l x) true := by rw [Eqn, HR'.out, if_pos he]
        clear he HR'
        go_wp2
        go_ret
        exact ⟨ret_bool HR2.out.symm, rfl⟩
      · have hd : (p == x) = false := by simpa using he
        have HR2 : Eqn (inF l x) (inF (l.drop (k + 1)) x) := by rw [Eqn, HR'.out, if_neg he]
        clear he HR'
        go_wp2
        go_round
        case rel => exact ⟨k + 1, by omega, by go_num, HR2⟩
        case measure => simp [intOf]; omega
    · have HR2 : Eqn (inF l x) false := by rw [Eqn, HR.out, drop_end (by rw [Hlen.out]; omega)]; rfl
      clear HR
      go_wp2
      go_ret
      exact ⟨ret_bool HR2.out.symm, rfl⟩

end Go.Proofs.YtpaakgngoocjeaaDoor
