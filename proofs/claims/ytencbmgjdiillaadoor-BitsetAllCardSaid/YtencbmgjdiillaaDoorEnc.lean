/- The contract of Encode: the bytes of a set. -/
import Derived.Test.YtencbmgjdiillaaDoorText
import Derived.Test.YtencbmgjdiillaaDoorLexIn
namespace Go.Proofs.YtencbmgjdiillaaDoor
open Go.RowKit Go.Shelf

attribute [local go_sem] Oper.semAt_some

def orB (a : UInt8) (j : Nat) : UInt8 := UInt8.ofNat (a.toNat ||| 2 ^ j)
theorem orB_nat (a : UInt8) {j : Nat} (hj : j < 8) : (orB a j).toNat = a.toNat ||| 2 ^ j := by
  have h1 : a.toNat < 2 ^ 8 := a.toNat_lt
  have h2 : 2 ^ j < 2 ^ 8 := Nat.pow_lt_pow_right (by decide) hj
  have h3 : a.toNat ||| 2 ^ j < 2 ^ 8 := Nat.or_lt_two_pow h1 h2
  unfold orB
  rw [UInt8.toNat_ofNat']
  exact Nat.mod_eq_of_lt h3
def padB (acc : List UInt8) (n : Nat) : List UInt8 := acc ++ List.replicate (n - acc.length) 0
/-- the bytes behind one member more -/
def encGo (acc : List UInt8) (x : Nat) : List UInt8 := (padB acc (x / 8 + 1)).set (x / 8) (orB ((padB acc (x / 8 + 1)).getD (x / 8) 0) (x % 8))
def encP (l : List Nat) : List UInt8 := l.foldl encGo []
/-- the bytes of a set -/
def encF (S : Nat) : List UInt8 := encP (mem S)
theorem encP_snoc (l : List Nat) (x : Nat) : encP (l ++ [x]) = encGo (encP l) x := by simp [encP]
theorem padB_len (acc : List UInt8) (n : Nat) : (padB acc n).length = max acc.length n := by unfold padB; rw [List.length_append, List.length_replicate]; omega
theorem encGo_len (acc : List UInt8) (x : Nat) : (encGo acc x).length = max acc.length (x / 8 + 1) := by unfold encGo; rw [List.length_set, padB_len]
theorem encP_len (l : List (Fin 512)) : (encP (l.map Fin.val)).length ≤ 64 := by
  rw [← List.reverse_reverse l]
  generalize l.reverse = r
  induction r with
  | nil => simp [encP]
  | cons x r ih =>
    rw [List.reverse_cons, List.map_append, List.map_cons, List.map_nil, encP_snoc, encGo_len]
    have := x.2
    omega

/-- how long the slice is that a box holds -/
def lenAt (B : Nat) (w : World) : Nat := match w.cell? ⟨B, 0, none⟩ with | some (.slice _ n _) => n | _ => 0
theorem lenAt_of {B : Nat} {w : World} {A : Option Addr} {n c : Nat} (h : w.cell? ⟨B, 0, none⟩ = some (.slice A n c)) : lenAt B w = n := by unfold lenAt; rw [h]
theorem own_slice {W : World} {base : Nat} {e : TypeId} {size : Nat} {v : Value} {k : Nat} {xs : List Value} (h : W.ownsRow base e size v k xs) : ∃ A cap, v = .slice A k cap := by
  rcases h.2 with ⟨rfl, rfl⟩ | ⟨g, cap, cur, rfl, _⟩
  · exact ⟨_, _, rfl⟩
  · exact ⟨_, _, rfl⟩

set_option maxRecDepth 100000 in
set_option maxHeartbeats 2000000 in
theorem encode_any (S : Nat) (w : World) (hS : Fit S) (hT : Tab w) : Calls Tryd.prog 26 #[sV S] w fun e w' => ∃ v, e = .returned v ∧ w'.ownsRow w.heap.size 5 1 v (encF S).length (Lib.byteCells (encF S)) ∧ Below w.heap.size w w' := by
  obtain ⟨i0, hi, hz0, hz1, hz2⟩ := info_parts u8_info
  have hml := mem_len S
  refine (callsIn_wide (n := 3)).1 ?_
  refine callsIn_of_wp_marks Tryd.func26 rfl trivial ?_ rfl
  have HA := Lib.hid (fun w' => all_any S w')
  unfold sV at HA ⊢
  simp only [Tryd.ntmps26, List.size_toArray, List.length_cons, List.length_nil, Nat.reduceAdd, Nat.reduceSub, Array.replicate_succ, Array.replicate_zero, List.push_toArray, List.append_toArray, List.nil_append, List.cons_append]
  have HS0 : Hid (Blk (w.alloc (.cells (sL S).toArray 28)) w.heap.size 28 (tabL 8 (sC S))) := Lib.hid (by rw [← sL_tab]; exact blk_new w _ _)
  unfold sL at HS0
  gi_wp2_with (gi_at_make; refine wpListIn_make_own _ rfl _ _ 50 rfl w.heap.size 5 i0 (.int .u8 0) 1 Tryd.underlying50 hi hz0 hz1 .i64 .i64 64 64 rfl rfl rfl (by rw [hz2]; decide) (by decide) (by simp) ?_; intro W2 hown hgr; have HS2 := Lib.hid (HS0.out.keep (below_of_grown hgr)); have HO := Lib.hid (And.intro hown hgr); obtain ⟨c0, c1, c2, c3, c4, c5, c6, c7⟩ := HS2.out.eightA; clear hown hgr)
  refine ⟨trivial, (callsIn_wide.2 (HA.out _)).mono ?_⟩
  rintro e W3 ⟨rfl, hW3⟩
  gi_wp2_with fail
  rw [← hW3]
  have h4 : 4 ≤ w.heap.size := hT.1
  have hW2s : w.heap.size + 1 ≤ W2.heap.size := by have := HO.out.2.size; simpa using this
  have hB2 : Below w.heap.size w W2 := ((Below.refl _ w).alloc (Nat.le_refl _) _).trans ((below_of_grown HO.out.2).mono (by simp))
  have bO : Boxed W3 W2.heap.size 50 (.slice (some ⟨w.heap.size + 1, 0, none⟩) 0 64) := by rw [hW3]; exact (Boxed.new W2 _ _).alloc _
  have hSB : Blk W3 (W2.heap.size + 1) 28 (tabL 8 (sC S)) := by rw [hW3, ← sL_tab]; have := blk_new (W2.alloc (.cells #[Value.slice (some ⟨w.heap.size + 1, 0, none⟩) 0 64] 50)) (sL S) 28; rwa [World.size_alloc] at this
  have hO3 : W3.ownsRow w.heap.size 5 1 (.slice (some ⟨w.heap.size + 1, 0, none⟩) 0 64) 0 [] := by
    have := HO.out.1
    simp only [World.size_alloc] at this
    rw [hW3]; exact (this.alloc _).alloc _
  have hB3 : Below w.heap.size w W3 := by rw [hW3]; exact (hB2.alloc (by omega) _).alloc (by simp; omega) _
  have h3s : W3.heap.size = W2.heap.size + 2 := by rw [hW3]; simp
  have hT3 := hT.keep hB3
  clear hW3 HO HS0 HS2 c0 c1 c2 c3 c4 c5 c6 c7 HA
  refine wpIn_rangeFunc_ownG rfl (by decide) (gf := 42) (lb := #[.pointer (some ⟨W2.heap.size + 1, 0, none⟩)]) rfl trivial (enters_of Tryd.func42 (by kernel_rfl) rfl)
    (all_stops5 2 (by decide) (W2.heap.size + 1) w.heap.size S hS h4 W3 hSB hT3) keep1_t (keep1_b (by omega) (by omega)) (Below.refl _ _) (fun _ => rfl)
    (fun (pre : List (Fin 512)) W => (∃ v, Boxed W W2.heap.size 50 v ∧ W.ownsRow w.heap.size 5 1 v (encP (pre.map Fin.val)).length (Lib.byteCells (encP (pre.map Fin.val))) ∧ True) ∧ (Blk W (W2.heap.size + 1) 28 (tabL 8 (sC S)) ∧ Below w.heap.size w W))
    (fun _ _ _ => False)
    (OwnFrom.and (Own.from (holdsRow_own w.heap.size W2.heap.size 50 5 1 (fun pre : List (Fin 512) => (encP (pre.map Fin.val)).length) (fun pre : List (Fin 512) => Lib.byteCells (encP (pre.map Fin.val))) (fun _ _ => True)) _) (OwnFrom.and (Own.from (blk_own _ _ _) _) (ownFrom_below (Nat.le_refl _) (by omega))))
    (fun _ _ _ _ _ hs _ _ => hs)
    ⟨⟨_, bO, hO3, trivial⟩, hSB, hB3⟩
    (fun x => { tmps := #[.agg #[.int .u64 (wd S 0), .int .u64 (wd S 1), .int .u64 (wd S 2), .int .u64 (wd S 3), .int .u64 (wd S 4), .int .u64 (wd S 5), .int .u64 (wd S 6), .int .u64 (wd S 7)], .pointer (some ⟨w.heap.size, 0, none⟩), .slice none 0 0, .pointer (some ⟨W2.heap.size, 0, none⟩), .int .i64 (x.1 : Int), .slice (some ⟨w.heap.size + 1, 0, none⟩) 0 64, .agg #[.int .u64 (wd S 0), .int .u64 (wd S 1), .int .u64 (wd S 2), .int .u64 (wd S 3), .int .u64 (wd S 4), .int .u64 (wd S 5), .int .u64 (wd S 6), .int .u64 (wd S 7)], .func (.func 42) #[] #[.pointer (some ⟨W2.heap.size + 1, 0, none⟩)], .int .i64 (x.1 : Int), undef, undef, undef, undef, undef, undef, undef, undef, undef, undef, undef, undef, undef, undef, undef, undef, undef, undef, undef], defers := [] }) ?assign ?body ?done ?stop
  case assign =>
    intro l x W K hK
    gi_wp2
    exact hK
  case body =>
    rintro l pre x W ⟨⟨v, hv, hrow, _⟩, hSW, hB⟩ hlt
    have hbs := hB.size
    have hl1 := encP_len pre
    have hnew : encP ((pre ++ [x]).map Fin.val) = encGo (encP (pre.map Fin.val)) x.1 := by rw [List.map_append, List.map_cons, List.map_nil, encP_snoc]
    have hx5 := x.2
    generalize encP (pre.map Fin.val) = T at *
    obtain ⟨y, hy⟩ : ∃ y : Int, ((x.1 : Nat) : Int) = y := ⟨_, rfl⟩
    obtain ⟨q, hq⟩ : ∃ q : Nat, x.1 / 8 = q := ⟨_, rfl⟩
    obtain ⟨j, hj⟩ : ∃ j : Nat, x.1 % 8 = j := ⟨_, rfl⟩
    have e1 : IntKind.i64.wrap (y.tdiv 8) = (q : Int) := by rw [IntWalk.i64_quo _ _ (by omega)]; omega
    have e2 : y.tmod 8 = (j : Int) := by rw [IntWalk.rem_in _ _ (by omega)]; omega
    have hq6 : q < 64 := by omega
    have hj8 : j < 8 := by omega
    have HN : Hid (encP ((pre ++ [x]).map Fin.val) = (padB T (q + 1)).set q (orB ((padB T (q + 1)).getD q 0) j)) := Lib.hid (by rw [hnew, encGo, hq, hj])
    have H0 := Lib.hid (And.intro hv (And.intro hrow (And.intro hSW hB)))
    rw [hy]
    clear hnew hy hq hj hv hrow hSW hB hx5
    gi_wp2_with fail
    gi_loopw [16] (fun _ wr => ∃ (v : Value) (k : Nat), Boxed wr W2.heap.size 50 v ∧ wr.ownsRow w.heap.size 5 1 v (T.length + k) (Lib.byteCells (T ++ List.replicate k 0)) ∧ Blk wr (W2.heap.size + 1) 28 (tabL 8 (sC S)) ∧ KeepsOthers W wr ∧ Below w.heap.size W wr ∧ (k = 0 ∨ T.length + k ≤ q + 1)) (fun _ wr => 65 - lenAt W2.heap.size wr)
    case atStart => exact ⟨v, 0, H0.out.1, by simpa using H0.out.2.1, H0.out.2.2.1, KeepsOthers.refl _, Below.refl _ _, .inl rfl⟩
    case round =>
      obtain ⟨v1, k, hv, hrow, hSW, hko, hb, hk⟩ := hrel
      obtain ⟨A1, cap1, rfl⟩ := own_slice hrow
      have hc := hv.cell
      have hwb := hb.size
      by_cases hle : T.length + k ≤ q
      · have hle' : ((T.length + k : Nat) : Int) ≤ (q : Int) := by omega
        have hlen0 := lenAt_of hc
        have H1 := Lib.hid (And.intro hv (And.intro hrow (And.intro hSW (And.intro hko hb))))
        clear hv hrow hSW hko hb
        gi_wp2_with (gi_at_builtin; refine wpListIn_append_own _ rfl _ _ 50 rfl w.heap.size 5 i0 (.int .u8 0) 1 1 Tryd.underlying50 hi hz0 hz1 hz2 rfl (by decide) _ _ _ rfl (H1.out.2.1.alloc _) ⟨wr.heap.size, 0, none⟩ 1 1 [.int .u8 0] rfl rfl (cell_one_new _ _ _) (by simp [Value.oneCell']) (by unfold maxLen; omega) (by omega) (by simp; omega) ?_; intro v' w1 hown' hgrow _; obtain ⟨g', cap', rfl⟩ := ownsRow_succ hown'; obtain ⟨hv1, hv2, hr2, hk2, hb2, hs2⟩ := appendedK H1.out.1 H1.out.2.2.1 (by decide) (by decide) (by omega) H1.out.2.1 (by omega) (by omega) hown' hgrow; have hc1 := hv1.cell; have hf1 := hv1.frozen; have H2 := Lib.hid (And.intro hv2 (And.intro hr2 (And.intro hk2 (And.intro hb2 hs2)))); clear hv1 hv2 hr2 hk2 hb2 hs2 hown' hgrow)
        obtain ⟨hv2, hr2, hk2, hb2, hs2⟩ := H2.out
        have hlen1 := lenAt_of hv2.cell
        clear e1 e2 hc hc1 hf1
        generalize w1.setCell ⟨W2.heap.size, 0, none⟩ (.slice (some ⟨g', 0, none⟩) (T.length + k + 1) cap') = w5 at *
        go_roundw
        case rel => exact ⟨_, k + 1, hv2, by rw [List.replicate_succ', ← List.append_assoc, bc_append, ← Nat.add_assoc]; exact hr2, hs2, H1.out.2.2.2.1.trans hk2, H1.out.2.2.2.2.trans hb2.1, .inr (by omega)⟩
        case measure => rw [hlen0, hlen1]; omega
      · have hgt : (q : Int) < ((T.length + k : Nat) : Int) := by omega
        have hpad : padB T (q + 1) = T ++ List.replicate k 0 := by
          unfold padB
          rcases hk with rfl | hk
          · rw [show q + 1 - T.length = 0 by omega]
          · rw [show q + 1 - T.length = k by omega]
        rw [hpad] at HN
        clear hpad
        generalize hR : T ++ List.replicate k 0 = R at *
        have hRl : R.length = T.length + k := by rw [← hR]; simp
        obtain ⟨n, hn⟩ : ∃ n, T.length + k = n := ⟨_, rfl⟩
        rw [hn] at hrow hc hgt hRl hv
        obtain ⟨n', hn'⟩ : ∃ n', n = n' + 1 := ⟨n - 1, by omega⟩
        subst hn'
        obtain ⟨g, capg, hge⟩ := ownsRow_succ hrow
        injection hge with hA hlen_ hcap_
        subst hA
        obtain ⟨b, hb0⟩ : ∃ b, R[q]? = some b := ⟨_, List.getElem?_eq_getElem (by omega)⟩
        have hgD : R.getD q 0 = b := by rw [List.getD_eq_getElem?_getD, hb0]; rfl
        rw [hgD] at HN
        have c5 : wr.cell? ⟨g, q, none⟩ = some (.int .u8 (b.toNat : Int)) := by
          rw [hrow.cellAt q (by omega)]
          simp [Lib.byteCells, hb0]
        have hfr := hrow.frozenAt q
        have hgl := (hrow.lt g rfl).2
        have hgb := (hrow.lt g rfl).1
        have HST := Lib.hid (fun u' => (hrow.stored q u').1)
        have hne : W2.heap.size ≠ g := fun e => (hv.not_row (by decide) hrow) (by rw [e]; rfl)
        have hne2 : W2.heap.size + 1 ≠ g := fun e => (hSW.not_row (by decide) hrow) (by rw [e]; rfl)
        have e3 : IntKind.u8.wrap (2 ^ j) = ((2 ^ j : Nat) : Int) := by
          have := Nat.pow_lt_pow_right (a := 2) (by decide) hj8
          rw [pow_cast]
          generalize 2 ^ j = z at *
          rw [IntWalk.u8_in _ (by omega)]
        have HOR : Hid (bits .or .u8 (b.toNat : Int) (2 ^ j) = ((orB b j).toNat : Int)) := Lib.hid (by
          rw [orB_nat b hj8, pow_cast]
          exact u8_or_nat _ _ b.toNat_lt (by have := Nat.pow_lt_pow_right (a := 2) (by decide) hj8; simpa using this))
        have H1 := Lib.hid (And.intro hv (And.intro hSW (And.intro hko hb)))
        have HR2 := Lib.hid (And.intro hRl hb0)
        have hq0 : (0 : Int) ≤ (q : Int) := by omega
        clear hv hrow hSW hko hb hR hRl hb0 hgD hle hk hn hlen_ hcap_
        gi_wp2_with fail
        refine Lx.regionIn (C := fun _ => True) (hs := []) (by kernel_rfl) (by kernel_rfl) (by kernel_rfl) trivial ?_
        repeat' (first
          | (refine Lx.lex_no (Lx.n1 rfl rfl rfl (by with_reducible rfl)) (fun K hK => ?_); go_simp; refine hK _ ?_; clear hK K)
          | (refine Lx.lex_no (Lx.n0 rfl rfl rfl (by with_reducible rfl)) (fun K hK => ?_); go_simp; refine hK _ ?_; clear hK K)
          | (refine Lx.lex_no (Lx.n2 rfl rfl rfl) (fun K hK => ?_); go_simp; refine hK _ ?_; clear hK K)
          | (refine Lx.lex_pure (v := ?_) rfl (by first | exact Lx.w0 rfl | exact Lx.w1 rfl rfl rfl (by with_reducible rfl)) ?_ (fun K hK => ?_); rotate_left 1; (intro w' hCw; (try dsimp only at hCw); go_simp; done); go_simp; refine hK _ ?_; clear hK K)
          | (refine Lx.lex_pure (v := ?_) rfl (by first | exact Lx.w0 rfl | exact Lx.w1 rfl rfl rfl (by with_reducible rfl)) ?_ (fun K hK => ?_); rotate_left 1; (intro w' hCw; (try dsimp only at hCw); go_simp; with_reducible rfl); go_simp; refine hK _ ?_; clear hK K)
          | (refine Lx.lex_read (v := ?_) rfl (by first | exact Lx.w0 rfl | exact Lx.w1 rfl rfl rfl (by with_reducible rfl)) ?_ (fun K hK => ?_); rotate_left 1; (go_simp; done); go_simp; refine hK _ ?_; clear hK K)
          | (refine Lx.lex_read (v := ?_) rfl (by first | exact Lx.w0 rfl | exact Lx.w1 rfl rfl rfl (by with_reducible rfl)) ?_ (fun K hK => ?_); rotate_left 1; (go_simp; with_reducible rfl); go_simp; refine hK _ ?_; clear hK K)
          | (refine Lx.lex_eff rfl (by first | exact Lx.w0 rfl | exact Lx.w1 rfl rfl rfl (by with_reducible rfl)) (fun K hK => ?_); go_simp; (first | fail | skip); refine hK _ _ (trivial) ?_; clear hK K)
          | (refine Lx.lex_cases rfl rfl rfl (fun hgd K hK => ?_) (fun hgd K hK => ?_) <;> (try simp only [decide_eq_true_eq, decide_eq_false_iff_not] at hgd) <;> (first | (exfalso; omega) | (go_simp; refine hK _ ?_; clear hK K))))
        all_goals (refine Lx.lex_nil ?_)
        rw [HOR.out]
        gi_wp2_with fail
        obtain ⟨hv, hSW, hko, hb⟩ := H1.out
        have hv2 : Boxed (wr.setCell ⟨g, q, none⟩ (.int .u8 ((orB b j).toNat : Int))).drew W2.heap.size 50 (.slice (some ⟨g, 0, none⟩) (n' + 1) cap1) := (Below.heap_setCell _ _ _ _ hne).trans hv
        have hs2 : Blk (wr.setCell ⟨g, q, none⟩ (.int .u8 ((orB b j).toNat : Int))).drew (W2.heap.size + 1) 28 (tabL 8 (sC S)) := (Below.heap_setCell _ _ _ _ hne2).trans hSW
        have hb2 : Below w.heap.size W (wr.setCell ⟨g, q, none⟩ (.int .u8 ((orB b j).toNat : Int))).drew := (hb.setCell (p := ⟨g, q, none⟩) hgb _).drew
        have hr2 : (wr.setCell ⟨g, q, none⟩ (.int .u8 ((orB b j).toNat : Int))).drew.ownsRow w.heap.size 5 1 (.slice (some ⟨g, 0, none⟩) (n' + 1) cap1) (n' + 1) ((Lib.byteCells R).set q (.int .u8 ((orB b j).toNat : Int))) := HST.out _
        refine ⟨((hko.trans (KeepsOthers.setCell wr ⟨g, q, none⟩ _)).trans (KeepsOthers.drew _)).from _, ⟨hb2, (show _ = _ from hs2).trans (show _ = _ from H0.out.2.2.1).symm⟩, ⟨_, hv2, ?_, trivial⟩, hs2, H0.out.2.2.2.trans hb2⟩
        rw [HN.out, List.length_set, HR2.out.1]
        have : Lib.byteCells (R.set q (orB b j)) = (Lib.byteCells R).set q (.int .u8 ((orB b j).toNat : Int)) := by unfold Lib.byteCells; rw [List.map_set]
        rw [this]
        exact hr2
  case done =>
    rintro D ys W hD hys ⟨⟨v, hv, hrow, _⟩, hSW, hB⟩ hK
    have hc := hv.cell
    have hys' : ys.map Fin.val = mem S := hys
    rw [hys'] at hrow
    gi_wp2
    refine ⟨by simp, .inl ⟨_, _, rfl, run_takeDeferred hK, ?_⟩⟩
    exact ⟨_, results_tmp rfl _ _ _, v, rfl, ownsRow_putObj hrow _ hK rfl, hB.trans (belowK_b (w := w) (Nat.le_refl _) W D _ _ (by omega) hK rfl rfl)⟩
  case stop =>
    rintro D c pre W _ _ h _
    exact h.elim
end Go.Proofs.YtencbmgjdiillaaDoor
