/- What the stores compute depends on what the domains say alone; the examples. -/
import Derived.Test.YtdpbbhbegehcjaaGreatDoorPla18
import Derived.Test.YtdpbbhbegehcjaaGreatDoorPla19
set_option maxRecDepth 100000
set_option maxHeartbeats 4000000
namespace Go.Proofs.YtdpbbhbegehcjaaGreatDoor
open Go.RowKit Go.Shelf
theorem rf_any {x : StS} (h : StOk x) (φ : Nat → Bool) : (x.re.any fun e => φ e.S) = x.Q.any fun o => φ (stS o.1) := by
 have h1 := h.res
 unfold StS.Q
 rw [List.any_map]
 generalize x.re = L at *
 clear h
 induction L with
 | nil => rfl
 | cons y r ih => rw [List.any_cons, List.any_cons, ih (fun e he => h1 e (by simp [he])), (h1 y (by simp)).1]; rfl
theorem rf_filter {x : StS} (h : StOk x) (φ : Nat → Bool) : ((x.re.filter fun e => !φ e.S).map fun e => e.v.say) = x.Q.filter fun o => !φ (stS o.1) := by
 have h1 := h.res
 unfold StS.Q
 generalize x.re = L at *
 clear h
 induction L with
 | nil => rfl
 | cons y r ih =>
  have h2 : (φ y.S) = φ (stS y.v.say.1) := by rw [(h1 y (by simp)).1]; rfl
  have h3 := ih (fun e he => h1 e (by simp [he]))
  rw [List.map_cons, List.filter_cons, List.filter_cons, h2]
  split
  ·rw [List.map_cons, h3]
  ·exact h3
theorem added_keepR {g : Nat} {cs : List Value} {K : List REn} {S : Nat} {x : Prf} {w X : World} {e : Ending} (h : AddedR g cs K S x w e X) (k : Nat) (hk : k < w.heap.size) (hne : k ≠ g) : X.heap[k]? = w.heap[k]? := by
 rcases h with ⟨_, _, hb⟩ | ⟨_, _, hg, _⟩
 ·exact hb.block k hk
 ·exact hg.block k hk (fun e => hne (by cases e; rfl))
theorem rf_done {B : Nat} {p : Nat → Prop} {g : Nat} {x : StS} {w W X : World} {φ : Nat → Bool} {S : Nat} {y : Prf} {q : Prv} {e : Ending} (hS : StAt W B p g x) (hO : StOk x) (hb : Below w.heap.size w W) (hnew : ∀ k, w.heap.size ≤ k → p k) (hq : y.say = q) (hSl : S = stS q.1) (hv : stOk q.1 = true)
  (hl : y.At W p) (h : AddedR g x.cells (x.re.filter fun z => !φ z.S) S y W e X) :
  StPost B p g x x.P (if 1000 ≤ (x.Q.filter fun o => !φ (stS o.1)).length then (x.Q, (7 : Int)) else ((x.Q.filter fun o => !φ (stS o.1)) ++ [q], 0)).1 (if 1000 ≤ (x.Q.filter fun o => !φ (stS o.1)).length then (x.Q, (7 : Int)) else ((x.Q.filter fun o => !φ (stS o.1)) ++ [q], 0)).2 w e X := by
 have hf := rf_filter hO φ
 have hlen : (x.Q.filter fun o => !φ (stS o.1)).length = (x.re.filter fun z => !φ z.S).length := by rw [← hf, List.length_map]
 rw [hlen]
 have hmem : ∀ z ∈ x.re.filter fun z => !φ z.S, z ∈ x.re := fun z hz => (List.mem_filter.1 hz).1
 generalize (x.re.filter fun z => !φ z.S) = K at *
 rcases h with ⟨h1, rfl, h3⟩ | ⟨h1, rfl, hg, A', c', hblk, hown⟩
 ·rw [if_pos h1]
  exact ⟨x, rfl, hS.keep h3, hO, rfl, rfl, rfl, rfl, grown_below hb (grown_any_of h3 _)⟩
 ·rw [if_neg (by omega)]
  have hk := kind_same hS.no hg
  obtain ⟨A2, c2, e2, hr⟩ := rowX_own hown (p := p) (by decide) (fun k hk => hnew k (Nat.le_trans hb.size hk))
  injection e2 with e2 _ e3
  subst e2 e3
  have hs : y.sts = q.1 := by rw [← hq]; rfl
  refine ⟨{ x with ra := A', rn := K.length + 1, rc := c', re := K ++ [⟨S, y⟩] }, rfl, ⟨hblk, hS.grown_prb hg, hS.low, hS.no, hS.pes.turn hk, ⟨hr, fun z hz => ?_⟩⟩, ⟨hO.val, hO.has, hO.pes, fun z hz => ?_, hO.pl, by simp; omega⟩, rfl, rfl, rfl, ?_, grown_below hb hg⟩
  ·rcases List.mem_append.1 hz with hz | hz
   ·exact (hS.res.2 z (hmem z hz)).turn hk
   ·rw [List.mem_singleton] at hz; subst hz; exact hl.turn hk
  ·rcases List.mem_append.1 hz with hz | hz
   ·exact hO.res z (hmem z hz)
   ·rw [List.mem_singleton] at hz; subst hz; exact ⟨by rw [hSl, hs], by rw [hs]; exact hv⟩
  ·show (K ++ [_]).map _ = _
   rw [List.map_append, hf, ← hq]; rfl
theorem fndR_form (φ : Nat → Bool) (L : List REn) : ∃ A n c B m d, fndVR φ L = .agg #[.slice A n c, .slice B m d] := by
 unfold fndVR
 split
 ·exact ⟨_, _, _, _, _, _, rfl⟩
 ·exact ⟨_, _, _, _, _, _, rfl⟩
theorem stOk_len {L : List Int} (h : stOk L = true) : L.length ≤ 512 := by
 have hin := stOk_in h
 unfold stOk at h
 rw [Bool.and_eq_true, incF_pair cmpF (fun x => [x]) cmpF_less] at h
 have hp : L.Pairwise (fun x y => x < y) := h.2.imp (fun {a b} hab => by
  unfold lessL at hab
  by_cases hne : a = b
  ·subst hne; simp [lessL] at hab
  ·rw [if_pos hne] at hab; exact of_decide_eq_true hab)
 have key : ∀ (L : List Int) (n : Nat), L.Pairwise (fun x y => x < y) → (∀ y ∈ L, (n : Int) ≤ y ∧ y < 512) → L.length + n ≤ 512 ∨ L = [] := by
  intro L
  induction L with
  | nil => intro n _ _; exact .inr rfl
  | cons a r ih =>
   intro n hp hr
   obtain ⟨h1, h2⟩ := List.pairwise_cons.1 hp
   have ha := hr a (by simp)
   rcases ih (n + 1) h2 (fun y hy => by have := h1 y hy; have := hr y (by simp [hy]); omega) with h3 | h3
   ·left; rw [List.length_cons]; omega
   ·subst h3; left; simp; omega
 rcases key L 0 hp (fun y hy => by have := hin y hy; omega) with h1 | h1
 ·omega
 ·subst h1; simp
theorem refute_any (B : Nat) (p : Nat → Prop) (g : Nat) (x : StS) (y : Prf) (w : World) (hS : StAt w B p g x) (hO : StOk x) (hnew : ∀ k, w.heap.size ≤ k → p k) (hy : y.At w (fun _ => True)) :
  Calls Tryz.prog 14 #[.pointer (some ⟨g, 0, none⟩), y.val] w (StPost B p g x x.P (rfF x.ds x.Q y.say).1 (rfF x.ds x.Q y.say).2 w) := by
 have HST := Lib.hid hS
 have HOK := Lib.hid hO
 have HNW := Lib.hid hnew
 have HMI := Lib.hid (fun W (hb : Below w.heap.size w W) => missing_any g x.cells W (hS.blk.keep hb) rfl)
 have HSN := Lib.hid (fun (W : World) (hb : Below w.heap.size w W) => stn_any g x.H x.cells y.sa y.sn y.sc W y.sts (hS.blk.keep hb) (fun j hj => by match j, hj with | 0, _ => rfl | 1, _ => rfl | 2, _ => rfl | 3, _ => rfl | 4, _ => rfl | 5, _ => rfl | 6, _ => rfl | 7, _ => rfl) hy.2.2.2.1 ((hy.keep hb).ints))
 have HRF : Eqn (rfF x.ds x.Q y.say) (if stOk y.sts = true then
  if mi (stS y.sts) x.H = 0 then
   if (x.Q.any fun o => decide (mi (stS o.1) (stS y.sts) = 0)) = true then (x.Q, 0)
   else if 1000 ≤ (x.Q.filter fun o => !decide (mi (stS y.sts) (stS o.1) = 0)).length then (x.Q, 7)
   else ((x.Q.filter fun o => !decide (mi (stS y.sts) (stS o.1) = 0)) ++ [y.say], 0)
  else (x.Q, 9)
 else (x.Q, 2)) := by rw [hO.has]; rfl
 generalize rfF x.ds x.Q y.say = R at *
 obtain ⟨p3, hp3⟩ : ∃ q, q = w.heap.size := ⟨_, rfl⟩
 obtain ⟨V0, hV0⟩ : ∃ V0, V0 = w.alloc (.cells #[.slice y.sa y.sn y.sc, .slice y.la y.ln y.lc] 44) := ⟨_, rfl⟩
 have hP0 : Hp w w V0 [.blk p3 44 [.slice y.sa y.sn y.sc, .slice y.la y.ln y.lc]] [] := by
  have h := (Hp.start w).alloc [.slice y.sa y.sn y.sc, .slice y.la y.ln y.lc] 44
  rw [hV0, hp3]; exact h
 have HP0 := Lib.hid hP0
 have HY := Lib.hid hy
 have z0 := hP0.c 0 0 rfl rfl
 have zl := hP0.lt 0 rfl
 unfold Prf.val Prf.v1 Prf.v2
 clear hP0 hS hO hnew hy
 have hstn : stnF x.H y.sts = if stOk y.sts = true then if mi (stS y.sts) x.H = 0 then (stS y.sts, 0) else (0, 9) else (0, 2) := rfl
 have HSR := Eqn.mk hstn
 clear hstn
 generalize hr : stnF x.H y.sts = r at *
 clear hr
 go_enter Tryz.func14, Tryz.ntmps14
 go_upto_region 1 with fail
 rw [← hV0, ← hp3]
 clear hV0 hp3
 go_wp2_with fail
 refine (HMI.out _ HP0.out.below).mono ?_
 rintro e W1 ⟨rfl, rfl⟩
 have HS1 := Lib.hid (HSN.out V0 HP0.out.below)
 unfold sV at HS1
 clear HSN
 go_wp2_with fail
 refine HS1.out.mono ?_
 rintro e W3 ⟨rfl, hb3⟩
 obtain ⟨p5, hp5⟩ : ∃ q, q = W3.heap.size := ⟨_, rfl⟩
 obtain ⟨S, hSr⟩ : ∃ S, S = r.1 := ⟨_, rfl⟩
 obtain ⟨c0, hcr⟩ : ∃ c0, c0 = r.2 := ⟨_, rfl⟩
 rw [← hSr, ← hcr]
 have HSR2 : Hid ((S, c0) = if stOk y.sts = true then if mi (stS y.sts) x.H = 0 then (stS y.sts, 0) else (0, 9) else (0, 2)) := Lib.hid (by rw [hSr, hcr]; exact HSR.out)
 obtain ⟨V4, hV4⟩ : ∃ V, V = W3.alloc (.cells (sL S).toArray 100) := ⟨_, rfl⟩
 have hP4 := (HP0.out.keep hb3).allocS S 100
 rw [← hV4, ← hp5] at hP4
 have HP4 := Lib.hid hP4
 unfold sL at hV4
 clear hb3 hP4 HP0 HS1 z0 zl hSr hcr HSR
 go_upto_region 4 with fail
 rw [← hV4, ← hp5]
 clear hV4 hp5
 by_cases hok : stOk y.sts = true ∧ mi (stS y.sts) x.H = 0
 ·have hrr : (S, c0) = (stS y.sts, 0) := by rw [HSR2.out, if_pos hok.1, if_pos hok.2]
  injection hrr with hS0 hc0
  subst hc0
  have HSE := Eqn.mk hS0
  have HRF2 := Lib.hid (HRF.out.trans (by rw [if_pos hok.1, if_pos hok.2]))
  rw [← hS0] at HRF2
  have HSO := Lib.hid hok.1
  have HFT : Hid (Fit S) := Lib.hid (by rw [hS0]; exact stS_fit (stOk_in hok.1))
  have hsn : y.sn ≤ 1000 := by
   have h1 := HY.out.1.1
   have h2 := stOk_len hok.1
   omega
  have HSNL := Lib.hid hsn
  clear HRF hok HSR2 hS0 hsn
  have hS8 := HST.out.keep HP4.out.below
  have hrl := HOK.out.rl
  have hrn : x.rn ≤ 100000 := by have := hS8.res.1.1; omega
  have hft : ∀ z ∈ x.re, Fit z.S := fun z hz => by rw [(HOK.out.res z hz).1]; exact stS_fit (stOk_in (HOK.out.res z hz).2)
  have hfd := findR_any 48 #[] #[.pointer (some ⟨p5, 0, none⟩)] (fun T => decide (mi T S = 0)) x.ra x.rn x.rc x.re V4 (hS8.res.1.mono (by decide) (fun _ _ _ => trivial)) hrn (enters_of Tryz.func48 (by kernel_rfl) rfl) (fun z hz W hb => clo_Refute p5 S z.S (hft z hz) W ((HP4.out.blk 1 rfl).keep hb))
  rw [rf_any HOK.out fun T => decide (mi T S = 0)] at hfd
  obtain ⟨fA, fn, fc, fB, fm, fd, hform⟩ := fndR_form (fun T => decide (mi T S = 0)) x.re
  rw [hform] at hfd
  have HFD := Lib.hid hfd
  have k0 : V4.cell? ⟨g, 14, none⟩ = some (.slice x.ra x.rn x.rc) := hS8.blk.cell rfl
  have gl := hS8.blk.lt
  have HFTS := Lib.hid hft
  have HRN := Lib.hid hrn
  clear hS8 hrl hrn hft hfd hform
  cases hany : x.Q.any fun o => decide (mi (stS o.1) S = 0) with
  | true =>
   rw [hany] at HFD
   have HR : Hid (R = (x.Q, 0)) := Lib.hid (HRF2.out.trans (if_pos hany))
   clear hany HRF2
   go_wp2_with fail
   refine HFD.out.mono ?_
   rintro e W9 ⟨rfl, hb9⟩
   have HB9 := Lib.hid ((HP4.out.keep hb9).below)
   clear hb9 k0 gl
   go_upto_region 7 with fail
   have HB10 := Lib.hid (HB9.out.alloc HB9.out.size (.cells #[.slice fA fn fc, .slice fB fm fd] 44))
   go_wp2_with fail
   go_ret
   rw [HR.out]
   exact st_same 0 HST.out HOK.out HB10.out
  | false =>
   rw [hany] at HFD
   have HRF3 := Lib.hid (HRF2.out.trans (if_neg (by rw [hany]; decide)))
   clear hany HRF2
   go_wp2_with fail
   refine HFD.out.mono ?_
   rintro e W9 ⟨rfl, hb9⟩
   have hP9 := HP4.out.keep hb9
   have HP10 := Lib.hid (hP9.alloc0 (.cells #[.slice fA fn fc, .slice fB fm fd] 44))
   obtain ⟨V10, hV10⟩ : ∃ V, V = W9.alloc (.cells #[.slice fA fn fc, .slice fB fm fd] 44) := ⟨_, rfl⟩
   rw [← hV10] at HP10
   clear hb9 hP9 k0 gl HP4 HFD
   go_upto_region 7 with fail
   rw [← hV10]
   clear hV10
   generalize W9.heap.size = p7 at *
   have hP10 := HP10.out
   have gl := (HST.out.keep hP10.below).blk.lt
   obtain ⟨c1_0, c1_1, c1_2, c1_3, c1_4, c1_5, c1_6, c1_7⟩ := (hP10.blk 1 rfl).eight; have f1 := hP10.f 1 rfl; have l1 := hP10.lt 1 rfl
   have x0 := hP10.c 0 0 rfl rfl
   have x1 := hP10.c 0 1 rfl rfl
   have xl := hP10.lt 0 rfl
   have HPD := Lib.hid hP10.drew
   have HCP := Lib.hid (fun (W : World) (hb : Below w.heap.size w W) => copyProof_any y W (HY.out.keep hb) HSNL.out)
   unfold Prf.val Prf.v1 Prf.v2 at HCP
   clear hP10
   go_wp2_with fail
   refine Lx.region (C := fun X => X.cell? ⟨p5, 0, none⟩ = some (.int .u64 (wd S 0)) ∧ X.cell? ⟨p5, 1, none⟩ = some (.int .u64 (wd S 1)) ∧ X.cell? ⟨p5, 2, none⟩ = some (.int .u64 (wd S 2)) ∧ X.cell? ⟨p5, 3, none⟩ = some (.int .u64 (wd S 3)) ∧ X.cell? ⟨p5, 4, none⟩ = some (.int .u64 (wd S 4)) ∧ X.cell? ⟨p5, 5, none⟩ = some (.int .u64 (wd S 5)) ∧ X.cell? ⟨p5, 6, none⟩ = some (.int .u64 (wd S 6)) ∧ X.cell? ⟨p5, 7, none⟩ = some (.int .u64 (wd S 7))) (hs := [3, 6]) (by kernel_rfl) (by kernel_rfl) (HPD.out.blk 1 rfl).eight ?_
   repeat' (first | ((first | refine Lx.ln (fun K hK => ?_) | (first | (refine Lx.lp (v := ?_) ?_ (fun K hK => ?_); rotate_left 1; intro w' hCw; try dsimp only at hCw) | (refine Lx.lr (v := ?_) ?_ (fun K hK => ?_); rotate_left 1)); go_simp; first | done | with_reducible rfl); go_simp; refine hK _ ?_; clear hK K) | (refine Lx.le (fun K hK => ?_); go_simp; (first | (go_at_call 50; refine (HCP.out _ HPD.out.below).mono ?_; rintro e w10 ⟨y', rfl, hsay, hln, hH⟩; have hb10 := hH.below; have HP11 := Lib.hid (HPD.out.keep hb10); have HZ : Hid (w10.cell? ⟨p5, 0, none⟩ = some (.int .u64 (wd S 0)) ∧ w10.cell? ⟨p5, 1, none⟩ = some (.int .u64 (wd S 1)) ∧ w10.cell? ⟨p5, 2, none⟩ = some (.int .u64 (wd S 2)) ∧ w10.cell? ⟨p5, 3, none⟩ = some (.int .u64 (wd S 3)) ∧ w10.cell? ⟨p5, 4, none⟩ = some (.int .u64 (wd S 4)) ∧ w10.cell? ⟨p5, 5, none⟩ = some (.int .u64 (wd S 5)) ∧ w10.cell? ⟨p5, 6, none⟩ = some (.int .u64 (wd S 6)) ∧ w10.cell? ⟨p5, 7, none⟩ = some (.int .u64 (wd S 7))) := Lib.hid (HP11.out.blk 1 rfl).eight; have HYA : Hid (y'.At w10 p) := Lib.hid (prf_at hH (fun k hk => HNW.out k (Nat.le_trans HPD.out.below.size hk)) ⟨by rw [hln.1]; have := HSNL.out; omega, by rw [hln.2.1]; exact HY.out.2.2.2.2, hln.2.2⟩); have HS10 := Lib.hid (HST.out.keep HP11.out.below); have HAD := Lib.hid (addR_any 42 #[sV S] #[] (fun T => decide (mi S T = 0)) g x.cells S y' x.ra x.rn x.rc x.re w10 HS10.out.blk rfl (HS10.out.res.1.mono (by decide) (fun _ _ _ => trivial)) HRN.out (enters_of Tryz.func42 (by kernel_rfl) rfl) (fun z hz W hb => sub_call S HFT.out z.S W)); have HSAY := Lib.hid hsay; clear hsay hln hH hb10; unfold sV at HAD) | (go_at_call 49; refine HAD.out.mono ?_; rintro e w11 hadd; have hpg : p5 ≠ g := (by have := HP11.out.lo 1 rfl; have := HST.out.blk.lt; omega); have HZ2 : Hid (w11.cell? ⟨p5, 0, none⟩ = some (.int .u64 (wd S 0)) ∧ w11.cell? ⟨p5, 1, none⟩ = some (.int .u64 (wd S 1)) ∧ w11.cell? ⟨p5, 2, none⟩ = some (.int .u64 (wd S 2)) ∧ w11.cell? ⟨p5, 3, none⟩ = some (.int .u64 (wd S 3)) ∧ w11.cell? ⟨p5, 4, none⟩ = some (.int .u64 (wd S 4)) ∧ w11.cell? ⟨p5, 5, none⟩ = some (.int .u64 (wd S 5)) ∧ w11.cell? ⟨p5, 6, none⟩ = some (.int .u64 (wd S 6)) ∧ w11.cell? ⟨p5, 7, none⟩ = some (.int .u64 (wd S 7))) := Lib.hid (Blk.eight (t := 100) (S := S) ((added_keepR hadd p5 (HP11.out.lt 1 rfl) hpg).trans (HP11.out.blk 1 rfl))); have hd : StPost B p g x x.P R.1 R.2 w e w11 := (by rw [HRF3.out]; exact rf_done (φ := fun T => decide (mi S T = 0)) HS10.out HOK.out HP11.out.below HNW.out HSAY.out HSE.out HSO.out HYA.out hadd); obtain ⟨x', rfl, hd2⟩ := hd; have HD := Lib.hid hd2; clear hadd hpg hd2) | skip); refine hK _ _ (by first | exact HZ2.out | exact HZ.out) ?_; clear hK K) | (refine Lx.lex_cases rfl rfl rfl (fun hgd K hK => ?_) (fun hgd K hK => ?_) <;> (try simp only [decide_eq_true_eq, decide_eq_false_iff_not] at hgd) <;> (first | (exfalso; omega) | (go_simp; refine hK _ ?_; clear hK K))))
   all_goals (refine Lx.lex_nil ?_)
   go_wp2_with fail
   go_ret
   exact ⟨x', rfl, HD.out⟩
 ·have hrr : c0 ≠ 0 ∧ R = (x.Q, c0) := by
   have h1 := HSR2.out
   have h2 := HRF.out
   by_cases hv : stOk y.sts = true
   ·have hm : ¬ mi (stS y.sts) x.H = 0 := fun h => hok ⟨hv, h⟩
    rw [if_pos hv, if_neg hm] at h1 h2
    injection h1 with _ h1
    rw [h1]; exact ⟨by decide, h2⟩
   ·rw [if_neg hv] at h1 h2
    injection h1 with _ h1
    rw [h1]; exact ⟨by decide, h2⟩
  have hc1 : (c0 != 0) = true := by simpa using hrr.1
  have HR := Lib.hid hrr.2
  clear hrr hok HSR2 HRF
  go_wp2_with fail
  go_ret
  rw [HR.out]
  exact st_same c0 HST.out HOK.out HP4.out.below
def LkPost (r : (Int × Chs × Prv) × Int) (w : World) (e : Ending) (w' : World) : Prop :=
 ∃ (o : Lem) (y : Prf), e = .returned (.tuple #[.agg #[.int .i64 r.1.1, o.val, y.v1, y.v2, .int .i64 0], .int .i64 r.2]) ∧ o.chs = r.1.2.1 ∧ y.say = r.1.2.2 ∧ (o.len ≤ 100000 ∧ y.sn ≤ 100000 ∧ y.ln ≤ 100000 ∧ ∀ m ∈ y.lms, m.len ≤ 100000) ∧ Hp w w w' (.row o.val 91 2 o.len (flat 2 chC o.chs) :: prfEnts y) []
def noLem : Lem := ⟨none, 0, 0, []⟩
def noPrf : Prf := ⟨none, 0, 0, [], none, 0, 0, []⟩
theorem lk_none {w X : World} {k e : Int} (hb : Below w.heap.size w X) : LkPost ((k, [], ([], [])), e) w (.returned (.tuple #[.agg #[.int .i64 k, .slice none 0 0, .slice none 0 0, .slice none 0 0, .int .i64 0], .int .i64 e])) X :=
 ⟨noLem, noPrf, rfl, rfl, rfl, ⟨Nat.zero_le _, Nat.zero_le _, Nat.zero_le _, fun _ h => (by cases h)⟩, ((((Hp.start w).keep hb).nil 91 2).nil 3 1).nil 41 1⟩
theorem find_map {α β : Type} {f : α → β} {p : β → Bool} : ∀ {L : List α}, (L.map f).find? p = (L.find? fun x => p (f x)).map f
 | [] => rfl
 | x :: r => by rw [List.map_cons, List.find?_cons, List.find?_cons]; split <;> simp_all [find_map]
theorem find_congr {α : Type} {p q : α → Bool} : ∀ {L : List α}, (∀ x ∈ L, p x = q x) → L.find? p = L.find? q
 | [], _ => rfl
 | x :: r, h => by
  rw [List.find?_cons, List.find?_cons, h x (by simp)]
  split
  ·rfl
  ·exact find_congr fun y hy => h y (by simp [hy])
theorem pk_find {x : StS} (h : StOk x) (φ : Nat → Bool) : (x.P.find? fun o => φ (stS (ofC o))) = (x.pe.find? fun e => φ e.S).map fun e => e.v.chs := by
 unfold StS.P
 rw [find_map, find_congr (q := fun e => φ e.S) (fun e he => by rw [(h.pes e he).1]; rfl)]
theorem rf_find {x : StS} (h : StOk x) (φ : Nat → Bool) : (x.Q.find? fun o => φ (stS o.1)) = (x.re.find? fun e => φ e.S).map fun e => e.v.say := by
 unfold StS.Q
 rw [find_map, find_congr (q := fun e => φ e.S) (fun e he => by rw [(h.res e he).1]; rfl)]
theorem vl_len {l : Chs} (h : vlGo none l = true) : l.length ≤ 512 := by have := stOk_len (vl_stOk h); unfold ofC at this; rwa [List.length_map] at this
theorem lookup_any (B : Nat) (p : Nat → Prop) (g : Nat) (x : StS) (A : Option Addr) (n c : Nat) (w : World) (L : List Int) (hS : StAt w B p g x) (hO : StOk x) (hn : n ≤ 100000) (hl : Row1 intV w w.heap.size A n L) :
  Calls Tryz.prog 15 #[.pointer (some ⟨g, 0, none⟩), .slice A n c] w (LkPost (lkF x.ds x.P x.Q L) w) := by
 have HST := Lib.hid hS
 have HOK := Lib.hid hO
 have Hl := Lib.hid hl
 have HMI := Lib.hid (fun W (hb : Below w.heap.size w W) => missing_any g x.cells W (hS.blk.keep hb) rfl)
 have HSN := Lib.hid (fun (W : World) (hb : Below w.heap.size w W) => stn_any g x.H x.cells A n c W L (hS.blk.keep hb) (fun j hj => by match j, hj with | 0, _ => rfl | 1, _ => rfl | 2, _ => rfl | 3, _ => rfl | 4, _ => rfl | 5, _ => rfl | 6, _ => rfl | 7, _ => rfl) hn (hl.keep hb))
 have HLK : Eqn (lkF x.ds x.P x.Q L) (if stOk L = true then
  if mi (stS L) x.H = 0 then
   match x.P.find? fun o => decide (mi (stS L) (stS (ofC o)) = 0) with
   | some o => ((1, o.filter (fun x => hasS (stS L) x.1), ([], [])), 0)
   | none => match x.Q.find? fun o => decide (mi (stS o.1) (stS L) = 0) with
    | some o => ((2, [], o), 0)
    | none => ((0, [], ([], [])), 0)
  else ((0, [], ([], [])), 9)
 else ((0, [], ([], [])), 2)) := by rw [hO.has]; rfl
 generalize lkF x.ds x.P x.Q L = R at *
 obtain ⟨p4, hp4⟩ : ∃ q, q = w.heap.size := ⟨_, rfl⟩
 obtain ⟨V0, hV0⟩ : ∃ V0, V0 = w.alloc (.cells #[.int .i64 0, .slice none 0 0, .slice none 0 0, .slice none 0 0, .int .i64 0] 51) := ⟨_, rfl⟩
 have hP0 : Hp w w V0 [.blk p4 51 [.int .i64 0, .slice none 0 0, .slice none 0 0, .slice none 0 0, .int .i64 0]] [] := by
  have h := (Hp.start w).alloc [.int .i64 0, .slice none 0 0, .slice none 0 0, .slice none 0 0, .int .i64 0] 51
  rw [hV0, hp4]; exact h
 have HP0 := Lib.hid hP0
 clear hP0 hS hO hl
 have hstn : stnF x.H L = if stOk L = true then if mi (stS L) x.H = 0 then (stS L, 0) else (0, 9) else (0, 2) := rfl
 have HSR := Eqn.mk hstn
 clear hstn
 generalize hr : stnF x.H L = r at *
 clear hr
 go_enter Tryz.func15, Tryz.ntmps15
 go_upto_region 1 with fail
 rw [← hV0, ← hp4]
 clear hV0 hp4
 go_wp2_with fail
 refine (HMI.out _ HP0.out.below).mono ?_
 rintro e W1 ⟨rfl, rfl⟩
 have HS1 := Lib.hid (HSN.out V0 HP0.out.below)
 unfold sV at HS1
 clear HSN
 go_wp2_with fail
 refine HS1.out.mono ?_
 rintro e W3 ⟨rfl, hb3⟩
 obtain ⟨p6, hp6⟩ : ∃ q, q = W3.heap.size := ⟨_, rfl⟩
 obtain ⟨S, hSr⟩ : ∃ S, S = r.1 := ⟨_, rfl⟩
 obtain ⟨c0, hcr⟩ : ∃ c0, c0 = r.2 := ⟨_, rfl⟩
 rw [← hSr, ← hcr]
 have HSR2 : Hid ((S, c0) = if stOk L = true then if mi (stS L) x.H = 0 then (stS L, 0) else (0, 9) else (0, 2)) := Lib.hid (by rw [hSr, hcr]; exact HSR.out)
 obtain ⟨V4, hV4⟩ : ∃ V, V = W3.alloc (.cells (sL S).toArray 100) := ⟨_, rfl⟩
 have hP4 := (HP0.out.keep hb3).allocS S 100
 rw [← hV4, ← hp6] at hP4
 have HP4 := Lib.hid hP4
 unfold sL at hV4
 clear hb3 hP4 HP0 HS1 hSr hcr HSR
 go_upto_region 4 with fail
 rw [← hV4, ← hp6]
 clear hV4 hp6
 by_cases hok : stOk L = true ∧ mi (stS L) x.H = 0
 ·have hrr : (S, c0) = (stS L, 0) := by rw [HSR2.out, if_pos hok.1, if_pos hok.2]
  injection hrr with hS0 hc0
  subst hc0
  have HSE := Eqn.mk hS0
  have HLK2 := Lib.hid (HLK.out.trans (by rw [if_pos hok.1, if_pos hok.2]))
  rw [← hS0] at HLK2
  have HSO := Lib.hid hok.1
  have HFT : Hid (Fit S) := Lib.hid (by rw [hS0]; exact stS_fit (stOk_in hok.1))
  clear HLK hok HSR2 hS0
  have hS8 := HST.out.keep HP4.out.below
  have hpl := HOK.out.pl
  have hpn : x.pn ≤ 100000 := by have := hS8.pes.1.1; omega
  have hfd := fun (W : World) (hb : Below w.heap.size w W) => findP_any 42 #[sV S] #[] (fun T => decide (mi S T = 0)) x.pa x.pn x.pc x.pe W ((HST.out.keep hb).pes.1.mono (by decide) (fun _ _ _ => trivial)) hpn (enters_of Tryz.func42 (by kernel_rfl) rfl) (fun y hy W' hb' => sub_call S HFT.out y.S W')
  have HFD := Lib.hid hfd
  have k0 : V4.cell? ⟨g, 13, none⟩ = some (.slice x.pa x.pn x.pc) := hS8.blk.cell rfl
  have gl := hS8.blk.lt
  have hP4 := HP4.out
  obtain ⟨c1_0, c1_1, c1_2, c1_3, c1_4, c1_5, c1_6, c1_7⟩ := (hP4.blk 1 rfl).eight; have f1 := hP4.f 1 rfl; have l1 := hP4.lt 1 rfl
  have HPN := Lib.hid hpn
  have HPD := Lib.hid hP4.drew
  clear hS8 hpl hpn hfd hP4
  unfold sV at HFD
  go_wp2_with fail
  refine Lx.region (C := fun _ => True) (hs := []) (by kernel_rfl) (by kernel_rfl) trivial ?_
  have HPF := Lib.hid (pk_find HOK.out fun T => decide (mi S T = 0))
  cases hf : x.pe.find? fun y => decide (mi S y.S = 0) with
  | some y =>
   have hfv : fndVP (fun T => decide (mi S T = 0)) x.pe = .slice y.v.adr y.v.len y.v.cap := by unfold fndVP; rw [hf]; rfl
   have hany : (x.pe.any fun y => decide (mi S y.S = 0)) = true := by rw [List.any_eq_true]; exact ⟨y, List.mem_of_find?_eq_some hf, by have := List.find?_some hf; exact this⟩
   rw [hfv, hany] at HFD
   have hPF := HPF.out
   rw [hf] at hPF
   have hRv := HLK2.out
   rw [hPF] at hRv
   have hym := List.mem_of_find?_eq_some hf
   have HR : Hid (R = ((1, y.v.chs.filter (fun x => hasS (stS L) x.1), ([], [])), 0)) := Lib.hid (by rw [hRv, HSE.out]; rfl)
   have HON := Lib.hid (fun (W : World) (hb : Below w.heap.size w W) => (by
    have h1 := (HST.out.keep hb).pes.2 y hym
    have h2 := only_any y.v.adr y.v.len y.v.cap A n c W y.v.chs L h1.2 (by omega) h1.rowS (Hl.out.keep hb)
    rw [show onlyF y.v.chs L = (y.v.chs.filter (fun x => hasS (stS L) x.1), 0) by unfold onlyF; rw [if_pos (HOK.out.pes y hym).2, if_pos HSO.out]] at h2
    exact h2 : Calls Tryz.prog 51 #[.slice y.v.adr y.v.len y.v.cap, .slice A n c] W (ChsPost (y.v.chs.filter (fun x => hasS (stS L) x.1), 0) W)))
   have HYL : Hid ((y.v.chs.filter (fun x => hasS (stS L) x.1)).length ≤ 100000) := Lib.hid (by have h1 := List.length_filter_le (fun x : Int × Int => hasS (stS L) x.1) y.v.chs; have h2 := vl_len (HOK.out.pes y hym).2; omega)
   generalize y.v.chs.filter (fun x => hasS (stS L) x.1) = O at *
   clear hfv hany hPF hRv hym hf HPF HLK2
   repeat' (first | ((first | refine Lx.ln (fun K hK => ?_) | (first | (refine Lx.lp (v := ?_) ?_ (fun K hK => ?_); rotate_left 1; intro w' hCw; try dsimp only at hCw) | (refine Lx.lr (v := ?_) ?_ (fun K hK => ?_); rotate_left 1)); go_simp; first | done | with_reducible rfl); go_simp; refine hK _ ?_; clear hK K) | (refine Lx.le (fun K hK => ?_); go_simp; (first | (go_at_call 41; refine (HFD.out _ HPD.out.below).mono ?_; rintro e w9 ⟨rfl, hb9⟩; have HP9 := Lib.hid (HPD.out.keep hb9); clear hb9) | skip); refine hK _ _ (trivial) ?_; clear hK K) | (refine Lx.lex_cases rfl rfl rfl (fun hgd K hK => ?_) (fun hgd K hK => ?_) <;> (try simp only [decide_eq_true_eq, decide_eq_false_iff_not] at hgd) <;> (first | (exfalso; omega) | (go_simp; refine hK _ ?_; clear hK K))))
   all_goals (refine Lx.lex_nil ?_)
   clear k0 gl HPD HP4 HFD c1_0 c1_1 c1_2 c1_3 c1_4 c1_5 c1_6 c1_7 f1 l1
   have HO9 := Lib.hid (HON.out w9 HP9.out.below)
   clear HON
   go_wp2_with fail
   refine HO9.out.mono ?_
   rintro e W10 ⟨v, rfl, hown, hb10⟩
   have hP10 := HP9.out.pushRow hb10 hown
   obtain ⟨vA, vc, rfl⟩ := hP10.form 2 rfl
   have HP10 := Lib.hid hP10
   have q0 := hP10.c 0 0 rfl rfl
   have q1 := hP10.c 0 1 rfl rfl
   have q2 := hP10.c 0 2 rfl rfl
   have q3 := hP10.c 0 3 rfl rfl
   have q4 := hP10.c 0 4 rfl rfl
   have qf := hP10.f 0 rfl
   have ql := hP10.lt 0 rfl
   clear hown hb10 hP10 HO9
   go_wp2_with fail
   have hP11 := ((((HP10.out.set 0 0 (.int .i64 1) rfl).set 0 1 (.slice vA O.length vc) rfl).set 0 2 (.slice none 0 0) rfl).set 0 3 (.slice none 0 0) rfl).set 0 4 (.int .i64 0) rfl
   refine bodyPost_ret (v := .tuple #[.agg #[.int .i64 1, .slice vA O.length vc, .slice none 0 0, .slice none 0 0, .int .i64 0], .int .i64 0]) (by simp [results, Tryz.results15, go_sem, hP11.c 0 0 rfl rfl, hP11.c 0 1 rfl rfl, hP11.c 0 2 rfl rfl, hP11.c 0 3 rfl rfl, hP11.c 0 4 rfl rfl]) rfl ?_
   rw [HR.out]
   exact ⟨⟨vA, O.length, vc, O⟩, noPrf, rfl, rfl, rfl, ⟨HYL.out, Nat.zero_le _, Nat.zero_le _, fun _ h => (by cases h)⟩, ((hP11.nil 3 1).nil 41 1).sub (List.Sublist.cons _ (List.Sublist.cons _ (List.Sublist.refl _)))⟩
  | none =>
   have hfv : fndVP (fun T => decide (mi S T = 0)) x.pe = .slice none 0 0 := by unfold fndVP; rw [hf]
   have hany : (x.pe.any fun y => decide (mi S y.S = 0)) = false := by rw [List.any_eq_false]; intro y hy; have := List.find?_eq_none.1 hf y hy; simpa using this
   rw [hfv, hany] at HFD
   have hPF := HPF.out
   rw [hf] at hPF
   have hRv := HLK2.out
   rw [hPF] at hRv
   have HLK3 : Hid (R = match x.Q.find? fun o => decide (mi (stS o.1) S = 0) with
    | some o => ((2, [], o), 0)
    | none => ((0, [], ([], [])), 0)) := Lib.hid hRv
   clear hfv hany hPF hRv hf HPF HLK2
   repeat' (first | ((first | refine Lx.ln (fun K hK => ?_) | (first | (refine Lx.lp (v := ?_) ?_ (fun K hK => ?_); rotate_left 1; intro w' hCw; try dsimp only at hCw) | (refine Lx.lr (v := ?_) ?_ (fun K hK => ?_); rotate_left 1)); go_simp; first | done | with_reducible rfl); go_simp; refine hK _ ?_; clear hK K) | (refine Lx.le (fun K hK => ?_); go_simp; (first | (go_at_call 41; refine (HFD.out _ HPD.out.below).mono ?_; rintro e w9 ⟨rfl, hb9⟩; have HP9 := Lib.hid (HPD.out.keep hb9); clear hb9) | skip); refine hK _ _ (trivial) ?_; clear hK K) | (refine Lx.lex_cases rfl rfl rfl (fun hgd K hK => ?_) (fun hgd K hK => ?_) <;> (try simp only [decide_eq_true_eq, decide_eq_false_iff_not] at hgd) <;> (first | (exfalso; omega) | (go_simp; refine hK _ ?_; clear hK K))))
   all_goals (refine Lx.lex_nil ?_)
   clear k0 gl HPD HP4 HFD c1_0 c1_1 c1_2 c1_3 c1_4 c1_5 c1_6 c1_7 f1 l1
   have hS9 := HST.out.keep HP9.out.below
   have hrl := HOK.out.rl
   have hrn : x.rn ≤ 100000 := by have := hS9.res.1.1; omega
   have hft : ∀ z ∈ x.re, Fit z.S := fun z hz => by rw [(HOK.out.res z hz).1]; exact stS_fit (stOk_in (HOK.out.res z hz).2)
   have hfr := findR_any 52 #[] #[.pointer (some ⟨p6, 0, none⟩)] (fun T => decide (mi T S = 0)) x.ra x.rn x.rc x.re w9 (hS9.res.1.mono (by decide) (fun _ _ _ => trivial)) hrn (enters_of Tryz.func52 (by kernel_rfl) rfl) (fun z hz W hb => clo_Lookup p6 S z.S (hft z hz) W ((HP9.out.blk 1 rfl).keep hb))
   have HRF := Lib.hid (rf_find HOK.out fun T => decide (mi T S = 0))
   have k0 : w9.cell? ⟨g, 14, none⟩ = some (.slice x.ra x.rn x.rc) := hS9.blk.cell rfl
   have gl := hS9.blk.lt
   cases hf : x.re.find? fun y => decide (mi y.S S = 0) with
   | some y =>
    have hfv : fndVR (fun T => decide (mi T S = 0)) x.re = .agg #[.slice y.v.sa y.v.sn y.v.sc, .slice y.v.la y.v.ln y.v.lc] := by unfold fndVR; rw [hf]; rfl
    have hany : (x.re.any fun y => decide (mi y.S S = 0)) = true := by rw [List.any_eq_true]; exact ⟨y, List.mem_of_find?_eq_some hf, by have := List.find?_some hf; exact this⟩
    rw [hfv, hany] at hfr
    have hRF := HRF.out
    rw [hf] at hRF
    have hRv := HLK3.out
    rw [hRF] at hRv
    have hym := List.mem_of_find?_eq_some hf
    have HR : Hid (R = ((2, [], y.v.say), 0)) := Lib.hid hRv
    have HFR := Lib.hid hfr
    have hysn : y.v.sn ≤ 1000 := by have h1 := (HOK.out.res y hym).2; have h2 := stOk_len h1; have h3 := (HST.out.res.2 y hym).1.1; omega
    have HCP := Lib.hid (fun (W : World) (hb : Below w.heap.size w W) => copyProof_any y.v W ((((HST.out.keep hb).res.2 y hym).mono (fun _ _ _ => trivial))) hysn)
    have HYN : Hid (y.v.sn ≤ 100000 ∧ y.v.ln ≤ 100000) := Lib.hid (HST.out.res.2 y hym).2.2.2
    unfold Prf.val Prf.v1 Prf.v2 at HCP
    clear hfv hany hRF hRv hym hf HRF HLK3 hfr hrl hrn hft hS9 hysn
    go_wp2_with fail
    refine HFR.out.mono ?_
    rintro e W10 ⟨rfl, hb10⟩
    obtain ⟨p12, hp12⟩ : ∃ q, q = W10.heap.size := ⟨_, rfl⟩
    obtain ⟨V11, hV11⟩ : ∃ V, V = W10.alloc (.cells #[.slice y.v.sa y.v.sn y.v.sc, .slice y.v.la y.v.ln y.v.lc] 44) := ⟨_, rfl⟩
    have hP11 := (HP9.out.keep hb10).alloc [.slice y.v.sa y.v.sn y.v.sc, .slice y.v.la y.v.ln y.v.lc] 44
    rw [show ([.slice y.v.sa y.v.sn y.v.sc, .slice y.v.la y.v.ln y.v.lc] : List Value).toArray = #[.slice y.v.sa y.v.sn y.v.sc, .slice y.v.la y.v.ln y.v.lc] from rfl, ← hV11, ← hp12] at hP11
    have HP11 := Lib.hid hP11
    have q0 := hP11.c 2 0 rfl rfl
    have q1 := hP11.c 2 1 rfl rfl
    have ql := hP11.lt 2 rfl
    have HC11 := Lib.hid (HCP.out V11 hP11.below)
    clear hb10 hP11 k0 gl HP9 HFR HCP
    go_upto_region 13 with fail
    rw [← hV11, ← hp12]
    clear hV11 hp12
    go_wp2_with fail
    refine HC11.out.mono ?_
    rintro e W12 ⟨y', rfl, hsay, hln, hH⟩
    have hP12 := HP11.out.join hH.below hH
    have HP12 := Lib.hid hP12
    have HSY := Lib.hid (And.intro hsay hln)
    have q5 := hP12.c 0 0 rfl rfl
    have q6 := hP12.c 0 1 rfl rfl
    have q7 := hP12.c 0 2 rfl rfl
    have q8 := hP12.c 0 3 rfl rfl
    have q9 := hP12.c 0 4 rfl rfl
    have qf := hP12.f 0 rfl
    have qm := hP12.lt 0 rfl
    clear hsay hln hH hP12 HC11 HP11 q0 q1 ql
    unfold Prf.val Prf.v1 Prf.v2
    go_wp2_with fail
    have hP13 := ((((HP12.out.set 0 0 (.int .i64 2) rfl).set 0 1 (.slice none 0 0) rfl).set 0 2 y'.v1 rfl).set 0 3 y'.v2 rfl).set 0 4 (.int .i64 0) rfl
    unfold Prf.v1 Prf.v2 at hP13
    refine bodyPost_ret (v := .tuple #[.agg #[.int .i64 2, .slice none 0 0, .slice y'.sa y'.sn y'.sc, .slice y'.la y'.ln y'.lc, .int .i64 0], .int .i64 0]) (by simp [results, Tryz.results15, go_sem, hP13.c 0 0 rfl rfl, hP13.c 0 1 rfl rfl, hP13.c 0 2 rfl rfl, hP13.c 0 3 rfl rfl, hP13.c 0 4 rfl rfl]) rfl ?_
    rw [HR.out]
    refine ⟨noLem, y', rfl, rfl, HSY.out.1, ⟨Nat.zero_le _, by rw [HSY.out.2.1]; exact HYN.out.1, by rw [HSY.out.2.2.1]; exact HYN.out.2, HSY.out.2.2.2⟩, ?_⟩
    have hP14 := hP13.nil 91 2
    refine (hP14.sub (L' := prfEnts y' ++ [.row (.slice none 0 0) 91 2 0 []]) ?_).perm ?_
    ·exact List.Sublist.cons _ (List.Sublist.cons _ (List.Sublist.cons _ (List.Sublist.refl _)))
    ·exact List.perm_append_singleton _ _
   | none =>
    have hany : (x.re.any fun y => decide (mi y.S S = 0)) = false := by rw [List.any_eq_false]; intro y hy; have := List.find?_eq_none.1 hf y hy; simpa using this
    have hfv : fndVR (fun T => decide (mi T S = 0)) x.re = .agg #[.slice none 0 0, .slice none 0 0] := by unfold fndVR; rw [hf]
    rw [hfv, hany] at hfr
    have hRF := HRF.out
    rw [hf] at hRF
    have hRv := HLK3.out
    rw [hRF] at hRv
    have HR : Hid (R = ((0, [], ([], [])), 0)) := Lib.hid hRv
    have HFR := Lib.hid hfr
    clear hfv hany hRF hRv hf HRF HLK3 hfr hrl hrn hft hS9
    go_wp2_with fail
    refine HFR.out.mono ?_
    rintro e W10 ⟨rfl, hb10⟩
    obtain ⟨V11, hV11⟩ : ∃ V, V = W10.alloc (.cells #[.slice none 0 0, .slice none 0 0] 44) := ⟨_, rfl⟩
    have HP11 := Lib.hid ((HP9.out.keep hb10).alloc0 (.cells #[.slice none 0 0, .slice none 0 0] 44))
    rw [← hV11] at HP11
    clear hb10 k0 gl HP9 HFR
    go_upto_region 13 with fail
    rw [← hV11]
    clear hV11
    have hP12 := HP11.out
    have q5 := hP12.c 0 0 rfl rfl
    have q6 := hP12.c 0 1 rfl rfl
    have q7 := hP12.c 0 2 rfl rfl
    have q8 := hP12.c 0 3 rfl rfl
    have q9 := hP12.c 0 4 rfl rfl
    have qf := hP12.f 0 rfl
    have qm := hP12.lt 0 rfl
    clear hP12
    go_wp2_with fail
    have hP13 := ((((HP11.out.set 0 0 (.int .i64 0) rfl).set 0 1 (.slice none 0 0) rfl).set 0 2 (.slice none 0 0) rfl).set 0 3 (.slice none 0 0) rfl).set 0 4 (.int .i64 0) rfl
    refine bodyPost_ret (v := .tuple #[.agg #[.int .i64 0, .slice none 0 0, .slice none 0 0, .slice none 0 0, .int .i64 0], .int .i64 0]) (by simp [results, Tryz.results15, go_sem, hP13.c 0 0 rfl rfl, hP13.c 0 1 rfl rfl, hP13.c 0 2 rfl rfl, hP13.c 0 3 rfl rfl, hP13.c 0 4 rfl rfl]) rfl ?_
    rw [HR.out]
    exact lk_none hP13.below
 ·have hrr : c0 ≠ 0 ∧ R = ((0, [], ([], [])), c0) := by
   have h1 := HSR2.out
   have h2 := HLK.out
   by_cases hv : stOk L = true
   ·have hm : ¬ mi (stS L) x.H = 0 := fun h => hok ⟨hv, h⟩
    rw [if_pos hv, if_neg hm] at h1 h2
    injection h1 with _ h1
    rw [h1]; exact ⟨by decide, h2⟩
   ·rw [if_neg hv] at h1 h2
    injection h1 with _ h1
    rw [h1]; exact ⟨by decide, h2⟩
  have hc1 : (c0 != 0) = true := by simpa using hrr.1
  have HR := Lib.hid hrr.2
  have hP12 := HP4.out
  have q5 := hP12.c 0 0 rfl rfl
  have q6 := hP12.c 0 1 rfl rfl
  have q7 := hP12.c 0 2 rfl rfl
  have q8 := hP12.c 0 3 rfl rfl
  have q9 := hP12.c 0 4 rfl rfl
  have qf := hP12.f 0 rfl
  have qm := hP12.lt 0 rfl
  clear hrr hok HSR2 HLK hP12
  go_wp2_with fail
  have hP13 := ((((HP4.out.set 0 0 (.int .i64 0) rfl).set 0 1 (.slice none 0 0) rfl).set 0 2 (.slice none 0 0) rfl).set 0 3 (.slice none 0 0) rfl).set 0 4 (.int .i64 0) rfl
  refine bodyPost_ret (v := .tuple #[.agg #[.int .i64 0, .slice none 0 0, .slice none 0 0, .slice none 0 0, .int .i64 0], .int .i64 c0]) (by simp [results, Tryz.results15, go_sem, hP13.c 0 0 rfl rfl, hP13.c 0 1 rfl rfl, hP13.c 0 2 rfl rfl, hP13.c 0 3 rfl rfl, hP13.c 0 4 rfl rfl]) rfl ?_
  rw [HR.out]
  exact lk_none hP13.below
structure Ans where
 k : Int
 o : Lem
 y : Prf
 st : Int
def Ans.val (x : Ans) : Value := .agg #[.int .i64 x.k, .slice x.o.adr x.o.len x.o.cap, .slice x.y.sa x.y.sn x.y.sc, .slice x.y.la x.y.ln x.y.lc, .int .i64 x.st]
def Ans.cells (x : Ans) : List Value := [.int .i64 x.k, .slice x.o.adr x.o.len x.o.cap, .slice x.y.sa x.y.sn x.y.sc, .slice x.y.la x.y.ln x.y.lc, .int .i64 x.st]
def Ans.say (x : Ans) : Int × Chs × Prv := (x.k, x.o.chs, x.y.say)
def Ans.At (x : Ans) (w : World) : Prop := x.o.At w (fun _ => True) ∧ x.y.At w (fun _ => True)
def saF (a b : Ans) : Bool := decide (a.k = b.k) && (decide (a.st = b.st) && (decide (a.o.chs = b.o.chs) && decide (a.y.say = b.y.say)))
theorem saF_iff (a b : Ans) : saF a b = true ↔ a.say = b.say ∧ a.st = b.st := by
 unfold saF Ans.say
 simp only [Bool.and_eq_true, decide_eq_true_eq, Prod.mk.injEq]
 constructor
 ·rintro ⟨h1, h2, h3, h4⟩; exact ⟨⟨h1, h3, h4⟩, h2⟩
 ·rintro ⟨⟨h1, h3, h4⟩, h2⟩; exact ⟨h1, h2, h3, h4⟩
theorem sameAns_any (a b : Ans) (w : World) (ha : a.At w) (hb : b.At w) : Calls Tryz.prog 55 #[a.val, b.val] w (RetPost (.bool (saF a b)) w.heap.size w) := by
 obtain ⟨p, hp⟩ : ∃ p, p = w.heap.size := ⟨_, rfl⟩
 obtain ⟨q, hq⟩ : ∃ p, p = w.heap.size + 1 := ⟨_, rfl⟩
 obtain ⟨V0, hV0⟩ : ∃ V0, V0 = (w.alloc (.cells #[.int .i64 a.k, .slice a.o.adr a.o.len a.o.cap, .slice a.y.sa a.y.sn a.y.sc, .slice a.y.la a.y.ln a.y.lc, .int .i64 a.st] 51)).alloc (.cells #[.int .i64 b.k, .slice b.o.adr b.o.len b.o.cap, .slice b.y.sa b.y.sn b.y.sc, .slice b.y.la b.y.ln b.y.lc, .int .i64 b.st] 51) := ⟨_, rfl⟩
 have hP0 : Hp w w V0 [.blk p 51 a.cells, .blk q 51 b.cells] [] := by
  have h := ((Hp.start w).alloc a.cells 51).alloc b.cells 51
  simp only [World.size_alloc] at h
  rw [hV0, hp, hq]; exact h
 have HSL := Lib.hid (fun (W : World) (h : Below w.heap.size w W) => sameList_any a.o.adr b.o.adr a.o.len a.o.cap b.o.len b.o.cap W W.heap.size a.o.chs b.o.chs (by have := ha.1.2; omega) (ha.1.keep h).rowS (hb.1.keep h).rowS)
 have HPS := Lib.hid (fun (W : World) (h : Below w.heap.size w W) => psame_any a.y b.y W (ha.2.keep h) (hb.2.keep h))
 have HF : Eqn (saF a b) (decide (a.k = b.k) && (decide (a.st = b.st) && (decide (a.o.chs = b.o.chs) && decide (a.y.say = b.y.say)))) := rfl
 have HP0 := Lib.hid hP0
 unfold Ans.cells at hP0
 have z0 := hP0.c 0 0 rfl rfl
 have z1 := hP0.c 0 1 rfl rfl
 have z4 := hP0.c 0 4 rfl rfl
 have zl := hP0.lt 0 rfl
 have y0 := hP0.c 1 0 rfl rfl
 have y1 := hP0.c 1 1 rfl rfl
 have y4 := hP0.c 1 4 rfl rfl
 have yl := hP0.lt 1 rfl
 unfold Ans.val
 unfold Prf.val Prf.v1 Prf.v2 at HPS
 generalize saF a b = ans at *
 clear hP0 ha hb
 by_cases h1 : a.k = b.k
 ·have d1 : (a.k == b.k) = true := by simpa using h1
  by_cases h2 : a.st = b.st
  ·have d2 : (a.st == b.st) = true := by simpa using h2
   have HE : Hid (ans = (decide (a.o.chs = b.o.chs) && decide (a.y.say = b.y.say))) := Lib.hid (by rw [HF, decide_eq_true h1, decide_eq_true h2, Bool.true_and, Bool.true_and])
   generalize decide (a.o.chs = b.o.chs) = r3 at *
   generalize decide (a.y.say = b.y.say) = r4 at *
   clear HF h1 h2
   go_enter Tryz.func55, Tryz.ntmps55
   go_upto_region 1 with fail
   rw [← hV0, ← hq, ← hp]
   clear hV0 hp hq
   go_wp2_with fail
   refine (HSL.out _ HP0.out.below).mono ?_
   rintro e W1 ⟨rfl, hb1⟩
   have hP1 := HP0.out.keep hb1
   have HP1 := Lib.hid hP1
   unfold Ans.cells at hP1
   clear z0 z1 z4 zl y0 y1 y4 yl hb1
   have z2 := hP1.c 0 2 rfl rfl
   have z3 := hP1.c 0 3 rfl rfl
   have zl := hP1.lt 0 rfl
   have y2 := hP1.c 1 2 rfl rfl
   have y3 := hP1.c 1 3 rfl rfl
   have yl := hP1.lt 1 rfl
   have HQ := Lib.hid (HPS.out W1 hP1.below)
   clear hP1 HP0 HSL HPS
   cases r3 with
   | true =>
    go_wp2_with fail
    refine HQ.out.mono ?_
    rintro e W2 ⟨rfl, hb2⟩
    have HB := Lib.hid (HP1.out.keep hb2).below
    clear hb2 z2 z3 zl y2 y3 yl
    go_wp2_with fail
    go_ret
    exact ⟨ret_bool HE.out.symm, HB.out⟩
   | false =>
    have HB := Lib.hid HP1.out.below
    go_wp2_with fail
    go_ret
    exact ⟨ret_bool HE.out.symm, HB.out⟩
  ·have d2 : (a.st == b.st) = false := by simpa using h2
   have HE : Hid (ans = false) := Lib.hid (by rw [HF, decide_eq_false h2, Bool.false_and, Bool.and_false])
   clear HF h1 h2
   go_enter Tryz.func55, Tryz.ntmps55
   go_upto_region 1 with fail
   rw [← hV0, ← hq, ← hp]
   clear hV0 hp hq
   go_wp2_with fail
   go_ret
   exact ⟨ret_bool HE.out.symm, HP0.out.below⟩
 ·have d1 : (a.k == b.k) = false := by simpa using h1
  have HE : Hid (ans = false) := Lib.hid (by rw [HF, decide_eq_false h1, Bool.false_and])
  clear HF h1
  go_enter Tryz.func55, Tryz.ntmps55
  go_upto_region 1 with fail
  rw [← hV0, ← hq, ← hp]
  clear hV0 hp hq
  go_wp2_with fail
  go_ret
  exact ⟨ret_bool HE.out.symm, HP0.out.below⟩
theorem lk_at {w w' : World} {o : Lem} {y : Prf} {t : Nat} (ht : t = 91) (h : Hp w w w' (.row o.val t 2 o.len (flat 2 chC o.chs) :: prfEnts y) []) (hb : o.len ≤ 100000 ∧ y.sn ≤ 100000 ∧ y.ln ≤ 100000 ∧ ∀ m ∈ y.lms, m.len ≤ 100000) (hc : o.chs.length = o.len) : o.At w' (fun _ => True) ∧ y.At w' (fun _ => True) := by
 subst ht
 refine ⟨?_, prf_at (h.sub (List.sublist_cons_self _ _)) (fun _ _ => trivial) hb.2⟩
 have h0 := h.row 0 rfl
 obtain ⟨A, n, c, chs⟩ := o
 dsimp only at hc
 subst hc
 obtain ⟨A2, c2, e2, q2⟩ := rowX_own (p := fun _ => True) h0 (by decide) (fun _ _ => trivial)
 injection e2 with e2
 subst e2
 exact ⟨q2, hb.1⟩
def lookF (r : (Int × Chs × Prv) × Int) (a : Ans) : Bool := decide (r.2 = 0) && (decide (r.1 = a.say) && decide (a.st = 0))
theorem looks_any (B : Nat) (p : Nat → Prop) (g : Nat) (x : StS) (A : Option Addr) (n c : Nat) (b : Ans) (w : World) (L : List Int) (hS : StAt w B p g x) (hO : StOk x) (hn : n ≤ 100000) (hl : Row1 intV w w.heap.size A n L) (hb : b.At w) :
  Calls Tryz.prog 33 #[.pointer (some ⟨g, 0, none⟩), .slice A n c, b.val] w (RetPost (.bool (lookF (lkF x.ds x.P x.Q L) b)) w.heap.size w) := by
 obtain ⟨q, hq⟩ : ∃ p, p = w.heap.size := ⟨_, rfl⟩
 obtain ⟨V0, hV0⟩ : ∃ V0, V0 = w.alloc (.cells #[.int .i64 b.k, .slice b.o.adr b.o.len b.o.cap, .slice b.y.sa b.y.sn b.y.sc, .slice b.y.la b.y.ln b.y.lc, .int .i64 b.st] 51) := ⟨_, rfl⟩
 have hP0 : Hp w w V0 [.blk q 51 b.cells] [] := by
  have h := (Hp.start w).alloc b.cells 51
  rw [hV0, hq]; exact h
 have HLK := Lib.hid (lookup_any B p g x A n c V0 L (hS.keep hP0.below) hO hn (hl.keep hP0.below))
 have HBA := Lib.hid (fun (W : World) (h : Below w.heap.size w W) => (⟨hb.1.keep h, hb.2.keep h⟩ : b.At W))
 have HP0 := Lib.hid hP0
 generalize lkF x.ds x.P x.Q L = r at *
 have HF : Eqn (lookF r b) (decide (r.2 = 0) && (decide (r.1 = b.say) && decide (b.st = 0))) := rfl
 generalize lookF r b = ans at *
 unfold Ans.val
 clear hS hO hl hb hP0
 go_enter Tryz.func33, Tryz.ntmps33
 go_upto_region 1 with fail
 rw [← hV0, ← hq]
 clear hV0 hq
 go_wp2_with fail
 refine HLK.out.mono ?_
 rintro e W1 ⟨o, y, rfl, ho, hy, hbd, hH⟩
 have hP1 := HP0.out.keep hH.below
 have hoc : o.chs.length = o.len := by have h0 := (hH.row 0 rfl).1; rw [flat_lenR] at h0; omega
 have hat := lk_at rfl hH hbd hoc
 obtain ⟨ra, hra⟩ : ∃ ra : Ans, ra = ⟨r.1.1, o, y, 0⟩ := ⟨_, rfl⟩
 obtain ⟨p7, hp7⟩ : ∃ q, q = W1.heap.size := ⟨_, rfl⟩
 obtain ⟨V2, hV2⟩ : ∃ V, V = W1.alloc (.cells #[.int .i64 r.1.1, .slice o.adr o.len o.cap, .slice y.sa y.sn y.sc, .slice y.la y.ln y.lc, .int .i64 0] 51) := ⟨_, rfl⟩
 have hP2 := hP1.alloc ra.cells 51
 rw [show W1.alloc (.cells ra.cells.toArray 51) = V2 by rw [hV2, hra]; rfl, ← hp7] at hP2
 have hb12 : Below W1.heap.size W1 V2 := by rw [hV2]; exact (Below.refl _ W1).alloc (Nat.le_refl _) _
 have hat2 : ra.At V2 := by rw [hra]; exact ⟨hat.1.keep hb12, hat.2.keep hb12⟩
 have HSA := Lib.hid (sameAns_any ra b V2 hat2 (HBA.out V2 hP2.below))
 have HP2 := Lib.hid hP2
 have hsa : (decide (r.1 = b.say) && decide (b.st = 0)) = saF ra b := by
  rw [Bool.eq_iff_iff, saF_iff, Bool.and_eq_true, decide_eq_true_eq, decide_eq_true_eq, hra]
  have : (⟨r.1.1, o, y, 0⟩ : Ans).say = r.1 := by unfold Ans.say; dsimp only; rw [ho, hy]
  rw [this]
  exact and_congr Iff.rfl eq_comm
 have HE : Hid (ans = (decide (r.2 = 0) && saF ra b)) := Lib.hid (by rw [HF, hsa])
 have HRA := Lib.hid hra
 unfold Ans.cells at hP2
 rw [hra] at hP2
 dsimp only at hP2
 have z0 := hP2.c 1 0 rfl rfl
 have z1 := hP2.c 1 1 rfl rfl
 have z2 := hP2.c 1 2 rfl rfl
 have z3 := hP2.c 1 3 rfl rfl
 have z4 := hP2.c 1 4 rfl rfl
 have zl := hP2.lt 1 rfl
 have y0 := hP2.c 0 0 rfl rfl
 have y1 := hP2.c 0 1 rfl rfl
 have y2 := hP2.c 0 2 rfl rfl
 have y3 := hP2.c 0 3 rfl rfl
 have y4 := hP2.c 0 4 rfl rfl
 have yl := hP2.lt 0 rfl
 generalize saF ra b = sa at *
 unfold Ans.val at HSA
 rw [HRA.out] at HSA
 dsimp only at HSA
 generalize hk : r.1.1 = rk at *
 generalize hr2 : r.2 = r2 at *
 clear ho hy hbd hH hP1 hoc hat hra hP2 hb12 hat2 hsa HP0 HLK HF HBA HRA hk hr2
 unfold Lem.val Prf.v1 Prf.v2
 go_upto_region 2 with fail
 rw [← hV2, ← hp7]
 clear hV2 hp7
 by_cases h0 : r2 = 0
 ·have d0 : (r2 == 0) = true := by simpa using h0
  have HE2 : Hid (ans = sa) := Lib.hid (by rw [HE.out, decide_eq_true h0, Bool.true_and])
  clear HE h0
  go_wp2_with fail
  refine HSA.out.mono ?_
  rintro e W5 ⟨rfl, hb5⟩
  have HB := Lib.hid (HP2.out.keep hb5).below
  clear hb5 z0 z1 z2 z3 z4 zl y0 y1 y2 y3 y4 yl
  go_wp2_with fail
  go_ret
  exact ⟨ret_bool HE2.out.symm, HB.out⟩
 ·have d0 : (r2 == 0) = false := by simpa using h0
  have HE2 : Hid (ans = false) := Lib.hid (by rw [HE.out, decide_eq_false h0, Bool.false_and])
  clear HE h0
  go_wp2_with fail
  go_ret
  exact ⟨ret_bool HE2.out.symm, HP2.out.below⟩
theorem rowS_blk {α : Type} {sz : Nat} {f : α → Nat → Value} {W : World} {b t D : Nat} {s : List Value} (xs : List α) (h : Blk W b t s) (hs : s = flat sz f xs) (hD : b < D) : RowS sz f W D (some ⟨b, 0, none⟩) xs.length xs := by
 subst hs
 refine ⟨rfl, fun _ => ⟨b, 0, rfl, hD, fun k x hk j hj => ?_⟩⟩
 rw [Nat.zero_add]
 exact h.cell (flat_at sz f xs k x hk j hj)
theorem row1_blk {W : World} {b t D : Nat} {s : List Value} (xs : List Int) (h : Blk W b t s) (hs : s = xs.map intV) (hD : b < D) : Row1 intV W D (some ⟨b, 0, none⟩) xs.length xs := row1_S (rowS_blk xs h (by rw [hs, flat_ints]) hD)
def samD (A : Option Addr) : List Dom := [⟨1, A, 2, 2, [14, 15]⟩, ⟨2, A, 2, 2, [14, 15]⟩, ⟨3, A, 2, 2, [14, 15]⟩]
def samR : Rul := ⟨[⟨1, 2, 0, 14, 51⟩, ⟨1, 3, 0, 14, 51⟩, ⟨2, 3, 0, 14, 51⟩], [], []⟩
theorem same_any (a b : Int) (w : World) : Calls Tryz.prog 74 #[.int .i64 a, .int .i64 b] w (RetPost (.agg #[.int .i64 a, .int .i64 b, .int .i64 0, .int .i64 14, .int .i64 51]) w.heap.size w) := by
 obtain ⟨p, hp⟩ : ∃ p, p = w.heap.size := ⟨_, rfl⟩
 obtain ⟨V0, hV0⟩ : ∃ V0, V0 = w.alloc (.cells #[.int .i64 0, .int .i64 0, .int .i64 0, .int .i64 0, .int .i64 0] 84) := ⟨_, rfl⟩
 have hP0 : Hp w w V0 [.blk p 84 [.int .i64 0, .int .i64 0, .int .i64 0, .int .i64 0, .int .i64 0]] [] := by
  have h := (Hp.start w).alloc [.int .i64 0, .int .i64 0, .int .i64 0, .int .i64 0, .int .i64 0] 84
  rw [hV0, hp]; exact h
 have HP0 := Lib.hid hP0
 have z0 := hP0.c 0 0 rfl rfl
 have z1 := hP0.c 0 1 rfl rfl
 have z2 := hP0.c 0 2 rfl rfl
 have z3 := hP0.c 0 3 rfl rfl
 have z4 := hP0.c 0 4 rfl rfl
 have zf := hP0.f 0 rfl
 have zl := hP0.lt 0 rfl
 clear hP0
 go_enter Tryz.func74, Tryz.ntmps74
 go_upto_region 1 with fail
 rw [← hV0, ← hp]
 clear hV0 hp
 go_wp2_with fail
 have hP1 := ((((HP0.out.set 0 0 (.int .i64 a) rfl).set 0 1 (.int .i64 b) rfl).set 0 2 (.int .i64 0) rfl).set 0 3 (.int .i64 14) rfl).set 0 4 (.int .i64 51) rfl
 refine bodyPost_ret (v := .agg #[.int .i64 a, .int .i64 b, .int .i64 0, .int .i64 14, .int .i64 51]) (by simp [results, Tryz.results74, go_sem, hP1.c 0 0 rfl rfl, hP1.c 0 1 rfl rfl, hP1.c 0 2 rfl rfl, hP1.c 0 3 rfl rfl, hP1.c 0 4 rfl rfl]) rfl ⟨rfl, hP1.below⟩
def SamPost (w : World) (e : Ending) (w' : World) : Prop := ∃ (s : PrbS) (A : Option Addr), e = .returned s.val ∧ s.nd = 3 ∧ PrbAt w' w'.heap.size s (samD A) samR ∧ Below w.heap.size w w'
theorem sample_any (w : World) : Calls Tryz.prog 32 #[] w (SamPost w) := by
 obtain ⟨p, hp⟩ : ∃ p, p = w.heap.size := ⟨_, rfl⟩
 obtain ⟨b1, hb1⟩ : ∃ p, p = w.heap.size + 1 := ⟨_, rfl⟩
 obtain ⟨V0, hV0⟩ : ∃ V0, V0 = (w.alloc (.cells #[.slice none 0 0, .slice none 0 0, .slice none 0 0, .slice none 0 0] 29)).alloc (.cells #[.int .i64 14, .int .i64 15] 3) := ⟨_, rfl⟩
 have hP0 : Hp w w V0 [.blk p 29 [.slice none 0 0, .slice none 0 0, .slice none 0 0, .slice none 0 0], .blk b1 3 [.int .i64 14, .int .i64 15]] [] := by
  have h := ((Hp.start w).alloc [.slice none 0 0, .slice none 0 0, .slice none 0 0, .slice none 0 0] 29).alloc [.int .i64 14, .int .i64 15] 3
  simp only [World.size_alloc] at h
  rw [hV0, hp, hb1]; exact h
 have HP0 := Lib.hid hP0
 clear hP0
 go_enter Tryz.func32, Tryz.ntmps32
 go_upto_region 2 with fail
 rw [← hV0, ← hb1, ← hp]
 clear hV0 hp hb1
 go_wp2_with fail
 have HP1 := Lib.hid (HP0.out.alloc [.int .i64 1, .slice (some ⟨b1, 0, none⟩) 2 2, .int .i64 2, .slice (some ⟨b1, 0, none⟩) 2 2, .int .i64 3, .slice (some ⟨b1, 0, none⟩) 2 2] 78)
 refine (same_any 1 2 _).mono ?_
 rintro e W2 ⟨rfl, h2⟩
 have HP2 := Lib.hid (HP1.out.keep h2)
 clear h2 HP1
 go_wp2_with fail
 refine (same_any 1 3 _).mono ?_
 rintro e W3 ⟨rfl, h3⟩
 have HP3 := Lib.hid (HP2.out.keep h3)
 clear h3 HP2
 go_wp2_with fail
 refine (same_any 2 3 _).mono ?_
 rintro e W4 ⟨rfl, h4⟩
 have HP4 := Lib.hid (HP3.out.keep h4)
 clear h4 HP3
 have z0 := (HP4.out.c 0 0 rfl rfl)
 have z1 := (HP4.out.c 0 1 rfl rfl)
 have z2 := (HP4.out.c 0 2 rfl rfl)
 have z3 := (HP4.out.c 0 3 rfl rfl)
 have zf := (HP4.out.f 0 rfl)
 have zl := (HP4.out.lt 0 rfl)
 go_wp2_with fail
 have hP5 := ((((HP4.out.set 0 0 (.slice (some ⟨V0.heap.size, 0, none⟩) 3 3) rfl).set 0 1 (.slice (some ⟨W4.heap.size, 0, none⟩) 3 3) rfl).set 0 2 (.slice none 0 0) rfl).set 0 3 (.slice none 0 0) rfl).alloc [.int .i64 1, .int .i64 2, .int .i64 0, .int .i64 14, .int .i64 51, .int .i64 1, .int .i64 3, .int .i64 0, .int .i64 14, .int .i64 51, .int .i64 2, .int .i64 3, .int .i64 0, .int .i64 14, .int .i64 51] 84
 have hsz : ((((W4.setCell ⟨p, 0, none⟩ (.slice (some ⟨V0.heap.size, 0, none⟩) 3 3)).setCell ⟨p, 1, none⟩ (.slice (some ⟨W4.heap.size, 0, none⟩) 3 3)).setCell ⟨p, 2, none⟩ (.slice none 0 0)).setCell ⟨p, 3, none⟩ (.slice none 0 0)).heap.size = W4.heap.size := by simp [World.setCell]
 rw [hsz] at hP5
 refine bodyPost_ret (v := .agg #[.slice (some ⟨V0.heap.size, 0, none⟩) 3 3, .slice (some ⟨W4.heap.size, 0, none⟩) 3 3, .slice none 0 0, .slice none 0 0]) (by simp [results, Tryz.results32, go_sem, hP5.c 0 0 rfl rfl, hP5.c 0 1 rfl rfl, hP5.c 0 2 rfl rfl, hP5.c 0 3 rfl rfl]) rfl ?_
 refine ⟨⟨some ⟨V0.heap.size, 0, none⟩, 3, 3, ⟨some ⟨W4.heap.size, 0, none⟩, 3, 3, none, 0, 0, none, 0, 0⟩⟩, some ⟨b1, 0, none⟩, rfl, rfl, ⟨⟨rowS_blk (samD (some ⟨b1, 0, none⟩)) (hP5.blk 2 rfl) rfl (hP5.lt 2 rfl), fun d hd => ?_⟩, rowS_blk samR.pairs (hP5.blk 3 rfl) rfl (hP5.lt 3 rfl), RowS.nil _ _ _ _ _, RowS.nil _ _ _ _ _, show (3 : Nat) ≤ 9223372036854775807 by decide, show (0 : Nat) ≤ 9223372036854775807 by decide, show (0 : Nat) ≤ 9223372036854775807 by decide⟩, hP5.below⟩
 have hr := row1_blk [14, 15] (hP5.blk 1 rfl) rfl (hP5.lt 1 rfl)
 simp only [samD, List.mem_cons, List.not_mem_nil, or_false] at hd
 rcases hd with rfl | rfl | rfl <;> exact hr
end Go.Proofs.YtdpbbhbegehcjaaGreatDoor

namespace Go.Proofs.YtdpbbhbegehcjaaGreatDoor
open Go.RowKit
theorem filt_say {ds es : List Dom} (f : Int → Bool) (h : ds.map Dom.say = es.map Dom.say) : (ds.filter fun d => f d.st).map Dom.say = (es.filter fun d => f d.st).map Dom.say := by
 have key : ∀ l : List Dom, (l.filter fun d => f d.st).map Dom.say = (l.map Dom.say).filter fun s => f s.1 := by
  intro l
  induction l with
  | nil => rfl
  | cons x r ih =>
   rw [List.filter_cons, List.map_cons, List.filter_cons]
   show (List.map Dom.say (if f x.st = true then _ else _)) = if f x.st = true then _ else _
   split
   ·rw [List.map_cons, ih]
   ·exact ih
 rw [key, key, h]
theorem fits_say {ds es : List Dom} (r : Rul) (l : Chs) (h : ds.map Dom.say = es.map Dom.say) : fitsF ds r l = fitsF es r l := by
 unfold fitsF
 exact ok_say (filt_say _ h) _ _ _
theorem pk_say {ds es : List Dom} (r : Rul) (P : List Chs) (l : Chs) (h : ds.map Dom.say = es.map Dom.say) : pkF ds r P l = pkF es r P l := by
 unfold pkF
 rw [st_say h, fits_say r l h]
theorem rf_say {ds es : List Dom} (Q : List Prv) (x : Prv) (h : ds.map Dom.say = es.map Dom.say) : rfF ds Q x = rfF es Q x := by
 unfold rfF
 rw [st_say h]
theorem lk_say {ds es : List Dom} (P : List Chs) (Q : List Prv) (L : List Int) (h : ds.map Dom.say = es.map Dom.say) : lkF ds P Q L = lkF es P Q L := by
 unfold lkF
 rw [st_say h]
theorem sam_valid : validP (samD none) samR = true := by decide +kernel
theorem sam_p1 : pkF (samD none) samR [] [(1, 14), (2, 15)] = ([[(1, 14), (2, 15)]], 0) := by decide +kernel
theorem sam_p2 : pkF (samD none) samR [[(1, 14), (2, 15)]] [(1, 15)] = ([[(1, 14), (2, 15)]], 0) := by decide +kernel
theorem sam_p3 : pkF (samD none) samR [[(1, 14), (2, 15)]] [(1, 14), (2, 14)] = ([[(1, 14), (2, 15)]], 10) := by decide +kernel
theorem sam_p4 : pkF (samD none) samR [[(1, 14), (2, 15)]] [(4, 14)] = ([[(1, 14), (2, 15)]], 9) := by decide +kernel
theorem sam_r : rfF (samD none) [] ([1, 2, 3], [[(1, 14)], []]) = ([([1, 2, 3], [[(1, 14)], []])], 0) := by decide +kernel
theorem sam_l1 : lkF (samD none) [] [] [1, 2] = ((0, [], ([], [])), 0) := by decide +kernel
theorem sam_l2 : lkF (samD none) [[(1, 14), (2, 15)]] [] [2] = ((1, [(2, 15)], ([], [])), 0) := by decide +kernel
theorem sam_l3 : lkF (samD none) [[(1, 14), (2, 15)]] [] [1, 3] = ((0, [], ([], [])), 0) := by decide +kernel
theorem sam_l4 : lkF (samD none) [[(1, 14), (2, 15)]] [([1, 2, 3], [[(1, 14)], []])] [1, 2, 3] = ((2, [], ([1, 2, 3], [[(1, 14)], []])), 0) := by decide +kernel
theorem sam_l5 : lkF (samD none) [[(1, 14), (2, 15)]] [([1, 2, 3], [[(1, 14)], []])] [1, 2] = ((1, [(1, 14), (2, 15)], ([], [])), 0) := by decide +kernel
theorem samD_say (A : Option Addr) : (samD A).map Dom.say = (samD none).map Dom.say := rfl
end Go.Proofs.YtdpbbhbegehcjaaGreatDoor
