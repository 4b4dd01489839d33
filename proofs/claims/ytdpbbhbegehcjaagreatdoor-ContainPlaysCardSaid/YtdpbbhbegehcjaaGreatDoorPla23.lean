/- What the laws of layer 24 share. -/
import Derived.Test.YtdpbbhbegehcjaaGreatDoorRows
import Derived.Test.YtdpbbhbegehcjaaGreatDoorTie
import Derived.Test.YtdpbbhbegehcjaaGreatDoorCards
import Derived.Test.YtdpbbhbegehcjaaGreatDoorChecked
import Derived.KernelRfl
import Derived.Lay
import Derived.MakeChecks
import Derived.LaidOnce
import Derived.SevenTiedAt
import Derived.HandedShaped
import Derived.Stop.LaidErr
import Derived.Lib.SmallJoins
import Derived.Test.YtdpbbhbegehcjaaGreatDoorPla04
import Derived.Test.YtdpbbhbegehcjaaGreatDoorPla08
import Derived.Test.YtdpbbhbegehcjaaGreatDoorPla09
import Derived.Test.YtdpbbhbegehcjaaGreatDoorPla10
import Derived.Test.YtdpbbhbegehcjaaGreatDoorPla15
import Derived.Test.YtdpbbhbegehcjaaGreatDoorPla18
import Derived.Test.YtdpbbhbegehcjaaGreatDoorPla20
import Derived.Test.YtdpbbhbegehcjaaGreatDoorPla21
import Derived.Test.YtdpbbhbegehcjaaGreatDoorPla22
set_option maxRecDepth 100000
set_option maxHeartbeats 4000000
namespace Go.Proofs.YtdpbbhbegehcjaaGreatDoor
open Go.RowKit Go.Shelf
attribute [local go_sem] Oper.semAt_some
theorem valuesR_any (A : Option Addr) (m c f : Nat) (w : World) : Calls Tryz.prog 62 #[.agg #[.slice A m c], .func (.func f) #[] #[]] w fun e w' => e = .returned (.func (.func 96) #[] #[.pointer (some ⟨w.heap.size, 0, none⟩), .pointer (some ⟨w.heap.size + 1, 0, none⟩)]) ∧ w' = (w.alloc (.cells #[.slice A m c] 108)).alloc (.cells #[.func (.func f) #[] #[]] 128) := by
 go_enter Tryz.func62, Tryz.ntmps62
 go_wp2
 go_ret
 exact ⟨rfl, rfl⟩
theorem refutedIt_any (B : Nat) (p : Nat → Prop) (g : Nat) (x : StS) (w : World) (hS : StAt w B p g x) : Calls Tryz.prog 22 #[.pointer (some ⟨g, 0, none⟩)] w fun e w' =>
  ∃ kb cb, e = .returned (.func (.func 96) #[] #[.pointer (some ⟨kb, 0, none⟩), .pointer (some ⟨cb, 0, none⟩)]) ∧ Hp w w w' [.blk kb 108 [.slice x.ra x.rn x.rc], .blk cb 128 [.func (.func 50) #[] #[]]] [] := by
 have HMI := Lib.hid (missing_any g x.cells w hS.blk rfl)
 have k0 : w.cell? ⟨g, 14, none⟩ = some (.slice x.ra x.rn x.rc) := hS.blk.cell rfl
 have gl := hS.blk.lt
 have HV := Lib.hid (valuesR_any x.ra x.rn x.rc 50 w)
 clear hS
 go_enter Tryz.func22, Tryz.ntmps22
 go_wp2_with fail
 refine HMI.out.mono ?_
 rintro e W1 ⟨rfl, rfl⟩
 go_wp2_with fail
 refine HV.out.mono ?_
 rintro e W2 ⟨rfl, hW2⟩
 have hP := ((Hp.start w).alloc [.slice x.ra x.rn x.rc] 108).alloc [.func (.func 50) #[] #[]] 128
 simp only [World.size_alloc] at hP
 have HP := Lib.hid (show Hp w w W2 _ _ by rw [hW2]; exact hP)
 clear hP hW2
 go_wp2_with fail
 go_ret
 exact ⟨_, _, rfl, HP.out⟩
def prfC (y : Prf) : Nat → Value
 | 0 => y.v1
 | _ => y.v2
def prfsEnts (O : List Prf) : List Ent := O.flatMap prfEnts
theorem prfsEnts_snoc (O : List Prf) (y : Prf) : prfsEnts (O ++ [y]) = prfsEnts O ++ prfEnts y := by simp [prfsEnts]
theorem pr_info : (Tryz.prog.info? 44).map (fun i => (i.zero, i.size, i.bytes)) = some (some (.agg #[.slice none 0 0, .slice none 0 0]), 2, 48) := by kernel_rfl
def Prf.Ok (y : Prf) : Prop := y.sn ≤ 100000 ∧ y.ln ≤ 100000 ∧ ∀ m ∈ y.lms, m.len ≤ 100000
def RfdPost (Q : List Prv) (w : World) (e : Ending) (w' : World) : Prop := ∃ (v : Value) (O : List Prf), e = .returned v ∧ O.map Prf.say = Q ∧ (∀ y ∈ O, y.Ok) ∧ Hp w w w' (.row v 44 2 O.length (flat 2 prfC O) :: prfsEnts O) []
theorem perm_prf (e r1 r2 bp : Ent) (F P0 M0 : List Ent) : (e :: ((F ++ P0) ++ ([r1, r2] ++ M0)) ++ [bp]).Perm (r1 :: r2 :: bp :: e :: (F ++ (P0 ++ M0))) := by
 have h1 : (e :: ((F ++ P0) ++ ([r1, r2] ++ M0)) ++ [bp]).Perm (bp :: e :: ((F ++ P0) ++ ([r1, r2] ++ M0))) := List.perm_append_singleton _ (e :: _)
 have h2 : ((F ++ P0) ++ ([r1, r2] ++ M0)).Perm ([r1, r2] ++ (F ++ (P0 ++ M0))) := by
  rw [← List.append_assoc, ← List.append_assoc F P0 M0]
  refine (List.Perm.append_right M0 (List.perm_append_comm)).trans ?_
  rw [List.append_assoc]
 refine h1.trans ?_
 refine ((h2.cons e).cons bp).trans ?_
 have h3 : (bp :: e :: ([r1, r2] ++ (F ++ (P0 ++ M0)))).Perm ([r1, r2] ++ ([bp, e] ++ (F ++ (P0 ++ M0)))) := by
  show ([bp, e] ++ ([r1, r2] ++ (F ++ (P0 ++ M0)))).Perm _
  exact List.perm_append_comm_assoc _ _ _
 exact h3
theorem refuted_any (B : Nat) (p : Nat → Prop) (g : Nat) (x : StS) (w : World) (hS : StAt w B p g x) (hO : StOk x) : Calls Tryz.prog 18 #[.pointer (some ⟨g, 0, none⟩)] w (RfdPost x.Q w) := by
 obtain ⟨i0, hi, hz0, hz1, hz2⟩ := info_parts pr_info
 obtain ⟨p2, hp2⟩ : ∃ q, q = w.heap.size := ⟨_, rfl⟩
 obtain ⟨V0, hV0⟩ : ∃ V, V = w.alloc (.cells #[.slice none 0 0] 57) := ⟨_, rfl⟩
 have hP0 : Hp w w V0 [.blk p2 57 [.slice none 0 0]] [] := by
  have h := (Hp.start w).alloc [.slice none 0 0] 57
  rw [hV0, hp2]; exact h
 have HPI := Lib.hid (refutedIt_any B p g x V0 (hS.keep hP0.below))
 have HPE := Lib.hid (hS.res.mono (q := (· < w.heap.size)) (fun _ _ h => h))
 have HP0 := Lib.hid hP0
 have hrl := hO.rl
 have hpn : x.rn ≤ 100000 := by have := hS.res.1.1; omega
 have HPL : Hid (x.Q.length = x.re.length ∧ x.re.length ≤ 1000) := Lib.hid ⟨by unfold StS.Q; rw [List.length_map], hrl⟩
 have hsn : ∀ e ∈ x.re, e.v.sn ≤ 1000 := fun e he => by have h1 := (hO.res e he).2; have h2 := stOk_len h1; have h3 := (hS.res.2 e he).1.1; omega
 have HSNN := Lib.hid hsn
 clear hS hP0 hO hrl hsn
 have hnil := fun W b c => run_eql_func_nil (P := Tryz.prog) W 66 (.func 96) b c Tryz.underlying66
 refine (callsIn_wide (n := 6)).1 ?_
 refine callsIn_of_wp_marks Tryz.func18 rfl trivial ?_ rfl
 simp only [Tryz.ntmps18, List.size_toArray, List.length_cons, List.length_nil, Nat.reduceAdd, Nat.reduceSub, Array.replicate_succ, Array.replicate_zero, List.push_toArray, List.append_toArray, List.nil_append, List.cons_append]
 gi_upto_region 1 with fail
 rw [← hV0, ← hp2]
 clear hV0 hp2
 gi_wp2_with fail
 refine ⟨trivial, (callsIn_wide.2 HPI.out).mono ?_⟩
 rintro e W1 ⟨kb, cb, rfl, hH⟩
 have hP1 := HP0.out.join hH.below hH
 obtain ⟨p4, hp4⟩ : ∃ q, q = W1.heap.size := ⟨_, rfl⟩
 obtain ⟨W2, hW2⟩ : ∃ V, V = W1.alloc (.cells #[.slice none 0 0] 57) := ⟨_, rfl⟩
 have hP2 := (hP1.alloc [.slice none 0 0] 57).nil 44 2
 rw [show ([.slice none 0 0] : List Value).toArray = #[.slice none 0 0] from rfl, ← hW2, ← hp4] at hP2
 have HP2 := Lib.hid hP2
 clear hH hP1 hP2 HPI HP0
 gi_upto_region 5 with fail
 rw [← hW2, ← hp4]
 clear hW2 hp4
 have HSQ := Lib.hid (vals1R 5 (by decide) w.heap.size kb cb x.ra x.rn x.rc x.re W2 (HP2.out.blk 1 rfl) (HP2.out.blk 2 rfl) (HPE.out.keep HP2.out.below) HP2.out.below.size hpn HSNN.out)
 gi_wp2_with fail
 refine hp_hands (w := w) (ds := []) (σ := Value × List Prf) (fun s => [.blk p2 57 [.slice none 0 0], .blk kb 108 [.slice x.ra x.rn x.rc], .blk cb 128 [.func (.func 50) #[] #[]], .blk p4 57 [s.1], .row s.1 44 2 s.2.length (flat 2 prfC s.2)] ++ prfsEnts s.2)
  (fun pre s => s.2.length = pre.length ∧ (∀ y ∈ s.2, y.Ok) ∧ s.2.map Prf.say = x.Q.take pre.length) (fun _ _ _ => False) 2 (fun y => prfEnts y.2) (fun pre y => y.1 = pre.length ∧ y.2.Ok ∧ x.Q[pre.length]? = some y.2.say) ?a₁ 44 (fun y => [.slice y.2.sa y.2.sn y.2.sc, .slice y.2.la y.2.ln y.2.lc]) (by decide)
  (gf := 96) (lb := #[.pointer (some ⟨kb, 0, none⟩), .pointer (some ⟨cb, 0, none⟩)]) rfl (enters_of Tryz.func96 (by kernel_rfl) rfl) HSQ.out (Nat.le_refl _) (fun _ => rfl) (.slice none 0 0, []) ⟨rfl, fun _ h => (by cases h), by simp⟩ HP2.out (fun _ => rfl)
  (fun pre y L X Y hX hbl hG => ?give) ?assign ?body ?done ?stop
 case give =>
  obtain ⟨h1, ⟨e, he, hc, hs, hl, hm⟩, hH⟩ := hG
  have hA := HPE.out.2 e (List.mem_of_getElem? he)
  exact ⟨⟨h1, ⟨by rw [hs]; exact hA.2.2.2.1, by rw [hl]; exact hA.2.2.2.2, hm⟩, by unfold StS.Q; rw [List.getElem?_map, he, hc]; rfl⟩, hX.join hbl hH, fun e' he' => hH.low e' he'⟩
 case assign =>
  intro l y p W K hp hK
  unfold Prf.val Prf.v1 Prf.v2
  gi_wp2
  rw [← hp]
  exact hK
 case body =>
  rintro l pre ⟨k0, y⟩ e bp X ⟨v, O⟩ _ ⟨hO1, hO2, hO3⟩ ⟨hy1, hy2, hy3⟩ hX hlen
  dsimp only at *
  obtain rfl : k0 = O.length := hy1.trans hO1.symm
  obtain ⟨L0, hL0⟩ : ∃ L0, L0 = prfsEnts O := ⟨_, rfl⟩
  obtain ⟨M0, hM0⟩ : ∃ M0, M0 = lemEnts y.lms := ⟨_, rfl⟩
  unfold prfEnts at hX
  rw [← hL0, ← hM0] at hX
  have hX1 : Hp w X X (.row y.v1 3 1 y.sn (y.sts.map intV) :: .row y.v2 41 1 y.ln (y.lms.map Lem.val) :: .blk bp 44 [.slice y.sa y.sn y.sc, .slice y.la y.ln y.lc] :: e :: ([.blk p2 57 [.slice none 0 0], .blk kb 108 [.slice x.ra x.rn x.rc], .blk cb 128 [.func (.func 50) #[] #[]], .blk p4 57 [v], .row v 44 2 O.length (flat 2 prfC O)] ++ (L0 ++ M0))) [] := hX.perm (perm_prf _ _ _ _ _ _ _)
  have hyAt : y.At X (fun _ => True) := prf_at (u := X) (ds := []) (by unfold prfEnts; rw [← hM0]; exact hX.sub ((List.sublist_append_of_sublist_right (List.Sublist.refl _)).trans ((List.sublist_cons_self _ _).trans (List.sublist_append_left _ _)))) (fun _ _ => trivial) hy2
  obtain ⟨A1, c1, rfl⟩ := hX1.form 8 rfl
  have HX := Lib.hid hX1
  have HL0 := Lib.hid hL0
  have HO := Lib.hid (And.intro hO2 (And.intro hO3 hy3))
  have HPR := Eqn.mk hO1
  have HYO := Lib.hid hy2
  have HSL : Hid (y.sts.length = y.sn ∧ y.lms.length = y.ln) := Lib.hid ⟨hyAt.1.1, hyAt.2.1.1⟩
  have hol : O.length < 100000 := by have := HPL.out; omega
  have c7 := hX1.c 7 0 rfl rfl
  have l7 := hX1.lt 7 rfl
  have c2 := hX1.c 2 0 rfl rfl
  have d2 := hX1.c 2 1 rfl rfl
  have l2 := hX1.lt 2 rfl
  have HCL := Lib.hid (cloneL_any y X.drew (hyAt.keep (Below.refl _ _).drew))
  clear hL0 hM0 hX hX1 hO1 hO2 hO3 hy1 hy2 hy3 hlen hyAt
  unfold Prf.val Prf.v1 Prf.v2 at HCL
  gi_wp2_with fail
  refine Lx.regionTIn (C := fun W' => W'.cell? ⟨p4, 0, none⟩ = some (.slice A1 O.length c1)) (C' := fun _ => True) (hs := [0]) 5 (List.take 5 _) (List.drop 5 _) (List.take_append_drop 5 _).symm rfl (by kernel_rfl) (by kernel_rfl) (by kernel_rfl) (by kernel_rfl) c7 ?_
  simp only [List.take_succ_cons, List.take_zero, List.drop_succ_cons, List.drop_zero]
  repeat' (first | ((first | refine Lx.ln (fun K hK => ?_) | (first | (refine Lx.lp (v := ?_) ?_ (fun K hK => ?_); rotate_left 1; intro w' hCw; try dsimp only at hCw) | (refine Lx.lr (v := ?_) ?_ (fun K hK => ?_); rotate_left 1)); go_simp; first | done | with_reducible rfl); go_simp; refine hK _ ?_; clear hK K) | (refine Lx.le (fun K hK => ?_); go_simp; (first | (go_at_call 56; refine HCL.out.mono ?_; rintro e' W6 ⟨y6, rfl, hsay, hln, hH⟩; have hP6 := HX.out.drew.join hH.below hH; have HP6 := Lib.hid hP6; have HC6 := Lib.hid (hP6.c 7 0 rfl rfl); have HC7 := Lib.hid (fun o => (HP6.out.alloc0 o).c 7 0 rfl rfl); have HY6 := Lib.hid (And.intro hsay hln); clear hsay hln hH hP6; unfold Prf.val Prf.v1 Prf.v2) | skip); refine hK _ _ (by first | exact HC6.out | exact HC7.out _) ?_; clear hK K))
  refine Lx.lex_append rfl rfl _ _ 57 rfl w.heap.size 44 i0 (.agg #[.slice none 0 0, .slice none 0 0]) 2 48 Tryz.underlying57 hi hz0 hz1 hz2 rfl (by decide) _ _ _ rfl ((HP6.out.row 8 rfl).alloc _) ⟨W6.heap.size, 0, none⟩ 1 1 [.slice y6.sa y6.sn y6.sc, .slice y6.la y6.ln y6.lc] rfl rfl (by exact cells_newR W6 _ _) (by simp [Value.oneCell']) (by unfold maxLen; omega) (by omega) (by have := HP6.out.below.size; simp; omega) ?_
  intro v' w8 hown' hgrow hat
  have hP8 := (HP6.out.alloc0 _).grow 8 rfl hgrow hown' hat
  obtain ⟨A8, c8, rfl⟩ := hP8.form 8 rfl
  refine ⟨hP8.c 7 0 rfl rfl, ?_⟩
  obtain ⟨O2, hO2⟩ : ∃ O2, O2 = O ++ [y6] := ⟨_, rfl⟩
  obtain ⟨V9, hV9⟩ : ∃ V, V = w8.setCell ⟨p4, 0, none⟩ (.slice A8 (O.length + 1) c8) := ⟨_, rfl⟩
  have hP9 : Hp w X V9 (.row (.slice y.sa y.sn y.sc) 3 1 y.sn (y.sts.map intV) :: .row (.slice y.la y.ln y.lc) 41 1 y.ln (y.lms.map Lem.val) :: .blk bp 44 [.slice y.sa y.sn y.sc, .slice y.la y.ln y.lc] :: e :: ([.blk p2 57 [.slice none 0 0], .blk kb 108 [.slice x.ra x.rn x.rc], .blk cb 128 [.func (.func 50) #[] #[]], .blk p4 57 [.slice A8 (O.length + 1) c8], .row (.slice A8 (O.length + 1) c8) 44 2 O2.length (flat 2 prfC O2)] ++ prfsEnts O2)) [] := by
   rw [hV9, hO2, prfsEnts_snoc, ← HL0.out, show flat 2 prfC (O ++ [y6]) = flat 2 prfC O ++ [y6.v1, y6.v2] by unfold flat; rw [List.flatMap_append]; rfl, List.length_append]
   have h := (hP8.set 7 0 (.slice A8 (O.length + 1) c8) rfl)
   refine h.sub ?_
   exact List.Sublist.cons_cons _ (List.Sublist.cons_cons _ (List.Sublist.cons_cons _ (List.Sublist.cons_cons _ (List.Sublist.cons_cons _ (List.Sublist.cons_cons _ (List.Sublist.cons_cons _ (List.Sublist.cons_cons _ (List.Sublist.cons_cons _ (show List.Sublist (L0 ++ prfEnts y6) ((L0 ++ M0) ++ prfEnts y6) from List.Sublist.append (List.sublist_append_left L0 M0) (List.Sublist.refl _))))))))))
  have HP9 := Lib.hid hP9
  have HO2 := Lib.hid hO2
  have c9 : w8.cell? ⟨p4, 0, none⟩ = some (.slice A1 O.length c1) := hP8.c 7 0 rfl rfl
  have f9 : ∀ o, w8.frozen? ⟨p4, o, none⟩ = false := hP8.f 7 rfl
  have l9 : p4 < w8.heap.size := hP8.lt 7 rfl
  clear hP8 hown' hgrow hat hO2 hP9 c7 l7 c2 d2 l2
  refine Lx.lex_nil ⟨trivial, ?_⟩
  go_simp
  repeat' (first | ((first | refine Lx.ln (fun K hK => ?_) | (first | (refine Lx.lp (v := ?_) ?_ (fun K hK => ?_); rotate_left 1; intro w' hCw; try dsimp only at hCw) | (refine Lx.lr (v := ?_) ?_ (fun K hK => ?_); rotate_left 1)); go_simp; first | done | with_reducible rfl); go_simp; refine hK _ ?_; clear hK K) | (refine Lx.le (fun K hK => ?_); go_simp; (first | skip); refine hK _ _ (trivial) ?_; clear hK K))
  all_goals (refine Lx.lex_nil ?_)
  rw [← hV9]
  clear hV9 c9 f9 l9 HP6 HC6 HC7 HX HCL
  obtain ⟨sa, sn, sc, sts, la, ln, lc, lms⟩ := y
  dsimp only at *
  have hsn : sn ≤ 100000 := HYO.out.1
  have hln : ln ≤ 100000 := HYO.out.2.1
  have HCS0 : Hid (∃ cs : List Value, cs.length = sn ∧ Hp w X V9 (.row (.slice sa sn sc) 3 1 sn cs :: .row (.slice la ln lc) 41 1 ln (lms.map Lem.val) :: .blk bp 44 [.slice sa sn sc, .slice la ln lc] :: e :: ([.blk p2 57 [.slice none 0 0], .blk kb 108 [.slice x.ra x.rn x.rc], .blk cb 128 [.func (.func 50) #[] #[]], .blk p4 57 [.slice A8 (O.length + 1) c8], .row (.slice A8 (O.length + 1) c8) 44 2 O2.length (flat 2 prfC O2)] ++ prfsEnts O2)) []) := Lib.hid ⟨_, by rw [List.length_map, HSL.out.1], HP9.out⟩
  clear HP9
  gi_wp2_with fail
  gi_loopw [7] (fun i wr => ∃ (k : Nat) (cs : List Value), k ≤ sn ∧ i = .int .i64 k ∧ cs.length = sn ∧ Hp w X wr (.row (.slice sa sn sc) 3 1 sn cs :: .row (.slice la ln lc) 41 1 ln (lms.map Lem.val) :: .blk bp 44 [.slice sa sn sc, .slice la ln lc] :: e :: ([.blk p2 57 [.slice none 0 0], .blk kb 108 [.slice x.ra x.rn x.rc], .blk cb 128 [.func (.func 50) #[] #[]], .blk p4 57 [.slice A8 (O.length + 1) c8], .row (.slice A8 (O.length + 1) c8) 44 2 O2.length (flat 2 prfC O2)] ++ prfsEnts O2)) []) (fun i _ => sn - (intOf i).toNat)
  case atStart => obtain ⟨cs, h1, h2⟩ := HCS0.out; exact ⟨0, cs, Nat.zero_le _, rfl, h1, h2⟩
  case round =>
   clear HCS0
   obtain ⟨k, cs, hk, rfl, hcs, hP⟩ := hrel
   have HP := Lib.hid hP
   by_cases hlt : k < sn
   ·have j0 : (k : Int) < (sn : Int) := by omega
    obtain ⟨z, hz⟩ : ∃ z, cs[k]? = some z := ⟨_, List.getElem?_eq_getElem (by omega)⟩
    obtain ⟨b, c', hb', z0, zf, zl⟩ := hP.at 0 k rfl hz
    injection hb' with hb' _ hc'
    subst hb' hc'
    have HCS := Eqn.mk hcs
    have c2 := hP.c 2 0 rfl rfl
    have l2 := hP.lt 2 rfl
    clear hP hz hcs
    gi_wp2_with fail
    go_roundw
    case rel => exact ⟨k + 1, cs.set k (.int .i64 500), hlt, by go_num, by rw [List.length_set, HCS.out], HP.out.setRow 0 k (.int .i64 500) rfl⟩
    case measure => simp [intOf]; omega
   ·obtain rfl : k = sn := by omega
    have c2 := hP.c 2 0 rfl rfl
    have l2 := hP.lt 2 rfl
    have HCS := Eqn.mk hcs
    clear hP hcs
    have HCS0 : Hid (∃ cs2 : List Value, cs2.length = ln ∧ Hp w X wr (.row (.slice sa k sc) 3 1 k cs :: .row (.slice la ln lc) 41 1 ln cs2 :: .blk bp 44 [.slice sa k sc, .slice la ln lc] :: e :: ([.blk p2 57 [.slice none 0 0], .blk kb 108 [.slice x.ra x.rn x.rc], .blk cb 128 [.func (.func 50) #[] #[]], .blk p4 57 [.slice A8 (O.length + 1) c8], .row (.slice A8 (O.length + 1) c8) 44 2 O2.length (flat 2 prfC O2)] ++ prfsEnts O2)) []) := Lib.hid ⟨_, by rw [List.length_map, HSL.out.2], HP.out⟩
    clear HP
    gi_wp2_with fail
    obtain ⟨wo, rfl⟩ : ∃ wo : World, wo = wr := ⟨_, rfl⟩
    clear c2 l2
    gi_loopw [8] (fun i wr => ∃ (k2 : Nat) (cs2 : List Value), k2 ≤ ln ∧ i = .int .i64 k2 ∧ cs2.length = ln ∧ Hp w X wr (.row (.slice sa k sc) 3 1 k cs :: .row (.slice la ln lc) 41 1 ln cs2 :: .blk bp 44 [.slice sa k sc, .slice la ln lc] :: e :: ([.blk p2 57 [.slice none 0 0], .blk kb 108 [.slice x.ra x.rn x.rc], .blk cb 128 [.func (.func 50) #[] #[]], .blk p4 57 [.slice A8 (O.length + 1) c8], .row (.slice A8 (O.length + 1) c8) 44 2 O2.length (flat 2 prfC O2)] ++ prfsEnts O2)) []) (fun i _ => ln - (intOf i).toNat)
    case atStart => obtain ⟨cs2, h1, h2⟩ := HCS0.out; exact ⟨0, cs2, Nat.zero_le _, rfl, h1, h2⟩
    case round =>
     clear HCS0
     obtain ⟨k2, cs2, hk2, rfl, hcs2, hP⟩ := hrel
     have HP := Lib.hid hP
     by_cases hlt2 : k2 < ln
     ·have j0 : (k2 : Int) < (ln : Int) := by omega
      obtain ⟨z, hz⟩ : ∃ z, cs2[k2]? = some z := ⟨_, List.getElem?_eq_getElem (by omega)⟩
      obtain ⟨b, c', hb', z0, zf, zl⟩ := hP.at 1 k2 rfl hz
      injection hb' with hb' _ hc'
      subst hb' hc'
      have HCS2 := Eqn.mk hcs2
      have c2 := hP.c 2 1 rfl rfl
      have l2 := hP.lt 2 rfl
      clear hP hz hcs2
      gi_wp2_with fail
      go_roundw
      case rel => exact ⟨k2 + 1, cs2.set k2 (.slice none 0 0), hlt2, by go_num, by rw [List.length_set, HCS2.out], HP.out.setRow 1 k2 (.slice none 0 0) rfl⟩
      case measure => simp [intOf]; omega
     ·have c2 := hP.c 2 1 rfl rfl
      have l2 := hP.lt 2 rfl
      have j0 : ¬ (k2 : Int) < (ln : Int) := by omega
      clear hP hcs2
      gi_wp2_with fail
      refine ⟨(.slice A8 (O.length + 1) c8, O2), ⟨?_, ?_, ?_⟩, HP.out.sub (List.Sublist.cons _ (List.Sublist.cons _ (List.Sublist.cons _ (List.Sublist.refl _))))⟩
      ·rw [HO2.out, List.length_append, List.length_append, HPR.out]; rfl
      ·intro m hm
       rw [HO2.out] at hm
       rcases List.mem_append.1 hm with hm | hm
       ·exact HO.out.1 m hm
       ·rw [List.mem_singleton] at hm; subst hm
        have h1 := HY6.out.2
        exact ⟨by rw [h1.1]; exact HYO.out.1, by rw [h1.2.1]; exact HYO.out.2.1, h1.2.2⟩
      ·dsimp only
       rw [HO2.out, List.map_append, HO.out.2.1, List.length_append]
       rw [show [y6].map Prf.say = [y6.say] from rfl, HY6.out.1]
       exact (take_snoc' HO.out.2.2).symm
 case done =>
  rintro D xs X ⟨v, O⟩ hS ⟨hO1, hO2, hO3⟩ hX
  dsimp only at hO1 hO2 hO3 hX
  obtain ⟨A1, c1, rfl⟩ := hX.form 4 rfl
  have hO4 : O.map Prf.say = x.Q := by rw [hO3, List.take_of_length_le]; have := HPL.out; have hS : xs.length = x.re.length := hS; omega
  have HO := Lib.hid (And.intro hO2 hO4)
  have HX := Lib.hid hX
  have r2 := hX.c 0 0 rfl rfl
  have f2 := hX.f 0 rfl
  have l2 := hX.lt 0 rfl
  have r4 := hX.c 3 0 rfl rfl
  have l4 := hX.lt 3 rfl
  clear hX hO1 hO2 hO3 hO4 hS
  gi_wp2_with fail
  show LeavesInM _ _ _ _ _ _ (marksOf [D]) .returning _
  refine hp_leaves (fun Y hY => ?_) _ _ _ (HX.out.set 0 0 (.slice A1 O.length c1) rfl)
  exact ⟨.slice A1 O.length c1, by simp [results, Tryz.results18, go_sem, hY.c 0 0 rfl rfl], _, O, rfl, HO.out.2, HO.out.1, Hp.all0 <| hY.sub (List.Sublist.cons _ (List.Sublist.cons _ (List.Sublist.cons _ (List.Sublist.cons _ (List.Sublist.refl _)))))⟩
 case stop =>
  rintro D c pre X s _ h
  exact h.elim
end Go.Proofs.YtdpbbhbegehcjaaGreatDoor

namespace Go.Proofs.YtdpbbhbegehcjaaGreatDoor
open Go.RowKit
def amgF (a b : List Int) : Bool := a.all fun x => b.contains x
theorem amg_iff {a b : List Int} : amgF a b = true ↔ ∀ x ∈ a, x ∈ b := by
 unfold amgF
 rw [List.all_eq_true]
 constructor
 ·intro h x hx; simpa using h x hx
 ·intro h x hx; simpa using h x hx
theorem amg_mi {a b : List Int} (ha : stOk a = true) (hb : stOk b = true) : amgF a b = decide (mi (stS a) (stS b) = 0) := by
 rw [Bool.eq_iff_iff, amg_iff, decide_eq_true_eq, sub_iff (stOk_in ha) (stOk_in hb)]
theorem stOk_amg {a b : List Int} (ha : stOk a = true) (hb : ∀ x ∈ b, 0 ≤ x ∧ x < 512) : amgF a b = decide (mi (stS a) (stS b) = 0) := by
 rw [Bool.eq_iff_iff, amg_iff, decide_eq_true_eq, sub_iff (stOk_in ha) hb]
end Go.Proofs.YtdpbbhbegehcjaaGreatDoor

namespace Go.Proofs.YtdpbbhbegehcjaaGreatDoor
open Go.RowKit Go.Shelf
theorem hasL_con (l : List Int) (x : Int) : hasL l x = l.contains x := by rw [hasL_mem]; simp
theorem among_any (A B : Option Addr) (n c m d : Nat) (w : World) (a b : List Int) (hn : n ≤ 9223372036854775807) (hm : m ≤ 9223372036854775807) (ha : Row1 intV w w.heap.size A n a) (hb : Row1 intV w w.heap.size B m b) :
  Calls Tryz.prog 19 #[.slice A n c, .slice B m d] w fun e w' => e = .returned (.bool (amgF a b)) ∧ w = w' := by
 have Ha := Lib.hid ha
 have HHA := Lib.hid (fun x => rhas_any B m d x w b hm hb)
 have Hlen := Eqn.mk ha.1
 have HF : Eqn (amgF a b) (a.all fun x => b.contains x) := rfl
 generalize amgF a b = ans at *
 clear ha hb
 go_enter Tryz.func19, Tryz.ntmps19
 go_wp2_with fail
 go_loopw [5] (fun i wr => ∃ k : Nat, k ≤ n ∧ i = .int .i64 k ∧ ((a.take k).all fun x => b.contains x) = true ∧ w = wr) (fun i _ => n - (intOf i).toNat)
 case atStart => exact ⟨0, Nat.zero_le _, rfl, rfl, rfl⟩
 case round =>
  obtain ⟨k, hk, rfl, hall, rfl⟩ := hrel
  have HAL := Eqn.mk hall
  clear hall
  by_cases hlt : k < n
  ·have j0 : (k : Int) < (n : Int) := by omega
   obtain ⟨x, hx⟩ : ∃ x, a[k]? = some x := ⟨_, List.getElem?_eq_getElem (by rw [Hlen.out]; exact hlt)⟩
   obtain ⟨g, off, rfl, hbl, hc⟩ := Ha.out.2 (by omega)
   have y0 : w.cell? ⟨g, off + k, none⟩ = some (.int .i64 x) := hc k x hx
   have HN1 : Hid (hasL b x = true → ((a.take (k + 1)).all fun x => b.contains x) = true) := Lib.hid (fun h => all_take hx HAL.out (by rw [← hasL_con]; exact h))
   have HN0 : Hid (hasL b x = false → ans = false) := Lib.hid (fun h => by rw [HF]; exact all_no hx (by rw [← hasL_con]; exact h))
   have HX := Lib.hid (HHA.out x)
   generalize hasL b x = sm at *
   clear hc hx hbl HAL HF HHA
   cases sm with
   | true =>
    go_wp2_with fail
    refine HX.out.mono ?_
    rintro e W1 ⟨rfl, rfl⟩
    go_wp2_with fail
    go_roundw
    case rel => exact ⟨k + 1, hlt, by go_num, HN1.out (by trivial), trivial⟩
    case measure => simp [intOf]; omega
   | false =>
    go_wp2_with fail
    refine HX.out.mono ?_
    rintro e W1 ⟨rfl, rfl⟩
    go_wp2_with fail
    go_ret
    exact ⟨ret_bool (HN0.out (by trivial)).symm, rfl⟩
  ·obtain rfl : k = n := by omega
   have HE : Hid (ans = true) := Lib.hid (by
    have h1 := HAL.out
    have h2 := Hlen.out
    rw [List.take_of_length_le (by omega)] at h1
    rw [HF, h1])
   clear HAL HF HHA
   go_wp2_with fail
   go_ret
   exact ⟨ret_bool HE.out.symm, rfl⟩
theorem astations_any (A : Option Addr) (n c : Nat) (w : World) (l : Chs) (hn : n ≤ 100000) (hl : RowS 2 chC w w.heap.size A n l) :
  Calls Tryz.prog 20 #[.slice A n c] w (NewInts (ofC l) w) := by
 obtain ⟨i0, hi, hz0, hz1, hz2⟩ := info_parts int_info
 have Hl := Lib.hid hl
 have Hlen := Eqn.mk hl.1
 clear hl
 go_enter Tryz.func20, Tryz.ntmps20
 go_wp2_with fail
 go_loopw [3, 4] (fun v i wr => ∃ k : Nat, k ≤ n ∧ i = .int .i64 k ∧ Hp w w wr [.row v 3 1 k ((ofC (l.take k)).map intV)] []) (fun _ i _ => n - (intOf i).toNat)
 case atStart => exact ⟨0, Nat.zero_le _, rfl, (Hp.start w).nil 3 1⟩
 case round =>
  obtain ⟨k, hk, rfl, hP⟩ := hrel
  have HP := Lib.hid hP
  obtain ⟨A1, c1, rfl⟩ := hP.form 0 rfl
  by_cases hlt : k < n
  ·have j0 : (k : Int) < (n : Int) := by omega
   obtain ⟨y, hy⟩ : ∃ y, l[k]? = some y := ⟨_, List.getElem?_eq_getElem (by rw [Hlen.out]; exact hlt)⟩
   have HSU : Hid (ofC (l.take (k + 1)) = ofC (l.take k) ++ [y.1]) := Lib.hid (by unfold ofC; rw [List.take_add_one, hy, List.map_append]; rfl)
   obtain ⟨b, off, rfl, hbw, hcell⟩ := (Hl.out.below hP.below).2 (by omega)
   have y0 : wr.cell? ⟨b, off + k * 2, none⟩ = some (.int .i64 y.1) := hcell k y hy 0 (by decide)
   obtain ⟨ya, yb⟩ := y
   dsimp only at y0 HSU
   clear hP hy hcell hbw
   go_wp2_with (at_builtin; refine wpList_append_own_at _ rfl _ _ 31 rfl w.heap.size 3 i0 (.int .i64 0) 1 8 Tryz.underlying31 hi hz0 hz1 hz2 rfl (by decide) _ _ _ rfl ((HP.out.row 0 rfl).alloc _) ⟨wr.heap.size, 0, none⟩ 1 1 [.int .i64 (ya)] rfl rfl (cell_one_new _ _ _) (by simp [Value.oneCell']) (by unfold maxLen; omega) (by omega) (by have := HP.out.below.size; simp; omega) ?_; intro v6 w6 hown' hgrow _ hat; have HP6 := Lib.hid ((HP.out.alloc0 _).grow 0 rfl hgrow hown' hat); obtain ⟨A6, cp6, rfl⟩ := HP6.out.form 0 rfl; clear hown' hgrow hat)
   go_roundw
   case rel => exact ⟨k + 1, hlt, by go_num, by rw [HSU.out, List.map_append]; exact HP6.out.sub (by simp [intV])⟩
   case measure => simp [intOf]; omega
  ·obtain rfl : k = n := by omega
   rw [List.take_of_length_le (by rw [Hlen.out]; exact Nat.le_refl _)] at hP
   have HP := Lib.hid hP
   clear hP
   have HLL : Hid ((ofC l).length = k) := Lib.hid (by unfold ofC; rw [List.length_map]; exact Hlen.out)
   go_wp2_with fail
   go_ret
   exact ⟨_, rfl, by rw [HLL.out]; exact HP.out.row 0 rfl, HP.out.below⟩
def RowNew (n : Nat) (xs : List Int) (w : World) (e : Ending) (w' : World) : Prop := ∃ B d, e = .returned (.slice B n d) ∧ Row1 intV w' w'.heap.size B n xs ∧ Below w.heap.size w w'
theorem asts_row (A : Option Addr) (n c : Nat) (w : World) (l : Chs) (hn : n ≤ 100000) (hl : RowS 2 chC w w.heap.size A n l) :
  Calls Tryz.prog 20 #[.slice A n c] w (RowNew n (ofC l) w) := by
 refine (astations_any A n c w l hn hl).mono ?_
 rintro e w' ⟨v, rfl, hown, hb⟩
 have hL : (ofC l).length = n := by unfold ofC; rw [List.length_map]; exact hl.1
 rw [hL] at hown
 obtain ⟨B, d, rfl, hr, _⟩ := own_form hown
 exact ⟨B, d, rfl, hr, hb⟩
end Go.Proofs.YtdpbbhbegehcjaaGreatDoor

namespace Go.Proofs.YtdpbbhbegehcjaaGreatDoor
open Go.RowKit Go.ChangeShapes Go.WideShapes Go.ChangeAt Go.Deep Go.Joins
section
variable {H : Type} {enc : TypeId × Value → H} {w : World} {base b0 : Nat} {spare : Nat → Bool} {held : Bool} {r : Reach}
theorem chs_of_trod {fuel : Nat} {A : Option Addr} {n c : Nat} {x : DataW H × List MemPlace} (hf : DataW.trod enc Tryz.prog w base spare held fuel 41 [.slice A n c] = some x) :
  n ≤ 9223372036854775807 ∧ ∃ xs : List (Int × Int), RowS 2 chC w w.heap.size A n xs := by
 obtain ⟨hn, G, m, h1, h2⟩ := elems_of_trod (sz := 2) Tryz.underlying41 (by kernel_rfl) (by omega) hf
 obtain ⟨xs, hx, _⟩ := rowS_of_elems (w := w) (A := A) chC (fun _ => True) G (fun i hi => by
  obtain ⟨_, y, hy⟩ := h1 i hi
  obtain ⟨g, hg⟩ := ints_of_struct Tryz.underlying91 (by kernel_rfl) (by kernel_rfl) (by kernel_rfl) hy
  refine ⟨(g 0, g 1), trivial, fun j hj => ?_⟩
  have := (hg j hj).1
  match j, hj with
  | 0, _ => exact this
  | 1, _ => exact this) h2
 exact ⟨hn, xs, hx⟩
theorem lems_of_trod {fuel : Nat} {A : Option Addr} {n c : Nat} {x : DataW H × List MemPlace} (hf : DataW.trod enc Tryz.prog w base spare held fuel 42 [.slice A n c] = some x) :
  n ≤ 9223372036854775807 ∧ ∃ xs : List Lem, RowS 1 lemC w w.heap.size A n xs ∧ ∀ m ∈ xs, RowS 2 chC w w.heap.size m.adr m.len m.chs := by
 obtain ⟨hn, G, m, h1, h2⟩ := elems_of_trod (sz := 1) Tryz.underlying42 (by kernel_rfl) (by omega) hf
 obtain ⟨xs, hx, hp⟩ := rowS_of_elems (w := w) (A := A) lemC (fun m => RowS 2 chC w w.heap.size m.adr m.len m.chs) G (fun i hi => by
  obtain ⟨hl, y, hy⟩ := h1 i hi
  obtain ⟨v, hv⟩ : ∃ v, G i = [v] := by
   match h : G i, hl with
   | [v], _ => exact ⟨v, rfl⟩
  rw [hv] at hy
  obtain ⟨B, k, d, ev⟩ := slice_form Tryz.underlying41 hy
  simp at ev
  subst ev
  obtain ⟨_, ys, hr⟩ := chs_of_trod hy
  refine ⟨⟨B, k, d, ys⟩, hr, fun j hj => ?_⟩
  match j, hj with
  | 0, _ => rw [hv]; rfl) h2
 exact ⟨hn, xs, hx, hp⟩
theorem cap_of_trod {fuel : Nat} {t e : TypeId} {A : Option Addr} {n c : Nat} {x : DataW H × List MemPlace} (ht : Tryz.prog.underlying t = some (.slice e)) (hf : DataW.trod enc Tryz.prog w base spare held fuel t [.slice A n c] = some x) : n ≤ c := by
 rcases open_slice ht hf with ⟨hcs, _⟩ | ⟨a, len, cap, m, fu, D, Pl, hcs, _, hl, hm, hmm, _, hi⟩
 ·simp at hcs; omega
 ·simp at hcs
  obtain ⟨rfl, rfl, rfl⟩ := hcs
  exact hl
theorem prf_cells {fuel : Nat} {cs : List Value} {y : DataW H × List MemPlace} (h : DataW.trod enc Tryz.prog w base spare held fuel 44 cs = some y) :
  ∃ x : Prf, cs[0]? = some x.v1 ∧ cs[1]? = some x.v2 ∧ Row1 intV w w.heap.size x.sa x.sn x.sts ∧ RowS 1 lemC w w.heap.size x.la x.ln x.lms ∧ (∀ m ∈ x.lms, RowS 2 chC w w.heap.size m.adr m.len m.chs) ∧ x.ln ≤ 9223372036854775807 ∧ x.ln ≤ x.lc := by
 obtain ⟨m, hm⟩ := fields_of_trod Tryz.underlying44 (by kernel_rfl) (by kernel_rfl) h
 obtain ⟨v0, z0, c0, t0⟩ := hm 0 _ rfl
 obtain ⟨v1, z1, c1, t1⟩ := hm 1 _ rfl
 obtain ⟨A0, n0, k0, e0⟩ := slice_form Tryz.underlying31 t0
 obtain ⟨A1, n1, k1, e1⟩ := slice_form Tryz.underlying42 t1
 simp at e0 e1
 subst e0 e1
 obtain ⟨xs, hr, _, _⟩ := ints_of_trod Tryz.underlying31 Tryz.underlying3 (by kernel_rfl) t0
 obtain ⟨hn, ls, hl, hp⟩ := lems_of_trod t1
 exact ⟨⟨A0, n0, k0, xs, A1, n1, k1, ls⟩, c0, c1, hr, hl, hp, hn, cap_of_trod Tryz.underlying42 t1⟩
theorem acd_cells {fuel : Nat} {l : List Value} {y : DataW H × List MemPlace} (hll : l.length = 5) (h : DataW.trod enc Tryz.prog w base spare held fuel 46 l = some y) :
  ∃ x : Acd, l = [.int .i64 x.kind, x.ch.val, x.pr.v1, x.pr.v2, .slice x.ta x.tn x.tc] ∧ x.Raw w := by
 obtain ⟨xs, m, _, _, hlen, hxl, hg⟩ := DataW.trod_struct Tryz.underlying46 h
 have hxl' : xs.length = 4 := hxl
 match l, hll with
 | [a, b, c, d, e], _ =>
  have h0 : DataW.trod enc Tryz.prog w base spare held m 3 (List.take (Tryz.prog.cellsOf 3) (List.drop 0 [a, b, c, d, e])) = xs[0]? := hg 0 _ rfl
  have h1 : DataW.trod enc Tryz.prog w base spare held m 41 (List.take (Tryz.prog.cellsOf 41) (List.drop 1 [a, b, c, d, e])) = xs[1]? := hg 1 _ rfl
  have h2 : DataW.trod enc Tryz.prog w base spare held m 44 (List.take (Tryz.prog.cellsOf 44) (List.drop 2 [a, b, c, d, e])) = xs[2]? := hg 2 _ rfl
  have h3 : DataW.trod enc Tryz.prog w base spare held m 31 (List.take (Tryz.prog.cellsOf 31) (List.drop 4 [a, b, c, d, e])) = xs[3]? := hg 3 _ rfl
  rw [List.getElem?_eq_getElem (by omega)] at h0 h1 h2 h3
  rw [show Tryz.prog.cellsOf 3 = 1 from by kernel_rfl] at h0
  rw [show Tryz.prog.cellsOf 41 = 1 from by kernel_rfl] at h1
  rw [show Tryz.prog.cellsOf 44 = 2 from by kernel_rfl] at h2
  rw [show Tryz.prog.cellsOf 31 = 1 from by kernel_rfl] at h3
  have h0' : DataW.trod enc Tryz.prog w base spare held m 3 [a] = some xs[0] := h0
  have h1' : DataW.trod enc Tryz.prog w base spare held m 41 [b] = some xs[1] := h1
  have h2' : DataW.trod enc Tryz.prog w base spare held m 44 [c, d] = some xs[2] := h2
  have h3' : DataW.trod enc Tryz.prog w base spare held m 31 [e] = some xs[3] := h3
  obtain ⟨k, ek, _, _⟩ := DataW.trod_int Tryz.underlying3 h0'
  obtain ⟨A, n, q, ea⟩ := slice_form Tryz.underlying41 h1'
  obtain ⟨T, tn, tc, et⟩ := slice_form Tryz.underlying31 h3'
  simp at ek ea et
  subst ek ea et
  obtain ⟨_, ch, hc⟩ := chs_of_trod h1'
  obtain ⟨pf, e0, e1, hs, hl, hm, hln, hlc⟩ := prf_cells h2'
  simp at e0 e1
  subst e0 e1
  obtain ⟨ts, ht, _, _⟩ := ints_of_trod Tryz.underlying31 Tryz.underlying3 (by kernel_rfl) h3'
  exact ⟨⟨k, ⟨A, n, q, ch⟩, pf, T, tn, tc, ts⟩, rfl, ⟨hc, hs, hl, hm, ht, hln, hlc⟩⟩
theorem arg_acts {v : Value} {d : DataW H} {p : List MemPlace} (hv : Value.okWide Tryz.prog w r b0 30 v) (h : DataW.Trod enc Tryz.prog w base spare held 30 v d p) :
  ∃ A n c xs, v = .slice A n c ∧ RowS 5 Acd.cell w w.heap.size A n xs ∧ (∀ x ∈ xs, x.Raw w) ∧ n ≤ 9223372036854775807 := by
 obtain ⟨A, n, c, rfl⟩ := okWide_slice Tryz.underlying30 hv
 obtain ⟨fuel, hf⟩ := h
 obtain ⟨hn, G, m, h1, h2⟩ := elems_of_trod (sz := 5) Tryz.underlying30 (by kernel_rfl) (by omega) (by simpa [Value.cells] using hf)
 obtain ⟨xs, hx, hp⟩ := rowS_of_elems (w := w) (A := A) Acd.cell (fun x => x.Raw w) G (fun i hi => by
  obtain ⟨hl, y, hy⟩ := h1 i hi
  obtain ⟨x, e, hr⟩ := acd_cells hl hy
  refine ⟨x, hr, fun j hj => ?_⟩
  rw [e]
  match j, hj with
  | 0, _ => rfl
  | 1, _ => rfl
  | 2, _ => rfl
  | 3, _ => rfl
  | 4, _ => rfl) h2
 exact ⟨A, n, c, xs, rfl, hx, hp, hn⟩
def Acd.val (x : Acd) : Value := .agg #[.int .i64 x.kind, .slice x.ch.adr x.ch.len x.ch.cap, .slice x.pr.sa x.pr.sn x.pr.sc, .slice x.pr.la x.pr.ln x.pr.lc, .slice x.ta x.tn x.tc]
end
end Go.Proofs.YtdpbbhbegehcjaaGreatDoor

namespace Go.Proofs.YtdpbbhbegehcjaaGreatDoor
open Go.RowKit
def smGoN : Nat → List Dom → Bool
 | 0, _ => true
 | _, [] => true
 | f + 1, d :: r => if 60 < d.len then false else smGoN f r
theorem smGoN_nil (f : Nat) : smGoN f [] = true := by cases f <;> rfl
theorem smGoN_all : ∀ (f : Nat) (l : List Dom), smGoN f l = true → l.length ≤ f → ∀ d ∈ l, d.len ≤ 60 := by
 intro f
 induction f with
 | zero => intro l _ h2 d hd; cases l with | nil => cases hd | cons x r => simp at h2
 | succ f ih =>
  intro l h1 h2 d hd
  cases l with
  | nil => cases hd
  | cons x r =>
   rw [smGoN] at h1
   by_cases hx : 60 < x.len
   ·rw [if_pos hx] at h1; cases h1
   ·rw [if_neg hx] at h1
    rcases List.mem_cons.1 hd with rfl | h
    ·omega
    ·exact ih r h1 (by simp at h2; omega) d h
def smF (ds : List Dom) (r : Rul) (d k : Int) : Bool := smGoN 600 ds && (decide ((ds.length : Int) ≤ d) && (decide ((r.pairs.length : Int) ≤ k) && (decide ((r.loads.length : Int) ≤ k) && decide ((r.caps.length : Int) ≤ k))))
theorem smF_spec {ds : List Dom} {r : Rul} {d k : Int} (hd : d ≤ 600) (h : smF ds r d k = true) : (ds.length : Int) ≤ d ∧ (∀ x ∈ ds, x.len ≤ 60) ∧ (r.pairs.length : Int) ≤ k ∧ (r.loads.length : Int) ≤ k ∧ (r.caps.length : Int) ≤ k := by
 simp only [smF, Bool.and_eq_true, decide_eq_true_eq] at h
 obtain ⟨h1, h2, h3, h4, h5⟩ := h
 exact ⟨h2, smGoN_all 600 ds h1 (by omega), h3, h4, h5⟩
theorem small_any (s : PrbS) (d k : Int) (w : World) (ds : List Dom) (r : Rul) (hn : s.nd ≤ 9223372036854775807) (h : PrbAt w w.heap.size s ds r) :
  Calls Tryz.prog 7 #[s.val, .int .i64 d, .int .i64 k] w (RetPost (.bool (smF ds r d k)) w.heap.size w) := by
 obtain ⟨A, n, c, ⟨A0, n0, c0, A1, n1, c1, A2, n2, c2⟩⟩ := s
 obtain ⟨W0, hW0⟩ : ∃ W0, W0 = w.alloc (.cells #[.slice A n c, .slice A0 n0 c0, .slice A1 n1 c1, .slice A2 n2 c2] 29) := ⟨_, rfl⟩
 have HB0 : Hid (Below w.heap.size w W0) := Lib.hid (by rw [hW0]; exact (Below.refl _ w).alloc (Nat.le_refl _) _)
 have h0 : DomsAt W0 W0.heap.size A n ds := h.1.keep HB0.out
 have hX : Blk W0 w.heap.size 29 [.slice A n c, .slice A0 n0 c0, .slice A1 n1 c1, .slice A2 n2 c2] := by rw [hW0]; exact blk_new w _ _
 have Hl := Lib.hid h0.1
 have Hlen := Eqn.mk h0.1.1
 have q0 : W0.cell? ⟨w.heap.size, 0, none⟩ = some (.slice A n c) := hX.cell rfl
 have q1 : W0.cell? ⟨w.heap.size, 1, none⟩ = some (.slice A0 n0 c0) := hX.cell rfl
 have q2 : W0.cell? ⟨w.heap.size, 2, none⟩ = some (.slice A1 n1 c1) := hX.cell rfl
 have q3 : W0.cell? ⟨w.heap.size, 3, none⟩ = some (.slice A2 n2 c2) := hX.cell rfl
 have q4 := hX.lt
 have HF : Eqn (smF ds r d k) (smGoN (600 - 0) (ds.drop 0) && (decide ((n : Int) ≤ d) && (decide ((n0 : Int) ≤ k) && (decide ((n1 : Int) ≤ k) && decide ((n2 : Int) ≤ k))))) := by
  rw [Eqn, smF, Hlen.out, h.2.1.1, h.2.2.1.1, h.2.2.2.1.1]; rfl
 dsimp only at hn
 clear h h0 hX
 rw [show smF ds r d k = _ from HF.out]
 obtain ⟨tail, htail⟩ : ∃ tail, tail = (decide ((n : Int) ≤ d) && (decide ((n0 : Int) ≤ k) && (decide ((n1 : Int) ≤ k) && decide ((n2 : Int) ≤ k)))) := ⟨_, rfl⟩
 rw [← htail]
 obtain ⟨ans, hans⟩ : ∃ ans, ans = (smGoN (600 - 0) (ds.drop 0) && tail) := ⟨_, rfl⟩
 rw [← hans]
 have HA := Eqn.mk hans
 have HT := Eqn.mk htail
 clear hans HF htail
 unfold PrbS.val
 dsimp only
 go_enter Tryz.func7, Tryz.ntmps7
 go_wp2_with fail
 rw [← hW0]
 clear hW0
 have HEND : Hid (Eqn ans tail → Eqn ans (decide ((n : Int) ≤ d) && (decide ((n0 : Int) ≤ k) && (decide ((n1 : Int) ≤ k) && decide ((n2 : Int) ≤ k))))) := Lib.hid (fun h => h.out.trans HT.out)
 clear HT
 generalize htt : tail = tt at *
 clear htt
 go_loopw [7] (fun i wr => ∃ j : Nat, j ≤ n ∧ j ≤ 600 ∧ i = .int .i64 j ∧ Eqn ans (smGoN (600 - j) (ds.drop j) && tt) ∧ W0 = wr) (fun i _ => n - (intOf i).toNat)
 case atStart => exact ⟨0, Nat.zero_le _, Nat.zero_le _, rfl, HA, rfl⟩
 case round =>
  clear HA
  obtain ⟨j, hj, hj6, rfl, HR, rfl⟩ := hrel
  by_cases hlt : j < n
  ·by_cases h6 : j < 600
   ·obtain ⟨p, hp, hpd⟩ := drop_at (xs := ds) (k := j) (by rw [Hlen.out]; exact hlt)
    obtain ⟨b, off, hA, hbl, hc⟩ := Hl.out.2 (by omega)
    subst hA
    have c1 := hc j p hp 1 (by omega)
    simp only [Dom.cell] at c1
    have HR2 := HR.out
    rw [hpd, show 600 - j = (600 - (j + 1)) + 1 by omega, smGoN] at HR2
    have HRR := Eqn.mk HR2
    have j0 : (j : Int) < (n : Int) := by omega
    have j1 : (j : Int) < 600 := by omega
    clear hc hp hpd HR HR2
    obtain ⟨st, adr, len, cap, chs⟩ := p
    dsimp only at *
    by_cases h10 : 60 < len
    ·have HE : Eqn ans false := by rw [Eqn, HRR.out, if_pos h10]; rfl
     have j2 : (60 : Int) < (len : Int) := by omega
     clear HRR h10
     go_wp2_with fail
     go_ret
     exact ⟨ret_bool HE.out.symm, HB0.out⟩
    ·have HE : Eqn ans (smGoN (600 - (j + 1)) (ds.drop (j + 1)) && tt) := by rw [Eqn, HRR.out, if_neg h10]
     have j2 : ¬ (60 : Int) < (len : Int) := by omega
     clear HRR h10
     go_wp2_with fail
     go_roundw
     case rel => exact ⟨j + 1, by omega, by omega, by go_num, HE, trivial⟩
     case measure => simp [intOf]; omega
   ·have HE : Eqn ans tt := by rw [Eqn, HR.out, show 600 - j = 0 by omega, smGoN]; simp
    have j0 : (j : Int) < (n : Int) := by omega
    have j1 : ¬ (j : Int) < 600 := by omega
    have HE2 := HEND.out HE
    clear HR HE HEND
    by_cases g0 : (n : Int) ≤ d
    ·by_cases g1 : (n0 : Int) ≤ k
     ·by_cases g2 : (n1 : Int) ≤ k
      ·have HV : Eqn ans (decide ((n2 : Int) ≤ k)) := by rw [Eqn, HE2.out]; simp [g0, g1, g2]
       clear HE2
       go_wp2_with fail
       go_ret
       exact ⟨ret_bool HV.out.symm, HB0.out⟩
      ·have HV : Eqn ans false := by rw [Eqn, HE2.out]; simp [g0, g1, g2]
       clear HE2
       go_wp2_with fail
       go_ret
       exact ⟨ret_bool HV.out.symm, HB0.out⟩
     ·have HV : Eqn ans false := by rw [Eqn, HE2.out]; simp [g0, g1]
      clear HE2
      go_wp2_with fail
      go_ret
      exact ⟨ret_bool HV.out.symm, HB0.out⟩
    ·have HV : Eqn ans false := by rw [Eqn, HE2.out]; simp [g0]
     clear HE2
     go_wp2_with fail
     go_ret
     exact ⟨ret_bool HV.out.symm, HB0.out⟩
  ·obtain rfl : j = n := by omega
   have HE : Eqn ans tt := by rw [Eqn, HR.out, drop_end (by rw [Hlen.out]; omega), smGoN_nil]; simp
   have HE2 := HEND.out HE
   clear HR HE HEND
   by_cases g0 : (j : Int) ≤ d
   ·by_cases g1 : (n0 : Int) ≤ k
    ·by_cases g2 : (n1 : Int) ≤ k
     ·have HV : Eqn ans (decide ((n2 : Int) ≤ k)) := by rw [Eqn, HE2.out]; simp [g0, g1, g2]
      clear HE2
      go_wp2_with fail
      go_ret
      exact ⟨ret_bool HV.out.symm, HB0.out⟩
     ·have HV : Eqn ans false := by rw [Eqn, HE2.out]; simp [g0, g1, g2]
      clear HE2
      go_wp2_with fail
      go_ret
      exact ⟨ret_bool HV.out.symm, HB0.out⟩
    ·have HV : Eqn ans false := by rw [Eqn, HE2.out]; simp [g0, g1]
     clear HE2
     go_wp2_with fail
     go_ret
     exact ⟨ret_bool HV.out.symm, HB0.out⟩
   ·have HV : Eqn ans false := by rw [Eqn, HE2.out]; simp [g0]
    clear HE2
    go_wp2_with fail
    go_ret
    exact ⟨ret_bool HV.out.symm, HB0.out⟩
end Go.Proofs.YtdpbbhbegehcjaaGreatDoor

namespace Go.Proofs.YtdpbbhbegehcjaaGreatDoor
open Go.RowKit Go.ChangeShapes Go.WideShapes Go.ChangeAt Go.Deep Go.Joins
theorem own : ownKnob Tryz.prog.godebug = none := by kernel_rfl
theorem laidOut : laidOutB Tryz.prog = true := by kernel_rfl
def laid07 : List (String × DataW Unit) := [("math/bits.deBruijn64tab", Rows.laid_math_bits_deBruijn64tab)]
theorem laidHold (os : Os) (args : Array Value) : laidMetH Tryz.prog laid07 ((World.laidAll Tryz.prog os laid07).forCall (fun _ _ => 0) ⟨#[], args, []⟩).memory := by
 rw [MakeChecks.laidMetH_plain _ _ _ (by kernel_rfl)]
 exact laidMet_laidAll _ (by kernel_rfl) (by kernel_rfl)
section
variable {H : Type} {enc : TypeId × Value → H}
theorem handed_laid {a : Assume} {C : Checked} {os : Os} {f : FuncId} {fn : Func} {s : ChangeSpec} {conds : List PathCond} {apart fresh handsOn again : Bool} {laid : List (String × DataW Unit)}
  (hown : ownKnob C.prog.godebug = none) (started : os.Started) (noInit : C.prog.inits.idxOf? f = none) (hfn : C.prog.funcs[f]? = some fn)
  (witness : ∃ (w : World) (tape : Tape) (i : Input), w.os = os ∧ (w.forCall tape i).Shaped C.prog ∧ i.vars = [] ∧ Input.okWide C.prog (w.forCall tape i) .any w.heap.size f i ∧
   ((s.pre enc C.prog fn conds apart (w.forCall tape i).memory i.args ∧ laidMetH C.prog laid (w.forCall tape i).memory) ∧ sizedMet enc C.prog fn (OpenSpec.ofChange s) apart (w.forCall tape i).memory i.args) ∧ a.holds C.prog (lone (Frame.enter C.prog f i.args .normal) [] (w.forCall tape i)))
  (contract : ∀ (W : World) (base : Nat) (args : Array Value) (ds gs : List (DataW H)) (before : List MemPlace),
   (∀ (j : Nat) t v, fn.params[j]? = some t → args[j]? = some v → Value.okWide C.prog W .any base t v) →
   DataW.Whole enc C.prog fn.params.toList s.vars apart W args.toList ds gs before →
   laidMetH C.prog laid W → W.ShapedOpen C.prog →
   Calls C.prog f args W fun e W' => ∃ v, e = .returned v ∧ s.post enc C.prog fn apart fresh handsOn again W args v W') :
  ReturnsInHanded a C os f .any (fun w args => (s.pre enc C.prog fn conds apart w args ∧ laidMetH C.prog laid w) ∧ sizedMet enc C.prog fn (OpenSpec.ofChange s) apart w args) (s.post enc C.prog fn apart fresh handsOn again) := by
 refine returnsInHanded_of_calls hown started noInit witness ?_
 intro w tape i _ hsh _ hok hpre _
 obtain ⟨_, _, _, fn', hfn', _, _, _, _, hval⟩ := hok
 obtain rfl : fn' = fn := Option.some.inj (hfn'.symm.trans hfn)
 obtain ⟨⟨⟨ds, gs, before, hw, _⟩, hx⟩, _⟩ := hpre
 refine (contract (w.forCall tape i) w.heap.size i.args ds gs before hval (DataW.Whole.of_heap (w' := w.forCall tape i) (by rfl) hw) (hx.of_heap (by rfl)) hsh).mono fun e W' ⟨v, he, hp⟩ => ?_
 subst he
 exact ChangeSpec.post_blind hp
end
theorem tab_of {W : World} (hL : laidMetH Tryz.prog laid07 W) (_ : W.ShapedOpen Tryz.prog) : Tab W := by
 rw [MakeChecks.laidMetH_plain _ _ _ (by kernel_rfl)] at hL
 have h2 : laidMet Tryz.prog (("math/bits.deBruijn64tab", Lib.tabData .u8 (Lib.deBruijn64tab.map fun n : Nat => (n : Int))) :: []) W := hL
 have t2 := Lib.tabIs_of_head (g := 0) (t := 218) (e := 5) (n := 64) (by kernel_rfl) (by kernel_rfl) (by kernel_rfl) (by kernel_rfl) (by kernel_rfl) (by kernel_rfl) h2
 have c1 := t2.cell (g := 0) (by kernel_rfl) 0 (by decide)
 have hsz : 0 < W.heap.size := (lt_of_cell c1).1
 refine ⟨by omega, fun j hj => ?_⟩
 have c2 := t2.cell (g := 0) (by kernel_rfl) j (by exact hj)
 rw [c2]
 congr 2
 rw [List.getD_eq_getElem?_getD, List.getElem?_map, List.getD_eq_getElem?_getD]
 cases Lib.deBruijn64tab[j]? <;> rfl
end Go.Proofs.YtdpbbhbegehcjaaGreatDoor

namespace Go.Proofs.YtdpbbhbegehcjaaGreatDoor
open Go.RowKit Go.Shelf
abbrev kd (g : Nat) : Nat → Prop := fun k => g < k
structure LemsAt (W : World) (v : Value) (O : List Lem) : Prop where
 row : ∃ A c, v = .slice A O.length c ∧ RowX 1 lemC W (fun _ => True) A O.length O
 all : ∀ m ∈ O, m.At W (fun _ => True)
structure PrfsAt (W : World) (v : Value) (O : List Prf) : Prop where
 row : ∃ A c, v = .slice A O.length c ∧ RowX 2 prfC W (fun _ => True) A O.length O
 all : ∀ y ∈ O, y.At W (fun _ => True)
theorem LemsAt.keep {W X : World} {v : Value} {O : List Lem} (h : LemsAt W v O) (hb : Below W.heap.size W X) : LemsAt X v O := by
 obtain ⟨⟨A, c, e, hr⟩, h2⟩ := h
 exact ⟨⟨A, c, e, hr.keep (by decide) hb⟩, fun m hm => (h2 m hm).keep hb⟩
theorem PrfsAt.keep {W X : World} {v : Value} {O : List Prf} (h : PrfsAt W v O) (hb : Below W.heap.size W X) : PrfsAt X v O := by
 obtain ⟨⟨A, c, e, hr⟩, h2⟩ := h
 exact ⟨⟨A, c, e, hr.keep (by decide) hb⟩, fun m hm => (h2 m hm).keep hb⟩
theorem lem_own {w u W : World} {L : List Ent} {ds : List Nat} {m : Lem} (h : Hp w u W L ds) (hm : Ent.row m.val 91 2 m.len (flat 2 chC m.chs) ∈ L) (hl : m.len ≤ 100000) : m.At W (fun _ => True) := by
 have h0 : W.ownsRow w.heap.size 91 2 m.val m.len (flat 2 chC m.chs) := h.all _ hm
 obtain ⟨A, n, c, chs⟩ := m
 have h1 := h0.1
 rw [flat_lenR] at h1
 dsimp only at h1
 obtain rfl : chs.length = n := by omega
 obtain ⟨A2, c2, e2, q2⟩ := rowX_own (p := fun _ => True) h0 (by decide) (fun _ _ => trivial)
 injection e2 with e2
 subst e2
 exact ⟨q2, hl⟩
theorem pkd_at {P : List Chs} {w : World} {e : Ending} {W : World} (h : PkdPost P w e W) : ∃ v O, e = .returned v ∧ O.map Lem.chs = P ∧ LemsAt W v O ∧ Below w.heap.size w W := by
 obtain ⟨v, O, rfl, hO, hl, hH⟩ := h
 refine ⟨v, O, rfl, hO, ⟨?_, fun m hm => lem_own hH (List.mem_cons_of_mem _ (List.mem_map.2 ⟨m, hm, rfl⟩)) (hl m hm)⟩, hH.below⟩
 have h0 := hH.row 0 rfl
 rw [← flat_lems] at h0
 obtain ⟨A, c, e, q⟩ := rowX_own (p := fun _ => True) h0 (by decide) (fun _ _ => trivial)
 exact ⟨A, c, e, q⟩
theorem prf_own {w u W : World} {L : List Ent} {ds : List Nat} {y : Prf} (h : Hp w u W L ds) (hy : (prfEnts y).Sublist L) (hl : y.Ok) : y.At W (fun _ => True) := prf_at (h.sub hy) (fun _ _ => trivial) hl
theorem prfs_sub {O : List Prf} {y : Prf} (hy : y ∈ O) : (prfEnts y).Sublist (prfsEnts O) := by
 induction O with
 | nil => cases hy
 | cons x r ih =>
  have e : prfsEnts (x :: r) = prfEnts x ++ prfsEnts r := rfl
  rw [e]
  rcases List.mem_cons.1 hy with rfl | h
  ·exact List.sublist_append_left _ _
  ·exact (ih h).trans (List.sublist_append_right _ _)
theorem rfd_at {Q : List Prv} {w : World} {e : Ending} {W : World} (h : RfdPost Q w e W) : ∃ v O, e = .returned v ∧ O.map Prf.say = Q ∧ PrfsAt W v O ∧ Below w.heap.size w W := by
 obtain ⟨v, O, rfl, hO, hl, hH⟩ := h
 refine ⟨v, O, rfl, hO, ⟨?_, fun y hy => prf_own hH ((prfs_sub hy).trans (List.sublist_cons_self _ _)) (hl y hy)⟩, hH.below⟩
 obtain ⟨A, c, e, q⟩ := rowX_own (p := fun _ => True) (hH.row 0 rfl) (by decide) (fun _ _ => trivial)
 exact ⟨A, c, e, q⟩
end Go.Proofs.YtdpbbhbegehcjaaGreatDoor
