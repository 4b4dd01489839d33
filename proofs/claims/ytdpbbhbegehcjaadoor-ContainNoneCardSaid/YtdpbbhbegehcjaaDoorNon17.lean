/- What ContainNone asks, in plain Lean: the sets of two of 47 stations, one after the other. Nothing of the program's walk is here. -/
import Derived.Test.YtdpbbhbegehcjaaDoorRows
import Derived.Test.YtdpbbhbegehcjaaDoorTie
import Derived.Test.YtdpbbhbegehcjaaDoorCards
import Derived.Test.YtdpbbhbegehcjaaDoorChecked
import Derived.KernelRfl
import Derived.Lay
import Derived.MakeChecks
import Derived.LaidOnce
import Derived.SevenTiedAt
import Derived.HandedShaped
import Derived.Stop.LaidErr
import Derived.Lib.SmallJoins
import Derived.Test.YtdpbbhbegehcjaaDoorNon03
import Derived.Test.YtdpbbhbegehcjaaDoorNon04
import Derived.Test.YtdpbbhbegehcjaaDoorNon05
import Derived.Test.YtdpbbhbegehcjaaDoorNon08
import Derived.Test.YtdpbbhbegehcjaaDoorNon10
import Derived.Test.YtdpbbhbegehcjaaDoorNon11
import Derived.Test.YtdpbbhbegehcjaaDoorNon12
import Derived.Test.YtdpbbhbegehcjaaDoorNon13
import Derived.Test.YtdpbbhbegehcjaaDoorNon14
import Derived.Test.YtdpbbhbegehcjaaDoorNon15
import Derived.Test.YtdpbbhbegehcjaaDoorNon16
set_option maxRecDepth 100000
set_option maxHeartbeats 4000000
namespace Go.Proofs.YtdpbbhbegehcjaaDoor
open Go.RowKit Go.Shelf
attribute [local go_sem] Oper.semAt_some
theorem valuesR_any (A : Option Addr) (m c f : Nat) (w : World) : Calls Tryd.prog 39 #[.agg #[.slice A m c], .func (.func f) #[] #[]] w fun e w' => e = .returned (.func (.func 59) #[] #[.pointer (some ⟨w.heap.size, 0, none⟩), .pointer (some ⟨w.heap.size + 1, 0, none⟩)]) ∧ w' = (w.alloc (.cells #[.slice A m c] 42)).alloc (.cells #[.func (.func f) #[] #[]] 87) := by
 go_enter Tryd.func39, Tryd.ntmps39
 go_wp2
 go_ret
 exact ⟨rfl, rfl⟩
theorem refutedIt_any (B : Nat) (p : Nat → Prop) (g : Nat) (x : StS) (w : World) (hS : StAt w B p g x) : Calls Tryd.prog 11 #[.pointer (some ⟨g, 0, none⟩)] w fun e w' =>
  ∃ kb cb, e = .returned (.func (.func 59) #[] #[.pointer (some ⟨kb, 0, none⟩), .pointer (some ⟨cb, 0, none⟩)]) ∧ Hp w w w' [.blk kb 42 [.slice x.ra x.rn x.rc], .blk cb 87 [.func (.func 24) #[] #[]]] [] := by
 have HMI := Lib.hid (missing_any g x.cells w hS.blk rfl)
 have k0 : w.cell? ⟨g, 14, none⟩ = some (.slice x.ra x.rn x.rc) := hS.blk.cell rfl
 have gl := hS.blk.lt
 have HV := Lib.hid (valuesR_any x.ra x.rn x.rc 24 w)
 clear hS
 go_enter Tryd.func11, Tryd.ntmps11
 go_wp2_with fail
 refine HMI.out.mono ?_
 rintro e W1 ⟨rfl, rfl⟩
 go_wp2_with fail
 refine HV.out.mono ?_
 rintro e W2 ⟨rfl, hW2⟩
 have hP := ((Hp.start w).alloc [.slice x.ra x.rn x.rc] 42).alloc [.func (.func 24) #[] #[]] 87
 simp only [World.size_alloc] at hP
 have HP := Lib.hid (show Hp w w W2 _ _ by rw [hW2]; exact hP)
 clear hP hW2
 go_wp2_with fail
 go_ret
 exact ⟨_, _, rfl, HP.out⟩
def prfC (y : Prf) : Nat → Value
 | 0 => y.v1
 | _ => y.v2
def prfsEnts (O : List Prf) : List Ent := O.flatMap prfEnts
theorem prfsEnts_snoc (O : List Prf) (y : Prf) : prfsEnts (O ++ [y]) = prfsEnts O ++ prfEnts y := by simp [prfsEnts]
theorem pr_info : (Tryd.prog.info? 50).map (fun i => (i.zero, i.size, i.bytes)) = some (some (.agg #[.slice none 0 0, .slice none 0 0]), 2, 48) := by kernel_rfl
def Prf.Ok (y : Prf) : Prop := y.sn ≤ 100000 ∧ y.ln ≤ 100000 ∧ ∀ m ∈ y.lms, m.len ≤ 100000
def RfdPost (Q : List Prv) (w : World) (e : Ending) (w' : World) : Prop := ∃ (v : Value) (O : List Prf), e = .returned v ∧ O.map Prf.say = Q ∧ (∀ y ∈ O, y.Ok) ∧ Hp w w w' (.row v 50 2 O.length (flat 2 prfC O) :: prfsEnts O) []
theorem perm_prf (e r1 r2 bp : Ent) (F P0 M0 : List Ent) : (e :: ((F ++ P0) ++ ([r1, r2] ++ M0)) ++ [bp]).Perm (r1 :: r2 :: bp :: e :: (F ++ (P0 ++ M0))) := by
 have h1 : (e :: ((F ++ P0) ++ ([r1, r2] ++ M0)) ++ [bp]).Perm (bp :: e :: ((F ++ P0) ++ ([r1, r2] ++ M0))) := List.perm_append_singleton _ (e :: _)
 have h2 : ((F ++ P0) ++ ([r1, r2] ++ M0)).Perm ([r1, r2] ++ (F ++ (P0 ++ M0))) := by
  rw [← List.append_assoc, ← List.append_assoc F P0 M0]
  refine (List.Perm.append_right M0 (List.perm_append_comm)).trans ?_
  rw [List.append_assoc]
 refine h1.trans ?_
 refine ((h2.cons e).cons bp).trans ?_
 have h3 : (bp :: e :: ([r1, r2] ++ (F ++ (P0 ++ M0)))).Perm ([r1, r2] ++ ([bp, e] ++ (F ++ (P0 ++ M0)))) := by
  show ([bp, e] ++ ([r1, r2] ++ (F ++ (P0 ++ M0)))).Perm _
  exact List.perm_append_comm_assoc _ _ _
 exact h3
theorem refuted_any (B : Nat) (p : Nat → Prop) (g : Nat) (x : StS) (w : World) (hS : StAt w B p g x) (hO : StOk x) : Calls Tryd.prog 13 #[.pointer (some ⟨g, 0, none⟩)] w (RfdPost x.Q w) := by
 obtain ⟨i0, hi, hz0, hz1, hz2⟩ := info_parts pr_info
 obtain ⟨p2, hp2⟩ : ∃ q, q = w.heap.size := ⟨_, rfl⟩
 obtain ⟨V0, hV0⟩ : ∃ V, V = w.alloc (.cells #[.slice none 0 0] 67) := ⟨_, rfl⟩
 have hP0 : Hp w w V0 [.blk p2 67 [.slice none 0 0]] [] := by
  have h := (Hp.start w).alloc [.slice none 0 0] 67
  rw [hV0, hp2]; exact h
 have HPI := Lib.hid (refutedIt_any B p g x V0 (hS.keep hP0.below))
 have HPE := Lib.hid (hS.res.mono (q := (· < w.heap.size)) (fun _ _ h => h))
 have HP0 := Lib.hid hP0
 have hrl := hO.rl
 have hpn : x.rn ≤ 100000 := by have := hS.res.1.1; omega
 have HPL : Hid (x.Q.length = x.re.length ∧ x.re.length ≤ 1000) := Lib.hid ⟨by unfold StS.Q; rw [List.length_map], hrl⟩
 have hsn : ∀ e ∈ x.re, e.v.sn ≤ 1000 := fun e he => by have h1 := (hO.res e he).2; have h2 := stOk_len h1; have h3 := (hS.res.2 e he).1.1; omega
 have HSNN := Lib.hid hsn
 clear hS hP0 hO hrl hsn
 have hnil := fun W b c => run_eql_func_nil (P := Tryd.prog) W 64 (.func 59) b c Tryd.underlying64
 refine (callsIn_wide (n := 6)).1 ?_
 refine callsIn_of_wp_marks Tryd.func13 rfl trivial ?_ rfl
 simp only [Tryd.ntmps13, List.size_toArray, List.length_cons, List.length_nil, Nat.reduceAdd, Nat.reduceSub, Array.replicate_succ, Array.replicate_zero, List.push_toArray, List.append_toArray, List.nil_append, List.cons_append]
 gi_upto_region 1 with fail
 rw [← hV0, ← hp2]
 clear hV0 hp2
 gi_wp2_with fail
 refine ⟨trivial, (callsIn_wide.2 HPI.out).mono ?_⟩
 rintro e W1 ⟨kb, cb, rfl, hH⟩
 have hP1 := HP0.out.join hH.below hH
 obtain ⟨p4, hp4⟩ : ∃ q, q = W1.heap.size := ⟨_, rfl⟩
 obtain ⟨W2, hW2⟩ : ∃ V, V = W1.alloc (.cells #[.slice none 0 0] 67) := ⟨_, rfl⟩
 have hP2 := (hP1.alloc [.slice none 0 0] 67).nil 50 2
 rw [show ([.slice none 0 0] : List Value).toArray = #[.slice none 0 0] from rfl, ← hW2, ← hp4] at hP2
 have HP2 := Lib.hid hP2
 clear hH hP1 hP2 HPI HP0
 gi_upto_region 5 with fail
 rw [← hW2, ← hp4]
 clear hW2 hp4
 have HSQ := Lib.hid (vals1R 5 (by decide) w.heap.size kb cb x.ra x.rn x.rc x.re W2 (HP2.out.blk 1 rfl) (HP2.out.blk 2 rfl) (HPE.out.keep HP2.out.below) HP2.out.below.size hpn HSNN.out)
 gi_wp2_with fail
 refine hp_hands (w := w) (ds := []) (σ := Value × List Prf) (fun s => [.blk p2 67 [.slice none 0 0], .blk kb 42 [.slice x.ra x.rn x.rc], .blk cb 87 [.func (.func 24) #[] #[]], .blk p4 67 [s.1], .row s.1 50 2 s.2.length (flat 2 prfC s.2)] ++ prfsEnts s.2)
  (fun pre s => s.2.length = pre.length ∧ (∀ y ∈ s.2, y.Ok) ∧ s.2.map Prf.say = x.Q.take pre.length) (fun _ _ _ => False) 2 (fun y => prfEnts y.2) (fun pre y => y.1 = pre.length ∧ y.2.Ok ∧ x.Q[pre.length]? = some y.2.say) ?a₁ 50 (fun y => [.slice y.2.sa y.2.sn y.2.sc, .slice y.2.la y.2.ln y.2.lc]) (by decide)
  (gf := 59) (lb := #[.pointer (some ⟨kb, 0, none⟩), .pointer (some ⟨cb, 0, none⟩)]) rfl (enters_of Tryd.func59 (by kernel_rfl) rfl) HSQ.out (Nat.le_refl _) (fun _ => rfl) (.slice none 0 0, []) ⟨rfl, fun _ h => (by cases h), by simp⟩ HP2.out (fun _ => rfl)
  (fun pre y L X Y hX hbl hG => ?give) ?assign ?body ?done ?stop
 case give =>
  obtain ⟨h1, ⟨e, he, hc, hs, hl, hm⟩, hH⟩ := hG
  have hA := HPE.out.2 e (List.mem_of_getElem? he)
  exact ⟨⟨h1, ⟨by rw [hs]; exact hA.2.2.2.1, by rw [hl]; exact hA.2.2.2.2, hm⟩, by unfold StS.Q; rw [List.getElem?_map, he, hc]; rfl⟩, hX.join hbl hH, fun e' he' => hH.low e' he'⟩
 case assign =>
  intro l y p W K hp hK
  unfold Prf.val Prf.v1 Prf.v2
  gi_wp2
  rw [← hp]
  exact hK
 case body =>
  rintro l pre ⟨k0, y⟩ e bp X ⟨v, O⟩ _ ⟨hO1, hO2, hO3⟩ ⟨hy1, hy2, hy3⟩ hX hlen
  dsimp only at *
  obtain rfl : k0 = O.length := hy1.trans hO1.symm
  obtain ⟨L0, hL0⟩ : ∃ L0, L0 = prfsEnts O := ⟨_, rfl⟩
  obtain ⟨M0, hM0⟩ : ∃ M0, M0 = lemEnts y.lms := ⟨_, rfl⟩
  unfold prfEnts at hX
  rw [← hL0, ← hM0] at hX
  have hX1 : Hp w X X (.row y.v1 3 1 y.sn (y.sts.map intV) :: .row y.v2 47 1 y.ln (y.lms.map Lem.val) :: .blk bp 50 [.slice y.sa y.sn y.sc, .slice y.la y.ln y.lc] :: e :: ([.blk p2 67 [.slice none 0 0], .blk kb 42 [.slice x.ra x.rn x.rc], .blk cb 87 [.func (.func 24) #[] #[]], .blk p4 67 [v], .row v 50 2 O.length (flat 2 prfC O)] ++ (L0 ++ M0))) [] := hX.perm (perm_prf _ _ _ _ _ _ _)
  have hyAt : y.At X (fun _ => True) := prf_at (u := X) (ds := []) (by unfold prfEnts; rw [← hM0]; exact hX.sub ((List.sublist_append_of_sublist_right (List.Sublist.refl _)).trans ((List.sublist_cons_self _ _).trans (List.sublist_append_left _ _)))) (fun _ _ => trivial) hy2
  obtain ⟨A1, c1, rfl⟩ := hX1.form 8 rfl
  have HX := Lib.hid hX1
  have HL0 := Lib.hid hL0
  have HO := Lib.hid (And.intro hO2 (And.intro hO3 hy3))
  have HPR := Eqn.mk hO1
  have HYO := Lib.hid hy2
  have HSL : Hid (y.sts.length = y.sn ∧ y.lms.length = y.ln) := Lib.hid ⟨hyAt.1.1, hyAt.2.1.1⟩
  have hol : O.length < 100000 := by have := HPL.out; omega
  have c7 := hX1.c 7 0 rfl rfl
  have l7 := hX1.lt 7 rfl
  have c2 := hX1.c 2 0 rfl rfl
  have d2 := hX1.c 2 1 rfl rfl
  have l2 := hX1.lt 2 rfl
  have HCL := Lib.hid (cloneL_any y X.drew (hyAt.keep (Below.refl _ _).drew))
  clear hL0 hM0 hX hX1 hO1 hO2 hO3 hy1 hy2 hy3 hlen hyAt
  unfold Prf.val Prf.v1 Prf.v2 at HCL
  gi_wp2_with fail
  refine Lx.regionTIn (C := fun W' => W'.cell? ⟨p4, 0, none⟩ = some (.slice A1 O.length c1)) (C' := fun _ => True) (hs := [0]) 5 (List.take 5 _) (List.drop 5 _) (List.take_append_drop 5 _).symm rfl (by kernel_rfl) (by kernel_rfl) (by kernel_rfl) (by kernel_rfl) c7 ?_
  simp only [List.take_succ_cons, List.take_zero, List.drop_succ_cons, List.drop_zero]
  repeat' (first | ((first | refine Lx.ln (fun K hK => ?_) | (first | (refine Lx.lp (v := ?_) ?_ (fun K hK => ?_); rotate_left 1; intro w' hCw; try dsimp only at hCw) | (refine Lx.lr (v := ?_) ?_ (fun K hK => ?_); rotate_left 1)); go_simp; first | done | with_reducible rfl); go_simp; refine hK _ ?_; clear hK K) | (refine Lx.le (fun K hK => ?_); go_simp; (first | (go_at_call 40; refine HCL.out.mono ?_; rintro e' W6 ⟨y6, rfl, hsay, hln, hH⟩; have hP6 := HX.out.drew.join hH.below hH; have HP6 := Lib.hid hP6; have HC6 := Lib.hid (hP6.c 7 0 rfl rfl); have HC7 := Lib.hid (fun o => (HP6.out.alloc0 o).c 7 0 rfl rfl); have HY6 := Lib.hid (And.intro hsay hln); clear hsay hln hH hP6; unfold Prf.val Prf.v1 Prf.v2) | skip); refine hK _ _ (by first | exact HC6.out | exact HC7.out _) ?_; clear hK K))
  refine Lx.lex_append rfl rfl _ _ 67 rfl w.heap.size 50 i0 (.agg #[.slice none 0 0, .slice none 0 0]) 2 48 Tryd.underlying67 hi hz0 hz1 hz2 rfl (by decide) _ _ _ rfl ((HP6.out.row 8 rfl).alloc _) ⟨W6.heap.size, 0, none⟩ 1 1 [.slice y6.sa y6.sn y6.sc, .slice y6.la y6.ln y6.lc] rfl rfl (by exact cells_newR W6 _ _) (by simp [Value.oneCell']) (by unfold maxLen; omega) (by omega) (by have := HP6.out.below.size; simp; omega) ?_
  intro v' w8 hown' hgrow hat
  have hP8 := (HP6.out.alloc0 _).grow 8 rfl hgrow hown' hat
  obtain ⟨A8, c8, rfl⟩ := hP8.form 8 rfl
  refine ⟨hP8.c 7 0 rfl rfl, ?_⟩
  obtain ⟨O2, hO2⟩ : ∃ O2, O2 = O ++ [y6] := ⟨_, rfl⟩
  obtain ⟨V9, hV9⟩ : ∃ V, V = w8.setCell ⟨p4, 0, none⟩ (.slice A8 (O.length + 1) c8) := ⟨_, rfl⟩
  have hP9 : Hp w X V9 (.row (.slice y.sa y.sn y.sc) 3 1 y.sn (y.sts.map intV) :: .row (.slice y.la y.ln y.lc) 47 1 y.ln (y.lms.map Lem.val) :: .blk bp 50 [.slice y.sa y.sn y.sc, .slice y.la y.ln y.lc] :: e :: ([.blk p2 67 [.slice none 0 0], .blk kb 42 [.slice x.ra x.rn x.rc], .blk cb 87 [.func (.func 24) #[] #[]], .blk p4 67 [.slice A8 (O.length + 1) c8], .row (.slice A8 (O.length + 1) c8) 50 2 O2.length (flat 2 prfC O2)] ++ prfsEnts O2)) [] := by
   rw [hV9, hO2, prfsEnts_snoc, ← HL0.out, show flat 2 prfC (O ++ [y6]) = flat 2 prfC O ++ [y6.v1, y6.v2] by unfold flat; rw [List.flatMap_append]; rfl, List.length_append]
   have h := (hP8.set 7 0 (.slice A8 (O.length + 1) c8) rfl)
   refine h.sub ?_
   exact List.Sublist.cons_cons _ (List.Sublist.cons_cons _ (List.Sublist.cons_cons _ (List.Sublist.cons_cons _ (List.Sublist.cons_cons _ (List.Sublist.cons_cons _ (List.Sublist.cons_cons _ (List.Sublist.cons_cons _ (List.Sublist.cons_cons _ (show List.Sublist (L0 ++ prfEnts y6) ((L0 ++ M0) ++ prfEnts y6) from List.Sublist.append (List.sublist_append_left L0 M0) (List.Sublist.refl _))))))))))
  have HP9 := Lib.hid hP9
  have HO2 := Lib.hid hO2
  have c9 : w8.cell? ⟨p4, 0, none⟩ = some (.slice A1 O.length c1) := hP8.c 7 0 rfl rfl
  have f9 : ∀ o, w8.frozen? ⟨p4, o, none⟩ = false := hP8.f 7 rfl
  have l9 : p4 < w8.heap.size := hP8.lt 7 rfl
  clear hP8 hown' hgrow hat hO2 hP9 c7 l7 c2 d2 l2
  refine Lx.lex_nil ⟨trivial, ?_⟩
  go_simp
  repeat' (first | ((first | refine Lx.ln (fun K hK => ?_) | (first | (refine Lx.lp (v := ?_) ?_ (fun K hK => ?_); rotate_left 1; intro w' hCw; try dsimp only at hCw) | (refine Lx.lr (v := ?_) ?_ (fun K hK => ?_); rotate_left 1)); go_simp; first | done | with_reducible rfl); go_simp; refine hK _ ?_; clear hK K) | (refine Lx.le (fun K hK => ?_); go_simp; (first | skip); refine hK _ _ (trivial) ?_; clear hK K))
  all_goals (refine Lx.lex_nil ?_)
  rw [← hV9]
  clear hV9 c9 f9 l9 HP6 HC6 HC7 HX HCL
  obtain ⟨sa, sn, sc, sts, la, ln, lc, lms⟩ := y
  dsimp only at *
  have hsn : sn ≤ 100000 := HYO.out.1
  have hln : ln ≤ 100000 := HYO.out.2.1
  have HCS0 : Hid (∃ cs : List Value, cs.length = sn ∧ Hp w X V9 (.row (.slice sa sn sc) 3 1 sn cs :: .row (.slice la ln lc) 47 1 ln (lms.map Lem.val) :: .blk bp 50 [.slice sa sn sc, .slice la ln lc] :: e :: ([.blk p2 67 [.slice none 0 0], .blk kb 42 [.slice x.ra x.rn x.rc], .blk cb 87 [.func (.func 24) #[] #[]], .blk p4 67 [.slice A8 (O.length + 1) c8], .row (.slice A8 (O.length + 1) c8) 50 2 O2.length (flat 2 prfC O2)] ++ prfsEnts O2)) []) := Lib.hid ⟨_, by rw [List.length_map, HSL.out.1], HP9.out⟩
  clear HP9
  gi_wp2_with fail
  gi_loopw [7] (fun i wr => ∃ (k : Nat) (cs : List Value), k ≤ sn ∧ i = .int .i64 k ∧ cs.length = sn ∧ Hp w X wr (.row (.slice sa sn sc) 3 1 sn cs :: .row (.slice la ln lc) 47 1 ln (lms.map Lem.val) :: .blk bp 50 [.slice sa sn sc, .slice la ln lc] :: e :: ([.blk p2 67 [.slice none 0 0], .blk kb 42 [.slice x.ra x.rn x.rc], .blk cb 87 [.func (.func 24) #[] #[]], .blk p4 67 [.slice A8 (O.length + 1) c8], .row (.slice A8 (O.length + 1) c8) 50 2 O2.length (flat 2 prfC O2)] ++ prfsEnts O2)) []) (fun i _ => sn - (intOf i).toNat)
  case atStart => obtain ⟨cs, h1, h2⟩ := HCS0.out; exact ⟨0, cs, Nat.zero_le _, rfl, h1, h2⟩
  case round =>
   clear HCS0
   obtain ⟨k, cs, hk, rfl, hcs, hP⟩ := hrel
   have HP := Lib.hid hP
   by_cases hlt : k < sn
   ·have j0 : (k : Int) < (sn : Int) := by omega
    obtain ⟨z, hz⟩ : ∃ z, cs[k]? = some z := ⟨_, List.getElem?_eq_getElem (by omega)⟩
    obtain ⟨b, c', hb', z0, zf, zl⟩ := hP.at 0 k rfl hz
    injection hb' with hb' _ hc'
    subst hb' hc'
    have HCS := Eqn.mk hcs
    have c2 := hP.c 2 0 rfl rfl
    have l2 := hP.lt 2 rfl
    clear hP hz hcs
    gi_wp2_with fail
    go_roundw
    case rel => exact ⟨k + 1, cs.set k (.int .i64 500), hlt, by go_num, by rw [List.length_set, HCS.out], HP.out.setRow 0 k (.int .i64 500) rfl⟩
    case measure => simp [intOf]; omega
   ·obtain rfl : k = sn := by omega
    have c2 := hP.c 2 0 rfl rfl
    have l2 := hP.lt 2 rfl
    have HCS := Eqn.mk hcs
    clear hP hcs
    have HCS0 : Hid (∃ cs2 : List Value, cs2.length = ln ∧ Hp w X wr (.row (.slice sa k sc) 3 1 k cs :: .row (.slice la ln lc) 47 1 ln cs2 :: .blk bp 50 [.slice sa k sc, .slice la ln lc] :: e :: ([.blk p2 67 [.slice none 0 0], .blk kb 42 [.slice x.ra x.rn x.rc], .blk cb 87 [.func (.func 24) #[] #[]], .blk p4 67 [.slice A8 (O.length + 1) c8], .row (.slice A8 (O.length + 1) c8) 50 2 O2.length (flat 2 prfC O2)] ++ prfsEnts O2)) []) := Lib.hid ⟨_, by rw [List.length_map, HSL.out.2], HP.out⟩
    clear HP
    gi_wp2_with fail
    obtain ⟨wo, rfl⟩ : ∃ wo : World, wo = wr := ⟨_, rfl⟩
    clear c2 l2
    gi_loopw [8] (fun i wr => ∃ (k2 : Nat) (cs2 : List Value), k2 ≤ ln ∧ i = .int .i64 k2 ∧ cs2.length = ln ∧ Hp w X wr (.row (.slice sa k sc) 3 1 k cs :: .row (.slice la ln lc) 47 1 ln cs2 :: .blk bp 50 [.slice sa k sc, .slice la ln lc] :: e :: ([.blk p2 67 [.slice none 0 0], .blk kb 42 [.slice x.ra x.rn x.rc], .blk cb 87 [.func (.func 24) #[] #[]], .blk p4 67 [.slice A8 (O.length + 1) c8], .row (.slice A8 (O.length + 1) c8) 50 2 O2.length (flat 2 prfC O2)] ++ prfsEnts O2)) []) (fun i _ => ln - (intOf i).toNat)
    case atStart => obtain ⟨cs2, h1, h2⟩ := HCS0.out; exact ⟨0, cs2, Nat.zero_le _, rfl, h1, h2⟩
    case round =>
     clear HCS0
     obtain ⟨k2, cs2, hk2, rfl, hcs2, hP⟩ := hrel
     have HP := Lib.hid hP
     by_cases hlt2 : k2 < ln
     ·have j0 : (k2 : Int) < (ln : Int) := by omega
      obtain ⟨z, hz⟩ : ∃ z, cs2[k2]? = some z := ⟨_, List.getElem?_eq_getElem (by omega)⟩
      obtain ⟨b, c', hb', z0, zf, zl⟩ := hP.at 1 k2 rfl hz
      injection hb' with hb' _ hc'
      subst hb' hc'
      have HCS2 := Eqn.mk hcs2
      have c2 := hP.c 2 1 rfl rfl
      have l2 := hP.lt 2 rfl
      clear hP hz hcs2
      gi_wp2_with fail
      go_roundw
      case rel => exact ⟨k2 + 1, cs2.set k2 (.slice none 0 0), hlt2, by go_num, by rw [List.length_set, HCS2.out], HP.out.setRow 1 k2 (.slice none 0 0) rfl⟩
      case measure => simp [intOf]; omega
     ·have c2 := hP.c 2 1 rfl rfl
      have l2 := hP.lt 2 rfl
      have j0 : ¬ (k2 : Int) < (ln : Int) := by omega
      clear hP hcs2
      gi_wp2_with fail
      refine ⟨(.slice A8 (O.length + 1) c8, O2), ⟨?_, ?_, ?_⟩, HP.out.sub (List.Sublist.cons _ (List.Sublist.cons _ (List.Sublist.cons _ (List.Sublist.refl _))))⟩
      ·rw [HO2.out, List.length_append, List.length_append, HPR.out]; rfl
      ·intro m hm
       rw [HO2.out] at hm
       rcases List.mem_append.1 hm with hm | hm
       ·exact HO.out.1 m hm
       ·rw [List.mem_singleton] at hm; subst hm
        have h1 := HY6.out.2
        exact ⟨by rw [h1.1]; exact HYO.out.1, by rw [h1.2.1]; exact HYO.out.2.1, h1.2.2⟩
      ·dsimp only
       rw [HO2.out, List.map_append, HO.out.2.1, List.length_append]
       rw [show [y6].map Prf.say = [y6.say] from rfl, HY6.out.1]
       exact (take_snoc' HO.out.2.2).symm
 case done =>
  rintro D xs X ⟨v, O⟩ hS ⟨hO1, hO2, hO3⟩ hX
  dsimp only at hO1 hO2 hO3 hX
  obtain ⟨A1, c1, rfl⟩ := hX.form 4 rfl
  have hO4 : O.map Prf.say = x.Q := by rw [hO3, List.take_of_length_le]; have := HPL.out; have hS : xs.length = x.re.length := hS; omega
  have HO := Lib.hid (And.intro hO2 hO4)
  have HX := Lib.hid hX
  have r2 := hX.c 0 0 rfl rfl
  have f2 := hX.f 0 rfl
  have l2 := hX.lt 0 rfl
  have r4 := hX.c 3 0 rfl rfl
  have l4 := hX.lt 3 rfl
  clear hX hO1 hO2 hO3 hO4 hS
  gi_wp2_with fail
  show LeavesInM _ _ _ _ _ _ (marksOf [D]) .returning _
  refine hp_leaves (fun Y hY => ?_) _ _ _ (HX.out.set 0 0 (.slice A1 O.length c1) rfl)
  exact ⟨.slice A1 O.length c1, by simp [results, Tryd.results13, go_sem, hY.c 0 0 rfl rfl], _, O, rfl, HO.out.2, HO.out.1, Hp.all0 <| hY.sub (List.Sublist.cons _ (List.Sublist.cons _ (List.Sublist.cons _ (List.Sublist.cons _ (List.Sublist.refl _)))))⟩
 case stop =>
  rintro D c pre X s _ h
  exact h.elim
end Go.Proofs.YtdpbbhbegehcjaaDoor

namespace Go.Proofs.YtdpbbhbegehcjaaDoor
open Go.RowKit
end Go.Proofs.YtdpbbhbegehcjaaDoor

namespace Go.Proofs.YtdpbbhbegehcjaaDoor
open Go.RowKit Go.Shelf
end Go.Proofs.YtdpbbhbegehcjaaDoor

namespace Go.Proofs.YtdpbbhbegehcjaaDoor
open Go.RowKit Go.ChangeShapes Go.WideShapes Go.ChangeAt Go.Deep Go.Joins
section
variable {H : Type} {enc : TypeId × Value → H} {w : World} {base b0 : Nat} {spare : Nat → Bool} {held : Bool} {r : Reach}
def Acd.val (x : Acd) : Value := .agg #[.int .i64 x.kind, .slice x.ch.adr x.ch.len x.ch.cap, .slice x.pr.sa x.pr.sn x.pr.sc, .slice x.pr.la x.pr.ln x.pr.lc, .slice x.ta x.tn x.tc]
end
end Go.Proofs.YtdpbbhbegehcjaaDoor

namespace Go.Proofs.YtdpbbhbegehcjaaDoor
open Go.RowKit
end Go.Proofs.YtdpbbhbegehcjaaDoor

namespace Go.Proofs.YtdpbbhbegehcjaaDoor
open Go.RowKit Go.ChangeShapes Go.WideShapes Go.ChangeAt Go.Deep Go.Joins
theorem own : ownKnob Tryd.prog.godebug = none := by kernel_rfl
theorem laidOut : laidOutB Tryd.prog = true := by kernel_rfl
def laid07 : List (String × DataW Unit) := [("math/bits.deBruijn64tab", Rows.laid_math_bits_deBruijn64tab)]
theorem laidHold (os : Os) (args : Array Value) : laidMetH Tryd.prog laid07 ((World.laidAll Tryd.prog os laid07).forCall (fun _ _ => 0) ⟨#[], args, []⟩).memory := by
 rw [MakeChecks.laidMetH_plain _ _ _ (by kernel_rfl)]
 exact laidMet_laidAll _ (by kernel_rfl) (by kernel_rfl)
section
variable {H : Type} {enc : TypeId × Value → H}
theorem handed_laid {a : Assume} {C : Checked} {os : Os} {f : FuncId} {fn : Func} {s : ChangeSpec} {conds : List PathCond} {apart fresh handsOn again : Bool} {laid : List (String × DataW Unit)}
  (hown : ownKnob C.prog.godebug = none) (started : os.Started) (noInit : C.prog.inits.idxOf? f = none) (hfn : C.prog.funcs[f]? = some fn)
  (witness : ∃ (w : World) (tape : Tape) (i : Input), w.os = os ∧ (w.forCall tape i).Shaped C.prog ∧ i.vars = [] ∧ Input.okWide C.prog (w.forCall tape i) .any w.heap.size f i ∧
   ((s.pre enc C.prog fn conds apart (w.forCall tape i).memory i.args ∧ laidMetH C.prog laid (w.forCall tape i).memory) ∧ sizedMet enc C.prog fn (OpenSpec.ofChange s) apart (w.forCall tape i).memory i.args) ∧ a.holds C.prog (lone (Frame.enter C.prog f i.args .normal) [] (w.forCall tape i)))
  (contract : ∀ (W : World) (base : Nat) (args : Array Value) (ds gs : List (DataW H)) (before : List MemPlace),
   (∀ (j : Nat) t v, fn.params[j]? = some t → args[j]? = some v → Value.okWide C.prog W .any base t v) →
   DataW.Whole enc C.prog fn.params.toList s.vars apart W args.toList ds gs before →
   laidMetH C.prog laid W → W.ShapedOpen C.prog →
   Calls C.prog f args W fun e W' => ∃ v, e = .returned v ∧ s.post enc C.prog fn apart fresh handsOn again W args v W') :
  ReturnsInHanded a C os f .any (fun w args => (s.pre enc C.prog fn conds apart w args ∧ laidMetH C.prog laid w) ∧ sizedMet enc C.prog fn (OpenSpec.ofChange s) apart w args) (s.post enc C.prog fn apart fresh handsOn again) := by
 refine returnsInHanded_of_calls hown started noInit witness ?_
 intro w tape i _ hsh _ hok hpre _
 obtain ⟨_, _, _, fn', hfn', _, _, _, _, hval⟩ := hok
 obtain rfl : fn' = fn := Option.some.inj (hfn'.symm.trans hfn)
 obtain ⟨⟨⟨ds, gs, before, hw, _⟩, hx⟩, _⟩ := hpre
 refine (contract (w.forCall tape i) w.heap.size i.args ds gs before hval (DataW.Whole.of_heap (w' := w.forCall tape i) (by rfl) hw) (hx.of_heap (by rfl)) hsh).mono fun e W' ⟨v, he, hp⟩ => ?_
 subst he
 exact ChangeSpec.post_blind hp
end
theorem tab_of {W : World} (hL : laidMetH Tryd.prog laid07 W) (_ : W.ShapedOpen Tryd.prog) : Tab W := by
 rw [MakeChecks.laidMetH_plain _ _ _ (by kernel_rfl)] at hL
 have h2 : laidMet Tryd.prog (("math/bits.deBruijn64tab", Lib.tabData .u8 (Lib.deBruijn64tab.map fun n : Nat => (n : Int))) :: []) W := hL
 have t2 := Lib.tabIs_of_head (g := 0) (t := 174) (e := 5) (n := 64) (by kernel_rfl) (by kernel_rfl) (by kernel_rfl) (by kernel_rfl) (by kernel_rfl) (by kernel_rfl) h2
 have c1 := t2.cell (g := 0) (by kernel_rfl) 0 (by decide)
 have hsz : 0 < W.heap.size := (lt_of_cell c1).1
 refine ⟨by omega, fun j hj => ?_⟩
 have c2 := t2.cell (g := 0) (by kernel_rfl) j (by exact hj)
 rw [c2]
 congr 2
 rw [List.getD_eq_getElem?_getD, List.getElem?_map, List.getD_eq_getElem?_getD]
 cases Lib.deBruijn64tab[j]? <;> rfl
end Go.Proofs.YtdpbbhbegehcjaaDoor

namespace Go.Proofs.YtdpbbhbegehcjaaDoor
open Go.RowKit Go.Shelf
abbrev kd (g : Nat) : Nat → Prop := fun k => g < k
end Go.Proofs.YtdpbbhbegehcjaaDoor

namespace Go.Proofs.YtdpbbhbegehcjaaDoor
open Go.RowKit
abbrev DS := List (Int × List Int)
def Has (l : Chs) (D : DS) : Prop := ∀ d ∈ D, onF l d.1 ∈ d.2
section
variable {ds : List Dom} {r : Rul} {l : Chs} {D : DS}
end
end Go.Proofs.YtdpbbhbegehcjaaDoor

namespace Go.Proofs.YtdpbbhbegehcjaaDoor
open Go.RowKit Go.Shelf
end Go.Proofs.YtdpbbhbegehcjaaDoor

namespace Go.Proofs.YtdpbbhbegehcjaaDoor
open Go.RowKit
namespace Lx
section
variable {P : Program} {ops : Array Oper} {C : World → Prop} {hs : List Nat}
end
section
variable {P : Program} {ops : Array Oper} {C : World → Prop} {hs : List Nat} {Q : Act → World → Prop} {k : Nat} {o : Oper} {r : List (Nat × Oper)} {a : Act} {w : World}
end
end Lx
namespace Lx
inductive Tr where
 | done
 | op (i : Nat) (t : Tr)
 | alt (t u : Tr)
def pick (p : Nat → Bool) (j : Nat) : Tr → Option Tr
 | .done => none
 | .op i t => if i = j then some t else if p i then none else (pick p j t).map (.op i)
 | .alt t u => match pick p j t with | some x => some x | none => pick p j u
section
variable {P : Program} {ops : Array Oper} {C : World → Prop} {hs : List Nat}
end
inductive TrO where
 | done
 | op (i : Nat) (o : Oper) (t : TrO)
 | alt (t u : TrO)
section
variable {P : Program} {ops : Array Oper} {C : World → Prop} {hs : List Nat} {Q : Act → World → Prop} {k : Nat} {o : Oper} {r r' : TrO} {a : Act} {w : World}
end
end Lx
end Go.Proofs.YtdpbbhbegehcjaaDoor

namespace Go.Proofs.YtdpbbhbegehcjaaDoor
open Go.RowKit Go.Shelf
def domEnts (E : List Dom) : List Ent := E.map fun d => .row (.slice d.adr d.len d.cap) 3 1 d.len (d.chs.map intV)
theorem domEnts_snoc (E : List Dom) (d : Dom) : domEnts (E ++ [d]) = domEnts E ++ [.row (.slice d.adr d.len d.cap) 3 1 d.len (d.chs.map intV)] := by simp [domEnts]
theorem doms_own {w u W : World} {ds : List Nat} {E : List Dom} {A : Option Addr} {c : Nat} (h : Hp w u W (.row (.slice A E.length c) 70 2 E.length (flat 2 Dom.cell E) :: domEnts E) ds) : DomsAt W W.heap.size A E.length E :=
 ⟨rowS_own (by decide) (h.row 0 rfl), fun d hd => by
  have h1 : Ent.holds w.heap.size W (.row (.slice d.adr d.len d.cap) 3 1 d.len (d.chs.map intV)) := h.all _ (List.mem_cons_of_mem _ (List.mem_map.2 ⟨d, hd, rfl⟩))
  exact row1_own h1⟩
end Go.Proofs.YtdpbbhbegehcjaaDoor

namespace Go.Proofs.YtdpbbhbegehcjaaDoor
open Go.RowKit Go.Shelf Go.ChangeShapes Go.WideShapes Go.ChangeAt
theorem NoSt.keep {w W : World} {p : Value} (h : NoSt w p) (hb : Below w.heap.size w W) : NoSt W p := by
 rcases h with h | ⟨g, h1, h2, h3⟩
 ·exact .inl h
 ·exact .inr ⟨g, h1, (hb.cell (p := ⟨g, 12, none⟩) h3).trans h2, Nat.lt_of_lt_of_le h3 hb.size⟩
theorem pack_no (v s : Value) (w : World) (h : NoSt w v) : Calls Tryd.prog 7 #[v, s] w fun e w' => e = .returned (.int .i64 1) ∧ w = w' := by
 have HMI := Lib.hid (missing_no v w h)
 clear h
 go_enter Tryd.func7, Tryd.ntmps7
 go_wp2_with fail
 refine HMI.out.mono ?_
 rintro e W1 ⟨rfl, rfl⟩
 go_wp2_with fail
 go_ret
 exact ⟨rfl, rfl⟩
theorem copy_no (v : Value) (w : World) (h : NoSt w v) : Calls Tryd.prog 9 #[v] w fun e w' => e = .returned (.pointer none) ∧ w = w' := by
 have HMI := Lib.hid (missing_no v w h)
 clear h
 go_enter Tryd.func9, Tryd.ntmps9
 go_wp2_with fail
 refine HMI.out.mono ?_
 rintro e W1 ⟨rfl, rfl⟩
 go_wp2_with fail
 go_ret
 exact ⟨rfl, rfl⟩
theorem packedIt_no (v : Value) (w : World) (h : NoSt w v) : Calls Tryd.prog 10 #[v] w fun e w' => e = .returned (.func (.func 35) #[] #[]) ∧ w = w' := by
 have HMI := Lib.hid (missing_no v w h)
 clear h
 go_enter Tryd.func10, Tryd.ntmps10
 go_wp2_with fail
 refine HMI.out.mono ?_
 rintro e W1 ⟨rfl, rfl⟩
 go_wp2_with fail
 go_ret
 exact ⟨rfl, rfl⟩
theorem refutedIt_no (v : Value) (w : World) (h : NoSt w v) : Calls Tryd.prog 11 #[v] w fun e w' => e = .returned (.func (.func 38) #[] #[]) ∧ w = w' := by
 have HMI := Lib.hid (missing_no v w h)
 clear h
 go_enter Tryd.func11, Tryd.ntmps11
 go_wp2_with fail
 refine HMI.out.mono ?_
 rintro e W1 ⟨rfl, rfl⟩
 go_wp2_with fail
 go_ret
 exact ⟨rfl, rfl⟩
theorem refute_no (v : Value) (y : Prf) (w : World) (h : NoSt w v) : Calls Tryd.prog 8 #[v, y.val] w fun e w' => e = .returned (.int .i64 1) ∧ Below w.heap.size w w' := by
 obtain ⟨V0, hV0⟩ : ∃ V0, V0 = w.alloc (.cells #[.slice y.sa y.sn y.sc, .slice y.la y.ln y.lc] 50) := ⟨_, rfl⟩
 have hb0 : Below w.heap.size w V0 := by rw [hV0]; exact (Below.refl _ w).alloc (Nat.le_refl _) _
 have HMI := Lib.hid (missing_no v V0 (h.keep hb0))
 have HB0 := Lib.hid hb0
 unfold Prf.val Prf.v1 Prf.v2
 clear h hb0
 go_enter Tryd.func8, Tryd.ntmps8
 go_upto_region 1 with fail
 rw [← hV0]
 clear hV0
 go_wp2_with fail
 refine HMI.out.mono ?_
 rintro e W1 ⟨rfl, rfl⟩
 go_wp2_with fail
 go_ret
 exact ⟨rfl, HB0.out⟩
theorem lookup_no (v s : Value) (w : World) (h : NoSt w v) : Calls Tryd.prog 5 #[v, s] w fun e w' => e = .returned (.tuple #[.agg #[.int .i64 0, .slice none 0 0, .slice none 0 0, .slice none 0 0, .int .i64 0], .int .i64 1]) ∧ Below w.heap.size w w' := by
 obtain ⟨p4, hp4⟩ : ∃ q, q = w.heap.size := ⟨_, rfl⟩
 obtain ⟨V0, hV0⟩ : ∃ V0, V0 = w.alloc (.cells #[.int .i64 0, .slice none 0 0, .slice none 0 0, .slice none 0 0, .int .i64 0] 52) := ⟨_, rfl⟩
 have hP0 : Hp w w V0 [.blk p4 52 [.int .i64 0, .slice none 0 0, .slice none 0 0, .slice none 0 0, .int .i64 0]] [] := by
  have h := (Hp.start w).alloc [.int .i64 0, .slice none 0 0, .slice none 0 0, .slice none 0 0, .int .i64 0] 52
  rw [hV0, hp4]; exact h
 have HP0 := Lib.hid hP0
 have HMI := Lib.hid (missing_no v V0 (h.keep hP0.below))
 clear hP0 h
 go_enter Tryd.func5, Tryd.ntmps5
 go_upto_region 1 with fail
 rw [← hV0, ← hp4]
 clear hV0 hp4
 go_wp2_with fail
 refine HMI.out.mono ?_
 rintro e W1 ⟨rfl, rfl⟩
 have f0 := HP0.out.f 0 rfl
 have r0 := HP0.out.c 0 0 rfl rfl
 have r1 := HP0.out.c 0 1 rfl rfl
 have r2 := HP0.out.c 0 2 rfl rfl
 have r3 := HP0.out.c 0 3 rfl rfl
 have r4 := HP0.out.c 0 4 rfl rfl
 have rl := HP0.out.lt 0 rfl
 go_wp2_with fail
 have hP13 := ((((HP0.out.set 0 0 (.int .i64 0) rfl).set 0 1 (.slice none 0 0) rfl).set 0 2 (.slice none 0 0) rfl).set 0 3 (.slice none 0 0) rfl).set 0 4 (.int .i64 0) rfl
 refine bodyPost_ret (v := .tuple #[.agg #[.int .i64 0, .slice none 0 0, .slice none 0 0, .slice none 0 0, .int .i64 0], .int .i64 1]) (by simp [results, Tryd.results5, go_sem, hP13.c 0 0 rfl rfl, hP13.c 0 1 rfl rfl, hP13.c 0 2 rfl rfl, hP13.c 0 3 rfl rfl, hP13.c 0 4 rfl rfl]) rfl ?_
 exact ⟨rfl, hP13.below⟩
theorem none1P {α : Type} (n : Nat) (encs : α → Array Value) (Kp : World → World → Prop) (G : List α → α → World → World → Prop) (w : World) : SeqHands Fence.wide n Tryd.prog 35 #[] encs Kp false G (fun xs => xs = []) (fun _ => False) 0 w := by
 intro l J Jx W hW hJ hJx hY h0
 have HJ := Lib.hid h0
 clear hW hJ hJx hY h0
 refine callsIn_of_wp_marks Tryd.func35 rfl trivial ?_ rfl
 simp only [Tryd.ntmps35, List.size_toArray, List.length_cons, List.length_nil, Nat.reduceAdd, Nat.reduceSub, Array.replicate_succ, Array.replicate_zero, List.push_toArray, List.append_toArray, List.nil_append, List.cons_append]
 gi_wp2_with fail
 all_goals exact ⟨_, results_none rfl _ _ _, ⟨_, rfl⟩, .inl ⟨[], rfl, HJ.out⟩⟩
theorem packed_no (v : Value) (w : World) (h : NoSt w v) : Calls Tryd.prog 12 #[v] w fun e w' => e = .returned (.slice none 0 0) ∧ Below w.heap.size w w' := by
 obtain ⟨p2, hp2⟩ : ∃ q, q = w.heap.size := ⟨_, rfl⟩
 obtain ⟨V0, hV0⟩ : ∃ V, V = w.alloc (.cells #[.slice none 0 0] 48) := ⟨_, rfl⟩
 have hP0 : Hp w w V0 [.blk p2 48 [.slice none 0 0]] [] := by
  have h := (Hp.start w).alloc [.slice none 0 0] 48
  rw [hV0, hp2]; exact h
 have HPI := Lib.hid (packedIt_no v V0 (h.keep hP0.below))
 have HP0 := Lib.hid hP0
 clear hP0 h
 have hnil := fun W b c => run_eql_func_nil (P := Tryd.prog) W 61 (.func 35) b c Tryd.underlying61
 refine (callsIn_wide (n := 6)).1 ?_
 refine callsIn_of_wp_marks Tryd.func12 rfl trivial ?_ rfl
 simp only [Tryd.ntmps12, List.size_toArray, List.length_cons, List.length_nil, Nat.reduceAdd, Nat.reduceSub, Array.replicate_succ, Array.replicate_zero, List.push_toArray, List.append_toArray, List.nil_append, List.cons_append]
 gi_upto_region 1 with fail
 rw [← hV0, ← hp2]
 clear hV0 hp2
 gi_wp2_with fail
 refine ⟨trivial, (callsIn_wide.2 HPI.out).mono ?_⟩
 rintro e W1 ⟨rfl, rfl⟩
 obtain ⟨p4, hp4⟩ : ∃ q, q = V0.heap.size := ⟨_, rfl⟩
 obtain ⟨W2, hW2⟩ : ∃ V, V = V0.alloc (.cells #[.slice none 0 0] 48) := ⟨_, rfl⟩
 have hP2 := HP0.out.alloc [.slice none 0 0] 48
 rw [show ([.slice none 0 0] : List Value).toArray = #[.slice none 0 0] from rfl, ← hW2, ← hp4] at hP2
 have HP2 := Lib.hid hP2
 clear hP2 HPI HP0
 gi_upto_region 5 with fail
 rw [← hW2, ← hp4]
 clear hW2 hp4
 gi_wp2_with fail
 refine hp_hands0 (α := Empty) (encs := fun x => x.elim) (n₀ := 0) (Bn := p2) (w := w) (ds := []) (σ := Unit) (fun _ => [.blk p2 48 [.slice none 0 0], .blk p4 48 [.slice none 0 0]])
  (fun _ _ => True) (fun _ _ _ => False) 0 (fun _ => []) (fun _ _ => False) ?a₁ (by decide)
  (gf := 35) (lb := #[]) rfl (enters_of Tryd.func35 (by kernel_rfl) rfl) (none1P 5 _ _ (fun _ _ _ _ => False) W2) (Nat.zero_le _) (fun x => x.elim) () trivial HP2.out (fun _ => rfl)
  (fun pre y L X Y hX hbl hG => hG.elim) ?assign (fun _ _ _ _ _ _ _ _ h => h.elim) ?done ?stop
 case a₁ => exact fun x => x.elim
 case assign =>
  intro l y
  exact y.elim
 case done =>
  rintro D xs X _ hS _ hX
  have HX := Lib.hid hX
  have r2 := hX.c 0 0 rfl rfl
  have f2 := hX.f 0 rfl
  have l2 := hX.lt 0 rfl
  have r4 := hX.c 1 0 rfl rfl
  have l4 := hX.lt 1 rfl
  clear hX hS
  gi_wp2_with fail
  show LeavesInM _ _ _ _ _ _ (marksOf [D]) .returning _
  refine hp_leaves (fun Y hY => ?_) _ _ _ (HX.out.set 0 0 (.slice none 0 0) rfl)
  exact ⟨.slice none 0 0, by simp [results, Tryd.results12, go_sem, hY.c 0 0 rfl rfl], rfl, hY.below⟩
 case stop =>
  rintro D cd pre X s _ h
  exact h.elim
theorem none1R {α : Type} (n : Nat) (encs : α → Array Value) (Kp : World → World → Prop) (G : List α → α → World → World → Prop) (w : World) : SeqHands Fence.wide n Tryd.prog 38 #[] encs Kp false G (fun xs => xs = []) (fun _ => False) 0 w := by
 intro l J Jx W hW hJ hJx hY h0
 have HJ := Lib.hid h0
 clear hW hJ hJx hY h0
 refine callsIn_of_wp_marks Tryd.func38 rfl trivial ?_ rfl
 simp only [Tryd.ntmps38, List.size_toArray, List.length_cons, List.length_nil, Nat.reduceAdd, Nat.reduceSub, Array.replicate_succ, Array.replicate_zero, List.push_toArray, List.append_toArray, List.nil_append, List.cons_append]
 gi_wp2_with fail
 all_goals exact ⟨_, results_none rfl _ _ _, ⟨_, rfl⟩, .inl ⟨[], rfl, HJ.out⟩⟩
theorem refuted_no (v : Value) (w : World) (h : NoSt w v) : Calls Tryd.prog 13 #[v] w fun e w' => e = .returned (.slice none 0 0) ∧ Below w.heap.size w w' := by
 obtain ⟨p2, hp2⟩ : ∃ q, q = w.heap.size := ⟨_, rfl⟩
 obtain ⟨V0, hV0⟩ : ∃ V, V = w.alloc (.cells #[.slice none 0 0] 67) := ⟨_, rfl⟩
 have hP0 : Hp w w V0 [.blk p2 67 [.slice none 0 0]] [] := by
  have h := (Hp.start w).alloc [.slice none 0 0] 67
  rw [hV0, hp2]; exact h
 have HPI := Lib.hid (refutedIt_no v V0 (h.keep hP0.below))
 have HP0 := Lib.hid hP0
 clear hP0 h
 have hnil := fun W b c => run_eql_func_nil (P := Tryd.prog) W 64 (.func 38) b c Tryd.underlying64
 refine (callsIn_wide (n := 6)).1 ?_
 refine callsIn_of_wp_marks Tryd.func13 rfl trivial ?_ rfl
 simp only [Tryd.ntmps13, List.size_toArray, List.length_cons, List.length_nil, Nat.reduceAdd, Nat.reduceSub, Array.replicate_succ, Array.replicate_zero, List.push_toArray, List.append_toArray, List.nil_append, List.cons_append]
 gi_upto_region 1 with fail
 rw [← hV0, ← hp2]
 clear hV0 hp2
 gi_wp2_with fail
 refine ⟨trivial, (callsIn_wide.2 HPI.out).mono ?_⟩
 rintro e W1 ⟨rfl, rfl⟩
 obtain ⟨p4, hp4⟩ : ∃ q, q = V0.heap.size := ⟨_, rfl⟩
 obtain ⟨W2, hW2⟩ : ∃ V, V = V0.alloc (.cells #[.slice none 0 0] 67) := ⟨_, rfl⟩
 have hP2 := HP0.out.alloc [.slice none 0 0] 67
 rw [show ([.slice none 0 0] : List Value).toArray = #[.slice none 0 0] from rfl, ← hW2, ← hp4] at hP2
 have HP2 := Lib.hid hP2
 clear hP2 HPI HP0
 gi_upto_region 5 with fail
 rw [← hW2, ← hp4]
 clear hW2 hp4
 gi_wp2_with fail
 refine hp_hands0 (α := Empty) (encs := fun x => x.elim) (n₀ := 0) (Bn := p2) (w := w) (ds := []) (σ := Unit) (fun _ => [.blk p2 67 [.slice none 0 0], .blk p4 67 [.slice none 0 0]])
  (fun _ _ => True) (fun _ _ _ => False) 0 (fun _ => []) (fun _ _ => False) ?a₁ (by decide)
  (gf := 38) (lb := #[]) rfl (enters_of Tryd.func38 (by kernel_rfl) rfl) (none1R 5 _ _ (fun _ _ _ _ => False) W2) (Nat.zero_le _) (fun x => x.elim) () trivial HP2.out (fun _ => rfl)
  (fun pre y L X Y hX hbl hG => hG.elim) ?assign (fun _ _ _ _ _ _ _ _ h => h.elim) ?done ?stop
 case a₁ => exact fun x => x.elim
 case assign =>
  intro l y
  exact y.elim
 case done =>
  rintro D xs X _ hS _ hX
  have HX := Lib.hid hX
  have r2 := hX.c 0 0 rfl rfl
  have f2 := hX.f 0 rfl
  have l2 := hX.lt 0 rfl
  have r4 := hX.c 1 0 rfl rfl
  have l4 := hX.lt 1 rfl
  clear hX hS
  gi_wp2_with fail
  show LeavesInM _ _ _ _ _ _ (marksOf [D]) .returning _
  refine hp_leaves (fun Y hY => ?_) _ _ _ (HX.out.set 0 0 (.slice none 0 0) rfl)
  exact ⟨.slice none 0 0, by simp [results, Tryd.results13, go_sem, hY.c 0 0 rfl rfl], rfl, hY.below⟩
 case stop =>
  rintro D cd pre X s _ h
  exact h.elim
end Go.Proofs.YtdpbbhbegehcjaaDoor

namespace Go.Proofs.YtdpbbhbegehcjaaDoor
open Go.RowKit
def noD : List (Int × List Int) := (List.range 47).map fun i : Nat => ((i : Int), [20])
def noR : Rul := ⟨[], [], []⟩
def noDs : List Dom := (List.range 47).map fun i : Nat => ⟨(i : Int), none, 1, 1, [20]⟩
def cP (q : Nat × Nat) : Chs := [((q.2 : Int), 20), ((q.1 : Int), 20)]
def cQ (q : Nat × Nat) : Prv := ([(q.2 : Int), (q.1 : Int)], [])
def tri : Nat → Nat
 | 0 => 0
 | a + 1 => tri a + a
theorem tri_47 : tri 47 = 1081 := by decide
theorem tri_lo : ∀ a, a ≤ tri a + 1
 | 0 => by omega
 | a + 1 => by unfold tri; omega
theorem tri_mono {a b : Nat} (h : a ≤ b) : tri a ≤ tri b := by
 induction h with
 | refl => exact Nat.le_refl _
 | step _ ih => exact Nat.le_trans ih (Nat.le_add_right _ _)
theorem tri_hi {a b : Nat} (hb : b ≤ a) (ha : a < 47) : tri a + b ≤ 1081 := by
 have h := tri_mono (show a + 1 ≤ 47 by omega)
 rw [tri_47] at h
 unfold tri at h
 omega
def NoI (a b : Nat) (L : List (Nat × Nat)) : Prop :=
 L.length = min (tri a + b) 1000 ∧ (∀ q ∈ L, q.2 < q.1 ∧ q.1 < 47 ∧ (q.1 < a ∨ (q.1 = a ∧ q.2 < b))) ∧ L.take 2 = [(1, 0), (2, 0)].take (tri a + b)
theorem noI_start : NoI 0 0 [] := ⟨by simp [tri], fun _ h => (by cases h), by simp [tri]⟩
theorem noI_row {a : Nat} {L : List (Nat × Nat)} (h : NoI a a L) : NoI (a + 1) 0 L :=
 ⟨h.1, fun q hq => by have := h.2.1 q hq; omega, h.2.2⟩
theorem noI_step {a b : Nat} {L : List (Nat × Nat)} (h : NoI a b L) (hb : b < a) (ha : a < 47) (hl : L.length < 1000) : NoI a (b + 1) (L ++ [(a, b)]) := by
 have h1 := h.1
 have hn : L.length = tri a + b := by omega
 refine ⟨by rw [List.length_append, List.length_singleton]; omega, fun q hq => ?_, ?_⟩
 ·rcases List.mem_append.1 hq with hq | hq
  ·have := h.2.1 q hq; omega
  ·rw [List.mem_singleton] at hq; subst hq; exact ⟨hb, ha, .inr ⟨rfl, Nat.lt_succ_self b⟩⟩
 ·by_cases h2 : 2 ≤ L.length
  ·rw [List.take_append_of_le_length h2, h.2.2, List.take_of_length_le (by show 2 ≤ _; omega), List.take_of_length_le (by show 2 ≤ _; omega)]
  ·have h3 := tri_lo a
   have ht := h.2.2
   rcases (show a = 1 ∨ a = 2 by omega) with rfl | rfl
   ·obtain rfl : b = 0 := by omega
    have hL : L = [] := List.eq_nil_of_length_eq_zero hn
    subst hL; rfl
   ·have e : tri 2 = 1 := rfl
    obtain rfl : b = 0 := by omega
    have hL : L = [(1, 0)] := by rw [List.take_of_length_le (by omega)] at ht; exact ht
    subst hL; rfl
theorem noI_full {a b : Nat} {L : List (Nat × Nat)} (h : NoI a b L) (hl : ¬ L.length < 1000) : NoI a (b + 1) L := by
 have h1 := h.1
 refine ⟨by omega, fun q hq => by have := h.2.1 q hq; omega, ?_⟩
 rw [h.2.2, List.take_of_length_le (by show 2 ≤ _; omega), List.take_of_length_le (by show 2 ≤ _; omega)]
theorem noI_len {a b : Nat} {L : List (Nat × Nat)} (h : NoI a b L) : L.length < 1000 ↔ tri a + b < 1000 := by have := h.1; omega
theorem no_st {ds : List Dom} (hd : ds.map Dom.say = noD) : ds.map Dom.st = (List.range 47).map fun i : Nat => (i : Int) := by
 have h := congrArg (List.map Prod.fst) hd
 rw [List.map_map] at h
 exact h
theorem no_mem {ds : List Dom} (hd : ds.map Dom.say = noD) (x : Int) : x ∈ ds.map Dom.st ↔ 0 ≤ x ∧ x < 47 := by
 rw [no_st hd, List.mem_map]
 constructor
 ·rintro ⟨i, hi, rfl⟩
  have := List.mem_range.1 hi
  omega
 ·rintro ⟨h1, h2⟩
  exact ⟨x.toNat, List.mem_range.2 (by omega), by omega⟩
theorem no_rng {ds : List Dom} (hd : ds.map Dom.say = noD) : ∀ y ∈ ds.map Dom.st, 0 ≤ y ∧ y < 512 := fun y hy => by have := (no_mem hd y).1 hy; omega
theorem no_two {a b : Nat} (hb : b < a) (ha : a < 47) : ∀ y ∈ [(b : Int), (a : Int)], 0 ≤ y ∧ y < 512 := by
 intro y hy
 rcases List.mem_cons.1 hy with rfl | hy
 ·omega
 ·rw [List.mem_singleton] at hy; subst hy; omega
theorem no_in {ds : List Dom} (hd : ds.map Dom.say = noD) {a b : Nat} (hb : b < a) (ha : a < 47) : mi (stS [(b : Int), (a : Int)]) (stS (ds.map Dom.st)) = 0 := by
 rw [sub_iff (no_two hb ha) (no_rng hd)]
 intro x hx
 rw [no_mem hd]
 rcases List.mem_cons.1 hx with rfl | hx
 ·omega
 ·rw [List.mem_singleton] at hx; subst hx; omega
theorem no_neq {a b : Nat} {L : List (Nat × Nat)} (h : NoI a b L) (hb : b < a) (ha : a < 47) {q : Nat × Nat} (hq : q ∈ L) :
  mi (stS [(b : Int), (a : Int)]) (stS [(q.2 : Int), (q.1 : Int)]) ≠ 0 ∧ mi (stS [(q.2 : Int), (q.1 : Int)]) (stS [(b : Int), (a : Int)]) ≠ 0 := by
 have hq' := h.2.1 q hq
 refine ⟨fun e => ?_, fun e => ?_⟩
 ·rw [sub_iff (no_two hb ha) (no_two hq'.1 hq'.2.1)] at e
  have h1 := e b (by simp)
  have h2 := e a (by simp)
  simp only [List.mem_cons, List.not_mem_nil, or_false] at h1 h2
  omega
 ·rw [sub_iff (no_two hq'.1 hq'.2.1) (no_two hb ha)] at e
  have h1 := e q.2 (by simp)
  have h2 := e q.1 (by simp)
  simp only [List.mem_cons, List.not_mem_nil, or_false] at h1 h2
  omega
theorem no_on {a b : Nat} {x : Int} (hx : x ∈ [(b : Int), (a : Int)]) : onF (cP (a, b)) x = 20 := by
 unfold cP onF
 split
 ·rfl
 ·rename_i h
  unfold onF
  rw [if_pos]
  rcases List.mem_cons.1 hx with rfl | hx
  ·exact absurd rfl h
  ·rw [List.mem_singleton] at hx; exact hx.symm
theorem no_fits {ds : List Dom} (hd : ds.map Dom.say = noD) {a b : Nat} (hb : b < a) (ha : a < 47) : fitsF ds noR (cP (a, b)) = true := by
 unfold fitsF okF
 have hS : ofC (cP (a, b)) = [(b : Int), (a : Int)] := rfl
 rw [hS]
 have hm : ∀ x : Int, hasS (stS [(b : Int), (a : Int)]) x = decide (x ∈ [(b : Int), (a : Int)]) := fun x => hasS_mem (no_two hb ha) x
 simp only [Bool.and_eq_true, List.all_eq_true]
 refine ⟨fun d hdm => ?_, fun x hx => ?_, fun x hx => (by cases hx), fun x hx => (by cases hx)⟩
 ·obtain ⟨h1, h2⟩ := List.mem_filter.1 hdm
  rw [hm, decide_eq_true_eq] at h2
  have h3 : d.say ∈ noD := by rw [← hd]; exact List.mem_map.2 ⟨d, h1, rfl⟩
  obtain ⟨i, _, e⟩ := List.mem_map.1 h3
  have hc : d.chs = [20] := (congrArg Prod.snd e).symm
  unfold bdF
  rw [no_on h2, hc]
  rfl
 ·rw [inD_mem, decide_eq_true_eq]
  have hx1 : x.1 ∈ [(b : Int), (a : Int)] := by rw [← hS]; exact List.mem_map.2 ⟨x, hx, rfl⟩
  have hx2 : x.1 ∈ ds.map Dom.st := by
   rw [no_mem hd]
   rcases List.mem_cons.1 hx1 with h | h
   ·omega
   ·rw [List.mem_singleton] at h; omega
  obtain ⟨d, hd1, hd2⟩ := List.mem_map.1 hx2
  exact List.mem_map.2 ⟨d, List.mem_filter.2 ⟨hd1, by rw [hm, decide_eq_true_eq, hd2]; exact hx1⟩, hd2⟩
theorem no_pk {ds : List Dom} (hd : ds.map Dom.say = noD) {a b : Nat} {L : List (Nat × Nat)} (h : NoI a b L) (hb : b < a) (ha : a < 47) :
  pkF ds noR (L.map cP) (cP (a, b)) = if L.length < 1000 then ((L ++ [(a, b)]).map cP, 0) else (L.map cP, 7) := by
 have r1 : vlGo none (cP (a, b)) = true := by
  simp [cP, vlGo, notUp, stF]
  omega
 have r4 : ((L.map cP).any fun o => decide (mi (stS (ofC (cP (a, b)))) (stS (ofC o)) = 0)) = false := by
  rw [List.any_eq_false]
  intro o ho
  obtain ⟨q, hq, rfl⟩ := List.mem_map.1 ho
  rw [decide_eq_true_eq]
  exact (no_neq h hb ha hq).1
 have r5 : ((L.map cP).filter fun o => !decide (mi (stS (ofC o)) (stS (ofC (cP (a, b)))) = 0)) = L.map cP := by
  rw [List.filter_eq_self]
  intro o ho
  obtain ⟨q, hq, rfl⟩ := List.mem_map.1 ho
  have := (no_neq h hb ha hq).2
  rw [Bool.not_eq_true', decide_eq_false_iff_not]
  exact this
 unfold pkF
 rw [if_pos r1, if_pos (show mi (stS (ofC (cP (a, b)))) (stS (ds.map Dom.st)) = 0 from no_in hd hb ha), if_pos (no_fits hd hb ha), if_neg (by rw [r4]; decide), r5, List.length_map]
 by_cases hl : L.length < 1000
 ·rw [if_neg (by omega), if_pos hl, List.map_append]; rfl
 ·rw [if_pos (by omega), if_neg hl]
theorem no_rf {ds : List Dom} (hd : ds.map Dom.say = noD) {a b : Nat} {L : List (Nat × Nat)} (h : NoI a b L) (hb : b < a) (ha : a < 47) :
  rfF ds (L.map cQ) (cQ (a, b)) = if L.length < 1000 then ((L ++ [(a, b)]).map cQ, 0) else (L.map cQ, 7) := by
 have r1 : stOk (cQ (a, b)).1 = true := by
  simp [cQ, stOk, incF, cmpF, stF]
  omega
 have r4 : ((L.map cQ).any fun o => decide (mi (stS o.1) (stS (cQ (a, b)).1) = 0)) = false := by
  rw [List.any_eq_false]
  intro o ho
  obtain ⟨q, hq, rfl⟩ := List.mem_map.1 ho
  rw [decide_eq_true_eq]
  exact (no_neq h hb ha hq).2
 have r5 : ((L.map cQ).filter fun o => !decide (mi (stS (cQ (a, b)).1) (stS o.1) = 0)) = L.map cQ := by
  rw [List.filter_eq_self]
  intro o ho
  obtain ⟨q, hq, rfl⟩ := List.mem_map.1 ho
  have := (no_neq h hb ha hq).1
  rw [Bool.not_eq_true', decide_eq_false_iff_not]
  exact this
 unfold rfF
 rw [if_pos r1, if_pos (show mi (stS (cQ (a, b)).1) (stS (ds.map Dom.st)) = 0 from no_in hd hb ha), if_neg (by rw [r4]; decide), r5, List.length_map]
 by_cases hl : L.length < 1000
 ·rw [if_neg (by omega), if_pos hl, List.map_append]; rfl
 ·rw [if_pos (by omega), if_neg hl]
theorem no_last {ds : List Dom} (hd : ds.map Dom.say = noD) {L : List (Nat × Nat)} (h : NoI 47 0 L) : ∃ Q, rfF ds (L.map cQ) ([0], []) = (Q, 0) ∧ Q.length < 1000 := by
 have hlen : L.length = 1000 := by have := h.1; rw [tri_47] at this; omega
 have ht := h.2.2
 rw [tri_47] at ht
 have e : L = (1, 0) :: (2, 0) :: L.drop 2 := by
  have := (List.take_append_drop 2 L).symm
  rw [ht] at this
  exact this
 have hl' : (L.drop 2).length = 998 := by rw [List.length_drop, hlen]
 have r0 : ∀ y ∈ [(0 : Int)], 0 ≤ y ∧ y < 512 := by intro y hy; rw [List.mem_singleton] at hy; subst hy; omega
 have r2 : mi (stS [(0 : Int)]) (stS (ds.map Dom.st)) = 0 := by
  rw [sub_iff r0 (no_rng hd)]
  intro x hx
  rw [List.mem_singleton] at hx; subst hx
  rw [no_mem hd]; omega
 have r4 : ((L.map cQ).any fun o => decide (mi (stS o.1) (stS [(0 : Int)]) = 0)) = false := by
  rw [List.any_eq_false]
  intro o ho
  obtain ⟨q, hq, rfl⟩ := List.mem_map.1 ho
  have hq' := h.2.1 q hq
  rw [decide_eq_true_eq]
  intro e
  rw [sub_iff (a := (cQ q).1) (no_two hq'.1 hq'.2.1) r0] at e
  have h1 := e q.1 (by simp [cQ])
  rw [List.mem_singleton] at h1
  omega
 have r5 : ((L.map cQ).filter fun o => !decide (mi (stS [(0 : Int)]) (stS o.1) = 0)).length ≤ 998 := by
  rw [e, List.map_cons, List.map_cons, List.filter_cons_of_neg (by decide), List.filter_cons_of_neg (by decide), ← hl']
  have := List.length_filter_le (fun o : Prv => !decide (mi (stS [(0 : Int)]) (stS o.1) = 0)) ((L.drop 2).map cQ)
  rwa [List.length_map] at this
 refine ⟨((L.map cQ).filter fun o => !decide (mi (stS [(0 : Int)]) (stS o.1) = 0)) ++ [([0], [])], ?_, ?_⟩
 ·unfold rfF
  rw [if_pos (by decide), if_pos r2, if_neg (by rw [r4]; decide), if_neg (fun h => absurd (Nat.le_trans h r5) (by decide))]
 ·rw [List.length_append, List.length_singleton]; omega
theorem no_valid {ds : List Dom} (hd : ds.map Dom.say = noD) : validP ds noR = true := by
 rw [valid_say (es := noDs) (hd.trans (by decide +kernel))]
 decide +kernel
end Go.Proofs.YtdpbbhbegehcjaaDoor
