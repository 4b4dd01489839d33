/- What the laws of layer 24 share. -/
import Derived.Test.YtdpbbhbegehcjaaGreatDoorRows
import Derived.Test.YtdpbbhbegehcjaaGreatDoorTie
import Derived.Test.YtdpbbhbegehcjaaGreatDoorCards
import Derived.Test.YtdpbbhbegehcjaaGreatDoorChecked
import Derived.KernelRfl
import Derived.Lay
import Derived.MakeChecks
import Derived.LaidOnce
import Derived.SevenTiedAt
import Derived.HandedShaped
import Derived.Stop.LaidErr
import Derived.Lib.SmallJoins
import Derived.Test.YtdpbbhbegehcjaaGreatDoorHol04
import Derived.Test.YtdpbbhbegehcjaaGreatDoorHol08
import Derived.Test.YtdpbbhbegehcjaaGreatDoorHol09
import Derived.Test.YtdpbbhbegehcjaaGreatDoorHol10
import Derived.Test.YtdpbbhbegehcjaaGreatDoorHol15
import Derived.Test.YtdpbbhbegehcjaaGreatDoorHol18
import Derived.Test.YtdpbbhbegehcjaaGreatDoorHol19
import Derived.Test.YtdpbbhbegehcjaaGreatDoorHol20
import Derived.Test.YtdpbbhbegehcjaaGreatDoorHol21
set_option maxRecDepth 100000
set_option maxHeartbeats 8000000
namespace Go.Proofs.YtdpbbhbegehcjaaGreatDoor
open Go.RowKit Go.Shelf
attribute [local go_sem] Oper.semAt_some
theorem run_eql_func_nil {P : Program} (w : World) (t : TypeId) {ps rs : Array TypeId} {vd : Bool} (f : Fn) (b c : Array Value) (h : P.underlying t = some (.func ps rs vd)) : (binOp .eql t (.func f b c) .nilFunc).run P w = .ok (.bool false) w := by
 have h1 : ∀ d : Nat, (Op.equalIn (d + 1) t (.func f b c) .nilFunc).run P w = .ok false w := fun d => by simp [Op.equalIn, run_underlying h]
 simp only [binOp]
 simp [Op.equal, Op.maxDepth, h1 9999]
theorem valuesP_any (A : Option Addr) (m c f : Nat) (w : World) : Calls Tryz.prog 59 #[.agg #[.slice A m c], .func (.func f) #[] #[]] w fun e w' => e = .returned (.func (.func 95) #[] #[.pointer (some ⟨w.heap.size, 0, none⟩), .pointer (some ⟨w.heap.size + 1, 0, none⟩)]) ∧ w' = (w.alloc (.cells #[.slice A m c] 105)).alloc (.cells #[.func (.func f) #[] #[]] 122) := by
 go_enter Tryz.func59, Tryz.ntmps59
 go_wp2
 go_ret
 exact ⟨rfl, rfl⟩
theorem packedIt_any (B : Nat) (p : Nat → Prop) (g : Nat) (x : StS) (w : World) (hS : StAt w B p g x) : Calls Tryz.prog 21 #[.pointer (some ⟨g, 0, none⟩)] w fun e w' =>
  ∃ kb cb, e = .returned (.func (.func 95) #[] #[.pointer (some ⟨kb, 0, none⟩), .pointer (some ⟨cb, 0, none⟩)]) ∧ Hp w w w' [.blk kb 105 [.slice x.pa x.pn x.pc], .blk cb 122 [.func (.func 60) #[] #[]]] [] := by
 have HMI := Lib.hid (missing_any g x.cells w hS.blk rfl)
 have k0 : w.cell? ⟨g, 13, none⟩ = some (.slice x.pa x.pn x.pc) := hS.blk.cell rfl
 have gl := hS.blk.lt
 have HV := Lib.hid (valuesP_any x.pa x.pn x.pc 60 w)
 clear hS
 go_enter Tryz.func21, Tryz.ntmps21
 go_wp2_with fail
 refine HMI.out.mono ?_
 rintro e W1 ⟨rfl, rfl⟩
 go_wp2_with fail
 refine HV.out.mono ?_
 rintro e W2 ⟨rfl, hW2⟩
 have hP := ((Hp.start w).alloc [.slice x.pa x.pn x.pc] 105).alloc [.func (.func 60) #[] #[]] 122
 simp only [World.size_alloc] at hP
 have HP := Lib.hid (show Hp w w W2 _ _ by rw [hW2]; exact hP)
 clear hP hW2
 go_wp2_with fail
 go_ret
 exact ⟨_, _, rfl, HP.out⟩
theorem Hp.all0 {w u W : World} {L : List Ent} {ds : List Nat} (h : Hp w u W L ds) : Hp w w W L ds := ⟨h.below, ⟨h.below.size, fun k _ hk _ => (h.below.block k (Array.getElem?_eq_some_iff.1 hk).1).trans hk⟩, h.all, h.low, h.apart, h.marks, h.nodup⟩
theorem take_snoc' {α : Type} {xs : List α} {k : Nat} {x : α} (hx : xs[k]? = some x) : xs.take (k + 1) = xs.take k ++ [x] := by rw [List.take_add_one, hx]; rfl
def PkdPost (P : List Chs) (w : World) (e : Ending) (w' : World) : Prop := ∃ (v : Value) (O : List Lem), e = .returned v ∧ O.map Lem.chs = P ∧ (∀ m ∈ O, m.len ≤ 100000) ∧ Hp w w w' (.row v 41 1 O.length (O.map Lem.val) :: lemEnts O) []
theorem packed_any (B : Nat) (p : Nat → Prop) (g : Nat) (x : StS) (w : World) (hS : StAt w B p g x) (hpl : x.pe.length ≤ 100000) : Calls Tryz.prog 17 #[.pointer (some ⟨g, 0, none⟩)] w (PkdPost x.P w) := by
 obtain ⟨i0, hi, hz0, hz1, hz2⟩ := info_parts ch_info
 obtain ⟨j0, hj, hy0, hy1, hy2⟩ := info_parts cs_info
 obtain ⟨p2, hp2⟩ : ∃ q, q = w.heap.size := ⟨_, rfl⟩
 obtain ⟨V0, hV0⟩ : ∃ V, V = w.alloc (.cells #[.slice none 0 0] 42) := ⟨_, rfl⟩
 have hP0 : Hp w w V0 [.blk p2 42 [.slice none 0 0]] [] := by
  have h := (Hp.start w).alloc [.slice none 0 0] 42
  rw [hV0, hp2]; exact h
 have HPI := Lib.hid (packedIt_any B p g x V0 (hS.keep hP0.below))
 have HPE := Lib.hid (hS.pes.mono (q := (· < w.heap.size)) (fun _ _ h => h))
 have HP0 := Lib.hid hP0
 have hpn : x.pn ≤ 100000 := by have := hS.pes.1.1; omega
 have HPL : Hid (x.P.length = x.pe.length ∧ x.pe.length ≤ 100000) := Lib.hid ⟨by unfold StS.P; rw [List.length_map], hpl⟩
 clear hS hP0 hpl
 have hnil := fun W b c => run_eql_func_nil (P := Tryz.prog) W 63 (.func 95) b c Tryz.underlying63
 refine (callsIn_wide (n := 6)).1 ?_
 refine callsIn_of_wp_marks Tryz.func17 rfl trivial ?_ rfl
 simp only [Tryz.ntmps17, List.size_toArray, List.length_cons, List.length_nil, Nat.reduceAdd, Nat.reduceSub, Array.replicate_succ, Array.replicate_zero, List.push_toArray, List.append_toArray, List.nil_append, List.cons_append]
 gi_upto_region 1 with fail
 rw [← hV0, ← hp2]
 clear hV0 hp2
 gi_wp2_with fail
 refine ⟨trivial, (callsIn_wide.2 HPI.out).mono ?_⟩
 rintro e W1 ⟨kb, cb, rfl, hH⟩
 have hP1 := HP0.out.join hH.below hH
 obtain ⟨p4, hp4⟩ : ∃ q, q = W1.heap.size := ⟨_, rfl⟩
 obtain ⟨W2, hW2⟩ : ∃ V, V = W1.alloc (.cells #[.slice none 0 0] 42) := ⟨_, rfl⟩
 have hP2 := (hP1.alloc [.slice none 0 0] 42).nil 41 1
 rw [show ([.slice none 0 0] : List Value).toArray = #[.slice none 0 0] from rfl, ← hW2, ← hp4] at hP2
 have HP2 := Lib.hid hP2
 clear hH hP1 hP2 HPI HP0
 gi_upto_region 5 with fail
 rw [← hW2, ← hp4]
 clear hW2 hp4
 have HSQ := Lib.hid (vals1P 5 (by decide) w.heap.size kb cb x.pa x.pn x.pc x.pe W2 (HP2.out.blk 1 rfl) (HP2.out.blk 2 rfl) (HPE.out.keep HP2.out.below) HP2.out.below.size hpn)
 gi_wp2_with fail
 refine hp_hands0 (w := w) (ds := []) (σ := Value × List Lem) (fun s => [.blk p2 42 [.slice none 0 0], .blk kb 105 [.slice x.pa x.pn x.pc], .blk cb 122 [.func (.func 60) #[] #[]], .blk p4 42 [s.1], .row s.1 41 1 s.2.length (s.2.map Lem.val)] ++ lemEnts s.2)
  (fun pre s => s.2.length = pre.length ∧ (∀ m ∈ s.2, m.len ≤ 100000) ∧ s.2.map Lem.chs = x.P.take pre.length) (fun _ _ _ => False) 2 (fun y => [.row y.2.val 91 2 y.2.len (flat 2 chC y.2.chs)]) (fun pre y => y.1 = pre.length ∧ y.2.len ≤ 100000 ∧ y.2.chs.length = y.2.len ∧ x.P[pre.length]? = some y.2.chs) ?a₁ (by decide)
  (gf := 95) (lb := #[.pointer (some ⟨kb, 0, none⟩), .pointer (some ⟨cb, 0, none⟩)]) rfl (enters_of Tryz.func95 (by kernel_rfl) rfl) HSQ.out (Nat.le_refl _) (fun _ => rfl) (.slice none 0 0, []) ⟨rfl, fun _ h => (by cases h), by simp⟩ HP2.out (fun _ => rfl)
  (fun pre y L X Y hX hbl hG => ?give) ?assign ?body ?done ?stop
 case give =>
  obtain ⟨h1, ⟨e, he, hc, hl⟩, hH⟩ := hG
  have hA := HPE.out.2 e (List.mem_of_getElem? he)
  exact ⟨⟨h1, by rw [hl]; exact hA.2, by rw [hc, hl]; exact hA.1.1, by unfold StS.P; rw [List.getElem?_map, he, hc]; rfl⟩, hX.join hbl hH, fun e' he' => hH.low e' he'⟩
 case assign =>
  intro l y X K hK
  unfold Lem.val
  gi_wp2
  exact hK
 case body =>
  rintro l pre ⟨k0, ⟨yA, yn, yc, ych⟩⟩ e X ⟨v, O⟩ _ ⟨hO1, hO2, hO3⟩ ⟨hy1, hy2, hyl, hy3⟩ hX hlen
  dsimp only at *
  obtain rfl : k0 = O.length := hy1.trans hO1.symm
  obtain ⟨L0, hL0⟩ : ∃ L0, L0 = lemEnts O := ⟨_, rfl⟩
  rw [← hL0] at hX
  have hX1 : Hp w X X (.row (.slice yA yn yc) 91 2 yn (flat 2 chC ych) :: e :: ([.blk p2 42 [.slice none 0 0], .blk kb 105 [.slice x.pa x.pn x.pc], .blk cb 122 [.func (.func 60) #[] #[]], .blk p4 42 [v], .row v 41 1 O.length (O.map Lem.val)] ++ L0)) [] := hX.perm (List.perm_append_singleton _ (e :: _))
  obtain ⟨A1, c1, rfl⟩ := hX1.form 6 rfl
  have HX := Lib.hid hX1
  have HL0 := Lib.hid hL0
  have HO := Lib.hid (And.intro hO2 (And.intro hO3 hy3))
  have HPR := Eqn.mk hO1
  have HYL := Eqn.mk hyl
  have hol : O.length < 100000 := by have := HPL.out; omega
  have c5 := hX1.c 5 0 rfl rfl
  have l5 := hX1.lt 5 rfl
  have hrow : RowS 2 chC X X.heap.size yA yn ych := by
   have hr := hX1.row 0 rfl
   rw [← hyl] at hr ⊢
   exact rowS_own (by decide) hr
  have HROW := Lib.hid (hrow.keep (Below.refl _ _).drew)
  clear hL0 hX hX1 hO1 hO2 hO3 hy1 hy3 hyl hlen hrow
  gi_wp2_with fail
  refine Lx.regionTIn (C := fun W' => W'.cell? ⟨p4, 0, none⟩ = some (.slice A1 O.length c1)) (C' := fun _ => True) (hs := [0]) 5 (List.take 5 _) (List.drop 5 _) (List.take_append_drop 5 _).symm rfl (by kernel_rfl) (by kernel_rfl) (by kernel_rfl) (by kernel_rfl) c5 ?_
  simp only [List.take_succ_cons, List.take_zero, List.drop_succ_cons, List.drop_zero]
  repeat' (first | ((first | refine Lx.ln (fun K hK => ?_) | (first | (refine Lx.lp (v := ?_) ?_ (fun K hK => ?_); rotate_left 1; intro w' hCw; try dsimp only at hCw) | (refine Lx.lr (v := ?_) ?_ (fun K hK => ?_); rotate_left 1)); go_simp; first | done | with_reducible rfl); go_simp; refine hK _ ?_; clear hK K) | (refine Lx.le (fun K hK => ?_); go_simp; (first | fail); refine hK _ _ (fail) ?_; clear hK K))
  refine Lx.lex_append_rowR rfl rfl _ _ 41 rfl (f := chC) (by decide) chC_one X.drew.heap.size 91 i0 (.agg #[.int .i64 0, .int .i64 0]) 16 Tryz.underlying41 hi hz0 hz1 hz2 rfl _ 0 [] rfl (World.ownsRow_nil _ _ _ _) yA yn yc ych X.drew.heap.size rfl HROW.out (by unfold maxLen; omega) (by omega) (Nat.le_refl _) ?_
  intro v6 W6 hown6 hgrow6 _
  have hb6 : Below X.drew.heap.size X.drew W6 := (Below.refl _ _).grown hgrow6 (Nat.le_refl _) (fun g hg => by cases hg)
  rw [Nat.zero_add, List.nil_append] at hown6
  have hP6 := HX.out.drew.pushRow hb6 hown6
  have HP6 := Lib.hid hP6
  have HC6 := Lib.hid (hP6.c 5 0 rfl rfl)
  obtain ⟨A6, c6, rfl, _⟩ := own_formS (by decide) hown6
  have HC7 := Lib.hid (fun o => (HP6.out.alloc0 o).c 5 0 rfl rfl)
  refine ⟨HC6.out, ?_⟩
  clear hown6 hgrow6 hb6 hP6
  repeat' (first | ((first | refine Lx.ln (fun K hK => ?_) | (first | (refine Lx.lp (v := ?_) ?_ (fun K hK => ?_); rotate_left 1; intro w' hCw; try dsimp only at hCw) | (refine Lx.lr (v := ?_) ?_ (fun K hK => ?_); rotate_left 1)); go_simp; first | done | with_reducible rfl); go_simp; refine hK _ ?_; clear hK K) | (refine Lx.le (fun K hK => ?_); go_simp; (first | skip); refine hK _ _ (by first | exact HC6.out | exact HC7.out _) ?_; clear hK K))
  refine Lx.lex_append rfl rfl _ _ 42 rfl w.heap.size 41 j0 (.slice none 0 0) 1 24 Tryz.underlying42 hj hy0 hy1 (by assumption) rfl (by decide) _ _ _ rfl ((HP6.out.row 6 rfl).alloc _) ⟨W6.heap.size, 0, none⟩ 1 1 [.slice A6 yn c6] rfl rfl (cell_one_new _ _ _) (by simp [Value.oneCell']) (by unfold maxLen; omega) (by omega) (by have := HP6.out.below.size; simp; omega) ?_
  intro v' w8 hown' hgrow hat
  have hP8 := (HP6.out.alloc0 _).grow 6 rfl hgrow hown' hat
  obtain ⟨A8, c8, rfl⟩ := hP8.form 6 rfl
  refine ⟨hP8.c 5 0 rfl rfl, ?_⟩
  obtain ⟨O2, hO2⟩ : ∃ O2, O2 = O ++ [(⟨A6, yn, c6, ych⟩ : Lem)] := ⟨_, rfl⟩
  obtain ⟨V9, hV9⟩ : ∃ V, V = w8.setCell ⟨p4, 0, none⟩ (.slice A8 (O.length + 1) c8) := ⟨_, rfl⟩
  have hP9 : Hp w X V9 (.row (.slice yA yn yc) 91 2 yn (flat 2 chC ych) :: e :: ([.blk p2 42 [.slice none 0 0], .blk kb 105 [.slice x.pa x.pn x.pc], .blk cb 122 [.func (.func 60) #[] #[]], .blk p4 42 [.slice A8 (O.length + 1) c8], .row (.slice A8 (O.length + 1) c8) 41 1 O2.length (O2.map Lem.val)] ++ lemEnts O2)) [] := by
   rw [hV9, hO2, lemEnts_snoc, ← HL0.out, List.map_append, List.length_append]
   exact hP8.set 5 0 (.slice A8 (O.length + 1) c8) rfl
  have HP9 := Lib.hid hP9
  have HO2 := Lib.hid hO2
  have c9 : w8.cell? ⟨p4, 0, none⟩ = some (.slice A1 O.length c1) := hP8.c 5 0 rfl rfl
  have f9 : ∀ o, w8.frozen? ⟨p4, o, none⟩ = false := hP8.f 5 rfl
  have l9 : p4 < w8.heap.size := hP8.lt 5 rfl
  clear hP8 hown' hgrow hat hO2 hP9 c5 l5
  refine Lx.lex_nil ⟨trivial, ?_⟩
  go_simp
  repeat' (first | ((first | refine Lx.ln (fun K hK => ?_) | (first | (refine Lx.lp (v := ?_) ?_ (fun K hK => ?_); rotate_left 1; intro w' hCw; try dsimp only at hCw) | (refine Lx.lr (v := ?_) ?_ (fun K hK => ?_); rotate_left 1)); go_simp; first | done | with_reducible rfl); go_simp; refine hK _ ?_; clear hK K) | (refine Lx.le (fun K hK => ?_); go_simp; (first | skip); refine hK _ _ (trivial) ?_; clear hK K))
  all_goals (refine Lx.lex_nil ?_)
  rw [← hV9]
  clear hV9 c9 f9 l9 HP6 HC6 HC7 HX HROW
  gi_wp2_with fail
  gi_loopw [7] (fun i wr => ∃ (k : Nat) (cs : List Value), k ≤ yn ∧ i = .int .i64 k ∧ cs.length = yn * 2 ∧ Hp w X wr (.row (.slice yA yn yc) 91 2 yn cs :: e :: ([.blk p2 42 [.slice none 0 0], .blk kb 105 [.slice x.pa x.pn x.pc], .blk cb 122 [.func (.func 60) #[] #[]], .blk p4 42 [.slice A8 (O.length + 1) c8], .row (.slice A8 (O.length + 1) c8) 41 1 O2.length (O2.map Lem.val)] ++ lemEnts O2)) []) (fun i _ => yn - (intOf i).toNat)
  case atStart => exact ⟨0, _, Nat.zero_le _, rfl, by rw [flat_lenR, HYL.out], HP9.out⟩
  case round =>
   clear HP9
   obtain ⟨k, cs, hk, rfl, hcs, hP⟩ := hrel
   have HP := Lib.hid hP
   by_cases hlt : k < yn
   ·have j0 : (k : Int) < (yn : Int) := by omega
    obtain ⟨z, hz⟩ : ∃ z, cs[k * 2 + 1]? = some z := ⟨_, List.getElem?_eq_getElem (by omega)⟩
    obtain ⟨b, c', hb', z0, zf, zl⟩ := hP.at 0 (k * 2 + 1) rfl hz
    injection hb' with hb' _ hc'
    subst hb' hc'
    have HCS := Eqn.mk hcs
    clear hP hz hcs
    gi_wp2_with fail
    go_roundw
    case rel => exact ⟨k + 1, cs.set (k * 2 + 1) (.int .i64 1), hlt, by go_num, by rw [List.length_set, HCS.out], HP.out.setRow 0 (k * 2 + 1) (.int .i64 1) rfl⟩
    case measure => simp [intOf]; omega
   ·clear hP hcs
    gi_wp2_with fail
    refine ⟨(.slice A8 (O.length + 1) c8, O2), ⟨?_, ?_, ?_⟩, HP.out.sub (List.Sublist.cons _ (List.Sublist.refl _))⟩
    ·rw [HO2.out, List.length_append, List.length_append, HPR.out]; rfl
    ·intro m hm
     rw [HO2.out] at hm
     rcases List.mem_append.1 hm with hm | hm
     ·exact HO.out.1 m hm
     ·rw [List.mem_singleton] at hm; subst hm; assumption
    ·dsimp only
     rw [HO2.out, List.map_append, HO.out.2.1, List.length_append]
     exact (take_snoc' HO.out.2.2).symm
 case done =>
  rintro D xs X ⟨v, O⟩ hS ⟨hO1, hO2, hO3⟩ hX
  dsimp only at hO1 hO2 hO3 hX
  obtain ⟨A1, c1, rfl⟩ := hX.form 4 rfl
  have hO4 : O.map Lem.chs = x.P := by rw [hO3, List.take_of_length_le]; have := HPL.out; have hS : xs.length = x.pe.length := hS; omega
  have HO := Lib.hid (And.intro hO2 hO4)
  have HX := Lib.hid hX
  have r2 := hX.c 0 0 rfl rfl
  have f2 := hX.f 0 rfl
  have l2 := hX.lt 0 rfl
  have r4 := hX.c 3 0 rfl rfl
  have l4 := hX.lt 3 rfl
  clear hX hO1 hO2 hO3 hO4 hS
  gi_wp2_with fail
  show LeavesInM _ _ _ _ _ _ (marksOf [D]) .returning _
  refine hp_leaves (fun Y hY => ?_) _ _ _ (HX.out.set 0 0 (.slice A1 O.length c1) rfl)
  exact ⟨.slice A1 O.length c1, by simp [results, Tryz.results17, go_sem, hY.c 0 0 rfl rfl], _, O, rfl, HO.out.2, HO.out.1, Hp.all0 <| hY.sub (List.Sublist.cons _ (List.Sublist.cons _ (List.Sublist.cons _ (List.Sublist.cons _ (List.Sublist.refl _)))))⟩
 case stop =>
  rintro D cd pre X s _ h
  exact h.elim
end Go.Proofs.YtdpbbhbegehcjaaGreatDoor

namespace Go.Proofs.YtdpbbhbegehcjaaGreatDoor
open Go.RowKit Go.Shelf
structure KS (x : StS) (P : List Chs) (Q : List Prv) : Prop where
 ds : x.ds.map Dom.say = (samD none).map Dom.say
 r : x.r = samR
 P : x.P = P
 Q : x.Q = Q
 ok : StOk x
theorem look_ok {r : (Int × Chs × Prv) × Int} {a : Ans} (h2 : r.2 = 0) (h1 : r.1 = a.say) (h0 : a.st = 0) : lookF r a = true := by
 unfold lookF
 rw [decide_eq_true h2, decide_eq_true h1, decide_eq_true h0]; rfl
theorem kn_look {W : World} {g n c : Nat} {x : StS} {P : List Chs} {Q : List Prv} {A : Option Addr} {L : List Int} {b : Ans} (hS : StAt W g (fun k => g < k) g x) (hK : KS x P Q) (hn : n ≤ 100000) (hl : Row1 intV W W.heap.size A n L) (hb : b.At W) (he : lookF (lkF (samD none) P Q L) b = true) :
  Calls Tryz.prog 33 #[.pointer (some ⟨g, 0, none⟩), .slice A n c, b.val] W (RetPost (.bool true) W.heap.size W) := by
 have h := looks_any g (fun k => g < k) g x A n c b W L hS hK.ok hn hl hb
 rwa [lk_say _ _ _ hK.ds, hK.P, hK.Q, he] at h
def KPost (g : Nat) (P : List Chs) (Q : List Prv) (n : Int) (W : World) (e : Ending) (W' : World) : Prop := ∃ x', e = .returned (.int .i64 n) ∧ StAt W' g (fun k => g < k) g x' ∧ KS x' P Q ∧ W.grownBy W' (some g)
theorem kn_pack {W : World} {g n c : Nat} {x : StS} {P P' : List Chs} {Q : List Prv} {A : Option Addr} {l : Chs} {v : Int} (hS : StAt W g (fun k => g < k) g x) (hK : KS x P Q) (hn : n ≤ 100000) (hl : RowS 2 chC W W.heap.size A n l) (he : pkF (samD none) samR P l = (P', v)) :
  Calls Tryz.prog 12 #[.pointer (some ⟨g, 0, none⟩), .slice A n c] W (KPost g P' Q v W) := by
 have h := pack_any g (fun k => g < k) g x A n c W l hS hK.ok (fun k hk => Nat.lt_of_lt_of_le hS.blk.lt hk) hS.hdl hn hl
 rw [pk_say _ _ _ hK.ds, hK.r, hK.P, he] at h
 refine h.mono ?_
 rintro e W' ⟨x', rfl, h1, h2, h3, h4, h5, h6, h7⟩
 exact ⟨x', rfl, h1, ⟨by rw [h3]; exact hK.ds, by rw [h4]; exact hK.r, h5, by rw [h6]; exact hK.Q, h2⟩, h7⟩
theorem kn_refute {W : World} {g : Nat} {x : StS} {P : List Chs} {Q Q' : List Prv} {y : Prf} {v : Int} (hS : StAt W g (fun k => g < k) g x) (hK : KS x P Q) (hy : y.At W (fun _ => True)) (he : rfF (samD none) Q y.say = (Q', v)) :
  Calls Tryz.prog 14 #[.pointer (some ⟨g, 0, none⟩), y.val] W (KPost g P Q' v W) := by
 have h := refute_any g (fun k => g < k) g x y W hS hK.ok (fun k hk => Nat.lt_of_lt_of_le hS.blk.lt hk) hy
 rw [rf_say _ _ hK.ds, hK.Q, he] at h
 refine h.mono ?_
 rintro e W' ⟨x', rfl, h1, h2, h3, h4, h5, h6, h7⟩
 exact ⟨x', rfl, h1, ⟨by rw [h3]; exact hK.ds, by rw [h4]; exact hK.r, by rw [h5]; exact hK.P, h6, h2⟩, h7⟩
theorem kn_packed {W : World} {g : Nat} {x : StS} {P : List Chs} {Q : List Prv} (hS : StAt W g (fun k => g < k) g x) (hK : KS x P Q) : Calls Tryz.prog 17 #[.pointer (some ⟨g, 0, none⟩)] W fun e W' => ∃ A c, e = .returned (.slice A P.length c) ∧ Below W.heap.size W W' := by
 refine (packed_any g (fun k => g < k) g x W hS (by have := hK.ok.pl; omega)).mono ?_
 rintro e W' ⟨v, O, rfl, hO, _, hH⟩
 obtain ⟨A, c, rfl⟩ := hH.form 0 rfl
 have : O.length = P.length := by rw [← hK.P, ← hO, List.length_map]
 exact ⟨A, c, by rw [this], hH.below⟩
theorem Hp.store {w u W X : World} {L : List Ent} {ds : List Nat} {g t : Nat} {s s' : List Value} (h : Hp w u W (.blk g t s :: L) ds) (hg : W.grownBy X (some g)) (hb : Blk X g t s') : Hp w u X (.blk g t s' :: L) ds := h.upd 0 (e' := .blk g t s') rfl hg hb (fun _ h => .inl h)
theorem rowX_sub {α : Type} {sz : Nat} {f : α → Nat → Value} {W : World} {b t o : Nat} {s : List Value} (xs : List α) (pre post : List Value) (h : Blk W b t s) (hs : s = pre ++ (flat sz f xs ++ post)) (ho : o = pre.length) : RowX sz f W (fun _ => True) (some ⟨b, o, none⟩) xs.length xs := by
 subst hs ho
 refine ⟨rfl, fun _ => ⟨b, pre.length, rfl, trivial, fun k x hk j hj => h.cell ?_⟩⟩
 have h1 := flat_at sz f xs k x hk j hj
 have h2 := (List.getElem?_eq_some_iff.1 h1).1
 rw [Nat.add_assoc, List.getElem?_append_right (by omega), Nat.add_sub_cancel_left, List.getElem?_append_left h2]
 exact h1
theorem noLem_at (W : World) : noLem.At W (fun _ => True) := ⟨RowX.nil _ _ _ _ _, Nat.zero_le _⟩
theorem noPrf_at (W : World) : noPrf.At W (fun _ => True) := ⟨RowX.nil _ _ _ _ _, RowX.nil _ _ _ _ _, fun _ h => (by cases h), Nat.zero_le _, Nat.zero_le _⟩
theorem known_any (w : World) (hT : Tab w) : Calls Tryz.prog 10 #[] w (RetPost (.bool true) w.heap.size w) := by
 have HT := Lib.hid hT
 clear hT
 go_enter Tryz.func10, Tryz.ntmps10
 go_wp2_with fail
 refine (sample_any w).mono ?_
 rintro e W1 ⟨s, A, rfl, hnd, hpr, hb1⟩
 have HNW := Lib.hid (new_any s W1 (HT.out.keep hb1) (samD A) samR (by omega) (fun d hd => by simp only [samD, List.mem_cons, List.not_mem_nil, or_false] at hd; rcases hd with rfl | rfl | rfl <;> exact (show (2 : Nat) ≤ 9223372036854775807 by decide)) hpr)
 have HB1 := Lib.hid hb1
 clear hnd hpr hb1
 go_wp2_with fail
 refine HNW.out.mono ?_
 rintro e W2 hN
 have hv : validP (samD A) samR = true := by rw [valid_say (samD_say A)]; exact sam_valid
 unfold NewPost at hN
 rw [if_pos hv] at hN
 obtain ⟨g, x, rfl, hge, hSt, hOk, hds, hr, hP, hQ, hb2⟩ := hN
 have HS := Lib.hid (hSt (fun k => g < k) (Nat.lt_irrefl _))
 have HK : Hid (KS x [] []) := Lib.hid ⟨by rw [hds]; rfl, hr, hP, hQ, hOk⟩
 have HP2 := Lib.hid (((Hp.start w).keep HB1.out).pushBlk hb2 HS.out.blk hge)
 clear hv hge hSt hOk hds hr hP hQ hb2 HNW HB1
 go_upto_region 5 with fail
 obtain ⟨b3, hb3⟩ : ∃ q, q = W2.heap.size := ⟨_, rfl⟩
 obtain ⟨V3, hV3⟩ : ∃ V, V = W2.alloc (.cells #[.int .i64 1, .int .i64 14, .int .i64 2, .int .i64 15] 91) := ⟨_, rfl⟩
 have HS3 := Lib.hid (HS.out.keep (X := V3) (by rw [hV3]; exact (Below.refl _ W2).alloc (Nat.le_refl _) _))
 have hP3 := HP2.out.alloc [.int .i64 1, .int .i64 14, .int .i64 2, .int .i64 15] 91
 rw [show ([.int .i64 1, .int .i64 14, .int .i64 2, .int .i64 15] : List Value).toArray = #[.int .i64 1, .int .i64 14, .int .i64 2, .int .i64 15] from rfl, ← hV3, ← hb3] at hP3
 have HP3 := Lib.hid hP3
 rw [← hV3, ← hb3]
 clear hV3 hb3 hP3 HS HP2
 go_upto_region 6 with fail
 obtain ⟨b4, hb4⟩ : ∃ q, q = V3.heap.size := ⟨_, rfl⟩
 obtain ⟨V4, hV4⟩ : ∃ V, V = V3.alloc (.cells #[.int .i64 1, .slice (some ⟨b3, 0, none⟩) 2 2, .slice none 0 0, .slice none 0 0, .int .i64 0] 51) := ⟨_, rfl⟩
 have HS4 := Lib.hid (HS3.out.keep (X := V4) (by rw [hV4]; exact (Below.refl _ V3).alloc (Nat.le_refl _) _))
 have hP4 := HP3.out.alloc [.int .i64 1, .slice (some ⟨b3, 0, none⟩) 2 2, .slice none 0 0, .slice none 0 0, .int .i64 0] 51
 rw [show ([.int .i64 1, .slice (some ⟨b3, 0, none⟩) 2 2, .slice none 0 0, .slice none 0 0, .int .i64 0] : List Value).toArray = #[.int .i64 1, .slice (some ⟨b3, 0, none⟩) 2 2, .slice none 0 0, .slice none 0 0, .int .i64 0] from rfl, ← hV4, ← hb4] at hP4
 have HP4 := Lib.hid hP4
 rw [← hV4, ← hb4]
 clear hV4 hb4 hP4 HS3 HP3
 go_wp2_with fail
 have HPa := HP4.out.alloc [.int .i64 1, .int .i64 2] 3
 refine (kn_look (x := x) (L := [1, 2]) (b := ⟨0, noLem, noPrf, 0⟩) (HS4.out.keep ((Below.refl _ _).alloc (Nat.le_refl _) _)) HK.out (by decide) (row1_blk [1, 2] (HPa.blk 3 rfl) rfl (HPa.lt 3 rfl)) ⟨noLem_at _, noPrf_at _⟩ (look_ok (by rw [sam_l1]) (by rw [sam_l1]; rfl) rfl)).mono ?_
 rintro e W5 ⟨rfl, hb5⟩
 have HS5 := Lib.hid ((HS4.out.keep ((Below.refl _ _).alloc (Nat.le_refl _) _)).keep hb5)
 have HP5 := Lib.hid ((HP4.out.alloc0 _).keep hb5)
 clear HPa hb5 HS4 HP4
 go_wp2_with fail
 refine (kn_pack (x := x) (l := [(1, 14), (2, 15)]) HS5.out HK.out (by decide) (rowS_blk [(1, 14), (2, 15)] (HP5.out.blk 1 rfl) rfl (HP5.out.lt 1 rfl)) sam_p1).mono ?_
 rintro e W6 ⟨x6, rfl, hS6, hK6, hg6⟩
 have HP6 := Lib.hid (HP5.out.store hg6 hS6.blk)
 have HS6 := Lib.hid hS6
 have HK6 := Lib.hid hK6
 clear hS6 hK6 hg6 HP5 HS5 HK
 go_wp2_with fail
 have HPa := HP6.out.alloc [.int .i64 2] 3
 have hSa := HS6.out.keep ((Below.refl _ _).alloc (Nat.le_refl _) (.cells #[.int .i64 2] 3))
 refine (kn_look (x := x6) (L := [2]) (b := ⟨1, ⟨some ⟨b3, 2, none⟩, 1, 1, [(2, 15)]⟩, noPrf, 0⟩) hSa HK6.out (by decide) (row1_blk [2] (HPa.blk 3 rfl) rfl (HPa.lt 3 rfl)) ⟨⟨rowX_sub [(2, 15)] [.int .i64 1, .int .i64 14] [] (HPa.blk 1 rfl) rfl rfl, show (1 : Nat) ≤ 100000 by decide⟩, noPrf_at _⟩ (look_ok (by rw [sam_l2]) (by rw [sam_l2]; rfl) rfl)).mono ?_
 rintro e W7 ⟨rfl, hb7⟩
 have HS7 := Lib.hid (hSa.keep hb7)
 have HP7 := Lib.hid ((HP6.out.alloc0 _).keep hb7)
 clear HPa hSa hb7 HS6 HP6
 go_wp2_with fail
 have HPa := HP7.out.alloc [.int .i64 1, .int .i64 3] 3
 have hSa := HS7.out.keep ((Below.refl _ _).alloc (Nat.le_refl _) (.cells #[.int .i64 1, .int .i64 3] 3))
 refine (kn_look (x := x6) (L := [1, 3]) (b := ⟨0, noLem, noPrf, 0⟩) hSa HK6.out (by decide) (row1_blk [1, 3] (HPa.blk 3 rfl) rfl (HPa.lt 3 rfl)) ⟨noLem_at _, noPrf_at _⟩ (look_ok (by rw [sam_l3]) (by rw [sam_l3]; rfl) rfl)).mono ?_
 rintro e W8 ⟨rfl, hb8⟩
 have HS8 := Lib.hid (hSa.keep hb8)
 have HP8 := Lib.hid ((HP7.out.alloc0 _).keep hb8)
 clear HPa hSa hb8 HS7 HP7
 go_wp2_with fail
 have HPa := HP8.out.alloc [.int .i64 1, .int .i64 15] 91
 have hSa := HS8.out.keep ((Below.refl _ _).alloc (Nat.le_refl _) (.cells #[.int .i64 1, .int .i64 15] 91))
 refine (kn_pack (x := x6) (l := [(1, 15)]) hSa HK6.out (by decide) (rowS_blk [(1, 15)] (HPa.blk 3 rfl) rfl (HPa.lt 3 rfl)) sam_p2).mono ?_
 rintro e W9 ⟨x9, rfl, hS9, hK9, hg9⟩
 have HP9 := Lib.hid ((HP8.out.alloc0 _).store hg9 hS9.blk)
 have HS9 := Lib.hid hS9
 have HK9 := Lib.hid hK9
 clear HPa hSa hS9 hK9 hg9 HP8 HS8 HK6
 go_wp2_with fail
 refine (kn_packed HS9.out HK9.out).mono ?_
 rintro e W10 ⟨A10, c10, rfl, hb10⟩
 have HS10 := Lib.hid (HS9.out.keep hb10)
 have HP10 := Lib.hid (HP9.out.keep hb10)
 clear hb10 HP9 HS9
 go_wp2_with fail
 have HPa := HP10.out.alloc [.int .i64 1, .int .i64 14, .int .i64 2, .int .i64 14] 91
 have hSa := HS10.out.keep ((Below.refl _ _).alloc (Nat.le_refl _) (.cells #[.int .i64 1, .int .i64 14, .int .i64 2, .int .i64 14] 91))
 refine (kn_pack (x := x9) (l := [(1, 14), (2, 14)]) hSa HK9.out (by decide) (rowS_blk [(1, 14), (2, 14)] (HPa.blk 3 rfl) rfl (HPa.lt 3 rfl)) sam_p3).mono ?_
 rintro e W11 ⟨x11, rfl, hS11, hK11, hg11⟩
 have HP11 := Lib.hid ((HP10.out.alloc0 _).store hg11 hS11.blk)
 have HS11 := Lib.hid hS11
 have HK11 := Lib.hid hK11
 clear HPa hSa hS11 hK11 hg11 HP10 HS10 HK9
 go_wp2_with fail
 have HPa := HP11.out.alloc [.int .i64 4, .int .i64 14] 91
 have hSa := HS11.out.keep ((Below.refl _ _).alloc (Nat.le_refl _) (.cells #[.int .i64 4, .int .i64 14] 91))
 refine (kn_pack (x := x11) (l := [(4, 14)]) hSa HK11.out (by decide) (rowS_blk [(4, 14)] (HPa.blk 3 rfl) rfl (HPa.lt 3 rfl)) sam_p4).mono ?_
 rintro e W12 ⟨x12, rfl, hS12, hK12, hg12⟩
 have HP12 := Lib.hid ((HP11.out.alloc0 _).store hg12 hS12.blk)
 have HS12 := Lib.hid hS12
 have HK12 := Lib.hid hK12
 clear HPa hSa hS12 hK12 hg12 HP11 HS11 HK11
 go_upto_region 11 with fail
 obtain ⟨b5, hb5⟩ : ∃ q, q = W12.heap.size := ⟨_, rfl⟩
 obtain ⟨b6, hb6⟩ : ∃ q, q = W12.heap.size + 1 := ⟨_, rfl⟩
 obtain ⟨b7, hb7⟩ : ∃ q, q = W12.heap.size + 1 + 1 := ⟨_, rfl⟩
 obtain ⟨V13, hV13⟩ : ∃ V, V = ((W12.alloc (.cells #[.int .i64 1, .int .i64 2, .int .i64 3] 3)).alloc (.cells #[.slice (some ⟨b3, 0, none⟩) 1 2, .slice none 0 0] 41)).alloc (.cells #[.slice (some ⟨b5, 0, none⟩) 3 3, .slice (some ⟨b6, 0, none⟩) 2 2] 44) := ⟨_, rfl⟩
 have hP13 := ((HP12.out.alloc [.int .i64 1, .int .i64 2, .int .i64 3] 3).alloc [.slice (some ⟨b3, 0, none⟩) 1 2, .slice none 0 0] 41).alloc [.slice (some ⟨b5, 0, none⟩) 3 3, .slice (some ⟨b6, 0, none⟩) 2 2] 44
 simp only [World.size_alloc] at hP13
 rw [show ((W12.alloc (.cells ([.int .i64 1, .int .i64 2, .int .i64 3] : List Value).toArray 3)).alloc (.cells ([.slice (some ⟨b3, 0, none⟩) 1 2, .slice none 0 0] : List Value).toArray 41)).alloc (.cells ([.slice (some ⟨b5, 0, none⟩) 3 3, .slice (some ⟨b6, 0, none⟩) 2 2] : List Value).toArray 44) = V13 from hV13.symm, ← hb7, ← hb6, ← hb5] at hP13
 have hb13 : Below W12.heap.size W12 V13 := by rw [hV13]; exact (((Below.refl _ W12).alloc (Nat.le_refl _) _).alloc (by simp) _).alloc (by simp; omega) _
 have HS13 := Lib.hid (HS12.out.keep hb13)
 have HP13 := Lib.hid hP13
 rw [← hb7, ← hb6, ← hb5, ← hV13]
 clear hV13 hb5 hb6 hb7 hb13 HP12 HS12
 have HYA : Hid (∀ X, Below V13.heap.size V13 X → (⟨some ⟨b5, 0, none⟩, 3, 3, [1, 2, 3], some ⟨b6, 0, none⟩, 2, 2, [⟨some ⟨b3, 0, none⟩, 1, 2, [(1, 14)]⟩, noLem]⟩ : Prf).At X (fun _ => True)) := Lib.hid (fun X hb => by
  have h1 : (⟨some ⟨b5, 0, none⟩, 3, 3, [1, 2, 3], some ⟨b6, 0, none⟩, 2, 2, [⟨some ⟨b3, 0, none⟩, 1, 2, [(1, 14)]⟩, noLem]⟩ : Prf).At V13 (fun _ => True) := by
   refine ⟨rowX_sub [1, 2, 3] [] [] (hP13.blk 3 rfl) rfl rfl, rowX_sub [⟨some ⟨b3, 0, none⟩, 1, 2, [(1, 14)]⟩, noLem] [] [] (hP13.blk 4 rfl) rfl rfl, fun m hm => ?_, show (3 : Nat) ≤ 100000 by decide, show (2 : Nat) ≤ 100000 by decide⟩
   simp only [List.mem_cons, List.not_mem_nil, or_false] at hm
   rcases hm with rfl | rfl
   ·exact ⟨rowX_sub [(1, 14)] [] [.int .i64 2, .int .i64 15] (hP13.blk 1 rfl) rfl rfl, show (1 : Nat) ≤ 100000 by decide⟩
   ·exact noLem_at _
  exact h1.keep hb)
 have q0 := hP13.c 5 0 rfl rfl
 have q1 := hP13.c 5 1 rfl rfl
 have ql := hP13.lt 5 rfl
 clear hP13
 go_wp2_with fail
 refine (kn_refute (x := x12) (y := (⟨some ⟨b5, 0, none⟩, 3, 3, [1, 2, 3], some ⟨b6, 0, none⟩, 2, 2, [⟨some ⟨b3, 0, none⟩, 1, 2, [(1, 14)]⟩, noLem]⟩ : Prf)) HS13.out HK12.out (HYA.out _ (Below.refl _ _)) sam_r).mono ?_
 rintro e W14 ⟨x14, rfl, hS14, hK14, hg14⟩
 have hP14 := HP13.out.store hg14 hS14.blk
 have HYB : Hid (∀ X, Below W14.heap.size W14 X → (⟨some ⟨b5, 0, none⟩, 3, 3, [1, 2, 3], some ⟨b6, 0, none⟩, 2, 2, [⟨some ⟨b3, 0, none⟩, 1, 2, [(1, 14)]⟩, noLem]⟩ : Prf).At X (fun _ => True)) := Lib.hid (fun X hb => by
  have h1 : (⟨some ⟨b5, 0, none⟩, 3, 3, [1, 2, 3], some ⟨b6, 0, none⟩, 2, 2, [⟨some ⟨b3, 0, none⟩, 1, 2, [(1, 14)]⟩, noLem]⟩ : Prf).At W14 (fun _ => True) := by
   refine ⟨rowX_sub [1, 2, 3] [] [] (hP14.blk 3 rfl) rfl rfl, rowX_sub [⟨some ⟨b3, 0, none⟩, 1, 2, [(1, 14)]⟩, noLem] [] [] (hP14.blk 4 rfl) rfl rfl, fun m hm => ?_, show (3 : Nat) ≤ 100000 by decide, show (2 : Nat) ≤ 100000 by decide⟩
   simp only [List.mem_cons, List.not_mem_nil, or_false] at hm
   rcases hm with rfl | rfl
   ·exact ⟨rowX_sub [(1, 14)] [] [.int .i64 2, .int .i64 15] (hP14.blk 1 rfl) rfl rfl, show (1 : Nat) ≤ 100000 by decide⟩
   ·exact noLem_at _
  exact h1.keep hb)
 have HP14 := Lib.hid hP14
 have HS14 := Lib.hid hS14
 have HK14 := Lib.hid hK14
 clear q0 q1 ql hS14 hK14 hg14 HP13 HS13 HK12 HYA
 have q0 := hP14.c 5 0 rfl rfl
 have q1 := hP14.c 5 1 rfl rfl
 have ql := hP14.lt 5 rfl
 clear hP14
 go_wp2_with fail
 have HPa := HP14.out.alloc [.int .i64 1, .int .i64 2, .int .i64 3] 3
 have hba := (Below.refl _ W14).alloc (Nat.le_refl _) (.cells #[.int .i64 1, .int .i64 2, .int .i64 3] 3)
 have hSa := HS14.out.keep hba
 refine (kn_look (x := x14) (L := [1, 2, 3]) (b := ⟨2, noLem, (⟨some ⟨b5, 0, none⟩, 3, 3, [1, 2, 3], some ⟨b6, 0, none⟩, 2, 2, [⟨some ⟨b3, 0, none⟩, 1, 2, [(1, 14)]⟩, noLem]⟩ : Prf), 0⟩) hSa HK14.out (by decide) (row1_blk [1, 2, 3] (HPa.blk 6 rfl) rfl (HPa.lt 6 rfl)) ⟨noLem_at _, HYB.out _ hba⟩ (look_ok (by rw [sam_l4]) (by rw [sam_l4]; rfl) rfl)).mono ?_
 rintro e W15 ⟨rfl, hb15⟩
 have HS15 := Lib.hid (hSa.keep hb15)
 have hP15 := (HP14.out.alloc0 _).keep hb15
 have HP15 := Lib.hid hP15
 clear q0 q1 ql HPa hba hSa hb15 HS14 HP14 HYB
 have q0 := hP15.c 2 0 rfl rfl
 have q1 := hP15.c 2 1 rfl rfl
 have q2 := hP15.c 2 2 rfl rfl
 have q3 := hP15.c 2 3 rfl rfl
 have q4 := hP15.c 2 4 rfl rfl
 have ql := hP15.lt 2 rfl
 clear hP15
 go_wp2_with fail
 have HPa := HP15.out.alloc [.int .i64 1, .int .i64 2] 3
 have hba := (Below.refl _ W15).alloc (Nat.le_refl _) (.cells #[.int .i64 1, .int .i64 2] 3)
 have hSa := HS15.out.keep hba
 refine (kn_look (x := x14) (L := [1, 2]) (b := ⟨1, ⟨some ⟨b3, 0, none⟩, 2, 2, [(1, 14), (2, 15)]⟩, noPrf, 0⟩) hSa HK14.out (by decide) (row1_blk [1, 2] (HPa.blk 6 rfl) rfl (HPa.lt 6 rfl)) ⟨⟨rowX_sub [(1, 14), (2, 15)] [] [] (HPa.blk 1 rfl) rfl rfl, show (2 : Nat) ≤ 100000 by decide⟩, noPrf_at _⟩ (look_ok (by rw [sam_l5]) (by rw [sam_l5]; rfl) rfl)).mono ?_
 rintro e W16 ⟨rfl, hb16⟩
 have HB16 := Lib.hid ((HP15.out.alloc0 _).keep hb16).below
 clear q0 q1 q2 q3 q4 ql HPa hba hSa hb16 HS15 HP15
 go_wp2_with fail
 go_ret
 exact ⟨rfl, HB16.out⟩
attribute [local go_sem] Oper.semAt_some
end Go.Proofs.YtdpbbhbegehcjaaGreatDoor

namespace Go.Proofs.YtdpbbhbegehcjaaGreatDoor
open Go.RowKit Go.Shelf
theorem iC_one (a : Int) (j : Nat) (_ : j < 1) : (iC a j).oneCell' = true := rfl
theorem int_info1 : (Tryz.prog.info? 3).map (fun i => (i.zero, i.size, i.bytes)) = some (some (.int .i64 0), 1, 8) := by kernel_rfl
attribute [local go_sem] Oper.semAt_some
end Go.Proofs.YtdpbbhbegehcjaaGreatDoor

namespace Go.Proofs.YtdpbbhbegehcjaaGreatDoor
open Go.RowKit
def amgF (a b : List Int) : Bool := a.all fun x => b.contains x
theorem amg_iff {a b : List Int} : amgF a b = true ↔ ∀ x ∈ a, x ∈ b := by
 unfold amgF
 rw [List.all_eq_true]
 constructor
 ·intro h x hx; simpa using h x hx
 ·intro h x hx; simpa using h x hx
end Go.Proofs.YtdpbbhbegehcjaaGreatDoor

namespace Go.Proofs.YtdpbbhbegehcjaaGreatDoor
open Go.RowKit Go.Shelf
theorem hasL_con (l : List Int) (x : Int) : hasL l x = l.contains x := by rw [hasL_mem]; simp
theorem among_any (A B : Option Addr) (n c m d : Nat) (w : World) (a b : List Int) (hn : n ≤ 9223372036854775807) (hm : m ≤ 9223372036854775807) (ha : Row1 intV w w.heap.size A n a) (hb : Row1 intV w w.heap.size B m b) :
  Calls Tryz.prog 19 #[.slice A n c, .slice B m d] w fun e w' => e = .returned (.bool (amgF a b)) ∧ w = w' := by
 have Ha := Lib.hid ha
 have HHA := Lib.hid (fun x => rhas_any B m d x w b hm hb)
 have Hlen := Eqn.mk ha.1
 have HF : Eqn (amgF a b) (a.all fun x => b.contains x) := rfl
 generalize amgF a b = ans at *
 clear ha hb
 go_enter Tryz.func19, Tryz.ntmps19
 go_wp2_with fail
 go_loopw [5] (fun i wr => ∃ k : Nat, k ≤ n ∧ i = .int .i64 k ∧ ((a.take k).all fun x => b.contains x) = true ∧ w = wr) (fun i _ => n - (intOf i).toNat)
 case atStart => exact ⟨0, Nat.zero_le _, rfl, rfl, rfl⟩
 case round =>
  obtain ⟨k, hk, rfl, hall, rfl⟩ := hrel
  have HAL := Eqn.mk hall
  clear hall
  by_cases hlt : k < n
  ·have j0 : (k : Int) < (n : Int) := by omega
   obtain ⟨x, hx⟩ : ∃ x, a[k]? = some x := ⟨_, List.getElem?_eq_getElem (by rw [Hlen.out]; exact hlt)⟩
   obtain ⟨g, off, rfl, hbl, hc⟩ := Ha.out.2 (by omega)
   have y0 : w.cell? ⟨g, off + k, none⟩ = some (.int .i64 x) := hc k x hx
   have HN1 : Hid (hasL b x = true → ((a.take (k + 1)).all fun x => b.contains x) = true) := Lib.hid (fun h => all_take hx HAL.out (by rw [← hasL_con]; exact h))
   have HN0 : Hid (hasL b x = false → ans = false) := Lib.hid (fun h => by rw [HF]; exact all_no hx (by rw [← hasL_con]; exact h))
   have HX := Lib.hid (HHA.out x)
   generalize hasL b x = sm at *
   clear hc hx hbl HAL HF HHA
   cases sm with
   | true =>
    go_wp2_with fail
    refine HX.out.mono ?_
    rintro e W1 ⟨rfl, rfl⟩
    go_wp2_with fail
    go_roundw
    case rel => exact ⟨k + 1, hlt, by go_num, HN1.out (by trivial), trivial⟩
    case measure => simp [intOf]; omega
   | false =>
    go_wp2_with fail
    refine HX.out.mono ?_
    rintro e W1 ⟨rfl, rfl⟩
    go_wp2_with fail
    go_ret
    exact ⟨ret_bool (HN0.out (by trivial)).symm, rfl⟩
  ·obtain rfl : k = n := by omega
   have HE : Hid (ans = true) := Lib.hid (by
    have h1 := HAL.out
    have h2 := Hlen.out
    rw [List.take_of_length_le (by omega)] at h1
    rw [HF, h1])
   clear HAL HF HHA
   go_wp2_with fail
   go_ret
   exact ⟨ret_bool HE.out.symm, rfl⟩
end Go.Proofs.YtdpbbhbegehcjaaGreatDoor

namespace Go.Proofs.YtdpbbhbegehcjaaGreatDoor
open Go.RowKit Go.ChangeShapes Go.WideShapes Go.ChangeAt Go.Deep Go.Joins
section
variable {H : Type} {enc : TypeId × Value → H} {w : World} {base b0 : Nat} {spare : Nat → Bool} {held : Bool} {r : Reach}
theorem chs_of_trod {fuel : Nat} {A : Option Addr} {n c : Nat} {x : DataW H × List MemPlace} (hf : DataW.trod enc Tryz.prog w base spare held fuel 41 [.slice A n c] = some x) :
  n ≤ 9223372036854775807 ∧ ∃ xs : List (Int × Int), RowS 2 chC w w.heap.size A n xs := by
 obtain ⟨hn, G, m, h1, h2⟩ := elems_of_trod (sz := 2) Tryz.underlying41 (by kernel_rfl) (by omega) hf
 obtain ⟨xs, hx, _⟩ := rowS_of_elems (w := w) (A := A) chC (fun _ => True) G (fun i hi => by
  obtain ⟨_, y, hy⟩ := h1 i hi
  obtain ⟨g, hg⟩ := ints_of_struct Tryz.underlying91 (by kernel_rfl) (by kernel_rfl) (by kernel_rfl) hy
  refine ⟨(g 0, g 1), trivial, fun j hj => ?_⟩
  have := (hg j hj).1
  match j, hj with
  | 0, _ => exact this
  | 1, _ => exact this) h2
 exact ⟨hn, xs, hx⟩
theorem lems_of_trod {fuel : Nat} {A : Option Addr} {n c : Nat} {x : DataW H × List MemPlace} (hf : DataW.trod enc Tryz.prog w base spare held fuel 42 [.slice A n c] = some x) :
  n ≤ 9223372036854775807 ∧ ∃ xs : List Lem, RowS 1 lemC w w.heap.size A n xs ∧ ∀ m ∈ xs, RowS 2 chC w w.heap.size m.adr m.len m.chs := by
 obtain ⟨hn, G, m, h1, h2⟩ := elems_of_trod (sz := 1) Tryz.underlying42 (by kernel_rfl) (by omega) hf
 obtain ⟨xs, hx, hp⟩ := rowS_of_elems (w := w) (A := A) lemC (fun m => RowS 2 chC w w.heap.size m.adr m.len m.chs) G (fun i hi => by
  obtain ⟨hl, y, hy⟩ := h1 i hi
  obtain ⟨v, hv⟩ : ∃ v, G i = [v] := by
   match h : G i, hl with
   | [v], _ => exact ⟨v, rfl⟩
  rw [hv] at hy
  obtain ⟨B, k, d, ev⟩ := slice_form Tryz.underlying41 hy
  simp at ev
  subst ev
  obtain ⟨_, ys, hr⟩ := chs_of_trod hy
  refine ⟨⟨B, k, d, ys⟩, hr, fun j hj => ?_⟩
  match j, hj with
  | 0, _ => rw [hv]; rfl) h2
 exact ⟨hn, xs, hx, hp⟩
theorem cap_of_trod {fuel : Nat} {t e : TypeId} {A : Option Addr} {n c : Nat} {x : DataW H × List MemPlace} (ht : Tryz.prog.underlying t = some (.slice e)) (hf : DataW.trod enc Tryz.prog w base spare held fuel t [.slice A n c] = some x) : n ≤ c := by
 rcases open_slice ht hf with ⟨hcs, _⟩ | ⟨a, len, cap, m, fu, D, Pl, hcs, _, hl, hm, hmm, _, hi⟩
 ·simp at hcs; omega
 ·simp at hcs
  obtain ⟨rfl, rfl, rfl⟩ := hcs
  exact hl
theorem prf_cells {fuel : Nat} {cs : List Value} {y : DataW H × List MemPlace} (h : DataW.trod enc Tryz.prog w base spare held fuel 44 cs = some y) :
  ∃ x : Prf, cs[0]? = some x.v1 ∧ cs[1]? = some x.v2 ∧ Row1 intV w w.heap.size x.sa x.sn x.sts ∧ RowS 1 lemC w w.heap.size x.la x.ln x.lms ∧ (∀ m ∈ x.lms, RowS 2 chC w w.heap.size m.adr m.len m.chs) ∧ x.ln ≤ 9223372036854775807 ∧ x.ln ≤ x.lc := by
 obtain ⟨m, hm⟩ := fields_of_trod Tryz.underlying44 (by kernel_rfl) (by kernel_rfl) h
 obtain ⟨v0, z0, c0, t0⟩ := hm 0 _ rfl
 obtain ⟨v1, z1, c1, t1⟩ := hm 1 _ rfl
 obtain ⟨A0, n0, k0, e0⟩ := slice_form Tryz.underlying31 t0
 obtain ⟨A1, n1, k1, e1⟩ := slice_form Tryz.underlying42 t1
 simp at e0 e1
 subst e0 e1
 obtain ⟨xs, hr, _, _⟩ := ints_of_trod Tryz.underlying31 Tryz.underlying3 (by kernel_rfl) t0
 obtain ⟨hn, ls, hl, hp⟩ := lems_of_trod t1
 exact ⟨⟨A0, n0, k0, xs, A1, n1, k1, ls⟩, c0, c1, hr, hl, hp, hn, cap_of_trod Tryz.underlying42 t1⟩
theorem acd_cells {fuel : Nat} {l : List Value} {y : DataW H × List MemPlace} (hll : l.length = 5) (h : DataW.trod enc Tryz.prog w base spare held fuel 46 l = some y) :
  ∃ x : Acd, l = [.int .i64 x.kind, x.ch.val, x.pr.v1, x.pr.v2, .slice x.ta x.tn x.tc] ∧ x.Raw w := by
 obtain ⟨xs, m, _, _, hlen, hxl, hg⟩ := DataW.trod_struct Tryz.underlying46 h
 have hxl' : xs.length = 4 := hxl
 match l, hll with
 | [a, b, c, d, e], _ =>
  have h0 : DataW.trod enc Tryz.prog w base spare held m 3 (List.take (Tryz.prog.cellsOf 3) (List.drop 0 [a, b, c, d, e])) = xs[0]? := hg 0 _ rfl
  have h1 : DataW.trod enc Tryz.prog w base spare held m 41 (List.take (Tryz.prog.cellsOf 41) (List.drop 1 [a, b, c, d, e])) = xs[1]? := hg 1 _ rfl
  have h2 : DataW.trod enc Tryz.prog w base spare held m 44 (List.take (Tryz.prog.cellsOf 44) (List.drop 2 [a, b, c, d, e])) = xs[2]? := hg 2 _ rfl
  have h3 : DataW.trod enc Tryz.prog w base spare held m 31 (List.take (Tryz.prog.cellsOf 31) (List.drop 4 [a, b, c, d, e])) = xs[3]? := hg 3 _ rfl
  rw [List.getElem?_eq_getElem (by omega)] at h0 h1 h2 h3
  rw [show Tryz.prog.cellsOf 3 = 1 from by kernel_rfl] at h0
  rw [show Tryz.prog.cellsOf 41 = 1 from by kernel_rfl] at h1
  rw [show Tryz.prog.cellsOf 44 = 2 from by kernel_rfl] at h2
  rw [show Tryz.prog.cellsOf 31 = 1 from by kernel_rfl] at h3
  have h0' : DataW.trod enc Tryz.prog w base spare held m 3 [a] = some xs[0] := h0
  have h1' : DataW.trod enc Tryz.prog w base spare held m 41 [b] = some xs[1] := h1
  have h2' : DataW.trod enc Tryz.prog w base spare held m 44 [c, d] = some xs[2] := h2
  have h3' : DataW.trod enc Tryz.prog w base spare held m 31 [e] = some xs[3] := h3
  obtain ⟨k, ek, _, _⟩ := DataW.trod_int Tryz.underlying3 h0'
  obtain ⟨A, n, q, ea⟩ := slice_form Tryz.underlying41 h1'
  obtain ⟨T, tn, tc, et⟩ := slice_form Tryz.underlying31 h3'
  simp at ek ea et
  subst ek ea et
  obtain ⟨_, ch, hc⟩ := chs_of_trod h1'
  obtain ⟨pf, e0, e1, hs, hl, hm, hln, hlc⟩ := prf_cells h2'
  simp at e0 e1
  subst e0 e1
  obtain ⟨ts, ht, _, _⟩ := ints_of_trod Tryz.underlying31 Tryz.underlying3 (by kernel_rfl) h3'
  exact ⟨⟨k, ⟨A, n, q, ch⟩, pf, T, tn, tc, ts⟩, rfl, ⟨hc, hs, hl, hm, ht, hln, hlc⟩⟩
theorem arg_acts {v : Value} {d : DataW H} {p : List MemPlace} (hv : Value.okWide Tryz.prog w r b0 30 v) (h : DataW.Trod enc Tryz.prog w base spare held 30 v d p) :
  ∃ A n c xs, v = .slice A n c ∧ RowS 5 Acd.cell w w.heap.size A n xs ∧ (∀ x ∈ xs, x.Raw w) ∧ n ≤ 9223372036854775807 := by
 obtain ⟨A, n, c, rfl⟩ := okWide_slice Tryz.underlying30 hv
 obtain ⟨fuel, hf⟩ := h
 obtain ⟨hn, G, m, h1, h2⟩ := elems_of_trod (sz := 5) Tryz.underlying30 (by kernel_rfl) (by omega) (by simpa [Value.cells] using hf)
 obtain ⟨xs, hx, hp⟩ := rowS_of_elems (w := w) (A := A) Acd.cell (fun x => x.Raw w) G (fun i hi => by
  obtain ⟨hl, y, hy⟩ := h1 i hi
  obtain ⟨x, e, hr⟩ := acd_cells hl hy
  refine ⟨x, hr, fun j hj => ?_⟩
  rw [e]
  match j, hj with
  | 0, _ => rfl
  | 1, _ => rfl
  | 2, _ => rfl
  | 3, _ => rfl
  | 4, _ => rfl) h2
 exact ⟨A, n, c, xs, rfl, hx, hp, hn⟩
def Acd.val (x : Acd) : Value := .agg #[.int .i64 x.kind, .slice x.ch.adr x.ch.len x.ch.cap, .slice x.pr.sa x.pr.sn x.pr.sc, .slice x.pr.la x.pr.ln x.pr.lc, .slice x.ta x.tn x.tc]
end
end Go.Proofs.YtdpbbhbegehcjaaGreatDoor

namespace Go.Proofs.YtdpbbhbegehcjaaGreatDoor
open Go.RowKit
def smGoN : Nat → List Dom → Bool
 | 0, _ => true
 | _, [] => true
 | f + 1, d :: r => if 60 < d.len then false else smGoN f r
theorem smGoN_nil (f : Nat) : smGoN f [] = true := by cases f <;> rfl
theorem smGoN_all : ∀ (f : Nat) (l : List Dom), smGoN f l = true → l.length ≤ f → ∀ d ∈ l, d.len ≤ 60 := by
 intro f
 induction f with
 | zero => intro l _ h2 d hd; cases l with | nil => cases hd | cons x r => simp at h2
 | succ f ih =>
  intro l h1 h2 d hd
  cases l with
  | nil => cases hd
  | cons x r =>
   rw [smGoN] at h1
   by_cases hx : 60 < x.len
   ·rw [if_pos hx] at h1; cases h1
   ·rw [if_neg hx] at h1
    rcases List.mem_cons.1 hd with rfl | h
    ·omega
    ·exact ih r h1 (by simp at h2; omega) d h
def smF (ds : List Dom) (r : Rul) (d k : Int) : Bool := smGoN 600 ds && (decide ((ds.length : Int) ≤ d) && (decide ((r.pairs.length : Int) ≤ k) && (decide ((r.loads.length : Int) ≤ k) && decide ((r.caps.length : Int) ≤ k))))
theorem smF_spec {ds : List Dom} {r : Rul} {d k : Int} (hd : d ≤ 600) (h : smF ds r d k = true) : (ds.length : Int) ≤ d ∧ (∀ x ∈ ds, x.len ≤ 60) ∧ (r.pairs.length : Int) ≤ k ∧ (r.loads.length : Int) ≤ k ∧ (r.caps.length : Int) ≤ k := by
 simp only [smF, Bool.and_eq_true, decide_eq_true_eq] at h
 obtain ⟨h1, h2, h3, h4, h5⟩ := h
 exact ⟨h2, smGoN_all 600 ds h1 (by omega), h3, h4, h5⟩
theorem small_any (s : PrbS) (d k : Int) (w : World) (ds : List Dom) (r : Rul) (hn : s.nd ≤ 9223372036854775807) (h : PrbAt w w.heap.size s ds r) :
  Calls Tryz.prog 7 #[s.val, .int .i64 d, .int .i64 k] w (RetPost (.bool (smF ds r d k)) w.heap.size w) := by
 obtain ⟨A, n, c, ⟨A0, n0, c0, A1, n1, c1, A2, n2, c2⟩⟩ := s
 obtain ⟨W0, hW0⟩ : ∃ W0, W0 = w.alloc (.cells #[.slice A n c, .slice A0 n0 c0, .slice A1 n1 c1, .slice A2 n2 c2] 29) := ⟨_, rfl⟩
 have HB0 : Hid (Below w.heap.size w W0) := Lib.hid (by rw [hW0]; exact (Below.refl _ w).alloc (Nat.le_refl _) _)
 have h0 : DomsAt W0 W0.heap.size A n ds := h.1.keep HB0.out
 have hX : Blk W0 w.heap.size 29 [.slice A n c, .slice A0 n0 c0, .slice A1 n1 c1, .slice A2 n2 c2] := by rw [hW0]; exact blk_new w _ _
 have Hl := Lib.hid h0.1
 have Hlen := Eqn.mk h0.1.1
 have q0 : W0.cell? ⟨w.heap.size, 0, none⟩ = some (.slice A n c) := hX.cell rfl
 have q1 : W0.cell? ⟨w.heap.size, 1, none⟩ = some (.slice A0 n0 c0) := hX.cell rfl
 have q2 : W0.cell? ⟨w.heap.size, 2, none⟩ = some (.slice A1 n1 c1) := hX.cell rfl
 have q3 : W0.cell? ⟨w.heap.size, 3, none⟩ = some (.slice A2 n2 c2) := hX.cell rfl
 have q4 := hX.lt
 have HF : Eqn (smF ds r d k) (smGoN (600 - 0) (ds.drop 0) && (decide ((n : Int) ≤ d) && (decide ((n0 : Int) ≤ k) && (decide ((n1 : Int) ≤ k) && decide ((n2 : Int) ≤ k))))) := by
  rw [Eqn, smF, Hlen.out, h.2.1.1, h.2.2.1.1, h.2.2.2.1.1]; rfl
 dsimp only at hn
 clear h h0 hX
 rw [show smF ds r d k = _ from HF.out]
 obtain ⟨tail, htail⟩ : ∃ tail, tail = (decide ((n : Int) ≤ d) && (decide ((n0 : Int) ≤ k) && (decide ((n1 : Int) ≤ k) && decide ((n2 : Int) ≤ k)))) := ⟨_, rfl⟩
 rw [← htail]
 obtain ⟨ans, hans⟩ : ∃ ans, ans = (smGoN (600 - 0) (ds.drop 0) && tail) := ⟨_, rfl⟩
 rw [← hans]
 have HA := Eqn.mk hans
 have HT := Eqn.mk htail
 clear hans HF htail
 unfold PrbS.val
 dsimp only
 go_enter Tryz.func7, Tryz.ntmps7
 go_wp2_with fail
 rw [← hW0]
 clear hW0
 have HEND : Hid (Eqn ans tail → Eqn ans (decide ((n : Int) ≤ d) && (decide ((n0 : Int) ≤ k) && (decide ((n1 : Int) ≤ k) && decide ((n2 : Int) ≤ k))))) := Lib.hid (fun h => h.out.trans HT.out)
 clear HT
 generalize htt : tail = tt at *
 clear htt
 go_loopw [7] (fun i wr => ∃ j : Nat, j ≤ n ∧ j ≤ 600 ∧ i = .int .i64 j ∧ Eqn ans (smGoN (600 - j) (ds.drop j) && tt) ∧ W0 = wr) (fun i _ => n - (intOf i).toNat)
 case atStart => exact ⟨0, Nat.zero_le _, Nat.zero_le _, rfl, HA, rfl⟩
 case round =>
  clear HA
  obtain ⟨j, hj, hj6, rfl, HR, rfl⟩ := hrel
  by_cases hlt : j < n
  ·by_cases h6 : j < 600
   ·obtain ⟨p, hp, hpd⟩ := drop_at (xs := ds) (k := j) (by rw [Hlen.out]; exact hlt)
    obtain ⟨b, off, hA, hbl, hc⟩ := Hl.out.2 (by omega)
    subst hA
    have c1 := hc j p hp 1 (by omega)
    simp only [Dom.cell] at c1
    have HR2 := HR.out
    rw [hpd, show 600 - j = (600 - (j + 1)) + 1 by omega, smGoN] at HR2
    have HRR := Eqn.mk HR2
    have j0 : (j : Int) < (n : Int) := by omega
    have j1 : (j : Int) < 600 := by omega
    clear hc hp hpd HR HR2
    obtain ⟨st, adr, len, cap, chs⟩ := p
    dsimp only at *
    by_cases h10 : 60 < len
    ·have HE : Eqn ans false := by rw [Eqn, HRR.out, if_pos h10]; rfl
     have j2 : (60 : Int) < (len : Int) := by omega
     clear HRR h10
     go_wp2_with fail
     go_ret
     exact ⟨ret_bool HE.out.symm, HB0.out⟩
    ·have HE : Eqn ans (smGoN (600 - (j + 1)) (ds.drop (j + 1)) && tt) := by rw [Eqn, HRR.out, if_neg h10]
     have j2 : ¬ (60 : Int) < (len : Int) := by omega
     clear HRR h10
     go_wp2_with fail
     go_roundw
     case rel => exact ⟨j + 1, by omega, by omega, by go_num, HE, trivial⟩
     case measure => simp [intOf]; omega
   ·have HE : Eqn ans tt := by rw [Eqn, HR.out, show 600 - j = 0 by omega, smGoN]; simp
    have j0 : (j : Int) < (n : Int) := by omega
    have j1 : ¬ (j : Int) < 600 := by omega
    have HE2 := HEND.out HE
    clear HR HE HEND
    by_cases g0 : (n : Int) ≤ d
    ·by_cases g1 : (n0 : Int) ≤ k
     ·by_cases g2 : (n1 : Int) ≤ k
      ·have HV : Eqn ans (decide ((n2 : Int) ≤ k)) := by rw [Eqn, HE2.out]; simp [g0, g1, g2]
       clear HE2
       go_wp2_with fail
       go_ret
       exact ⟨ret_bool HV.out.symm, HB0.out⟩
      ·have HV : Eqn ans false := by rw [Eqn, HE2.out]; simp [g0, g1, g2]
       clear HE2
       go_wp2_with fail
       go_ret
       exact ⟨ret_bool HV.out.symm, HB0.out⟩
     ·have HV : Eqn ans false := by rw [Eqn, HE2.out]; simp [g0, g1]
      clear HE2
      go_wp2_with fail
      go_ret
      exact ⟨ret_bool HV.out.symm, HB0.out⟩
    ·have HV : Eqn ans false := by rw [Eqn, HE2.out]; simp [g0]
     clear HE2
     go_wp2_with fail
     go_ret
     exact ⟨ret_bool HV.out.symm, HB0.out⟩
  ·obtain rfl : j = n := by omega
   have HE : Eqn ans tt := by rw [Eqn, HR.out, drop_end (by rw [Hlen.out]; omega), smGoN_nil]; simp
   have HE2 := HEND.out HE
   clear HR HE HEND
   by_cases g0 : (j : Int) ≤ d
   ·by_cases g1 : (n0 : Int) ≤ k
    ·by_cases g2 : (n1 : Int) ≤ k
     ·have HV : Eqn ans (decide ((n2 : Int) ≤ k)) := by rw [Eqn, HE2.out]; simp [g0, g1, g2]
      clear HE2
      go_wp2_with fail
      go_ret
      exact ⟨ret_bool HV.out.symm, HB0.out⟩
     ·have HV : Eqn ans false := by rw [Eqn, HE2.out]; simp [g0, g1, g2]
      clear HE2
      go_wp2_with fail
      go_ret
      exact ⟨ret_bool HV.out.symm, HB0.out⟩
    ·have HV : Eqn ans false := by rw [Eqn, HE2.out]; simp [g0, g1]
     clear HE2
     go_wp2_with fail
     go_ret
     exact ⟨ret_bool HV.out.symm, HB0.out⟩
   ·have HV : Eqn ans false := by rw [Eqn, HE2.out]; simp [g0]
    clear HE2
    go_wp2_with fail
    go_ret
    exact ⟨ret_bool HV.out.symm, HB0.out⟩
end Go.Proofs.YtdpbbhbegehcjaaGreatDoor

namespace Go.Proofs.YtdpbbhbegehcjaaGreatDoor
open Go.RowKit Go.ChangeShapes Go.WideShapes Go.ChangeAt Go.Deep Go.Joins
theorem own : ownKnob Tryz.prog.godebug = none := by kernel_rfl
theorem laidOut : laidOutB Tryz.prog = true := by kernel_rfl
def laid07 : List (String × DataW Unit) := [("math/bits.deBruijn64tab", Rows.laid_math_bits_deBruijn64tab)]
theorem laidHold (os : Os) (args : Array Value) : laidMetH Tryz.prog laid07 ((World.laidAll Tryz.prog os laid07).forCall (fun _ _ => 0) ⟨#[], args, []⟩).memory := by
 rw [MakeChecks.laidMetH_plain _ _ _ (by kernel_rfl)]
 exact laidMet_laidAll _ (by kernel_rfl) (by kernel_rfl)
section
variable {H : Type} {enc : TypeId × Value → H}
theorem handed_laid {a : Assume} {C : Checked} {os : Os} {f : FuncId} {fn : Func} {s : ChangeSpec} {conds : List PathCond} {apart fresh handsOn again : Bool} {laid : List (String × DataW Unit)}
  (hown : ownKnob C.prog.godebug = none) (started : os.Started) (noInit : C.prog.inits.idxOf? f = none) (hfn : C.prog.funcs[f]? = some fn)
  (witness : ∃ (w : World) (tape : Tape) (i : Input), w.os = os ∧ (w.forCall tape i).Shaped C.prog ∧ i.vars = [] ∧ Input.okWide C.prog (w.forCall tape i) .any w.heap.size f i ∧
   ((s.pre enc C.prog fn conds apart (w.forCall tape i).memory i.args ∧ laidMetH C.prog laid (w.forCall tape i).memory) ∧ sizedMet enc C.prog fn (OpenSpec.ofChange s) apart (w.forCall tape i).memory i.args) ∧ a.holds C.prog (lone (Frame.enter C.prog f i.args .normal) [] (w.forCall tape i)))
  (contract : ∀ (W : World) (base : Nat) (args : Array Value) (ds gs : List (DataW H)) (before : List MemPlace),
   (∀ (j : Nat) t v, fn.params[j]? = some t → args[j]? = some v → Value.okWide C.prog W .any base t v) →
   DataW.Whole enc C.prog fn.params.toList s.vars apart W args.toList ds gs before →
   laidMetH C.prog laid W → W.ShapedOpen C.prog →
   Calls C.prog f args W fun e W' => ∃ v, e = .returned v ∧ s.post enc C.prog fn apart fresh handsOn again W args v W') :
  ReturnsInHanded a C os f .any (fun w args => (s.pre enc C.prog fn conds apart w args ∧ laidMetH C.prog laid w) ∧ sizedMet enc C.prog fn (OpenSpec.ofChange s) apart w args) (s.post enc C.prog fn apart fresh handsOn again) := by
 refine returnsInHanded_of_calls hown started noInit witness ?_
 intro w tape i _ hsh _ hok hpre _
 obtain ⟨_, _, _, fn', hfn', _, _, _, _, hval⟩ := hok
 obtain rfl : fn' = fn := Option.some.inj (hfn'.symm.trans hfn)
 obtain ⟨⟨⟨ds, gs, before, hw, _⟩, hx⟩, _⟩ := hpre
 refine (contract (w.forCall tape i) w.heap.size i.args ds gs before hval (DataW.Whole.of_heap (w' := w.forCall tape i) (by rfl) hw) (hx.of_heap (by rfl)) hsh).mono fun e W' ⟨v, he, hp⟩ => ?_
 subst he
 exact ChangeSpec.post_blind hp
end
theorem tab_of {W : World} (hL : laidMetH Tryz.prog laid07 W) (_ : W.ShapedOpen Tryz.prog) : Tab W := by
 rw [MakeChecks.laidMetH_plain _ _ _ (by kernel_rfl)] at hL
 have h2 : laidMet Tryz.prog (("math/bits.deBruijn64tab", Lib.tabData .u8 (Lib.deBruijn64tab.map fun n : Nat => (n : Int))) :: []) W := hL
 have t2 := Lib.tabIs_of_head (g := 0) (t := 218) (e := 5) (n := 64) (by kernel_rfl) (by kernel_rfl) (by kernel_rfl) (by kernel_rfl) (by kernel_rfl) (by kernel_rfl) h2
 have c1 := t2.cell (g := 0) (by kernel_rfl) 0 (by decide)
 have hsz : 0 < W.heap.size := (lt_of_cell c1).1
 refine ⟨by omega, fun j hj => ?_⟩
 have c2 := t2.cell (g := 0) (by kernel_rfl) j (by exact hj)
 rw [c2]
 congr 2
 rw [List.getD_eq_getElem?_getD, List.getElem?_map, List.getD_eq_getElem?_getD]
 cases Lib.deBruijn64tab[j]? <;> rfl
end Go.Proofs.YtdpbbhbegehcjaaGreatDoor

namespace Go.Proofs.YtdpbbhbegehcjaaGreatDoor
open Go.RowKit Go.Shelf
abbrev kd (g : Nat) : Nat → Prop := fun k => g < k
end Go.Proofs.YtdpbbhbegehcjaaGreatDoor
