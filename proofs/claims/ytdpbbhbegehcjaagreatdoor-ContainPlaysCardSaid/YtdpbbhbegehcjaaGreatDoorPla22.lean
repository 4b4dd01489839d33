/- clone of the laws: a proof in memory of its own. -/
import Derived.Test.YtdpbbhbegehcjaaGreatDoorPla15
import Derived.Test.YtdpbbhbegehcjaaGreatDoorPla18
import Derived.Test.YtdpbbhbegehcjaaGreatDoorPla19
import Derived.Test.YtdpbbhbegehcjaaGreatDoorPla20
import Derived.Test.YtdpbbhbegehcjaaGreatDoorPla21
set_option maxRecDepth 100000
set_option maxHeartbeats 8000000
namespace Go.Proofs.YtdpbbhbegehcjaaGreatDoor
open Go.RowKit Go.Shelf
attribute [local go_sem] Oper.semAt_some
theorem run_eql_func_nil {P : Program} (w : World) (t : TypeId) {ps rs : Array TypeId} {vd : Bool} (f : Fn) (b c : Array Value) (h : P.underlying t = some (.func ps rs vd)) : (binOp .eql t (.func f b c) .nilFunc).run P w = .ok (.bool false) w := by
 have h1 : ∀ d : Nat, (Op.equalIn (d + 1) t (.func f b c) .nilFunc).run P w = .ok false w := fun d => by simp [Op.equalIn, run_underlying h]
 simp only [binOp]
 simp [Op.equal, Op.maxDepth, h1 9999]
theorem valuesP_any (A : Option Addr) (m c f : Nat) (w : World) : Calls Tryz.prog 59 #[.agg #[.slice A m c], .func (.func f) #[] #[]] w fun e w' => e = .returned (.func (.func 95) #[] #[.pointer (some ⟨w.heap.size, 0, none⟩), .pointer (some ⟨w.heap.size + 1, 0, none⟩)]) ∧ w' = (w.alloc (.cells #[.slice A m c] 105)).alloc (.cells #[.func (.func f) #[] #[]] 122) := by
 go_enter Tryz.func59, Tryz.ntmps59
 go_wp2
 go_ret
 exact ⟨rfl, rfl⟩
theorem packedIt_any (B : Nat) (p : Nat → Prop) (g : Nat) (x : StS) (w : World) (hS : StAt w B p g x) : Calls Tryz.prog 21 #[.pointer (some ⟨g, 0, none⟩)] w fun e w' =>
  ∃ kb cb, e = .returned (.func (.func 95) #[] #[.pointer (some ⟨kb, 0, none⟩), .pointer (some ⟨cb, 0, none⟩)]) ∧ Hp w w w' [.blk kb 105 [.slice x.pa x.pn x.pc], .blk cb 122 [.func (.func 60) #[] #[]]] [] := by
 have HMI := Lib.hid (missing_any g x.cells w hS.blk rfl)
 have k0 : w.cell? ⟨g, 13, none⟩ = some (.slice x.pa x.pn x.pc) := hS.blk.cell rfl
 have gl := hS.blk.lt
 have HV := Lib.hid (valuesP_any x.pa x.pn x.pc 60 w)
 clear hS
 go_enter Tryz.func21, Tryz.ntmps21
 go_wp2_with fail
 refine HMI.out.mono ?_
 rintro e W1 ⟨rfl, rfl⟩
 go_wp2_with fail
 refine HV.out.mono ?_
 rintro e W2 ⟨rfl, hW2⟩
 have hP := ((Hp.start w).alloc [.slice x.pa x.pn x.pc] 105).alloc [.func (.func 60) #[] #[]] 122
 simp only [World.size_alloc] at hP
 have HP := Lib.hid (show Hp w w W2 _ _ by rw [hW2]; exact hP)
 clear hP hW2
 go_wp2_with fail
 go_ret
 exact ⟨_, _, rfl, HP.out⟩
theorem Hp.all0 {w u W : World} {L : List Ent} {ds : List Nat} (h : Hp w u W L ds) : Hp w w W L ds := ⟨h.below, ⟨h.below.size, fun k _ hk _ => (h.below.block k (Array.getElem?_eq_some_iff.1 hk).1).trans hk⟩, h.all, h.low, h.apart, h.marks, h.nodup⟩
theorem take_snoc' {α : Type} {xs : List α} {k : Nat} {x : α} (hx : xs[k]? = some x) : xs.take (k + 1) = xs.take k ++ [x] := by rw [List.take_add_one, hx]; rfl
def PkdPost (P : List Chs) (w : World) (e : Ending) (w' : World) : Prop := ∃ (v : Value) (O : List Lem), e = .returned v ∧ O.map Lem.chs = P ∧ (∀ m ∈ O, m.len ≤ 100000) ∧ Hp w w w' (.row v 41 1 O.length (O.map Lem.val) :: lemEnts O) []
theorem packed_any (B : Nat) (p : Nat → Prop) (g : Nat) (x : StS) (w : World) (hS : StAt w B p g x) (hpl : x.pe.length ≤ 100000) : Calls Tryz.prog 17 #[.pointer (some ⟨g, 0, none⟩)] w (PkdPost x.P w) := by
 obtain ⟨i0, hi, hz0, hz1, hz2⟩ := info_parts ch_info
 obtain ⟨j0, hj, hy0, hy1, hy2⟩ := info_parts cs_info
 obtain ⟨p2, hp2⟩ : ∃ q, q = w.heap.size := ⟨_, rfl⟩
 obtain ⟨V0, hV0⟩ : ∃ V, V = w.alloc (.cells #[.slice none 0 0] 42) := ⟨_, rfl⟩
 have hP0 : Hp w w V0 [.blk p2 42 [.slice none 0 0]] [] := by
  have h := (Hp.start w).alloc [.slice none 0 0] 42
  rw [hV0, hp2]; exact h
 have HPI := Lib.hid (packedIt_any B p g x V0 (hS.keep hP0.below))
 have HPE := Lib.hid (hS.pes.mono (q := (· < w.heap.size)) (fun _ _ h => h))
 have HP0 := Lib.hid hP0
 have hpn : x.pn ≤ 100000 := by have := hS.pes.1.1; omega
 have HPL : Hid (x.P.length = x.pe.length ∧ x.pe.length ≤ 100000) := Lib.hid ⟨by unfold StS.P; rw [List.length_map], hpl⟩
 clear hS hP0 hpl
 have hnil := fun W b c => run_eql_func_nil (P := Tryz.prog) W 63 (.func 95) b c Tryz.underlying63
 refine (callsIn_wide (n := 6)).1 ?_
 refine callsIn_of_wp_marks Tryz.func17 rfl trivial ?_ rfl
 simp only [Tryz.ntmps17, List.size_toArray, List.length_cons, List.length_nil, Nat.reduceAdd, Nat.reduceSub, Array.replicate_succ, Array.replicate_zero, List.push_toArray, List.append_toArray, List.nil_append, List.cons_append]
 gi_upto_region 1 with fail
 rw [← hV0, ← hp2]
 clear hV0 hp2
 gi_wp2_with fail
 refine ⟨trivial, (callsIn_wide.2 HPI.out).mono ?_⟩
 rintro e W1 ⟨kb, cb, rfl, hH⟩
 have hP1 := HP0.out.join hH.below hH
 obtain ⟨p4, hp4⟩ : ∃ q, q = W1.heap.size := ⟨_, rfl⟩
 obtain ⟨W2, hW2⟩ : ∃ V, V = W1.alloc (.cells #[.slice none 0 0] 42) := ⟨_, rfl⟩
 have hP2 := (hP1.alloc [.slice none 0 0] 42).nil 41 1
 rw [show ([.slice none 0 0] : List Value).toArray = #[.slice none 0 0] from rfl, ← hW2, ← hp4] at hP2
 have HP2 := Lib.hid hP2
 clear hH hP1 hP2 HPI HP0
 gi_upto_region 5 with fail
 rw [← hW2, ← hp4]
 clear hW2 hp4
 have HSQ := Lib.hid (vals1P 5 (by decide) w.heap.size kb cb x.pa x.pn x.pc x.pe W2 (HP2.out.blk 1 rfl) (HP2.out.blk 2 rfl) (HPE.out.keep HP2.out.below) HP2.out.below.size hpn)
 gi_wp2_with fail
 refine hp_hands0 (w := w) (ds := []) (σ := Value × List Lem) (fun s => [.blk p2 42 [.slice none 0 0], .blk kb 105 [.slice x.pa x.pn x.pc], .blk cb 122 [.func (.func 60) #[] #[]], .blk p4 42 [s.1], .row s.1 41 1 s.2.length (s.2.map Lem.val)] ++ lemEnts s.2)
  (fun pre s => s.2.length = pre.length ∧ (∀ m ∈ s.2, m.len ≤ 100000) ∧ s.2.map Lem.chs = x.P.take pre.length) (fun _ _ _ => False) 2 (fun y => [.row y.2.val 91 2 y.2.len (flat 2 chC y.2.chs)]) (fun pre y => y.1 = pre.length ∧ y.2.len ≤ 100000 ∧ y.2.chs.length = y.2.len ∧ x.P[pre.length]? = some y.2.chs) ?a₁ (by decide)
  (gf := 95) (lb := #[.pointer (some ⟨kb, 0, none⟩), .pointer (some ⟨cb, 0, none⟩)]) rfl (enters_of Tryz.func95 (by kernel_rfl) rfl) HSQ.out (Nat.le_refl _) (fun _ => rfl) (.slice none 0 0, []) ⟨rfl, fun _ h => (by cases h), by simp⟩ HP2.out (fun _ => rfl)
  (fun pre y L X Y hX hbl hG => ?give) ?assign ?body ?done ?stop
 case give =>
  obtain ⟨h1, ⟨e, he, hc, hl⟩, hH⟩ := hG
  have hA := HPE.out.2 e (List.mem_of_getElem? he)
  exact ⟨⟨h1, by rw [hl]; exact hA.2, by rw [hc, hl]; exact hA.1.1, by unfold StS.P; rw [List.getElem?_map, he, hc]; rfl⟩, hX.join hbl hH, fun e' he' => hH.low e' he'⟩
 case assign =>
  intro l y X K hK
  unfold Lem.val
  gi_wp2
  exact hK
 case body =>
  rintro l pre ⟨k0, ⟨yA, yn, yc, ych⟩⟩ e X ⟨v, O⟩ _ ⟨hO1, hO2, hO3⟩ ⟨hy1, hy2, hyl, hy3⟩ hX hlen
  dsimp only at *
  obtain rfl : k0 = O.length := hy1.trans hO1.symm
  obtain ⟨L0, hL0⟩ : ∃ L0, L0 = lemEnts O := ⟨_, rfl⟩
  rw [← hL0] at hX
  have hX1 : Hp w X X (.row (.slice yA yn yc) 91 2 yn (flat 2 chC ych) :: e :: ([.blk p2 42 [.slice none 0 0], .blk kb 105 [.slice x.pa x.pn x.pc], .blk cb 122 [.func (.func 60) #[] #[]], .blk p4 42 [v], .row v 41 1 O.length (O.map Lem.val)] ++ L0)) [] := hX.perm (List.perm_append_singleton _ (e :: _))
  obtain ⟨A1, c1, rfl⟩ := hX1.form 6 rfl
  have HX := Lib.hid hX1
  have HL0 := Lib.hid hL0
  have HO := Lib.hid (And.intro hO2 (And.intro hO3 hy3))
  have HPR := Eqn.mk hO1
  have HYL := Eqn.mk hyl
  have hol : O.length < 100000 := by have := HPL.out; omega
  have c5 := hX1.c 5 0 rfl rfl
  have l5 := hX1.lt 5 rfl
  have hrow : RowS 2 chC X X.heap.size yA yn ych := by
   have hr := hX1.row 0 rfl
   rw [← hyl] at hr ⊢
   exact rowS_own (by decide) hr
  have HROW := Lib.hid (hrow.keep (Below.refl _ _).drew)
  clear hL0 hX hX1 hO1 hO2 hO3 hy1 hy3 hyl hlen hrow
  gi_wp2_with fail
  refine Lx.regionTIn (C := fun W' => W'.cell? ⟨p4, 0, none⟩ = some (.slice A1 O.length c1)) (C' := fun _ => True) (hs := [0]) 5 (List.take 5 _) (List.drop 5 _) (List.take_append_drop 5 _).symm rfl (by kernel_rfl) (by kernel_rfl) (by kernel_rfl) (by kernel_rfl) c5 ?_
  simp only [List.take_succ_cons, List.take_zero, List.drop_succ_cons, List.drop_zero]
  repeat' (first | ((first | refine Lx.ln (fun K hK => ?_) | (first | (refine Lx.lp (v := ?_) ?_ (fun K hK => ?_); rotate_left 1; intro w' hCw; try dsimp only at hCw) | (refine Lx.lr (v := ?_) ?_ (fun K hK => ?_); rotate_left 1)); go_simp; first | done | with_reducible rfl); go_simp; refine hK _ ?_; clear hK K) | (refine Lx.le (fun K hK => ?_); go_simp; (first | fail); refine hK _ _ (fail) ?_; clear hK K))
  refine Lx.lex_append_rowR rfl rfl _ _ 41 rfl (f := chC) (by decide) chC_one X.drew.heap.size 91 i0 (.agg #[.int .i64 0, .int .i64 0]) 16 Tryz.underlying41 hi hz0 hz1 hz2 rfl _ 0 [] rfl (World.ownsRow_nil _ _ _ _) yA yn yc ych X.drew.heap.size rfl HROW.out (by unfold maxLen; omega) (by omega) (Nat.le_refl _) ?_
  intro v6 W6 hown6 hgrow6 _
  have hb6 : Below X.drew.heap.size X.drew W6 := (Below.refl _ _).grown hgrow6 (Nat.le_refl _) (fun g hg => by cases hg)
  rw [Nat.zero_add, List.nil_append] at hown6
  have hP6 := HX.out.drew.pushRow hb6 hown6
  have HP6 := Lib.hid hP6
  have HC6 := Lib.hid (hP6.c 5 0 rfl rfl)
  obtain ⟨A6, c6, rfl, _⟩ := own_formS (by decide) hown6
  have HC7 := Lib.hid (fun o => (HP6.out.alloc0 o).c 5 0 rfl rfl)
  refine ⟨HC6.out, ?_⟩
  clear hown6 hgrow6 hb6 hP6
  repeat' (first | ((first | refine Lx.ln (fun K hK => ?_) | (first | (refine Lx.lp (v := ?_) ?_ (fun K hK => ?_); rotate_left 1; intro w' hCw; try dsimp only at hCw) | (refine Lx.lr (v := ?_) ?_ (fun K hK => ?_); rotate_left 1)); go_simp; first | done | with_reducible rfl); go_simp; refine hK _ ?_; clear hK K) | (refine Lx.le (fun K hK => ?_); go_simp; (first | skip); refine hK _ _ (by first | exact HC6.out | exact HC7.out _) ?_; clear hK K))
  refine Lx.lex_append rfl rfl _ _ 42 rfl w.heap.size 41 j0 (.slice none 0 0) 1 24 Tryz.underlying42 hj hy0 hy1 (by assumption) rfl (by decide) _ _ _ rfl ((HP6.out.row 6 rfl).alloc _) ⟨W6.heap.size, 0, none⟩ 1 1 [.slice A6 yn c6] rfl rfl (cell_one_new _ _ _) (by simp [Value.oneCell']) (by unfold maxLen; omega) (by omega) (by have := HP6.out.below.size; simp; omega) ?_
  intro v' w8 hown' hgrow hat
  have hP8 := (HP6.out.alloc0 _).grow 6 rfl hgrow hown' hat
  obtain ⟨A8, c8, rfl⟩ := hP8.form 6 rfl
  refine ⟨hP8.c 5 0 rfl rfl, ?_⟩
  obtain ⟨O2, hO2⟩ : ∃ O2, O2 = O ++ [(⟨A6, yn, c6, ych⟩ : Lem)] := ⟨_, rfl⟩
  obtain ⟨V9, hV9⟩ : ∃ V, V = w8.setCell ⟨p4, 0, none⟩ (.slice A8 (O.length + 1) c8) := ⟨_, rfl⟩
  have hP9 : Hp w X V9 (.row (.slice yA yn yc) 91 2 yn (flat 2 chC ych) :: e :: ([.blk p2 42 [.slice none 0 0], .blk kb 105 [.slice x.pa x.pn x.pc], .blk cb 122 [.func (.func 60) #[] #[]], .blk p4 42 [.slice A8 (O.length + 1) c8], .row (.slice A8 (O.length + 1) c8) 41 1 O2.length (O2.map Lem.val)] ++ lemEnts O2)) [] := by
   rw [hV9, hO2, lemEnts_snoc, ← HL0.out, List.map_append, List.length_append]
   exact hP8.set 5 0 (.slice A8 (O.length + 1) c8) rfl
  have HP9 := Lib.hid hP9
  have HO2 := Lib.hid hO2
  have c9 : w8.cell? ⟨p4, 0, none⟩ = some (.slice A1 O.length c1) := hP8.c 5 0 rfl rfl
  have f9 : ∀ o, w8.frozen? ⟨p4, o, none⟩ = false := hP8.f 5 rfl
  have l9 : p4 < w8.heap.size := hP8.lt 5 rfl
  clear hP8 hown' hgrow hat hO2 hP9 c5 l5
  refine Lx.lex_nil ⟨trivial, ?_⟩
  go_simp
  repeat' (first | ((first | refine Lx.ln (fun K hK => ?_) | (first | (refine Lx.lp (v := ?_) ?_ (fun K hK => ?_); rotate_left 1; intro w' hCw; try dsimp only at hCw) | (refine Lx.lr (v := ?_) ?_ (fun K hK => ?_); rotate_left 1)); go_simp; first | done | with_reducible rfl); go_simp; refine hK _ ?_; clear hK K) | (refine Lx.le (fun K hK => ?_); go_simp; (first | skip); refine hK _ _ (trivial) ?_; clear hK K))
  all_goals (refine Lx.lex_nil ?_)
  rw [← hV9]
  clear hV9 c9 f9 l9 HP6 HC6 HC7 HX HROW
  gi_wp2_with fail
  gi_loopw [7] (fun i wr => ∃ (k : Nat) (cs : List Value), k ≤ yn ∧ i = .int .i64 k ∧ cs.length = yn * 2 ∧ Hp w X wr (.row (.slice yA yn yc) 91 2 yn cs :: e :: ([.blk p2 42 [.slice none 0 0], .blk kb 105 [.slice x.pa x.pn x.pc], .blk cb 122 [.func (.func 60) #[] #[]], .blk p4 42 [.slice A8 (O.length + 1) c8], .row (.slice A8 (O.length + 1) c8) 41 1 O2.length (O2.map Lem.val)] ++ lemEnts O2)) []) (fun i _ => yn - (intOf i).toNat)
  case atStart => exact ⟨0, _, Nat.zero_le _, rfl, by rw [flat_lenR, HYL.out], HP9.out⟩
  case round =>
   clear HP9
   obtain ⟨k, cs, hk, rfl, hcs, hP⟩ := hrel
   have HP := Lib.hid hP
   by_cases hlt : k < yn
   ·have j0 : (k : Int) < (yn : Int) := by omega
    obtain ⟨z, hz⟩ : ∃ z, cs[k * 2 + 1]? = some z := ⟨_, List.getElem?_eq_getElem (by omega)⟩
    obtain ⟨b, c', hb', z0, zf, zl⟩ := hP.at 0 (k * 2 + 1) rfl hz
    injection hb' with hb' _ hc'
    subst hb' hc'
    have HCS := Eqn.mk hcs
    clear hP hz hcs
    gi_wp2_with fail
    go_roundw
    case rel => exact ⟨k + 1, cs.set (k * 2 + 1) (.int .i64 1), hlt, by go_num, by rw [List.length_set, HCS.out], HP.out.setRow 0 (k * 2 + 1) (.int .i64 1) rfl⟩
    case measure => simp [intOf]; omega
   ·clear hP hcs
    gi_wp2_with fail
    refine ⟨(.slice A8 (O.length + 1) c8, O2), ⟨?_, ?_, ?_⟩, HP.out.sub (List.Sublist.cons _ (List.Sublist.refl _))⟩
    ·rw [HO2.out, List.length_append, List.length_append, HPR.out]; rfl
    ·intro m hm
     rw [HO2.out] at hm
     rcases List.mem_append.1 hm with hm | hm
     ·exact HO.out.1 m hm
     ·rw [List.mem_singleton] at hm; subst hm; assumption
    ·dsimp only
     rw [HO2.out, List.map_append, HO.out.2.1, List.length_append]
     exact (take_snoc' HO.out.2.2).symm
 case done =>
  rintro D xs X ⟨v, O⟩ hS ⟨hO1, hO2, hO3⟩ hX
  dsimp only at hO1 hO2 hO3 hX
  obtain ⟨A1, c1, rfl⟩ := hX.form 4 rfl
  have hO4 : O.map Lem.chs = x.P := by rw [hO3, List.take_of_length_le]; have := HPL.out; have hS : xs.length = x.pe.length := hS; omega
  have HO := Lib.hid (And.intro hO2 hO4)
  have HX := Lib.hid hX
  have r2 := hX.c 0 0 rfl rfl
  have f2 := hX.f 0 rfl
  have l2 := hX.lt 0 rfl
  have r4 := hX.c 3 0 rfl rfl
  have l4 := hX.lt 3 rfl
  clear hX hO1 hO2 hO3 hO4 hS
  gi_wp2_with fail
  show LeavesInM _ _ _ _ _ _ (marksOf [D]) .returning _
  refine hp_leaves (fun Y hY => ?_) _ _ _ (HX.out.set 0 0 (.slice A1 O.length c1) rfl)
  exact ⟨.slice A1 O.length c1, by simp [results, Tryz.results17, go_sem, hY.c 0 0 rfl rfl], _, O, rfl, HO.out.2, HO.out.1, Hp.all0 <| hY.sub (List.Sublist.cons _ (List.Sublist.cons _ (List.Sublist.cons _ (List.Sublist.cons _ (List.Sublist.refl _)))))⟩
 case stop =>
  rintro D cd pre X s _ h
  exact h.elim
end Go.Proofs.YtdpbbhbegehcjaaGreatDoor

namespace Go.Proofs.YtdpbbhbegehcjaaGreatDoor
open Go.RowKit Go.Shelf
structure KS (x : StS) (P : List Chs) (Q : List Prv) : Prop where
 ds : x.ds.map Dom.say = (samD none).map Dom.say
 r : x.r = samR
 P : x.P = P
 Q : x.Q = Q
 ok : StOk x
theorem look_ok {r : (Int × Chs × Prv) × Int} {a : Ans} (h2 : r.2 = 0) (h1 : r.1 = a.say) (h0 : a.st = 0) : lookF r a = true := by
 unfold lookF
 rw [decide_eq_true h2, decide_eq_true h1, decide_eq_true h0]; rfl
theorem kn_look {W : World} {g n c : Nat} {x : StS} {P : List Chs} {Q : List Prv} {A : Option Addr} {L : List Int} {b : Ans} (hS : StAt W g (fun k => g < k) g x) (hK : KS x P Q) (hn : n ≤ 100000) (hl : Row1 intV W W.heap.size A n L) (hb : b.At W) (he : lookF (lkF (samD none) P Q L) b = true) :
  Calls Tryz.prog 33 #[.pointer (some ⟨g, 0, none⟩), .slice A n c, b.val] W (RetPost (.bool true) W.heap.size W) := by
 have h := looks_any g (fun k => g < k) g x A n c b W L hS hK.ok hn hl hb
 rwa [lk_say _ _ _ hK.ds, hK.P, hK.Q, he] at h
def KPost (g : Nat) (P : List Chs) (Q : List Prv) (n : Int) (W : World) (e : Ending) (W' : World) : Prop := ∃ x', e = .returned (.int .i64 n) ∧ StAt W' g (fun k => g < k) g x' ∧ KS x' P Q ∧ W.grownBy W' (some g)
theorem kn_pack {W : World} {g n c : Nat} {x : StS} {P P' : List Chs} {Q : List Prv} {A : Option Addr} {l : Chs} {v : Int} (hS : StAt W g (fun k => g < k) g x) (hK : KS x P Q) (hn : n ≤ 100000) (hl : RowS 2 chC W W.heap.size A n l) (he : pkF (samD none) samR P l = (P', v)) :
  Calls Tryz.prog 12 #[.pointer (some ⟨g, 0, none⟩), .slice A n c] W (KPost g P' Q v W) := by
 have h := pack_any g (fun k => g < k) g x A n c W l hS hK.ok (fun k hk => Nat.lt_of_lt_of_le hS.blk.lt hk) hS.hdl hn hl
 rw [pk_say _ _ _ hK.ds, hK.r, hK.P, he] at h
 refine h.mono ?_
 rintro e W' ⟨x', rfl, h1, h2, h3, h4, h5, h6, h7⟩
 exact ⟨x', rfl, h1, ⟨by rw [h3]; exact hK.ds, by rw [h4]; exact hK.r, h5, by rw [h6]; exact hK.Q, h2⟩, h7⟩
theorem kn_refute {W : World} {g : Nat} {x : StS} {P : List Chs} {Q Q' : List Prv} {y : Prf} {v : Int} (hS : StAt W g (fun k => g < k) g x) (hK : KS x P Q) (hy : y.At W (fun _ => True)) (he : rfF (samD none) Q y.say = (Q', v)) :
  Calls Tryz.prog 14 #[.pointer (some ⟨g, 0, none⟩), y.val] W (KPost g P Q' v W) := by
 have h := refute_any g (fun k => g < k) g x y W hS hK.ok (fun k hk => Nat.lt_of_lt_of_le hS.blk.lt hk) hy
 rw [rf_say _ _ hK.ds, hK.Q, he] at h
 refine h.mono ?_
 rintro e W' ⟨x', rfl, h1, h2, h3, h4, h5, h6, h7⟩
 exact ⟨x', rfl, h1, ⟨by rw [h3]; exact hK.ds, by rw [h4]; exact hK.r, by rw [h5]; exact hK.P, h6, h2⟩, h7⟩
theorem kn_packed {W : World} {g : Nat} {x : StS} {P : List Chs} {Q : List Prv} (hS : StAt W g (fun k => g < k) g x) (hK : KS x P Q) : Calls Tryz.prog 17 #[.pointer (some ⟨g, 0, none⟩)] W fun e W' => ∃ A c, e = .returned (.slice A P.length c) ∧ Below W.heap.size W W' := by
 refine (packed_any g (fun k => g < k) g x W hS (by have := hK.ok.pl; omega)).mono ?_
 rintro e W' ⟨v, O, rfl, hO, _, hH⟩
 obtain ⟨A, c, rfl⟩ := hH.form 0 rfl
 have : O.length = P.length := by rw [← hK.P, ← hO, List.length_map]
 exact ⟨A, c, by rw [this], hH.below⟩
theorem Hp.store {w u W X : World} {L : List Ent} {ds : List Nat} {g t : Nat} {s s' : List Value} (h : Hp w u W (.blk g t s :: L) ds) (hg : W.grownBy X (some g)) (hb : Blk X g t s') : Hp w u X (.blk g t s' :: L) ds := h.upd 0 (e' := .blk g t s') rfl hg hb (fun _ h => .inl h)
theorem rowX_sub {α : Type} {sz : Nat} {f : α → Nat → Value} {W : World} {b t o : Nat} {s : List Value} (xs : List α) (pre post : List Value) (h : Blk W b t s) (hs : s = pre ++ (flat sz f xs ++ post)) (ho : o = pre.length) : RowX sz f W (fun _ => True) (some ⟨b, o, none⟩) xs.length xs := by
 subst hs ho
 refine ⟨rfl, fun _ => ⟨b, pre.length, rfl, trivial, fun k x hk j hj => h.cell ?_⟩⟩
 have h1 := flat_at sz f xs k x hk j hj
 have h2 := (List.getElem?_eq_some_iff.1 h1).1
 rw [Nat.add_assoc, List.getElem?_append_right (by omega), Nat.add_sub_cancel_left, List.getElem?_append_left h2]
 exact h1
theorem noLem_at (W : World) : noLem.At W (fun _ => True) := ⟨RowX.nil _ _ _ _ _, Nat.zero_le _⟩
theorem noPrf_at (W : World) : noPrf.At W (fun _ => True) := ⟨RowX.nil _ _ _ _ _, RowX.nil _ _ _ _ _, fun _ h => (by cases h), Nat.zero_le _, Nat.zero_le _⟩
theorem known_any (w : World) (hT : Tab w) : Calls Tryz.prog 10 #[] w (RetPost (.bool true) w.heap.size w) := by
 have HT := Lib.hid hT
 clear hT
 go_enter Tryz.func10, Tryz.ntmps10
 go_wp2_with fail
 refine (sample_any w).mono ?_
 rintro e W1 ⟨s, A, rfl, hnd, hpr, hb1⟩
 have HNW := Lib.hid (new_any s W1 (HT.out.keep hb1) (samD A) samR (by omega) (fun d hd => by simp only [samD, List.mem_cons, List.not_mem_nil, or_false] at hd; rcases hd with rfl | rfl | rfl <;> exact (show (2 : Nat) ≤ 9223372036854775807 by decide)) hpr)
 have HB1 := Lib.hid hb1
 clear hnd hpr hb1
 go_wp2_with fail
 refine HNW.out.mono ?_
 rintro e W2 hN
 have hv : validP (samD A) samR = true := by rw [valid_say (samD_say A)]; exact sam_valid
 unfold NewPost at hN
 rw [if_pos hv] at hN
 obtain ⟨g, x, rfl, hge, hSt, hOk, hds, hr, hP, hQ, hb2⟩ := hN
 have HS := Lib.hid (hSt (fun k => g < k) (Nat.lt_irrefl _))
 have HK : Hid (KS x [] []) := Lib.hid ⟨by rw [hds]; rfl, hr, hP, hQ, hOk⟩
 have HP2 := Lib.hid (((Hp.start w).keep HB1.out).pushBlk hb2 HS.out.blk hge)
 clear hv hge hSt hOk hds hr hP hQ hb2 HNW HB1
 go_upto_region 5 with fail
 obtain ⟨b3, hb3⟩ : ∃ q, q = W2.heap.size := ⟨_, rfl⟩
 obtain ⟨V3, hV3⟩ : ∃ V, V = W2.alloc (.cells #[.int .i64 1, .int .i64 14, .int .i64 2, .int .i64 15] 91) := ⟨_, rfl⟩
 have HS3 := Lib.hid (HS.out.keep (X := V3) (by rw [hV3]; exact (Below.refl _ W2).alloc (Nat.le_refl _) _))
 have hP3 := HP2.out.alloc [.int .i64 1, .int .i64 14, .int .i64 2, .int .i64 15] 91
 rw [show ([.int .i64 1, .int .i64 14, .int .i64 2, .int .i64 15] : List Value).toArray = #[.int .i64 1, .int .i64 14, .int .i64 2, .int .i64 15] from rfl, ← hV3, ← hb3] at hP3
 have HP3 := Lib.hid hP3
 rw [← hV3, ← hb3]
 clear hV3 hb3 hP3 HS HP2
 go_upto_region 6 with fail
 obtain ⟨b4, hb4⟩ : ∃ q, q = V3.heap.size := ⟨_, rfl⟩
 obtain ⟨V4, hV4⟩ : ∃ V, V = V3.alloc (.cells #[.int .i64 1, .slice (some ⟨b3, 0, none⟩) 2 2, .slice none 0 0, .slice none 0 0, .int .i64 0] 51) := ⟨_, rfl⟩
 have HS4 := Lib.hid (HS3.out.keep (X := V4) (by rw [hV4]; exact (Below.refl _ V3).alloc (Nat.le_refl _) _))
 have hP4 := HP3.out.alloc [.int .i64 1, .slice (some ⟨b3, 0, none⟩) 2 2, .slice none 0 0, .slice none 0 0, .int .i64 0] 51
 rw [show ([.int .i64 1, .slice (some ⟨b3, 0, none⟩) 2 2, .slice none 0 0, .slice none 0 0, .int .i64 0] : List Value).toArray = #[.int .i64 1, .slice (some ⟨b3, 0, none⟩) 2 2, .slice none 0 0, .slice none 0 0, .int .i64 0] from rfl, ← hV4, ← hb4] at hP4
 have HP4 := Lib.hid hP4
 rw [← hV4, ← hb4]
 clear hV4 hb4 hP4 HS3 HP3
 go_wp2_with fail
 have HPa := HP4.out.alloc [.int .i64 1, .int .i64 2] 3
 refine (kn_look (x := x) (L := [1, 2]) (b := ⟨0, noLem, noPrf, 0⟩) (HS4.out.keep ((Below.refl _ _).alloc (Nat.le_refl _) _)) HK.out (by decide) (row1_blk [1, 2] (HPa.blk 3 rfl) rfl (HPa.lt 3 rfl)) ⟨noLem_at _, noPrf_at _⟩ (look_ok (by rw [sam_l1]) (by rw [sam_l1]; rfl) rfl)).mono ?_
 rintro e W5 ⟨rfl, hb5⟩
 have HS5 := Lib.hid ((HS4.out.keep ((Below.refl _ _).alloc (Nat.le_refl _) _)).keep hb5)
 have HP5 := Lib.hid ((HP4.out.alloc0 _).keep hb5)
 clear HPa hb5 HS4 HP4
 go_wp2_with fail
 refine (kn_pack (x := x) (l := [(1, 14), (2, 15)]) HS5.out HK.out (by decide) (rowS_blk [(1, 14), (2, 15)] (HP5.out.blk 1 rfl) rfl (HP5.out.lt 1 rfl)) sam_p1).mono ?_
 rintro e W6 ⟨x6, rfl, hS6, hK6, hg6⟩
 have HP6 := Lib.hid (HP5.out.store hg6 hS6.blk)
 have HS6 := Lib.hid hS6
 have HK6 := Lib.hid hK6
 clear hS6 hK6 hg6 HP5 HS5 HK
 go_wp2_with fail
 have HPa := HP6.out.alloc [.int .i64 2] 3
 have hSa := HS6.out.keep ((Below.refl _ _).alloc (Nat.le_refl _) (.cells #[.int .i64 2] 3))
 refine (kn_look (x := x6) (L := [2]) (b := ⟨1, ⟨some ⟨b3, 2, none⟩, 1, 1, [(2, 15)]⟩, noPrf, 0⟩) hSa HK6.out (by decide) (row1_blk [2] (HPa.blk 3 rfl) rfl (HPa.lt 3 rfl)) ⟨⟨rowX_sub [(2, 15)] [.int .i64 1, .int .i64 14] [] (HPa.blk 1 rfl) rfl rfl, show (1 : Nat) ≤ 100000 by decide⟩, noPrf_at _⟩ (look_ok (by rw [sam_l2]) (by rw [sam_l2]; rfl) rfl)).mono ?_
 rintro e W7 ⟨rfl, hb7⟩
 have HS7 := Lib.hid (hSa.keep hb7)
 have HP7 := Lib.hid ((HP6.out.alloc0 _).keep hb7)
 clear HPa hSa hb7 HS6 HP6
 go_wp2_with fail
 have HPa := HP7.out.alloc [.int .i64 1, .int .i64 3] 3
 have hSa := HS7.out.keep ((Below.refl _ _).alloc (Nat.le_refl _) (.cells #[.int .i64 1, .int .i64 3] 3))
 refine (kn_look (x := x6) (L := [1, 3]) (b := ⟨0, noLem, noPrf, 0⟩) hSa HK6.out (by decide) (row1_blk [1, 3] (HPa.blk 3 rfl) rfl (HPa.lt 3 rfl)) ⟨noLem_at _, noPrf_at _⟩ (look_ok (by rw [sam_l3]) (by rw [sam_l3]; rfl) rfl)).mono ?_
 rintro e W8 ⟨rfl, hb8⟩
 have HS8 := Lib.hid (hSa.keep hb8)
 have HP8 := Lib.hid ((HP7.out.alloc0 _).keep hb8)
 clear HPa hSa hb8 HS7 HP7
 go_wp2_with fail
 have HPa := HP8.out.alloc [.int .i64 1, .int .i64 15] 91
 have hSa := HS8.out.keep ((Below.refl _ _).alloc (Nat.le_refl _) (.cells #[.int .i64 1, .int .i64 15] 91))
 refine (kn_pack (x := x6) (l := [(1, 15)]) hSa HK6.out (by decide) (rowS_blk [(1, 15)] (HPa.blk 3 rfl) rfl (HPa.lt 3 rfl)) sam_p2).mono ?_
 rintro e W9 ⟨x9, rfl, hS9, hK9, hg9⟩
 have HP9 := Lib.hid ((HP8.out.alloc0 _).store hg9 hS9.blk)
 have HS9 := Lib.hid hS9
 have HK9 := Lib.hid hK9
 clear HPa hSa hS9 hK9 hg9 HP8 HS8 HK6
 go_wp2_with fail
 refine (kn_packed HS9.out HK9.out).mono ?_
 rintro e W10 ⟨A10, c10, rfl, hb10⟩
 have HS10 := Lib.hid (HS9.out.keep hb10)
 have HP10 := Lib.hid (HP9.out.keep hb10)
 clear hb10 HP9 HS9
 go_wp2_with fail
 have HPa := HP10.out.alloc [.int .i64 1, .int .i64 14, .int .i64 2, .int .i64 14] 91
 have hSa := HS10.out.keep ((Below.refl _ _).alloc (Nat.le_refl _) (.cells #[.int .i64 1, .int .i64 14, .int .i64 2, .int .i64 14] 91))
 refine (kn_pack (x := x9) (l := [(1, 14), (2, 14)]) hSa HK9.out (by decide) (rowS_blk [(1, 14), (2, 14)] (HPa.blk 3 rfl) rfl (HPa.lt 3 rfl)) sam_p3).mono ?_
 rintro e W11 ⟨x11, rfl, hS11, hK11, hg11⟩
 have HP11 := Lib.hid ((HP10.out.alloc0 _).store hg11 hS11.blk)
 have HS11 := Lib.hid hS11
 have HK11 := Lib.hid hK11
 clear HPa hSa hS11 hK11 hg11 HP10 HS10 HK9
 go_wp2_with fail
 have HPa := HP11.out.alloc [.int .i64 4, .int .i64 14] 91
 have hSa := HS11.out.keep ((Below.refl _ _).alloc (Nat.le_refl _) (.cells #[.int .i64 4, .int .i64 14] 91))
 refine (kn_pack (x := x11) (l := [(4, 14)]) hSa HK11.out (by decide) (rowS_blk [(4, 14)] (HPa.blk 3 rfl) rfl (HPa.lt 3 rfl)) sam_p4).mono ?_
 rintro e W12 ⟨x12, rfl, hS12, hK12, hg12⟩
 have HP12 := Lib.hid ((HP11.out.alloc0 _).store hg12 hS12.blk)
 have HS12 := Lib.hid hS12
 have HK12 := Lib.hid hK12
 clear HPa hSa hS12 hK12 hg12 HP11 HS11 HK11
 go_upto_region 11 with fail
 obtain ⟨b5, hb5⟩ : ∃ q, q = W12.heap.size := ⟨_, rfl⟩
 obtain ⟨b6, hb6⟩ : ∃ q, q = W12.heap.size + 1 := ⟨_, rfl⟩
 obtain ⟨b7, hb7⟩ : ∃ q, q = W12.heap.size + 1 + 1 := ⟨_, rfl⟩
 obtain ⟨V13, hV13⟩ : ∃ V, V = ((W12.alloc (.cells #[.int .i64 1, .int .i64 2, .int .i64 3] 3)).alloc (.cells #[.slice (some ⟨b3, 0, none⟩) 1 2, .slice none 0 0] 41)).alloc (.cells #[.slice (some ⟨b5, 0, none⟩) 3 3, .slice (some ⟨b6, 0, none⟩) 2 2] 44) := ⟨_, rfl⟩
 have hP13 := ((HP12.out.alloc [.int .i64 1, .int .i64 2, .int .i64 3] 3).alloc [.slice (some ⟨b3, 0, none⟩) 1 2, .slice none 0 0] 41).alloc [.slice (some ⟨b5, 0, none⟩) 3 3, .slice (some ⟨b6, 0, none⟩) 2 2] 44
 simp only [World.size_alloc] at hP13
 rw [show ((W12.alloc (.cells ([.int .i64 1, .int .i64 2, .int .i64 3] : List Value).toArray 3)).alloc (.cells ([.slice (some ⟨b3, 0, none⟩) 1 2, .slice none 0 0] : List Value).toArray 41)).alloc (.cells ([.slice (some ⟨b5, 0, none⟩) 3 3, .slice (some ⟨b6, 0, none⟩) 2 2] : List Value).toArray 44) = V13 from hV13.symm, ← hb7, ← hb6, ← hb5] at hP13
 have hb13 : Below W12.heap.size W12 V13 := by rw [hV13]; exact (((Below.refl _ W12).alloc (Nat.le_refl _) _).alloc (by simp) _).alloc (by simp; omega) _
 have HS13 := Lib.hid (HS12.out.keep hb13)
 have HP13 := Lib.hid hP13
 rw [← hb7, ← hb6, ← hb5, ← hV13]
 clear hV13 hb5 hb6 hb7 hb13 HP12 HS12
 have HYA : Hid (∀ X, Below V13.heap.size V13 X → (⟨some ⟨b5, 0, none⟩, 3, 3, [1, 2, 3], some ⟨b6, 0, none⟩, 2, 2, [⟨some ⟨b3, 0, none⟩, 1, 2, [(1, 14)]⟩, noLem]⟩ : Prf).At X (fun _ => True)) := Lib.hid (fun X hb => by
  have h1 : (⟨some ⟨b5, 0, none⟩, 3, 3, [1, 2, 3], some ⟨b6, 0, none⟩, 2, 2, [⟨some ⟨b3, 0, none⟩, 1, 2, [(1, 14)]⟩, noLem]⟩ : Prf).At V13 (fun _ => True) := by
   refine ⟨rowX_sub [1, 2, 3] [] [] (hP13.blk 3 rfl) rfl rfl, rowX_sub [⟨some ⟨b3, 0, none⟩, 1, 2, [(1, 14)]⟩, noLem] [] [] (hP13.blk 4 rfl) rfl rfl, fun m hm => ?_, show (3 : Nat) ≤ 100000 by decide, show (2 : Nat) ≤ 100000 by decide⟩
   simp only [List.mem_cons, List.not_mem_nil, or_false] at hm
   rcases hm with rfl | rfl
   ·exact ⟨rowX_sub [(1, 14)] [] [.int .i64 2, .int .i64 15] (hP13.blk 1 rfl) rfl rfl, show (1 : Nat) ≤ 100000 by decide⟩
   ·exact noLem_at _
  exact h1.keep hb)
 have q0 := hP13.c 5 0 rfl rfl
 have q1 := hP13.c 5 1 rfl rfl
 have ql := hP13.lt 5 rfl
 clear hP13
 go_wp2_with fail
 refine (kn_refute (x := x12) (y := (⟨some ⟨b5, 0, none⟩, 3, 3, [1, 2, 3], some ⟨b6, 0, none⟩, 2, 2, [⟨some ⟨b3, 0, none⟩, 1, 2, [(1, 14)]⟩, noLem]⟩ : Prf)) HS13.out HK12.out (HYA.out _ (Below.refl _ _)) sam_r).mono ?_
 rintro e W14 ⟨x14, rfl, hS14, hK14, hg14⟩
 have hP14 := HP13.out.store hg14 hS14.blk
 have HYB : Hid (∀ X, Below W14.heap.size W14 X → (⟨some ⟨b5, 0, none⟩, 3, 3, [1, 2, 3], some ⟨b6, 0, none⟩, 2, 2, [⟨some ⟨b3, 0, none⟩, 1, 2, [(1, 14)]⟩, noLem]⟩ : Prf).At X (fun _ => True)) := Lib.hid (fun X hb => by
  have h1 : (⟨some ⟨b5, 0, none⟩, 3, 3, [1, 2, 3], some ⟨b6, 0, none⟩, 2, 2, [⟨some ⟨b3, 0, none⟩, 1, 2, [(1, 14)]⟩, noLem]⟩ : Prf).At W14 (fun _ => True) := by
   refine ⟨rowX_sub [1, 2, 3] [] [] (hP14.blk 3 rfl) rfl rfl, rowX_sub [⟨some ⟨b3, 0, none⟩, 1, 2, [(1, 14)]⟩, noLem] [] [] (hP14.blk 4 rfl) rfl rfl, fun m hm => ?_, show (3 : Nat) ≤ 100000 by decide, show (2 : Nat) ≤ 100000 by decide⟩
   simp only [List.mem_cons, List.not_mem_nil, or_false] at hm
   rcases hm with rfl | rfl
   ·exact ⟨rowX_sub [(1, 14)] [] [.int .i64 2, .int .i64 15] (hP14.blk 1 rfl) rfl rfl, show (1 : Nat) ≤ 100000 by decide⟩
   ·exact noLem_at _
  exact h1.keep hb)
 have HP14 := Lib.hid hP14
 have HS14 := Lib.hid hS14
 have HK14 := Lib.hid hK14
 clear q0 q1 ql hS14 hK14 hg14 HP13 HS13 HK12 HYA
 have q0 := hP14.c 5 0 rfl rfl
 have q1 := hP14.c 5 1 rfl rfl
 have ql := hP14.lt 5 rfl
 clear hP14
 go_wp2_with fail
 have HPa := HP14.out.alloc [.int .i64 1, .int .i64 2, .int .i64 3] 3
 have hba := (Below.refl _ W14).alloc (Nat.le_refl _) (.cells #[.int .i64 1, .int .i64 2, .int .i64 3] 3)
 have hSa := HS14.out.keep hba
 refine (kn_look (x := x14) (L := [1, 2, 3]) (b := ⟨2, noLem, (⟨some ⟨b5, 0, none⟩, 3, 3, [1, 2, 3], some ⟨b6, 0, none⟩, 2, 2, [⟨some ⟨b3, 0, none⟩, 1, 2, [(1, 14)]⟩, noLem]⟩ : Prf), 0⟩) hSa HK14.out (by decide) (row1_blk [1, 2, 3] (HPa.blk 6 rfl) rfl (HPa.lt 6 rfl)) ⟨noLem_at _, HYB.out _ hba⟩ (look_ok (by rw [sam_l4]) (by rw [sam_l4]; rfl) rfl)).mono ?_
 rintro e W15 ⟨rfl, hb15⟩
 have HS15 := Lib.hid (hSa.keep hb15)
 have hP15 := (HP14.out.alloc0 _).keep hb15
 have HP15 := Lib.hid hP15
 clear q0 q1 ql HPa hba hSa hb15 HS14 HP14 HYB
 have q0 := hP15.c 2 0 rfl rfl
 have q1 := hP15.c 2 1 rfl rfl
 have q2 := hP15.c 2 2 rfl rfl
 have q3 := hP15.c 2 3 rfl rfl
 have q4 := hP15.c 2 4 rfl rfl
 have ql := hP15.lt 2 rfl
 clear hP15
 go_wp2_with fail
 have HPa := HP15.out.alloc [.int .i64 1, .int .i64 2] 3
 have hba := (Below.refl _ W15).alloc (Nat.le_refl _) (.cells #[.int .i64 1, .int .i64 2] 3)
 have hSa := HS15.out.keep hba
 refine (kn_look (x := x14) (L := [1, 2]) (b := ⟨1, ⟨some ⟨b3, 0, none⟩, 2, 2, [(1, 14), (2, 15)]⟩, noPrf, 0⟩) hSa HK14.out (by decide) (row1_blk [1, 2] (HPa.blk 6 rfl) rfl (HPa.lt 6 rfl)) ⟨⟨rowX_sub [(1, 14), (2, 15)] [] [] (HPa.blk 1 rfl) rfl rfl, show (2 : Nat) ≤ 100000 by decide⟩, noPrf_at _⟩ (look_ok (by rw [sam_l5]) (by rw [sam_l5]; rfl) rfl)).mono ?_
 rintro e W16 ⟨rfl, hb16⟩
 have HB16 := Lib.hid ((HP15.out.alloc0 _).keep hb16).below
 clear q0 q1 q2 q3 q4 ql HPa hba hSa hb16 HS15 HP15
 go_wp2_with fail
 go_ret
 exact ⟨rfl, HB16.out⟩
attribute [local go_sem] Oper.semAt_some
def GvR (L : List REn) (pre : List (Nat × Prf)) (x : Nat × Prf) (X W : World) : Prop :=
 x.1 = pre.length ∧ (∃ e, L[pre.length]? = some e ∧ x.2.say = e.v.say ∧ x.2.sn = e.v.sn ∧ x.2.ln = e.v.ln ∧ ∀ m ∈ x.2.lms, m.len ≤ 100000) ∧ Hp X X W (prfEnts x.2) []
structure VvR (J : List (Nat × Prf) → World → Prop) (W₀ : World) (n₀ p3 Bc : Nat) (o3 oc : Obj) (L : List REn) (pre : List (Nat × REn)) (pre' : List (Nat × Prf)) (X : World) : Prop where
 len : pre'.length = pre.length
 J : J pre' X
 y : p3 < X.heap.size ∧ X.heap[p3]? = some o3
 c : Bc < X.heap.size ∧ X.heap[Bc]? = some oc
 low : Below n₀ W₀ X
theorem VvR.keep {J : List (Nat × Prf) → World → Prop} {B : Nat} {W₀ : World} {n₀ p3 Bc : Nat} {o3 oc : Obj} {L : List REn} {pre : List (Nat × REn)} {pre' : List (Nat × Prf)} {X Y : World} {row : Option Nat} (hJ : OwnFrom B J) (h3 : p3 < B) (hc : Bc < B) (hn : n₀ ≤ W₀.heap.size) (hnB : n₀ ≤ B) (h : VvR J W₀ n₀ p3 Bc o3 oc L pre pre' X) (hg : X.grownBy Y row) (hr : ∀ r, row = some r → B ≤ r ∧ ∃ o : Obj, X.heap[r]? = some o ∧ o.isCells = false) : VvR J W₀ n₀ p3 Bc o3 oc L pre pre' Y :=
 ⟨h.len, hJ _ _ _ _ h.J hg hr, own_at h3 () X Y row h.y hg hr, own_at hc () X Y row h.c hg hr, h.low.trans ⟨hg.os, hg.tape, hg.output, hg.size, fun k hk => hg.block k (Nat.lt_of_lt_of_le hk (Nat.le_trans hn h.low.size)) (fun e => by have := (hr k e.symm).1; omega)⟩⟩
theorem vals1R (n : Nat) (hn : 3 ≤ n) (n₀ Bk Bc : Nat) (A : Option Addr) (m c : Nat) (L : List REn) (w : World) (hB : Blk w Bk 108 [.slice A m c]) (hC : Blk w Bc 128 [.func (.func 50) #[] #[]]) (hL : REs w (· < n₀) A m L) (hn₀ : n₀ ≤ w.heap.size) (hm : m ≤ 100000) (hsn : ∀ e ∈ L, e.v.sn ≤ 1000) :
  SeqHands Fence.wide n Tryz.prog 96 #[.pointer (some ⟨Bk, 0, none⟩), .pointer (some ⟨Bc, 0, none⟩)] (fun x : Nat × Prf => #[Value.int .i64 x.1, x.2.val]) (Keep1 n₀ Bc) true (GvR L) (fun xs => xs.length = L.length) (fun _ => True) L.length w := by
 intro l J Jx W hW hJ hJx hY h0
 refine callsIn_of_wp_marks Tryz.func96 rfl trivial ?_ rfl
 simp only [Tryz.ntmps96, List.size_toArray, List.length_cons, List.length_nil, Nat.reduceAdd, Nat.reduceSub, Array.replicate_succ, Array.replicate_zero, List.push_toArray, List.append_toArray, List.nil_append, List.cons_append]
 obtain ⟨p3, hp3⟩ : ∃ p, p = W.heap.size := ⟨_, rfl⟩
 obtain ⟨V0, hV0⟩ : ∃ V, V = W.alloc (.cells #[.func (.yield l) #[] #[]] 138) := ⟨_, rfl⟩
 have hb0 : Below W.heap.size W V0 := by rw [hV0]; exact (Below.refl _ W).alloc (Nat.le_refl _) _
 have hy0 : Blk V0 p3 138 [.func (.yield l) #[] #[]] := by rw [hV0, hp3]; exact blk_new W _ _
 have hJ0 : J [] V0 := own_kept hJ h0 hb0
 have hWV : Below w.heap.size w V0 := hW.trans (hb0.mono hW.size)
 have HB := Lib.hid (hB.keep hWV)
 have HC := Lib.hid (hC.keep hWV)
 have HL := Lib.hid (hL.keep hWV)
 have HY := Lib.hid hY
 have HSNL := Lib.hid hsn
 have HJ := Lib.hid hJ
 have HJx := Lib.hid hJx
 have HJ0 := Lib.hid hJ0
 have HY0 := Lib.hid hy0
 have HN0 := Lib.hid (Nat.le_trans hn₀ hWV.size)
 have HKB := Lib.hid ((hB.keep hWV).lt)
 have HW3 : Hid (W.heap.size = p3 ∧ p3 < V0.heap.size ∧ n₀ ≤ p3 ∧ Bc < p3) := Lib.hid ⟨hp3.symm, hy0.lt, by rw [hp3]; exact Nat.le_trans hn₀ hW.size, by rw [hp3]; have := hC.lt; have := hW.size; omega⟩
 have m1 := (hB.keep hWV).cell (i := 0) rfl
 have m2 := (hB.keep hWV).lt
 clear hB hC hL hW hJ hJx hY h0 hn₀ hb0 hy0 hJ0 hWV
 gi_upto_region 1 with fail
 rw [← hV0, ← hp3]
 clear hV0 hp3
 gi_wp2_with fail
 refine ⟨trivial, fun _ => by omega, (callsIn_wide.2 (allR_any A m c _)).mono ?_⟩
 rintro e WE ⟨rfl, hWE⟩
 obtain ⟨Bq, hBq⟩ : ∃ b, b = V0.heap.size := ⟨_, rfl⟩
 have hbE : Below V0.heap.size V0 WE := by rw [hWE]; exact (Below.refl _ V0).alloc (Nat.le_refl _) _
 have hBqE : Blk WE Bq 108 [.slice A m c] := by rw [hWE, hBq]; exact blk_new V0 _ _
 have hLE := HL.out.keep hbE
 have hsz : n₀ ≤ WE.heap.size := Nat.le_trans HN0.out hbE.size
 have hbs := hbE.size
 have HSQ := Lib.hid (all1R (n - 1) (by omega) n₀ Bc Bq A m c L WE hBqE hLE.1 hsz hm)
 have HLE := Lib.hid hLE
 have HSZ : Hid (n₀ ≤ WE.heap.size ∧ p3 < WE.heap.size ∧ Bc < WE.heap.size ∧ W.heap.size ≤ WE.heap.size) := Lib.hid ⟨hsz, by have := HW3.out; omega, by have := HW3.out; omega, by have := HW3.out; omega⟩
 have hvv : VvR J WE n₀ p3 Bc (.cells #[.func (.yield l) #[] #[]] 138 (0, 0)) (.cells #[.func (.func 50) #[] #[]] 128 (0, 0)) L [] [] WE :=
  ⟨rfl, own_kept HJ.out HJ0.out hbE, ⟨HSZ.out.2.1, (HY0.out.keep hbE)⟩, ⟨HSZ.out.2.2.1, (HC.out.keep hbE)⟩, Below.refl _ _⟩
 have HVV := Lib.hid hvv
 rw [← hBq]
 clear hWE hBq hbE hBqE hLE hsz hbs hvv HJ0 m1 m2 HL HB HC HY0 HKB
 generalize hO3 : (Obj.cells #[.func (.yield l) #[] #[]] 138 (0, 0)) = o3 at *
 generalize hOc : (Obj.cells #[.func (.func 50) #[] #[]] 128 (0, 0)) = oc at *
 gi_wp2_with fail
 have hJE := own_up HJ.out HSZ.out.2.2.2
 refine range_handsA (w := WE) (own := false) ?a₁ rfl (by omega) (gf := 119) (lb := #[.pointer (some ⟨Bq, 0, none⟩)]) rfl trivial (enters_of Tryz.func119 (by kernel_rfl) rfl) HSQ.out keep1_t (fun X o o' hl hc => ?kb) (fun _ => rfl)
  (fun pre X => ∃ pre', VvR J WE n₀ p3 Bc o3 oc L pre pre' X) (fun cd _ X => cd = .ret ∧ ∃ pre', Jx pre' X)
  (fun s X X' row ⟨pre', h⟩ hg hr => ⟨pre', h.keep hJE HSZ.out.2.1 HSZ.out.2.2.1 HSZ.out.1 HSZ.out.1 hg hr⟩) (fun cd s X X' row ⟨h1, pre', h⟩ hg hr => ⟨h1, pre', own_up HJx.out HSZ.out.2.2.2 _ _ _ _ h hg hr⟩) ⟨[], HVV.out⟩
  (fun pre x X => (∃ pre', VvR J WE n₀ p3 Bc o3 oc L pre pre' X) ∧ x.1 = pre.length ∧ L[pre.length]? = some x.2)
  (fun pre x p X => ((∃ pre', VvR J WE n₀ p3 Bc o3 oc L pre pre' X) ∧ x.1 = pre.length ∧ L[pre.length]? = some x.2) ∧ p < X.heap.size ∧ X.heap[p]? = some (.cells #[.int .u64 (wd x.2.S 0), .int .u64 (wd x.2.S 1), .int .u64 (wd x.2.S 2), .int .u64 (wd x.2.S 3), .int .u64 (wd x.2.S 4), .int .u64 (wd x.2.S 5), .int .u64 (wd x.2.S 6), .int .u64 (wd x.2.S 7), .slice x.2.v.sa x.2.v.sn x.2.v.sc, .slice x.2.v.la x.2.v.ln x.2.v.lc] 171 (0, 0)))
  (fun pre x p _ X X' row ⟨⟨⟨pre', h⟩, h1⟩, h3, h4⟩ hg hr => ⟨⟨⟨pre', h.keep hJE HSZ.out.2.1 HSZ.out.2.2.1 HSZ.out.1 HSZ.out.1 hg hr⟩, h1⟩, Nat.lt_of_lt_of_le h3 hg.size, (hg.block p h3 (fun e => by obtain ⟨_, o, ho, hc'⟩ := hr p e.symm; rw [h4] at ho; cases ho; cases hc')).trans h4⟩)
  (fun pre x X Y ⟨pre', h⟩ hbl _ hG => ⟨⟨pre', h.keep hJE HSZ.out.2.1 HSZ.out.2.2.1 HSZ.out.1 HSZ.out.1 (row := none) ⟨hbl.os, hbl.tape, hbl.output, hbl.size, fun k hk _ => hbl.block k hk⟩ (fun _ e => by cases e)⟩, hG⟩) ?assign ?body ?done ?stop
 case kb =>
  have h1 := HSZ.out
  refine ⟨⟨rfl, rfl, rfl, by simp [World.putObj], fun k hk => World.putObj_heap_other (by omega)⟩, World.putObj_heap_other (by omega)⟩
 case assign =>
  rintro l' pre x X K hXs ⟨⟨pre', h⟩, h1⟩ hK
  obtain ⟨p, hp⟩ : ∃ p, p = X.heap.size := ⟨_, rfl⟩
  have hb := (Below.refl _ X).alloc (Nat.le_refl _) (.cells #[.int .u64 (wd x.2.S 0), .int .u64 (wd x.2.S 1), .int .u64 (wd x.2.S 2), .int .u64 (wd x.2.S 3), .int .u64 (wd x.2.S 4), .int .u64 (wd x.2.S 5), .int .u64 (wd x.2.S 6), .int .u64 (wd x.2.S 7), .slice x.2.v.sa x.2.v.sn x.2.v.sc, .slice x.2.v.la x.2.v.ln x.2.v.lc] 171 (0, 0))
  have hK2 := Lib.hid (fun a' => hK a' _ hb ⟨hb.mono (by have := HSZ.out; have := h.low.size; omega), hb.block _ h.c.1⟩)
  have hA := Lib.hid (And.intro (⟨pre', h.keep hJE HSZ.out.2.1 HSZ.out.2.2.1 HSZ.out.1 HSZ.out.1 (row := none) ⟨hb.os, hb.tape, hb.output, hb.size, fun k hk _ => hb.block k hk⟩ (fun _ e => by cases e)⟩ : ∃ pre', VvR J WE n₀ p3 Bc o3 oc L pre pre' _) h1)
  have hX2 := Lib.hid (And.intro (show X.heap.size < (X.alloc (.cells #[.int .u64 (wd x.2.S 0), .int .u64 (wd x.2.S 1), .int .u64 (wd x.2.S 2), .int .u64 (wd x.2.S 3), .int .u64 (wd x.2.S 4), .int .u64 (wd x.2.S 5), .int .u64 (wd x.2.S 6), .int .u64 (wd x.2.S 7), .slice x.2.v.sa x.2.v.sn x.2.v.sc, .slice x.2.v.la x.2.v.ln x.2.v.lc] 171)).heap.size by simp) (World.alloc_heap_new X (.cells #[.int .u64 (wd x.2.S 0), .int .u64 (wd x.2.S 1), .int .u64 (wd x.2.S 2), .int .u64 (wd x.2.S 3), .int .u64 (wd x.2.S 4), .int .u64 (wd x.2.S 5), .int .u64 (wd x.2.S 6), .int .u64 (wd x.2.S 7), .slice x.2.v.sa x.2.v.sn x.2.v.sc, .slice x.2.v.la x.2.v.ln x.2.v.lc] 171)))
  clear hb h h1 hK
  rw [← hp] at hX2
  unfold REn.val
  gi_wp2
  rw [← hp]
  exact hK2.out p ⟨hA.out, hX2.out⟩
 case body =>
  rintro l' pre ⟨k0, en⟩ p X hrec ⟨⟨⟨pre', hV⟩, hx1, hx2⟩, hpl, hpc⟩ hlen
  dsimp only at *
  subst hx1
  have hXb : Blk X p 171 [.int .u64 (wd en.S 0), .int .u64 (wd en.S 1), .int .u64 (wd en.S 2), .int .u64 (wd en.S 3), .int .u64 (wd en.S 4), .int .u64 (wd en.S 5), .int .u64 (wd en.S 6), .int .u64 (wd en.S 7), .slice en.v.sa en.v.sn en.v.sc, .slice en.v.la en.v.ln en.v.lc] := hpc
  have hY3 : Blk X p3 138 [.func (.yield l) #[] #[]] := by have := hV.y.2; rw [← hO3] at this; exact this
  have hC3 : Blk X Bc 128 [.func (.func 50) #[] #[]] := by have := hV.c.2; rw [← hOc] at this; exact this
  have c3 := hY3.cell (i := 0) rfl
  have l3 := hY3.lt
  have d3 := hC3.cell (i := 0) rfl
  have e3 := hC3.lt
  have z8 := hXb.cell (i := 8) rfl
  have z9 := hXb.cell (i := 9) rfl
  have zl := hXb.lt
  have hm := List.mem_of_getElem? hx2
  have hEA := (HLE.out.2 en hm).turn (X := X) (fun k hk _ => hV.low.block k hk)
  have HCP := Lib.hid (copyProof_any en.v X.drew ((hEA.mono (fun _ _ _ => trivial)).keep (Below.refl _ _).drew) (HSNL.out en hm))
  have HV := Lib.hid hV
  have HX2 := Eqn.mk hx2
  have HREC := Lib.hid hrec
  have HYT := Lib.hid (fun (W1 : World) (y : Prf) (h1 : y.say = en.v.say) (h2 : y.sn = en.v.sn ∧ y.ln = en.v.ln ∧ ∀ m ∈ y.lms, m.len ≤ 100000) (hH : Hp X X W1 (prfEnts y) []) => HY.out pre' (pre.length, y) X W1 hV.J hH.below (fun _ => ⟨_, _, by rw [HW3.out.1]; exact hY3⟩) ⟨hV.len.symm, ⟨en, by rw [hV.len]; exact hx2, h1, h2⟩, hH⟩ (by rw [hV.len]; exact hlen))
  unfold Prf.val Prf.v1 Prf.v2 at HCP
  have HY3 := Lib.hid hY3
  clear hXb hY3 hC3 hm hEA hV hx2 hpc hrec hlen hO3 hOc hpl
  gi_wp2_with fail
  refine Lx.regionY (C := fun Y => Y.cell? ⟨p3, 0, none⟩ = some (.func (.yield l) #[] #[])) (hs := [0]) 6 (List.take 6 _) (List.drop 6 _) (List.take_append_drop 6 _).symm rfl (by kernel_rfl) (by kernel_rfl) (by kernel_rfl) (by kernel_rfl) c3 ?_
  simp only [List.take_succ_cons, List.take_zero, List.drop_succ_cons, List.drop_zero]
  repeat' (first | ((first | refine Lx.ln (fun K hK => ?_) | (first | (refine Lx.lp (v := ?_) ?_ (fun K hK => ?_); rotate_left 1; intro w' hCw; try dsimp only at hCw) | (refine Lx.lr (v := ?_) ?_ (fun K hK => ?_); rotate_left 1)); go_simp; first | done | with_reducible rfl); go_simp; refine hK _ ?_; clear hK K) | (refine Lx.le (fun K hK => ?_); go_simp; (first | (go_at_call 50; refine HCP.out.mono ?_; rintro e W6 ⟨y6, rfl, hsay6, hln6, hH6'⟩; have hH6 : Hp X X W6 (prfEnts y6) [] := (Hp.start X).drew.join hH6'.below hH6'; have hb06 := hH6.below; have HH6 := Lib.hid (And.intro hsay6 (And.intro hln6 hH6)); have HC6 : Hid (W6.cell? ⟨p3, 0, none⟩ = some (.func (.yield l) #[] #[])) := Lib.hid ((HY3.out.keep hb06).cell rfl); clear hsay6 hln6 hH6' hH6; unfold Prf.val Prf.v1 Prf.v2) | skip); refine hK _ _ (by exact HC6.out) ?_; clear hK K) | (refine Lx.lex_cases rfl rfl rfl (fun hgd K hK => ?_) (fun hgd K hK => ?_) <;> (try simp only [decide_eq_true_eq, decide_eq_false_iff_not] at hgd) <;> (first | (exfalso; omega) | (go_simp; refine hK _ ?_; clear hK K))))
  all_goals (refine Lx.lex_nil ?_)
  obtain ⟨fn, tmps, assign, body, hy, hRd⟩ := HYT.out W6 y6 HH6.out.1 HH6.out.2.1 HH6.out.2.2
  unfold Prf.val Prf.v1 Prf.v2 at hy
  try dsimp only at hy
  have HRD := Lib.hid hRd
  clear hRd c3 l3 d3 e3 z8 z9 zl HYT HCP
  gi_wp2_with fail
  refine ⟨fun h => by simp [Fence.wide] at h, (roundIn_wide HRD.out).mono ?_⟩
  have hk06 : KeepsFrom WE.heap.size X W6 := ⟨hb06.size, fun k o _ hk ho => (hb06.block k (Array.getElem?_eq_some_iff.1 hk).1).trans hk⟩
  have hsz : n₀ ≤ X.heap.size ∧ W.heap.size ≤ WE.heap.size := ⟨Nat.le_trans HSZ.out.1 HV.out.low.size, HSZ.out.2.2.2⟩
  have HK := Lib.hid (And.intro hk06 (And.intro hb06 hsz))
  clear hk06 hsz hb06
  rintro e W7 (⟨rfl, hJ7, hk7, hkp, hown⟩ | ⟨rfl, hk7, hJx7⟩)
  ·have h7 : VvR J WE n₀ p3 Bc o3 oc L (pre ++ [(pre.length, en)]) (pre' ++ [(pre.length, y6)]) W7 := by
    obtain ⟨_, hb06, hn0, _⟩ := HK.out
    have hs7 := hk7.size
    have hb1 : Below n₀ X W6 := hb06.mono hn0
    refine ⟨by rw [List.length_append, List.length_append, HV.out.len]; rfl, hJ7, ⟨by have := HV.out.y.1; have := hb06.size; omega, ?_⟩, ⟨by have := HV.out.c.1; have := hb06.size; omega, ?_⟩, (HV.out.low.trans hb1).trans hkp.1⟩
    ·have h1 := hown trivial
     rw [HW3.out.1] at h1
     exact h1.trans ((hb06.block p3 HV.out.y.1).trans HV.out.y.2)
    ·exact hkp.2.trans ((hb06.block Bc HV.out.c.1).trans HV.out.c.2)
   have hk := keep1_t ⟨HK.out.2.1.mono HK.out.2.2.1, HK.out.2.1.block Bc HV.out.c.1⟩ hkp
   have HF := Lib.hid (And.intro (HK.out.1.trans ⟨hk7.size, fun k o hk' => hk7.same k o (Nat.le_trans HK.out.2.2.2 hk')⟩ : KeepsFrom WE.heap.size X W7) (And.intro hk h7))
   clear hJ7 hk7 hkp hown h7 hk HRD hy
   gi_wp2_with fail
   exact ⟨HF.out.1, HF.out.2.1, (fun h => absurd h (by decide)), _, HF.out.2.2⟩
  ·have HF := Lib.hid (And.intro (HK.out.1.trans ⟨hk7.size, fun k o hk' => hk7.same k o (Nat.le_trans HK.out.2.2.2 hk')⟩ : KeepsFrom WE.heap.size X W7) hJx7)
   clear hk7 hJx7 HRD hy
   gi_wp2_with fail
   exact ⟨HF.out.1, rfl, _, HF.out.2⟩
 case done =>
  rintro D xs X hD hS ⟨pre', h⟩ hX
  have HS := Lib.hid (And.intro h.len (show xs.length = L.length from hS))
  have HX := Lib.hid (And.intro hX h.J)
  clear hX h hS
  gi_wp2_with fail
  show LeavesInM _ _ _ _ _ _ (marksOf [D]) .returning _
  refine leavesMk (Pw := fun Y => J pre' Y) (B := WE.heap.size) (fun Y E h h1 h2 => hJE.putObj _ h h1 h2 rfl) (fun Y hY => ?_) D X HX.out.2 hD HX.out.1
  exact ⟨_, results_none rfl _ _ _, ⟨_, rfl⟩, .inl ⟨pre', HS.out.1.trans HS.out.2, hY⟩⟩
 case stop =>
  rintro D cd xs X hD _ ⟨rfl, pre', h⟩ hX
  have HX := Lib.hid (And.intro hX h)
  clear hX h
  gi_wp2_with fail
  show LeavesInM _ _ _ _ _ _ (marksOf [D]) .returning _
  refine leavesMk (Pw := fun Y => Jx pre' Y) (B := WE.heap.size) (fun Y E h h1 h2 => (own_up HJx.out HSZ.out.2.2.2).putObj _ h h1 h2 rfl) (fun Y hY => ?_) D X HX.out.2 hD HX.out.1
  exact ⟨_, results_none rfl _ _ _, ⟨_, rfl⟩, .inr ⟨pre', trivial, hY⟩⟩
end Go.Proofs.YtdpbbhbegehcjaaGreatDoor

namespace Go.Proofs.YtdpbbhbegehcjaaGreatDoor
open Go.RowKit Go.Shelf
theorem iC_one (a : Int) (j : Nat) (_ : j < 1) : (iC a j).oneCell' = true := rfl
theorem int_info1 : (Tryz.prog.info? 3).map (fun i => (i.zero, i.size, i.bytes)) = some (some (.int .i64 0), 1, 8) := by kernel_rfl
theorem cloneL_any (x : Prf) (w : World) (hx : x.At w (fun _ => True)) : Calls Tryz.prog 56 #[x.val] w (CopyPost x w) := by
 obtain ⟨i0, hi, hz0, hz1, hz2⟩ := info_parts cs_info
 obtain ⟨k0, hk, hk0, hk1, hk2⟩ := info_parts int_info1
 obtain ⟨l0, hl, hl0, hl1, hl2⟩ := info_parts ch_info
 obtain ⟨p1, hp1⟩ : ∃ p, p = w.heap.size := ⟨_, rfl⟩
 obtain ⟨p2, hp2⟩ : ∃ p, p = w.heap.size + 1 := ⟨_, rfl⟩
 obtain ⟨V0, hV0⟩ : ∃ V0, V0 = (w.alloc (.cells #[.slice x.sa x.sn x.sc, .slice x.la x.ln x.lc] 44)).alloc (.cells #[.slice none 0 0, .slice none 0 0] 44) := ⟨_, rfl⟩
 have hP0 : Hp w w V0 [.blk p1 44 [.slice x.sa x.sn x.sc, .slice x.la x.ln x.lc], .blk p2 44 [.slice none 0 0, .slice none 0 0]] [] := by
  have h := ((Hp.start w).alloc [.slice x.sa x.sn x.sc, .slice x.la x.ln x.lc] 44).alloc [.slice none 0 0, .slice none 0 0] 44
  simp only [World.size_alloc] at h
  rw [hV0, hp1, hp2]; exact h
 have HP0 := Lib.hid hP0
 have HX := Lib.hid hx
 have HSR := Lib.hid ((hx.keep hP0.below).1.rowS (by decide))
 unfold Prf.val Prf.v1 Prf.v2
 obtain ⟨sa, sn, sc, sts, la, ln, lc, lms⟩ := x
 dsimp only at *
 have hln : ln ≤ 100000 := hx.2.2.2.2
 have hsn : sn ≤ 100000 := hx.2.2.2.1
 have Hlen : Eqn lms.length ln := hx.2.1.1
 have HSL : Hid (sts.length = sn) := Lib.hid hx.1.1
 have x0 := hP0.c 0 0 rfl rfl
 have xl := hP0.lt 0 rfl
 clear hP0 hx
 go_enter Tryz.func56, Tryz.ntmps56
 go_upto_region 1 with fail
 rw [← hV0, ← hp2, ← hp1]
 clear hV0 hp2 hp1
 go_upto_region 2 with (at_builtin; refine wpList_append_rowR rfl _ _ 31 rfl (f := iC) (by decide) iC_one V0.heap.size 3 k0 (.int .i64 0) 8 Tryz.underlying31 hk hk0 hk1 hk2 rfl _ 0 [] rfl (World.ownsRow_nil _ _ _ _) sa sn sc sts V0.heap.size rfl HSR.out (by unfold maxLen; omega) (by omega) (Nat.le_refl _) ?_; intro v1 w1 hown hgrow hat; rw [Nat.zero_add, List.nil_append] at hown; obtain ⟨vA, vc, rfl, _⟩ := own_formS (by decide) hown; rw [flat_ints] at hown; have HG1 := Lib.hid (HP0.out.pushRow ((Below.refl _ _).grown hgrow (Nat.le_refl _) (fun g hg => by cases hg)) hown); clear hown hgrow hat)
 obtain ⟨p3, hp3⟩ : ∃ p, p = w1.heap.size := ⟨_, rfl⟩
 obtain ⟨V2, hV2⟩ : ∃ V, V = w1.alloc (.cells #[.slice vA sn vc, .slice none 0 0] 44) := ⟨_, rfl⟩
 have hP2 := (HG1.out.alloc [.slice vA sn vc, .slice none 0 0] 44).nil 41 1
 rw [show ([.slice vA sn vc, .slice none 0 0] : List Value).toArray = #[.slice vA sn vc, .slice none 0 0] from rfl, ← hV2, ← hp3] at hP2
 have HP2 := Lib.hid hP2
 rw [← hV2, ← hp3]
 clear hV2 hp3 x0 xl HP0 HG1 hP2 HSR
 go_wp2_with fail
 go_loopw [4] (fun i wr => ∃ (k : Nat) (O : List Lem) (v : Value), k ≤ ln ∧ i = .int .i64 k ∧ O.map Lem.chs = (lms.take k).map Lem.chs ∧ (∀ m ∈ O, m.len ≤ 100000) ∧
  Hp w w wr ([.blk p1 44 [.slice sa sn sc, .slice la ln lc], .blk p2 44 [.slice none 0 0, .slice none 0 0], .row (.slice vA sn vc) 3 1 sn (sts.map intV), .blk p3 44 [.slice vA sn vc, v], .row v 41 1 O.length (O.map Lem.val)] ++ lemEnts O) []) (fun i _ => ln - (intOf i).toNat)
 case atStart => exact ⟨0, [], _, Nat.zero_le _, rfl, rfl, fun _ h => (by cases h), HP2.out⟩
 case round =>
  clear HP2
  obtain ⟨k, O, v, hk', rfl, hO, hOm, hP⟩ := hrel
  have HP := Lib.hid hP
  have HO := Eqn.mk hO
  have HOM := Lib.hid hOm
  have hOl : O.length = k := by have := congrArg List.length hO; simp only [List.length_map, List.length_take] at this; have h2 : lms.length = ln := Hlen; omega
  obtain ⟨A1, c1, rfl⟩ := hP.form 4 rfl
  by_cases hlt : k < ln
  ·have j0 : (k : Int) < (ln : Int) := by omega
   obtain ⟨m, hm⟩ : ∃ m, lms[k]? = some m := ⟨_, List.getElem?_eq_getElem (by have h2 : lms.length = ln := Hlen; omega)⟩
   have hmm := List.mem_of_getElem? hm
   have hXk := HX.out.keep hP.below
   obtain ⟨b, off, rfl, hbn, hcell⟩ := hXk.lems.2 (by dsimp only; omega)
   have y0 : wr.cell? ⟨b, off + k, none⟩ = some (.slice m.adr m.len m.cap) := by have := hcell k m hm 0 (by decide); rwa [Nat.mul_one, Nat.add_zero] at this
   have hmA := hXk.2.2.1 m hmm
   have HROW := Lib.hid ((hmA.keep (Below.refl _ _).drew).rowS)
   have HML : Hid (m.chs.length = m.len ∧ m.len ≤ 100000) := Lib.hid ⟨hmA.1.1, hmA.2⟩
   have q0 := hP.c 3 1 rfl rfl
   have q1 := hP.lt 3 rfl
   have r0 := hP.c 0 1 rfl rfl
   have r1 := hP.lt 0 rfl
   have HTK : Hid ((lms.take (k + 1)).map Lem.chs = O.map Lem.chs ++ [m.chs]) := Lib.hid (by rw [List.take_add_one, hm, List.map_append, hO]; rfl)
   have HPD := Lib.hid hP.drew
   have hOl2 : O.length ≤ 100000 := by omega
   have hml := hmA.2
   have HOL := Eqn.mk hOl
   clear hP hO hOm hm hmm hXk hcell hmA hbn hOl
   go_wp2_with fail
   refine Lx.regionT (C := fun X => X.cell? ⟨p3, 1, none⟩ = some (.slice A1 O.length c1)) (C' := fun _ => True) (hs := [1]) 10 (List.take 10 _) (List.drop 10 _) (List.take_append_drop 10 _).symm rfl (by kernel_rfl) (by kernel_rfl) (by kernel_rfl) q0 ?_
   simp only [List.take_succ_cons, List.take_zero, List.drop_succ_cons, List.drop_zero]
   repeat' (first | ((first | refine Lx.ln (fun K hK => ?_) | (first | (refine Lx.lp (v := ?_) ?_ (fun K hK => ?_); rotate_left 1; intro w' hCw; try dsimp only at hCw) | (refine Lx.lr (v := ?_) ?_ (fun K hK => ?_); rotate_left 1)); go_simp; first | done | with_reducible rfl); go_simp; refine hK _ ?_; clear hK K) | (refine Lx.le (fun K hK => ?_); go_simp; (first | fail); refine hK _ _ (fail) ?_; clear hK K))
   refine Lx.lex_append_rowR rfl rfl _ _ 41 rfl (f := chC) (by decide) chC_one wr.drew.heap.size 91 l0 (.agg #[.int .i64 0, .int .i64 0]) 16 Tryz.underlying41 hl hl0 hl1 hl2 rfl _ 0 [] rfl (World.ownsRow_nil _ _ _ _) m.adr m.len m.cap m.chs wr.drew.heap.size rfl HROW.out (by unfold maxLen; omega) (by omega) (Nat.le_refl _) ?_
   intro v6 W6 hown6 hgrow6 _
   have hb6 : Below wr.drew.heap.size wr.drew W6 := (Below.refl _ _).grown hgrow6 (Nat.le_refl _) (fun g hg => by cases hg)
   rw [Nat.zero_add, List.nil_append] at hown6
   have hP6 := HPD.out.pushRow hb6 hown6
   have HP6 := Lib.hid hP6
   have HC6 := Lib.hid (hP6.c 3 1 rfl rfl)
   obtain ⟨A6, c6, rfl, _⟩ := own_formS (by decide) hown6
   have HC7 := Lib.hid (fun o => (HP6.out.alloc0 o).c 3 1 rfl rfl)
   refine ⟨HC6.out, ?_⟩
   clear hown6 hgrow6 hb6 hP6
   repeat' (first | ((first | refine Lx.ln (fun K hK => ?_) | (first | (refine Lx.lp (v := ?_) ?_ (fun K hK => ?_); rotate_left 1; intro w' hCw; try dsimp only at hCw) | (refine Lx.lr (v := ?_) ?_ (fun K hK => ?_); rotate_left 1)); go_simp; first | done | with_reducible rfl); go_simp; refine hK _ ?_; clear hK K) | (refine Lx.le (fun K hK => ?_); go_simp; (first | skip); refine hK _ _ (by first | exact HC6.out | exact HC7.out _) ?_; clear hK K))
   refine Lx.lex_append rfl rfl _ _ 42 rfl w.heap.size 41 i0 (.slice none 0 0) 1 24 Tryz.underlying42 hi hz0 hz1 hz2 rfl (by decide) _ _ _ rfl ((HP6.out.row 4 rfl).alloc _) ⟨W6.heap.size, 0, none⟩ 1 1 [.slice A6 m.len c6] rfl rfl (cell_one_new _ _ _) (by simp [Value.oneCell']) (by unfold maxLen; omega) (by omega) (by have := HP6.out.below.size; simp; omega) ?_
   intro v' w3 hown' hgrow hor
   have hP7 := (HP6.out.alloc0 (.cells #[.slice A6 m.len c6] 41)).grow 4 rfl hgrow hown' hor
   have HP7 := Lib.hid hP7
   obtain ⟨A7, c7, rfl⟩ := hP7.form 4 rfl
   have q2 := hP7.c 3 1 rfl rfl
   have q3 := hP7.f 3 rfl
   have q4 := hP7.lt 3 rfl
   refine ⟨q2, ?_⟩
   clear hown' hgrow hor q0 q1 r0 r1 hP7
   refine Lx.lex_nil ⟨trivial, ?_⟩
   go_simp
   repeat' (first | ((first | refine Lx.ln (fun K hK => ?_) | (first | (refine Lx.lp (v := ?_) ?_ (fun K hK => ?_); rotate_left 1; intro w' hCw; try dsimp only at hCw) | (refine Lx.lr (v := ?_) ?_ (fun K hK => ?_); rotate_left 1)); go_simp; first | done | with_reducible rfl); go_simp; refine hK _ ?_; clear hK K) | (refine Lx.le (fun K hK => ?_); go_simp; (first | skip); refine hK _ _ (trivial) ?_; clear hK K))
   all_goals (refine Lx.lex_nil ?_)
   clear q2 q3 q4
   go_wp2_with fail
   go_roundw
   case rel =>
    refine ⟨k + 1, O ++ [⟨A6, m.len, c6, m.chs⟩], .slice A7 (O.length + 1) c7, hlt, by go_num, by rw [HTK.out, List.map_append]; rfl, fun z hz => ?_, ?_⟩
    ·rcases List.mem_append.1 hz with hz | hz
     ·exact HOM.out z hz
     ·rw [List.mem_singleton] at hz; subst hz; have := HML.out; dsimp only; omega
    ·rw [lemEnts_snoc, List.length_append, List.map_append, ← List.append_assoc]
     exact HP7.out.set 3 1 _ rfl
   case measure => simp [intOf]; omega
  ·obtain rfl : k = ln := by omega
   have q0 := hP.c 3 0 rfl rfl
   have q1 := hP.c 3 1 rfl rfl
   have q2 := hP.lt 3 rfl
   have r0 := hP.c 1 0 rfl rfl
   have r1 := hP.c 1 1 rfl rfl
   have r2 := hP.f 1 rfl
   have r3 := hP.lt 1 rfl
   have s0 := hP.c 0 1 rfl rfl
   have s1 := hP.lt 0 rfl
   have hall : O.map Lem.chs = lms.map Lem.chs := by rw [hO, List.take_of_length_le (by have h2 : lms.length = k := Hlen; omega)]
   have HALL := Eqn.mk hall
   have HOL := Eqn.mk hOl
   clear hP hO hOm hall hOl
   go_wp2_with fail
   have hP9 := (HP.out.set 1 0 (.slice vA sn vc) rfl).set 1 1 (.slice A1 O.length c1) rfl
   refine bodyPost_ret (v := .agg #[.slice vA sn vc, .slice A1 O.length c1]) (by simp [results, Tryz.results56, go_sem, hP9.c 1 0 rfl rfl, hP9.c 1 1 rfl rfl]) rfl ⟨⟨vA, sn, vc, sts, A1, O.length, c1, O⟩, rfl, by unfold Prf.say; dsimp only; rw [HALL.out], ⟨rfl, HOL.out, HOM.out⟩, ?_⟩
   exact hP9.sub (List.Sublist.cons _ (List.Sublist.cons _ (List.Sublist.cons_cons _ (List.Sublist.cons _ (List.Sublist.refl _)))))
end Go.Proofs.YtdpbbhbegehcjaaGreatDoor
