/- ContainHolds in plain Lean: what is kept by calls, and the answers. -/
import Derived.Test.YtdpbbhbegehcjaaGreatDoorHol12
import Derived.Test.YtdpbbhbegehcjaaGreatDoorHol22
import Derived.Test.YtdpbbhbegehcjaaGreatDoorHol23
import Derived.Test.YtdpbbhbegehcjaaGreatDoorHol27
set_option maxRecDepth 100000
set_option maxHeartbeats 2000000
namespace Go.Proofs.YtdpbbhbegehcjaaGreatDoor
open Go.RowKit Go.Shelf Go.Deep
theorem fol_some {r : Rul} {D : DS} {st : List Chs} {g : Chs} (h : OkD D) : ∃ F D', prGo (remN r st) F (runD D g) = some D' ∧ folF r D st g = !fineD st D' := by
 obtain ⟨D', hD'⟩ := prGo_ends (remN r st) (cntD (runD D g) + 1) _ (okd_run h g).up (Nat.lt_succ_self _)
 exact ⟨_, D', hD', by unfold folF; rw [hD']⟩
theorem nrun_any (s : PrbS) (B : Option Addr) (m cb : Nat) (G : Option Addr) (n cg : Nat) (w : World) (ds : List Dom) (r : Rul) (hr : VPr ds r) (h : PrbAt w w.heap.size s ds r) (L : List Lem) (g : Chs) (F : Nat) (D' : DS) (hm : m ≤ 100000) (hL : RowX 1 lemC w (fun _ => True) B m L) (hl : ∀ x ∈ L, x.At w (fun _ => True)) (hn : n ≤ 100000) (hg : RowS 2 chC w w.heap.size G n g) (hpr : prGo (remN r (L.map Lem.chs)) F (runD (ds.map Dom.say) g) = some D') :
  Calls Tryz.prog 118 #[s.val, .slice B m cb, .slice G n cg] w (NpPost (fineD (L.map Lem.chs) D') w) := by
 obtain ⟨p0, hp0⟩ : ∃ q, q = w.heap.size := ⟨_, rfl⟩
 obtain ⟨V0, hV0⟩ : ∃ V, V = w.alloc (.cells #[.slice s.ad s.nd s.cd, .slice s.rs.a0 s.rs.n0 s.rs.c0, .slice s.rs.a1 s.rs.n1 s.rs.c1, .slice s.rs.a2 s.rs.n2 s.rs.c2] 29) := ⟨_, rfl⟩
 have hP0 : Hp w w V0 [.blk p0 29 [.slice s.ad s.nd s.cd, .slice s.rs.a0 s.rs.n0 s.rs.c0, .slice s.rs.a1 s.rs.n1 s.rs.c1, .slice s.rs.a2 s.rs.n2 s.rs.c2]] [] := by
  have h := (Hp.start w).alloc [.slice s.ad s.nd s.cd, .slice s.rs.a0 s.rs.n0 s.rs.c0, .slice s.rs.a1 s.rs.n1 s.rs.c1, .slice s.rs.a2 s.rs.n2 s.rs.c2] 29
  rw [hV0, hp0]; exact h
 have hok := okd_start hr
 have HOK := Lib.hid hok
 have hnp := fun (A : Option Addr) (cp : Nat) (E : List Dom) (W : World) (hb : Below w.heap.size w W) (hE : DomsAt W W.heap.size A E.length E) (hs : E.map Dom.say = runD (ds.map Dom.say) g) => nprop_any s B m cb A cp W ds r hr ⟨h.1.keep hb, h.2.keep hb⟩ E L F D' hE (by rw [hs]; exact okd_run hok g) hm (hL.keep (by decide) hb) (fun x hx => (hl x hx).keep hb) (by rw [hs]; exact hpr)
 unfold PrbS.val at hnp
 have HNP := Lib.hid hnp
 have HXS := Lib.hid (fun (W : World) (hb : Below w.heap.size w W) => hg.keep hb)
 have Hlen := Eqn.mk hg.1
 have hnd : s.nd = ds.length := h.1.1.1.symm
 have HND := Eqn.mk hnd
 have HPG0 : Hid (PgD w V0 p0 [.slice s.ad s.nd s.cd, .slice s.rs.a0 s.rs.n0 s.rs.c0, .slice s.rs.a1 s.rs.n1 s.rs.c1, .slice s.rs.a2 s.rs.n2 s.rs.c2] (.slice s.ad s.nd s.cd) ds) := Lib.hid ⟨hP0, ⟨s.ad, s.cd, by rw [hnd], by have := h.1.keep hP0.below; rwa [hnd] at this⟩, hok⟩
 unfold PrbS.val
 have q0 := hP0.c 0 0 rfl rfl
 have ql := hP0.lt 0 rfl
 clear hP0 h hr hL hl hpr hg hok hnp hnd
 go_enter Tryz.func118, Tryz.ntmps118
 go_upto_region 1 with fail
 rw [← hV0, ← hp0]
 clear hV0 hp0
 go_wp2_with fail
 clear q0 ql
 go_loopw [8, 9] (fun dv i wr => ∃ (k : Nat) (E : List Dom), k ≤ n ∧ i = .int .i64 k ∧ PgD w wr p0 [.slice s.ad s.nd s.cd, .slice s.rs.a0 s.rs.n0 s.rs.c0, .slice s.rs.a1 s.rs.n1 s.rs.c1, .slice s.rs.a2 s.rs.n2 s.rs.c2] dv E ∧ E.map Dom.say = runD (ds.map Dom.say) (g.take k)) (fun _ i _ => n - (intOf i).toNat)
 case atStart => exact ⟨0, ds, Nat.zero_le _, rfl, HPG0.out, rfl⟩
 case round =>
  clear HPG0
  obtain ⟨k, E, hk, rfl, hPG, hE⟩ := hrel
  obtain ⟨A1, c1, rfl, hdm⟩ := hPG.dv
  have HPG := Lib.hid hPG
  have HE := Eqn.mk hE
  by_cases hlt : k < n
  ·have j0 : (k : Int) < (n : Int) := by omega
   obtain ⟨⟨x1, x2⟩, hx⟩ : ∃ x, g[k]? = some x := ⟨_, List.getElem?_eq_getElem (by rw [Hlen.out]; exact hlt)⟩
   obtain ⟨b, off, rfl, hbl, hc⟩ := (HXS.out wr hPG.hp.below).2 (by omega)
   have y0 : wr.cell? ⟨b, off + k * 2, none⟩ = some (.int .i64 x1) := hc k _ hx 0 (by decide)
   have y1 : wr.cell? ⟨b, off + k * 2 + 1, none⟩ = some (.int .i64 x2) := hc k _ hx 1 (by decide)
   have HTK : Hid (runD (ds.map Dom.say) (g.take (k + 1)) = keepF (E.map Dom.say) x1 x2) := Lib.hid (by rw [take_snoc hx, run_snoc, ← hE])
   have hok := hPG.ok
   have hdl : ∀ d ∈ E, d.len ≤ 50 := fun d hd => by have h1 := hok.len _ (List.mem_map.2 ⟨d, hd, rfl⟩); have h2 := (hdm.2 d hd).1; have h3 : d.say.2 = d.chs := rfl; rw [h3] at h1; omega
   have hel : E.length ≤ 512 := by have := hok.n; rwa [List.length_map] at this
   have HKE := Lib.hid (keep_any A1 E.length c1 x1 x2 wr.drew E (by omega) (hdm.keep (Below.refl _ _).drew) (fun d hd => by have := hdl d hd; omega))
   have HPD := Lib.hid (hPG.keep (Below.refl _ _).drew)
   clear hc hx hPG hdm hE hok hdl HPG
   go_wp2_with fail
   refine Lx.region (C := fun _ => True) (hs := []) (by kernel_rfl) (by kernel_rfl) trivial ?_
   repeat' (first | ((first | refine Lx.ln (fun K hK => ?_) | (first | (refine Lx.lp (v := ?_) ?_ (fun K hK => ?_); rotate_left 1; intro w' hCw; try dsimp only at hCw) | (refine Lx.lr (v := ?_) ?_ (fun K hK => ?_); rotate_left 1)); go_simp; first | done | with_reducible rfl); go_simp; refine hK _ ?_; clear hK K) | (refine Lx.le (fun K hK => ?_); go_simp; (first | (go_at_call 139; refine HKE.out.mono ?_; rintro e W6 ⟨A6, c6, E6, rfl, hs6, hd6, hb6⟩; have HS6 := Eqn.mk hs6; have HP6 : Hid (PgD w W6 p0 [.slice s.ad s.nd s.cd, .slice s.rs.a0 s.rs.n0 s.rs.c0, .slice s.rs.a1 s.rs.n1 s.rs.c1, .slice s.rs.a2 s.rs.n2 s.rs.c2] (.slice A6 E6.length c6) E6) := Lib.hid ⟨(HPD.out.keep hb6).hp, ⟨A6, c6, rfl, hd6⟩, by rw [hs6]; exact okd_keep HPD.out.ok _ _⟩; clear hs6 hd6 hb6) | skip); refine hK _ _ (trivial) ?_; clear hK K) | (refine Lx.lex_cases rfl rfl rfl (fun hgd K hK => ?_) (fun hgd K hK => ?_) <;> (try simp only [decide_eq_true_eq, decide_eq_false_iff_not] at hgd) <;> (first | (exfalso; omega) | (go_simp; refine hK _ ?_; clear hK K))))
   all_goals (refine Lx.lex_nil ?_)
   clear HKE HPD y0 y1
   go_wp2_with fail
   go_roundw
   case rel => exact ⟨k + 1, E6, hlt, by go_num, HP6.out, by rw [HTK.out, HS6.out]⟩
   case measure => simp [intOf]; omega
  ·obtain rfl : k = n := by omega
   have j0 : ¬ (k : Int) < (k : Int) := by omega
   have HN := Lib.hid (HNP.out A1 c1 E wr hPG.hp.below hdm (by rw [hE, List.take_of_length_le (by rw [Hlen.out]; exact Nat.le_refl _)]))
   have q0 := HPG.out.hp.c 0 0 rfl rfl
   have q1 := HPG.out.hp.c 0 1 rfl rfl
   have q2 := HPG.out.hp.c 0 2 rfl rfl
   have q3 := HPG.out.hp.c 0 3 rfl rfl
   have ql := HPG.out.hp.lt 0 rfl
   clear hPG hdm hE
   go_wp2_with fail
   refine HN.out.mono ?_
   rintro e W6 ⟨v, rfl, hb6⟩
   have HB := Lib.hid (HPG.out.hp.keep hb6).below
   clear hb6
   go_wp2_with fail
   refine bodyPost_ret (v := .tuple #[v, .bool (fineD (L.map Lem.chs) D')]) (by simp [results, Tryz.results118, go_sem]) rfl ?_
   exact ⟨v, rfl, HB.out⟩
theorem nfollows_any (s : PrbS) (B : Option Addr) (m cb : Nat) (G : Option Addr) (n cg : Nat) (w : World) (ds : List Dom) (r : Rul) (hr : VPr ds r) (h : PrbAt w w.heap.size s ds r) (L : List Lem) (g : Chs) (hm : m ≤ 100000) (hL : RowX 1 lemC w (fun _ => True) B m L) (hl : ∀ x ∈ L, x.At w (fun _ => True)) (hn : n ≤ 100000) (hg : RowS 2 chC w w.heap.size G n g) :
  Calls Tryz.prog 89 #[s.val, .slice B m cb, .slice G n cg] w (RetPost (.bool (folF r (ds.map Dom.say) (L.map Lem.chs) g)) w.heap.size w) := by
 obtain ⟨F, D', hpr, hf⟩ := fol_some (r := r) (st := L.map Lem.chs) (g := g) (okd_start hr)
 rw [hf]
 obtain ⟨p0, hp0⟩ : ∃ q, q = w.heap.size := ⟨_, rfl⟩
 obtain ⟨V0, hV0⟩ : ∃ V, V = w.alloc (.cells #[.slice s.ad s.nd s.cd, .slice s.rs.a0 s.rs.n0 s.rs.c0, .slice s.rs.a1 s.rs.n1 s.rs.c1, .slice s.rs.a2 s.rs.n2 s.rs.c2] 29) := ⟨_, rfl⟩
 have hP0 : Hp w w V0 [.blk p0 29 [.slice s.ad s.nd s.cd, .slice s.rs.a0 s.rs.n0 s.rs.c0, .slice s.rs.a1 s.rs.n1 s.rs.c1, .slice s.rs.a2 s.rs.n2 s.rs.c2]] [] := by
  have h := (Hp.start w).alloc [.slice s.ad s.nd s.cd, .slice s.rs.a0 s.rs.n0 s.rs.c0, .slice s.rs.a1 s.rs.n1 s.rs.c1, .slice s.rs.a2 s.rs.n2 s.rs.c2] 29
  rw [hV0, hp0]; exact h
 have hru := nrun_any s B m cb G n cg V0 ds r hr ⟨h.1.keep hP0.below, h.2.keep hP0.below⟩ L g F D' hm (hL.keep (by decide) hP0.below) (fun x hx => (hl x hx).keep hP0.below) hn (hg.keep hP0.below) hpr
 unfold PrbS.val at hru
 have HRU := Lib.hid hru
 generalize fineD (L.map Lem.chs) D' = b at *
 unfold PrbS.val
 have q0 := hP0.c 0 0 rfl rfl
 have q1 := hP0.c 0 1 rfl rfl
 have q2 := hP0.c 0 2 rfl rfl
 have q3 := hP0.c 0 3 rfl rfl
 have ql := hP0.lt 0 rfl
 have HP0 := Lib.hid hP0
 clear hP0 h hr hL hl hpr hg hf hru
 go_enter Tryz.func89, Tryz.ntmps89
 go_upto_region 1 with fail
 rw [← hV0, ← hp0]
 clear hV0 hp0
 go_wp2_with fail
 refine HRU.out.mono ?_
 rintro e W6 ⟨v, rfl, hb6⟩
 have HB := Lib.hid (HP0.out.keep hb6).below
 clear hb6
 go_wp2_with fail
 go_ret
 exact ⟨rfl, HB.out⟩
end Go.Proofs.YtdpbbhbegehcjaaGreatDoor

namespace Go.Proofs.YtdpbbhbegehcjaaGreatDoor
open Go.RowKit Go.Shelf
theorem rproof_any (y : Prf) (w : World) (hy : y.At w (fun _ => True)) : Calls Tryz.prog 87 #[y.val] w (RetPost (.bool (pvF y.say)) w.heap.size w) := by
 obtain ⟨sA, sn, sc, sts, lA, ln, lc, lms⟩ := y
 have hln : ln ≤ 100000 := hy.2.2.2.2
 have hsn : sn ≤ 100000 := hy.2.2.2.1
 have Hlen : Eqn lms.length ln := hy.2.1.1
 unfold Prf.val Prf.v1 Prf.v2 Prf.say
 dsimp only at *
 obtain ⟨p1, hp1⟩ : ∃ q, q = w.heap.size := ⟨_, rfl⟩
 obtain ⟨V0, hV0⟩ : ∃ V, V = w.alloc (.cells #[.slice sA sn sc, .slice lA ln lc] 44) := ⟨_, rfl⟩
 have hP0 : Hp w w V0 [.blk p1 44 [.slice sA sn sc, .slice lA ln lc]] [] := by
  have h := (Hp.start w).alloc [.slice sA sn sc, .slice lA ln lc] 44
  rw [hV0, hp1]; exact h
 have HVS := Lib.hid (rvst_any sA sn sc V0 sts (by omega) (hy.keep hP0.below).ints)
 have HHA := Lib.hid (fun (x : Int) (W : World) (hb : Below w.heap.size w W) => rhas_any sA sn sc x W sts (by omega) (hy.keep hb).ints)
 have HVL := Lib.hid (fun (m : Lem) (hm : m ∈ lms) (W : World) (hb : Below w.heap.size w W) => rvl_any m.adr m.len m.cap W m.chs (by have := (hy.2.2.1 m hm).2; omega) ((hy.2.2.1 m hm).keep hb).rowS)
 have HLX := Lib.hid (fun (W : World) (hb : Below w.heap.size w W) => (hy.keep hb).lems)
 have HLM := Lib.hid (fun (m : Lem) (hm : m ∈ lms) (W : World) (hb : Below w.heap.size w W) => And.intro ((hy.2.2.1 m hm).keep hb).rowS (hy.2.2.1 m hm).2)
 obtain ⟨ans, hans⟩ : ∃ a, a = pvF (sts, lms.map Lem.chs) := ⟨_, rfl⟩
 rw [← hans]
 have HF : Eqn ans (stOk sts && (decide (1 ≤ ln) && (decide (ln ≤ 4096) && pvGo sts ln 0 (lms.map Lem.chs)))) := by
  rw [Eqn, hans]; unfold pvF; dsimp only; rw [List.length_map, Hlen.out]
 have q0 := hP0.c 0 0 rfl rfl
 have q1 := hP0.c 0 1 rfl rfl
 have ql := hP0.lt 0 rfl
 have HP0 := Lib.hid hP0
 clear hP0 hy hans
 go_enter Tryz.func87, Tryz.ntmps87
 go_upto_region 1 with fail
 rw [← hV0, ← hp1]
 clear hV0 hp1
 go_wp2_with fail
 refine HVS.out.mono ?_
 rintro e W1 ⟨rfl, hb1⟩
 have HP1 := Lib.hid (HP0.out.keep hb1)
 clear q0 q1 ql hb1 HP0 HVS
 have q1 := HP1.out.c 0 1 rfl rfl
 have ql := HP1.out.lt 0 rfl
 cases hst : stOk sts with
 | false =>
  have HV : Hid (ans = false) := Lib.hid (by rw [HF.out, hst, Bool.false_and])
  clear hst HF
  go_wp2_with fail
  go_ret
  exact ⟨ret_bool HV.out.symm, HP1.out.below⟩
 | true =>
  have HF1 : Eqn ans (decide (1 ≤ ln) && (decide (ln ≤ 4096) && pvGo sts ln 0 (lms.map Lem.chs))) := by rw [Eqn, HF.out, hst, Bool.true_and]
  clear hst HF
  by_cases h1 : (ln : Int) < 1
  ·have HV : Hid (ans = false) := Lib.hid (by rw [HF1.out, decide_eq_false (by omega), Bool.false_and])
   go_wp2_with fail
   go_ret
   exact ⟨ret_bool HV.out.symm, HP1.out.below⟩
  ·by_cases h2 : (4096 : Int) < (ln : Int)
   ·have HV : Hid (ans = false) := Lib.hid (by rw [HF1.out, decide_eq_false (show ¬ ln ≤ 4096 by omega), Bool.false_and, Bool.and_false])
    go_wp2_with fail
    go_ret
    exact ⟨ret_bool HV.out.symm, HP1.out.below⟩
   ·have HF2 : Eqn ans (pvGo sts ln 0 (lms.map Lem.chs)) := by rw [Eqn, HF1.out, decide_eq_true (show 1 ≤ ln by omega), decide_eq_true (show ln ≤ 4096 by omega)]; rfl
    clear HF1
    go_wp2_with fail
    clear h1 h2
    go_loopw [3] (fun i wr => ∃ k : Nat, k ≤ ln ∧ i = .int .i64 k ∧ Eqn ans (pvGo sts ln k ((lms.map Lem.chs).drop k)) ∧ Hp w w wr [.blk p1 44 [.slice sA sn sc, .slice lA ln lc]] []) (fun i _ => ln - (intOf i).toNat)
    case atStart => exact ⟨0, Nat.zero_le _, rfl, HF2, HP1.out⟩
    case round =>
     clear HP1 HF2 q1 ql
     obtain ⟨k, hk, rfl, HA, hP⟩ := hrel
     have HP := Lib.hid hP
     have q1 := hP.c 0 1 rfl rfl
     have ql := hP.lt 0 rfl
     by_cases hlt : k < ln
     ·have j0 : (k : Int) < (ln : Int) := by omega
      obtain ⟨m, hx⟩ : ∃ m, lms[k]? = some m := ⟨_, List.getElem?_eq_getElem (by rw [Hlen.out]; exact hlt)⟩
      have hmm := List.mem_of_getElem? hx
      obtain ⟨b, off, rfl, _, hc⟩ := (HLX.out wr hP.below).2 (by omega)
      have y0 : wr.cell? ⟨b, off + k, none⟩ = some (.slice m.adr m.len m.cap) := by have := hc k m hx 0 (by decide); rwa [Nat.mul_one, Nat.add_zero] at this
      have hxd : (lms.map Lem.chs).drop k = m.chs :: (lms.map Lem.chs).drop (k + 1) := by
       rw [List.drop_eq_getElem_cons (by rw [List.length_map, Hlen.out]; exact hlt)]
       congr 1
       rw [List.getElem_map, (List.getElem?_eq_some_iff.1 hx).2]
      have HA2 : Eqn ans ((vlGo none m.chs && (decide (m.chs.isEmpty = decide (k + 1 = ln)) && m.chs.all fun x => hasL sts x.1)) && pvGo sts ln (k + 1) ((lms.map Lem.chs).drop (k + 1))) := by rw [Eqn, HA.out, hxd, pvGo]; rfl
      have HVM := Lib.hid (HVL.out m hmm wr hP.below)
      have HMR := Lib.hid (fun (W : World) (hb : Below w.heap.size w W) => HLM.out m hmm W hb)
      have hml2 : m.len ≤ 100000 := (HLM.out m hmm wr hP.below).2
      have hml : m.chs.length = m.len := (HLM.out m hmm wr hP.below).1.1
      have HIE : Hid (m.chs.isEmpty = ((m.len : Int) == 0)) := Lib.hid (by
       rw [← hml]
       cases m.chs with
       | nil => rfl
       | cons => symm; simp; omega)
      have HML := Eqn.mk hml
      have hw0 : IntKind.i64.wrap ((ln : Int) - 1) = (ln : Int) - 1 := by rw [IntKind.wrap_i64]; omega
      have HKE : Hid (decide (k + 1 = ln) = ((k : Int) == (ln : Int) - 1)) := Lib.hid (by
       by_cases h : k + 1 = ln
       ·rw [decide_eq_true h]; symm; simp; omega
       ·rw [decide_eq_false h]; symm; simp; omega)
      obtain ⟨e1, d1⟩ : ∃ e1, ((m.len : Int) == 0) = e1 := ⟨_, rfl⟩
      obtain ⟨e2, d2⟩ : ∃ e2, ((k : Int) == (ln : Int) - 1) = e2 := ⟨_, rfl⟩
      have HIE2 : Hid (m.chs.isEmpty = e1 ∧ decide (k + 1 = ln) = e2) := Lib.hid ⟨HIE.out.trans d1, HKE.out.trans d2⟩
      clear hx hmm hc hxd hml HA HIE HKE hP
      cases hvl : vlGo none m.chs with
      | false =>
       rw [hvl] at HVM
       have HV : Hid (ans = false) := Lib.hid (by rw [HA2.out, hvl]; rfl)
       clear hvl HA2
       go_wp2_with fail
       refine HVM.out.mono ?_
       rintro e W5 ⟨rfl, hb5⟩
       have HP5 := Lib.hid (HP.out.keep hb5)
       clear hb5
       go_wp2_with fail
       go_ret
       exact ⟨ret_bool HV.out.symm, HP5.out.below⟩
      | true =>
       rw [hvl] at HVM
       have HA3 : Eqn ans ((decide (e1 = e2) && m.chs.all fun x => hasL sts x.1) && pvGo sts ln (k + 1) ((lms.map Lem.chs).drop (k + 1))) := by rw [Eqn, HA2.out, hvl, HIE2.out.1, HIE2.out.2, Bool.true_and]
       clear hvl HA2 HIE2
       go_wp2_with fail
       refine HVM.out.mono ?_
       rintro e W5 ⟨rfl, hb5⟩
       have HP5 := Lib.hid (HP.out.keep hb5)
       clear hb5 HP HVM q1 ql y0
       have q1 := HP5.out.c 0 1 rfl rfl
       have ql := HP5.out.lt 0 rfl
       by_cases he : e1 = e2
       ·have d3 : (!e1 == e2) = false := by subst he; cases e1 <;> rfl
        have HA4 : Eqn ans ((m.chs.all fun x => hasL sts x.1) && pvGo sts ln (k + 1) ((lms.map Lem.chs).drop (k + 1))) := by rw [Eqn, HA3.out, decide_eq_true he, Bool.true_and]
        clear he HA3
        go_wp2_with fail
        clear d1 d2 d3 hw0 q1 ql
        go_loopw [5] (fun i wr => ∃ q : Nat, q ≤ m.len ∧ i = .int .i64 q ∧ ((m.chs.take q).all fun x => hasL sts x.1) = true ∧ Hp w w wr [.blk p1 44 [.slice sA sn sc, .slice (some ⟨b, off, none⟩) ln lc]] []) (fun i _ => m.len - (intOf i).toNat)
        case atStart => exact ⟨0, Nat.zero_le _, rfl, rfl, HP5.out⟩
        case round =>
         clear HP5
         obtain ⟨q, hq, rfl, hall, hP⟩ := hrel
         have HP := Lib.hid hP
         have HAL := Lib.hid hall
         clear hall
         by_cases hlt2 : q < m.len
         ·have j1 : (q : Int) < (m.len : Int) := by omega
          obtain ⟨⟨x1, x2⟩, hx⟩ : ∃ x, m.chs[q]? = some x := ⟨_, List.getElem?_eq_getElem (by rw [HML.out]; exact hlt2)⟩
          obtain ⟨b2, o2, eA, _, hc⟩ := (HMR.out wr hP.below).1.2 (by omega)
          obtain ⟨mA, ml, mc, mch⟩ := m
          dsimp only at *
          subst eA
          have y0 : wr.cell? ⟨b2, o2 + q * 2, none⟩ = some (.int .i64 x1) := hc q _ hx 0 (by decide)
          have q0 := hP.c 0 0 rfl rfl
          have ql := hP.lt 0 rfl
          have HH := Lib.hid (HHA.out x1 wr.drew hP.below.drew)
          have HYES : Hid (hasL sts x1 = true → ((mch.take (q + 1)).all fun x => hasL sts x.1) = true) := Lib.hid (fun h => all_take hx HAL.out h)
          have HNO : Hid (hasL sts x1 = false → ans = false) := Lib.hid (fun h => by rw [HA4.out, all_no hx h]; rfl)
          clear hc hx hP HAL
          cases hh : hasL sts x1 with
          | true =>
           rw [hh] at HH
           have HN := Lib.hid (HYES.out hh)
           clear hh HYES HNO
           go_wp2_with fail
           refine Lx.region (C := fun _ => True) (hs := []) (by kernel_rfl) (by kernel_rfl) trivial ?_
           repeat' (first | ((first | refine Lx.ln (fun K hK => ?_) | (first | (refine Lx.lp (v := ?_) ?_ (fun K hK => ?_); rotate_left 1; intro w' hCw; try dsimp only at hCw) | (refine Lx.lr (v := ?_) ?_ (fun K hK => ?_); rotate_left 1)); go_simp; first | done | with_reducible rfl); go_simp; refine hK _ ?_; clear hK K) | (refine Lx.le (fun K hK => ?_); go_simp; (first | (go_at_call 57; refine HH.out.mono ?_; rintro e W6 ⟨rfl, rfl⟩) | skip); refine hK _ _ (trivial) ?_; clear hK K) | (refine Lx.lex_cases rfl rfl rfl (fun hgd K hK => ?_) (fun hgd K hK => ?_) <;> (try simp only [decide_eq_true_eq, decide_eq_false_iff_not] at hgd) <;> (first | (exfalso; omega) | (go_simp; refine hK _ ?_; clear hK K))))
           all_goals (refine Lx.lex_nil ?_)
           go_wp2_with fail
           go_roundw
           case rel => exact ⟨q + 1, hlt2, by go_num, HN.out, HP.out.drew⟩
           case measure => simp [intOf]; omega
          | false =>
           rw [hh] at HH
           have HV := Lib.hid (HNO.out hh)
           clear hh HYES HNO
           go_wp2_with fail
           refine Lx.region (C := fun _ => True) (hs := []) (by kernel_rfl) (by kernel_rfl) trivial ?_
           repeat' (first | ((first | refine Lx.ln (fun K hK => ?_) | (first | (refine Lx.lp (v := ?_) ?_ (fun K hK => ?_); rotate_left 1; intro w' hCw; try dsimp only at hCw) | (refine Lx.lr (v := ?_) ?_ (fun K hK => ?_); rotate_left 1)); go_simp; first | done | with_reducible rfl); go_simp; refine hK _ ?_; clear hK K) | (refine Lx.le (fun K hK => ?_); go_simp; (first | (go_at_call 57; refine HH.out.mono ?_; rintro e W6 ⟨rfl, rfl⟩) | skip); refine hK _ _ (trivial) ?_; clear hK K) | (refine Lx.lex_cases rfl rfl rfl (fun hgd K hK => ?_) (fun hgd K hK => ?_) <;> (try simp only [decide_eq_true_eq, decide_eq_false_iff_not] at hgd) <;> (first | (exfalso; omega) | (go_simp; refine hK _ ?_; clear hK K))))
           all_goals (refine Lx.lex_nil ?_)
           go_wp2_with fail
           go_ret
           exact ⟨ret_bool HV.out.symm, HP.out.below.drew⟩
         ·have j1 : ¬ (q : Int) < (m.len : Int) := by omega
          have HN : Hid (ans = pvGo sts ln (k + 1) ((lms.map Lem.chs).drop (k + 1))) := Lib.hid (by
           have h := HAL.out
           rw [List.take_of_length_le (by rw [HML.out]; omega)] at h
           rw [HA4.out, h, Bool.true_and])
          clear hP HAL HA4
          go_wp2_with fail
          go_roundw
          case rel => exact ⟨k + 1, hlt, by go_num, HN.out, HP.out⟩
          case measure => simp [intOf]; omega
       ·have d3 : (!e1 == e2) = true := by revert he; cases e1 <;> cases e2 <;> simp
        have HV : Hid (ans = false) := Lib.hid (by rw [HA3.out, decide_eq_false he]; rfl)
        clear he HA3
        go_wp2_with fail
        go_ret
        exact ⟨ret_bool HV.out.symm, HP5.out.below⟩
     ·obtain rfl : k = ln := by omega
      have j0 : ¬ (k : Int) < (k : Int) := by omega
      have HV : Hid (ans = true) := Lib.hid (by rw [HA.out, List.drop_eq_nil_of_le (by rw [List.length_map, Hlen.out]; exact Nat.le_refl _)]; rfl)
      clear hP HA
      go_wp2_with fail
      go_ret
      exact ⟨ret_bool HV.out.symm, HP.out.below⟩
structure MsS where
 s : PrbS
 pa : Option Addr
 pn : Nat
 pc : Nat
 O : List Lem
 qa : Option Addr
 qn : Nat
 qc : Nat
 R : List Prf
def MsS.cells (m : MsS) : List Value := [.slice m.s.ad m.s.nd m.s.cd, .slice m.s.rs.a0 m.s.rs.n0 m.s.rs.c0, .slice m.s.rs.a1 m.s.rs.n1 m.s.rs.c1, .slice m.s.rs.a2 m.s.rs.n2 m.s.rs.c2, .slice m.pa m.pn m.pc, .slice m.qa m.qn m.qc]
def MsS.val (m : MsS) : Value := .agg #[.slice m.s.ad m.s.nd m.s.cd, .slice m.s.rs.a0 m.s.rs.n0 m.s.rs.c0, .slice m.s.rs.a1 m.s.rs.n1 m.s.rs.c1, .slice m.s.rs.a2 m.s.rs.n2 m.s.rs.c2, .slice m.pa m.pn m.pc, .slice m.qa m.qn m.qc]
def MsS.P (m : MsS) : List Chs := m.O.map Lem.chs
def MsS.Q (m : MsS) : List Prv := m.R.map Prf.say
theorem hasL_st {L : List Int} (h : stOk L = true) : hasL L = hasS (stS L) := by
 funext x
 rw [hasS_mem (stOk_in h), hasL_mem]
theorem all_inD {ds : List Dom} {L : List Int} (h : stOk L = true) (hv : ∀ y ∈ ds.map Dom.st, 0 ≤ y ∧ y < 512) : L.all (inD ds) = decide (mi (stS L) (stS (ds.map Dom.st)) = 0) := by
 rw [Bool.eq_iff_iff, List.all_eq_true, decide_eq_true_eq, sub_iff (stOk_in h) hv]
 constructor
 ·intro h1 x hx; have := h1 x hx; rwa [inD_mem, decide_eq_true_eq] at this
 ·intro h1 x hx; rw [inD_mem, decide_eq_true_eq]; exact h1 x hx
theorem keepR_res {L : List Int} (h : stOk L = true) (r : Rul) : keepR L r = resR (stS L) r := by unfold keepR resR; rw [hasL_st h]
theorem rrest_ok {ds : List Dom} {r : Rul} {L : List Int} (hv : validP ds r = true) (hd : ∀ d ∈ ds, d.len = d.chs.length) (h : stOk L = true) : rrestF ds r L = if mi (stS L) (stS (ds.map Dom.st)) = 0 then (((resD (stS L) ds).map Dom.say, resR (stS L) r), 0) else (([], ⟨[], [], []⟩), 9) := by
 unfold rrestF
 rw [if_pos ⟨by rw [← valid_eq hd]; exact hv, h⟩, all_inD h (valid_st hv).1, keepR_res h, hasL_st h]
 by_cases hm : mi (stS L) (stS (ds.map Dom.st)) = 0
 ·rw [if_pos hm, if_pos (decide_eq_true hm)]; rfl
 ·rw [if_neg hm, if_neg (by simpa using hm)]
def FsPost (n : Nat) (c : Int) (ok : Bool) (w : World) (e : Ending) (w' : World) : Prop := ∃ v : Int, e = .returned (.tuple #[.int .i64 v, .int .i64 c]) ∧ (c = 0 → (v < (n : Int) ↔ ok = false)) ∧ Below w.heap.size w w'
def chkC (ds : List Dom) (x : Prv) : Int := if pvF x = true then (if mi (stS x.1) (stS (ds.map Dom.st)) = 0 then 0 else 9) else 2
def chkB (ds : List Dom) (r : Rul) (x : Prv) : Bool := fstGo (resR (stS x.1) r) ((resD (stS x.1) ds).map Dom.say) [] x.2
theorem chk_eq {ds : List Dom} {r : Rul} (hv : validP ds r = true) (x : Prv) : chkF ds r x = if chkC ds x = 0 then (if chkB ds r x = true then 0 else 10) else chkC ds x := by
 unfold chkF chkC chkB
 by_cases h1 : pvF x = true
 ·rw [if_pos ⟨hv, h1⟩, if_pos h1]
  by_cases h2 : mi (stS x.1) (stS (ds.map Dom.st)) = 0
  ·rw [if_pos h2, if_pos h2, if_pos rfl]
  ·rw [if_neg h2, if_neg h2, if_neg (by decide)]
 ·rw [if_neg (fun h => h1 h.2), if_neg h1, if_neg (by decide)]
theorem rowX_take {α : Type} {sz : Nat} {f : α → Nat → Value} {w : World} {p : Nat → Prop} {A : Option Addr} {n k : Nat} {xs : List α} (h : RowX sz f w p A n xs) (hk : k ≤ n) : RowX sz f w p A k (xs.take k) := by
 refine ⟨by rw [List.length_take, h.1]; omega, fun h0 => ?_⟩
 obtain ⟨b, off, e, hp, hc⟩ := h.2 (by omega)
 refine ⟨b, off, e, hp, fun j x hx i hi => hc j x ?_ i hi⟩
 rw [List.getElem?_take] at hx
 split at hx
 ·exact hx
 ·cases hx
theorem rfst23_any (s : PrbS) (y : Prf) (w : World) (ds : List Dom) (r : Rul) (hv : validP ds r = true) (h : PrbAt w w.heap.size s ds r) (hN : s.nd ≤ 9223372036854775807) (hy : y.At w (fun _ => True)) (hcap : y.ln ≤ y.lc) :
  Calls Tryz.prog 46 #[s.val, y.val] w (FsPost y.ln (chkC ds y.say) (chkB ds r y.say) w) := by
 obtain ⟨p2, hp2⟩ : ∃ q, q = w.heap.size := ⟨_, rfl⟩
 obtain ⟨p3, hp3⟩ : ∃ q, q = w.heap.size + 1 := ⟨_, rfl⟩
 have hrp := fun (W : World) (hb : Below w.heap.size w W) => rproof_any y W (hy.keep hb)
 unfold Prf.val Prf.v1 Prf.v2 at hrp
 have HSY : Hid (y.say.1 = y.sts ∧ y.say.2 = y.lms.map Lem.chs) := Lib.hid ⟨rfl, rfl⟩
 obtain ⟨x, hxs⟩ : ∃ x, x = y.say := ⟨_, rfl⟩
 rw [← hxs] at hrp HSY ⊢
 clear hxs
 obtain ⟨sA, sn, sc, sts, lA, ln, lc, lms⟩ := y
 have hln : ln ≤ 100000 := hy.2.2.2.2
 have hsn : sn ≤ 100000 := hy.2.2.2.1
 have Hlen : Eqn lms.length ln := hy.2.1.1
 unfold Prf.val Prf.v1 Prf.v2
 dsimp only at *
 obtain ⟨V0, hV0⟩ : ∃ V, V = (w.alloc (.cells #[.slice s.ad s.nd s.cd, .slice s.rs.a0 s.rs.n0 s.rs.c0, .slice s.rs.a1 s.rs.n1 s.rs.c1, .slice s.rs.a2 s.rs.n2 s.rs.c2] 29)).alloc (.cells #[.slice sA sn sc, .slice lA ln lc] 44) := ⟨_, rfl⟩
 have hP0 : Hp w w V0 [.blk p2 29 [.slice s.ad s.nd s.cd, .slice s.rs.a0 s.rs.n0 s.rs.c0, .slice s.rs.a1 s.rs.n1 s.rs.c1, .slice s.rs.a2 s.rs.n2 s.rs.c2], .blk p3 44 [.slice sA sn sc, .slice lA ln lc]] [] := by
  have h := ((Hp.start w).alloc [.slice s.ad s.nd s.cd, .slice s.rs.a0 s.rs.n0 s.rs.c0, .slice s.rs.a1 s.rs.n1 s.rs.c1, .slice s.rs.a2 s.rs.n2 s.rs.c2] 29).alloc [.slice sA sn sc, .slice lA ln lc] 44
  simp only [World.size_alloc] at h
  rw [hV0, hp2, hp3]; exact h
 have hdl : ∀ d ∈ ds, d.len = d.chs.length := fun d hd => (h.1.2 d hd).1.symm
 have hvr : validR ds r = true := by rw [← valid_eq hdl]; exact hv
 have hvl := rvalid_any s V0 ds r hN ⟨h.1.keep hP0.below, h.2.keep hP0.below⟩
 rw [hvr] at hvl
 have hre := fun (W : World) (hb : Below w.heap.size w W) => rrestrict_any s sA sn sc W ds r sts hN (by omega) ⟨h.1.keep hb, h.2.keep hb⟩ (hy.keep hb).ints
 unfold PrbS.val at hvl hre
 have HVD := Lib.hid hvl
 have HRP := Lib.hid hrp
 have HRE := Lib.hid hre
 have HRK := Lib.hid (fun hst => rrest_ok (r := r) (L := sts) hv hdl hst)
 have HVP := Lib.hid hv
 have HY := Lib.hid (fun (W : World) (hb : Below w.heap.size w W) => hy.keep hb)
 unfold PrbS.val
 have q0 := hP0.c 0 0 rfl rfl
 have q1 := hP0.c 0 1 rfl rfl
 have q2 := hP0.c 0 2 rfl rfl
 have q3 := hP0.c 0 3 rfl rfl
 have ql := hP0.lt 0 rfl
 have HP0 := Lib.hid hP0
 have HCAP := Lib.hid hcap
 clear hP0 h hv hy hvl hre hrp hvr hdl
 go_enter Tryz.func46, Tryz.ntmps46
 go_upto_region 1 with fail
 rw [← hV0, ← hp3, ← hp2]
 clear hV0 hp2 hp3
 go_wp2_with fail
 refine HVD.out.mono ?_
 rintro e W1 ⟨rfl, hb1⟩
 have HP1 := Lib.hid (HP0.out.keep hb1)
 have HR1 := Lib.hid (HRP.out W1 HP1.out.below)
 clear q0 q1 q2 q3 ql hb1 HP0 HVD HRP
 have y0 := HP1.out.c 1 0 rfl rfl
 have y1 := HP1.out.c 1 1 rfl rfl
 have yl := HP1.out.lt 1 rfl
 cases hpv : pvF x with
 | false =>
  rw [hpv] at HR1
  have HC : Hid (chkC ds x = 2) := Lib.hid (by unfold chkC; rw [hpv]; rfl)
  clear hpv
  go_wp2_with fail
  refine HR1.out.mono ?_
  rintro e W2 ⟨rfl, hb2⟩
  have HB := Lib.hid (HP1.out.keep hb2).below
  clear hb2
  go_wp2_with fail
  refine bodyPost_ret (v := .tuple #[.int .i64 0, .int .i64 2]) (by simp [results, Tryz.results46, go_sem]) rfl ?_
  exact ⟨0, by rw [HC.out], fun h => absurd h (by rw [HC.out]; decide), HB.out⟩
 | true =>
  rw [hpv] at HR1
  have hst : stOk sts = true := by
   have h := hpv
   unfold pvF at h
   simp only [Bool.and_eq_true] at h
   rw [← HSY.out.1]; exact h.1
  have HRS := HRK.out hst
  have HPV := Lib.hid hpv
  generalize hrr : rrestF ds r sts = rr at *
  have HRR := Lib.hid HRS
  clear hpv hrr HRS HRK
  go_wp2_with fail
  refine HR1.out.mono ?_
  rintro e W2 ⟨rfl, hb2⟩
  have HP2 := Lib.hid (HP1.out.keep hb2)
  have HE2 := Lib.hid (HRE.out W2 HP2.out.below)
  unfold PrbPost at HE2
  clear hb2 HP1 HR1 y0 y1 yl HRE
  have q0 := HP2.out.c 0 0 rfl rfl
  have q1 := HP2.out.c 0 1 rfl rfl
  have q2 := HP2.out.c 0 2 rfl rfl
  have q3 := HP2.out.c 0 3 rfl rfl
  have ql := HP2.out.lt 0 rfl
  have y0 := HP2.out.c 1 0 rfl rfl
  have yl := HP2.out.lt 1 rfl
  go_wp2_with fail
  refine HE2.out.mono ?_
  rintro e W3 ⟨z, es, rfl, hat, hsay, hb3⟩
  obtain ⟨p6, hp6⟩ : ∃ q, q = W3.heap.size := ⟨_, rfl⟩
  obtain ⟨W4, hW4⟩ : ∃ V, V = W3.alloc (.cells #[.slice z.ad z.nd z.cd, .slice z.rs.a0 z.rs.n0 z.rs.c0, .slice z.rs.a1 z.rs.n1 z.rs.c1, .slice z.rs.a2 z.rs.n2 z.rs.c2] 29) := ⟨_, rfl⟩
  have hP4 := (HP2.out.keep hb3).alloc [.slice z.ad z.nd z.cd, .slice z.rs.a0 z.rs.n0 z.rs.c0, .slice z.rs.a1 z.rs.n1 z.rs.c1, .slice z.rs.a2 z.rs.n2 z.rs.c2] 29
  rw [show ([.slice z.ad z.nd z.cd, .slice z.rs.a0 z.rs.n0 z.rs.c0, .slice z.rs.a1 z.rs.n1 z.rs.c1, .slice z.rs.a2 z.rs.n2 z.rs.c2] : List Value).toArray = #[.slice z.ad z.nd z.cd, .slice z.rs.a0 z.rs.n0 z.rs.c0, .slice z.rs.a1 z.rs.n1 z.rs.c1, .slice z.rs.a2 z.rs.n2 z.rs.c2] from rfl, ← hW4, ← hp6] at hP4
  have hb34 : Below W3.heap.size W3 W4 := by rw [hW4]; exact (Below.refl _ _).alloc (Nat.le_refl _) _
  have hat4 : PrbAt W4 W4.heap.size z es rr.1.2 := ⟨hat.1.keep hb34, hat.2.keep hb34⟩
  have HP4 := Lib.hid hP4
  have HAT := Lib.hid hat4
  have HSA := Lib.hid hsay
  unfold PrbS.val
  clear hP4 hb34 hat4 hat hsay hb3 HE2 HP2 q0 q1 q2 q3 ql y0 yl
  go_upto_region 4 with fail
  rw [← hW4, ← hp6]
  clear hW4 hp6
  by_cases hmi : mi (stS sts) (stS (ds.map Dom.st)) = 0
  ·have hrr : rr = (((resD (stS sts) ds).map Dom.say, resR (stS sts) r), 0) := by rw [HRR.out, if_pos hmi]
   subst hrr
   have HC : Hid (chkC ds x = 0) := Lib.hid (by unfold chkC; rw [if_pos HPV.out, HSY.out.1, if_pos hmi])
   obtain ⟨R2, hR2⟩ : ∃ R2, R2 = resR (stS sts) r := ⟨_, rfl⟩
   have hsay := HSA.out
   dsimp only at hsay
   have hvq : validP es R2 = true := by rw [hR2]; exact rest_valid HVP.out hsay
   have hat4 := HAT.out
   dsimp only at hat4
   rw [← hR2] at hat4
   have hzn : z.nd ≤ 9223372036854775807 := by have h1 := hat4.1.1.1; have h2 := (valid_st hvq).2.1; omega
   have HBE : Hid (chkB ds r x = fstGo R2 (es.map Dom.say) [] (lms.map Lem.chs)) := Lib.hid (by unfold chkB; rw [HSY.out.1, HSY.out.2, ← hR2, hsay])
   have hnv := fun (A : Option Addr) (n c : Nat) (g : Chs) (W : World) (hb : Below W4.heap.size W4 W) (hn : n ≤ 100000) (hg : RowS 2 chC W W.heap.size A n g) => nvalid_any z A n c W es R2 g hvq ⟨hat4.1.keep hb, hat4.2.keep hb⟩ hzn hn hg
   have hnf := fun (k : Nat) (hk : k ≤ ln) (cb : Nat) (A : Option Addr) (n c : Nat) (g : Chs) (W : World) (hb : Below W4.heap.size W4 W) (hn : n ≤ 100000) (hg : RowS 2 chC W W.heap.size A n g) => nfollows_any z lA k cb A n c W es R2 (vpr hvq) ⟨hat4.1.keep hb, hat4.2.keep hb⟩ (lms.take k) g (by omega) (rowX_take (HY.out W (HP4.out.keep hb).below).2.1 hk) (fun m hm => (HY.out W (HP4.out.keep hb).below).2.2.1 m (List.mem_of_mem_take hm)) hn hg
   unfold PrbS.val at hnv hnf
   have HNV := Lib.hid hnv
   have HNF := Lib.hid hnf
   obtain ⟨ans, hans⟩ : ∃ a, a = chkB ds r x := ⟨_, rfl⟩
   have HF : Eqn ans (fstGo R2 (es.map Dom.say) [] (lms.map Lem.chs)) := hans.trans HBE.out
   have HAN := Lib.hid hans
   have HB4 := Lib.hid (Below.refl W4.heap.size W4)
   generalize es.map Dom.say = DS at *
   clear hmi hR2 hsay hvq hat4 hzn hnv hnf hans HSA HAT HRR HBE
   go_wp2_with fail
   go_loopw [8] (fun i wr => ∃ k : Nat, k ≤ ln ∧ i = .int .i64 k ∧ Eqn ans (fstGo R2 DS ((lms.take k).map Lem.chs) ((lms.map Lem.chs).drop k)) ∧ Below W4.heap.size W4 wr) (fun i _ => ln - (intOf i).toNat)
   case atStart => exact ⟨0, Nat.zero_le _, rfl, HF, HB4.out⟩
   case round =>
    clear HF HB4
    obtain ⟨k, hk, rfl, HA, hB⟩ := hrel
    have HB := Lib.hid hB
    have hP := HP4.out.keep hB
    have y1 := hP.c 1 1 rfl rfl
    have yl := hP.lt 1 rfl
    by_cases hlt : k < ln
    ·have j0 : (k : Int) < (ln : Int) := by omega
     obtain ⟨m, hx⟩ : ∃ m, lms[k]? = some m := ⟨_, List.getElem?_eq_getElem (by rw [Hlen.out]; exact hlt)⟩
     have hmm := List.mem_of_getElem? hx
     obtain ⟨b, off, rfl, hbl, hc⟩ := ((HY.out wr hP.below).lems).2 (by dsimp only; omega)
     have y2 : wr.cell? ⟨b, off + k, none⟩ = some (.slice m.adr m.len m.cap) := by have := hc k m hx 0 (by decide); rwa [Nat.mul_one, Nat.add_zero] at this
     have hxd : (lms.map Lem.chs).drop k = m.chs :: (lms.map Lem.chs).drop (k + 1) := by
      rw [List.drop_eq_getElem_cons (by rw [List.length_map, Hlen.out]; exact hlt)]
      congr 1
      rw [List.getElem_map, (List.getElem?_eq_some_iff.1 hx).2]
     have HA2 : Eqn ans (if nvF DS m.chs = true ∧ folF R2 DS ((lms.take k).map Lem.chs) m.chs = true then fstGo R2 DS ((lms.take (k + 1)).map Lem.chs) ((lms.map Lem.chs).drop (k + 1)) else false) := by
      rw [Eqn, HA.out, hxd, fstGo, take_snoc hx, List.map_append]; rfl
     have hMA := fun (W : World) (hb : Below W4.heap.size W4 W) => (HY.out W (HP4.out.keep hb).below).2.2.1 m hmm
     have hD : Below W4.heap.size W4 wr.drew := hB.drew
     have HN1 := Lib.hid (HNV.out m.adr m.len m.cap m.chs wr.drew hD (hMA _ hD).2 (hMA _ hD).rowS)
     have HN2 := Lib.hid (fun (W : World) (hb : Below W4.heap.size W4 W) (cb : Nat) => HNF.out k (by omega) cb m.adr m.len m.cap m.chs W hb (hMA _ hb).2 (hMA _ hb).rowS)
     have HY2 := Lib.hid (fun (W : World) (hb : Below W4.heap.size W4 W) => (by
      obtain ⟨b', off', e', hbl', hc'⟩ := ((HY.out W (HP4.out.keep hb).below).lems).2 (by dsimp only; omega)
      injection e' with e'
      injection e' with e1 e2
      subst e1 e2
      refine ⟨?_, hbl'⟩
      have := hc' k m hx 0 (by decide); rwa [Nat.mul_one, Nat.add_zero] at this : W.cell? ⟨b, off + k, none⟩ = some (.slice m.adr m.len m.cap) ∧ b < W.heap.size))
     have hkc : (k : Int) ≤ (lc : Int) := by have := HCAP.out; omega
     have j2 : (0 : Int) ≤ (k : Int) := by omega
     have HDB := Lib.hid hD
     have q0 := hP.c 2 0 rfl rfl
     have q1 := hP.c 2 1 rfl rfl
     have q2 := hP.c 2 2 rfl rfl
     have q3 := hP.c 2 3 rfl rfl
     have ql := hP.lt 2 rfl
     clear hc hx hmm hxd hMA hP HA hB hD
     cases hnv : nvF DS m.chs with
     | false =>
      rw [hnv] at HN1
      have HV : Hid (ans = false) := Lib.hid (by rw [HA2.out, hnv]; rfl)
      clear hnv HA2 HN2
      go_wp2_with fail
      refine Lx.region (C := fun _ => True) (hs := []) (by kernel_rfl) (by kernel_rfl) trivial ?_
      repeat' (first | ((first | refine Lx.ln (fun K hK => ?_) | (first | (refine Lx.lp (v := ?_) ?_ (fun K hK => ?_); rotate_left 1; intro w' hCw; try dsimp only at hCw) | (refine Lx.lr (v := ?_) ?_ (fun K hK => ?_); rotate_left 1)); go_simp; first | done | with_reducible rfl); go_simp; refine hK _ ?_; clear hK K) | (refine Lx.le (fun K hK => ?_); go_simp; (first | (go_at_call 88; refine HN1.out.mono ?_; rintro e W6 ⟨rfl, hb6⟩; have HB6 := Lib.hid (HDB.out.trans (hb6.mono HDB.out.size)); clear hb6) | skip); refine hK _ _ (trivial) ?_; clear hK K) | (refine Lx.lex_cases rfl rfl rfl (fun hgd K hK => ?_) (fun hgd K hK => ?_) <;> (try simp only [decide_eq_true_eq, decide_eq_false_iff_not] at hgd) <;> (first | (exfalso; omega) | (go_simp; refine hK _ ?_; clear hK K))))
      all_goals (refine Lx.lex_nil ?_)
      go_wp2_with fail
      refine bodyPost_ret (v := .tuple #[.int .i64 k, .int .i64 0]) (by simp [results, Tryz.results46, go_sem]) rfl ?_
      exact ⟨(k : Int), by rw [HC.out], fun _ => ⟨fun _ => by rw [← HAN.out]; exact HV.out, fun _ => by omega⟩, (HP4.out.keep HB6.out).below⟩
     | true =>
      rw [hnv] at HN1
      have HA3 : Eqn ans (if folF R2 DS ((lms.take k).map Lem.chs) m.chs = true then fstGo R2 DS ((lms.take (k + 1)).map Lem.chs) ((lms.map Lem.chs).drop (k + 1)) else false) := by rw [Eqn, HA2.out, hnv]; simp
      clear hnv HA2
      have HARM : Hid True := Lib.hid trivial
      cases hfo : folF R2 DS ((lms.take k).map Lem.chs) m.chs with
      | false =>
       rw [hfo] at HN2
       have HV : Hid (ans = false) := Lib.hid (by rw [HA3.out, hfo]; rfl)
       clear hfo HA3
       go_wp2_with fail
       refine Lx.region (C := fun _ => True) (hs := []) (by kernel_rfl) (by kernel_rfl) trivial ?_
       repeat' (first | ((first | refine Lx.ln (fun K hK => ?_) | (first | (refine Lx.lp (v := ?_) ?_ (fun K hK => ?_); rotate_left 1; intro w' hCw; try dsimp only at hCw) | (refine Lx.lr (v := ?_) ?_ (fun K hK => ?_); rotate_left 1)); go_simp; first | done | with_reducible rfl); go_simp; refine hK _ ?_; clear hK K) | (refine Lx.le (fun K hK => ?_); go_simp; (first | (go_at_call 88; refine HN1.out.mono ?_; rintro e W6 ⟨rfl, hb6⟩; have HB6 := Lib.hid (HDB.out.trans (hb6.mono HDB.out.size)); clear hb6; have hp6 := HP4.out.keep HB6.out; have a0 := hp6.c 2 0 rfl rfl; have a1 := hp6.c 2 1 rfl rfl; have a2 := hp6.c 2 2 rfl rfl; have a3 := hp6.c 2 3 rfl rfl; have al := hp6.lt 2 rfl; have u1 := hp6.c 1 1 rfl rfl; have ul := hp6.lt 1 rfl; obtain ⟨u2, u3⟩ := HY2.out W6 HB6.out; clear hp6) | (go_at_call 89; refine (HN2.out W6 HB6.out _).mono ?_; rintro e W7 ⟨rfl, hb7⟩; have HB7 := Lib.hid (HB6.out.trans (hb7.mono HB6.out.size)); clear hb7) | skip); refine hK _ _ (trivial) ?_; clear hK K) | (refine Lx.lex_cases rfl rfl rfl (fun hgd K hK => ?_) (fun hgd K hK => ?_) <;> (try simp only [decide_eq_true_eq, decide_eq_false_iff_not] at hgd) <;> (first | (exfalso; omega) | (go_simp; refine hK _ ?_; clear hK K))))
       all_goals (refine Lx.lex_nil ?_)
       go_wp2_with fail
       refine bodyPost_ret (v := .tuple #[.int .i64 k, .int .i64 0]) (by simp [results, Tryz.results46, go_sem]) rfl ?_
       exact ⟨(k : Int), by rw [HC.out], fun _ => ⟨fun _ => by rw [← HAN.out]; exact HV.out, fun _ => by omega⟩, (HP4.out.keep HB7.out).below⟩
      | true =>
       rw [hfo] at HN2
       have HV : Eqn ans (fstGo R2 DS ((lms.take (k + 1)).map Lem.chs) ((lms.map Lem.chs).drop (k + 1))) := by rw [Eqn, HA3.out, hfo]; rfl
       clear hfo HA3
       go_wp2_with fail
       refine Lx.region (C := fun _ => True) (hs := []) (by kernel_rfl) (by kernel_rfl) trivial ?_
       repeat' (first | ((first | refine Lx.ln (fun K hK => ?_) | (first | (refine Lx.lp (v := ?_) ?_ (fun K hK => ?_); rotate_left 1; intro w' hCw; try dsimp only at hCw) | (refine Lx.lr (v := ?_) ?_ (fun K hK => ?_); rotate_left 1)); go_simp; first | done | with_reducible rfl); go_simp; refine hK _ ?_; clear hK K) | (refine Lx.le (fun K hK => ?_); go_simp; (first | (go_at_call 88; refine HN1.out.mono ?_; rintro e W6 ⟨rfl, hb6⟩; have HB6 := Lib.hid (HDB.out.trans (hb6.mono HDB.out.size)); clear hb6; have hp6 := HP4.out.keep HB6.out; have a0 := hp6.c 2 0 rfl rfl; have a1 := hp6.c 2 1 rfl rfl; have a2 := hp6.c 2 2 rfl rfl; have a3 := hp6.c 2 3 rfl rfl; have al := hp6.lt 2 rfl; have u1 := hp6.c 1 1 rfl rfl; have ul := hp6.lt 1 rfl; obtain ⟨u2, u3⟩ := HY2.out W6 HB6.out; clear hp6) | (go_at_call 89; refine (HN2.out W6 HB6.out _).mono ?_; rintro e W7 ⟨rfl, hb7⟩; have HB7 := Lib.hid (HB6.out.trans (hb7.mono HB6.out.size)); clear hb7) | skip); refine hK _ _ (trivial) ?_; clear hK K) | (refine Lx.lex_cases rfl rfl rfl (fun hgd K hK => ?_) (fun hgd K hK => ?_) <;> (try simp only [decide_eq_true_eq, decide_eq_false_iff_not] at hgd) <;> (first | (exfalso; omega) | (go_simp; refine hK _ ?_; clear hK K))))
       all_goals (refine Lx.lex_nil ?_)
       go_wp2_with fail
       go_roundw
       case rel => exact ⟨k + 1, hlt, by go_num, HV, HB7.out⟩
       case measure => simp [intOf]; omega
    ·obtain rfl : k = ln := by omega
     have j0 : ¬ (k : Int) < (k : Int) := by omega
     have HV : Hid (ans = true) := Lib.hid (by rw [HA.out, List.drop_eq_nil_of_le (by rw [List.length_map, Hlen.out]; exact Nat.le_refl _)]; rfl)
     clear hP HA hB
     go_wp2_with fail
     refine bodyPost_ret (v := .tuple #[.int .i64 k, .int .i64 0]) (by simp [results, Tryz.results46, go_sem]) rfl ?_
     exact ⟨(k : Int), by rw [HC.out], fun _ => ⟨fun h => by omega, fun h => by rw [← HAN.out, HV.out] at h; cases h⟩, (HP4.out.keep HB.out).below⟩
  ·have hrr : rr = (([], ⟨[], [], []⟩), 9) := by rw [HRR.out, if_neg hmi]
   have HC : Hid (chkC ds x = 9) := Lib.hid (by unfold chkC; rw [if_pos HPV.out, HSY.out.1, if_neg hmi])
   subst hrr
   clear hmi HSA HAT HRR
   go_wp2_with fail
   refine bodyPost_ret (v := .tuple #[.int .i64 0, .int .i64 9]) (by simp [results, Tryz.results46, go_sem]) rfl ?_
   exact ⟨0, by rw [HC.out], fun h => absurd h (by rw [HC.out]; decide), HP4.out.below⟩
theorem rcheck_any (s : PrbS) (y : Prf) (w : World) (ds : List Dom) (r : Rul) (hv : validP ds r = true) (h : PrbAt w w.heap.size s ds r) (hN : s.nd ≤ 9223372036854775807) (hy : y.At w (fun _ => True)) (hcap : y.ln ≤ y.lc) :
  Calls Tryz.prog 13 #[s.val, y.val] w (RetPost (.int .i64 (chkF ds r y.say)) w.heap.size w) := by
 rw [chk_eq hv]
 obtain ⟨p2, hp2⟩ : ∃ q, q = w.heap.size := ⟨_, rfl⟩
 obtain ⟨p3, hp3⟩ : ∃ q, q = w.heap.size + 1 := ⟨_, rfl⟩
 have hln : y.ln ≤ 100000 := hy.2.2.2.2
 obtain ⟨V0, hV0⟩ : ∃ V, V = (w.alloc (.cells #[.slice s.ad s.nd s.cd, .slice s.rs.a0 s.rs.n0 s.rs.c0, .slice s.rs.a1 s.rs.n1 s.rs.c1, .slice s.rs.a2 s.rs.n2 s.rs.c2] 29)).alloc (.cells #[.slice y.sa y.sn y.sc, .slice y.la y.ln y.lc] 44) := ⟨_, rfl⟩
 have hP0 : Hp w w V0 [.blk p2 29 [.slice s.ad s.nd s.cd, .slice s.rs.a0 s.rs.n0 s.rs.c0, .slice s.rs.a1 s.rs.n1 s.rs.c1, .slice s.rs.a2 s.rs.n2 s.rs.c2], .blk p3 44 [.slice y.sa y.sn y.sc, .slice y.la y.ln y.lc]] [] := by
  have h := ((Hp.start w).alloc [.slice s.ad s.nd s.cd, .slice s.rs.a0 s.rs.n0 s.rs.c0, .slice s.rs.a1 s.rs.n1 s.rs.c1, .slice s.rs.a2 s.rs.n2 s.rs.c2] 29).alloc [.slice y.sa y.sn y.sc, .slice y.la y.ln y.lc] 44
  simp only [World.size_alloc] at h
  rw [hV0, hp2, hp3]; exact h
 have hfs := rfst23_any s y V0 ds r hv ⟨h.1.keep hP0.below, h.2.keep hP0.below⟩ hN (hy.keep hP0.below) hcap
 unfold FsPost at hfs
 unfold PrbS.val Prf.val Prf.v1 Prf.v2 at hfs ⊢
 generalize chkC ds y.say = c at *
 generalize chkB ds r y.say = b at *
 obtain ⟨ans, hans⟩ : ∃ a, a = (if c = 0 then (if b = true then (0 : Int) else 10) else c) := ⟨_, rfl⟩
 rw [← hans]
 have HAN := Lib.hid hans
 clear hans
 have HFS := Lib.hid hfs
 have q0 := hP0.c 0 0 rfl rfl
 have q1 := hP0.c 0 1 rfl rfl
 have q2 := hP0.c 0 2 rfl rfl
 have q3 := hP0.c 0 3 rfl rfl
 have ql := hP0.lt 0 rfl
 have y0 := hP0.c 1 0 rfl rfl
 have y1 := hP0.c 1 1 rfl rfl
 have yl := hP0.lt 1 rfl
 have HP0 := Lib.hid hP0
 clear hP0 h hv hy hfs hcap
 go_enter Tryz.func13, Tryz.ntmps13
 go_upto_region 1 with fail
 rw [← hV0, ← hp3, ← hp2]
 clear hV0 hp2 hp3
 go_wp2_with fail
 refine HFS.out.mono ?_
 rintro e W1 ⟨v, rfl, hvb, hb1⟩
 have HP1 := Lib.hid (HP0.out.keep hb1)
 have y1' := HP1.out.c 1 1 rfl rfl
 have yl' := HP1.out.lt 1 rfl
 have HVB := Lib.hid hvb
 clear hb1 hvb HFS HP0 q0 q1 q2 q3 ql y0 y1 yl
 by_cases hc : c = 0
 ·have d1 : (c == 0) = true := by simp [hc]
  by_cases hl : v < (y.ln : Int)
  ·have HE : Hid (ans = 10) := Lib.hid (by rw [HAN.out, if_pos hc, (HVB.out hc).1 hl]; rfl)
   clear hc
   go_wp2_with fail
   go_ret
   exact ⟨ret_int HE.out.symm, HP1.out.below⟩
  ·have hb : b = true := by cases b with
    | true => rfl
    | false => exact absurd ((HVB.out hc).2 rfl) hl
   have HE : Hid (ans = c) := Lib.hid (by rw [HAN.out, if_pos hc, if_pos hb, hc])
   clear hc hb
   go_wp2_with fail
   go_ret
   exact ⟨ret_int HE.out.symm, HP1.out.below⟩
 ·have d1 : (c == 0) = false := by simpa using hc
  have HE : Hid (ans = c) := Lib.hid (HAN.out.trans (if_neg hc))
  clear hc
  go_wp2_with fail
  go_ret
  exact ⟨ret_int HE.out.symm, HP1.out.below⟩
end Go.Proofs.YtdpbbhbegehcjaaGreatDoor

namespace Go.Proofs.YtdpbbhbegehcjaaGreatDoor
open Go.RowKit
theorem on_filter (p : Int → Bool) (n : Int) : ∀ l : Chs, onF (l.filter fun x => p x.1) n = if p n = true then onF l n else 0
 | [] => by simp [onF]
 | x :: r => by
  rw [List.filter_cons]
  by_cases hx : p x.1 = true
  ·rw [if_pos hx, onF, onF]
   by_cases hn : x.1 = n
   ·rw [if_pos hn, if_pos hn, if_pos (by rw [← hn]; exact hx)]
   ·rw [if_neg hn, if_neg hn]; exact on_filter p n r
  ·rw [if_neg hx, on_filter p n r, onF]
   by_cases hn : x.1 = n
   ·rw [if_neg (by rw [← hn]; exact hx), if_neg (by rw [← hn]; exact hx)]
   ·rw [if_neg hn]
theorem rest_asg {ds : List Dom} {r : Rul} {l : Chs} {S T : Nat} (hr : VPr ds r) (hST : ∀ x, hasS T x = true → hasS S x = true) (h : okF (resD S ds) (resR S r) l true = true) : okF (resD T ds) (resR T r) (l.filter fun x => hasS T x.1) true = true := by
 have hon : ∀ n, hasS T n = true → onF (l.filter fun x => hasS T x.1) n = onF l n := fun n hn => by rw [on_filter (hasS T), if_pos hn]
 unfold okF at h ⊢
 simp only [Bool.and_eq_true, List.all_eq_true] at h ⊢
 obtain ⟨h1, h2, h3, h4⟩ := h
 refine ⟨fun d hd => ?_, fun x hx => ?_, fun x hx => ?_, fun x hx => ?_⟩
 ·obtain ⟨hd1, hd2⟩ := List.mem_filter.1 hd
  have := h1 d (List.mem_filter.2 ⟨hd1, hST _ hd2⟩)
  unfold bdF at this ⊢
  rw [hon _ hd2]; exact this
 ·obtain ⟨hx1, hx2⟩ := List.mem_filter.1 hx
  have := h2 x hx1
  rw [inD_mem, decide_eq_true_eq] at this ⊢
  obtain ⟨d, hd, e⟩ := List.mem_map.1 this
  exact List.mem_map.2 ⟨d, List.mem_filter.2 ⟨(List.mem_filter.1 hd).1, by rw [e]; exact hx2⟩, e⟩
 ·unfold resR at hx
  dsimp only at hx
  obtain ⟨hx1, hx2⟩ := List.mem_filter.1 hx
  rw [Bool.and_eq_true] at hx2
  have := h3 x (List.mem_filter.2 ⟨hx1, by rw [hST _ hx2.1, hST _ hx2.2]; rfl⟩)
  unfold bpF at this ⊢
  rw [hon _ hx2.1, hon _ hx2.2]; exact this
 ·unfold resR at hx
  dsimp only at hx
  obtain ⟨hx1, hx2⟩ := List.mem_filter.1 hx
  have hb := h4 x (List.mem_filter.2 ⟨hx1, hST _ hx2⟩)
  have hw : ∀ U : Nat, ∀ y ∈ (resR U r).loads, 1 ≤ y.c ∧ y.c ≤ 1073741824 := fun U y hy => (hr.lds y (List.mem_filter.1 hy).1).2.1
  have hlen : ∀ U : Nat, (0 : Int) + 1073741824 * ((resR U r).loads.length : Int) ≤ 9223372036854775807 := fun U => by
   have h1 := hr.sts.2.2.2.2.1
   have h2 : (resR U r).loads.length ≤ r.loads.length := List.length_filter_le _ _
   omega
  have e1 := loss_sum x.a (onF l x.a) l (resR S r).loads 0 (hw S) (Int.le_refl _) (hlen S)
  have e2 := loss_sum x.a (onF l x.a) (l.filter fun x => hasS T x.1) (resR T r).loads 0 (hw T) (Int.le_refl _) (hlen T)
  have hle : sumW ((resR T r).loads.filter (lossB x.a (onF l x.a) (l.filter fun x => hasS T x.1))) ≤ sumW ((resR S r).loads.filter (lossB x.a (onF l x.a) l)) := by
   unfold resR
   dsimp only
   rw [List.filter_filter, List.filter_filter]
   refine sumW_le (fun y hy => (hr.lds y hy).2.1.1) (fun y hy hs => ?_)
   simp only [Bool.and_eq_true] at hs ⊢
   obtain ⟨q1, q2, q3⟩ := hs
   refine ⟨?_, hST _ q2, hST _ q3⟩
   unfold lossB at q1 ⊢
   rw [hon _ q3] at q1; exact q1
  rw [Bool.not_eq_true'] at hb ⊢
  unfold bcF at hb ⊢
  rw [hon _ hx2, e2]
  rw [e1] at hb
  cases g1 : decide (onF l x.a = 0) with
  | true => simp
  | false =>
   rw [g1] at hb
   cases g2 : decide (x.c ≤ onF l x.a) with
   | false => simp
   | true =>
    rw [g2] at hb
    cases g3 : decide (onF l x.a ≤ x.d) with
    | false => simp
    | true =>
     rw [g3] at hb
     simp at hb ⊢
     omega
theorem has_sub {A B : List Int} (ha : ∀ y ∈ A, 0 ≤ y ∧ y < 512) (hb : ∀ y ∈ B, 0 ≤ y ∧ y < 512) (h : ∀ x ∈ A, x ∈ B) : ∀ x, hasS (stS A) x = true → hasS (stS B) x = true := fun x hx => by
 rw [hasS_mem ha, decide_eq_true_eq] at hx
 rw [hasS_mem hb, decide_eq_true_eq]; exact h x hx
theorem vl_filter {l : Chs} (h : vlGo none l = true) (p : Int → Bool) : vlGo none (l.filter fun x => p x.1) = true := by
 obtain ⟨h1, h2⟩ := vl_facts l none h
 have key : ∀ (l : Chs) (prev : Option Int), (∀ x ∈ l, (0 ≤ x.1 ∧ x.1 < 512) ∧ (2 ≤ x.2 ∧ x.2 ≤ 51) ∧ ∀ q, prev = some q → q < x.1) → l.Pairwise (fun x y => x.1 < y.1) → vlGo prev l = true := by
  intro l
  induction l with
  | nil => intro _ _ _; rfl
  | cons x r ih =>
   intro prev hx hp
   obtain ⟨hp1, hp2⟩ := List.pairwise_cons.1 hp
   obtain ⟨q1, q2, q3⟩ := hx x (by simp)
   rw [vlGo_cons, (stF_iff _).2 q1, (betwF_iff _ _ _).2 q2]
   have : notUp prev x.1 = false := by
    unfold notUp
    cases prev with
    | none => rfl
    | some q => have := q3 q rfl; simp; omega
   rw [this]
   exact ih (some x.1) (fun y hy => ⟨(hx y (by simp [hy])).1, (hx y (by simp [hy])).2.1, fun q e => by cases e; exact hp1 y hy⟩) hp2
 exact key _ none (fun x hx => by have := h1 x (List.mem_filter.1 hx).1; exact ⟨this.1, this.2.1, fun q e => (by cases e)⟩) (h2.filter _)
theorem resR_res {S T : Nat} {r : Rul} (h : ∀ x, hasS T x = true → hasS S x = true) : resR T (resR S r) = resR T r := by
 unfold resR
 dsimp only
 rw [List.filter_filter, List.filter_filter, List.filter_filter]
 have e1 : (fun c : R5 => (hasS T c.a && hasS T c.b) && (hasS S c.a && hasS S c.b)) = fun c => hasS T c.a && hasS T c.b := by
  funext c
  cases h1 : hasS T c.a with
  | false => rfl
  | true =>
   cases h2 : hasS T c.b with
   | false => rfl
   | true => rw [h _ h1, h _ h2]; rfl
 have e2 : (fun c : R4 => hasS T c.a && hasS S c.a) = fun c => hasS T c.a := by
  funext c
  cases h1 : hasS T c.a with
  | false => rfl
  | true => rw [h _ h1]; rfl
 rw [e1, e2]
theorem resD_res {S T : Nat} {ds : List Dom} (h : ∀ x, hasS T x = true → hasS S x = true) : resD T (resD S ds) = resD T ds := by
 unfold resD
 rw [List.filter_filter]
 congr 1
 funext d
 cases h1 : hasS T d.st with
 | false => rfl
 | true => rw [h _ h1]; rfl
theorem filt_say' {ds es : List Dom} (S : Nat) (h : ds.map Dom.say = es.map Dom.say) : (resD S ds).map Dom.say = (resD S es).map Dom.say := by
 have key : ∀ l : List Dom, (resD S l).map Dom.say = (l.map Dom.say).filter fun s => hasS S s.1 := by
  intro l
  unfold resD
  induction l with
  | nil => rfl
  | cons x r ih =>
   rw [List.filter_cons, List.map_cons, List.filter_cons]
   show (List.map Dom.say (if hasS S x.st = true then _ else _)) = if hasS S x.st = true then _ else _
   split
   ·rw [List.map_cons, ih]
   ·exact ih
 rw [key, key, h]
theorem resD_st {S : List Int} {ds : List Dom} (hS : ∀ y ∈ S, 0 ≤ y ∧ y < 512) (h : ∀ x ∈ S, x ∈ ds.map Dom.st) : ∀ x ∈ S, x ∈ (resD (stS S) ds).map Dom.st := fun x hx => by
 obtain ⟨d, hd, e⟩ := List.mem_map.1 (h x hx)
 exact List.mem_map.2 ⟨d, List.mem_filter.2 ⟨hd, by rw [hasS_mem hS, e]; exact decide_eq_true hx⟩, e⟩
theorem chk_rest {ds es : List Dom} {r : Rul} {L : List Int} {x : Prv} (hL : stOk L = true) (hLd : ∀ y ∈ L, y ∈ ds.map Dom.st) (hx : ∀ y ∈ x.1, y ∈ L) (he : es.map Dom.say = (resD (stS L) ds).map Dom.say) (h : chkF ds r x = 0) : chkF es (resR (stS L) r) x = 0 := by
 unfold chkF at h
 split at h
 ·rename_i hc
  split at h
  ·rename_i hm
   split at h
   ·rename_i hf
    have hxs : stOk x.1 = true := by have := hc.2; unfold pvF at this; simp only [Bool.and_eq_true] at this; exact this.1
    have hsub := has_sub (stOk_in hxs) (stOk_in hL) hx
    have hst := valid_st hc.1
    have hval := rest_valid (L := L) hc.1 he
    unfold chkF
    have hmm : mi (stS x.1) (stS (es.map Dom.st)) = 0 := by
     rw [st_say he]
     refine (sub_iff (stOk_in hxs) (fun y hy => ?_)).2 (fun y hy => resD_st (stOk_in hL) hLd y (hx y hy))
     obtain ⟨d, hd, rfl⟩ := List.mem_map.1 hy
     exact hst.1 _ (List.mem_map.2 ⟨d, (List.mem_filter.1 hd).1, rfl⟩)
    have hff : fstGo (resR (stS x.1) (resR (stS L) r)) ((resD (stS x.1) es).map Dom.say) [] x.2 = true := by rw [resR_res hsub, filt_say' _ he, resD_res hsub]; exact hf
    rw [if_pos ⟨hval, hc.2⟩, if_pos hmm, if_pos hff]
   ·omega
  ·omega
 ·omega
theorem chk_fits {ds : List Dom} {r : Rul} {x : Prv} {l : Chs} (h : chkF ds r x = 0) (hl : vlGo none l = true) (hx : ∀ y ∈ x.1, y ∈ ofC l) (hf : fitsF ds r l = true) : False := by
 unfold chkF at h
 split at h
 ·rename_i hc
  split at h
  ·split at h
   ·rename_i hf2
    have hxs : stOk x.1 = true := by have := hc.2; unfold pvF at this; simp only [Bool.and_eq_true] at this; exact this.1
    have hsub := has_sub (stOk_in hxs) (stOk_in (vl_stOk hl)) hx
    have hr := vpr hc.1
    have h1 := rest_asg hr hsub hf
    have hval := rest_valid (L := x.1) (es := resD (stS x.1) ds) hc.1 rfl
    exact sound_fst (vpr hval) h1 x.2 [] (fun _ hg => (by cases hg)) (pv_empty hc.2) hf2
   ·omega
  ·omega
 ·omega
structure Good (ds : List Dom) (r : Rul) (P : List Chs) (Q : List Prv) : Prop where
 p : ∀ l ∈ P, vlGo none l = true ∧ (∀ y ∈ ofC l, y ∈ ds.map Dom.st) ∧ fitsF ds r l = true
 q : ∀ x ∈ Q, stOk x.1 = true ∧ chkF ds r x = 0
theorem good_nil (ds : List Dom) (r : Rul) : Good ds r [] [] := ⟨fun _ h => (by cases h), fun _ h => (by cases h)⟩
theorem good_pk {ds : List Dom} {r : Rul} {P : List Chs} {Q : List Prv} {l : Chs} (hv : validP ds r = true) (h : Good ds r P Q) : Good ds r (pkF ds r P l).1 Q := by
 refine ⟨?_, h.q⟩
 unfold pkF
 split
 ·rename_i h1
  split
  ·rename_i h2
   split
   ·rename_i h3
    split
    ·exact h.p
    ·split
     ·exact h.p
     ·intro y hy
      rcases List.mem_append.1 hy with hy | hy
      ·exact h.p y (List.mem_filter.1 hy).1
      ·rw [List.mem_singleton] at hy
       subst hy
       exact ⟨h1, (sub_iff (stOk_in (vl_stOk h1)) (valid_st hv).1).1 h2, h3⟩
   ·exact h.p
  ·exact h.p
 ·exact h.p
theorem good_rf {ds : List Dom} {r : Rul} {P : List Chs} {Q : List Prv} {x : Prv} (h : Good ds r P Q) (hx : chkF ds r x = 0) : Good ds r P (rfF ds Q x).1 := by
 refine ⟨h.p, ?_⟩
 unfold rfF
 split
 ·rename_i h1
  split
  ·split
   ·exact h.q
   ·split
    ·exact h.q
    ·intro y hy
     rcases List.mem_append.1 hy with hy | hy
     ·exact h.q y (List.mem_filter.1 hy).1
     ·rw [List.mem_singleton] at hy
      subst hy
      exact ⟨h1, hx⟩
  ·exact h.q
 ·exact h.q
def kindF (ds : List Dom) (P : List Chs) (Q : List Prv) (L : List Int) : Int := (lkF ds P Q L).1.1
theorem kind_eq {ds : List Dom} {P : List Chs} {Q : List Prv} {L : List Int} (h1 : stOk L = true) (h2 : mi (stS L) (stS (ds.map Dom.st)) = 0) (hP : ∀ l ∈ P, vlGo none l = true) (hQ : ∀ x ∈ Q, stOk x.1 = true) : kindF ds P Q L = if ∃ o ∈ P, ∀ y ∈ L, y ∈ ofC o then 1 else if ∃ o ∈ Q, ∀ y ∈ o.1, y ∈ L then 2 else 0 := by
 unfold kindF lkF
 rw [if_pos h1, if_pos h2]
 cases hf : P.find? fun o => decide (mi (stS L) (stS (ofC o)) = 0) with
 | some o =>
  have := List.find?_some hf
  have hm := List.mem_of_find?_eq_some hf
  rw [if_pos ⟨o, hm, (sub_iff (stOk_in h1) (stOk_in (vl_stOk (hP o hm)))).1 (of_decide_eq_true this)⟩]
 | none =>
  have h3 := List.find?_eq_none.1 hf
  rw [if_neg (by
   rintro ⟨o, ho, hs⟩
   exact h3 o ho (decide_eq_true ((sub_iff (stOk_in h1) (stOk_in (vl_stOk (hP o ho)))).2 hs)))]
  cases hg : Q.find? fun o => decide (mi (stS o.1) (stS L) = 0) with
  | some o =>
   have := List.find?_some hg
   have hm := List.mem_of_find?_eq_some hg
   rw [if_pos ⟨o, hm, (sub_iff (stOk_in (hQ o hm)) (stOk_in h1)).1 (of_decide_eq_true this)⟩]
  | none =>
   have h4 := List.find?_eq_none.1 hg
   rw [if_neg (by
    rintro ⟨o, ho, hs⟩
    exact h4 o ho (decide_eq_true ((sub_iff (stOk_in (hQ o ho)) (stOk_in h1)).2 hs)))]
theorem kind_err {ds : List Dom} {P : List Chs} {Q : List Prv} {L : List Int} (h : ¬ (stOk L = true ∧ mi (stS L) (stS (ds.map Dom.st)) = 0)) : kindF ds P Q L = 0 := by
 unfold kindF lkF
 split
 ·rename_i h1
  rw [if_neg (fun h2 => h ⟨h1, h2⟩)]
 ·rfl
def Knows (P P' : List Chs) : Prop := ∀ o ∈ P, ∃ o' ∈ P', ∀ y ∈ ofC o, y ∈ ofC o'
def KnowsQ (Q Q' : List Prv) : Prop := ∀ o ∈ Q, ∃ o' ∈ Q', ∀ y ∈ o'.1, y ∈ o.1
theorem knows_pk {ds : List Dom} {r : Rul} {P : List Chs} {l : Chs} (hP : ∀ l ∈ P, vlGo none l = true) : Knows P (pkF ds r P l).1 := by
 have hid : Knows P P := fun o ho => ⟨o, ho, fun _ h => h⟩
 unfold pkF
 split
 ·rename_i h1
  split
  ·split
   ·split
    ·exact hid
    ·split
     ·exact hid
     ·intro o ho
      by_cases hs : mi (stS (ofC o)) (stS (ofC l)) = 0
      ·exact ⟨l, by simp, (sub_iff (stOk_in (vl_stOk (hP o ho))) (stOk_in (vl_stOk h1))).1 hs⟩
      ·exact ⟨o, List.mem_append_left _ (List.mem_filter.2 ⟨ho, by simp [hs]⟩), fun _ h => h⟩
   ·exact hid
  ·exact hid
 ·exact hid
theorem knows_rf {ds : List Dom} {Q : List Prv} {x : Prv} (hQ : ∀ x ∈ Q, stOk x.1 = true) : KnowsQ Q (rfF ds Q x).1 := by
 have hid : KnowsQ Q Q := fun o ho => ⟨o, ho, fun _ h => h⟩
 unfold rfF
 split
 ·rename_i h1
  split
  ·split
   ·exact hid
   ·split
    ·exact hid
    ·intro o ho
     by_cases hs : mi (stS x.1) (stS o.1) = 0
     ·exact ⟨x, by simp, (sub_iff (stOk_in h1) (stOk_in (hQ o ho))).1 hs⟩
     ·exact ⟨o, List.mem_append_left _ (List.mem_filter.2 ⟨ho, by simp [hs]⟩), fun _ h => h⟩
  ·exact hid
 ·exact hid
theorem kind_stays {ds : List Dom} {r : Rul} {P P' : List Chs} {Q Q' : List Prv} {L : List Int} (hG : Good ds r P Q) (hG' : Good ds r P' Q') (h1 : Knows P P') (h2 : KnowsQ Q Q') (h : kindF ds P Q L ≠ 0) : kindF ds P' Q' L = kindF ds P Q L := by
 by_cases hok : stOk L = true ∧ mi (stS L) (stS (ds.map Dom.st)) = 0
 ·have e1 := kind_eq hok.1 hok.2 (fun l hl => (hG.p l hl).1) (fun x hx => (hG.q x hx).1)
  have e2 := kind_eq hok.1 hok.2 (fun l hl => (hG'.p l hl).1) (fun x hx => (hG'.q x hx).1)
  by_cases hp : ∃ o ∈ P, ∀ y ∈ L, y ∈ ofC o
  ·obtain ⟨o, ho, hs⟩ := hp
   obtain ⟨o', ho', hs'⟩ := h1 o ho
   rw [e1, e2, if_pos ⟨o', ho', fun y hy => hs' y (hs y hy)⟩, if_pos ⟨o, ho, hs⟩]
  ·rw [if_neg hp] at e1
   by_cases hq : ∃ o ∈ Q, ∀ y ∈ o.1, y ∈ L
   ·obtain ⟨o, ho, hs⟩ := hq
    obtain ⟨o', ho', hs'⟩ := h2 o ho
    have hno : ¬ ∃ o ∈ P', ∀ y ∈ L, y ∈ ofC o := by
     rintro ⟨l, hl, hls⟩
     have h3 := hG'.p l hl
     exact chk_fits (hG'.q o' ho').2 h3.1 (fun y hy => hls y (hs y (hs' y hy))) h3.2.2
    rw [e1, e2, if_neg hno, if_pos ⟨o', ho', fun y hy => hs y (hs' y hy)⟩, if_pos ⟨o, ho, hs⟩]
   ·rw [if_neg hq] at e1; exact absurd e1 h
 ·exact absurd (kind_err hok) h
end Go.Proofs.YtdpbbhbegehcjaaGreatDoor
