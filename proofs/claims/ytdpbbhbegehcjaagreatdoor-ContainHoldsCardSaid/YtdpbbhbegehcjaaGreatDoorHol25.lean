/- A region that draws its order, with effects that nothing orders: one walk for each order of the effects. Nothing of the program is named here. -/
import Derived.Test.YtdpbbhbegehcjaaGreatDoorHol17
import Derived.Test.YtdpbbhbegehcjaaGreatDoorHol24
set_option maxRecDepth 100000
set_option maxHeartbeats 2000000
namespace Go.Proofs.YtdpbbhbegehcjaaGreatDoor
open Go.RowKit Go.Shelf
theorem findD_spec (x : Int) : ∀ (l : List Dom) (k : Nat), (findD x k l = -1 ∧ (l.find? fun d => decide (d.st = x)) = none) ∨ ∃ (j : Nat) (d : Dom), findD x k l = ((k + j : Nat) : Int) ∧ l[j]? = some d ∧ (l.find? fun d => decide (d.st = x)) = some d
 | [], _ => .inl ⟨rfl, rfl⟩
 | d :: r, k => by
  unfold findD
  by_cases h : d.st = x
  ·exact .inr ⟨0, d, by rw [if_pos h]; rfl, rfl, by rw [List.find?_cons, decide_eq_true h]⟩
  ·rw [if_neg h, List.find?_cons, decide_eq_false h]
   rcases findD_spec x r (k + 1) with ⟨h1, h2⟩ | ⟨j, e, h1, h2, h3⟩
   ·exact .inl ⟨h1, h2⟩
   ·exact .inr ⟨j + 1, e, by rw [h1]; omega, h2, h3⟩
theorem nv_spec (ds : List Dom) (x : Int × Int) : (findD x.1 0 ds = -1 ∧ nvOne (ds.map Dom.say) x = false) ∨ ∃ (j : Nat) (d : Dom), findD x.1 0 ds = (j : Int) ∧ ds[j]? = some d ∧ nvOne (ds.map Dom.say) x = hasL d.chs x.2 := by
 have e : ((ds.map Dom.say).find? fun d => decide (d.1 = x.1)) = (ds.find? fun d => decide (d.st = x.1)).map Dom.say := by rw [List.find?_map]; rfl
 rcases findD_spec x.1 ds 0 with ⟨h1, h2⟩ | ⟨j, d, h1, h2, h3⟩
 ·exact .inl ⟨h1, by unfold nvOne; rw [e, h2]; rfl⟩
 ·exact .inr ⟨j, d, by rw [h1, Nat.zero_add], h2, by unfold nvOne; rw [e, h3]; rfl⟩
theorem nvalid_any (s : PrbS) (A : Option Addr) (n c : Nat) (w : World) (ds : List Dom) (r : Rul) (g : Chs) (hv : validP ds r = true) (h : PrbAt w w.heap.size s ds r) (hN : s.nd ≤ 9223372036854775807) (hn : n ≤ 100000) (hg : RowS 2 chC w w.heap.size A n g) :
  Calls Tryz.prog 88 #[s.val, .slice A n c] w (RetPost (.bool (nvF (ds.map Dom.say) g)) w.heap.size w) := by
 obtain ⟨p0, hp0⟩ : ∃ q, q = w.heap.size := ⟨_, rfl⟩
 obtain ⟨V0, hV0⟩ : ∃ V, V = w.alloc (.cells #[.slice s.ad s.nd s.cd, .slice s.rs.a0 s.rs.n0 s.rs.c0, .slice s.rs.a1 s.rs.n1 s.rs.c1, .slice s.rs.a2 s.rs.n2 s.rs.c2] 29) := ⟨_, rfl⟩
 have hP0 : Hp w w V0 [.blk p0 29 [.slice s.ad s.nd s.cd, .slice s.rs.a0 s.rs.n0 s.rs.c0, .slice s.rs.a1 s.rs.n1 s.rs.c1, .slice s.rs.a2 s.rs.n2 s.rs.c2]] [] := by
  have h := (Hp.start w).alloc [.slice s.ad s.nd s.cd, .slice s.rs.a0 s.rs.n0 s.rs.c0, .slice s.rs.a1 s.rs.n1 s.rs.c1, .slice s.rs.a2 s.rs.n2 s.rs.c2] 29
  rw [hV0, hp0]; exact h
 have hvr : validR ds r = true := by rw [← valid_eq (fun d hd => (h.1.2 d hd).1.symm)]; exact hv
 have hvl := rvalid_any s V0 ds r hN ⟨h.1.keep hP0.below, h.2.keep hP0.below⟩
 rw [hvr] at hvl
 unfold PrbS.val at hvl
 have HVD := Lib.hid hvl
 have HVL := Lib.hid (fun (W : World) (hb : Below w.heap.size w W) => rvl_any A n c W g (by omega) (hg.keep hb))
 have hfi := fun (x : Int) (W : World) (hb : Below w.heap.size w W) => rfind_any s x W ds hN (h.1.keep hb)
 unfold PrbS.val at hfi
 have HFI := Lib.hid hfi
 have HXS := Lib.hid (fun (W : World) (hb : Below w.heap.size w W) => hg.keep hb)
 have HDS := Lib.hid (fun (W : World) (hb : Below w.heap.size w W) => h.1.keep hb)
 have HDB := Lib.hid (valid_st hv)
 have Hlen := Eqn.mk hg.1
 have HNV := Lib.hid (fun x => nv_spec ds x)
 obtain ⟨ans, hans⟩ : ∃ a, a = nvF (ds.map Dom.say) g := ⟨_, rfl⟩
 rw [← hans]
 have HF := Eqn.mk hans
 have HP0 := Lib.hid hP0
 unfold PrbS.val
 have q0 := hP0.c 0 0 rfl rfl
 have q1 := hP0.c 0 1 rfl rfl
 have q2 := hP0.c 0 2 rfl rfl
 have q3 := hP0.c 0 3 rfl rfl
 have ql := hP0.lt 0 rfl
 clear hP0 h hv hg hans hvl hfi hvr
 generalize ds.map Dom.say = DS at *
 go_enter Tryz.func88, Tryz.ntmps88
 go_upto_region 1 with fail
 rw [← hV0, ← hp0]
 clear hV0 hp0
 go_wp2_with fail
 refine HVD.out.mono ?_
 rintro e W1 ⟨rfl, hb1⟩
 have HP1 := Lib.hid (HP0.out.keep hb1)
 have HV1 := Lib.hid (HVL.out W1 HP1.out.below)
 clear hb1 HVD HVL q0 q1 q2 q3 ql HP0
 cases hvg : vlGo none g with
 | false =>
  rw [hvg] at HV1
  have HE : Hid (ans = false) := Lib.hid (by rw [HF.out]; unfold nvF; rw [hvg]; rfl)
  clear hvg HF
  go_wp2_with fail
  refine HV1.out.mono ?_
  rintro e W2 ⟨rfl, hb2⟩
  have HP2 := Lib.hid (HP1.out.keep hb2)
  clear hb2
  go_wp2_with fail
  go_ret
  exact ⟨ret_bool HE.out.symm, HP2.out.below⟩
 | true =>
  rw [hvg] at HV1
  have HE : Hid (ans = g.all (nvOne DS)) := Lib.hid (by rw [HF.out]; unfold nvF; rw [hvg]; rfl)
  clear hvg HF
  go_wp2_with fail
  refine HV1.out.mono ?_
  rintro e W2 ⟨rfl, hb2⟩
  have HP2 := Lib.hid (HP1.out.keep hb2)
  clear hb2 HP1 HV1
  go_wp2_with fail
  go_loopw [5] (fun i wr => ∃ k : Nat, k ≤ n ∧ i = .int .i64 k ∧ (g.take k).all (nvOne DS) = true ∧ Hp w w wr [.blk p0 29 [.slice s.ad s.nd s.cd, .slice s.rs.a0 s.rs.n0 s.rs.c0, .slice s.rs.a1 s.rs.n1 s.rs.c1, .slice s.rs.a2 s.rs.n2 s.rs.c2]] []) (fun i _ => n - (intOf i).toNat)
  case atStart => exact ⟨0, Nat.zero_le _, rfl, rfl, HP2.out⟩
  case round =>
   clear HP2
   obtain ⟨k, hk, rfl, hall, hP⟩ := hrel
   have HP := Lib.hid hP
   have HAL := Lib.hid hall
   clear hall
   by_cases hlt : k < n
   ·have j0 : (k : Int) < (n : Int) := by omega
    obtain ⟨⟨x1, x2⟩, hx⟩ : ∃ x, g[k]? = some x := ⟨_, List.getElem?_eq_getElem (by rw [Hlen.out]; exact hlt)⟩
    obtain ⟨b, off, rfl, hbl, hc⟩ := (HXS.out wr hP.below).2 (by omega)
    have y0 : wr.cell? ⟨b, off + k * 2, none⟩ = some (.int .i64 x1) := hc k _ hx 0 (by decide)
    have HY1 := Lib.hid (fun (W : World) (hb : Below w.heap.size w W) => (by
     obtain ⟨b', off', e', hbl', hc'⟩ := (HXS.out W hb).2 (by omega)
     injection e' with e'
     injection e' with e1 e2
     subst e1 e2
     exact ⟨hc' k _ hx 1 (by decide), hbl'⟩ : W.cell? ⟨b, off + k * 2 + 1, none⟩ = some (.int .i64 x2) ∧ b < W.heap.size))
    have HYES : Hid (nvOne DS (x1, x2) = true → (g.take (k + 1)).all (nvOne DS) = true) := Lib.hid (fun h => all_take hx HAL.out h)
    have HNO : Hid (nvOne DS (x1, x2) = false → ans = false) := Lib.hid (fun h => by rw [HE.out]; exact all_no hx h)
    have HFD := Lib.hid (HFI.out x1 wr.drew hP.below.drew)
    have q0 := HP.out.c 0 0 rfl rfl
    have q1 := HP.out.c 0 1 rfl rfl
    have q2 := HP.out.c 0 2 rfl rfl
    have q3 := HP.out.c 0 3 rfl rfl
    have ql := HP.out.lt 0 rfl
    have hnv := HNV.out (x1, x2)
    dsimp only at hnv
    clear hc hx hP HAL HE
    rcases hnv with ⟨h1, h2⟩ | ⟨j, d, h1, h2, h3⟩
    ·rw [h1] at HFD
     have HV := Lib.hid (HNO.out h2)
     clear h1 h2
     go_wp2_with fail
     refine Lx.region (C := fun _ => True) (hs := []) (by kernel_rfl) (by kernel_rfl) trivial ?_
     repeat' (first | ((first | refine Lx.ln (fun K hK => ?_) | (first | (refine Lx.lp (v := ?_) ?_ (fun K hK => ?_); rotate_left 1; intro w' hCw; try dsimp only at hCw) | (refine Lx.lr (v := ?_) ?_ (fun K hK => ?_); rotate_left 1)); go_simp; first | done | with_reducible rfl); go_simp; refine hK _ ?_; clear hK K) | (refine Lx.le (fun K hK => ?_); go_simp; (first | (go_at_call 31; refine HFD.out.mono ?_; rintro e W3 ⟨rfl, hb3⟩; have HP3 := Lib.hid (HP.out.drew.keep hb3); clear hb3) | skip); refine hK _ _ (trivial) ?_; clear hK K) | (refine Lx.lex_cases rfl rfl rfl (fun hgd K hK => ?_) (fun hgd K hK => ?_) <;> (try simp only [decide_eq_true_eq, decide_eq_false_iff_not] at hgd) <;> (first | (exfalso; omega) | (go_simp; refine hK _ ?_; clear hK K))))
     all_goals (refine Lx.lex_nil ?_)
     go_wp2_with fail
     refine Lx.region (C := fun _ => True) (hs := []) (by kernel_rfl) (by kernel_rfl) trivial ?_
     repeat' (first | ((first | refine Lx.ln (fun K hK => ?_) | (first | (refine Lx.lp (v := ?_) ?_ (fun K hK => ?_); rotate_left 1; intro w' hCw; try dsimp only at hCw) | (refine Lx.lr (v := ?_) ?_ (fun K hK => ?_); rotate_left 1)); go_simp; first | done | with_reducible rfl); go_simp; refine hK _ ?_; clear hK K) | (refine Lx.le (fun K hK => ?_); go_simp; (first | fail | skip); refine hK _ _ (trivial) ?_; clear hK K) | (refine Lx.lex_cases rfl rfl rfl (fun hgd K hK => ?_) (fun hgd K hK => ?_) <;> (try simp only [decide_eq_true_eq, decide_eq_false_iff_not] at hgd) <;> (first | (exfalso; omega) | (go_simp; refine hK _ ?_; clear hK K))))
     all_goals (refine Lx.lex_nil ?_)
     go_wp2_with fail
     go_ret
     exact ⟨ret_bool HV.out.symm, HP3.out.below.drew⟩
    ·rw [h1] at HFD
     have hjl : j < ds.length := (List.getElem?_eq_some_iff.1 h2).1
     have hdm := List.mem_of_getElem? h2
     have HDJ := Lib.hid (fun (W : World) (hb : Below w.heap.size w W) => (by
      have hD := HDS.out W hb
      have hnd : s.nd = ds.length := hD.1.1.symm
      obtain ⟨b', off', e', hbl', hc'⟩ := hD.1.2 (by omega)
      exact ⟨b', off', e', hc' j d h2 1 (by decide), hbl', hnd, hD.2 d hdm, by have h4 := (hD.2 d hdm).1; have h5 := HDB.out.2.2.1 d hdm; omega⟩ : ∃ b2 o2, s.ad = some ⟨b2, o2, none⟩ ∧ W.cell? ⟨b2, o2 + j * 2 + 1, none⟩ = some (.slice d.adr d.len d.cap) ∧ b2 < W.heap.size ∧ s.nd = ds.length ∧ Row1 intV W W.heap.size d.adr d.len d.chs ∧ d.len ≤ 100000))
     have HH3 := Lib.hid h3
     have HJL := Lib.hid hjl
     clear h1 h2 h3 hdm hjl
     go_wp2_with fail
     refine Lx.region (C := fun _ => True) (hs := []) (by kernel_rfl) (by kernel_rfl) trivial ?_
     repeat' (first | ((first | refine Lx.ln (fun K hK => ?_) | (first | (refine Lx.lp (v := ?_) ?_ (fun K hK => ?_); rotate_left 1; intro w' hCw; try dsimp only at hCw) | (refine Lx.lr (v := ?_) ?_ (fun K hK => ?_); rotate_left 1)); go_simp; first | done | with_reducible rfl); go_simp; refine hK _ ?_; clear hK K) | (refine Lx.le (fun K hK => ?_); go_simp; (first | (go_at_call 31; refine HFD.out.mono ?_; rintro e W3 ⟨rfl, hb3⟩; have HP3 := Lib.hid (HP.out.drew.keep hb3); clear hb3) | skip); refine hK _ _ (trivial) ?_; clear hK K) | (refine Lx.lex_cases rfl rfl rfl (fun hgd K hK => ?_) (fun hgd K hK => ?_) <;> (try simp only [decide_eq_true_eq, decide_eq_false_iff_not] at hgd) <;> (first | (exfalso; omega) | (go_simp; refine hK _ ?_; clear hK K))))
     all_goals (refine Lx.lex_nil ?_)
     clear q0 q1 q2 q3 ql y0 HFD HP
     obtain ⟨b2, o2, e2, u1, u2, u3, u4, u5⟩ := HDJ.out W3 HP3.out.below
     have q0 := HP3.out.c 0 0 rfl rfl
     have ql := HP3.out.lt 0 rfl
     rw [e2, u3] at q0
     have j1 : ¬ (j : Int) < (0 : Int) := by omega
     have j2 : (0 : Int) ≤ (j : Int) := by omega
     have j3 : (j : Int) < (ds.length : Int) := by have := HJL.out; omega
     obtain ⟨y1, yl⟩ := HY1.out W3 HP3.out.below
     have HPD := Lib.hid HP3.out.drew
     have HHA := Lib.hid (rhas_any d.adr d.len d.cap x2 W3.drew d.chs (by omega) (u4.keep (Below.refl _ _).drew))
     clear e2 u3 u4 u5 HDJ HY1
     cases hh : hasL d.chs x2 with
     | true =>
      rw [hh] at HHA
      have HN := Lib.hid (HYES.out (by rw [HH3.out]; exact hh))
      have HPZ := HPD
      clear hh HYES HNO HH3
      go_wp2_with fail
      refine Lx.region (C := fun _ => True) (hs := []) (by kernel_rfl) (by kernel_rfl) trivial ?_
      repeat' (first | ((first | refine Lx.ln (fun K hK => ?_) | (first | (refine Lx.lp (v := ?_) ?_ (fun K hK => ?_); rotate_left 1; intro w' hCw; try dsimp only at hCw) | (refine Lx.lr (v := ?_) ?_ (fun K hK => ?_); rotate_left 1)); go_simp; first | done | with_reducible rfl); go_simp; refine hK _ ?_; clear hK K) | (refine Lx.le (fun K hK => ?_); go_simp; (first | (go_at_call 57; refine HHA.out.mono ?_; rintro e W4 ⟨rfl, rfl⟩) | skip); refine hK _ _ (trivial) ?_; clear hK K) | (refine Lx.lex_cases rfl rfl rfl (fun hgd K hK => ?_) (fun hgd K hK => ?_) <;> (try simp only [decide_eq_true_eq, decide_eq_false_iff_not] at hgd) <;> (first | (exfalso; omega) | (go_simp; refine hK _ ?_; clear hK K))))
      all_goals (refine Lx.lex_nil ?_)
      go_wp2_with fail
      go_roundw
      case rel => exact ⟨k + 1, hlt, by go_num, HN.out, HPZ.out⟩
      case measure => simp [intOf]; omega
     | false =>
      rw [hh] at HHA
      have HV := Lib.hid (HNO.out (by rw [HH3.out]; exact hh))
      clear hh HYES HNO HH3
      go_wp2_with fail
      refine Lx.region (C := fun _ => True) (hs := []) (by kernel_rfl) (by kernel_rfl) trivial ?_
      repeat' (first | ((first | refine Lx.ln (fun K hK => ?_) | (first | (refine Lx.lp (v := ?_) ?_ (fun K hK => ?_); rotate_left 1; intro w' hCw; try dsimp only at hCw) | (refine Lx.lr (v := ?_) ?_ (fun K hK => ?_); rotate_left 1)); go_simp; first | done | with_reducible rfl); go_simp; refine hK _ ?_; clear hK K) | (refine Lx.le (fun K hK => ?_); go_simp; (first | (go_at_call 57; refine HHA.out.mono ?_; rintro e W4 ⟨rfl, rfl⟩) | skip); refine hK _ _ (trivial) ?_; clear hK K) | (refine Lx.lex_cases rfl rfl rfl (fun hgd K hK => ?_) (fun hgd K hK => ?_) <;> (try simp only [decide_eq_true_eq, decide_eq_false_iff_not] at hgd) <;> (first | (exfalso; omega) | (go_simp; refine hK _ ?_; clear hK K))))
      all_goals (refine Lx.lex_nil ?_)
      go_wp2_with fail
      go_ret
      exact ⟨ret_bool HV.out.symm, HPD.out.below⟩
   ·obtain rfl : k = n := by omega
    have j0 : ¬ (k : Int) < (k : Int) := by omega
    have HV : Hid (ans = true) := Lib.hid (by rw [HE.out]; have h := HAL.out; rwa [List.take_of_length_le (by rw [Hlen.out]; exact Nat.le_refl _)] at h)
    clear hP HAL HE
    go_wp2_with fail
    go_ret
    exact ⟨ret_bool HV.out.symm, HP.out.below⟩
theorem byng_any (A : Option Addr) (n cp : Nat) (B : Option Addr) (m cb : Nat) (st c : Int) (w : World) (D : List Dom) (g : Chs) (hn : n ≤ 9223372036854775807) (hD : DomsAt w w.heap.size A n D) (hd : ∀ d ∈ D, d.len ≤ 9223372036854775807) (hm : m ≤ 100000) (hg : RowS 2 chC w w.heap.size B m g) :
  Calls Tryz.prog 147 #[.slice A n cp, .slice B m cb, .int .i64 st, .int .i64 c] w (RetPost (.bool (ngGo (D.map Dom.say) st c false g)) w.heap.size w) := by
 have HO := Lib.hid (fun (u v : Int) (W : World) (hb : Below w.heap.size w W) => onlyb_any A n cp u v W D hn (hD.keep hb) hd)
 have HXS := Lib.hid (fun (W : World) (hb : Below w.heap.size w W) => hg.keep hb)
 have Hlen := Eqn.mk hg.1
 obtain ⟨ans, hans⟩ : ∃ a, a = ngGo (D.map Dom.say) st c false g := ⟨_, rfl⟩
 rw [← hans]
 have HF := Eqn.mk hans
 generalize D.map Dom.say = DS at *
 clear hD hd hg hans
 go_enter Tryz.func147, Tryz.ntmps147
 go_wp2_with fail
 go_loopw [9, 10] (fun hv i wr => ∃ (k : Nat) (has : Bool), k ≤ m ∧ hv = .bool has ∧ i = .int .i64 k ∧ Eqn ans (ngGo DS st c has (g.drop k)) ∧ Below w.heap.size w wr) (fun _ i _ => m - (intOf i).toNat)
 case atStart => exact ⟨0, false, Nat.zero_le _, rfl, rfl, HF, Below.refl _ _⟩
 case round =>
  clear HF
  obtain ⟨k, has, hk, rfl, rfl, HA, hB⟩ := hrel
  have HB := Lib.hid hB
  by_cases hlt : k < m
  ·have j0 : (k : Int) < (m : Int) := by omega
   obtain ⟨⟨x1, x2⟩, hx, hxd⟩ := drop_at (xs := g) (k := k) (by rw [Hlen.out]; exact hlt)
   obtain ⟨b, off, rfl, hbl, hc⟩ := (HXS.out wr hB).2 (by omega)
   have y0 : wr.cell? ⟨b, off + k * 2, none⟩ = some (.int .i64 x1) := hc k _ hx 0 (by decide)
   have y1 : wr.cell? ⟨b, off + k * 2 + 1, none⟩ = some (.int .i64 x2) := hc k _ hx 1 (by decide)
   have hA2 := HA.out
   rw [hxd, ngGo] at hA2
   dsimp only at hA2
   have HA2 := Lib.hid hA2
   have HO1 := Lib.hid (HO.out x1 x2 wr.drew hB.drew)
   clear hc hx hxd hB HA hA2
   by_cases h1 : x1 = st
   ·have d1 : (x1 == st) = true := by simpa using h1
    have HA3 := Lib.hid (HA2.out.trans (if_pos h1))
    clear h1 HA2 HO1
    by_cases h2 : x2 = c
    ·have d2 : (x2 == c) = true := by simpa using h2
     have HA4 : Eqn ans (ngGo DS st c true (g.drop (k + 1))) := by rw [Eqn, HA3.out, decide_eq_true h2]
     clear h2 HA3
     go_wp2_with fail
     go_roundw
     case rel => exact ⟨k + 1, true, hlt, rfl, by go_num, HA4, HB.out⟩
     case measure => simp [intOf]; omega
    ·have d2 : (x2 == c) = false := by simpa using h2
     have HA4 : Eqn ans (ngGo DS st c false (g.drop (k + 1))) := by rw [Eqn, HA3.out, decide_eq_false h2]
     clear h2 HA3
     go_wp2_with fail
     go_roundw
     case rel => exact ⟨k + 1, false, hlt, rfl, by go_num, HA4, HB.out⟩
     case measure => simp [intOf]; omega
   ·have d1 : (x1 == st) = false := by simpa using h1
    have HA3 := Lib.hid (HA2.out.trans (if_neg h1))
    clear h1 HA2
    cases ho : onlyB DS x1 x2 with
    | true =>
     rw [ho] at HO1
     have HA4 : Eqn ans (ngGo DS st c has (g.drop (k + 1))) := HA3.out.trans (if_pos ho)
     clear ho HA3
     go_wp2_with fail
     refine Lx.region (C := fun _ => True) (hs := []) (by kernel_rfl) (by kernel_rfl) trivial ?_
     repeat' (first | ((first | refine Lx.ln (fun K hK => ?_) | (first | (refine Lx.lp (v := ?_) ?_ (fun K hK => ?_); rotate_left 1; intro w' hCw; try dsimp only at hCw) | (refine Lx.lr (v := ?_) ?_ (fun K hK => ?_); rotate_left 1)); go_simp; first | done | with_reducible rfl); go_simp; refine hK _ ?_; clear hK K) | (refine Lx.le (fun K hK => ?_); go_simp; (first | (go_at_call 149; refine HO1.out.mono ?_; rintro e W6 ⟨rfl, rfl⟩) | skip); refine hK _ _ (trivial) ?_; clear hK K) | (refine Lx.lex_cases rfl rfl rfl (fun hgd K hK => ?_) (fun hgd K hK => ?_) <;> (try simp only [decide_eq_true_eq, decide_eq_false_iff_not] at hgd) <;> (first | (exfalso; omega) | (go_simp; refine hK _ ?_; clear hK K))))
     all_goals (refine Lx.lex_nil ?_)
     go_wp2_with fail
     go_roundw
     case rel => exact ⟨k + 1, has, hlt, rfl, by go_num, HA4, HB.out.drew⟩
     case measure => simp [intOf]; omega
    | false =>
     rw [ho] at HO1
     have HV : Hid (ans = false) := Lib.hid (HA3.out.trans (if_neg (by rw [ho]; decide)))
     clear ho HA3
     go_wp2_with fail
     refine Lx.region (C := fun _ => True) (hs := []) (by kernel_rfl) (by kernel_rfl) trivial ?_
     repeat' (first | ((first | refine Lx.ln (fun K hK => ?_) | (first | (refine Lx.lp (v := ?_) ?_ (fun K hK => ?_); rotate_left 1; intro w' hCw; try dsimp only at hCw) | (refine Lx.lr (v := ?_) ?_ (fun K hK => ?_); rotate_left 1)); go_simp; first | done | with_reducible rfl); go_simp; refine hK _ ?_; clear hK K) | (refine Lx.le (fun K hK => ?_); go_simp; (first | (go_at_call 149; refine HO1.out.mono ?_; rintro e W6 ⟨rfl, rfl⟩) | skip); refine hK _ _ (trivial) ?_; clear hK K) | (refine Lx.lex_cases rfl rfl rfl (fun hgd K hK => ?_) (fun hgd K hK => ?_) <;> (try simp only [decide_eq_true_eq, decide_eq_false_iff_not] at hgd) <;> (first | (exfalso; omega) | (go_simp; refine hK _ ?_; clear hK K))))
     all_goals (refine Lx.lex_nil ?_)
     go_wp2_with fail
     go_ret
     exact ⟨ret_bool HV.out.symm, HB.out.drew⟩
  ·obtain rfl : k = m := by omega
   have j0 : ¬ (k : Int) < (k : Int) := by omega
   have HV : Hid (ans = has) := Lib.hid (by rw [HA.out, drop_end (by rw [Hlen.out]; exact Nat.le_refl _)]; unfold ngGo; rfl)
   clear hB HA
   go_wp2_with fail
   go_ret
   exact ⟨ret_bool HV.out.symm, HB.out⟩
theorem nremoves_any (s : PrbS) (B : Option Addr) (m cb : Nat) (A : Option Addr) (n cp : Nat) (st c : Int) (w : World) (ds : List Dom) (r : Rul) (hr : VPr ds r) (h : PrbAt w w.heap.size s ds r) (D : List Dom) (L : List Lem) (hn : n ≤ 9223372036854775807) (hD : DomsAt w w.heap.size A n D) (hd : ∀ d ∈ D, d.len ≤ 9223372036854775807) (hc : 2 ≤ c ∧ c ≤ 51) (hm : m ≤ 100000) (hL : RowX 1 lemC w (fun _ => True) B m L) (hl : ∀ x ∈ L, x.At w (fun _ => True)) :
  Calls Tryz.prog 145 #[s.val, .slice B m cb, .slice A n cp, .int .i64 st, .int .i64 c] w (RetPost (.bool (remN r (L.map Lem.chs) (D.map Dom.say) st c)) w.heap.size w) := by
 obtain ⟨p0, hp0⟩ : ∃ q, q = w.heap.size := ⟨_, rfl⟩
 obtain ⟨V0, hV0⟩ : ∃ V, V = w.alloc (.cells #[.slice s.ad s.nd s.cd, .slice s.rs.a0 s.rs.n0 s.rs.c0, .slice s.rs.a1 s.rs.n1 s.rs.c1, .slice s.rs.a2 s.rs.n2 s.rs.c2] 29) := ⟨_, rfl⟩
 have hP0 : Hp w w V0 [.blk p0 29 [.slice s.ad s.nd s.cd, .slice s.rs.a0 s.rs.n0 s.rs.c0, .slice s.rs.a1 s.rs.n1 s.rs.c1, .slice s.rs.a2 s.rs.n2 s.rs.c2]] [] := by
  have h := (Hp.start w).alloc [.slice s.ad s.nd s.cd, .slice s.rs.a0 s.rs.n0 s.rs.c0, .slice s.rs.a1 s.rs.n1 s.rs.c1, .slice s.rs.a2 s.rs.n2 s.rs.c2] 29
  rw [hV0, hp0]; exact h
 have hng := fun (x : Lem) (hx : x ∈ L) (W : World) (hb : Below w.heap.size w W) => byng_any A n cp x.adr x.len x.cap st c W D x.chs hn (hD.keep hb) hd (hl x hx).2 ((hl x hx).keep hb).rowS
 have hrm := fun (W : World) (hb : Below w.heap.size w W) => rremoves_any s A n cp st c W ds r hr ⟨h.1.keep hb, h.2.keep hb⟩ D hn (hD.keep hb) hd hc
 unfold PrbS.val at hrm
 have HNG := Lib.hid hng
 have HRM := Lib.hid hrm
 have HXS := Lib.hid (fun (W : World) (hb : Below w.heap.size w W) => hL.keep (by decide) hb)
 have Hlen := Eqn.mk hL.1
 obtain ⟨ans, hans⟩ : ∃ a, a = remN r (L.map Lem.chs) (D.map Dom.say) st c := ⟨_, rfl⟩
 rw [← hans]
 unfold remN at hans
 rw [List.any_map] at hans
 have HF := Eqn.mk hans
 have HP0 := Lib.hid hP0
 unfold PrbS.val
 generalize D.map Dom.say = DS at *
 clear hP0 h hr hD hd hc hL hl hans hng hrm
 go_enter Tryz.func145, Tryz.ntmps145
 go_upto_region 1 with fail
 rw [← hV0, ← hp0]
 clear hV0 hp0
 go_wp2_with fail
 go_loopw [11] (fun i wr => ∃ k : Nat, k ≤ m ∧ i = .int .i64 k ∧ (L.take k).any ((fun g => ngGo DS st c false g) ∘ Lem.chs) = false ∧ Hp w w wr [.blk p0 29 [.slice s.ad s.nd s.cd, .slice s.rs.a0 s.rs.n0 s.rs.c0, .slice s.rs.a1 s.rs.n1 s.rs.c1, .slice s.rs.a2 s.rs.n2 s.rs.c2]] []) (fun i _ => m - (intOf i).toNat)
 case atStart => exact ⟨0, Nat.zero_le _, rfl, rfl, HP0.out⟩
 case round =>
  clear HP0
  obtain ⟨k, hk, rfl, hany, hP⟩ := hrel
  have HP := Lib.hid hP
  have HAN := Lib.hid hany
  clear hany
  by_cases hlt : k < m
  ·have j0 : (k : Int) < (m : Int) := by omega
   obtain ⟨x, hx⟩ : ∃ x, L[k]? = some x := ⟨_, List.getElem?_eq_getElem (by rw [Hlen.out]; exact hlt)⟩
   obtain ⟨b, off, rfl, _, hc⟩ := (HXS.out wr hP.below).2 (by omega)
   have y0 : wr.cell? ⟨b, off + k, none⟩ = some (.slice x.adr x.len x.cap) := by have := hc k x hx 0 (by decide); rwa [Nat.mul_one, Nat.add_zero] at this
   have HG := Lib.hid (HNG.out x (List.mem_of_getElem? hx) wr hP.below)
   have HYES : Hid (ngGo DS st c false x.chs = true → ans = true) := Lib.hid (fun h => by rw [HF.out, Bool.or_eq_true]; exact .inl (any_yes hx h))
   have HNO : Hid (ngGo DS st c false x.chs = false → (L.take (k + 1)).any ((fun g => ngGo DS st c false g) ∘ Lem.chs) = false) := Lib.hid (fun h => any_take hx HAN.out h)
   clear hc hx hP HAN HF
   cases hg : ngGo DS st c false x.chs with
   | true =>
    rw [hg] at HG
    have HV := Lib.hid (HYES.out hg)
    clear hg HYES HNO
    go_wp2_with fail
    refine HG.out.mono ?_
    rintro e W6 ⟨rfl, hb6⟩
    have HB6 := Lib.hid (HP.out.keep hb6).below
    clear hb6
    go_wp2_with fail
    go_ret
    exact ⟨ret_bool HV.out.symm, HB6.out⟩
   | false =>
    rw [hg] at HG
    have HN := Lib.hid (HNO.out hg)
    clear hg HYES HNO
    go_wp2_with fail
    refine HG.out.mono ?_
    rintro e W6 ⟨rfl, hb6⟩
    have HPZ := Lib.hid (HP.out.keep hb6)
    clear hb6 HP
    go_wp2_with fail
    go_roundw
    case rel => exact ⟨k + 1, hlt, by go_num, HN.out, HPZ.out⟩
    case measure => simp [intOf]; omega
  ·obtain rfl : k = m := by omega
   have j0 : ¬ (k : Int) < (k : Int) := by omega
   have HV : Hid (remF r DS st c = ans) := Lib.hid (by
    have h := HAN.out
    rw [List.take_of_length_le (by rw [Hlen.out]; exact Nat.le_refl _)] at h
    rw [HF.out, h, Bool.false_or])
   have hrm := HRM.out wr hP.below
   rw [HV.out] at hrm
   have HR := Lib.hid hrm
   have q0 := HP.out.c 0 0 rfl rfl
   have q1 := HP.out.c 0 1 rfl rfl
   have q2 := HP.out.c 0 2 rfl rfl
   have q3 := HP.out.c 0 3 rfl rfl
   have ql := HP.out.lt 0 rfl
   clear hP HAN HF hrm HV
   go_wp2_with fail
   refine HR.out.mono ?_
   rintro e W6 ⟨rfl, hb6⟩
   have HB6 := Lib.hid (HP.out.keep hb6).below
   clear hb6
   go_wp2_with fail
   go_ret
   exact ⟨rfl, HB6.out⟩
end Go.Proofs.YtdpbbhbegehcjaaGreatDoor

namespace Go.Proofs.YtdpbbhbegehcjaaGreatDoor
open Go.RowKit
namespace Lx
section
variable {P : Program} {ops : Array Oper} {C : World → Prop} {hs : List Nat}
def eff (ops : Array Oper) (hs : List Nat) (i : Nat) : Bool := match ops[i]? with | some o => kind hs i o == 2 | none => false
def plainE (o : Oper) : Bool := match o.op with
 | .alloc .. | .box .. | .buildSlice .. | .store .. | .makeSlice .. | .makeMap .. | .mapUpdate .. | .insert .. => true
 | _ => false
def relA (ops : Array Oper) (hs : List Nat) (M : List Nat) (i j : Nat) : Bool :=
 ((M.getD j 0).testBit i || pair ops hs i j || (eff ops hs i && eff ops hs j)) && (match ops[i]? with | some o => o.after.all fun e => !Region.binds .any e || e.on != j | none => true)
theorem run_pure_bind {α : Type} {m : Sem α} {f : α → Next} {w w' : World} {x : Next} (h : (m >>= fun a => pure (f a)).run P w = .ok x w') : ∃ a, x = f a := by
 rw [Sem.run_bind] at h
 cases hm : m.run P w with
 | ok a w1 => rw [hm] at h; simp only [Result.andThen_ok, Sem.run_pure] at h; injection h with h1 h2; exact ⟨a, h1.symm⟩
 | halt y w1 => rw [hm] at h; cases h
theorem plain_not {o : Oper} (ho : plainE o = true) {ρ : Operand → Value} {w w' : World} {x : Next} (h : (execOp ρ o).run P w = .ok x w') : (∃ v, x = .value v) ∨ x = .skip := by
 unfold plainE at ho
 unfold execOp at h
 split at ho <;> simp_all only [] <;>
  first
   | (obtain ⟨a, rfl⟩ := run_pure_bind (f := fun v => Next.value v) h; exact .inl ⟨_, rfl⟩)
   | (obtain ⟨a, rfl⟩ := run_pure_bind (f := fun _ => Next.skip) h; exact .inr rfl)
   | cases ho
theorem wp_all {o : Oper} (ho : plainE o = true) {a : Act} {w : World} {I : Type} {S : I → Prop} {K : I → Act → World → Prop} (i0 : I) (h0 : S i0) (h : ∀ i, S i → o.wp P a w (K i) NoQ) : o.wp P a w (fun a' w' => ∀ i, S i → K i a' w') NoQ := by
 have hp := fun w' x => plain_not (P := P) ho (ρ := a.eval) (w := w) (w' := w') (x := x)
 unfold Oper.wp at *
 generalize (execOp a.eval o).run P w = r at *
 cases r with
 | ok n w' =>
  rcases hp w' n rfl with ⟨v, rfl⟩ | rfl
  ·exact fun i hi => h i hi
  ·exact fun i hi => h i hi
 | halt x w' =>
  have := h i0 h0
  cases x <;> simp only [Oper.upon] at this <;> first | exact this.elim | exact absurd this id
theorem step_all {j : Nat} {oj : Oper} {a : Act} {w : World} {I : Type} {S : I → Prop} {K : I → Act → World → Prop} (i0 : I) (h0 : S i0) (hC : C w) (hk : kind hs j oj ≠ 2 ∨ plainE oj = true) (h : ∀ i, S i → step P ops C hs j oj (K i) a w) : step P ops C hs j oj (fun a w => ∀ i, S i → K i a w) a w := by
 unfold step at *
 split
 ·rename_i hw
  have h' : ∀ i, S i → (kind hs j oj = 0 ∧ ∃ v, (∀ w', C w' → (execOp a.eval oj).run P w' = .ok (.value v) w') ∧ K i (a.put oj.dst v) w) ∨ (kind hs j oj = 1 ∧ ∃ v, (execOp a.eval oj).run P w = .ok (.value v) w ∧ K i (a.put oj.dst v) w) ∨ (kind hs j oj = 2 ∧ oj.wp P a w (fun a' w' => C w' ∧ K i a' w') NoQ) := fun i hi => by
   have := h i hi; rw [if_pos hw] at this; exact this
  rcases h' i0 h0 with ⟨k0, v, h1, _⟩ | ⟨k0, v, h1, _⟩ | ⟨k0, h1⟩
  ·refine .inl ⟨k0, v, h1, fun i hi => ?_⟩
   rcases h' i hi with ⟨_, v', h1', h2'⟩ | ⟨k1, _⟩ | ⟨k1, _⟩
   ·have := (h1 w hC).symm.trans (h1' w hC)
    injection this with this _
    injection this with this
    subst this
    exact h2'
   ·omega
   ·omega
  ·refine .inr (.inl ⟨k0, v, h1, fun i hi => ?_⟩)
   rcases h' i hi with ⟨k1, _⟩ | ⟨_, v', h1', h2'⟩ | ⟨k1, _⟩
   ·omega
   ·have := h1.symm.trans h1'
    injection this with this _
    injection this with this
    subst this
    exact h2'
   ·omega
  ·have hp : plainE oj = true := by
    rcases hk with hk | hk
    ·exact absurd k0 hk
    ·exact hk
   refine .inr (.inr ⟨k0, ?_⟩)
   have := wp_all (P := P) hp (a := a) (w := w) (S := S) (K := fun i a' w' => C w' ∧ K i a' w') i0 h0 (fun i hi => by
    rcases h' i hi with ⟨k1, _⟩ | ⟨k1, _⟩ | ⟨_, hh⟩
    ·omega
    ·omega
    ·exact hh)
   exact Oper.wp_mono (fun a' w' hh => ⟨(hh i0 h0).1, fun i hi => (hh i hi).2⟩) this
 ·rename_i hw
  intro i hi
  have := h i hi
  rw [if_neg hw] at this
  exact this
theorem relA_pair {i j : Nat} (h : relA ops hs (masks ops.toList []) i j = true) {listed : Array Bool} (hD : Down ops listed) {oj : Oper} (hoj : ops[j]? = some oj) (hjr : ∀ e ∈ oj.after, Region.binds .any e = true → listed.getD e.on false = true) (hi : listed.getD i true = false) (hil : i < listed.size) (hne : ¬ (eff ops hs i = true ∧ eff ops hs j = true)) : pair ops hs i j = true := by
 simp only [relA, Bool.and_eq_true, Bool.or_eq_true] at h
 rcases h.1 with (h1 | h1) | h1
 ·exfalso
  have hl := masks_sound hD (j + 1) j oj (by omega) hoj hjr i h1
  simp only [Array.getD_eq_getD_getElem?, Array.getElem?_eq_getElem hil, Option.getD_some] at hl hi
  rw [hl] at hi
  cases hi
 ·exact h1
 ·exact absurd h1 hne
theorem head_readyA {i : Nat} {L : List Nat} {listed : Array Bool} (hsz : listed.size = ops.size) (hm : ∀ k, k ∈ i :: L ↔ k < ops.size ∧ listed.getD k true = false) (hself : ∀ (k : Nat) (o : Oper), ops[k]? = some o → ∀ e ∈ o.after, Region.binds .any e = true → e.on ≠ k ∧ e.on < ops.size)
  (hp : (i :: L).Pairwise (fun a b => relA ops hs (masks ops.toList []) a b = true)) : i ∈ Region.ready .any ops listed := by
 obtain ⟨hi1, hi2⟩ := (hm i).1 (by simp)
 have ho : ops[i]? = some ops[i] := Array.getElem?_eq_getElem hi1
 refine mem_ready.2 ⟨hi2, _, ho, fun e he hb => ?_⟩
 have hse := hself i _ ho e he hb
 have hb2 : e.on < listed.size := by omega
 cases hl : listed.getD e.on false with
 | true => rfl
 | false =>
  exfalso
  have hl' : listed.getD e.on true = false := by
   simp only [Array.getD_eq_getD_getElem?, Array.getElem?_eq_getElem hb2, Option.getD_some] at hl ⊢; exact hl
  have hmem : e.on ∈ i :: L := (hm e.on).2 ⟨hse.2, hl'⟩
  rcases List.mem_cons.1 hmem with h | h
  ·exact hse.1 h
  ·have h1 := (List.pairwise_cons.1 hp).1 e.on h
   simp only [relA, ho, Bool.and_eq_true] at h1
   have h2 := Array.all_eq_true'.1 h1.2 e he
   simp [hb] at h2
structure Ord (ops : Array Oper) (hs : List Nat) (listed : Array Bool) (L : List Nat) : Prop where
 nd : L.Nodup
 mem : ∀ i, i ∈ L ↔ i < ops.size ∧ listed.getD i true = false
 pw : L.Pairwise (fun a b => relA ops hs (masks ops.toList []) a b = true)
theorem Ord.rest {listed : Array Bool} {L : List Nat} {j : Nat} (h : Ord ops hs listed L) (hj : j ∈ L) : Ord ops hs (listed.setIfInBounds j true) (L.erase j) := by
 obtain ⟨pre, post, rfl⟩ := List.append_of_mem hj
 have hnj : j ∉ pre := by
  have := (List.nodup_append.1 h.nd).2.2
  intro hh
  exact this j hh j (by simp) rfl
 have e : (pre ++ j :: post).erase j = pre ++ post := by
  rw [List.erase_append_right _ hnj, List.erase_cons_head]
 rw [e]
 exact ⟨drop_mid h.nd, mem_rest h.nd h.mem, drop_mid h.pw⟩
theorem erase_filter {p : Nat → Bool} {j : Nat} : ∀ {L : List Nat}, p j = false → (L.erase j).filter p = L.filter p := by
 intro L
 induction L with
 | nil => intro _; rfl
 | cons i L ih =>
  intro hp
  by_cases e : i = j
  ·subst e
   rw [List.erase_cons_head, List.filter_cons_of_neg (by simp [hp])]
  ·rw [List.erase_cons_tail (by simpa using e)]
   by_cases hi : p i = true
   ·rw [List.filter_cons_of_pos hi, List.filter_cons_of_pos hi, ih hp]
   ·rw [List.filter_cons_of_neg hi, List.filter_cons_of_neg hi, ih hp]
end
section
variable {P : Program} {ops : Array Oper} {C : World → Prop} {hs : List Nat} {Q : Act → World → Prop} {k : Nat} {o : Oper} {r : List (Nat × Oper)} {a : Act} {w : World}
end
end Lx
end Go.Proofs.YtdpbbhbegehcjaaGreatDoor
