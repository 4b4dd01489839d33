/- The reference of layer 21: Propagate, Run, Follows. -/
import Derived.Deep.LoopGhost
import Derived.Test.YtdpbbhbegehcjaaGreatDoorHol22
import Derived.Test.YtdpbbhbegehcjaaGreatDoorHol23
import Derived.Test.YtdpbbhbegehcjaaGreatDoorHol25
import Derived.Test.YtdpbbhbegehcjaaGreatDoorHol26
set_option maxRecDepth 100000
set_option maxHeartbeats 4000000
namespace Go.Proofs.YtdpbbhbegehcjaaGreatDoor
open Go.RowKit Go.Shelf
def domEnts (E : List Dom) : List Ent := E.map fun d => .row (.slice d.adr d.len d.cap) 3 1 d.len (d.chs.map intV)
theorem domEnts_snoc (E : List Dom) (d : Dom) : domEnts (E ++ [d]) = domEnts E ++ [.row (.slice d.adr d.len d.cap) 3 1 d.len (d.chs.map intV)] := by simp [domEnts]
theorem doms_own {w u W : World} {ds : List Nat} {E : List Dom} {A : Option Addr} {c : Nat} (h : Hp w u W (.row (.slice A E.length c) 78 2 E.length (flat 2 Dom.cell E) :: domEnts E) ds) : DomsAt W W.heap.size A E.length E :=
 ⟨rowS_own (by decide) (h.row 0 rfl), fun d hd => by
  have h1 : Ent.holds w.heap.size W (.row (.slice d.adr d.len d.cap) 3 1 d.len (d.chs.map intV)) := h.all _ (List.mem_cons_of_mem _ (List.mem_map.2 ⟨d, hd, rfl⟩))
  exact row1_own h1⟩
theorem Lx.lexO_append_rowR {P : Program} {ops : Array Oper} {C : World → Prop} {hs : List Nat} {Q : Act → World → Prop} {k : Nat} {o : Oper} {r : Lx.TrO} {a : Act} {w : World} (hk : Lx.kind hs k o = 2) (hgd : o.guard = none) (s x : Operand) (t : TypeId)
  (ho : o.op = .call { callee := .builtin .append, args := #[s, x], argTypes := #[t, t] })
  {α : Type} {sz : Nat} {f : α → Nat → Value} (hsz : 0 < sz) (hf : ∀ a j, j < sz → (f a j).oneCell' = true) (base : Nat) (e : TypeId) (i : TypeInfo) (z : Value) (bytes : Nat) (ht : P.underlying t = some (.slice e)) (hi : P.info? e = some i) (hz : i.zero = some z)
  (hsize : i.size = sz) (hby : i.bytes = bytes) (hzs : z.cells.size = sz)
  (v : Value) (n : Nat) (xs : List Value) (hsv : a.eval s = v) (hown : w.ownsRow base e sz v n xs)
  (A : Option Addr) (m c : Nat) (ys : List α) (D : Nat) (hx : a.eval x = .slice A m c) (hy : RowS sz f w D A m ys)
  (h63 : n + m ≤ maxLen) (hbytes : (n + m) * bytes ≤ 140737488355328) (hbase : base ≤ w.heap.size)
  (h : ∀ v' w', w'.ownsRow base e sz v' (n + m) (xs ++ flat sz f ys) → w.grownBy w' v.ownBlock → (v'.ownBlock = v.ownBlock ∨ v'.ownBlock = some w.heap.size) → C w' ∧ Lx.lexO P ops C hs Q r (a.put o.dst v') w') :
  Lx.lexO P ops C hs Q (.op k o r) a w := by
 refine Lx.lexO_eff hk (Lx.w0 hgd) fun K hK => ?_
 obtain ⟨v', w', hr, h2, h3, h5⟩ := run_append_rowR (P := P) hsz hf w base t o.type e i z bytes ht hi hz hsize hby hzs v n xs hown A m c ys D hy h63 hbytes hbase
 unfold Oper.wp execOp
 simp only [ho, resolve, invoke, builtin, Sem.run_bind, Sem.run_pure, Result.andThen_ok, List.map_toArray, List.map_cons, List.map_nil, hsv, hx, hr]
 exact hK _ _ (h v' w' h2 h3 h5).1 (h v' w' h2 h3 h5).2
theorem perm_end2 (L : List Ent) (b r : Ent) : ((L ++ [b]) ++ [r]).Perm (b :: r :: L) := by rw [List.append_assoc]; exact List.perm_append_comm
def DomsOut (D : DS) (w : World) (e : Ending) (w' : World) : Prop := ∃ (A : Option Addr) (c : Nat) (E : List Dom), e = .returned (.slice A E.length c) ∧ E.map Dom.say = D ∧ DomsAt w' w'.heap.size A E.length E ∧ Below w.heap.size w w'
theorem drop_any (A : Option Addr) (n c : Nat) (st ch : Int) (w : World) (D : List Dom) (hn : n ≤ 100000) (hD : DomsAt w w.heap.size A n D) (hd : ∀ d ∈ D, d.len ≤ 100000) :
  Calls Tryz.prog 146 #[.slice A n c, .int .i64 st, .int .i64 ch] w (DomsOut (dropF (D.map Dom.say) st ch) w) := by
 obtain ⟨i0, hi, hz0, hz1, hz2⟩ := info_parts dom_info
 obtain ⟨k0, hj, hy0, hy1, hy2⟩ := info_parts int_info1
 have Hlen := Eqn.mk hD.1.1
 have HDW := Lib.hid (fun (W : World) (hb : Below w.heap.size w W) => hD.keep hb)
 have HDL := Lib.hid hd
 clear hD hd
 go_enter Tryz.func146, Tryz.ntmps146
 go_wp2_with fail
 go_loopw [7, 8] (fun v i wr => ∃ (k : Nat) (E : List Dom), k ≤ n ∧ i = .int .i64 k ∧ E.length = k ∧ E.map Dom.say = dropF ((D.take k).map Dom.say) st ch ∧ Hp w w wr (.row v 78 2 E.length (flat 2 Dom.cell E) :: domEnts E) []) (fun _ i _ => n - (intOf i).toNat)
 case atStart => exact ⟨0, [], Nat.zero_le _, rfl, rfl, rfl, (Hp.start w).nil _ 2⟩
 case round =>
  obtain ⟨k, E, hk, rfl, hEl, hE, hP⟩ := hrel
  obtain ⟨A1, c1, rfl⟩ := hP.form 0 rfl
  obtain ⟨wo, rfl⟩ : ∃ wo : World, wo = wr := ⟨_, rfl⟩
  have HP := Lib.hid hP
  have HE := Lib.hid (And.intro hEl hE)
  have hel : E.length ≤ 100000 := by omega
  by_cases hlt : k < n
  ·have j0 : (k : Int) < (n : Int) := by omega
   obtain ⟨d, hx⟩ : ∃ d, D[k]? = some d := ⟨_, List.getElem?_eq_getElem (by rw [Hlen.out]; exact hlt)⟩
   have hmem := List.mem_of_getElem? hx
   have HDK : Hid ((D.take (k + 1)).map Dom.say = (D.take k).map Dom.say ++ [d.say]) := Lib.hid (by rw [take_snoc hx, List.map_append]; rfl)
   have hdl := HDL.out d hmem
   obtain ⟨b, off, rfl, hbl, hc⟩ := (HDW.out wo hP.below).1.2 (by omega)
   have HCL := Lib.hid (fun (W : World) (hb : Below w.heap.size w W) => (by
    obtain ⟨b', off', e', hbl', hc'⟩ := (HDW.out W hb).1.2 (by omega)
    injection e' with e'
    injection e' with e1 e2
    subst e1 e2
    exact ⟨hc' k d hx 0 (by decide), hc' k d hx 1 (by decide), (HDW.out W hb).2 d hmem, hbl'⟩ : W.cell? ⟨b, off + k * 2, none⟩ = some (.int .i64 d.st) ∧ W.cell? ⟨b, off + k * 2 + 1, none⟩ = some (.slice d.adr d.len d.cap) ∧ Row1 intV W W.heap.size d.adr d.len d.chs ∧ b < W.heap.size))
   have y0 : wo.cell? ⟨b, off + k * 2, none⟩ = some (.int .i64 d.st) := hc k d hx 0 (by decide)
   have HCH := Eqn.mk ((HDW.out wo hP.below).2 d hmem).1
   obtain ⟨dst, dadr, dlen, dcap, dchs⟩ := d
   dsimp only at *
   clear hc hx hmem hEl hE
   obtain ⟨p9, hp9⟩ : ∃ q, q = wo.heap.size := ⟨_, rfl⟩
   obtain ⟨V1, hV1⟩ : ∃ V, V = wo.alloc (.cells #[.int .i64 dst, .slice none 0 0] 78) := ⟨_, rfl⟩
   obtain ⟨L0, hL0⟩ : ∃ L0, L0 = domEnts E := ⟨_, rfl⟩
   have hP1 := (hP.alloc [.int .i64 dst, .slice none 0 0] 78).nil 3 1
   rw [show ([.int .i64 dst, .slice none 0 0] : List Value).toArray = #[.int .i64 dst, .slice none 0 0] from rfl, ← hV1, ← hp9, ← hL0] at hP1
   have hP2 : Hp w w V1 ([.row (.slice A1 E.length c1) 78 2 E.length (flat 2 Dom.cell E), .blk p9 78 [.int .i64 dst, .slice none 0 0], .row (.slice none 0 0) 3 1 0 ([])] ++ L0) [] := hP1.perm (List.Perm.cons _ (perm_end2 L0 _ _))
   have HP2 := Lib.hid hP2
   have HL0 := Lib.hid hL0
   clear hP1 hP2 hL0 hP
   go_upto_region 6 with fail
   rw [← hV1, ← hp9]
   clear hV1 hp9 y0
   go_wp2_with fail
   go_loopw [10] (fun i wr => ∃ (q : Nat) (ys : List Int) (v2 : Value), q ≤ dlen ∧ i = .int .i64 q ∧ ys = (dchs.take q).filter (fun x => !(decide (dst = st) && decide (x = ch))) ∧ ys.length ≤ q ∧ Hp w w wr ([.row (.slice A1 E.length c1) 78 2 E.length (flat 2 Dom.cell E), .blk p9 78 [.int .i64 dst, v2], .row (v2) 3 1 ys.length (ys.map intV)] ++ L0) []) (fun i _ => dlen - (intOf i).toNat)
   case atStart => exact ⟨0, [], _, Nat.zero_le _, rfl, rfl, Nat.le_refl _, HP2.out⟩
   case round =>
    clear HP2
    obtain ⟨q, ys, v2, hq, rfl, hys, hyl, hPI⟩ := hrel
    obtain ⟨A2, c2, rfl⟩ := hPI.form 2 rfl
    have HPI := Lib.hid hPI
    have HYS := Lib.hid hys
    obtain ⟨y0, y1, hrow, yl⟩ := HCL.out wr hPI.below
    clear hys
    by_cases hlt2 : q < dlen
    ·have j1 : (q : Int) < (dlen : Int) := by omega
     obtain ⟨x, hx⟩ : ∃ x, dchs[q]? = some x := ⟨_, List.getElem?_eq_getElem (by rw [HCH.out]; exact hlt2)⟩
     obtain ⟨b2, o2, e2, hb2, hc2⟩ := hrow.2 (by omega)
     rw [e2] at y1
     have y2 : wr.cell? ⟨b2, o2 + q, none⟩ = some (.int .i64 x) := hc2 q x hx
     have HFK : Hid ((!(decide (dst = st) && decide (x = ch))) = true → (dchs.take (q + 1)).filter (fun x => !(decide (dst = st) && decide (x = ch))) = ys ++ [x]) := Lib.hid (fun h => by rw [take_snoc hx, List.filter_append, ← HYS.out, List.filter_cons, if_pos h]; rfl)
     have HFD : Hid ((!(decide (dst = st) && decide (x = ch))) = false → (dchs.take (q + 1)).filter (fun x => !(decide (dst = st) && decide (x = ch))) = ys) := Lib.hid (fun h => by rw [take_snoc hx, List.filter_append, ← HYS.out, List.filter_cons, h]; simp)
     have c5 := hPI.c 1 1 rfl rfl
     have l5 := hPI.lt 1 rfl
     clear hx hc2 hrow hb2 e2 hPI HYS
     by_cases h1 : dst = st
     ·have d1 : (dst != st) = false := by simp [h1]
      by_cases h2 : x = ch
      ·have d2 : (x != ch) = false := by simp [h2]
       have HN := Lib.hid (HFD.out (by rw [h1, h2]; simp))
       clear HFK HFD h1 h2 c5 l5
       go_wp2_with fail
       go_roundw
       case rel => exact ⟨q + 1, ys, _, hlt2, by go_num, HN.out.symm, Nat.le_succ_of_le hyl, HPI.out⟩
       case measure => simp [intOf]; omega
      ·have d2 : (x != ch) = true := by simpa using h2
       have HKP : (!(decide (dst = st) && decide (x = ch))) = true := by rw [decide_eq_false h2]; simp
       clear h1 h2
       have HPD := Lib.hid HPI.out.drew
       have HF2 := Lib.hid (HFK.out HKP)
       clear HFK HFD HKP
       go_wp2_with fail
       refine Lx.regionT (C := fun X => X.cell? ⟨p9, 1, none⟩ = some (.slice A2 ys.length c2)) (C' := fun _ => True) (hs := [1]) 13 (List.take 13 _) (List.drop 13 _) (List.take_append_drop 13 _).symm rfl (by kernel_rfl) (by kernel_rfl) (by kernel_rfl) c5 ?_
       simp only [List.take_succ_cons, List.take_zero, List.drop_succ_cons, List.drop_zero]
       repeat' (first | ((first | refine Lx.ln (fun K hK => ?_) | (first | (refine Lx.lp (v := ?_) ?_ (fun K hK => ?_); rotate_left 1; intro w' hCw; try dsimp only at hCw) | (refine Lx.lr (v := ?_) ?_ (fun K hK => ?_); rotate_left 1)); go_simp; first | done | with_reducible rfl); go_simp; refine hK _ ?_; clear hK K) | (refine Lx.le (fun K hK => ?_); go_simp; (first | fail | skip); refine hK _ _ ((HPI.out.drew.alloc0 _).c 1 1 rfl rfl) ?_; clear hK K))
       refine Lx.lex_append rfl rfl _ _ 31 rfl w.heap.size 3 k0 (.int .i64 0) 1 8 Tryz.underlying31 hj hy0 hy1 hy2 rfl (by decide) _ _ _ rfl ((HPD.out.row 2 rfl).alloc _) ⟨wr.heap.size, 0, none⟩ 1 1 [.int .i64 x] rfl rfl (cell_one_new _ _ _) (by simp [Value.oneCell']) (by unfold maxLen; omega) (by omega) (by have := HPD.out.below.size; simp at this ⊢; omega) ?_
       intro v' w3 hown' hgrow hor
       have hP7 := (HPD.out.alloc0 (.cells #[.int .i64 x] 3)).grow 2 rfl hgrow hown' hor
       have HP7 := Lib.hid hP7
       obtain ⟨A7, c7, rfl⟩ := hP7.form 2 rfl
       have q2 := hP7.c 1 1 rfl rfl
       have q3 := hP7.f 1 rfl
       have q4 := hP7.lt 1 rfl
       refine ⟨q2, ?_⟩
       clear hown' hgrow hor hP7 c5 y0 y1 y2 yl
       repeat' (first | ((first | refine Lx.ln (fun K hK => ?_) | (first | (refine Lx.lp (v := ?_) ?_ (fun K hK => ?_); rotate_left 1; intro w' hCw; try dsimp only at hCw) | (refine Lx.lr (v := ?_) ?_ (fun K hK => ?_); rotate_left 1)); go_simp; first | done | with_reducible rfl); go_simp; refine hK _ ?_; clear hK K) | (refine Lx.le (fun K hK => ?_); go_simp; (first | fail | skip); refine hK _ _ (q2) ?_; clear hK K))
       all_goals (refine Lx.lex_nil ?_)
       refine ⟨trivial, ?_⟩
       repeat' (first | ((first | refine Lx.ln (fun K hK => ?_) | (first | (refine Lx.lp (v := ?_) ?_ (fun K hK => ?_); rotate_left 1; intro w' hCw; try dsimp only at hCw) | (refine Lx.lr (v := ?_) ?_ (fun K hK => ?_); rotate_left 1)); go_simp; first | done | with_reducible rfl); go_simp; refine hK _ ?_; clear hK K) | (refine Lx.le (fun K hK => ?_); go_simp; (first | skip); refine hK _ _ (trivial) ?_; clear hK K))
       all_goals (refine Lx.lex_nil ?_)
       clear q2 q3 q4
       go_wp2_with fail
       go_roundw
       case rel =>
        refine ⟨q + 1, ys ++ [x], .slice A7 (ys.length + 1) c7, hlt2, by go_num, HF2.out.symm, by rw [List.length_append]; exact Nat.succ_le_succ hyl, ?_⟩
        rw [List.length_append, List.map_append]
        exact HP7.out.set 1 1 (.slice A7 (ys.length + 1) c7) rfl
       case measure => simp [intOf]; omega
     ·have d1 : (dst != st) = true := by simpa using h1
      have HKP : (!(decide (dst = st) && decide (x = ch))) = true := by rw [decide_eq_false h1]; simp
      clear h1
      have HPD := Lib.hid HPI.out.drew
      have HF2 := Lib.hid (HFK.out HKP)
      clear HFK HFD HKP
      go_wp2_with fail
      refine Lx.regionT (C := fun X => X.cell? ⟨p9, 1, none⟩ = some (.slice A2 ys.length c2)) (C' := fun _ => True) (hs := [1]) 13 (List.take 13 _) (List.drop 13 _) (List.take_append_drop 13 _).symm rfl (by kernel_rfl) (by kernel_rfl) (by kernel_rfl) c5 ?_
      simp only [List.take_succ_cons, List.take_zero, List.drop_succ_cons, List.drop_zero]
      repeat' (first | ((first | refine Lx.ln (fun K hK => ?_) | (first | (refine Lx.lp (v := ?_) ?_ (fun K hK => ?_); rotate_left 1; intro w' hCw; try dsimp only at hCw) | (refine Lx.lr (v := ?_) ?_ (fun K hK => ?_); rotate_left 1)); go_simp; first | done | with_reducible rfl); go_simp; refine hK _ ?_; clear hK K) | (refine Lx.le (fun K hK => ?_); go_simp; (first | fail | skip); refine hK _ _ ((HPI.out.drew.alloc0 _).c 1 1 rfl rfl) ?_; clear hK K))
      refine Lx.lex_append rfl rfl _ _ 31 rfl w.heap.size 3 k0 (.int .i64 0) 1 8 Tryz.underlying31 hj hy0 hy1 hy2 rfl (by decide) _ _ _ rfl ((HPD.out.row 2 rfl).alloc _) ⟨wr.heap.size, 0, none⟩ 1 1 [.int .i64 x] rfl rfl (cell_one_new _ _ _) (by simp [Value.oneCell']) (by unfold maxLen; omega) (by omega) (by have := HPD.out.below.size; simp at this ⊢; omega) ?_
      intro v' w3 hown' hgrow hor
      have hP7 := (HPD.out.alloc0 (.cells #[.int .i64 x] 3)).grow 2 rfl hgrow hown' hor
      have HP7 := Lib.hid hP7
      obtain ⟨A7, c7, rfl⟩ := hP7.form 2 rfl
      have q2 := hP7.c 1 1 rfl rfl
      have q3 := hP7.f 1 rfl
      have q4 := hP7.lt 1 rfl
      refine ⟨q2, ?_⟩
      clear hown' hgrow hor hP7 c5 y0 y1 y2 yl
      repeat' (first | ((first | refine Lx.ln (fun K hK => ?_) | (first | (refine Lx.lp (v := ?_) ?_ (fun K hK => ?_); rotate_left 1; intro w' hCw; try dsimp only at hCw) | (refine Lx.lr (v := ?_) ?_ (fun K hK => ?_); rotate_left 1)); go_simp; first | done | with_reducible rfl); go_simp; refine hK _ ?_; clear hK K) | (refine Lx.le (fun K hK => ?_); go_simp; (first | fail | skip); refine hK _ _ (q2) ?_; clear hK K))
      all_goals (refine Lx.lex_nil ?_)
      refine ⟨trivial, ?_⟩
      repeat' (first | ((first | refine Lx.ln (fun K hK => ?_) | (first | (refine Lx.lp (v := ?_) ?_ (fun K hK => ?_); rotate_left 1; intro w' hCw; try dsimp only at hCw) | (refine Lx.lr (v := ?_) ?_ (fun K hK => ?_); rotate_left 1)); go_simp; first | done | with_reducible rfl); go_simp; refine hK _ ?_; clear hK K) | (refine Lx.le (fun K hK => ?_); go_simp; (first | skip); refine hK _ _ (trivial) ?_; clear hK K))
      all_goals (refine Lx.lex_nil ?_)
      clear q2 q3 q4
      go_wp2_with fail
      go_roundw
      case rel =>
       refine ⟨q + 1, ys ++ [x], .slice A7 (ys.length + 1) c7, hlt2, by go_num, HF2.out.symm, by rw [List.length_append]; exact Nat.succ_le_succ hyl, ?_⟩
       rw [List.length_append, List.map_append]
       exact HP7.out.set 1 1 (.slice A7 (ys.length + 1) c7) rfl
      case measure => simp [intOf]; omega
    ·obtain rfl : q = dlen := by omega
     have j1 : ¬ (q : Int) < (q : Int) := by omega
     have HYD : Hid (ys = dchs.filter (fun x => !(decide (dst = st) && decide (x = ch)))) := Lib.hid (by rw [HYS.out, List.take_of_length_le (by rw [HCH.out]; exact Nat.le_refl _)])
     clear hrow hPI HYS
     have q0 := HPI.out.c 1 0 rfl rfl
     have q1 := HPI.out.c 1 1 rfl rfl
     have ql := HPI.out.lt 1 rfl
     go_wp2_with (at_builtin; refine wpList_append_own_at _ rfl _ _ 22 rfl w.heap.size 78 i0 (.agg #[.int .i64 0, .slice none 0 0]) 2 32 Tryz.underlying22 hi hz0 hz1 hz2 rfl (by decide) _ _ _ rfl ((HPI.out.row 0 rfl).alloc _) ⟨wr.heap.size, 0, none⟩ 1 1 [.int .i64 dst, .slice A2 ys.length c2] rfl rfl (cells_newR wr [.int .i64 dst, .slice A2 ys.length c2] 78) (by simp [Value.oneCell']) (by unfold maxLen; omega) (by omega) (by have := HPI.out.below.size; simp; omega) ?_; intro v6 w6 hown' hgrow _ hat; have HP6 := Lib.hid ((HPI.out.alloc0 _).grow 0 rfl hgrow hown' hat); obtain ⟨A6, cp6, rfl⟩ := HP6.out.form 0 rfl; clear hown' hgrow hat)
     go_roundw
     case rel =>
      refine ⟨k + 1, E ++ [⟨dst, A2, ys.length, c2, ys⟩], hlt, by go_num, by rw [List.length_append, HE.out.1]; rfl, ?_, ?_⟩
      ·rw [HDK.out, List.map_append, HE.out.2]
       show dropF _ st ch ++ [(dst, ys)] = _; unfold dropF; rw [List.map_append]; simp only [List.map_cons, List.map_nil]; rw [HYD.out]; rfl
      ·rw [domEnts_snoc, ← HL0.out, List.length_append, flat_snoc]
       exact (HP6.out.sub (List.Sublist.cons_cons _ (List.Sublist.cons _ (List.Sublist.refl _)))).perm (List.Perm.cons _ (List.perm_append_comm (l₁ := [_])))
     case measure => simp [intOf]; omega
  ·obtain rfl : k = n := by omega
   have j0 : ¬ (k : Int) < (k : Int) := by omega
   have HV := Lib.hid HE.out.2
   rw [List.take_of_length_le (by rw [Hlen.out]; exact Nat.le_refl _)] at HV
   clear hP hEl hE
   go_wp2_with fail
   go_ret
   exact ⟨A1, c1, E, rfl, HV.out, doms_own HP.out, HP.out.below⟩
theorem keep_any (A : Option Addr) (n c : Nat) (st ch : Int) (w : World) (D : List Dom) (hn : n ≤ 100000) (hD : DomsAt w w.heap.size A n D) (hd : ∀ d ∈ D, d.len ≤ 100000) :
  Calls Tryz.prog 139 #[.slice A n c, .int .i64 st, .int .i64 ch] w (DomsOut (keepF (D.map Dom.say) st ch) w) := by
 obtain ⟨i0, hi, hz0, hz1, hz2⟩ := info_parts dom_info
 obtain ⟨k0, hj, hy0, hy1, hy2⟩ := info_parts int_info1
 have Hlen := Eqn.mk hD.1.1
 have HDW := Lib.hid (fun (W : World) (hb : Below w.heap.size w W) => hD.keep hb)
 have HDL := Lib.hid hd
 clear hD hd
 go_enter Tryz.func139, Tryz.ntmps139
 go_wp2_with fail
 go_loopw [7, 8] (fun v i wr => ∃ (k : Nat) (E : List Dom), k ≤ n ∧ i = .int .i64 k ∧ E.length = k ∧ E.map Dom.say = keepF ((D.take k).map Dom.say) st ch ∧ Hp w w wr (.row v 78 2 E.length (flat 2 Dom.cell E) :: domEnts E) []) (fun _ i _ => n - (intOf i).toNat)
 case atStart => exact ⟨0, [], Nat.zero_le _, rfl, rfl, rfl, (Hp.start w).nil _ 2⟩
 case round =>
  obtain ⟨k, E, hk, rfl, hEl, hE, hP⟩ := hrel
  obtain ⟨A1, c1, rfl⟩ := hP.form 0 rfl
  obtain ⟨wo, rfl⟩ : ∃ wo : World, wo = wr := ⟨_, rfl⟩
  have HP := Lib.hid hP
  have HE := Lib.hid (And.intro hEl hE)
  have hel : E.length ≤ 100000 := by omega
  by_cases hlt : k < n
  ·have j0 : (k : Int) < (n : Int) := by omega
   obtain ⟨d, hx⟩ : ∃ d, D[k]? = some d := ⟨_, List.getElem?_eq_getElem (by rw [Hlen.out]; exact hlt)⟩
   have hmem := List.mem_of_getElem? hx
   have HDK : Hid ((D.take (k + 1)).map Dom.say = (D.take k).map Dom.say ++ [d.say]) := Lib.hid (by rw [take_snoc hx, List.map_append]; rfl)
   have hdl := HDL.out d hmem
   obtain ⟨b, off, rfl, hbl, hc⟩ := (HDW.out wo hP.below).1.2 (by omega)
   have HCL := Lib.hid (fun (W : World) (hb : Below w.heap.size w W) => (by
    obtain ⟨b', off', e', hbl', hc'⟩ := (HDW.out W hb).1.2 (by omega)
    injection e' with e'
    injection e' with e1 e2
    subst e1 e2
    exact ⟨hc' k d hx 0 (by decide), hc' k d hx 1 (by decide), (HDW.out W hb).2 d hmem, hbl'⟩ : W.cell? ⟨b, off + k * 2, none⟩ = some (.int .i64 d.st) ∧ W.cell? ⟨b, off + k * 2 + 1, none⟩ = some (.slice d.adr d.len d.cap) ∧ Row1 intV W W.heap.size d.adr d.len d.chs ∧ b < W.heap.size))
   have y0 : wo.cell? ⟨b, off + k * 2, none⟩ = some (.int .i64 d.st) := hc k d hx 0 (by decide)
   have HCH := Eqn.mk ((HDW.out wo hP.below).2 d hmem).1
   obtain ⟨dst, dadr, dlen, dcap, dchs⟩ := d
   dsimp only at *
   clear hc hx hmem hEl hE
   have y1 : wo.cell? ⟨b, off + k * 2 + 1, none⟩ = some (.slice dadr dlen dcap) := (HCL.out wo hP.below).2.1
   have HROW := Lib.hid (HCL.out wo.drew hP.below.drew).2.2.1
   have HY0 := Lib.hid (fun (W : World) (hb : Below w.heap.size w W) => And.intro (HCL.out W hb).1 (HCL.out W hb).2.1)
   obtain ⟨L0, hL0⟩ : ∃ L0, L0 = domEnts E := ⟨_, rfl⟩
   rw [← hL0] at hP
   have HP := Lib.hid hP
   have HL0 := Lib.hid hL0
   clear hP hL0
   go_upto_region 5 with fail
   go_cut [9] from 16 to 28 (fun s9 wx => ∃ (p9 : Nat) (vK : Option Addr) (cK : Nat), s9 = .pointer (some ⟨p9, 0, none⟩) ∧ Hp w w wx ([.row (.slice A1 E.length c1) 78 2 E.length (flat 2 Dom.cell E), .blk p9 78 [.int .i64 dst, .slice vK dlen cK], .row (.slice vK dlen cK) 3 1 dlen (dchs.map intV)] ++ L0) [])
   case first =>
    refine Lx.regionA (C := fun X => X.cell? ⟨b, off + k * 2, none⟩ = some (.int .i64 dst) ∧ X.cell? ⟨b, off + k * 2 + 1, none⟩ = some (.slice dadr dlen dcap)) (hs := [4, 9]) (.op 0 (.op 1 (.op 2 (.op 3 (.op 4 (.op 5 (.op 6 (.op 7 (.op 8 (.op 9 (.alt (.op 10 (.op 11 (.op 12 (.op 13 .done)))) (.op 12 (.op 10 (.op 11 (.op 13 .done))))))))))))))) (by kernel_rfl) (by kernel_rfl) ⟨y0, y1⟩ ?_
    dsimp only [Lx.numbT, List.getElem?_cons_zero, List.getElem?_cons_succ]
    repeat' (first | ((first | refine Lx.qn (fun K hK => ?_) | (first | (refine Lx.qp (v := ?_) ?_ (fun K hK => ?_); rotate_left 1; intro w' hCw; try dsimp only at hCw) | (refine Lx.qr (v := ?_) ?_ (fun K hK => ?_); rotate_left 1)); go_simp; first | done | with_reducible rfl); go_simp; refine hK _ ?_; clear hK K) | (refine Lx.qe (fun K hK => ?_); go_simp; (first | fail | skip); refine hK _ _ (fail) ?_; clear hK K))
    refine Lx.lexO_alt ?_ ?_
    ·skip
     refine Lx.lexO_append_rowR rfl rfl _ _ 31 rfl (f := iC) (by decide) iC_one wo.drew.heap.size 3 k0 (.int .i64 0) 8 Tryz.underlying31 hj hy0 hy1 hy2 rfl _ 0 [] rfl (World.ownsRow_nil _ _ _ _) dadr dlen dcap dchs wo.drew.heap.size rfl (rowS_1 (HROW.out)) (by unfold maxLen; omega) (by omega) (Nat.le_refl _) ?_
     intro v6 W6 hown6 hgrow6 _
     have hb6 : Below wo.drew.heap.size wo.drew W6 := (Below.refl _ _).grown hgrow6 (Nat.le_refl _) (fun g hg => by cases hg)
     rw [Nat.zero_add, List.nil_append] at hown6
     obtain ⟨vK, cK, rfl, _⟩ := own_formS (by decide) hown6
     rw [flat_ints] at hown6
     have hP6 := HP.out.drew.pushRow hb6 hown6
     have HC6 := Lib.hid (HY0.out W6 hP6.below)
     have HC7 := Lib.hid (fun o => HY0.out _ (hP6.alloc0 o).below)
     have hP1 := hP6.alloc [.int .i64 dst, .slice vK dlen cK] 78
     have HP2 : Hid (Hp w w (W6.alloc (.cells #[.int .i64 dst, .slice vK dlen cK] 78)) ([.row (.slice A1 E.length c1) 78 2 E.length (flat 2 Dom.cell E), .blk W6.heap.size 78 [.int .i64 dst, .slice vK dlen cK], .row (.slice vK dlen cK) 3 1 dlen (dchs.map intV)] ++ L0) []) := Lib.hid ((hP1.perm (List.Perm.cons _ (perm_end2 L0 _ _))).perm (List.Perm.cons _ (List.Perm.swap _ _ _)))
     refine ⟨HC6.out, ?_⟩
     clear hown6 hgrow6 hb6 hP6 hP1
     repeat' (first | ((first | refine Lx.qn (fun K hK => ?_) | (first | (refine Lx.qp (v := ?_) ?_ (fun K hK => ?_); rotate_left 1; intro w' hCw; try dsimp only at hCw) | (refine Lx.qr (v := ?_) ?_ (fun K hK => ?_); rotate_left 1)); go_simp; first | done | with_reducible rfl); go_simp; refine hK _ ?_; clear hK K) | (refine Lx.qe (fun K hK => ?_); go_simp; (first | skip | skip); refine hK _ _ (by first | with_reducible exact HC6.out | exact HC7.out _) ?_; clear hK K))
     all_goals (refine Lx.lexO_done ?_)
     go_wp2_with fail
     go_meet
     exact ⟨_, vK, cK, rfl, HP2.out⟩
    ·skip
     have hA := (HP.out.alloc [.int .i64 0, .slice none 0 0] 78).drew
     have HA := Lib.hid hA
     have HCA := Lib.hid (HY0.out _ hA.below)
     have HRA := Lib.hid ((HCL.out _ hA.below).2.2.1)
     obtain ⟨VA, hVA⟩ : ∃ V, V = (wo.alloc (.cells #[.int .i64 0, .slice none 0 0] 78)).drew := ⟨_, rfl⟩
     rw [show ([.int .i64 0, .slice none 0 0] : List Value).toArray = #[.int .i64 0, .slice none 0 0] from rfl, ← hVA] at HA HCA HRA
     clear hA
     repeat' (first | ((first | refine Lx.qn (fun K hK => ?_) | (first | (refine Lx.qp (v := ?_) ?_ (fun K hK => ?_); rotate_left 1; intro w' hCw; try dsimp only at hCw) | (refine Lx.qr (v := ?_) ?_ (fun K hK => ?_); rotate_left 1)); go_simp; first | done | with_reducible rfl); go_simp; refine hK _ ?_; clear hK K) | (refine Lx.qe (fun K hK => ?_); go_simp; (first | skip | skip); refine hK _ _ (by rw [← hVA]; exact HCA.out) ?_; clear hK K))
     rw [← hVA]
     refine Lx.lexO_append_rowR rfl rfl _ _ 31 rfl (f := iC) (by decide) iC_one VA.heap.size 3 k0 (.int .i64 0) 8 Tryz.underlying31 hj hy0 hy1 hy2 rfl _ 0 [] rfl (World.ownsRow_nil _ _ _ _) dadr dlen dcap dchs VA.heap.size rfl (rowS_1 HRA.out) (by unfold maxLen; omega) (by omega) (Nat.le_refl _) ?_
     intro v6 W6 hown6 hgrow6 _
     have hb6 : Below VA.heap.size VA W6 := (Below.refl _ _).grown hgrow6 (Nat.le_refl _) (fun g hg => by cases hg)
     rw [Nat.zero_add, List.nil_append] at hown6
     obtain ⟨vK, cK, rfl, _⟩ := own_formS (by decide) hown6
     rw [flat_ints] at hown6
     have hB6 : Hp w w W6 ([.row (.slice A1 E.length c1) 78 2 E.length (flat 2 Dom.cell E), .blk wo.heap.size 78 [.int .i64 0, .slice none 0 0], .row (.slice vK dlen cK) 3 1 dlen (dchs.map intV)] ++ L0) [] := (HA.out.pushRow hb6 hown6).perm (List.Perm.cons _ (perm_end2 L0 _ _))
     have HX := Lib.hid ((hB6.set 1 0 (.int .i64 dst) rfl).set 1 1 (.slice vK dlen cK) rfl)
     have HC6 := Lib.hid (HY0.out W6 hB6.below)
     have a0 := hB6.c 1 0 rfl rfl
     have a1 := hB6.c 1 1 rfl rfl
     have af := hB6.f 1 rfl
     have al := hB6.lt 1 rfl
     refine ⟨HC6.out, ?_⟩
     clear hown6 hgrow6 hb6 hB6
     repeat' (first | ((first | refine Lx.qn (fun K hK => ?_) | (first | (refine Lx.qp (v := ?_) ?_ (fun K hK => ?_); rotate_left 1; intro w' hCw; try dsimp only at hCw) | (refine Lx.qr (v := ?_) ?_ (fun K hK => ?_); rotate_left 1)); go_simp; first | done | with_reducible rfl); go_simp; refine hK _ ?_; clear hK K) | (refine Lx.qe (fun K hK => ?_); go_simp; (first | skip | skip); refine hK _ _ (by first | with_reducible exact HC6.out | exact HY0.out _ HX.out.below) ?_; clear hK K))
     all_goals (refine Lx.lexO_done ?_)
     go_wp2_with fail
     go_meet
     exact ⟨_, vK, cK, rfl, HX.out⟩
   case rest =>
    obtain ⟨p9, vK, cK, rfl, hP2⟩ := hcut
    obtain ⟨V1, rfl⟩ : ∃ V1 : World, V1 = wc := ⟨_, rfl⟩
    have HP2 := Lib.hid hP2
    clear hP2 y0 y1 HROW HY0
    have a0 := HP2.out.c 1 0 rfl rfl
    have a1 := HP2.out.c 1 1 rfl rfl
    have af := HP2.out.f 1 rfl
    have al := HP2.out.lt 1 rfl
    by_cases h1 : dst = st
    ·have d1 : (dst == st) = true := by simpa using h1
     have HH1 := Lib.hid h1
     clear h1
     have hP3 : Hp w w (V1.setCell ⟨p9, 1, none⟩ (.slice none 0 0)) ([.row (.slice A1 E.length c1) 78 2 E.length (flat 2 Dom.cell E), .blk p9 78 [.int .i64 dst, .slice none 0 0]] ++ L0) [] := (HP2.out.sub (L' := [.row (.slice A1 E.length c1) 78 2 E.length (flat 2 Dom.cell E), .blk p9 78 [.int .i64 dst, .slice vK dlen cK]] ++ L0) (List.Sublist.cons_cons _ (List.Sublist.cons_cons _ (List.Sublist.cons _ (List.Sublist.refl _))))).set 1 1 (.slice none 0 0) rfl
     have HP3 := Lib.hid hP3
     obtain ⟨u0, u1, hrow, ul⟩ := HCL.out _ hP3.below
     have HHA := Lib.hid (rhas_any dadr dlen dcap ch _ dchs (by omega) hrow)
     obtain ⟨V3, hV3⟩ : ∃ V, V = V1.setCell ⟨p9, 1, none⟩ (.slice none 0 0) := ⟨_, rfl⟩
     rw [← hV3] at HP3 HHA u0 u1 ul
     clear hP3 hrow
     go_upto_region 8 with fail
     rw [← hV3]
     clear hV3 a0 a1 af al
     cases hh : hasL dchs ch with
     | true =>
      rw [hh] at HHA
      have HEQ : Hid ((if dst = st then (if hasL dchs ch = true then [ch] else []) else dchs) = [ch]) := Lib.hid (by rw [if_pos HH1.out, if_pos hh])
      clear hh
      go_wp2_with fail
      refine HHA.out.mono ?_
      rintro e W7 ⟨rfl, rfl⟩
      obtain ⟨p11, hp11⟩ : ∃ q, q = V3.heap.size := ⟨_, rfl⟩
      obtain ⟨V4, hV4⟩ : ∃ V, V = (V3.setCell ⟨p9, 1, none⟩ (.slice (some ⟨p11, 0, none⟩) 1 1)).alloc (.cells #[.int .i64 ch] 3) := ⟨_, rfl⟩
      have hsz : (V3.setCell ⟨p9, 1, none⟩ (.slice (some ⟨p11, 0, none⟩) 1 1)).heap.size = V3.heap.size := by simp
      have hP4 := ((HP3.out.set 1 1 (.slice (some ⟨p11, 0, none⟩) 1 1) rfl).alloc [.int .i64 ch] 3)
      rw [hsz] at hP4
      replace hP4 := hP4.perm (perm_in [.row (.slice A1 E.length c1) 78 2 E.length (flat 2 Dom.cell E), .blk p9 78 [.int .i64 dst, .slice (some ⟨p11, 0, none⟩) 1 1]] L0 _)
      have hP5 := hP4.toRow 2 1 1 rfl rfl (by unfold maxLen; omega)
      rw [show ([.int .i64 ch] : List Value).toArray = #[.int .i64 ch] from rfl, ← hp11, ← hV4] at hP5
      have hP6 : Hp w w V4 ([.row (.slice A1 E.length c1) 78 2 E.length (flat 2 Dom.cell E), .blk p9 78 [.int .i64 dst, .slice (some ⟨p11, 0, none⟩) 1 1], .row (.slice (some ⟨p11, 0, none⟩) 1 1) 3 1 1 ([ch].map intV)] ++ L0) [] := hP5
      have HP7 := Lib.hid hP6
      have b0 := HP3.out.c 1 0 rfl rfl
      have b1 := HP3.out.c 1 1 rfl rfl
      have bf := HP3.out.f 1 rfl
      have bl := HP3.out.lt 1 rfl
      clear hP4 hP5 hP6 HHA u0 u1 ul hsz
      go_upto_region 10 with fail
      rw [← hp11, ← hV4]
      clear hp11 hV4 b0 b1 bf bl HP3 HP2
      have q0 := HP7.out.c 1 0 rfl rfl
      have q1 := HP7.out.c 1 1 rfl rfl
      have ql := HP7.out.lt 1 rfl
      go_wp2_with (at_builtin; refine wpList_append_own_at _ rfl _ _ 22 rfl w.heap.size 78 i0 (.agg #[.int .i64 0, .slice none 0 0]) 2 32 Tryz.underlying22 hi hz0 hz1 hz2 rfl (by decide) _ _ _ rfl ((HP7.out.row 0 rfl).alloc _) ⟨V4.heap.size, 0, none⟩ 1 1 [.int .i64 dst, .slice (some ⟨p11, 0, none⟩) 1 1] rfl rfl (cells_newR V4 [.int .i64 dst, .slice (some ⟨p11, 0, none⟩) 1 1] 78) (by simp [Value.oneCell']) (by unfold maxLen; omega) (by omega) (by have := HP7.out.below.size; simp; omega) ?_; intro v6 w6 hown' hgrow _ hat; have HP6 := Lib.hid ((HP7.out.alloc0 _).grow 0 rfl hgrow hown' hat); obtain ⟨A6, cp6, rfl⟩ := HP6.out.form 0 rfl; clear hown' hgrow hat)
      go_roundw
      case rel =>
       refine ⟨k + 1, E ++ [⟨dst, (some ⟨p11, 0, none⟩), 1, 1, [ch]⟩], hlt, by go_num, by rw [List.length_append, HE.out.1]; rfl, ?_, ?_⟩
       ·rw [HDK.out, List.map_append, HE.out.2]
        show keepF _ st ch ++ [(dst, [ch])] = _; unfold keepF; rw [List.map_append]; simp only [List.map_cons, List.map_nil, Dom.say]; rw [HEQ.out]
       ·rw [domEnts_snoc, ← HL0.out, List.length_append, flat_snoc]
        exact (HP6.out.sub (List.Sublist.cons_cons _ (List.Sublist.cons _ (List.Sublist.refl _)))).perm (List.Perm.cons _ (List.perm_append_comm (l₁ := [_])))
      case measure => simp [intOf]; omega
     | false =>
      rw [hh] at HHA
      have HEQ : Hid ((if dst = st then (if hasL dchs ch = true then [ch] else []) else dchs) = []) := Lib.hid (by rw [if_pos HH1.out, if_neg (by rw [hh]; decide)])
      clear hh
      go_wp2_with fail
      refine HHA.out.mono ?_
      rintro e W7 ⟨rfl, rfl⟩
      have hP6 : Hp w w V3 ([.row (.slice A1 E.length c1) 78 2 E.length (flat 2 Dom.cell E), .blk p9 78 [.int .i64 dst, .slice none 0 0], .row (.slice none 0 0) 3 1 0 (([] : List Int).map intV)] ++ L0) [] := (HP3.out.nil 3 1).perm (perm_in [.row (.slice A1 E.length c1) 78 2 E.length (flat 2 Dom.cell E), .blk p9 78 [.int .i64 dst, .slice none 0 0]] L0 _)
      have HP7 := Lib.hid hP6
      clear hP6 HHA HP2 u0 u1 ul HP3
      have q0 := HP7.out.c 1 0 rfl rfl
      have q1 := HP7.out.c 1 1 rfl rfl
      have ql := HP7.out.lt 1 rfl
      go_wp2_with (at_builtin; refine wpList_append_own_at _ rfl _ _ 22 rfl w.heap.size 78 i0 (.agg #[.int .i64 0, .slice none 0 0]) 2 32 Tryz.underlying22 hi hz0 hz1 hz2 rfl (by decide) _ _ _ rfl ((HP7.out.row 0 rfl).alloc _) ⟨V3.heap.size, 0, none⟩ 1 1 [.int .i64 dst, .slice none 0 0] rfl rfl (cells_newR V3 [.int .i64 dst, .slice none 0 0] 78) (by simp [Value.oneCell']) (by unfold maxLen; omega) (by omega) (by have := HP7.out.below.size; simp; omega) ?_; intro v6 w6 hown' hgrow _ hat; have HP6 := Lib.hid ((HP7.out.alloc0 _).grow 0 rfl hgrow hown' hat); obtain ⟨A6, cp6, rfl⟩ := HP6.out.form 0 rfl; clear hown' hgrow hat)
      go_roundw
      case rel =>
       refine ⟨k + 1, E ++ [⟨dst, none, 0, 0, []⟩], hlt, by go_num, by rw [List.length_append, HE.out.1]; rfl, ?_, ?_⟩
       ·rw [HDK.out, List.map_append, HE.out.2]
        show keepF _ st ch ++ [(dst, [])] = _; unfold keepF; rw [List.map_append]; simp only [List.map_cons, List.map_nil, Dom.say]; rw [HEQ.out]
       ·rw [domEnts_snoc, ← HL0.out, List.length_append, flat_snoc]
        exact (HP6.out.sub (List.Sublist.cons_cons _ (List.Sublist.cons _ (List.Sublist.refl _)))).perm (List.Perm.cons _ (List.perm_append_comm (l₁ := [_])))
      case measure => simp [intOf]; omega
    ·have d1 : (dst == st) = false := by simpa using h1
     have HEQ : Hid ((if dst = st then (if hasL dchs ch = true then [ch] else []) else dchs) = dchs) := Lib.hid (if_neg h1)
     clear h1 a0 a1 af al
     have q0 := HP2.out.c 1 0 rfl rfl
     have q1 := HP2.out.c 1 1 rfl rfl
     have ql := HP2.out.lt 1 rfl
     go_wp2_with (at_builtin; refine wpList_append_own_at _ rfl _ _ 22 rfl w.heap.size 78 i0 (.agg #[.int .i64 0, .slice none 0 0]) 2 32 Tryz.underlying22 hi hz0 hz1 hz2 rfl (by decide) _ _ _ rfl ((HP2.out.row 0 rfl).alloc _) ⟨V1.heap.size, 0, none⟩ 1 1 [.int .i64 dst, .slice vK dlen cK] rfl rfl (cells_newR V1 [.int .i64 dst, .slice vK dlen cK] 78) (by simp [Value.oneCell']) (by unfold maxLen; omega) (by omega) (by have := HP2.out.below.size; simp; omega) ?_; intro v6 w6 hown' hgrow _ hat; have HP6 := Lib.hid ((HP2.out.alloc0 _).grow 0 rfl hgrow hown' hat); obtain ⟨A6, cp6, rfl⟩ := HP6.out.form 0 rfl; clear hown' hgrow hat)
     go_roundw
     case rel =>
      refine ⟨k + 1, E ++ [⟨dst, vK, dlen, cK, dchs⟩], hlt, by go_num, by rw [List.length_append, HE.out.1]; rfl, ?_, ?_⟩
      ·rw [HDK.out, List.map_append, HE.out.2]
       show keepF _ st ch ++ [(dst, dchs)] = _; unfold keepF; rw [List.map_append]; simp only [List.map_cons, List.map_nil, Dom.say]; rw [HEQ.out]
      ·rw [domEnts_snoc, ← HL0.out, List.length_append, flat_snoc]
       exact (HP6.out.sub (List.Sublist.cons_cons _ (List.Sublist.cons _ (List.Sublist.refl _)))).perm (List.Perm.cons _ (List.perm_append_comm (l₁ := [_])))
     case measure => simp [intOf]; omega
  ·obtain rfl : k = n := by omega
   have j0 : ¬ (k : Int) < (k : Int) := by omega
   have HV := Lib.hid HE.out.2
   rw [List.take_of_length_le (by rw [Hlen.out]; exact Nat.le_refl _)] at HV
   clear hP hEl hE
   go_wp2_with fail
   go_ret
   exact ⟨A1, c1, E, rfl, HV.out, doms_own HP.out, HP.out.below⟩
end Go.Proofs.YtdpbbhbegehcjaaGreatDoor

namespace Go.Proofs.YtdpbbhbegehcjaaGreatDoor
open Go.RowKit Go.Shelf Go.Deep
structure OkD (D : DS) : Prop where
 up : UpD D
 len : ∀ d ∈ D, d.2.length ≤ 50
 ch : ∀ d ∈ D, ∀ x ∈ d.2, 2 ≤ x ∧ x ≤ 51
 n : D.length ≤ 512
theorem okd_drop {D : DS} (h : OkD D) (s c : Int) : OkD (dropF D s c) := by
 refine ⟨up_drop h.up s c, fun d hd => ?_, fun d hd x hx => ?_, by rw [drop_len]; exact h.n⟩
 ·obtain ⟨e, he, rfl⟩ := List.mem_map.1 hd
  exact Nat.le_trans (List.length_filter_le _ _) (h.len e he)
 ·obtain ⟨e, he, rfl⟩ := List.mem_map.1 hd
  exact h.ch e he x (List.mem_filter.1 hx).1
theorem okd_keep {D : DS} (h : OkD D) (s c : Int) : OkD (keepF D s c) := by
 refine ⟨up_keep h.up s c, fun d hd => ?_, fun d hd x hx => ?_, by rw [keep_len]; exact h.n⟩
 ·obtain ⟨e, he, rfl⟩ := List.mem_map.1 hd
  dsimp only
  split
  ·split <;> simp
  ·exact h.len e he
 ·obtain ⟨e, he, rfl⟩ := List.mem_map.1 hd
  dsimp only at hx
  split at hx
  ·split at hx
   ·rename_i hh
    rw [List.mem_singleton] at hx
    subst hx
    rw [hasL_mem, decide_eq_true_eq] at hh
    exact h.ch e he _ hh
   ·cases hx
  ·exact h.ch e he x hx
theorem okd_start {ds : List Dom} {r : Rul} (h : VPr ds r) : OkD (ds.map Dom.say) := by
 refine ⟨fun d hd => ?_, fun d hd => ?_, fun d hd x hx => ?_, by rw [List.length_map]; exact h.sts.2.1⟩
 ·obtain ⟨e, he, rfl⟩ := List.mem_map.1 hd; exact (h.dom e he).2
 ·obtain ⟨e, he, rfl⟩ := List.mem_map.1 hd; exact h.sts.2.2.1 e he
 ·obtain ⟨e, he, rfl⟩ := List.mem_map.1 hd; exact (h.dom e he).1 x hx
theorem okd_run {D : DS} (h : OkD D) (g : Chs) : OkD (runD D g) := by
 unfold runD
 induction g generalizing D with
 | nil => exact h
 | cons x r ih => rw [List.foldl_cons]; exact ih (okd_keep h _ _)
theorem run_snoc (D : DS) (g : Chs) (x : Int × Int) : runD D (g ++ [x]) = keepF (runD D g) x.1 x.2 := by unfold runD; rw [List.foldl_append]; rfl
theorem atD_say {E : List Dom} {i : Nat} {d : Dom} (h : E[i]? = some d) : atD (E.map Dom.say) i = (d.st, d.chs) := by
 unfold atD
 rw [List.getD_eq_getElem?_getD, List.getElem?_map, h]; rfl
theorem k_yes {R : DS → Int → Int → Bool} {i k : Nat} {E : List Dom} {d : Dom} {x : Int} {b : Bool} (h : E[i]? = some d) (hx : d.chs[k]? = some x) (hr : R (E.map Dom.say) d.st x = true) : kGo R i (k + 1) (E.map Dom.say) b = kGo R i k (dropF (E.map Dom.say) d.st x) true := by
 have hg : d.chs.getD k 0 = x := by rw [List.getD_eq_getElem?_getD, hx]; rfl
 rw [kGo, atD_say h]; dsimp only; rw [hg, if_pos hr]
theorem k_no {R : DS → Int → Int → Bool} {i k : Nat} {E : List Dom} {d : Dom} {x : Int} {b : Bool} (h : E[i]? = some d) (hx : d.chs[k]? = some x) (hr : R (E.map Dom.say) d.st x = false) : kGo R i (k + 1) (E.map Dom.say) b = kGo R i k (E.map Dom.say) b := by
 have hg : d.chs.getD k 0 = x := by rw [List.getD_eq_getElem?_getD, hx]; rfl
 rw [kGo, atD_say h]; dsimp only; rw [hg, if_neg (by rw [hr]; decide)]
theorem low_drop {D : DS} {i k : Nat} {s x : Int} (h : OkD D) (hi : i < D.length) (_ : (atD D i).1 = s) (hx : (atD D i).2[k]? = some x) : k ≤ (atD (dropF D s x) i).2.length := by
 rw [atD_drop _ _ _ _ hi]
 have hk : k < (atD D i).2.length := (List.getElem?_eq_some_iff.1 hx).1
 refine filter_low (h.up _ (atD_mem hi)) hk _ (fun y hy => ?_)
 rw [List.getD_eq_getElem?_getD, hx]
 simp at hy
 exact hy.2
def NpPost (b : Bool) (w : World) (e : Ending) (w' : World) : Prop := ∃ v, e = .returned (.tuple #[v, .bool b]) ∧ Below w.heap.size w w'
structure PgD (w W : World) (p0 : Nat) (cs : List Value) (v : Value) (E : List Dom) : Prop where
 hp : Hp w w W [.blk p0 29 cs] []
 dv : ∃ A c, v = .slice A E.length c ∧ DomsAt W W.heap.size A E.length E
 ok : OkD (E.map Dom.say)
theorem PgD.keep {w W X : World} {p0 : Nat} {cs : List Value} {v : Value} {E : List Dom} (h : PgD w W p0 cs v E) (hb : Below W.heap.size W X) : PgD w X p0 cs v E :=
 ⟨h.hp.keep hb, by obtain ⟨A, c, e, hd⟩ := h.dv; exact ⟨A, c, e, hd.keep hb⟩, h.ok⟩
theorem doms_get {W : World} {A : Option Addr} {E : List Dom} (hd : DomsAt W W.heap.size A E.length E) {i : Nat} {d : Dom} (h : E[i]? = some d) : ∃ b off, A = some ⟨b, off, none⟩ ∧ b < W.heap.size ∧ W.cell? ⟨b, off + i * 2, none⟩ = some (.int .i64 d.st) ∧ W.cell? ⟨b, off + i * 2 + 1, none⟩ = some (.slice d.adr d.len d.cap) ∧ d.chs.length = d.len ∧ Row1 intV W W.heap.size d.adr d.len d.chs := by
 obtain ⟨b, off, e, hb, hc⟩ := hd.1.2 (by have := (List.getElem?_eq_some_iff.1 h).1; omega)
 have hr := hd.2 d (List.mem_of_getElem? h)
 exact ⟨b, off, e, hb, hc i d h 0 (by decide), hc i d h 1 (by decide), hr.1, hr⟩
theorem all_say' (E : List Dom) : (E.map Dom.say).all (fun d => !d.2.isEmpty) = E.all (fun d => !d.chs.isEmpty) := by rw [List.all_map]; rfl
theorem nprop_any (s : PrbS) (B : Option Addr) (m cb : Nat) (A : Option Addr) (cp : Nat) (w : World) (ds : List Dom) (r : Rul) (hr : VPr ds r) (h : PrbAt w w.heap.size s ds r) (D : List Dom) (L : List Lem) (F : Nat) (D' : DS) (hD : DomsAt w w.heap.size A D.length D) (hok : OkD (D.map Dom.say)) (hm : m ≤ 100000) (hL : RowX 1 lemC w (fun _ => True) B m L) (hl : ∀ x ∈ L, x.At w (fun _ => True)) (hpr : prGo (remN r (L.map Lem.chs)) F (D.map Dom.say) = some D') :
  Calls Tryz.prog 140 #[s.val, .slice B m cb, .slice A D.length cp] w (NpPost (fineD (L.map Lem.chs) D') w) := by
 obtain ⟨p0, hp0⟩ : ∃ q, q = w.heap.size := ⟨_, rfl⟩
 obtain ⟨V0, hV0⟩ : ∃ V, V = w.alloc (.cells #[.slice s.ad s.nd s.cd, .slice s.rs.a0 s.rs.n0 s.rs.c0, .slice s.rs.a1 s.rs.n1 s.rs.c1, .slice s.rs.a2 s.rs.n2 s.rs.c2] 29) := ⟨_, rfl⟩
 have hP0 : Hp w w V0 [.blk p0 29 [.slice s.ad s.nd s.cd, .slice s.rs.a0 s.rs.n0 s.rs.c0, .slice s.rs.a1 s.rs.n1 s.rs.c1, .slice s.rs.a2 s.rs.n2 s.rs.c2]] [] := by
  have h := (Hp.start w).alloc [.slice s.ad s.nd s.cd, .slice s.rs.a0 s.rs.n0 s.rs.c0, .slice s.rs.a1 s.rs.n1 s.rs.c1, .slice s.rs.a2 s.rs.n2 s.rs.c2] 29
  rw [hV0, hp0]; exact h
 obtain ⟨R, hR⟩ : ∃ R, R = remN r (L.map Lem.chs) := ⟨_, rfl⟩
 rw [← hR] at hpr
 have hrm := fun (A : Option Addr) (n cp : Nat) (st c : Int) (E : List Dom) (W : World) (hb : Below w.heap.size w W) (hn : n ≤ 9223372036854775807) (hE : DomsAt W W.heap.size A n E) (hd : ∀ d ∈ E, d.len ≤ 9223372036854775807) (hc : 2 ≤ c ∧ c ≤ 51) => nremoves_any s B m cb A n cp st c W ds r hr ⟨h.1.keep hb, h.2.keep hb⟩ E L hn hE hd hc hm (hL.keep (by decide) hb) (fun x hx => (hl x hx).keep hb)
 rw [← hR] at hrm
 unfold PrbS.val at hrm
 have HRM := Lib.hid hrm
 have HLX := Lib.hid (fun (W : World) (hb : Below w.heap.size w W) => hL.keep (by decide) hb)
 have HLL := Lib.hid (fun x hx => (hl x hx).1.1)
 have HLB := Lib.hid (fun x hx => (hl x hx).2)
 have Hll := Eqn.mk hL.1
 have HPR := Lib.hid hpr
 have HPG0 : Hid (PgD w V0 p0 [.slice s.ad s.nd s.cd, .slice s.rs.a0 s.rs.n0 s.rs.c0, .slice s.rs.a1 s.rs.n1 s.rs.c1, .slice s.rs.a2 s.rs.n2 s.rs.c2] (.slice A D.length cp) D) := Lib.hid ⟨hP0, ⟨A, cp, rfl, hD.keep hP0.below⟩, hok⟩
 obtain ⟨ans, hans⟩ : ∃ a, a = fineD (L.map Lem.chs) D' := ⟨_, rfl⟩
 rw [← hans]
 have HF := Eqn.mk hans
 unfold PrbS.val
 clear hP0 h hr hD hok hL hl hpr hrm hR hans
 go_enter Tryz.func140, Tryz.ntmps140
 go_upto_region 1 with fail
 rw [← hV0, ← hp0]
 clear hV0 hp0
 go_wp2_with fail
 go_loopg [2, 8] F (fun q dv ag wr => ∃ (b : Bool) (E : List Dom), ag = .bool b ∧ PgD w wr p0 [.slice s.ad s.nd s.cd, .slice s.rs.a0 s.rs.n0 s.rs.c0, .slice s.rs.a1 s.rs.n1 s.rs.c1, .slice s.rs.a2 s.rs.n2 s.rs.c2] dv E ∧ (if b = true then prGo R q (E.map Dom.say) = some D' else E.map Dom.say = D'))
 case atStart => exact ⟨true, D, rfl, HPG0.out, by rw [if_pos rfl]; exact HPR.out⟩
 case round =>
  clear HPG0 HPR
  obtain ⟨b, E, rfl, hPG, hq⟩ := hrel
  cases b with
  | true =>
   rw [if_pos rfl] at hq
   cases gk with
   | zero => exact absurd hq (by simp [prGo])
   | succ q =>
    obtain ⟨N, hN⟩ : ∃ N, N = E.length := ⟨_, rfl⟩
    obtain ⟨T, hT⟩ : ∃ T, T = iGo R N 0 (E.map Dom.say) false := ⟨_, rfl⟩
    have hq2 : (if T.2 = true then prGo R q T.1 else some T.1) = some D' := by
     rw [prGo, List.length_map, ← hN, ← hT] at hq; exact hq
    have HQ := Lib.hid hq2
    have HT := Eqn.mk hT
    have HPG := Lib.hid hPG
    have HN := Eqn.mk hN.symm
    have hn512 : N ≤ 512 := by have := hPG.ok.n; rw [List.length_map] at this; omega
    clear hq hq2 hT hPG hN
    go_wp2_with fail
    obtain ⟨wo, rfl⟩ : ∃ wo : World, wo = wr := ⟨_, rfl⟩
    go_loopg [2, 8, 9] N (fun j dv ag iv wr => ∃ (b : Bool) (E : List Dom) (i : Nat), ag = .bool b ∧ iv = .int .i64 i ∧ j + i = N ∧ E.length = N ∧ PgD w wr p0 [.slice s.ad s.nd s.cd, .slice s.rs.a0 s.rs.n0 s.rs.c0, .slice s.rs.a1 s.rs.n1 s.rs.c1, .slice s.rs.a2 s.rs.n2 s.rs.c2] dv E ∧ Eqn T (iGo R j i (E.map Dom.say) b))
    case atStart => exact ⟨false, E, 0, rfl, rfl, rfl, HN.out, HPG.out, HT⟩
    case round =>
     clear HPG HT HN
     obtain ⟨b, E, i, rfl, rfl, hji, hEN, hPG, HT⟩ := hrel
     obtain ⟨A1, c1, rfl, hdm⟩ := hPG.dv
     rw [hEN] at hdm ⊢
     have HEN := Eqn.mk hEN
     have HPG := Lib.hid hPG
     have HJI := Eqn.mk hji
     cases gk with
     | zero =>
      obtain rfl : i = N := by omega
      have j0 : ¬ (i : Int) < (i : Int) := by omega
      have hT2 : T = (E.map Dom.say, b) := HT.out
      have HT2 := Eqn.mk hT2
      clear hT2 HT hdm hPG hEN hji
      go_wp2_with fail
      go_roundg q
      case measure => omega
      case rel =>
       refine ⟨b, E, rfl, by rw [← HEN.out]; exact HPG.out, ?_⟩
       have h := HQ.out
       rw [HT2.out] at h
       dsimp only at h
       cases b with
       | true => rw [if_pos rfl] at h ⊢; exact h
       | false => rw [if_neg (by decide)] at h ⊢; exact Option.some.inj h
     | succ j =>
      have j0 : (i : Int) < (N : Int) := by omega
      obtain ⟨d, hd⟩ : ∃ d, E[i]? = some d := ⟨_, List.getElem?_eq_getElem (by omega)⟩
      rw [← hEN] at hdm
      obtain ⟨b1, o1, rfl, hb1, y0, y1, hdl, hrow⟩ := doms_get hdm hd
      obtain ⟨U, hU⟩ : ∃ U, U = kGo R i d.len (E.map Dom.say) b := ⟨_, rfl⟩
      have hT2 : T = iGo R j (i + 1) U.1 U.2 := by rw [HT.out, iGo, atD_say hd]; dsimp only; rw [hdl, ← hU]
      have HT2 := Eqn.mk hT2
      have HU := Eqn.mk hU
      have hat : (atD (E.map Dom.say) i).2.length = d.len := by rw [atD_say hd]; exact hdl
      have HAT := Eqn.mk hat
      have hdb : d.len ≤ 50 := by have := hPG.ok.len _ (atD_mem (D := E.map Dom.say) (i := i) (by rw [List.length_map]; omega)); omega
      have hw0 : IntKind.i64.wrap ((d.len : Int) - 1) = (d.len : Int) - 1 := by rw [IntKind.wrap_i64]; omega
      clear hT2 HT hdm hPG hEN hji hd hU hdl hrow hat
      go_wp2_with fail
      clear hw0 y0 y1
      obtain ⟨wi, rfl⟩ : ∃ wi : World, wi = wr := ⟨_, rfl⟩
      go_loopg [2, 8, 10] d.len (fun q2 dv ag kv wr => ∃ (b : Bool) (E : List Dom) (z : Int), ag = .bool b ∧ kv = .int .i64 z ∧ z = (q2 : Int) - 1 ∧ E.length = N ∧ PgD w wr p0 [.slice s.ad s.nd s.cd, .slice s.rs.a0 s.rs.n0 s.rs.c0, .slice s.rs.a1 s.rs.n1 s.rs.c1, .slice s.rs.a2 s.rs.n2 s.rs.c2] dv E ∧ q2 ≤ (atD (E.map Dom.say) i).2.length ∧ Eqn U (kGo R i q2 (E.map Dom.say) b))
      case atStart => exact ⟨b, E, _, rfl, rfl, rfl, HEN.out, by rw [← HEN.out]; exact HPG.out, by rw [HAT.out]; exact Nat.le_refl _, HU⟩
      case round =>
       clear HPG HU HEN HAT
       obtain ⟨b, E, z, rfl, rfl, hz, hEN, hPG, hq2, HU⟩ := hrel
       obtain ⟨A2, c2, rfl, hdm⟩ := hPG.dv
       have HEN := Eqn.mk hEN
       have HPG := Lib.hid hPG
       cases gk with
       | zero =>
        obtain rfl : z = -1 := by omega
        have hU2 : U = (E.map Dom.say, b) := HU.out
        have HU2 := Eqn.mk hU2
        rw [hEN] at HPG ⊢
        clear hU2 HU hdm hPG hEN hq2 hz
        go_wp2_with fail
        go_roundg j
        case measure => omega
        case rel => exact ⟨b, E, i + 1, rfl, by go_num, by have := HJI.out; omega, HEN.out, HPG.out, by rw [Eqn, HT2.out, HU2.out]⟩
       | succ k =>
        obtain rfl : z = (k : Int) := by omega
        obtain ⟨e, he⟩ : ∃ e, E[i]? = some e := ⟨_, List.getElem?_eq_getElem (by omega)⟩
        obtain ⟨b2, o2, rfl, hb2, y0, y1, hel, hrow⟩ := doms_get hdm he
        have hkl : k < e.len := by rw [atD_say he] at hq2; dsimp only at hq2; omega
        obtain ⟨x, hx⟩ : ∃ x, e.chs[k]? = some x := ⟨_, List.getElem?_eq_getElem (by omega)⟩
        obtain ⟨b3, o3, e3, hb3, hc3⟩ := hrow.2 (by omega)
        rw [e3] at y1
        have y2 : wr.cell? ⟨b3, o3 + k, none⟩ = some (.int .i64 x) := hc3 k x hx
        have hok := hPG.ok
        have hem : (e.st, e.chs) ∈ E.map Dom.say := List.mem_map.2 ⟨e, List.mem_of_getElem? he, rfl⟩
        have hcx := hok.ch _ hem x (List.mem_of_getElem? hx)
        have hdl : ∀ d ∈ E, d.len ≤ 50 := fun d hd => by have h1 := hok.len _ (List.mem_map.2 ⟨d, hd, rfl⟩); have h2 := (hdm.2 d hd).1; have h3 : d.say.2 = d.chs := rfl; rw [h3] at h1; omega
        have HRE := Lib.hid (HRM.out (some ⟨b2, o2, none⟩) E.length c2 e.st x E wr.drew hPG.hp.below.drew (by omega) (hdm.keep (Below.refl _ _).drew) (fun d hd => by have := hdl d hd; omega) hcx)
        have HDR := Lib.hid (fun (W : World) (hb : Below wr.drew.heap.size wr.drew W) => drop_any (some ⟨b2, o2, none⟩) E.length c2 e.st x W E (by omega) ((hdm.keep (Below.refl _ _).drew).keep hb) (fun d hd => by have := hdl d hd; omega))
        have HKY : Hid (R (E.map Dom.say) e.st x = true → U = kGo R i k (dropF (E.map Dom.say) e.st x) true) := Lib.hid (fun h => HU.out.trans (k_yes he hx h))
        have HKN : Hid (R (E.map Dom.say) e.st x = false → U = kGo R i k (E.map Dom.say) b) := Lib.hid (fun h => HU.out.trans (k_no he hx h))
        have HLD : Hid (k ≤ (atD (dropF (E.map Dom.say) e.st x) i).2.length) := Lib.hid (low_drop hok (by rw [List.length_map]; omega) (by rw [atD_say he]) (by rw [atD_say he]; exact hx))
        have HLK : Hid (k ≤ (atD (E.map Dom.say) i).2.length) := Lib.hid (by omega)
        have HPD := Lib.hid (hPG.keep (Below.refl _ _).drew)
        have hel50 := hdl e (List.mem_of_getElem? he)
        have hw1 : IntKind.i64.wrap ((k : Int) - 1) = (k : Int) - 1 := by rw [IntKind.wrap_i64]; omega
        have j1 : (0 : Int) ≤ (k : Int) := by omega
        have hkl2 : (k : Int) < (e.len : Int) := by omega
        have hil : (i : Int) < (E.length : Int) := by omega
        have q0 := HPD.out.hp.c 0 0 rfl rfl
        have q1 := HPD.out.hp.c 0 1 rfl rfl
        have q2 := HPD.out.hp.c 0 2 rfl rfl
        have q3 := HPD.out.hp.c 0 3 rfl rfl
        have ql := HPD.out.hp.lt 0 rfl
        clear hdm hrow hx he hc3 hb3 e3 hq2 hPG HU hok hem hcx hdl HPG hEN hel hz
        cases hre : R (E.map Dom.say) e.st x with
        | true =>
         rw [hre] at HRE
         have HUY := Lib.hid (HKY.out hre)
         clear hre HKY HKN HLK
         go_wp2_with fail
         refine Lx.region (C := fun _ => True) (hs := []) (by kernel_rfl) (by kernel_rfl) trivial ?_
         repeat' (first | ((first | refine Lx.ln (fun K hK => ?_) | (first | (refine Lx.lp (v := ?_) ?_ (fun K hK => ?_); rotate_left 1; intro w' hCw; try dsimp only at hCw) | (refine Lx.lr (v := ?_) ?_ (fun K hK => ?_); rotate_left 1)); go_simp; first | done | with_reducible rfl); go_simp; refine hK _ ?_; clear hK K) | (refine Lx.le (fun K hK => ?_); go_simp; (first | fail | skip); refine hK _ _ (trivial) ?_; clear hK K) | (refine Lx.lex_cases rfl rfl rfl (fun hgd K hK => ?_) (fun hgd K hK => ?_) <;> (try simp only [decide_eq_true_eq, decide_eq_false_iff_not] at hgd) <;> (first | (exfalso; omega) | (go_simp; refine hK _ ?_; clear hK K))))
         all_goals (refine Lx.lex_nil ?_)
         go_wp2_with fail
         refine HRE.out.mono ?_
         rintro e6 W6 ⟨rfl, hb6⟩
         have HP6 := Lib.hid (HPD.out.keep hb6)
         have HD6 := Lib.hid (HDR.out W6 hb6)
         clear hb6 HRE HDR HPD q0 q1 q2 q3 ql y0 y1 y2
         go_wp2_with fail
         refine HD6.out.mono ?_
         rintro e7 W7 ⟨A7, c7, E7, rfl, hs7, hd7, hb7⟩
         have HS7 := Eqn.mk hs7
         have HP7 : Hid (PgD w W7 p0 [.slice s.ad s.nd s.cd, .slice s.rs.a0 s.rs.n0 s.rs.c0, .slice s.rs.a1 s.rs.n1 s.rs.c1, .slice s.rs.a2 s.rs.n2 s.rs.c2] (.slice A7 E7.length c7) E7) := Lib.hid ⟨(HP6.out.keep hb7).hp, ⟨A7, c7, rfl, hd7⟩, by rw [hs7]; exact okd_drop HP6.out.ok _ _⟩
         have HL7 : Hid (E7.length = N) := Lib.hid (by have h := congrArg List.length hs7; rw [List.length_map, drop_len, List.length_map, HEN.out] at h; exact h)
         clear hs7 hd7 hb7 HD6 HP6
         go_wp2_with fail
         go_roundg k
         case measure => omega
         case rel => exact ⟨true, E7, _, rfl, rfl, rfl, HL7.out, HP7.out, by rw [HS7.out]; exact HLD.out, by rw [Eqn, HUY.out, HS7.out]⟩
        | false =>
         rw [hre] at HRE
         have HUN := Lib.hid (HKN.out hre)
         clear hre HKY HKN HLD HDR
         go_wp2_with fail
         refine Lx.region (C := fun _ => True) (hs := []) (by kernel_rfl) (by kernel_rfl) trivial ?_
         repeat' (first | ((first | refine Lx.ln (fun K hK => ?_) | (first | (refine Lx.lp (v := ?_) ?_ (fun K hK => ?_); rotate_left 1; intro w' hCw; try dsimp only at hCw) | (refine Lx.lr (v := ?_) ?_ (fun K hK => ?_); rotate_left 1)); go_simp; first | done | with_reducible rfl); go_simp; refine hK _ ?_; clear hK K) | (refine Lx.le (fun K hK => ?_); go_simp; (first | fail | skip); refine hK _ _ (trivial) ?_; clear hK K) | (refine Lx.lex_cases rfl rfl rfl (fun hgd K hK => ?_) (fun hgd K hK => ?_) <;> (try simp only [decide_eq_true_eq, decide_eq_false_iff_not] at hgd) <;> (first | (exfalso; omega) | (go_simp; refine hK _ ?_; clear hK K))))
         all_goals (refine Lx.lex_nil ?_)
         go_wp2_with fail
         refine HRE.out.mono ?_
         rintro e6 W6 ⟨rfl, hb6⟩
         have HP6 := Lib.hid (HPD.out.keep hb6)
         clear hb6 HRE HPD q0 q1 q2 q3 ql y0 y1 y2
         go_wp2_with fail
         go_roundg k
         case measure => omega
         case rel => exact ⟨b, E, _, rfl, rfl, rfl, HEN.out, HP6.out, HLK.out, HUN.out⟩
  | false =>
   rw [if_neg (by decide)] at hq
   obtain ⟨A1, c1, rfl, hdm⟩ := hPG.dv
   have HQ := Lib.hid hq
   have HPG := Lib.hid hPG
   have hn512 : E.length ≤ 512 := by have := hPG.ok.n; rw [List.length_map] at this; omega
   clear hq hPG hdm
   go_wp2_with fail
   obtain ⟨wo, rfl⟩ : ∃ wo : World, wo = wr := ⟨_, rfl⟩
   go_loopw [13] (fun i wr => ∃ k : Nat, k ≤ E.length ∧ i = .int .i64 k ∧ (E.take k).all (fun d => !d.chs.isEmpty) = true ∧ wo = wr) (fun i _ => E.length - (intOf i).toNat)
   case atStart => exact ⟨0, Nat.zero_le _, rfl, rfl, rfl⟩
   case round =>
    obtain ⟨k, hk, rfl, hall, rfl⟩ := hrel
    have HAL := Lib.hid hall
    clear hall
    by_cases hlt : k < E.length
    ·have j0 : (k : Int) < (E.length : Int) := by omega
     obtain ⟨d, hd⟩ : ∃ d, E[k]? = some d := ⟨_, List.getElem?_eq_getElem hlt⟩
     obtain ⟨A2, c2, e2, hdm⟩ := HPG.out.dv
     injection e2 with e2 _ e4
     subst e4
     obtain ⟨b2, o2, rfl, hb2, y0, y1, hel, hrow⟩ := doms_get hdm hd
     by_cases hz : d.len = 0
     ·have d1 : ((d.len : Int) == 0) = true := by simp [hz]
      have HV : Hid (ans = false) := Lib.hid (by
       rw [HF.out]
       unfold fineD
       rw [← HQ.out, all_say', all_no hd (by rw [List.length_eq_zero_iff.1 (hel.trans hz)]; rfl)]; rfl)
      clear hrow hel hz hdm hd hb2 HAL HF
      go_wp2_with fail
      refine bodyPost_ret (v := .tuple #[.slice none 0 0, .bool false]) (by simp [results, Tryz.results140, go_sem]) rfl ?_
      exact ⟨_, by rw [HV.out], HPG.out.hp.below⟩
     ·have d1 : ((d.len : Int) == 0) = false := by simp; omega
      have HN := Lib.hid (all_take hd HAL.out (by cases hcs : d.chs with
       | nil => rw [hcs] at hel; exact absurd hel.symm hz
       | cons => rfl))
      clear hrow hel hz hdm hd hb2 HAL HF
      go_wp2_with fail
      go_roundw
      case rel => exact ⟨k + 1, hlt, by go_num, HN.out, trivial⟩
      case measure => simp [intOf]; omega
    ·obtain rfl : k = E.length := by omega
     have j0 : ¬ (E.length : Int) < (E.length : Int) := by omega
     have HE1 : Hid (ans = (L.map Lem.chs).all (fun g => !g.isEmpty)) := Lib.hid (by
      rw [HF.out]
      unfold fineD
      have h := HAL.out
      rw [List.take_of_length_le (Nat.le_refl _)] at h
      rw [← HQ.out, all_say', h, Bool.true_and])
     clear HAL HF
     go_wp2_with fail
     go_loopw [14] (fun i wr => ∃ k : Nat, k ≤ m ∧ i = .int .i64 k ∧ (L.take k).all (fun g => !g.chs.isEmpty) = true ∧ wo = wr) (fun i _ => m - (intOf i).toNat)
     case atStart => exact ⟨0, Nat.zero_le _, rfl, rfl, rfl⟩
     case round =>
      obtain ⟨k2, hk2, rfl, hall, rfl⟩ := hrel
      have HAL := Lib.hid hall
      clear hall
      by_cases hlt2 : k2 < m
      ·have j1 : (k2 : Int) < (m : Int) := by omega
       obtain ⟨x, hx⟩ : ∃ x, L[k2]? = some x := ⟨_, List.getElem?_eq_getElem (by rw [Hll.out]; exact hlt2)⟩
       obtain ⟨b2, o2, rfl, _, hc⟩ := (HLX.out wo HPG.out.hp.below).2 (by omega)
       have y0 : wo.cell? ⟨b2, o2 + k2, none⟩ = some (.slice x.adr x.len x.cap) := by have := hc k2 x hx 0 (by decide); rwa [Nat.mul_one, Nat.add_zero] at this
       have hxl := HLL.out x (List.mem_of_getElem? hx)
       have hxb := HLB.out x (List.mem_of_getElem? hx)
       by_cases hz : x.len = 0
       ·have d1 : ((x.len : Int) == 0) = true := by simp [hz]
        have HV : Hid (ans = false) := Lib.hid (by
         rw [HE1.out, List.all_map]
         exact all_no hx (by show (!x.chs.isEmpty) = false; rw [List.length_eq_zero_iff.1 (hxl.trans hz)]; rfl))
        clear hc hx hxl hz HAL HE1
        go_wp2_with fail
        refine bodyPost_ret (v := .tuple #[.slice none 0 0, .bool false]) (by simp [results, Tryz.results140, go_sem]) rfl ?_
        exact ⟨_, by rw [HV.out], HPG.out.hp.below⟩
       ·have d1 : ((x.len : Int) == 0) = false := by simp; omega
        have HN := Lib.hid (all_take (f := fun g : Lem => !g.chs.isEmpty) hx HAL.out (by cases hcs : x.chs with
         | nil => rw [hcs] at hxl; exact absurd hxl.symm hz
         | cons => rfl))
        clear hc hx hxl hz HAL
        go_wp2_with fail
        go_roundw
        case rel => exact ⟨k2 + 1, hlt2, by go_num, HN.out, trivial⟩
        case measure => simp [intOf]; omega
      ·obtain rfl : k2 = m := by omega
       have j1 : ¬ (k2 : Int) < (k2 : Int) := by omega
       have HV : Hid (ans = true) := Lib.hid (by
        have h := HAL.out
        rw [List.take_of_length_le (by rw [Hll.out]; exact Nat.le_refl _)] at h
        rw [HE1.out, List.all_map]; exact h)
       clear HAL HE1
       go_wp2_with fail
       refine bodyPost_ret (v := .tuple #[.slice A1 E.length c1, .bool true]) (by simp [results, Tryz.results140, go_sem]) rfl ?_
       exact ⟨_, by rw [HV.out], HPG.out.hp.below⟩
end Go.Proofs.YtdpbbhbegehcjaaGreatDoor
