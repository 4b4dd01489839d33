/- DigraphTheory: the theorem of the stage: topological orders, cycles, components and reductions are what the statement says, whatever the number of vertices and the arcs. -/
import Derived.Test.YtpaakgngoocjeaaDoorThe01
namespace Go.Proofs.YtpaakgngoocjeaaDoor
open Go.RowKit Go.ChangeShapes Go.WideShapes Go.ChangeAt Go.Deep Go.Joins

/-- the memory of the theorem: the graph, its arcs, a block of numbers, the components -/
def ThL (gb rb cap : Nat) (ext : List Value) (n : Nat) (B : List (Int × Int)) (vA : Value) (gA : Nat) (X : List Int) (Ap : Option Addr) (cp : Nat) (cs : List ((Option Addr × Nat × Nat) × List Nat)) : List Ent :=
  (bE gb rb cap ext n B vA ++ [.blk gA 3 (X.map intV)]) ++ (.row (.slice Ap cs.length cp) 36 1 cs.length (cs.map fun x => sv x.1) :: exL cs)
theorem thL_part {gb rb cap n gA cp k : Nat} {ext : List Value} {B : List (Int × Int)} {vA : Value} {X : List Int} {Ap : Option Addr} {cs : List ((Option Addr × Nat × Nat) × List Nat)} {x : (Option Addr × Nat × Nat) × List Nat} (h : cs[k]? = some x) :
    (ThL gb rb cap ext n B vA gA X Ap cp cs)[k + 5]? = some (.row (sv x.1) 3 1 x.2.length ((zs x.2).map intV)) := by
  show (exL cs)[k]? = _
  unfold exL
  rw [List.getElem?_map, h]; rfl
theorem flat_take_one {R : List (List Nat)} {k : Nat} {l : List Nat} (h : R[k]? = some l) : (R.take (k + 1)).flatten.length = (R.take k).flatten.length + l.length := by rw [flat_take_succ h, List.length_append]

theorem any_take_succ {α : Type} {p : α → Bool} {L : List α} {k : Nat} {x : α} (h : L[k]? = some x) : (L.take (k + 1)).any p = ((L.take k).any p || p x) := by
  rw [List.take_add_one, h, List.any_append]; simp

set_option maxRecDepth 100000 in
set_option maxHeartbeats 2000000 in
theorem digraphTheory_in (w : World) (hT : Tab w) (n : Nat) (Al : Option Addr) (m c : Nat) (l : List (Int × Int)) (hl : RowS 2 arcV w w.heap.size Al m l) (hn : n ≤ 20) (hm : m ≤ 40) :
    Calls Tryd.prog 8 #[.int .i64 n, .slice Al m c] w fun e w' => e = .returned (.bool true) ∧ Below w.heap.size w w' := by
  have HT := Lib.hid hT
  have HB := Lib.hid (build_any n Al m c l w (by omega) (by omega) hl)
  have hAl := buildK_len n l l.length
  have HVA := Lib.hid (va_build n l l.length)
  have HND := Lib.hid (nodup_build n l l.length)
  rw [show buildK n l l.length = buildA n l from rfl, hl.1] at hAl
  rw [show buildK n l l.length = buildA n l from rfl] at HVA HND
  have j0 : ¬ ((n : Int) < 0) := by omega
  have j1 : ¬ ((20 : Int) < (n : Int)) := by omega
  have j2 : ¬ ((40 : Int) < (m : Int)) := by omega
  generalize buildA n l = B at *
  clear hT hl
  go_enter Tryd.func8, Tryd.ntmps8
  go_wp2_with fail
  refine HB.out.mono ?_
  rintro e W1 ⟨gb, rb, cap, ext, vA, rfl, hP⟩
  have HP1 := Lib.hid hP
  have hG := bE_gat hP (by omega)
  have HG := Lib.hid hG
  obtain ⟨Ad, cA, rfl, hrow⟩ := bE_row hP
  have HROW := Lib.hid hrow
  clear hP hrow HB
  have hnl : NoLoop (graphOf n B) := noloop_graph HVA.out
  have HTH := Lib.hid (comp_th (graphOf_in n B) (by rw [graphOf_len]; omega) (graphOf_fit (by omega) B))
  have HLN : Hid ((graphOf n B).length = n) := Lib.hid (graphOf_len n B)
  have HCO := Lib.hid (fun W hb => gcomps_own W (HT.out.keep (HP1.out.below.trans (hb.mono HP1.out.below.size))) (HG.out.keep hb) (graphOf_in n B))
  obtain ⟨i0, hi, hz0, hz1, hz2⟩ := info_parts int_info
  have h1s := HP1.out.below.size
  have HNL := Lib.hid hnl
  clear hG hnl
  go_wp2_with (at_make; refine wpList_make_full _ rfl _ _ 36 rfl w.heap.size 3 i0 (.int .i64 0) 1 Tryd.underlying36 hi hz0 hz1 .i64 .i64 _ _ n rfl rfl rfl rfl (by rw [hz2]; omega) (by unfold maxLen; omega) h1s ?_; intro W2 hown hgrow; rw [made_ints] at hown; have HP2 := Lib.hid (HP1.out.made hown hgrow (Nat.le_refl _)); have HB2 : Hid (Below W1.heap.size W1 W2) := Lib.hid ⟨hgrow.os, hgrow.tape, hgrow.output, hgrow.size, fun k hk => hgrow.block k hk (by simp)⟩; clear hown hgrow)
  refine (HCO.out W2 HB2.out).mono ?_
  rintro e W3 ⟨Ap, cp, cs, rfl, hcs, hP3⟩
  have HP3 := Lib.hid (HP2.out.join hP3)
  have HG3 := Lib.hid (HG.out.keep (HB2.out.trans (hP3.below.mono HB2.out.size)))
  have HCS := Eqn.mk hcs
  generalize W1.heap.size = gA at *
  rw [← hcs] at HTH
  clear hcs hP3 HCO
  have hcl : cs.length ≤ n := by have := HTH.out.len; rw [List.length_map, HLN.out] at this; exact this
  have HX0 : Hid (cAt n (cs.map Prod.snd) 0 = List.replicate n 0) := Lib.hid rfl
  go_wp2_with fail
  go_loopw [9, 10] (fun ct i wr => ∃ k : Nat, k ≤ cs.length ∧ i = .int .i64 k ∧ ct = .int .i64 (((cs.map Prod.snd).take k).flatten.length : Nat) ∧ Hp w w wr (ThL gb rb cap ext n B (.slice Ad B.length cA) gA (cAt n (cs.map Prod.snd) k) Ap cp cs) []) (fun _ i _ => cs.length - (intOf i).toNat)
  case atStart => exact ⟨0, Nat.zero_le _, rfl, rfl, by rw [HX0.out]; exact HP3.out⟩
  case round =>
    clear HP3 HX0
    obtain ⟨k, hk, rfl, rfl, hP⟩ := hrel
    have HP := Lib.hid hP
    by_cases hlt : k < cs.length
    · have i1 : (k : Int) < (cs.length : Int) := by omega
      obtain ⟨x, hx⟩ : ∃ x, cs[k]? = some x := ⟨_, List.getElem?_eq_getElem hlt⟩
      have hxl : (cs.map Prod.snd)[k]? = some x.2 := by rw [List.getElem?_map, hx]; rfl
      have HCT := Lib.hid (flat_take_one hxl)
      have HXS := Lib.hid (cAt_succ n (cs.map Prod.snd) k)
      have hxD : (cs.map Prod.snd).getD k [] = x.2 := by rw [List.getD_eq_getElem?_getD, hxl]; rfl
      rw [hxD] at HXS
      have hcb := flat_take_len (cs.map Prod.snd) (k + 1)
      rw [HTH.out.count, HLN.out, HCT.out] at hcb
      have HSM := Lib.hid (fun u hu => HTH.out.small x.2 (List.mem_of_getElem? hxl) u hu)
      rw [HLN.out] at HSM
      have HXL := Lib.hid (cAt_len n (cs.map Prod.snd) k)
      obtain ⟨g4, d4, e4, y0, y1, y2⟩ := hP.at 4 k rfl (show (cs.map fun x => sv x.1)[k]? = some (sv x.1) by rw [List.getElem?_map, hx]; rfl)
      injection e4 with e4 _ e4c
      subst e4 e4c
      obtain ⟨A5, c5, e5⟩ := hP.form (k + 5) (thL_part hx)
      rw [e5] at y0
      obtain ⟨x1, l⟩ := x
      dsimp only at *
      generalize cAt n (cs.map Prod.snd) k = X at *
      generalize ((cs.map Prod.snd).take k).flatten.length = c0 at *
      have HS0 : Hid (setIdx X (l.take 0) (k : Int) = X) := Lib.hid rfl
      have HE5 := Lib.hid e5
      have HCK := Lib.hid hx
      clear hP hx hxl hxD e5
      have hcl2 : c0 + l.length ≤ n := hcb
      clear hcb
      go_wp2_with fail
      go_loopw [9, 11] (fun ct i wr => ∃ q : Nat, q ≤ l.length ∧ i = .int .i64 q ∧ ct = .int .i64 ((c0 + q : Nat) : Int) ∧ Hp w w wr (ThL gb rb cap ext n B (.slice Ad B.length cA) gA (setIdx X (l.take q) (k : Int)) (some ⟨g4, 0, none⟩) cp cs) []) (fun _ i _ => l.length - (intOf i).toNat)
      case atStart => exact ⟨0, Nat.zero_le _, rfl, rfl, by rw [HS0.out]; exact HP.out⟩
      case round =>
        clear HP HS0 y0 y1 y2
        obtain ⟨q, hq, rfl, rfl, hP⟩ := hrel
        have HP := Lib.hid hP
        obtain ⟨g4', d4, e4, y0, y1, y2⟩ := hP.at 4 k rfl (show (cs.map fun x => sv x.1)[k]? = some (sv x1) by rw [List.getElem?_map, HCK.out]; rfl)
        injection e4 with e4 _ e4c
        injection e4 with e4
        injection e4 with e4
        subst e4 e4c
        rw [HE5.out] at y0
        by_cases hlt2 : q < l.length
        · have i2 : (q : Int) < (l.length : Int) := by omega
          obtain ⟨v, hv⟩ : ∃ v, l[q]? = some v := ⟨_, List.getElem?_eq_getElem hlt2⟩
          have hvn := HSM.out v (List.mem_of_getElem? hv)
          obtain ⟨g5, d5, e5, z0, z1, z2⟩ := hP.at (k + 5) q (thL_part HCK.out) (show ((zs l).map intV)[q]? = some (.int .i64 (v : Int)) by unfold zs; rw [List.getElem?_map, List.getElem?_map, hv]; rfl)
          dsimp only at e5
          rw [HE5.out] at e5
          injection e5 with e5 _ e5c
          subst e5 e5c
          have HST := Eqn.mk (setIdx_take (X := X) (m := (k : Int)) hv)
          have HYL : Hid ((setIdx X (l.take q) (k : Int)).length = n) := Lib.hid (by rw [setIdx_len]; exact HXL.out)
          generalize setIdx X (l.take q) (k : Int) = Y at *
          obtain ⟨yv, hyv⟩ : ∃ z, Y[v]? = some z := ⟨_, List.getElem?_eq_getElem (by rw [HYL.out]; exact hvn)⟩
          have cA3 := hP.cI 3 v rfl hyv
          have fA := hP.f 3 rfl
          have lA := hP.lt 3 rfl
          have k0 : ¬ ((v : Int) < 0) := by omega
          have k1 : ¬ ((n : Int) ≤ (v : Int)) := by omega
          have k2 : (v : Int) < (n : Int) := by omega
          clear hP hv hyv
          go_wp2_with fail
          go_roundw
          case rel => exact ⟨q + 1, hlt2, by go_num, by go_num, by rw [HST.out]; exact HP.out.setI 3 v (k : Int) rfl⟩
          case measure => simp [intOf]; omega
        · obtain rfl : q = l.length := by omega
          rw [List.take_length, ← HXS.out, ← HCT.out] at *
          clear hP
          go_wp2_with fail
          go_roundw
          case rel => exact ⟨k + 1, hlt, by go_num, rfl, HP.out⟩
          case measure => simp [intOf]; omega
    · obtain rfl : k = cs.length := by omega
      have hct : ((cs.map Prod.snd).take cs.length).flatten.length = n := by rw [List.take_of_length_le (by simp), HTH.out.count, HLN.out]
      rw [hct] at *
      have hXl := cAt_len n (cs.map Prod.snd) cs.length
      have hle := HTH.out.le
      rw [HLN.out, List.length_map] at hle
      have hcy := HTH.out.cyc
      rw [HLN.out, List.length_map] at hcy
      have HLE := Lib.hid hle
      have HCY := Lib.hid hcy
      generalize cAt n (cs.map Prod.snd) cs.length = X at *
      have HXL := Lib.hid hXl
      clear hP hct hXl hle hcy HTH HCS
      go_wp2_with fail
      go_loopw [13] (fun i wr => ∃ k : Nat, k ≤ B.length ∧ i = .int .i64 k ∧ Hp w w wr (ThL gb rb cap ext n B (.slice Ad B.length cA) gA X Ap cp cs) []) (fun i _ => B.length - (intOf i).toNat)
      case atStart => exact ⟨0, Nat.zero_le _, rfl, HP.out⟩
      case round =>
        clear HP
        obtain ⟨k, hk, rfl, hP⟩ := hrel
        have HP := Lib.hid hP
        by_cases hlt : k < B.length
        · have i1 : (k : Int) < (B.length : Int) := by omega
          obtain ⟨p, hp⟩ : ∃ p, B[k]? = some p := ⟨_, List.getElem?_eq_getElem hlt⟩
          obtain ⟨a, b, rfl, hed⟩ := va_mem HVA.out (List.mem_of_getElem? hp)
          have hel := ed_lt (graphOf_in n B) hed
          rw [HLN.out] at hel
          obtain ⟨Ad', c', e2, hr⟩ := hP.arcs 2 rfl
          injection e2 with e2 _ e2c
          subst e2 e2c
          obtain ⟨g, off, rfl, _, hcell⟩ := hr.2 (by omega)
          have y0 : wr.cell? ⟨g, off + k * 2, none⟩ = some (.int .i64 (a : Int)) := hcell k _ hp 0 (by decide)
          have y1 : wr.cell? ⟨g, off + k * 2 + 1, none⟩ = some (.int .i64 (b : Int)) := hcell k _ hp 1 (by decide)
          obtain ⟨xa, hxa⟩ : ∃ z, X[a]? = some z := ⟨_, List.getElem?_eq_getElem (by rw [HXL.out]; exact hel.1)⟩
          obtain ⟨xb, hxb⟩ : ∃ z, X[b]? = some z := ⟨_, List.getElem?_eq_getElem (by rw [HXL.out]; exact hel.2)⟩
          have cA3 := hP.cI 3 a rfl hxa
          have cB3 := hP.cI 3 b rfl hxb
          have hab := HLE.out a b hed
          rw [List.getD_eq_getElem?_getD, List.getD_eq_getElem?_getD, hxa, hxb] at hab
          have k0 : ¬ (xb < xa) := by simpa using hab
          have k1 : (a : Int) < (n : Int) := by omega
          have k2 : (b : Int) < (n : Int) := by omega
          clear hP hp hed hel hr hcell hxa hxb hab
          go_wp2_with fail
          refine Lx.region (C := fun _ => True) (hs := []) (by kernel_rfl) (by kernel_rfl) trivial ?_
          repeat' (first
            | (refine Lx.lex_no (Lx.n1 rfl rfl rfl (by with_reducible rfl)) (fun K hK => ?_); go_simp; refine hK _ ?_; clear hK K)
            | (refine Lx.lex_no (Lx.n0 rfl rfl rfl (by with_reducible rfl)) (fun K hK => ?_); go_simp; refine hK _ ?_; clear hK K)
            | (refine Lx.lex_no (Lx.n2 rfl rfl rfl) (fun K hK => ?_); go_simp; refine hK _ ?_; clear hK K)
            | (refine Lx.lex_pure (v := ?_) rfl (by first | exact Lx.w0 rfl | exact Lx.w1 rfl rfl rfl (by with_reducible rfl)) ?_ (fun K hK => ?_); rotate_left 1; (intro w' hCw; (try dsimp only at hCw); go_simp; done); go_simp; refine hK _ ?_; clear hK K)
            | (refine Lx.lex_pure (v := ?_) rfl (by first | exact Lx.w0 rfl | exact Lx.w1 rfl rfl rfl (by with_reducible rfl)) ?_ (fun K hK => ?_); rotate_left 1; (intro w' hCw; (try dsimp only at hCw); go_simp; with_reducible rfl); go_simp; refine hK _ ?_; clear hK K)
            | (refine Lx.lex_read (v := ?_) rfl (by first | exact Lx.w0 rfl | exact Lx.w1 rfl rfl rfl (by with_reducible rfl)) ?_ (fun K hK => ?_); rotate_left 1; (go_simp; done); go_simp; refine hK _ ?_; clear hK K)
            | (refine Lx.lex_read (v := ?_) rfl (by first | exact Lx.w0 rfl | exact Lx.w1 rfl rfl rfl (by with_reducible rfl)) ?_ (fun K hK => ?_); rotate_left 1; (go_simp; with_reducible rfl); go_simp; refine hK _ ?_; clear hK K)
            | (refine Lx.lex_eff rfl (by first | exact Lx.w0 rfl | exact Lx.w1 rfl rfl rfl (by with_reducible rfl)) (fun K hK => ?_); go_simp; (first | skip | skip); refine hK _ _ (trivial) ?_; clear hK K)
            | (refine Lx.lex_cases rfl rfl rfl (fun hgd K hK => ?_) (fun hgd K hK => ?_) <;> (try simp only [decide_eq_true_eq, decide_eq_false_iff_not] at hgd) <;> (first | (exfalso; omega) | (go_simp; refine hK _ ?_; clear hK K))))
          all_goals (refine Lx.lex_nil ?_)
          go_wp2_with fail
          go_roundw
          case rel => exact ⟨k + 1, hlt, by go_num, HP.out.drew⟩
          case measure => simp [intOf]; omega
        · obtain rfl : k = B.length := by omega
          have hnl := HNL.out
          have hG := bE_gat (HP.out.sub (L' := bE gb rb cap ext n B (.slice Ad B.length cA)) (by unfold ThL; rw [List.append_assoc]; exact List.sublist_append_left _ _)) (by omega)
          obtain ⟨o, C, ⟨ho1, ho2, ho3, ho4, ho5⟩, hO⟩ := order_two wr (HT.out.keep HP.out.below) hG (graphOf_in n B) hnl
          have HO := Lib.hid hO
          have hll := greedy_len ho1
          rw [graphOf_len] at hll
          have HG := Lib.hid hG
          have hnl' := hnl
          clear hP hO hG hnl ho3
          rcases ho5 with ⟨ha, hl, rfl⟩ | ⟨ha, hl, hC2, t, ht0, hta⟩
          · rw [if_neg (by omega)] at HO
            have hE : ∀ v u, Ed (graphOf n (redR n B)) v u ↔ Need (graphOf n B) v u := fun v u => by
              rw [ed_graph, hasA_red (by omega) HVA.out]
              exact ⟨fun h => h.2.2, fun h => by have := ed_lt (graphOf_in n B) h.1; rw [HLN.out] at this; exact ⟨this.1, this.2, h⟩⟩
            have HRS := Lib.hid (red_reachM (graphOf_in n B) hE hnl' ha)
            have HRA := Lib.hid (fun v x y (h1 : Ed (graphOf n (redR n B)) v x) (h2 : Ed (graphOf n (redR n B)) v y) (h3 : x ≠ y) (h4 : Rch (graphOf n (redR n B)) x y) => red_apart hE h1 h2 h3 h4)
            have HRD : Hid (∀ W, Below wr.heap.size wr W → Calls Tryd.prog 35 #[.pointer (some ⟨gb, 0, none⟩)] W (GRet (redK (graphOf n B) n).1 (redK (graphOf n B) n).2 W)) := Lib.hid (fun W hb => by
              have := greduce_ok (zs o) W (HT.out.keep (HP.out.below.trans (hb.mono HP.out.below.size))) (HG.out.keep hb) (graphOf_in n B) (HO.out W hb)
              rw [graphOf_len] at this; exact this)
            rw [red_graph (by omega) HVA.out] at HRD
            have HEX := Lib.hid (fun a b (h : Ed (graphOf n B) a b) => early_ex (graphOf_in n B) ho1 hl h)
            have HO2 := Lib.hid (HO.out wr (Below.refl _ _))
            have hcn : cs.length = n := HCY.out.1 ha
            rw [HLN.out] at hl
            have hcn2 : ¬ ((cs.length : Int) < (n : Int)) := by omega
            have hcn3 : ¬ (cs.length < n) := by omega
            have HOL := Lib.hid hl
            clear ho1 ho2 ha hl HO hcn hE hnl'
            go_wp2_with fail
            refine HO2.out.mono ?_
            rintro e W4 ⟨v1, v2, rfl, ho1, ho2, hb4⟩
            dsimp only at ho1 ho2
            rw [zs_len, HOL.out] at ho1
            have HQ4 := Lib.hid ((HP.out.pushRow hb4 ho1).perm List.perm_append_comm)
            obtain ⟨A1, c1, rfl, _⟩ := row1_of_own ho1
            obtain ⟨A2, c2, rfl, _⟩ := row1_of_own ho2
            have HB4 := Lib.hid hb4
            clear ho1 ho2 hb4 HO2 HP
            obtain ⟨wo, rfl⟩ : ∃ wo : World, wo = wr := ⟨_, rfl⟩
            go_wp2_with fail
            go_loopw [17] (fun i wr' => ∃ k : Nat, k ≤ B.length ∧ i = .int .i64 k ∧ Below W4.heap.size W4 wr') (fun i _ => B.length - (intOf i).toNat)
            case atStart => exact ⟨0, Nat.zero_le _, rfl, Below.refl _ _⟩
            case round =>
              obtain ⟨k, hk, rfl, hB⟩ := hrel
              have HB := Lib.hid hB
              have HQ5 := Lib.hid (HQ4.out.keep hB)
              by_cases hlt : k < B.length
              · have i1 : (k : Int) < (B.length : Int) := by omega
                obtain ⟨p, hp⟩ : ∃ p, B[k]? = some p := ⟨_, List.getElem?_eq_getElem hlt⟩
                obtain ⟨a, b, rfl, hed⟩ := va_mem HVA.out (List.mem_of_getElem? hp)
                obtain ⟨j, hj, hjn, hja⟩ := HEX.out a b hed
                have HJN := Lib.hid hjn
                have HJ := Lib.hid hj
                have hjl : j < n := by have := (List.getElem?_eq_some_iff.1 hj).1; have := HOL.out; omega
                have HJA : Hid ((o.take j).any (fun x => decide (x = a)) = true) := Lib.hid (by rw [List.any_eq_true]; exact ⟨a, hja, by simp⟩)
                have HA0 : Hid ((o.take 0).any (fun x => decide (x = a)) = false) := Lib.hid rfl
                obtain ⟨Ad', c', e2, hr⟩ := HQ5.out.arcs 3 rfl
                injection e2 with e2 _ e2c
                subst e2 e2c
                obtain ⟨g, off, rfl, hgw, hcell⟩ := hr.2 (by omega)
                have HY : Hid (∀ W, Below wr.heap.size wr W → W.cell? ⟨g, off + k * 2, none⟩ = some (.int .i64 (a : Int)) ∧ W.cell? ⟨g, off + k * 2 + 1, none⟩ = some (.int .i64 (b : Int)) ∧ g < W.heap.size) := Lib.hid (fun W hW =>
                  ⟨(hW.cell (p := ⟨g, off + k * 2, none⟩) hgw).trans (hcell k _ hp 0 (by decide)), (hW.cell (p := ⟨g, off + k * 2 + 1, none⟩) hgw).trans (hcell k _ hp 1 (by decide)), by have := hW.size; omega⟩)
                obtain ⟨wl, rfl⟩ : ∃ wl : World, wl = wr := ⟨_, rfl⟩
                clear hB hp hed hj hjn hja hr hcell hgw
                go_wp2_with fail
                go_loopw [18, 19] (fun f i wr => ∃ q : Nat, q ≤ j ∧ i = .int .i64 q ∧ f = .bool ((o.take q).any fun x => decide (x = a)) ∧ Below wl.heap.size wl wr) (fun _ i _ => n - (intOf i).toNat)
                case atStart => exact ⟨0, Nat.zero_le _, rfl, by rw [HA0.out], Below.refl _ _⟩
                case round =>
                  clear HA0
                  obtain ⟨q, hq, rfl, rfl, hB⟩ := hrel
                  have HBI := Lib.hid hB
                  obtain ⟨y0, y1, y8⟩ := HY.out wr hB
                  have i2 : (q : Int) < (n : Int) := by omega
                  obtain ⟨x, hx⟩ : ∃ x, o[q]? = some x := ⟨_, List.getElem?_eq_getElem (by have := HOL.out; omega)⟩
                  obtain ⟨g5, d5, e5, z0, z1, z2⟩ := (HQ5.out.keep hB).at 0 q rfl (show ((zs o).map intV)[q]? = some (.int .i64 (x : Int)) by unfold zs; rw [List.getElem?_map, List.getElem?_map, hx]; rfl)
                  injection e5 with e5 _ e5c
                  subst e5 e5c
                  have HTS := Eqn.mk (any_take_succ (p := fun x => decide (x = a)) hx)
                  generalize hf0 : (o.take q).any (fun x => decide (x = a)) = f0 at *
                  have HF0 := Lib.hid hf0
                  clear hf0
                  by_cases hqj : q < j
                  · have hxb : ¬ x = b := HJN.out q x hqj hx
                    have hxb2 : ((x : Int) != (b : Int)) = true := by simpa using fun e : (x : Int) = (b : Int) => hxb (by omega)
                    clear hB hx
                    go_wp2_with fail
                    refine Lx.region (C := fun _ => True) (hs := []) (by kernel_rfl) (by kernel_rfl) trivial ?_
                    repeat' (first
                      | (refine Lx.lex_no (Lx.n1 rfl rfl rfl (by with_reducible rfl)) (fun K hK => ?_); go_simp; refine hK _ ?_; clear hK K)
                      | (refine Lx.lex_no (Lx.n0 rfl rfl rfl (by with_reducible rfl)) (fun K hK => ?_); go_simp; refine hK _ ?_; clear hK K)
                      | (refine Lx.lex_no (Lx.n2 rfl rfl rfl) (fun K hK => ?_); go_simp; refine hK _ ?_; clear hK K)
                      | (refine Lx.lex_pure (v := ?_) rfl (by first | exact Lx.w0 rfl | exact Lx.w1 rfl rfl rfl (by with_reducible rfl)) ?_ (fun K hK => ?_); rotate_left 1; (intro w' hCw; (try dsimp only at hCw); go_simp; done); go_simp; refine hK _ ?_; clear hK K)
                      | (refine Lx.lex_pure (v := ?_) rfl (by first | exact Lx.w0 rfl | exact Lx.w1 rfl rfl rfl (by with_reducible rfl)) ?_ (fun K hK => ?_); rotate_left 1; (intro w' hCw; (try dsimp only at hCw); go_simp; with_reducible rfl); go_simp; refine hK _ ?_; clear hK K)
                      | (refine Lx.lex_read (v := ?_) rfl (by first | exact Lx.w0 rfl | exact Lx.w1 rfl rfl rfl (by with_reducible rfl)) ?_ (fun K hK => ?_); rotate_left 1; (go_simp; done); go_simp; refine hK _ ?_; clear hK K)
                      | (refine Lx.lex_read (v := ?_) rfl (by first | exact Lx.w0 rfl | exact Lx.w1 rfl rfl rfl (by with_reducible rfl)) ?_ (fun K hK => ?_); rotate_left 1; (go_simp; with_reducible rfl); go_simp; refine hK _ ?_; clear hK K)
                      | (refine Lx.lex_eff rfl (by first | exact Lx.w0 rfl | exact Lx.w1 rfl rfl rfl (by with_reducible rfl)) (fun K hK => ?_); go_simp; (first | skip | skip); refine hK _ _ (trivial) ?_; clear hK K)
                      | (refine Lx.lex_cases rfl rfl rfl (fun hgd K hK => ?_) (fun hgd K hK => ?_) <;> (try simp only [decide_eq_true_eq, decide_eq_false_iff_not] at hgd) <;> (first | (exfalso; omega) | (go_simp; refine hK _ ?_; clear hK K))))
                    all_goals (refine Lx.lex_nil ?_)
                    clear hxb2 hxb
                    cases f0 with
                    | true =>
                      have HT2 : Eqn ((o.take (q + 1)).any (fun x => decide (x = a))) true := by rw [Eqn, HTS.out]; rfl
                      clear HTS
                      go_wp2_with fail
                      refine Lx.region (C := fun _ => True) (hs := []) (by kernel_rfl) (by kernel_rfl) trivial ?_
                      repeat' (first
                        | (refine Lx.lex_no (Lx.n1 rfl rfl rfl (by with_reducible rfl)) (fun K hK => ?_); go_simp; refine hK _ ?_; clear hK K)
                        | (refine Lx.lex_no (Lx.n0 rfl rfl rfl (by with_reducible rfl)) (fun K hK => ?_); go_simp; refine hK _ ?_; clear hK K)
                        | (refine Lx.lex_no (Lx.n2 rfl rfl rfl) (fun K hK => ?_); go_simp; refine hK _ ?_; clear hK K)
                        | (refine Lx.lex_pure (v := ?_) rfl (by first | exact Lx.w0 rfl | exact Lx.w1 rfl rfl rfl (by with_reducible rfl)) ?_ (fun K hK => ?_); rotate_left 1; (intro w' hCw; (try dsimp only at hCw); go_simp; done); go_simp; refine hK _ ?_; clear hK K)
                        | (refine Lx.lex_pure (v := ?_) rfl (by first | exact Lx.w0 rfl | exact Lx.w1 rfl rfl rfl (by with_reducible rfl)) ?_ (fun K hK => ?_); rotate_left 1; (intro w' hCw; (try dsimp only at hCw); go_simp; with_reducible rfl); go_simp; refine hK _ ?_; clear hK K)
                        | (refine Lx.lex_read (v := ?_) rfl (by first | exact Lx.w0 rfl | exact Lx.w1 rfl rfl rfl (by with_reducible rfl)) ?_ (fun K hK => ?_); rotate_left 1; (go_simp; done); go_simp; refine hK _ ?_; clear hK K)
                        | (refine Lx.lex_read (v := ?_) rfl (by first | exact Lx.w0 rfl | exact Lx.w1 rfl rfl rfl (by with_reducible rfl)) ?_ (fun K hK => ?_); rotate_left 1; (go_simp; with_reducible rfl); go_simp; refine hK _ ?_; clear hK K)
                        | (refine Lx.lex_eff rfl (by first | exact Lx.w0 rfl | exact Lx.w1 rfl rfl rfl (by with_reducible rfl)) (fun K hK => ?_); go_simp; (first | skip | skip); refine hK _ _ (trivial) ?_; clear hK K)
                        | (refine Lx.lex_cases rfl rfl rfl (fun hgd K hK => ?_) (fun hgd K hK => ?_) <;> (try simp only [decide_eq_true_eq, decide_eq_false_iff_not] at hgd) <;> (first | (exfalso; omega) | (go_simp; refine hK _ ?_; clear hK K))))
                      all_goals (refine Lx.lex_nil ?_)
                      go_wp2_with fail
                      go_roundw
                      case rel => exact ⟨q + 1, hqj, by go_num, by rw [HT2.out], HBI.out.drew.drew⟩
                      case measure => simp [intOf]; omega
                    | false =>
                      have HT2 : Eqn ((o.take (q + 1)).any (fun x => decide (x = a))) ((x : Int) == (a : Int)) := by
                        rw [Eqn, HTS.out]
                        by_cases h : x = a
                        · subst h; simp
                        · have : ¬ (x : Int) = (a : Int) := by omega
                          simp [h, this]
                      clear HTS
                      go_wp2_with fail
                      refine Lx.region (C := fun _ => True) (hs := []) (by kernel_rfl) (by kernel_rfl) trivial ?_
                      repeat' (first
                        | (refine Lx.lex_no (Lx.n1 rfl rfl rfl (by with_reducible rfl)) (fun K hK => ?_); go_simp; refine hK _ ?_; clear hK K)
                        | (refine Lx.lex_no (Lx.n0 rfl rfl rfl (by with_reducible rfl)) (fun K hK => ?_); go_simp; refine hK _ ?_; clear hK K)
                        | (refine Lx.lex_no (Lx.n2 rfl rfl rfl) (fun K hK => ?_); go_simp; refine hK _ ?_; clear hK K)
                        | (refine Lx.lex_pure (v := ?_) rfl (by first | exact Lx.w0 rfl | exact Lx.w1 rfl rfl rfl (by with_reducible rfl)) ?_ (fun K hK => ?_); rotate_left 1; (intro w' hCw; (try dsimp only at hCw); go_simp; done); go_simp; refine hK _ ?_; clear hK K)
                        | (refine Lx.lex_pure (v := ?_) rfl (by first | exact Lx.w0 rfl | exact Lx.w1 rfl rfl rfl (by with_reducible rfl)) ?_ (fun K hK => ?_); rotate_left 1; (intro w' hCw; (try dsimp only at hCw); go_simp; with_reducible rfl); go_simp; refine hK _ ?_; clear hK K)
                        | (refine Lx.lex_read (v := ?_) rfl (by first | exact Lx.w0 rfl | exact Lx.w1 rfl rfl rfl (by with_reducible rfl)) ?_ (fun K hK => ?_); rotate_left 1; (go_simp; done); go_simp; refine hK _ ?_; clear hK K)
                        | (refine Lx.lex_read (v := ?_) rfl (by first | exact Lx.w0 rfl | exact Lx.w1 rfl rfl rfl (by with_reducible rfl)) ?_ (fun K hK => ?_); rotate_left 1; (go_simp; with_reducible rfl); go_simp; refine hK _ ?_; clear hK K)
                        | (refine Lx.lex_eff rfl (by first | exact Lx.w0 rfl | exact Lx.w1 rfl rfl rfl (by with_reducible rfl)) (fun K hK => ?_); go_simp; (first | skip | skip); refine hK _ _ (trivial) ?_; clear hK K)
                        | (refine Lx.lex_cases rfl rfl rfl (fun hgd K hK => ?_) (fun hgd K hK => ?_) <;> (try simp only [decide_eq_true_eq, decide_eq_false_iff_not] at hgd) <;> (first | (exfalso; omega) | (go_simp; refine hK _ ?_; clear hK K))))
                      all_goals (refine Lx.lex_nil ?_)
                      go_wp2_with fail
                      go_roundw
                      case rel => exact ⟨q + 1, hqj, by go_num, by rw [HT2.out], HBI.out.drew.drew⟩
                      case measure => simp [intOf]; omega
                  · obtain rfl : q = j := by omega
                    have hxb : x = b := by have := HJ.out; rw [hx] at this; cases this; rfl
                    subst hxb
                    clear hB hx
                    have hf1 : f0 = true := by rw [← HF0.out]; exact HJA.out
                    subst hf1
                    clear HTS
                    go_wp2_with fail
                    refine Lx.region (C := fun _ => True) (hs := []) (by kernel_rfl) (by kernel_rfl) trivial ?_
                    repeat' (first
                      | (refine Lx.lex_no (Lx.n1 rfl rfl rfl (by with_reducible rfl)) (fun K hK => ?_); go_simp; refine hK _ ?_; clear hK K)
                      | (refine Lx.lex_no (Lx.n0 rfl rfl rfl (by with_reducible rfl)) (fun K hK => ?_); go_simp; refine hK _ ?_; clear hK K)
                      | (refine Lx.lex_no (Lx.n2 rfl rfl rfl) (fun K hK => ?_); go_simp; refine hK _ ?_; clear hK K)
                      | (refine Lx.lex_pure (v := ?_) rfl (by first | exact Lx.w0 rfl | exact Lx.w1 rfl rfl rfl (by with_reducible rfl)) ?_ (fun K hK => ?_); rotate_left 1; (intro w' hCw; (try dsimp only at hCw); go_simp; done); go_simp; refine hK _ ?_; clear hK K)
                      | (refine Lx.lex_pure (v := ?_) rfl (by first | exact Lx.w0 rfl | exact Lx.w1 rfl rfl rfl (by with_reducible rfl)) ?_ (fun K hK => ?_); rotate_left 1; (intro w' hCw; (try dsimp only at hCw); go_simp; with_reducible rfl); go_simp; refine hK _ ?_; clear hK K)
                      | (refine Lx.lex_read (v := ?_) rfl (by first | exact Lx.w0 rfl | exact Lx.w1 rfl rfl rfl (by with_reducible rfl)) ?_ (fun K hK => ?_); rotate_left 1; (go_simp; done); go_simp; refine hK _ ?_; clear hK K)
                      | (refine Lx.lex_read (v := ?_) rfl (by first | exact Lx.w0 rfl | exact Lx.w1 rfl rfl rfl (by with_reducible rfl)) ?_ (fun K hK => ?_); rotate_left 1; (go_simp; with_reducible rfl); go_simp; refine hK _ ?_; clear hK K)
                      | (refine Lx.lex_eff rfl (by first | exact Lx.w0 rfl | exact Lx.w1 rfl rfl rfl (by with_reducible rfl)) (fun K hK => ?_); go_simp; (first | skip | skip); refine hK _ _ (trivial) ?_; clear hK K)
                      | (refine Lx.lex_cases rfl rfl rfl (fun hgd K hK => ?_) (fun hgd K hK => ?_) <;> (try simp only [decide_eq_true_eq, decide_eq_false_iff_not] at hgd) <;> (first | (exfalso; omega) | (go_simp; refine hK _ ?_; clear hK K))))
                    all_goals (refine Lx.lex_nil ?_)
                    go_wp2_with fail
                    go_roundw
                    case rel => exact ⟨k + 1, hlt, by go_num, HB.out.trans (HBI.out.drew.mono HB.out.size)⟩
                    case measure => simp [intOf]; omega
              · obtain rfl : k = B.length := by omega
                obtain ⟨wl, rfl⟩ : ∃ wl : World, wl = wr := ⟨_, rfl⟩
                have HRX := Lib.hid (HRD.out wl (HB4.out.trans (hB.mono HB4.out.size)))
                have HLG := Lib.hid (fun v => graphOf_at (n := n) (A := redR n B) (v := v))
                have HRI := Lib.hid (graphOf_in n (redR n B))
                have HRL : Hid ((graphOf n (redR n B)).length = n) := Lib.hid (graphOf_len n (redR n B))
                have HRF := Lib.hid (graphOf_fit (n := n) (by omega) (redR n B))
                have HRE := Lib.hid (fun v x (hv : v < n) => (by have := ed_row (S := graphOf n (redR n B)) (v := v) (w := x) HRF.out; rw [graphOf_getD hv] at this; exact this : x ∈ mem (rowOf n (redR n B) v) ↔ Ed (graphOf n (redR n B)) v x))
                generalize (redK (graphOf n B) n).2 = rc at *
                generalize redR n B = RB at *
                clear hB HRD
                go_wp2_with fail
                refine HRX.out.mono ?_
                rintro e W5 ⟨gb', rb', cap', ext', rfl, hG5, _, _, hb5⟩
                have HQ6 := Lib.hid (HQ5.out.keep hb5)
                have HG5 := Lib.hid hG5
                have HG6 := Lib.hid (HG.out.keep (HB4.out.trans ((HB.out.trans (hb5.mono HB.out.size)).mono HB4.out.size)))
                clear hb5 hG5 HRX
                go_wp2_with fail
                go_loopw [22] (fun i wr => ∃ v : Nat, v ≤ n ∧ i = .int .i64 v ∧ Below W5.heap.size W5 wr) (fun i _ => n - (intOf i).toNat)
                case atStart => exact ⟨0, Nat.zero_le _, rfl, Below.refl _ _⟩
                case round =>
                  obtain ⟨v, hv, rfl, hB⟩ := hrel
                  have HBV := Lib.hid hB
                  by_cases hlt : v < n
                  · have i1 : (v : Int) < (n : Int) := by omega
                    have HWB : Hid (∀ W, Below wr.heap.size wr W → Below w.heap.size w W) := Lib.hid (fun W hb => (HQ6.out.keep (hB.trans (hb.mono hB.size))).below)
                    have HGA := Lib.hid (fun W (hb : Below wr.heap.size wr W) => HG5.out.keep (hB.trans (hb.mono hB.size)))
                    have hbx := HB.out.size
                    have HGO := Lib.hid (HG6.out.keep hB)
                    have HR1 := greachable_any v wr (HT.out.keep (HWB.out wr (Below.refl _ _))) HGO.out (graphOf_in n B) (by rw [graphOf_len]; exact hlt)
                    have HRV := Lib.hid (reachM_fit (graphOf n B) v)
                    have HRSv := Lib.hid (HRS.out v)
                    generalize reachM (graphOf n B) v = rv at *
                    unfold sV at HR1
                    replace HR1 := Lib.hid HR1
                    obtain ⟨wl2, rfl⟩ : ∃ wl : World, wl = wr := ⟨_, rfl⟩
                    clear hB
                    go_wp2_with fail
                    refine HR1.out.mono ?_
                    rintro e U1 ⟨rfl, hu1⟩
                    obtain ⟨V1, hV1⟩ : ∃ V, V = U1.alloc (.cells (sL rv).toArray 40) := ⟨_, rfl⟩
                    have hK1 := ((Hp.start wl2).keep hu1).allocS rv 40
                    rw [← hV1] at hK1
                    unfold sL at hV1
                    have HK1 := Lib.hid hK1
                    have HR2 := greachable_any v V1 (HT.out.keep (HWB.out V1 hK1.below)) (HGA.out V1 hK1.below) HRI.out (by rw [HRL.out]; exact hlt)
                    rw [HRSv.out] at HR2
                    unfold sV at HR2
                    replace HR2 := Lib.hid HR2
                    clear hu1 hK1 HR1
                    go_upto_region 54 with fail
                    rw [← hV1]
                    clear hV1
                    generalize U1.heap.size = p23 at *
                    go_wp2_with fail
                    refine HR2.out.mono ?_
                    rintro e U2 ⟨rfl, hu2⟩
                    obtain ⟨V2, hV2⟩ : ∃ V, V = U2.alloc (.cells (sL rv).toArray 40) := ⟨_, rfl⟩
                    have hK2 := (HK1.out.keep hu2).allocS rv 40
                    rw [← hV2] at hK2
                    unfold sL at hV2
                    have HK2 := Lib.hid hK2
                    have HN3 := gnext_any v _ V2 (HGA.out V2 hK2.below) (HLG.out v hlt)
                    have HXE : Hid (∀ x, x ∈ mem (rowOf n RB v) ↔ Ed (graphOf n RB) v x) := Lib.hid (fun x => HRE.out v x hlt)
                    have HXF : Hid (Fit (rowOf n RB v)) := Lib.hid (HRF.out _ (List.mem_of_getElem? (HLG.out v hlt)))
                    generalize rowOf n RB v = xr at *
                    unfold sV at HN3
                    replace HN3 := Lib.hid HN3
                    clear hu2 hK2 HR2 HK1
                    go_upto_region 55 with fail
                    rw [← hV2]
                    clear hV2
                    generalize U2.heap.size = p25 at *
                    go_wp2_with fail
                    refine HN3.out.mono ?_
                    rintro e U3 ⟨rfl, hu3⟩
                    obtain ⟨V3, hV3⟩ : ∃ V, V = U3.alloc (.cells (sL xr).toArray 40) := ⟨_, rfl⟩
                    have hK3 := (HK2.out.keep hu3).allocS xr 40
                    rw [← hV3] at hK3
                    unfold sL at hV3
                    have HK3 := Lib.hid hK3
                    obtain ⟨c0_0, c0_1, c0_2, c0_3, c0_4, c0_5, c0_6, c0_7⟩ := (hK3.blk 0 rfl).eight; have f0 := hK3.f 0 rfl; have l0 := hK3.lt 0 rfl; obtain ⟨c1_0, c1_1, c1_2, c1_3, c1_4, c1_5, c1_6, c1_7⟩ := (hK3.blk 1 rfl).eight; have f1 := hK3.f 1 rfl; have l1 := hK3.lt 1 rfl; obtain ⟨c2_0, c2_1, c2_2, c2_3, c2_4, c2_5, c2_6, c2_7⟩ := (hK3.blk 2 rfl).eight; have f2 := hK3.f 2 rfl; have l2 := hK3.lt 2 rfl
                    have hze := fun W => set_neq W rv rv HRV.out HRV.out
                    unfold sV at hze
                    simp only [decide_true, Bool.not_true] at hze
                    have HLI := list_any xr V3 HXF.out (HT.out.keep (HWB.out V3 hK3.below))
                    unfold sV at HLI
                    replace HLI := Lib.hid HLI
                    clear hu3 hK3 HN3 HK2
                    go_upto_region 56 with fail
                    rw [← hV3]
                    clear hV3
                    generalize U3.heap.size = p27 at *
                    go_wp2_with fail
                    refine HLI.out.mono ?_
                    rintro e U4 ⟨v4, rfl, hown4, hu4⟩
                    rw [show memI xr = zs (mem xr) from rfl, zs_len] at hown4
                    have HK4 := Lib.hid (HK3.out.pushRow hu4 hown4)
                    obtain ⟨A4, c4, rfl, _⟩ := row1_of_own hown4
                    have HNS := Lib.hid (mem_sorted xr)
                    have hnl := mem_len xr
                    generalize mem xr = nx at *
                    clear hu4 hown4 HLI hze HK3 c0_0 c0_1 c0_2 c0_3 c0_4 c0_5 c0_6 c0_7 f0 l0 c1_0 c1_1 c1_2 c1_3 c1_4 c1_5 c1_6 c1_7 f1 l1 c2_0 c2_1 c2_2 c2_3 c2_4 c2_5 c2_6 c2_7 f2 l2
                    go_wp2_with fail
                    go_loopw [30] (fun i wr => ∃ k : Nat, k ≤ nx.length ∧ i = .int .i64 k ∧ Below U4.heap.size U4 wr) (fun i _ => nx.length - (intOf i).toNat)
                    case atStart => exact ⟨0, Nat.zero_le _, rfl, Below.refl _ _⟩
                    case round =>
                      obtain ⟨k, hk, rfl, hB⟩ := hrel
                      have HBK := Lib.hid hB
                      by_cases hlt2 : k < nx.length
                      · have i2 : (k : Int) < (nx.length : Int) := by omega
                        obtain ⟨wk, rfl⟩ : ∃ wk : World, wk = wr := ⟨_, rfl⟩
                        clear hB
                        go_wp2_with fail
                        go_loopw [31] (fun i wr => ∃ q : Nat, q ≤ nx.length ∧ i = .int .i64 q ∧ Below U4.heap.size U4 wr) (fun i _ => nx.length - (intOf i).toNat)
                        case atStart => exact ⟨0, Nat.zero_le _, rfl, HBK.out⟩
                        case round =>
                          obtain ⟨q, hq, rfl, hB⟩ := hrel
                          have HBQ := Lib.hid hB
                          by_cases hlt3 : q < nx.length
                          · have i3 : (q : Int) < (nx.length : Int) := by omega
                            obtain ⟨y, hy⟩ : ∃ y, nx[q]? = some y := ⟨_, List.getElem?_eq_getElem hlt3⟩
                            obtain ⟨z, hz⟩ : ∃ z, nx[k]? = some z := ⟨_, List.getElem?_eq_getElem hlt2⟩
                            have hyE := (HXE.out y).1 (List.mem_of_getElem? hy)
                            have hzE := (HXE.out z).1 (List.mem_of_getElem? hz)
                            have hyn := (ed_lt HRI.out hyE).2
                            rw [HRL.out] at hyn
                            have HYC : Hid (((zs nx).map intV)[q]? = some (.int .i64 (y : Int))) := Lib.hid (by unfold zs; rw [List.getElem?_map, List.getElem?_map, hy]; rfl)
                            have HZC : Hid (((zs nx).map intV)[k]? = some (.int .i64 (z : Int))) := Lib.hid (by unfold zs; rw [List.getElem?_map, List.getElem?_map, hz]; rfl)
                            have HK5 := Lib.hid (HK4.out.keep hB)
                            obtain ⟨g7, d7, e7, z0, z1, z2⟩ := HK5.out.at 3 q rfl HYC.out
                            injection e7 with e7 _ e7c
                            subst e7 e7c
                            have HRY := greachable_any y wr (HT.out.keep (HWB.out wr HK5.out.below)) (HGA.out wr HK5.out.below) HRI.out (by rw [HRL.out]; exact hyn)
                            have HNO : Hid (q ≠ k → hasS (reachM (graphOf n RB) y) (z : Int) = false) := Lib.hid (fun hqk => by
                              rw [← Bool.not_eq_true]
                              intro hh
                              unfold hasS at hh
                              rw [Bool.and_eq_true, Int.toNat_natCast, reachM_tb] at hh
                              refine HRA.out v y z hyE hzE (fun e => ?_) hh.2.2
                              subst e
                              exact hqk (nodup_at (HNS.out.imp (fun h => by omega)) hy hz))
                            have HHA := Lib.hid (fun W => has_any (reachM (graphOf n RB) y) (z : Int) W)
                            generalize reachM (graphOf n RB) y = ry at *
                            unfold sV at HRY HHA
                            replace HRY := Lib.hid HRY
                            clear hB hy hz hyE hzE hyn
                            go_wp2_with fail
                            refine HRY.out.mono ?_
                            rintro e U5 ⟨rfl, hu5⟩
                            obtain ⟨V5, hV5⟩ : ∃ V, V = U5.alloc (.cells (sL ry).toArray 40) := ⟨_, rfl⟩
                            have hK6 := (HK5.out.keep hu5).allocS ry 40
                            rw [← hV5] at hK6
                            unfold sL at hV5
                            have HK6 := Lib.hid hK6
                            have HBU : Hid (Below U4.heap.size U4 V5) := Lib.hid (HBQ.out.trans (by have := (((Hp.start wr).keep hu5).allocS ry 40).below; unfold sL at this; rw [← hV5] at this; exact this.mono HBQ.out.size))
                            obtain ⟨c4_0, c4_1, c4_2, c4_3, c4_4, c4_5, c4_6, c4_7⟩ := (hK6.blk 4 rfl).eight; have f4 := hK6.f 4 rfl; have l4 := hK6.lt 4 rfl
                            obtain ⟨g8, d8, e8, q0, q1, q2⟩ := hK6.at 3 k rfl HZC.out
                            injection e8 with e8 _ e8c
                            injection e8 with e8
                            injection e8 with e8
                            subst e8 e8c
                            clear z0 z1 z2 hu5 hK6 HRY HK5
                            go_upto_region 66 with fail
                            rw [← hV5]
                            clear hV5
                            generalize U5.heap.size = p32 at *
                            by_cases hqk : q = k
                            · have hqk2 : ((q : Int) != (k : Int)) = false := by rw [hqk]; simp
                              clear hqk
                              go_wp2_with fail
                              refine Lx.region (C := fun _ => True) (hs := []) (by kernel_rfl) (by kernel_rfl) trivial ?_
                              repeat' (first
                                | (refine Lx.lex_no (Lx.n1 rfl rfl rfl (by with_reducible rfl)) (fun K hK => ?_); go_simp; refine hK _ ?_; clear hK K)
                                | (refine Lx.lex_no (Lx.n0 rfl rfl rfl (by with_reducible rfl)) (fun K hK => ?_); go_simp; refine hK _ ?_; clear hK K)
                                | (refine Lx.lex_no (Lx.n2 rfl rfl rfl) (fun K hK => ?_); go_simp; refine hK _ ?_; clear hK K)
                                | (refine Lx.lex_pure (v := ?_) rfl (by first | exact Lx.w0 rfl | exact Lx.w1 rfl rfl rfl (by with_reducible rfl)) ?_ (fun K hK => ?_); rotate_left 1; (intro w' hCw; (try dsimp only at hCw); go_simp; done); go_simp; refine hK _ ?_; clear hK K)
                                | (refine Lx.lex_pure (v := ?_) rfl (by first | exact Lx.w0 rfl | exact Lx.w1 rfl rfl rfl (by with_reducible rfl)) ?_ (fun K hK => ?_); rotate_left 1; (intro w' hCw; (try dsimp only at hCw); go_simp; with_reducible rfl); go_simp; refine hK _ ?_; clear hK K)
                                | (refine Lx.lex_read (v := ?_) rfl (by first | exact Lx.w0 rfl | exact Lx.w1 rfl rfl rfl (by with_reducible rfl)) ?_ (fun K hK => ?_); rotate_left 1; (go_simp; done); go_simp; refine hK _ ?_; clear hK K)
                                | (refine Lx.lex_read (v := ?_) rfl (by first | exact Lx.w0 rfl | exact Lx.w1 rfl rfl rfl (by with_reducible rfl)) ?_ (fun K hK => ?_); rotate_left 1; (go_simp; with_reducible rfl); go_simp; refine hK _ ?_; clear hK K)
                                | (refine Lx.lex_eff rfl (by first | exact Lx.w0 rfl | exact Lx.w1 rfl rfl rfl (by with_reducible rfl)) (fun K hK => ?_); go_simp; (first | skip | skip); refine hK _ _ (trivial) ?_; clear hK K)
                                | (refine Lx.lex_cases rfl rfl rfl (fun hgd K hK => ?_) (fun hgd K hK => ?_) <;> (try simp only [decide_eq_true_eq, decide_eq_false_iff_not] at hgd) <;> (first | (exfalso; omega) | (go_simp; refine hK _ ?_; clear hK K))))
                              all_goals (refine Lx.lex_nil ?_)
                              go_wp2_with fail
                              go_roundw
                              case rel => exact ⟨q + 1, hlt3, by go_num, HBU.out.drew⟩
                              case measure => simp [intOf]; omega
                            · have hqk2 : ((q : Int) != (k : Int)) = true := by simpa using fun e : (q : Int) = (k : Int) => hqk (by omega)
                              have HNO2 := HNO.out hqk
                              have HH5 := HHA.out V5.drew
                              rw [HNO2] at HH5
                              replace HH5 := Lib.hid HH5
                              clear HNO2
                              go_wp2_with fail
                              refine Lx.region (C := fun _ => True) (hs := []) (by kernel_rfl) (by kernel_rfl) trivial ?_
                              repeat' (first
                                | (refine Lx.lex_no (Lx.n1 rfl rfl rfl (by with_reducible rfl)) (fun K hK => ?_); go_simp; refine hK _ ?_; clear hK K)
                                | (refine Lx.lex_no (Lx.n0 rfl rfl rfl (by with_reducible rfl)) (fun K hK => ?_); go_simp; refine hK _ ?_; clear hK K)
                                | (refine Lx.lex_no (Lx.n2 rfl rfl rfl) (fun K hK => ?_); go_simp; refine hK _ ?_; clear hK K)
                                | (refine Lx.lex_pure (v := ?_) rfl (by first | exact Lx.w0 rfl | exact Lx.w1 rfl rfl rfl (by with_reducible rfl)) ?_ (fun K hK => ?_); rotate_left 1; (intro w' hCw; (try dsimp only at hCw); go_simp; done); go_simp; refine hK _ ?_; clear hK K)
                                | (refine Lx.lex_pure (v := ?_) rfl (by first | exact Lx.w0 rfl | exact Lx.w1 rfl rfl rfl (by with_reducible rfl)) ?_ (fun K hK => ?_); rotate_left 1; (intro w' hCw; (try dsimp only at hCw); go_simp; with_reducible rfl); go_simp; refine hK _ ?_; clear hK K)
                                | (refine Lx.lex_read (v := ?_) rfl (by first | exact Lx.w0 rfl | exact Lx.w1 rfl rfl rfl (by with_reducible rfl)) ?_ (fun K hK => ?_); rotate_left 1; (go_simp; done); go_simp; refine hK _ ?_; clear hK K)
                                | (refine Lx.lex_read (v := ?_) rfl (by first | exact Lx.w0 rfl | exact Lx.w1 rfl rfl rfl (by with_reducible rfl)) ?_ (fun K hK => ?_); rotate_left 1; (go_simp; with_reducible rfl); go_simp; refine hK _ ?_; clear hK K)
                                | (refine Lx.lex_eff rfl (by first | exact Lx.w0 rfl | exact Lx.w1 rfl rfl rfl (by with_reducible rfl)) (fun K hK => ?_); go_simp; (first | (go_at_call 24; refine HH5.out.mono ?_; rintro e U7 ⟨rfl, hu7⟩) | skip); refine hK _ _ (trivial) ?_; clear hK K)
                                | (refine Lx.lex_cases rfl rfl rfl (fun hgd K hK => ?_) (fun hgd K hK => ?_) <;> (try simp only [decide_eq_true_eq, decide_eq_false_iff_not] at hgd) <;> (first | (exfalso; omega) | (go_simp; refine hK _ ?_; clear hK K))))
                              all_goals (refine Lx.lex_nil ?_)
                              have HBW := Lib.hid (HBU.out.drew.trans (hu7.mono (by simpa using HBU.out.size)))
                              clear hu7 HH5
                              go_wp2_with fail
                              go_roundw
                              case rel => exact ⟨q + 1, hlt3, by go_num, HBW.out⟩
                              case measure => simp [intOf]; omega
                          · obtain rfl : q = nx.length := by omega
                            clear hB
                            go_wp2_with fail
                            go_roundw
                            case rel => exact ⟨k + 1, hlt2, by go_num, HBQ.out⟩
                            case measure => simp [intOf]; omega
                      · obtain rfl : k = nx.length := by omega
                        have HBX := Lib.hid ((HK4.out.keep hB).below)
                        clear hB
                        go_wp2_with fail
                        go_roundw
                        case rel => exact ⟨v + 1, hlt, by go_num, HBV.out.trans (HBX.out.mono HBV.out.size)⟩
                        case measure => simp [intOf]; omega
                  · obtain rfl : v = n := by omega
                    have HB6 := Lib.hid (HQ6.out.keep hB).below
                    clear hB
                    go_wp2_with fail
                    refine (known_any _ (HT.out.keep HB6.out)).mono ?_
                    rintro e W7 ⟨rfl, hb7⟩
                    have HB7 := Lib.hid (HB6.out.trans (hb7.mono HB6.out.size))
                    clear hb7
                    go_wp2_with fail
                    go_ret
                    exact ⟨rfl, HB7.out⟩
          · rw [if_pos hl] at HO
            have HO2 := Lib.hid (HO.out wr (Below.refl _ _))
            have hC0 : (0 : Int) < (C.length : Int) := by omega
            have hcn : ¬ cs.length = n := fun e => ha (HCY.out.2 e)
            have hcn2 : (cs.length : Int) < (n : Int) := by omega
            have hC1 : 0 < C.length := by omega
            have hC1' : decide (0 < C.length) = true := decide_eq_true hC1
            have HAT := Lib.hid (fun i x y (hx : C[i]? = some x) (hy : C[(i + 1) % C.length]? = some y) => ed_arcF (by rw [graphOf_len]; omega) (graphOf_in n B) (cyc_at ht0 hta hx hy))
            clear ho1 ho2 ha hl hta ht0 HO hcn
            go_wp2_with fail
            refine HO2.out.mono ?_
            rintro e W4 ⟨v1, v2, rfl, ho1, ho2, hb4⟩
            dsimp only at ho1 ho2
            rw [zs_len] at ho2
            obtain ⟨A1, c1, rfl, _⟩ := row1_of_own ho1
            have HQ4 := Lib.hid ((HP.out.pushRow hb4 ho2).perm List.perm_append_comm)
            obtain ⟨A2, c2, rfl, _⟩ := row1_of_own ho2
            have HG4 := Lib.hid (HG.out.keep hb4)
            clear ho1 ho2 hb4 HO2 HG HP
            go_wp2_with fail
            go_loopw [16] (fun i wr => ∃ k : Nat, k ≤ C.length ∧ i = .int .i64 k ∧ Below W4.heap.size W4 wr) (fun i _ => C.length - (intOf i).toNat)
            case atStart => exact ⟨0, Nat.zero_le _, rfl, Below.refl _ _⟩
            case round =>
              obtain ⟨k, hk, rfl, hB⟩ := hrel
              have HB := Lib.hid hB
              have HQ5 := Lib.hid (HQ4.out.keep hB)
              by_cases hlt : k < C.length
              · have i1 : (k : Int) < (C.length : Int) := by omega
                obtain ⟨x, hx⟩ : ∃ x, C[k]? = some x := ⟨_, List.getElem?_eq_getElem hlt⟩
                obtain ⟨j, hj⟩ : ∃ j, (k + 1) % C.length = j := ⟨_, rfl⟩
                have hjl : j < C.length := by rw [← hj]; exact Nat.mod_lt _ (by omega)
                obtain ⟨y, hy⟩ : ∃ y, C[j]? = some y := ⟨_, List.getElem?_eq_getElem hjl⟩
                have HAR := ghasarc_any x y wr.drew (HG4.out.keep hB.drew)
                rw [HAT.out k x y hx (by rw [hj]; exact hy)] at HAR
                have HAR := Lib.hid HAR
                obtain ⟨g5, d5, e5, z0, z1, z2⟩ := HQ5.out.at 0 k rfl (show ((zs C).map intV)[k]? = some (.int .i64 (x : Int)) by unfold zs; rw [List.getElem?_map, List.getElem?_map, hx]; rfl)
                injection e5 with e5 _ e5c
                subst e5 e5c
                obtain ⟨g6, d6, e6, q0, q1, q2⟩ := HQ5.out.at 0 j rfl (show ((zs C).map intV)[j]? = some (.int .i64 (y : Int)) by unfold zs; rw [List.getElem?_map, List.getElem?_map, hy]; rfl)
                injection e6 with e6 _ e6c
                injection e6 with e6
                injection e6 with e6
                subst e6 e6c
                have w1 : IntKind.i64.wrap ((k : Int) + 1) = (k : Int) + 1 := IntWalk.i64_in _ (by omega)
                have w2 : ((k : Int) + 1).tmod (C.length : Int) = (j : Int) := by
                  rw [Int.tmod_eq_emod_of_nonneg (by omega), ← hj]
                  push_cast
                  rfl
                have w3 : ¬ C = [] := fun e => by rw [e] at hlt; simp at hlt
                have w5 : (j : Int) < (C.length : Int) := by omega
                clear hB hx hy hj
                go_wp2_with fail
                refine Lx.region (C := fun _ => True) (hs := []) (by kernel_rfl) (by kernel_rfl) trivial ?_
                repeat' (first
                  | (refine Lx.lex_no (Lx.n1 rfl rfl rfl (by with_reducible rfl)) (fun K hK => ?_); go_simp; refine hK _ ?_; clear hK K)
                  | (refine Lx.lex_no (Lx.n0 rfl rfl rfl (by with_reducible rfl)) (fun K hK => ?_); go_simp; refine hK _ ?_; clear hK K)
                  | (refine Lx.lex_no (Lx.n2 rfl rfl rfl) (fun K hK => ?_); go_simp; refine hK _ ?_; clear hK K)
                  | (refine Lx.lex_pure (v := ?_) rfl (by first | exact Lx.w0 rfl | exact Lx.w1 rfl rfl rfl (by with_reducible rfl)) ?_ (fun K hK => ?_); rotate_left 1; (intro w' hCw; (try dsimp only at hCw); go_simp; done); go_simp; refine hK _ ?_; clear hK K)
                  | (refine Lx.lex_pure (v := ?_) rfl (by first | exact Lx.w0 rfl | exact Lx.w1 rfl rfl rfl (by with_reducible rfl)) ?_ (fun K hK => ?_); rotate_left 1; (intro w' hCw; (try dsimp only at hCw); go_simp; with_reducible rfl); go_simp; refine hK _ ?_; clear hK K)
                  | (refine Lx.lex_read (v := ?_) rfl (by first | exact Lx.w0 rfl | exact Lx.w1 rfl rfl rfl (by with_reducible rfl)) ?_ (fun K hK => ?_); rotate_left 1; (go_simp; done); go_simp; refine hK _ ?_; clear hK K)
                  | (refine Lx.lex_read (v := ?_) rfl (by first | exact Lx.w0 rfl | exact Lx.w1 rfl rfl rfl (by with_reducible rfl)) ?_ (fun K hK => ?_); rotate_left 1; (go_simp; with_reducible rfl); go_simp; refine hK _ ?_; clear hK K)
                  | (refine Lx.lex_eff rfl (by first | exact Lx.w0 rfl | exact Lx.w1 rfl rfl rfl (by with_reducible rfl)) (fun K hK => ?_); go_simp; (first | (go_at_call 17; refine HAR.out.mono ?_; rintro e w7 ⟨rfl, hb7⟩) | skip); refine hK _ _ (trivial) ?_; clear hK K)
                  | (refine Lx.lex_cases rfl rfl rfl (fun hgd K hK => ?_) (fun hgd K hK => ?_) <;> (try simp only [decide_eq_true_eq, decide_eq_false_iff_not] at hgd) <;> (first | (exfalso; omega) | (go_simp; refine hK _ ?_; clear hK K))))
                all_goals (refine Lx.lex_nil ?_)
                have HB7 := Lib.hid (HB.out.drew.trans (hb7.mono (by simpa using HB.out.size)))
                clear hb7 HAR
                go_wp2_with fail
                go_roundw
                case rel => exact ⟨k + 1, hlt, by go_num, HB7.out⟩
                case measure => simp [intOf]; omega
              · obtain rfl : k = C.length := by omega
                have HB6 := Lib.hid (HQ5.out.below)
                clear hB
                go_wp2_with fail
                refine (known_any _ (HT.out.keep HB6.out)).mono ?_
                rintro e W7 ⟨rfl, hb7⟩
                have HB7 := Lib.hid (HB6.out.trans (hb7.mono HB6.out.size))
                clear hb7
                go_wp2_with fail
                go_ret
                exact ⟨rfl, HB7.out⟩
set_option maxRecDepth 100000 in
theorem digraphTheory_out (w : World) (hT : Tab w) (n : Int) (A : Option Addr) (m c : Nat) (h : ¬ (0 ≤ n ∧ n ≤ 20 ∧ (m : Int) ≤ 40)) :
    Calls Tryd.prog 8 #[.int .i64 n, .slice A m c] w fun e w' => e = .returned (.bool true) ∧ Below w.heap.size w w' := by
  have HK := Lib.hid (known_any w hT)
  clear hT
  by_cases h0 : n < 0
  · clear h
    go_enter Tryd.func8, Tryd.ntmps8
    go_wp2_with fail
    refine HK.out.mono ?_
    rintro e W1 ⟨rfl, hb1⟩
    have HB1 := Lib.hid hb1
    clear hb1
    go_wp2_with fail
    go_ret
    exact ⟨rfl, HB1.out⟩
  · by_cases h1 : 20 < n
    · clear h
      go_enter Tryd.func8, Tryd.ntmps8
      go_wp2_with fail
      refine HK.out.mono ?_
      rintro e W1 ⟨rfl, hb1⟩
      have HB1 := Lib.hid hb1
      clear hb1
      go_wp2_with fail
      go_ret
      exact ⟨rfl, HB1.out⟩
    · have h2 : (40 : Int) < (m : Int) := by omega
      clear h
      go_enter Tryd.func8, Tryd.ntmps8
      go_wp2_with fail
      refine HK.out.mono ?_
      rintro e W1 ⟨rfl, hb1⟩
      have HB1 := Lib.hid hb1
      clear hb1
      go_wp2_with fail
      go_ret
      exact ⟨rfl, HB1.out⟩
theorem digraphTheory_walk (w : World) (hT : Tab w) (n : Int) (_ : I64 n) (A : Option Addr) (m c : Nat) (l : List (Int × Int)) (hl : RowS 2 arcV w w.heap.size A m l ∧ m ≤ 9223372036854775807) :
    Calls Tryd.prog 8 #[.int .i64 n, .slice A m c] w fun e w' => e = .returned (.bool true) ∧ Below w.heap.size w w' := by
  by_cases h : 0 ≤ n ∧ n ≤ 20 ∧ (m : Int) ≤ 40
  · obtain ⟨k, rfl⟩ : ∃ k : Nat, n = (k : Int) := ⟨n.toNat, by omega⟩
    exact digraphTheory_in w hT k A m c l hl.1 (by omega) (by omega)
  · exact digraphTheory_out w hT n A m c h

set_option maxRecDepth 100000 in
theorem digraphTheory_lifted (os : Os) (started : os.Started) (H : Type) (enc : TypeId × Value → H) :
    ReturnsInHanded {} Tryd.checked os 8 .any (fun w args => (Rows.digraphTheorySpec.pre enc Tryd.prog Tryd.f8 [] false w args ∧ laidMetH Tryd.prog laid07 w) ∧ sizedMet enc Tryd.prog Tryd.f8 (OpenSpec.ofChange Rows.digraphTheorySpec) false w args) (Rows.digraphTheorySpec.post enc Tryd.prog Tryd.f8 false true false false) := by
  refine handed_laid (C := Tryd.checked) (laid := laid07) own started (by kernel_rfl) Tryd.func8
    (ChangeSpec.witness_shaped (enc := enc) (C := Tryd.checked) (os := os) (X := fun w _ => laidMetH Tryd.prog laid07 w) false (World.laidAll Tryd.prog os laid07) #[.int .i64 0, .slice none 0 0] 8 (World.laidAll_os _ _ _) (World.shaped_of_ZipB (by kernel_rfl) (by kernel_rfl)) (by kernel_rfl) (by kernel_rfl) (by kernel_rfl) (laidHold os _)) ?_
  intro W base args ds gs before hval0 hW hL hsh
  have hTab := tab_of hL hsh
  have hval : ∀ (j : Nat) t v, Tryd.f8.params[j]? = some t → args[j]? = some v → Value.okWide Tryd.prog W .any base t v := hval0
  have hW' := hW
  obtain ⟨p, q, hA0, hV, rfl, hfz, hnd⟩ := hW
  have hA : DataW.TrodAll enc Tryd.prog W 0 (fun _ => true) true Tryd.f8.params.toList args.toList ds p := hA0
  rw [Tryd.params8] at hA hval
  obtain ⟨v0, vs0, d0, ds0, p0, q0, hargs, rfl, rfl, h0, r0⟩ := trodAll_cons hA
  obtain ⟨v1, vs1, d1, ds1, p1, q1, rfl, rfl, rfl, h1, r1⟩ := trodAll_cons r0
  obtain ⟨rfl, rfl, rfl⟩ := trodAll_nil r1
  obtain rfl : args = #[v0, v1] := by cases args; simp_all
  obtain ⟨rfl, rfl⟩ := trodVars_none hV
  have k0 := h0
  have lt0 : ∀ x ∈ p0, x.block < W.heap.size := by obtain ⟨m, hm⟩ := k0; exact DataW.trod_lt m _ _ _ hm
  have k1 := h1
  have lt1 : ∀ x ∈ p1, x.block < W.heap.size := by obtain ⟨m, hm⟩ := k1; exact DataW.trod_lt m _ _ _ hm
  obtain ⟨x0, rfl, b0⟩ := arg_int Tryd.underlying3 (hval 0 3 _ rfl rfl) h0
  obtain ⟨A1, n1, c1, xs1, rfl, R1⟩ := arg_arcs (hval 1 22 _ rfl rfl) h1
  clear hA0 hval0
  refine (digraphTheory_walk W hTab x0 b0 A1 n1 c1 xs1 R1).mono fun e W' ⟨he, bel⟩ => ?_
  subst he
  exact ⟨_, rfl, _, _, _, [], _, [], hW', trodAll_mk1 (shut_bool Tryd.underlying4 _), (trodAll_cons_mk (Below.trod laidOut (by kernel_rfl) (of_decide_eq_true (by kernel_rfl)) k0 bel lt0) (trodAll_cons_mk (Below.trod laidOut (by kernel_rfl) (of_decide_eq_true (by kernel_rfl)) k1 bel lt1) trodAll_mk0)), rfl, bel.frame _, fun h => by cases h⟩

theorem digraphTheory_over : Rows.digraphTheoryRow.holds Tryd.pinned (OpenSpec.ofChange Rows.digraphTheorySpec) :=
  OpenClaim.holds_of_wide 8 Tryd.f8 rfl rfl rfl rfl rfl rfl rfl ⟨rfl, rfl, rfl, rfl, rfl⟩ rfl rfl rfl rfl rfl (by kernel_rfl) Tryd.func8 (by kernel_rfl)
    (of_decide_eq_true (by kernel_rfl)) (by unfold Func.isWrapper; first | (rw [if_pos (by decide +kernel)]; kernel_rfl) | (rw [if_neg (by decide +kernel)]; exact ⟨rfl, rfl⟩))
    (fun os started H enc _ => digraphTheory_lifted os started H enc)

theorem digraphTheoryCard_holds : Rows.DigraphTheoryCardSaid :=
  Claim7.holds_tied_plain_at .later [] [.data, .data, .data] true (true, "dec048aedef4f191fc220134fd400c69f28150d87cfbdac39091d757f58f0cd7") false
    digraphTheory_over (fun _ h => by cases h) (by kernel_rfl) (fun _ h => by cases h) digraphTheory_row_tie rfl ⟨rfl, rfl⟩ (by kernel_rfl) rfl
    (fun f fn hf hfn => by
      obtain rfl : f = 8 := Option.some.inj ((show Tryd.prog.funcNamed "bandplan/bandplanlaw09.DigraphTheory" = some 8 by kernel_rfl).symm.trans hf) |>.symm
      obtain rfl : fn = Tryd.f8 := (Option.some.inj (Tryd.func8.symm.trans hfn)).symm
      exact ⟨by kernel_rfl, fun j t ht => by
        rw [Tryd.params8] at ht
        rcases j with _ | j
        · obtain rfl : t = 3 := by simpa using ht.symm
          exact (show Tryd.prog.wantsStandIn 3 = false by kernel_rfl)
        rcases j with _ | j
        · obtain rfl : t = 22 := by simpa using ht.symm
          exact (show Tryd.prog.wantsStandIn 22 = false by kernel_rfl)
        · simp at ht⟩)
    (by kernel_rfl)
#print axioms digraphTheoryCard_holds
end Go.Proofs.YtpaakgngoocjeaaDoor
