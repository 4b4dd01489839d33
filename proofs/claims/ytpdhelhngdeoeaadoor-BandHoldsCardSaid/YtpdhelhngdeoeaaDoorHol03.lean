/- BandHolds: an assignment of the problem for a target is one for every target that clears fewer channels, and one of the limited problem. -/
import Derived.Test.YtpdhelhngdeoeaaDoorLim22
import Derived.Test.YtpdhelhngdeoeaaDoorHol02
namespace Go.Proofs.YtpdhelhngdeoeaaDoor
open Go.RowKit Go.ChangeShapes Go.WideShapes Go.ChangeAt Go.Deep Go.Joins

/-- a box with a problem -/
def PBox (X : World) (g : Nat) (s : PrbS) (es : List Dom) (r : Rul) : Prop := Blk X g 29 (ss4 s) ∧ PrbAt X X.heap.size s es r
theorem PBox.keep {X Y : World} {g : Nat} {s : PrbS} {es : List Dom} {r : Rul} (h : PBox X g s es r) (hb : Below X.heap.size X Y) : PBox Y g s es r := ⟨h.1.keep hb, h.2.keep hb⟩
theorem PBox.cells {X : World} {g : Nat} {s : PrbS} {es : List Dom} {r : Rul} (h : PBox X g s es r) : X.cell? ⟨g, 0, none⟩ = some (.slice s.ad s.nd s.cd) ∧ X.cell? ⟨g, 1, none⟩ = some (.slice s.rs.a0 s.rs.n0 s.rs.c0) ∧ X.cell? ⟨g, 2, none⟩ = some (.slice s.rs.a1 s.rs.n1 s.rs.c1) ∧ X.cell? ⟨g, 3, none⟩ = some (.slice s.rs.a2 s.rs.n2 s.rs.c2) ∧ g < X.heap.size :=
  ⟨h.1.cell rfl, h.1.cell rfl, h.1.cell rfl, h.1.cell rfl, h.1.lt⟩
def TBox (X : World) (g : Nat) (t : Int) : Prop := Blk X g 40 [.int .i64 t]
theorem TBox.keep {X Y : World} {g : Nat} {t : Int} (h : TBox X g t) (hb : Below X.heap.size X Y) : TBox Y g t := Blk.keep h hb
theorem tbox_two (W : World) (x y : Int) : TBox (((W.alloc (.cells #[.int .i64 x] 40)).alloc (.cells #[.int .i64 y] 40))) W.heap.size x ∧ TBox (((W.alloc (.cells #[.int .i64 x] 40)).alloc (.cells #[.int .i64 y] 40))) (W.heap.size + 1) y := by
  refine ⟨Blk.alloc (blk_new W [.int .i64 x] _) _, ?_⟩
  have := blk_new (W.alloc (.cells #[.int .i64 x] 40)) [.int .i64 y] 40
  rwa [World.size_alloc] at this
def keyArr : Array Value := #[.int .i64 24, .int .i64 23, .int .i64 21, .int .i64 19, .int .i64 18, .int .i64 14, .int .i64 13, .int .i64 12, .int .i64 10, .int .i64 8, .int .i64 7]
theorem key_cell (W : World) (e : Nat) (he : e < 11) : (W.alloc (.cells #[.int .i64 24, .int .i64 23, .int .i64 21, .int .i64 19, .int .i64 18, .int .i64 14, .int .i64 13, .int .i64 12, .int .i64 10, .int .i64 8, .int .i64 7] 3)).cell? ⟨W.heap.size, e, none⟩ = some (.int .i64 (keyE e)) := by
  obtain ⟨b, off, hA, _, hc⟩ := (cleared_row W).2 (by decide)
  cases hA
  have := hc e (keyE e) (keysL_at ⟨e, he⟩)
  rw [Nat.zero_add] at this
  exact this
theorem prb_valid {ds : List Dom} {r : Rul} {e : Nat} (h1 : vbGo none ds = true) (h2 : rulesF r = true) (he : e < 11) (hn : ds.length ≤ 512) {es : List Dom} (hs : es.map Dom.say = ds.map (domOf (keyE e))) (hl : ∀ d ∈ es, d.len = d.chs.length) : validR es (keepR (ds.map Dom.st) r) = true ∧ validP es (keepR (ds.map Dom.st) r) = true := by
  have h3 := prob_valid h1 h2 (key_vld ⟨e, he⟩) hn hs hl
  exact ⟨h3, (valid_eq hl).trans h3⟩
theorem say_st {es : List Dom} {ds : List Dom} {t : Int} (h : es.map Dom.say = ds.map (domOf t)) : es.map Dom.st = ds.map Dom.st := by
  have := congrArg (List.map Prod.fst) h
  rw [List.map_map, List.map_map] at this
  exact this
theorem say_len {es : List Dom} {ds : List Dom} {e : Nat} (he : e < 11) (hv : vbGo none ds = true) (h : es.map Dom.say = ds.map (domOf (keyE e))) : ∀ d ∈ es, d.chs.length ≤ 50 := by
  intro d hd
  have hm : d.say ∈ ds.map (domOf (keyE e)) := by rw [← h]; exact List.mem_map.2 ⟨d, hd, rfl⟩
  obtain ⟨x, hx, hxe⟩ := List.mem_map.1 hm
  have h9 := (bands_chs (key_vld ⟨e, he⟩) (vbGo_bands ds none hv x hx)).2.1
  have h8 : d.chs = (domOf (keyE e) x).2 := by rw [hxe]; rfl
  rw [h8]
  exact h9

set_option maxRecDepth 100000 in
set_option maxHeartbeats 16000000 in
theorem bandHolds_walk (w : World) (hT : Tab w) (A : Option Addr) (n c : Nat) (ds : List Dom) (R0 : DomsAt w w.heap.size A n ds ∧ n ≤ 9223372036854775807) (s : RulS) (r : Rul) (R1 : RulAt w w.heap.size s r) (ai : Int) (_ : I64 ai) (bi : Int) (_ : I64 bi) (Ac : Option Addr) (m cc : Nat) (cs : List (Int × Int)) (R4 : RowS 2 chC w w.heap.size Ac m cs ∧ m ≤ 9223372036854775807) :
    Calls Tryd.prog 4 #[.slice A n c, s.val, .int .i64 ai, .int .i64 bi, .slice Ac m cc] w fun e w' => e = .returned (.bool true) ∧ Below w.heap.size w w' := by
  obtain ⟨A0, n0, c0, A1, n1, c1, A2, n2, c2⟩ := s
  obtain ⟨W0, hW0⟩ : ∃ W0, W0 = w.alloc (.cells #[.slice A0 n0 c0, .slice A1 n1 c1, .slice A2 n2 c2] 27) := ⟨_, rfl⟩
  have HB0 : Hid (Below w.heap.size w W0) := Lib.hid (by rw [hW0]; exact (Below.refl _ w).alloc (Nat.le_refl _) _)
  have hX : Blk W0 w.heap.size 27 [.slice A0 n0 c0, .slice A1 n1 c1, .slice A2 n2 c2] := by rw [hW0]; exact blk_new w _ _
  have HBW : Hid (∀ W, Below W0.heap.size W0 W → Below w.heap.size w W) := Lib.hid (fun W hb => HB0.out.trans (hb.mono HB0.out.size))
  have HTB : Hid (∀ W, Below W0.heap.size W0 W → Tab W) := Lib.hid (fun W hb => hT.keep (HBW.out W hb))
  have HA : Hid (∀ W, Below W0.heap.size W0 W → DomsAt W W.heap.size A n ds ∧ RulAt W W.heap.size ⟨A0, n0, c0, A1, n1, c1, A2, n2, c2⟩ r ∧ RowS 2 chC W W.heap.size Ac m cs ∧ W.cell? ⟨w.heap.size, 0, none⟩ = some (.slice A0 n0 c0) ∧ W.cell? ⟨w.heap.size, 1, none⟩ = some (.slice A1 n1 c1) ∧ W.cell? ⟨w.heap.size, 2, none⟩ = some (.slice A2 n2 c2) ∧ w.heap.size < W.heap.size) := Lib.hid (fun W hb => ⟨(R0.1.keep HB0.out).keep hb, (R1.keep HB0.out).keep hb, (R4.1.keep HB0.out).keep hb, (hX.keep hb).cell rfl, (hX.keep hb).cell rfl, (hX.keep hb).cell rfl, (hX.keep hb).lt⟩)
  have HK := Lib.hid (fun W => known_any W)
  have HTO := Lib.hid (fun n w => to_any n w)
  have HCL := Lib.hid (fun w => cleared_any w)
  have HFW : Hid (Calls Tryd.prog 15 #[.slice A n c, .int .i64 12] W0 fun e w' => e = .returned (.bool (fewF ds)) ∧ W0 = w') := Lib.hid (few_any A n c W0 ds R0.2 (HA.out W0 (Below.refl _ _)).1)
  have HSM : Hid (Calls Tryd.prog 5 #[.agg #[.slice none 0 0, .slice A0 n0 c0, .slice A1 n1 c1, .slice A2 n2 c2], .int .i64 0, .int .i64 40] W0 (RetPost (.bool (smF [] r 0 40)) W0.heap.size W0)) := Lib.hid (small_any ⟨none, 0, 0, ⟨A0, n0, c0, A1, n1, c1, A2, n2, c2⟩⟩ 0 40 W0 [] r (Nat.zero_le _) ⟨⟨RowS.nil _ _ _ _ _, fun d h => by cases h⟩, (HA.out W0 (Below.refl _ _)).2.1⟩)
  have HNL : Eqn ds.length n := R0.1.1.1
  have HML : Eqn cs.length m := R4.1.1
  have HVR : Hid (∀ W, Below W0.heap.size W0 W → Calls Tryd.prog 17 #[.agg #[.slice A0 n0 c0, .slice A1 n1 c1, .slice A2 n2 c2]] W (RetPost (.bool (rulesR r)) W.heap.size W)) := Lib.hid (fun W hb => rrules_any ⟨A0, n0, c0, A1, n1, c1, A2, n2, c2⟩ W r (HA.out W hb).2.1)
  have hml := R4.2
  obtain ⟨_, _, _, q0, q1, q2, q4⟩ := HA.out W0 (Below.refl _ _)
  have B0 := Lib.hid (Below.refl W0.heap.size W0)
  unfold RulS.val
  dsimp only
  clear R0 R1 R4 hX hT
  go_enter Tryd.func4, Tryd.ntmps4
  go_upto_region 1 with fail
  rw [← hW0]
  clear hW0
  go_cut [63] from 27 (fun s63 wx => ∃ G : Bool, s63 = .bool (!G) ∧ (G = true → fewF ds = true ∧ smF [] r 0 40 = true ∧ 0 ≤ ai ∧ ai < bi ∧ bi ≤ 10 ∧ m ≤ 20 ∧ vbGo none ds = true ∧ rulesR r = true) ∧ Below W0.heap.size W0 wx)
  case first =>
    as_aux_lemma =>
      go_wp2_with fail
      refine HFW.out.mono ?_
      rintro e wz ⟨rfl, rfl⟩
      cases hfew : fewF ds with
      | false =>
        go_wp2_with fail
        go_meet
        exact ⟨false, rfl, (fun h => by cases h), B0.out⟩
      | true =>
        have HFEW := Eqn.mk hfew
        have hnl : n ≤ 12 := by have := (fewF_spec hfew).1; have := HNL.out; omega
        have HVB : Hid (∀ W, Below W0.heap.size W0 W → Calls Tryd.prog 16 #[.slice A n c] W (RetPost (.bool (vbGo none ds)) W.heap.size W)) := Lib.hid (fun W hb => rvb_any A n c W ds (by omega) (fun d hd => Nat.le_trans ((fewF_spec HFEW.out).2 d hd) (by decide)) (HA.out W hb).1)
        clear hfew
        go_wp2_with fail
        refine HSM.out.mono ?_
        rintro e W1 ⟨rfl, hb1⟩
        have HB1 := Lib.hid hb1
        clear q0 q1 q2 q4
        cases hsm : smF [] r 0 40 with
        | false =>
          clear hb1
          go_wp2_with fail
          go_meet
          exact ⟨false, rfl, (fun h => by cases h), HB1.out⟩
        | true =>
          have HSMT := Eqn.mk hsm
          obtain ⟨_, _, _, q0, q1, q2, q4⟩ := HA.out W1 hb1
          clear hsm hb1
          by_cases g1 : ai < 0
          · have d1 : decide (ai < 0) = true := decide_eq_true g1
            clear g1
            go_wp2_with fail
            go_meet
            exact ⟨false, rfl, (fun h => by cases h), HB1.out⟩
          have d1 : decide (ai < 0) = false := decide_eq_false g1
          by_cases g2 : bi ≤ ai
          · have d2 : decide (bi ≤ ai) = true := decide_eq_true g2
            clear g1 g2
            go_wp2_with fail
            go_meet
            exact ⟨false, rfl, (fun h => by cases h), HB1.out⟩
          have d2 : decide (bi ≤ ai) = false := decide_eq_false g2
          by_cases g3 : 10 < bi
          · have d3 : decide (10 < bi) = true := decide_eq_true g3
            clear g1 g2 g3
            go_wp2_with fail
            go_meet
            exact ⟨false, rfl, (fun h => by cases h), HB1.out⟩
          have d3 : decide (10 < bi) = false := decide_eq_false g3
          by_cases g4 : 20 < m
          · have d4 : decide (20 < (m : Int)) = true := decide_eq_true (by omega)
            clear g1 g2 g3 g4
            go_wp2_with fail
            go_meet
            exact ⟨false, rfl, (fun h => by cases h), HB1.out⟩
          have d4 : decide (20 < (m : Int)) = false := decide_eq_false (by omega)
          have HG : Hid (0 ≤ ai ∧ ai < bi ∧ bi ≤ 10 ∧ m ≤ 20) := Lib.hid ⟨by omega, by omega, by omega, by omega⟩
          clear g1 g2 g3 g4
          go_wp2_with fail
          refine (HVB.out _ HB1.out).mono ?_
          rintro e Wa ⟨rfl, hba⟩
          have HBa := Lib.hid (HB1.out.trans (hba.mono HB1.out.size))
          clear hba q0 q1 q2 q4
          cases hv : vbGo none ds with
          | false =>
            go_wp2_with fail
            go_meet
            exact ⟨false, rfl, (fun h => by cases h), HBa.out⟩
          | true =>
            have HVT := Eqn.mk hv
            obtain ⟨_, _, _, q0, q1, q2, q4⟩ := HA.out Wa HBa.out
            clear hv
            go_wp2_with fail
            refine (HVR.out _ HBa.out).mono ?_
            rintro e Wb ⟨rfl, hbb⟩
            have HBb := Lib.hid (HBa.out.trans (hbb.mono HBa.out.size))
            clear hbb q0 q1 q2 q4
            cases hr : rulesR r with
            | false =>
              go_wp2_with fail
              go_meet
              exact ⟨false, rfl, (fun h => by cases h), HBb.out⟩
            | true =>
              have HRT := Eqn.mk hr
              clear hr
              go_wp2_with fail
              go_meet
              exact ⟨true, rfl, fun _ => ⟨HFEW.out, HSMT.out, HG.out.1, HG.out.2.1, HG.out.2.2.1, HG.out.2.2.2, HVT.out, HRT.out⟩, HBb.out⟩
  case rest =>
    obtain ⟨G, rfl, hG, hbx⟩ := hcut
    obtain ⟨W1, rfl⟩ : ∃ W1 : World, W1 = wc := ⟨_, rfl⟩
    have HB1 := Lib.hid hbx
    clear hbx q0 q1 q2 q4 HFW HSM HVR
    cases G with
    | false =>
      clear hG
      go_wp2_with fail
      refine (HK.out _).mono ?_
      rintro e W2 ⟨rfl, hb2⟩
      have HB2 := Lib.hid (HB1.out.trans (hb2.mono HB1.out.size))
      clear hb2
      go_wp2_with fail
      go_ret
      exact ⟨rfl, HBW.out _ HB2.out⟩
    | true =>
      obtain ⟨hfew, hsm, ha0, hab, hb10, hm20, hvb, hrr⟩ := hG rfl
      clear hG
      obtain ⟨ea, rfl⟩ : ∃ ea : Nat, ai = (ea : Int) := ⟨ai.toNat, by omega⟩
      obtain ⟨eb, rfl⟩ : ∃ eb : Nat, bi = (eb : Int) := ⟨bi.toNat, by omega⟩
      have hea : ea < 11 := by omega
      have heb : eb < 11 := by omega
      have hlt : ea < eb := by omega
      have HF := Lib.hid (fewF_spec hfew)
      have hnl : n ≤ 12 := by have := HF.out.1; have := HNL.out; omega
      have HVB := Eqn.mk hvb
      have HRU : Eqn (rulesF r) true := (rules_eq r).symm.trans hrr
      have HPR : Hid (∀ (e : Nat) W, e < 11 → Below W0.heap.size W0 W → Calls Tryd.prog 19 #[.slice A n c, .agg #[.slice A0 n0 c0, .slice A1 n1 c1, .slice A2 n2 c2], .agg #[.int .i64 (keyE e)]] W (fun e' w' => ∃ s es, e' = .returned (.tuple #[PrbS.val s, .int .i64 0]) ∧ PrbAt w' w'.heap.size s es (keepR (ds.map Dom.st) r) ∧ es.map Dom.say = ds.map (domOf (keyE e)) ∧ Below W.heap.size W w')) := Lib.hid (fun e W he hb => by
        have h := problem_any A n c ⟨A0, n0, c0, A1, n1, c1, A2, n2, c2⟩ (keyE e) W ds r (by omega) (fun d hd => Nat.le_trans (HF.out.2 d hd) (by decide)) (HA.out W hb).1 (HA.out W hb).2.1
        have hpf : probF ds r (keyE e) = ((ds.map (domOf (keyE e)), keepR (ds.map Dom.st) r), 0) := by rw [probF, if_pos ⟨HVB.out, HRU.out, key_vld ⟨e, he⟩⟩, keep_agree HVB.out]
        rw [hpf] at h
        exact h)
      have HBLK : Hid (∀ (e : Nat) W, e < 11 → Calls Tryd.prog 20 #[.agg #[.int .i64 (keyE e)]] W (fun e' w' => e' = .returned (.tuple #[.int .i64 (12 - (e : Int)), .int .i64 0]) ∧ Below W.heap.size W w')) := Lib.hid (fun e W he => by
        have h := bblocks_any (keyE e) W
        rw [key_blk ⟨e, he⟩] at h
        exact h)
      have HLM : Hid (∀ (sx : PrbS) (xs : List Dom) (e f : Nat) W, e < 11 → f < 11 → Below W0.heap.size W0 W → PrbAt W W.heap.size sx xs (keepR (ds.map Dom.st) r) → xs.map Dom.say = ds.map (domOf (keyE f)) → Calls Tryd.prog 9 #[sx.val, .agg #[.int .i64 (keyE e)]] W (fun e' w' => ∃ s es, e' = .returned (.tuple #[PrbS.val s, .int .i64 0]) ∧ PrbAt w' w'.heap.size s es (keepR (ds.map Dom.st) r) ∧ es.map Dom.say = ds.map (domOf (keyE (min e f))) ∧ Below W.heap.size W w')) := Lib.hid (fun sx xs e f W he hf hb hp hs => by
        have hel : ∀ d ∈ xs, d.len = d.chs.length := fun d hd => (hp.1.2 d hd).1.symm
        have hln := say_len hf HVB.out hs
        have hxl : xs.length = ds.length := by have := congrArg List.length hs; simpa using this
        have hsn : sx.nd = xs.length := hp.1.1.1.symm
        have hv := prb_valid HVB.out HRU.out hf (by have := HF.out.1; omega) hs hel
        have h := limit_any sx (keyE e) W (HTB.out W hb) xs (keepR (ds.map Dom.st) r) (by have := HF.out.1; omega) (fun d hd => by have := hel d hd; have := hln d hd; omega) hp
        have hlf : limF xs (keepR (ds.map Dom.st) r) (keyE e) = ((ds.map (domOf (keyE (min e f))), keepR (ds.map Dom.st) r), 0) := by
          rw [limF, if_pos ⟨hv.2, key_vld ⟨e, he⟩⟩]
          congr 2
          rcases Nat.le_total e f with hef | hef
          · rw [Nat.min_eq_left hef]; exact lim_two hef hf HVB.out hs
          · rw [Nat.min_eq_right hef]; exact lim_less hef he HVB.out hs
        rw [hlf] at h
        refine h.mono ?_
        rintro e' w' ⟨s, es, h1, h2, h3, h4⟩
        exact ⟨s, es, h1, h2.at, h3, h4⟩)
      have HVL : Hid (∀ (sx : PrbS) (xs : List Dom) (f : Nat) W, f < 11 → PrbAt W W.heap.size sx xs (keepR (ds.map Dom.st) r) → xs.map Dom.say = ds.map (domOf (keyE f)) → Calls Tryd.prog 11 #[sx.val] W (RetPost (.bool true) W.heap.size W)) := Lib.hid (fun sx xs f W hf hp hs => by
        have hel : ∀ d ∈ xs, d.len = d.chs.length := fun d hd => (hp.1.2 d hd).1.symm
        have hxl : xs.length = ds.length := by have := congrArg List.length hs; simpa using this
        have hsn : sx.nd = xs.length := hp.1.1.1.symm
        have hv := prb_valid HVB.out HRU.out hf (by have := HF.out.1; omega) hs hel
        have h := rvalid_any sx W xs (keepR (ds.map Dom.st) r) (by have := HF.out.1; omega) hp
        rw [hv.1] at h
        exact h)
      have HSE : Hid (∀ (sx sy : PrbS) (xs ys : List Dom) (f : Nat) W, f < 11 → PrbAt W W.heap.size sx xs (keepR (ds.map Dom.st) r) → PrbAt W W.heap.size sy ys (keepR (ds.map Dom.st) r) → xs.map Dom.say = ds.map (domOf (keyE f)) → ys.map Dom.say = ds.map (domOf (keyE f)) → Calls Tryd.prog 13 #[sx.val, sy.val] W (RetPost (.bool true) W.heap.size W)) := Lib.hid (fun sx sy xs ys f W hf hp hq hs ht => by
        have hel : ∀ d ∈ xs, d.len = d.chs.length := fun d hd => (hp.1.2 d hd).1.symm
        have hln := say_len hf HVB.out hs
        have hxl : xs.length = ds.length := by have := congrArg List.length hs; simpa using this
        have hsn : sx.nd = xs.length := hp.1.1.1.symm
        exact rsame_any sx sy W xs ys _ (by have := HF.out.1; omega) (fun d hd => by have := hel d hd; have := hln d hd; omega) hp hq (hs.trans ht.symm))
      have HFN : Hid (∀ (sx : PrbS) (xs : List Dom) (f : Nat) W, f < 11 → Below W0.heap.size W0 W → PrbAt W W.heap.size sx xs (keepR (ds.map Dom.st) r) → xs.map Dom.say = ds.map (domOf (keyE f)) → Calls Tryd.prog 21 #[sx.val, .slice Ac m cc] W (RetPost (.bool (fineF xs (keepR (ds.map Dom.st) r) cs)) W.heap.size W)) := Lib.hid (fun sx xs f W hf hb hp hs => by
        have hel : ∀ d ∈ xs, d.len = d.chs.length := fun d hd => (hp.1.2 d hd).1.symm
        have hln := say_len hf HVB.out hs
        have hxl : xs.length = ds.length := by have := congrArg List.length hs; simpa using this
        have hsn : sx.nd = xs.length := hp.1.1.1.symm
        exact rfine_any sx Ac m cc W xs _ cs (by omega) (by have := HF.out.1; omega) (HA.out W hb).2.2.1 hp (fun d hd => by have := hel d hd; have := hln d hd; omega))
      have HVK : Hid (∀ (xs : List Dom) (f : Nat), f < 11 → xs.map Dom.say = ds.map (domOf (keyE f)) → (∀ d ∈ xs, d.len = d.chs.length) → validR xs (keepR (ds.map Dom.st) r) = true) := Lib.hid (fun xs f hf hs hel => (prb_valid HVB.out HRU.out hf (by have := HF.out.1; omega) hs hel).1)
      generalize keepR (ds.map Dom.st) r = KR at *
      clear hfew hsm ha0 hab hb10 hvb hrr
      go_upto_region 3 with fail
      go_cut [11, 12] from 64 (fun s11 s12 wx => ∃ g11 g12, s11 = .pointer (some ⟨g11, 0, none⟩) ∧ s12 = .pointer (some ⟨g12, 0, none⟩) ∧ TBox wx g11 (keyE ea) ∧ TBox wx g12 (keyE eb) ∧ Below W1.heap.size W1 wx)
      case first =>
        as_aux_lemma =>
          go_wp2_with fail
          refine (HCL.out _).mono ?_
          rintro e V1 ⟨rfl, hV1⟩
          have k1 := key_cell W1 ea hea
          rw [← hV1] at k1
          have l1 : W1.heap.size < V1.heap.size := by rw [hV1]; simp
          have HV1 : Hid (Below W1.heap.size W1 V1) := Lib.hid (by rw [hV1]; exact (Below.refl _ _).alloc (Nat.le_refl _) _)
          clear hV1
          have i1 : (ea : Int) < 11 := by omega
          have i2 : (eb : Int) < 11 := by omega
          go_wp2_with fail
          refine (HTO.out _ _).mono ?_
          rintro e V2 ⟨rfl, hb2⟩
          have HV2 := Lib.hid (HV1.out.trans (hb2.mono HV1.out.size))
          clear hb2 k1 l1
          go_wp2_with fail
          refine (HCL.out _).mono ?_
          rintro e V3 ⟨rfl, hV3⟩
          have k2 := key_cell V2 eb heb
          rw [← hV3] at k2
          have l2 : V2.heap.size < V3.heap.size := by rw [hV3]; simp
          have HV3 : Hid (Below W1.heap.size W1 V3) := Lib.hid (by rw [hV3]; exact HV2.out.alloc HV2.out.size _)
          clear hV3
          go_wp2_with fail
          refine (HTO.out _ _).mono ?_
          rintro e V4 ⟨rfl, hb4⟩
          have HV4 := Lib.hid (HV3.out.trans (hb4.mono HV3.out.size))
          clear hb4 k2 l2
          go_wp2_with fail
          go_meet
          exact ⟨_, _, rfl, rfl, (tbox_two _ _ _).1, (tbox_two _ _ _).2, (HV4.out.alloc HV4.out.size _).alloc (by have := HV4.out.size; simp; omega) _⟩
      case rest =>
        obtain ⟨g11, g12, rfl, rfl, ht1, ht2, hbx⟩ := hcut
        obtain ⟨B2, rfl⟩ : ∃ B : World, B = wc := ⟨_, rfl⟩
        have HB2 := Lib.hid (HB1.out.trans (hbx.mono HB1.out.size))
        have HT2 : Hid (∀ X, Below B2.heap.size B2 X → TBox X g11 (keyE ea) ∧ TBox X g12 (keyE eb)) := Lib.hid (fun X h => ⟨ht1.keep h, ht2.keep h⟩)
        clear hbx ht1 ht2 HCL HTO
        go_upto_region 4 with fail
        go_cut [13, 14] from 75 (fun sa sb wx => ∃ (g : Nat) (s' : PrbS) (es : List Dom), sa = .pointer (some ⟨g, 0, none⟩) ∧ sb = .int .i64 0 ∧ PBox wx g s' es KR ∧ es.map Dom.say = ds.map (domOf (keyE ea)) ∧ Below B2.heap.size B2 wx)
        case first =>
          as_aux_lemma =>
            obtain ⟨_, _, _, q0, q1, q2, q4⟩ := HA.out B2 HB2.out
            have tx : B2.cell? ⟨g11, 0, none⟩ = some (.int .i64 (keyE ea)) := Blk.cell (HT2.out B2 (Below.refl _ _)).1 rfl
            have tl := Blk.lt (HT2.out B2 (Below.refl _ _)).1
            go_wp2_with fail
            refine (HPR.out ea _ hea HB2.out).mono ?_
            rintro e Wb ⟨s', es, rfl, hat, hsay, hbb⟩
            have HAT := Lib.hid (And.intro hat (And.intro hsay hbb))
            unfold PrbS.val
            clear q0 q1 q2 q4 tx tl hat hsay hbb
            go_wp2_with fail
            go_meet
            exact ⟨_, s', es, rfl, rfl, ⟨blk_new _ _ _, HAT.out.1.keep ((Below.refl _ _).alloc (Nat.le_refl _) _)⟩, HAT.out.2.1, (HAT.out.2.2).alloc HAT.out.2.2.size _⟩
        case rest =>
          obtain ⟨g13, s1, es1, rfl, rfl, hbox, hsay, hbx⟩ := hcut
          obtain ⟨B3, rfl⟩ : ∃ B : World, B = wc := ⟨_, rfl⟩
          have HSTEP := Lib.hid hbx
          have HB3 := Lib.hid (HB2.out.trans (hbx.mono HB2.out.size))
          have HP1 : Hid (∀ X, Below B3.heap.size B3 X → PBox X g13 s1 es1 KR) := Lib.hid (fun X h => hbox.keep h)
          have HS1 := Eqn.mk hsay
          have HT3 : Hid (∀ X, Below B3.heap.size B3 X → TBox X g11 (keyE ea) ∧ TBox X g12 (keyE eb)) := Lib.hid (fun X h => HT2.out X (HSTEP.out.trans (h.mono HSTEP.out.size)))
          clear hbx hbox hsay HSTEP HT2
          go_upto_region 5 with fail
          go_cut [15, 16] from 82 (fun sa sb wx => ∃ (g : Nat) (s' : PrbS) (es : List Dom), sa = .pointer (some ⟨g, 0, none⟩) ∧ sb = .int .i64 0 ∧ PBox wx g s' es KR ∧ es.map Dom.say = ds.map (domOf (keyE eb)) ∧ Below B3.heap.size B3 wx)
          case first =>
            as_aux_lemma =>
              obtain ⟨_, _, _, q0, q1, q2, q4⟩ := HA.out B3 HB3.out
              have tx : B3.cell? ⟨g12, 0, none⟩ = some (.int .i64 (keyE eb)) := Blk.cell (HT3.out B3 (Below.refl _ _)).2 rfl
              have tl := Blk.lt (HT3.out B3 (Below.refl _ _)).2
              go_wp2_with fail
              refine (HPR.out eb _ heb HB3.out).mono ?_
              rintro e Wb ⟨s', es, rfl, hat, hsay, hbb⟩
              have HAT := Lib.hid (And.intro hat (And.intro hsay hbb))
              unfold PrbS.val
              clear q0 q1 q2 q4 tx tl hat hsay hbb
              go_wp2_with fail
              go_meet
              exact ⟨_, s', es, rfl, rfl, ⟨blk_new _ _ _, HAT.out.1.keep ((Below.refl _ _).alloc (Nat.le_refl _) _)⟩, HAT.out.2.1, (HAT.out.2.2).alloc HAT.out.2.2.size _⟩
          case rest =>
            obtain ⟨g15, s2, es2, rfl, rfl, hbox, hsay, hbx⟩ := hcut
            obtain ⟨B4, rfl⟩ : ∃ B : World, B = wc := ⟨_, rfl⟩
            have HSTEP := Lib.hid hbx
            have HB4 := Lib.hid (HB3.out.trans (hbx.mono HB3.out.size))
            have HP2 : Hid (∀ X, Below B4.heap.size B4 X → PBox X g15 s2 es2 KR) := Lib.hid (fun X h => hbox.keep h)
            have HS2 := Eqn.mk hsay
            have HT4 : Hid (∀ X, Below B4.heap.size B4 X → TBox X g11 (keyE ea) ∧ TBox X g12 (keyE eb)) := Lib.hid (fun X h => HT3.out X (HSTEP.out.trans (h.mono HSTEP.out.size)))
            have HP1' : Hid (∀ X, Below B4.heap.size B4 X → PBox X g13 s1 es1 KR) := Lib.hid (fun X h => HP1.out X (HSTEP.out.trans (h.mono HSTEP.out.size)))
            clear hbx hbox hsay HSTEP HT3 HP1
            have BB := Below.refl B4.heap.size B4
            have tx : B4.cell? ⟨g11, 0, none⟩ = some (.int .i64 (keyE ea)) := Blk.cell (HT4.out B4 BB).1 rfl
            have tl := Blk.lt (HT4.out B4 BB).1
            clear BB
            go_upto_region 8 with fail
            refine (HBLK.out ea _ hea).mono ?_
            rintro e X1 ⟨rfl, hb1⟩
            have HX1 := Lib.hid hb1
            clear tx tl
            have tx : X1.cell? ⟨g12, 0, none⟩ = some (.int .i64 (keyE eb)) := Blk.cell (HT4.out X1 hb1).2 rfl
            have tl := Blk.lt (HT4.out X1 hb1).2
            clear hb1
            go_upto_region 8 with fail
            refine (HBLK.out eb _ heb).mono ?_
            rintro e X2 ⟨rfl, hb2⟩
            have HX2 := Lib.hid (HX1.out.trans (hb2.mono HX1.out.size))
            clear tx tl hb2
            go_upto_region 8 with fail
            go_cut [127] from 89 (fun s127 wx => s127 = .bool false ∧ Below B4.heap.size B4 wx)
            case first =>
              as_aux_lemma =>
                obtain ⟨y0, y1, y2, y3, y4⟩ := (HP1'.out X2 HX2.out).cells
                have hnm : decide (eb ≤ ea) = false := decide_eq_false (by omega)
                have HVx := Lib.hid (HVL.out s1 es1 ea X2 hea (HP1'.out X2 HX2.out).2 HS1.out)
                unfold PrbS.val at HVx
                go_wp2_with fail
                refine HVx.out.mono ?_
                rintro e X3 ⟨rfl, hb3⟩
                have HX3 := Lib.hid (HX2.out.trans (hb3.mono HX2.out.size))
                clear y0 y1 y2 y3 y4 hb3 HVx
                obtain ⟨y0, y1, y2, y3, y4⟩ := (HP2.out X3 HX3.out).cells
                have HVx := Lib.hid (HVL.out s2 es2 eb X3 heb (HP2.out X3 HX3.out).2 HS2.out)
                unfold PrbS.val at HVx
                go_wp2_with fail
                refine HVx.out.mono ?_
                rintro e X4 ⟨rfl, hb4⟩
                have HX4 := Lib.hid (HX3.out.trans (hb4.mono HX3.out.size))
                clear y0 y1 y2 y3 y4 hb4 HVx
                go_wp2_with fail
                go_meet
                exact ⟨by first | rfl | rw [hnm], HX4.out⟩
            case rest =>
              obtain ⟨rfl, hbx⟩ := hcut
              obtain ⟨B5, rfl⟩ : ∃ B : World, B = wc := ⟨_, rfl⟩
              have HSTEP := Lib.hid hbx
              have HB5 := Lib.hid (HB4.out.trans (hbx.mono HB4.out.size))
              have HT5 : Hid (∀ X, Below B5.heap.size B5 X → TBox X g11 (keyE ea) ∧ TBox X g12 (keyE eb)) := Lib.hid (fun X h => HT4.out X (HSTEP.out.trans (h.mono HSTEP.out.size)))
              have HP1 : Hid (∀ X, Below B5.heap.size B5 X → PBox X g13 s1 es1 KR) := Lib.hid (fun X h => HP1'.out X (HSTEP.out.trans (h.mono HSTEP.out.size)))
              have HP2' : Hid (∀ X, Below B5.heap.size B5 X → PBox X g15 s2 es2 KR) := Lib.hid (fun X h => HP2.out X (HSTEP.out.trans (h.mono HSTEP.out.size)))
              clear hbx HSTEP HT4 HP1' HP2 HPR HBLK HVL
              have hm1 : min ea eb = ea := Nat.min_eq_left (by omega)
              have hm2 : min eb ea = ea := Nat.min_eq_right (by omega)
              have hm3 : min ea ea = ea := Nat.min_self ea
              have HMM := Lib.hid (And.intro hm1 (And.intro hm2 hm3))
              clear hm1 hm2 hm3
              go_upto_region 10 with fail
              go_cut [14, 21] from 128 (fun sb sa wx => ∃ (g : Nat) (s' : PrbS) (es : List Dom), sa = .pointer (some ⟨g, 0, none⟩) ∧ sb = .int .i64 0 ∧ PBox wx g s' es KR ∧ es.map Dom.say = ds.map (domOf (keyE ea)) ∧ Below B5.heap.size B5 wx)
              case first =>
                as_aux_lemma =>
                  have BB := Below.refl B5.heap.size B5
                  have tx : B5.cell? ⟨g11, 0, none⟩ = some (.int .i64 (keyE ea)) := Blk.cell (HT5.out B5 BB).1 rfl
                  have tl := Blk.lt (HT5.out B5 BB).1
                  obtain ⟨y0, y1, y2, y3, y4⟩ := (HP2'.out B5 BB).cells
                  have HLx := HLM.out s2 es2 ea eb B5 hea heb HB5.out (HP2'.out B5 BB).2 HS2.out
                  rw [HMM.out.1] at HLx
                  unfold PrbS.val at HLx
                  have HLx := Lib.hid HLx
                  clear BB
                  go_wp2_with fail
                  refine HLx.out.mono ?_
                  rintro e Wb ⟨s', es, rfl, hat, hsay, hbb⟩
                  have HAT := Lib.hid (And.intro hat (And.intro hsay hbb))
                  clear y0 y1 y2 y3 y4 tx tl hat hsay hbb HLx
                  go_wp2_with fail
                  go_meet
                  exact ⟨_, s', es, rfl, rfl, ⟨blk_new _ _ _, HAT.out.1.keep ((Below.refl _ _).alloc (Nat.le_refl _) _)⟩, HAT.out.2.1, (HAT.out.2.2).alloc HAT.out.2.2.size _⟩
              case rest =>
                obtain ⟨g21, s3, es3, rfl, rfl, hbox, hsay, hbx⟩ := hcut
                obtain ⟨B6, rfl⟩ : ∃ B : World, B = wc := ⟨_, rfl⟩
                have HSTEP := Lib.hid hbx
                have HB6 := Lib.hid (HB5.out.trans (hbx.mono HB5.out.size))
                have HP3 : Hid (∀ X, Below B6.heap.size B6 X → PBox X g21 s3 es3 KR) := Lib.hid (fun X h => hbox.keep h)
                have HS3 := Eqn.mk hsay
                have HT6 : Hid (∀ X, Below B6.heap.size B6 X → TBox X g11 (keyE ea) ∧ TBox X g12 (keyE eb)) := Lib.hid (fun X h => HT5.out X (HSTEP.out.trans (h.mono HSTEP.out.size)))
                have HP1' : Hid (∀ X, Below B6.heap.size B6 X → PBox X g13 s1 es1 KR) := Lib.hid (fun X h => HP1.out X (HSTEP.out.trans (h.mono HSTEP.out.size)))
                have HP2 : Hid (∀ X, Below B6.heap.size B6 X → PBox X g15 s2 es2 KR) := Lib.hid (fun X h => HP2'.out X (HSTEP.out.trans (h.mono HSTEP.out.size)))
                clear hbx hbox hsay HSTEP HT5 HP1 HP2'
                go_upto_region 11 with fail
                go_cut [16, 22] from 134 (fun sb sa wx => ∃ (g : Nat) (s' : PrbS) (es : List Dom), sa = .pointer (some ⟨g, 0, none⟩) ∧ sb = .int .i64 0 ∧ PBox wx g s' es KR ∧ es.map Dom.say = ds.map (domOf (keyE ea)) ∧ Below B6.heap.size B6 wx)
                case first =>
                  as_aux_lemma =>
                    have BB := Below.refl B6.heap.size B6
                    have tx : B6.cell? ⟨g12, 0, none⟩ = some (.int .i64 (keyE eb)) := Blk.cell (HT6.out B6 BB).2 rfl
                    have tl := Blk.lt (HT6.out B6 BB).2
                    obtain ⟨y0, y1, y2, y3, y4⟩ := (HP3.out B6 BB).cells
                    have HLx := HLM.out s3 es3 eb ea B6 heb hea HB6.out (HP3.out B6 BB).2 HS3.out
                    rw [HMM.out.2.1] at HLx
                    unfold PrbS.val at HLx
                    have HLx := Lib.hid HLx
                    clear BB
                    go_wp2_with fail
                    refine HLx.out.mono ?_
                    rintro e Wb ⟨s', es, rfl, hat, hsay, hbb⟩
                    have HAT := Lib.hid (And.intro hat (And.intro hsay hbb))
                    clear y0 y1 y2 y3 y4 tx tl hat hsay hbb HLx
                    go_wp2_with fail
                    go_meet
                    exact ⟨_, s', es, rfl, rfl, ⟨blk_new _ _ _, HAT.out.1.keep ((Below.refl _ _).alloc (Nat.le_refl _) _)⟩, HAT.out.2.1, (HAT.out.2.2).alloc HAT.out.2.2.size _⟩
                case rest =>
                  obtain ⟨g22, s4, es4, rfl, rfl, hbox, hsay, hbx⟩ := hcut
                  obtain ⟨B7, rfl⟩ : ∃ B : World, B = wc := ⟨_, rfl⟩
                  have HSTEP := Lib.hid hbx
                  have HB7 := Lib.hid (HB6.out.trans (hbx.mono HB6.out.size))
                  have HP4 : Hid (∀ X, Below B7.heap.size B7 X → PBox X g22 s4 es4 KR) := Lib.hid (fun X h => hbox.keep h)
                  have HS4 := Eqn.mk hsay
                  have HT7 : Hid (∀ X, Below B7.heap.size B7 X → TBox X g11 (keyE ea) ∧ TBox X g12 (keyE eb)) := Lib.hid (fun X h => HT6.out X (HSTEP.out.trans (h.mono HSTEP.out.size)))
                  have HP1 : Hid (∀ X, Below B7.heap.size B7 X → PBox X g13 s1 es1 KR) := Lib.hid (fun X h => HP1'.out X (HSTEP.out.trans (h.mono HSTEP.out.size)))
                  have HP2' : Hid (∀ X, Below B7.heap.size B7 X → PBox X g15 s2 es2 KR) := Lib.hid (fun X h => HP2.out X (HSTEP.out.trans (h.mono HSTEP.out.size)))
                  have HP3' : Hid (∀ X, Below B7.heap.size B7 X → PBox X g21 s3 es3 KR) := Lib.hid (fun X h => HP3.out X (HSTEP.out.trans (h.mono HSTEP.out.size)))
                  clear hbx hbox hsay HSTEP HT6 HP1' HP2 HP3
                  go_upto_region 12 with fail
                  go_cut [18, 23] from 140 (fun sb sa wx => ∃ (g : Nat) (s' : PrbS) (es : List Dom), sa = .pointer (some ⟨g, 0, none⟩) ∧ sb = .int .i64 0 ∧ PBox wx g s' es KR ∧ es.map Dom.say = ds.map (domOf (keyE ea)) ∧ Below B7.heap.size B7 wx)
                  case first =>
                    as_aux_lemma =>
                      have BB := Below.refl B7.heap.size B7
                      have tx : B7.cell? ⟨g11, 0, none⟩ = some (.int .i64 (keyE ea)) := Blk.cell (HT7.out B7 BB).1 rfl
                      have tl := Blk.lt (HT7.out B7 BB).1
                      obtain ⟨y0, y1, y2, y3, y4⟩ := (HP3'.out B7 BB).cells
                      have HLx := HLM.out s3 es3 ea ea B7 hea hea HB7.out (HP3'.out B7 BB).2 HS3.out
                      rw [HMM.out.2.2] at HLx
                      unfold PrbS.val at HLx
                      have HLx := Lib.hid HLx
                      clear BB
                      go_wp2_with fail
                      refine HLx.out.mono ?_
                      rintro e Wb ⟨s', es, rfl, hat, hsay, hbb⟩
                      have HAT := Lib.hid (And.intro hat (And.intro hsay hbb))
                      clear y0 y1 y2 y3 y4 tx tl hat hsay hbb HLx
                      go_wp2_with fail
                      go_meet
                      exact ⟨_, s', es, rfl, rfl, ⟨blk_new _ _ _, HAT.out.1.keep ((Below.refl _ _).alloc (Nat.le_refl _) _)⟩, HAT.out.2.1, (HAT.out.2.2).alloc HAT.out.2.2.size _⟩
                  case rest =>
                    obtain ⟨g23, s5, es5, rfl, rfl, hbox, hsay, hbx⟩ := hcut
                    obtain ⟨B8, rfl⟩ : ∃ B : World, B = wc := ⟨_, rfl⟩
                    have HSTEP := Lib.hid hbx
                    have HB8 := Lib.hid (HB7.out.trans (hbx.mono HB7.out.size))
                    have HP5 : Hid (∀ X, Below B8.heap.size B8 X → PBox X g23 s5 es5 KR) := Lib.hid (fun X h => hbox.keep h)
                    have HS5 := Eqn.mk hsay
                    have HP1' : Hid (∀ X, Below B8.heap.size B8 X → PBox X g13 s1 es1 KR) := Lib.hid (fun X h => HP1.out X (HSTEP.out.trans (h.mono HSTEP.out.size)))
                    have HP2 : Hid (∀ X, Below B8.heap.size B8 X → PBox X g15 s2 es2 KR) := Lib.hid (fun X h => HP2'.out X (HSTEP.out.trans (h.mono HSTEP.out.size)))
                    have HP3 : Hid (∀ X, Below B8.heap.size B8 X → PBox X g21 s3 es3 KR) := Lib.hid (fun X h => HP3'.out X (HSTEP.out.trans (h.mono HSTEP.out.size)))
                    have HP4' : Hid (∀ X, Below B8.heap.size B8 X → PBox X g22 s4 es4 KR) := Lib.hid (fun X h => HP4.out X (HSTEP.out.trans (h.mono HSTEP.out.size)))
                    clear hbx hbox hsay HSTEP HP1 HP2' HP3' HP4
                    clear HT7 HLM HMM
                    go_upto_region 13 with fail
                    go_cut [173] from 146 (fun s173 wx => s173 = .bool false ∧ Below B8.heap.size B8 wx)
                    case first =>
                      as_aux_lemma =>
                        have BB := Lib.hid (Below.refl B8.heap.size B8)
                        obtain ⟨y0, y1, y2, y3, y4⟩ := (HP3.out B8 BB.out).cells
                        obtain ⟨z0, z1, z2, z3, z4⟩ := (HP1'.out B8 BB.out).cells
                        have HVx := Lib.hid (HSE.out s3 s1 es3 es1 ea B8 hea (HP3.out B8 BB.out).2 (HP1'.out B8 BB.out).2 HS3.out HS1.out)
                        unfold PrbS.val at HVx
                        go_wp2_with fail
                        refine HVx.out.mono ?_
                        rintro e X1 ⟨rfl, hbs⟩
                        have HX1 := Lib.hid ((BB.out).trans (hbs.mono (BB.out).size))
                        clear y0 y1 y2 y3 y4 z0 z1 z2 z3 z4 hbs HVx
                        obtain ⟨y0, y1, y2, y3, y4⟩ := (HP4'.out X1 HX1.out).cells
                        obtain ⟨z0, z1, z2, z3, z4⟩ := (HP3.out X1 HX1.out).cells
                        have HVx := Lib.hid (HSE.out s4 s3 es4 es3 ea X1 hea (HP4'.out X1 HX1.out).2 (HP3.out X1 HX1.out).2 HS4.out HS3.out)
                        unfold PrbS.val at HVx
                        go_wp2_with fail
                        refine HVx.out.mono ?_
                        rintro e X2 ⟨rfl, hbs⟩
                        have HX2 := Lib.hid ((HX1.out).trans (hbs.mono (HX1.out).size))
                        clear y0 y1 y2 y3 y4 z0 z1 z2 z3 z4 hbs HVx
                        obtain ⟨y0, y1, y2, y3, y4⟩ := (HP5.out X2 HX2.out).cells
                        obtain ⟨z0, z1, z2, z3, z4⟩ := (HP3.out X2 HX2.out).cells
                        have HVx := Lib.hid (HSE.out s5 s3 es5 es3 ea X2 hea (HP5.out X2 HX2.out).2 (HP3.out X2 HX2.out).2 HS5.out HS3.out)
                        unfold PrbS.val at HVx
                        go_wp2_with fail
                        refine HVx.out.mono ?_
                        rintro e X3 ⟨rfl, hbs⟩
                        have HX3 := Lib.hid ((HX2.out).trans (hbs.mono (HX2.out).size))
                        clear y0 y1 y2 y3 y4 z0 z1 z2 z3 z4 hbs HVx
                        go_wp2_with fail
                        go_meet
                        exact ⟨rfl, HX3.out⟩
                    case rest =>
                      obtain ⟨rfl, hbx⟩ := hcut
                      obtain ⟨B9, rfl⟩ : ∃ B : World, B = wc := ⟨_, rfl⟩
                      have HSTEP := Lib.hid hbx
                      have HB9 := Lib.hid (HB8.out.trans (hbx.mono HB8.out.size))
                      have HP1 : Hid (∀ X, Below B9.heap.size B9 X → PBox X g13 s1 es1 KR) := Lib.hid (fun X h => HP1'.out X (HSTEP.out.trans (h.mono HSTEP.out.size)))
                      have HP2' : Hid (∀ X, Below B9.heap.size B9 X → PBox X g15 s2 es2 KR) := Lib.hid (fun X h => HP2.out X (HSTEP.out.trans (h.mono HSTEP.out.size)))
                      clear hbx HSTEP HP1' HP2 HP3 HP4' HP5 HSE
                      obtain ⟨y0, y1, y2, y3, y4⟩ := (HP1.out B9 (Below.refl _ _)).cells
                      have HVx := Lib.hid (HFN.out s1 es1 ea B9 hea HB9.out (HP1.out B9 (Below.refl _ _)).2 HS1.out)
                      unfold PrbS.val at HVx
                      have HFE := Eqn.mk (rfl : fineF es1 KR cs = fineF es1 KR cs)
                      go_wp2_with fail
                      refine HVx.out.mono ?_
                      rintro e X1 ⟨rfl, hb1⟩
                      have HX1 := Lib.hid hb1
                      have HXB := Lib.hid (HB9.out.trans (hb1.mono HB9.out.size))
                      clear y0 y1 y2 y3 y4 hb1 HVx HFE
                      cases hfine : fineF es1 KR cs with
                      | false =>
                        go_wp2_with fail
                        refine (HK.out _).mono ?_
                        rintro e X2 ⟨rfl, hb2⟩
                        have HX2 := Lib.hid (HXB.out.trans (hb2.mono HXB.out.size))
                        clear hb2
                        go_wp2_with fail
                        go_ret
                        exact ⟨rfl, HBW.out _ HX2.out⟩
                      | true =>
                        have HFI := Eqn.mk hfine
                        have hst1 := say_st HS1.out
                        have hst2 := say_st HS2.out
                        have hinc : (es1.map Dom.st).Pairwise (· < ·) := by
                          have hel : ∀ d ∈ es1, d.len = d.chs.length := fun d hd => ((HP1.out B9 (Below.refl _ _)).2.1.2 d hd).1.symm
                          have hv : validR es1 KR = true := HVK.out es1 ea hea HS1.out hel
                          exact valid_inc ((valid_eq hel).trans hv)
                        have hl1 : es1.length = ds.length := by have := congrArg List.length HS1.out; simpa using this
                        have hcl : cs.length = es1.length := by have := congrArg List.length (fine_st hfine hinc); simpa using this
                        have HL2 : Hid (m = n) := Lib.hid (by have := HML.out; have := HNL.out; omega)
                        have HCH : Hid (∀ (k : Nat) (x : Int × Int) (p : Dom), cs[k]? = some x → ds[k]? = some p → (ofP x.2).2 = 0 ∧ x.2 ≠ 37 ∧ hasL p.chs (ofP x.2).1 = true) := Lib.hid (fun k x p hx hp => by
                          have hk : k < es1.length := by rw [hl1]; exact (List.getElem?_eq_some_iff.1 hp).1
                          obtain ⟨d, hd, _⟩ := drop_at (xs := es1) (k := k) hk
                          have h1 := fine_ch HFI.out hinc k d x hd hx
                          have h2 : d.chs = (domOf (keyE ea) p).2 := by
                            have h3 : (es1.map Dom.say)[k]? = some d.say := by rw [List.getElem?_map, hd]; rfl
                            rw [HS1.out, List.getElem?_map, hp] at h3
                            exact (congrArg Prod.snd (Option.some.inj h3)).symm
                          rw [h2] at h1
                          have h4 := in_band0 ⟨ea, hea⟩ p.chs (vbIn_none (vbGo_bands ds none HVB.out p (List.mem_of_getElem? hp))) x.2 h1
                          exact ⟨h4.1, h4.2.1, by rw [hasL_mem]; exact decide_eq_true h4.2.2⟩)
                        have HFQ : Hid (fineF es2 KR cs = true) := Lib.hid (by
                          refine fine_more HFI.out (hst1.trans hst2.symm) (fun k d e hd he c hc => ?_)
                          have hk : k < ds.length := by rw [← hl1]; exact (List.getElem?_eq_some_iff.1 hd).1
                          obtain ⟨p, hp, _⟩ := drop_at (xs := ds) (k := k) hk
                          have h2 : d.chs = (domOf (keyE ea) p).2 := by
                            have h3 : (es1.map Dom.say)[k]? = some d.say := by rw [List.getElem?_map, hd]; rfl
                            rw [HS1.out, List.getElem?_map, hp] at h3
                            exact (congrArg Prod.snd (Option.some.inj h3)).symm
                          have h5 : e.chs = (domOf (keyE eb) p).2 := by
                            have h3 : (es2.map Dom.say)[k]? = some e.say := by rw [List.getElem?_map, he]; rfl
                            rw [HS2.out, List.getElem?_map, hp] at h3
                            exact (congrArg Prod.snd (Option.some.inj h3)).symm
                          have h4 := (two_targets0 ⟨ea, hea⟩ ⟨eb, heb⟩ (Nat.le_of_lt hlt) p.chs (vbIn_none (vbGo_bands ds none HVB.out p (List.mem_of_getElem? hp)))).1
                          rw [h2] at hc
                          rw [h5]
                          unfold domOf at hc ⊢
                          dsimp only at hc ⊢ h4
                          rw [← h4] at hc
                          exact (List.mem_filter.1 hc).1)
                        have HOF := Lib.hid (fun c W => of26_any c W)
                        unfold v2 at HOF
                        have HHA : Hid (∀ (x : Int) (d : Dom) W, d ∈ ds → Below W0.heap.size W0 W → Calls Tryd.prog 23 #[.slice d.adr d.len d.cap, .int .i64 x] W fun e w' => e = .returned (.bool (hasL d.chs x)) ∧ W = w') := Lib.hid (fun x d W hm hb => rhas_any d.adr d.len d.cap x W d.chs (Nat.le_trans (HF.out.2 d hm) (by decide)) ((HA.out W hb).1.2 d hm))
                        clear hfine hst1 hst2 hinc hl1 hcl
                        go_wp2_with fail
                        go_loopw [24] (fun i wr => ∃ k : Nat, k ≤ m ∧ i = .int .i64 k ∧ Below X1.heap.size X1 wr) (fun i _ => m - (intOf i).toNat)
                        case atStart => exact ⟨0, Nat.zero_le _, rfl, Below.refl _ _⟩
                        case round =>
                          as_aux_lemma =>
                            obtain ⟨k, hk, rfl, hB⟩ := hrel
                            have HB := Lib.hid hB
                            have HBB := Lib.hid (HXB.out.trans (hB.mono HXB.out.size))
                            by_cases hkm : k < m
                            · obtain ⟨x, hx, _⟩ := drop_at (xs := cs) (k := k) (by rw [HML.out]; exact hkm)
                              obtain ⟨p, hp, _⟩ := drop_at (xs := ds) (k := k) (by rw [HNL.out]; have := HL2.out; omega)
                              obtain ⟨h1, h2, h3⟩ := HCH.out k x p hx hp
                              obtain ⟨b, off, hA, hbl, hc⟩ := ((HA.out _ HBB.out).2.2.1).2 (by omega)
                              obtain ⟨b2, off2, hA2, hbl2, hc2⟩ := ((HA.out _ HBB.out).1.1).2 (by have := HL2.out; omega)
                              have c1' := hc k x hx 1 (by omega)
                              have d1 := hc2 k p hp 1 (by omega)
                              simp only [chC, Dom.cell] at c1' d1
                              have HOx := Lib.hid (HOF.out x.2 wr)
                              have HHx := Lib.hid (HHA.out (ofP x.2).1 p wr (List.mem_of_getElem? hp) HBB.out)
                              rw [h3] at HHx
                              obtain ⟨xs, xc⟩ := x
                              obtain ⟨st, adr, len, cap, chs⟩ := p
                              dsimp only at *
                              generalize ofP xc = op at *
                              obtain ⟨o1, o2⟩ := op
                              dsimp only at h1 HOx HHx
                              subst h1
                              have d37 : (xc == 37) = false := by simpa using h2
                              have j0 : (k : Int) < (m : Int) := by omega
                              have j1 : (k : Int) < (n : Int) := by have := HL2.out; omega
                              subst hA hA2
                              clear hx hp h2 h3 hc hc2 hB
                              go_wp2_with fail
                              refine HOx.out.mono ?_
                              rintro e wz ⟨rfl, rfl⟩
                              go_wp2_with fail
                              refine HHx.out.mono ?_
                              rintro e wz ⟨rfl, rfl⟩
                              go_wp2_with fail
                              go_roundw
                              case rel => exact ⟨k + 1, by omega, by go_num, HB.out⟩
                              case measure => simp [intOf]; omega
                            · obtain ⟨y0, y1, y2, y3, y4⟩ := (HP2'.out wr (HX1.out.trans (hB.mono HX1.out.size))).cells
                              have HVx := HFN.out s2 es2 eb wr heb HBB.out (HP2'.out wr (HX1.out.trans (hB.mono HX1.out.size))).2 HS2.out
                              rw [HFQ.out] at HVx
                              unfold PrbS.val at HVx
                              have HVx := Lib.hid HVx
                              clear hB
                              go_wp2_with fail
                              refine HVx.out.mono ?_
                              rintro e X2 ⟨rfl, hb2⟩
                              have HX2 := Lib.hid (HBB.out.trans (hb2.mono HBB.out.size))
                              clear y0 y1 y2 y3 y4 hb2 HVx
                              go_wp2_with fail
                              refine (HK.out _).mono ?_
                              rintro e X3 ⟨rfl, hb3⟩
                              have HX3 := Lib.hid (HX2.out.trans (hb3.mono HX2.out.size))
                              clear hb3
                              go_wp2_with fail
                              go_ret
                              exact ⟨rfl, HBW.out _ HX3.out⟩
set_option maxRecDepth 100000 in
theorem bandHolds_lifted (os : Os) (started : os.Started) (H : Type) (enc : TypeId × Value → H) :
    ReturnsInHanded {} Tryd.checked os 4 .any (fun w args => (Rows.bandHoldsSpec.pre enc Tryd.prog Tryd.f4 [] false w args ∧ laidMetH Tryd.prog laid07 w) ∧ sizedMet enc Tryd.prog Tryd.f4 (OpenSpec.ofChange Rows.bandHoldsSpec) false w args) (Rows.bandHoldsSpec.post enc Tryd.prog Tryd.f4 false true false false) := by
  refine handed_laid (C := Tryd.checked) (laid := laid07) own started (by kernel_rfl) Tryd.func4
    (ChangeSpec.witness_shaped (enc := enc) (C := Tryd.checked) (os := os) (X := fun w _ => laidMetH Tryd.prog laid07 w) false (World.laidAll Tryd.prog os laid07) #[.slice none 0 0, .agg #[.slice none 0 0, .slice none 0 0, .slice none 0 0], .int .i64 0, .int .i64 0, .slice none 0 0] 8 (World.laidAll_os _ _ _) (World.shaped_of_ZipB (by kernel_rfl) (by kernel_rfl)) (by kernel_rfl) (by kernel_rfl) (by kernel_rfl) (laidHold os _)) ?_
  intro W base args ds gs before hval0 hW hL hsh
  have hTab := tab_of hL hsh
  have hval : ∀ (j : Nat) t v, Tryd.f4.params[j]? = some t → args[j]? = some v → Value.okWide Tryd.prog W .any base t v := hval0
  have hW' := hW
  obtain ⟨p, q, hA0, hV, rfl, hfz, hnd⟩ := hW
  have hA : DataW.TrodAll enc Tryd.prog W 0 (fun _ => true) true Tryd.f4.params.toList args.toList ds p := hA0
  rw [Tryd.params4] at hA hval
  obtain ⟨v0, vs0, d0, ds0, p0, q0, hargs, rfl, rfl, h0, r0⟩ := trodAll_cons hA
  obtain ⟨v1, vs1, d1, ds1, p1, q1, rfl, rfl, rfl, h1, r1⟩ := trodAll_cons r0
  obtain ⟨v2, vs2, d2, ds2, p2, q2, rfl, rfl, rfl, h2, r2⟩ := trodAll_cons r1
  obtain ⟨v3, vs3, d3, ds3, p3, q3, rfl, rfl, rfl, h3, r3⟩ := trodAll_cons r2
  obtain ⟨v4, vs4, d4, ds4, p4, q4, rfl, rfl, rfl, h4, r4⟩ := trodAll_cons r3
  obtain ⟨rfl, rfl, rfl⟩ := trodAll_nil r4
  obtain rfl : args = #[v0, v1, v2, v3, v4] := by cases args; simp_all
  obtain ⟨rfl, rfl⟩ := trodVars_none hV
  have k0 := h0
  have lt0 : ∀ x ∈ p0, x.block < W.heap.size := by obtain ⟨m, hm⟩ := k0; exact DataW.trod_lt m _ _ _ hm
  have k1 := h1
  have lt1 : ∀ x ∈ p1, x.block < W.heap.size := by obtain ⟨m, hm⟩ := k1; exact DataW.trod_lt m _ _ _ hm
  have k2 := h2
  have lt2 : ∀ x ∈ p2, x.block < W.heap.size := by obtain ⟨m, hm⟩ := k2; exact DataW.trod_lt m _ _ _ hm
  have k3 := h3
  have lt3 : ∀ x ∈ p3, x.block < W.heap.size := by obtain ⟨m, hm⟩ := k3; exact DataW.trod_lt m _ _ _ hm
  have k4 := h4
  have lt4 : ∀ x ∈ p4, x.block < W.heap.size := by obtain ⟨m, hm⟩ := k4; exact DataW.trod_lt m _ _ _ hm
  obtain ⟨A0, n0, c0, xs0, rfl, R0⟩ := arg_bands (hval 0 47 _ rfl rfl) h0
  obtain ⟨s1, x1, rfl, R1⟩ := arg_rul (hval 1 27 _ rfl rfl) h1
  obtain ⟨x2, rfl, b2⟩ := arg_int Tryd.underlying3 (hval 2 3 _ rfl rfl) h2
  obtain ⟨x3, rfl, b3⟩ := arg_int Tryd.underlying3 (hval 3 3 _ rfl rfl) h3
  obtain ⟨A4, n4, c4, xs4, rfl, R4⟩ := arg_chos (hval 4 48 _ rfl rfl) h4
  clear hA0 hval0
  refine (bandHolds_walk W hTab A0 n0 c0 xs0 R0 s1 x1 R1 x2 b2 x3 b3 A4 n4 c4 xs4 R4).mono fun e W' ⟨he, bel⟩ => ?_
  subst he
  exact ⟨_, rfl, _, _, _, [], _, [], hW', trodAll_mk1 (shut_bool Tryd.underlying4 _), (trodAll_cons_mk (Below.trod laidOut (by kernel_rfl) (of_decide_eq_true (by kernel_rfl)) k0 bel lt0) (trodAll_cons_mk (Below.trod laidOut (by kernel_rfl) (of_decide_eq_true (by kernel_rfl)) k1 bel lt1) (trodAll_cons_mk (Below.trod laidOut (by kernel_rfl) (of_decide_eq_true (by kernel_rfl)) k2 bel lt2) (trodAll_cons_mk (Below.trod laidOut (by kernel_rfl) (of_decide_eq_true (by kernel_rfl)) k3 bel lt3) (trodAll_cons_mk (Below.trod laidOut (by kernel_rfl) (of_decide_eq_true (by kernel_rfl)) k4 bel lt4) trodAll_mk0))))), rfl, bel.frame _, fun h => by cases h⟩

theorem bandHolds_over : Rows.bandHoldsRow.holds Tryd.pinned (OpenSpec.ofChange Rows.bandHoldsSpec) :=
  OpenClaim.holds_of_wide 4 Tryd.f4 rfl rfl rfl rfl rfl rfl rfl ⟨rfl, rfl, rfl, rfl, rfl⟩ rfl rfl rfl rfl rfl (by kernel_rfl) Tryd.func4 (by kernel_rfl)
    (of_decide_eq_true (by kernel_rfl)) (by unfold Func.isWrapper; first | (rw [if_pos (by decide +kernel)]; kernel_rfl) | (rw [if_neg (by decide +kernel)]; exact ⟨rfl, rfl⟩))
    (fun os started H enc _ => bandHolds_lifted os started H enc)

theorem bandHoldsCard_holds : Rows.BandHoldsCardSaid :=
  Claim7.holds_tied_plain_at .later [] [.data] true (true, "59b8d02ee9889ccebfb07942293381de826732be3e587d052c64cc088ea1f791") false
    bandHolds_over (fun _ h => by cases h) (by kernel_rfl) (fun _ h => by cases h) bandHolds_row_tie rfl ⟨rfl, rfl⟩ (by kernel_rfl) rfl
    (fun f fn hf hfn => by
      obtain rfl : f = 4 := Option.some.inj ((show Tryd.prog.funcNamed "bandplan/bandplanlaw26.BandHolds" = some 4 by kernel_rfl).symm.trans hf) |>.symm
      obtain rfl : fn = Tryd.f4 := (Option.some.inj (Tryd.func4.symm.trans hfn)).symm
      exact ⟨by kernel_rfl, fun j t ht => by
        rw [Tryd.params4] at ht
        rcases j with _ | j
        · obtain rfl : t = 47 := by simpa using ht.symm
          exact (show Tryd.prog.wantsStandIn 47 = false by kernel_rfl)
        rcases j with _ | j
        · obtain rfl : t = 27 := by simpa using ht.symm
          exact (show Tryd.prog.wantsStandIn 27 = false by kernel_rfl)
        rcases j with _ | j
        · obtain rfl : t = 3 := by simpa using ht.symm
          exact (show Tryd.prog.wantsStandIn 3 = false by kernel_rfl)
        rcases j with _ | j
        · obtain rfl : t = 3 := by simpa using ht.symm
          exact (show Tryd.prog.wantsStandIn 3 = false by kernel_rfl)
        rcases j with _ | j
        · obtain rfl : t = 48 := by simpa using ht.symm
          exact (show Tryd.prog.wantsStandIn 48 = false by kernel_rfl)
        · simp at ht⟩)
    (by kernel_rfl)
#print axioms bandHoldsCard_holds
end Go.Proofs.YtpdhelhngdeoeaaDoor
