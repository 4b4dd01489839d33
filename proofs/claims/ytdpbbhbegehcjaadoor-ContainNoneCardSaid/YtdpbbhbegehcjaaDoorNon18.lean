/- CONTAIN NONE: for every list of stations the law ContainNone returns true, and the input reads as it did. Conditions: none beyond the card's own. -/
import Derived.Test.YtdpbbhbegehcjaaDoorNon14
import Derived.Test.YtdpbbhbegehcjaaDoorNon17
set_option maxRecDepth 100000
set_option maxHeartbeats 16000000
namespace Go.Proofs.YtdpbbhbegehcjaaDoor
open Go.RowKit Go.Shelf Go.ChangeShapes Go.WideShapes Go.ChangeAt Go.Deep Go.Joins
theorem hp_empty {w u W X : World} {L : List Ent} {ds : List Nat} (h : Hp w u W L ds) (hb : Below W.heap.size W X) : Below w.heap.size w X := (h.keep hb).below
def noA : Ans := ⟨0, ⟨none, 0, 0, []⟩, ⟨none, 0, 0, [], none, 0, 0, []⟩, 0⟩
theorem noA_at (W : World) : noA.At W := ⟨⟨⟨rfl, fun h => absurd h (by decide)⟩, by decide⟩, ⟨rfl, fun h => absurd h (by decide)⟩, ⟨rfl, fun h => absurd h (by decide)⟩, fun _ h => (by cases h), by decide, by decide⟩
def NoS (wr : World) (g : Nat) (x : StS) (L : List (Nat × Nat)) : Prop := StAt wr g (kd g) g x ∧ StOk x ∧ x.ds.map Dom.say = noD ∧ x.r = noR ∧ x.P = L.map cP ∧ x.Q = L.map cQ
theorem NoS.keep {W X : World} {g : Nat} {x : StS} {L : List (Nat × Nat)} (h : NoS W g x L) (hb : Below W.heap.size W X) : NoS X g x L := ⟨h.1.keep hb, h.2⟩
theorem prf_of_ints {w u W : World} {L : List Ent} {ds : List Nat} (h : Hp w u W L ds) (i : Nat) {g : Nat} {l : List Int} (hi : L[i]? = some (.blk g 3 (l.map intV))) (hl : l.length ≤ 100000) : (⟨some ⟨g, 0, none⟩, l.length, l.length, l, none, 0, 0, []⟩ : Prf).At W (fun _ => True) := by
 have hB := h.blk i hi
 refine ⟨⟨rfl, fun _ => ⟨g, 0, rfl, trivial, fun k x hk j hj => ?_⟩⟩, ⟨rfl, fun h => absurd h (Nat.lt_irrefl 0)⟩, fun _ h => (by cases h), hl, Nat.zero_le _⟩
 obtain rfl : j = 0 := by omega
 rw [Nat.zero_add, Nat.mul_one, Nat.add_zero]
 exact hB.cell (by rw [List.getElem?_map, hk]; rfl)
theorem no_both {ds : List Dom} (hd : ds.map Dom.say = noD) {a b : Nat} {L : List (Nat × Nat)} (h : NoI a b L) (hb : b < a) (ha : a < 47) :
  ∃ L' e0, pkF ds noR (L.map cP) (cP (a, b)) = (L'.map cP, e0) ∧ rfF ds (L.map cQ) (cQ (a, b)) = (L'.map cQ, e0) ∧ NoI a (b + 1) L' ∧ ((tri a + b < 1000 ∧ e0 = 0) ∨ (¬ tri a + b < 1000 ∧ e0 = 7)) := by
 have h1 := no_pk hd h hb ha
 have h2 := no_rf hd h hb ha
 have h3 := noI_len h
 by_cases hl : L.length < 1000
 ·rw [if_pos hl] at h1 h2
  exact ⟨_, _, h1, h2, noI_step h hb ha hl, .inl ⟨h3.1 hl, rfl⟩⟩
 ·rw [if_neg hl] at h1 h2
  exact ⟨_, _, h1, h2, noI_full h hl, .inr ⟨fun hh => hl (h3.2 hh), rfl⟩⟩
theorem containNone_walk (w : World) (hT : Tab w) (A : Option Addr) (n c : Nat) (xs : List Int) (_R0 : Row1 intV w w.heap.size A n xs) (_ : ∀ z ∈ xs, I64 z) (_ : n ≤ 9223372036854775807) :
  Calls Tryd.prog 3 #[.slice A n c] w fun e W' => e = .returned (.bool true) ∧ Below w.heap.size w W' := by
 obtain ⟨i0, hi, hz0, hz1, hz2⟩ := info_parts dom_info
 have HKN := Lib.hid (fun (W : World) (hb : Below w.heap.size w W) => known_any W (hT.keep hb))
 have HT := Lib.hid hT
 clear hT _R0
 go_enter Tryd.func3, Tryd.ntmps3
 by_cases hn : 20 < n
 ·have j0 : (20 : Int) < (n : Int) := by omega
  clear hn
  go_wp2_with fail
  refine (HKN.out w (Below.refl _ _)).mono ?_
  rintro e W1 ⟨rfl, hb1⟩
  go_wp2_with fail
  go_ret
  exact ⟨rfl, hb1⟩
 ·have j0 : ¬ (20 : Int) < (n : Int) := by omega
  clear hn
  obtain ⟨p22, hp22⟩ : ∃ q, q = w.heap.size := ⟨_, rfl⟩
  obtain ⟨p23, hp23⟩ : ∃ q, q = w.heap.size + 1 := ⟨_, rfl⟩
  obtain ⟨V0, hV0⟩ : ∃ V, V = (w.alloc (.cells #[.slice none 0 0, .slice none 0 0, .slice none 0 0, .slice none 0 0, .int .u64 0, .int .u64 0, .int .u64 0, .int .u64 0, .int .u64 0, .int .u64 0, .int .u64 0, .int .u64 0, .bool false, .slice none 0 0, .slice none 0 0] 44)).alloc (.cells #[.pointer none, .pointer (some ⟨p22, 0, none⟩)] 24) := ⟨_, rfl⟩
  have hP0 : Hp w w V0 [.blk p22 44 [.slice none 0 0, .slice none 0 0, .slice none 0 0, .slice none 0 0, .int .u64 0, .int .u64 0, .int .u64 0, .int .u64 0, .int .u64 0, .int .u64 0, .int .u64 0, .int .u64 0, .bool false, .slice none 0 0, .slice none 0 0], .blk p23 24 [.pointer none, .pointer (some ⟨p22, 0, none⟩)]] [] := by
   have h := ((Hp.start w).alloc [.slice none 0 0, .slice none 0 0, .slice none 0 0, .slice none 0 0, .int .u64 0, .int .u64 0, .int .u64 0, .int .u64 0, .int .u64 0, .int .u64 0, .int .u64 0, .int .u64 0, .bool false, .slice none 0 0, .slice none 0 0] 44).alloc [.pointer none, .pointer (some ⟨p22, 0, none⟩)] 24
   simp only [World.size_alloc] at h
   rw [hV0, hp23]; rw [hp22] at h ⊢; exact h
  have HP0 := Lib.hid hP0
  clear hP0
  go_upto_region 4 with fail
  rw [← hp23, ← hp22, ← hV0]
  clear hV0 hp22 hp23
  go_wp2_with fail
  go_loopw [25] (fun i wr => ∃ (k : Nat), k ≤ 2 ∧ i = .int .i64 k ∧ Hp w w wr [.blk p22 44 [.slice none 0 0, .slice none 0 0, .slice none 0 0, .slice none 0 0, .int .u64 0, .int .u64 0, .int .u64 0, .int .u64 0, .int .u64 0, .int .u64 0, .int .u64 0, .int .u64 0, .bool false, .slice none 0 0, .slice none 0 0], .blk p23 24 [.pointer none, .pointer (some ⟨p22, 0, none⟩)]] []) (fun i _ => 2 - (intOf i).toNat)
  case atStart => exact ⟨0, Nat.zero_le _, rfl, HP0.out⟩
  case round =>
   clear HP0
   obtain ⟨k, hk, rfl, hP⟩ := hrel
   have HP := Lib.hid hP
   by_cases hlt : k < 2
   ·have j1 : (k : Int) < 2 := by omega
    obtain ⟨v, hv, hno⟩ : ∃ v, wr.cell? ⟨p23, k, none⟩ = some v ∧ NoSt wr v := by
     rcases (show k = 0 ∨ k = 1 by omega) with rfl | rfl
     ·exact ⟨_, hP.c 1 0 rfl rfl, .inl rfl⟩
     ·exact ⟨_, hP.c 1 1 rfl rfl, .inr ⟨p22, rfl, hP.c 0 12 rfl rfl, hP.lt 0 rfl⟩⟩
    have hvl := hP.lt 1 rfl
    have HNO := Lib.hid (fun (W : World) (hb : Below wr.heap.size wr W) => hno.keep hb)
    have HLK := Lib.hid (lookup_no v (.slice A n c) wr hno)
    clear hno hP
    go_wp2_with fail
    refine (HLK.out).mono ?_
    rintro e W1 ⟨rfl, hb1⟩
    obtain ⟨p5, hp5⟩ : ∃ q, q = W1.heap.size := ⟨_, rfl⟩
    obtain ⟨V1, hV1⟩ : ∃ V, V = W1.alloc (.cells #[.int .i64 0, .slice none 0 0, .slice none 0 0, .slice none 0 0, .int .i64 0] 52) := ⟨_, rfl⟩
    have hP1 := (HP.out.keep hb1).alloc [.int .i64 0, .slice none 0 0, .slice none 0 0, .slice none 0 0, .int .i64 0] 52
    rw [show ([.int .i64 0, .slice none 0 0, .slice none 0 0, .slice none 0 0, .int .i64 0] : List Value).toArray = #[.int .i64 0, .slice none 0 0, .slice none 0 0, .slice none 0 0, .int .i64 0] from rfl, ← hV1, ← hp5] at hP1
    have HP1 := Lib.hid hP1
    have HB1 : Hid (Below wr.heap.size wr V1) := Lib.hid (by rw [hV1]; exact hb1.alloc hb1.size _)
    have HSA := sameAns_any noA noA V1 (noA_at V1) (noA_at V1)
    rw [show saF noA noA = true from by decide] at HSA
    have HSA : Hid (Calls Tryd.prog 6 #[.agg #[.int .i64 0, .slice none 0 0, .slice none 0 0, .slice none 0 0, .int .i64 0], .agg #[.int .i64 0, .slice none 0 0, .slice none 0 0, .slice none 0 0, .int .i64 0]] V1 (RetPost (.bool true) V1.heap.size V1)) := Lib.hid HSA
    clear hP1 hb1 HLK HP hv hvl
    go_upto_region 7 with fail
    rw [← hV1, ← hp5]
    clear hV1 hp5
    have a0 := HP1.out.c 2 0 rfl rfl
    have a1 := HP1.out.c 2 1 rfl rfl
    have a2 := HP1.out.c 2 2 rfl rfl
    have a3 := HP1.out.c 2 3 rfl rfl
    have a4 := HP1.out.c 2 4 rfl rfl
    have al := HP1.out.lt 2 rfl
    go_wp2_with fail
    refine HSA.out.mono ?_
    rintro e W2 ⟨rfl, hb2⟩
    have HB2 := Lib.hid (HB1.out.trans (hb2.mono HB1.out.size))
    have HP2 := Lib.hid (HP1.out.keep hb2)
    clear hb2 HB1 HP1 HSA a0 a1 a2 a3 a4 al
    go_wp2_with fail
    refine (pack_no v (.slice none 0 0) W2 (HNO.out W2 HB2.out)).mono ?_
    rintro e W3 ⟨rfl, rfl⟩
    have HRN := refute_no v ⟨A, n, c, [], none, 0, 0, []⟩ W2 (HNO.out W2 HB2.out)
    unfold Prf.val Prf.v1 Prf.v2 at HRN
    have HRN := Lib.hid HRN
    go_wp2_with fail
    refine HRN.out.mono ?_
    rintro e W4 ⟨rfl, hb4⟩
    have HB4 := Lib.hid (HB2.out.trans (hb4.mono HB2.out.size))
    have HP4 := Lib.hid (HP2.out.keep hb4)
    clear hb4 HB2 HP2 HRN
    go_wp2_with fail
    refine (copy_no v W4 (HNO.out W4 HB4.out)).mono ?_
    rintro e W5 ⟨rfl, rfl⟩
    have hnil := fun W b c => run_eql_func_nil (P := Tryd.prog) W 61 (.func 35) b c Tryd.underlying61
    have hnir := fun W b c => run_eql_func_nil (P := Tryd.prog) W 64 (.func 38) b c Tryd.underlying64
    go_wp2_with fail
    refine (packedIt_no v W4 (HNO.out W4 HB4.out)).mono ?_
    rintro e W6 ⟨rfl, rfl⟩
    go_wp2_with fail
    refine (refutedIt_no v W4 (HNO.out W4 HB4.out)).mono ?_
    rintro e W7 ⟨rfl, rfl⟩
    go_wp2_with fail
    refine (packed_no v W4 (HNO.out W4 HB4.out)).mono ?_
    rintro e W8 ⟨rfl, hb8⟩
    have HB8 := Lib.hid (HB4.out.trans (hb8.mono HB4.out.size))
    have HP8 := Lib.hid (HP4.out.keep hb8)
    clear hb8 HB4 HP4 hnil hnir
    go_wp2_with fail
    refine (refuted_no v W8 (HNO.out W8 HB8.out)).mono ?_
    rintro e W9 ⟨rfl, hb9⟩
    have HP9 := Lib.hid (HP8.out.keep hb9)
    clear hb9 HB8 HP8 HNO
    go_wp2_with fail
    go_roundw
    case rel => exact ⟨k + 1, hlt, by go_num, HP9.out.sub (List.Sublist.cons_cons _ (List.Sublist.cons_cons _ (List.nil_sublist _)))⟩
    case measure => simp [intOf]; omega
   ·obtain rfl : k = 2 := by omega
    have j1 : ¬ ((2 : Nat) : Int) < 2 := by omega
    clear hP
    obtain ⟨wo, rfl⟩ : ∃ wo : World, wo = wr := ⟨_, rfl⟩
    obtain ⟨p7, hp7⟩ : ∃ q, q = wo.heap.size := ⟨_, rfl⟩
    obtain ⟨V2, hV2⟩ : ∃ V, V = wo.alloc (.cells #[.slice none 0 0, .slice none 0 0, .slice none 0 0, .slice none 0 0] 32) := ⟨_, rfl⟩
    have hP2 : Hp w w V2 (.row (.slice none ([] : List Dom).length 0) 70 2 ([] : List Dom).length (flat 2 Dom.cell []) :: .blk p7 32 [.slice none ([] : List Dom).length 0, .slice none 0 0, .slice none 0 0, .slice none 0 0] :: domEnts []) [] := by
     have h := (((HP.out.sub (List.nil_sublist _)).nil 70 2).alloc [.slice none 0 0, .slice none 0 0, .slice none 0 0, .slice none 0 0] 32)
     rw [hV2, hp7]; exact h
    have HP2 := Lib.hid hP2
    clear hP2 HP
    go_upto_region 12 with fail
    rw [← hV2, ← hp7]
    clear hV2 hp7
    go_wp2_with fail
    go_loopw [8] (fun i wr => ∃ (k : Nat) (v1 : Value) (E : List Dom), k ≤ 47 ∧ i = .int .i64 k ∧ E.length = k ∧ E.map Dom.say = (List.range k).map (fun i : Nat => ((i : Int), [20])) ∧ Hp w w wr (.row v1 70 2 E.length (flat 2 Dom.cell E) :: .blk p7 32 [v1, .slice none 0 0, .slice none 0 0, .slice none 0 0] :: domEnts E) []) (fun i _ => 47 - (intOf i).toNat)
    case atStart => exact ⟨0, _, [], Nat.zero_le _, rfl, rfl, rfl, HP2.out⟩
    case round =>
     clear HP2
     obtain ⟨k, v1, E, hk, rfl, hEl, hE, hP⟩ := hrel
     obtain ⟨L0, hL0⟩ : ∃ L0, L0 = domEnts E := ⟨_, rfl⟩
     rw [← hL0] at hP
     have HL0 := Lib.hid hL0
     have HP := Lib.hid hP
     have HE := Lib.hid (And.intro hEl hE)
     have hel : E.length ≤ 47 := by omega
     have r7 := hP.c 1 0 rfl rfl
     have l7 := hP.lt 1 rfl
     by_cases hlt : k < 47
     ·have j1 : (k : Int) < 47 := by omega
      have HPC := Lib.hid (hP.alloc [.int .i64 20] 3)
      clear hP hEl hE hL0
      go_wp2_with (at_builtin; go_loud (refine wpList_append_own_at _ rfl _ _ 25 rfl w.heap.size 70 i0 (.agg #[.int .i64 0, .slice none 0 0]) 2 32 Tryd.underlying25 hi hz0 hz1 hz2 rfl (by decide) _ _ _ rfl ((HPC.out.row 0 rfl).alloc _) ⟨wr.heap.size + 1, 0, none⟩ 1 1 [.int .i64 k, .slice (some ⟨wr.heap.size, 0, none⟩) 1 1] rfl rfl (by have h := cells_newR (wr.alloc (.cells #[.int .i64 20] 3)) [.int .i64 k, .slice (some ⟨wr.heap.size, 0, none⟩) 1 1] 70; rw [World.size_alloc] at h; exact h) (by simp [Value.oneCell']) (by unfold maxLen; omega) (by omega) (by have := HPC.out.below.size; simp at this ⊢; omega) ?_); intro v6 w6 hown' hgrow _ hat; have HP6 := Lib.hid ((HPC.out.alloc0 _).grow 0 rfl hgrow hown' hat); obtain ⟨A6, cp6, rfl⟩ := HP6.out.form 0 rfl; clear hown' hgrow hat; have q7 := HP6.out.c 1 0 rfl rfl; have qf := HP6.out.f 1 rfl; have ql := HP6.out.lt 1 rfl)
      go_roundw
      case rel =>
       refine ⟨k + 1, .slice A6 (E.length + 1) cp6, E ++ [⟨k, some ⟨wr.heap.size, 0, none⟩, 1, 1, [20]⟩], hlt, by go_num, by rw [List.length_append, HE.out.1]; rfl, ?_, ?_⟩
       ·rw [List.map_append, HE.out.2, List.range_succ, List.map_append]; rfl
       ·rw [domEnts_snoc, ← HL0.out, List.length_append, flat_snoc]
        have h9 : Hp w w (w6.setCell ⟨p7, 0, none⟩ (.slice A6 (E.length + 1) cp6)) ((.row (.slice A6 (E.length + 1) cp6) 70 2 (E.length + 1) (flat 2 Dom.cell E ++ [.int .i64 k, .slice (some ⟨wr.heap.size, 0, none⟩) 1 1]) :: .blk p7 32 [.slice A6 (E.length + 1) cp6, .slice none 0 0, .slice none 0 0, .slice none 0 0] :: L0) ++ [.blk wr.heap.size 3 [.int .i64 20]]) [] := HP6.out.set 1 0 _ rfl
        have h10 := (h9.perm (List.perm_append_comm (l₂ := [_]))).toRow 0 1 1 rfl rfl (by decide)
        exact h10.perm (List.perm_append_comm (l₁ := [_]))
      case measure => simp [intOf]; omega
     ·obtain rfl : k = 47 := by omega
      have j1 : ¬ ((47 : Nat) : Int) < 47 := by omega
      obtain ⟨A1, c1, rfl⟩ := hP.form 0 rfl
      have r71 := hP.c 1 1 rfl rfl
      have r72 := hP.c 1 2 rfl rfl
      have r73 := hP.c 1 3 rfl rfl
      have HDS : Hid (E.map Dom.say = noD) := Lib.hid hE
      have hPD := hP.sub (L' := .row (.slice A1 E.length c1) 70 2 E.length (flat 2 Dom.cell E) :: L0) (List.Sublist.cons_cons _ (List.Sublist.cons _ (List.Sublist.refl _)))
      rw [hL0] at hPD
      have hdm := doms_own hPD
      have hNW := new_any ⟨A1, E.length, c1, ⟨none, 0, 0, none, 0, 0, none, 0, 0⟩⟩ wr (HT.out.keep hP.below) E noR (by show E.length ≤ _; omega) (fun d hd => by
       have h1 := (hdm.2 d hd).1
       have h2 : d.say ∈ noD := by rw [← HDS.out]; exact List.mem_map.2 ⟨d, hd, rfl⟩
       obtain ⟨i, _, e⟩ := List.mem_map.1 h2
       have h3 : d.chs = [20] := (congrArg Prod.snd e).symm
       rw [h3] at h1
       have h4 : 1 = d.len := h1
       omega) ⟨hdm, ⟨rfl, fun h => absurd h (Nat.lt_irrefl 0)⟩, ⟨rfl, fun h => absurd h (Nat.lt_irrefl 0)⟩, ⟨rfl, fun h => absurd h (Nat.lt_irrefl 0)⟩, Nat.zero_le _, Nat.zero_le _, Nat.zero_le _⟩
      have hvp := no_valid HDS.out
      unfold PrbS.val at hNW
      have HNW := Lib.hid hNW
      have HVP := Lib.hid hvp
      clear hP hEl hE hL0 hPD hdm hNW hvp HE
      go_wp2_with fail
      refine HNW.out.mono ?_
      rintro e W6 hN
      unfold NewPost at hN
      rw [if_pos HVP.out] at hN
      obtain ⟨g, x0, rfl, hge, hSt, hOk, hds, hr, hPe, hQe, hb6⟩ := hN
      have hs0 := hSt (kd g) (Nat.lt_irrefl _)
      have HP6 : Hid (Hp w w W6 [.blk g 44 x0.cells] []) := Lib.hid ((HP.out.pushBlk hb6 hs0.blk hge).sub (List.sublist_append_right _ [_]))
      have HS0 : Hid (NoS W6 g x0 []) := Lib.hid ⟨hs0, hOk, hds.trans HDS.out, hr, hPe, hQe⟩
      clear hge hSt hOk hds hr hPe hQe hb6 hs0 HNW HVP HDS HP r7 l7 r71 r72 r73
      go_wp2_with fail
      go_loopw [11, 12] (fun nv av wr => ∃ (a : Nat) (x : StS) (L : List (Nat × Nat)), a ≤ 47 ∧ av = .int .i64 a ∧ nv = .int .i64 ((tri a : Nat) : Int) ∧ NoI a 0 L ∧ NoS wr g x L ∧ Hp w w wr [.blk g 44 x.cells] []) (fun _ av _ => 47 - (intOf av).toNat)
      case atStart => exact ⟨0, x0, [], Nat.zero_le _, rfl, rfl, noI_start, HS0.out, HP6.out⟩
      case round =>
       clear HS0 HP6
       obtain ⟨a, x, L, ha, rfl, rfl, hI, hS, hP⟩ := hrel
       obtain ⟨wq, rfl⟩ : ∃ wq : World, wq = wr := ⟨_, rfl⟩
       have HP := Lib.hid hP
       have HS := Lib.hid hS
       have HI := Lib.hid hI
       by_cases hlt : a < 47
       ·have j1 : (a : Int) < 47 := by omega
        clear hP hS hI
        go_wp2_with fail
        go_loopw [11, 13] (fun nv bv wr => ∃ (b N : Nat) (x : StS) (L : List (Nat × Nat)), b ≤ a ∧ N = tri a + b ∧ bv = .int .i64 b ∧ nv = .int .i64 N ∧ NoI a b L ∧ NoS wr g x L ∧ Hp w w wr [.blk g 44 x.cells] []) (fun _ bv _ => a - (intOf bv).toNat)
        case atStart => exact ⟨0, tri a, x, L, Nat.zero_le _, rfl, rfl, rfl, HI.out, HS.out, HP.out⟩
        case round =>
         clear HI HS HP
         obtain ⟨b, N, x, L, hb, hN, rfl, rfl, hI, hS, hP⟩ := hrel
         have HP := Lib.hid hP
         have HS := Lib.hid hS
         have HI := Lib.hid hI
         have HN := Eqn.mk hN
         by_cases hbl : b < a
         ·have j2 : (b : Int) < (a : Int) := by omega
          have hNl : N ≤ 1081 := by rw [hN]; exact tri_hi hb hlt
          have hA1 := hP.alloc [.int .i64 b, .int .i64 20, .int .i64 a, .int .i64 20] 74
          have hb1 : Below wr.heap.size wr (wr.alloc (.cells #[.int .i64 b, .int .i64 20, .int .i64 a, .int .i64 20] 74)) := (Below.refl _ wr).alloc (Nat.le_refl _) _
          have hpk := pack_any g (kd g) g x (some ⟨wr.heap.size, 0, none⟩) 2 2 _ (cP (a, b)) (hS.1.keep hb1) hS.2.1 (fun k hk => Nat.lt_of_lt_of_le (hS.1.keep hb1).blk.lt hk) hS.1.hdl (by decide) (rowS_blk (cP (a, b)) (hA1.blk 1 rfl) rfl (hA1.lt 1 rfl))
          obtain ⟨L', e0, hpf, hrf, hI', hcs⟩ := no_both hS.2.2.1 hI hbl hlt
          rw [hS.2.2.2.1, hS.2.2.2.2.1, hpf] at hpk
          clear hpf hb1
          rcases hcs with ⟨hcs, he0⟩ | ⟨hcs, he0⟩
          ·have j3 : ¬ (1000 : Int) ≤ (N : Int) := by omega
           subst he0
           clear hcs
           have HPK := Lib.hid hpk
           have HRFq := Lib.hid hrf
           have HIN := Lib.hid hI'
           have HA1 := Lib.hid hA1
           clear hpk hrf hI' hA1 hS hP hI hN
           go_wp2_with fail
           refine HPK.out.mono ?_
           rintro e W2 ⟨x2, rfl, hS2, hO2, hds2, hr2, hP2, hQ2, hg2⟩
           have hp2 := (HA1.out.upd 0 (e' := .blk g 44 x2.cells) rfl hg2 hS2.blk (fun _ h => .inl h)).sub (L' := [.blk g 44 x2.cells]) (List.Sublist.cons_cons _ (List.nil_sublist _))
           have hA2 := hp2.alloc [.int .i64 b, .int .i64 a] 3
           have hb2 : Below W2.heap.size W2 (W2.alloc (.cells #[.int .i64 b, .int .i64 a] 3)) := (Below.refl _ W2).alloc (Nat.le_refl _) _
           have hrn := refute_any g (kd g) g x2 ⟨some ⟨W2.heap.size, 0, none⟩, 2, 2, [(b : Int), (a : Int)], none, 0, 0, []⟩ _ (hS2.keep hb2) hO2 (fun k hk => Nat.lt_of_lt_of_le (hS2.keep hb2).blk.lt hk) (prf_of_ints (l := [(b : Int), (a : Int)]) hA2 1 rfl (by show 2 ≤ 100000; decide))
           rw [hds2, hQ2, HS.out.2.2.2.2.2, show (⟨some ⟨W2.heap.size, 0, none⟩, 2, 2, [(b : Int), (a : Int)], none, 0, 0, []⟩ : Prf).say = cQ (a, b) from rfl, HRFq.out] at hrn
           unfold Prf.val Prf.v1 Prf.v2 at hrn
           have HRN := Lib.hid hrn
           have HA2 := Lib.hid hA2
           have HX2 := Lib.hid (And.intro hds2 (And.intro hr2 hP2))
           clear hS2 hO2 hds2 hr2 hP2 hQ2 hg2 hp2 hA2 hb2 hrn HPK HRFq HA1
           go_wp2_with fail
           refine HRN.out.mono ?_
           rintro e W3 ⟨x3, rfl, hS3, hO3, hds3, hr3, hP3, hQ3, hg3⟩
           have hp3 := (HA2.out.upd 0 (e' := .blk g 44 x3.cells) rfl hg3 hS3.blk (fun _ h => .inl h)).sub (L' := [.blk g 44 x3.cells]) (List.Sublist.cons_cons _ (List.nil_sublist _))
           have HP3 := Lib.hid hp3
           have HS3 : Hid (NoS W3 g x3 L') := Lib.hid ⟨hS3, hO3, by rw [hds3, HX2.out.1]; exact HS.out.2.2.1, by rw [hr3, HX2.out.2.1]; exact HS.out.2.2.2.1, by rw [hP3]; exact HX2.out.2.2, hQ3⟩
           clear hS3 hO3 hds3 hr3 hP3 hQ3 hg3 hp3 HRN HA2 HX2 HS HP HI
           go_wp2_with fail
           go_roundw
           case rel => exact ⟨b + 1, N + 1, x3, L', hbl, by have := HN.out; omega, by go_num, by go_num, HIN.out, HS3.out, HP3.out⟩
           case measure => simp [intOf]; omega
          ·have j3 : (1000 : Int) ≤ (N : Int) := by omega
           subst he0
           clear hcs
           have HPK := Lib.hid hpk
           have HRFq := Lib.hid hrf
           have HIN := Lib.hid hI'
           have HA1 := Lib.hid hA1
           clear hpk hrf hI' hA1 hS hP hI hN
           go_wp2_with fail
           refine HPK.out.mono ?_
           rintro e W2 ⟨x2, rfl, hS2, hO2, hds2, hr2, hP2, hQ2, hg2⟩
           have hp2 := (HA1.out.upd 0 (e' := .blk g 44 x2.cells) rfl hg2 hS2.blk (fun _ h => .inl h)).sub (L' := [.blk g 44 x2.cells]) (List.Sublist.cons_cons _ (List.nil_sublist _))
           have hA2 := hp2.alloc [.int .i64 b, .int .i64 a] 3
           have hb2 : Below W2.heap.size W2 (W2.alloc (.cells #[.int .i64 b, .int .i64 a] 3)) := (Below.refl _ W2).alloc (Nat.le_refl _) _
           have hrn := refute_any g (kd g) g x2 ⟨some ⟨W2.heap.size, 0, none⟩, 2, 2, [(b : Int), (a : Int)], none, 0, 0, []⟩ _ (hS2.keep hb2) hO2 (fun k hk => Nat.lt_of_lt_of_le (hS2.keep hb2).blk.lt hk) (prf_of_ints (l := [(b : Int), (a : Int)]) hA2 1 rfl (by show 2 ≤ 100000; decide))
           rw [hds2, hQ2, HS.out.2.2.2.2.2, show (⟨some ⟨W2.heap.size, 0, none⟩, 2, 2, [(b : Int), (a : Int)], none, 0, 0, []⟩ : Prf).say = cQ (a, b) from rfl, HRFq.out] at hrn
           unfold Prf.val Prf.v1 Prf.v2 at hrn
           have HRN := Lib.hid hrn
           have HA2 := Lib.hid hA2
           have HX2 := Lib.hid (And.intro hds2 (And.intro hr2 hP2))
           clear hS2 hO2 hds2 hr2 hP2 hQ2 hg2 hp2 hA2 hb2 hrn HPK HRFq HA1
           go_wp2_with fail
           refine HRN.out.mono ?_
           rintro e W3 ⟨x3, rfl, hS3, hO3, hds3, hr3, hP3, hQ3, hg3⟩
           have hp3 := (HA2.out.upd 0 (e' := .blk g 44 x3.cells) rfl hg3 hS3.blk (fun _ h => .inl h)).sub (L' := [.blk g 44 x3.cells]) (List.Sublist.cons_cons _ (List.nil_sublist _))
           have HP3 := Lib.hid hp3
           have HS3 : Hid (NoS W3 g x3 L') := Lib.hid ⟨hS3, hO3, by rw [hds3, HX2.out.1]; exact HS.out.2.2.1, by rw [hr3, HX2.out.2.1]; exact HS.out.2.2.2.1, by rw [hP3]; exact HX2.out.2.2, hQ3⟩
           clear hS3 hO3 hds3 hr3 hP3 hQ3 hg3 hp3 HRN HA2 HX2 HS HP HI
           go_wp2_with fail
           go_roundw
           case rel => exact ⟨b + 1, N + 1, x3, L', hbl, by have := HN.out; omega, by go_num, by go_num, HIN.out, HS3.out, HP3.out⟩
           case measure => simp [intOf]; omega
         ·have j2 : ¬ (b : Int) < (a : Int) := by omega
          clear hI hS hP
          go_wp2_with fail
          go_roundw
          case rel =>
           have hab : b = a := by omega
           refine ⟨a + 1, x, L, hlt, by go_num, ?_, noI_row (by have := HI.out; rwa [hab] at this), HS.out, HP.out⟩
           have := HN.out
           rw [show tri (a + 1) = N by unfold tri; omega]
          case measure => simp [intOf]; omega
       ·obtain ha47 : a = 47 := by omega
        have j1 : ¬ (a : Int) < 47 := by omega
        rw [ha47] at hI
        have hlen : L.length = 1000 := by have := hI.1; rw [tri_47] at this; omega
        have HPD := Lib.hid (packed_any g (kd g) g x wq hS.1 (by have := hS.2.1.pl; omega))
        have HLEN := Lib.hid hlen
        have HI47 := Lib.hid hI
        clear hI hS hP HI hlen
        go_wp2_with fail
        refine HPD.out.mono ?_
        rintro e W2 ⟨v8, O8, rfl, hO8, hl8, hH8⟩
        obtain ⟨A8, c8, rfl⟩ := hH8.form 0 rfl
        have hd8 : O8.length = 1000 := by
         have h := congrArg List.length hO8
         rw [HS.out.2.2.2.2.1, List.length_map, List.length_map, HLEN.out] at h
         exact h
        have d8 : ((O8.length : Int) == 1000) = true := by rw [hd8]; decide
        have HS2 := Lib.hid (HS.out.keep hH8.below)
        have HP2 := Lib.hid (HP.out.keep hH8.below)
        have HRD := Lib.hid (refuted_any g (kd g) g x W2 HS2.out.1 HS2.out.2.1)
        clear hO8 hl8 hH8 hd8 HPD HS HP
        go_wp2_with fail
        refine HRD.out.mono ?_
        rintro e W3 ⟨v9, O9, rfl, hO9, hl9, hH9⟩
        obtain ⟨A9, c9, rfl⟩ := hH9.form 0 rfl
        have hd9 : O9.length = 1000 := by
         have h := congrArg List.length hO9
         rw [HS2.out.2.2.2.2.2, List.length_map, List.length_map, HLEN.out] at h
         exact h
        have d9 : ((O9.length : Int) == 1000) = true := by rw [hd9]; decide
        have HS3 := Lib.hid (HS2.out.keep hH9.below)
        have hA3 := (HP2.out.keep hH9.below).alloc [.int .i64 0] 3
        have hb3 : Below W3.heap.size W3 (W3.alloc (.cells #[.int .i64 0] 3)) := (Below.refl _ W3).alloc (Nat.le_refl _) _
        obtain ⟨Q', hq1, hq2⟩ := no_last HS3.out.2.2.1 HI47.out
        have hrn := refute_any g (kd g) g x ⟨some ⟨W3.heap.size, 0, none⟩, 1, 1, [(0 : Int)], none, 0, 0, []⟩ _ (HS3.out.keep hb3).1 HS3.out.2.1 (fun k hk => Nat.lt_of_lt_of_le (HS3.out.keep hb3).1.blk.lt hk) (prf_of_ints (l := [(0 : Int)]) hA3 1 rfl (by decide))
        rw [HS3.out.2.2.2.2.2, show (⟨some ⟨W3.heap.size, 0, none⟩, 1, 1, [(0 : Int)], none, 0, 0, []⟩ : Prf).say = ([0], []) from rfl, hq1] at hrn
        unfold Prf.val Prf.v1 Prf.v2 at hrn
        have HRN := Lib.hid hrn
        have HA3 := Lib.hid hA3
        have HQ := Lib.hid hq2
        clear hO9 hl9 hH9 hd9 hA3 hb3 hq1 hq2 hrn HRD HS2 HP2
        go_wp2_with fail
        refine HRN.out.mono ?_
        rintro e W4 ⟨x4, rfl, hS4, hO4, hds4, hr4, hP4, hQ4, hg4⟩
        have HP4 := Lib.hid ((HA3.out.upd 0 (e' := .blk g 44 x4.cells) rfl hg4 hS4.blk (fun _ h => .inl h)).sub (L' := [.blk g 44 x4.cells]) (List.Sublist.cons_cons _ (List.nil_sublist _)))
        have HRD := Lib.hid (refuted_any g (kd g) g x4 W4 hS4 hO4)
        have HQ4 := Lib.hid hQ4
        clear hS4 hO4 hds4 hr4 hP4 hQ4 hg4 HRN HA3
        go_wp2_with fail
        refine HRD.out.mono ?_
        rintro e W5 ⟨v5, O5, rfl, hO5, hl5, hH5⟩
        obtain ⟨A5, c5, rfl⟩ := hH5.form 0 rfl
        have d5 : (O5.length : Int) < 1000 := by
         have h := congrArg List.length hO5
         rw [HQ4.out, List.length_map] at h
         have := HQ.out
         omega
        have HP5 := Lib.hid (HP4.out.keep hH5.below)
        clear hO5 hl5 hH5 HRD HP4
        go_wp2_with fail
        refine (HKN.out W5 HP5.out.below).mono ?_
        rintro e W6 ⟨rfl, hb6⟩
        have HB6 := Lib.hid (HP5.out.keep hb6).below
        clear hb6 HP5
        go_wp2_with fail
        go_ret
        exact ⟨rfl, HB6.out⟩
theorem containNone_lifted (os : Os) (started : os.Started) (H : Type) (enc : TypeId × Value → H) :
  ReturnsInHanded {} Tryd.checked os 3 .any (fun w args => (Rows.containNoneSpec.pre enc Tryd.prog Tryd.f3 [] false w args ∧ laidMetH Tryd.prog laid07 w) ∧ sizedMet enc Tryd.prog Tryd.f3 (OpenSpec.ofChange Rows.containNoneSpec) false w args) (Rows.containNoneSpec.post enc Tryd.prog Tryd.f3 false true false false) := by
 refine handed_laid (C := Tryd.checked) (laid := laid07) own started (by kernel_rfl) Tryd.func3
  (ChangeSpec.witness_shaped (enc := enc) (C := Tryd.checked) (os := os) (X := fun w _ => laidMetH Tryd.prog laid07 w) false (World.laidAll Tryd.prog os laid07) #[.slice none 0 0] 8 (World.laidAll_os _ _ _) (World.shaped_of_ZipB (by kernel_rfl) (by kernel_rfl)) (by kernel_rfl) (by kernel_rfl) (by kernel_rfl) (laidHold os _)) ?_
 intro W base args ds gs before hval0 hW hL hsh
 have hTab := tab_of hL hsh
 have hval : ∀ (j : Nat) t v, Tryd.f3.params[j]? = some t → args[j]? = some v → Value.okWide Tryd.prog W .any base t v := hval0
 have hW' := hW
 obtain ⟨p, q, hA0, hV, rfl, hfz, hnd⟩ := hW
 have hA : DataW.TrodAll enc Tryd.prog W 0 (fun _ => true) true Tryd.f3.params.toList args.toList ds p := hA0
 rw [Tryd.params3] at hA hval
 obtain ⟨v0, vs0, d0, ds0, p0, q0, hargs, rfl, rfl, h0, r0⟩ := trodAll_cons hA
 obtain ⟨rfl, rfl, rfl⟩ := trodAll_nil r0
 obtain rfl : args = #[v0] := by cases args; simp_all
 obtain ⟨rfl, rfl⟩ := trodVars_none hV
 have k0 := h0
 have lt0 : ∀ x ∈ p0, x.block < W.heap.size := by obtain ⟨m, hm⟩ := k0; exact DataW.trod_lt m _ _ _ hm
 obtain ⟨A0, n0, c0, xs0, rfl, R0, b0, m0⟩ := arg_ints Tryd.underlying22 Tryd.underlying3 (by kernel_rfl) (hval 0 22 _ rfl rfl) h0
 clear hA0 hval0
 refine (containNone_walk W hTab A0 n0 c0 xs0 R0 b0 m0).mono fun e W' ⟨he, bel⟩ => ?_
 subst he
 exact ⟨_, rfl, _, _, _, [], _, [], hW', trodAll_mk1 (shut_bool Tryd.underlying4 _), (trodAll_cons_mk (Below.trod laidOut (by kernel_rfl) (of_decide_eq_true (by kernel_rfl)) k0 bel lt0) trodAll_mk0), rfl, bel.frame _, fun h => by cases h⟩
theorem containNone_over : Rows.containNoneRow.holds Tryd.pinned (OpenSpec.ofChange Rows.containNoneSpec) :=
 OpenClaim.holds_of_wide 3 Tryd.f3 rfl rfl rfl rfl rfl rfl rfl ⟨rfl, rfl, rfl, rfl, rfl⟩ rfl rfl rfl rfl rfl (by kernel_rfl) Tryd.func3 (by kernel_rfl)
  (of_decide_eq_true (by kernel_rfl)) (by unfold Func.isWrapper; first | (rw [if_pos (by decide +kernel)]; kernel_rfl) | (rw [if_neg (by decide +kernel)]; exact ⟨rfl, rfl⟩))
  (fun os started H enc _ => containNone_lifted os started H enc)
theorem containNoneCard_holds : Rows.ContainNoneCardSaid :=
 Claim7.holds_tied_plain_at .later [] [.data] true (true, "fb04dc72e679fbdaff3f305ad7ac21ad168b4544c488fbe33aaa21a637137a19") false
  containNone_over (fun _ h => by cases h) (by kernel_rfl) (fun _ h => by cases h) containNone_row_tie rfl ⟨rfl, rfl⟩ (by kernel_rfl) rfl
  (fun f fn hf hfn => by
   obtain rfl : f = 3 := Option.some.inj ((show Tryd.prog.funcNamed "bandplan/bandplanlaw24.ContainNone" = some 3 by kernel_rfl).symm.trans hf) |>.symm
   obtain rfl : fn = Tryd.f3 := (Option.some.inj (Tryd.func3.symm.trans hfn)).symm
   exact ⟨by kernel_rfl, fun j t ht => by
    rw [Tryd.params3] at ht
    rcases j with _ | j
    ·obtain rfl : t = 22 := by simpa using ht.symm
     exact (show Tryd.prog.wantsStandIn 22 = false by kernel_rfl)
    ·simp at ht⟩)
  (by kernel_rfl)
#print axioms containNoneCard_holds
end Go.Proofs.YtdpbbhbegehcjaaDoor
