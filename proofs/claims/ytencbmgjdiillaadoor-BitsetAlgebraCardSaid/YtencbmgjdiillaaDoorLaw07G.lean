/- BitsetAlgebra: the laws of sets hold for the sets of any three lists of numbers. -/
import Derived.Test.YtencbmgjdiillaaDoorConv07
namespace Go.Proofs.YtencbmgjdiillaaDoor
open Go.RowKit Go.ChangeShapes Go.WideShapes Go.ChangeAt Go.Deep Go.Joins

theorem set_same (X Y : Nat) (hX : Fit X) (h : X = Y) (w : World) : (binOp .neq 28 (sV X) (sV Y)).run Tryd.prog w = .ok (.bool false) w := by
  subst h
  have := set_neq w X X hX hX
  simpa using this
theorem eqg_set (o : BinOp) (a b : Operand) (X Y : Nat) (w : World) : (eqGuard o 28 a b (sV X) (sV Y)).run Tryd.prog w = .ok () w := by
  unfold sV
  simp [go_sem]
theorem textF_len (S : Nat) : (textF S).length ≤ 3000 := by
  obtain ⟨L, hL⟩ := fin_of (mem S) (fun m hm => mem_lt hm)
  have h1 := (textP_len L).1
  have h2 : L.length = (mem S).length := by rw [← hL]; simp
  have h3 := mem_len S
  rw [hL] at h1
  unfold textF
  rw [List.length_append]
  simp only [List.length_cons, List.length_nil]
  omega
theorem encF_len (S : Nat) : (encF S).length ≤ 64 := by
  obtain ⟨L, hL⟩ := fin_of (mem S) (fun m hm => mem_lt hm)
  have h1 := encP_len L
  rw [hL] at h1
  exact h1

set_option maxRecDepth 100000 in
set_option maxHeartbeats 2000000 in
theorem alg_long1 (w : World) (hT : Tab w) (A B D : Option Addr) (n p m q k t : Nat) (hn : 60 < n)  : Calls Tryd.prog 10 #[.slice A n p, .slice B m q, .slice D k t] w fun e w' => e = .returned (.bool true) ∧ Below w.heap.size w w' := by
  have HK : Hid (∀ W, Below w.heap.size w W → Calls Tryd.prog 12 #[] W (RetPost (.bool true) W.heap.size W)) := Lib.hid (fun W hb => known_any W (hT.keep hb))
  have len : (60 : Int) < (n : Int) := by omega
  clear hT hn
  go_enter Tryd.func10, Tryd.ntmps10
  go_wp2_with fail
  have B0 : Hid (Below w.heap.size w w) := Lib.hid (Below.refl _ _)
  refine (HK.out _ B0.out).mono ?_
  rintro e W1 ⟨rfl, hw1⟩
  have C1 := Lib.hid (B0.out.trans (hw1.mono B0.out.size))
  clear hw1
  have B1 := C1
  clear C1
  go_wp2_with fail
  go_ret
  exact ⟨rfl, B1.out⟩

set_option maxRecDepth 100000 in
set_option maxHeartbeats 2000000 in
theorem alg_long2 (w : World) (hT : Tab w) (A B D : Option Addr) (n p m q k t : Nat) (hn : n ≤ 60) (hm : 60 < m)  : Calls Tryd.prog 10 #[.slice A n p, .slice B m q, .slice D k t] w fun e w' => e = .returned (.bool true) ∧ Below w.heap.size w w' := by
  have HK : Hid (∀ W, Below w.heap.size w W → Calls Tryd.prog 12 #[] W (RetPost (.bool true) W.heap.size W)) := Lib.hid (fun W hb => known_any W (hT.keep hb))
  have len : (n : Int) ≤ 60 := by omega
  have lem : (60 : Int) < (m : Int) := by omega
  clear hT hn hm
  go_enter Tryd.func10, Tryd.ntmps10
  go_wp2_with fail
  have B0 : Hid (Below w.heap.size w w) := Lib.hid (Below.refl _ _)
  refine (HK.out _ B0.out).mono ?_
  rintro e W1 ⟨rfl, hw1⟩
  have C1 := Lib.hid (B0.out.trans (hw1.mono B0.out.size))
  clear hw1
  have B1 := C1
  clear C1
  go_wp2_with fail
  go_ret
  exact ⟨rfl, B1.out⟩

set_option maxRecDepth 100000 in
set_option maxHeartbeats 2000000 in
theorem alg_long3 (w : World) (hT : Tab w) (A B D : Option Addr) (n p m q k t : Nat) (hn : n ≤ 60) (hm : m ≤ 60) (hk : 60 < k)  : Calls Tryd.prog 10 #[.slice A n p, .slice B m q, .slice D k t] w fun e w' => e = .returned (.bool true) ∧ Below w.heap.size w w' := by
  have HK : Hid (∀ W, Below w.heap.size w W → Calls Tryd.prog 12 #[] W (RetPost (.bool true) W.heap.size W)) := Lib.hid (fun W hb => known_any W (hT.keep hb))
  have len : (n : Int) ≤ 60 := by omega
  have lem : (m : Int) ≤ 60 := by omega
  have lek : (60 : Int) < (k : Int) := by omega
  clear hT hn hm hk
  go_enter Tryd.func10, Tryd.ntmps10
  go_wp2_with fail
  have B0 : Hid (Below w.heap.size w w) := Lib.hid (Below.refl _ _)
  refine (HK.out _ B0.out).mono ?_
  rintro e W1 ⟨rfl, hw1⟩
  have C1 := Lib.hid (B0.out.trans (hw1.mono B0.out.size))
  clear hw1
  have B1 := C1
  clear C1
  go_wp2_with fail
  go_ret
  exact ⟨rfl, B1.out⟩

set_option maxRecDepth 100000 in
set_option maxHeartbeats 2000000 in
theorem alg_bad1 (w : World) (hT : Tab w) (A B D : Option Addr) (n p m q k t : Nat) (hn : n ≤ 60) (hm : m ≤ 60) (hk : k ≤ 60) (a : List Int) (ha : Row1 intV w w.heap.size A n a) (hA : allowF a = false)  : Calls Tryd.prog 10 #[.slice A n p, .slice B m q, .slice D k t] w fun e w' => e = .returned (.bool true) ∧ Below w.heap.size w w' := by
  have HK : Hid (∀ W, Below w.heap.size w W → Calls Tryd.prog 12 #[] W (RetPost (.bool true) W.heap.size W)) := Lib.hid (fun W hb => known_any W (hT.keep hb))
  have len : (n : Int) ≤ 60 := by omega
  have lem : (m : Int) ≤ 60 := by omega
  have lek : (k : Int) ≤ 60 := by omega
  have HL0 := Lib.hid (allowed_any A n p w _ a (by omega) ha)
  rw [hA] at HL0
  clear hT hn hm hk ha hA
  go_enter Tryd.func10, Tryd.ntmps10
  go_wp2_with fail
  have B0 : Hid (Below w.heap.size w w) := Lib.hid (Below.refl _ _)
  refine (HL0.out).mono ?_
  rintro e wz ⟨rfl, rfl⟩
  go_wp2_with fail
  refine (HK.out _ B0.out).mono ?_
  rintro e W1 ⟨rfl, hw1⟩
  have C1 := Lib.hid (B0.out.trans (hw1.mono B0.out.size))
  clear hw1
  have B1 := C1
  clear C1
  go_wp2_with fail
  go_ret
  exact ⟨rfl, B1.out⟩

set_option maxRecDepth 100000 in
set_option maxHeartbeats 2000000 in
theorem alg_bad2 (w : World) (hT : Tab w) (A B D : Option Addr) (n p m q k t : Nat) (hn : n ≤ 60) (hm : m ≤ 60) (hk : k ≤ 60) (a : List Int) (ha : Row1 intV w w.heap.size A n a) (hA : allowF a = true) (b : List Int) (hb : Row1 intV w w.heap.size B m b) (hB : allowF b = false)  : Calls Tryd.prog 10 #[.slice A n p, .slice B m q, .slice D k t] w fun e w' => e = .returned (.bool true) ∧ Below w.heap.size w w' := by
  have HK : Hid (∀ W, Below w.heap.size w W → Calls Tryd.prog 12 #[] W (RetPost (.bool true) W.heap.size W)) := Lib.hid (fun W hb => known_any W (hT.keep hb))
  have len : (n : Int) ≤ 60 := by omega
  have lem : (m : Int) ≤ 60 := by omega
  have lek : (k : Int) ≤ 60 := by omega
  have HL0 := Lib.hid (allowed_any A n p w _ a (by omega) ha)
  rw [hA] at HL0
  have HL1 := Lib.hid (allowed_any B m q w _ b (by omega) hb)
  rw [hB] at HL1
  clear hT hn hm hk ha hA hb hB
  go_enter Tryd.func10, Tryd.ntmps10
  go_wp2_with fail
  have B0 : Hid (Below w.heap.size w w) := Lib.hid (Below.refl _ _)
  refine (HL0.out).mono ?_
  rintro e wz ⟨rfl, rfl⟩
  go_wp2_with fail
  refine (HL1.out).mono ?_
  rintro e wz ⟨rfl, rfl⟩
  go_wp2_with fail
  refine (HK.out _ B0.out).mono ?_
  rintro e W1 ⟨rfl, hw1⟩
  have C1 := Lib.hid (B0.out.trans (hw1.mono B0.out.size))
  clear hw1
  have B1 := C1
  clear C1
  go_wp2_with fail
  go_ret
  exact ⟨rfl, B1.out⟩

set_option maxRecDepth 100000 in
set_option maxHeartbeats 2000000 in
theorem alg_bad3 (w : World) (hT : Tab w) (A B D : Option Addr) (n p m q k t : Nat) (hn : n ≤ 60) (hm : m ≤ 60) (hk : k ≤ 60) (a : List Int) (ha : Row1 intV w w.heap.size A n a) (hA : allowF a = true) (b : List Int) (hb : Row1 intV w w.heap.size B m b) (hB : allowF b = true) (d : List Int) (hd : Row1 intV w w.heap.size D k d) (hD : allowF d = false)  : Calls Tryd.prog 10 #[.slice A n p, .slice B m q, .slice D k t] w fun e w' => e = .returned (.bool true) ∧ Below w.heap.size w w' := by
  have HK : Hid (∀ W, Below w.heap.size w W → Calls Tryd.prog 12 #[] W (RetPost (.bool true) W.heap.size W)) := Lib.hid (fun W hb => known_any W (hT.keep hb))
  have len : (n : Int) ≤ 60 := by omega
  have lem : (m : Int) ≤ 60 := by omega
  have lek : (k : Int) ≤ 60 := by omega
  have HL0 := Lib.hid (allowed_any A n p w _ a (by omega) ha)
  rw [hA] at HL0
  have HL1 := Lib.hid (allowed_any B m q w _ b (by omega) hb)
  rw [hB] at HL1
  have HL2 := Lib.hid (allowed_any D k t w _ d (by omega) hd)
  rw [hD] at HL2
  clear hT hn hm hk ha hA hb hB hd hD
  go_enter Tryd.func10, Tryd.ntmps10
  go_wp2_with fail
  have B0 : Hid (Below w.heap.size w w) := Lib.hid (Below.refl _ _)
  refine (HL0.out).mono ?_
  rintro e wz ⟨rfl, rfl⟩
  go_wp2_with fail
  refine (HL1.out).mono ?_
  rintro e wz ⟨rfl, rfl⟩
  go_wp2_with fail
  refine (HL2.out).mono ?_
  rintro e wz ⟨rfl, rfl⟩
  go_wp2_with fail
  refine (HK.out _ B0.out).mono ?_
  rintro e W1 ⟨rfl, hw1⟩
  have C1 := Lib.hid (B0.out.trans (hw1.mono B0.out.size))
  clear hw1
  have B1 := C1
  clear C1
  go_wp2_with fail
  go_ret
  exact ⟨rfl, B1.out⟩

set_option maxRecDepth 100000 in
set_option maxHeartbeats 16000000 in
theorem alg_main (w : World) (hT : Tab w) (A B D : Option Addr) (n p m q k t : Nat) (hn : n ≤ 60) (hm : m ≤ 60) (hk : k ≤ 60) (a : List Int) (ha : Row1 intV w w.heap.size A n a) (hA : allowF a = true) (R : Nat) (eR : ofF a = (R, 0)) (fR : Fit R) (b : List Int) (hb : Row1 intV w w.heap.size B m b) (hB : allowF b = true) (S : Nat) (eS : ofF b = (S, 0)) (fS : Fit S) (d : List Int) (hd : Row1 intV w w.heap.size D k d) (hD : allowF d = true) (U : Nat) (eU : ofF d = (U, 0)) (fU : Fit U)  : Calls Tryd.prog 10 #[.slice A n p, .slice B m q, .slice D k t] w fun e w' => e = .returned (.bool true) ∧ Below w.heap.size w w' := by
  have HT := Lib.hid hT
  have HK : Hid (∀ W, Below w.heap.size w W → Calls Tryd.prog 12 #[] W (RetPost (.bool true) W.heap.size W)) := Lib.hid (fun W hb => known_any W (hT.keep hb))
  have len : (n : Int) ≤ 60 := by omega
  have lem : (m : Int) ≤ 60 := by omega
  have lek : (k : Int) ≤ 60 := by omega
  have HL0 := Lib.hid (allowed_any A n p w _ a (by omega) ha)
  rw [hA] at HL0
  have HS0 : Hid (∀ W, Row1 intV W W.heap.size A n a → Calls Tryd.prog 13 #[.slice A n p] W (RetPost (.tuple #[sV R, .bool true]) W.heap.size W)) := Lib.hid (fun W h => by have := set_any A n p W a (by omega) h; rw [eR] at this; exact this)
  have HL1 := Lib.hid (allowed_any B m q w _ b (by omega) hb)
  rw [hB] at HL1
  have HS1 : Hid (∀ W, Row1 intV W W.heap.size B m b → Calls Tryd.prog 13 #[.slice B m q] W (RetPost (.tuple #[sV S, .bool true]) W.heap.size W)) := Lib.hid (fun W h => by have := set_any B m q W b (by omega) h; rw [eS] at this; exact this)
  have HL2 := Lib.hid (allowed_any D k t w _ d (by omega) hd)
  rw [hD] at HL2
  have HS2 : Hid (∀ W, Row1 intV W W.heap.size D k d → Calls Tryd.prog 13 #[.slice D k t] W (RetPost (.tuple #[sV U, .bool true]) W.heap.size W)) := Lib.hid (fun W h => by have := set_any D k t W d (by omega) h; rw [eU] at this; exact this)
  have HUN := Lib.hid (fun X Y W => union_any X Y W)
  have HIN := Lib.hid (fun X Y W => inter_any X Y W)
  have HMI := Lib.hid (fun X Y W => minus_any X Y W)
  have HLE := Lib.hid (fun X W => len_any X W)
  have HSB := Lib.hid (fun W => subset_any R S fR W)
  have HEM : Hid (∀ W, Calls Tryd.prog 22 #[sV (mi R S &&& S)] W (RetPost (.bool true) W.heap.size W)) := Lib.hid (fun W => by have := empty_any (mi R S &&& S) (and_lt S (mi_lt S fR)) W; rw [al_apart] at this ⊢; simpa using this)
  have HTX := Lib.hid (fun W h => text_any R W fR h)
  have HPA : Hid (∀ W, Tab W → Calls Tryd.prog 18 #[.string ⟨(textF R).toArray⟩] W (RetPost (.tuple #[sV R, .int .i64 0]) W.heap.size W)) := Lib.hid (fun W h => by have := parse_any (textF R) W (by have := textF_len R; omega) h; rw [parse_text fR] at this; exact this)
  have HEN := Lib.hid (fun W h => encN_any R W fR h)
  have HDE : Hid (∀ A' c' W, Row1 byV W W.heap.size A' (encF R).length (encF R) → Calls Tryd.prog 28 #[.slice A' (encF R).length c'] W (RetPost (.tuple #[sV R, .int .i64 0]) W.heap.size W)) := Lib.hid (fun A' c' W h => by have := decode_any A' _ c' W (encF R) (by have := encF_len R; omega) h; rw [dec_enc fR] at this; exact this)
  have n1 := set_same (R ||| S) (S ||| R) (or_lt fR fS) (ext_tb fun i => by simp [Nat.testBit_or, Bool.or_comm])
  have n2 := set_same (R &&& S) (S &&& R) (and_lt S fR) (ext_tb fun i => by simp [Nat.testBit_and, Bool.and_comm])
  have n3 := set_same ((R ||| S) ||| U) (R ||| (S ||| U)) (or_lt (or_lt fR fS) fU) (al_assoc R S U)
  have n4 := set_same ((R &&& S) &&& U) (R &&& (S &&& U)) (and_lt U (and_lt S fR)) (al_assoc2 R S U)
  have n5 := set_same (R &&& (S ||| U)) ((R &&& S) ||| (R &&& U)) (and_lt (S ||| U) fR) (al_dist R S U)
  have n6 := set_same (R ||| (S &&& U)) ((R ||| S) &&& (R ||| U)) (or_lt fR (and_lt U fS)) (al_dist2 R S U)
  have n7 := set_same (mi R S ||| (R &&& S)) R (or_lt (mi_lt S fR) (and_lt S fR)) (al_split R S)
  have n8 := fun w => set_eql w (R ||| S) S (or_lt fR fS) fS
  have ng := eqg_set
  have n9 := fun w => (set_eql w R R fR fR).trans (by rw [decide_eq_true rfl])
  rw [← al_subset] at n8
  have hal := al_len R S
  have l1 := mem_len (mi R S)
  have l2 := mem_len (R &&& S)
  have l3 := mem_len R
  have hw1 : IntKind.i64.wrap (((mem (mi R S)).length : Int) + ((mem (R &&& S)).length : Int)) = ((mem R).length : Int) := by rw [IntWalk.i64_in _ (by omega)]; omega
  clear hal l1 l2 l3
  generalize decide (mi R S = 0) = sb at *
  have hss : (sb != sb) = false := by simp
  generalize textF R = TX at *
  generalize encF R = EX at *
  have R0 := Lib.hid ha
  have R1 := Lib.hid hb
  have R2 := Lib.hid hd
  have gR : Value.agg #[.int .u64 (wd R 0), .int .u64 (wd R 1), .int .u64 (wd R 2), .int .u64 (wd R 3), .int .u64 (wd R 4), .int .u64 (wd R 5), .int .u64 (wd R 6), .int .u64 (wd R 7)] = sV R := rfl
  have gS : Value.agg #[.int .u64 (wd S 0), .int .u64 (wd S 1), .int .u64 (wd S 2), .int .u64 (wd S 3), .int .u64 (wd S 4), .int .u64 (wd S 5), .int .u64 (wd S 6), .int .u64 (wd S 7)] = sV S := rfl
  have gU : Value.agg #[.int .u64 (wd U 0), .int .u64 (wd U 1), .int .u64 (wd U 2), .int .u64 (wd U 3), .int .u64 (wd U 4), .int .u64 (wd U 5), .int .u64 (wd U 6), .int .u64 (wd U 7)] = sV U := rfl
  have GR := Lib.hid gR
  have GS := Lib.hid gS
  have GU := Lib.hid gU
  clear gR gS gU
  unfold sV at HS0 HS1 HS2 HPA HDE HTX HEN n9
  clear hT ha hb hd hA hB hD eR eS eU fR fS fU hn hm hk
  go_enter Tryd.func10, Tryd.ntmps10
  go_wp2_with fail
  have B0 : Hid (Below w.heap.size w w) := Lib.hid (Below.refl _ _)
  refine (HL0.out).mono ?_
  rintro e wz ⟨rfl, rfl⟩
  go_wp2_with fail
  refine (HL1.out).mono ?_
  rintro e wz ⟨rfl, rfl⟩
  go_wp2_with fail
  refine (HL2.out).mono ?_
  rintro e wz ⟨rfl, rfl⟩
  go_wp2_with fail
  refine (HS0.out _ R0.out).mono ?_
  rintro e W1 ⟨rfl, hw1⟩
  have C1 := Lib.hid (B0.out.trans (hw1.mono B0.out.size))
  have R0' := Lib.hid (R0.out.keep hw1)
  have R1' := Lib.hid (R1.out.keep hw1)
  have R2' := Lib.hid (R2.out.keep hw1)
  clear hw1
  go_wp2_with fail
  obtain ⟨V1, hV1⟩ : ∃ V, V = W1.alloc (.cells (sL R).toArray 28) := ⟨_, rfl⟩
  have B1 : Hid (Below w.heap.size w V1) := Lib.hid (by rw [hV1]; exact C1.out.alloc (by have := C1.out.size; exact this) _)
  have hs1 : V1.heap.size = W1.heap.size + 1 := by rw [hV1]; simp
  replace R0 := Lib.hid (show Row1 _ V1 V1.heap.size _ _ _ by rw [hV1]; exact R0'.out.allocK _)
  clear R0'
  replace R1 := Lib.hid (show Row1 _ V1 V1.heap.size _ _ _ by rw [hV1]; exact R1'.out.allocK _)
  clear R1'
  replace R2 := Lib.hid (show Row1 _ V1 V1.heap.size _ _ _ by rw [hV1]; exact R2'.out.allocK _)
  clear R2'
  have X7 : Hid (Blk V1 W1.heap.size 28 (tabL 8 (sC R))) := Lib.hid (by rw [hV1, ← sL_tab]; exact blk_new _ _ _)
  unfold sL at hV1
  rw [← hV1]
  clear hV1 C1 hs1
  clear R0
  refine (HS1.out _ R1.out).mono ?_
  rintro e W2 ⟨rfl, hw2⟩
  have C2 := Lib.hid (B1.out.trans (hw2.mono B1.out.size))
  have X7' := Lib.hid (X7.out.keep hw2)
  have R1' := Lib.hid (R1.out.keep hw2)
  have R2' := Lib.hid (R2.out.keep hw2)
  clear hw2
  go_wp2_with fail
  obtain ⟨V2, hV2⟩ : ∃ V, V = W2.alloc (.cells (sL S).toArray 28) := ⟨_, rfl⟩
  have B2 : Hid (Below w.heap.size w V2) := Lib.hid (by rw [hV2]; exact C2.out.alloc (by have := C2.out.size; exact this) _)
  have hs2 : V2.heap.size = W2.heap.size + 1 := by rw [hV2]; simp
  replace X7 := Lib.hid (show Blk V2 _ _ _ by rw [hV2]; exact X7'.out.alloc _)
  clear X7'
  replace R1 := Lib.hid (show Row1 _ V2 V2.heap.size _ _ _ by rw [hV2]; exact R1'.out.allocK _)
  clear R1'
  replace R2 := Lib.hid (show Row1 _ V2 V2.heap.size _ _ _ by rw [hV2]; exact R2'.out.allocK _)
  clear R2'
  have X9 : Hid (Blk V2 W2.heap.size 28 (tabL 8 (sC S))) := Lib.hid (by rw [hV2, ← sL_tab]; exact blk_new _ _ _)
  unfold sL at hV2
  rw [← hV2]
  clear hV2 C2 hs2
  clear R1
  refine (HS2.out _ R2.out).mono ?_
  rintro e W3 ⟨rfl, hw3⟩
  have C3 := Lib.hid (B2.out.trans (hw3.mono B2.out.size))
  have X7' := Lib.hid (X7.out.keep hw3)
  have X9' := Lib.hid (X9.out.keep hw3)
  have R2' := Lib.hid (R2.out.keep hw3)
  clear hw3
  go_wp2_with fail
  obtain ⟨V3, hV3⟩ : ∃ V, V = W3.alloc (.cells (sL U).toArray 28) := ⟨_, rfl⟩
  have B3 : Hid (Below w.heap.size w V3) := Lib.hid (by rw [hV3]; exact C3.out.alloc (by have := C3.out.size; exact this) _)
  have hs3 : V3.heap.size = W3.heap.size + 1 := by rw [hV3]; simp
  replace X7 := Lib.hid (show Blk V3 _ _ _ by rw [hV3]; exact X7'.out.alloc _)
  clear X7'
  replace X9 := Lib.hid (show Blk V3 _ _ _ by rw [hV3]; exact X9'.out.alloc _)
  clear X9'
  replace R2 := Lib.hid (show Row1 _ V3 V3.heap.size _ _ _ by rw [hV3]; exact R2'.out.allocK _)
  clear R2'
  have X11 : Hid (Blk V3 W3.heap.size 28 (tabL 8 (sC U))) := Lib.hid (by rw [hV3, ← sL_tab]; exact blk_new _ _ _)
  unfold sL at hV3
  rw [← hV3]
  clear hV3 C3 hs3
  clear R2
  have Y7 := X7
  have Y9 := X9
  have Y11 := X11
  clear X7 X9 X11
  have DD := B3
  clear B3
  simp only [GR.out, GS.out, GU.out]
  replace DD := Lib.hid DD.out.drew
  replace Y7 := Lib.hid Y7.out.drew
  replace Y9 := Lib.hid Y9.out.drew
  replace Y11 := Lib.hid Y11.out.drew
  refine Lx.region (C := fun w' => (w'.cell? ⟨W1.heap.size, 0, none⟩ = some (.int .u64 (wd R 0)) ∧ w'.cell? ⟨W1.heap.size, 1, none⟩ = some (.int .u64 (wd R 1)) ∧ w'.cell? ⟨W1.heap.size, 2, none⟩ = some (.int .u64 (wd R 2)) ∧ w'.cell? ⟨W1.heap.size, 3, none⟩ = some (.int .u64 (wd R 3)) ∧ w'.cell? ⟨W1.heap.size, 4, none⟩ = some (.int .u64 (wd R 4)) ∧ w'.cell? ⟨W1.heap.size, 5, none⟩ = some (.int .u64 (wd R 5)) ∧ w'.cell? ⟨W1.heap.size, 6, none⟩ = some (.int .u64 (wd R 6)) ∧ w'.cell? ⟨W1.heap.size, 7, none⟩ = some (.int .u64 (wd R 7))) ∧ (w'.cell? ⟨W2.heap.size, 0, none⟩ = some (.int .u64 (wd S 0)) ∧ w'.cell? ⟨W2.heap.size, 1, none⟩ = some (.int .u64 (wd S 1)) ∧ w'.cell? ⟨W2.heap.size, 2, none⟩ = some (.int .u64 (wd S 2)) ∧ w'.cell? ⟨W2.heap.size, 3, none⟩ = some (.int .u64 (wd S 3)) ∧ w'.cell? ⟨W2.heap.size, 4, none⟩ = some (.int .u64 (wd S 4)) ∧ w'.cell? ⟨W2.heap.size, 5, none⟩ = some (.int .u64 (wd S 5)) ∧ w'.cell? ⟨W2.heap.size, 6, none⟩ = some (.int .u64 (wd S 6)) ∧ w'.cell? ⟨W2.heap.size, 7, none⟩ = some (.int .u64 (wd S 7))) ∧ (w'.cell? ⟨W3.heap.size, 0, none⟩ = some (.int .u64 (wd U 0)) ∧ w'.cell? ⟨W3.heap.size, 1, none⟩ = some (.int .u64 (wd U 1)) ∧ w'.cell? ⟨W3.heap.size, 2, none⟩ = some (.int .u64 (wd U 2)) ∧ w'.cell? ⟨W3.heap.size, 3, none⟩ = some (.int .u64 (wd U 3)) ∧ w'.cell? ⟨W3.heap.size, 4, none⟩ = some (.int .u64 (wd U 4)) ∧ w'.cell? ⟨W3.heap.size, 5, none⟩ = some (.int .u64 (wd U 5)) ∧ w'.cell? ⟨W3.heap.size, 6, none⟩ = some (.int .u64 (wd U 6)) ∧ w'.cell? ⟨W3.heap.size, 7, none⟩ = some (.int .u64 (wd U 7)))) (hs := [11, 12, 14, 15, 20, 21, 23, 24]) (by kernel_rfl) (by kernel_rfl) (by exact ⟨Y7.out.eight, Y9.out.eight, Y11.out.eight⟩) ?_
  repeat' (first
    | (refine Lx.lex_no (Lx.n1 rfl rfl rfl (by with_reducible rfl)) (fun K hK => ?_); go_simp; (try simp only [GR.out, GS.out]); refine hK _ ?_; clear hK K)
    | (refine Lx.lex_no (Lx.n0 rfl rfl rfl (by with_reducible rfl)) (fun K hK => ?_); go_simp; (try simp only [GR.out, GS.out]); refine hK _ ?_; clear hK K)
    | (refine Lx.lex_no (Lx.n2 rfl rfl rfl) (fun K hK => ?_); go_simp; (try simp only [GR.out, GS.out]); refine hK _ ?_; clear hK K)
    | (refine Lx.lex_pure (v := ?_) rfl (by first | exact Lx.w0 rfl | exact Lx.w1 rfl rfl rfl (by with_reducible rfl)) ?_ (fun K hK => ?_); rotate_left 1; (intro w' hCw; (try dsimp only at hCw); go_simp; first | done | with_reducible rfl); go_simp; (try simp only [GR.out, GS.out]); refine hK _ ?_; clear hK K)
    | (refine Lx.lex_read (v := ?_) rfl (by first | exact Lx.w0 rfl | exact Lx.w1 rfl rfl rfl (by with_reducible rfl)) ?_ (fun K hK => ?_); rotate_left 1; (go_simp; first | done | with_reducible rfl); go_simp; (try simp only [GR.out, GS.out]); refine hK _ ?_; clear hK K)
    | (refine Lx.lex_eff rfl (by first | exact Lx.w0 rfl | exact Lx.w1 rfl rfl rfl (by with_reducible rfl)) (fun K hK => ?_); go_simp; (first | (go_at_call 37; refine (HUN.out _ _ _).mono ?_; rintro e Z ⟨rfl, hw⟩; replace DD := Lib.hid (DD.out.trans (hw.mono DD.out.size)); replace Y7 := Lib.hid (Y7.out.keep hw); replace Y9 := Lib.hid (Y9.out.keep hw); replace Y11 := Lib.hid (Y11.out.keep hw); clear hw) | (go_at_call 38; refine (HIN.out _ _ _).mono ?_; rintro e Z ⟨rfl, hw⟩; replace DD := Lib.hid (DD.out.trans (hw.mono DD.out.size)); replace Y7 := Lib.hid (Y7.out.keep hw); replace Y9 := Lib.hid (Y9.out.keep hw); replace Y11 := Lib.hid (Y11.out.keep hw); clear hw) | (go_at_call 39; refine (HMI.out _ _ _).mono ?_; rintro e Z ⟨rfl, hw⟩; replace DD := Lib.hid (DD.out.trans (hw.mono DD.out.size)); replace Y7 := Lib.hid (Y7.out.keep hw); replace Y9 := Lib.hid (Y9.out.keep hw); replace Y11 := Lib.hid (Y11.out.keep hw); clear hw) | (go_at_call 41; refine (HLE.out _ _).mono ?_; rintro e Z ⟨rfl, hw⟩; replace DD := Lib.hid (DD.out.trans (hw.mono DD.out.size)); replace Y7 := Lib.hid (Y7.out.keep hw); replace Y9 := Lib.hid (Y9.out.keep hw); replace Y11 := Lib.hid (Y11.out.keep hw); clear hw) | (go_at_call 40; refine (HSB.out _).mono ?_; rintro e Z ⟨rfl, hw⟩; replace DD := Lib.hid (DD.out.trans (hw.mono DD.out.size)); replace Y7 := Lib.hid (Y7.out.keep hw); replace Y9 := Lib.hid (Y9.out.keep hw); replace Y11 := Lib.hid (Y11.out.keep hw); clear hw) | (go_at_call 22; refine (HEM.out _).mono ?_; rintro e Z ⟨rfl, hw⟩; replace DD := Lib.hid (DD.out.trans (hw.mono DD.out.size)); replace Y7 := Lib.hid (Y7.out.keep hw); replace Y9 := Lib.hid (Y9.out.keep hw); replace Y11 := Lib.hid (Y11.out.keep hw); clear hw)); refine hK _ _ (by exact ⟨Y7.out.eight, Y9.out.eight, Y11.out.eight⟩) ?_; clear hK K))
  all_goals (refine Lx.lex_nil ?_)
  go_wp2_with fail
  (try simp only [GR.out, GS.out])
  replace DD := Lib.hid DD.out.drew
  replace Y7 := Lib.hid Y7.out.drew
  replace Y9 := Lib.hid Y9.out.drew
  replace Y11 := Lib.hid Y11.out.drew
  refine Lx.region (C := fun w' => (w'.cell? ⟨W1.heap.size, 0, none⟩ = some (.int .u64 (wd R 0)) ∧ w'.cell? ⟨W1.heap.size, 1, none⟩ = some (.int .u64 (wd R 1)) ∧ w'.cell? ⟨W1.heap.size, 2, none⟩ = some (.int .u64 (wd R 2)) ∧ w'.cell? ⟨W1.heap.size, 3, none⟩ = some (.int .u64 (wd R 3)) ∧ w'.cell? ⟨W1.heap.size, 4, none⟩ = some (.int .u64 (wd R 4)) ∧ w'.cell? ⟨W1.heap.size, 5, none⟩ = some (.int .u64 (wd R 5)) ∧ w'.cell? ⟨W1.heap.size, 6, none⟩ = some (.int .u64 (wd R 6)) ∧ w'.cell? ⟨W1.heap.size, 7, none⟩ = some (.int .u64 (wd R 7))) ∧ (w'.cell? ⟨W2.heap.size, 0, none⟩ = some (.int .u64 (wd S 0)) ∧ w'.cell? ⟨W2.heap.size, 1, none⟩ = some (.int .u64 (wd S 1)) ∧ w'.cell? ⟨W2.heap.size, 2, none⟩ = some (.int .u64 (wd S 2)) ∧ w'.cell? ⟨W2.heap.size, 3, none⟩ = some (.int .u64 (wd S 3)) ∧ w'.cell? ⟨W2.heap.size, 4, none⟩ = some (.int .u64 (wd S 4)) ∧ w'.cell? ⟨W2.heap.size, 5, none⟩ = some (.int .u64 (wd S 5)) ∧ w'.cell? ⟨W2.heap.size, 6, none⟩ = some (.int .u64 (wd S 6)) ∧ w'.cell? ⟨W2.heap.size, 7, none⟩ = some (.int .u64 (wd S 7))) ∧ (w'.cell? ⟨W3.heap.size, 0, none⟩ = some (.int .u64 (wd U 0)) ∧ w'.cell? ⟨W3.heap.size, 1, none⟩ = some (.int .u64 (wd U 1)) ∧ w'.cell? ⟨W3.heap.size, 2, none⟩ = some (.int .u64 (wd U 2)) ∧ w'.cell? ⟨W3.heap.size, 3, none⟩ = some (.int .u64 (wd U 3)) ∧ w'.cell? ⟨W3.heap.size, 4, none⟩ = some (.int .u64 (wd U 4)) ∧ w'.cell? ⟨W3.heap.size, 5, none⟩ = some (.int .u64 (wd U 5)) ∧ w'.cell? ⟨W3.heap.size, 6, none⟩ = some (.int .u64 (wd U 6)) ∧ w'.cell? ⟨W3.heap.size, 7, none⟩ = some (.int .u64 (wd U 7)))) (hs := [0, 1, 3, 5, 6, 7, 12, 13, 15, 17, 18, 19]) (by kernel_rfl) (by kernel_rfl) (by exact ⟨Y7.out.eight, Y9.out.eight, Y11.out.eight⟩) ?_
  repeat' (first
    | (refine Lx.lex_no (Lx.n1 rfl rfl rfl (by with_reducible rfl)) (fun K hK => ?_); go_simp; (try simp only [GR.out, GS.out, GU.out]); refine hK _ ?_; clear hK K)
    | (refine Lx.lex_no (Lx.n0 rfl rfl rfl (by with_reducible rfl)) (fun K hK => ?_); go_simp; (try simp only [GR.out, GS.out, GU.out]); refine hK _ ?_; clear hK K)
    | (refine Lx.lex_no (Lx.n2 rfl rfl rfl) (fun K hK => ?_); go_simp; (try simp only [GR.out, GS.out, GU.out]); refine hK _ ?_; clear hK K)
    | (refine Lx.lex_pure (v := ?_) rfl (by first | exact Lx.w0 rfl | exact Lx.w1 rfl rfl rfl (by with_reducible rfl)) ?_ (fun K hK => ?_); rotate_left 1; (intro w' hCw; (try dsimp only at hCw); go_simp; first | done | with_reducible rfl); go_simp; (try simp only [GR.out, GS.out, GU.out]); refine hK _ ?_; clear hK K)
    | (refine Lx.lex_read (v := ?_) rfl (by first | exact Lx.w0 rfl | exact Lx.w1 rfl rfl rfl (by with_reducible rfl)) ?_ (fun K hK => ?_); rotate_left 1; (go_simp; first | done | with_reducible rfl); go_simp; (try simp only [GR.out, GS.out, GU.out]); refine hK _ ?_; clear hK K)
    | (refine Lx.lex_eff rfl (by first | exact Lx.w0 rfl | exact Lx.w1 rfl rfl rfl (by with_reducible rfl)) (fun K hK => ?_); go_simp; (first | (go_at_call 37; refine (HUN.out _ _ _).mono ?_; rintro e Z ⟨rfl, hw⟩; replace DD := Lib.hid (DD.out.trans (hw.mono DD.out.size)); replace Y7 := Lib.hid (Y7.out.keep hw); replace Y9 := Lib.hid (Y9.out.keep hw); replace Y11 := Lib.hid (Y11.out.keep hw); clear hw) | (go_at_call 38; refine (HIN.out _ _ _).mono ?_; rintro e Z ⟨rfl, hw⟩; replace DD := Lib.hid (DD.out.trans (hw.mono DD.out.size)); replace Y7 := Lib.hid (Y7.out.keep hw); replace Y9 := Lib.hid (Y9.out.keep hw); replace Y11 := Lib.hid (Y11.out.keep hw); clear hw) | (go_at_call 39; refine (HMI.out _ _ _).mono ?_; rintro e Z ⟨rfl, hw⟩; replace DD := Lib.hid (DD.out.trans (hw.mono DD.out.size)); replace Y7 := Lib.hid (Y7.out.keep hw); replace Y9 := Lib.hid (Y9.out.keep hw); replace Y11 := Lib.hid (Y11.out.keep hw); clear hw) | (go_at_call 41; refine (HLE.out _ _).mono ?_; rintro e Z ⟨rfl, hw⟩; replace DD := Lib.hid (DD.out.trans (hw.mono DD.out.size)); replace Y7 := Lib.hid (Y7.out.keep hw); replace Y9 := Lib.hid (Y9.out.keep hw); replace Y11 := Lib.hid (Y11.out.keep hw); clear hw) | (go_at_call 40; refine (HSB.out _).mono ?_; rintro e Z ⟨rfl, hw⟩; replace DD := Lib.hid (DD.out.trans (hw.mono DD.out.size)); replace Y7 := Lib.hid (Y7.out.keep hw); replace Y9 := Lib.hid (Y9.out.keep hw); replace Y11 := Lib.hid (Y11.out.keep hw); clear hw) | (go_at_call 22; refine (HEM.out _).mono ?_; rintro e Z ⟨rfl, hw⟩; replace DD := Lib.hid (DD.out.trans (hw.mono DD.out.size)); replace Y7 := Lib.hid (Y7.out.keep hw); replace Y9 := Lib.hid (Y9.out.keep hw); replace Y11 := Lib.hid (Y11.out.keep hw); clear hw)); refine hK _ _ (by exact ⟨Y7.out.eight, Y9.out.eight, Y11.out.eight⟩) ?_; clear hK K))
  all_goals (refine Lx.lex_nil ?_)
  go_wp2_with fail
  (try simp only [GR.out, GS.out, GU.out])
  replace DD := Lib.hid DD.out.drew
  replace Y7 := Lib.hid Y7.out.drew
  replace Y9 := Lib.hid Y9.out.drew
  replace Y11 := Lib.hid Y11.out.drew
  refine Lx.region (C := fun w' => (w'.cell? ⟨W1.heap.size, 0, none⟩ = some (.int .u64 (wd R 0)) ∧ w'.cell? ⟨W1.heap.size, 1, none⟩ = some (.int .u64 (wd R 1)) ∧ w'.cell? ⟨W1.heap.size, 2, none⟩ = some (.int .u64 (wd R 2)) ∧ w'.cell? ⟨W1.heap.size, 3, none⟩ = some (.int .u64 (wd R 3)) ∧ w'.cell? ⟨W1.heap.size, 4, none⟩ = some (.int .u64 (wd R 4)) ∧ w'.cell? ⟨W1.heap.size, 5, none⟩ = some (.int .u64 (wd R 5)) ∧ w'.cell? ⟨W1.heap.size, 6, none⟩ = some (.int .u64 (wd R 6)) ∧ w'.cell? ⟨W1.heap.size, 7, none⟩ = some (.int .u64 (wd R 7))) ∧ (w'.cell? ⟨W2.heap.size, 0, none⟩ = some (.int .u64 (wd S 0)) ∧ w'.cell? ⟨W2.heap.size, 1, none⟩ = some (.int .u64 (wd S 1)) ∧ w'.cell? ⟨W2.heap.size, 2, none⟩ = some (.int .u64 (wd S 2)) ∧ w'.cell? ⟨W2.heap.size, 3, none⟩ = some (.int .u64 (wd S 3)) ∧ w'.cell? ⟨W2.heap.size, 4, none⟩ = some (.int .u64 (wd S 4)) ∧ w'.cell? ⟨W2.heap.size, 5, none⟩ = some (.int .u64 (wd S 5)) ∧ w'.cell? ⟨W2.heap.size, 6, none⟩ = some (.int .u64 (wd S 6)) ∧ w'.cell? ⟨W2.heap.size, 7, none⟩ = some (.int .u64 (wd S 7))) ∧ (w'.cell? ⟨W3.heap.size, 0, none⟩ = some (.int .u64 (wd U 0)) ∧ w'.cell? ⟨W3.heap.size, 1, none⟩ = some (.int .u64 (wd U 1)) ∧ w'.cell? ⟨W3.heap.size, 2, none⟩ = some (.int .u64 (wd U 2)) ∧ w'.cell? ⟨W3.heap.size, 3, none⟩ = some (.int .u64 (wd U 3)) ∧ w'.cell? ⟨W3.heap.size, 4, none⟩ = some (.int .u64 (wd U 4)) ∧ w'.cell? ⟨W3.heap.size, 5, none⟩ = some (.int .u64 (wd U 5)) ∧ w'.cell? ⟨W3.heap.size, 6, none⟩ = some (.int .u64 (wd U 6)) ∧ w'.cell? ⟨W3.heap.size, 7, none⟩ = some (.int .u64 (wd U 7)))) (hs := [0, 1, 2, 5, 6, 8, 9, 14, 15, 16, 19, 20, 22, 23]) (by kernel_rfl) (by kernel_rfl) (by exact ⟨Y7.out.eight, Y9.out.eight, Y11.out.eight⟩) ?_
  repeat' (first
    | (refine Lx.lex_no (Lx.n1 rfl rfl rfl (by with_reducible rfl)) (fun K hK => ?_); go_simp; (try simp only [GR.out, GS.out, GU.out]); refine hK _ ?_; clear hK K)
    | (refine Lx.lex_no (Lx.n0 rfl rfl rfl (by with_reducible rfl)) (fun K hK => ?_); go_simp; (try simp only [GR.out, GS.out, GU.out]); refine hK _ ?_; clear hK K)
    | (refine Lx.lex_no (Lx.n2 rfl rfl rfl) (fun K hK => ?_); go_simp; (try simp only [GR.out, GS.out, GU.out]); refine hK _ ?_; clear hK K)
    | (refine Lx.lex_pure (v := ?_) rfl (by first | exact Lx.w0 rfl | exact Lx.w1 rfl rfl rfl (by with_reducible rfl)) ?_ (fun K hK => ?_); rotate_left 1; (intro w' hCw; (try dsimp only at hCw); go_simp; first | done | with_reducible rfl); go_simp; (try simp only [GR.out, GS.out, GU.out]); refine hK _ ?_; clear hK K)
    | (refine Lx.lex_read (v := ?_) rfl (by first | exact Lx.w0 rfl | exact Lx.w1 rfl rfl rfl (by with_reducible rfl)) ?_ (fun K hK => ?_); rotate_left 1; (go_simp; first | done | with_reducible rfl); go_simp; (try simp only [GR.out, GS.out, GU.out]); refine hK _ ?_; clear hK K)
    | (refine Lx.lex_eff rfl (by first | exact Lx.w0 rfl | exact Lx.w1 rfl rfl rfl (by with_reducible rfl)) (fun K hK => ?_); go_simp; (first | (go_at_call 37; refine (HUN.out _ _ _).mono ?_; rintro e Z ⟨rfl, hw⟩; replace DD := Lib.hid (DD.out.trans (hw.mono DD.out.size)); replace Y7 := Lib.hid (Y7.out.keep hw); replace Y9 := Lib.hid (Y9.out.keep hw); replace Y11 := Lib.hid (Y11.out.keep hw); clear hw) | (go_at_call 38; refine (HIN.out _ _ _).mono ?_; rintro e Z ⟨rfl, hw⟩; replace DD := Lib.hid (DD.out.trans (hw.mono DD.out.size)); replace Y7 := Lib.hid (Y7.out.keep hw); replace Y9 := Lib.hid (Y9.out.keep hw); replace Y11 := Lib.hid (Y11.out.keep hw); clear hw) | (go_at_call 39; refine (HMI.out _ _ _).mono ?_; rintro e Z ⟨rfl, hw⟩; replace DD := Lib.hid (DD.out.trans (hw.mono DD.out.size)); replace Y7 := Lib.hid (Y7.out.keep hw); replace Y9 := Lib.hid (Y9.out.keep hw); replace Y11 := Lib.hid (Y11.out.keep hw); clear hw) | (go_at_call 41; refine (HLE.out _ _).mono ?_; rintro e Z ⟨rfl, hw⟩; replace DD := Lib.hid (DD.out.trans (hw.mono DD.out.size)); replace Y7 := Lib.hid (Y7.out.keep hw); replace Y9 := Lib.hid (Y9.out.keep hw); replace Y11 := Lib.hid (Y11.out.keep hw); clear hw) | (go_at_call 40; refine (HSB.out _).mono ?_; rintro e Z ⟨rfl, hw⟩; replace DD := Lib.hid (DD.out.trans (hw.mono DD.out.size)); replace Y7 := Lib.hid (Y7.out.keep hw); replace Y9 := Lib.hid (Y9.out.keep hw); replace Y11 := Lib.hid (Y11.out.keep hw); clear hw) | (go_at_call 22; refine (HEM.out _).mono ?_; rintro e Z ⟨rfl, hw⟩; replace DD := Lib.hid (DD.out.trans (hw.mono DD.out.size)); replace Y7 := Lib.hid (Y7.out.keep hw); replace Y9 := Lib.hid (Y9.out.keep hw); replace Y11 := Lib.hid (Y11.out.keep hw); clear hw)); refine hK _ _ (by exact ⟨Y7.out.eight, Y9.out.eight, Y11.out.eight⟩) ?_; clear hK K))
  all_goals (refine Lx.lex_nil ?_)
  go_wp2_with fail
  (try simp only [GR.out, GS.out, GU.out])
  replace DD := Lib.hid DD.out.drew
  replace Y7 := Lib.hid Y7.out.drew
  replace Y9 := Lib.hid Y9.out.drew
  replace Y11 := Lib.hid Y11.out.drew
  refine Lx.region (C := fun w' => (w'.cell? ⟨W1.heap.size, 0, none⟩ = some (.int .u64 (wd R 0)) ∧ w'.cell? ⟨W1.heap.size, 1, none⟩ = some (.int .u64 (wd R 1)) ∧ w'.cell? ⟨W1.heap.size, 2, none⟩ = some (.int .u64 (wd R 2)) ∧ w'.cell? ⟨W1.heap.size, 3, none⟩ = some (.int .u64 (wd R 3)) ∧ w'.cell? ⟨W1.heap.size, 4, none⟩ = some (.int .u64 (wd R 4)) ∧ w'.cell? ⟨W1.heap.size, 5, none⟩ = some (.int .u64 (wd R 5)) ∧ w'.cell? ⟨W1.heap.size, 6, none⟩ = some (.int .u64 (wd R 6)) ∧ w'.cell? ⟨W1.heap.size, 7, none⟩ = some (.int .u64 (wd R 7))) ∧ (w'.cell? ⟨W2.heap.size, 0, none⟩ = some (.int .u64 (wd S 0)) ∧ w'.cell? ⟨W2.heap.size, 1, none⟩ = some (.int .u64 (wd S 1)) ∧ w'.cell? ⟨W2.heap.size, 2, none⟩ = some (.int .u64 (wd S 2)) ∧ w'.cell? ⟨W2.heap.size, 3, none⟩ = some (.int .u64 (wd S 3)) ∧ w'.cell? ⟨W2.heap.size, 4, none⟩ = some (.int .u64 (wd S 4)) ∧ w'.cell? ⟨W2.heap.size, 5, none⟩ = some (.int .u64 (wd S 5)) ∧ w'.cell? ⟨W2.heap.size, 6, none⟩ = some (.int .u64 (wd S 6)) ∧ w'.cell? ⟨W2.heap.size, 7, none⟩ = some (.int .u64 (wd S 7))) ∧ (w'.cell? ⟨W3.heap.size, 0, none⟩ = some (.int .u64 (wd U 0)) ∧ w'.cell? ⟨W3.heap.size, 1, none⟩ = some (.int .u64 (wd U 1)) ∧ w'.cell? ⟨W3.heap.size, 2, none⟩ = some (.int .u64 (wd U 2)) ∧ w'.cell? ⟨W3.heap.size, 3, none⟩ = some (.int .u64 (wd U 3)) ∧ w'.cell? ⟨W3.heap.size, 4, none⟩ = some (.int .u64 (wd U 4)) ∧ w'.cell? ⟨W3.heap.size, 5, none⟩ = some (.int .u64 (wd U 5)) ∧ w'.cell? ⟨W3.heap.size, 6, none⟩ = some (.int .u64 (wd U 6)) ∧ w'.cell? ⟨W3.heap.size, 7, none⟩ = some (.int .u64 (wd U 7)))) (hs := [0, 1, 3, 4, 7, 10, 11, 13, 19, 20, 23, 24, 28, 33, 34, 36, 37, 39]) (by kernel_rfl) (by kernel_rfl) (by exact ⟨Y7.out.eight, Y9.out.eight, Y11.out.eight⟩) ?_
  repeat' (first
    | (refine Lx.lex_no (Lx.n1 rfl rfl rfl (by with_reducible rfl)) (fun K hK => ?_); go_simp; (try simp only [GR.out, GS.out]); refine hK _ ?_; clear hK K)
    | (refine Lx.lex_no (Lx.n0 rfl rfl rfl (by with_reducible rfl)) (fun K hK => ?_); go_simp; (try simp only [GR.out, GS.out]); refine hK _ ?_; clear hK K)
    | (refine Lx.lex_no (Lx.n2 rfl rfl rfl) (fun K hK => ?_); go_simp; (try simp only [GR.out, GS.out]); refine hK _ ?_; clear hK K)
    | (refine Lx.lex_pure (v := ?_) rfl (by first | exact Lx.w0 rfl | exact Lx.w1 rfl rfl rfl (by with_reducible rfl)) ?_ (fun K hK => ?_); rotate_left 1; (intro w' hCw; (try dsimp only at hCw); go_simp; first | done | with_reducible rfl); go_simp; (try simp only [GR.out, GS.out]); refine hK _ ?_; clear hK K)
    | (refine Lx.lex_read (v := ?_) rfl (by first | exact Lx.w0 rfl | exact Lx.w1 rfl rfl rfl (by with_reducible rfl)) ?_ (fun K hK => ?_); rotate_left 1; (go_simp; first | done | with_reducible rfl); go_simp; (try simp only [GR.out, GS.out]); refine hK _ ?_; clear hK K)
    | (refine Lx.lex_eff rfl (by first | exact Lx.w0 rfl | exact Lx.w1 rfl rfl rfl (by with_reducible rfl)) (fun K hK => ?_); go_simp; (first | (go_at_call 37; refine (HUN.out _ _ _).mono ?_; rintro e Z ⟨rfl, hw⟩; replace DD := Lib.hid (DD.out.trans (hw.mono DD.out.size)); replace Y7 := Lib.hid (Y7.out.keep hw); replace Y9 := Lib.hid (Y9.out.keep hw); replace Y11 := Lib.hid (Y11.out.keep hw); clear hw) | (go_at_call 38; refine (HIN.out _ _ _).mono ?_; rintro e Z ⟨rfl, hw⟩; replace DD := Lib.hid (DD.out.trans (hw.mono DD.out.size)); replace Y7 := Lib.hid (Y7.out.keep hw); replace Y9 := Lib.hid (Y9.out.keep hw); replace Y11 := Lib.hid (Y11.out.keep hw); clear hw) | (go_at_call 39; refine (HMI.out _ _ _).mono ?_; rintro e Z ⟨rfl, hw⟩; replace DD := Lib.hid (DD.out.trans (hw.mono DD.out.size)); replace Y7 := Lib.hid (Y7.out.keep hw); replace Y9 := Lib.hid (Y9.out.keep hw); replace Y11 := Lib.hid (Y11.out.keep hw); clear hw) | (go_at_call 41; refine (HLE.out _ _).mono ?_; rintro e Z ⟨rfl, hw⟩; replace DD := Lib.hid (DD.out.trans (hw.mono DD.out.size)); replace Y7 := Lib.hid (Y7.out.keep hw); replace Y9 := Lib.hid (Y9.out.keep hw); replace Y11 := Lib.hid (Y11.out.keep hw); clear hw) | (go_at_call 40; refine (HSB.out _).mono ?_; rintro e Z ⟨rfl, hw⟩; replace DD := Lib.hid (DD.out.trans (hw.mono DD.out.size)); replace Y7 := Lib.hid (Y7.out.keep hw); replace Y9 := Lib.hid (Y9.out.keep hw); replace Y11 := Lib.hid (Y11.out.keep hw); clear hw) | (go_at_call 22; refine (HEM.out _).mono ?_; rintro e Z ⟨rfl, hw⟩; replace DD := Lib.hid (DD.out.trans (hw.mono DD.out.size)); replace Y7 := Lib.hid (Y7.out.keep hw); replace Y9 := Lib.hid (Y9.out.keep hw); replace Y11 := Lib.hid (Y11.out.keep hw); clear hw)); refine hK _ _ (by exact ⟨Y7.out.eight, Y9.out.eight, Y11.out.eight⟩) ?_; clear hK K))
  all_goals (refine Lx.lex_nil ?_)
  clear n1 n2 n3 n4 n5 n6 n7 n8 ng hw1 hss HUN HIN HMI HLE HSB HEM Y9 Y11
  have B9 := DD
  clear DD
  obtain ⟨y7_0, y7_1, y7_2, y7_3, y7_4, y7_5, y7_6, y7_7⟩ := Y7.out.eight
  go_wp2_with fail
  clear y7_0 y7_1 y7_2 y7_3 y7_4 y7_5 y7_6 y7_7
  refine (HTX.out _ (HT.out.keep B9.out)).mono ?_
  rintro e W10 ⟨rfl, hw10⟩
  have C10 := Lib.hid (B9.out.trans (hw10.mono B9.out.size))
  have Y7' := Lib.hid (Y7.out.keep hw10)
  clear hw10
  have B10 := C10
  replace Y7 := Y7'
  clear Y7'
  clear C10
  go_wp2_with fail
  refine (HPA.out _ (HT.out.keep B10.out)).mono ?_
  rintro e W11 ⟨rfl, hw11⟩
  have C11 := Lib.hid (B10.out.trans (hw11.mono B10.out.size))
  have Y7' := Lib.hid (Y7.out.keep hw11)
  clear hw11
  obtain ⟨y7_0, y7_1, y7_2, y7_3, y7_4, y7_5, y7_6, y7_7⟩ := Y7'.out.eightA
  go_wp2_with fail
  clear y7_0 y7_1 y7_2 y7_3 y7_4 y7_5 y7_6 y7_7
  obtain ⟨V11, hV11⟩ : ∃ V, V = W11.alloc (.cells (sL R).toArray 28) := ⟨_, rfl⟩
  have B11 : Hid (Below w.heap.size w V11) := Lib.hid (by rw [hV11]; exact C11.out.alloc (by have := C11.out.size; exact this) _)
  have hs11 : V11.heap.size = W11.heap.size + 1 := by rw [hV11]; simp
  replace Y7 := Lib.hid (show Blk V11 _ _ _ by rw [hV11]; exact Y7'.out.alloc _)
  clear Y7'
  have X13 : Hid (Blk V11 W11.heap.size 28 (tabL 8 (sC R))) := Lib.hid (by rw [hV11, ← sL_tab]; exact blk_new _ _ _)
  unfold sL at hV11
  rw [← hV11]
  clear hV11 C11 hs11
  refine (HEN.out _ (HT.out.keep B11.out)).mono ?_
  rintro e W12 ⟨A7, c7, rfl, hr7, hw12⟩
  have C12 := Lib.hid (B11.out.trans (hw12.mono B11.out.size))
  have Y7' := Lib.hid (Y7.out.keep hw12)
  have X13' := Lib.hid (X13.out.keep hw12)
  have E7' := Lib.hid hr7
  clear hr7
  clear hw12
  have B12 := C12
  replace Y7 := Y7'
  clear Y7'
  replace X13 := X13'
  clear X13'
  replace E7 := E7'
  clear E7'
  clear C12
  go_wp2_with fail
  refine (HDE.out _ _ _ E7.out).mono ?_
  rintro e W13 ⟨rfl, hw13⟩
  have C13 := Lib.hid (B12.out.trans (hw13.mono B12.out.size))
  have Y7' := Lib.hid (Y7.out.keep hw13)
  have X13' := Lib.hid (X13.out.keep hw13)
  have E7' := Lib.hid (E7.out.keep hw13)
  clear hw13
  obtain ⟨y7_0, y7_1, y7_2, y7_3, y7_4, y7_5, y7_6, y7_7⟩ := Y7'.out.eightA
  obtain ⟨x13_0, x13_1, x13_2, x13_3, x13_4, x13_5, x13_6, x13_7⟩ := X13'.out.eightA
  go_wp2_with fail
  clear y7_0 y7_1 y7_2 y7_3 y7_4 y7_5 y7_6 y7_7 x13_0 x13_1 x13_2 x13_3 x13_4 x13_5 x13_6 x13_7
  obtain ⟨V13, hV13⟩ : ∃ V, V = W13.alloc (.cells (sL R).toArray 28) := ⟨_, rfl⟩
  have B13 : Hid (Below w.heap.size w V13) := Lib.hid (by rw [hV13]; exact C13.out.alloc (by have := C13.out.size; exact this) _)
  have hs13 : V13.heap.size = W13.heap.size + 1 := by rw [hV13]; simp
  replace Y7 := Lib.hid (show Blk V13 _ _ _ by rw [hV13]; exact Y7'.out.alloc _)
  clear Y7'
  replace X13 := Lib.hid (show Blk V13 _ _ _ by rw [hV13]; exact X13'.out.alloc _)
  clear X13'
  replace E7 := Lib.hid (show Row1 _ V13 V13.heap.size _ _ _ by rw [hV13]; exact E7'.out.allocK _)
  clear E7'
  have X15 : Hid (Blk V13 W13.heap.size 28 (tabL 8 (sC R))) := Lib.hid (by rw [hV13, ← sL_tab]; exact blk_new _ _ _)
  unfold sL at hV13
  rw [← hV13]
  clear hV13 C13 hs13
  refine (HK.out _ B13.out).mono ?_
  rintro e W14 ⟨rfl, hw14⟩
  have C14 := Lib.hid (B13.out.trans (hw14.mono B13.out.size))
  have Y7' := Lib.hid (Y7.out.keep hw14)
  have X13' := Lib.hid (X13.out.keep hw14)
  have X15' := Lib.hid (X15.out.keep hw14)
  have E7' := Lib.hid (E7.out.keep hw14)
  clear hw14
  have B14 := C14
  replace Y7 := Y7'
  clear Y7'
  replace X13 := X13'
  clear X13'
  replace X15 := X15'
  clear X15'
  replace E7 := E7'
  clear E7'
  clear C14
  go_wp2_with fail
  go_ret
  exact ⟨rfl, B14.out⟩

theorem bitsetAlgebra_walk (w : World) (hT : Tab w) (A : Option Addr) (n p : Nat) (a : List Int) (ha : Row1 intV w w.heap.size A n a) (_ : ∀ z ∈ a, I64 z) (_ : n ≤ 9223372036854775807) (B : Option Addr) (m q : Nat) (b : List Int) (hb : Row1 intV w w.heap.size B m b) (_ : ∀ z ∈ b, I64 z) (_ : m ≤ 9223372036854775807)
    (D : Option Addr) (k t : Nat) (d : List Int) (hd : Row1 intV w w.heap.size D k d) (_ : ∀ z ∈ d, I64 z) (_ : k ≤ 9223372036854775807) : Calls Tryd.prog 10 #[.slice A n p, .slice B m q, .slice D k t] w fun e w' => e = .returned (.bool true) ∧ Below w.heap.size w w' := by
  by_cases hn : n ≤ 60
  · by_cases hm : m ≤ 60
    · by_cases hk : k ≤ 60
      · cases hA : allowF a with
        | false => exact alg_bad1 w hT A B D n p m q k t hn hm hk a ha hA
        | true =>
          cases hB : allowF b with
          | false => exact alg_bad2 w hT A B D n p m q k t hn hm hk a ha hA b hb hB
          | true =>
            cases hD : allowF d with
            | false => exact alg_bad3 w hT A B D n p m q k t hn hm hk a ha hA b hb hB d hd hD
            | true =>
              obtain ⟨R, e1, f1, _, _⟩ := of_good hA
              obtain ⟨S, e2, f2, _, _⟩ := of_good hB
              obtain ⟨U, e3, f3, _, _⟩ := of_good hD
              exact alg_main w hT A B D n p m q k t hn hm hk a ha hA R e1 f1 b hb hB S e2 f2 d hd hD U e3 f3
      · exact alg_long3 w hT A B D n p m q k t hn hm (by omega)
    · exact alg_long2 w hT A B D n p m q k t hn (by omega)
  · exact alg_long1 w hT A B D n p m q k t (by omega)

set_option maxRecDepth 100000 in
theorem bitsetAlgebra_lifted (os : Os) (started : os.Started) (H : Type) (enc : TypeId × Value → H) :
    ReturnsInHanded {} Tryd.checked os 10 .any (fun w args => (Rows.bitsetAlgebraSpec.pre enc Tryd.prog Tryd.f10 [] false w args ∧ laidMetH Tryd.prog laid07 w) ∧ sizedMet enc Tryd.prog Tryd.f10 (OpenSpec.ofChange Rows.bitsetAlgebraSpec) false w args) (Rows.bitsetAlgebraSpec.post enc Tryd.prog Tryd.f10 false true false false) := by
  refine handed_laid (C := Tryd.checked) (laid := laid07) own started (by kernel_rfl) Tryd.func10
    (ChangeSpec.witness_shaped (enc := enc) (C := Tryd.checked) (os := os) (X := fun w _ => laidMetH Tryd.prog laid07 w) false (World.laidAll Tryd.prog os laid07) #[.slice none 0 0, .slice none 0 0, .slice none 0 0] 8 (World.laidAll_os _ _ _) (World.shaped_of_ZipB (by kernel_rfl) (by kernel_rfl)) (by kernel_rfl) (by kernel_rfl) (by kernel_rfl) (laidHold os _)) ?_
  intro W base args ds gs before hval0 hW hL hsh
  have hTab := tab_of hL hsh
  have hval : ∀ (j : Nat) t v, Tryd.f10.params[j]? = some t → args[j]? = some v → Value.okWide Tryd.prog W .any base t v := hval0
  have hW' := hW
  obtain ⟨p, q, hA0, hV, rfl, hfz, hnd⟩ := hW
  have hA : DataW.TrodAll enc Tryd.prog W 0 (fun _ => true) true Tryd.f10.params.toList args.toList ds p := hA0
  rw [Tryd.params10] at hA hval
  obtain ⟨v0, vs0, d0, ds0, p0, q0, hargs, rfl, rfl, h0, r0⟩ := trodAll_cons hA
  obtain ⟨v1, vs1, d1, ds1, p1, q1, rfl, rfl, rfl, h1, r1⟩ := trodAll_cons r0
  obtain ⟨v2, vs2, d2, ds2, p2, q2, rfl, rfl, rfl, h2, r2⟩ := trodAll_cons r1
  obtain ⟨rfl, rfl, rfl⟩ := trodAll_nil r2
  obtain rfl : args = #[v0, v1, v2] := by cases args; simp_all
  obtain ⟨rfl, rfl⟩ := trodVars_none hV
  have k0 := h0
  have lt0 : ∀ x ∈ p0, x.block < W.heap.size := by obtain ⟨m, hm⟩ := k0; exact DataW.trod_lt m _ _ _ hm
  have k1 := h1
  have lt1 : ∀ x ∈ p1, x.block < W.heap.size := by obtain ⟨m, hm⟩ := k1; exact DataW.trod_lt m _ _ _ hm
  have k2 := h2
  have lt2 : ∀ x ∈ p2, x.block < W.heap.size := by obtain ⟨m, hm⟩ := k2; exact DataW.trod_lt m _ _ _ hm
  obtain ⟨A0, n0, c0, xs0, rfl, R0, b0, m0⟩ := arg_ints Tryd.underlying22 Tryd.underlying3 (by kernel_rfl) (hval 0 22 _ rfl rfl) h0
  obtain ⟨A1, n1, c1, xs1, rfl, R1, b1, m1⟩ := arg_ints Tryd.underlying22 Tryd.underlying3 (by kernel_rfl) (hval 1 22 _ rfl rfl) h1
  obtain ⟨A2, n2, c2, xs2, rfl, R2, b2, m2⟩ := arg_ints Tryd.underlying22 Tryd.underlying3 (by kernel_rfl) (hval 2 22 _ rfl rfl) h2
  clear hA0 hval0
  refine (bitsetAlgebra_walk W hTab A0 n0 c0 xs0 R0 b0 m0 A1 n1 c1 xs1 R1 b1 m1 A2 n2 c2 xs2 R2 b2 m2).mono fun e W' ⟨he, bel⟩ => ?_
  subst he
  exact ⟨_, rfl, _, _, _, [], _, [], hW', trodAll_mk1 (shut_bool Tryd.underlying4 _), (trodAll_cons_mk (Below.trod laidOut (by kernel_rfl) (of_decide_eq_true (by kernel_rfl)) k0 bel lt0) (trodAll_cons_mk (Below.trod laidOut (by kernel_rfl) (of_decide_eq_true (by kernel_rfl)) k1 bel lt1) (trodAll_cons_mk (Below.trod laidOut (by kernel_rfl) (of_decide_eq_true (by kernel_rfl)) k2 bel lt2) trodAll_mk0))), rfl, bel.frame _, fun h => by cases h⟩

theorem bitsetAlgebra_over : Rows.bitsetAlgebraRow.holds Tryd.pinned (OpenSpec.ofChange Rows.bitsetAlgebraSpec) :=
  OpenClaim.holds_of_wide 10 Tryd.f10 rfl rfl rfl rfl rfl rfl rfl ⟨rfl, rfl, rfl, rfl, rfl⟩ rfl rfl rfl rfl rfl (by kernel_rfl) Tryd.func10 (by kernel_rfl)
    (of_decide_eq_true (by kernel_rfl)) (by unfold Func.isWrapper; first | (rw [if_pos (by decide +kernel)]; kernel_rfl) | (rw [if_neg (by decide +kernel)]; exact ⟨rfl, rfl⟩))
    (fun os started H enc _ => bitsetAlgebra_lifted os started H enc)

theorem bitsetAlgebraCard_holds : Rows.BitsetAlgebraCardSaid :=
  Claim7.holds_tied_plain_at .later [] [.data, .data, .data] true (true, "39aa42fe034a2cbedf78232cde6b0da1e7f2e4be5808576f250df2ef6185728f") false
    bitsetAlgebra_over (fun _ h => by cases h) (by kernel_rfl) (fun _ h => by cases h) bitsetAlgebra_row_tie rfl ⟨rfl, rfl⟩ (by kernel_rfl) rfl
    (fun f fn hf hfn => by
      obtain rfl : f = 10 := Option.some.inj ((show Tryd.prog.funcNamed "bandplan/bandplanlaw07.BitsetAlgebra" = some 10 by kernel_rfl).symm.trans hf) |>.symm
      obtain rfl : fn = Tryd.f10 := (Option.some.inj (Tryd.func10.symm.trans hfn)).symm
      exact ⟨by kernel_rfl, fun j t ht => by
        rw [Tryd.params10] at ht
        rcases j with _ | j
        · obtain rfl : t = 22 := by simpa using ht.symm
          exact (show Tryd.prog.wantsStandIn 22 = false by kernel_rfl)
        rcases j with _ | j
        · obtain rfl : t = 22 := by simpa using ht.symm
          exact (show Tryd.prog.wantsStandIn 22 = false by kernel_rfl)
        rcases j with _ | j
        · obtain rfl : t = 22 := by simpa using ht.symm
          exact (show Tryd.prog.wantsStandIn 22 = false by kernel_rfl)
        · simp at ht⟩)
    (by kernel_rfl)
#print axioms bitsetAlgebraCard_holds
end Go.Proofs.YtencbmgjdiillaaDoor
