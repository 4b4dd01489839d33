/- BandTargets: for every input the call returns true, and each argument reads afterwards as it read before. No conditions. -/
import Derived.Test.YtpdhelhngdeoeaaRows
import Derived.Test.YtpdhelhngdeoeaaOpen
import Derived.Test.YtpdhelhngdeoeaaKn26
import Derived.Test.YtpdhelhngdeoeaaLexIn
import Derived.Deep.CutBlock
namespace Go.Proofs.Ytpdhelhngdeoeaa
open Go.RowKit Go.Shelf Go.ChangeShapes Go.WideShapes Go.ChangeAt Go.Deep

attribute [local go_sem] Oper.semAt_some

theorem own : ownKnob Try.prog.godebug = none := by kernel_rfl
theorem laidOut : laidOutB Try.prog = true := by kernel_rfl

theorem nf_in (d f : Nat) (lb : Array Value) (w : World) : (Op.equalIn (d + 1) 41 (.func (.func f) #[] lb) .nilFunc).run Try.prog w = .ok false w := by
  simp [Op.equalIn, run_underlying Try.underlying41]
theorem nf_eql (f : Nat) (lb : Array Value) (w : World) : (binOp .eql 41 (.func (.func f) #[] lb) .nilFunc).run Try.prog w = .ok (.bool false) w := by
  have h : (Op.equal 41 (.func (.func f) #[] lb) .nilFunc).run Try.prog w = .ok false w := nf_in 9999 f lb w
  unfold binOp
  simp [go_sem, h]

theorem tg_keys : ∀ k : Fin 11, vldT (keyE k.1) = true ∧ atF (keyE k.1) = k.1 ∧ blkF (keyE k.1) = (12 - (k.1 : Int), 0) ∧ nextT (keyE k.1) = (if k.1 = 10 then (0, 9) else (keyE (k.1 + 1), 0)) := by decide +kernel
theorem tg_cases (t : Int) : (vldT t = false ∧ atF t < 0 ∧ blkF t = (0, 2) ∧ nextT t = (0, 2)) ∨ (vldT t = true ∧ atF t = 10 ∧ blkF t = (2, 0) ∧ nextT t = (0, 9)) ∨
    (∃ k : Nat, k < 10 ∧ vldT t = true ∧ atF t = k ∧ blkF t = (12 - (k : Int), 0) ∧ nextT t = (keyE (k + 1), 0)) := by
  cases hv : vldT t with
  | false =>
    refine .inl ⟨rfl, (at_vld t).1 hv, ?_, ?_⟩
    · have h0 : blkN t = 0 := by unfold vldT at hv; simpa using hv
      unfold blkF
      rw [if_pos h0]
    · unfold nextT
      rw [if_pos hv]
  | true =>
    obtain ⟨e, he, rfl⟩ := vldT_key hv
    obtain ⟨h1, h2, h3, h4⟩ := tg_keys ⟨e, he⟩
    dsimp only at h1 h2 h3 h4
    by_cases h10 : e = 10
    · subst h10
      exact .inr (.inl ⟨rfl, h2, h3, h4⟩)
    · rw [if_neg h10] at h4
      exact .inr (.inr ⟨e, by omega, rfl, h2, h3, h4⟩)
theorem cleared_at (W : World) (k : Nat) (hk : k < 11) : (W.alloc (.cells #[.int .i64 24, .int .i64 23, .int .i64 21, .int .i64 19, .int .i64 18, .int .i64 14, .int .i64 13, .int .i64 12, .int .i64 10, .int .i64 8, .int .i64 7] 3)).cell? ⟨W.heap.size, k, none⟩ = some (.int .i64 (keyE k)) := by
  have h := (cleared_row W).2 (by decide)
  obtain ⟨b, off, hA, hb, hc⟩ := h
  have h2 : b = W.heap.size ∧ off = 0 := by simpa using (Option.some.inj hA).symm
  obtain ⟨rfl, rfl⟩ := h2
  have := hc k _ (keysL_at ⟨k, hk⟩)
  simpa [intV] using this
theorem range_snoc {pre : List Nat} {x : Nat} (h : pre <+: List.range 11) (hx : x = pre.length) (hl : pre.length < 11) : pre ++ [x] <+: List.range 11 := by
  obtain ⟨t, ht⟩ := h
  have h1 : pre = (List.range 11).take pre.length := by rw [← ht, List.take_left]
  refine ⟨(List.range 11).drop (pre.length + 1), ?_⟩
  have h2 : pre ++ [x] = (List.range 11).take (pre.length + 1) := by
    rw [List.take_add_one, ← h1, hx]
    congr 1
    rw [List.getElem?_range hl]
    rfl
  rw [h2, List.take_append_drop]
theorem range_not {pre : List Nat} {x : Nat} (hx : x ≠ pre.length) : ¬ pre ++ [x] <+: List.range 11 := by
  rintro ⟨t, ht⟩
  have h1 : (List.range 11)[pre.length]? = some x := by rw [← ht]; simp
  obtain ⟨h2, h3⟩ := List.getElem?_eq_some_iff.1 h1
  simp at h3
  exact hx h3.symm

def marksOf (ds : List Nat) : List Deferred := ds.map fun D => { target := .collected D, args := #[] }
/-- the frame at the head of a turn: what the scratch slots hold does not matter -/
def TgFrame (p3 p4 : Nat) (f10 : Value) (g11 : Nat) (ds : List Nat) (a : Act) : Prop := ∃ u : Nat → Value, a = { tmps := #[u 0, u 1, u 2, (.pointer (some ⟨p3, 0, none⟩)), (.pointer (some ⟨p4, 0, none⟩)), u 5, u 6, u 7, u 8, u 9, f10, (.pointer (some ⟨g11, 0, none⟩)), u 12, u 13, u 14, u 15, u 16, u 17, u 18, u 19, u 20, u 21, u 22, u 23, u 24, u 25, u 26, u 27, u 28, u 29, u 30, u 31, u 32, u 33, u 34, u 35, u 36, u 37, u 38, u 39, u 40, u 41, u 42, u 43, u 44, u 45, u 46, u 47, u 48, u 49, u 50, u 51, u 52, u 53, u 54, u 55, u 56, u 57, u 58, u 59, u 60, u 61, u 62, u 63, u 64, u 65, u 66, u 67, u 68, u 69, u 70, u 71, u 72, u 73, u 74, u 75, u 76, u 77, u 78, u 79, u 80, u 81, u 82, u 83, u 84, u 85, u 86, u 87, u 88, u 89, u 90, u 91, u 92, u 93, u 94, u 95, u 96, u 97, u 98, u 99, u 100, u 101, u 102, u 103, u 104, u 105, u 106, u 107, u 108, u 109, u 110, u 111, u 112, u 113, u 114, u 115, u 116, u 117, u 118, u 119, u 120, u 121, u 122, u 123, u 124, u 125, u 126, u 127, u 128, u 129], defers := marksOf ds }
set_option maxRecDepth 100000 in
theorem tgFrame_mk (p3 p4 : Nat) (f10 : Value) (g11 : Nat) (ds : List Nat) (u0 u1 u2 u5 u6 u7 u8 u9 u12 u13 u14 u15 u16 u17 u18 u19 u20 u21 u22 u23 u24 u25 u26 u27 u28 u29 u30 u31 u32 u33 u34 u35 u36 u37 u38 u39 u40 u41 u42 u43 u44 u45 u46 u47 u48 u49 u50 u51 u52 u53 u54 u55 u56 u57 u58 u59 u60 u61 u62 u63 u64 u65 u66 u67 u68 u69 u70 u71 u72 u73 u74 u75 u76 u77 u78 u79 u80 u81 u82 u83 u84 u85 u86 u87 u88 u89 u90 u91 u92 u93 u94 u95 u96 u97 u98 u99 u100 u101 u102 u103 u104 u105 u106 u107 u108 u109 u110 u111 u112 u113 u114 u115 u116 u117 u118 u119 u120 u121 u122 u123 u124 u125 u126 u127 u128 u129 : Value) : TgFrame p3 p4 f10 g11 ds { tmps := #[u0, u1, u2, (.pointer (some ⟨p3, 0, none⟩)), (.pointer (some ⟨p4, 0, none⟩)), u5, u6, u7, u8, u9, f10, (.pointer (some ⟨g11, 0, none⟩)), u12, u13, u14, u15, u16, u17, u18, u19, u20, u21, u22, u23, u24, u25, u26, u27, u28, u29, u30, u31, u32, u33, u34, u35, u36, u37, u38, u39, u40, u41, u42, u43, u44, u45, u46, u47, u48, u49, u50, u51, u52, u53, u54, u55, u56, u57, u58, u59, u60, u61, u62, u63, u64, u65, u66, u67, u68, u69, u70, u71, u72, u73, u74, u75, u76, u77, u78, u79, u80, u81, u82, u83, u84, u85, u86, u87, u88, u89, u90, u91, u92, u93, u94, u95, u96, u97, u98, u99, u100, u101, u102, u103, u104, u105, u106, u107, u108, u109, u110, u111, u112, u113, u114, u115, u116, u117, u118, u119, u120, u121, u122, u123, u124, u125, u126, u127, u128, u129], defers := marksOf ds } := ⟨fun i => [u0, u1, u2, undef, undef, u5, u6, u7, u8, u9, undef, undef, u12, u13, u14, u15, u16, u17, u18, u19, u20, u21, u22, u23, u24, u25, u26, u27, u28, u29, u30, u31, u32, u33, u34, u35, u36, u37, u38, u39, u40, u41, u42, u43, u44, u45, u46, u47, u48, u49, u50, u51, u52, u53, u54, u55, u56, u57, u58, u59, u60, u61, u62, u63, u64, u65, u66, u67, u68, u69, u70, u71, u72, u73, u74, u75, u76, u77, u78, u79, u80, u81, u82, u83, u84, u85, u86, u87, u88, u89, u90, u91, u92, u93, u94, u95, u96, u97, u98, u99, u100, u101, u102, u103, u104, u105, u106, u107, u108, u109, u110, u111, u112, u113, u114, u115, u116, u117, u118, u119, u120, u121, u122, u123, u124, u125, u126, u127, u128, u129].getD i undef, rfl⟩
/-- what stands between two turns -/
def TgInv (w3 : World) (j g11 : Nat) (ds : List Nat) (W : World) : Prop := Below w3.heap.size w3 W ∧ Boxed W g11 3 (.int .i64 j) ∧ w3.heap.size ≤ g11 ∧ (∀ D ∈ ds, w3.heap.size ≤ D ∧ W.heap[D]? = some (.deferred (some []))) ∧ ds.Nodup
def cellInt (W : World) : Option Value → Nat
  | some (.pointer (some p)) => (match W.cell? p with | some (.int _ z) => (2 - z).toNat | _ => 0)
  | _ => 0
def turnsLeft (a : Act) (W : World) : Nat := cellInt W (a.tmps[11]?)
/-- what stands between two rounds of a turn -/
def TgJ (w3 : World) (j g11 g12 m : Nat) (ds : List Nat) (pre : List Nat) (X : World) : Prop := m ≤ X.heap.size ∧ pre <+: List.range 11 ∧ Boxed X g12 3 (.int .i64 pre.length) ∧ Boxed X g11 3 (.int .i64 j) ∧ (∀ D ∈ ds, X.heap[D]? = some (.deferred (some []))) ∧ Below w3.heap.size w3 X
def TgX (w3 : World) (j g11 g12 m : Nat) (ds : List Nat) (c : Code) (pre : List Nat) (X : World) : Prop := (c = .ret ∧ ¬ pre <+: List.range 11) ∨ (c = .exit 3 ∧ j = 0 ∧ TgJ w3 j g11 g12 m ds pre X)
theorem tgJ_own {w3 : World} {j g11 g12 m : Nat} {ds : List Nat} {B : Nat} (hds : ∀ D ∈ ds, D < B) (h3 : w3.heap.size ≤ B) : OwnFrom B (TgJ w3 j g11 g12 m ds) := by
  intro pre X Y row hJ hg hr
  obtain ⟨h0, h1, h2, h4, h5, h6⟩ := hJ
  refine ⟨Nat.le_trans h0 hg.size, h1, ?_, ?_, fun D hD => ?_, ownFrom_below (β := Unit) (Nat.le_refl _) h3 () X Y row h6 hg hr⟩
  · exact Own.from (boxed_own g12 3 (fun _ : Unit => Value.int .i64 (pre.length : Int))) B () X Y row h2 hg hr
  · exact Own.from (boxed_own g11 3 (fun _ : Unit => Value.int .i64 (j : Int))) B () X Y row h4 hg hr
  · have h7 := h5 D hD
    refine (hg.block D (Array.getElem?_eq_some_iff.1 h7).1 (fun e => ?_)).trans h7
    have := (hr D e.symm).1
    have := hds D hD
    omega
theorem tgX_own {w3 : World} {j g11 g12 m : Nat} {ds : List Nat} {B : Nat} (hds : ∀ D ∈ ds, D < B) (h3 : w3.heap.size ≤ B) (c : Code) : OwnFrom B (TgX w3 j g11 g12 m ds c) := by
  intro pre X Y row hJ hg hr
  rcases hJ with h | ⟨h1, h2, h5⟩
  · exact .inl h
  · exact .inr ⟨h1, h2, tgJ_own hds h3 pre X Y row h5 hg hr⟩
theorem turns_eq {a : Act} {W : World} {g : Nat} {z : Int} (h : a.tmps[11]? = some (.pointer (some ⟨g, 0, none⟩))) (hc : W.cell? ⟨g, 0, none⟩ = some (.int .i64 z)) : turnsLeft a W = (2 - z).toNat := by
  unfold turnsLeft
  rw [h]
  simp only [cellInt, hc]
theorem tgInv_next {w3 X V : World} {j D : Nat} {ds : List Nat} (hD : V.heap.size ≤ D) (h3 : w3.heap.size ≤ V.heap.size) (hds : ∀ E ∈ ds, w3.heap.size ≤ E ∧ E < V.heap.size) (hX : ∀ E ∈ ds, X.heap[E]? = some (.deferred (some []))) (hB : Below w3.heap.size w3 X) (hK : X.heap[D]? = some (.deferred (some []))) (hn : ds.Nodup) :
    TgInv w3 (j + 1) X.heap.size (D :: ds) (X.alloc (.cells #[.int .i64 ((j : Int) + 1)] 3)) := by
  refine ⟨hB.alloc hB.size _, by simpa using Boxed.new X 3 (.int .i64 ((j : Int) + 1)), hB.size, fun E hE => ?_, List.nodup_cons.2 ⟨fun h => by have := (hds D h).2; omega, hn⟩⟩
  rcases List.mem_cons.1 hE with rfl | hE
  · exact ⟨by omega, (Below.heap_alloc X _ _ (Array.getElem?_eq_some_iff.1 hK).1).trans hK⟩
  · exact ⟨(hds E hE).1, (Below.heap_alloc X _ _ (Array.getElem?_eq_some_iff.1 (hX E hE)).1).trans (hX E hE)⟩
theorem leaves_marks {F : Fence} {n : Nat} {fn : Func} {tmps : Array Value} {R : Ending → World → Prop} {Pw : World → Prop} {B : Nat} (hP : ∀ W D, Pw W → B ≤ D → W.heap[D]? = some (.deferred (some [])) → Pw (W.putObj D (.deferred none)))
    (hE : ∀ W, Pw W → LeavesIn F n Try.prog fn tmps R [] .returning W) : ∀ (ds : List Nat) (W : World), Pw W → (∀ D ∈ ds, B ≤ D ∧ W.heap[D]? = some (.deferred (some []))) → ds.Nodup → LeavesInM F n Try.prog fn tmps R (marksOf ds) .returning W := by
  intro ds
  induction ds with
  | nil => intro W h _ _; exact hE W h
  | cons D r ih =>
    intro W h hd hn
    obtain ⟨h1, h2⟩ := hd D (by simp)
    have hn' := List.nodup_cons.1 hn
    refine ⟨by simp, .inl ⟨D, _, rfl, run_takeDeferred h2, ?_⟩⟩
    refine ih _ (hP W D h h1 h2) (fun E hE' => ?_) hn'.2
    obtain ⟨h3, h4⟩ := hd E (by simp [hE'])
    refine ⟨h3, ?_⟩
    rw [World.putObj_heap_other (fun e => hn'.1 (by rw [← e]; exact hE'))]
    exact h4

def CutR (w : World) (x1 : Int) (W : World) : Prop := Boxed W w.heap.size 3 (.int .i64 x1) ∧ Boxed W (w.heap.size + 1) 4 (.bool false) ∧ Below w.heap.size w W
theorem CutR.keep {w W W' : World} {x1 : Int} (h : CutR w x1 W) (hb : Below W.heap.size W W') : CutR w x1 W' := ⟨boxed_keep h.1 hb, boxed_keep h.2.1 hb, h.2.2.trans (hb.mono h.2.2.size)⟩

set_option maxRecDepth 100000 in
set_option maxHeartbeats 4000000 in
theorem bandTargets_walk (w : World) (x0 : Int) (_ : I64 x0) (x1 : Int) (_ : I64 x1) :
    Calls Try.prog 4 #[.int .i64 x0, .int .i64 x1] w fun e w' => e = .returned (.bool true) ∧ Below w.heap.size w w' := by
  have HK := Lib.hid (fun W => known_any W)
  have HT := Lib.hid (fun n w => to_any n w)
  have HA := Lib.hid (fun W => at_any x0 W)
  have HB := Lib.hid (fun W => bblocks_any x0 W)
  have HN := Lib.hid (fun W => nextT_any x0 W)
  have HV := Lib.hid (fun W => bvalid_any x0 W)
  have HC := Lib.hid (tg_cases x0)
  have HRB := Lib.hid (fun x w => rblk_any x w)
  have HCL := Lib.hid (fun W => cleared_any W)
  have hnf := nf_eql
  generalize vldT x0 = v at *
  generalize atF x0 = at0 at *
  generalize blkF x0 = bl at *
  generalize nextT x0 = nx at *
  obtain ⟨n1, e1⟩ := bl
  obtain ⟨t1, f1⟩ := nx
  dsimp only at HB HN
  refine (callsIn_wide (n := 3)).1 ?_
  refine callsIn_of_wp_marks Try.func4 rfl trivial ?_ rfl
  refine wpIn_wide.2 ?_
  simp only [Try.ntmps4, List.size_toArray, List.length_cons, List.length_nil, Nat.reduceAdd, Nat.reduceSub, Array.replicate_succ, Array.replicate_zero, List.push_toArray, List.append_toArray, List.nil_append, List.cons_append]
  go_wp2_with fail
  obtain ⟨W0, hW0⟩ : ∃ W0, W0 = (w.alloc (.cells #[.int .i64 x1] 3)).alloc (.cells #[.bool false] 4) := ⟨_, rfl⟩
  have H0 : Hid (CutR w x1 W0) := Lib.hid (by
    refine ⟨?_, ?_, ?_⟩
    · rw [hW0]; exact (Boxed.new w _ _).alloc _
    · rw [hW0]; have := Boxed.new (w.alloc (.cells #[.int .i64 x1] 3)) 4 (.bool false); rwa [World.size_alloc] at this
    · rw [hW0]; exact ((Below.refl _ w).alloc (Nat.le_refl _) _).alloc (by simp) _)
  rw [← hW0]
  clear hW0
  refine (HT.out _ _).mono ?_
  rintro e Wa ⟨rfl, hba⟩
  go_wp2_with fail
  refine (HA.out _).mono ?_
  rintro e Wb ⟨rfl, hbb⟩
  have Hb := Lib.hid ((H0.out.keep hba).keep hbb)
  clear hba hbb H0
  go_wp2_with fail
  refine (HT.out _ _).mono ?_
  rintro e Wc ⟨rfl, hbc⟩
  go_wp2_with fail
  refine (HB.out _).mono ?_
  rintro e Wd ⟨rfl, hbd⟩
  have Hd := Lib.hid ((Hb.out.keep hbc).keep hbd)
  clear hbc hbd Hb
  go_wp2_with fail
  refine (HT.out _ _).mono ?_
  rintro e We ⟨rfl, hbe⟩
  go_wp2_with fail
  refine (HN.out _).mono ?_
  rintro e Wf ⟨rfl, hbf⟩
  have Hf := Lib.hid ((Hd.out.keep hbe).keep hbf)
  clear hbe hbf Hd
  go_upto_block 0 with fail
  obtain ⟨Wg, hWg⟩ : ∃ Wg, Wg = Wf.alloc (.cells #[.int .i64 t1] 32) := ⟨_, rfl⟩
  have Hg : Hid (CutR w x1 Wg) := Lib.hid (Hf.out.keep (by rw [hWg]; exact (Below.refl _ _).alloc (Nat.le_refl _) _))
  have Hx : Hid (Blk Wg Wf.heap.size 32 [.int .i64 t1]) := Lib.hid (by rw [hWg]; exact blk_new _ _ _)
  rw [← hWg]
  clear hWg Hf
  go_cut [] from 15 (fun wx => CutR w x1 wx)
  case first =>
    clear HK hnf
    go_wp2_with fail
    refine (HT.out _ _).mono ?_
    rintro e Wh ⟨rfl, hbh⟩
    go_wp2_with fail
    refine (HV.out _).mono ?_
    rintro e Wi ⟨rfl, hbi⟩
    have Hi := Lib.hid ((Hg.out.keep hbh).keep hbi)
    have HX := Lib.hid ((Hx.out.keep hbh).keep hbi)
    have xl := HX.out.lt
    have xc : Wi.cell? ⟨Wf.heap.size, 0, none⟩ = some (.int .i64 t1) := HX.out.cell rfl
    clear hbh hbi Hg Hx
    rcases HC.out with ⟨rfl, ha, hb, hn⟩ | ⟨rfl, rfl, hb, hn⟩ | ⟨k, hk, rfl, rfl, hb, hn⟩
    · obtain ⟨rfl, rfl⟩ := Prod.mk.inj hb
      obtain ⟨rfl, rfl⟩ := Prod.mk.inj hn
      have hne : ∀ w, (binOp .neq 32 (.agg #[.int .i64 0]) (.agg #[.int .i64 0])).run Try.prog w = .ok (.bool false) w := fun w => by rw [tgt_neq]; rfl
      have ha0 : ¬ (0 : Int) ≤ at0 := by omega
      clear HC hb hn
      go_wp2_with fail
      refine Lx.region (C := fun X => Below Wi.heap.size Wi X ∧ X.cell? ⟨Wf.heap.size, 0, none⟩ = some (.int .i64 0)) (hs := [3]) (by kernel_rfl) (by kernel_rfl) ⟨(Below.refl _ _).drew, xc⟩ ?_
      repeat' (first
        | (refine Lx.lex_no (Lx.n1 rfl rfl rfl (by with_reducible rfl)) (fun K hK => ?_); go_simp; skip; refine hK _ ?_; clear hK K)
        | (refine Lx.lex_no (Lx.n0 rfl rfl rfl (by with_reducible rfl)) (fun K hK => ?_); go_simp; skip; refine hK _ ?_; clear hK K)
        | (refine Lx.lex_no (Lx.n2 rfl rfl rfl) (fun K hK => ?_); go_simp; skip; refine hK _ ?_; clear hK K)
        | (refine Lx.lex_pure (v := ?_) rfl (by first | exact Lx.w0 rfl | exact Lx.w1 rfl rfl rfl (by with_reducible rfl)) ?_ (fun K hK => ?_); rotate_left 1; (intro w' hCw; (try dsimp only at hCw); go_simp; first | done | with_reducible rfl); go_simp; skip; refine hK _ ?_; clear hK K)
        | (refine Lx.lex_read (v := ?_) rfl (by first | exact Lx.w0 rfl | exact Lx.w1 rfl rfl rfl (by with_reducible rfl)) ?_ (fun K hK => ?_); rotate_left 1; (go_simp; first | done | with_reducible rfl); go_simp; skip; refine hK _ ?_; clear hK K)
        | (refine Lx.lex_eff rfl (by first | exact Lx.w0 rfl | exact Lx.w1 rfl rfl rfl (by with_reducible rfl)) (fun K hK => ?_); go_simp; (first | (go_at_call 12; refine (HT.out _ _).mono ?_; rintro e Wj ⟨rfl, hbj⟩)); refine hK _ _ (by first | exact ⟨(Below.refl _ _).drew.trans (hbj.mono (by simp)), (hbj.cell (p := ⟨Wf.heap.size, 0, none⟩) (by simpa using xl)).trans xc⟩) ?_; clear hK K))
      all_goals (refine Lx.lex_nil ?_)
      go_wp2_with fail
      go_meet
      exact Hi.out.keep ((Below.refl _ _).drew.trans (hbj.mono (by simp)))
    · obtain ⟨rfl, rfl⟩ := Prod.mk.inj hb
      obtain ⟨rfl, rfl⟩ := Prod.mk.inj hn
      have hne : ∀ w, (binOp .neq 32 (.agg #[.int .i64 0]) (.agg #[.int .i64 0])).run Try.prog w = .ok (.bool false) w := fun w => by rw [tgt_neq]; rfl
      clear HC hb hn
      go_wp2_with fail
      refine (HRB.out _ _ (by omega) (by omega)).mono ?_
      rintro e w' ⟨rfl, rfl⟩
      go_wp2_with fail
      refine Lx.region (C := fun X => Below Wi.heap.size Wi X ∧ X.cell? ⟨Wf.heap.size, 0, none⟩ = some (.int .i64 0)) (hs := [0]) (by kernel_rfl) (by kernel_rfl) ⟨(Below.refl _ _).drew, xc⟩ ?_
      repeat' (first
        | (refine Lx.lex_no (Lx.n1 rfl rfl rfl (by with_reducible rfl)) (fun K hK => ?_); go_simp; skip; refine hK _ ?_; clear hK K)
        | (refine Lx.lex_no (Lx.n0 rfl rfl rfl (by with_reducible rfl)) (fun K hK => ?_); go_simp; skip; refine hK _ ?_; clear hK K)
        | (refine Lx.lex_no (Lx.n2 rfl rfl rfl) (fun K hK => ?_); go_simp; skip; refine hK _ ?_; clear hK K)
        | (refine Lx.lex_pure (v := ?_) rfl (by first | exact Lx.w0 rfl | exact Lx.w1 rfl rfl rfl (by with_reducible rfl)) ?_ (fun K hK => ?_); rotate_left 1; (intro w' hCw; (try dsimp only at hCw); go_simp; first | done | with_reducible rfl); go_simp; skip; refine hK _ ?_; clear hK K)
        | (refine Lx.lex_read (v := ?_) rfl (by first | exact Lx.w0 rfl | exact Lx.w1 rfl rfl rfl (by with_reducible rfl)) ?_ (fun K hK => ?_); rotate_left 1; (go_simp; first | done | with_reducible rfl); go_simp; skip; refine hK _ ?_; clear hK K)
        | (refine Lx.lex_eff rfl (by first | exact Lx.w0 rfl | exact Lx.w1 rfl rfl rfl (by with_reducible rfl)) (fun K hK => ?_); go_simp; (first | (go_at_call 12; refine (HT.out _ _).mono ?_; rintro e Wj ⟨rfl, hbj⟩)); refine hK _ _ (by first | exact ⟨(Below.refl _ _).drew.trans (hbj.mono (by simp)), (hbj.cell (p := ⟨Wf.heap.size, 0, none⟩) (by simpa using xl)).trans xc⟩) ?_; clear hK K))
      all_goals (refine Lx.lex_nil ?_)
      go_wp2_with fail
      go_meet
      exact Hi.out.keep ((Below.refl _ _).drew.trans (hbj.mono (by simp)))
    · obtain ⟨rfl, rfl⟩ := Prod.mk.inj hb
      obtain ⟨rfl, rfl⟩ := Prod.mk.inj hn
      have hne : ∀ w, (binOp .neq 32 (.agg #[.int .i64 (keyE (k + 1))]) (.agg #[.int .i64 (keyE (k + 1))])).run Try.prog w = .ok (.bool false) w := fun w => by rw [tgt_neq]; simp
      have hk0 : (0 : Int) ≤ (k : Int) := by omega
      have hkl : (k : Int) + 1 < 11 := by omega
      have hk10 : ((k : Int) == 10) = false := by simp; omega
      have hkk : ((12 - (k : Int)) == 12 - (k : Int)) = true := by simp
      have hkn : ((12 - (k : Int)) != 12 - (k : Int)) = false := by simp
      have hwr : IntKind.i64.wrap ((k : Int) + 1) = (k : Int) + 1 := IntWalk.i64_in _ (by omega)
      have htn : ((k : Int) + 1).toNat = k + 1 := by omega
      have hk1 : (0 : Int) ≤ (k : Int) + 1 := by omega
      have HAT : Hid (∀ X : World, _) := Lib.hid (fun X => cleared_at X (k + 1) (by omega))
      have HKB := Lib.hid hk
      clear HC hb hn hk
      generalize keyE (k + 1) = y at *
      go_wp2_with fail
      refine (HRB.out _ _ (by omega) (by omega)).mono ?_
      rintro e w' ⟨rfl, rfl⟩
      go_wp2_with fail
      refine Lx.region (C := fun X => Below Wi.heap.size Wi X ∧ X.cell? ⟨Wf.heap.size, 0, none⟩ = some (.int .i64 y)) (hs := [3]) (by kernel_rfl) (by kernel_rfl) ⟨(Below.refl _ _).drew, xc⟩ ?_
      repeat' (first
        | (refine Lx.lex_no (Lx.n1 rfl rfl rfl (by with_reducible rfl)) (fun K hK => ?_); go_simp; skip; refine hK _ ?_; clear hK K)
        | (refine Lx.lex_no (Lx.n0 rfl rfl rfl (by with_reducible rfl)) (fun K hK => ?_); go_simp; skip; refine hK _ ?_; clear hK K)
        | (refine Lx.lex_no (Lx.n2 rfl rfl rfl) (fun K hK => ?_); go_simp; skip; refine hK _ ?_; clear hK K)
        | (refine Lx.lex_pure (v := ?_) rfl (by first | exact Lx.w0 rfl | exact Lx.w1 rfl rfl rfl (by with_reducible rfl)) ?_ (fun K hK => ?_); rotate_left 1; (intro w' hCw; (try dsimp only at hCw); go_simp; first | done | with_reducible rfl); go_simp; skip; refine hK _ ?_; clear hK K)
        | (refine Lx.lex_read (v := ?_) rfl (by first | exact Lx.w0 rfl | exact Lx.w1 rfl rfl rfl (by with_reducible rfl)) ?_ (fun K hK => ?_); rotate_left 1; (go_simp; first | done | with_reducible rfl); go_simp; skip; refine hK _ ?_; clear hK K)
        | (refine Lx.lex_eff rfl (by first | exact Lx.w0 rfl | exact Lx.w1 rfl rfl rfl (by with_reducible rfl)) (fun K hK => ?_); go_simp; (first | (go_at_call 17; refine (HCL.out _).mono ?_; rintro e Wk ⟨rfl, hWk⟩; have hbk : Below Wi.heap.size Wi Wk := (by rw [hWk]; exact (Below.refl _ _).drew.alloc (by simp) _); have hck : Wk.cell? ⟨Wi.heap.size, k + 1, none⟩ = some (.int .i64 y) := (by rw [hWk]; exact HAT.out Wi.drew); have xck : Wk.cell? ⟨Wf.heap.size, 0, none⟩ = some (.int .i64 y) := (hbk.cell (p := ⟨Wf.heap.size, 0, none⟩) xl).trans xc; clear hWk) | (go_at_call 12; refine (HT.out _ _).mono ?_; rintro e Wj ⟨rfl, hbj⟩)); refine hK _ _ (by first | exact ⟨hbk, xck⟩ | exact ⟨hbk.trans (hbj.mono hbk.size), (hbj.cell (p := ⟨Wf.heap.size, 0, none⟩) (by have := hbk.size; dsimp only; omega)).trans xck⟩) ?_; clear hK K))
      all_goals (refine Lx.lex_nil ?_)
      go_wp2_with fail
      go_meet
      exact Hi.out.keep (hbk.trans (hbj.mono hbk.size))
  case rest =>
    have HCC := Lib.hid hcut
    clear HA HB HN HV HC HRB hcut Hg Hx
    go_step
    refine (wpIn_wide (n := 3)).1 ?_
    gi_wp2_with fail
    refine ⟨trivial, (callsIn_wide.2 (targets_any _)).mono ?_⟩
    rintro e W3 ⟨rfl, hW3⟩
    have hb3 : Below wc.heap.size wc W3 := by rw [hW3]; exact (Below.refl _ wc).alloc (Nat.le_refl _) _
    have hk3 : Blk W3 wc.heap.size 75 keyCells := by rw [hW3]; exact blk_new _ _ _
    have H5 := Lib.hid (HCC.out.keep hb3)
    have HK3 := Lib.hid hk3
    clear hW3 hb3 hk3
    gi_wp2_with fail
    clear hnf
    have hszc : wc.heap.size < W3.heap.size := HK3.out.lt
    have hsz4 : w.heap.size + 1 < W3.heap.size := H5.out.2.1.lt
    refine wpIn_loop (fun a W => ∃ (j g11 : Nat) (ds : List Nat), j ≤ 2 ∧ TgFrame w.heap.size (w.heap.size + 1) (.func (.func 31) #[] #[.pointer (some ⟨wc.heap.size, 0, none⟩)]) g11 ds a ∧ TgInv W3 j g11 ds W) turnsLeft ?start ?round
    case start =>
      refine ⟨0, W3.heap.size, [], by omega, tgFrame_mk _ _ _ _ [] _ _ _ _ _ _ _ _ _ _ _ _ _ _ _ _ _ _ _ _ _ _ _ _ _ _ _ _ _ _ _ _ _ _ _ _ _ _ _ _ _ _ _ _ _ _ _ _ _ _ _ _ _ _ _ _ _ _ _ _ _ _ _ _ _ _ _ _ _ _ _ _ _ _ _ _ _ _ _ _ _ _ _ _ _ _ _ _ _ _ _ _ _ _ _ _ _ _ _ _ _ _ _ _ _ _ _ _ _ _ _ _ _ _ _ _ _ _ _ _ _ _ _ _ _ _, (Below.refl _ W3).alloc (Nat.le_refl _) _, Boxed.new _ _ _, Nat.le_refl _, (fun D h => by cases h), by simp⟩
    case round =>
      rintro a W ⟨j, g11, ds, hj, ⟨u, rfl⟩, hI⟩
      have hI' := Lib.hid hI
      obtain ⟨hB, b11, hg11, hds, hnd⟩ := hI
      have c11 := b11.cell
      by_cases hj3 : j = 2
      · subst hj3
        have HBw := Lib.hid (H5.out.2.2.trans (hB.mono H5.out.2.2.size))
        have b4 : Boxed W (w.heap.size + 1) 4 (.bool false) := (hB.block _ hsz4).trans H5.out.2.1
        have h4lt := b4.lt
        have HB4 := Lib.hid b4
        clear hds hnd b11 hB b4
        gi_wp2_with fail
        refine ⟨trivial, (callsIn_wide.2 (HK.out _)).mono ?_⟩
        rintro e W5 ⟨rfl, hw5⟩
        have b5 : Boxed W5 (w.heap.size + 1) 4 (.bool false) := (hw5.block _ h4lt).trans HB4.out
        have c5 := b5.cell
        have f5 := b5.frozen
        have hlt5 := b5.lt
        have HB5 := Lib.hid (And.intro b5 hw5)
        clear b5 hw5
        gi_wp2_with fail
        show LeavesInM _ _ _ _ _ _ (marksOf ds) .returning _
        obtain ⟨hB, _, _, hds, hnd⟩ := hI'.out
        refine leaves_marks (Pw := fun X => Boxed X (w.heap.size + 1) 4 (.bool true) ∧ Below w.heap.size w X) (B := W3.heap.size) ?_ ?_ ds _ ?_ ?_ hnd
        · rintro X D ⟨h1, h2⟩ hD hX
          exact ⟨(World.putObj_heap_other (by omega)).trans h1, h2.trans (belowK_b (w := w) (Nat.le_refl _) X D _ _ (by omega) hX rfl rfl)⟩
        · rintro X ⟨h1, h2⟩
          have h3 := h1.cell
          exact ⟨.bool true, by simp [results, Try.results4, go_sem, h3], rfl, h2⟩
        · exact ⟨HB5.out.1.set _, (HBw.out.trans (HB5.out.2.mono HBw.out.size)).setCell (p := ⟨w.heap.size + 1, 0, none⟩) (by simp) _⟩
        · intro D hD
          obtain ⟨h1, h2⟩ := hds D hD
          refine ⟨h1, ?_⟩
          rw [heap_set (by dsimp only; omega), HB5.out.2.block D (Array.getElem?_eq_some_iff.1 h2).1]
          exact h2
      · have hj2 : (j : Int) < 2 := by omega
        clear hB b11 hds hnd
        gi_wp2_with fail
        obtain ⟨hB, b11, _, hds, hnd⟩ := hI'.out
        obtain ⟨V, hV⟩ : ∃ V, V = W.alloc (.cells #[.int .i64 0] 3) := ⟨_, rfl⟩
        have hVs : V.heap.size = W.heap.size + 1 := by rw [hV]; simp
        have b12 : Boxed V W.heap.size 3 (.int .i64 0) := by rw [hV]; exact Boxed.new _ _ _
        have b11V : Boxed V g11 3 (.int .i64 j) := by rw [hV]; exact b11.alloc _
        have hBs := hB.size
        have hBV : Below W3.heap.size W3 V := by rw [hV]; exact hB.alloc hBs _
        have hdlt : ∀ D ∈ ds, D < V.heap.size := fun D hD => by have := (Array.getElem?_eq_some_iff.1 (hds D hD).2).1; omega
        have hdsV : ∀ D ∈ ds, V.heap[D]? = some (.deferred (some [])) := fun D hD => by
          rw [hV]; exact (Below.heap_alloc W _ D (Array.getElem?_eq_some_iff.1 (hds D hD).2).1).trans (hds D hD).2
        have hkV : Blk V wc.heap.size 75 keyCells := (hBV.block _ hszc).trans HK3.out
        have hg11lt := b11.lt
        rw [← hV]
        have HJ0 := Lib.hid (show TgJ W3 j g11 W.heap.size V.heap.size ds [] V from ⟨Nat.le_refl _, List.nil_prefix, b12, b11V, hdsV, hBV⟩)
        clear hB b11 hV b12 b11V hdsV c11
        refine wpIn_rangeFunc_ownH rfl (by decide) (gf := 31) (lb := #[.pointer (some ⟨wc.heap.size, 0, none⟩)]) rfl trivial (enters_of Try.func31 (by kernel_rfl) rfl)
          (tgt_stops 2 (by decide) wc.heap.size W3.heap.size V hkV) keep1_t (keep1_b (by omega) (by omega)) (Below.refl _ _) (fun _ => rfl)
          (TgJ W3 j g11 W.heap.size V.heap.size ds) (TgX W3 j g11 W.heap.size V.heap.size ds) (tgJ_own hdlt (by omega)) (tgX_own hdlt (by omega)) HJ0.out
          (fun x a' X => ∃ Bx, V.heap.size ≤ Bx ∧ Boxed X Bx 32 (.int .i64 (keyE x)) ∧ a' = { tmps := #[u 0, u 1, u 2, (.pointer (some ⟨w.heap.size, 0, none⟩)), (.pointer (some ⟨w.heap.size + 1, 0, none⟩)), u 5, u 6, u 7, u 8, u 9, (.func (.func 31) #[] #[.pointer (some ⟨wc.heap.size, 0, none⟩)]), (.pointer (some ⟨g11, 0, none⟩)), (.pointer (some ⟨W.heap.size, 0, none⟩)), (.int .i64 (x : Int)), (.pointer (some ⟨Bx, 0, none⟩)), u 15, u 16, u 17, u 18, u 19, u 20, u 21, u 22, u 23, u 24, u 25, u 26, u 27, u 28, u 29, u 30, u 31, u 32, u 33, u 34, u 35, u 36, u 37, u 38, u 39, u 40, u 41, u 42, u 43, u 44, u 45, u 46, u 47, u 48, u 49, u 50, u 51, u 52, u 53, u 54, u 55, u 56, u 57, u 58, u 59, u 60, u 61, u 62, u 63, u 64, u 65, u 66, u 67, u 68, u 69, u 70, u 71, u 72, u 73, u 74, u 75, u 76, u 77, u 78, u 79, u 80, u 81, u 82, u 83, u 84, u 85, u 86, u 87, u 88, u 89, (.int .i64 (j : Int)), (.bool true), u 92, u 93, (.func (.func 31) #[] #[.pointer (some ⟨wc.heap.size, 0, none⟩)]), (.int .i64 (x : Int)), (.agg #[.int .i64 (keyE x)]), u 97, u 98, u 99, u 100, u 101, u 102, u 103, u 104, u 105, u 106, u 107, u 108, u 109, u 110, u 111, u 112, u 113, u 114, u 115, u 116, u 117, u 118, u 119, u 120, u 121, u 122, u 123, u 124, u 125, u 126, u 127, u 128, u 129], defers := [] }) ?hAx ?assign ?body ?done ?stop
        case hAx =>
          intro x a' uu X Y row h hg hr
          obtain ⟨Bx, h1, h2, h3⟩ := h
          exact ⟨Bx, h1, Own.from (boxed_own Bx 32 (fun _ : Unit => Value.int .i64 (keyE x))) _ () X Y row h2 hg hr, h3⟩
        case assign =>
          rintro l pre x X K hI hK
          gi_wp2
          obtain ⟨h0, h1, h2, h3, h4, h5⟩ := hI
          exact hK _ _ ((KeepsOthers.alloc _ _).from _) ⟨(Below.refl _ X).alloc h5.size _, Below.heap_alloc X _ _ (by omega)⟩ ⟨by simp; omega, h1, h2.alloc _, h3.alloc _, (fun D hD => (Below.heap_alloc X _ D (Array.getElem?_eq_some_iff.1 (h4 D hD)).1).trans (h4 D hD)), h5.alloc h5.size _⟩ ⟨X.heap.size, h0, Boxed.new X _ _, rfl⟩
        case body =>
          rintro l pre x a' X hl ⟨r, hr⟩ hJ ⟨Bx, hBx, bX, rfl⟩ hlt
          have HJ := Lib.hid hJ
          obtain ⟨h0, hp, b12, b11, hdX, hBX⟩ := hJ
          have b3x : Boxed X w.heap.size 3 (.int .i64 x1) := (hBX.block _ (by omega)).trans H5.out.1
          have b4x : Boxed X (w.heap.size + 1) 4 (.bool false) := (hBX.block _ hsz4).trans H5.out.2.1
          have c12 := b12.cell
          have cX := bX.cell
          have HP := Lib.hid hp
          have hgl := hBX.size
          by_cases hxy : x = pre.length
          · subst hxy
            have hne : ∀ w, (binOp .neq 32 (.agg #[.int .i64 (keyE pre.length)]) (.agg #[.int .i64 (keyE pre.length)])).run Try.prog w = .ok (.bool false) w := fun w => by rw [tgt_neq]; simp
            have hkn : ((pre.length : Int) != (pre.length : Int)) = false := by simp
            have hk10 : (pre.length : Int) < 11 := by omega
            have hk0 : (0 : Int) ≤ (pre.length : Int) := by omega
            have hkg : decide ((10 : Int) < (pre.length : Int)) = false := decide_eq_false (by omega)
            have HPX := Lib.hid (range_snoc hp rfl hlt)
            have HAT : Hid (∀ X : World, _) := Lib.hid (fun X => cleared_at X pre.length hlt)
            have HBX := Lib.hid (And.intro b3x (And.intro b4x (And.intro b12 (And.intro b11 (And.intro hdX (And.intro hBX bX))))))
            have xl12 := b12.lt
            have xlX := bX.lt
            clear hp b12 b11 hdX hBX bX b3x b4x hr HJ
            generalize keyE pre.length = y at *
            gi_wp2_with fail
            refine Lx.regionIn (C := fun Z => Below X.heap.size X Z ∧ Z.cell? ⟨W.heap.size, 0, none⟩ = some (.int .i64 pre.length) ∧ Z.cell? ⟨Bx, 0, none⟩ = some (.int .i64 y)) (hs := [8, 10]) (by kernel_rfl) (by kernel_rfl) (by kernel_rfl) ⟨(Below.refl _ _).drew, c12, cX⟩ ?_
            repeat' (first
              | (refine Lx.lex_no (Lx.n1 rfl rfl rfl (by with_reducible rfl)) (fun K hK => ?_); go_simp; skip; refine hK _ ?_; clear hK K)
              | (refine Lx.lex_no (Lx.n0 rfl rfl rfl (by with_reducible rfl)) (fun K hK => ?_); go_simp; skip; refine hK _ ?_; clear hK K)
              | (refine Lx.lex_no (Lx.n2 rfl rfl rfl) (fun K hK => ?_); go_simp; skip; refine hK _ ?_; clear hK K)
              | (refine Lx.lex_pure (v := ?_) rfl (by first | exact Lx.w0 rfl | exact Lx.w1 rfl rfl rfl (by with_reducible rfl)) ?_ (fun K hK => ?_); rotate_left 1; (intro w' hCw; (try dsimp only at hCw); go_simp; first | done | with_reducible rfl); go_simp; skip; refine hK _ ?_; clear hK K)
              | (refine Lx.lex_read (v := ?_) rfl (by first | exact Lx.w0 rfl | exact Lx.w1 rfl rfl rfl (by with_reducible rfl)) ?_ (fun K hK => ?_); rotate_left 1; (go_simp; first | done | with_reducible rfl); go_simp; skip; refine hK _ ?_; clear hK K)
              | (refine Lx.lex_eff rfl (by first | exact Lx.w0 rfl | exact Lx.w1 rfl rfl rfl (by with_reducible rfl)) (fun K hK => ?_); go_simp; (first | (go_at_call 17; refine (HCL.out _).mono ?_; rintro e Wk ⟨rfl, hWk⟩; have hbk : Below X.heap.size X Wk := (by rw [hWk]; exact (Below.refl _ _).drew.alloc (by simp) _); have hck : Wk.cell? ⟨X.heap.size, pre.length, none⟩ = some (.int .i64 y) := (by rw [hWk]; exact HAT.out X.drew); have xck : Wk.cell? ⟨W.heap.size, 0, none⟩ = some (.int .i64 pre.length) ∧ Wk.cell? ⟨Bx, 0, none⟩ = some (.int .i64 y) := ⟨(hbk.cell (p := ⟨W.heap.size, 0, none⟩) xl12).trans c12, (hbk.cell (p := ⟨Bx, 0, none⟩) xlX).trans cX⟩; have xck1 := xck.1; clear hWk) | (go_at_call 12; refine (HT.out _ _).mono ?_; rintro e Wj ⟨rfl, hbj⟩)); refine hK _ _ (by first | exact ⟨hbk, xck⟩ | exact ⟨hbk.trans (hbj.mono hbk.size), (hbj.cell (p := ⟨W.heap.size, 0, none⟩) (by have := hbk.size; dsimp only; omega)).trans xck.1, (hbj.cell (p := ⟨Bx, 0, none⟩) (by have := hbk.size; dsimp only; omega)).trans xck.2⟩) ?_; clear hK K))
            all_goals (refine Lx.lex_nil ?_)
            have hbj2 := hbk.trans (hbj.mono hbk.size)
            obtain ⟨b3x, b4x, b12, b11, hdX, hBX, _⟩ := HBX.out
            have b12j := boxed_keep b12 hbj2
            have b11j := boxed_keep b11 hbj2
            have b3j := boxed_keep b3x hbj2
            have hdj : ∀ D ∈ ds, Wj.heap[D]? = some (.deferred (some [])) := fun D hD => (hbj2.block D (Array.getElem?_eq_some_iff.1 (hdX D hD)).1).trans (hdX D hD)
            have c12j := b12j.cell
            have f12j := b12j.frozen
            have l12j := b12j.lt
            have h11ne : g11 ≠ W.heap.size := by omega
            have c11' : ∀ v, (Wj.setCell ⟨W.heap.size, 0, none⟩ v).cell? ⟨g11, 0, none⟩ = some (.int .i64 (j : Int)) := fun v => (b11j.other h11ne v).cell
            have c3' : ∀ v, (Wj.setCell ⟨W.heap.size, 0, none⟩ v).cell? ⟨w.heap.size, 0, none⟩ = some (.int .i64 x1) := fun v => (b3j.other (by omega) v).cell
            have c12' : ∀ v, (Wj.setCell ⟨W.heap.size, 0, none⟩ v).cell? ⟨W.heap.size, 0, none⟩ = some v := fun v => (b12j.set v).cell
            have HNEW : Hid (∀ v, v = Value.int .i64 ((pre.length : Int) + 1) → KeepsFrom V.heap.size X (Wj.setCell ⟨W.heap.size, 0, none⟩ v) ∧ Keep1 W3.heap.size wc.heap.size X (Wj.setCell ⟨W.heap.size, 0, none⟩ v) ∧ TgJ W3 j g11 W.heap.size V.heap.size ds (pre ++ [pre.length]) (Wj.setCell ⟨W.heap.size, 0, none⟩ v)) := Lib.hid (by
              intro v hv
              have hX1 : X.heap.size ≤ Wj.heap.size := hbj2.size
              refine ⟨((⟨hbj2.size, fun k o hk _ => (hbj2.block k (Array.getElem?_eq_some_iff.1 hk).1).trans hk⟩ : KeepsOthers X Wj).trans (KeepsOthers.setCell _ _ _)).from _, ⟨(hbj2.mono hgl).setCell (p := ⟨W.heap.size, 0, none⟩) hBs _, (heap_set (by dsimp only; omega)).trans (hbj2.block _ (by omega))⟩, ?_, HPX.out, ?_, b11j.other h11ne v, fun D hD => ?_, (hBX.trans (hbj2.mono hgl)).setCell (p := ⟨W.heap.size, 0, none⟩) hBs _⟩
              · exact Nat.le_trans h0 (Nat.le_trans hX1 ((KeepsOthers.setCell Wj ⟨W.heap.size, 0, none⟩ v).size))
              · have := b12j.set v
                rw [hv] at this ⊢
                simpa using this
              · rw [heap_set (by
                  dsimp only
                  intro e
                  have h8 := hdj D hD
                  rw [← e] at h8
                  have h9 : Wj.heap[W.heap.size]? = _ := b12j
                  rw [h8] at h9
                  cases h9)]
                exact hdj D hD)
            clear b3x b4x b12 b11 hdX hBX b12j b11j b3j hdj hbj2 hbk hbj hck xck xck1
            by_cases hj1 : j = 0
            · have hj1' : ((j : Int) == 0) = true := by simp [hj1]
              have HJ1 := Lib.hid hj1
              clear hj1
              by_cases hm : x1 ≤ (pre.length : Int) + 1
              · gi_wp2_with fail
                exact ⟨(HNEW.out _ rfl).1, .inr ⟨rfl, HJ1.out, (HNEW.out _ rfl).2.2⟩⟩
              · gi_wp2_with fail
                first | exact HNEW.out _ rfl | (have h9 := HNEW.out _ rfl; rw [hVs] at h9; exact h9)
            · have hj1' : ((j : Int) == 0) = false := by simp; omega
              clear hj1
              gi_wp2_with fail
              first | exact HNEW.out _ rfl | (have h9 := HNEW.out _ rfl; rw [hVs] at h9; exact h9)
          · have hne : ((x : Int) == (pre.length : Int)) = false := by simp; omega
            have hne2 : ((x : Int) != (pre.length : Int)) = true := by simp; omega
            have HN : Hid (¬ pre ++ [x] <+: List.range 11) := Lib.hid (range_not hxy)
            have c4x := b4x.cell
            have f4x := b4x.frozen
            have l4x := b4x.lt
            clear hp b12 b11 hdX hBX bX b3x b4x hr HJ hxy
            gi_wp2_with fail
            refine Lx.regionIn (C := fun Z => Below X.heap.size X Z ∧ Z.cell? ⟨W.heap.size, 0, none⟩ = some (.int .i64 pre.length) ∧ Z.cell? ⟨Bx, 0, none⟩ = some (.int .i64 (keyE x))) (hs := [8, 10]) (by kernel_rfl) (by kernel_rfl) (by kernel_rfl) ⟨(Below.refl _ _).drew, c12, cX⟩ ?_
            repeat' (first
              | (refine Lx.lex_no (Lx.n1 rfl rfl rfl (by with_reducible rfl)) (fun K hK => ?_); go_simp; skip; refine hK _ ?_; clear hK K)
              | (refine Lx.lex_no (Lx.n0 rfl rfl rfl (by with_reducible rfl)) (fun K hK => ?_); go_simp; skip; refine hK _ ?_; clear hK K)
              | (refine Lx.lex_no (Lx.n2 rfl rfl rfl) (fun K hK => ?_); go_simp; skip; refine hK _ ?_; clear hK K)
              | (refine Lx.lex_pure (v := ?_) rfl (by first | exact Lx.w0 rfl | exact Lx.w1 rfl rfl rfl (by with_reducible rfl)) ?_ (fun K hK => ?_); rotate_left 1; (intro w' hCw; (try dsimp only at hCw); go_simp; first | done | with_reducible rfl); go_simp; skip; refine hK _ ?_; clear hK K)
              | (refine Lx.lex_read (v := ?_) rfl (by first | exact Lx.w0 rfl | exact Lx.w1 rfl rfl rfl (by with_reducible rfl)) ?_ (fun K hK => ?_); rotate_left 1; (go_simp; first | done | with_reducible rfl); go_simp; skip; refine hK _ ?_; clear hK K)
              | (refine Lx.lex_eff rfl (by first | exact Lx.w0 rfl | exact Lx.w1 rfl rfl rfl (by with_reducible rfl)) (fun K hK => ?_); go_simp; (first | fail); refine hK _ _ (fail) ?_; clear hK K))
            all_goals (refine Lx.lex_nil ?_)
            gi_wp2_with fail
            exact ⟨((KeepsOthers.drew _).trans (KeepsOthers.setCell _ _ _)).from _, .inl ⟨rfl, HN.out⟩⟩
        case done =>
          rintro D ys X hD rfl hJ hK
          obtain ⟨_, _, b12, b11, hdX, hBX⟩ := hJ
          have c12 := b12.cell
          rw [List.length_range] at c12
          have c11 := b11.cell
          have l11 := b11.lt
          have HJ := Lib.hid (And.intro hdX hBX)
          have HKD := Lib.hid hK
          clear hdX hBX hK b12 b11
          by_cases hj1 : j = 1
          · have hj1' : ((j : Int) == 1) = true := by simp [hj1]
            clear hj1
            gi_wp2_with fail
            · refine ⟨⟨j + 1, X.heap.size, D :: ds, by omega, tgFrame_mk _ _ _ _ (D :: ds) _ _ _ _ _ _ _ _ _ _ _ _ _ _ _ _ _ _ _ _ _ _ _ _ _ _ _ _ _ _ _ _ _ _ _ _ _ _ _ _ _ _ _ _ _ _ _ _ _ _ _ _ _ _ _ _ _ _ _ _ _ _ _ _ _ _ _ _ _ _ _ _ _ _ _ _ _ _ _ _ _ _ _ _ _ _ _ _ _ _ _ _ _ _ _ _ _ _ _ _ _ _ _ _ _ _ _ _ _ _ _ _ _ _ _ _ _ _ _ _ _ _ _ _ _ _, tgInv_next hD (by omega) (fun E hE => ⟨(hds E hE).1, hdlt E hE⟩) HJ.out.1 HJ.out.2 HKD.out hnd⟩, ?_⟩
              rw [turns_eq rfl (Boxed.new X _ _).cell, turns_eq rfl hI'.out.2.1.cell]
              omega
          · have hj1' : ((j : Int) == 1) = false := by simp; omega
            clear hj1
            gi_wp2_with fail
            · refine ⟨⟨j + 1, X.heap.size, D :: ds, by omega, tgFrame_mk _ _ _ _ (D :: ds) _ _ _ _ _ _ _ _ _ _ _ _ _ _ _ _ _ _ _ _ _ _ _ _ _ _ _ _ _ _ _ _ _ _ _ _ _ _ _ _ _ _ _ _ _ _ _ _ _ _ _ _ _ _ _ _ _ _ _ _ _ _ _ _ _ _ _ _ _ _ _ _ _ _ _ _ _ _ _ _ _ _ _ _ _ _ _ _ _ _ _ _ _ _ _ _ _ _ _ _ _ _ _ _ _ _ _ _ _ _ _ _ _ _ _ _ _ _ _ _ _ _ _ _ _ _, tgInv_next hD (by omega) (fun E hE => ⟨(hds E hE).1, hdlt E hE⟩) HJ.out.1 HJ.out.2 HKD.out hnd⟩, ?_⟩
              rw [turns_eq rfl (Boxed.new X _ _).cell, turns_eq rfl hI'.out.2.1.cell]
              omega
        case stop =>
          rintro D cc pre X hD hSp hX hK
          rcases hX with ⟨rfl, h⟩ | ⟨rfl, hj0, hJ⟩
          · exact absurd hSp h
          · obtain ⟨_, _, b12, b11, hdX, hBX⟩ := hJ
            have c12 := b12.cell
            have c11 := b11.cell
            have l11 := b11.lt
            have hj1' : ((j : Int) == 1) = false := by simp [hj0]
            have HJ := Lib.hid (And.intro hdX hBX)
            have HKD := Lib.hid hK
            clear hdX hBX hK b12 b11 hj0 hSp
            gi_wp2_with fail
            · refine ⟨⟨j + 1, X.heap.size, D :: ds, by omega, tgFrame_mk _ _ _ _ (D :: ds) _ _ _ _ _ _ _ _ _ _ _ _ _ _ _ _ _ _ _ _ _ _ _ _ _ _ _ _ _ _ _ _ _ _ _ _ _ _ _ _ _ _ _ _ _ _ _ _ _ _ _ _ _ _ _ _ _ _ _ _ _ _ _ _ _ _ _ _ _ _ _ _ _ _ _ _ _ _ _ _ _ _ _ _ _ _ _ _ _ _ _ _ _ _ _ _ _ _ _ _ _ _ _ _ _ _ _ _ _ _ _ _ _ _ _ _ _ _ _ _ _ _ _ _ _ _, tgInv_next hD (by omega) (fun E hE => ⟨(hds E hE).1, hdlt E hE⟩) HJ.out.1 HJ.out.2 HKD.out hnd⟩, ?_⟩
              rw [turns_eq rfl (Boxed.new X _ _).cell, turns_eq rfl hI'.out.2.1.cell]
              omega


set_option maxRecDepth 100000 in
theorem bandTargets_lifted (os : Os) (started : os.Started) (H : Type) (enc : TypeId × Value → H) :
    ReturnsInHanded {} Try.checked os 4 .any (Rows.bandTargetsSpec.pre6 enc Try.prog Try.f4 Rows.bandTargetsRow.domain false) (Rows.bandTargetsSpec.post enc Try.prog Try.f4 false true false false) := by
  refine returnsInHanded_of_change (C := Try.checked) own started (by kernel_rfl) Try.func4
    (ChangeSpec.witness6 (enc := enc) (C := Try.checked) false ⟨#[], #[.int .i64 0, .int .i64 0], []⟩ 8 (by kernel_rfl) (by kernel_rfl) (by kernel_rfl) (by kernel_rfl)) ?_
  intro W base args ds gs before hval0 hW hcnd _
  have hval : ∀ (j : Nat) t v, Try.f4.params[j]? = some t → args[j]? = some v → Value.okWide Try.prog W .any base t v := hval0
  have hW' := hW
  obtain ⟨p, q, hA0, hV, rfl, hfz, hnd⟩ := hW
  have hA : DataW.TrodAll enc Try.prog W 0 (fun _ => true) true Try.f4.params.toList args.toList ds p := hA0
  rw [Try.params4] at hA hval
  obtain ⟨v0, vs0, d0, ds0, p0, q0, hargs, rfl, rfl, h0, r0⟩ := trodAll_cons hA
  obtain ⟨v1, vs1, d1, ds1, p1, q1, rfl, rfl, rfl, h1, r1⟩ := trodAll_cons r0
  obtain ⟨rfl, rfl, rfl⟩ := trodAll_nil r1
  obtain rfl : args = #[v0, v1] := by cases args; simp_all
  obtain ⟨rfl, rfl⟩ := trodVars_none hV
  have k0 := h0
  have lt0 : ∀ x ∈ p0, x.block < W.heap.size := by obtain ⟨m, hm⟩ := k0; exact DataW.trod_lt m _ _ _ hm
  have k1 := h1
  have lt1 : ∀ x ∈ p1, x.block < W.heap.size := by obtain ⟨m, hm⟩ := k1; exact DataW.trod_lt m _ _ _ hm
  obtain ⟨x0, rfl, b0⟩ := arg_int Try.underlying3 (hval 0 3 _ rfl rfl) h0
  obtain ⟨x1, rfl, b1⟩ := arg_int Try.underlying3 (hval 1 3 _ rfl rfl) h1
  clear hA0 hval0
  refine (bandTargets_walk W x0 b0 x1 b1).mono fun e W' ⟨he, bel⟩ => ?_
  subst he
  exact ⟨_, rfl, _, _, _, [], _, [], hW', trodAll_mk1 (shut_bool Try.underlying4 _), (trodAll_cons_mk (Below.trod laidOut (by kernel_rfl) (of_decide_eq_true (by kernel_rfl)) k0 bel lt0) (trodAll_cons_mk (Below.trod laidOut (by kernel_rfl) (of_decide_eq_true (by kernel_rfl)) k1 bel lt1) trodAll_mk0)), rfl, bel.frame _, fun h => by cases h⟩

theorem bandTargets_over : Rows.bandTargetsRow.holds Try.pinned (OpenSpec.ofChange Rows.bandTargetsSpec) :=
  OpenClaim.holds_of_wide 4 Try.f4 rfl rfl rfl rfl rfl rfl rfl ⟨rfl, rfl, rfl, rfl, rfl⟩ rfl rfl rfl rfl rfl (by kernel_rfl) Try.func4 (by kernel_rfl)
    (of_decide_eq_true (by kernel_rfl)) (by unfold Func.isWrapper; first | (rw [if_pos (by decide +kernel)]; kernel_rfl) | (rw [if_neg (by decide +kernel)]; exact ⟨rfl, rfl⟩))
    (fun os started H enc _ => bandTargets_lifted os started H enc)

theorem bandTargets_holds : Rows.BandTargetsSaid := bandTargets_over
#print axioms bandTargets_holds
end Go.Proofs.Ytpdhelhngdeoeaa
