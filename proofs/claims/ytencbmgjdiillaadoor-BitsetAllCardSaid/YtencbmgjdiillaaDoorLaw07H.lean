/- BitsetAll: the iterator yields the members in increasing order, as often as it is used and wherever it is left. -/
import Derived.Test.YtencbmgjdiillaaDoorConv07
namespace Go.Proofs.YtencbmgjdiillaaDoor
open Go.RowKit Go.Shelf Go.ChangeShapes Go.WideShapes Go.ChangeAt Go.Deep Go.Joins

attribute [local go_sem] Oper.semAt_some

theorem nf_in (d f : Nat) (lb : Array Value) (w : World) : (Op.equalIn (d + 1) 33 (.func (.func f) #[] lb) .nilFunc).run Tryd.prog w = .ok false w := by
  simp [Op.equalIn, run_underlying Tryd.underlying33]
theorem nf_eql (f : Nat) (lb : Array Value) (w : World) : (binOp .eql 33 (.func (.func f) #[] lb) .nilFunc).run Tryd.prog w = .ok (.bool false) w := by
  have h : (Op.equal 33 (.func (.func f) #[] lb) .nilFunc).run Tryd.prog w = .ok false w := nf_in 9999 f lb w
  unfold binOp
  simp [go_sem, h]
theorem boxed_keep {W W' : World} {B : Nat} {t : TypeId} {v : Value} (h : Boxed W B t v) (hb : Below W.heap.size W W') : Boxed W' B t v := (hb.block B h.lt).trans h

def marksOf (ds : List Nat) : List Deferred := ds.map fun D => { target := .collected D, args := #[] }
/-- the frame at the head of a turn: what the scratch slots hold does not matter -/
def AllFrame (p3 p4 p7 : Nat) (f8 : Value) (g9 : Nat) (ds : List Nat) (a : Act) : Prop := ∃ u : Nat → Value, a = { tmps := #[u 0, u 1, u 2, (.pointer (some ⟨p3, 0, none⟩)), (.pointer (some ⟨p4, 0, none⟩)), u 5, u 6, (.pointer (some ⟨p7, 0, none⟩)), f8, (.pointer (some ⟨g9, 0, none⟩)), u 10, u 11, u 12, u 13, u 14, u 15, u 16, u 17, u 18, u 19, u 20, u 21, u 22, u 23, u 24, u 25, u 26, u 27, u 28, u 29, u 30, u 31, u 32, u 33, u 34, u 35, u 36, u 37, u 38, u 39, u 40, u 41, u 42, u 43, u 44, u 45, u 46, u 47, u 48, u 49, u 50, u 51, u 52, u 53, u 54, u 55, u 56, u 57, u 58, u 59, u 60, u 61, u 62, u 63, u 64, u 65, u 66, u 67, u 68, u 69, u 70, u 71, u 72, u 73, u 74, u 75, u 76, u 77, u 78], defers := marksOf ds }
theorem allFrame_mk (p3 p4 p7 : Nat) (f8 : Value) (g9 : Nat) (ds : List Nat) (u0 u1 u2 u5 u6 u10 u11 u12 u13 u14 u15 u16 u17 u18 u19 u20 u21 u22 u23 u24 u25 u26 u27 u28 u29 u30 u31 u32 u33 u34 u35 u36 u37 u38 u39 u40 u41 u42 u43 u44 u45 u46 u47 u48 u49 u50 u51 u52 u53 u54 u55 u56 u57 u58 u59 u60 u61 u62 u63 u64 u65 u66 u67 u68 u69 u70 u71 u72 u73 u74 u75 u76 u77 u78 : Value) : AllFrame p3 p4 p7 f8 g9 ds { tmps := #[u0, u1, u2, (.pointer (some ⟨p3, 0, none⟩)), (.pointer (some ⟨p4, 0, none⟩)), u5, u6, (.pointer (some ⟨p7, 0, none⟩)), f8, (.pointer (some ⟨g9, 0, none⟩)), u10, u11, u12, u13, u14, u15, u16, u17, u18, u19, u20, u21, u22, u23, u24, u25, u26, u27, u28, u29, u30, u31, u32, u33, u34, u35, u36, u37, u38, u39, u40, u41, u42, u43, u44, u45, u46, u47, u48, u49, u50, u51, u52, u53, u54, u55, u56, u57, u58, u59, u60, u61, u62, u63, u64, u65, u66, u67, u68, u69, u70, u71, u72, u73, u74, u75, u76, u77, u78], defers := marksOf ds } := ⟨fun i => [u0, u1, u2, undef, undef, u5, u6, undef, undef, undef, u10, u11, u12, u13, u14, u15, u16, u17, u18, u19, u20, u21, u22, u23, u24, u25, u26, u27, u28, u29, u30, u31, u32, u33, u34, u35, u36, u37, u38, u39, u40, u41, u42, u43, u44, u45, u46, u47, u48, u49, u50, u51, u52, u53, u54, u55, u56, u57, u58, u59, u60, u61, u62, u63, u64, u65, u66, u67, u68, u69, u70, u71, u72, u73, u74, u75, u76, u77, u78].getD i undef, rfl⟩
/-- what stands between two turns -/
def AllInv (w3 : World) (j g9 : Nat) (ds : List Nat) (W : World) : Prop := Below w3.heap.size w3 W ∧ Boxed W g9 3 (.int .i64 j) ∧ w3.heap.size ≤ g9 ∧ (∀ D ∈ ds, w3.heap.size ≤ D ∧ W.heap[D]? = some (.deferred (some []))) ∧ ds.Nodup
def cellInt (W : World) : Option Value → Nat
  | some (.pointer (some p)) => (match W.cell? p with | some (.int _ z) => (3 - z).toNat | _ => 0)
  | _ => 0
def turnsLeft (a : Act) (W : World) : Nat := cellInt W (a.tmps[9]?)

/-- what stands between two rounds of a turn -/
def AllJ (w3 : World) (S j g9 g10 : Nat) (ds : List Nat) (pre : List Nat) (X : World) : Prop := pre <+: mem S ∧ Boxed X g10 3 (.int .i64 pre.length) ∧ Boxed X g9 3 (.int .i64 j) ∧ (∀ D ∈ ds, X.heap[D]? = some (.deferred (some []))) ∧ Below w3.heap.size w3 X
def AllX (w3 : World) (S j g9 g10 : Nat) (ds : List Nat) (stop : Int) (c : Code) (pre : List Nat) (X : World) : Prop := (c = .ret ∧ ¬ pre <+: mem S) ∨ (c = .exit 2 ∧ j = 1 ∧ (pre.length : Int) = stop ∧ AllJ w3 S j g9 g10 ds pre X)
theorem allJ_own {w3 : World} {S j g9 g10 : Nat} {ds : List Nat} {B : Nat} (hds : ∀ D ∈ ds, D < B) (h3 : w3.heap.size ≤ B) : OwnFrom B (AllJ w3 S j g9 g10 ds) := by
  intro pre X Y row hJ hg hr
  obtain ⟨h1, h2, h4, h5, h6⟩ := hJ
  refine ⟨h1, ?_, ?_, fun D hD => ?_, ownFrom_below (β := Unit) (Nat.le_refl _) h3 () X Y row h6 hg hr⟩
  · exact Own.from (boxed_own g10 3 (fun _ : Unit => Value.int .i64 (pre.length : Int))) B () X Y row h2 hg hr
  · exact Own.from (boxed_own g9 3 (fun _ : Unit => Value.int .i64 (j : Int))) B () X Y row h4 hg hr
  · have h7 := h5 D hD
    refine (hg.block D (Array.getElem?_eq_some_iff.1 h7).1 (fun e => ?_)).trans h7
    have := (hr D e.symm).1
    have := hds D hD
    omega
theorem allX_own {w3 : World} {S j g9 g10 : Nat} {ds : List Nat} {B : Nat} (hds : ∀ D ∈ ds, D < B) (h3 : w3.heap.size ≤ B) (stop : Int) (c : Code) : OwnFrom B (AllX w3 S j g9 g10 ds stop c) := by
  intro pre X Y row hJ hg hr
  rcases hJ with h | ⟨h1, h2, h4, h5⟩
  · exact .inl h
  · exact .inr ⟨h1, h2, h4, allJ_own hds h3 pre X Y row h5 hg hr⟩
theorem heap_set {W : World} {a : Addr} {v : Value} {k : Nat} (h : a.block ≠ k) : (W.setCell a v).heap[k]? = W.heap[k]? := Below.heap_setCell _ _ _ _ (fun e => h e.symm)
theorem turns_eq {a : Act} {W : World} {g : Nat} {z : Int} (h : a.tmps[9]? = some (.pointer (some ⟨g, 0, none⟩))) (hc : W.cell? ⟨g, 0, none⟩ = some (.int .i64 z)) : turnsLeft a W = (3 - z).toNat := by
  unfold turnsLeft
  rw [h]
  simp only [cellInt, hc]
theorem allInv_next {w3 X V : World} {j D : Nat} {ds : List Nat} (hD : V.heap.size ≤ D) (h3 : w3.heap.size ≤ V.heap.size) (hds : ∀ E ∈ ds, w3.heap.size ≤ E ∧ E < V.heap.size) (hX : ∀ E ∈ ds, X.heap[E]? = some (.deferred (some []))) (hB : Below w3.heap.size w3 X) (hK : X.heap[D]? = some (.deferred (some []))) (hn : ds.Nodup) :
    AllInv w3 (j + 1) X.heap.size (D :: ds) (X.alloc (.cells #[.int .i64 ((j : Int) + 1)] 3)) := by
  refine ⟨hB.alloc hB.size _, by simpa using Boxed.new X 3 (.int .i64 ((j : Int) + 1)), hB.size, fun E hE => ?_, List.nodup_cons.2 ⟨fun h => by have := (hds D h).2; omega, hn⟩⟩
  rcases List.mem_cons.1 hE with rfl | hE
  · exact ⟨by omega, (Below.heap_alloc X _ _ (Array.getElem?_eq_some_iff.1 hK).1).trans hK⟩
  · exact ⟨(hds E hE).1, (Below.heap_alloc X _ _ (Array.getElem?_eq_some_iff.1 (hX E hE)).1).trans (hX E hE)⟩
theorem leaves_marks {F : Fence} {n : Nat} {fn : Func} {tmps : Array Value} {R : Ending → World → Prop} {Pw : World → Prop} {B : Nat} (hP : ∀ W D, Pw W → B ≤ D → W.heap[D]? = some (.deferred (some [])) → Pw (W.putObj D (.deferred none)))
    (hE : ∀ W, Pw W → LeavesIn F n Tryd.prog fn tmps R [] .returning W) : ∀ (ds : List Nat) (W : World), Pw W → (∀ D ∈ ds, B ≤ D ∧ W.heap[D]? = some (.deferred (some []))) → ds.Nodup → LeavesInM F n Tryd.prog fn tmps R (marksOf ds) .returning W := by
  intro ds
  induction ds with
  | nil => intro W h _ _; exact hE W h
  | cons D r ih =>
    intro W h hd hn
    obtain ⟨h1, h2⟩ := hd D (by simp)
    have hn' := List.nodup_cons.1 hn
    refine ⟨by simp, .inl ⟨D, _, rfl, run_takeDeferred h2, ?_⟩⟩
    refine ih _ (hP W D h h1 h2) (fun E hE' => ?_) hn'.2
    obtain ⟨h3, h4⟩ := hd E (by simp [hE'])
    refine ⟨h3, ?_⟩
    rw [World.putObj_heap_other (fun e => hn'.1 (by rw [← e]; exact hE'))]
    exact h4

set_option maxRecDepth 100000 in
set_option maxHeartbeats 4000000 in
theorem allL_main (w : World) (hT : Tab w) (A : Option Addr) (n c : Nat) (l : List Int) (stop : Int) (S : Nat) (hn : n ≤ 60) (hl : Row1 intV w w.heap.size A n l) (hA : allowF l = true) (hS : ofF l = (S, 0)) (hF : Fit S) (hm : ofK l 512 = memI S) :
    Calls Tryd.prog 3 #[.slice A n c, .int .i64 stop] w fun e w' => e = .returned (.bool true) ∧ Below w.heap.size w w' := by
  have HT := Lib.hid hT
  have HK : Hid (∀ W, Below w.heap.size w W → Calls Tryd.prog 12 #[] W (RetPost (.bool true) W.heap.size W)) := Lib.hid (fun W hb => known_any W (hT.keep hb))
  have h1 : (n : Int) ≤ 60 := by omega
  have HAL : Hid (∀ W, Row1 intV W W.heap.size A n l → Calls Tryd.prog 11 #[.slice A n c] W fun e w' => e = .returned (.bool true) ∧ W = w') := Lib.hid (fun W h => by have := allowed_any A n c W _ l (by omega) h; rw [hA] at this; exact this)
  have HSE : Hid (∀ W, Row1 intV W W.heap.size A n l → Calls Tryd.prog 13 #[.slice A n c] W (RetPost (.tuple #[sV S, .bool true]) W.heap.size W)) := Lib.hid (fun W h => by have := set_any A n c W l (by omega) h; rw [hS] at this; exact this)
  have HRO : Hid (∀ W, Row1 intV W W.heap.size A n l → Calls Tryd.prog 14 #[.slice A n c] W (NewInts (memI S) W)) := Lib.hid (fun W h => by have := ofR_any A n c W l (by omega) h; rw [hm] at this; exact this)
  have HAA := Lib.hid (fun w' => all_any S w')
  have hnf := nf_eql
  have R0 := Lib.hid hl
  unfold sV at HSE HAA
  clear hT hn hl hA hS hm
  refine (callsIn_wide (n := 3)).1 ?_
  refine callsIn_of_wp_marks Tryd.func3 rfl trivial ?_ rfl
  simp only [Tryd.ntmps3, List.size_toArray, List.length_cons, List.length_nil, Nat.reduceAdd, Nat.reduceSub, Array.replicate_succ, Array.replicate_zero, List.push_toArray, List.append_toArray, List.nil_append, List.cons_append]
  gi_wp2_with fail
  obtain ⟨W0, hW0⟩ : ∃ W0, W0 = (w.alloc (.cells #[.int .i64 stop] 3)).alloc (.cells #[.bool false] 4) := ⟨_, rfl⟩
  have b3 : Boxed W0 w.heap.size 3 (.int .i64 stop) := by rw [hW0]; exact (Boxed.new w _ _).alloc _
  have b4 : Boxed W0 (w.heap.size + 1) 4 (.bool false) := by rw [hW0]; have := Boxed.new (w.alloc (.cells #[.int .i64 stop] 3)) 4 (.bool false); rwa [World.size_alloc] at this
  have hB0 : Below w.heap.size w W0 := by rw [hW0]; exact ((Below.refl _ w).alloc (Nat.le_refl _) _).alloc (by simp) _
  have H0 := Lib.hid (And.intro b3 (And.intro b4 hB0))
  rw [← hW0]
  have Q0 := Lib.hid (R0.out.keep hB0)
  clear hW0 b3 b4 hB0
  refine ⟨trivial, (callsIn_wide.2 (HAL.out _ Q0.out)).mono ?_⟩
  rintro e wz ⟨rfl, rfl⟩
  gi_wp2_with fail
  refine ⟨trivial, (callsIn_wide.2 (HSE.out _ Q0.out)).mono ?_⟩
  rintro e W1 ⟨rfl, hw1⟩
  have H1 := Lib.hid (And.intro (boxed_keep H0.out.1 hw1) (And.intro (boxed_keep H0.out.2.1 hw1) (H0.out.2.2.trans (hw1.mono H0.out.2.2.size))))
  have Q1 := Lib.hid (Q0.out.keep hw1)
  clear hw1
  gi_wp2_with fail
  obtain ⟨V1, hV1⟩ : ∃ V, V = W1.alloc (.cells (sL S).toArray 28) := ⟨_, rfl⟩
  have hb1 : Below W1.heap.size W1 V1 := by rw [hV1]; exact (Below.refl _ W1).alloc (Nat.le_refl _) _
  have H2 := Lib.hid (And.intro (boxed_keep H1.out.1 hb1) (And.intro (boxed_keep H1.out.2.1 hb1) (H1.out.2.2.trans (hb1.mono H1.out.2.2.size))))
  have X5 : Hid (Blk V1 W1.heap.size 28 (tabL 8 (sC S))) := Lib.hid (by rw [hV1, ← sL_tab]; exact blk_new _ _ _)
  have Q2 := Lib.hid (Q1.out.keep hb1)
  unfold sL at hV1
  rw [← hV1]
  clear hV1 hb1 H0 H1 Q0 Q1
  refine ⟨trivial, (callsIn_wide.2 (HRO.out _ Q2.out)).mono ?_⟩
  rintro e W2 ⟨v7, rfl, hown7, hw2⟩
  obtain ⟨A7, c7, rfl, hr7⟩ := row1_of_own hown7
  have H3 := Lib.hid (And.intro (boxed_keep H2.out.1 hw2) (And.intro (boxed_keep H2.out.2.1 hw2) (H2.out.2.2.trans (hw2.mono H2.out.2.2.size))))
  have Y5 := Lib.hid (X5.out.keep hw2)
  have R7 := Lib.hid hr7
  clear hown7 hr7 hw2 Q2 H2 X5
  obtain ⟨c0, c1, c2, c3, c4, c5, c6, c7'⟩ := Y5.out.eightA
  gi_wp2_with fail
  clear c0 c1 c2 c3 c4 c5 c6 c7'
  obtain ⟨V2, hV2⟩ : ∃ V, V = W2.alloc (.cells #[.slice A7 (memI S).length c7] 22) := ⟨_, rfl⟩
  have hb2 : Below W2.heap.size W2 V2 := by rw [hV2]; exact (Below.refl _ W2).alloc (Nat.le_refl _) _
  have H4 := Lib.hid (And.intro (boxed_keep H3.out.1 hb2) (And.intro (boxed_keep H3.out.2.1 hb2) (H3.out.2.2.trans (hb2.mono H3.out.2.2.size))))
  have X7 : Hid (Boxed V2 W2.heap.size 22 (.slice A7 (memI S).length c7)) := Lib.hid (by rw [hV2]; exact Boxed.new _ _ _)
  have R8 := Lib.hid (R7.out.keep hb2)
  rw [← hV2]
  clear hV2 hb2 H3 R7 Y5
  refine ⟨trivial, (callsIn_wide.2 (HAA.out _)).mono ?_⟩
  rintro e W3 ⟨rfl, hW3⟩
  have hb3 : Below V2.heap.size V2 W3 := by rw [hW3]; exact (Below.refl _ V2).alloc (Nat.le_refl _) _
  have H5 := Lib.hid (And.intro (boxed_keep H4.out.1 hb3) (And.intro (boxed_keep H4.out.2.1 hb3) (H4.out.2.2.trans (hb3.mono H4.out.2.2.size))))
  have Y7 := Lib.hid (boxed_keep X7.out hb3)
  have X8 : Hid (Blk W3 V2.heap.size 28 (tabL 8 (sC S))) := Lib.hid (by rw [hW3, ← sL_tab]; exact blk_new _ _ _)
  have R9 := Lib.hid (R8.out.keep hb3)
  clear hW3 hb3 H4 X7 R8
  gi_wp2_with fail
  clear hnf HAL HSE HRO HAA
  have hszV : V2.heap.size < W3.heap.size := X8.out.lt
  have hsz2 : W2.heap.size < W3.heap.size := Y7.out.lt
  have hsz4 : w.heap.size + 1 < W3.heap.size := H5.out.2.1.lt
  refine wpIn_loop (fun a W => ∃ (j g9 : Nat) (ds : List Nat), j ≤ 3 ∧ AllFrame w.heap.size (w.heap.size + 1) W2.heap.size (.func (.func 42) #[] #[.pointer (some ⟨V2.heap.size, 0, none⟩)]) g9 ds a ∧ AllInv W3 j g9 ds W) turnsLeft ?start ?round
  case start =>
    refine ⟨0, W3.heap.size, [], by omega, allFrame_mk _ _ _ _ _ [] _ _ _ _ _ _ _ _ _ _ _ _ _ _ _ _ _ _ _ _ _ _ _ _ _ _ _ _ _ _ _ _ _ _ _ _ _ _ _ _ _ _ _ _ _ _ _ _ _ _ _ _ _ _ _ _ _ _ _ _ _ _ _ _ _ _ _ _ _ _ _ _ _ _, (Below.refl _ W3).alloc (Nat.le_refl _) _, Boxed.new _ _ _, Nat.le_refl _, (fun D h => by cases h), by simp⟩
  case round =>
    rintro a W ⟨j, g9, ds, hj, ⟨u, rfl⟩, hI⟩
    have hI' := Lib.hid hI
    obtain ⟨hB, b9, hg9, hds, hnd⟩ := hI
    have c9 := b9.cell
    by_cases hj3 : j = 3
    · subst hj3
      have HBw := Lib.hid (H5.out.2.2.trans (hB.mono H5.out.2.2.size))
      have b4 : Boxed W (w.heap.size + 1) 4 (.bool false) := (hB.block _ hsz4).trans H5.out.2.1
      have h4lt := b4.lt
      have HB4 := Lib.hid b4
      clear hds hnd b9 hB b4
      gi_wp2_with fail
      refine ⟨trivial, (callsIn_wide.2 (HK.out _ HBw.out)).mono ?_⟩
      rintro e W5 ⟨rfl, hw5⟩
      have b5 : Boxed W5 (w.heap.size + 1) 4 (.bool false) := (hw5.block _ h4lt).trans HB4.out
      have c5 := b5.cell
      have f5 := b5.frozen
      have hlt5 := b5.lt
      have HB5 := Lib.hid (And.intro b5 hw5)
      clear b5 hw5
      gi_wp2_with fail
      show LeavesInM _ _ _ _ _ _ (marksOf ds) .returning _
      obtain ⟨hB, _, _, hds, hnd⟩ := hI'.out
      refine leaves_marks (Pw := fun X => Boxed X (w.heap.size + 1) 4 (.bool true) ∧ Below w.heap.size w X) (B := W3.heap.size) ?_ ?_ ds _ ?_ ?_ hnd
      · rintro X D ⟨h1, h2⟩ hD hX
        exact ⟨(World.putObj_heap_other (by omega)).trans h1, h2.trans (belowK_b (w := w) (Nat.le_refl _) X D _ _ (by omega) hX rfl rfl)⟩
      · rintro X ⟨h1, h2⟩
        have h3 := h1.cell
        exact ⟨.bool true, by simp [results, Tryd.results3, go_sem, h3], rfl, h2⟩
      · exact ⟨HB5.out.1.set _, (HBw.out.trans (HB5.out.2.mono HBw.out.size)).setCell (p := ⟨w.heap.size + 1, 0, none⟩) (by simp) _⟩
      · intro D hD
        obtain ⟨h1, h2⟩ := hds D hD
        refine ⟨h1, ?_⟩
        rw [heap_set (by dsimp only; omega), HB5.out.2.block D (Array.getElem?_eq_some_iff.1 h2).1]
        exact h2
    · have hj2 : (j : Int) < 3 := by omega
      clear hB b9 hds hnd
      gi_wp2_with fail
      obtain ⟨hB, b9, _, hds, hnd⟩ := hI'.out
      obtain ⟨V, hV⟩ : ∃ V, V = W.alloc (.cells #[.int .i64 0] 3) := ⟨_, rfl⟩
      have hVs : V.heap.size = W.heap.size + 1 := by rw [hV]; simp
      have b10 : Boxed V W.heap.size 3 (.int .i64 0) := by rw [hV]; exact Boxed.new _ _ _
      have b9V : Boxed V g9 3 (.int .i64 j) := by rw [hV]; exact b9.alloc _
      have hBs := hB.size
      have hBV : Below W3.heap.size W3 V := by rw [hV]; exact hB.alloc hBs _
      have hdlt : ∀ D ∈ ds, D < V.heap.size := fun D hD => by have := (Array.getElem?_eq_some_iff.1 (hds D hD).2).1; omega
      have hdsV : ∀ D ∈ ds, V.heap[D]? = some (.deferred (some [])) := fun D hD => by
        rw [hV]; exact (Below.heap_alloc W _ D (Array.getElem?_eq_some_iff.1 (hds D hD).2).1).trans (hds D hD).2
      have hSV : Blk V V2.heap.size 28 (tabL 8 (sC S)) := (hBV.block _ hszV).trans X8.out
      have hBw : Below w.heap.size w V := H5.out.2.2.trans (hBV.mono (by omega))
      have hTV : Tab V := HT.out.keep hBw
      have h4 : 4 ≤ W3.heap.size := by have := HT.out.1; omega
      have hg9lt := b9.lt
      rw [← hV]
      have HJ0 := Lib.hid (show AllJ W3 S j g9 W.heap.size ds [] V from ⟨List.nil_prefix, b10, b9V, hdsV, hBV⟩)
      clear hB b9 hV b10 b9V hdsV c9
      refine wpIn_rangeFunc_ownG rfl (by decide) (gf := 42) (lb := #[.pointer (some ⟨V2.heap.size, 0, none⟩)]) rfl trivial (enters_of Tryd.func42 (by kernel_rfl) rfl)
        (all_stops 2 (by decide) V2.heap.size W3.heap.size S hF h4 V hSV hTV) keep1_t (keep1_b (by omega) (by omega)) (Below.refl _ _) (fun _ => rfl)
        (AllJ W3 S j g9 W.heap.size ds) (AllX W3 S j g9 W.heap.size ds stop) (allJ_own hdlt (by omega)) (allX_own hdlt (by omega) stop) HJ0.out
        (fun x => { tmps := #[u 0, u 1, u 2, (.pointer (some ⟨w.heap.size, 0, none⟩)), (.pointer (some ⟨w.heap.size + 1, 0, none⟩)), u 5, u 6, (.pointer (some ⟨W2.heap.size, 0, none⟩)), (.func (.func 42) #[] #[.pointer (some ⟨V2.heap.size, 0, none⟩)]), (.pointer (some ⟨g9, 0, none⟩)), (.pointer (some ⟨W.heap.size, 0, none⟩)), (.int .i64 (x : Int)), u 12, u 13, u 14, u 15, u 16, u 17, u 18, u 19, u 20, u 21, u 22, u 23, u 24, u 25, u 26, u 27, u 28, u 29, u 30, u 31, u 32, u 33, u 34, u 35, (.int .i64 (j : Int)), (.bool true), u 38, u 39, (.func (.func 42) #[] #[.pointer (some ⟨V2.heap.size, 0, none⟩)]), (.int .i64 (x : Int)), u 42, u 43, u 44, u 45, u 46, u 47, u 48, u 49, u 50, u 51, u 52, u 53, u 54, u 55, u 56, u 57, u 58, u 59, u 60, u 61, u 62, u 63, u 64, u 65, u 66, u 67, u 68, u 69, u 70, u 71, u 72, u 73, u 74, u 75, u 76, u 77, u 78], defers := [] }) ?assign ?body ?done ?stop
      case assign =>
        intro l x X K hK
        gi_wp2
        exact hK
      case body =>
        rintro l pre x X hJ hlt
        have HJ := Lib.hid hJ
        obtain ⟨hp, b10, b9, hdX, hBX⟩ := hJ
        obtain ⟨y, hy⟩ : ∃ y, (mem S)[pre.length]? = some y := ⟨_, List.getElem?_eq_getElem hlt⟩
        have hyI : (memI S)[pre.length]? = some (y : Int) := by unfold memI; rw [List.getElem?_map, hy]; rfl
        have hlenI : (memI S).length = (mem S).length := memI_len S
        obtain ⟨b, off, hA7, hbl, hc⟩ := R9.out.2 (by rw [hlenI]; omega)
        subst hA7
        have c51 : X.cell? ⟨b, off + pre.length, none⟩ = some (.int .i64 (y : Int)) := (hBX.cell (p := ⟨b, off + pre.length, none⟩) hbl).trans (hc _ _ hyI)
        have c7x : X.cell? ⟨W2.heap.size, 0, none⟩ = some (.slice (some ⟨b, off, none⟩) (memI S).length c7) := (hBX.cell (p := ⟨W2.heap.size, 0, none⟩) hsz2).trans Y7.out.cell
        have c3x : X.cell? ⟨w.heap.size, 0, none⟩ = some (.int .i64 stop) := (hBX.cell (p := ⟨w.heap.size, 0, none⟩) (by dsimp only; omega)).trans H5.out.1.cell
        have b4x : Boxed X (w.heap.size + 1) 4 (.bool false) := (hBX.block _ hsz4).trans H5.out.2.1
        have c4x := b4x.cell
        have f4x := b4x.frozen
        have l4x := b4x.lt
        have c10 := b10.cell
        have f10 := b10.frozen
        have c9 := b9.cell
        have l10 := b10.lt
        have hml := mem_len S
        have hbx : b < X.heap.size := by have := hBX.size; omega
        have hk : (pre.length : Int) < ((memI S).length : Int) := by omega
        by_cases hxy : x = y
        · subst hxy
          have hpx : pre ++ [x] <+: mem S := by
            obtain ⟨t, ht⟩ := hp
            rw [← ht, List.getElem?_append_right (Nat.le_refl _), Nat.sub_self] at hy
            cases t with
            | nil => simp at hy
            | cons z t =>
              simp at hy
              subst hy
              exact ⟨t, by rw [← ht]; simp⟩
          have HPX := Lib.hid hpx
          have hne : ((x : Int) == (x : Int)) = true := by simp
          have h9ne : g9 ≠ W.heap.size := by omega
          have c9' : ∀ v, (X.setCell ⟨W.heap.size, 0, none⟩ v).cell? ⟨g9, 0, none⟩ = some (.int .i64 (j : Int)) := fun v => ((b9.other h9ne v)).cell
          have c3' : ∀ v, (X.setCell ⟨W.heap.size, 0, none⟩ v).cell? ⟨w.heap.size, 0, none⟩ = some (.int .i64 stop) := fun v => by
            have b3x : Boxed X w.heap.size 3 (.int .i64 stop) := (hBX.block _ (by omega)).trans H5.out.1
            exact (b3x.other (by omega) v).cell
          have c10' : ∀ v, (X.setCell ⟨W.heap.size, 0, none⟩ v).cell? ⟨W.heap.size, 0, none⟩ = some v := fun v => (b10.set v).cell
          have HNEW : Hid (∀ v, v = Value.int .i64 ((pre.length : Int) + 1) → KeepsFrom V.heap.size X (X.setCell ⟨W.heap.size, 0, none⟩ v) ∧ Keep1 W3.heap.size V2.heap.size X (X.setCell ⟨W.heap.size, 0, none⟩ v) ∧ AllJ W3 S j g9 W.heap.size ds (pre ++ [x]) (X.setCell ⟨W.heap.size, 0, none⟩ v)) := Lib.hid (by
            intro v hv
            refine ⟨(KeepsOthers.setCell _ _ _).from _, ⟨(Below.refl _ X).setCell (p := ⟨W.heap.size, 0, none⟩) hBs _, heap_set (by dsimp only; omega)⟩, HPX.out, ?_, b9.other h9ne v, fun D hD => ?_, hBX.setCell (p := ⟨W.heap.size, 0, none⟩) hBs _⟩
            · have := b10.set v
              rw [hv] at this ⊢
              simpa using this
            · rw [heap_set (by
                dsimp only
                intro e
                have h8 := hdX D hD
                rw [← e] at h8
                have h9 : X.heap[W.heap.size]? = _ := b10
                rw [h8] at h9
                cases h9)]
              exact hdX D hD)
          clear hp b10 b9 hdX hBX hy hyI hc b4x hpx
          by_cases hj1 : j = 1
          · have hj1' : ((j : Int) == 1) = true := by simp [hj1]
            by_cases hst : (pre.length : Int) + 1 = stop
            · have hst' : ((pre.length : Int) + 1 == stop) = true := by simpa using hst
              have HST := Lib.hid hst
              have HJ1 := Lib.hid hj1
              clear hst hj1
              gi_wp2_with fail
              exact ⟨(HNEW.out _ rfl).1, .inr ⟨rfl, HJ1.out, by rw [List.length_append]; have := HST.out; simpa using this, (HNEW.out _ rfl).2.2⟩⟩
            · have hst' : ((pre.length : Int) + 1 == stop) = false := by simpa using hst
              clear hst hj1
              gi_wp2_with fail
              exact HNEW.out _ rfl
          · have hj1' : ((j : Int) == 1) = false := by simp; omega
            clear hj1
            gi_wp2_with fail
            exact HNEW.out _ rfl
        · have hne : ((x : Int) == (y : Int)) = false := by simp; omega
          have hne2 : ((x : Int) != (y : Int)) = true := by simp; omega
          have HN : Hid (¬ pre ++ [x] <+: mem S) := Lib.hid (by
            rintro ⟨t, ht⟩
            rw [← ht, List.append_assoc, List.getElem?_append_right (Nat.le_refl _), Nat.sub_self] at hy
            simp at hy
            exact hxy hy)
          clear hp b10 b9 hdX hBX hy hyI hc b4x
          gi_wp2_with fail
          exact ⟨(KeepsOthers.setCell _ _ _).from _, .inl ⟨rfl, HN.out⟩⟩
      case done =>
        rintro D ys X hD rfl hJ hK
        obtain ⟨_, b10, b9, hdX, hBX⟩ := hJ
        have c7x : X.cell? ⟨W2.heap.size, 0, none⟩ = some (.slice A7 (memI S).length c7) := (hBX.cell (p := ⟨W2.heap.size, 0, none⟩) hsz2).trans Y7.out.cell
        have c10 := b10.cell
        have c9 := b9.cell
        have l9 := b9.lt
        have hlenI : (memI S).length = (mem S).length := memI_len S
        have HJ := Lib.hid (And.intro hdX hBX)
        have HKD := Lib.hid hK
        clear hdX hBX hK b10 b9
        gi_wp2_with fail
        refine ⟨⟨j + 1, X.heap.size, D :: ds, by omega, allFrame_mk _ _ _ _ _ (D :: ds) _ _ _ _ _ _ _ _ _ _ _ _ _ _ _ _ _ _ _ _ _ _ _ _ _ _ _ _ _ _ _ _ _ _ _ _ _ _ _ _ _ _ _ _ _ _ _ _ _ _ _ _ _ _ _ _ _ _ _ _ _ _ _ _ _ _ _ _ _ _ _ _ _ _, allInv_next hD (by omega) (fun E hE => ⟨(hds E hE).1, hdlt E hE⟩) HJ.out.1 HJ.out.2 HKD.out hnd⟩, ?_⟩
        rw [turns_eq rfl (Boxed.new X _ _).cell, turns_eq rfl hI'.out.2.1.cell]
        omega
      case stop =>
        rintro D cc pre X hD hSp hX hK
        rcases hX with ⟨rfl, h⟩ | ⟨rfl, hj1, hst, hJ⟩
        · exact absurd hSp h
        · obtain ⟨hp, b10, b9, hdX, hBX⟩ := hJ
          have c7x : X.cell? ⟨W2.heap.size, 0, none⟩ = some (.slice A7 (memI S).length c7) := (hBX.cell (p := ⟨W2.heap.size, 0, none⟩) hsz2).trans Y7.out.cell
          have c3x : X.cell? ⟨w.heap.size, 0, none⟩ = some (.int .i64 stop) := (hBX.cell (p := ⟨w.heap.size, 0, none⟩) (by dsimp only; omega)).trans H5.out.1.cell
          have c10 := b10.cell
          have c9 := b9.cell
          have l9 := b9.lt
          have hlenI : (memI S).length = (mem S).length := memI_len S
          have hj1' : ((j : Int) == 1) = true := by simp [hj1]
          have hst' : ((pre.length : Int) == stop) = true := by simpa using hst
          have HJ := Lib.hid (And.intro hdX hBX)
          have HKD := Lib.hid hK
          clear hdX hBX hK b10 b9 hst hj1 hp hSp
          by_cases hle : pre.length = (mem S).length
          · have hle' : (pre.length : Int) = ((mem S).length : Int) := by omega
            gi_wp2_with fail
            refine ⟨⟨j + 1, X.heap.size, D :: ds, by omega, allFrame_mk _ _ _ _ _ (D :: ds) _ _ _ _ _ _ _ _ _ _ _ _ _ _ _ _ _ _ _ _ _ _ _ _ _ _ _ _ _ _ _ _ _ _ _ _ _ _ _ _ _ _ _ _ _ _ _ _ _ _ _ _ _ _ _ _ _ _ _ _ _ _ _ _ _ _ _ _ _ _ _ _ _ _, allInv_next hD (by omega) (fun E hE => ⟨(hds E hE).1, hdlt E hE⟩) HJ.out.1 HJ.out.2 HKD.out hnd⟩, ?_⟩
            rw [turns_eq rfl (Boxed.new X _ _).cell, turns_eq rfl hI'.out.2.1.cell]
            omega
          · gi_wp2_with fail
            refine ⟨⟨j + 1, X.heap.size, D :: ds, by omega, allFrame_mk _ _ _ _ _ (D :: ds) _ _ _ _ _ _ _ _ _ _ _ _ _ _ _ _ _ _ _ _ _ _ _ _ _ _ _ _ _ _ _ _ _ _ _ _ _ _ _ _ _ _ _ _ _ _ _ _ _ _ _ _ _ _ _ _ _ _ _ _ _ _ _ _ _ _ _ _ _ _ _ _ _ _, allInv_next hD (by omega) (fun E hE => ⟨(hds E hE).1, hdlt E hE⟩) HJ.out.1 HJ.out.2 HKD.out hnd⟩, ?_⟩
            rw [turns_eq rfl (Boxed.new X _ _).cell, turns_eq rfl hI'.out.2.1.cell]
            omega

set_option maxRecDepth 100000 in
set_option maxHeartbeats 2000000 in
theorem allL_long (w : World) (hT : Tab w) (A : Option Addr) (n c : Nat) (stop : Int) (hn : 60 < n) : Calls Tryd.prog 3 #[.slice A n c, .int .i64 stop] w fun e w' => e = .returned (.bool true) ∧ Below w.heap.size w w' := by
  have HK : Hid (∀ W, Below w.heap.size w W → Calls Tryd.prog 12 #[] W (RetPost (.bool true) W.heap.size W)) := Lib.hid (fun W hb => known_any W (hT.keep hb))
  have h1 : (60 : Int) < (n : Int) := by omega
  clear hT hn
  go_enter Tryd.func3, Tryd.ntmps3
  go_wp2_with fail
  obtain ⟨W0, hW0⟩ : ∃ W0, W0 = (w.alloc (.cells #[.int .i64 stop] 3)).alloc (.cells #[.bool false] 4) := ⟨_, rfl⟩
  have b4 : Boxed W0 (w.heap.size + 1) 4 (.bool false) := by rw [hW0]; have := Boxed.new (w.alloc (.cells #[.int .i64 stop] 3)) 4 (.bool false); rwa [World.size_alloc] at this
  have hB0 : Below w.heap.size w W0 := by rw [hW0]; exact ((Below.refl _ w).alloc (Nat.le_refl _) _).alloc (by simp) _
  have H0 := Lib.hid (And.intro b4 hB0)
  rw [← hW0]
  clear hW0 b4 hB0
  refine (HK.out _ H0.out.2).mono ?_
  rintro e W1 ⟨rfl, hw1⟩
  have b5 := boxed_keep H0.out.1 hw1
  have H1 := Lib.hid (And.intro b5 (H0.out.2.trans (hw1.mono H0.out.2.size)))
  have c5 := b5.cell
  have f5 := b5.frozen
  have l5 := b5.lt
  clear b5 hw1
  go_wp2_with fail
  have c6 := (H1.out.1.set (.bool true)).cell
  refine bodyPost_ret (v := .bool true) (by simp [results, Tryd.results3, go_sem, c6]) rfl ⟨rfl, H1.out.2.setCell (p := ⟨w.heap.size + 1, 0, none⟩) (by simp) _⟩

set_option maxRecDepth 100000 in
set_option maxHeartbeats 2000000 in
theorem allL_bad (w : World) (hT : Tab w) (A : Option Addr) (n c : Nat) (stop : Int) (l : List Int) (hn : n ≤ 60) (hl : Row1 intV w w.heap.size A n l) (hA : allowF l = false) : Calls Tryd.prog 3 #[.slice A n c, .int .i64 stop] w fun e w' => e = .returned (.bool true) ∧ Below w.heap.size w w' := by
  have HK : Hid (∀ W, Below w.heap.size w W → Calls Tryd.prog 12 #[] W (RetPost (.bool true) W.heap.size W)) := Lib.hid (fun W hb => known_any W (hT.keep hb))
  have h1 : (n : Int) ≤ 60 := by omega
  have HAL : Hid (∀ W, Row1 intV W W.heap.size A n l → Calls Tryd.prog 11 #[.slice A n c] W fun e w' => e = .returned (.bool false) ∧ W = w') := Lib.hid (fun W h => by have := allowed_any A n c W _ l (by omega) h; rw [hA] at this; exact this)
  have R0 := Lib.hid hl
  clear hT hn hA hl
  go_enter Tryd.func3, Tryd.ntmps3
  go_wp2_with fail
  obtain ⟨W0, hW0⟩ : ∃ W0, W0 = (w.alloc (.cells #[.int .i64 stop] 3)).alloc (.cells #[.bool false] 4) := ⟨_, rfl⟩
  have b4 : Boxed W0 (w.heap.size + 1) 4 (.bool false) := by rw [hW0]; have := Boxed.new (w.alloc (.cells #[.int .i64 stop] 3)) 4 (.bool false); rwa [World.size_alloc] at this
  have hB0 : Below w.heap.size w W0 := by rw [hW0]; exact ((Below.refl _ w).alloc (Nat.le_refl _) _).alloc (by simp) _
  have H0 := Lib.hid (And.intro b4 hB0)
  rw [← hW0]
  clear hW0 b4 hB0
  refine (HAL.out _ (R0.out.keep H0.out.2)).mono ?_
  rintro e wz ⟨rfl, rfl⟩
  go_wp2_with fail
  refine (HK.out _ H0.out.2).mono ?_
  rintro e W1 ⟨rfl, hw1⟩
  have b5 := boxed_keep H0.out.1 hw1
  have H1 := Lib.hid (And.intro b5 (H0.out.2.trans (hw1.mono H0.out.2.size)))
  have c5 := b5.cell
  have f5 := b5.frozen
  have l5 := b5.lt
  clear b5 hw1
  go_wp2_with fail
  have c6 := (H1.out.1.set (.bool true)).cell
  refine bodyPost_ret (v := .bool true) (by simp [results, Tryd.results3, go_sem, c6]) rfl ⟨rfl, H1.out.2.setCell (p := ⟨w.heap.size + 1, 0, none⟩) (by simp) _⟩

theorem bitsetAll_walk (w : World) (hT : Tab w) (A : Option Addr) (n c : Nat) (l : List Int) (hl : Row1 intV w w.heap.size A n l) (_ : ∀ z ∈ l, I64 z) (_ : n ≤ 9223372036854775807) (stop : Int) (_ : I64 stop) : Calls Tryd.prog 3 #[.slice A n c, .int .i64 stop] w fun e w' => e = .returned (.bool true) ∧ Below w.heap.size w w' := by
  by_cases hn : n ≤ 60
  · cases hA : allowF l with
    | false => exact allL_bad w hT A n c stop l hn hl hA
    | true =>
      obtain ⟨S, h1, h2, h3, _⟩ := of_good hA
      exact allL_main w hT A n c l stop S hn hl hA h1 h2 h3
  · exact allL_long w hT A n c stop (by omega)

set_option maxRecDepth 100000 in
theorem bitsetAll_lifted (os : Os) (started : os.Started) (H : Type) (enc : TypeId × Value → H) :
    ReturnsInHanded {} Tryd.checked os 3 .any (fun w args => (Rows.bitsetAllSpec.pre enc Tryd.prog Tryd.f3 [] false w args ∧ laidMetH Tryd.prog laid07 w) ∧ sizedMet enc Tryd.prog Tryd.f3 (OpenSpec.ofChange Rows.bitsetAllSpec) false w args) (Rows.bitsetAllSpec.post enc Tryd.prog Tryd.f3 false true false false) := by
  refine handed_laid (C := Tryd.checked) (laid := laid07) own started (by kernel_rfl) Tryd.func3
    (ChangeSpec.witness_shaped (enc := enc) (C := Tryd.checked) (os := os) (X := fun w _ => laidMetH Tryd.prog laid07 w) false (World.laidAll Tryd.prog os laid07) #[.slice none 0 0, .int .i64 0] 8 (World.laidAll_os _ _ _) (World.shaped_of_ZipB (by kernel_rfl) (by kernel_rfl)) (by kernel_rfl) (by kernel_rfl) (by kernel_rfl) (laidHold os _)) ?_
  intro W base args ds gs before hval0 hW hL hsh
  have hTab := tab_of hL hsh
  have hval : ∀ (j : Nat) t v, Tryd.f3.params[j]? = some t → args[j]? = some v → Value.okWide Tryd.prog W .any base t v := hval0
  have hW' := hW
  obtain ⟨p, q, hA0, hV, rfl, hfz, hnd⟩ := hW
  have hA : DataW.TrodAll enc Tryd.prog W 0 (fun _ => true) true Tryd.f3.params.toList args.toList ds p := hA0
  rw [Tryd.params3] at hA hval
  obtain ⟨v0, vs0, d0, ds0, p0, q0, hargs, rfl, rfl, h0, r0⟩ := trodAll_cons hA
  obtain ⟨v1, vs1, d1, ds1, p1, q1, rfl, rfl, rfl, h1, r1⟩ := trodAll_cons r0
  obtain ⟨rfl, rfl, rfl⟩ := trodAll_nil r1
  obtain rfl : args = #[v0, v1] := by cases args; simp_all
  obtain ⟨rfl, rfl⟩ := trodVars_none hV
  have k0 := h0
  have lt0 : ∀ x ∈ p0, x.block < W.heap.size := by obtain ⟨m, hm⟩ := k0; exact DataW.trod_lt m _ _ _ hm
  have k1 := h1
  have lt1 : ∀ x ∈ p1, x.block < W.heap.size := by obtain ⟨m, hm⟩ := k1; exact DataW.trod_lt m _ _ _ hm
  obtain ⟨A0, n0, c0, xs0, rfl, R0, b0, m0⟩ := arg_ints Tryd.underlying22 Tryd.underlying3 (by kernel_rfl) (hval 0 22 _ rfl rfl) h0
  obtain ⟨x1, rfl, b1⟩ := arg_int Tryd.underlying3 (hval 1 3 _ rfl rfl) h1
  clear hA0 hval0
  refine (bitsetAll_walk W hTab A0 n0 c0 xs0 R0 b0 m0 x1 b1).mono fun e W' ⟨he, bel⟩ => ?_
  subst he
  exact ⟨_, rfl, _, _, _, [], _, [], hW', trodAll_mk1 (shut_bool Tryd.underlying4 _), (trodAll_cons_mk (Below.trod laidOut (by kernel_rfl) (of_decide_eq_true (by kernel_rfl)) k0 bel lt0) (trodAll_cons_mk (Below.trod laidOut (by kernel_rfl) (of_decide_eq_true (by kernel_rfl)) k1 bel lt1) trodAll_mk0)), rfl, bel.frame _, fun h => by cases h⟩

theorem bitsetAll_over : Rows.bitsetAllRow.holds Tryd.pinned (OpenSpec.ofChange Rows.bitsetAllSpec) :=
  OpenClaim.holds_of_wide 3 Tryd.f3 rfl rfl rfl rfl rfl rfl rfl ⟨rfl, rfl, rfl, rfl, rfl⟩ rfl rfl rfl rfl rfl (by kernel_rfl) Tryd.func3 (by kernel_rfl)
    (of_decide_eq_true (by kernel_rfl)) (by unfold Func.isWrapper; first | (rw [if_pos (by decide +kernel)]; kernel_rfl) | (rw [if_neg (by decide +kernel)]; exact ⟨rfl, rfl⟩))
    (fun os started H enc _ => bitsetAll_lifted os started H enc)

theorem bitsetAllCard_holds : Rows.BitsetAllCardSaid :=
  Claim7.holds_tied_plain_at .later [] [.data, .data, .data] true (true, "39aa42fe034a2cbedf78232cde6b0da1e7f2e4be5808576f250df2ef6185728f") false
    bitsetAll_over (fun _ h => by cases h) (by kernel_rfl) (fun _ h => by cases h) bitsetAll_row_tie rfl ⟨rfl, rfl⟩ (by kernel_rfl) rfl
    (fun f fn hf hfn => by
      obtain rfl : f = 3 := Option.some.inj ((show Tryd.prog.funcNamed "bandplan/bandplanlaw07.BitsetAll" = some 3 by kernel_rfl).symm.trans hf) |>.symm
      obtain rfl : fn = Tryd.f3 := (Option.some.inj (Tryd.func3.symm.trans hfn)).symm
      exact ⟨by kernel_rfl, fun j t ht => by
        rw [Tryd.params3] at ht
        rcases j with _ | j
        · obtain rfl : t = 22 := by simpa using ht.symm
          exact (show Tryd.prog.wantsStandIn 22 = false by kernel_rfl)
        rcases j with _ | j
        · obtain rfl : t = 3 := by simpa using ht.symm
          exact (show Tryd.prog.wantsStandIn 3 = false by kernel_rfl)
        · simp at ht⟩)
    (by kernel_rfl)
#print axioms bitsetAllCard_holds
end Go.Proofs.YtencbmgjdiillaaDoor
