/- DigraphCopies: a copy of a directed graph is equal and independent, as the statement says, whatever the number of vertices, the arcs and the two more. -/
import Derived.Test.YtpaakgngoocjeaaDoorNon12
/- has at a graph of a list; rows of arcs in the memory of a law. -/
namespace Go.Proofs.YtpaakgngoocjeaaDoor
open Go.RowKit

theorem mem_filter_eq {T n : Nat} {p : Nat → Bool} (hn : n ≤ 512) (h : ∀ b, T.testBit b = true ↔ b < n ∧ p b = true) : mem T = (List.range n).filter p := by
  have hs : ∀ (l1 l2 : List Nat), l1.Pairwise (· < ·) → l2.Pairwise (· < ·) → (∀ x, x ∈ l1 ↔ x ∈ l2) → l1 = l2 := by
    intro l1
    induction l1 with
    | nil =>
      intro l2 _ _ h
      cases l2 with
      | nil => rfl
      | cons y r => exact absurd ((h y).2 (by simp)) (by simp)
    | cons x r ih =>
      intro l2 h1 h2 h
      cases l2 with
      | nil => exact absurd ((h x).1 (by simp)) (by simp)
      | cons y s =>
        rw [List.pairwise_cons] at h1 h2
        have hxy : x = y := by
          have a1 : x ∈ y :: s := (h x).1 (by simp)
          have a2 : y ∈ x :: r := (h y).2 (by simp)
          rcases List.mem_cons.1 a1 with e | e
          · exact e
          · rcases List.mem_cons.1 a2 with e' | e'
            · exact e'.symm
            · have := h2.1 x e
              have := h1.1 y e'
              omega
        subst hxy
        congr 1
        refine ih s h1.2 h2.2 (fun z => ?_)
        have hz := h z
        simp only [List.mem_cons] at hz
        constructor
        · intro hr
          rcases hz.1 (.inr hr) with e | e
          · have := h1.1 z hr; omega
          · exact e
        · intro hr
          rcases hz.2 (.inr hr) with e | e
          · have := h2.1 z hr; omega
          · exact e
  refine hs _ _ (mem_sorted T) (List.Pairwise.filter _ List.pairwise_lt_range) (fun x => ?_)
  have hF : Fit T := fit_lt hn (fun b hb => ((h b).1 hb).1)
  rw [mem_iff hF, h x, List.mem_filter, List.mem_range]
theorem mem_rowOf {n : Nat} (hn : n ≤ 512) (A : List (Int × Int)) (v : Nat) : mem (rowOf n A v) = (List.range n).filter fun w : Nat => hasA A (v : Int) (w : Int) := mem_filter_eq hn (rowOf_tb n A v)
theorem memI_rowOf {n : Nat} (hn : n ≤ 512) (A : List (Int × Int)) (v : Nat) : memI (rowOf n A v) = nextL A (v : Int) n := by unfold memI nextL; rw [mem_rowOf hn]
theorem has_graph {gb rb cap : Nat} {ext : List Value} (n : Nat) (A : List (Int × Int)) (v : Value) (Ad : Option Addr) (c : Nat) (W : World) (hn : n ≤ 512) (hA : A.length ≤ 1000) (hT : Tab W) (h : GAt W gb rb cap ext (graphOf n A) (A.length : Int)) (hv : v = .slice Ad A.length c) (hl : RowS 2 arcV W W.heap.size Ad A.length A) :
    Calls Tryd.prog 37 #[.pointer (some ⟨gb, 0, none⟩), .int .i64 (n : Int), v] W (RetPost (.bool true) W.heap.size W) := by
  subst hv
  have := has_yes (S := graphOf n A) Ad A.length c A W hT h hA hl (fun u hu => by rw [graphOf_len] at hu ⊢; rw [graphOf_getD hu]; exact memI_rowOf hn A u)
  rw [graphOf_len] at this
  exact this
section
variable {w u W X : World} {L : List Ent} {ds : List Nat}
theorem Hp.arcs (h : Hp w u W L ds) (i : Nat) {v : Value} {A : List (Int × Int)} (hi : L[i]? = some (.row v 31 2 A.length (flat 2 arcV A))) : ∃ Ad c, v = .slice Ad A.length c ∧ RowS 2 arcV W W.heap.size Ad A.length A := own_formS (f := arcV) (by decide) (h.row i hi)
theorem row_stays {i j g t : Nat} {s : List Value} {e : Ent} {v : Value} {t' size n : Nat} {xs : List Value} (hi : L[i]? = some (.row v t' size n xs)) (hj : L[j]? = some (.blk g t s)) : (L.set j e)[i]? = some (.row v t' size n xs) := by
  have hij : j ≠ i := by
    rintro rfl
    rw [hi] at hj
    cases hj
  rw [List.getElem?_set_ne hij]
  exact hi
/-- Add of the program: where the other entries stand -/
theorem Hp.gadd' (h : Hp w u W L ds) (i : Nat) {gb rb cap : Nat} {ext : List Value} {S S' : List Nat} {arcs arcs' : Int} (hi : L[i]? = some (.blk gb 67 [.bool true, .slice (some ⟨rb, 0, none⟩) S.length cap, .int .i64 arcs])) (hj : L[i + 1]? = some (.blk rb 40 (rowC S ++ ext)))
    (hG : GAt X gb rb cap ext S' arcs') (hk : Kp2 gb rb W X) : ∃ L' : List Ent, Hp w u X L' ds ∧ L'[i]? = some (.blk gb 67 [.bool true, .slice (some ⟨rb, 0, none⟩) S'.length cap, .int .i64 arcs']) ∧ L'[i + 1]? = some (.blk rb 40 (rowC S' ++ ext)) ∧
      (∀ (k : Nat) (e : Ent), k ≠ i → k ≠ i + 1 → L[k]? = some e → L'[k]? = some e) ∧ ∀ (k : Nat) (v : Value) (t size n : Nat) (xs : List Value), L[k]? = some (.row v t size n xs) → L'[k]? = some (.row v t size n xs) := by
  have hil := (List.getElem?_eq_some_iff.1 hi).1
  have hjl := (List.getElem?_eq_some_iff.1 hj).1
  refine ⟨_, h.gadd i hi hj hG hk, ?_, ?_, ?_, ?_⟩
  · rw [List.getElem?_set_ne (by omega), List.getElem?_set, if_pos rfl, if_pos hil]
  · rw [List.getElem?_set, if_pos rfl, if_pos (by rw [List.length_set]; exact hjl)]
  · intro k e h1 h2 he
    rw [List.getElem?_set_ne (fun e => h2 e.symm), List.getElem?_set_ne (fun e => h1 e.symm)]
    exact he
  · intro k v t size n xs he
    exact row_stays (row_stays he hi) (by rw [List.getElem?_set_ne (by omega)]; exact hj)
/-- Add of the reference: its list stands among the entries -/
theorem Hp.radd (h : Hp w u W L ds) (i : Nat) {v v' : Value} {A A' : List (Int × Int)} (hi : L[i]? = some (.row v 31 2 A.length (flat 2 arcV A))) (hb : Below W.heap.size W X)
    (hc : (v' = v ∧ A' = A) ∨ X.ownsRow W.heap.size 31 2 v' A'.length (flat 2 arcV A')) : ∃ (E : List Ent) (i' : Nat), Hp w u X (L ++ E) ds ∧ (L ++ E)[i']? = some (Ent.row v' 31 2 A'.length (flat 2 arcV A')) := by
  rcases hc with ⟨rfl, rfl⟩ | hown
  · exact ⟨[], i, by rw [List.append_nil]; exact h.keep hb, by rw [List.append_nil]; exact hi⟩
  · exact ⟨[.row v' 31 2 A'.length (flat 2 arcV A')], L.length, h.pushRow hb hown, by simp⟩
end
end Go.Proofs.YtpaakgngoocjeaaDoor

namespace Go.Proofs.YtpaakgngoocjeaaDoor
open Go.RowKit Go.ChangeShapes Go.WideShapes Go.ChangeAt Go.Deep Go.Joins

set_option maxRecDepth 100000 in
set_option maxHeartbeats 4000000 in
theorem digraphCopies_in (w : World) (hT : Tab w) (n : Nat) (A : Option Addr) (m c : Nat) (l : List (Int × Int)) (hl : RowS 2 arcV w w.heap.size A m l) (o t : Int × Int) (hn : n ≤ 20) (hm : m ≤ 20) :
    Calls Tryd.prog 9 #[.int .i64 n, .slice A m c, .agg #[.int .i64 o.1, .int .i64 o.2], .agg #[.int .i64 t.1, .int .i64 t.2]] w fun e w' => e = .returned (.bool true) ∧ Below w.heap.size w w' := by
  have HT := Lib.hid hT
  have hP0 := ((Hp.start w).alloc [.int .i64 o.1, .int .i64 o.2] 31).alloc [.int .i64 t.1, .int .i64 t.2] 31
  rw [World.size_alloc] at hP0
  obtain ⟨W0, hW0⟩ : ∃ W0, W0 = (w.alloc (.cells #[.int .i64 o.1, .int .i64 o.2] 31)).alloc (.cells #[.int .i64 t.1, .int .i64 t.2] 31) := ⟨_, rfl⟩
  have HP0 : Hid (Hp w w W0 [.blk w.heap.size 31 [.int .i64 o.1, .int .i64 o.2], .blk (w.heap.size + 1) 31 [.int .i64 t.1, .int .i64 t.2]] []) := Lib.hid (by rw [hW0]; exact hP0)
  have HB := Lib.hid (build_any n A m c l W0 (by omega) (by omega) ((hl.below HP0.out.below).up HP0.out.below.size))
  have hAl := buildK_len n l l.length
  rw [show buildK n l l.length = buildA n l from rfl, hl.1] at hAl
  have j0 : ¬ ((n : Int) < 0) := by omega
  have j1 : ¬ ((20 : Int) < (n : Int)) := by omega
  have j2 : ¬ ((20 : Int) < (m : Int)) := by omega
  generalize buildA n l = B at *
  clear hT hP0 hl
  go_enter Tryd.func9, Tryd.ntmps9
  go_upto_region 1 with fail
  rw [← hW0]
  clear hW0
  go_wp2_with fail
  refine HB.out.mono ?_
  rintro e W1 ⟨gb, rb, cap, ext, vA, rfl, hP⟩
  have HP1 := Lib.hid (HP0.out.join hP)
  have HC := Lib.hid (gcopy_any W1 (bE_gat hP (by omega)))
  clear hP HB HP0
  go_wp2_with fail
  refine HC.out.mono ?_
  rintro e W2 ⟨gb', rb', cap', ext', rfl, hG2, h1, h2, hb2⟩
  have HP2 := Lib.hid (HP1.out.graph hb2 hG2 h1 h2)
  obtain ⟨Ad, cA, hvA, hrow⟩ := HP2.out.arcs 4 rfl
  have HH := Lib.hid (has_graph n B vA Ad cA W2 (by omega) (by omega) (HT.out.keep HP2.out.below) hG2 hvA hrow)
  clear hG2 h1 h2 hb2 hvA hrow HC HP1
  go_wp2_with fail
  refine HH.out.mono ?_
  rintro e W3 ⟨rfl, hb3⟩
  have HP3 := Lib.hid (HP2.out.keep hb3)
  obtain ⟨Ad, cA, hvA, hrow⟩ := HP3.out.arcs 4 rfl
  have HA1 := Lib.hid (radd_all n vA B Ad cA o.1 o.2 W3 (by omega) hvA hrow)
  have q0 := HP3.out.c 0 0 rfl rfl
  have q1 := HP3.out.c 0 1 rfl rfl
  have q2 := HP3.out.lt 0 rfl
  clear hb3 HH HP2 hvA hrow
  go_wp2_with fail
  refine HA1.out.mono ?_
  rintro e W4 ⟨v1, rfl, hb4, hc4⟩
  obtain ⟨E1, i1, hP4, hi1⟩ := HP3.out.radd 4 rfl hb4 hc4
  have HP4 := Lib.hid hP4
  have HI1 := Lib.hid hi1
  obtain ⟨Ad, cA, hvA, hrow⟩ := HP4.out.arcs 4 rfl
  have HA2 := Lib.hid (radd_all n vA B Ad cA t.1 t.2 W4 (by omega) hvA hrow)
  clear q0 q1 q2
  have q0 := HP4.out.c 1 0 rfl rfl
  have q1 := HP4.out.c 1 1 rfl rfl
  have q2 := HP4.out.lt 1 rfl
  clear hb4 hc4 hP4 hi1 HA1 HP3 hvA hrow
  go_wp2_with fail
  refine HA2.out.mono ?_
  rintro e W5 ⟨v2, rfl, hb5, hc5⟩
  obtain ⟨E2, i2, hP5, hi2⟩ := HP4.out.radd 4 rfl hb5 hc5
  have HP5 := Lib.hid hP5
  have HI2 := Lib.hid hi2
  have HG1 := Lib.hid (gadd_all n B o.1 o.2 W5 (by omega) (by omega) (HP5.out.gat 2 rfl rfl (graphOf_fit (by omega) B) (by rw [graphOf_len]; omega)))
  have hl1 := addA_len n B o.1 o.2
  have hl2 := addA_len n B t.1 t.2
  clear q0 q1 q2
  have q0 := HP5.out.c 0 0 rfl rfl
  have q1 := HP5.out.c 0 1 rfl rfl
  have q2 := HP5.out.lt 0 rfl
  generalize addA n B o.1 o.2 = B1 at *
  generalize hB2 : addA n B t.1 t.2 = B2 at *
  have HB2 := Lib.hid hB2
  clear hB2
  generalize hE1 : errA n B o.1 o.2 = er1 at *
  generalize hE2 : errA n B t.1 t.2 = er2 at *
  have HE2 := Lib.hid hE2
  clear hE1 hE2 hb5 hc5 hP5 hi2 HA2
  go_wp2_with fail
  refine HG1.out.mono ?_
  rintro e W6 ⟨rfl, hG6, hk6⟩
  obtain ⟨L6, hP6, a6, b6, k6, r6⟩ := HP5.out.gadd' 2 rfl rfl hG6 hk6
  have HP6 := Lib.hid hP6
  have HI1' := Lib.hid (r6 i1 _ _ _ _ _ (by rw [List.getElem?_append_left (List.getElem?_eq_some_iff.1 HI1.out).1]; exact HI1.out))
  have HI2' := Lib.hid (r6 i2 _ _ _ _ _ HI2.out)
  have HA6 := Lib.hid (And.intro a6 (And.intro b6 (And.intro (k6 5 _ (by decide) (by decide) rfl) (k6 6 _ (by decide) (by decide) rfl))))
  have HG2 := gadd_all n B t.1 t.2 W6 (by omega) (by omega) (hP6.gat 5 HA6.out.2.2.1 HA6.out.2.2.2 (graphOf_fit (by omega) B) (by rw [graphOf_len]; omega))
  rw [HE2.out, HB2.out] at HG2
  replace HG2 := Lib.hid HG2
  clear q0 q1 q2
  have q0 := hP6.c 1 0 (k6 1 _ (by decide) (by decide) rfl) rfl
  have q1 := hP6.c 1 1 (k6 1 _ (by decide) (by decide) rfl) rfl
  have q2 := hP6.lt 1 (k6 1 _ (by decide) (by decide) rfl)
  clear hG6 hk6 hP6 a6 b6 k6 r6 HG1 HP5 HP4 HI1 HI2
  go_wp2_with fail
  refine HG2.out.mono ?_
  rintro e W7 ⟨rfl, hG7, hk7⟩
  obtain ⟨L7, hP7, a7, b7, k7, r7⟩ := HP6.out.gadd' 5 HA6.out.2.2.1 HA6.out.2.2.2 hG7 hk7
  have HP7 := Lib.hid hP7
  obtain ⟨Ad1, cA1, hv1, hr1⟩ := hP7.arcs i1 (r7 i1 _ _ _ _ _ HI1'.out)
  have HH1 := Lib.hid (has_graph n B1 v1 Ad1 cA1 W7 (by omega) (by omega) (HT.out.keep hP7.below) (hP7.gat 2 (k7 2 _ (by decide) (by decide) HA6.out.1) (k7 3 _ (by decide) (by decide) HA6.out.2.1) (graphOf_fit (by omega) B1) (by rw [graphOf_len]; omega)) hv1 hr1)
  have HA7 := Lib.hid (And.intro a7 (And.intro b7 (r7 i2 _ _ _ _ _ HI2'.out)))
  clear hG7 hk7 hP7 a7 b7 k7 r7 HG2 HP6 HI1' HI2' HA6 q0 q1 q2 hv1 hr1
  go_wp2_with fail
  refine HH1.out.mono ?_
  rintro e W8 ⟨rfl, hb8⟩
  have HP8 := Lib.hid (HP7.out.keep hb8)
  obtain ⟨Ad2, cA2, hv2, hr2⟩ := HP8.out.arcs i2 HA7.out.2.2
  have HH2 := Lib.hid (has_graph n B2 v2 Ad2 cA2 W8 (by omega) (by omega) (HT.out.keep HP8.out.below) (HP8.out.gat 5 HA7.out.1 HA7.out.2.1 (graphOf_fit (by omega) B2) (by rw [graphOf_len]; omega)) hv2 hr2)
  clear hb8 HH1 HP7 hv2 hr2
  go_wp2_with fail
  refine HH2.out.mono ?_
  rintro e W9 ⟨rfl, hb9⟩
  have HP9 := Lib.hid (HP8.out.keep hb9)
  clear hb9 HH2 HP8
  go_wp2_with fail
  refine (known_any W9 (HT.out.keep HP9.out.below)).mono ?_
  rintro e W10 ⟨rfl, hb10⟩
  have HB10 := Lib.hid (HP9.out.below.trans (hb10.mono HP9.out.below.size))
  clear hb10
  go_wp2_with fail
  go_ret
  exact ⟨rfl, HB10.out⟩

set_option maxRecDepth 100000 in
theorem digraphCopies_out (w : World) (hT : Tab w) (n : Int) (A : Option Addr) (m c : Nat) (o t : Int × Int) (h : ¬ (0 ≤ n ∧ n ≤ 20 ∧ (m : Int) ≤ 20)) :
    Calls Tryd.prog 9 #[.int .i64 n, .slice A m c, .agg #[.int .i64 o.1, .int .i64 o.2], .agg #[.int .i64 t.1, .int .i64 t.2]] w fun e w' => e = .returned (.bool true) ∧ Below w.heap.size w w' := by
  have HB0 : Hid (Below w.heap.size w ((w.alloc (.cells #[.int .i64 o.1, .int .i64 o.2] 31)).alloc (.cells #[.int .i64 t.1, .int .i64 t.2] 31))) := Lib.hid (((Below.refl _ w).alloc (Nat.le_refl _) _).alloc (by simp) _)
  have HK := Lib.hid (known_any _ (hT.keep HB0.out))
  have hs := HB0.out.size
  clear hT
  by_cases h0 : n < 0
  · clear h
    go_enter Tryd.func9, Tryd.ntmps9
    go_wp2_with fail
    refine HK.out.mono ?_
    rintro e W1 ⟨rfl, hb1⟩
    have HB1 := Lib.hid (HB0.out.trans (hb1.mono hs))
    clear hb1
    go_wp2_with fail
    go_ret
    exact ⟨rfl, HB1.out⟩
  · by_cases h1 : 20 < n
    · clear h
      go_enter Tryd.func9, Tryd.ntmps9
      go_wp2_with fail
      refine HK.out.mono ?_
      rintro e W1 ⟨rfl, hb1⟩
      have HB1 := Lib.hid (HB0.out.trans (hb1.mono hs))
      clear hb1
      go_wp2_with fail
      go_ret
      exact ⟨rfl, HB1.out⟩
    · have h2 : (20 : Int) < (m : Int) := by omega
      clear h
      go_enter Tryd.func9, Tryd.ntmps9
      go_wp2_with fail
      refine HK.out.mono ?_
      rintro e W1 ⟨rfl, hb1⟩
      have HB1 := Lib.hid (HB0.out.trans (hb1.mono hs))
      clear hb1
      go_wp2_with fail
      go_ret
      exact ⟨rfl, HB1.out⟩
theorem digraphCopies_walk (w : World) (hT : Tab w) (n : Int) (_ : I64 n) (A : Option Addr) (m c : Nat) (l : List (Int × Int)) (hl : RowS 2 arcV w w.heap.size A m l ∧ m ≤ 9223372036854775807) (o : Int × Int) (_ : True) (t : Int × Int) (_ : True) :
    Calls Tryd.prog 9 #[.int .i64 n, .slice A m c, .agg #[.int .i64 o.1, .int .i64 o.2], .agg #[.int .i64 t.1, .int .i64 t.2]] w fun e w' => e = .returned (.bool true) ∧ Below w.heap.size w w' := by
  by_cases h : 0 ≤ n ∧ n ≤ 20 ∧ (m : Int) ≤ 20
  · obtain ⟨k, rfl⟩ : ∃ k : Nat, n = (k : Int) := ⟨n.toNat, by omega⟩
    exact digraphCopies_in w hT k A m c l hl.1 o t (by omega) (by omega)
  · exact digraphCopies_out w hT n A m c o t h

set_option maxRecDepth 100000 in
theorem digraphCopies_lifted (os : Os) (started : os.Started) (H : Type) (enc : TypeId × Value → H) :
    ReturnsInHanded {} Tryd.checked os 9 .any (fun w args => (Rows.digraphCopiesSpec.pre enc Tryd.prog Tryd.f9 [] false w args ∧ laidMetH Tryd.prog laid07 w) ∧ sizedMet enc Tryd.prog Tryd.f9 (OpenSpec.ofChange Rows.digraphCopiesSpec) false w args) (Rows.digraphCopiesSpec.post enc Tryd.prog Tryd.f9 false true false false) := by
  refine handed_laid (C := Tryd.checked) (laid := laid07) own started (by kernel_rfl) Tryd.func9
    (ChangeSpec.witness_shaped (enc := enc) (C := Tryd.checked) (os := os) (X := fun w _ => laidMetH Tryd.prog laid07 w) false (World.laidAll Tryd.prog os laid07) #[.int .i64 0, .slice none 0 0, .agg #[.int .i64 0, .int .i64 0], .agg #[.int .i64 0, .int .i64 0]] 8 (World.laidAll_os _ _ _) (World.shaped_of_ZipB (by kernel_rfl) (by kernel_rfl)) (by kernel_rfl) (by kernel_rfl) (by kernel_rfl) (laidHold os _)) ?_
  intro W base args ds gs before hval0 hW hL hsh
  have hTab := tab_of hL hsh
  have hval : ∀ (j : Nat) t v, Tryd.f9.params[j]? = some t → args[j]? = some v → Value.okWide Tryd.prog W .any base t v := hval0
  have hW' := hW
  obtain ⟨p, q, hA0, hV, rfl, hfz, hnd⟩ := hW
  have hA : DataW.TrodAll enc Tryd.prog W 0 (fun _ => true) true Tryd.f9.params.toList args.toList ds p := hA0
  rw [Tryd.params9] at hA hval
  obtain ⟨v0, vs0, d0, ds0, p0, q0, hargs, rfl, rfl, h0, r0⟩ := trodAll_cons hA
  obtain ⟨v1, vs1, d1, ds1, p1, q1, rfl, rfl, rfl, h1, r1⟩ := trodAll_cons r0
  obtain ⟨v2, vs2, d2, ds2, p2, q2, rfl, rfl, rfl, h2, r2⟩ := trodAll_cons r1
  obtain ⟨v3, vs3, d3, ds3, p3, q3, rfl, rfl, rfl, h3, r3⟩ := trodAll_cons r2
  obtain ⟨rfl, rfl, rfl⟩ := trodAll_nil r3
  obtain rfl : args = #[v0, v1, v2, v3] := by cases args; simp_all
  obtain ⟨rfl, rfl⟩ := trodVars_none hV
  have k0 := h0
  have lt0 : ∀ x ∈ p0, x.block < W.heap.size := by obtain ⟨m, hm⟩ := k0; exact DataW.trod_lt m _ _ _ hm
  have k1 := h1
  have lt1 : ∀ x ∈ p1, x.block < W.heap.size := by obtain ⟨m, hm⟩ := k1; exact DataW.trod_lt m _ _ _ hm
  have k2 := h2
  have lt2 : ∀ x ∈ p2, x.block < W.heap.size := by obtain ⟨m, hm⟩ := k2; exact DataW.trod_lt m _ _ _ hm
  have k3 := h3
  have lt3 : ∀ x ∈ p3, x.block < W.heap.size := by obtain ⟨m, hm⟩ := k3; exact DataW.trod_lt m _ _ _ hm
  obtain ⟨x0, rfl, b0⟩ := arg_int Tryd.underlying3 (hval 0 3 _ rfl rfl) h0
  obtain ⟨A1, n1, c1, xs1, rfl, R1⟩ := arg_arcs (hval 1 22 _ rfl rfl) h1
  obtain ⟨y2, rfl, R2⟩ := arg_arc (hval 2 31 _ rfl rfl) h2
  obtain ⟨y3, rfl, R3⟩ := arg_arc (hval 3 31 _ rfl rfl) h3
  clear hA0 hval0
  refine (digraphCopies_walk W hTab x0 b0 A1 n1 c1 xs1 R1 y2 R2 y3 R3).mono fun e W' ⟨he, bel⟩ => ?_
  subst he
  exact ⟨_, rfl, _, _, _, [], _, [], hW', trodAll_mk1 (shut_bool Tryd.underlying4 _), (trodAll_cons_mk (Below.trod laidOut (by kernel_rfl) (of_decide_eq_true (by kernel_rfl)) k0 bel lt0) (trodAll_cons_mk (Below.trod laidOut (by kernel_rfl) (of_decide_eq_true (by kernel_rfl)) k1 bel lt1) (trodAll_cons_mk (Below.trod laidOut (by kernel_rfl) (of_decide_eq_true (by kernel_rfl)) k2 bel lt2) (trodAll_cons_mk (Below.trod laidOut (by kernel_rfl) (of_decide_eq_true (by kernel_rfl)) k3 bel lt3) trodAll_mk0)))), rfl, bel.frame _, fun h => by cases h⟩

theorem digraphCopies_over : Rows.digraphCopiesRow.holds Tryd.pinned (OpenSpec.ofChange Rows.digraphCopiesSpec) :=
  OpenClaim.holds_of_wide 9 Tryd.f9 rfl rfl rfl rfl rfl rfl rfl ⟨rfl, rfl, rfl, rfl, rfl⟩ rfl rfl rfl rfl rfl (by kernel_rfl) Tryd.func9 (by kernel_rfl)
    (of_decide_eq_true (by kernel_rfl)) (by unfold Func.isWrapper; first | (rw [if_pos (by decide +kernel)]; kernel_rfl) | (rw [if_neg (by decide +kernel)]; exact ⟨rfl, rfl⟩))
    (fun os started H enc _ => digraphCopies_lifted os started H enc)

theorem digraphCopiesCard_holds : Rows.DigraphCopiesCardSaid :=
  Claim7.holds_tied_plain_at .later [] [.data, .data, .data] true (true, "dec048aedef4f191fc220134fd400c69f28150d87cfbdac39091d757f58f0cd7") false
    digraphCopies_over (fun _ h => by cases h) (by kernel_rfl) (fun _ h => by cases h) digraphCopies_row_tie rfl ⟨rfl, rfl⟩ (by kernel_rfl) rfl
    (fun f fn hf hfn => by
      obtain rfl : f = 9 := Option.some.inj ((show Tryd.prog.funcNamed "bandplan/bandplanlaw09.DigraphCopies" = some 9 by kernel_rfl).symm.trans hf) |>.symm
      obtain rfl : fn = Tryd.f9 := (Option.some.inj (Tryd.func9.symm.trans hfn)).symm
      exact ⟨by kernel_rfl, fun j t ht => by
        rw [Tryd.params9] at ht
        rcases j with _ | j
        · obtain rfl : t = 3 := by simpa using ht.symm
          exact (show Tryd.prog.wantsStandIn 3 = false by kernel_rfl)
        rcases j with _ | j
        · obtain rfl : t = 22 := by simpa using ht.symm
          exact (show Tryd.prog.wantsStandIn 22 = false by kernel_rfl)
        rcases j with _ | j
        · obtain rfl : t = 31 := by simpa using ht.symm
          exact (show Tryd.prog.wantsStandIn 31 = false by kernel_rfl)
        rcases j with _ | j
        · obtain rfl : t = 31 := by simpa using ht.symm
          exact (show Tryd.prog.wantsStandIn 31 = false by kernel_rfl)
        · simp at ht⟩)
    (by kernel_rfl)
#print axioms digraphCopiesCard_holds
end Go.Proofs.YtpaakgngoocjeaaDoor
