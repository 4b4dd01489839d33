/- The contract of the reference's Far. -/
import Derived.Test.YtpaakgngoocjeaaDoorDig10
import Derived.Test.YtpaakgngoocjeaaDoorDig14
/- The contract of the reference's Component. -/
namespace Go.Proofs.YtpaakgngoocjeaaDoor
open Go.RowKit

theorem filter_take_succ {α : Type} {p : α → Bool} {L : List α} {k : Nat} {x : α} (h : L[k]? = some x) : (L.take (k + 1)).filter p = (L.take k).filter p ++ if p x then [x] else [] := by
  rw [List.take_add_one, h, List.filter_append]
  congr 1
  by_cases hp : p x <;> simp [hp]
theorem inF_mem {T x : Nat} (hT : Fit T) : inF (zs (mem T)) (x : Int) = T.testBit x := by
  rw [inF_zs, Bool.eq_iff_iff, decide_eq_true_eq, mem_iff hT]

set_option maxRecDepth 100000 in
set_option maxHeartbeats 4000000 in
theorem rcomp_any (n : Nat) (Al : Option Addr) (m c : Nat) (A : List (Int × Int)) (v : Nat) (w : World) (hn : n ≤ 512) (hm : m ≤ 100000) (hl : RowS 2 arcV w w.heap.size Al m A) (hv : v < n) :
    Calls Tryd.prog 53 #[.int .i64 n, .slice Al m c, .int .i64 v] w (NewInts (zs (partL (graphOf n A) v)) w) := by
  obtain ⟨i0, hi, hz0, hz1, hz2⟩ := info_parts int_info
  have HRR : Hid (∀ (x : Nat) W, x < n → Below w.heap.size w W → Calls Tryd.prog 27 #[.int .i64 n, .slice Al m c, .int .i64 x] W (NewInts (zs (mem (reachM (graphOf n A) x))) W)) := Lib.hid (fun x W hx hb => rreach_any n Al m c A x W hn hm ((hl.below hb).up hb.size) hx)
  have hRl : ∀ x ∈ mem (reachM (graphOf n A) v), x < n := fun x hx => by
    have h := mem_tb hx
    rw [reachM_tb] at h
    have := rch_lt (graphOf_in n A) (by rw [graphOf_len]; exact hv) h.2
    rw [graphOf_len] at this; exact this
  have HRL := Lib.hid hRl
  have HPL : Hid (partL (graphOf n A) v = (mem (reachM (graphOf n A) v)).filter fun u => (reachM (graphOf n A) u).testBit v) := Lib.hid rfl
  rw [HPL.out]
  have HC1 := HRR.out v w hv (Below.refl _ _)
  have hlen := mem_len (reachM (graphOf n A) v)
  generalize graphOf n A = S at *
  generalize hR : mem (reachM S v) = R at *
  have HC1 := Lib.hid HC1
  clear hl hv hRl hR HPL
  go_enter Tryd.func53, Tryd.ntmps53
  go_wp2_with fail
  refine HC1.out.mono ?_
  rintro e w1 ⟨v1, rfl, hown1, hb1⟩
  have hP1 := ((Hp.start w).pushRow hb1 hown1).nil 3 1
  rw [zs_len] at hP1
  have HP1 := Lib.hid hP1
  obtain ⟨A2, c2, rfl⟩ := hP1.form 0 rfl
  clear hb1 hown1 hP1 HC1
  go_wp2_with fail
  go_loopw [7, 9] (fun vf i wr => ∃ k : Nat, k ≤ R.length ∧ i = .int .i64 k ∧ Hp w w wr [.row (.slice A2 R.length c2) 3 1 R.length ((zs R).map intV), .row vf 3 1 ((R.take k).filter fun u => (reachM S u).testBit v).length ((zs ((R.take k).filter fun u => (reachM S u).testBit v)).map intV)] []) (fun _ i _ => R.length - (intOf i).toNat)
  case atStart => exact ⟨0, Nat.zero_le _, rfl, HP1.out⟩
  case round =>
    clear HP1
    obtain ⟨k, hk, rfl, hP⟩ := hrel
    have HP := Lib.hid hP
    obtain ⟨A1, c1, rfl⟩ := hP.form 1 rfl
    by_cases hlt : k < R.length
    · have j0 : (k : Int) < (R.length : Int) := by omega
      obtain ⟨x, hx⟩ : ∃ x, R[k]? = some x := ⟨_, List.getElem?_eq_getElem hlt⟩
      obtain ⟨g1, d1, e1, y0, y1, y2⟩ := hP.at 0 k rfl (show ((zs R).map intV)[k]? = some (.int .i64 (x : Int)) by unfold zs; rw [List.getElem?_map, List.getElem?_map, hx]; rfl)
      injection e1 with e1 _ e1c
      subst e1 e1c
      have HSU := Eqn.mk (filter_take_succ (p := fun u => (reachM S u).testBit v) hx)
      have hll : ((R.take k).filter fun u => (reachM S u).testBit v).length ≤ 512 := by
        have := List.length_filter_le (fun u => (reachM S u).testBit v) (R.take k)
        rw [List.length_take] at this; omega
      have HN1 := Lib.hid (HRR.out x wr (HRL.out x (List.mem_of_getElem? hx)) hP.below)
      have HIF := Lib.hid (inF_mem (x := v) (reachM_fit S x))
      have hml := mem_len (reachM S x)
      generalize (R.take k).filter (fun u => (reachM S u).testBit v) = O at *
      generalize mem (reachM S x) = nx at *
      generalize (reachM S x).testBit v = tb at *
      clear hP hx
      go_wp2_with fail
      refine HN1.out.mono ?_
      rintro e w1 ⟨v1, rfl, hown1, hb1⟩
      have hP1 := HP.out.pushRow hb1 hown1
      rw [zs_len] at hP1
      have HP1 := Lib.hid hP1
      obtain ⟨A3, c3, rfl⟩ := hP1.form 2 rfl
      obtain ⟨A3', c3', e3, hr3⟩ := row1_of_own (hP1.row 2 rfl)
      injection e3 with e3 _ e3c
      subst e3 e3c
      have HIN := rin_any A3 nx.length c3 (v : Int) w1 _ (zs nx) (by omega) (by simpa [zs_len] using hr3)
      rw [HIF.out] at HIN
      have HIN := Lib.hid HIN
      have y0' : w1.cell? ⟨g1, k, none⟩ = some (.int .i64 (x : Int)) := (hb1.cell (p := ⟨g1, k, none⟩) y2).trans y0
      have y2' : g1 < w1.heap.size := Nat.lt_of_lt_of_le y2 hb1.size
      clear hb1 hown1 hP1 HN1 y0 y1 y2 hr3
      go_wp2_with fail
      refine HIN.out.mono ?_
      rintro e w2 ⟨rfl, rfl⟩
      have HP2 := Lib.hid (HP1.out.sub (show [Ent.row (.slice (some ⟨g1, 0, none⟩) R.length c2) 3 1 R.length ((zs R).map intV), .row (.slice A1 O.length c1) 3 1 O.length ((zs O).map intV)].Sublist _ by simp))
      clear HP1 HP
      cases tb with
      | true =>
        have HSU2 : Eqn ((R.take (k + 1)).filter (fun u => (reachM S u).testBit v)) (O ++ [x]) := HSU
        clear HSU
        go_wp2_with (at_builtin; refine wpList_append_own_at _ rfl _ _ 36 rfl w.heap.size 3 i0 (.int .i64 0) 1 8 Tryd.underlying36 hi hz0 hz1 hz2 rfl (by decide) _ _ _ rfl ((HP2.out.row 1 rfl).alloc _) ⟨w1.heap.size, 0, none⟩ 1 1 [.int .i64 ((x : Int))] rfl rfl (cell_one_new _ _ _) (by simp [Value.oneCell']) (by unfold maxLen; omega) (by omega) (by have := HP2.out.below.size; simp; omega) ?_; intro v4 w4 hown' hgrow _ hat; have HP4 := Lib.hid ((HP2.out.alloc0 _).grow 1 rfl hgrow hown' hat); obtain ⟨A4, cp4, rfl⟩ := HP4.out.form 1 rfl; clear hown' hgrow hat)
        go_roundw
        case rel => exact ⟨k + 1, hlt, by go_num, by rw [HSU2.out, zs_snoc, List.map_append, List.length_append]; exact HP4.out⟩
        case measure => simp [intOf]; omega
      | false =>
        have HSU2 : Eqn ((R.take (k + 1)).filter (fun u => (reachM S u).testBit v)) O := by rw [Eqn, HSU.out]; simp
        clear HSU
        go_wp2_with fail
        go_roundw
        case rel => exact ⟨k + 1, hlt, by go_num, by rw [HSU2.out]; exact HP2.out⟩
        case measure => simp [intOf]; omega
    · obtain rfl : k = R.length := by omega
      rw [List.take_length] at HP ⊢
      clear hP
      go_wp2_with fail
      go_ret
      exact ⟨_, rfl, by have := HP.out.row 1 rfl; rw [zs_len]; exact this, HP.out.below⟩
end Go.Proofs.YtpaakgngoocjeaaDoor

/- The components of the reference, in plain Lean: the same greedy list as the program's. -/
namespace Go.Proofs.YtpaakgngoocjeaaDoor
open Go.RowKit

/-- no arc leads into a component from what is neither in it nor listed -/
noncomputable def rfreeA (S : List Nat) (v : Nat) (listed : List Nat) (A : List (Int × Int)) : Bool := A.all fun p => !(inF (zs (partL S v)) p.2 && !inF (zs (partL S v)) p.1 && !inF (zs listed) p.1)
noncomputable def rtest (S : List Nat) (A : List (Int × Int)) (listed : List Nat) (v : Nat) : Bool := !decide (v ∈ listed) && isL S v && rfreeA S v listed A
noncomputable def rseq (S : List Nat) (A : List (Int × Int)) : Nat → List Nat
  | 0 => []
  | k + 1 => match (List.range S.length).find? (rtest S A ((rseq S A k).flatMap (partL S))) with
    | none => rseq S A k
    | some v => rseq S A k ++ [v]
section
variable {S : List Nat} (hI : InG S) (h512 : S.length ≤ 512)
include hI h512
theorem ldr_idx {j : Nat} (hj : j < cmN S) : idx S (ldr S j) = j := (idx_sc hI h512 hj (ldr_lt hj).1).2 (sc_refl _ _)
theorem ldr_of {v : Nat} (hv : v < S.length) (hl : isL S v = true) : ldr S (idx S v) = v := by
  have h := idx_ldr hI h512 hv
  exact lead_uniq hI h512 h.2.2 hv (ldr_lt h.1).2 hl h.2.1
omit hI h512 in
theorem ldr_mono {i j : Nat} (hij : i < j) (hj : j < cmN S) : ldr S i < ldr S j := by
  have h1 := ldr_at (S := S) (j := i) (by omega)
  have h2 := ldr_at hj
  have := List.pairwise_iff_getElem.1 (leads_sorted S S.length) i j (List.getElem?_eq_some_iff.1 h1).1 (List.getElem?_eq_some_iff.1 h2).1 hij
  rw [(List.getElem?_eq_some_iff.1 h1).2, (List.getElem?_eq_some_iff.1 h2).2] at this
  exact this
theorem listed_iff {G : List Nat} (hG : ∀ x ∈ G, x < cmN S) {u : Nat} (hu : u < S.length) : u ∈ (G.map (ldr S)).flatMap (partL S) ↔ idx S u ∈ G := by
  rw [List.mem_flatMap]
  constructor
  · rintro ⟨v, hv, hm⟩
    obtain ⟨j, hj, rfl⟩ := List.mem_map.1 hv
    have := (idx_sc hI h512 (hG j hj) hu).2 ((partL_mem hI h512 (ldr_lt (hG j hj)).1).1 hm)
    rw [this]; exact hj
  · intro h
    exact ⟨ldr S (idx S u), List.mem_map.2 ⟨_, h, rfl⟩, (partL_mem hI h512 (ldr_lt (hG _ h)).1).2 (idx_ldr hI h512 hu).2.1⟩
theorem rtest_iff {A : List (Int × Int)} (hA : ∀ p ∈ A, okA S p) (hE : ∀ v w, Ed S v w → ((v : Int), (w : Int)) ∈ A) {G : List Nat} (hG : ∀ x ∈ G, x < cmN S) {j : Nat} (hj : j < cmN S) : rtest S A ((G.map (ldr S)).flatMap (partL S)) (ldr S j) = true ↔ Pk (cmN S) (depC S) G j := by
  have hl := ldr_lt hj
  have hpart : ∀ u, u < S.length → (u ∈ partL S (ldr S j) ↔ idx S u = j) := fun u hu => by rw [partL_mem hI h512 hl.1, idx_sc hI h512 hj hu]
  unfold rtest Pk rfreeA
  rw [Bool.and_eq_true, Bool.and_eq_true, hl.2, Bool.not_eq_true', decide_eq_false_iff_not, listed_iff hI h512 hG hl.1, ldr_idx hI h512 hj, List.all_eq_true]
  constructor
  · rintro ⟨⟨h1, _⟩, h2⟩
    refine ⟨hj, h1, fun q hq hqG hd => ?_⟩
    obtain ⟨hne, a, b, he, ha, hb⟩ := hd
    have hlt := ed_lt hI he
    have h3 := h2 _ (hE a b he)
    dsimp only at h3
    rw [inF_zs, inF_zs, inF_zs, decide_eq_true ((hpart b hlt.2).2 hb), decide_eq_false (fun h => hne (by rw [← ha]; exact (hpart a hlt.1).1 h)), decide_eq_false (fun h => hqG (by rw [← ha]; exact (listed_iff hI h512 hG hlt.1).1 h))] at h3
    simp at h3
  · rintro ⟨_, h1, h2⟩
    refine ⟨⟨h1, rfl⟩, fun p hp => ?_⟩
    obtain ⟨h0, h0', he⟩ := hA p hp
    obtain ⟨pa, pb⟩ := p
    obtain ⟨a, rfl⟩ : ∃ a : Nat, pa = (a : Int) := ⟨pa.toNat, (Int.toNat_of_nonneg h0).symm⟩
    obtain ⟨b, rfl⟩ : ∃ b : Nat, pb = (b : Int) := ⟨pb.toNat, (Int.toNat_of_nonneg h0').symm⟩
    simp only [Int.toNat_natCast] at he
    have hlt := ed_lt hI he
    dsimp only
    rw [inF_zs, inF_zs, inF_zs]
    by_cases hb : idx S b = j
    · by_cases ha : idx S a = j
      · rw [decide_eq_true ((hpart a hlt.1).2 ha)]; simp
      · by_cases haG : idx S a ∈ G
        · rw [decide_eq_true ((listed_iff hI h512 hG hlt.1).2 haG)]; simp
        · exact absurd ⟨ha, a, b, he, rfl, hb⟩ (h2 (idx S a) (idx_ldr hI h512 hlt.1).1 haG)
    · rw [decide_eq_false (fun h => hb ((hpart b hlt.2).1 h))]; simp
theorem rpick_step {A : List (Int × Int)} (hA : ∀ p ∈ A, okA S p) (hE : ∀ v w, Ed S v w → ((v : Int), (w : Int)) ∈ A) {G : List Nat} (hG : ∀ x ∈ G, x < cmN S) {j : Nat} (hs : GStep (cmN S) (depC S) G j) : (List.range S.length).find? (rtest S A ((G.map (ldr S)).flatMap (partL S))) = some (ldr S j) := by
  rw [List.find?_range_eq_some]
  have hj := hs.1.1
  refine ⟨(rtest_iff hI h512 hA hE hG hj).2 hs.1, List.mem_range.2 (ldr_lt hj).1, fun u hu => ?_⟩
  rw [Bool.not_eq_true', ← Bool.not_eq_true]
  intro ht
  have hun : u < S.length := by have := (ldr_lt hj).1; omega
  have hL : isL S u = true := by
    unfold rtest at ht
    rw [Bool.and_eq_true, Bool.and_eq_true] at ht
    exact ht.1.2
  have hi := (idx_ldr hI h512 hun).1
  have he := ldr_of hI h512 hun hL
  rw [← he] at ht
  have hp := (rtest_iff hI h512 hA hE hG hi).1 ht
  refine hs.2 (idx S u) ?_ hp
  rcases Nat.lt_or_ge (idx S u) j with h | h
  · exact h
  · rcases Nat.lt_or_ge j (idx S u) with h2 | h2
    · have := ldr_mono h2 hi
      rw [he] at this; omega
    · have : idx S u = j := by omega
      rw [this] at he; omega
theorem rseq_eq {A : List (Int × Int)} (hA : ∀ p ∈ A, okA S p) (hE : ∀ v w, Ed S v w → ((v : Int), (w : Int)) ∈ A) {G : List Nat} (hG : Greedy (cmN S) (depC S) G) : rseq S A G.length = G.map (ldr S) := by
  induction hG with
  | nil => rfl
  | @snoc G x hG hx ih =>
    rw [List.length_append, List.length_singleton]
    unfold rseq
    rw [ih, rpick_step hI h512 hA hE (greedy_lt hG).1 hx, List.map_append]; rfl
end
/-- the parts of some components have no vertex twice -/
theorem parts_nodup {S : List Nat} (hI : InG S) (h512 : S.length ≤ 512) {G : List Nat} (hG : ∀ x ∈ G, x < cmN S) (hn : G.Nodup) : ((G.map (ldr S)).flatMap (partL S)).Nodup ∧ ∀ x ∈ (G.map (ldr S)).flatMap (partL S), x < S.length := by
  constructor
  · unfold List.Nodup
    rw [List.pairwise_flatMap]
    refine ⟨fun v _ => (partL_sorted v).imp (fun h => by omega), ?_⟩
    rw [List.pairwise_map]
    refine List.Pairwise.imp_of_mem ?_ hn
    intro a b ha hb hab x hx y hy e
    subst e
    have h1 := (partL_mem hI h512 (ldr_lt (hG a ha)).1).1 hx
    have h2 := (partL_mem hI h512 (ldr_lt (hG b hb)).1).1 hy
    have hxl := sc_lt hI (ldr_lt (hG a ha)).1 h1
    rw [← idx_sc hI h512 (hG a ha) hxl] at h1
    rw [← idx_sc hI h512 (hG b hb) hxl] at h2
    exact hab (by omega)
  · intro x hx
    rw [List.mem_flatMap] at hx
    obtain ⟨v, hv, hx⟩ := hx
    obtain ⟨j, hj, rfl⟩ := List.mem_map.1 hv
    exact partL_lt hI h512 (ldr_lt (hG j hj)).1 hx
/-- what the walk of Components asks for -/
structure RSpec (S : List Nat) (A : List (Int × Int)) (R : List (List Nat)) : Prop where
  len : ∀ k, k ≤ R.length → ((rseq S A k).flatMap (partL S)).length ≤ S.length
  prog : ∀ k, k ≤ R.length → ((rseq S A k).flatMap (partL S)).length < S.length → k < R.length ∧ ∃ v, (List.range S.length).find? (rtest S A ((rseq S A k).flatMap (partL S))) = some v
  fin : ∀ k, k ≤ R.length → S.length ≤ ((rseq S A k).flatMap (partL S)).length → (rseq S A k).map (partL S) = R
theorem rspec_graph {S : List Nat} (hI : InG S) (h512 : S.length ≤ 512) (hF : ∀ x ∈ S, Fit x) {A : List (Int × Int)} (hA : ∀ p ∈ A, okA S p) (hE : ∀ v w, Ed S v w → ((v : Int), (w : Int)) ∈ A) : RSpec S A (compF S) := by
  obtain ⟨G, h1, h2, h3, h4⟩ := compF_spec hI h512 hF
  have hlen : (compF S).length = cmN S := by rw [h4, List.length_map, h3]
  have hseq : ∀ k, k ≤ cmN S → rseq S A k = (G.take k).map (ldr S) := by
    intro k hk
    have := rseq_eq hI h512 hA hE (greedy_take h1 k)
    rw [List.length_take, Nat.min_eq_left (by omega)] at this
    exact this
  have hGl := greedy_lt h1
  have hGt : ∀ k, ∀ x ∈ G.take k, x < cmN S := fun k x hx => hGl.1 x (List.mem_of_mem_take hx)
  have hle : ∀ k, k ≤ cmN S → ((rseq S A k).flatMap (partL S)).length ≤ S.length := by
    intro k hk
    rw [hseq k hk]
    have := parts_nodup hI h512 (hGt k) (hGl.2.sublist (List.take_sublist _ _))
    exact nodup_len this.1 this.2
  have hfull : ∀ k, k ≤ cmN S → S.length ≤ ((rseq S A k).flatMap (partL S)).length → k = cmN S := by
    intro k hk hl
    rcases Nat.lt_or_ge k (cmN S) with hlt | hge
    · exfalso
      obtain ⟨j, hj⟩ : ∃ j, G[k]? = some j := ⟨_, List.getElem?_eq_getElem (by omega)⟩
      have hjl := hGl.1 j (List.mem_of_getElem? hj)
      rw [hseq k hk] at hl
      have hn := parts_nodup hI h512 (hGt k) (hGl.2.sublist (List.take_sublist _ _))
      have hm := full_mem hn.1 hn.2 hl (ldr S j) (ldr_lt hjl).1
      rw [listed_iff hI h512 (hGt k) (ldr_lt hjl).1, ldr_idx hI h512 hjl] at hm
      obtain ⟨i, hi⟩ := List.getElem?_of_mem hm
      rw [List.getElem?_take] at hi
      split at hi
      · have := nodup_at hGl.2 hi hj; omega
      · cases hi
    · omega
  refine ⟨fun k hk => hle k (by omega), fun k hk hl => ?_, fun k hk hl => ?_⟩
  · have hk2 : k < cmN S := by
      rcases Nat.lt_or_ge k (cmN S) with hlt | hge
      · exact hlt
      · exfalso
        have : k = cmN S := by omega
        subst this
        have hall : ∀ u, u < S.length → u ∈ (rseq S A (cmN S)).flatMap (partL S) := by
          intro u hu
          rw [hseq _ (Nat.le_refl _), listed_iff hI h512 (hGt _) hu, List.take_of_length_le (by omega)]
          exact h2 _ (idx_ldr hI h512 hu).1
        have := full_len _ hall
        omega
    refine ⟨by omega, ?_⟩
    obtain ⟨j, hj⟩ : ∃ j, G[k]? = some j := ⟨_, List.getElem?_eq_getElem (by omega)⟩
    have hs : GStep (cmN S) (depC S) (G.take k) j := by
      have := greedy_take h1 (k + 1)
      rw [List.take_add_one, hj] at this
      cases h : G.take k ++ [j] with
      | nil => simp at h
      | cons a r =>
        generalize hg : G.take k ++ [j] = Z at *
        have hz : Greedy (cmN S) (depC S) Z := by rw [← hg]; simpa using this
        cases hz with
        | nil => cases h
        | @snoc G2 x h5 h6 =>
          have e := List.append_inj' hg (by simp)
          have e2 : j = x := by simpa using e.2
          rw [e.1, e2]; exact h6
    refine ⟨ldr S j, ?_⟩
    rw [hseq k (by omega)]
    exact rpick_step hI h512 hA hE (hGt k) hs
  · have := hfull k (by omega) hl
    subst this
    rw [hseq _ (Nat.le_refl _), List.take_of_length_le (by omega), h4, List.map_map]; rfl
end Go.Proofs.YtpaakgngoocjeaaDoor

/- The contract of the reference's Components. -/
namespace Go.Proofs.YtpaakgngoocjeaaDoor
open Go.RowKit

def slLen : Value → Nat
  | .slice _ n _ => n
  | _ => 0
/-- the memory: what is listed, the list of the components, these -/
def RkL (vl vo : Value) (listed : List Nat) (cs : List ((Option Addr × Nat × Nat) × List Nat)) : List Ent :=
  .row vl 3 1 listed.length ((zs listed).map intV) :: .row vo 36 1 cs.length (cs.map fun x => sv x.1) :: exL cs
theorem rfreeA_take {S : List Nat} {v : Nat} {listed : List Nat} {A : List (Int × Int)} {q : Nat} {p : Int × Int} (h : A[q]? = some p) : rfreeA S v listed (A.take (q + 1)) = (rfreeA S v listed (A.take q) && !(inF (zs (partL S v)) p.2 && !inF (zs (partL S v)) p.1 && !inF (zs listed) p.1)) := by
  unfold rfreeA
  rw [List.take_add_one, h, List.all_append]; simp

set_option maxRecDepth 100000 in
set_option maxHeartbeats 1000000 in
theorem rcomps_any (n : Nat) (Al : Option Addr) (m c : Nat) (A : List (Int × Int)) (R : List (List Nat)) (w : World) (hn : n ≤ 512) (hm : m ≤ 100000) (hl : RowS 2 arcV w w.heap.size Al m A) (hR : RSpec (graphOf n A) A R) (hRl : R.length ≤ 100000) :
    Calls Tryd.prog 30 #[.int .i64 n, .slice Al m c] w fun e w' => ∃ v, e = .returned v ∧ Lls w' w'.heap.size v (R.map zs) ∧ Below w.heap.size w w' := by
  obtain ⟨i0, hi, hz0, hz1, hz2⟩ := info_parts int_info
  obtain ⟨s0, si, sz0, sz1, sz2⟩ := info_parts ints_info
  have HRC : Hid (∀ (x : Nat) W, x < n → Below w.heap.size w W → Calls Tryd.prog 53 #[.int .i64 n, .slice Al m c, .int .i64 x] W (NewInts (zs (partL (graphOf n A) x)) W)) := Lib.hid (fun x W hx hb => rcomp_any n Al m c A x W hn hm ((hl.below hb).up hb.size) hx)
  have HI := Lib.hid (graphOf_in n A)
  have HLN : Hid ((graphOf n A).length = n) := Lib.hid (graphOf_len n A)
  have HL := Lib.hid hl
  have HR := Lib.hid hR
  have HAL : Hid (A.length = m) := Lib.hid hl.1
  generalize graphOf n A = S at *
  clear hl hR
  have HP0 := Lib.hid (((Hp.start w).nil 3 1).nil 36 1)
  go_enter Tryd.func30, Tryd.ntmps30
  go_wp2_with fail
  go_loopw [5, 6] (fun vo vl wr => ∃ (k : Nat) (cs : List ((Option Addr × Nat × Nat) × List Nat)), k ≤ R.length ∧ cs.map Prod.snd = (rseq S A k).map (partL S) ∧ Hp w w wr (RkL vl vo ((rseq S A k).flatMap (partL S)) cs) []) (fun _ vl _ => n - slLen vl)
  case atStart => exact ⟨0, [], Nat.zero_le _, rfl, HP0.out⟩
  case round =>
    clear HP0
    obtain ⟨k, cs, hk, hcs, hP⟩ := hrel
    have HLE := HR.out.len k hk
    rw [HLN.out] at HLE
    have HPG := Lib.hid (HR.out.prog k hk)
    have HFN := Lib.hid (HR.out.fin k hk)
    rw [HLN.out] at HPG HFN
    have HSQ : Eqn (rseq S A (k + 1)) (match (List.range S.length).find? (rtest S A ((rseq S A k).flatMap (partL S))) with | none => rseq S A k | some v => rseq S A k ++ [v]) := rfl
    have HCS := Eqn.mk hcs
    have hcl : cs.length ≤ 100000 := by
      have h1 : (rseq S A k).length ≤ k := by
        clear HPG HFN HSQ HCS hcs hP HLE hk
        induction k with
        | zero => simp [rseq]
        | succ k ih =>
          unfold rseq
          split
          · omega
          · rw [List.length_append, List.length_singleton]; omega
      have := congrArg List.length hcs
      rw [List.length_map, List.length_map] at this; omega
    have HP := Lib.hid hP
    obtain ⟨Av, cv, rfl⟩ := hP.form 0 rfl
    obtain ⟨Ao, co, rfl⟩ := hP.form 1 rfl
    have HFM : Eqn ((rseq S A k).flatMap (partL S)) ((rseq S A k).flatMap (partL S)) := rfl
    generalize hLi : (rseq S A k).flatMap (partL S) = li at HFM HPG HFN HSQ HLE HP hP ⊢
    have HLI := Eqn.mk hLi
    by_cases hlt : li.length < n
    · have j0 : (li.length : Int) < (n : Int) := by omega
      obtain ⟨hkl, vv, hvv⟩ := HPG.out hlt
      have HVV := Lib.hid hvv
      clear hP hcs hLi HPG HFN hvv
      go_wp2_with fail
      go_loopw [5, 6, 7] (fun vo vl i wr => ∃ q : Nat, q ≤ n ∧ vo = .slice Ao cs.length co ∧ vl = .slice Av li.length cv ∧ i = .int .i64 q ∧ (∀ u, u < q → rtest S A li u = false) ∧ Hp w w wr (RkL (.slice Av li.length cv) (.slice Ao cs.length co) li cs) []) (fun _ _ i _ => n - (intOf i).toNat)
      case atStart => exact ⟨0, Nat.zero_le _, rfl, rfl, rfl, fun u hu => by omega, HP.out⟩
      case round =>
        clear HP
        obtain ⟨q, hq, rfl, rfl, rfl, hno, hP⟩ := hrel
        have HNO := Lib.hid hno
        have HP := Lib.hid hP
        by_cases hlt2 : q < n
        · have j1 : (q : Int) < (n : Int) := by omega
          have HC := Lib.hid (HRC.out q wr hlt2 hP.below)
          have HPS : Hid (q ∈ partL S q ∧ (partL S q).Pairwise (· < ·) ∧ ∀ x ∈ partL S q, x < n) := Lib.hid ⟨partL_self HI.out (by rw [HLN.out]; exact hn) (by rw [HLN.out]; exact hlt2), partL_sorted q, fun x hx => by have := partL_lt HI.out (by rw [HLN.out]; exact hn) (by rw [HLN.out]; exact hlt2) hx; rw [HLN.out] at this; exact this⟩
          have HPL : Hid (((rseq S A k ++ [q]).flatMap (partL S)) = li ++ partL S q ∧ (rseq S A k ++ [q]).map (partL S) = cs.map Prod.snd ++ [partL S q]) := Lib.hid (by rw [List.flatMap_append, List.map_append, HLI.out, HCS.out]; simp)
          have hpl : (partL S q).length ≤ n := nodup_len (HPS.out.2.1.imp (fun h => by omega)) HPS.out.2.2
          have HTE : Eqn (rtest S A li q) (!decide (q ∈ li) && ((partL S q).head? == some q) && rfreeA S q li A) := rfl
          have HFR := fun j p h => Lib.hid (rfreeA_take (S := S) (v := q) (listed := li) (A := A) (q := j) (p := p) h)
          have HFR := Lib.hid HFR
          have HF0 : Hid (rfreeA S q li (A.take 0) = true) := Lib.hid rfl
          have HFM' : Hid (rfreeA S q li (A.take m) = rfreeA S q li A) := Lib.hid (by rw [List.take_of_length_le (by rw [HAL.out]; exact Nat.le_refl _)])
          generalize hfa : rfreeA S q li = fr at *
          clear hfa
          generalize partL S q = part at *
          obtain ⟨x0, hx00, hp0⟩ : ∃ x0, part[0]? = some x0 ∧ 0 < part.length := by
            cases part with
            | nil => have := HPS.out.1; cases this
            | cons a b => exact ⟨a, rfl, by simp⟩
          have j2 : (0 : Int) < (part.length : Int) := by omega
          have hxh : (part.head? == some q) = decide (x0 = q) := by
            rw [List.head?_eq_getElem?, hx00]; by_cases h : x0 = q <;> simp [h]
          rw [hxh] at HTE
          have hIL : Row1 intV wr wr.heap.size Av li.length (zs li) := by
            obtain ⟨A3', c3', e3, hr3⟩ := row1_of_own (hP.row 0 rfl)
            injection e3 with e3 _ _
            subst e3
            exact (by simpa [zs_len] using hr3)
          have HIL := Lib.hid hIL
          clear hno hP hIL
          go_wp2_with fail
          refine HC.out.mono ?_
          rintro e w1 ⟨v1, rfl, hown1, hb1⟩
          have hP1 := (HP.out.pushRow hb1 hown1).perm List.perm_append_comm
          rw [zs_len] at hP1
          have HP1 := Lib.hid hP1
          obtain ⟨A2, c2, rfl⟩ := hP1.form 0 rfl
          have hIP : Row1 intV w1 w1.heap.size A2 part.length (zs part) := by
            obtain ⟨A3', c3', e3, hr3⟩ := row1_of_own (hP1.row 0 rfl)
            injection e3 with e3 _ _
            subst e3
            exact (by simpa [zs_len] using hr3)
          have HIP := Lib.hid hIP
          obtain ⟨g1, d1, e1, y0, y1, y2⟩ := hP1.at 0 0 rfl (show ((zs part).map intV)[0]? = some (.int .i64 (x0 : Int)) by unfold zs; rw [List.getElem?_map, List.getElem?_map, hx00]; rfl)
          injection e1 with e1 _ e1c
          subst e1 e1c
          have HI1 := rin_any Av li.length cv (q : Int) w1 _ (zs li) (by omega) ((HIL.out.below hb1).up hb1.size)
          rw [inF_zs] at HI1
          have HIL1 := Lib.hid ((HIL.out.below hb1).up hb1.size)
          clear hb1 hown1 hP1 HC HP HIL hIP hx00 hxh hp0
          by_cases hm1 : q ∈ li
          · rw [decide_eq_true hm1] at HI1
            replace HI1 := Lib.hid HI1
            have HT2 : Hid (rtest S A li q = false) := Lib.hid (by rw [HTE.out, decide_eq_true hm1]; rfl)
            clear hm1
            go_wp2_with fail
            refine HI1.out.mono ?_
            rintro e w2 ⟨rfl, rfl⟩
            go_wp2_with fail
            go_roundw
            case rel => exact ⟨q + 1, hlt2, rfl, rfl, by go_num, fun u hu => by
              rcases Nat.lt_or_ge u q with h | h
              · exact HNO.out u h
              · have : u = q := by omega
                rw [this]; exact HT2.out, HP1.out.sub (List.sublist_append_right _ _)⟩
            case measure => simp [intOf]; omega
          · rw [decide_eq_false hm1] at HI1
            replace HI1 := Lib.hid HI1
            by_cases hx0 : x0 = q
            · subst hx0
              have HTE2 : Hid (rtest S A li x0 = fr A) := Lib.hid (by rw [HTE.out, decide_eq_false hm1]; simp)
              clear hm1 HTE
              go_wp2_with fail
              refine HI1.out.mono ?_
              rintro e w2 ⟨rfl, rfl⟩
              go_wp2_with fail
              go_loopw [9, 10] (fun f i wr => ∃ j : Nat, j ≤ m ∧ i = .int .i64 j ∧ f = .bool (fr (A.take j)) ∧ Hp w w wr (.row (.slice (some ⟨g1, 0, none⟩) part.length c2) 3 1 part.length ((zs part).map intV) :: RkL (.slice Av li.length cv) (.slice Ao cs.length co) li cs) []) (fun _ i _ => m - (intOf i).toNat)
              case atStart => exact ⟨0, Nat.zero_le _, rfl, by rw [HF0.out], HP1.out⟩
              case round =>
                clear HP1 HI1 y0 y1 y2 HIL1 HIP HF0
                obtain ⟨j, hj, rfl, rfl, hP⟩ := hrel
                have HP := Lib.hid hP
                by_cases hlt3 : j < m
                · have j3 : (j : Int) < (m : Int) := by omega
                  obtain ⟨p, hp⟩ : ∃ p, A[j]? = some p := ⟨_, List.getElem?_eq_getElem (by rw [HAL.out]; exact hlt3)⟩
                  have HST := Lib.hid (HFR.out j p hp).out
                  obtain ⟨b, off, rfl, hbw, hcell⟩ := (HL.out.below hP.below).2 (by omega)
                  have y0 : wr.cell? ⟨b, off + j * 2, none⟩ = some (.int .i64 p.1) := hcell j p hp 0 (by decide)
                  have y1 : wr.cell? ⟨b, off + j * 2 + 1, none⟩ = some (.int .i64 p.2) := hcell j p hp 1 (by decide)
                  have hIP : Row1 intV wr wr.heap.size (some ⟨g1, 0, none⟩) part.length (zs part) := by
                    obtain ⟨A3', c3', e3, hr3⟩ := row1_of_own (hP.row 0 rfl)
                    injection e3 with e3 _ _
                    rw [← e3] at hr3
                    exact (by simpa [zs_len] using hr3)
                  have hIL : Row1 intV wr wr.heap.size Av li.length (zs li) := by
                    obtain ⟨A3', c3', e3, hr3⟩ := row1_of_own (hP.row 1 rfl)
                    injection e3 with e3 _ _
                    rw [← e3] at hr3
                    exact (by simpa [zs_len] using hr3)
                  have HB1 := Lib.hid (rin_any (some ⟨g1, 0, none⟩) part.length c2 p.2 wr _ (zs part) (by omega) hIP)
                  have HB2 := Lib.hid (rin_any (some ⟨g1, 0, none⟩) part.length c2 p.1 wr _ (zs part) (by omega) hIP)
                  have HB3 := Lib.hid (rin_any Av li.length cv p.1 wr _ (zs li) (by omega) hIL)
                  generalize inF (zs part) p.2 = b1 at *
                  generalize inF (zs part) p.1 = b2 at *
                  generalize inF (zs li) p.1 = b3 at *
                  generalize fr (A.take j) = f0 at *
                  clear hP hp hcell hbw hIP hIL
                  cases b1 with
                  | false =>
                    go_wp2_with fail
                    refine HB1.out.mono ?_
                    rintro e w2 ⟨rfl, rfl⟩
                    go_wp2_with fail
                    go_roundw
                    case rel => exact ⟨j + 1, hlt3, by go_num, by rw [HST.out]; simp, HP.out⟩
                    case measure => simp [intOf]; omega
                  | true =>
                    cases b2 with
                    | true =>
                      go_wp2_with fail
                      refine HB1.out.mono ?_
                      rintro e w2 ⟨rfl, rfl⟩
                      go_wp2_with fail
                      refine HB2.out.mono ?_
                      rintro e w2 ⟨rfl, rfl⟩
                      go_wp2_with fail
                      go_roundw
                      case rel => exact ⟨j + 1, hlt3, by go_num, by rw [HST.out]; simp, HP.out⟩
                      case measure => simp [intOf]; omega
                    | false =>
                      cases b3 with
                      | true =>
                        go_wp2_with fail
                        refine HB1.out.mono ?_
                        rintro e w2 ⟨rfl, rfl⟩
                        go_wp2_with fail
                        refine HB2.out.mono ?_
                        rintro e w2 ⟨rfl, rfl⟩
                        go_wp2_with fail
                        refine HB3.out.mono ?_
                        rintro e w2 ⟨rfl, rfl⟩
                        go_wp2_with fail
                        go_roundw
                        case rel => exact ⟨j + 1, hlt3, by go_num, by rw [HST.out]; simp, HP.out⟩
                        case measure => simp [intOf]; omega
                      | false =>
                        go_wp2_with fail
                        refine HB1.out.mono ?_
                        rintro e w2 ⟨rfl, rfl⟩
                        go_wp2_with fail
                        refine HB2.out.mono ?_
                        rintro e w2 ⟨rfl, rfl⟩
                        go_wp2_with fail
                        refine HB3.out.mono ?_
                        rintro e w2 ⟨rfl, rfl⟩
                        go_wp2_with fail
                        go_roundw
                        case rel => exact ⟨j + 1, hlt3, by go_num, by rw [HST.out]; simp, HP.out⟩
                        case measure => simp [intOf]; omega
                · obtain rfl : j = m := by omega
                  rw [HFM'.out] at *
                  clear hP
                  cases hfa : fr A with
                  | false =>
                    have HT2 : Hid (rtest S A li x0 = false) := Lib.hid (by rw [HTE2.out, hfa])
                    clear hfa
                    go_wp2_with fail
                    go_roundw
                    case rel => exact ⟨x0 + 1, hlt2, rfl, rfl, by go_num, fun u hu => by
                      rcases Nat.lt_or_ge u x0 with h | h
                      · exact HNO.out u h
                      · have : u = x0 := by omega
                        rw [this]; exact HT2.out, HP.out.sub (List.sublist_cons_self _ _)⟩
                    case measure => simp [intOf]; omega
                  | true =>
                    have HT2 : Hid (rtest S A li x0 = true) := Lib.hid (by rw [HTE2.out, hfa])
                    have HNX : Hid (rseq S A (k + 1) = rseq S A k ++ [x0]) := Lib.hid (by
                      have h1 : (List.range S.length).find? (rtest S A li) = some x0 := by
                        rw [List.find?_range_eq_some]
                        exact ⟨HT2.out, List.mem_range.2 (by rw [HLN.out]; exact hlt2), fun u hu => by rw [HNO.out u hu]; rfl⟩
                      have := HSQ.out
                      rw [h1] at this
                      exact this)
                    have hIP : Row1 intV wr wr.heap.size (some ⟨g1, 0, none⟩) part.length (zs part) := by
                      obtain ⟨A3', c3', e3, hr3⟩ := row1_of_own (HP.out.row 0 rfl)
                      injection e3 with e3 _ _
                      rw [← e3] at hr3
                      exact (by simpa [zs_len] using hr3)
                    have HIP := Lib.hid hIP
                    have hws := HP.out.below.size
                    clear hfa hIP
                    go_wp2_with (at_builtin; first
                      | (refine wpList_append_own_at _ rfl _ _ 52 rfl w.heap.size 36 s0 (.slice none 0 0) 1 24 Tryd.underlying52 si sz0 sz1 sz2 rfl (by decide) _ _ _ rfl ((HP.out.row 2 rfl).alloc _) ⟨wr.heap.size, 0, none⟩ 1 1 [.slice (some ⟨g1, 0, none⟩) part.length c2] rfl rfl (cell_one_new _ _ _) (by simp [Value.oneCell']) (by unfold maxLen; omega) (by omega) (by simp; omega) ?_; intro v4 w4 hown' hgrow _ hat; have HP4 := Lib.hid ((HP.out.alloc0 _).grow 2 rfl hgrow hown' hat); have HB4 : Hid (Below wr.heap.size wr w4 ∨ True) := Lib.hid (.inr trivial); obtain ⟨A4, cp4, rfl⟩ := HP4.out.form 2 rfl; clear hown' hgrow hat)
                      | (refine wpList_append_row rfl _ _ 36 rfl intV_one w.heap.size 3 i0 (.int .i64 0) 8 Tryd.underlying36 hi hz0 hz1 hz2 rfl _ li.length ((zs li).map intV) rfl (HP4.out.row 1 rfl) (some ⟨g1, 0, none⟩) part.length c2 (zs part) _ rfl (by obtain ⟨A3', c3', e3, hr3⟩ := row1_of_own (HP4.out.row 0 rfl); injection e3 with e3 _ _; rw [← e3] at hr3; exact (by simpa [zs_len] using hr3)) (by unfold maxLen; omega) (by omega) (by have := HP4.out.below.size; omega) ?_; intro v5 w5 hown' hgrow hat; have HP5 := Lib.hid (HP4.out.grow 1 rfl hgrow hown' hat); obtain ⟨A5, cp5, rfl⟩ := HP5.out.form 1 rfl; clear hown' hgrow hat))
                    go_roundw
                    case rel =>
                      refine ⟨k + 1, cs ++ [(((some ⟨g1, 0, none⟩ : Option Addr), part.length, c2), part)], hkl, by rw [HNX.out, HPL.out.2]; simp, ?_⟩
                      rw [HNX.out, HPL.out.1]
                      have h5 := HP5.out.perm (List.perm_append_comm (l₁ := [_]))
                      unfold RkL exL
                      simp only [List.map_append, List.length_append, List.map_cons, List.map_nil, List.length_singleton, zs] at h5 ⊢
                      exact h5
                    case measure => simp [slLen]; omega
            · have hx0' : ((x0 : Int) == (q : Int)) = false := by simpa using fun e : (x0 : Int) = (q : Int) => hx0 (by omega)
              have HT2 : Hid (rtest S A li q = false) := Lib.hid (by rw [HTE.out]; simp [hx0])
              clear hm1 hx0 HTE
              go_wp2_with fail
              refine HI1.out.mono ?_
              rintro e w2 ⟨rfl, rfl⟩
              go_wp2_with fail
              go_roundw
              case rel => exact ⟨q + 1, hlt2, rfl, rfl, by go_num, fun u hu => by
                rcases Nat.lt_or_ge u q with h | h
                · exact HNO.out u h
                · have : u = q := by omega
                  rw [this]; exact HT2.out, HP1.out.sub (List.sublist_append_right _ _)⟩
              case measure => simp [intOf]; omega
        · exfalso
          obtain rfl : q = n := by omega
          have h1 := HVV.out
          rw [List.find?_range_eq_some] at h1
          have h2 := hno vv (List.mem_range.1 h1.2.1)
          rw [h1.1] at h2
          cases h2
    · have HRE := HFN.out (by omega)
      have hLL := lls_of (HP.out.sub (List.sublist_cons_self _ _))
      rw [HCS.out, HRE] at hLL
      have HLL := Lib.hid hLL
      have j0 : ¬ ((li.length : Int) < (n : Int)) := by omega
      clear hP hcs hLi HPG HFN hLL HRE
      go_wp2_with fail
      go_ret
      exact ⟨_, rfl, HLL.out, HP.out.below⟩
end Go.Proofs.YtpaakgngoocjeaaDoor

/- The contract of the reference's Order. -/
namespace Go.Proofs.YtpaakgngoocjeaaDoor
open Go.RowKit

theorem flat_take_succ {R : List (List Nat)} {k : Nat} {l : List Nat} (h : R[k]? = some l) : (R.take (k + 1)).flatten = (R.take k).flatten ++ l := by rw [List.take_add_one, h, List.flatten_append]; simp
theorem flat_take_len (R : List (List Nat)) (k : Nat) : (R.take k).flatten.length ≤ R.flatten.length := by
  have : R.flatten = (R.take k).flatten ++ (R.drop k).flatten := by rw [← List.flatten_append, List.take_append_drop]
  rw [this, List.length_append]; omega

set_option maxRecDepth 100000 in
set_option maxHeartbeats 1000000 in
theorem rorder_any (n : Nat) (Al : Option Addr) (m c : Nat) (A : List (Int × Int)) (R : List (List Nat)) (w : World) (hn : n ≤ 512) (hm : m ≤ 100000) (hl : RowS 2 arcV w w.heap.size Al m A) (hR : RSpec (graphOf n A) A R) (hRl : R.length ≤ 100000) (hRf : R.flatten.length ≤ 100000) :
    Calls Tryd.prog 33 #[.int .i64 n, .slice Al m c] w (NewInts (zs R.flatten) w) := by
  obtain ⟨i0, hi, hz0, hz1, hz2⟩ := info_parts int_info
  have HC := Lib.hid (rcomps_any n Al m c A R w hn hm hl hR hRl)
  clear hl hR
  go_enter Tryd.func33, Tryd.ntmps33
  go_wp2_with fail
  refine HC.out.mono ?_
  rintro e w1 ⟨v1, rfl, hL, hb1⟩
  obtain ⟨Av, cv, vs, rfl, hrow, hvl, hel⟩ := hL
  have HROW := Lib.hid hrow
  have HEL := Lib.hid hel
  have HB1 := Lib.hid hb1
  have HVL := Lib.hid hvl
  have hLl : (R.map zs).length = R.length := by simp
  have HP1 := Lib.hid ((Hp.start w1).nil 3 1)
  clear hrow hel hb1 hvl HC
  generalize hN : (R.map zs).length = N at *
  have HN := Eqn.mk hN
  clear hN
  subst hLl
  go_wp2_with fail
  go_loopw [5, 7] (fun vo i wr => ∃ k : Nat, k ≤ R.length ∧ i = .int .i64 k ∧ Hp w1 w1 wr [.row vo 3 1 (R.take k).flatten.length ((zs (R.take k).flatten).map intV)] []) (fun _ i _ => R.length - (intOf i).toNat)
  case atStart => exact ⟨0, Nat.zero_le _, rfl, HP1.out⟩
  case round =>
    clear HP1
    obtain ⟨k, hk, rfl, hP⟩ := hrel
    have HP := Lib.hid hP
    obtain ⟨A1, c1, rfl⟩ := hP.form 0 rfl
    by_cases hlt : k < R.length
    · have j0 : (k : Int) < (R.length : Int) := by omega
      obtain ⟨l, hl⟩ : ∃ l, R[k]? = some l := ⟨_, List.getElem?_eq_getElem hlt⟩
      obtain ⟨x, hx⟩ : ∃ x, vs[k]? = some x := ⟨_, List.getElem?_eq_getElem (by rw [HVL.out]; exact hlt)⟩
      have hrx := HEL.out k x (zs l) hx (by rw [List.getElem?_map, hl]; rfl)
      obtain ⟨b, off, rfl, hbw, hcell⟩ := (HROW.out.below hP.below).2 (by omega)
      have y0 := hcell k x hx
      unfold sv at y0
      have hs1 := hP.below.size
      have l1 : b < wr.heap.size := by omega
      obtain ⟨a1, n1, d1⟩ := x
      dsimp only at y0 hrx
      have hn1 : n1 = l.length := by have := hrx.1; rw [zs_len] at this; omega
      subst hn1
      have HRX := Lib.hid (hrx.below hP.below)
      have HSU := Eqn.mk (flat_take_succ hl)
      have h1 := flat_take_len R (k + 1)
      rw [HSU.out, List.length_append] at h1
      generalize (R.take k).flatten = O at *
      clear hP hl hx hrx hbw hcell
      go_wp2_with (at_builtin; refine wpList_append_row rfl _ _ 36 rfl intV_one w1.heap.size 3 i0 (.int .i64 0) 8 Tryd.underlying36 hi hz0 hz1 hz2 rfl _ O.length ((zs O).map intV) rfl (HP.out.row 0 rfl) a1 l.length d1 (zs l) _ rfl HRX.out (by unfold maxLen; omega) (by omega) hs1 ?_; intro v5 w5 hown' hgrow hat; have HP5 := Lib.hid (HP.out.grow 0 rfl hgrow hown' hat); obtain ⟨A5, cp5, rfl⟩ := HP5.out.form 0 rfl; clear hown' hgrow hat)
      go_roundw
      case rel => exact ⟨k + 1, hlt, by go_num, by rw [HSU.out]; simpa [zs] using HP5.out⟩
      case measure => simp [intOf]; omega
    · obtain rfl : k = R.length := by omega
      rw [List.take_length] at HP ⊢
      clear hP
      go_wp2_with fail
      go_ret
      exact ⟨_, rfl, by rw [zs_len]; exact own_low (HP.out.row 0 rfl) HB1.out.size, HB1.out.trans (HP.out.below.mono HB1.out.size)⟩
end Go.Proofs.YtpaakgngoocjeaaDoor

namespace Go.Proofs.YtpaakgngoocjeaaDoor
open Go.RowKit

theorem far_levelR {S : List Nat} {a : Nat} (m : Nat) : ∀ (k : Nat) {b : Nat}, farZ S a b = ((m + k : Nat) : Int) → ∃ c, farZ S a c = (m : Int) ∧ Rch S c b := by
  intro k
  induction k with
  | zero => intro b h; exact ⟨b, h, .refl⟩
  | succ k ih =>
    intro b h
    obtain ⟨c, h1, h2⟩ := far_nextR (k := m + k) h
    obtain ⟨d, h3, h4⟩ := ih h2
    exact ⟨d, h3, .step h4 h1⟩
/-- the vertices at a distance, and those at most as far -/
structure LvI (S : List Nat) (a d : Nat) (lv sn : List Nat) : Prop where
  nd : sn.Nodup
  hlv : ∀ x, x ∈ lv ↔ x < S.length ∧ farZ S a x = (d : Int)
  hsn : ∀ x, x ∈ sn ↔ x < S.length ∧ 0 ≤ farZ S a x ∧ farZ S a x ≤ (d : Int)
  ll : lv.length ≤ S.length
/-- within a level: the vertices of the level up to i, and the next ones of one more up to q -/
structure LvJ (S : List Nat) (a d : Nat) (lv sn0 : List Nat) (i : Nat) (nx : List Nat) (q : Nat) (sn nt : List Nat) : Prop where
  eq : sn = sn0 ++ nt
  nd : sn.Nodup
  nt : ∀ y ∈ nt, y < S.length ∧ farZ S a y = ((d + 1 : Nat) : Int)
  old : ∀ j x : Nat, j < i → lv[j]? = some x → ∀ u, Ed S x u → u ∈ sn
  cur : ∀ j u : Nat, j < q → nx[j]? = some u → u ∈ sn
theorem LvI.len {S : List Nat} {a d : Nat} {lv sn : List Nat} (h : LvI S a d lv sn) : sn.length ≤ S.length := nodup_len h.nd (fun x hx => ((h.hsn x).1 hx).1)
theorem LvJ.len {S : List Nat} {a d i q : Nat} {lv sn0 nx sn nt : List Nat} (h0 : LvI S a d lv sn0) (h : LvJ S a d lv sn0 i nx q sn nt) : sn.length ≤ S.length := nodup_len h.nd (fun x hx => by
  rw [h.eq] at hx
  rcases List.mem_append.1 hx with h1 | h1
  · exact ((h0.hsn x).1 h1).1
  · exact (h.nt x h1).1)
theorem lv_start {S : List Nat} {a : Nat} (ha : a < S.length) : LvI S a 0 [a] [a] := by
  refine ⟨by simp, fun x => ?_, fun x => ?_, by simp; omega⟩
  · rw [List.mem_singleton, show ((0 : Nat) : Int) = 0 from rfl, far_zero (S := S)]
    exact ⟨fun h => ⟨by omega, h.symm⟩, fun h => h.2.symm⟩
  · rw [List.mem_singleton, show ((0 : Nat) : Int) = 0 from rfl]
    constructor
    · intro h; subst h; rw [show farZ S x x = 0 from far_zero.2 rfl]; exact ⟨ha, by omega, by omega⟩
    · rintro ⟨_, h1, h2⟩; exact (far_zero.1 (show farZ S a x = 0 by omega)).symm
theorem lvj_start {S : List Nat} {a d : Nat} {lv sn : List Nat} (h : LvI S a d lv sn) : LvJ S a d lv sn 0 [] 0 sn [] := ⟨by simp, h.nd, fun _ h => (by cases h), fun j x hj => by omega, fun j u hj => by omega⟩
theorem lvj_begin {S : List Nat} {a d i : Nat} {lv sn0 nx sn nt : List Nat} (h : LvJ S a d lv sn0 i [] 0 sn nt) : LvJ S a d lv sn0 i nx 0 sn nt := ⟨h.eq, h.nd, h.nt, h.old, fun j u hj => by omega⟩
theorem lvj_old {S : List Nat} {a d i q y : Nat} {lv sn0 nx sn nt : List Nat} (h : LvJ S a d lv sn0 i nx q sn nt) (hy : nx[q]? = some y) (hm : y ∈ sn) : LvJ S a d lv sn0 i nx (q + 1) sn nt :=
  ⟨h.eq, h.nd, h.nt, h.old, fun j u hj hu => by
    rcases Nat.lt_or_ge j q with h1 | h1
    · exact h.cur j u h1 hu
    · have : j = q := by omega
      subst this; rw [hy] at hu; cases hu; exact hm⟩
theorem lvj_new {S : List Nat} (hI : InG S) {a d i q x y : Nat} {lv sn0 nx sn nt : List Nat} (h0 : LvI S a d lv sn0) (h : LvJ S a d lv sn0 i nx q sn nt) (hy : nx[q]? = some y) (hm : y ∉ sn) (hx : x ∈ lv) (he : Ed S x y) : LvJ S a d lv sn0 i nx (q + 1) (sn ++ [y]) (nt ++ [y]) := by
  have hxl := (h0.hlv x).1 hx
  have hyl := (ed_lt hI he).2
  have hf := far_stepR (S := S) (a := a) he (by omega)
  have hn0 : y ∉ sn0 := fun h2 => hm (by rw [h.eq]; exact List.mem_append_left _ h2)
  have hfy : farZ S a y = ((d + 1 : Nat) : Int) := by
    rcases Int.lt_or_le (d : Int) (farZ S a y) with h1 | h1
    · omega
    · exact absurd ((h0.hsn y).2 ⟨hyl, hf.1, h1⟩) hn0
  refine ⟨by rw [h.eq, List.append_assoc], ?_, fun z hz => ?_, fun j z hj hz u hu => List.mem_append_left _ (h.old j z hj hz u hu), fun j u hj hu => ?_⟩
  · rw [List.nodup_append]
    refine ⟨h.nd, by simp, fun b hb c hc => ?_⟩
    rw [List.mem_singleton] at hc; subst hc
    intro e; subst e; exact hm hb
  · rcases List.mem_append.1 hz with h1 | h1
    · exact h.nt z h1
    · rw [List.mem_singleton] at h1; subst h1; exact ⟨hyl, hfy⟩
  · rcases Nat.lt_or_ge j q with h1 | h1
    · exact List.mem_append_left _ (h.cur j u h1 hu)
    · have : j = q := by omega
      subst this; rw [hy] at hu; cases hu; simp
theorem lvj_next {S : List Nat} {a d i q x : Nat} {lv sn0 nx sn nt : List Nat} (h : LvJ S a d lv sn0 i nx q sn nt) (hx : lv[i]? = some x) (hnx : ∀ u, Ed S x u → u ∈ nx) (hq : nx.length ≤ q) : LvJ S a d lv sn0 (i + 1) [] 0 sn nt :=
  ⟨h.eq, h.nd, h.nt, fun j z hj hz u hu => by
    rcases Nat.lt_or_ge j i with h1 | h1
    · exact h.old j z h1 hz u hu
    · have : j = i := by omega
      subst this
      rw [hx] at hz; cases hz
      obtain ⟨k, hk⟩ := List.getElem?_of_mem (hnx u hu)
      exact h.cur k u (by have := (List.getElem?_eq_some_iff.1 hk).1; omega) hk, fun j u hj => by omega⟩
theorem lvj_end {S : List Nat} (hI : InG S) {a d i : Nat} {lv sn0 sn nt : List Nat} (h0 : LvI S a d lv sn0) (h : LvJ S a d lv sn0 i [] 0 sn nt) (hi : lv.length ≤ i) : LvI S a (d + 1) nt sn := by
  have hnt : ∀ y, y ∈ nt ↔ y < S.length ∧ farZ S a y = ((d + 1 : Nat) : Int) := by
    intro y
    refine ⟨h.nt y, fun ⟨h1, h2⟩ => ?_⟩
    obtain ⟨x, h3, h4⟩ := far_nextR h2
    have hxl := (h0.hlv x).2 ⟨(ed_lt hI h3).1, h4⟩
    obtain ⟨j, hj⟩ := List.getElem?_of_mem hxl
    have h5 := h.old j x (by have := (List.getElem?_eq_some_iff.1 hj).1; omega) hj y h3
    rw [h.eq] at h5
    rcases List.mem_append.1 h5 with h6 | h6
    · have := ((h0.hsn y).1 h6).2.2; omega
    · exact h6
  refine ⟨h.nd, hnt, fun x => ?_, ?_⟩
  · rw [h.eq, List.mem_append, h0.hsn, hnt]
    constructor
    · rintro (⟨h1, h2, h3⟩ | ⟨h1, h2⟩)
      · exact ⟨h1, h2, by omega⟩
      · exact ⟨h1, by omega, by omega⟩
    · rintro ⟨h1, h2, h3⟩
      rcases Int.lt_or_le (d : Int) (farZ S a x) with h4 | h4
      · exact .inr ⟨h1, by omega⟩
      · exact .inl ⟨h1, h2, h4⟩
  · have := h.len h0
    rw [h.eq, List.length_append] at this; omega

set_option maxRecDepth 100000 in
set_option maxHeartbeats 2000000 in
theorem rfar_any (n : Nat) (Al : Option Addr) (m c : Nat) (A : List (Int × Int)) (a b : Nat) (w : World) (hn : n ≤ 512) (hm : m ≤ 100000) (hl : RowS 2 arcV w w.heap.size Al m A) (ha : a < n) (hb : b < n) :
    Calls Tryd.prog 56 #[.int .i64 n, .slice Al m c, .int .i64 a, .int .i64 b] w (RetPost (.int .i64 (farZ (graphOf n A) a b)) w.heap.size w) := by
  obtain ⟨i0, hi, hz0, hz1, hz2⟩ := info_parts int_info
  have HNX : Hid (∀ (x : Int) W, Below w.heap.size w W → Calls Tryd.prog 23 #[.int .i64 n, .slice Al m c, .int .i64 x] W (NewInts (nextL A x n) W)) := Lib.hid (fun x W hb => rnext_any n Al m c x W A (by omega) hm ((hl.below hb).up hb.size))
  have HI := Lib.hid (graphOf_in n A)
  have HLN : Hid ((graphOf n A).length = n) := Lib.hid (graphOf_len n A)
  have HF := Lib.hid (graphOf_fit hn A)
  have HMI := Lib.hid (fun x => memI_rowOf hn A x)
  have HGD : Hid (∀ x, x < n → (graphOf n A).getD x 0 = rowOf n A x) := Lib.hid (fun x hx => graphOf_getD hx)
  generalize graphOf n A = S at *
  have HST : Hid (LvI S a 0 [a] [a]) := Lib.hid (lv_start (by rw [HLN.out]; exact ha))
  have HAN : Hid (a < n) := Lib.hid ha
  have HBN : Hid (b < n) := Lib.hid hb
  obtain ⟨R, hR⟩ : ∃ R, farZ S a b = R := ⟨_, rfl⟩
  have HR := Eqn.mk hR
  rw [hR]
  have HP0 : Hid (Hp w w ((w.alloc (.cells #[.int .i64 (a : Int)] 3)).alloc (.cells #[.int .i64 (a : Int)] 3)) [.row (.slice (some ⟨w.heap.size, 0, none⟩) 1 1) 3 1 1 [.int .i64 (a : Int)], .row (.slice (some ⟨w.heap.size + 1, 0, none⟩) 1 1) 3 1 1 [.int .i64 (a : Int)]] []) := Lib.hid (by
    have h := (((Hp.start w).alloc [.int .i64 (a : Int)] 3).alloc [.int .i64 (a : Int)] 3)
    rw [World.size_alloc] at h
    exact (h.toRow 0 1 1 rfl rfl (by decide)).toRow 1 1 1 rfl rfl (by decide))
  clear hl ha hb hR
  go_enter Tryd.func56, Tryd.ntmps56
  go_upto_region 3 with fail
  obtain ⟨V0, hV0⟩ : ∃ V0, V0 = (w.alloc (.cells #[.int .i64 (a : Int)] 3)).alloc (.cells #[.int .i64 (a : Int)] 3) := ⟨_, rfl⟩
  rw [← hV0] at HP0 ⊢
  clear hV0
  go_wp2_with fail
  go_loopw [9, 10, 11] (fun vl vs vd wr => ∃ (d : Nat) (lv sn : List Nat), vd = .int .i64 d ∧ LvI S a d lv sn ∧ (∀ j : Nat, j < d → farZ S a b ≠ (j : Int)) ∧ Hp w w wr [.row vl 3 1 lv.length ((zs lv).map intV), .row vs 3 1 sn.length ((zs sn).map intV)] []) (fun vl vs _ _ => n + 1 - slLen vs + (if slLen vl = 0 then 0 else 1))
  case atStart => exact ⟨0, [a], [a], rfl, HST.out, fun j hj => by omega, HP0.out⟩
  case round =>
    clear HP0 HST
    obtain ⟨d, lv, sn, rfl, hLI, hno, hP⟩ := hrel
    have HLI := Lib.hid hLI
    have HNO := Lib.hid hno
    have HP := Lib.hid hP
    obtain ⟨A1, c1, rfl⟩ := hP.form 0 rfl
    obtain ⟨A2, c2, rfl⟩ := hP.form 1 rfl
    have hsl := hLI.len
    have hll := hLI.ll
    rw [HLN.out] at hsl hll
    by_cases hlv : 0 < lv.length
    · have j0 : (0 : Int) < (lv.length : Int) := by omega
      have hdn : (d : Int) < (n : Int) := by
        obtain ⟨x, hx⟩ : ∃ x, lv[0]? = some x := ⟨_, List.getElem?_eq_getElem hlv⟩
        have h1 := ((hLI.hlv x).1 (List.mem_of_getElem? hx)).2
        have h2 := far_lt HI.out (v := a) (t := x) (by rw [HLN.out]; exact HAN.out)
        rw [HLN.out] at h2; omega
      have HIN := rin_any A1 lv.length c1 (b : Int) wr _ (zs lv) (by omega) (by obtain ⟨A3', c3', e3, hr3⟩ := row1_of_own (hP.row 0 rfl); injection e3 with e3 _ _; rw [← e3] at hr3; exact (by simpa [zs_len] using hr3))
      rw [inF_zs] at HIN
      by_cases hbl : b ∈ lv
      · rw [decide_eq_true hbl] at HIN
        have HIN := Lib.hid HIN
        have HRD : Hid (R = (d : Int)) := Lib.hid (by rw [← HR.out]; exact ((hLI.hlv b).1 hbl).2)
        clear hLI hno hP hbl
        go_wp2_with fail
        refine HIN.out.mono ?_
        rintro e w1 ⟨rfl, rfl⟩
        go_wp2_with fail
        go_ret
        exact ⟨by rw [HRD.out]; rfl, HP.out.below⟩
      · rw [decide_eq_false hbl] at HIN
        have HIN := Lib.hid HIN
        have HNO2 : Hid (∀ j : Nat, j < d + 1 → farZ S a b ≠ (j : Int)) := Lib.hid (fun j hj => by
          rcases Nat.lt_or_ge j d with h | h
          · exact hno j h
          · have : j = d := by omega
            subst this
            intro e
            exact hbl ((hLI.hlv b).2 ⟨by rw [HLN.out]; exact HBN.out, e⟩))
        have HP1 := Lib.hid (hP.nil 3 1)
        have HLJ0 := Lib.hid (lvj_start hLI)
        clear hLI hno hP hbl HNO
        go_wp2_with fail
        refine HIN.out.mono ?_
        rintro e w1 ⟨rfl, rfl⟩
        clear HIN
        go_wp2_with fail
        go_loopw [10, 12, 13] (fun vs vn i wr => ∃ (k : Nat) (sn' nt : List Nat), k ≤ lv.length ∧ i = .int .i64 k ∧ LvJ S a d lv sn k [] 0 sn' nt ∧ Hp w w wr [.row (.slice A1 lv.length c1) 3 1 lv.length ((zs lv).map intV), .row vs 3 1 sn'.length ((zs sn').map intV), .row vn 3 1 nt.length ((zs nt).map intV)] []) (fun _ _ i _ => lv.length - (intOf i).toNat)
        case atStart => exact ⟨0, sn, [], Nat.zero_le _, rfl, HLJ0.out, HP1.out⟩
        case round =>
          clear HP1 HLJ0 HP
          obtain ⟨k, sn', nt, hk, rfl, hLJ, hP⟩ := hrel
          have HLJ := Lib.hid hLJ
          have HP := Lib.hid hP
          obtain ⟨A3, c3, rfl⟩ := hP.form 1 rfl
          obtain ⟨A4, c4, rfl⟩ := hP.form 2 rfl
          have hsl' := hLJ.len HLI.out
          rw [HLN.out] at hsl'
          have hnl' : nt.length ≤ sn'.length := by rw [hLJ.eq, List.length_append]; omega
          by_cases hlt : k < lv.length
          · have j1 : (k : Int) < (lv.length : Int) := by omega
            obtain ⟨x, hx⟩ : ∃ x, lv[k]? = some x := ⟨_, List.getElem?_eq_getElem hlt⟩
            have HX := Lib.hid hx
            have hxn : x < n := by have := ((HLI.out.hlv x).1 (List.mem_of_getElem? hx)).1; rw [HLN.out] at this; exact this
            obtain ⟨g1, d1, e1, y0, y1, y2⟩ := hP.at 0 k rfl (show ((zs lv).map intV)[k]? = some (.int .i64 (x : Int)) by unfold zs; rw [List.getElem?_map, List.getElem?_map, hx]; rfl)
            injection e1 with e1 _ e1c
            subst e1 e1c
            have HN1 := HNX.out (x : Int) wr hP.below
            rw [← HMI.out x] at HN1
            replace HN1 := Lib.hid HN1
            have HRW : Hid (∀ u, u ∈ mem (rowOf n A x) ↔ Ed S x u) := Lib.hid (fun u => by rw [← HGD.out x hxn]; exact ed_row HF.out)
            have HNE : Hid (memI (rowOf n A x) = zs (mem (rowOf n A x))) := Lib.hid rfl
            rw [HNE.out] at HN1
            have hnl := mem_len (rowOf n A x)
            generalize mem (rowOf n A x) = nx at *
            have HLJ1 := Lib.hid (lvj_begin (nx := nx) hLJ)
            clear hLJ hP hx HNE HLJ
            go_wp2_with fail
            refine HN1.out.mono ?_
            rintro e w1 ⟨v1, rfl, hown1, hb1⟩
            have hP1 := HP.out.pushRow hb1 hown1
            rw [zs_len] at hP1
            have HP1 := Lib.hid hP1
            obtain ⟨A5, c5, rfl⟩ := hP1.form 3 rfl
            clear hb1 hown1 hP1 HN1 HP y0 y1 y2
            go_wp2_with fail
            go_loopw [10, 12, 15] (fun vs vn i wr => ∃ (q : Nat) (sn' nt : List Nat), q ≤ nx.length ∧ i = .int .i64 q ∧ LvJ S a d lv sn k nx q sn' nt ∧ Hp w w wr [.row (.slice (some ⟨g1, 0, none⟩) lv.length c1) 3 1 lv.length ((zs lv).map intV), .row vs 3 1 sn'.length ((zs sn').map intV), .row vn 3 1 nt.length ((zs nt).map intV), .row (.slice A5 nx.length c5) 3 1 nx.length ((zs nx).map intV)] []) (fun _ _ i _ => nx.length - (intOf i).toNat)
            case atStart => exact ⟨0, sn', nt, Nat.zero_le _, rfl, HLJ1.out, HP1.out⟩
            case round =>
              clear HP1 HLJ1 hsl' hnl'
              obtain ⟨q, sn', nt, hq, rfl, hLJ, hP⟩ := hrel
              have HLJ := Lib.hid hLJ
              have HP := Lib.hid hP
              obtain ⟨A3, c3, rfl⟩ := hP.form 1 rfl
              obtain ⟨A4, c4, rfl⟩ := hP.form 2 rfl
              have hsl' := hLJ.len HLI.out
              rw [HLN.out] at hsl'
              have hnl' : nt.length ≤ sn'.length := by rw [hLJ.eq, List.length_append]; omega
              by_cases hlt2 : q < nx.length
              · have j2 : (q : Int) < (nx.length : Int) := by omega
                obtain ⟨y, hy⟩ : ∃ y, nx[q]? = some y := ⟨_, List.getElem?_eq_getElem hlt2⟩
                have HYV : Hid (((zs nx).map intV)[q]? = some (.int .i64 (y : Int))) := Lib.hid (by unfold zs; rw [List.getElem?_map, List.getElem?_map, hy]; rfl)
                obtain ⟨g2, d2, e2, y0, y1, y2⟩ := hP.at 3 q rfl HYV.out
                injection e2 with e2 _ e2c
                subst e2 e2c
                have HIN := rin_any A3 sn'.length c3 (y : Int) wr _ (zs sn') (by omega) (by obtain ⟨A3', c3', e3, hr3⟩ := row1_of_own (hP.row 1 rfl); injection e3 with e3 _ _; rw [← e3] at hr3; exact (by simpa [zs_len] using hr3))
                rw [inF_zs] at HIN
                by_cases hm2 : y ∈ sn'
                · rw [decide_eq_true hm2] at HIN
                  have HIN := Lib.hid HIN
                  have HLJ2 := Lib.hid (lvj_old hLJ hy hm2)
                  clear hP hLJ hy hm2
                  go_wp2_with fail
                  refine HIN.out.mono ?_
                  rintro e w2 ⟨rfl, rfl⟩
                  go_wp2_with fail
                  go_roundw
                  case rel => exact ⟨q + 1, sn', nt, hlt2, by go_num, HLJ2.out, HP.out⟩
                  case measure => simp [intOf]; omega
                · rw [decide_eq_false hm2] at HIN
                  have HIN := Lib.hid HIN
                  have HLJ2 := Lib.hid (lvj_new HI.out HLI.out hLJ hy hm2 (List.mem_of_getElem? HX.out) ((HRW.out y).1 (List.mem_of_getElem? hy)))
                  clear hP hLJ hy hm2
                  go_wp2_with fail
                  refine HIN.out.mono ?_
                  rintro e w2 ⟨rfl, rfl⟩
                  go_upto_region 18 with (at_builtin; refine wpList_append_own_at _ rfl _ _ 36 rfl w.heap.size 3 i0 (.int .i64 0) 1 8 Tryd.underlying36 hi hz0 hz1 hz2 rfl (by decide) _ _ _ rfl ((HP.out.row 1 rfl).alloc _) ⟨wr.heap.size, 0, none⟩ 1 1 [.int .i64 ((y : Int))] rfl rfl (cell_one_new _ _ _) (by simp [Value.oneCell']) (by unfold maxLen; omega) (by omega) (by have := HP.out.below.size; simp; omega) ?_; intro v6 w6 hown' hgrow _ hat; have HP6 := Lib.hid ((HP.out.alloc0 _).grow 1 rfl hgrow hown' hat); obtain ⟨A6, cp6, rfl⟩ := HP6.out.form 1 rfl; clear hown' hgrow hat)
                  have HY := Lib.hid (HP6.out.at 3 q rfl (show ((zs nx).map intV)[q]? = some (.int .i64 (y : Int)) from HYV.out))
                  obtain ⟨g3, d3, e3, z0, z1, z2⟩ := HY.out
                  injection e3 with e3 _ e3c
                  injection e3 with e3
                  injection e3 with e3
                  subst e3 e3c
                  clear y0 y1 y2
                  go_wp2_with (at_builtin; refine wpList_append_own_at _ rfl _ _ 36 rfl w.heap.size 3 i0 (.int .i64 0) 1 8 Tryd.underlying36 hi hz0 hz1 hz2 rfl (by decide) _ _ _ rfl ((HP6.out.row 2 rfl).alloc _) ⟨w6.heap.size, 0, none⟩ 1 1 [.int .i64 ((y : Int))] rfl rfl (cell_one_new _ _ _) (by simp [Value.oneCell']) (by unfold maxLen; omega) (by omega) (by have := HP6.out.below.size; simp; omega) ?_; intro v7 w7 hown' hgrow _ hat; have HP7 := Lib.hid ((HP6.out.alloc0 _).grow 2 rfl hgrow hown' hat); obtain ⟨A7, cp7, rfl⟩ := HP7.out.form 2 rfl; clear hown' hgrow hat)
                  go_roundw
                  case rel => exact ⟨q + 1, sn' ++ [y], nt ++ [y], hlt2, by go_num, HLJ2.out, by rw [zs_snoc, zs_snoc, List.map_append, List.map_append, List.length_append, List.length_append]; exact HP7.out⟩
                  case measure => simp [intOf]; omega
              · obtain rfl : q = nx.length := by omega
                have HLJ2 := Lib.hid (lvj_next hLJ HX.out (fun u hu => (HRW.out u).2 hu) (Nat.le_refl _))
                clear hP hLJ
                go_wp2_with fail
                go_roundw
                case rel => exact ⟨k + 1, sn', nt, hlt, by go_num, HLJ2.out, HP.out.sub (by simp)⟩
                case measure => simp [intOf]; omega
          · obtain rfl : k = lv.length := by omega
            have HLI2 := Lib.hid (lvj_end HI.out HLI.out hLJ (Nat.le_refl _))
            have hel : sn'.length = sn.length + nt.length := by rw [hLJ.eq, List.length_append]
            clear hP hLJ
            go_wp2_with fail
            go_roundw
            case rel => exact ⟨d + 1, nt, sn', by go_num, HLI2.out, HNO2.out, (HP.out.sub (List.sublist_cons_self _ _)).perm (List.Perm.swap _ _ _)⟩
            case measure =>
              have hlz : ¬ lv.length = 0 := by omega
              show n + 1 - sn'.length + (if nt.length = 0 then 0 else 1) < n + 1 - sn.length + (if lv.length = 0 then 0 else 1)
              rw [if_neg hlz]
              split <;> omega
    · have HRN : Hid (R = -1) := Lib.hid (by
        rw [← HR.out]
        rcases Int.lt_or_le (farZ S a b) 0 with h | h
        · exact far_neg h
        · exfalso
          have h1 := hno (farZ S a b).toNat
          obtain ⟨x, hx1, hx2⟩ := far_levelR (S := S) (a := a) (b := b) d ((farZ S a b).toNat - d) (by
            rcases Nat.lt_or_ge (farZ S a b).toNat d with h2 | h2
            · exact absurd (by omega) (h1 h2)
            · omega)
          have h3 := (hLI.hlv x).2 ⟨rch_back HI.out hx2 (by rw [HLN.out]; exact HBN.out), hx1⟩
          have := List.length_pos_of_mem h3
          exact hlv this)
      have j0 : lv.length = 0 := by omega
      rw [j0] at HP ⊢
      clear hP hLI hno
      go_wp2_with fail
      go_ret
      exact ⟨by rw [HRN.out]; rfl, HP.out.below⟩
end Go.Proofs.YtpaakgngoocjeaaDoor
