/- Contracts of band.Channels, of the reference's Channels and of SameInts; the plain law that the two Channels agree. -/
import Derived.Test.YtpdhelhngdeoeaaCh26
namespace Go.Proofs.Ytpdhelhngdeoeaa
open Go.RowKit

theorem own_fresh {W : World} {base e size n : Nat} {v : Value} {xs : List Value} (h : W.ownsRow base e size v n xs) {k : Nat} (hk : W.heap.size ≤ k) : some k ≠ v.ownBlock := by
  rcases h.2 with ⟨rfl, _⟩ | ⟨g', cap, cur, rfl, _, hgb, _⟩
  · simp [Value.ownBlock]
  · intro e'
    simp [Value.ownBlock] at e'
    have := (Array.getElem?_eq_some_iff.1 hgb).1
    omega
def ListPair (r : List Int × Int) (w : World) (e : Ending) (w' : World) : Prop := ∃ v, e = .returned (.tuple #[v, .int .i64 r.2]) ∧ w'.ownsRow w.heap.size 3 1 v r.1.length (r.1.map intV) ∧ Below w.heap.size w w'
/-- k numbers from lo on -/
def upto (lo k : Nat) : List Int := (List.range k).map fun i => ((lo + i : Nat) : Int)
theorem upto_succ (lo k : Nat) : upto lo (k + 1) = upto lo k ++ [((lo + k : Nat) : Int)] := by unfold upto; rw [List.range_succ, List.map_append]; rfl
theorem upto_len (lo k : Nat) : (upto lo k).length = k := by unfold upto; simp
/-- how many channels a band has, and its first one -/
def bandN (n : Int) : Nat × Nat := if n = 1 then (2, 5) else if n = 2 then (7, 7) else if n = 3 then (14, 38) else (0, 0)
def chF (n t : Int) : List Int × Int := if n < 1 ∨ 3 < n ∨ vldT t = false then ([], 2) else ((upto (bandN n).1 (bandN n).2).filter (leftP t), 0)
theorem rng_band {n : Int} (h1 : 1 ≤ n) (h3 : n ≤ 3) : rngF n = (((bandN n).1 : Int), ((bandN n).1 : Int) + ((bandN n).2 : Int) - 1, 0) ∧ (bandN n).2 ≤ 38 ∧ (bandN n).1 ≤ 14 ∧ 1 ≤ (bandN n).2 := by
  have : n = 1 ∨ n = 2 ∨ n = 3 := by omega
  rcases this with rfl | rfl | rfl <;> decide

set_option maxRecDepth 100000 in
set_option maxHeartbeats 2000000 in
theorem channels_any (n t : Int) (w : World) : Calls Try.prog 19 #[.int .i64 n, .agg #[.int .i64 t]] w (ListPair (chF n t) w) := by
  obtain ⟨W0, hW0⟩ : ∃ W0, W0 = w.alloc (.cells #[.int .i64 t] 32) := ⟨_, rfl⟩
  have hc0 : W0.cell? ⟨w.heap.size, 0, none⟩ = some (.int .i64 t) := by rw [hW0]; simp [go_sem]
  have hB0 : Below w.heap.size w W0 := by rw [hW0]; exact (Below.refl _ w).alloc (Nat.le_refl _) _
  have h0s : W0.heap.size = w.heap.size + 1 := by rw [hW0]; simp
  have HB0 := Lib.hid hB0
  clear hB0
  by_cases hn : n < 1 ∨ 3 < n
  · have HF : Eqn (chF n t) ([], 2) := by rw [Eqn, chF, if_pos (by omega)]
    have hr : Eqn (rngF n) (0, 0, 2) := by rw [Eqn, rngF, if_neg (by omega), if_neg (by omega), if_neg (by omega)]
    rw [HF.out]
    have HR := Lib.hid (fun W => range_any n W)
    rw [hr.out] at HR
    clear HF hr hn
    go_enter Try.func19, Try.ntmps19
    go_wp2_with fail
    rw [← hW0]
    clear hW0
    refine (HR.out _).mono ?_
    rintro e w1 ⟨rfl, rfl⟩
    dsimp only [v3]
    go_wp2_with fail
    refine bodyPost_ret (v := .tuple #[.slice none 0 0, .int .i64 2]) (by simp [results, Try.results19, go_sem]) rfl ⟨_, rfl, World.ownsRow_nil _ _ _ _, HB0.out⟩
  · obtain ⟨hr, h38, h14, h1n⟩ := rng_band (n := n) (by omega) (by omega)
    have HR := Lib.hid (fun W => range_any n W)
    rw [hr] at HR
    dsimp only [v3] at HR
    have HVL := Lib.hid (fun W => bvalid_any t W)
    cases hv : vldT t with
    | false =>
      have HF : Eqn (chF n t) ([], 2) := by rw [Eqn, chF, if_pos (.inr (.inr hv))]
      rw [HF.out]
      rw [hv] at HVL
      generalize bandN n = bn at *
      obtain ⟨lo, m⟩ := bn
      dsimp only at *
      clear HF hr hn hv
      go_enter Try.func19, Try.ntmps19
      go_wp2_with fail
      rw [← hW0]
      clear hW0
      refine (HR.out _).mono ?_
      rintro e w1 ⟨rfl, rfl⟩
      go_wp2_with fail
      refine (HVL.out _).mono ?_
      rintro e W1 ⟨rfl, hb1⟩
      have HB1 := Lib.hid (HB0.out.trans (hb1.mono HB0.out.size))
      clear hb1
      go_wp2_with fail
      refine bodyPost_ret (v := .tuple #[.slice none 0 0, .int .i64 2]) (by simp [results, Try.results19, go_sem]) rfl ⟨_, rfl, World.ownsRow_nil _ _ _ _, HB1.out⟩
    | true =>
      have HF : Eqn (chF n t) ((upto (bandN n).1 (bandN n).2).filter (leftP t), 0) := by rw [Eqn, chF, if_neg (by rw [hv]; simp; omega)]
      rw [HF.out]
      rw [hv] at HVL
      generalize bandN n = bn at *
      obtain ⟨lo, m⟩ := bn
      dsimp only at *
      clear HF hr hn hv
      go_enter Try.func19, Try.ntmps19
      go_wp2_with fail
      rw [← hW0]
      clear hW0
      refine (HR.out _).mono ?_
      rintro e w1 ⟨rfl, rfl⟩
      go_wp2_with fail
      refine (HVL.out _).mono ?_
      rintro e W1 ⟨rfl, hb1⟩
      have HB1 := Lib.hid (HB0.out.trans (hb1.mono HB0.out.size))
      have hc1 : W1.cell? ⟨w.heap.size, 0, none⟩ = some (.int .i64 t) := (hb1.cell (p := ⟨w.heap.size, 0, none⟩) (by dsimp only; omega)).trans hc0
      have hs1 := hb1.size
      clear hb1 hc0
      go_wp2_with fail
      go_loopw [9, 10] (fun v i wr => ∃ k : Nat, k ≤ m ∧ i = .int .i64 ((lo + k : Nat) : Int) ∧ wr.ownsRow W1.heap.size 3 1 v ((upto lo k).filter (leftP t)).length (((upto lo k).filter (leftP t)).map intV) ∧ Below W1.heap.size W1 wr) (fun _ i _ => lo + m - (intOf i).toNat)
      case atStart => exact ⟨0, Nat.zero_le _, rfl, World.ownsRow_nil _ _ _ _, Below.refl _ _⟩
      case round =>
        obtain ⟨k, hk, rfl, hO, hB⟩ := hrel
        have hlen : ((upto lo k).filter (leftP t)).length ≤ 38 := by
          have := List.length_filter_le (leftP t) (upto lo k)
          rw [upto_len] at this
          omega
        obtain ⟨A1, c1, rfl, _⟩ := row1_of_own hO
        have hcr : wr.cell? ⟨w.heap.size, 0, none⟩ = some (.int .i64 t) := (hB.cell (p := ⟨w.heap.size, 0, none⟩) (by dsimp only; omega)).trans hc1
        have hbs := hB.size
        have H1 := Lib.hid (And.intro hO hB)
        by_cases hlt : k < m
        · have j0 : ((lo + k : Nat) : Int) ≤ (lo : Int) + (m : Int) - 1 := by omega
          have HS : Eqn ((upto lo (k + 1)).filter (leftP t)) ((upto lo k).filter (leftP t) ++ [((lo + k : Nat) : Int)].filter (leftP t)) := by rw [Eqn, upto_succ, List.filter_append]
          obtain ⟨W2, hW2⟩ : ∃ W2, W2 = wr.alloc (.cells #[.int .i64 ((lo + k : Nat) : Int)] 3) := ⟨_, rfl⟩
          have hO2 : W2.ownsRow W1.heap.size 3 1 (.slice A1 ((upto lo k).filter (leftP t)).length c1) ((upto lo k).filter (leftP t)).length (((upto lo k).filter (leftP t)).map intV) := by rw [hW2]; exact hO.alloc _
          have hr2 : Row1 intV W2 W2.heap.size (some ⟨wr.heap.size, 0, none⟩) 1 [((lo + k : Nat) : Int)] := by
            have := row1_new wr intV 3 [((lo + k : Nat) : Int)]
            rw [hW2, World.size_alloc]; exact this
          have hB2 : Below W1.heap.size W1 W2 := by rw [hW2]; exact hB.alloc hbs _
          have hfr := own_fresh hO (Nat.le_refl wr.heap.size)
          have HL := Lib.hid (left_any _ W1.heap.size t _ 1 1 W2 _ _ (by have := hB2.size; omega) hO2 hr2 (fun a ha => by cases ha; exact hfr) (by omega))
          generalize (upto lo k).filter (leftP t) = L at *
          generalize hcc : ((lo + k : Nat) : Int) = cc at *
          have HCC := Lib.hid hcc
          have HB2 := Lib.hid hB2
          have j1 : 0 ≤ cc := by omega
          have j2 : cc ≤ 1000 := by omega
          clear hO hB hO2 hr2 hB2 hfr hcc
          go_wp2_with fail
          rw [← hW2]
          clear hW2
          refine HL.out.mono ?_
          rintro e w3 ⟨v', rfl, hown, hb3, _, _⟩
          have H3 := Lib.hid (And.intro hown (HB2.out.trans hb3))
          clear hown hb3
          go_wp2_with fail
          go_roundw
          case rel => exact ⟨k + 1, by omega, by have := HCC.out; first | (congr 1; omega) | go_num, by rw [HS.out]; exact H3.out.1, H3.out.2⟩
          case measure => have := HCC.out; simp [intOf]; omega
        · obtain rfl : k = m := by omega
          have j0 : ¬ ((lo + k : Nat) : Int) ≤ (lo : Int) + (k : Int) - 1 := by omega
          clear hO hB
          go_wp2_with fail
          refine bodyPost_ret (v := .tuple #[.slice A1 _ c1, .int .i64 0]) (by simp [results, Try.results19, go_sem]) rfl ⟨_, rfl, own_low H1.out.1 (by omega), HB1.out.trans (H1.out.2.mono (by omega))⟩

def chR (n t : Int) (k : Nat) : List Int := (upto 2 k).filter fun c => decide (ofB c = n) && leftR t c
theorem chR_succ (n t : Int) (k : Nat) : chR n t (k + 1) = if ofB ((2 + k : Nat) : Int) = n ∧ leftR t ((2 + k : Nat) : Int) = true then chR n t k ++ [((2 + k : Nat) : Int)] else chR n t k := by
  unfold chR
  rw [upto_succ, List.filter_append]
  generalize ((2 + k : Nat) : Int) = c
  by_cases h1 : ofB c = n
  · by_cases h2 : leftR t c = true
    · simp [h1, h2]
    · simp [h1, h2]
  · simp [h1]
theorem chR_len (n t : Int) (k : Nat) : (chR n t k).length ≤ k := by
  have := List.length_filter_le (fun c => decide (ofB c = n) && leftR t c) (upto 2 k)
  rw [upto_len] at this
  exact this
theorem ch_agree0 : ∀ e : Fin 11, ∀ n : Fin 3, chR ((n.1 : Int) + 1) (keyE e.1) 50 = (chF ((n.1 : Int) + 1) (keyE e.1)).1 := by decide +kernel
theorem vldT_key {t : Int} (h : vldT t = true) : ∃ e, e < 11 ∧ t = keyE e := by
  by_cases h1 : ∃ e, e < 11 ∧ t = keyE e
  · exact h1
  · have := blkN_no t (fun e he h2 => h1 ⟨e, he, h2⟩)
    unfold vldT at h
    rw [this] at h
    cases h
theorem ch_agree {n t : Int} (h1 : 1 ≤ n) (h3 : n ≤ 3) (hv : vldT t = true) : chR n t 50 = (chF n t).1 := by
  obtain ⟨e, he, rfl⟩ := vldT_key hv
  have := ch_agree0 ⟨e, he⟩ ⟨(n - 1).toNat, by omega⟩
  dsimp only at this
  rw [show (((n - 1).toNat : Nat) : Int) + 1 = n by omega] at this
  exact this

set_option maxRecDepth 100000 in
set_option maxHeartbeats 2000000 in
theorem channelsR_any (n t : Int) (w : World) : Calls Try.prog 21 #[.int .i64 n, .agg #[.int .i64 t]] w (NewInts (chR n t 50) w) := by
  obtain ⟨i0, hi, hz0, hz1, hz2⟩ := info_parts int_info
  obtain ⟨W0, hW0⟩ : ∃ W0, W0 = w.alloc (.cells #[.int .i64 t] 32) := ⟨_, rfl⟩
  have hc0 : W0.cell? ⟨w.heap.size, 0, none⟩ = some (.int .i64 t) := by rw [hW0]; simp [go_sem]
  have hB0 : Below w.heap.size w W0 := by rw [hW0]; exact (Below.refl _ w).alloc (Nat.le_refl _) _
  have h0s : W0.heap.size = w.heap.size + 1 := by rw [hW0]; simp
  have HB0 := Lib.hid hB0
  clear hB0
  go_enter Try.func21, Try.ntmps21
  go_wp2_with fail
  rw [← hW0]
  clear hW0
  go_loopw [5, 6] (fun v i wr => ∃ k : Nat, k ≤ 50 ∧ i = .int .i64 ((2 + k : Nat) : Int) ∧ wr.ownsRow W0.heap.size 3 1 v (chR n t k).length ((chR n t k).map intV) ∧ Below W0.heap.size W0 wr) (fun _ i _ => 52 - (intOf i).toNat)
  case atStart => exact ⟨0, Nat.zero_le _, rfl, World.ownsRow_nil _ _ _ _, Below.refl _ _⟩
  case round =>
    obtain ⟨k, hk, rfl, hO, hB⟩ := hrel
    have hlen := chR_len n t k
    obtain ⟨A1, c1, rfl, _⟩ := row1_of_own hO
    have hcr : wr.cell? ⟨w.heap.size, 0, none⟩ = some (.int .i64 t) := (hB.cell (p := ⟨w.heap.size, 0, none⟩) (by dsimp only; omega)).trans hc0
    have hbs := hB.size
    have H1 := Lib.hid (And.intro hO hB)
    have hlt0 : w.heap.size < wr.heap.size := by omega
    clear hO hB hc0
    by_cases hlt : k < 50
    · have HS := Eqn.mk (chR_succ n t k)
      generalize chR n t k = L at *
      generalize hcc : ((2 + k : Nat) : Int) = cc at *
      have HCC := Lib.hid hcc
      have j0 : cc ≤ 51 := by omega
      have j1 : 2 ≤ cc := by omega
      have HO := Lib.hid (fun W => ofRef_any cc W)
      have HLF := Lib.hid (fun W => leftR_any cc t W)
      generalize ofB cc = ob at *
      clear hcc
      by_cases ho : ob = n
      · have hod : (ob == n) = true := by simpa using ho
        cases hlf : leftR t cc with
        | true =>
          have HS2 : Eqn (chR n t (k + 1)) (L ++ [cc]) := by rw [Eqn, HS.out, if_pos ⟨ho, hlf⟩]
          rw [hlf] at HLF
          clear HS ho hlf
          go_wp2_with fail
          refine (HO.out _).mono ?_
          rintro e w1 ⟨rfl, rfl⟩
          go_wp2_with fail
          refine (HLF.out _).mono ?_
          rintro e w1 ⟨rfl, hb1⟩
          have H2 := Lib.hid (And.intro (own_keep H1.out.1 hb1) (H1.out.2.trans (hb1.mono hbs)))
          have hs1 := hb1.size
          clear hb1
          go_wp2_with (at_builtin; refine wpList_append_own_at _ rfl _ _ 38 rfl W0.heap.size 3 i0 (.int .i64 0) 1 8 Try.underlying38 hi hz0 hz1 hz2 rfl (by decide) _ _ _ rfl (H2.out.1.alloc _) ⟨w1.heap.size, 0, none⟩ 1 1 [.int .i64 cc] rfl rfl (cell_one_new _ _ _) (by simp [Value.oneCell']) (by unfold maxLen; omega) (by omega) (by simp; omega) ?_; intro v' w3 hown' hgrow hnil hat; have H3 : Hid (w3.ownsRow W0.heap.size 3 1 v' (L.length + 1) (L.map intV ++ [.int .i64 cc]) ∧ Below W0.heap.size W0 w3) := Lib.hid ⟨hown', (H2.out.2.alloc (by omega) _).grown hgrow (by simp; omega) (fun g hg => own_ge H2.out.1 g hg)⟩; clear hown' hgrow hnil hat)
          go_roundw
          case rel => exact ⟨k + 1, by omega, by have := HCC.out; first | (congr 1; omega) | go_num, by rw [HS2.out, List.length_append, List.map_append]; exact H3.out.1, H3.out.2⟩
          case measure => have := HCC.out; simp [intOf]; omega
        | false =>
          have HS2 : Eqn (chR n t (k + 1)) L := by rw [Eqn, HS.out, if_neg (fun h => by rw [hlf] at h; cases h.2)]
          rw [hlf] at HLF
          clear HS ho hlf
          go_wp2_with fail
          refine (HO.out _).mono ?_
          rintro e w1 ⟨rfl, rfl⟩
          go_wp2_with fail
          refine (HLF.out _).mono ?_
          rintro e w1 ⟨rfl, hb1⟩
          have H2 := Lib.hid (And.intro (own_keep H1.out.1 hb1) (H1.out.2.trans (hb1.mono hbs)))
          clear hb1
          go_wp2_with fail
          go_roundw
          case rel => exact ⟨k + 1, by omega, by have := HCC.out; first | (congr 1; omega) | go_num, by rw [HS2.out]; exact H2.out.1, H2.out.2⟩
          case measure => have := HCC.out; simp [intOf]; omega
      · have hod : (ob == n) = false := by simpa using ho
        have HS2 : Eqn (chR n t (k + 1)) L := by rw [Eqn, HS.out, if_neg (fun h => ho h.1)]
        clear HS ho HLF
        go_wp2_with fail
        refine (HO.out _).mono ?_
        rintro e w1 ⟨rfl, rfl⟩
        go_wp2_with fail
        go_roundw
        case rel => exact ⟨k + 1, by omega, by have := HCC.out; first | (congr 1; omega) | go_num, by rw [HS2.out]; exact H1.out.1, H1.out.2⟩
        case measure => have := HCC.out; simp [intOf]; omega
    · obtain rfl : k = 50 := by omega
      go_wp2_with fail
      go_ret
      exact ⟨_, rfl, own_low H1.out.1 (by omega), HB0.out.trans (H1.out.2.mono (by omega))⟩

def sameL : List Int → List Int → Bool
  | [], [] => true
  | x :: r, y :: s => if x = y then sameL r s else false
  | _, _ => false
theorem sameL_refl (l : List Int) : sameL l l = true := by induction l with | nil => rfl | cons x r ih => simp [sameL, ih]
theorem sameL_iff : ∀ (a b : List Int), sameL a b = true ↔ a = b := by
  intro a
  induction a with
  | nil => intro b; cases b <;> simp [sameL]
  | cons x r ih =>
    intro b
    cases b with
    | nil => simp [sameL]
    | cons y s =>
      rw [sameL]
      by_cases h : x = y
      · rw [if_pos h, ih, h]; simp
      · rw [if_neg h]; simp [h]
theorem sameL_len {a b : List Int} (h : a.length ≠ b.length) : sameL a b = false := by
  cases hs : sameL a b with
  | false => rfl
  | true => exact absurd (congrArg List.length ((sameL_iff a b).1 hs)) h

theorem sameInts_any (A B : Option Addr) (n c m d : Nat) (w : World) (D : Nat) (a b : List Int) (hn : n ≤ 100000) (ha : Row1 intV w D A n a) (hb : Row1 intV w D B m b) :
    Calls Try.prog 20 #[.slice A n c, .slice B m d] w fun e w' => e = .returned (.bool (sameL a b)) ∧ Below D w w' := by
  have Ha := Lib.hid ha
  have Hb := Lib.hid hb
  have Hla := Eqn.mk ha.1
  have Hlb := Eqn.mk hb.1
  clear ha hb
  by_cases hnm : n = m
  · subst hnm
    go_enter Try.func20, Try.ntmps20
    go_wp2_with fail
    go_loopw [5] (fun i wr => ∃ k : Nat, k ≤ n ∧ i = .int .i64 k ∧ Eqn (sameL a b) (sameL (a.drop k) (b.drop k)) ∧ Below D w wr) (fun i _ => n - (intOf i).toNat)
    case atStart => exact ⟨0, Nat.zero_le _, rfl, rfl, Below.refl _ _⟩
    case round =>
      obtain ⟨k, hk, rfl, HE, hB⟩ := hrel
      have HB := Lib.hid hB
      by_cases hlt : k < n
      · obtain ⟨x, hx, hxd⟩ := drop_at (xs := a) (k := k) (by rw [Hla.out]; exact hlt)
        obtain ⟨y, hy, hyd⟩ := drop_at (xs := b) (k := k) (by rw [Hlb.out]; exact hlt)
        obtain ⟨b1, o1, hA, hl1, hc1⟩ := (Ha.out.below hB).2 (by omega)
        obtain ⟨b2, o2, hB2, hl2, hc2⟩ := (Hb.out.below hB).2 (by omega)
        subst hA hB2
        have c1 := hc1 k x hx
        have c2 := hc2 k y hy
        simp only [intV] at c1 c2
        have HE2 := HE.out
        rw [hxd, hyd, sameL] at HE2
        have j0 : (k : Int) < (n : Int) := by omega
        clear hc1 hc2 hx hy hxd hyd HE hB
        by_cases he : x = y
        · have HV := Eqn.mk (HE2.trans (if_pos he))
          have hd : (x == y) = true := by simpa using he
          have hd2 : (x != y) = false := by simpa using he
          clear HE2 he
          go_wp2_with fail
          refine Lx.region (C := fun _ => True) (hs := []) (by kernel_rfl) (by kernel_rfl) trivial ?_
          repeat' (first
            | (refine Lx.lex_no (Lx.n1 rfl rfl rfl (by with_reducible rfl)) (fun K hK => ?_); go_simp; refine hK _ ?_; clear hK K)
            | (refine Lx.lex_no (Lx.n0 rfl rfl rfl (by with_reducible rfl)) (fun K hK => ?_); go_simp; refine hK _ ?_; clear hK K)
            | (refine Lx.lex_no (Lx.n2 rfl rfl rfl) (fun K hK => ?_); go_simp; refine hK _ ?_; clear hK K)
            | (refine Lx.lex_pure (v := ?_) rfl (by first | exact Lx.w0 rfl | exact Lx.w1 rfl rfl rfl (by with_reducible rfl)) ?_ (fun K hK => ?_); rotate_left 1; (intro w' hCw; (try dsimp only at hCw); go_simp; done); go_simp; refine hK _ ?_; clear hK K)
            | (refine Lx.lex_pure (v := ?_) rfl (by first | exact Lx.w0 rfl | exact Lx.w1 rfl rfl rfl (by with_reducible rfl)) ?_ (fun K hK => ?_); rotate_left 1; (intro w' hCw; (try dsimp only at hCw); go_simp; with_reducible rfl); go_simp; refine hK _ ?_; clear hK K)
            | (refine Lx.lex_read (v := ?_) rfl (by first | exact Lx.w0 rfl | exact Lx.w1 rfl rfl rfl (by with_reducible rfl)) ?_ (fun K hK => ?_); rotate_left 1; (go_simp; done); go_simp; refine hK _ ?_; clear hK K)
            | (refine Lx.lex_read (v := ?_) rfl (by first | exact Lx.w0 rfl | exact Lx.w1 rfl rfl rfl (by with_reducible rfl)) ?_ (fun K hK => ?_); rotate_left 1; (go_simp; with_reducible rfl); go_simp; refine hK _ ?_; clear hK K)
            | (refine Lx.lex_eff rfl (by first | exact Lx.w0 rfl | exact Lx.w1 rfl rfl rfl (by with_reducible rfl)) (fun K hK => ?_); go_simp; (first | fail | skip); refine hK _ _ (trivial) ?_; clear hK K)
            | (refine Lx.lex_cases rfl rfl rfl (fun hgd K hK => ?_) (fun hgd K hK => ?_) <;> (try simp only [decide_eq_true_eq, decide_eq_false_iff_not] at hgd) <;> (first | (exfalso; omega) | (go_simp; refine hK _ ?_; clear hK K))))
          all_goals (refine Lx.lex_nil ?_)
          go_wp2_with fail
          go_roundw
          case rel => exact ⟨k + 1, by omega, by go_num, HV, HB.out.drew⟩
          case measure => simp [intOf]; omega
        · have HV := Eqn.mk (HE2.trans (if_neg he))
          have hd : (x == y) = false := by simpa using he
          have hd2 : (x != y) = true := by simpa using he
          clear HE2 he
          go_wp2_with fail
          refine Lx.region (C := fun _ => True) (hs := []) (by kernel_rfl) (by kernel_rfl) trivial ?_
          repeat' (first
            | (refine Lx.lex_no (Lx.n1 rfl rfl rfl (by with_reducible rfl)) (fun K hK => ?_); go_simp; refine hK _ ?_; clear hK K)
            | (refine Lx.lex_no (Lx.n0 rfl rfl rfl (by with_reducible rfl)) (fun K hK => ?_); go_simp; refine hK _ ?_; clear hK K)
            | (refine Lx.lex_no (Lx.n2 rfl rfl rfl) (fun K hK => ?_); go_simp; refine hK _ ?_; clear hK K)
            | (refine Lx.lex_pure (v := ?_) rfl (by first | exact Lx.w0 rfl | exact Lx.w1 rfl rfl rfl (by with_reducible rfl)) ?_ (fun K hK => ?_); rotate_left 1; (intro w' hCw; (try dsimp only at hCw); go_simp; done); go_simp; refine hK _ ?_; clear hK K)
            | (refine Lx.lex_pure (v := ?_) rfl (by first | exact Lx.w0 rfl | exact Lx.w1 rfl rfl rfl (by with_reducible rfl)) ?_ (fun K hK => ?_); rotate_left 1; (intro w' hCw; (try dsimp only at hCw); go_simp; with_reducible rfl); go_simp; refine hK _ ?_; clear hK K)
            | (refine Lx.lex_read (v := ?_) rfl (by first | exact Lx.w0 rfl | exact Lx.w1 rfl rfl rfl (by with_reducible rfl)) ?_ (fun K hK => ?_); rotate_left 1; (go_simp; done); go_simp; refine hK _ ?_; clear hK K)
            | (refine Lx.lex_read (v := ?_) rfl (by first | exact Lx.w0 rfl | exact Lx.w1 rfl rfl rfl (by with_reducible rfl)) ?_ (fun K hK => ?_); rotate_left 1; (go_simp; with_reducible rfl); go_simp; refine hK _ ?_; clear hK K)
            | (refine Lx.lex_eff rfl (by first | exact Lx.w0 rfl | exact Lx.w1 rfl rfl rfl (by with_reducible rfl)) (fun K hK => ?_); go_simp; (first | fail | skip); refine hK _ _ (trivial) ?_; clear hK K)
            | (refine Lx.lex_cases rfl rfl rfl (fun hgd K hK => ?_) (fun hgd K hK => ?_) <;> (try simp only [decide_eq_true_eq, decide_eq_false_iff_not] at hgd) <;> (first | (exfalso; omega) | (go_simp; refine hK _ ?_; clear hK K))))
          all_goals (refine Lx.lex_nil ?_)
          go_wp2_with fail
          go_ret
          exact ⟨ret_bool HV.out.symm, HB.out.drew⟩
      · have HV : Eqn (sameL a b) true := by rw [Eqn, HE.out, drop_end (by rw [Hla.out]; omega), drop_end (by rw [Hlb.out]; omega)]; rfl
        clear HE hB
        go_wp2_with fail
        go_ret
        exact ⟨ret_bool HV.out.symm, HB.out⟩
  · have HV := Eqn.mk (sameL_len (a := a) (b := b) (by rw [Hla.out, Hlb.out]; exact hnm))
    have hne : ((n : Int) != (m : Int)) = true := by simp; omega
    go_enter Try.func20, Try.ntmps20
    go_wp2_with fail
    go_ret
    exact ⟨ret_bool HV.out.symm, Below.refl _ _⟩
end Go.Proofs.Ytpdhelhngdeoeaa
