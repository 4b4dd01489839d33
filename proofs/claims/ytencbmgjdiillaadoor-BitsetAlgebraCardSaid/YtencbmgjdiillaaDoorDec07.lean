/- The contract of Decode: the set of bytes. -/
import Derived.Test.YtencbmgjdiillaaDoorParse07
namespace Go.Proofs.YtencbmgjdiillaaDoor
open Go.RowKit

/-- the set of bytes, byte by byte -/
def decGo (acc m : Nat) : List UInt8 → Nat
  | [] => acc
  | c :: r => decGo (acc ||| c.toNat * 2 ^ (8 * m)) (m + 1) r
def decF (l : List UInt8) : Nat × Int := if 64 < l.length then (0, 5) else if l.getLast? = some 0 then (0, 6) else (decGo 0 0 l, 0)

theorem shl_tb (c n i : Nat) : (c * 2 ^ n).testBit i = (decide (n ≤ i) && c.testBit (i - n)) := by rw [Nat.mul_comm, Nat.testBit_two_pow_mul]
theorem byte_tb {c : Nat} (hc : c < 256) {i : Nat} (hi : 8 ≤ i) : c.testBit i = false := Nat.testBit_lt_two_pow (Nat.lt_of_lt_of_le (show c < 2 ^ 8 from hc) (Nat.pow_le_pow_right (by decide) hi))
theorem wd_byte (c m k : Nat) (hc : c < 256) : wd (c * 2 ^ (8 * m)) k = if k = m / 8 then c * 2 ^ (8 * (m % 8)) else 0 := by
  apply Nat.eq_of_testBit_eq
  intro j
  rw [wd_tb, shl_tb]
  split
  · rename_i h
    rw [shl_tb]
    by_cases hj : j < 64
    · simp only [hj, decide_true, Bool.true_and]
      by_cases h2 : 8 * (m % 8) ≤ j
      · simp only [h2, decide_true, Bool.true_and, show 8 * m ≤ 64 * k + j by omega, show 64 * k + j - 8 * m = j - 8 * (m % 8) by omega]
      · simp [h2, show ¬ 8 * m ≤ 64 * k + j by omega]
    · by_cases h2 : 8 * (m % 8) ≤ j
      · rw [byte_tb hc (i := j - 8 * (m % 8)) (by omega)]; simp [hj]
      · simp [hj, h2]
  · rename_i h
    rw [Nat.zero_testBit]
    by_cases hj : j < 64
    · by_cases h2 : 8 * m ≤ 64 * k + j
      · rw [byte_tb hc (i := 64 * k + j - 8 * m) (by omega)]; simp
      · simp [h2]
    · simp [hj]
theorem wd_orbyte (S c m k : Nat) (hc : c < 256) : wd (S ||| c * 2 ^ (8 * m)) k = if k = m / 8 then wd S k ||| c * 2 ^ (8 * (m % 8)) else wd S k := by
  rw [wd_or, wd_byte c m k hc]
  split <;> simp
theorem byte_shl {c j : Nat} (hc : c < 256) (hj : j < 8) : c * 2 ^ (8 * j) < 18446744073709551616 := by
  have h1 : 2 ^ (8 * j) ≤ 2 ^ 56 := Nat.pow_le_pow_right (by decide) (by omega)
  have h2 : c * 2 ^ (8 * j) ≤ 255 * 2 ^ 56 := Nat.mul_le_mul (by omega) h1
  omega
theorem Blk.orbyte {W : World} {g t S c m : Nat} (hS : Blk W g t (tabL 8 (sC S))) (hc : c < 256) :
    Blk (W.setCell ⟨g, m / 8, none⟩ (.int .u64 ((wd S (m / 8) ||| c * 2 ^ (8 * (m % 8)) : Nat) : Int))) g t (tabL 8 (sC (S ||| c * 2 ^ (8 * m)))) := by
  have := hS.set_ (m / 8) (.int .u64 ((wd S (m / 8) ||| c * 2 ^ (8 * (m % 8)) : Nat) : Int))
  rw [tabL_set] at this
  refine this.tab fun i hi => ?_
  unfold sC
  rw [wd_orbyte _ _ _ _ hc]
  split
  · rename_i h; subst h; rfl
  · rfl

theorem dec_fit : ∀ (l : List UInt8) (acc m : Nat), Fit acc → m + l.length ≤ 64 → Fit (decGo acc m l) := by
  intro l
  induction l with
  | nil => intro acc m h _; exact h
  | cons c r ih =>
    intro acc m h hm
    rw [decGo]
    simp only [List.length_cons] at hm
    refine ih _ _ (or_lt h (fun i hi => ?_)) (by omega)
    rw [shl_tb]
    by_cases h2 : 8 * m ≤ i
    · rw [byte_tb c.toNat_lt (i := i - 8 * m) (by omega)]; simp
    · simp [h2]
theorem last_at {l : List UInt8} {n : Nat} (hn : l.length = n + 1) : l.getLast? = l[n]? := by rw [List.getLast?_eq_getElem?, hn]; rfl

set_option maxHeartbeats 4000000 in
theorem decode_any (A : Option Addr) (n c : Nat) (w : World) (l : List UInt8) (hn : n ≤ 9223372036854775807) (hl : Row1 byV w w.heap.size A n l) :
    Calls Tryd.prog 28 #[.slice A n c] w (RetPost (.tuple #[sV (decF l).1, .int .i64 (decF l).2]) w.heap.size w) := by
  have Hl := Lib.hid hl
  have Hlen := Eqn.mk hl.1
  clear hl
  by_cases h64 : 64 < n
  · have HF : Eqn (decF l) (0, 5) := by rw [Eqn, decF, if_pos (by rw [Hlen.out]; exact h64)]
    rw [HF.out]
    have h1 : 64 < (n : Int) := by omega
    rw [sV_zero]
    clear HF h64
    go_enter Tryd.func28, Tryd.ntmps28
    go_wp2_with fail
    refine bodyPost_ret (v := .tuple #[.agg #[.int .u64 0, .int .u64 0, .int .u64 0, .int .u64 0, .int .u64 0, .int .u64 0, .int .u64 0, .int .u64 0], .int .i64 5]) (by simp [results, Tryd.results28, go_sem]) rfl ⟨rfl, ?_⟩
    exact (Below.refl _ w).alloc (Nat.le_refl _) _
  · have h1 : ¬ 64 < (n : Int) := by omega
    rcases Nat.eq_zero_or_pos n with h0 | h0
    · subst h0
      have HD : Eqn (decF l) (0, 0) := by
        have : l = [] := List.eq_nil_of_length_eq_zero Hlen.out
        subst this; rfl
      rw [HD.out, sV_zero]
      dsimp only
      clear h1
      go_enter Tryd.func28, Tryd.ntmps28
      go_wp2_with fail
      obtain ⟨W0, hW0⟩ : ∃ W0, W0 = (w.alloc (.cells (sL 0).toArray 28)).alloc (.cells (sL 0).toArray 28) := ⟨_, rfl⟩
      have hR : Blk W0 w.heap.size 28 (tabL 8 (sC 0)) := by rw [hW0, ← sL_tab]; exact (blk_new w _ _).alloc _
      have hS : Blk W0 (w.heap.size + 1) 28 (tabL 8 (sC 0)) := by
        rw [hW0, ← sL_tab]; have := blk_new (w.alloc (.cells (sL 0).toArray 28)) (sL 0) 28; rwa [World.size_alloc] at this
      have hB : Below w.heap.size w W0 := by rw [hW0]; exact ((Below.refl _ w).alloc (Nat.le_refl _) _).alloc (by simp) _
      rw [sL_zero] at hW0
      rw [← hW0]
      have H0 := Lib.hid (And.intro hS (And.intro hR hB))
      clear hW0 hS hR hB
      go_loop [26] (fun i => i = .int .i64 0) (fun _ => 0)
      case atStart => rfl
      case round =>
        subst hrel
        obtain ⟨c0, c1, c2, c3, c4, c5, c6, c7⟩ := H0.out.1.eight
        obtain ⟨d0, d1, d2, d3, d4, d5, d6, d7⟩ := H0.out.2.1.eight
        have hf : ∀ o, W0.frozen? ⟨w.heap.size, o, none⟩ = false := H0.out.2.1.frozen
        have hlt2 := H0.out.2.1.lt
        simp only [wd_zero] at c0 c1 c2 c3 c4 c5 c6 c7 d0 d1 d2 d3 d4 d5 d6 d7
        go_wp2_with fail
        have b2 := H0.out.2.1.set8 0
        have HB2 := below_set8 0 H0.out.2.2 (Nat.le_refl w.heap.size)
        rw [set8_zero] at b2 HB2
        change bodyPost _ _ _ _ _ (zero8 W0 w.heap.size)
        generalize zero8 W0 w.heap.size = W2 at *
        obtain ⟨x0, x1, x2, x3, x4, x5, x6, x7⟩ := b2.eight
        simp only [wd_zero] at x0 x1 x2 x3 x4 x5 x6 x7
        refine bodyPost_ret (v := .tuple #[.agg #[.int .u64 0, .int .u64 0, .int .u64 0, .int .u64 0, .int .u64 0, .int .u64 0, .int .u64 0, .int .u64 0], .int .i64 0]) (by simp [results, Tryd.results28, go_sem, x0, x1, x2, x3, x4, x5, x6, x7]) rfl ⟨rfl, HB2⟩
    · obtain ⟨n', rfl⟩ : ∃ n', n = n' + 1 := ⟨n - 1, by omega⟩
      obtain ⟨p, hp⟩ : ∃ p, l[n']? = some p := ⟨_, List.getElem?_eq_getElem (by rw [Hlen.out]; omega)⟩
      obtain ⟨b, off, hAA, hbl, hc⟩ := Hl.out.2 (by omega)
      subst hAA
      have c9 : ∀ o, (w.alloc o).cell? ⟨b, off + n', none⟩ = some (.int .u8 (p.toNat : Int)) := fun o => by
        have := hc n' p hp
        rw [((Below.refl w.heap.size w).alloc (Nat.le_refl _) o).cell (p := ⟨b, off + n', none⟩) hbl]
        exact this
      have HLA := Eqn.mk (last_at Hlen.out)
      have hbl2 : ∀ o, b < (w.alloc o).heap.size := fun o => by simp; omega
      by_cases hp0 : p.toNat = 0
      · have HF : Eqn (decF l) (0, 6) := by
          rw [Eqn, decF, if_neg (by rw [Hlen.out]; omega), if_pos (by rw [HLA.out, hp]; congr 1; exact UInt8.toNat_inj.1 hp0)]
        rw [HF.out]
        rw [sV_zero]
        have hp1 : (p.toNat : Int) = 0 := by omega
        clear HF h64 hp hc hp0
        go_enter Tryd.func28, Tryd.ntmps28
        go_wp2_with fail
        refine bodyPost_ret (v := .tuple #[.agg #[.int .u64 0, .int .u64 0, .int .u64 0, .int .u64 0, .int .u64 0, .int .u64 0, .int .u64 0, .int .u64 0], .int .i64 6]) (by simp [results, Tryd.results28, go_sem]) rfl ⟨rfl, ?_⟩
        exact (Below.refl _ w).alloc (Nat.le_refl _) _
      · have HD : Eqn (decF l) (decGo 0 0 l, 0) := by
          rw [Eqn, decF, if_neg (by rw [Hlen.out]; omega), if_neg (by rw [HLA.out, hp]; intro h; injection h with h; subst h; exact hp0 rfl)]
        have hp1 : ¬ (p.toNat : Int) = 0 := by omega
        clear hp hc hp0
        go_enter Tryd.func28, Tryd.ntmps28
        go_wp2_with fail
        clear h1 hp1 c9
        obtain ⟨W0, hW0⟩ : ∃ W0, W0 = (w.alloc (.cells (sL 0).toArray 28)).alloc (.cells (sL 0).toArray 28) := ⟨_, rfl⟩
        have hR : Blk W0 w.heap.size 28 (tabL 8 (sC 0)) := by rw [hW0, ← sL_tab]; exact (blk_new w _ _).alloc _
        have hS : Blk W0 (w.heap.size + 1) 28 (tabL 8 (sC 0)) := by
          rw [hW0, ← sL_tab]; have := blk_new (w.alloc (.cells (sL 0).toArray 28)) (sL 0) 28; rwa [World.size_alloc] at this
        have hB : Below w.heap.size w W0 := by rw [hW0]; exact ((Below.refl _ w).alloc (Nat.le_refl _) _).alloc (by simp) _
        rw [sL_zero] at hW0
        rw [← hW0]
        have H0 := Lib.hid (And.intro hS (And.intro hR hB))
        clear hW0 hS hR hB
        go_loopw [26] (fun i wr => ∃ (k S : Nat), k ≤ n' + 1 ∧ i = .int .i64 k ∧ Blk wr (w.heap.size + 1) 28 (tabL 8 (sC S)) ∧ Blk wr w.heap.size 28 (tabL 8 (sC 0)) ∧ Below w.heap.size w wr ∧ Eqn (decGo 0 0 l) (decGo S k (l.drop k))) (fun i _ => n' + 1 - (intOf i).toNat)
        case atStart => exact ⟨0, 0, Nat.zero_le _, rfl, H0.out.1, H0.out.2.1, H0.out.2.2, rfl⟩
        case round =>
          clear H0
          obtain ⟨k, S, hk, rfl, hS, hR, hB, HE⟩ := hrel
          have H1 := Lib.hid (And.intro hS (And.intro hR hB))
          by_cases hlt : k < n' + 1
          · obtain ⟨p, hp, hpd⟩ := drop_at (xs := l) (k := k) (by rw [Hlen.out]; exact hlt)
            obtain ⟨b1, off1, hAA, hbl1, hc⟩ := (Hl.out.below hB).2 (by omega)
            cases hAA
            have c0 := hc k p hp
            simp only [byV] at c0
            have hp2 := p.toNat_lt
            have HE2 : Eqn (decGo 0 0 l) (decGo (S ||| p.toNat * 2 ^ (8 * k)) (k + 1) (l.drop (k + 1))) := by
              have := HE.out; rw [hpd, decGo] at this; exact this
            have j0 : (k : Int) < ((n' + 1 : Nat) : Int) := by omega
            obtain ⟨ki, hki⟩ : ∃ ki : Int, (k : Int) = ki := ⟨_, rfl⟩
            have e1 : IntKind.i64.wrap (ki.tdiv 8) = ((k / 8 : Nat) : Int) := by rw [IntWalk.i64_quo _ _ (by omega)]; omega
            have e2 : ki.tmod 8 = ((k % 8 : Nat) : Int) := by rw [IntWalk.rem_in _ _ (by omega)]; omega
            have e4 : IntKind.i64.wrap (8 * ((k % 8 : Nat) : Int)) = ((8 * (k % 8) : Nat) : Int) := by rw [IntWalk.i64_in _ (by omega)]; omega
            have hb8 := byte_shl hp2 (show k % 8 < 8 by omega)
            have e5 : IntKind.u64.wrap ((p.toNat : Int) * 2 ^ (8 * (k % 8))) = ((p.toNat * 2 ^ (8 * (k % 8)) : Nat) : Int) := by
              rw [pow_cast]
              generalize 2 ^ (8 * (k % 8)) = y at *
              rw [← Int.natCast_mul]
              generalize p.toNat * y = z at *
              rw [IntWalk.u64_in _ (by omega)]
            have e6 : bits .or .u64 (wd S (k / 8)) ((p.toNat * 2 ^ (8 * (k % 8)) : Nat) : Int) = ((wd S (k / 8) ||| p.toNat * 2 ^ (8 * (k % 8)) : Nat) : Int) := bits_or_u64_nat _ _ (wd_lt _ _) hb8
            have e7 : IntKind.u64.wrap (p.toNat : Int) = (p.toNat : Int) := by rw [IntWalk.u64_in _ (by omega)]
            have hk8 : k / 8 < 8 := by omega
            have HB8 : Hid (Blk (wr.setCell ⟨w.heap.size + 1, k / 8, none⟩ (.int .u64 ((wd S (k / 8) ||| p.toNat * 2 ^ (8 * (k % 8)) : Nat) : Int))) (w.heap.size + 1) 28 (tabL 8 (sC (S ||| p.toNat * 2 ^ (8 * k))))) := Lib.hid (H1.out.1.orbyte hp2)
            have c1 : wr.cell? ⟨w.heap.size + 1, k / 8, none⟩ = some (.int .u64 (wd S (k / 8))) := hS.cell (tabL_at hk8)
            have f1 : wr.frozen? ⟨w.heap.size + 1, k / 8, none⟩ = false := hS.frozen _
            have hlt2 := hS.lt
            generalize hz : p.toNat * 2 ^ (8 * (k % 8)) = z at *
            generalize hx : wd S (k / 8) ||| z = x at *
            generalize hq : k / 8 = q at *
            generalize hj : k % 8 = j at *
            have j1 : (q : Int) < 8 := by omega
            have HKI := Lib.hid hki
            have hj8 : j < 8 := by omega
            have j2 : ki.toNat = k := by omega
            have j3 : 0 ≤ ki := by omega
            rw [hki] at j0
            have j4 := j0
            rw [hki]
            clear hc hp hpd HE hS hR hB hz hx hq hj hb8 hp2 hki
            go_wp2_with fail
            refine Lx.region (C := fun _ => True) (hs := []) (by kernel_rfl) (by kernel_rfl) trivial ?_
            repeat' (first
              | (refine Lx.lex_no (Lx.n1 rfl rfl rfl (by with_reducible rfl)) (fun K hK => ?_); go_simp; refine hK _ ?_; clear hK K)
              | (refine Lx.lex_no (Lx.n0 rfl rfl rfl (by with_reducible rfl)) (fun K hK => ?_); go_simp; refine hK _ ?_; clear hK K)
              | (refine Lx.lex_no (Lx.n2 rfl rfl rfl) (fun K hK => ?_); go_simp; refine hK _ ?_; clear hK K)
              | (refine Lx.lex_pure (v := ?_) rfl (by first | exact Lx.w0 rfl | exact Lx.w1 rfl rfl rfl (by with_reducible rfl)) ?_ (fun K hK => ?_); rotate_left 1; (intro w' hCw; (try dsimp only at hCw); go_simp; done); go_simp; refine hK _ ?_; clear hK K)
              | (refine Lx.lex_pure (v := ?_) rfl (by first | exact Lx.w0 rfl | exact Lx.w1 rfl rfl rfl (by with_reducible rfl)) ?_ (fun K hK => ?_); rotate_left 1; (intro w' hCw; (try dsimp only at hCw); go_simp; with_reducible rfl); go_simp; refine hK _ ?_; clear hK K)
              | (refine Lx.lex_read (v := ?_) rfl (by first | exact Lx.w0 rfl | exact Lx.w1 rfl rfl rfl (by with_reducible rfl)) ?_ (fun K hK => ?_); rotate_left 1; (go_simp; done); go_simp; refine hK _ ?_; clear hK K)
              | (refine Lx.lex_read (v := ?_) rfl (by first | exact Lx.w0 rfl | exact Lx.w1 rfl rfl rfl (by with_reducible rfl)) ?_ (fun K hK => ?_); rotate_left 1; (go_simp; with_reducible rfl); go_simp; refine hK _ ?_; clear hK K)
              | (refine Lx.lex_eff rfl (by first | exact Lx.w0 rfl | exact Lx.w1 rfl rfl rfl (by with_reducible rfl)) (fun K hK => ?_); go_simp; (first | fail | skip); refine hK _ _ (trivial) ?_; clear hK K)
              | (refine Lx.lex_cases rfl rfl rfl (fun hgd K hK => ?_) (fun hgd K hK => ?_) <;> (try simp only [decide_eq_true_eq, decide_eq_false_iff_not] at hgd) <;> (first | (exfalso; omega) | (go_simp; refine hK _ ?_; clear hK K))))
            all_goals (refine Lx.lex_nil ?_)
            go_wp2_with fail
            have HE5 := Lib.hid e5
            have HE6 := Lib.hid e6
            clear e1 e2 e4 e5 e6 e7 j2
            go_roundw
            case rel => exact ⟨k + 1, S ||| p.toNat * 2 ^ (8 * k), by omega, by rw [← HKI.out]; go_num, by rw [HE5.out, HE6.out]; exact HB8.out.drew, (H1.out.2.1.other _ _ (by simp)).drew, (H1.out.2.2.setCell (p := ⟨w.heap.size + 1, q, none⟩) (by simp) _).drew, HE2⟩
            case measure => rw [← HKI.out]; simp [intOf]; omega
          · have HF : Eqn (decF l) (S, 0) := by
              have := HE.out
              rw [drop_end (by rw [Hlen.out]; omega), decGo] at this
              rw [Eqn, HD.out, this]
            obtain ⟨c0, c1, c2, c3, c4, c5, c6, c7⟩ := hS.eight
            obtain ⟨d0, d1, d2, d3, d4, d5, d6, d7⟩ := hR.eight
            have hf : ∀ o, wr.frozen? ⟨w.heap.size, o, none⟩ = false := hR.frozen
            have hlt2 := hR.lt
            clear hS hR hB HE
            go_wp2_with fail
            have b2 := H1.out.2.1.set8 S
            have HB2 := below_set8 S H1.out.2.2 (Nat.le_refl w.heap.size)
            change bodyPost _ _ _ _ _ (set8 wr w.heap.size S)
            generalize set8 wr w.heap.size S = W2 at *
            obtain ⟨x0, x1, x2, x3, x4, x5, x6, x7⟩ := b2.eight
            refine bodyPost_ret (v := .tuple #[sV S, .int .i64 0]) (by simp [results, Tryd.results28, go_sem, sV, x0, x1, x2, x3, x4, x5, x6, x7]) rfl ⟨by rw [HF.out], HB2⟩
end Go.Proofs.YtencbmgjdiillaaDoor
