/- Contracts of the reference's Digits and Text. -/
import Derived.Test.YtencbmgjdiillaaDoorCm07
namespace Go.Proofs.YtencbmgjdiillaaDoor
open Go.RowKit

def preD (m : Nat) : List UInt8 := if m = 0 then [] else Lib.itoa (m : Int)
theorem preD_step : ∀ m : Fin 512, m.1 ≠ 0 → preD m.1 = preD (m.1 / 10) ++ [UInt8.ofNat (48 + m.1 % 10)] := by decide +kernel
theorem itoa_step : ∀ m : Fin 512, Lib.itoa (m.1 : Int) = preD (m.1 / 10) ++ [UInt8.ofNat (48 + m.1 % 10)] := by decide +kernel
theorem dig_nat {d : Nat} (h : d < 10) : (UInt8.ofNat (48 + d)).toNat = 48 + d := by
  rw [UInt8.toNat_ofNat']
  exact Nat.mod_eq_of_lt (by omega)
theorem str_cat (a b : List UInt8) : (⟨a.toArray⟩ : ByteArray) ++ ⟨b.toArray⟩ = ⟨(a ++ b).toArray⟩ := by
  apply ByteArray.ext
  simp [ByteArray.data_append]
/-- one byte made a string -/
theorem conv_one (w : World) (b : UInt8) : (convert 50 9 (.slice (some ⟨w.heap.size, 0, none⟩) 1 1)).run Tryd.prog (w.alloc (.cells #[.int .u8 (b.toNat : Int)] 5)) = .ok (.string ⟨#[b]⟩) (w.alloc (.cells #[.int .u8 (b.toNat : Int)] 5)) :=
  conv_own (l := [b]) (base := 0) (own_lit w (Nat.zero_le _) 5 (.int .u8 (b.toNat : Int)))

set_option maxHeartbeats 2000000 in
theorem digits_any (n : Nat) (w : World) (hn : n < 512) : Calls Tryd.prog 51 #[.int .i64 n] w (RetPost (.string ⟨(Lib.itoa (n : Int)).toArray⟩) w.heap.size w) := by
  have HI := Eqn.mk (itoa_step ⟨n, hn⟩)
  dsimp only at HI
  obtain ⟨y, hy⟩ : ∃ y : Int, ((n : Nat) : Int) = y := ⟨_, rfl⟩
  obtain ⟨d, hd⟩ : ∃ d : Nat, n % 10 = d := ⟨_, rfl⟩
  obtain ⟨q, hq⟩ : ∃ q : Nat, n / 10 = q := ⟨_, rfl⟩
  have e1 : y.tmod 10 = (d : Int) := by rw [IntWalk.rem_in _ _ (by omega)]; omega
  have e2 : IntKind.i64.wrap (y.tdiv 10) = (q : Int) := by rw [IntWalk.i64_quo _ _ (by omega)]; omega
  have hd10 : d < 10 := by omega
  have e3 : IntKind.u8.wrap (48 + (d : Int)) = ((UInt8.ofNat (48 + d)).toNat : Int) := by rw [dig_nat hd10, IntWalk.u8_in _ (by omega)]; omega
  rw [hd, hq] at HI
  generalize UInt8.ofNat (48 + d) = b at *
  generalize Lib.itoa (n : Int) = R at *
  have hc := conv_one w b
  have hq5 : q < 52 := by omega
  rw [hy]
  clear hn hy hd hq
  go_enter Tryd.func51, Tryd.ntmps51
  go_wp2_with fail
  clear e1 e2 e3 hc
  have HB0 : Hid (Below w.heap.size w (w.alloc (.cells #[.int .u8 (b.toNat : Int)] 5))) := Lib.hid ((Below.refl _ w).alloc (Nat.le_refl _) _)
  go_loopw [0, 3] (fun m s wr => ∃ (mm : Nat) (sf : List UInt8), mm < 512 ∧ sf.length + mm ≤ 600 ∧ m = .int .i64 mm ∧ s = .string ⟨sf.toArray⟩ ∧ Eqn R (preD mm ++ sf) ∧ Below w.heap.size w wr) (fun m _ _ => (intOf m).toNat)
  case atStart => exact ⟨q, [b], by omega, by simp; omega, rfl, rfl, HI, HB0.out⟩
  case round =>
    clear HI HB0
    obtain ⟨mm, sf, hm, hsl, rfl, rfl, HE, hB⟩ := hrel
    have HB := Lib.hid hB
    have hsz := hB.size
    clear hB
    by_cases h0 : mm = 0
    · subst h0
      have HE2 : Eqn R sf := HE.out
      clear HE
      go_wp2_with fail
      go_ret
      exact ⟨by rw [HE2.out]; rfl, HB.out⟩
    · have HS := preD_step ⟨mm, hm⟩ h0
      dsimp only at HS
      obtain ⟨z, hz⟩ : ∃ z : Int, ((mm : Nat) : Int) = z := ⟨_, rfl⟩
      obtain ⟨d1, hd1⟩ : ∃ d1 : Nat, mm % 10 = d1 := ⟨_, rfl⟩
      obtain ⟨q1, hq1⟩ : ∃ q1 : Nat, mm / 10 = q1 := ⟨_, rfl⟩
      have e1 : z.tmod 10 = (d1 : Int) := by rw [IntWalk.rem_in _ _ (by omega)]; omega
      have e2 : IntKind.i64.wrap (z.tdiv 10) = (q1 : Int) := by rw [IntWalk.i64_quo _ _ (by omega)]; omega
      have hd10 : d1 < 10 := by omega
      have e3 : IntKind.u8.wrap (48 + (d1 : Int)) = ((UInt8.ofNat (48 + d1)).toNat : Int) := by rw [dig_nat hd10, IntWalk.u8_in _ (by omega)]; omega
      rw [hd1, hq1] at HS
      have HE2 : Eqn R (preD q1 ++ (UInt8.ofNat (48 + d1) :: sf)) := by rw [Eqn, HE.out, HS]; simp
      generalize UInt8.ofNat (48 + d1) = b1 at *
      have hc := conv_one wr b1
      have hcat := Lib.hid <| str_cat [b1] sf
      have hq5 : q1 < mm := by omega
      have hsl2 : ¬ 9223372036854775807 < 1 + sf.length := by omega
      have hsl3 : (b1 :: sf).length + q1 ≤ 600 := by simp; omega
      have HSL := Lib.hid hsl3
      clear hsl3
      have hz0 : 0 < z := by omega
      have HZ := Lib.hid hz
      rw [hz]
      clear hz hd1 hq1 HS HE h0
      go_wp2_with fail
      clear e1 e2 e3 hc
      go_roundw
      case rel => exact ⟨q1, b1 :: sf, by omega, HSL.out, rfl, by have h := hcat.out; rw [h]; rfl, HE2, HB.out.alloc hsz _⟩
      case measure => rw [← HZ.out]; simp [intOf]; omega

theorem textP_pos (l : List (Fin 512)) (h : l ≠ []) : 1 < (textP (l.map Fin.val)).length := by
  rw [← List.reverse_reverse l] at h ⊢
  generalize l.reverse = r at *
  cases r with
  | nil => simp at h
  | cons x r =>
    rw [List.reverse_cons, List.map_append, List.map_cons, List.map_nil, textP_snoc]
    have h1 := itoa_len x
    have h2 := textP_len r.reverse
    unfold textGo
    rw [List.length_append]
    split
    · rw [List.length_append]; omega
    · omega
def finI (l : List (Fin 512)) : List Int := l.map fun x => ((x.1 : Nat) : Int)

set_option maxHeartbeats 2000000 in
theorem textR_any (A : Option Addr) (n c : Nat) (w : World) (l : List (Fin 512)) (hn : n ≤ 1000) (hl : Row1 intV w w.heap.size A n (finI l)) :
    Calls Tryd.prog 25 #[.slice A n c] w (RetPost (.string ⟨(textP (l.map Fin.val) ++ [125]).toArray⟩) w.heap.size w) := by
  have Hl := Lib.hid hl
  have Hlen : Eqn l.length n := by have := hl.1; unfold finI at this; rw [List.length_map] at this; exact this
  clear hl
  go_enter Tryd.func25, Tryd.ntmps25
  go_wp2_with fail
  go_loopw [3, 4] (fun s i wr => ∃ k : Nat, k ≤ n ∧ i = .int .i64 k ∧ s = .string ⟨(textP ((l.take k).map Fin.val)).toArray⟩ ∧ Below w.heap.size w wr) (fun _ i _ => n - (intOf i).toNat)
  case atStart => exact ⟨0, Nat.zero_le _, rfl, rfl, Below.refl _ _⟩
  case round =>
    obtain ⟨k, hk, rfl, rfl, hB⟩ := hrel
    have HB := Lib.hid hB
    have hsz := hB.size
    by_cases hlt : k < n
    · obtain ⟨x, hx, _⟩ := drop_at (xs := l) (k := k) (by rw [Hlen.out]; exact hlt)
      obtain ⟨b, off, rfl, hbl, hc⟩ := (Hl.out.below hB).2 (by omega)
      have c0 := hc k (x.1 : Int) (by unfold finI; rw [List.getElem?_map, hx]; rfl)
      simp only [intV] at c0
      have HD := Lib.hid (fun W => digits_any x.1 W x.2)
      have HS : Eqn (textP ((l.take (k + 1)).map Fin.val)) (textGo (textP ((l.take k).map Fin.val)) x.1) := by
        rw [Eqn, List.take_add_one, hx]
        simp only [Option.toList_some, List.map_append, List.map_cons, List.map_nil]
        rw [textP_snoc]
      have j0 : (k : Int) < (n : Int) := by omega
      have hTl := (textP_len (l.take k)).1
      rw [List.length_take] at hTl
      have hDl := (itoa_len x).2
      by_cases h0 : k = 0
      · have HS2 : Eqn (textP ((l.take (k + 1)).map Fin.val)) (textP ((l.take k).map Fin.val) ++ Lib.itoa (x.1 : Int)) := by
          rw [Eqn, HS.out, textGo, if_neg]; subst h0; simp [textP]
        have hcat := Lib.hid <| str_cat (textP ((l.take k).map Fin.val)) (Lib.itoa (x.1 : Int))
        have h0' : ¬ 0 < (k : Int) := by omega
        generalize textP ((l.take k).map Fin.val) = T at *
        generalize Lib.itoa (x.1 : Int) = D at *
        have hL1 : ¬ 9223372036854775807 < T.length + D.length := by omega
        clear hc hx HS h0 hB hTl hDl
        go_wp2_with fail
        refine (HD.out _).mono ?_
        rintro e W1 ⟨rfl, hb1⟩
        have HB1 := Lib.hid (HB.out.trans (hb1.mono hsz))
        clear hb1
        go_wp2_with fail
        go_roundw
        case rel => exact ⟨k + 1, by omega, by go_num, by rw [HS2.out, ← hcat.out], HB1.out⟩
        case measure => simp [intOf]; omega
      · have hp : 1 < (textP ((l.take k).map Fin.val)).length := textP_pos (l.take k) (by intro h; have h2 := congrArg List.length h; rw [List.length_take, Hlen.out, List.length_nil] at h2; omega)
        have HS2 : Eqn (textP ((l.take (k + 1)).map Fin.val)) ((textP ((l.take k).map Fin.val) ++ [44]) ++ Lib.itoa (x.1 : Int)) := by
          rw [Eqn, HS.out, textGo, if_pos hp]
        have hcat0 := Lib.hid <| str_cat (textP ((l.take k).map Fin.val)) [44]
        have hcat := Lib.hid <| str_cat (textP ((l.take k).map Fin.val) ++ [44]) (Lib.itoa (x.1 : Int))
        have h0' : 0 < (k : Int) := by omega
        generalize textP ((l.take k).map Fin.val) = T at *
        generalize Lib.itoa (x.1 : Int) = D at *
        have hL0 : ¬ 9223372036854775807 < T.length + 1 := by omega
        have hL1 : ¬ 9223372036854775807 < T.length + 1 + D.length := by omega
        clear hc hx HS h0 hB hp hTl hDl
        go_wp2_with fail
        refine (HD.out _).mono ?_
        rintro e W1 ⟨rfl, hb1⟩
        have HB1 := Lib.hid (HB.out.trans (hb1.mono hsz))
        clear hb1
        go_wp2_with fail
        go_roundw
        case rel => exact ⟨k + 1, by omega, by go_num, by rw [HS2.out, ← hcat.out, ← hcat0.out], HB1.out⟩
        case measure => simp [intOf]; omega
    · have HT : l.take k = l := List.take_of_length_le (by rw [Hlen.out]; omega)
      rw [HT]
      have hcat := Lib.hid <| str_cat (textP (l.map Fin.val)) [125]
      have hTl := (textP_len l).1
      rw [Hlen.out] at hTl
      generalize textP (l.map Fin.val) = T at *
      have hL0 : ¬ 9223372036854775807 < T.length + 1 := by omega
      clear hB HT hTl
      go_wp2_with fail
      go_ret
      exact ⟨by rw [← hcat.out]; rfl, HB.out⟩
end Go.Proofs.YtencbmgjdiillaaDoor
