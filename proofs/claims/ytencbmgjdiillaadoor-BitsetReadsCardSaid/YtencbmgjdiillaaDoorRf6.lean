/- The reference's Read and Parse: the walks. -/
import Derived.Test.YtencbmgjdiillaaDoorRf5
namespace Go.Proofs.YtencbmgjdiillaaDoor
open Go.RowKit

/-- how great a number of some digits can be -/
def small (n : Int) (d : Nat) : Prop := 0 ≤ n ∧ ((d = 0 ∧ n = 0) ∨ (d = 1 ∧ n ≤ 9) ∨ (d = 2 ∧ n ≤ 99) ∨ (d = 3 ∧ n ≤ 999) ∨ (4 ≤ d ∧ n ≤ 9999))

set_option maxHeartbeats 4000000 in
theorem readR_any (s : ByteArray) (w : World) (hs : s.size ≤ 100000) :
    Calls Tryd.prog 48 #[.string s] w (NewInts (readF s.data.toList) w) := by
  obtain ⟨i0, hi, hz0, hz1, hz2⟩ := info_parts int_info
  have hsl : s.data.toList.length = s.size := by simp
  obtain ⟨l, hl⟩ : ∃ l, s.data.toList = l := ⟨_, rfl⟩
  have HL := Eqn.mk hl
  rw [hl] at hsl ⊢
  have Hsl := Eqn.mk hsl
  clear hl hsl
  go_enter Tryd.func48, Tryd.ntmps48
  go_wp2_with fail
  go_loopw [3, 4, 5, 6] (fun v nv dv i wr => ∃ (k d : Nat) (n : Int) (O : List Int), nv = .int .i64 n ∧ dv = .int .i64 d ∧ k ≤ s.size + 1 ∧ i = .int .i64 k ∧ d ≤ k ∧ small n d ∧ O.length ≤ k ∧ (k ≤ s.size → Eqn (readF l) (O ++ readGo (l.drop k) n d)) ∧ (s.size < k → Eqn (readF l) O) ∧ wr.ownsRow w.heap.size 3 1 v O.length (O.map intV) ∧ Below w.heap.size w wr) (fun _ _ _ i _ => s.size + 1 - (intOf i).toNat)
  case atStart => exact ⟨0, 0, 0, [], rfl, rfl, Nat.zero_le _, rfl, Nat.le_refl _, ⟨by omega, .inl ⟨rfl, rfl⟩⟩, Nat.le_refl _, fun _ => rfl, fun h => by omega, World.ownsRow_nil _ _ _ _, Below.refl _ _⟩
  case round =>
    obtain ⟨k, d, n, O, rfl, rfl, hk, rfl, hd, hsm, hOl, HA, HZ, hO, hB⟩ := hrel
    obtain ⟨A1, c1, rfl, _⟩ := row1_of_own hO
    have hbs := hB.size
    have H1 := Lib.hid (And.intro hO hB)
    clear hO hB
    have hn0 := hsm.1
    have hn9 : n ≤ 9999 := by unfold small at hsm; omega
    by_cases hend : s.size < k
    · have HF := HZ hend
      have h1 : ¬ (k : Int) ≤ (s.size : Int) := by omega
      clear HA HZ hsm
      go_wp2_with fail
      go_ret
      exact ⟨_, rfl, by rw [HF.out]; exact H1.out.1, H1.out.2⟩
    · have h1 : (k : Int) ≤ (s.size : Int) := by omega
      have HE := HA (by omega)
      clear HA HZ
      by_cases hlt : k < s.size
      · have h2 : (k : Int) < (s.size : Int) := by omega
        obtain ⟨c, hc, hcd⟩ := drop_at (xs := l) (k := k) (by rw [Hsl.out]; exact hlt)
        have hget : s[k]'hlt = c := by
          have h3 : l[k]? = some (s[k]'hlt) := by rw [← HL.out]; simp [ByteArray.getElem_eq_getElem_data, hlt]
          rw [h3] at hc
          exact Option.some.inj hc
        rw [hcd, readGo] at HE
        by_cases hdig : 48 ≤ c.toNat ∧ c.toNat ≤ 57
        · rw [Eqn, if_pos hdig] at HE
          have e1 : (48 : Int) ≤ (c.toNat : Int) := by omega
          have e2 : (c.toNat : Int) ≤ 57 := by omega
          by_cases hd4 : d < 4
          · rw [if_pos hd4] at HE
            have HE2 := Eqn.mk HE
            have hd4' : (d : Int) < 4 := by omega
            have HS : Hid (small (10 * n + ((c.toNat : Int) - 48)) (d + 1)) := Lib.hid (by unfold small at hsm ⊢; omega)
            clear HE hc hcd hdig hsm
            go_wp2_with fail
            go_roundw
            case rel => exact ⟨k + 1, d + 1, _, O, rfl, by go_num, by omega, by go_num, by omega, HS.out, by omega, fun _ => HE2, fun h => by omega, H1.out.1, H1.out.2⟩
            case measure => simp [intOf]; omega
          · rw [if_neg hd4] at HE
            have HE2 := Eqn.mk HE
            have hd4' : ¬ (d : Int) < 4 := by omega
            have HS : Hid (small n (d + 1)) := Lib.hid (by unfold small at hsm ⊢; omega)
            clear HE hc hcd hdig hsm
            go_wp2_with fail
            go_roundw
            case rel => exact ⟨k + 1, d + 1, _, O, rfl, by go_num, by omega, by go_num, by omega, HS.out, by omega, fun _ => HE2, fun h => by omega, H1.out.1, H1.out.2⟩
            case measure => simp [intOf]; omega
        · rw [Eqn, if_neg hdig] at HE
          by_cases hd0 : 0 < d
          · have d1 : (0 : Int) < (d : Int) := by omega
            rw [if_pos hd0] at HE
            have HE2 : Eqn (readF l) ((O ++ [n]) ++ readGo (l.drop (k + 1)) 0 0) := by rw [Eqn, HE, List.append_assoc]
            clear HE hc hcd hsm
            by_cases hlow : c.toNat < 48
            · have e1 : ¬ (48 : Int) ≤ (c.toNat : Int) := by omega
              clear hdig
              go_wp2_with (at_builtin; refine wpList_append_own_at _ rfl _ _ 22 rfl w.heap.size 3 i0 (.int .i64 0) 1 8 Tryd.underlying22 hi hz0 hz1 hz2 rfl (by decide) _ _ _ rfl (H1.out.1.alloc _) ⟨wr.heap.size, 0, none⟩ 1 1 [.int .i64 n] rfl rfl (cell_one_new _ _ _) (by simp [Value.oneCell']) (by unfold maxLen; omega) (by omega) (by simp; omega) ?_; intro v' w3 hown' hgrow hnil hat; have H3 : Hid (w3.ownsRow w.heap.size 3 1 v' (O.length + 1) (O.map intV ++ [.int .i64 n]) ∧ Below w.heap.size w w3) := Lib.hid ⟨hown', (H1.out.2.alloc hbs _).grown hgrow (by simp; omega) (fun g hg => own_ge H1.out.1 g hg)⟩; clear hown' hgrow hnil hat)
              go_roundw
              case rel => exact ⟨k + 1, 0, 0, O ++ [n], rfl, rfl, by omega, by go_num, by omega, ⟨by omega, .inl ⟨rfl, rfl⟩⟩, by rw [List.length_append]; simp; omega, fun _ => HE2, fun h => by omega, by rw [List.length_append, List.map_append]; exact H3.out.1, H3.out.2⟩
              case measure => simp [intOf]; omega
            · have e1 : (48 : Int) ≤ (c.toNat : Int) := by omega
              have e2 : ¬ (c.toNat : Int) ≤ 57 := by omega
              clear hdig
              go_wp2_with (at_builtin; refine wpList_append_own_at _ rfl _ _ 22 rfl w.heap.size 3 i0 (.int .i64 0) 1 8 Tryd.underlying22 hi hz0 hz1 hz2 rfl (by decide) _ _ _ rfl (H1.out.1.alloc _) ⟨wr.heap.size, 0, none⟩ 1 1 [.int .i64 n] rfl rfl (cell_one_new _ _ _) (by simp [Value.oneCell']) (by unfold maxLen; omega) (by omega) (by simp; omega) ?_; intro v' w3 hown' hgrow hnil hat; have H3 : Hid (w3.ownsRow w.heap.size 3 1 v' (O.length + 1) (O.map intV ++ [.int .i64 n]) ∧ Below w.heap.size w w3) := Lib.hid ⟨hown', (H1.out.2.alloc hbs _).grown hgrow (by simp; omega) (fun g hg => own_ge H1.out.1 g hg)⟩; clear hown' hgrow hnil hat)
              go_roundw
              case rel => exact ⟨k + 1, 0, 0, O ++ [n], rfl, rfl, by omega, by go_num, by omega, ⟨by omega, .inl ⟨rfl, rfl⟩⟩, by rw [List.length_append]; simp; omega, fun _ => HE2, fun h => by omega, by rw [List.length_append, List.map_append]; exact H3.out.1, H3.out.2⟩
              case measure => simp [intOf]; omega
          · have d1 : ¬ (0 : Int) < (d : Int) := by omega
            rw [if_neg hd0] at HE
            have HE2 : Eqn (readF l) (O ++ readGo (l.drop (k + 1)) 0 0) := by rw [Eqn, HE, List.nil_append]
            clear HE hc hcd hsm
            by_cases hlow : c.toNat < 48
            · have e1 : ¬ (48 : Int) ≤ (c.toNat : Int) := by omega
              clear hdig
              go_wp2_with fail
              go_roundw
              case rel => exact ⟨k + 1, 0, 0, O, rfl, rfl, by omega, by go_num, by omega, ⟨by omega, .inl ⟨rfl, rfl⟩⟩, by omega, fun _ => HE2, fun h => by omega, H1.out.1, H1.out.2⟩
              case measure => simp [intOf]; omega
            · have e1 : (48 : Int) ≤ (c.toNat : Int) := by omega
              have e2 : ¬ (c.toNat : Int) ≤ 57 := by omega
              clear hdig
              go_wp2_with fail
              go_roundw
              case rel => exact ⟨k + 1, 0, 0, O, rfl, rfl, by omega, by go_num, by omega, ⟨by omega, .inl ⟨rfl, rfl⟩⟩, by omega, fun _ => HE2, fun h => by omega, H1.out.1, H1.out.2⟩
              case measure => simp [intOf]; omega
      · have hke : k = s.size := by omega
        have h2 : ¬ (k : Int) < (s.size : Int) := by omega
        rw [drop_end (by rw [Hsl.out]; omega), readGo, Eqn] at HE
        clear hke
        by_cases hd0 : 0 < d
        · have d1 : (0 : Int) < (d : Int) := by omega
          rw [if_pos hd0] at HE
          have HE2 : Eqn (readF l) (O ++ [n]) := HE
          clear HE hsm
          go_wp2_with (at_builtin; refine wpList_append_own_at _ rfl _ _ 22 rfl w.heap.size 3 i0 (.int .i64 0) 1 8 Tryd.underlying22 hi hz0 hz1 hz2 rfl (by decide) _ _ _ rfl (H1.out.1.alloc _) ⟨wr.heap.size, 0, none⟩ 1 1 [.int .i64 n] rfl rfl (cell_one_new _ _ _) (by simp [Value.oneCell']) (by unfold maxLen; omega) (by omega) (by simp; omega) ?_; intro v' w3 hown' hgrow hnil hat; have H3 : Hid (w3.ownsRow w.heap.size 3 1 v' (O.length + 1) (O.map intV ++ [.int .i64 n]) ∧ Below w.heap.size w w3) := Lib.hid ⟨hown', (H1.out.2.alloc hbs _).grown hgrow (by simp; omega) (fun g hg => own_ge H1.out.1 g hg)⟩; clear hown' hgrow hnil hat)
          go_roundw
          case rel => exact ⟨k + 1, 0, 0, O ++ [n], rfl, rfl, by omega, by go_num, by omega, ⟨by omega, .inl ⟨rfl, rfl⟩⟩, by rw [List.length_append]; simp; omega, fun h => by omega, fun _ => HE2, by rw [List.length_append, List.map_append]; exact H3.out.1, H3.out.2⟩
          case measure => simp [intOf]; omega
        · have d1 : ¬ (0 : Int) < (d : Int) := by omega
          rw [if_neg hd0] at HE
          have HE2 : Eqn (readF l) (O) := by rw [Eqn, HE, List.append_nil]
          clear HE hsm
          go_wp2_with fail
          go_roundw
          case rel => exact ⟨k + 1, 0, 0, O, rfl, rfl, by omega, by go_num, by omega, ⟨by omega, .inl ⟨rfl, rfl⟩⟩, by omega, fun h => by omega, fun _ => HE2, H1.out.1, H1.out.2⟩
          case measure => simp [intOf]; omega


def PairB (r : List Int × Bool) (w : World) (e : Ending) (w' : World) : Prop := ∃ v, e = .returned (.tuple #[v, .bool r.2]) ∧ w'.ownsRow w.heap.size 3 1 v r.1.length (r.1.map intV) ∧ Below w.heap.size w w'
theorem allow_long {l : List UInt8} : (readF l).length ≤ l.length + 1 := readGo_len l 0 0

set_option maxHeartbeats 4000000 in
theorem parseR_any (s : ByteArray) (w : World) (hs : s.size ≤ 1000) :
    Calls Tryd.prog 19 #[.string s] w (PairB (parRF s.data.toList) w) := by
  have HR := Lib.hid (readR_any s w (by omega))
  have hlen : (readF s.data.toList).length ≤ 1001 := by
    have h1 := allow_long (l := s.data.toList)
    have h2 : s.data.toList.length = s.size := by simp
    omega
  cases ha : allowF (readF s.data.toList) with
  | false =>
    have HP : Eqn (parRF s.data.toList) ([], false) := by rw [Eqn, parRF, ha]; rfl
    rw [HP.out]
    have HAL : Hid (∀ A c W, Row1 intV W W.heap.size A (readF s.data.toList).length (readF s.data.toList) → Calls Tryd.prog 11 #[.slice A (readF s.data.toList).length c] W fun e w' => e = .returned (.bool false) ∧ W = w') := Lib.hid (fun A c W h => by have := allowed_any A _ c W _ _ (by omega) h; rw [ha] at this; exact this)
    generalize readF s.data.toList = L at *
    clear HP ha hlen
    go_enter Tryd.func19, Tryd.ntmps19
    go_wp2_with fail
    refine HR.out.mono ?_
    rintro e w1 ⟨v, rfl, hown, hb1⟩
    obtain ⟨A1, c1, rfl, hr1⟩ := row1_of_own hown
    have B1 := Lib.hid hb1
    have R1 := Lib.hid hr1
    clear hown hb1 hr1
    go_wp2_with fail
    refine (HAL.out _ _ _ R1.out).mono ?_
    rintro e wz ⟨rfl, rfl⟩
    go_wp2_with fail
    refine bodyPost_ret (v := .tuple #[.slice none 0 0, .bool false]) (by simp [results, Tryd.results19, go_sem]) rfl ⟨_, rfl, World.ownsRow_nil _ _ _ _, B1.out⟩
  | true =>
    obtain ⟨S, g1, g2, g3, g4⟩ := of_good ha
    have hm : ((List.range 512).filter fun i : Nat => inF (readF s.data.toList) (i : Int)) = mem S := by
      unfold mem
      apply List.filter_congr
      intro i _
      rw [g4]
    have HP : Eqn (parRF s.data.toList) (memI S, decide (textF S = s.data.toList)) := by rw [Eqn, parRF, if_pos ha, g3, hm]; rfl
    rw [HP.out]
    have HAL : Hid (∀ A c W, Row1 intV W W.heap.size A (readF s.data.toList).length (readF s.data.toList) → Calls Tryd.prog 11 #[.slice A (readF s.data.toList).length c] W fun e w' => e = .returned (.bool true) ∧ W = w') := Lib.hid (fun A c W h => by have := allowed_any A _ c W _ _ (by omega) h; rw [ha] at this; exact this)
    have HOF : Hid (∀ A c W, Row1 intV W W.heap.size A (readF s.data.toList).length (readF s.data.toList) → Calls Tryd.prog 14 #[.slice A (readF s.data.toList).length c] W (NewInts (memI S) W)) := Lib.hid (fun A c W h => by have := ofR_any A _ c W _ (by omega) h; rw [g3] at this; exact this)
    have HTX : Hid (∀ A' n' c' W, Row1 intV W W.heap.size A' n' (memI S) → Calls Tryd.prog 25 #[.slice A' n' c'] W (RetPost (.string ⟨(textF S).toArray⟩) W.heap.size W)) := Lib.hid (fun A' n' c' W h => textM_any S A' n' c' W h)
    have heq : (textF S == s.toList) = decide (textF S = s.data.toList) := by
      rw [ByteArray.toList_eq]
      by_cases h : textF S = s.data.toList <;> simp [h]
    generalize decide (textF S = s.data.toList) = bb at *
    generalize textF S = TS at *
    generalize readF s.data.toList = L at *
    clear HP ha hlen hm g1 g2 g3 g4
    go_enter Tryd.func19, Tryd.ntmps19
    go_wp2_with fail
    refine HR.out.mono ?_
    rintro e w1 ⟨v, rfl, hown, hb1⟩
    obtain ⟨A1, c1, rfl, hr1⟩ := row1_of_own hown
    have B1 := Lib.hid hb1
    have R1 := Lib.hid hr1
    clear hown hb1 hr1
    go_wp2_with fail
    refine (HAL.out _ _ _ R1.out).mono ?_
    rintro e wz ⟨rfl, rfl⟩
    go_wp2_with fail
    refine (HOF.out _ _ _ R1.out).mono ?_
    rintro e w2 ⟨v2, rfl, hown2, hb2⟩
    have HO2 := Lib.hid hown2
    obtain ⟨A2, c2, rfl, hr2⟩ := row1_of_own hown2
    have B2 := Lib.hid (B1.out.trans (hb2.mono B1.out.size))
    have R2 := Lib.hid hr2
    clear hown2 hb2 hr2
    go_wp2_with fail
    refine (HTX.out _ _ _ _ R2.out).mono ?_
    rintro e w3 ⟨rfl, hb3⟩
    have HO3 := Lib.hid (own_low (own_keep HO2.out hb3) B1.out.size)
    have B3 := Lib.hid (B2.out.trans (hb3.mono B2.out.size))
    clear hb3
    go_wp2_with fail
    refine bodyPost_ret (v := .tuple #[.slice A2 _ c2, .bool bb]) (by simp [results, Tryd.results19, go_sem]) rfl ⟨_, rfl, HO3.out, B3.out⟩
end Go.Proofs.YtencbmgjdiillaaDoor
