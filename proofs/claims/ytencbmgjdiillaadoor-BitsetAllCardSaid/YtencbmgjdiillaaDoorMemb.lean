/- The contract of member: the number of a decimal form. -/
import Derived.Test.YtencbmgjdiillaaDoorEnc
import Derived.Lib.ConvBytes
namespace Go.Proofs.YtencbmgjdiillaaDoor
open Go.RowKit

def numGo (acc : Int) : List UInt8 → Option Int
  | [] => some acc
  | c :: r => if c.toNat < 48 ∨ 57 < c.toNat then none else numGo (10 * acc + ((c.toNat : Int) - 48)) r
/-- the member of a decimal form -/
def memF (l : List UInt8) : Int × Bool :=
  if l.length < 1 ∨ 3 < l.length ∨ (l.head? = some 48 ∧ 1 < l.length) then (0, false) else match numGo 0 l with | none => (0, false) | some i => (i, decide (i < 512))

def byV (b : UInt8) : Value := .int .u8 (b.toNat : Int)
theorem str_size (l : List UInt8) : (⟨l.toArray⟩ : ByteArray).size = l.length := by simp [ByteArray.size]

theorem conv_bytes (l : List UInt8) (w : World) : ∃ (W1 : World) (C : Nat), (convert 9 50 (.string ⟨l.toArray⟩)).run Tryd.prog w = .ok (.slice (some ⟨w.heap.size, 0, none⟩) l.length C) W1 ∧
    (∀ (k : Nat) (b : UInt8), l[k]? = some b → W1.cell? ⟨w.heap.size, k, none⟩ = some (.int .u8 (b.toNat : Int))) ∧ Below w.heap.size w W1 := by
  refine ⟨Lib.bytesWorld w 5 ⟨l.toArray⟩, grownCap w l.length 0 5, ?_, ?_, ?_⟩
  · have := Lib.run_convert_string_bytes w 9 50 5 ⟨l.toArray⟩ Tryd.underlying9 Tryd.underlying50 Tryd.underlying5
    rw [str_size] at this
    exact this
  · intro k b hk
    rw [Lib.bytesWorld_cell w _ _ k (by rw [str_size]; exact (List.getElem?_eq_some_iff.1 hk).1)]
    simp [List.getD_eq_getElem?_getD, hk]
  · refine ⟨rfl, rfl, rfl, by rw [Lib.bytesWorld_size]; omega, fun k hk => Lib.bytesWorld_at_old w _ _ k hk⟩

theorem memb_short (w : World) : Calls Tryd.prog 47 #[.string ⟨([] : List UInt8).toArray⟩] w (RetPost (.tuple #[.int .i64 0, .bool false]) w.heap.size w) := by
  go_enter Tryd.func47, Tryd.ntmps47
  go_wp2_with fail
  refine bodyPost_ret (v := .tuple #[.int .i64 0, .bool false]) (by simp [results, Tryd.results47]) rfl ⟨rfl, Below.refl _ _⟩

theorem memb_long (s : ByteArray) (w : World) (hl : 3 < s.size) : Calls Tryd.prog 47 #[.string s] w (RetPost (.tuple #[.int .i64 0, .bool false]) w.heap.size w) := by
  have h1 : ¬ (s.size : Int) < 1 := by omega
  have h2 : 3 < (s.size : Int) := by omega
  go_enter Tryd.func47, Tryd.ntmps47
  go_wp2_with fail
  refine bodyPost_ret (v := .tuple #[.int .i64 0, .bool false]) (by simp [results, Tryd.results47]) rfl ⟨rfl, Below.refl _ _⟩

theorem memb_zero (a b : UInt8) (r : List UInt8) (w : World) (hl : r.length ≤ 1) (ha : a.toNat = 48) : Calls Tryd.prog 47 #[.string ⟨(a :: b :: r).toArray⟩] w (RetPost (.tuple #[.int .i64 0, .bool false]) w.heap.size w) := by
  have h1 : ¬ (r.length : Int) + 1 + 1 < 1 := by omega
  have h2 : (r.length : Int) + 1 + 1 ≤ 3 := by omega
  have h3 : 1 < (r.length : Int) + 1 + 1 := by omega
  have h0 : ∀ h, (⟨(a :: b :: r).toArray⟩ : ByteArray)[0]'h = a := fun _ => rfl
  have ha' : (a.toNat : Int) = 48 := by omega
  clear ha
  go_enter Tryd.func47, Tryd.ntmps47
  go_wp2_with fail
  refine bodyPost_ret (v := .tuple #[.int .i64 0, .bool false]) (by simp [results, Tryd.results47]) rfl ⟨rfl, Below.refl _ _⟩

theorem pow_pos1000 (m : Nat) : (1 : Int) ≤ 1000 ^ m := by
  induction m with
  | zero => simp
  | succ m ih => rw [Int.pow_succ]; omega

set_option maxHeartbeats 2000000 in
theorem memb_main (a : UInt8) (r : List UInt8) (V : Value) (w : World) (hl : r.length ≤ 2) (ha : a.toNat ≠ 48)
    (hV : (numGo 0 (a :: r) = none → V = .tuple #[.int .i64 0, .bool false]) ∧ ∀ i, numGo 0 (a :: r) = some i → V = .tuple #[.int .i64 i, .bool (decide (i < 512))]) :
    Calls Tryd.prog 47 #[.string ⟨(a :: r).toArray⟩] w (RetPost V w.heap.size w) := by
  obtain ⟨W1, C, hcv, hrow, hB⟩ := conv_bytes (a :: r) w
  have h0 : ∀ h, (⟨(a :: r).toArray⟩ : ByteArray)[0]'h = a := fun _ => rfl
  have h1 : ¬ (r.length : Int) + 1 < 1 := by omega
  have h2 : (r.length : Int) + 1 ≤ 3 := by omega
  have h3 : ¬ (a.toNat : Int) = 48 := by omega
  have HL : Eqn (a :: r).length (r.length + 1) := rfl
  have HV := Lib.hid hV
  clear ha hV
  have HR := Lib.hid hrow
  have HB := Lib.hid hB
  have hlt := hB.size
  clear hrow hB
  obtain ⟨L, hL⟩ : ∃ L, L = a :: r := ⟨_, rfl⟩
  rw [← hL] at HR HV HL
  clear hL
  go_enter Tryd.func47, Tryd.ntmps47
  go_wp2_with fail
  clear h0 h1 h2 hcv h3
  go_loop [4, 28] (fun i k => ∃ (m : Nat) (z : Int), m ≤ (r.length + 1) ∧ k = .int .i64 m ∧ i = .int .i64 z ∧ 0 ≤ z ∧ z ≤ 1000 ^ m ∧ Eqn (numGo 0 L) (numGo z (L.drop m))) (fun _ k => (r.length + 1) - (intOf k).toNat)
  case atStart => exact ⟨0, 0, by omega, rfl, rfl, by omega, by omega, rfl⟩
  case round =>
    obtain ⟨m, z, hm, rfl, rfl, hz0, hz1, HE⟩ := hrel
    by_cases hlt : m < (r.length + 1)
    · obtain ⟨b, hb, hbd⟩ := drop_at (xs := L) (k := m) (by rw [HL.out]; exact hlt)
      have c0 := HR.out m b hb
      have hbl := b.toNat_lt
      have hz2 : z ≤ 1000000 := by
        have : m = 0 ∨ m = 1 ∨ m = 2 := by omega
        rcases this with rfl | rfl | rfl <;> simp at hz1 <;> omega
      have HE' : Eqn (numGo 0 L) (if b.toNat < 48 ∨ 57 < b.toNat then none else numGo (10 * z + ((b.toNat : Int) - 48)) (L.drop (m + 1))) := by
        have := HE.out; rw [hbd, numGo] at this; exact this
      have j0 : (m : Int) < ((r.length + 1) : Nat) := by omega
      have HZ := Lib.hid hz1
      clear hb hbd HE hz1
      by_cases c1 : b.toNat < 48
      · have HF : Eqn V (.tuple #[.int .i64 0, .bool false]) := HV.out.1 (by rw [HE'.out, if_pos (.inl c1)])
        have c1' : (b.toNat : Int) < 48 := by omega
        clear HE'
        go_wp2_with fail
        refine bodyPost_ret (v := .tuple #[.int .i64 0, .bool false]) (by simp [results, Tryd.results47]) rfl ⟨by rw [HF.out], HB.out⟩
      · by_cases c2 : 57 < b.toNat
        · have HF : Eqn V (.tuple #[.int .i64 0, .bool false]) := HV.out.1 (by rw [HE'.out, if_pos (.inr c2)])
          have c1' : ¬ (b.toNat : Int) < 48 := by omega
          have c2' : 57 < (b.toNat : Int) := by omega
          clear HE'
          go_wp2_with fail
          refine bodyPost_ret (v := .tuple #[.int .i64 0, .bool false]) (by simp [results, Tryd.results47]) rfl ⟨by rw [HF.out], HB.out⟩
        · have HE2 : Eqn (numGo 0 L) (numGo (10 * z + ((b.toNat : Int) - 48)) (L.drop (m + 1))) := by rw [Eqn, HE'.out, if_neg (by omega)]
          have c1' : ¬ (b.toNat : Int) < 48 := by omega
          have c2' : ¬ 57 < (b.toNat : Int) := by omega
          have e1 : IntKind.u8.wrap ((b.toNat : Int) - 48) = (b.toNat : Int) - 48 := by rw [IntWalk.u8_in _ (by omega)]
          clear HE'
          go_wp2_with fail
          clear e1
          go_round
          case rel => exact ⟨m + 1, 10 * z + ((b.toNat : Int) - 48), by omega, by go_num, by go_num, by omega, by have := HZ.out; rw [Int.pow_succ]; have h1 := pow_pos1000 m; omega, HE2⟩
          case measure => simp [intOf]; omega
    · have HF : Eqn V (.tuple #[.int .i64 z, .bool (decide (z < 512))]) := HV.out.2 z (by rw [HE.out, drop_end (by rw [HL.out]; omega)]; rfl)
      clear HE hz1
      go_wp2_with fail
      refine bodyPost_ret (v := .tuple #[.int .i64 z, .bool (decide (z < 512))]) (by simp [results, Tryd.results47]) rfl ⟨by rw [HF.out], HB.out⟩

set_option maxHeartbeats 2000000 in
theorem memb_one (a : UInt8) (V : Value) (w : World) (ha : a.toNat = 48)
    (hV : (numGo 0 [a] = none → V = .tuple #[.int .i64 0, .bool false]) ∧ ∀ i, numGo 0 [a] = some i → V = .tuple #[.int .i64 i, .bool (decide (i < 512))]) :
    Calls Tryd.prog 47 #[.string ⟨[a].toArray⟩] w (RetPost V w.heap.size w) := by
  obtain ⟨W1, C, hcv, hrow, hB⟩ := conv_bytes [a] w
  have h0 : ∀ h, (⟨[a].toArray⟩ : ByteArray)[0]'h = a := fun _ => rfl
  have h3 : (a.toNat : Int) = 48 := by omega
  have HL : Eqn [a].length 1 := rfl
  have HV := Lib.hid hV
  clear ha hV
  have HR := Lib.hid hrow
  have HB := Lib.hid hB
  have hlt := hB.size
  clear hrow hB
  obtain ⟨L, hL⟩ : ∃ L, L = [a] := ⟨_, rfl⟩
  rw [← hL] at HR HV HL
  clear hL
  go_enter Tryd.func47, Tryd.ntmps47
  go_wp2_with fail
  clear h0 hcv h3
  go_loop [4, 28] (fun i k => ∃ (m : Nat) (z : Int), m ≤ 1 ∧ k = .int .i64 m ∧ i = .int .i64 z ∧ 0 ≤ z ∧ z ≤ 1000 ^ m ∧ Eqn (numGo 0 L) (numGo z (L.drop m))) (fun _ k => 1 - (intOf k).toNat)
  case atStart => exact ⟨0, 0, by omega, rfl, rfl, by omega, by omega, rfl⟩
  case round =>
    obtain ⟨m, z, hm, rfl, rfl, hz0, hz1, HE⟩ := hrel
    by_cases hlt : m < 1
    · obtain ⟨b, hb, hbd⟩ := drop_at (xs := L) (k := m) (by rw [HL.out]; exact hlt)
      have c0 := HR.out m b hb
      have hbl := b.toNat_lt
      have hz2 : z ≤ 1000000 := by
        have : m = 0 ∨ m = 1 ∨ m = 2 := by omega
        rcases this with rfl | rfl | rfl <;> simp at hz1 <;> omega
      have HE' : Eqn (numGo 0 L) (if b.toNat < 48 ∨ 57 < b.toNat then none else numGo (10 * z + ((b.toNat : Int) - 48)) (L.drop (m + 1))) := by
        have := HE.out; rw [hbd, numGo] at this; exact this
      have j0 : (m : Int) < 1 := by omega
      have HZ := Lib.hid hz1
      clear hb hbd HE hz1
      by_cases c1 : b.toNat < 48
      · have HF : Eqn V (.tuple #[.int .i64 0, .bool false]) := HV.out.1 (by rw [HE'.out, if_pos (.inl c1)])
        have c1' : (b.toNat : Int) < 48 := by omega
        clear HE'
        go_wp2_with fail
        refine bodyPost_ret (v := .tuple #[.int .i64 0, .bool false]) (by simp [results, Tryd.results47]) rfl ⟨by rw [HF.out], HB.out⟩
      · by_cases c2 : 57 < b.toNat
        · have HF : Eqn V (.tuple #[.int .i64 0, .bool false]) := HV.out.1 (by rw [HE'.out, if_pos (.inr c2)])
          have c1' : ¬ (b.toNat : Int) < 48 := by omega
          have c2' : 57 < (b.toNat : Int) := by omega
          clear HE'
          go_wp2_with fail
          refine bodyPost_ret (v := .tuple #[.int .i64 0, .bool false]) (by simp [results, Tryd.results47]) rfl ⟨by rw [HF.out], HB.out⟩
        · have HE2 : Eqn (numGo 0 L) (numGo (10 * z + ((b.toNat : Int) - 48)) (L.drop (m + 1))) := by rw [Eqn, HE'.out, if_neg (by omega)]
          have c1' : ¬ (b.toNat : Int) < 48 := by omega
          have c2' : ¬ 57 < (b.toNat : Int) := by omega
          have e1 : IntKind.u8.wrap ((b.toNat : Int) - 48) = (b.toNat : Int) - 48 := by rw [IntWalk.u8_in _ (by omega)]
          clear HE'
          go_wp2_with fail
          clear e1
          go_round
          case rel => exact ⟨m + 1, 10 * z + ((b.toNat : Int) - 48), by omega, by go_num, by go_num, by omega, by have := HZ.out; rw [Int.pow_succ]; have h1 := pow_pos1000 m; omega, HE2⟩
          case measure => simp [intOf]; omega
    · have HF : Eqn V (.tuple #[.int .i64 z, .bool (decide (z < 512))]) := HV.out.2 z (by rw [HE.out, drop_end (by rw [HL.out]; omega)]; rfl)
      clear HE hz1
      go_wp2_with fail
      refine bodyPost_ret (v := .tuple #[.int .i64 z, .bool (decide (z < 512))]) (by simp [results, Tryd.results47]) rfl ⟨by rw [HF.out], HB.out⟩

theorem member_any (l : List UInt8) (w : World) : Calls Tryd.prog 47 #[.string ⟨l.toArray⟩] w (RetPost (.tuple #[.int .i64 (memF l).1, .bool (memF l).2]) w.heap.size w) := by
  by_cases h3 : 3 < l.length
  · have hf : memF l = (0, false) := by unfold memF; rw [if_pos (.inr (.inl h3))]
    rw [hf]
    exact memb_long _ w (by rw [str_size]; exact h3)
  · cases l with
    | nil => exact memb_short w
    | cons a r =>
      simp only [List.length_cons] at h3
      by_cases ha : a.toNat = 48
      · cases r with
        | nil =>
          refine memb_one a _ w ha ⟨fun h => ?_, fun i h => ?_⟩
          · simp [memF, h]
          · simp [memF, h]
        | cons b r =>
          have hf : memF (a :: b :: r) = (0, false) := by
            unfold memF
            rw [if_pos (.inr (.inr ⟨by simp; exact UInt8.toNat_inj.1 ha, by simp⟩))]
          rw [hf]
          exact memb_zero a b r w (by simp at h3; omega) ha
      · have hne : ¬ ((a :: r).length < 1 ∨ 3 < (a :: r).length ∨ ((a :: r).head? = some 48 ∧ 1 < (a :: r).length)) := by
          rintro (h | h | ⟨h, _⟩)
          · simp at h
          · simp at h; omega
          · simp at h; subst h; exact ha rfl
        refine memb_main a r _ w (by omega) ha ⟨fun h => ?_, fun i h => ?_⟩
        · unfold memF; rw [if_neg hne, h]
        · unfold memF; rw [if_neg hne, h]
end Go.Proofs.YtencbmgjdiillaaDoor
