/- The contract of math/bits.OnesCount64: the number of one bits. -/
import Derived.Test.YtpdhelhngdeoeaaBs
import Derived.Laws.Bits128
namespace Go.Proofs.Ytpdhelhngdeoeaa
open Go.RowKit

theorem and_le_r (a b : Nat) : a &&& b ≤ b := Nat.and_le_right
theorem ones_facts (x : Nat) (hx : x < 18446744073709551616) : ∃ a1 b1 z1 a2 b2 z2 c3 z3 s1 s2 s3 : Nat,
    bits .and .u64 ((x : Int) / 2) 6148914691236517205 = (a1 : Int) ∧ bits .and .u64 (x : Int) 6148914691236517205 = (b1 : Int) ∧ IntKind.u64.wrap ((a1 : Int) + (b1 : Int)) = (z1 : Int) ∧
    bits .and .u64 ((z1 : Int) / 4) 3689348814741910323 = (a2 : Int) ∧ bits .and .u64 (z1 : Int) 3689348814741910323 = (b2 : Int) ∧ IntKind.u64.wrap ((a2 : Int) + (b2 : Int)) = (z2 : Int) ∧
    IntKind.u64.wrap ((z2 : Int) / 16 + (z2 : Int)) = (c3 : Int) ∧ bits .and .u64 (c3 : Int) 1085102592571150095 = (z3 : Int) ∧
    IntKind.u64.wrap ((z3 : Int) + (z3 : Int) / 256) = (s1 : Int) ∧ IntKind.u64.wrap ((s1 : Int) + (s1 : Int) / 65536) = (s2 : Int) ∧ IntKind.u64.wrap ((s2 : Int) + (s2 : Int) / 4294967296) = (s3 : Int) ∧
    IntKind.i64.wrap (s3 : Int) = (s3 : Int) ∧ bits .and .i64 (s3 : Int) 127 = ((Pop.pop x : Nat) : Int) := by
  have m1 : Pop.M 0x55 8 = 6148914691236517205 := by decide
  have m2 : Pop.M 0x33 8 = 3689348814741910323 := by decide
  have m3 : Pop.M 0x0f 8 = 1085102592571150095 := by decide
  have k1 := and_le_r (x / 2) (Pop.M 0x55 8)
  have k2 := and_le_r x (Pop.M 0x55 8)
  have k3 := and_le_r (Pop.y1 8 x / 4) (Pop.M 0x33 8)
  have k4 := and_le_r (Pop.y1 8 x) (Pop.M 0x33 8)
  have l1 : Pop.y1 8 x = (x / 2 &&& Pop.M 0x55 8) + (x &&& Pop.M 0x55 8) := rfl
  have l2 : Pop.y2 8 (Pop.y1 8 x) = (Pop.y1 8 x / 4 &&& Pop.M 0x33 8) + (Pop.y1 8 x &&& Pop.M 0x33 8) := rfl
  have l3 : Pop.y3 8 (Pop.y2 8 (Pop.y1 8 x)) = (Pop.y2 8 (Pop.y1 8 x) / 16 + Pop.y2 8 (Pop.y1 8 x)) &&& Pop.M 0x0f 8 := rfl
  have k5 := and_le_r (Pop.y2 8 (Pop.y1 8 x) / 16 + Pop.y2 8 (Pop.y1 8 x)) (Pop.M 0x0f 8)
  obtain ⟨s1, e1⟩ : ∃ s1, s1 = Pop.y3 8 (Pop.y2 8 (Pop.y1 8 x)) + Pop.y3 8 (Pop.y2 8 (Pop.y1 8 x)) / 256 := ⟨_, rfl⟩
  obtain ⟨s2, e2⟩ : ∃ s2, s2 = s1 + s1 / 65536 := ⟨_, rfl⟩
  obtain ⟨s3, e3⟩ : ∃ s3, s3 = s2 + s2 / 4294967296 := ⟨_, rfl⟩
  obtain ⟨hp, hlt⟩ := Pop.pop_fold x s1 s2 s3 e1 e2 e3
  rw [m1] at k1 k2 l1
  rw [m2] at k3 k4 l2
  rw [m3] at k5 l3
  clear m1 m2 m3
  generalize Pop.y3 8 (Pop.y2 8 (Pop.y1 8 x)) = z3 at *
  generalize Pop.y2 8 (Pop.y1 8 x) = z2 at *
  generalize Pop.y1 8 x = z1 at *
  refine ⟨x / 2 &&& 6148914691236517205, x &&& 6148914691236517205, z1, z1 / 4 &&& 3689348814741910323, z1 &&& 3689348814741910323, z2, z2 / 16 + z2, z3, s1, s2, s3, ?_, ?_, ?_, ?_, ?_, ?_, ?_, ?_, ?_, ?_, ?_, ?_, ?_⟩
  · have := bits_and_u64_nat (x / 2) 6148914691236517205 (by omega) (by decide)
    simpa using this
  · have := bits_and_u64_nat x 6148914691236517205 (by omega) (by decide)
    simpa using this
  · rw [l1, IntWalk.u64_in _ (by omega)]; rfl
  · have := bits_and_u64_nat (z1 / 4) 3689348814741910323 (by omega) (by decide)
    simpa using this
  · have := bits_and_u64_nat z1 3689348814741910323 (by omega) (by decide)
    simpa using this
  · rw [l2, IntWalk.u64_in _ (by omega)]; rfl
  · rw [IntWalk.u64_in _ (by omega)]; omega
  · have := bits_and_u64_nat (z2 / 16 + z2) 1085102592571150095 (by omega) (by decide)
    rw [← l3] at this
    simpa using this
  · rw [IntWalk.u64_in _ (by omega)]; omega
  · rw [IntWalk.u64_in _ (by omega)]; omega
  · rw [IntWalk.u64_in _ (by omega)]; omega
  · rw [IntWalk.i64_in _ (by omega)]
  · rw [i64_and127]; omega

end Go.Proofs.Ytpdhelhngdeoeaa
