/- Keys of the map in demand.Carry. -/
import Derived.Test.YtoafkphcfhbnmaaMapI
import Derived.Test.YtoafkphcfhbnmaaChange
import Derived.KernelRfl
namespace Go.Proofs.Ytoafkphcfhbnmaa
open Go.RowKit

def encP (k : Int × Int) : Value := .agg #[.int .i64 k.1, .int .i64 k.2]

theorem place_eq (w : World) (a b a' b' : Int) : (Op.equal 65 (.agg #[.int .i64 a, .int .i64 b]) (.agg #[.int .i64 a', .int .i64 b'])).run Try.prog w = .ok (decide (a = a' ∧ b = b')) w := by
  have h1 : Try.prog.stoodInHeld 65 = false := by kernel_rfl
  have h2 : Try.prog.underlying 65 = some (.struct (Try.prog.fieldsOf 65)) := by simp only [Program.fieldsOf, Try.underlying65]
  have h3 : ∀ w' x y, (part 3 #[.int .i64 x, .int .i64 y] 0).run Try.prog w' = .ok (.int .i64 x) w' := fun _ _ _ => by kernel_rfl
  have h4 : ∀ w' x y, (part 3 #[.int .i64 x, .int .i64 y] 1).run Try.prog w' = .ok (.int .i64 y) w' := fun _ _ _ => by kernel_rfl
  rw [Op.equal, Op.maxDepth, run_equalIn_agg w 9999 _ _ _ h2 h1]
  simp only [Program.fieldsOf, Try.underlying65, Op.eqFields]
  simp [Sem.run_bind, h3, h4, run_equalIn_int (P := Try.prog) _ 9998 3 .i64 .i64 _ _ Try.underlying3]
  by_cases ha : a = a'
  · by_cases hb : b = b' <;> simp [ha, hb]
  · simp [ha]

theorem place_ok : KeyOk Try.prog 65 encP where
  under := ⟨_, Try.underlying65, fun _ _ => rfl⟩
  check := by intro w em x; kernel_rfl
  eq := by
    rintro w ⟨a, b⟩ ⟨a', b'⟩
    rw [encP, encP, place_eq]
    simp
  same := by
    rintro ⟨a, b⟩
    simp [encP, Instr.sameBits]
end Go.Proofs.Ytoafkphcfhbnmaa
