/- Sets held against each other by == and !=. -/
import Derived.Test.YtpdhelhngdeoeaaOnes
import Derived.Laws.StructEq
namespace Go.Proofs.Ytpdhelhngdeoeaa
open Go.RowKit

theorem part_arr (w : World) (x0 x1 x2 x3 x4 x5 x6 x7 : Int) : (part 79 #[.int .u64 x0, .int .u64 x1, .int .u64 x2, .int .u64 x3, .int .u64 x4, .int .u64 x5, .int .u64 x6, .int .u64 x7] 0).run Try.prog w = .ok (.agg #[.int .u64 x0, .int .u64 x1, .int .u64 x2, .int .u64 x3, .int .u64 x4, .int .u64 x5, .int .u64 x6, .int .u64 x7]) w := by kernel_rfl

theorem arr_eq (w : World) (d : Nat) (x0 x1 x2 x3 x4 x5 x6 x7 y0 y1 y2 y3 y4 y5 y6 y7 : Int) :
    (Op.equalIn (d + 2) 79 (.agg #[.int .u64 x0, .int .u64 x1, .int .u64 x2, .int .u64 x3, .int .u64 x4, .int .u64 x5, .int .u64 x6, .int .u64 x7]) (.agg #[.int .u64 y0, .int .u64 y1, .int .u64 y2, .int .u64 y3, .int .u64 y4, .int .u64 y5, .int .u64 y6, .int .u64 y7])).run Try.prog w
      = .ok (decide (x0 = y0 ∧ x1 = y1 ∧ x2 = y2 ∧ x3 = y3 ∧ x4 = y4 ∧ x5 = y5 ∧ x6 = y6 ∧ x7 = y7)) w := by
  have p0 : ∀ (w' : World) (x0 x1 x2 x3 x4 x5 x6 x7 : Int), (part 78 #[.int .u64 x0, .int .u64 x1, .int .u64 x2, .int .u64 x3, .int .u64 x4, .int .u64 x5, .int .u64 x6, .int .u64 x7] 0).run Try.prog w' = .ok (.int .u64 x0) w' := fun _ _ _ _ _ _ _ _ _ => by kernel_rfl
  have p1 : ∀ (w' : World) (x0 x1 x2 x3 x4 x5 x6 x7 : Int), (part 78 #[.int .u64 x0, .int .u64 x1, .int .u64 x2, .int .u64 x3, .int .u64 x4, .int .u64 x5, .int .u64 x6, .int .u64 x7] 1).run Try.prog w' = .ok (.int .u64 x1) w' := fun _ _ _ _ _ _ _ _ _ => by kernel_rfl
  have p2 : ∀ (w' : World) (x0 x1 x2 x3 x4 x5 x6 x7 : Int), (part 78 #[.int .u64 x0, .int .u64 x1, .int .u64 x2, .int .u64 x3, .int .u64 x4, .int .u64 x5, .int .u64 x6, .int .u64 x7] 2).run Try.prog w' = .ok (.int .u64 x2) w' := fun _ _ _ _ _ _ _ _ _ => by kernel_rfl
  have p3 : ∀ (w' : World) (x0 x1 x2 x3 x4 x5 x6 x7 : Int), (part 78 #[.int .u64 x0, .int .u64 x1, .int .u64 x2, .int .u64 x3, .int .u64 x4, .int .u64 x5, .int .u64 x6, .int .u64 x7] 3).run Try.prog w' = .ok (.int .u64 x3) w' := fun _ _ _ _ _ _ _ _ _ => by kernel_rfl
  have p4 : ∀ (w' : World) (x0 x1 x2 x3 x4 x5 x6 x7 : Int), (part 78 #[.int .u64 x0, .int .u64 x1, .int .u64 x2, .int .u64 x3, .int .u64 x4, .int .u64 x5, .int .u64 x6, .int .u64 x7] 4).run Try.prog w' = .ok (.int .u64 x4) w' := fun _ _ _ _ _ _ _ _ _ => by kernel_rfl
  have p5 : ∀ (w' : World) (x0 x1 x2 x3 x4 x5 x6 x7 : Int), (part 78 #[.int .u64 x0, .int .u64 x1, .int .u64 x2, .int .u64 x3, .int .u64 x4, .int .u64 x5, .int .u64 x6, .int .u64 x7] 5).run Try.prog w' = .ok (.int .u64 x5) w' := fun _ _ _ _ _ _ _ _ _ => by kernel_rfl
  have p6 : ∀ (w' : World) (x0 x1 x2 x3 x4 x5 x6 x7 : Int), (part 78 #[.int .u64 x0, .int .u64 x1, .int .u64 x2, .int .u64 x3, .int .u64 x4, .int .u64 x5, .int .u64 x6, .int .u64 x7] 6).run Try.prog w' = .ok (.int .u64 x6) w' := fun _ _ _ _ _ _ _ _ _ => by kernel_rfl
  have p7 : ∀ (w' : World) (x0 x1 x2 x3 x4 x5 x6 x7 : Int), (part 78 #[.int .u64 x0, .int .u64 x1, .int .u64 x2, .int .u64 x3, .int .u64 x4, .int .u64 x5, .int .u64 x6, .int .u64 x7] 7).run Try.prog w' = .ok (.int .u64 x7) w' := fun _ _ _ _ _ _ _ _ _ => by kernel_rfl
  have hz : (sizeOf 78).run Try.prog w = .ok 1 w := by kernel_rfl
  have he : ∀ (w' : World) (a b : Int), (Op.equalIn (d + 1) 78 (.int .u64 a) (.int .u64 b)).run Try.prog w' = .ok (a == b) w' := fun w' a b => run_equalIn_int (P := Try.prog) w' d 78 .u64 .u64 a b Try.underlying78
  rw [Op.equalIn]
  simp only [Sem.run_bind, run_underlying Try.underlying79, Result.andThen_ok, hz]
  simp only [Std.Legacy.Range.forIn_eq_forIn_range', Std.Legacy.Range.size, List.range'_succ, List.range'_zero, List.forIn_cons, List.forIn_nil, Sem.run_bind, Nat.mul_one, p0, he, Result.andThen_ok]
  by_cases h0 : x0 = y0
  rotate_left
  · simp [h0]
  by_cases h1 : x1 = y1
  rotate_left
  · simp [h1, p1, he, h0]
  by_cases h2 : x2 = y2
  rotate_left
  · simp [h2, p1, p2, he, h0, h1]
  by_cases h3 : x3 = y3
  rotate_left
  · simp [h3, p1, p2, p3, he, h0, h1, h2]
  by_cases h4 : x4 = y4
  rotate_left
  · simp [h4, p1, p2, p3, p4, he, h0, h1, h2, h3]
  by_cases h5 : x5 = y5
  rotate_left
  · simp [h5, p1, p2, p3, p4, p5, he, h0, h1, h2, h3, h4]
  by_cases h6 : x6 = y6
  rotate_left
  · simp [h6, p1, p2, p3, p4, p5, p6, he, h0, h1, h2, h3, h4, h5]
  by_cases h7 : x7 = y7
  rotate_left
  · simp [h7, p1, p2, p3, p4, p5, p6, p7, he, h0, h1, h2, h3, h4, h5, h6]
  simp [p1, p2, p3, p4, p5, p6, p7, he, h0, h1, h2, h3, h4, h5, h6, h7]

theorem set_eqIn (w : World) (S T : Nat) (hS : Fit S) (hT : Fit T) : (Op.equalIn 10000 81 (sV S) (sV T)).run Try.prog w = .ok (decide (S = T)) w := by
  have h1 : Try.prog.stoodInHeld 81 = false := by kernel_rfl
  have h2 : Try.prog.underlying 81 = some (.struct (Try.prog.fieldsOf 81)) := by simp only [Program.fieldsOf, Try.underlying81]
  unfold sV
  rw [run_equalIn_agg w 9999 _ _ _ h2 h1]
  simp only [Program.fieldsOf, Try.underlying81, Op.eqFields]
  rw [if_pos (by decide)]
  simp only [Sem.run_bind, part_arr, Result.andThen_ok, arr_eq w 9997]
  have key : decide ((wd S 0 : Int) = wd T 0 ∧ (wd S 1 : Int) = wd T 1 ∧ (wd S 2 : Int) = wd T 2 ∧ (wd S 3 : Int) = wd T 3 ∧ (wd S 4 : Int) = wd T 4 ∧ (wd S 5 : Int) = wd T 5 ∧ (wd S 6 : Int) = wd T 6 ∧ (wd S 7 : Int) = wd T 7) = decide (S = T) := by
    apply decide_eq_decide.2
    constructor
    · rintro ⟨a0, a1, a2, a3, a4, a5, a6, a7⟩
      exact wd_inj hS hT (by omega) (by omega) (by omega) (by omega) (by omega) (by omega) (by omega) (by omega)
    · rintro rfl
      exact ⟨rfl, rfl, rfl, rfl, rfl, rfl, rfl, rfl⟩
  rw [key]
  by_cases h : S = T <;> simp [h]
theorem set_eql (w : World) (S T : Nat) (hS : Fit S) (hT : Fit T) : (binOp .eql 81 (sV S) (sV T)).run Try.prog w = .ok (.bool (decide (S = T))) w := by
  have := set_eqIn w S T hS hT
  unfold sV at *
  rw [run_eql_struct, this]
  rfl
theorem set_neq (w : World) (S T : Nat) (hS : Fit S) (hT : Fit T) : (binOp .neq 81 (sV S) (sV T)).run Try.prog w = .ok (.bool (!decide (S = T))) w := by
  have := set_eqIn w S T hS hT
  unfold sV at *
  rw [run_neq_struct, this]
  rfl
end Go.Proofs.Ytpdhelhngdeoeaa
