/- Contracts of product.Name and of the reference's Letters. -/
import Derived.Test.YtpgomblalmnonaaDoorOwn
import Derived.Test.YtpgomblalmnonaaDoorLex
import Derived.WalkSpells
import Derived.Deep.QuietTactic
import Derived.BigQuiet
namespace Go.Proofs.YtpgomblalmnonaaDoor
open Go.RowKit

def strOf (l : List UInt8) : ByteArray := ⟨l.toArray⟩
def digS (i : Nat) : List UInt8 := if i < 10 then [UInt8.ofNat (48 + i)] else [UInt8.ofNat (48 + i / 10), UInt8.ofNat (48 + i % 10)]
/-- the name of an area and a category -/
def nameN (a c : Nat) : List UInt8 := digS a ++ [UInt8.ofNat (64 + c)]
def nameF (a c : Int) : List UInt8 := if a < 0 ∨ 63 < a ∨ c < 1 ∨ 2 < c then [] else nameN a.toNat c.toNat

def dig36 : ByteArray := ⟨#[48, 49, 50, 51, 52, 53, 54, 55, 56, 57, 97, 98, 99, 100, 101, 102, 103, 104, 105, 106, 107, 108, 109, 110, 111, 112, 113, 114, 115, 116, 117, 118, 119, 120, 121, 122]⟩
def dig200 : ByteArray := ⟨#[48, 48, 48, 49, 48, 50, 48, 51, 48, 52, 48, 53, 48, 54, 48, 55, 48, 56, 48, 57, 49, 48, 49, 49, 49, 50, 49, 51, 49, 52, 49, 53, 49, 54, 49, 55, 49, 56, 49, 57, 50, 48, 50, 49, 50, 50, 50, 51, 50, 52, 50, 53, 50, 54, 50, 55, 50, 56, 50, 57, 51, 48, 51, 49, 51, 50, 51, 51, 51, 52, 51, 53, 51, 54, 51, 55, 51, 56, 51, 57, 52, 48, 52, 49, 52, 50, 52, 51, 52, 52, 52, 53, 52, 54, 52, 55, 52, 56, 52, 57, 53, 48, 53, 49, 53, 50, 53, 51, 53, 52, 53, 53, 53, 54, 53, 55, 53, 56, 53, 57, 54, 48, 54, 49, 54, 50, 54, 51, 54, 52, 54, 53, 54, 54, 54, 55, 54, 56, 54, 57, 55, 48, 55, 49, 55, 50, 55, 51, 55, 52, 55, 53, 55, 54, 55, 55, 55, 56, 55, 57, 56, 48, 56, 49, 56, 50, 56, 51, 56, 52, 56, 53, 56, 54, 56, 55, 56, 56, 56, 57, 57, 48, 57, 49, 57, 50, 57, 51, 57, 52, 57, 53, 57, 54, 57, 55, 57, 56, 57, 57]⟩
theorem dig36_at : ∀ i : Fin 10, dig36.extract i.1 (i.1 + 1) = strOf (digS i.1) := by decide +kernel
theorem dig200_at : ∀ i : Fin 64, 10 ≤ i.1 → dig200.extract (i.1 * 2) (i.1 * 2 + 2) = strOf (digS i.1) := by decide +kernel

set_option maxRecDepth 100000 in
theorem small_any (i : Nat) (w : World) (hi : i < 64) :
    Calls Tryd.prog 57 #[.int .i64 i] w fun e w' => e = .returned (.string (strOf (digS i))) ∧ w = w' := by
  by_cases h : i < 10
  · have h1 : (i : Int) < 10 := by omega
    have h0 : (0 : Int) ≤ (i : Int) := by omega
    go_enter Tryd.func57, Tryd.ntmps57
    go_wp2
    go_ret
    exact ⟨congrArg (fun s => Ending.returned (.string s)) (dig36_at ⟨i, h⟩), rfl⟩
  · have h1 : ¬ (i : Int) < 10 := by omega
    have h0 : (0 : Int) ≤ (i : Int) := by omega
    go_enter Tryd.func57, Tryd.ntmps57
    go_wp2
    go_ret
    exact ⟨congrArg (fun s => Ending.returned (.string s)) (dig200_at ⟨i, hi⟩ (by show 10 ≤ i; omega)), rfl⟩

theorem itoa_any (i : Nat) (w : World) (hi : i < 64) :
    Calls Tryd.prog 45 #[.int .i64 i] w fun e w' => e = .returned (.string (strOf (digS i))) ∧ w = w' := by
  have h0 : (0 : Int) ≤ (i : Int) := by omega
  have h1 : (i : Int) < 100 := by omega
  have hf : ∀ w, Calls Tryd.prog 56 #[.int .i64 i, .int .i64 10] w fun e w' => e = .returned (.string (strOf (digS i))) ∧ w = w' := by
    intro w
    go_enter Tryd.func56, Tryd.ntmps56
    go_wp2_with fail
    refine (small_any i _ hi).mono ?_
    rintro e w' ⟨rfl, rfl⟩
    go_wp2_with fail
    go_ret
    exact ⟨rfl, rfl⟩
  have hi2 : ∀ w, Calls Tryd.prog 55 #[.int .i64 i] w fun e w' => e = .returned (.string (strOf (digS i))) ∧ w = w' := by
    intro w
    have Hf := Lib.hid hf
    clear hf
    go_enter Tryd.func55, Tryd.ntmps55
    go_wp2_with fail
    refine (Hf.out _).mono ?_
    rintro e w' ⟨rfl, rfl⟩
    go_wp2_with fail
    go_ret
    exact ⟨rfl, rfl⟩
  have Hi := Lib.hid hi2
  clear hf hi2
  go_enter Tryd.func45, Tryd.ntmps45
  go_wp2_with fail
  refine (Hi.out _).mono ?_
  rintro e w' ⟨rfl, rfl⟩
  go_wp2_with fail
  go_ret
  exact ⟨rfl, rfl⟩

theorem letter_any (c : Int) (w : World) (h1 : 1 ≤ c) (h2 : c ≤ 2) : Calls Tryd.prog 46 #[.int .i64 c] w fun e w' => e = .returned (.int .i32 (64 + c)) ∧ w = w' := by
  go_enter Tryd.func46, Tryd.ntmps46
  go_wp2
  go_ret
  exact ⟨ret_int (by omega), rfl⟩

theorem quiet_mk {P : Program} {f : FuncId} {args : Array Value} {w : World} {v : Value} (h : Calls P f args w fun e w' => e = .returned v ∧ w = w') : Calls P f args w fun e w' => e = .returned v ∧ w' = w := h.mono fun _ _ ⟨a, b⟩ => ⟨a, b.symm⟩

theorem name_any (p : Prod) (w : World) : Calls Tryd.prog 24 #[p.val] w (RetPost (.string (strOf (nameF p.area p.cat))) w.heap.size w) := by
  unfold Prod.val
  obtain ⟨a, c, s, u, r⟩ := p
  dsimp only
  by_cases h : a < 0 ∨ 63 < a ∨ c < 1 ∨ 2 < c
  · have hF : Eqn (nameF a c) [] := by unfold nameF Eqn; rw [if_pos h]
    cases h1 : withinB a 0 63 with
    | false =>
      clear h
      go_enter Tryd.func24, Tryd.ntmps24
      go_wp2_with (go_at_call 30; refine (pwithin_any _ _ _ _).mono ?_; rintro e w' ⟨rfl, rfl⟩)
      go_ret
      exact ⟨by rw [hF.out]; rfl, (Below.refl _ _).alloc (Nat.le_refl _) _⟩
    | true =>
      have h2 : withinB c 1 2 = false := by
        unfold withinB at h1 ⊢
        rw [Bool.and_eq_true, decide_eq_true_eq, decide_eq_true_eq] at h1
        rw [Bool.and_eq_false_iff, decide_eq_false_iff_not, decide_eq_false_iff_not]
        omega
      clear h
      go_enter Tryd.func24, Tryd.ntmps24
      go_wp2_with (go_at_call 30; refine (pwithin_any _ _ _ _).mono ?_; rintro e w' ⟨rfl, rfl⟩)
      go_ret
      exact ⟨by rw [hF.out]; rfl, (Below.refl _ _).alloc (Nat.le_refl _) _⟩
  · have hF : Eqn (nameF a c) (nameN a.toNat c.toNat) := by unfold nameF Eqn; rw [if_neg h]
    have h1 : withinB a 0 63 = true := withinB_true (by omega) (by omega)
    have h2 : withinB c 1 2 = true := withinB_true (by omega) (by omega)
    obtain ⟨k, rfl⟩ := Int.eq_ofNat_of_zero_le (by omega : 0 ≤ a)
    have hk : k < 64 := by omega
    have hc : c = 1 ∨ c = 2 := by omega
    clear h
    rcases hc with rfl | rfl
    · have h9 : ¬ (9223372036854775807 < (strOf (digS k)).size + (Utf8.encode 65).size) := by
        have e1 : (strOf (digS k)).size ≤ 2 := by unfold digS; split <;> simp [strOf, ByteArray.size]
        have e2 : (Utf8.encode 65).size = 1 := by decide +kernel
        omega
      have HN : Eqn (strOf (digS k) ++ Utf8.encode 65) (strOf (nameN k 1)) := by
        have : ∀ k : Fin 64, strOf (digS k.1) ++ Utf8.encode 65 = strOf (nameN k.1 1) := by decide +kernel
        exact this ⟨k, hk⟩
      go_enter Tryd.func24, Tryd.ntmps24
      go_wp2_with (go_at_call 30; refine (pwithin_any _ _ _ _).mono ?_; rintro e w' ⟨rfl, rfl⟩)
      go_quiet ((first | (go_at_call 45; exact Calls.quiet_of_same (quiet_mk (itoa_any k _ hk))) | (go_at_call 46; exact Calls.quiet_of_same (quiet_mk (letter_any 1 _ (by omega) (by omega))))))
      go_wp2
      go_ret
      refine ⟨?_, below_drewN ((Below.refl _ _).alloc (Nat.le_refl _) _) _⟩
      rw [hF.out]
      exact congrArg (fun s => Ending.returned (.string s)) HN.out
    · have h9 : ¬ (9223372036854775807 < (strOf (digS k)).size + (Utf8.encode 66).size) := by
        have e1 : (strOf (digS k)).size ≤ 2 := by unfold digS; split <;> simp [strOf, ByteArray.size]
        have e2 : (Utf8.encode 66).size = 1 := by decide +kernel
        omega
      have HN : Eqn (strOf (digS k) ++ Utf8.encode 66) (strOf (nameN k 2)) := by
        have : ∀ k : Fin 64, strOf (digS k.1) ++ Utf8.encode 66 = strOf (nameN k.1 2) := by decide +kernel
        exact this ⟨k, hk⟩
      go_enter Tryd.func24, Tryd.ntmps24
      go_wp2_with (go_at_call 30; refine (pwithin_any _ _ _ _).mono ?_; rintro e w' ⟨rfl, rfl⟩)
      go_quiet ((first | (go_at_call 45; exact Calls.quiet_of_same (quiet_mk (itoa_any k _ hk))) | (go_at_call 46; exact Calls.quiet_of_same (quiet_mk (letter_any 2 _ (by omega) (by omega))))))
      go_wp2
      go_ret
      refine ⟨?_, below_drewN ((Below.refl _ _).alloc (Nat.le_refl _) _) _⟩
      rw [hF.out]
      exact congrArg (fun s => Ending.returned (.string s)) HN.out
end Go.Proofs.YtpgomblalmnonaaDoor
