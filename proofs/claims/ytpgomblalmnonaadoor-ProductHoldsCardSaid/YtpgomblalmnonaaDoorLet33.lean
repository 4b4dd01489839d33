/- Contract of the reference's Letters. -/
import Derived.Test.YtpgomblalmnonaaDoorName33
namespace Go.Proofs.YtpgomblalmnonaaDoor
open Go.RowKit

def dig10 : ByteArray := ⟨#[48, 49, 50, 51, 52, 53, 54, 55, 56, 57]⟩
theorem dig10_at' (k : Nat) (h : k < 10) : dig10.extract k (k + 1) = strOf [UInt8.ofNat (48 + k)] := by
  have : ∀ k : Fin 10, dig10.extract k.1 (k.1 + 1) = strOf [UInt8.ofNat (48 + k.1)] := by decide +kernel
  exact this ⟨k, h⟩

set_option maxRecDepth 100000 in
theorem letters_any (a c : Int) (w : World) : Calls Tryd.prog 25 #[.int .i64 a, .int .i64 c] w fun e w' => e = .returned (.string (strOf (nameF a c))) ∧ w = w' := by
  by_cases h : a < 0 ∨ 63 < a ∨ c < 1 ∨ 2 < c
  · have hF : Eqn (nameF a c) [] := by unfold nameF Eqn; rw [if_pos h]
    rcases h with h | h | h | h
    all_goals
      go_enter Tryd.func25, Tryd.ntmps25
      go_wp2
      all_goals
        go_ret
        exact ⟨by rw [hF.out]; rfl, rfl⟩
  · have hF : Eqn (nameF a c) (nameN a.toNat c.toNat) := by unfold nameF Eqn; rw [if_neg h]
    obtain ⟨k, rfl⟩ := Int.eq_ofNat_of_zero_le (by omega : 0 ≤ a)
    have hk : k < 64 := by omega
    have hc : c = 1 ∨ c = 2 := by omega
    have n1 : ¬ (k : Int) < 0 := by omega
    have n2 : ¬ 63 < (k : Int) := by omega
    clear h
    rcases hc with rfl | rfl
    · have hz : ((1 : Int) == 1) = true := by decide
      by_cases h10 : k < 10
      · have g1 : ¬ (10 : Int) ≤ (k : Int) := by omega
        have g2 : (k : Int) % 10 = k := by omega
        have HN : Eqn ((⟨#[]⟩ : ByteArray) ++ dig10.extract k (k + 1) ++ ⟨#[65]⟩) (strOf (nameN k 1)) := by
          have : ∀ k : Fin 10, (⟨#[]⟩ : ByteArray) ++ dig10.extract k.1 (k.1 + 1) ++ (⟨#[65]⟩ : ByteArray) = strOf (nameN k.1 1) := by decide +kernel
          exact this ⟨k, h10⟩
        go_enter Tryd.func25, Tryd.ntmps25
        go_wp2
        go_ret
        rw [hF.out]
        exact ⟨congrArg (fun s => Ending.returned (.string s)) HN.out, rfl⟩
      · have g1 : (10 : Int) ≤ (k : Int) := by omega
        have HN : Eqn (dig10.extract (k / 10) (k / 10 + 1) ++ dig10.extract (k % 10) (k % 10 + 1) ++ ⟨#[65]⟩) (strOf (nameN k 1)) := by
          have : ∀ k : Fin 64, 10 ≤ k.1 → dig10.extract (k.1 / 10) (k.1 / 10 + 1) ++ dig10.extract (k.1 % 10) (k.1 % 10 + 1) ++ (⟨#[65]⟩ : ByteArray) = strOf (nameN k.1 1) := by decide +kernel
          exact this ⟨k, hk⟩ (by show 10 ≤ k; omega)
        obtain ⟨q, hq⟩ : ∃ q, q = k / 10 := ⟨_, rfl⟩
        obtain ⟨r, hr⟩ : ∃ r, r = k % 10 := ⟨_, rfl⟩
        have q1 : (k : Int) / 10 = (q : Int) := by omega
        have r1 : (k : Int) % 10 = (r : Int) := by omega
        have q2 : q < 7 := by omega
        have r2 : r < 10 := by omega
        rw [← hq, ← hr] at HN
        have Hq := Eqn.mk hq
        clear hq hr
        go_enter Tryd.func25, Tryd.ntmps25
        go_wp2
        go_ret
        rw [hF.out]
        exact ⟨congrArg (fun s => Ending.returned (.string s)) HN.out, rfl⟩
    · have hz : ((2 : Int) == 1) = false := by decide
      by_cases h10 : k < 10
      · have g1 : ¬ (10 : Int) ≤ (k : Int) := by omega
        have g2 : (k : Int) % 10 = k := by omega
        have HN : Eqn ((⟨#[]⟩ : ByteArray) ++ dig10.extract k (k + 1) ++ ⟨#[66]⟩) (strOf (nameN k 2)) := by
          have : ∀ k : Fin 10, (⟨#[]⟩ : ByteArray) ++ dig10.extract k.1 (k.1 + 1) ++ (⟨#[66]⟩ : ByteArray) = strOf (nameN k.1 2) := by decide +kernel
          exact this ⟨k, h10⟩
        go_enter Tryd.func25, Tryd.ntmps25
        go_wp2
        go_ret
        rw [hF.out]
        exact ⟨congrArg (fun s => Ending.returned (.string s)) HN.out, rfl⟩
      · have g1 : (10 : Int) ≤ (k : Int) := by omega
        have HN : Eqn (dig10.extract (k / 10) (k / 10 + 1) ++ dig10.extract (k % 10) (k % 10 + 1) ++ ⟨#[66]⟩) (strOf (nameN k 2)) := by
          have : ∀ k : Fin 64, 10 ≤ k.1 → dig10.extract (k.1 / 10) (k.1 / 10 + 1) ++ dig10.extract (k.1 % 10) (k.1 % 10 + 1) ++ (⟨#[66]⟩ : ByteArray) = strOf (nameN k.1 2) := by decide +kernel
          exact this ⟨k, hk⟩ (by show 10 ≤ k; omega)
        obtain ⟨q, hq⟩ : ∃ q, q = k / 10 := ⟨_, rfl⟩
        obtain ⟨r, hr⟩ : ∃ r, r = k % 10 := ⟨_, rfl⟩
        have q1 : (k : Int) / 10 = (q : Int) := by omega
        have r1 : (k : Int) % 10 = (r : Int) := by omega
        have q2 : q < 7 := by omega
        have r2 : r < 10 := by omega
        rw [← hq, ← hr] at HN
        have Hq := Eqn.mk hq
        clear hq hr
        go_enter Tryd.func25, Tryd.ntmps25
        go_wp2
        go_ret
        rw [hF.out]
        exact ⟨congrArg (fun s => Ending.returned (.string s)) HN.out, rfl⟩
end Go.Proofs.YtpgomblalmnonaaDoor
