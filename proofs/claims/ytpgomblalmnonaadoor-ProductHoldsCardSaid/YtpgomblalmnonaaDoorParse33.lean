/- Contracts of product.Parse and of the reference's Parse. -/
import Derived.Test.YtpgomblalmnonaaDoorLet33
namespace Go.Proofs.YtpgomblalmnonaaDoor
open Go.RowKit

def digGo : List UInt8 → Int → Option Int
  | [], acc => some acc
  | c :: r, acc => if (c.toNat : Int) < 48 ∨ 57 < (c.toNat : Int) then none else digGo r (10 * acc + ((c.toNat : Int) - 48))
/-- Parse: area, category and an error -/
def parseF (l : List UInt8) : Int × Int × Int :=
  if l.length < 2 ∨ 3 < l.length then (0, 0, 6)
  else match digGo (l.take (l.length - 1)) 0 with
    | none => (0, 0, 6)
    | some a => if nameF a (((l.getD (l.length - 1) 0).toNat : Int) - 64) = l then (a, ((l.getD (l.length - 1) 0).toNat : Int) - 64, 0) else (0, 0, 6)

theorem parseF_name : ∀ (a : Fin 64) (c : Fin 2), parseF (nameN a.1 (c.1 + 1)) = ((a.1 : Int), (c.1 : Int) + 1, 0) := by decide +kernel
theorem parseF_yes {a c : Int} {l : List UInt8} (h0 : 0 ≤ a) (h1 : a ≤ 63) (h2 : 1 ≤ c) (h3 : c ≤ 2) (h : nameF a c = l) : parseF l = (a, c, 0) := by
  unfold nameF at h
  rw [if_neg (by omega)] at h
  have := parseF_name ⟨a.toNat, by omega⟩ ⟨c.toNat - 1, by omega⟩
  dsimp only at this
  rw [show c.toNat - 1 + 1 = c.toNat by omega, h] at this
  rw [this]
  congr 1
  · omega
  · congr 1; omega
theorem parseF_no {l : List UInt8} (h : ∀ a c : Int, 0 ≤ a → a ≤ 63 → 1 ≤ c → c ≤ 2 → nameF a c ≠ l) : parseF l = (0, 0, 6) := by
  unfold parseF
  split
  · rfl
  · rename_i hl
    split
    · rfl
    · rename_i a _
      split
      · rename_i hn
        exfalso
        by_cases hr : a < 0 ∨ 63 < a ∨ ((l.getD (l.length - 1) 0).toNat : Int) - 64 < 1 ∨ 2 < ((l.getD (l.length - 1) 0).toNat : Int) - 64
        · unfold nameF at hn
          rw [if_pos hr] at hn
          rw [← hn] at hl
          simp at hl
        · exact h a _ (by omega) (by omega) (by omega) (by omega) hn
      · rfl

theorem toList_strOf (l : List UInt8) : (strOf l).toList = l := by
  rw [ByteArray.toList_eq]; rfl
theorem toList_data (s : ByteArray) : s.toList = s.data.toList := ByteArray.toList_eq s

set_option maxRecDepth 100000 in
set_option maxHeartbeats 1000000 in
theorem rparse_any (s : ByteArray) (w : World) : Calls Tryd.prog 27 #[.string s] w fun e w' => e = .returned (v3 (parseF s.data.toList)) ∧ w = w' := by
  go_enter Tryd.func27, Tryd.ntmps27
  go_wp2
  go_loop [5] (fun i => ∃ a : Nat, a ≤ 64 ∧ i = .int .i64 a ∧ Hid (∀ x c : Int, 0 ≤ x → x < a → 1 ≤ c → c ≤ 2 → nameF x c ≠ s.data.toList)) (fun i => 64 - (intOf i).toNat)
  case atStart => exact ⟨0, Nat.zero_le _, rfl, fun x c h0 h1 => by omega⟩
  case round =>
    obtain ⟨a, ha, rfl, HN⟩ := hrel
    by_cases hlt : a < 64
    · have j1 : (a : Int) ≤ 63 := by omega
      have j0 : (0 : Int) ≤ (a : Int) := by omega
      go_wp2_with fail
      go_loop [6] (fun i => ∃ c : Nat, 1 ≤ c ∧ c ≤ 3 ∧ i = .int .i64 c ∧ Hid (∀ x : Int, 1 ≤ x → x < c → nameF a x ≠ s.data.toList)) (fun i => 3 - (intOf i).toNat)
      case atStart => exact ⟨1, by omega, by omega, rfl, fun x h0 h1 => by omega⟩
      case round =>
        obtain ⟨c, hc1, hc2, rfl, HM⟩ := hrel
        by_cases hlt2 : c < 3
        · have k1 : (c : Int) ≤ 2 := by omega
          by_cases he : nameF a c = s.data.toList
          · have t1 : ((strOf (nameF a c)).toList == s.toList) = true := by rw [toList_strOf, toList_data, he]; simp
            have HF : Eqn (parseF s.data.toList) ((a : Int), (c : Int), 0) := parseF_yes j0 j1 (by omega) k1 he
            clear he
            go_wp2_with fail
            refine (letters_any a c _).mono ?_
            rintro e w' ⟨rfl, rfl⟩
            go_wp2_with fail
            go_ret3
            exact ⟨by rw [HF.out]; rfl, rfl⟩
          · have t1 : ((strOf (nameF a c)).toList == s.toList) = false := by rw [toList_strOf, toList_data]; simpa using he
            have HM2 : Hid (∀ x : Int, 1 ≤ x → x < ((c + 1 : Nat) : Int) → nameF a x ≠ s.data.toList) := by
              intro x h1 h2
              by_cases hx : x = c
              · subst hx; exact he
              · exact HM.out x h1 (by omega)
            clear he
            go_wp2_with fail
            refine (letters_any a c _).mono ?_
            rintro e w' ⟨rfl, rfl⟩
            go_wp2_with fail
            go_round
            case rel => exact ⟨c + 1, by omega, by omega, by go_num, HM2⟩
            case measure => simp [intOf]; omega
        · have k1 : ¬ (c : Int) ≤ 2 := by omega
          have HN2 : Hid (∀ x c : Int, 0 ≤ x → x < ((a + 1 : Nat) : Int) → 1 ≤ c → c ≤ 2 → nameF x c ≠ s.data.toList) := by
            intro x y h0 h1 h2 h3
            by_cases hx : x = a
            · subst hx; exact HM.out y h2 (by omega)
            · exact HN.out x y h0 (by omega) h2 h3
          go_wp2_with fail
          go_round
          case rel => exact ⟨a + 1, by omega, by go_num, HN2⟩
          case measure => simp [intOf]; omega
    · have j1 : ¬ (a : Int) ≤ 63 := by omega
      have HF : Eqn (parseF s.data.toList) (0, 0, 6) := parseF_no fun x c h0 h1 h2 h3 => HN.out x c h0 (by omega) h2 h3
      go_wp2_with fail
      go_ret3
      exact ⟨by rw [HF.out]; rfl, rfl⟩

set_option maxRecDepth 100000 in
set_option maxHeartbeats 1000000 in
theorem parse_any (s : ByteArray) (w : World) (hs : s.size ≤ 1000) : Calls Tryd.prog 26 #[.string s] w (RetPost (v3 (parseF s.data.toList)) w.heap.size w) := by
  have hsz : Eqn s.data.toList.length s.size := rfl
  by_cases hl : s.size < 2 ∨ 3 < s.size
  · have HF : Eqn (parseF s.data.toList) (0, 0, 6) := by unfold parseF Eqn; rw [if_pos (by rw [hsz.out]; exact hl)]
    rcases hl with hl | hl
    · have d1 : (s.size : Int) < 2 := by omega
      go_enter Tryd.func26, Tryd.ntmps26
      go_wp2
      go_ret3
      exact ⟨by rw [HF.out]; rfl, Below.refl _ _⟩
    · have d1 : ¬ (s.size : Int) < 2 := by omega
      have d2 : 3 < (s.size : Int) := by omega
      go_enter Tryd.func26, Tryd.ntmps26
      go_wp2
      go_ret3
      exact ⟨by rw [HF.out]; rfl, Below.refl _ _⟩
  · have d1 : ¬ (s.size : Int) < 2 := by omega
    have d2 : ¬ 3 < (s.size : Int) := by omega
    have HF : Eqn (parseF s.data.toList) (match digGo (s.data.toList.take (s.size - 1)) 0 with
      | none => (0, 0, 6)
      | some a => if nameF a (((s.data.toList.getD (s.size - 1) 0).toNat : Int) - 64) = s.data.toList then (a, ((s.data.toList.getD (s.size - 1) 0).toNat : Int) - 64, 0) else (0, 0, 6)) := by
      unfold parseF Eqn; rw [if_neg (by rw [hsz.out]; exact hl)]; rfl
    obtain ⟨m, hm⟩ : ∃ m, s.size = m + 1 := ⟨s.size - 1, by omega⟩
    have hm1 : 1 ≤ m := by omega
    have hm2 : m ≤ 2 := by omega
    rw [hm, Nat.add_sub_cancel] at HF
    have Hm := Eqn.mk hm
    have e0 : (s.size : Int) - 1 = (m : Int) := by omega
    have hml : m < s.size := by omega
    have HlT : Eqn (s.data.toList.take m).length m := by rw [Eqn, List.length_take, hsz.out]; omega
    clear hl hm
    go_enter Tryd.func26, Tryd.ntmps26
    go_wp2
    go_loop [5, 19] (fun t i => ∃ (k : Nat) (acc : Int), k ≤ m ∧ i = .int .i64 k ∧ t = .int .i64 acc ∧ 0 ≤ acc ∧ acc ≤ 99 ∧ Hid ((k ≤ 1 → acc ≤ 9) ∧ (k = 0 → acc = 0)) ∧ Eqn (digGo (s.data.toList.take m) 0) (digGo ((s.data.toList.take m).drop k) acc)) (fun _ i => m - (intOf i).toNat)
    case atStart => exact ⟨0, 0, Nat.zero_le _, rfl, rfl, Int.le_refl _, by omega, ⟨fun _ => by omega, fun _ => rfl⟩, rfl⟩
    case round =>
      obtain ⟨k, acc, hk, rfl, rfl, a0, a1, HB, HR⟩ := hrel
      by_cases hlt : k < m
      · have hks : k < s.size := by omega
        have hcons : (s.data.toList.take m).drop k = s[k] :: (s.data.toList.take m).drop (k + 1) := by
          rw [List.drop_eq_getElem_cons (by rw [HlT.out]; exact hlt)]
          congr 1
          simp
          rfl
        have HR' : Eqn (digGo (s.data.toList.take m) 0) (if (s[k].toNat : Int) < 48 ∨ 57 < (s[k].toNat : Int) then none else digGo ((s.data.toList.take m).drop (k + 1)) (10 * acc + ((s[k].toNat : Int) - 48))) := by
          have := HR.out; rw [hcons, digGo] at this; exact this
        have j1 : (k : Int) < (m : Int) := by omega
        have j0 : (0 : Int) ≤ (k : Int) := by omega
        have j2 : (k : Int) < (s.size : Int) := by omega
        have hb : s[k].toNat < 256 := s[k].toNat_lt
        have a2 : acc ≤ 9 := HB.out.1 (by omega)
        clear hcons HR
        by_cases hd : (s[k].toNat : Int) < 48 ∨ 57 < (s[k].toNat : Int)
        · have HF2 : Eqn (parseF s.data.toList) (0, 0, 6) := by rw [Eqn, HF.out, HR'.out, if_pos hd]
          rcases hd with hd | hd
          all_goals
            go_wp2_with fail
            all_goals
              go_ret3
              exact ⟨by rw [HF2.out]; rfl, Below.refl _ _⟩
        · have n1 : ¬ (s[k].toNat : Int) < 48 := by omega
          have n2 : ¬ 57 < (s[k].toNat : Int) := by omega
          have HR2 : Eqn (digGo (s.data.toList.take m) 0) (digGo ((s.data.toList.take m).drop (k + 1)) (10 * acc + ((s[k].toNat : Int) - 48))) := by rw [Eqn, HR'.out, if_neg hd]
          clear hd HR'
          go_wp2_with fail
          go_round
          case rel => exact ⟨k + 1, 10 * acc + ((s[k].toNat : Int) - 48), by omega, by go_num, rfl, by omega, by omega, ⟨fun h => by have := HB.out.2 (by omega); omega, fun h => by omega⟩, HR2⟩
          case measure => simp [intOf]; omega
      · have hkm : k = m := by omega
        have HR2 : Eqn (digGo (s.data.toList.take m) 0) (some acc) := by
          rw [Eqn, HR.out, drop_end (by rw [hkm, HlT.out]; exact Nat.le_refl _)]; rfl
        have hlast : s.data.toList.getD m 0 = s[m] := by
          rw [List.getD_eq_getElem?_getD, List.getElem?_eq_getElem (by rw [hsz.out]; exact hml)]
          simp
          rfl
        have HF2 : Eqn (parseF s.data.toList) (if nameF acc ((s[m].toNat : Int) - 65 + 1) = s.data.toList then (acc, (s[m].toNat : Int) - 65 + 1, 0) else (0, 0, 6)) := by
          rw [Eqn, HF.out, HR2.out, hlast, show (s[m].toNat : Int) - 65 + 1 = (s[m].toNat : Int) - 64 by omega]
        have j1 : ¬ (k : Int) < (m : Int) := by omega
        have hb : s[m].toNat < 256 := s[m].toNat_lt
        clear hkm HR hlast HR2 HF
        by_cases he : nameF acc ((s[m].toNat : Int) - 65 + 1) = s.data.toList
        · have HF3 : Eqn (parseF s.data.toList) (acc, (s[m].toNat : Int) - 65 + 1, 0) := by rw [Eqn, HF2.out, if_pos he]
          have t1 : ((strOf (nameF acc ((s[m].toNat : Int) - 65 + 1))).toList == s.toList) = true := by rw [toList_strOf, toList_data, he]; simp
          clear he HF2
          go_wp2_with fail
          refine (name_any ⟨acc, (s[m].toNat : Int) - 65 + 1, 0, 0, 0⟩ _).mono ?_
          rintro e w1 ⟨rfl, hb1⟩
          have B1 := Lib.hid hb1
          clear hb1
          dsimp only
          go_wp2_with fail
          go_ret3
          exact ⟨by rw [HF3.out]; rfl, B1.out⟩
        · have HF3 : Eqn (parseF s.data.toList) (0, 0, 6) := by rw [Eqn, HF2.out, if_neg he]
          have t1 : ((strOf (nameF acc ((s[m].toNat : Int) - 65 + 1))).toList == s.toList) = false := by rw [toList_strOf, toList_data]; simpa using he
          clear he HF2
          go_wp2_with fail
          refine (name_any ⟨acc, (s[m].toNat : Int) - 65 + 1, 0, 0, 0⟩ _).mono ?_
          rintro e w1 ⟨rfl, hb1⟩
          have B1 := Lib.hid hb1
          clear hb1
          dsimp only
          go_wp2_with fail
          go_ret3
          exact ⟨by rw [HF3.out]; rfl, B1.out⟩
end Go.Proofs.YtpgomblalmnonaaDoor
