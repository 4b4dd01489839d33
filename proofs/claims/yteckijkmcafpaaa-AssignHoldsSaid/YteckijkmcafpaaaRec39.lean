/- Contracts of the reference's Number and Search, which call themselves. -/
import Derived.Test.YteckijkmcafpaaaSm39
namespace Go.Proofs.Yteckijkmcafpaaa
open Go.RowKit

def csOf (l : List Claim) : List Nat := l.map fun c => c.cnt.toNat
def fuOf (ws : List Wish) (wn : List Int) (x : Int) (s : Nat) : Int := if hasF wn x = true then wishF x (s : Int) ws else 0
def psOf (l : List Claim) (ws : List Wish) (wn : List Int) : List (Nat × (Nat → Int)) := l.map fun c => (c.cnt.toNat, fuOf ws wn c.win)
theorem psOf_fst (l : List Claim) (ws : List Wish) (wn : List Int) : (psOf l ws wn).map Prod.fst = csOf l := by simp [psOf, csOf]

def nmK (c : Nat) (r : List Nat) (u : List Bool) (k : Nat) : Int := (List.range k).foldl (fun n s => if freeU u s c = true then n + nmF r (markU u s c) else n) 0
theorem nmK_succ (c : Nat) (r : List Nat) (u : List Bool) (k : Nat) : nmK c r u (k + 1) = if freeU u k c = true then nmK c r u k + nmF r (markU u k c) else nmK c r u k := by
  unfold nmK
  rw [List.range_succ, List.foldl_append]; rfl
theorem nmF_cons (c : Nat) (r : List Nat) (u : List Bool) : nmF (c :: r) u = nmK c r u (u.length + 1 - c) := by rw [nmF]; rfl
theorem nm_bd : ∀ (cs : List Nat) (u : List Bool), u.length ≤ 12 → 0 ≤ nmF cs u ∧ nmF cs u ≤ 13 ^ cs.length := by
  intro cs
  induction cs with
  | nil => intro u _; rw [nmF]; simp
  | cons c r ih =>
    intro u hu
    have key : ∀ k, 0 ≤ nmK c r u k ∧ nmK c r u k ≤ k * 13 ^ r.length := by
      intro k
      induction k with
      | zero => simp [nmK]
      | succ k ihk =>
        rw [nmK_succ]
        have h1 := ih (markU u k c) (by rw [markU_len]; exact hu)
        have e : ((k + 1 : Nat) : Int) * 13 ^ r.length = k * 13 ^ r.length + 13 ^ r.length := by rw [Int.natCast_succ, Int.add_mul, Int.one_mul]
        split <;> omega
    rw [nmF_cons, List.length_cons, Int.pow_succ]
    have h2 := key (u.length + 1 - c)
    have hp : (0 : Int) ≤ 13 ^ r.length := Int.le_of_lt (Int.pow_pos (by omega))
    have h3 : ((u.length + 1 - c : Nat) : Int) * 13 ^ r.length ≤ 13 * 13 ^ r.length := Int.mul_le_mul_of_nonneg_right (by omega) hp
    omega
theorem nmK_bd (c : Nat) (r : List Nat) (u : List Bool) (hu : u.length ≤ 12) (hr : r.length ≤ 6) (k : Nat) (hk : k ≤ 13) : 0 ≤ nmK c r u k ∧ nmK c r u k ≤ 100000000 := by
  have h13 : (13 : Int) ^ r.length ≤ 4826809 := by
    have : ∀ d : Fin 7, (13 : Int) ^ d.1 ≤ 4826809 := by decide +kernel
    exact this ⟨r.length, by omega⟩
  have key : ∀ k, 0 ≤ nmK c r u k ∧ nmK c r u k ≤ k * 4826809 := by
    intro k
    induction k with
    | zero => simp [nmK]
    | succ k ihk =>
      rw [nmK_succ]
      have h1 := nm_bd r (markU u k c) (by rw [markU_len]; exact hu)
      split <;> omega
  have := key k
  omega

set_option maxHeartbeats 4000000 in
theorem number_any (A : Option Addr) (n c : Nat) (l : List Claim) (hn : n ≤ 6) : ∀ (m idx : Nat) (w : World) (U : Option Addr) (B cu : Nat) (u : List Bool), idx + m = n → 1 ≤ B → B ≤ 12 → (∀ c ∈ l, 1 ≤ c.cnt ∧ c.cnt ≤ B) → RowS 2 Claim.cell w w.heap.size A n l → Row1 boolV w w.heap.size U B u →
    Calls Try.prog 45 #[.slice A n c, .int .i64 idx, .slice U B cu] w (RetPost (.int .i64 (nmF (csOf (l.drop idx)) u)) w.heap.size w) := by
  intro m
  induction m with
  | zero =>
    intro idx w U B cu u hidx hB1 hB2 hcs hl hu
    have Hlen := Eqn.mk hl.1
    have HF : Eqn (nmF (csOf (l.drop idx)) u) 1 := by
      rw [Eqn, drop_end (by rw [hl.1]; omega)]; rfl
    obtain rfl : idx = n := by omega
    have t1 : ((idx : Int) == (idx : Int)) = true := by simp
    clear hl hu hcs
    go_enter Try.func45, Try.ntmps45
    go_wp2
    go_ret
    exact ⟨by rw [HF.out]; rfl, Below.refl _ _⟩
  | succ m ih =>
    intro idx w U B cu u hidx hB1 hB2 hcs hl hu
    have IH := Lib.hid ih
    have Hlen := Eqn.mk hl.1
    have Hul := Eqn.mk hu.1
    have Hl := Lib.hid hl
    have Hu := Lib.hid hu
    have HCS := Lib.hid hcs
    obtain ⟨p, hp, hpd⟩ := drop_at (xs := l) (k := idx) (by rw [Hlen.out]; omega)
    have hpb := hcs p (List.mem_of_getElem? hp)
    obtain ⟨q, hq⟩ := Int.eq_ofNat_of_zero_le (show 0 ≤ p.cnt by omega)
    have HF : Eqn (nmF (csOf (l.drop idx)) u) (nmK q (csOf (l.drop (idx + 1))) u (B + 1 - q)) := by
      rw [Eqn, hpd]
      show nmF (p.cnt.toNat :: csOf (l.drop (idx + 1))) u = _
      rw [nmF_cons, hu.1, hq]; rfl
    have HBD := Lib.hid (nmK_bd q (csOf (l.drop (idx + 1))) u (by rw [hu.1]; exact hB2) (by simp [csOf]; rw [hl.1]; omega))
    have HBN := Lib.hid (fun k => nm_bd (csOf (l.drop (idx + 1))) (markU u k q) (by rw [markU_len, hu.1]; exact hB2))
    obtain ⟨g, off, rfl, hg, hc⟩ := hl.2 (by omega)
    have c1 := hc idx p hp 1 (by omega)
    simp only [Claim.cell] at c1
    rw [hq] at c1 hpb
    have t1 : ((idx : Int) == (n : Int)) = false := by
      rw [beq_eq_false_iff_ne]; omega
    have j0 : (idx : Int) < (n : Int) := by omega
    have h13 : (13 : Int) ^ (csOf (l.drop (idx + 1))).length ≤ 4826809 := by
      have : ∀ d : Fin 7, (13 : Int) ^ d.1 ≤ 4826809 := by decide +kernel
      exact this ⟨(csOf (l.drop (idx + 1))).length, by simp [csOf]; rw [hl.1]; omega⟩
    have H13 := Lib.hid h13
    clear ih hl hu hcs hp hpd hc hq h13
    go_enter Try.func45, Try.ntmps45
    go_wp2_with fail
    go_loopw [7, 8] (fun a i wr => ∃ (k : Nat) (s : Int), k ≤ B + 1 - q ∧ i = .int .i64 k ∧ a = .int .i64 s ∧ Eqn s (nmK q (csOf (l.drop (idx + 1))) u k) ∧ Below w.heap.size w wr) (fun _ i _ => B + 1 - q - (intOf i).toNat)
    case atStart => exact ⟨0, 0, Nat.zero_le _, rfl, rfl, rfl, Below.refl _ _⟩
    case round =>
      obtain ⟨k, s, hk, rfl, rfl, HS, HW⟩ := hrel
      have HWW := Lib.hid HW
      have d1 := (HW.cell (p := ⟨g, off + idx * 2 + 1, none⟩) hg).trans c1
      have hws := HW.size
      have hgs : g < wr.heap.size := by omega
      by_cases hlt : k < B + 1 - q
      · have t2 : (k : Int) ≤ (B : Int) - (q : Int) := by omega
        have hsb := HBD.out k (by omega)
        rw [← HS.out] at hsb
        obtain ⟨sb0, sb1⟩ := hsb
        obtain ⟨wo, rfl⟩ : ∃ wo : World, wo = wr := ⟨_, rfl⟩
        cases hf : freeU u k q with
        | false =>
          have HFR := Eqn.mk hf
          have HS2 : Eqn s (nmK q (csOf (l.drop (idx + 1))) u (k + 1)) := by rw [Eqn, nmK_succ, if_neg (by rw [hf]; simp), HS.out]
          clear hf HW
          go_wp2_with fail
          refine (free_any U B cu k q _ w.heap.size u (by omega) (by omega) (by exact Hu.out.below HWW.out)).mono ?_
          rw [HFR.out]
          rintro e w2 ⟨rfl, rfl⟩
          go_wp2_with fail
          go_roundw
          case rel => exact ⟨k + 1, s, by omega, by go_num, rfl, HS2, HWW.out⟩
          case measure => simp [intOf]; omega
        | true =>
          have HFR := Eqn.mk hf
          have hb9 := HBN.out k
          have h13 := H13.out
          have HS2 : Eqn (s + nmF (csOf (l.drop (idx + 1))) (markU u k q)) (nmK q (csOf (l.drop (idx + 1))) u (k + 1)) := by rw [Eqn, nmK_succ, if_pos hf, HS.out]
          clear hf HW
          go_wp2_with fail
          refine (free_any U B cu k q _ w.heap.size u (by omega) (by omega) (by exact Hu.out.below HWW.out)).mono ?_
          rw [HFR.out]
          rintro e w2 ⟨rfl, rfl⟩
          go_wp2_with fail
          refine (mark_any U B cu k q _ u (by omega) (by omega) (by omega) (by exact (Hu.out.below HWW.out).up hws)).mono ?_
          rintro e w3 ⟨g', c', rfl, ho3, hb3⟩
          obtain ⟨A3, c3, hv3, hr3⟩ := row1_of_own ho3
          injection hv3 with hv3 _ hv4
          subst hv3 hv4
          rw [markU_len, Hul.out] at hr3
          rw [markU_len, Hul.out]
          have R3 := Lib.hid hr3
          have B3 : Hid (Below w.heap.size w w3) := Lib.hid (HWW.out.trans (hb3.mono hws))
          clear ho3 hr3 hb3
          go_wp2_with fail
          refine (IH.out (idx + 1) w3 _ B _ (markU u k q) (by omega) hB1 hB2 HCS.out (by exact (Hl.out.below B3.out).up B3.out.size) (by exact R3.out)).mono ?_
          generalize nmF (csOf (l.drop (idx + 1))) (markU u k q) = nn at *
          rintro e w4 ⟨rfl, hb4⟩
          have B4 : Hid (Below w.heap.size w w4) := Lib.hid (B3.out.trans (hb4.mono B3.out.size))
          clear hb4
          go_wp2_with fail
          go_roundw
          case rel => exact ⟨k + 1, s + nn, by omega, by go_num, by go_num, HS2, B4.out⟩
          case measure => simp [intOf]; omega
      · have t2 : ¬ (k : Int) ≤ (B : Int) - (q : Int) := by omega
        have HE : Eqn (nmF (csOf (l.drop idx)) u) s := by rw [Eqn, HF.out, HS.out, show B + 1 - q = k by omega]
        clear HW
        go_wp2_with fail
        go_ret
        exact ⟨by rw [HE.out]; rfl, HWW.out⟩
end Go.Proofs.Yteckijkmcafpaaa
