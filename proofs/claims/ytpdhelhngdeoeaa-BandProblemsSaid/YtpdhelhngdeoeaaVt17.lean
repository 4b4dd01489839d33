/- The contract of problem.ValidRules. -/
import Derived.Test.YtpdhelhngdeoeaaVs17
namespace Go.Proofs.Ytpdhelhngdeoeaa
open Go.RowKit

/-- three slices that hold constraints -/
structure RulS where
  a0 : Option Addr
  n0 : Nat
  c0 : Nat
  a1 : Option Addr
  n1 : Nat
  c1 : Nat
  a2 : Option Addr
  n2 : Nat
  c2 : Nat
def RulS.val (s : RulS) : Value := .agg #[.slice s.a0 s.n0 s.c0, .slice s.a1 s.n1 s.c1, .slice s.a2 s.n2 s.c2]
def RulAt (w : World) (D : Nat) (s : RulS) (r : Rul) : Prop := RowS 5 R5.cell w D s.a0 s.n0 r.pairs ∧ RowS 5 R5.cell w D s.a1 s.n1 r.loads ∧ RowS 4 R4.cell w D s.a2 s.n2 r.caps ∧ s.n0 ≤ 9223372036854775807 ∧ s.n1 ≤ 9223372036854775807 ∧ s.n2 ≤ 9223372036854775807
theorem RulAt.below {w w' : World} {D : Nat} {s : RulS} {r : Rul} (h : RulAt w D s r) (hb : Below D w w') : RulAt w' D s r := ⟨h.1.below hb, h.2.1.below hb, h.2.2.1.below hb, h.2.2.2⟩
theorem RulAt.up {w : World} {D D' : Nat} {s : RulS} {r : Rul} (h : RulAt w D s r) (hD : D ≤ D') : RulAt w D' s r := ⟨h.1.up hD, h.2.1.up hD, h.2.2.1.up hD, h.2.2.2⟩
theorem RulAt.keep {w w' : World} {s : RulS} {r : Rul} (h : RulAt w w.heap.size s r) (hb : Below w.heap.size w w') : RulAt w' w'.heap.size s r := (h.below hb).up hb.size

set_option maxRecDepth 100000 in
set_option maxHeartbeats 4000000 in
theorem vrules_any (s : RulS) (w : World) (r : Rul) (h : RulAt w w.heap.size s r) : Calls Try.prog 35 #[s.val] w (RetPost (.bool (rulesF r)) w.heap.size w) := by
  obtain ⟨A0, n0, c0, A1, n1, c1, A2, n2, c2⟩ := s
  obtain ⟨W0, hW0⟩ : ∃ W0, W0 = w.alloc (.cells #[.slice A0 n0 c0, .slice A1 n1 c1, .slice A2 n2 c2] 52) := ⟨_, rfl⟩
  have HB0 : Hid (Below w.heap.size w W0) := Lib.hid (by rw [hW0]; exact (Below.refl _ w).alloc (Nat.le_refl _) _)
  have h0 := h.keep HB0.out
  have hs0 : W0.heap.size = w.heap.size + 1 := by rw [hW0]; simp
  have HC0 : Hid (W0.cell? ⟨w.heap.size, 0, none⟩ = some (.slice A0 n0 c0) ∧ W0.cell? ⟨w.heap.size, 1, none⟩ = some (.slice A1 n1 c1) ∧ W0.cell? ⟨w.heap.size, 2, none⟩ = some (.slice A2 n2 c2)) := Lib.hid (by rw [hW0]; refine ⟨?_, ?_, ?_⟩ <;> simp [go_sem])
  have HC : Hid (∀ W, Below W0.heap.size W0 W → W.cell? ⟨w.heap.size, 0, none⟩ = some (.slice A0 n0 c0) ∧ W.cell? ⟨w.heap.size, 1, none⟩ = some (.slice A1 n1 c1) ∧ W.cell? ⟨w.heap.size, 2, none⟩ = some (.slice A2 n2 c2)) := Lib.hid (fun W hb => ⟨(hb.cell (p := ⟨w.heap.size, 0, none⟩) (by dsimp only; omega)).trans HC0.out.1, (hb.cell (p := ⟨w.heap.size, 1, none⟩) (by dsimp only; omega)).trans HC0.out.2.1, (hb.cell (p := ⟨w.heap.size, 2, none⟩) (by dsimp only; omega)).trans HC0.out.2.2⟩)
  have HBW : Hid (∀ W, Below W0.heap.size W0 W → Below w.heap.size w W) := Lib.hid (fun W hb => HB0.out.trans (hb.mono HB0.out.size))
  have HE1 : Hid (∀ W, Below W0.heap.size W0 W → Calls Try.prog 51 #[.slice A0 n0 c0, .func (.func 52) #[] #[]] W (RetPost (.bool (r.pairs.all goodP)) W.heap.size W)) := Lib.hid (fun W hb => everyP_any A0 n0 c0 W _ h0.2.2.2.1 (h0.1.keep hb))
  have HE2 : Hid (∀ W, Below W0.heap.size W0 W → Calls Try.prog 53 #[.slice A0 n0 c0, .func (.func 54) #[] #[]] W (RetPost (.bool (incF cmp5 r.pairs)) W.heap.size W)) := Lib.hid (fun W hb => incP_any A0 n0 c0 W _ h0.2.2.2.1 (h0.1.keep hb))
  have HE4 : Hid (∀ W, Below W0.heap.size W0 W → Calls Try.prog 55 #[.slice A1 n1 c1, .func (.func 56) #[] #[]] W (RetPost (.bool (r.loads.all goodL)) W.heap.size W)) := Lib.hid (fun W hb => everyL_any A1 n1 c1 W _ h0.2.2.2.2.1 (h0.2.1.keep hb))
  have HE5 : Hid (∀ W, Below W0.heap.size W0 W → Calls Try.prog 57 #[.slice A1 n1 c1, .func (.func 58) #[] #[]] W (RetPost (.bool (incF cmp5 r.loads)) W.heap.size W)) := Lib.hid (fun W hb => incL_any A1 n1 c1 W _ h0.2.2.2.2.1 (h0.2.1.keep hb))
  have HE7 : Hid (∀ W, Below W0.heap.size W0 W → Calls Try.prog 59 #[.slice A2 n2 c2, .func (.func 60) #[] #[]] W (RetPost (.bool (r.caps.all goodC)) W.heap.size W)) := Lib.hid (fun W hb => everyC_any A2 n2 c2 W _ h0.2.2.2.2.2 (h0.2.2.1.keep hb))
  have HE8 : Hid (∀ W, Below W0.heap.size W0 W → Calls Try.prog 61 #[.slice A2 n2 c2, .func (.func 62) #[] #[]] W (RetPost (.bool (incF cmp4 r.caps)) W.heap.size W)) := Lib.hid (fun W hb => incC_any A2 n2 c2 W _ h0.2.2.2.2.2 (h0.2.2.1.keep hb))
  have HL : Hid (r.pairs.length = n0 ∧ r.loads.length = n1 ∧ r.caps.length = n2) := Lib.hid ⟨h0.1.1, h0.2.1.1, h0.2.2.1.1⟩
  have HF : Eqn (rulesF r) (decide (n0 ≤ 4096) && r.pairs.all goodP && incF cmp5 r.pairs && decide (n1 ≤ 1024) && r.loads.all goodL && incF cmp5 r.loads && decide (n2 ≤ 1024) && r.caps.all goodC && incF cmp4 r.caps) := by rw [Eqn, rulesF, HL.out.1, HL.out.2.1, HL.out.2.2]
  rw [HF.out]
  generalize r.pairs.all goodP = t1 at *
  generalize incF cmp5 r.pairs = t2 at *
  generalize r.loads.all goodL = t4 at *
  generalize incF cmp5 r.loads = t5 at *
  generalize r.caps.all goodC = t7 at *
  generalize incF cmp4 r.caps = t8 at *
  clear HF HL h h0 HC0 HB0 hs0
  unfold RulS.val
  dsimp only
  by_cases g0 : n0 ≤ 4096
  · have k0 : (n0 : Int) ≤ 4096 := by omega
    go_enter Try.func35, Try.ntmps35
    go_wp2_with fail
    rw [← hW0]
    clear hW0
    have B0 := Lib.hid (Below.refl W0.heap.size W0)
    refine (HE1.out _ B0.out).mono ?_
    rintro e W1 ⟨rfl, hb⟩
    have B1 := Lib.hid (B0.out.trans (hb.mono B0.out.size))
    clear hb HE1
    cases t1 with
    | false =>
      obtain ⟨x0, x1, x2⟩ := HC.out _ B1.out
      go_wp2_with fail
      go_ret
      exact ⟨ret_bool (by first | rfl | (simp; done) | (simp; intros; omega) | (simp; omega)), HBW.out _ B1.out⟩
    | true =>
      obtain ⟨x0, x1, x2⟩ := HC.out _ B1.out
      go_wp2_with fail
      clear x0 x1 x2
      refine (HE2.out _ B1.out).mono ?_
      rintro e W2 ⟨rfl, hb⟩
      have B2 := Lib.hid (B1.out.trans (hb.mono B1.out.size))
      clear hb HE2
      cases t2 with
      | false =>
        obtain ⟨x0, x1, x2⟩ := HC.out _ B2.out
        go_wp2_with fail
        go_ret
        exact ⟨ret_bool (by first | rfl | (simp; done) | (simp; intros; omega) | (simp; omega)), HBW.out _ B2.out⟩
      | true =>
        by_cases g3 : n1 ≤ 1024
        · have k3 : (n1 : Int) ≤ 1024 := by omega
          obtain ⟨x0, x1, x2⟩ := HC.out _ B2.out
          go_wp2_with fail
          clear x0 x1 x2
          refine (HE4.out _ B2.out).mono ?_
          rintro e W3 ⟨rfl, hb⟩
          have B3 := Lib.hid (B2.out.trans (hb.mono B2.out.size))
          clear hb HE4
          cases t4 with
          | false =>
            obtain ⟨x0, x1, x2⟩ := HC.out _ B3.out
            go_wp2_with fail
            go_ret
            exact ⟨ret_bool (by first | rfl | (simp; done) | (simp; intros; omega) | (simp; omega)), HBW.out _ B3.out⟩
          | true =>
            obtain ⟨x0, x1, x2⟩ := HC.out _ B3.out
            go_wp2_with fail
            clear x0 x1 x2
            refine (HE5.out _ B3.out).mono ?_
            rintro e W4 ⟨rfl, hb⟩
            have B4 := Lib.hid (B3.out.trans (hb.mono B3.out.size))
            clear hb HE5
            cases t5 with
            | false =>
              obtain ⟨x0, x1, x2⟩ := HC.out _ B4.out
              go_wp2_with fail
              go_ret
              exact ⟨ret_bool (by first | rfl | (simp; done) | (simp; intros; omega) | (simp; omega)), HBW.out _ B4.out⟩
            | true =>
              by_cases g6 : n2 ≤ 1024
              · have k6 : (n2 : Int) ≤ 1024 := by omega
                obtain ⟨x0, x1, x2⟩ := HC.out _ B4.out
                go_wp2_with fail
                clear x0 x1 x2
                refine (HE7.out _ B4.out).mono ?_
                rintro e W5 ⟨rfl, hb⟩
                have B5 := Lib.hid (B4.out.trans (hb.mono B4.out.size))
                clear hb HE7
                cases t7 with
                | false =>
                  obtain ⟨x0, x1, x2⟩ := HC.out _ B5.out
                  go_wp2_with fail
                  go_ret
                  exact ⟨ret_bool (by first | rfl | (simp; done) | (simp; intros; omega) | (simp; omega)), HBW.out _ B5.out⟩
                | true =>
                  obtain ⟨x0, x1, x2⟩ := HC.out _ B5.out
                  go_wp2_with fail
                  clear x0 x1 x2
                  refine (HE8.out _ B5.out).mono ?_
                  rintro e W6 ⟨rfl, hb⟩
                  have B6 := Lib.hid (B5.out.trans (hb.mono B5.out.size))
                  clear hb HE8
                  go_wp2_with fail
                  go_ret
                  exact ⟨ret_bool (by first | rfl | (simp; done) | (simp; intros; omega) | (simp; omega)), HBW.out _ B6.out⟩
              · have k6 : ¬ (n2 : Int) ≤ 1024 := by omega
                obtain ⟨x0, x1, x2⟩ := HC.out _ B4.out
                go_wp2_with fail
                go_ret
                exact ⟨ret_bool (by first | rfl | (simp; done) | (simp; intros; omega) | (simp; omega)), HBW.out _ B4.out⟩
        · have k3 : ¬ (n1 : Int) ≤ 1024 := by omega
          obtain ⟨x0, x1, x2⟩ := HC.out _ B2.out
          go_wp2_with fail
          go_ret
          exact ⟨ret_bool (by first | rfl | (simp; done) | (simp; intros; omega) | (simp; omega)), HBW.out _ B2.out⟩
  · have k0 : ¬ (n0 : Int) ≤ 4096 := by omega
    go_enter Try.func35, Try.ntmps35
    go_wp2_with fail
    rw [← hW0]
    go_ret
    have B0 := Lib.hid (Below.refl W0.heap.size W0)
    exact ⟨ret_bool (by first | rfl | (simp; done) | (simp; intros; omega) | (simp; omega)), HBW.out _ B0.out⟩
end Go.Proofs.Ytpdhelhngdeoeaa
