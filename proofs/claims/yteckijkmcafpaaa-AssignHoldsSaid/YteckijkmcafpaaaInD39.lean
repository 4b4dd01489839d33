/- The innermost loop of solve: one claim after the other, at one place and one set. -/
import Derived.Test.YteckijkmcafpaaaTy39
import Derived.IntWalk
import Derived.Outline
import Derived.Deep.CutRange
namespace Go.Proofs.Yteckijkmcafpaaa
open Go.RowKit

/-- the loops of a code, in their order -/
def loopsOf : Code → List Code
  | .loop c => c :: loopsOf c
  | .seq a b => loopsOf a ++ loopsOf b
  | .block _ c => loopsOf c
  | .cond _ a b => loopsOf a ++ loopsOf b
  | _ => []
noncomputable def solveLoop (k : Nat) : Code := ((Try.f38.body.map loopsOf).getD []).getD k .skip

theorem andNot_clr' : ∀ (s : Fin 64) (k : Fin 6), bits BinOp.andNot .i64 (s.1 : Int) (IntKind.i64.wrap ((2 : Int) ^ k.1)) = ((clr s.1 k.1 : Nat) : Int) := by decide +kernel
theorem andNot_clr {s k : Nat} (hs : s < 64) (hk : k < 6) : bits BinOp.andNot .i64 (s : Int) (IntKind.i64.wrap ((2 : Int) ^ k)) = ((clr s k : Nat) : Int) := andNot_clr' ⟨s, hs⟩ ⟨k, hk⟩
theorem hvb1 {x : Int} (h : 0 ≤ x ∧ x ≤ 1099511627776) : 0 ≤ x ∧ x ≤ 1099511627776 := h
theorem seven_pow {d : Nat} (h : d ≤ 12) : (7 : Int) ^ d ≤ 13841287201 := by
  have : ∀ d : Fin 13, (7 : Int) ^ d.1 ≤ 13841287201 := by decide +kernel
  exact this ⟨d, by omega⟩
theorem clr_no {s k : Nat} (h : ¬ s.testBit k = true) : clr s k = s := by unfold clr; rw [if_neg h, Nat.xor_zero]
theorem clr_ne {s k : Nat} (h : s.testBit k = true) : clr s k ≠ s := by
  intro e
  have := clr_bit s k k
  rw [e, h] at this
  simp at this

set_option maxRecDepth 100000 in
set_option maxHeartbeats 8000000 in
theorem innerD (a B n N r s d gv gc : Nat) (vb cb : Nat → Nat) (w w0 : World) (l : List Claim) (vs : List (List Int)) (fx : List Int) (A1 A2 A3 : Option Addr) (c1 c2 c3 : Nat) (hB' : B ≤ 12) (hn : n ≤ 6) (hN : N = 2 ^ n) (hs : s < N) (hrd : r + (d + 1) = B) (hl : ∀ c ∈ l, 1 ≤ c.cnt ∧ c.cnt ≤ 12) (hv : ∀ i s, 0 ≤ valOf vs i s ∧ valOf vs i s ≤ 1099511627776)
    (hal : a < w.heap.size) (a0 : w.cell? ⟨a, 0, none⟩ = some (.int .i64 B)) (a2 : w.cell? ⟨a, 2, none⟩ = some (.slice A2 n c2)) (a3 : w.cell? ⟨a, 3, none⟩ = some (.slice A3 n c3))
    (r1 : RowS 2 Claim.cell w w.heap.size A1 n l) (r2 : RowS 12 rowV w w.heap.size A2 n vs) (r3 : Row1 intV w w.heap.size A3 n fx)
    (ht : Tab w w0 B N gv gc vb cb (inT n B (cnOf l) (nth fx) (valOf vs) d r s 0))
    (x1 x2 x3 x4 x7 x10 x11 x12 x13 x14 x15 x16 x17 x18 x19 x20 x21 x22 x23 x24 x25 x26 x27 x28 x29 x30 x31 x32 x33 x34 x35 x36 x37 x38 x39 x40 x41 x42 x43 x44 x45 x46 x47 x48 x49 x50 x51 x52 x53 x54 x55 x56 x57 x58 x59 x60 x61 x62 x63 x64 x65 x66 x67 x68 x69 x70 x71 x72 x73 x74 x75 x76 x77 x78 x79 x80 x81 x82 x83 x84 x85 x86 x87 x88 x89 x90 x91 x92 x93 x94 x95 x96 x97 x98 x99 x100 x104 x105 x106 x107 x108 x109 x110 x111 x112 x113 x114 x115 x116 x117 x118 x119 x120 x121 x122 x123 x124 x125 x126 x127 x128 x129 x130 x131 x132 x133 x134 x135 x136 x137 x138 x139 x140 x141 x142 x143 x144 x145 x146 x147 x148 x149 x150 x151 x152 x153 x154 x155 x156 x157 x158 x159 x160 x161 x162 x163 x164 x165 x166 x167 x168 x169 x170 x171 x172 x173 x174 x175 x176 x177 x178 x179 x180 x181 x182 x183 x184 x185 x186 x187 x188 x189 x190 x191 x192 x193 x194 x195 x196 x197 x198 x199 x200 x201 x202 x203 x204 x205 x206 x207 x208 x209 x210 x211 x212 x213 x214 x215 x216 x217 x218 x219 x220 x221 x222 x223 x224 x225 x226 x227 x228 x229 x230 x231 x232 : Value) (Q : Exit → Act → World → Prop)
    (hQ : ∀ (u10 u11 u12 u13 u14 u103 u104 u105 u106 u107 u108 u109 u110 u111 u112 u113 u114 u115 u116 u117 u118 u119 u120 u121 u122 u123 u124 u125 u126 u127 u128 u129 u130 u131 u132 u133 u134 u135 u136 u137 u138 u139 u140 u141 u142 u143 u144 u145 u146 u147 u148 u149 u150 u151 u152 u153 u154 u155 u156 u157 u158 u159 u160 u161 u162 u163 u164 u165 u166 u167 u168 u169 u170 u171 u172 u173 u174 u175 u176 u177 u178 u179 u180 u181 u182 u183 u184 u185 u186 u187 u188 u189 u190 u191 u192 u193 u194 u195 u196 u197 u198 u199 u200 u201 u202 u203 u204 u205 u206 u207 u208 u209 u210 u211 u212 u213 u214 u215 u216 u217 : Value) (w' : World), Tab w w' B N gv gc vb cb (inT n B (cnOf l) (nth fx) (valOf vs) d r s n) → Q (.exit 6) ⟨List.toArray (Value.pointer (some ⟨a, 0, none⟩) :: x1 :: x2 :: x3 :: x4 :: Value.slice (some ⟨gv, 0, none⟩) (B + 1) (B + 1) :: Value.slice (some ⟨gc, 0, none⟩) (B + 1) (B + 1) :: x7 :: Value.int .i64 (r : Int) :: Value.int .i64 (s : Int) :: u10 :: u11 :: u12 :: u13 :: u14 :: x15 :: x16 :: x17 :: x18 :: x19 :: x20 :: x21 :: x22 :: x23 :: x24 :: x25 :: x26 :: x27 :: x28 :: x29 :: x30 :: x31 :: x32 :: x33 :: x34 :: x35 :: x36 :: x37 :: x38 :: x39 :: x40 :: x41 :: x42 :: x43 :: x44 :: x45 :: x46 :: x47 :: x48 :: x49 :: x50 :: x51 :: x52 :: x53 :: x54 :: x55 :: x56 :: x57 :: x58 :: x59 :: x60 :: x61 :: x62 :: x63 :: x64 :: x65 :: x66 :: x67 :: x68 :: x69 :: x70 :: x71 :: x72 :: x73 :: x74 :: x75 :: x76 :: x77 :: x78 :: x79 :: x80 :: x81 :: x82 :: x83 :: x84 :: x85 :: x86 :: x87 :: x88 :: x89 :: x90 :: x91 :: x92 :: x93 :: x94 :: x95 :: x96 :: x97 :: x98 :: x99 :: x100 :: Value.slice A1 n c1 :: Value.int .i64 (n : Int) :: u103 :: u104 :: u105 :: u106 :: u107 :: u108 :: u109 :: u110 :: u111 :: u112 :: u113 :: u114 :: u115 :: u116 :: u117 :: u118 :: u119 :: u120 :: u121 :: u122 :: u123 :: u124 :: u125 :: u126 :: u127 :: u128 :: u129 :: u130 :: u131 :: u132 :: u133 :: u134 :: u135 :: u136 :: u137 :: u138 :: u139 :: u140 :: u141 :: u142 :: u143 :: u144 :: u145 :: u146 :: u147 :: u148 :: u149 :: u150 :: u151 :: u152 :: u153 :: u154 :: u155 :: u156 :: u157 :: u158 :: u159 :: u160 :: u161 :: u162 :: u163 :: u164 :: u165 :: u166 :: u167 :: u168 :: u169 :: u170 :: u171 :: u172 :: u173 :: u174 :: u175 :: u176 :: u177 :: u178 :: u179 :: u180 :: u181 :: u182 :: u183 :: u184 :: u185 :: u186 :: u187 :: u188 :: u189 :: u190 :: u191 :: u192 :: u193 :: u194 :: u195 :: u196 :: u197 :: u198 :: u199 :: u200 :: u201 :: u202 :: u203 :: u204 :: u205 :: u206 :: u207 :: u208 :: u209 :: u210 :: u211 :: u212 :: u213 :: u214 :: u215 :: u216 :: u217 :: x218 :: x219 :: x220 :: x221 :: x222 :: x223 :: x224 :: x225 :: x226 :: x227 :: x228 :: x229 :: x230 :: x231 :: x232 :: []), []⟩ w') :
    Code.wp Try.prog (Code.loop (solveLoop 3)) Q ⟨List.toArray (Value.pointer (some ⟨a, 0, none⟩) :: x1 :: x2 :: x3 :: x4 :: Value.slice (some ⟨gv, 0, none⟩) (B + 1) (B + 1) :: Value.slice (some ⟨gc, 0, none⟩) (B + 1) (B + 1) :: x7 :: Value.int .i64 (r : Int) :: Value.int .i64 (s : Int) :: x10 :: x11 :: x12 :: x13 :: x14 :: x15 :: x16 :: x17 :: x18 :: x19 :: x20 :: x21 :: x22 :: x23 :: x24 :: x25 :: x26 :: x27 :: x28 :: x29 :: x30 :: x31 :: x32 :: x33 :: x34 :: x35 :: x36 :: x37 :: x38 :: x39 :: x40 :: x41 :: x42 :: x43 :: x44 :: x45 :: x46 :: x47 :: x48 :: x49 :: x50 :: x51 :: x52 :: x53 :: x54 :: x55 :: x56 :: x57 :: x58 :: x59 :: x60 :: x61 :: x62 :: x63 :: x64 :: x65 :: x66 :: x67 :: x68 :: x69 :: x70 :: x71 :: x72 :: x73 :: x74 :: x75 :: x76 :: x77 :: x78 :: x79 :: x80 :: x81 :: x82 :: x83 :: x84 :: x85 :: x86 :: x87 :: x88 :: x89 :: x90 :: x91 :: x92 :: x93 :: x94 :: x95 :: x96 :: x97 :: x98 :: x99 :: x100 :: Value.slice A1 n c1 :: Value.int .i64 (n : Int) :: Value.int .i64 0 :: x104 :: x105 :: x106 :: x107 :: x108 :: x109 :: x110 :: x111 :: x112 :: x113 :: x114 :: x115 :: x116 :: x117 :: x118 :: x119 :: x120 :: x121 :: x122 :: x123 :: x124 :: x125 :: x126 :: x127 :: x128 :: x129 :: x130 :: x131 :: x132 :: x133 :: x134 :: x135 :: x136 :: x137 :: x138 :: x139 :: x140 :: x141 :: x142 :: x143 :: x144 :: x145 :: x146 :: x147 :: x148 :: x149 :: x150 :: x151 :: x152 :: x153 :: x154 :: x155 :: x156 :: x157 :: x158 :: x159 :: x160 :: x161 :: x162 :: x163 :: x164 :: x165 :: x166 :: x167 :: x168 :: x169 :: x170 :: x171 :: x172 :: x173 :: x174 :: x175 :: x176 :: x177 :: x178 :: x179 :: x180 :: x181 :: x182 :: x183 :: x184 :: x185 :: x186 :: x187 :: x188 :: x189 :: x190 :: x191 :: x192 :: x193 :: x194 :: x195 :: x196 :: x197 :: x198 :: x199 :: x200 :: x201 :: x202 :: x203 :: x204 :: x205 :: x206 :: x207 :: x208 :: x209 :: x210 :: x211 :: x212 :: x213 :: x214 :: x215 :: x216 :: x217 :: x218 :: x219 :: x220 :: x221 :: x222 :: x223 :: x224 :: x225 :: x226 :: x227 :: x228 :: x229 :: x230 :: x231 :: x232 :: []), []⟩ w0 := by
  have R1 := Lib.hid r1
  have R2 := Lib.hid r2
  have R3 := Lib.hid r3
  have HT := Lib.hid ht
  have HQ := Lib.hid hQ
  have HN := Eqn.mk hN
  have HRD := Lib.hid hrd
  have Hll := Eqn.mk r1.1
  have HL := Lib.hid hl
  have HV := Lib.hid hv
  clear r1 r2 r3 ht hQ hN hl hv hrd
  conv => arg 2; arg 1; whnf
  go_loopw [103] (fun i wr => ∃ k : Nat, k ≤ n ∧ i = .int .i64 k ∧ Tab w wr B N gv gc vb cb (inT n B (cnOf l) (nth fx) (valOf vs) d r s k)) (fun i _ => n - (intOf i).toNat)
  case atStart => exact ⟨0, Nat.zero_le _, rfl, HT.out⟩
  case round =>
    clear HT
    obtain ⟨k, hk, rfl, ht⟩ := hrel
    by_cases hlt : k < n
    · have HT := Lib.hid ht
      have b0 := (ht.bl.cell (p := ⟨a, 0, none⟩) hal).trans a0
      have b2 := (ht.bl.cell (p := ⟨a, 2, none⟩) hal).trans a2
      have b3 := (ht.bl.cell (p := ⟨a, 3, none⟩) hal).trans a3
      obtain ⟨c, hc, _⟩ := drop_at (xs := l) (k := k) (by rw [Hll.out]; exact hlt)
      obtain ⟨g1, o1, rfl, hg1, hc1⟩ := (R1.out.below ht.bl).2 (by omega)
      have q0 := hc1 k c hc 0 (by omega)
      have q1 := hc1 k c hc 1 (by omega)
      simp only [Claim.cell, Nat.add_zero] at q0 q1
      have hcb := HL.out c (List.mem_of_getElem? hc)
      obtain ⟨q, hq⟩ := Int.eq_ofNat_of_zero_le (show 0 ≤ c.cnt by omega)
      have hcn : cnOf l k = q := by unfold cnOf; rw [hc]; simp [hq]
      rw [hq] at q1 hcb
      have j0 : (k : Int) < (n : Int) := by omega
      have hsz := ht.bl.size
      have HTB := Lib.hid ht.bl
      have hrd := HRD.out
      have hN64 : N ≤ 64 := by rw [HN.out]; exact Nat.pow_le_pow_right (by omega) hn
      have hb := andNot_clr (s := s) (k := k) (by omega) (by omega)
      have hR : clr s k < N := by rw [HN.out] at hs ⊢; exact clr_lt hs
      have lA : a < wr.heap.size := by omega
      have lgv := ht.ov.lt
      have lgc := ht.oc.lt
      have lg1 : g1 < wr.heap.size := by omega
      obtain ⟨row, hrow, _⟩ := drop_at (xs := vs) (k := k) (by rw [R2.out.1]; exact hlt)
      obtain ⟨g2, o2, rfl, hg2, hc2⟩ := (R2.out.below ht.bl).2 (by omega)
      have e2 := hc2 k row hrow r (by omega)
      have hval : valOf vs k r = row.getD r 0 := by unfold valOf; rw [show vs.getD k [] = row by rw [List.getD_eq_getElem?_getD, hrow]; rfl]
      simp only [rowV, ← hval] at e2
      obtain ⟨fk, hfk, _⟩ := drop_at (xs := fx) (k := k) (by rw [R3.out.1]; exact hlt)
      obtain ⟨g3, o3, rfl, hg3, hc3⟩ := (R3.out.below ht.bl).2 (by omega)
      have e3 := hc3 k fk hfk
      have hnf : nth fx k = fk := by unfold nth; rw [List.getD_eq_getElem?_getD, hfk]; rfl
      simp only [intV] at e3
      have E3 := Lib.hid e3
      have E2 := Lib.hid e2
      have hvb := HV.out k r
      have HVA := Lib.hid hvb
      have lg2 : g2 < wr.heap.size := by omega
      have lg3 : g3 < wr.heap.size := by omega
      have hw1 : IntKind.i64.wrap ((r : Int) + (q : Int)) = (r : Int) + (q : Int) := IntWalk.i64_in _ (by omega)
      have HMY : Hid (may B (cnOf l) (nth fx) s r k ↔ s.testBit k = true ∧ r + q ≤ B ∧ ¬ (0 ≤ fk ∧ fk ≠ r)) := by
        unfold may; rw [hcn, hnf]; exact Lib.hid Iff.rfl
      have HCN := Eqn.mk hcn
      clear hc1 hc hq hc2 hc3 hrow hfk hval hnf hvb hcn hrd
      obtain ⟨R0, hR0⟩ : ∃ R0, R0 = clr s k := ⟨_, rfl⟩
      rw [← hR0] at hb hR
      have HR0 := Eqn.mk hR0
      clear hR0
      have HT' : Hid (Tab w ((wr.alloc (.cells #[.int .i64 c.win, .int .i64 (q : Int)] 59)).drew) B N gv gc vb cb (inT n B (cnOf l) (nth fx) (valOf vs) d r s k)) := Lib.hid ((HT.out.alloc _).drew)
      have same : ¬ (may B (cnOf l) (nth fx) s r k ∧ (dpT n B (cnOf l) (nth fx) (valOf vs) d (r + cnOf l k) (clr s k)).2 ≠ 0) → Tab w ((wr.alloc (.cells #[.int .i64 c.win, .int .i64 (q : Int)] 59)).drew) B N gv gc vb cb (inT n B (cnOf l) (nth fx) (valOf vs) d r s (k + 1)) := fun hh => HT'.out.congr (fun r' s' _ _ => inT_same hh)
      have SAME := Lib.hid same
      clear same
      have Hq0 := Lib.hid q0
      clear b2 b3 e2 e3 b0
      go_wp2_with fail
      refine Lx.region (C := fun _ => True) (hs := []) (by kernel_rfl) (by kernel_rfl) trivial ?_
      repeat' (first
        | (refine Lx.lex_no (Lx.n1 rfl rfl rfl (by with_reducible rfl)) (fun K hK => ?_); go_simp; refine hK _ ?_; clear hK K)
        | (refine Lx.lex_no (Lx.n0 rfl rfl rfl (by with_reducible rfl)) (fun K hK => ?_); go_simp; refine hK _ ?_; clear hK K)
        | (refine Lx.lex_no (Lx.n2 rfl rfl rfl) (fun K hK => ?_); go_simp; refine hK _ ?_; clear hK K)
        | (refine Lx.lex_pure (v := ?_) rfl (by first | exact Lx.w0 rfl | exact Lx.w1 rfl rfl rfl (by with_reducible rfl)) ?_ (fun K hK => ?_); rotate_left 1; (intro w' hCw; (try dsimp only at hCw); go_simp; done); go_simp; refine hK _ ?_; clear hK K)
        | (refine Lx.lex_pure (v := ?_) rfl (by first | exact Lx.w0 rfl | exact Lx.w1 rfl rfl rfl (by with_reducible rfl)) ?_ (fun K hK => ?_); rotate_left 1; (intro w' hCw; (try dsimp only at hCw); go_simp; with_reducible rfl); go_simp; refine hK _ ?_; clear hK K)
        | (refine Lx.lex_read (v := ?_) rfl (by first | exact Lx.w0 rfl | exact Lx.w1 rfl rfl rfl (by with_reducible rfl)) ?_ (fun K hK => ?_); rotate_left 1; (go_simp; done); go_simp; refine hK _ ?_; clear hK K)
        | (refine Lx.lex_read (v := ?_) rfl (by first | exact Lx.w0 rfl | exact Lx.w1 rfl rfl rfl (by with_reducible rfl)) ?_ (fun K hK => ?_); rotate_left 1; (go_simp; with_reducible rfl); go_simp; refine hK _ ?_; clear hK K)
        | (refine Lx.lex_eff rfl (by first | exact Lx.w0 rfl | exact Lx.w1 rfl rfl rfl (by with_reducible rfl)) (fun K hK => ?_); go_simp; (first | fail | skip); refine hK _ _ (trivial) ?_; clear hK K)
        | (refine Lx.lex_cases rfl rfl rfl (fun hgd K hK => ?_) (fun hgd K hK => ?_) <;> (try simp only [decide_eq_true_eq, decide_eq_false_iff_not] at hgd) <;> (first | (exfalso; omega) | (go_simp; refine hK _ ?_; clear hK K))))
      all_goals (refine Lx.lex_nil ?_)
      clear q0 q1 hb hw1 Hq0
      have b0 := (ht.bl.cell (p := ⟨a, 0, none⟩) hal).trans a0
      have b3 := (ht.bl.cell (p := ⟨a, 3, none⟩) hal).trans a3
      have e3 := E3.out
      by_cases hbit : s.testBit k = true
      · have hne : (((R0 : Nat) : Int) == (s : Int)) = false := by
          have := clr_ne hbit
          rw [← HR0.out] at this
          simp only [beq_eq_false_iff_ne, ne_eq]
          omega
        by_cases hend : r + q ≤ B
        · have hrd := HRD.out
          have i1 : ¬ (B : Int) < (r : Int) + (q : Int) := by omega
          have i2 : (0 : Int) ≤ (r : Int) + (q : Int) := by omega
          have i3 : ((r : Int) + (q : Int)).toNat = r + q := by omega
          have i4 : (r : Int) + (q : Int) < (B : Int) + 1 := by omega
          have i5 : (R0 : Int) < (N : Int) := by omega
          have y1 := ht.cc hend
          have y2 := ht.xc hend hR
          rw [inT_above hrd (by omega)] at y2
          have y3 := ht.cv hend
          have y4 := ht.xv hend hR
          rw [inT_above hrd (by omega)] at y4
          have lce := (ht.rc _ hend).lt
          have lve := (ht.rv _ hend).lt
          have HDP : Eqn (dpT n B (cnOf l) (nth fx) (valOf vs) d (r + cnOf l k) (clr s k)) (dpT n B (cnOf l) (nth fx) (valOf vs) d (r + q) R0) := by rw [Eqn, HCN.out, HR0.out]
          have hdb := dp_bd (n := n) (B := B) (cn := cnOf l) (fx := nth fx) (val := valOf vs) (K := 1099511627776) hn (by omega) HV.out d (r + q) R0
          generalize hpp : dpT n B (cnOf l) (nth fx) (valOf vs) d (r + q) R0 = pp at *
          have HPP := Eqn.mk hpp
          clear hpp hrd
          by_cases hfx : 0 ≤ fk ∧ fk ≠ r
          · have k1 : ¬ fk < 0 := by omega
            have k2 : (fk != (r : Int)) = true := by simpa using hfx.2
            have HS := Lib.hid (SAME.out (fun hh => (HMY.out.1 hh.1).2.2 hfx))
            have k3 := hfx.1
            clear ht hfx
            go_wp2_with fail
            go_roundw
            case rel => exact ⟨k + 1, by omega, by go_num, HS.out⟩
            case measure => simp only [intOf]; omega
          · by_cases hz : pp.2 = 0
            · have HS := Lib.hid (SAME.out (fun hh => hh.2 (by rw [HDP.out]; exact hz)))
              rw [hz] at y2
              by_cases hf0 : fk < 0
              · clear ht hfx hz
                go_wp2_with fail
                go_roundw
                case rel => exact ⟨k + 1, by omega, by go_num, HS.out⟩
                case measure => simp only [intOf]; omega
              · have k2 : (fk != (r : Int)) = false := by
                  rw [bne_eq_false_iff_eq]; omega
                have k3 : 0 ≤ fk := by omega
                clear ht hfx hz
                go_wp2_with fail
                go_roundw
                case rel => exact ⟨k + 1, by omega, by go_num, HS.out⟩
                case measure => simp only [intOf]; omega
            · have hz' : (pp.2 == 0) = false := by simpa using hz
              have hrd := HRD.out
              have rB : r ≤ B := by omega
              have z1 := ht.xv rB hs
              have z2 := ht.xc rB hs
              rw [inT_here] at z1 z2
              have z3 := ht.cv rB
              have z4 := ht.cc rB
              have f1 := (ht.rv r rB).frozen s
              have f2 := (ht.rc r rB).frozen s
              have l1 := (ht.rv r rB).lt
              have l2 := (ht.rc r rB).lt
              have n9 : vb r ≠ cb r := ht.dvc r r rB rB
              have n1 := (ht.no r rB).1
              have n2 := (ht.no r rB).2.1
              have n3 := (ht.no r rB).2.2.1
              have n4 := (ht.no r rB).2.2.2
              have n5 : vb r ≠ cb (r + q) := ht.dvc r (r + q) rB hend
              have m1 : (r : Int) < (B : Int) + 1 := by omega
              have m2 : (s : Int) < (N : Int) := by omega
              have m3 : (r : Int) < 12 := by omega
              have m4 : (k : Int) < (n : Int) := j0
              have hfb := fold_bd (B := B) (cn := cnOf l) (fx := nth fx) (r := r) (s := s) (fun r s => dp_bd (n := n) (B := B) (cn := cnOf l) (fx := nth fx) (val := valOf vs) (K := 1099511627776) hn (by omega) HV.out d r s) HV.out (dpT n B (cnOf l) (nth fx) (valOf vs) d (r + 1) s) ⟨(dp_bd (n := n) (B := B) (cn := cnOf l) (fx := nth fx) (val := valOf vs) (K := 1099511627776) hn (by omega) HV.out d (r + 1) s).1, by have := (dp_bd (n := n) (B := B) (cn := cnOf l) (fx := nth fx) (val := valOf vs) (K := 1099511627776) hn (by omega) HV.out d (r + 1) s).2.1; omega⟩ k
              have hd0 := dp_bd (n := n) (B := B) (cn := cnOf l) (fx := nth fx) (val := valOf vs) (K := 1099511627776) hn (by omega) HV.out d (r + 1) s
              have h7 : (7 : Int) ^ d ≤ 13841287201 := seven_pow (by omega)
              have h7' : (0 : Int) ≤ 7 ^ d := Int.le_of_lt (Int.pow_pos (by omega))
              have hkm : (k : Int) * 7 ^ d ≤ 6 * 7 ^ d := Int.mul_le_mul_of_nonneg_right (by omega) h7'
              have hMAY : may B (cnOf l) (nth fx) s r k ∧ (dpT n B (cnOf l) (nth fx) (valOf vs) d (r + cnOf l k) (clr s k)).2 ≠ 0 := ⟨HMY.out.2 ⟨hbit, hend, hfx⟩, by rw [HDP.out]; exact hz⟩
              have p1 := hvb1 HVA.out
              change 0 ≤ (inF n B (cnOf l) (nth fx) (valOf vs) d r s k).1 ∧ (inF n B (cnOf l) (nth fx) (valOf vs) d r s k).1 ≤ _ ∧ _ ≤ (inF n B (cnOf l) (nth fx) (valOf vs) d r s k).2 ∧ (inF n B (cnOf l) (nth fx) (valOf vs) d r s k).2 ≤ _ at hfb
              have more := fun hh => (((HT.out.setV (s := s) rB ((dpT n B (cnOf l) (nth fx) (valOf vs) d (r + cnOf l k) (clr s k)).1 + valOf vs k r)).setC (s := s) rB ((inF n B (cnOf l) (nth fx) (valOf vs) d r s k).2 + (dpT n B (cnOf l) (nth fx) (valOf vs) d (r + cnOf l k) (clr s k)).2))).congr (fun r' s' _ _ => inT_more hMAY hh)
              have less := fun hh => ((HT.out.setC (s := s) rB ((inF n B (cnOf l) (nth fx) (valOf vs) d r s k).2 + (dpT n B (cnOf l) (nth fx) (valOf vs) d (r + cnOf l k) (clr s k)).2))).congr (fun r' s' _ _ => inT_less hMAY hh)
              rw [HDP.out] at more less
              have b1 : 0 ≤ pp.1 ∧ pp.1 ≤ 20000000000000 := by
                have : (d : Int) * 1099511627776 ≤ 12 * 1099511627776 := Int.mul_le_mul_of_nonneg_right (by omega) (by omega)
                omega
              have b2' : 0 ≤ pp.2 ∧ pp.2 ≤ 13841287201 := by omega
              have b3' : 0 ≤ (inF n B (cnOf l) (nth fx) (valOf vs) d r s k).1 ∧ (inF n B (cnOf l) (nth fx) (valOf vs) d r s k).1 ≤ 20000000000000 := by
                have : (d : Int) * 1099511627776 ≤ 12 * 1099511627776 := Int.mul_le_mul_of_nonneg_right (by omega) (by omega)
                omega
              have b4' : 0 ≤ (inF n B (cnOf l) (nth fx) (valOf vs) d r s k).2 ∧ (inF n B (cnOf l) (nth fx) (valOf vs) d r s k).2 ≤ 1000000000000 := by omega
              clear hfb hd0 h7 h7' hkm hMAY hdb hrd
              generalize inF n B (cnOf l) (nth fx) (valOf vs) d r s k = ff at *
              obtain ⟨p1v, p1c⟩ := pp
              obtain ⟨fv, fc⟩ := ff
              generalize hvl : valOf vs k r = vkr at *
              have HVL := Eqn.mk hvl
              clear hvl
              dsimp only at *
              have MORE := Lib.hid more
              have LESS := Lib.hid less
              obtain ⟨p3, p4⟩ := p1
              obtain ⟨b1a, b1b⟩ := b1
              obtain ⟨b2a, b2b⟩ := b2'
              obtain ⟨b3a, b3b⟩ := b3'
              obtain ⟨b4a, b4b⟩ := b4'
              have k2 : 0 ≤ fk → (fk != (r : Int)) = false := fun hh => by rw [bne_eq_false_iff_eq]; omega
              clear more less ht hz HT HT' SAME HMY HVA HPP HDP
              have hw2 : IntKind.i64.wrap (p1v + vkr) = p1v + vkr := IntWalk.i64_in _ (by omega)
              have hw3 : IntKind.i64.wrap (fc + p1c) = fc + p1c := IntWalk.i64_in _ (by omega)
              have hcase : (fk < 0 ∨ (0 ≤ fk ∧ (fk != (r : Int)) = false)) := by
                rcases Int.lt_or_le fk 0 with hh | hh
                · exact .inl hh
                · exact .inr ⟨hh, k2 hh⟩
              have hcase2 : ((fc == 0) = true ∧ (fc = 0 ∨ fv < p1v + vkr)) ∨ ((fc == 0) = false ∧ fv < p1v + vkr) ∨ ((fc == 0) = false ∧ ¬ fv < p1v + vkr ∧ ¬ (fc = 0 ∨ fv < p1v + vkr)) := by
                by_cases h1 : fc = 0
                · exact .inl ⟨by simpa using h1, .inl h1⟩
                · by_cases h2 : fv < p1v + vkr
                  · exact .inr (.inl ⟨by simpa using h1, h2⟩)
                  · exact .inr (.inr ⟨by simpa using h1, h2, fun hh => hh.elim h1 h2⟩)
              clear k2 hfx
              have HC2 := Lib.hid hcase2
              have Y1 := Lib.hid y1
              have Y2 := Lib.hid y2
              have Y3 := Lib.hid y3
              have Y4 := Lib.hid y4
              have Z1 := Lib.hid z1
              have Z2 := Lib.hid z2
              have Z3 := Lib.hid z3
              have Z4 := Lib.hid z4
              have HW2 := Lib.hid hw2
              have HW3 := Lib.hid hw3
              have b2 := (HTB.out.cell (p := ⟨a, 2, none⟩) hal).trans a2
              have B2 := Lib.hid b2
              clear hcase2 y3 y4 z1 z2 z3 z4 hw2 hw3 b2
              go_upto_region 20 with (fail)
              go_cut [157] from 104 to 157 (fun s157 wx => s157 = .bool false ∧ wx = (wr.alloc (.cells #[.int .i64 c.win, .int .i64 (q : Int)] 59)).drew)
              case first =>
                rcases hcase with hf0 | ⟨hf0, hf1⟩
                · go_wp2_with fail
                  go_meet
                  exact ⟨rfl, rfl⟩
                · go_wp2_with fail
                  go_meet
                  exact ⟨rfl, rfl⟩
              case rest =>
                obtain ⟨rfl, rfl⟩ := hcut
                clear hcase b0 b3 e3 y1 y2
                have y3 := Y3.out
                have y4 := Y4.out
                have b2 := B2.out
                have e2 := E2.out
                have hw2 := HW2.out
                go_wp2_with fail
                refine Lx.region (C := fun _ => True) (hs := []) (by kernel_rfl) (by kernel_rfl) trivial ?_
                repeat' (first
                  | (refine Lx.lex_no (Lx.n1 rfl rfl rfl (by with_reducible rfl)) (fun K hK => ?_); go_simp; refine hK _ ?_; clear hK K)
                  | (refine Lx.lex_no (Lx.n0 rfl rfl rfl (by with_reducible rfl)) (fun K hK => ?_); go_simp; refine hK _ ?_; clear hK K)
                  | (refine Lx.lex_no (Lx.n2 rfl rfl rfl) (fun K hK => ?_); go_simp; refine hK _ ?_; clear hK K)
                  | (refine Lx.lex_pure (v := ?_) rfl (by first | exact Lx.w0 rfl | exact Lx.w1 rfl rfl rfl (by with_reducible rfl)) ?_ (fun K hK => ?_); rotate_left 1; (intro w' hCw; (try dsimp only at hCw); go_simp; done); go_simp; refine hK _ ?_; clear hK K)
                  | (refine Lx.lex_pure (v := ?_) rfl (by first | exact Lx.w0 rfl | exact Lx.w1 rfl rfl rfl (by with_reducible rfl)) ?_ (fun K hK => ?_); rotate_left 1; (intro w' hCw; (try dsimp only at hCw); go_simp; with_reducible rfl); go_simp; refine hK _ ?_; clear hK K)
                  | (refine Lx.lex_read (v := ?_) rfl (by first | exact Lx.w0 rfl | exact Lx.w1 rfl rfl rfl (by with_reducible rfl)) ?_ (fun K hK => ?_); rotate_left 1; (go_simp; done); go_simp; refine hK _ ?_; clear hK K)
                  | (refine Lx.lex_read (v := ?_) rfl (by first | exact Lx.w0 rfl | exact Lx.w1 rfl rfl rfl (by with_reducible rfl)) ?_ (fun K hK => ?_); rotate_left 1; (go_simp; with_reducible rfl); go_simp; refine hK _ ?_; clear hK K)
                  | (refine Lx.lex_eff rfl (by first | exact Lx.w0 rfl | exact Lx.w1 rfl rfl rfl (by with_reducible rfl)) (fun K hK => ?_); go_simp; (first | fail | skip); refine hK _ _ (trivial) ?_; clear hK K)
                  | (refine Lx.lex_cases rfl rfl rfl (fun hgd K hK => ?_) (fun hgd K hK => ?_) <;> (try simp only [decide_eq_true_eq, decide_eq_false_iff_not] at hgd) <;> (first | (exfalso; omega) | (go_simp; refine hK _ ?_; clear hK K))))
                all_goals (refine Lx.lex_nil ?_)
                clear y3 y4 b2 e2 hw2
                have z1 := Z1.out
                have z2 := Z2.out
                have z3 := Z3.out
                have z4 := Z4.out
                have y1 := Y1.out
                have y2 := Y2.out
                have hw3 := HW3.out
                rcases HC2.out with ⟨s1, s2⟩ | ⟨s1, s2⟩ | ⟨s1, s2, s3⟩
                · have MO := Lib.hid (MORE.out s2)
                  clear s2 MORE LESS
                  go_wp2_with fail
                  refine Lx.region (C := fun _ => True) (hs := []) (by kernel_rfl) (by kernel_rfl) trivial ?_
                  repeat' (first
                    | (refine Lx.lex_no (Lx.n1 rfl rfl rfl (by with_reducible rfl)) (fun K hK => ?_); go_simp; refine hK _ ?_; clear hK K)
                    | (refine Lx.lex_no (Lx.n0 rfl rfl rfl (by with_reducible rfl)) (fun K hK => ?_); go_simp; refine hK _ ?_; clear hK K)
                    | (refine Lx.lex_no (Lx.n2 rfl rfl rfl) (fun K hK => ?_); go_simp; refine hK _ ?_; clear hK K)
                    | (refine Lx.lex_pure (v := ?_) rfl (by first | exact Lx.w0 rfl | exact Lx.w1 rfl rfl rfl (by with_reducible rfl)) ?_ (fun K hK => ?_); rotate_left 1; (intro w' hCw; (try dsimp only at hCw); go_simp; done); go_simp; refine hK _ ?_; clear hK K)
                    | (refine Lx.lex_pure (v := ?_) rfl (by first | exact Lx.w0 rfl | exact Lx.w1 rfl rfl rfl (by with_reducible rfl)) ?_ (fun K hK => ?_); rotate_left 1; (intro w' hCw; (try dsimp only at hCw); go_simp; with_reducible rfl); go_simp; refine hK _ ?_; clear hK K)
                    | (refine Lx.lex_read (v := ?_) rfl (by first | exact Lx.w0 rfl | exact Lx.w1 rfl rfl rfl (by with_reducible rfl)) ?_ (fun K hK => ?_); rotate_left 1; (go_simp; done); go_simp; refine hK _ ?_; clear hK K)
                    | (refine Lx.lex_read (v := ?_) rfl (by first | exact Lx.w0 rfl | exact Lx.w1 rfl rfl rfl (by with_reducible rfl)) ?_ (fun K hK => ?_); rotate_left 1; (go_simp; with_reducible rfl); go_simp; refine hK _ ?_; clear hK K)
                    | (refine Lx.lex_eff rfl (by first | exact Lx.w0 rfl | exact Lx.w1 rfl rfl rfl (by with_reducible rfl)) (fun K hK => ?_); go_simp; (first | fail | skip); refine hK _ _ (trivial) ?_; clear hK K)
                    | (refine Lx.lex_cases rfl rfl rfl (fun hgd K hK => ?_) (fun hgd K hK => ?_) <;> (try simp only [decide_eq_true_eq, decide_eq_false_iff_not] at hgd) <;> (first | (exfalso; omega) | (go_simp; refine hK _ ?_; clear hK K))))
                  all_goals (refine Lx.lex_nil ?_)
                  go_wp2_with fail
                  go_roundw
                  case rel => exact ⟨k + 1, by omega, by go_num, ((MO.out.alloc _).drew.drew.drew)⟩
                  case measure => simp only [intOf]; omega
                · have MO := Lib.hid (MORE.out (.inr s2))
                  clear MORE LESS
                  go_wp2_with fail
                  refine Lx.region (C := fun _ => True) (hs := []) (by kernel_rfl) (by kernel_rfl) trivial ?_
                  repeat' (first
                    | (refine Lx.lex_no (Lx.n1 rfl rfl rfl (by with_reducible rfl)) (fun K hK => ?_); go_simp; refine hK _ ?_; clear hK K)
                    | (refine Lx.lex_no (Lx.n0 rfl rfl rfl (by with_reducible rfl)) (fun K hK => ?_); go_simp; refine hK _ ?_; clear hK K)
                    | (refine Lx.lex_no (Lx.n2 rfl rfl rfl) (fun K hK => ?_); go_simp; refine hK _ ?_; clear hK K)
                    | (refine Lx.lex_pure (v := ?_) rfl (by first | exact Lx.w0 rfl | exact Lx.w1 rfl rfl rfl (by with_reducible rfl)) ?_ (fun K hK => ?_); rotate_left 1; (intro w' hCw; (try dsimp only at hCw); go_simp; done); go_simp; refine hK _ ?_; clear hK K)
                    | (refine Lx.lex_pure (v := ?_) rfl (by first | exact Lx.w0 rfl | exact Lx.w1 rfl rfl rfl (by with_reducible rfl)) ?_ (fun K hK => ?_); rotate_left 1; (intro w' hCw; (try dsimp only at hCw); go_simp; with_reducible rfl); go_simp; refine hK _ ?_; clear hK K)
                    | (refine Lx.lex_read (v := ?_) rfl (by first | exact Lx.w0 rfl | exact Lx.w1 rfl rfl rfl (by with_reducible rfl)) ?_ (fun K hK => ?_); rotate_left 1; (go_simp; done); go_simp; refine hK _ ?_; clear hK K)
                    | (refine Lx.lex_read (v := ?_) rfl (by first | exact Lx.w0 rfl | exact Lx.w1 rfl rfl rfl (by with_reducible rfl)) ?_ (fun K hK => ?_); rotate_left 1; (go_simp; with_reducible rfl); go_simp; refine hK _ ?_; clear hK K)
                    | (refine Lx.lex_eff rfl (by first | exact Lx.w0 rfl | exact Lx.w1 rfl rfl rfl (by with_reducible rfl)) (fun K hK => ?_); go_simp; (first | fail | skip); refine hK _ _ (trivial) ?_; clear hK K)
                    | (refine Lx.lex_cases rfl rfl rfl (fun hgd K hK => ?_) (fun hgd K hK => ?_) <;> (try simp only [decide_eq_true_eq, decide_eq_false_iff_not] at hgd) <;> (first | (exfalso; omega) | (go_simp; refine hK _ ?_; clear hK K))))
                  all_goals (refine Lx.lex_nil ?_)
                  go_wp2_with fail
                  go_roundw
                  case rel => exact ⟨k + 1, by omega, by go_num, ((MO.out.alloc _).drew.drew.drew)⟩
                  case measure => simp only [intOf]; omega
                · have MO := Lib.hid (LESS.out s3)
                  clear s3 MORE LESS
                  go_wp2_with fail
                  refine Lx.region (C := fun _ => True) (hs := []) (by kernel_rfl) (by kernel_rfl) trivial ?_
                  repeat' (first
                    | (refine Lx.lex_no (Lx.n1 rfl rfl rfl (by with_reducible rfl)) (fun K hK => ?_); go_simp; refine hK _ ?_; clear hK K)
                    | (refine Lx.lex_no (Lx.n0 rfl rfl rfl (by with_reducible rfl)) (fun K hK => ?_); go_simp; refine hK _ ?_; clear hK K)
                    | (refine Lx.lex_no (Lx.n2 rfl rfl rfl) (fun K hK => ?_); go_simp; refine hK _ ?_; clear hK K)
                    | (refine Lx.lex_pure (v := ?_) rfl (by first | exact Lx.w0 rfl | exact Lx.w1 rfl rfl rfl (by with_reducible rfl)) ?_ (fun K hK => ?_); rotate_left 1; (intro w' hCw; (try dsimp only at hCw); go_simp; done); go_simp; refine hK _ ?_; clear hK K)
                    | (refine Lx.lex_pure (v := ?_) rfl (by first | exact Lx.w0 rfl | exact Lx.w1 rfl rfl rfl (by with_reducible rfl)) ?_ (fun K hK => ?_); rotate_left 1; (intro w' hCw; (try dsimp only at hCw); go_simp; with_reducible rfl); go_simp; refine hK _ ?_; clear hK K)
                    | (refine Lx.lex_read (v := ?_) rfl (by first | exact Lx.w0 rfl | exact Lx.w1 rfl rfl rfl (by with_reducible rfl)) ?_ (fun K hK => ?_); rotate_left 1; (go_simp; done); go_simp; refine hK _ ?_; clear hK K)
                    | (refine Lx.lex_read (v := ?_) rfl (by first | exact Lx.w0 rfl | exact Lx.w1 rfl rfl rfl (by with_reducible rfl)) ?_ (fun K hK => ?_); rotate_left 1; (go_simp; with_reducible rfl); go_simp; refine hK _ ?_; clear hK K)
                    | (refine Lx.lex_eff rfl (by first | exact Lx.w0 rfl | exact Lx.w1 rfl rfl rfl (by with_reducible rfl)) (fun K hK => ?_); go_simp; (first | fail | skip); refine hK _ _ (trivial) ?_; clear hK K)
                    | (refine Lx.lex_cases rfl rfl rfl (fun hgd K hK => ?_) (fun hgd K hK => ?_) <;> (try simp only [decide_eq_true_eq, decide_eq_false_iff_not] at hgd) <;> (first | (exfalso; omega) | (go_simp; refine hK _ ?_; clear hK K))))
                  all_goals (refine Lx.lex_nil ?_)
                  go_wp2_with fail
                  go_roundw
                  case rel => exact ⟨k + 1, by omega, by go_num, ((MO.out.alloc _).drew.drew.drew)⟩
                  case measure => simp only [intOf]; omega
        · have i1 : (B : Int) < (r : Int) + (q : Int) := by omega
          have HS := Lib.hid (SAME.out (fun hh => hend (HMY.out.1 hh.1).2.1))
          clear ht
          go_wp2_with fail
          go_roundw
          case rel => exact ⟨k + 1, by omega, by go_num, HS.out⟩
          case measure => simp only [intOf]; omega
      · have HS := Lib.hid (SAME.out (fun hh => hbit (HMY.out.1 hh.1).1))
        obtain rfl : R0 = s := by rw [HR0.out, clr_no hbit]
        have hne : ((R0 : Int) == (R0 : Int)) = true := by simp
        clear ht hbit
        go_wp2_with fail
        go_roundw
        case rel => exact ⟨k + 1, by omega, by go_num, HS.out⟩
        case measure => simp only [intOf]; omega
    · obtain rfl : k = n := by omega
      have HT := Lib.hid ht
      clear ht
      go_wp2_with fail
      exact HQ.out _ _ _ _ _ _ _ _ _ _ _ _ _ _ _ _ _ _ _ _ _ _ _ _ _ _ _ _ _ _ _ _ _ _ _ _ _ _ _ _ _ _ _ _ _ _ _ _ _ _ _ _ _ _ _ _ _ _ _ _ _ _ _ _ _ _ _ _ _ _ _ _ _ _ _ _ _ _ _ _ _ _ _ _ _ _ _ _ _ _ _ _ _ _ _ _ _ _ _ _ _ _ _ _ _ _ _ _ _ _ _ _ _ _ _ _ _ _ _ _ _ HT.out
end Go.Proofs.Yteckijkmcafpaaa
