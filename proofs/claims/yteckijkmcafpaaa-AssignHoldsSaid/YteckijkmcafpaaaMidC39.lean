/- The middle loop of solve: one set after the other, at one place. -/
import Derived.Test.YteckijkmcafpaaaInD39
namespace Go.Proofs.Yteckijkmcafpaaa
open Go.RowKit

set_option maxRecDepth 100000 in
set_option maxHeartbeats 8000000 in
theorem midC (a B n N r d gv gc : Nat) (vb cb : Nat → Nat) (w w0 : World) (l : List Claim) (vs : List (List Int)) (fx : List Int) (A1 A2 A3 : Option Addr) (c1 c2 c3 : Nat) (hB' : B ≤ 12) (hn : n ≤ 6) (hN : N = 2 ^ n) (hrd : r + (d + 1) = B) (hl : ∀ c ∈ l, 1 ≤ c.cnt ∧ c.cnt ≤ 12) (hv : ∀ i s, 0 ≤ valOf vs i s ∧ valOf vs i s ≤ 1099511627776)
    (hal : a < w.heap.size) (a0 : w.cell? ⟨a, 0, none⟩ = some (.int .i64 B)) (a1 : w.cell? ⟨a, 1, none⟩ = some (.slice A1 n c1)) (a2 : w.cell? ⟨a, 2, none⟩ = some (.slice A2 n c2)) (a3 : w.cell? ⟨a, 3, none⟩ = some (.slice A3 n c3))
    (r1 : RowS 2 Claim.cell w w.heap.size A1 n l) (r2 : RowS 12 rowV w w.heap.size A2 n vs) (r3 : Row1 intV w w.heap.size A3 n fx)
    (ht : Tab w w0 B N gv gc vb cb (dpT n B (cnOf l) (nth fx) (valOf vs) d))
    (x1 x2 x3 x7 x9 x10 x11 x12 x13 x14 x15 x16 x17 x18 x19 x20 x21 x22 x23 x24 x25 x26 x27 x28 x29 x30 x31 x32 x33 x34 x35 x36 x37 x38 x39 x40 x41 x42 x43 x44 x45 x46 x47 x48 x49 x50 x51 x52 x53 x54 x55 x56 x57 x58 x59 x60 x61 x62 x63 x64 x65 x68 x69 x70 x71 x72 x73 x74 x75 x76 x77 x78 x79 x80 x81 x82 x83 x84 x85 x86 x87 x88 x89 x90 x91 x92 x93 x94 x95 x96 x97 x98 x99 x100 x101 x102 x103 x104 x105 x106 x107 x108 x109 x110 x111 x112 x113 x114 x115 x116 x117 x118 x119 x120 x121 x122 x123 x124 x125 x126 x127 x128 x129 x130 x131 x132 x133 x134 x135 x136 x137 x138 x139 x140 x141 x142 x143 x144 x145 x146 x147 x148 x149 x150 x151 x152 x153 x154 x155 x156 x157 x158 x159 x160 x161 x162 x163 x164 x165 x166 x167 x168 x169 x170 x171 x172 x173 x174 x175 x176 x177 x178 x179 x180 x181 x182 x183 x184 x185 x186 x187 x188 x189 x190 x191 x192 x193 x194 x195 x196 x197 x198 x199 x200 x201 x202 x203 x204 x205 x206 x207 x208 x209 x210 x211 x212 x213 x214 x215 x216 x217 x218 x219 x220 x221 x222 x223 x224 x225 x226 x227 x228 x229 x230 x231 x232 : Value) (Q : Exit → Act → World → Prop)
    (hQ : ∀ (u9 u10 u11 u12 u13 u14 u67 u68 u69 u70 u71 u72 u73 u74 u75 u76 u77 u78 u79 u80 u81 u82 u83 u84 u85 u86 u87 u88 u89 u90 u91 u92 u93 u94 u95 u96 u97 u98 u99 u100 u101 u102 u103 u104 u105 u106 u107 u108 u109 u110 u111 u112 u113 u114 u115 u116 u117 u118 u119 u120 u121 u122 u123 u124 u125 u126 u127 u128 u129 u130 u131 u132 u133 u134 u135 u136 u137 u138 u139 u140 u141 u142 u143 u144 u145 u146 u147 u148 u149 u150 u151 u152 u153 u154 u155 u156 u157 u158 u159 u160 u161 u162 u163 u164 u165 u166 u167 u168 u169 u170 u171 u172 u173 u174 u175 u176 u177 u178 u179 u180 u181 u182 u183 u184 u185 u186 u187 u188 u189 u190 u191 u192 u193 u194 u195 u196 u197 u198 u199 u200 u201 u202 u203 u204 u205 u206 u207 u208 u209 u210 u211 u212 u213 u214 u215 u216 u217 u218 : Value) (w' : World), Tab w w' B N gv gc vb cb (dpT n B (cnOf l) (nth fx) (valOf vs) (d + 1)) → Q (.exit 4) ⟨List.toArray (Value.pointer (some ⟨a, 0, none⟩) :: x1 :: x2 :: x3 :: Value.int .i64 (N : Int) :: Value.slice (some ⟨gv, 0, none⟩) (B + 1) (B + 1) :: Value.slice (some ⟨gc, 0, none⟩) (B + 1) (B + 1) :: x7 :: Value.int .i64 (r : Int) :: u9 :: u10 :: u11 :: u12 :: u13 :: u14 :: x15 :: x16 :: x17 :: x18 :: x19 :: x20 :: x21 :: x22 :: x23 :: x24 :: x25 :: x26 :: x27 :: x28 :: x29 :: x30 :: x31 :: x32 :: x33 :: x34 :: x35 :: x36 :: x37 :: x38 :: x39 :: x40 :: x41 :: x42 :: x43 :: x44 :: x45 :: x46 :: x47 :: x48 :: x49 :: x50 :: x51 :: x52 :: x53 :: x54 :: x55 :: x56 :: x57 :: x58 :: x59 :: x60 :: x61 :: x62 :: x63 :: x64 :: x65 :: Value.int .i64 (N : Int) :: u67 :: u68 :: u69 :: u70 :: u71 :: u72 :: u73 :: u74 :: u75 :: u76 :: u77 :: u78 :: u79 :: u80 :: u81 :: u82 :: u83 :: u84 :: u85 :: u86 :: u87 :: u88 :: u89 :: u90 :: u91 :: u92 :: u93 :: u94 :: u95 :: u96 :: u97 :: u98 :: u99 :: u100 :: u101 :: u102 :: u103 :: u104 :: u105 :: u106 :: u107 :: u108 :: u109 :: u110 :: u111 :: u112 :: u113 :: u114 :: u115 :: u116 :: u117 :: u118 :: u119 :: u120 :: u121 :: u122 :: u123 :: u124 :: u125 :: u126 :: u127 :: u128 :: u129 :: u130 :: u131 :: u132 :: u133 :: u134 :: u135 :: u136 :: u137 :: u138 :: u139 :: u140 :: u141 :: u142 :: u143 :: u144 :: u145 :: u146 :: u147 :: u148 :: u149 :: u150 :: u151 :: u152 :: u153 :: u154 :: u155 :: u156 :: u157 :: u158 :: u159 :: u160 :: u161 :: u162 :: u163 :: u164 :: u165 :: u166 :: u167 :: u168 :: u169 :: u170 :: u171 :: u172 :: u173 :: u174 :: u175 :: u176 :: u177 :: u178 :: u179 :: u180 :: u181 :: u182 :: u183 :: u184 :: u185 :: u186 :: u187 :: u188 :: u189 :: u190 :: u191 :: u192 :: u193 :: u194 :: u195 :: u196 :: u197 :: u198 :: u199 :: u200 :: u201 :: u202 :: u203 :: u204 :: u205 :: u206 :: u207 :: u208 :: u209 :: u210 :: u211 :: u212 :: u213 :: u214 :: u215 :: u216 :: u217 :: u218 :: x219 :: x220 :: x221 :: x222 :: x223 :: x224 :: x225 :: x226 :: x227 :: x228 :: x229 :: x230 :: x231 :: x232 :: []), []⟩ w') :
    Code.wp Try.prog (Code.loop (solveLoop 2)) Q ⟨List.toArray (Value.pointer (some ⟨a, 0, none⟩) :: x1 :: x2 :: x3 :: Value.int .i64 (N : Int) :: Value.slice (some ⟨gv, 0, none⟩) (B + 1) (B + 1) :: Value.slice (some ⟨gc, 0, none⟩) (B + 1) (B + 1) :: x7 :: Value.int .i64 (r : Int) :: x9 :: x10 :: x11 :: x12 :: x13 :: x14 :: x15 :: x16 :: x17 :: x18 :: x19 :: x20 :: x21 :: x22 :: x23 :: x24 :: x25 :: x26 :: x27 :: x28 :: x29 :: x30 :: x31 :: x32 :: x33 :: x34 :: x35 :: x36 :: x37 :: x38 :: x39 :: x40 :: x41 :: x42 :: x43 :: x44 :: x45 :: x46 :: x47 :: x48 :: x49 :: x50 :: x51 :: x52 :: x53 :: x54 :: x55 :: x56 :: x57 :: x58 :: x59 :: x60 :: x61 :: x62 :: x63 :: x64 :: x65 :: Value.int .i64 (N : Int) :: Value.int .i64 0 :: x68 :: x69 :: x70 :: x71 :: x72 :: x73 :: x74 :: x75 :: x76 :: x77 :: x78 :: x79 :: x80 :: x81 :: x82 :: x83 :: x84 :: x85 :: x86 :: x87 :: x88 :: x89 :: x90 :: x91 :: x92 :: x93 :: x94 :: x95 :: x96 :: x97 :: x98 :: x99 :: x100 :: x101 :: x102 :: x103 :: x104 :: x105 :: x106 :: x107 :: x108 :: x109 :: x110 :: x111 :: x112 :: x113 :: x114 :: x115 :: x116 :: x117 :: x118 :: x119 :: x120 :: x121 :: x122 :: x123 :: x124 :: x125 :: x126 :: x127 :: x128 :: x129 :: x130 :: x131 :: x132 :: x133 :: x134 :: x135 :: x136 :: x137 :: x138 :: x139 :: x140 :: x141 :: x142 :: x143 :: x144 :: x145 :: x146 :: x147 :: x148 :: x149 :: x150 :: x151 :: x152 :: x153 :: x154 :: x155 :: x156 :: x157 :: x158 :: x159 :: x160 :: x161 :: x162 :: x163 :: x164 :: x165 :: x166 :: x167 :: x168 :: x169 :: x170 :: x171 :: x172 :: x173 :: x174 :: x175 :: x176 :: x177 :: x178 :: x179 :: x180 :: x181 :: x182 :: x183 :: x184 :: x185 :: x186 :: x187 :: x188 :: x189 :: x190 :: x191 :: x192 :: x193 :: x194 :: x195 :: x196 :: x197 :: x198 :: x199 :: x200 :: x201 :: x202 :: x203 :: x204 :: x205 :: x206 :: x207 :: x208 :: x209 :: x210 :: x211 :: x212 :: x213 :: x214 :: x215 :: x216 :: x217 :: x218 :: x219 :: x220 :: x221 :: x222 :: x223 :: x224 :: x225 :: x226 :: x227 :: x228 :: x229 :: x230 :: x231 :: x232 :: []), []⟩ w0 := by
  have R1 := Lib.hid r1
  have R2 := Lib.hid r2
  have R3 := Lib.hid r3
  have HT := Lib.hid (ht.congr (fun r s _ _ => mixT_zero d r s))
  have HQ := Lib.hid hQ
  have HN := Eqn.mk hN
  have HRD := Lib.hid hrd
  have HL := Lib.hid hl
  have HV := Lib.hid hv
  have hr12 : r + 1 ≤ 12 := by omega
  have hN64 : N ≤ 64 := by rw [hN]; exact Nat.pow_le_pow_right (by omega) hn
  clear r1 r2 r3 ht hQ hN hl hv hrd
  conv => arg 2; arg 1; whnf
  go_loopw [67] (fun i wr => ∃ s : Nat, s ≤ N ∧ i = .int .i64 s ∧ Tab w wr B N gv gc vb cb (mixT n B (cnOf l) (nth fx) (valOf vs) d s)) (fun i _ => N - (intOf i).toNat)
  case atStart => exact ⟨0, Nat.zero_le _, rfl, HT.out⟩
  case round =>
    clear HT
    obtain ⟨s, hs, rfl, ht⟩ := hrel
    obtain ⟨wm, rfl⟩ : ∃ wm : World, wm = wr := ⟨_, rfl⟩
    by_cases hlt : s < N
    · have hrd := HRD.out
      have rB : r ≤ B := by omega
      have rB1 : r + 1 ≤ B := by omega
      have y1 := ht.cv rB
      have y2 := ht.cc rB
      have y3 := ht.cv rB1
      have y4 := ht.cc rB1
      have y5 := ht.xv rB1 hlt
      have y6 := ht.xc rB1 hlt
      rw [mixT_above hrd (by omega)] at y5 y6
      have n1 := (ht.no r rB).1
      have n2 := (ht.no r rB).2.1
      have n3 := (ht.no r rB).2.2.1
      have n4 := (ht.no r rB).2.2.2
      have n5 : vb r ≠ vb (r + 1) := fun hh => by have := ht.dvv r (r + 1) rB rB1 hh; omega
      have n6 : vb r ≠ cb (r + 1) := ht.dvc r (r + 1) rB rB1
      have n7 : cb r ≠ vb (r + 1) := fun hh => ht.dvc (r + 1) r rB1 rB hh.symm
      have n8 : cb r ≠ cb (r + 1) := fun hh => by have := ht.dcc r (r + 1) rB rB1 hh; omega
      have n9 : vb r ≠ cb r := ht.dvc r r rB rB
      have z1 := ht.xv rB hlt
      have z2 := ht.xc rB hlt
      generalize mixT n B (cnOf l) (nth fx) (valOf vs) d s r s = mm at z1 z2
      have f1 := (ht.rv r rB).frozen s
      have f2 := (ht.rc r rB).frozen s
      have l1 := (ht.rv r rB).lt
      have l2 := (ht.rc r rB).lt
      have j1 : (r : Int) < (B : Int) + 1 := by omega
      have j2 : (r : Int) + 1 < (B : Int) + 1 := by omega
      have j3 : (0 : Int) ≤ (r : Int) + 1 := by omega
      have j4 : ((r : Int) + 1).toNat = r + 1 := by omega
      have j5 : (s : Int) < (N : Int) := by omega
      have HT2 : Hid (Tab w (((wm.setCell ⟨vb r, s, none⟩ (.int .i64 (dpT n B (cnOf l) (nth fx) (valOf vs) d (r + 1) s).1)).setCell ⟨cb r, s, none⟩ (.int .i64 (dpT n B (cnOf l) (nth fx) (valOf vs) d (r + 1) s).2)).drew) B N gv gc vb cb (inT n B (cnOf l) (nth fx) (valOf vs) d r s 0)) := Lib.hid (((((ht.setV (s := s) rB _).setC (s := s) rB _)).congr (fun r' s' _ _ => inT_zero)).drew)
      have b1 := (HT2.out.bl.cell (p := ⟨a, 1, none⟩) hal).trans a1
      clear ht hrd
      have hw1 : IntKind.i64.wrap ((r : Int) + 1) = (r : Int) + 1 := IntWalk.i64_in _ (by omega)
      generalize hdp : dpT n B (cnOf l) (nth fx) (valOf vs) d (r + 1) s = pp at *
      clear hdp
      have B1 := Lib.hid b1
      clear b1
      go_wp2_with fail
      refine Lx.region (C := fun w' => w'.cell? ⟨gv, r, none⟩ = some (.slice (some ⟨vb r, 0, none⟩) N N) ∧ w'.cell? ⟨gc, r, none⟩ = some (.slice (some ⟨cb r, 0, none⟩) N N) ∧ w'.cell? ⟨gv, r + 1, none⟩ = some (.slice (some ⟨vb (r + 1), 0, none⟩) N N) ∧ w'.cell? ⟨gc, r + 1, none⟩ = some (.slice (some ⟨cb (r + 1), 0, none⟩) N N) ∧ w'.cell? ⟨vb (r + 1), s, none⟩ = some (.int .i64 pp.1) ∧ w'.cell? ⟨cb (r + 1), s, none⟩ = some (.int .i64 pp.2)) (hs := [3, 8, 14, 17, 22, 25]) (by kernel_rfl) (by kernel_rfl) (by exact ⟨y1, y2, y3, y4, y5, y6⟩) ?_
      repeat' (first
        | (refine Lx.lex_no (Lx.n1 rfl rfl rfl (by with_reducible rfl)) (fun K hK => ?_); go_simp; refine hK _ ?_; clear hK K)
        | (refine Lx.lex_no (Lx.n0 rfl rfl rfl (by with_reducible rfl)) (fun K hK => ?_); go_simp; refine hK _ ?_; clear hK K)
        | (refine Lx.lex_no (Lx.n2 rfl rfl rfl) (fun K hK => ?_); go_simp; refine hK _ ?_; clear hK K)
        | (refine Lx.lex_pure (v := ?_) rfl (by first | exact Lx.w0 rfl | exact Lx.w1 rfl rfl rfl (by with_reducible rfl)) ?_ (fun K hK => ?_); rotate_left 1; (intro w' hCw; (try dsimp only at hCw); go_simp; done); go_simp; refine hK _ ?_; clear hK K)
        | (refine Lx.lex_pure (v := ?_) rfl (by first | exact Lx.w0 rfl | exact Lx.w1 rfl rfl rfl (by with_reducible rfl)) ?_ (fun K hK => ?_); rotate_left 1; (intro w' hCw; (try dsimp only at hCw); go_simp; with_reducible rfl); go_simp; refine hK _ ?_; clear hK K)
        | (refine Lx.lex_read (v := ?_) rfl (by first | exact Lx.w0 rfl | exact Lx.w1 rfl rfl rfl (by with_reducible rfl)) ?_ (fun K hK => ?_); rotate_left 1; (go_simp; done); go_simp; refine hK _ ?_; clear hK K)
        | (refine Lx.lex_read (v := ?_) rfl (by first | exact Lx.w0 rfl | exact Lx.w1 rfl rfl rfl (by with_reducible rfl)) ?_ (fun K hK => ?_); rotate_left 1; (go_simp; with_reducible rfl); go_simp; refine hK _ ?_; clear hK K)
        | (refine Lx.lex_eff rfl (by first | exact Lx.w0 rfl | exact Lx.w1 rfl rfl rfl (by with_reducible rfl)) (fun K hK => ?_); go_simp; (first | fail | skip); refine hK _ _ (by refine ⟨?_, ?_, ?_, ?_, ?_, ?_⟩ <;> repeat (first | assumption | refine cell_set ?_ ?_)) ?_; clear hK K)
        | (refine Lx.lex_cases rfl rfl rfl (fun hgd K hK => ?_) (fun hgd K hK => ?_) <;> (try simp only [decide_eq_true_eq, decide_eq_false_iff_not] at hgd) <;> (first | (exfalso; omega) | (go_simp; refine hK _ ?_; clear hK K))))
      all_goals (refine Lx.lex_nil ?_)
      clear y1 y2 y3 y4 y5 y6 n1 n2 n3 n4 n5 n6 n7 n8 n9 z1 z2 f1 f2 l1 l2 hw1
      have b1 := B1.out
      go_wp2_with fail
      refine innerD a B n N r s d gv gc vb cb w _ l vs fx A1 A2 A3 c1 c2 c3 hB' hn HN.out hlt HRD.out HL.out HV.out hal a0 a2 a3 R1.out R2.out R3.out HT2.out _ _ _ _ _ _ _ _ _ _ _ _ _ _ _ _ _ _ _ _ _ _ _ _ _ _ _ _ _ _ _ _ _ _ _ _ _ _ _ _ _ _ _ _ _ _ _ _ _ _ _ _ _ _ _ _ _ _ _ _ _ _ _ _ _ _ _ _ _ _ _ _ _ _ _ _ _ _ _ _ _ _ _ _ _ _ _ _ _ _ _ _ _ _ _ _ _ _ _ _ _ _ _ _ _ _ _ _ _ _ _ _ _ _ _ _ _ _ _ _ _ _ _ _ _ _ _ _ _ _ _ _ _ _ _ _ _ _ _ _ _ _ _ _ _ _ _ _ _ _ _ _ _ _ _ _ _ _ _ _ _ _ _ _ _ _ _ _ _ _ _ _ _ _ _ _ _ _ _ _ _ _ _ _ _ _ _ _ _ _ _ _ _ _ _ _ _ _ _ _ _ _ _ _ _ _ _ _ _ _ _ _ _ _ _ _ _ _ _ _ _ _ _ _ _ _ ?_
      intro u10 u11 u12 u13 u14 u103 u104 u105 u106 u107 u108 u109 u110 u111 u112 u113 u114 u115 u116 u117 u118 u119 u120 u121 u122 u123 u124 u125 u126 u127 u128 u129 u130 u131 u132 u133 u134 u135 u136 u137 u138 u139 u140 u141 u142 u143 u144 u145 u146 u147 u148 u149 u150 u151 u152 u153 u154 u155 u156 u157 u158 u159 u160 u161 u162 u163 u164 u165 u166 u167 u168 u169 u170 u171 u172 u173 u174 u175 u176 u177 u178 u179 u180 u181 u182 u183 u184 u185 u186 u187 u188 u189 u190 u191 u192 u193 u194 u195 u196 u197 u198 u199 u200 u201 u202 u203 u204 u205 u206 u207 u208 u209 u210 u211 u212 u213 u214 u215 u216 u217 w5 ht5
      have HT5 := Lib.hid (ht5.congr (fun r' s' _ _ => inT_full HRD.out))
      clear ht5 b1 B1 HT2
      go_wp2_with fail
      go_roundw
      case rel => exact ⟨s + 1, by omega, by go_num, HT5.out⟩
      case measure => simp only [intOf]; omega
    · have HT := Lib.hid (ht.congr (T' := dpT n B (cnOf l) (nth fx) (valOf vs) (d + 1)) (fun r' s' _ h => mixT_full (Nat.lt_of_lt_of_le h (by omega))))
      clear ht
      go_wp2_with fail
      exact HQ.out _ _ _ _ _ _ _ _ _ _ _ _ _ _ _ _ _ _ _ _ _ _ _ _ _ _ _ _ _ _ _ _ _ _ _ _ _ _ _ _ _ _ _ _ _ _ _ _ _ _ _ _ _ _ _ _ _ _ _ _ _ _ _ _ _ _ _ _ _ _ _ _ _ _ _ _ _ _ _ _ _ _ _ _ _ _ _ _ _ _ _ _ _ _ _ _ _ _ _ _ _ _ _ _ _ _ _ _ _ _ _ _ _ _ _ _ _ _ _ _ _ _ _ _ _ _ _ _ _ _ _ _ _ _ _ _ _ _ _ _ _ _ _ _ _ _ _ _ _ _ _ _ _ _ _ _ _ _ _ HT.out
end Go.Proofs.Yteckijkmcafpaaa
