/- The reference of layer 17: ValidRules. -/
import Derived.Test.YtpdhelhngdeoeaaRvP17
import Derived.Test.YtpdhelhngdeoeaaRvL17
import Derived.Test.YtpdhelhngdeoeaaRvC17
namespace Go.Proofs.Ytpdhelhngdeoeaa
open Go.RowKit

set_option maxRecDepth 100000 in
set_option maxHeartbeats 8000000 in
theorem rrules_any (s : RulS) (w : World) (r : Rul) (h : RulAt w w.heap.size s r) : Calls Try.prog 26 #[s.val] w (RetPost (.bool (rulesR r)) w.heap.size w) := by
  obtain ⟨A0, n0, c0, A1, n1, c1, A2, n2, c2⟩ := s
  obtain ⟨W0, hW0⟩ : ∃ W0, W0 = w.alloc (.cells #[.slice A0 n0 c0, .slice A1 n1 c1, .slice A2 n2 c2] 52) := ⟨_, rfl⟩
  have HB0 : Hid (Below w.heap.size w W0) := Lib.hid (by rw [hW0]; exact (Below.refl _ w).alloc (Nat.le_refl _) _)
  have h0 := h.keep HB0.out
  have hs0 : W0.heap.size = w.heap.size + 1 := by rw [hW0]; simp
  have HC0 : Hid (W0.cell? ⟨w.heap.size, 0, none⟩ = some (.slice A0 n0 c0) ∧ W0.cell? ⟨w.heap.size, 1, none⟩ = some (.slice A1 n1 c1) ∧ W0.cell? ⟨w.heap.size, 2, none⟩ = some (.slice A2 n2 c2)) := Lib.hid (by rw [hW0]; refine ⟨?_, ?_, ?_⟩ <;> simp [go_sem])
  have HC : Hid (∀ W, Below W0.heap.size W0 W → W.cell? ⟨w.heap.size, 0, none⟩ = some (.slice A0 n0 c0) ∧ W.cell? ⟨w.heap.size, 1, none⟩ = some (.slice A1 n1 c1) ∧ W.cell? ⟨w.heap.size, 2, none⟩ = some (.slice A2 n2 c2)) := Lib.hid (fun W hb => ⟨(hb.cell (p := ⟨w.heap.size, 0, none⟩) (by dsimp only; omega)).trans HC0.out.1, (hb.cell (p := ⟨w.heap.size, 1, none⟩) (by dsimp only; omega)).trans HC0.out.2.1, (hb.cell (p := ⟨w.heap.size, 2, none⟩) (by dsimp only; omega)).trans HC0.out.2.2⟩)
  have HBW : Hid (∀ W, Below W0.heap.size W0 W → Below w.heap.size w W) := Lib.hid (fun W hb => HB0.out.trans (hb.mono HB0.out.size))
  have HH := Lib.hid h0
  have HL : Hid (r.pairs.length = n0 ∧ r.loads.length = n1 ∧ r.caps.length = n2) := Lib.hid ⟨h0.1.1, h0.2.1.1, h0.2.2.1.1⟩
  have HX : Hid (Blk W0 w.heap.size 52 [.slice A0 n0 c0, .slice A1 n1 c1, .slice A2 n2 c2]) := Lib.hid (by rw [hW0]; exact blk_new w _ _)
  have B0 := Lib.hid (Below.refl W0.heap.size W0)
  obtain ⟨q0, q1, q2⟩ := HC.out _ B0.out
  clear h h0 HC0 HB0 hs0
  unfold RulS.val
  dsimp only
  by_cases g0 : 4096 < n0 ∨ 1024 < n1 ∨ 1024 < n2
  · have HF : Eqn (rulesR r) false := by rw [Eqn, rulesR, HL.out.1, HL.out.2.1, HL.out.2.2, if_pos g0]
    by_cases d0 : (4096 : Int) < n0
    · clear g0
      go_enter Try.func26, Try.ntmps26
      go_wp2_with fail
      go_ret
      exact ⟨ret_bool HF.out.symm, by first | (rw [← hW0]; exact HBW.out _ B0.out) | exact HBW.out _ B0.out⟩
    · by_cases d1 : (1024 : Int) < n1
      · clear g0
        go_enter Try.func26, Try.ntmps26
        go_wp2_with fail
        go_ret
        exact ⟨ret_bool HF.out.symm, by first | (rw [← hW0]; exact HBW.out _ B0.out) | exact HBW.out _ B0.out⟩
      · have d2 : (1024 : Int) < n2 := by omega
        clear g0
        go_enter Try.func26, Try.ntmps26
        go_wp2_with fail
        go_ret
        exact ⟨ret_bool HF.out.symm, by first | (rw [← hW0]; exact HBW.out _ B0.out) | exact HBW.out _ B0.out⟩
  have d0 : ¬ (4096 : Int) < n0 := by omega
  have d1 : ¬ (1024 : Int) < n1 := by omega
  have d2 : ¬ (1024 : Int) < n2 := by omega
  have HF : Eqn (rulesR r) (goF goodP R5.nums none r.pairs && goF goodL R5.nums none r.loads && goF goodC R4.nums none r.caps) := by rw [Eqn, rulesR, HL.out.1, HL.out.2.1, HL.out.2.2, if_neg g0]
  rw [show rulesR r = _ from HF.out]
  obtain ⟨ans, hans⟩ : ∃ ans, ans = (goF goodP R5.nums none r.pairs && goF goodL R5.nums none r.loads && goF goodC R4.nums none r.caps) := ⟨_, rfl⟩
  rw [← hans]
  have HANS := Eqn.mk hans
  have d0' : n0 ≤ 4096 := by omega
  have d1' : n1 ≤ 1024 := by omega
  have d2' : n2 ≤ 1024 := by omega
  clear HF hans g0
  go_enter Try.func26, Try.ntmps26
  go_wp2_with fail
  rw [← hW0]
  clear hW0 q0 q1 q2
  refine rv_pairs w W0 _ A0 A1 A2 n0 c0 n1 c1 n2 c2 r ans HH.out HX.out HANS B0.out d0' d1' d2' _ _ _ _ _ _ _ _ _ _ _ _ _ _ _ _ _ _ _ _ _ _ _ _ _ _ _ _ _ _ _ _ _ _ _ _ _ _ _ _ _ _ _ _ _ _ _ _ _ _ _ _ _ _ _ _ _ _ _ _ _ _ _ _ _ _ _ _ _ _ _ _ _ _ _ _ _ _ _ _ _ _ _ _ _ _ _ _ _ _ _ _ _ _ _ _ _ _ _ _ _ _ _ _ _ _ _ _ _ _ _ _ _ _ _ _ _ _ _ _ _ _ _ _ _ _ _ _ _ _ _ _ _ _ _ _ _ _ _ _ _ _ _ _ _ _ _ _ _ _ _ _ _ _ _ _ _ _ _ _ _ _ _ _ _ _ _ _ _ _ _ _ _ _ _ _ _ _ _ _ _ _ _ _ _ _ _ _ _ _ _ _ _ _ _ _ _ _ _ _ _ _ _ ?_ ?_
  case refine_2 =>
    intro u3 u4 u25 u26 u27 u28 u29 u30 u31 u32 u33 u34 u35 u36 u37 u38 u39 u40 u41 u42 u43 u44 u45 u46 u47 u48 u49 u50 u51 u52 u53 u54 u55 u56 u57 u58 u59 u60 u61 u62 u63 u64 u65 u66 u67 u68 u69 u70 u71 u72 u73 u74 u75 u76 u77 u78 u79 u80 u81 u82 u83 u84 u85 u86 u87 u88 w' hE hB
    have HB := Lib.hid hB
    clear hB
    go_wp2_with fail
    go_ret
    exact ⟨ret_bool hE.out.symm, HBW.out _ HB.out⟩
  intro u2 u3 u4 u25 u26 u27 u28 u29 u30 u31 u32 u33 u34 u35 u36 u37 u38 u39 u40 u41 u42 u43 u44 u45 u46 u47 u48 u49 u50 u51 u52 u53 u54 u55 u56 u57 u58 u59 u60 u61 u62 u63 u64 u65 u66 u67 u68 u69 u70 u71 u72 u73 u74 u75 u76 u77 u78 u79 u80 u81 u82 u83 u84 u85 u86 u87 u88 w0 hE0 hB0
  have HB0 := Lib.hid hB0
  clear hB0
  go_wp2_with fail
  refine rv_loads w W0 _ A0 A1 A2 n0 c0 n1 c1 n2 c2 r ans HH.out HX.out hE0 HB0.out d0' d1' d2' _ _ _ _ _ _ _ _ _ _ _ _ _ _ _ _ _ _ _ _ _ _ _ _ _ _ _ _ _ _ _ _ _ _ _ _ _ _ _ _ _ _ _ _ _ _ _ _ _ _ _ _ _ _ _ _ _ _ _ _ _ _ _ _ _ _ _ _ _ _ _ _ _ _ _ _ _ _ _ _ _ _ _ _ _ _ _ _ _ _ _ _ _ _ _ _ _ _ _ _ _ _ _ _ _ _ _ _ _ _ _ _ _ _ _ _ _ _ _ _ _ _ _ _ _ _ _ _ _ _ _ _ _ _ _ _ _ _ _ _ _ _ _ _ _ _ _ _ _ _ _ _ _ _ _ _ _ _ _ _ _ _ _ _ _ _ _ _ _ _ _ _ _ _ _ _ _ _ _ _ _ _ _ _ _ _ _ _ _ _ _ _ _ _ _ _ _ _ _ _ _ _ _ ?_ ?_
  case refine_2 =>
    intro u5 u6 u89 u90 u91 u92 u93 u94 u95 u96 u97 u98 u99 u100 u101 u102 u103 u104 u105 u106 u107 u108 u109 u110 u111 u112 u113 u114 u115 u116 u117 u118 u119 u120 u121 u122 u123 u124 u125 u126 u127 u128 u129 u130 u131 u132 u133 u134 u135 u136 u137 u138 u139 u140 u141 u142 u143 u144 u145 u146 u147 u148 u149 u150 u151 u152 w' hE hB
    have HB := Lib.hid hB
    clear hB
    go_wp2_with fail
    go_ret
    exact ⟨ret_bool hE.out.symm, HBW.out _ HB.out⟩
  intro u2 u5 u6 u89 u90 u91 u92 u93 u94 u95 u96 u97 u98 u99 u100 u101 u102 u103 u104 u105 u106 u107 u108 u109 u110 u111 u112 u113 u114 u115 u116 u117 u118 u119 u120 u121 u122 u123 u124 u125 u126 u127 u128 u129 u130 u131 u132 u133 u134 u135 u136 u137 u138 u139 u140 u141 u142 u143 u144 u145 u146 u147 u148 u149 u150 u151 u152 w1 hE1 hB1
  have HB1 := Lib.hid hB1
  clear hB1
  go_wp2_with fail
  refine rv_caps w W0 _ A0 A1 A2 n0 c0 n1 c1 n2 c2 r ans HH.out HX.out hE1 HB1.out d0' d1' d2' _ _ _ _ _ _ _ _ _ _ _ _ _ _ _ _ _ _ _ _ _ _ _ _ _ _ _ _ _ _ _ _ _ _ _ _ _ _ _ _ _ _ _ _ _ _ _ _ _ _ _ _ _ _ _ _ _ _ _ _ _ _ _ _ _ _ _ _ _ _ _ _ _ _ _ _ _ _ _ _ _ _ _ _ _ _ _ _ _ _ _ _ _ _ _ _ _ _ _ _ _ _ _ _ _ _ _ _ _ _ _ _ _ _ _ _ _ _ _ _ _ _ _ _ _ _ _ _ _ _ _ _ _ _ _ _ _ _ _ _ _ _ _ _ _ _ _ _ _ _ _ _ _ _ _ _ _ _ _ _ _ _ _ _ _ _ _ _ _ _ _ _ _ _ _ _ _ _ _ _ _ _ _ _ _ _ _ _ _ _ _ _ _ _ _ _ _ _ _ _ _ _ _ ?_ ?_
  case refine_2 =>
    intro u7 u8 u153 u154 u155 u156 u157 u158 u159 u160 u161 u162 u163 u164 u165 u166 u167 u168 u169 u170 u171 u172 u173 u174 u175 u176 u177 u178 u179 u180 u181 u182 u183 u184 u185 u186 u187 u188 u189 u190 u191 u192 u193 u194 u195 u196 u197 u198 u199 u200 u201 u202 u203 w' hE hB
    have HB := Lib.hid hB
    clear hB
    go_wp2_with fail
    go_ret
    exact ⟨ret_bool hE.out.symm, HBW.out _ HB.out⟩
  intro u2 u7 u8 u153 u154 u155 u156 u157 u158 u159 u160 u161 u162 u163 u164 u165 u166 u167 u168 u169 u170 u171 u172 u173 u174 u175 u176 u177 u178 u179 u180 u181 u182 u183 u184 u185 u186 u187 u188 u189 u190 u191 u192 u193 u194 u195 u196 u197 u198 u199 u200 u201 u202 u203 w2 hE2 hB2
  have HB2 := Lib.hid hB2
  clear hB2
  go_wp2_with fail
  go_ret
  exact ⟨ret_bool hE2.out.symm, HBW.out _ HB2.out⟩
end Go.Proofs.Ytpdhelhngdeoeaa
