/- The reference of layer 17: Valid. -/
import Derived.Test.YtpdhelhngdeoeaaVdD17
import Derived.Test.YtpdhelhngdeoeaaVdP17
import Derived.Test.YtpdhelhngdeoeaaVdL17
import Derived.Test.YtpdhelhngdeoeaaVdC17
namespace Go.Proofs.Ytpdhelhngdeoeaa
open Go.RowKit

set_option maxRecDepth 100000 in
set_option maxHeartbeats 4000000 in
theorem rvalid_any (s : PrbS) (w : World) (ds : List Dom) (r : Rul) (hn : s.nd ≤ 9223372036854775807) (h : PrbAt w w.heap.size s ds r) : Calls Try.prog 28 #[s.val] w (RetPost (.bool (validR ds r)) w.heap.size w) := by
  obtain ⟨A, n, c, ⟨A0, n0, c0, A1, n1, c1, A2, n2, c2⟩⟩ := s
  obtain ⟨W0, hW0⟩ : ∃ W0, W0 = w.alloc (.cells #[.slice A n c, .slice A0 n0 c0, .slice A1 n1 c1, .slice A2 n2 c2] 57) := ⟨_, rfl⟩
  have HB0 : Hid (Below w.heap.size w W0) := Lib.hid (by rw [hW0]; exact (Below.refl _ w).alloc (Nat.le_refl _) _)
  have h0 : DomsAt W0 W0.heap.size A n ds := h.1.keep HB0.out
  have h1 : RulAt W0 W0.heap.size ⟨A0, n0, c0, A1, n1, c1, A2, n2, c2⟩ r := h.2.keep HB0.out
  have hs0 : W0.heap.size = w.heap.size + 1 := by rw [hW0]; simp
  have hX : Blk W0 w.heap.size 57 [.slice A n c, .slice A0 n0 c0, .slice A1 n1 c1, .slice A2 n2 c2] := by rw [hW0]; exact blk_new w _ _
  have HBW : Hid (∀ W, Below W0.heap.size W0 W → Below w.heap.size w W) := Lib.hid (fun W hb => HB0.out.trans (hb.mono HB0.out.size))
  have HH := Lib.hid h0
  have HR := Lib.hid h1
  have HX := Lib.hid hX
  have Hlen := Eqn.mk h0.1.1
  have HVR : Hid (∀ W, Below W0.heap.size W0 W → Calls Try.prog 26 #[.agg #[.slice A0 n0 c0, .slice A1 n1 c1, .slice A2 n2 c2]] W (RetPost (.bool (rulesR r)) W.heap.size W)) := Lib.hid (fun W hW => rrules_any ⟨A0, n0, c0, A1, n1, c1, A2, n2, c2⟩ W r (h1.keep hW))
  have B0 := Lib.hid (Below.refl W0.heap.size W0)
  have q0 : W0.cell? ⟨w.heap.size, 0, none⟩ = some (.slice A n c) := hX.cell rfl
  have q1 : W0.cell? ⟨w.heap.size, 1, none⟩ = some (.slice A0 n0 c0) := hX.cell rfl
  have q2 : W0.cell? ⟨w.heap.size, 2, none⟩ = some (.slice A1 n1 c1) := hX.cell rfl
  have q3 : W0.cell? ⟨w.heap.size, 3, none⟩ = some (.slice A2 n2 c2) := hX.cell rfl
  have q4 := hX.lt
  unfold PrbS.val
  dsimp only at *
  have hRL := h1.2.2.2
  dsimp only at hRL
  obtain ⟨l0, l1, l2⟩ := hRL
  clear h h0 h1 hX hs0
  by_cases hnn : 512 < n
  · have HF : Eqn (validR ds r) false := by rw [Eqn, validR]; simp [Hlen.out, show ¬ n ≤ 512 by omega]
    have d0 : (512 : Int) < (n : Int) := by omega
    clear hnn
    go_enter Try.func28, Try.ntmps28
    go_wp2_with fail
    go_ret
    exact ⟨ret_bool HF.out.symm, by first | (rw [← hW0]; exact HBW.out _ B0.out) | exact HBW.out _ B0.out⟩
  have hn5 : n ≤ 512 := by omega
  have d0 : ¬ (512 : Int) < (n : Int) := by omega
  have HF : Eqn (validR ds r) (rulesR r && (domGo none ds && (r.pairs.all (fun x => inD ds x.a && inD ds x.b) && (r.loads.all (fun x => inD ds x.a && inD ds x.b) && r.caps.all (fun x => inD ds x.a))))) := by rw [Eqn, validR]; simp [Hlen.out, hn5]
  have HRL : Hid (rulesR r = true → r.pairs.length ≤ 4096 ∧ r.loads.length ≤ 1024 ∧ r.caps.length ≤ 1024) := Lib.hid (fun h => rules_len (by rw [← rules_eq]; exact h))
  go_enter Try.func28, Try.ntmps28
  clear hnn
  go_wp2_with fail
  rw [← hW0]
  clear hW0 q0 q1 q2 q3
  refine (HVR.out _ B0.out).mono ?_
  rintro e W1 ⟨rfl, hb1⟩
  have HB1 := Lib.hid hb1
  clear hb1
  cases hr : rulesR r with
  | false =>
    have HF2 : Eqn (validR ds r) false := by rw [Eqn, HF.out, hr]; rfl
    clear hr HF
    go_wp2_with fail
    go_ret
    exact ⟨ret_bool HF2.out.symm, HBW.out _ HB1.out⟩
  | true =>
    obtain ⟨m0, m1, m2⟩ := HRL.out hr
    rw [HR.out.1.1] at m0
    rw [HR.out.2.1.1] at m1
    rw [HR.out.2.2.1.1] at m2
    dsimp only at m0 m1 m2
    have HANS : Eqn (validR ds r) (domGo none ds && (r.pairs.all (fun x => inD ds x.a && inD ds x.b) && (r.loads.all (fun x => inD ds x.a && inD ds x.b) && r.caps.all (fun x => inD ds x.a)))) := by rw [Eqn, HF.out, hr, Bool.true_and]
    clear hr HF HRL
    go_wp2_with fail
    refine vd_doms w W0 _ A n c A0 A1 A2 n0 c0 n1 c1 n2 c2 ds (validR ds r) (r.pairs.all (fun x => inD ds x.a && inD ds x.b) && (r.loads.all (fun x => inD ds x.a && inD ds x.b) && r.caps.all (fun x => inD ds x.a))) hn5 HH.out HX.out HANS HB1.out _ _ _ _ _ _ _ _ _ _ _ _ _ _ _ _ _ _ _ _ _ _ _ _ _ _ _ _ _ _ _ _ _ _ _ _ _ _ _ _ _ _ _ _ _ _ _ _ _ _ _ _ _ _ _ _ _ _ _ _ _ _ _ _ _ _ _ _ _ _ _ _ _ _ _ _ _ _ _ _ _ _ _ _ _ _ _ _ _ _ _ _ _ _ _ _ _ _ _ _ _ _ _ _ _ _ _ _ _ _ _ _ _ _ _ _ _ _ _ _ _ _ _ _ _ _ _ _ _ _ _ _ _ _ _ _ _ _ _ _ _ _ _ _ _ _ _ _ _ _ _ _ _ _ _ _ _ _ _ _ _ _ _ _ _ _ _ _ _ _ _ _ _ ?_ ?_
    case refine_2 =>
      intro u3 u4 u5 u19 u20 u21 u22 u23 u24 u25 u26 u27 u28 u29 u30 u31 u32 u33 u34 u35 u36 u37 u38 u39 u40 u41 u42 u43 u44 u45 u46 u47 u48 u49 u50 u51 u52 u53 u54 u55 u56 u57 u58 u59 u60 u61 u62 u63 u64 u65 u66 u67 u68 u69 u70 u71 u72 u73 u74 u75 u76 u77 u78 u79 u80 u81 u82 u83 u84 u85 u86 u87 u88 u89 u90 u91 u92 u93 u94 u95 w' hE hB
      have HB := Lib.hid hB
      clear hB
      go_wp2_with fail
      go_ret
      exact ⟨ret_bool hE.out.symm, HBW.out _ HB.out⟩
    intro u2 u3 u4 u5 u19 u20 u21 u22 u23 u24 u25 u26 u27 u28 u29 u30 u31 u32 u33 u34 u35 u36 u37 u38 u39 u40 u41 u42 u43 u44 u45 u46 u47 u48 u49 u50 u51 u52 u53 u54 u55 u56 u57 u58 u59 u60 u61 u62 u63 u64 u65 u66 u67 u68 u69 u70 u71 u72 u73 u74 u75 u76 u77 u78 u79 u80 u81 u82 u83 u84 u85 u86 u87 u88 u89 u90 u91 u92 u93 u94 u95 w0 hE0 hB0
    have HBB0 := Lib.hid hB0
    clear hB0
    go_wp2_with fail
    refine vd_pairs w W0 _ A n c A0 A1 A2 n0 c0 n1 c1 n2 c2 ds (validR ds r) (r.loads.all (fun x => inD ds x.a && inD ds x.b) && r.caps.all (fun x => inD ds x.a)) hn5 HH.out HX.out r.pairs HR.out.1 (by omega) hE0 HBB0.out _ _ _ _ _ _ _ _ _ _ _ _ _ _ _ _ _ _ _ _ _ _ _ _ _ _ _ _ _ _ _ _ _ _ _ _ _ _ _ _ _ _ _ _ _ _ _ _ _ _ _ _ _ _ _ _ _ _ _ _ _ _ _ _ _ _ _ _ _ _ _ _ _ _ _ _ _ _ _ _ _ _ _ _ _ _ _ _ _ _ _ _ _ _ _ _ _ _ _ _ _ _ _ _ _ _ _ _ _ _ _ _ _ _ _ _ _ _ _ _ _ _ _ _ _ _ _ _ _ _ _ _ _ _ _ _ _ _ _ _ _ _ _ _ _ _ _ _ _ _ _ _ _ _ _ _ _ _ _ _ _ _ _ _ _ _ _ _ _ _ _ _ _ ?_ ?_
    case refine_2 =>
      intro u6 u96 u97 u98 u99 u100 u101 u102 u103 u104 u105 u106 u107 u108 u109 u110 u111 u112 u113 u114 u115 u116 u117 u118 u119 u120 u121 u122 u123 u124 u125 w' hE hB
      have HB := Lib.hid hB
      clear hB
      go_wp2_with fail
      go_ret
      exact ⟨ret_bool hE.out.symm, HBW.out _ HB.out⟩
    intro u2 u6 u96 u97 u98 u99 u100 u101 u102 u103 u104 u105 u106 u107 u108 u109 u110 u111 u112 u113 u114 u115 u116 u117 u118 u119 u120 u121 u122 u123 u124 u125 w1 hE1 hB1
    have HBB1 := Lib.hid hB1
    clear hB1
    go_wp2_with fail
    refine vd_loads w W0 _ A n c A0 A1 A2 n0 c0 n1 c1 n2 c2 ds (validR ds r) (r.caps.all (fun x => inD ds x.a)) hn5 HH.out HX.out r.loads HR.out.2.1 (by omega) hE1 HBB1.out _ _ _ _ _ _ _ _ _ _ _ _ _ _ _ _ _ _ _ _ _ _ _ _ _ _ _ _ _ _ _ _ _ _ _ _ _ _ _ _ _ _ _ _ _ _ _ _ _ _ _ _ _ _ _ _ _ _ _ _ _ _ _ _ _ _ _ _ _ _ _ _ _ _ _ _ _ _ _ _ _ _ _ _ _ _ _ _ _ _ _ _ _ _ _ _ _ _ _ _ _ _ _ _ _ _ _ _ _ _ _ _ _ _ _ _ _ _ _ _ _ _ _ _ _ _ _ _ _ _ _ _ _ _ _ _ _ _ _ _ _ _ _ _ _ _ _ _ _ _ _ _ _ _ _ _ _ _ _ _ _ _ _ _ _ _ _ _ _ _ _ _ _ ?_ ?_
    case refine_2 =>
      intro u7 u126 u127 u128 u129 u130 u131 u132 u133 u134 u135 u136 u137 u138 u139 u140 u141 u142 u143 u144 u145 u146 u147 u148 u149 u150 u151 u152 u153 u154 u155 w' hE hB
      have HB := Lib.hid hB
      clear hB
      go_wp2_with fail
      go_ret
      exact ⟨ret_bool hE.out.symm, HBW.out _ HB.out⟩
    intro u2 u7 u126 u127 u128 u129 u130 u131 u132 u133 u134 u135 u136 u137 u138 u139 u140 u141 u142 u143 u144 u145 u146 u147 u148 u149 u150 u151 u152 u153 u154 u155 w2 hE2 hB2
    have HBB2 := Lib.hid hB2
    clear hB2
    go_wp2_with fail
    refine vd_caps w W0 _ A n c A0 A1 A2 n0 c0 n1 c1 n2 c2 ds (validR ds r) (true) hn5 HH.out HX.out r.caps HR.out.2.2.1 (by omega) (by rw [Eqn, hE2.out, Bool.and_true]) HBB2.out _ _ _ _ _ _ _ _ _ _ _ _ _ _ _ _ _ _ _ _ _ _ _ _ _ _ _ _ _ _ _ _ _ _ _ _ _ _ _ _ _ _ _ _ _ _ _ _ _ _ _ _ _ _ _ _ _ _ _ _ _ _ _ _ _ _ _ _ _ _ _ _ _ _ _ _ _ _ _ _ _ _ _ _ _ _ _ _ _ _ _ _ _ _ _ _ _ _ _ _ _ _ _ _ _ _ _ _ _ _ _ _ _ _ _ _ _ _ _ _ _ _ _ _ _ _ _ _ _ _ _ _ _ _ _ _ _ _ _ _ _ _ _ _ _ _ _ _ _ _ _ _ _ _ _ _ _ _ _ _ _ _ _ _ _ _ _ _ _ _ _ _ _ ?_ ?_
    case refine_2 =>
      intro u8 u156 u157 u158 u159 u160 u161 u162 u163 u164 u165 u166 u167 u168 u169 u170 u171 u172 u173 w' hE hB
      have HB := Lib.hid hB
      clear hB
      go_wp2_with fail
      go_ret
      exact ⟨ret_bool hE.out.symm, HBW.out _ HB.out⟩
    intro u2 u8 u156 u157 u158 u159 u160 u161 u162 u163 u164 u165 u166 u167 u168 u169 u170 u171 u172 u173 w3 hE3 hB3
    have HBB3 := Lib.hid hB3
    clear hB3
    go_wp2_with fail
    go_ret
    exact ⟨ret_bool hE3.out.symm, HBW.out _ HBB3.out⟩
end Go.Proofs.Ytpdhelhngdeoeaa
