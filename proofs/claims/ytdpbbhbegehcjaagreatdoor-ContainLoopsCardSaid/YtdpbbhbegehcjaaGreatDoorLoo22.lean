/- CONTAIN LOOPS: for every problem, list of calls, call and number, the law ContainLoops returns true, and the input reads as it did. Conditions: none beyond the card's own. -/
import Derived.Sort.LoopGhostIn
import Derived.Test.YtdpbbhbegehcjaaGreatDoorLoo18
import Derived.Test.YtdpbbhbegehcjaaGreatDoorLoo19
import Derived.Test.YtdpbbhbegehcjaaGreatDoorLoo21
set_option maxRecDepth 100000
set_option maxHeartbeats 16000000
namespace Go.Proofs.YtdpbbhbegehcjaaGreatDoor
open Go.RowKit Go.Shelf Go.ChangeShapes Go.WideShapes Go.ChangeAt Go.Deep Go.Joins
attribute [local go_sem] Oper.semAt_some
theorem Hp.over {w u W V X : World} {L L' : List Ent} {ds : List Nat} (h : Hp w u W L []) (h' : Hp W V X L' ds) : Hp w X X (L ++ L') ds := by
 have hj := h.join h'.below h'.nomarks
 exact ⟨hj.below, KeepsOthers.refl _, hj.all, hj.low, hj.apart, fun D hD => ⟨Nat.le_trans h.below.size (h'.marks D hD).1, (h'.marks D hD).2⟩, h'.nodup⟩
theorem flat_act (x : Acd) : flat 5 Acd.cell [x] = [.int .i64 x.kind, .slice x.ch.adr x.ch.len x.ch.cap, .slice x.pr.sa x.pr.sn x.pr.sc, .slice x.pr.la x.pr.ln x.pr.lc, .slice x.ta x.tn x.tc] := rfl
theorem LemsAt.get {W : World} {A : Option Addr} {c : Nat} {O : List Lem} (h : LemsAt W (.slice A O.length c) O) {k : Nat} {m : Lem} (hm : O[k]? = some m) : (∃ b off, A = some ⟨b, off, none⟩ ∧ b < W.heap.size ∧ W.cell? ⟨b, off + k, none⟩ = some (.slice m.adr m.len m.cap)) ∧ m.At W (fun _ => True) := by
 obtain ⟨⟨A', c', e, hr⟩, ha⟩ := h
 injection e with e _ _
 subst e
 obtain ⟨b, off, rfl, _, hc⟩ := hr.2 (by have := (List.getElem?_eq_some_iff.1 hm).1; omega)
 have h1 := hc k m hm 0 (by decide)
 rw [Nat.mul_one, Nat.add_zero] at h1
 exact ⟨⟨b, off, rfl, (lt_of_cell h1).1, h1⟩, ha m (List.mem_of_getElem? hm)⟩
theorem PrfsAt.get {W : World} {A : Option Addr} {c : Nat} {O : List Prf} (h : PrfsAt W (.slice A O.length c) O) {k : Nat} {m : Prf} (hm : O[k]? = some m) : (∃ b off, A = some ⟨b, off, none⟩ ∧ b < W.heap.size ∧ W.cell? ⟨b, off + k * 2, none⟩ = some (.slice m.sa m.sn m.sc) ∧ W.cell? ⟨b, off + k * 2 + 1, none⟩ = some (.slice m.la m.ln m.lc)) ∧ m.At W (fun _ => True) := by
 obtain ⟨⟨A', c', e, hr⟩, ha⟩ := h
 injection e with e _ _
 subst e
 obtain ⟨b, off, rfl, _, hc⟩ := hr.2 (by have := (List.getElem?_eq_some_iff.1 hm).1; omega)
 have h1 : W.cell? ⟨b, off + k * 2, none⟩ = some (.slice m.sa m.sn m.sc) := hc k m hm 0 (by decide)
 exact ⟨⟨b, off, rfl, (lt_of_cell h1).1, h1, hc k m hm 1 (by decide)⟩, ha m (List.mem_of_getElem? hm)⟩
theorem lems_of {w u W : World} {v : Value} {O : List Lem} {ds : List Nat} (hH : Hp w u W (.row v 41 1 O.length (O.map Lem.val) :: lemEnts O) ds) (hl : ∀ m ∈ O, m.len ≤ 100000) : LemsAt W v O := by
 refine ⟨?_, fun m hm => lem_own hH (List.mem_cons_of_mem _ (List.mem_map.2 ⟨m, hm, rfl⟩)) (hl m hm)⟩
 have h0 := hH.row 0 rfl
 rw [← flat_lems] at h0
 obtain ⟨A, c, e, q⟩ := rowX_own (p := fun _ => True) h0 (by decide) (fun _ _ => trivial)
 exact ⟨A, c, e, q⟩
theorem prfs_of {w u W : World} {v : Value} {O : List Prf} {ds : List Nat} (hH : Hp w u W (.row v 44 2 O.length (flat 2 prfC O) :: prfsEnts O) ds) (hl : ∀ y ∈ O, y.Ok) : PrfsAt W v O := by
 refine ⟨?_, fun y hy => prf_own hH ((prfs_sub hy).trans (List.sublist_cons_self _ _)) (hl y hy)⟩
 obtain ⟨A, c, e, q⟩ := rowX_own (p := fun _ => True) (hH.row 0 rfl) (by decide) (fun _ _ => trivial)
 exact ⟨A, c, e, q⟩
theorem perm_in2 (F E B : List Ent) : ((F ++ E) ++ B).Perm ((F ++ B) ++ E) := by
 rw [List.append_assoc, List.append_assoc]; exact List.Perm.append_left F List.perm_append_comm
def LoF (p7 p8 p12 p13 p16 : Nat) (f1 f2 : Value) (ds : List Nat) (a : Act) : Prop := ∃ u : Nat → Value, a = { tmps := #[u 0, u 1, u 2, u 3, u 4, u 5, u 6, .pointer (some ⟨p7, 0, none⟩), .pointer (some ⟨p8, 0, none⟩), u 9, u 10, u 11, .pointer (some ⟨p12, 0, none⟩), .pointer (some ⟨p13, 0, none⟩), f1, f2, .pointer (some ⟨p16, 0, none⟩), u 17, u 18, u 19, u 20, u 21, u 22, u 23, u 24, u 25, u 26, u 27, u 28, u 29, u 30, u 31, u 32, u 33, u 34, u 35, u 36, u 37, u 38, u 39, u 40, u 41, u 42, u 43, u 44, u 45, u 46, u 47, u 48, u 49, u 50, u 51, u 52, u 53, u 54, u 55, u 56, u 57, u 58, u 59, u 60, u 61, u 62, u 63, u 64, u 65, u 66, u 67, u 68, u 69, u 70, u 71, u 72, u 73, u 74, u 75, u 76, u 77, u 78, u 79, u 80, u 81, u 82, u 83, u 84, u 85, u 86, u 87, u 88, u 89, u 90, u 91, u 92, u 93, u 94, u 95, u 96, u 97, u 98, u 99, u 100, u 101, u 102, u 103, u 104, u 105, u 106, u 107, u 108, u 109, u 110, u 111, u 112, u 113, u 114, u 115, u 116, u 117, u 118, u 119, u 120, u 121, u 122, u 123, u 124, u 125, u 126, u 127, u 128, u 129, u 130, u 131, u 132, u 133, u 134, u 135, u 136, u 137, u 138, u 139, u 140, u 141, u 142, u 143, u 144, u 145, u 146, u 147, u 148, u 149, u 150, u 151, u 152, u 153, u 154, u 155, u 156, u 157, u 158, u 159, u 160, u 161, u 162, u 163, u 164, u 165, u 166, u 167, u 168, u 169, u 170, u 171, u 172, u 173, u 174, u 175], defers := marksOf ds }
theorem LoF_mk {p7 p8 p12 p13 p16 : Nat} {f1 f2 : Value} {ds : List Nat} {u0 u1 u2 u3 u4 u5 u6 u9 u10 u11 u17 u18 u19 u20 u21 u22 u23 u24 u25 u26 u27 u28 u29 u30 u31 u32 u33 u34 u35 u36 u37 u38 u39 u40 u41 u42 u43 u44 u45 u46 u47 u48 u49 u50 u51 u52 u53 u54 u55 u56 u57 u58 u59 u60 u61 u62 u63 u64 u65 u66 u67 u68 u69 u70 u71 u72 u73 u74 u75 u76 u77 u78 u79 u80 u81 u82 u83 u84 u85 u86 u87 u88 u89 u90 u91 u92 u93 u94 u95 u96 u97 u98 u99 u100 u101 u102 u103 u104 u105 u106 u107 u108 u109 u110 u111 u112 u113 u114 u115 u116 u117 u118 u119 u120 u121 u122 u123 u124 u125 u126 u127 u128 u129 u130 u131 u132 u133 u134 u135 u136 u137 u138 u139 u140 u141 u142 u143 u144 u145 u146 u147 u148 u149 u150 u151 u152 u153 u154 u155 u156 u157 u158 u159 u160 u161 u162 u163 u164 u165 u166 u167 u168 u169 u170 u171 u172 u173 u174 u175 : Value} : LoF p7 p8 p12 p13 p16 f1 f2 ds { tmps := #[u0, u1, u2, u3, u4, u5, u6, .pointer (some ⟨p7, 0, none⟩), .pointer (some ⟨p8, 0, none⟩), u9, u10, u11, .pointer (some ⟨p12, 0, none⟩), .pointer (some ⟨p13, 0, none⟩), f1, f2, .pointer (some ⟨p16, 0, none⟩), u17, u18, u19, u20, u21, u22, u23, u24, u25, u26, u27, u28, u29, u30, u31, u32, u33, u34, u35, u36, u37, u38, u39, u40, u41, u42, u43, u44, u45, u46, u47, u48, u49, u50, u51, u52, u53, u54, u55, u56, u57, u58, u59, u60, u61, u62, u63, u64, u65, u66, u67, u68, u69, u70, u71, u72, u73, u74, u75, u76, u77, u78, u79, u80, u81, u82, u83, u84, u85, u86, u87, u88, u89, u90, u91, u92, u93, u94, u95, u96, u97, u98, u99, u100, u101, u102, u103, u104, u105, u106, u107, u108, u109, u110, u111, u112, u113, u114, u115, u116, u117, u118, u119, u120, u121, u122, u123, u124, u125, u126, u127, u128, u129, u130, u131, u132, u133, u134, u135, u136, u137, u138, u139, u140, u141, u142, u143, u144, u145, u146, u147, u148, u149, u150, u151, u152, u153, u154, u155, u156, u157, u158, u159, u160, u161, u162, u163, u164, u165, u166, u167, u168, u169, u170, u171, u172, u173, u174, u175], defers := marksOf ds } := ⟨fun i => [u0, u1, u2, u3, u4, u5, u6, undef, undef, u9, u10, u11, undef, undef, undef, undef, undef, u17, u18, u19, u20, u21, u22, u23, u24, u25, u26, u27, u28, u29, u30, u31, u32, u33, u34, u35, u36, u37, u38, u39, u40, u41, u42, u43, u44, u45, u46, u47, u48, u49, u50, u51, u52, u53, u54, u55, u56, u57, u58, u59, u60, u61, u62, u63, u64, u65, u66, u67, u68, u69, u70, u71, u72, u73, u74, u75, u76, u77, u78, u79, u80, u81, u82, u83, u84, u85, u86, u87, u88, u89, u90, u91, u92, u93, u94, u95, u96, u97, u98, u99, u100, u101, u102, u103, u104, u105, u106, u107, u108, u109, u110, u111, u112, u113, u114, u115, u116, u117, u118, u119, u120, u121, u122, u123, u124, u125, u126, u127, u128, u129, u130, u131, u132, u133, u134, u135, u136, u137, u138, u139, u140, u141, u142, u143, u144, u145, u146, u147, u148, u149, u150, u151, u152, u153, u154, u155, u156, u157, u158, u159, u160, u161, u162, u163, u164, u165, u166, u167, u168, u169, u170, u171, u172, u173, u174, u175].getD i undef, rfl⟩
theorem containLoops_walk (w : World) (hT : Tab w) (s : PrbS) (ds : List Dom) (r : Rul) (R0 : PrbAt w w.heap.size s ds r ∧ s.nd ≤ 9223372036854775807) (A : Option Addr) (n c : Nat) (xs : List Acd) (R1 : RowS 5 Acd.cell w w.heap.size A n xs ∧ (∀ x ∈ xs, x.Raw w) ∧ n ≤ 9223372036854775807) (xa : Acd) (R2 : xa.Raw w) (many : Int) (_ : I64 many) :
  Calls Tryz.prog 5 #[s.val, .slice A n c, xa.val, .int .i64 many] w fun e W' => e = .returned (.bool true) ∧ Below w.heap.size w W' := by
 obtain ⟨p4, hp4⟩ : ∃ q, q = w.heap.size := ⟨_, rfl⟩
 obtain ⟨p6, hp6⟩ : ∃ q, q = w.heap.size + 1 := ⟨_, rfl⟩
 obtain ⟨p7, hp7⟩ : ∃ q, q = w.heap.size + 1 + 1 := ⟨_, rfl⟩
 obtain ⟨p8, hp8⟩ : ∃ q, q = w.heap.size + 1 + 1 + 1 := ⟨_, rfl⟩
 obtain ⟨V0, hV0⟩ : ∃ V, V = (((w.alloc (.cells #[.slice s.ad s.nd s.cd, .slice s.rs.a0 s.rs.n0 s.rs.c0, .slice s.rs.a1 s.rs.n1 s.rs.c1, .slice s.rs.a2 s.rs.n2 s.rs.c2] 29)).alloc (.cells #[.int .i64 xa.kind, .slice xa.ch.adr xa.ch.len xa.ch.cap, .slice xa.pr.sa xa.pr.sn xa.pr.sc, .slice xa.pr.la xa.pr.ln xa.pr.lc, .slice xa.ta xa.tn xa.tc] 46)).alloc (.cells #[.int .i64 many] 3)).alloc (.cells #[.bool false] 4) := ⟨_, rfl⟩
 have hP0 : Hp w w V0 [.blk p4 29 [.slice s.ad s.nd s.cd, .slice s.rs.a0 s.rs.n0 s.rs.c0, .slice s.rs.a1 s.rs.n1 s.rs.c1, .slice s.rs.a2 s.rs.n2 s.rs.c2], .blk p6 46 [.int .i64 xa.kind, .slice xa.ch.adr xa.ch.len xa.ch.cap, .slice xa.pr.sa xa.pr.sn xa.pr.sc, .slice xa.pr.la xa.pr.ln xa.pr.lc, .slice xa.ta xa.tn xa.tc], .blk p7 3 [.int .i64 many], .blk p8 4 [.bool false]] [] := by
  have h := ((((Hp.start w).alloc [.slice s.ad s.nd s.cd, .slice s.rs.a0 s.rs.n0 s.rs.c0, .slice s.rs.a1 s.rs.n1 s.rs.c1, .slice s.rs.a2 s.rs.n2 s.rs.c2] 29).alloc [.int .i64 xa.kind, .slice xa.ch.adr xa.ch.len xa.ch.cap, .slice xa.pr.sa xa.pr.sn xa.pr.sc, .slice xa.pr.la xa.pr.ln xa.pr.lc, .slice xa.ta xa.tn xa.tc] 46).alloc [.int .i64 many] 3).alloc [.bool false] 4
  simp only [World.size_alloc] at h
  rw [hV0, hp4, hp6, hp7, hp8]; exact h
 have HPB := Lib.hid (fun (W : World) (hb : Below w.heap.size w W) => (⟨R0.1.1.keep hb, R0.1.2.keep hb⟩ : PrbAt W W.heap.size s ds r))
 have HND := Lib.hid R0.2
 have HSM := Lib.hid (small_any s 10 40 V0 ds r R0.2 (HPB.out V0 hP0.below))
 have HFW := Lib.hid (fun (W : World) (hb : Below w.heap.size w W) => few_any A n c 12 W xs (by decide) R1.2.2 (R1.1.keep hb) (fun x hx => (R1.2.1 x hx).keep hb))
 have HFX := Lib.hid (fun (W : World) (hb : Below w.heap.size w W) (b : Nat) (hB : Blk W b 46 [.int .i64 xa.kind, .slice xa.ch.adr xa.ch.len xa.ch.cap, .slice xa.pr.sa xa.pr.sn xa.pr.sc, .slice xa.pr.la xa.pr.ln xa.pr.lc, .slice xa.ta xa.tn xa.tc]) => few_any (some ⟨b, 0, none⟩) 1 1 1 W [xa] (by decide) (by decide) (rowS_blk [xa] hB (flat_act xa).symm hB.lt) (fun x hx => by rw [List.mem_singleton] at hx; subst hx; exact R2.keep hb))
 have HVL := Lib.hid (fun (W : World) (hb : Below w.heap.size w W) => rvalid_any s W ds r R0.2 (HPB.out W hb))
 have HKN := Lib.hid (fun (W : World) (hb : Below w.heap.size w W) => known_any W (hT.keep hb))
 have HXS := Lib.hid R1
 have HXA := Lib.hid R2
 have HT := Lib.hid hT
 have HVQ := Lib.hid (valid_eq (ds := ds) (r := r) (fun d hd => (R0.1.1.2 d hd).1.symm))
 have HP0 := Lib.hid hP0
 have m0 := HP0.out.c 0 0 rfl rfl
 have m1 := HP0.out.c 0 1 rfl rfl
 have m2 := HP0.out.c 0 2 rfl rfl
 have m3 := HP0.out.c 0 3 rfl rfl
 have ml := HP0.out.lt 0 rfl
 unfold PrbS.val at *
 unfold Acd.val
 clear hP0 R0 R1 R2 hT
 generalize hsm : smF ds r 10 40 = sm at *
 have HSME := Lib.hid hsm
 clear hsm
 refine (callsIn_wide (n := 6)).1 ?_
 refine callsIn_of_wp_marks Tryz.func5 rfl trivial ?_ rfl
 simp only [Tryz.ntmps5, List.size_toArray, List.length_cons, List.length_nil, Nat.reduceAdd, Nat.reduceSub, Array.replicate_succ, Array.replicate_zero, List.push_toArray, List.append_toArray, List.nil_append, List.cons_append]
 gi_upto_region 1 with fail
 rw [← hV0, ← hp8, ← hp7, ← hp6, ← hp4]
 clear hV0 hp8 hp7 hp6 hp4
 gi_wp2_with fail
 refine ⟨trivial, (callsIn_wide.2 HSM.out).mono ?_⟩
 rintro e W1 ⟨rfl, hb1⟩
 have HP1 := Lib.hid (HP0.out.keep hb1)
 clear m0 m1 m2 m3 ml hb1 HP0 HSM
 cases sm with
 | false =>
  gi_wp2_with fail
  refine ⟨trivial, ?_⟩
  gi_wp2_with fail
  refine ⟨trivial, ?_⟩
  gi_wp2_with fail
  refine ⟨trivial, ?_⟩
  gi_wp2_with fail
  refine ⟨trivial, (callsIn_wide.2 (HKN.out _ HP1.out.below)).mono ?_⟩
  rintro e WE ⟨rfl, hbE⟩
  have HPE := Lib.hid (HP1.out.keep hbE)
  have k0 := HPE.out.c 3 0 rfl rfl
  have k1' := HPE.out.f 3 rfl
  have k2' := HPE.out.lt 3 rfl
  clear hbE
  gi_wp2_with fail
  show LeavesInM _ _ _ _ _ _ (marksOf []) .returning _
  refine hp_leaves (fun Y hY => ?_) _ _ _ (HPE.out.set 3 0 (.bool true) rfl)
  exact ⟨.bool true, by simp [results, Tryz.results5, go_sem, hY.c 3 0 rfl rfl], rfl, hY.below⟩
 | true =>
  have HF1 := Lib.hid (HFW.out W1 HP1.out.below)
  clear HFW
  generalize hfw : fewA xs 12 = fw at *
  have HFWE := Lib.hid hfw
  clear hfw
  gi_wp2_with fail
  refine ⟨trivial, (callsIn_wide.2 HF1.out).mono ?_⟩
  rintro e W2 ⟨rfl, hb2⟩
  have HP2 := Lib.hid (HP1.out.keep hb2)
  clear hb2 HP1 HF1
  cases fw with
  | false =>
   gi_wp2_with fail
   refine ⟨trivial, ?_⟩
   gi_wp2_with fail
   refine ⟨trivial, ?_⟩
   gi_wp2_with fail
   refine ⟨trivial, (callsIn_wide.2 (HKN.out _ HP2.out.below)).mono ?_⟩
   rintro e WE ⟨rfl, hbE⟩
   have HPE := Lib.hid (HP2.out.keep hbE)
   have k0 := HPE.out.c 3 0 rfl rfl
   have k1' := HPE.out.f 3 rfl
   have k2' := HPE.out.lt 3 rfl
   clear hbE
   gi_wp2_with fail
   show LeavesInM _ _ _ _ _ _ (marksOf []) .returning _
   refine hp_leaves (fun Y hY => ?_) _ _ _ (HPE.out.set 3 0 (.bool true) rfl)
   exact ⟨.bool true, by simp [results, Tryz.results5, go_sem, hY.c 3 0 rfl rfl], rfl, hY.below⟩
  | true =>
   obtain ⟨V3, hV3⟩ : ∃ V, V = W2.alloc (.cells #[.int .i64 xa.kind, .slice xa.ch.adr xa.ch.len xa.ch.cap, .slice xa.pr.sa xa.pr.sn xa.pr.sc, .slice xa.pr.la xa.pr.ln xa.pr.lc, .slice xa.ta xa.tn xa.tc] 46) := ⟨_, rfl⟩
   have hP3 := HP2.out.alloc [.int .i64 xa.kind, .slice xa.ch.adr xa.ch.len xa.ch.cap, .slice xa.pr.sa xa.pr.sn xa.pr.sc, .slice xa.pr.la xa.pr.ln xa.pr.lc, .slice xa.ta xa.tn xa.tc] 46
   rw [show ([.int .i64 xa.kind, .slice xa.ch.adr xa.ch.len xa.ch.cap, .slice xa.pr.sa xa.pr.sn xa.pr.sc, .slice xa.pr.la xa.pr.ln xa.pr.lc, .slice xa.ta xa.tn xa.tc] : List Value).toArray = #[.int .i64 xa.kind, .slice xa.ch.adr xa.ch.len xa.ch.cap, .slice xa.pr.sa xa.pr.sn xa.pr.sc, .slice xa.pr.la xa.pr.ln xa.pr.lc, .slice xa.ta xa.tn xa.tc] from rfl, ← hV3] at hP3
   have HF3 := Lib.hid (HFX.out V3 hP3.below _ (hP3.blk 4 rfl))
   have HP3 := Lib.hid (hP3.sub (L' := [.blk p4 29 [.slice s.ad s.nd s.cd, .slice s.rs.a0 s.rs.n0 s.rs.c0, .slice s.rs.a1 s.rs.n1 s.rs.c1, .slice s.rs.a2 s.rs.n2 s.rs.c2], .blk p6 46 [.int .i64 xa.kind, .slice xa.ch.adr xa.ch.len xa.ch.cap, .slice xa.pr.sa xa.pr.sn xa.pr.sc, .slice xa.pr.la xa.pr.ln xa.pr.lc, .slice xa.ta xa.tn xa.tc], .blk p7 3 [.int .i64 many], .blk p8 4 [.bool false]]) (List.Sublist.cons_cons _ (List.Sublist.cons_cons _ (List.Sublist.cons_cons _ (List.Sublist.cons_cons _ (List.nil_sublist _))))))
   generalize hfx : fewA [xa] 1 = fx at *
   have HFXE := Lib.hid hfx
   have m0 := HP2.out.c 1 0 rfl rfl
   have m1 := HP2.out.c 1 1 rfl rfl
   have m2 := HP2.out.c 1 2 rfl rfl
   have m3 := HP2.out.c 1 3 rfl rfl
   have m4 := HP2.out.c 1 4 rfl rfl
   have ml := HP2.out.lt 1 rfl
   clear hP3 hfx HFX
   gi_wp2_with fail
   rw [← hV3]
   refine ⟨trivial, (callsIn_wide.2 HF3.out).mono ?_⟩
   rintro e W4 ⟨rfl, hb4⟩
   have HP4 := Lib.hid (HP3.out.keep hb4)
   clear hb4 HP2 HP3 HF3 hV3 m0 m1 m2 m3 m4 ml
   have m0 := HP4.out.c 0 0 rfl rfl
   have m1 := HP4.out.c 0 1 rfl rfl
   have m2 := HP4.out.c 0 2 rfl rfl
   have m3 := HP4.out.c 0 3 rfl rfl
   have ml := HP4.out.lt 0 rfl
   cases fx with
   | false =>
    gi_wp2_with fail
    refine ⟨trivial, ?_⟩
    gi_wp2_with fail
    refine ⟨trivial, (callsIn_wide.2 (HKN.out _ HP4.out.below)).mono ?_⟩
    rintro e WE ⟨rfl, hbE⟩
    have HPE := Lib.hid (HP4.out.keep hbE)
    have k0 := HPE.out.c 3 0 rfl rfl
    have k1' := HPE.out.f 3 rfl
    have k2' := HPE.out.lt 3 rfl
    clear hbE
    gi_wp2_with fail
    show LeavesInM _ _ _ _ _ _ (marksOf []) .returning _
    refine hp_leaves (fun Y hY => ?_) _ _ _ (HPE.out.set 3 0 (.bool true) rfl)
    exact ⟨.bool true, by simp [results, Tryz.results5, go_sem, hY.c 3 0 rfl rfl], rfl, hY.below⟩
   | true =>
    have HV4 := Lib.hid (HVL.out W4 HP4.out.below)
    clear HVL
    generalize hvl : validR ds r = vl at *
    gi_wp2_with fail
    refine ⟨trivial, (callsIn_wide.2 HV4.out).mono ?_⟩
    rintro e W5 ⟨rfl, hb5⟩
    have HP5 := Lib.hid (HP4.out.keep hb5)
    clear hb5 HP4 HV4 m0 m1 m2 m3 ml
    have m0 := HP5.out.c 0 0 rfl rfl
    have m1 := HP5.out.c 0 1 rfl rfl
    have m2 := HP5.out.c 0 2 rfl rfl
    have m3 := HP5.out.c 0 3 rfl rfl
    have ml := HP5.out.lt 0 rfl
    cases vl with
    | false =>
     gi_wp2_with fail
     refine ⟨trivial, (callsIn_wide.2 (HKN.out _ HP5.out.below)).mono ?_⟩
     rintro e WE ⟨rfl, hbE⟩
     have HPE := Lib.hid (HP5.out.keep hbE)
     have k0 := HPE.out.c 3 0 rfl rfl
     have k1' := HPE.out.f 3 rfl
     have k2' := HPE.out.lt 3 rfl
     clear hbE
     gi_wp2_with fail
     show LeavesInM _ _ _ _ _ _ (marksOf []) .returning _
     refine hp_leaves (fun Y hY => ?_) _ _ _ (HPE.out.set 3 0 (.bool true) rfl)
     exact ⟨.bool true, by simp [results, Tryz.results5, go_sem, hY.c 3 0 rfl rfl], rfl, hY.below⟩
    | true =>
     have hvp : validP ds r = true := HVQ.out
     have hNW := new_any s W5 (HT.out.keep HP5.out.below) ds r HND.out (fun d hd => by have := (smF_spec (by decide) HSME.out).2.1 d hd; omega) (HPB.out W5 HP5.out.below)
     unfold PrbS.val at hNW
     have HNW := Lib.hid hNW
     clear hvl HVQ hNW
     have HVP := Lib.hid hvp
     clear hvp
     gi_wp2_with fail
     refine ⟨trivial, (callsIn_wide.2 HNW.out).mono ?_⟩
     rintro e W6 hN
     unfold NewPost at hN
     rw [if_pos HVP.out] at hN
     obtain ⟨g, x0, rfl, hge, hSt, hOk, hds, hr, hPe, hQe, hb6⟩ := hN
     have hs0 := hSt (kd g) (Nat.lt_irrefl _)
     have HP6 : Hid (Hp w w W6 [.blk p4 29 [.slice s.ad s.nd s.cd, .slice s.rs.a0 s.rs.n0 s.rs.c0, .slice s.rs.a1 s.rs.n1 s.rs.c1, .slice s.rs.a2 s.rs.n2 s.rs.c2], .blk p6 46 [.int .i64 xa.kind, .slice xa.ch.adr xa.ch.len xa.ch.cap, .slice xa.pr.sa xa.pr.sn xa.pr.sc, .slice xa.pr.la xa.pr.ln xa.pr.lc, .slice xa.ta xa.tn xa.tc], .blk p7 3 [.int .i64 many], .blk p8 4 [.bool false], .blk g 110 x0.cells] []) := Lib.hid (HP5.out.pushBlk hb6 hs0.blk hge)
     have HS0 := Lib.hid (And.intro hs0 hOk)
     have hn12 : n ≤ 12 := by
      have h := HFWE.out
      unfold fewA at h
      rw [Bool.and_eq_true, decide_eq_true_eq] at h
      have h2 := HXS.out.1.1
      omega
     have hsx : actSm xa = true := by
      have h := HFXE.out
      unfold fewA at h
      simp only [Bool.and_eq_true, List.all_cons] at h
      exact h.2.1
     have HSX := Lib.hid hsx
     clear hge hSt hOk hds hr hPe hQe hb6 hs0 HNW m0 m1 m2 m3 ml HP5 hsx
     gi_wp2_with fail
     gi_loopw [11] (fun i wr => ∃ (k : Nat) (x : StS), k ≤ n ∧ i = .int .i64 k ∧ (StAt wr g (kd g) g x ∧ StOk x) ∧ Hp w w wr [.blk p4 29 [.slice s.ad s.nd s.cd, .slice s.rs.a0 s.rs.n0 s.rs.c0, .slice s.rs.a1 s.rs.n1 s.rs.c1, .slice s.rs.a2 s.rs.n2 s.rs.c2], .blk p6 46 [.int .i64 xa.kind, .slice xa.ch.adr xa.ch.len xa.ch.cap, .slice xa.pr.sa xa.pr.sn xa.pr.sc, .slice xa.pr.la xa.pr.ln xa.pr.lc, .slice xa.ta xa.tn xa.tc], .blk p7 3 [.int .i64 many], .blk p8 4 [.bool false], .blk g 110 x.cells] []) (fun i _ => n - (intOf i).toNat)
     case atStart => exact ⟨0, x0, Nat.zero_le _, rfl, HS0.out, HP6.out⟩
     case round =>
      clear HS0 HP6
      obtain ⟨k, x, hk, rfl, hS, hP⟩ := hrel
      have HS := Lib.hid hS
      have HP := Lib.hid hP
      by_cases hlt : k < n
      ·have j0 : (k : Int) < (n : Int) := by omega
       obtain ⟨a, ha⟩ : ∃ a, xs[k]? = some a := ⟨_, List.getElem?_eq_getElem (by rw [HXS.out.1.1]; exact hlt)⟩
       have ham := List.mem_of_getElem? ha
       have hsm : actSm a = true := by
        have h := HFWE.out
        unfold fewA at h
        rw [Bool.and_eq_true, List.all_eq_true] at h
        exact h.2 a ham
       have hraw := HXS.out.2.1 a ham
       obtain ⟨b, off, rfl, hbl, hc⟩ := (HXS.out.1.keep hP.below).2 (by omega)
       have HCL := Lib.hid (fun (W : World) (hb : Below w.heap.size w W) => (by
        obtain ⟨b', off', e', hbl', hc'⟩ := (HXS.out.1.keep hb).2 (by omega)
        injection e' with e'
        injection e' with e1 e2
        subst e1 e2
        exact ⟨hc' k a ha 2 (by decide), hc' k a ha 3 (by decide), hbl'⟩ : W.cell? ⟨b, off + k * 5 + 2, none⟩ = some (.slice a.pr.sa a.pr.sn a.pr.sc) ∧ W.cell? ⟨b, off + k * 5 + 2 + 1, none⟩ = some (.slice a.pr.la a.pr.ln a.pr.lc) ∧ b < W.heap.size))
       have y1 : wr.cell? ⟨b, off + k * 5 + 1, none⟩ = some (.slice a.ch.adr a.ch.len a.ch.cap) := hc k a ha 1 (by decide)
       have hlm := Acd.lem (hraw.keep hP.below) hsm
       have HPK := Lib.hid (pack_any g (kd g) g x a.ch.adr a.ch.len a.ch.cap wr a.ch.chs hS.1 hS.2 (fun k hk => Nat.lt_of_lt_of_le hS.1.blk.lt hk) hS.1.hdl hlm.2 hlm.rowS)
       have HAT := Lib.hid (fun (W : World) (hb : Below w.heap.size w W) => Acd.prf (hraw.keep hb) hsm)
       clear ha ham hsm hc hraw hlm hS hP
       gi_wp2_with fail
       refine ⟨trivial, (callsIn_wide.2 HPK.out).mono ?_⟩
       rintro e W7 hpost
       obtain ⟨x7, rfl, hS7, hO7, hds7, hr7, hP7, hQ7, hg7⟩ := hpost
       have hp7 := HP.out.upd 4 (e' := .blk g 110 x7.cells) rfl hg7 hS7.blk (fun _ h => .inl h)
       have HP7 := Lib.hid hp7
       obtain ⟨z2, z3, zl⟩ := HCL.out W7 hp7.below
       have hRF := refute_any g (kd g) g x7 a.pr W7 hS7 hO7 (fun k hk => Nat.lt_of_lt_of_le hS7.blk.lt hk) (HAT.out W7 hp7.below)
       unfold Prf.val Prf.v1 Prf.v2 at hRF
       have HRF := Lib.hid hRF
       clear hS7 hO7 hds7 hr7 hP7 hQ7 hg7 hp7 hRF HPK HAT HCL HS HP y1
       gi_wp2_with fail
       refine ⟨trivial, (callsIn_wide.2 HRF.out).mono ?_⟩
       rintro e W8 hpost
       obtain ⟨x8, rfl, hS8, hO8, hds8, hr8, hP8, hQ8, hg8⟩ := hpost
       have HP8 := Lib.hid (HP7.out.upd 4 (e' := .blk g 110 x8.cells) rfl hg8 hS8.blk (fun _ h => .inl h))
       have HS8 := Lib.hid (And.intro hS8 hO8)
       clear hS8 hO8 hds8 hr8 hP8 hQ8 hg8 HRF HP7 z2 z3 zl
       gi_wp2_with fail
       go_roundw
       case rel => exact ⟨k + 1, x8, hlt, by go_num, HS8.out, HP8.out⟩
       case measure => simp [intOf]; omega
      ·have j0 : ¬ (k : Int) < (n : Int) := by omega
       clear hS hP
       obtain ⟨x1, rfl⟩ : ∃ x1 : StS, x1 = x := ⟨_, rfl⟩
       have HPD := Lib.hid (packed_any g (kd g) g x1 wr HS.out.1 (by have := HS.out.2.pl; omega))
       gi_wp2_with fail
       refine ⟨trivial, (callsIn_wide.2 HPD.out).mono ?_⟩
       rintro e W8 hpost
       obtain ⟨v8, O8, rfl, hO8, hl8, hH8⟩ := hpost
       obtain ⟨A8, c8, rfl⟩ := hH8.form 0 rfl
       have HRD := Lib.hid (refuted_any g (kd g) g x1 W8 (HS.out.1.keep hH8.below) HS.out.2)
       have HP8 := Lib.hid (HP.out.join hH8.below hH8)
       have HS8 := Lib.hid (And.intro (HS.out.1.keep hH8.below) HS.out.2)
       have HO8 := Lib.hid (And.intro hO8 hl8)
       clear hO8 hl8 hH8 HPD HP HS
       gi_wp2_with fail
       refine ⟨trivial, (callsIn_wide.2 HRD.out).mono ?_⟩
       rintro e W9 hpost
       obtain ⟨v9, O9, rfl, hO9, hl9, hH9⟩ := hpost
       obtain ⟨A9, c9, rfl⟩ := hH9.form 0 rfl
       obtain ⟨L0, hL0⟩ : ∃ L0 : List Ent, L0 = (.row (.slice A8 O8.length c8) 41 1 O8.length (O8.map Lem.val) :: lemEnts O8) ++ (.row (.slice A9 O9.length c9) 44 2 O9.length (flat 2 prfC O9) :: prfsEnts O9) := ⟨_, rfl⟩
       have hP9 : Hp w w W9 ([.blk p4 29 [.slice s.ad s.nd s.cd, .slice s.rs.a0 s.rs.n0 s.rs.c0, .slice s.rs.a1 s.rs.n1 s.rs.c1, .slice s.rs.a2 s.rs.n2 s.rs.c2], .blk p6 46 [.int .i64 xa.kind, .slice xa.ch.adr xa.ch.len xa.ch.cap, .slice xa.pr.sa xa.pr.sn xa.pr.sc, .slice xa.pr.la xa.pr.ln xa.pr.lc, .slice xa.ta xa.tn xa.tc], .blk p7 3 [.int .i64 many], .blk p8 4 [.bool false], .blk g 110 x1.cells] ++ L0) [] := by rw [hL0, ← List.append_assoc]; exact HP8.out.join hH9.below hH9
       have HL0 := Lib.hid hL0
       obtain ⟨p12, hp12⟩ : ∃ q, q = W9.heap.size := ⟨_, rfl⟩
       obtain ⟨p13, hp13⟩ : ∃ q, q = W9.heap.size + 1 := ⟨_, rfl⟩
       obtain ⟨WA, hWA⟩ : ∃ V, V = (W9.alloc (.cells #[.slice A8 O8.length c8] 42)).alloc (.cells #[.slice A9 O9.length c9] 57) := ⟨_, rfl⟩
       have hPA := ((((hP9.alloc [.slice A8 O8.length c8] 42).perm (perm_in2 _ _ _)).alloc [.slice A9 O9.length c9] 57)).perm (perm_in2 _ _ _)
       rw [World.size_alloc, show ([.slice A8 O8.length c8] : List Value).toArray = #[.slice A8 O8.length c8] from rfl, show ([.slice A9 O9.length c9] : List Value).toArray = #[.slice A9 O9.length c9] from rfl, ← hWA, ← hp13, ← hp12] at hPA
       have hb9A : Below W9.heap.size W9 WA := by rw [hWA]; exact ((Below.refl _ _).alloc (Nat.le_refl _) _).alloc (by simp) _
       have HPA := Lib.hid hPA
       have HSA := Lib.hid (And.intro ((HS8.out.1.keep hH9.below).keep hb9A) HS8.out.2)
       have HO9 := Lib.hid (And.intro hO9 hl9)
       clear hO9 hl9 hH9 hPA hb9A hP9 hL0 HRD HP8 HS8
       have HPI := Lib.hid (packedIt_any g (kd g) g x1 WA HSA.out.1)
       gi_upto_region 12 with fail
       rw [← hWA, ← hp13, ← hp12]
       clear hWA hp12 hp13
       gi_wp2_with fail
       refine ⟨trivial, (callsIn_wide.2 HPI.out).mono ?_⟩
       rintro e WB ⟨k1, b1, rfl, hHB⟩
       have hPB := (HPA.out.join hHB.below hHB).perm (perm_in2 _ _ _)
       have HRI := Lib.hid (refutedIt_any g (kd g) g x1 WB (HSA.out.1.keep hHB.below))
       have HPB2 := Lib.hid hPB
       have HSB := Lib.hid (And.intro (HSA.out.1.keep hHB.below) HSA.out.2)
       clear hPB hHB HPI HPA HSA
       gi_wp2_with fail
       refine ⟨trivial, (callsIn_wide.2 HRI.out).mono ?_⟩
       rintro e WC ⟨k2, b2, rfl, hHC⟩
       have hPC : Hp w w WC ([.blk p4 29 [.slice s.ad s.nd s.cd, .slice s.rs.a0 s.rs.n0 s.rs.c0, .slice s.rs.a1 s.rs.n1 s.rs.c1, .slice s.rs.a2 s.rs.n2 s.rs.c2], .blk p6 46 [.int .i64 xa.kind, .slice xa.ch.adr xa.ch.len xa.ch.cap, .slice xa.pr.sa xa.pr.sn xa.pr.sc, .slice xa.pr.la xa.pr.ln xa.pr.lc, .slice xa.ta xa.tn xa.tc], .blk p7 3 [.int .i64 many], .blk p8 4 [.bool false], .blk g 110 x1.cells, .blk p12 42 [.slice A8 O8.length c8], .blk p13 57 [.slice A9 O9.length c9], .blk k1 105 [.slice x1.pa x1.pn x1.pc], .blk b1 122 [.func (.func 60) #[] #[]], .blk k2 108 [.slice x1.ra x1.rn x1.rc], .blk b2 128 [.func (.func 50) #[] #[]]] ++ L0) [] := (HPB2.out.join hHC.below hHC).perm (perm_in2 _ _ _)
       have HPC := Lib.hid hPC
       have HSC := Lib.hid (And.intro (HSB.out.1.keep hHC.below) HSB.out.2)
       have hnil := fun W b c => run_eql_func_nil (P := Tryz.prog) W 63 (.func 95) b c Tryz.underlying63
       have hnir := fun W b c => run_eql_func_nil (P := Tryz.prog) W 66 (.func 96) b c Tryz.underlying66
       have hlx := Acd.lem (HXA.out.keep hPC.below) HSX.out
       have HPK := Lib.hid (pack_any g (kd g) g x1 xa.ch.adr xa.ch.len xa.ch.cap WC xa.ch.chs HSC.out.1 HSC.out.2 (fun k hk => Nat.lt_of_lt_of_le HSC.out.1.blk.lt hk) HSC.out.1.hdl hlx.2 hlx.rowS)
       have HAX := Lib.hid (fun (W : World) (hb : Below w.heap.size w W) => Acd.prf (HXA.out.keep hb) HSX.out)
       have q1 := hPC.c 1 1 rfl rfl
       have ql := hPC.lt 1 rfl
       clear hPC hHC hlx HRI HPB2 HSB
       gi_wp2_with fail
       refine ⟨trivial, (callsIn_wide.2 HPK.out).mono ?_⟩
       rintro e WD hpost
       obtain ⟨x7, rfl, hS7, hO7, hds7, hr7, hP7, hQ7, hg7⟩ := hpost
       have hPD := HPC.out.upd 4 (e' := .blk g 110 x7.cells) rfl hg7 hS7.blk (fun _ h => .inl h)
       have HPD := Lib.hid hPD
       have hRF := refute_any g (kd g) g x7 xa.pr WD hS7 hO7 (fun k hk => Nat.lt_of_lt_of_le hS7.blk.lt hk) (HAX.out WD hPD.below)
       unfold Prf.val Prf.v1 Prf.v2 at hRF
       have HRF := Lib.hid hRF
       have HG7 := Lib.hid hg7
       clear q1 ql
       have q2 := hPD.c 1 2 rfl rfl
       have q3 := hPD.c 1 3 rfl rfl
       have ql := hPD.lt 1 rfl
       clear hS7 hO7 hds7 hr7 hP7 hQ7 hg7 hPD hRF HPK hnil hnir
       gi_wp2_with fail
       refine ⟨trivial, (callsIn_wide.2 HRF.out).mono ?_⟩
       rintro e WS hpost
       obtain ⟨x8, rfl, hS8, hO8', hds8, hr8, hP8, hQ8, hg8⟩ := hpost
       have hPS : Hp w w WS ([.blk p4 29 [.slice s.ad s.nd s.cd, .slice s.rs.a0 s.rs.n0 s.rs.c0, .slice s.rs.a1 s.rs.n1 s.rs.c1, .slice s.rs.a2 s.rs.n2 s.rs.c2], .blk p6 46 [.int .i64 xa.kind, .slice xa.ch.adr xa.ch.len xa.ch.cap, .slice xa.pr.sa xa.pr.sn xa.pr.sc, .slice xa.pr.la xa.pr.ln xa.pr.lc, .slice xa.ta xa.tn xa.tc], .blk p7 3 [.int .i64 many], .blk p8 4 [.bool false], .blk g 110 x8.cells, .blk p12 42 [.slice A8 O8.length c8], .blk p13 57 [.slice A9 O9.length c9], .blk k1 105 [.slice x1.pa x1.pn x1.pc], .blk b1 122 [.func (.func 60) #[] #[]], .blk k2 108 [.slice x1.ra x1.rn x1.rc], .blk b2 128 [.func (.func 50) #[] #[]]] ++ L0) [] := HPD.out.upd 4 (e' := .blk g 110 x8.cells) rfl hg8 hS8.blk (fun _ h => .inl h)
       have HPS := Lib.hid hPS
       have hgg : WC.grownBy WS (some g) := ⟨hg8.os.trans HG7.out.os, hg8.tape.trans HG7.out.tape, hg8.output.trans HG7.out.output, Nat.le_trans HG7.out.size hg8.size, fun k hk hne => (hg8.block k (Nat.lt_of_lt_of_le hk HG7.out.size) hne).trans (HG7.out.block k hk hne)⟩
       have hng : ¬ kd g g := Nat.lt_irrefl _
       have HPE := Lib.hid ((HSC.out.1.pes.turn (kind_same hng hgg)).mono (q := (· < WS.heap.size)) (fun _ _ h => h))
       have HRE := Lib.hid ((HSC.out.1.res.turn (kind_same hng hgg)).mono (q := (· < WS.heap.size)) (fun _ _ h => h))
       have hPL := hPS.sub (List.sublist_append_right _ L0)
       rw [HL0.out] at hPL
       have HLS8 : Hid (LemsAt WS (.slice A8 O8.length c8) O8) := Lib.hid (lems_of (hPL.sub (List.sublist_append_left _ _)) HO8.out.2)
       have HLS9 : Hid (PrfsAt WS (.slice A9 O9.length c9) O9) := Lib.hid (prfs_of (hPL.sub (List.sublist_append_right _ _)) HO9.out.2)
       have HN8 : Hid (O8.length = x1.pe.length ∧ x1.pe.length ≤ 1000 ∧ O9.length = x1.re.length ∧ x1.re.length ≤ 1000) := Lib.hid ⟨by have h := congrArg List.length HO8.out.1; unfold StS.P at h; rwa [List.length_map, List.length_map] at h, HSC.out.2.pl, by have h := congrArg List.length HO9.out.1; unfold StS.Q at h; rwa [List.length_map, List.length_map] at h, HSC.out.2.rl⟩
       have HSN : Hid (∀ e ∈ x1.re, e.v.sn ≤ 1000) := Lib.hid (fun e he => by have h1 := (HSC.out.2.res e he).2; have h2 := stOk_len h1; have h3 := (HRE.out.2 e he).1.1; omega)
       clear hS8 hO8' hds8 hr8 hP8 hQ8 hg8 hPS hgg hng hPL HRF HPD HG7 HPC HSC q2 q3 ql HAX
       gi_wp2_with fail
       obtain ⟨W17, hW17⟩ : ∃ V, V = WS.alloc (.cells #[.int .i64 0] 3) := ⟨_, rfl⟩
       have HP17 : Hid (Hp WS WS W17 [.blk WS.heap.size 3 [.int .i64 ((0 : Nat) : Int)]] []) := Lib.hid (by rw [hW17]; exact (Hp.start WS).alloc [.int .i64 0] 3)
       rw [← hW17]
       clear hW17
       have HW0 := Lib.hid (Nat.le_refl 0)
       refine wpIn_loop_ghost (fun m a W => ∃ (k p16 : Nat) (ds : List Nat), m = 2 - k ∧ k ≤ 2 ∧ LoF p7 p8 p12 p13 p16 (.func (.func 95) #[] #[.pointer (some ⟨k1, 0, none⟩), .pointer (some ⟨b1, 0, none⟩)]) (.func (.func 96) #[] #[.pointer (some ⟨k2, 0, none⟩), .pointer (some ⟨b2, 0, none⟩)]) ds a ∧ Hp WS W W [.blk p16 3 [.int .i64 (k : Int)]] ds) (2 - 0) ?start ?round
       case start => exact ⟨0, WS.heap.size, [], rfl, Nat.zero_le _, LoF_mk, HP17.out.rebase⟩
       case round =>
        clear HP17
        rintro m a W ⟨k, p16, ds, rfl, hk, ⟨u, rfl⟩, hPW⟩
        have HPW := Lib.hid hPW
        have r16 := hPW.c 0 0 rfl rfl
        have r16l := hPW.lt 0 rfl
        clear hPW
        by_cases hlt : k < 2
        ·have j0 : (k : Int) < 2 := by omega
         obtain ⟨p17, hp17⟩ : ∃ q, q = W.heap.size := ⟨_, rfl⟩
         obtain ⟨p18, hp18⟩ : ∃ q, q = W.heap.size + 1 := ⟨_, rfl⟩
         obtain ⟨V, hV⟩ : ∃ V, V = (W.alloc (.cells #[.int .i64 0] 3)).alloc (.cells #[.int .i64 0] 3) := ⟨_, rfl⟩
         have hPV : Hp WS V V [.blk p16 3 [.int .i64 (k : Int)], .blk p17 3 [.int .i64 ((0 : Nat) : Int)], .blk p18 3 [.int .i64 ((0 : Nat) : Int)]] ds := by
          have h := (HPW.out.alloc [.int .i64 0] 3).alloc [.int .i64 0] 3
          rw [World.size_alloc] at h
          rw [hV, hp17, hp18]; exact h.rebase
         have HPV := Lib.hid hPV
         clear hPV HPW
         gi_upto_region 21 with fail
         rw [← hV, ← hp18, ← hp17]
         clear hV hp17 hp18 r16 r16l
         have HSQ := Lib.hid (vals1P 5 (by decide) WS.heap.size k1 b1 x1.pa x1.pn x1.pc x1.pe V ((HPS.out.keep HPV.out.below).blk 7 rfl) ((HPS.out.keep HPV.out.below).blk 8 rfl) (HPE.out.keep HPV.out.below) HPV.out.below.size (by have h1 := HPE.out.1.1; have h2 := HN8.out.2.1; omega))
         gi_wp2_with fail
         refine hp_hands0o (w := WS) (ds := ds) (σ := Nat) (fun s => [.blk p16 3 [.int .i64 (k : Int)], .blk p17 3 [.int .i64 (s : Int)], .blk p18 3 [.int .i64 ((0 : Nat) : Int)]])
          (fun pre s => s = pre.length) (fun c pre s => c = .exit 4 ∧ k = 0) (fun y => [.row y.2.val 91 2 y.2.len (flat 2 chC y.2.chs)]) (fun pre y => y.1 = pre.length ∧ y.2.len ≤ 100000 ∧ y.2.chs.length = y.2.len ∧ x1.P[pre.length]? = some y.2.chs) ?a₁ (by decide)
          (gf := 95) (lb := #[.pointer (some ⟨k1, 0, none⟩), .pointer (some ⟨b1, 0, none⟩)]) rfl (enters_of Tryz.func95 (by kernel_rfl) rfl) HSQ.out (Nat.le_refl _) (fun _ => rfl) 0 rfl HPV.out (HPS.out.lt 8 rfl)
          (fun pre y L X Y hX hbl hG => ?give) ?assign ?body ?done ?stop
         case give =>
          obtain ⟨h1, ⟨e, he, hc, hl⟩, hH⟩ := hG
          have hA := HPE.out.2 e (List.mem_of_getElem? he)
          exact ⟨⟨h1, by rw [hl]; exact hA.2, by rw [hc, hl]; exact hA.1.1, by unfold StS.P; rw [List.getElem?_map, he, hc]; rfl⟩, hX.join hbl hH, fun e' he' => hH.low e' he'⟩
         case assign =>
          intro l y X K hK
          unfold Lem.val
          gi_wp2
          exact hK
         case body =>
          rintro l pre ⟨k0, ⟨yA, yn, yc, ych⟩⟩ e X s1 _ rfl ⟨hy1, hy2, hyl, hy3⟩ hX hlen
          dsimp only at hy1 hy2 hyl hy3 hX
          subst hy1
          have hlo : pre.length < O8.length := by have h1 := HN8.out.1; have h2 : pre.length < x1.pe.length := hlen; omega
          obtain ⟨m, hm⟩ : ∃ m, O8[pre.length]? = some m := ⟨_, List.getElem?_eq_getElem hlo⟩
          have hch : m.chs = ych := by
           have h := hy3
           rw [← HO8.out.1, List.getElem?_map, hm] at h
           exact Option.some.inj h
          obtain ⟨⟨b, off, hA8, hbl, hcell⟩, hmA⟩ := (HLS8.out.keep hX.below).get hm
          have hrow : RowS 2 chC X X.heap.size yA yn ych := by
           have hr := hX.row 4 rfl
           rw [← hyl] at hr ⊢
           exact rowS_own (by decide) hr
          have hsame := sameList_any yA m.adr yn yc m.len m.cap X X.heap.size ych m.chs (by omega) hrow hmA.rowS
          rw [decide_eq_true hch.symm] at hsame
          have HSAME := Lib.hid hsame
          have HX := Lib.hid hX
          have hx0 := HPS.out.keep hX.below
          have r12 := hx0.c 5 0 rfl rfl
          have r12l := hx0.lt 5 rfl
          rw [hA8] at r12
          have r17 := hX.c 2 0 rfl rfl
          have r17f := hX.f 2 rfl
          have r17l := hX.lt 2 rfl
          have j1 : (pre.length : Int) < (O8.length : Int) := by omega
          have j2 : ¬ (O8.length : Int) ≤ (pre.length : Int) := by omega
          have j3 : pre.length < 1000 := by have h1 := HN8.out.1; have h2 := HN8.out.2.1; omega
          have HA8 := Lib.hid hA8
          clear hX hx0 hA8 hsame hrow hmA hch hm hy3 hyl hy2 hlen
          gi_wp2_with fail
          refine ⟨trivial, CallsIn.inRound l (callsIn_wide.2 (HSAME.out.mono ?_))⟩
          rintro e' Y ⟨rfl, hbY⟩
          have hY := HX.out.keep hbY
          have hZ : Hp WS X (Y.setCell ⟨p17, 0, none⟩ (.int .i64 ((pre.length : Int) + 1))) (e :: ([.blk p16 3 [.int .i64 (k : Int)], .blk p17 3 [.int .i64 ((pre.length : Int) + 1)], .blk p18 3 [.int .i64 ((0 : Nat) : Int)]] ++ [.row (.slice yA yn yc) 91 2 yn (flat 2 chC ych)])) ds := hY.set 2 0 _ rfl
          obtain ⟨Z, hZe⟩ : ∃ Z, Z = Y.setCell ⟨p17, 0, none⟩ (.int .i64 ((pre.length : Int) + 1)) := ⟨_, rfl⟩
          rw [← hZe] at hZ
          have r17 := hY.c 2 0 rfl rfl
          have r17f := hY.f 2 rfl
          have r17l := hY.lt 2 rfl
          clear hbY hY HX HSAME hcell hbl r12 r12l j1 j2
          gi_upto_region 27 with fail
          rw [← hZe]
          clear r17 r17f r17l hZe
          have HZ := Lib.hid hZ
          have r17 := hZ.c 2 0 rfl rfl
          have r17l := hZ.lt 2 rfl
          have r16 := hZ.c 1 0 rfl rfl
          have r16l := hZ.lt 1 rfl
          have hx0 := HPS.out.keep hZ.below
          have r7 := hx0.c 2 0 rfl rfl
          have r7l := hx0.lt 2 rfl
          clear hZ hx0
          have HR : Hid ((((pre.length + 1 : Nat)) : Int) = (pre.length : Int) + 1) := Lib.hid (by omega)
          by_cases hk0 : k = 0
          ·have d0 : ((k : Int) == 0) = true := by simp [hk0]
           have HK0 := Lib.hid hk0
           clear hk0
           by_cases hmy : many ≤ (pre.length : Int) + 1
           ·gi_wp2_with fail
            first | refine wpIn_exit ?_ | skip
            exact ⟨pre.length + 1, ⟨rfl, HK0.out⟩, by dsimp only; rw [HR.out]; exact HZ.out.sub (List.Sublist.cons _ (List.sublist_append_left _ _))⟩
           ·gi_wp2_with fail
            exact ⟨pre.length + 1, by simp, by dsimp only; rw [HR.out]; exact HZ.out.sub (List.Sublist.cons_cons _ (List.sublist_append_left _ _))⟩
          ·have d0 : ((k : Int) == 0) = false := by simp; omega
           clear hk0
           gi_wp2_with fail
           exact ⟨pre.length + 1, by simp, by dsimp only; rw [HR.out]; exact HZ.out.sub (List.Sublist.cons_cons _ (List.sublist_append_left _ _))⟩
         case done =>
          rintro D1 ys X1 n1 hys hn1 hX1
          have HX1 := Lib.hid hX1
          have HN1 : Hid (k = 1 → n1 = O8.length) := Lib.hid (fun _ => by have hys : ys.length = x1.pe.length := hys; rw [hn1, hys]; exact HN8.out.1.symm)
          clear hX1 hys hn1
          have HSR := Lib.hid (vals1R 5 (by decide) WS.heap.size k2 b2 x1.ra x1.rn x1.rc x1.re X1 ((HPS.out.keep HX1.out.below).blk 9 rfl) ((HPS.out.keep HX1.out.below).blk 10 rfl) (HRE.out.keep HX1.out.below) HX1.out.below.size (by have h1 := HRE.out.1.1; have h2 := HN8.out.2.2.2; omega) HSN.out)
          gi_wp2_with fail
          refine hp_handso (w := WS) (ds := D1 :: ds) (σ := Nat) (fun s => [.blk p16 3 [.int .i64 (k : Int)], .blk p17 3 [.int .i64 (n1 : Int)], .blk p18 3 [.int .i64 (s : Int)]])
           (fun pre s => s = pre.length) (fun c pre s => c = .exit 6 ∧ k = 0) (fun y => prfEnts y.2) (fun pre y => y.1 = pre.length ∧ y.2.Ok ∧ x1.Q[pre.length]? = some y.2.say) ?a₂ 44 (fun y => [.slice y.2.sa y.2.sn y.2.sc, .slice y.2.la y.2.ln y.2.lc]) (by decide)
           (gf := 96) (lb := #[.pointer (some ⟨k2, 0, none⟩), .pointer (some ⟨b2, 0, none⟩)]) rfl (enters_of Tryz.func96 (by kernel_rfl) rfl) HSR.out (Nat.le_refl _) (fun _ => rfl) 0 rfl HX1.out (HPS.out.lt 10 rfl)
           (fun pre y L X Y hX hbl hG => ?give2) ?assign2 ?body2 ?done2 ?stop2
          case give2 =>
           obtain ⟨h1, ⟨e, he, hc, hs, hl, hm⟩, hH⟩ := hG
           have hA := HRE.out.2 e (List.mem_of_getElem? he)
           exact ⟨⟨h1, ⟨by rw [hs]; exact hA.2.2.2.1, by rw [hl]; exact hA.2.2.2.2, hm⟩, by unfold StS.Q; rw [List.getElem?_map, he, hc]; rfl⟩, hX.join hbl hH, fun e' he' => hH.low e' he'⟩
          case assign2 =>
           intro l y p W K hp hK
           unfold Prf.val Prf.v1 Prf.v2
           gi_wp2
           rw [← hp]
           exact hK
          case body2 =>
           rintro l pre ⟨k0, y⟩ e bp X s2 _ rfl ⟨hy1, hy2, hy3⟩ hX hlen
           dsimp only at hy1 hy2 hy3 hX
           subst hy1
           have hlo : pre.length < O9.length := by have h1 := HN8.out.2.2.1; have h2 : pre.length < x1.re.length := hlen; omega
           obtain ⟨m, hm⟩ : ∃ m, O9[pre.length]? = some m := ⟨_, List.getElem?_eq_getElem hlo⟩
           have hch : m.say = y.say := by
            have h := hy3
            rw [← HO9.out.1, List.getElem?_map, hm] at h
            exact Option.some.inj h
           have hXd := hX.drew
           obtain ⟨⟨b, off, hA9, hbl, hcell, hcell'⟩, hmA⟩ := (HLS9.out.keep hXd.below).get hm
           have hyA : y.At X.drew (fun _ => True) := prf_own hXd (((List.sublist_append_right _ _).trans (List.sublist_cons_self e _)).trans (List.sublist_append_left _ _)) hy2
           have hsame := psame_any y m X.drew hyA hmA
           rw [decide_eq_true hch.symm] at hsame
           unfold Prf.val Prf.v1 Prf.v2 at hsame
           have HSAME := Lib.hid hsame
           have HX := Lib.hid hXd
           have hx0 := HPS.out.keep hXd.below
           have r13 := hx0.c 6 0 rfl rfl
           have r13l := hx0.lt 6 rfl
           rw [hA9] at r13
           have hbp : Blk X.drew bp 44 [.slice y.sa y.sn y.sc, .slice y.la y.ln y.lc] := hXd.all (.blk bp 44 [.slice y.sa y.sn y.sc, .slice y.la y.ln y.lc]) (by simp)
           have rb0 := hbp.cell (i := 0) rfl
           have rb1 := hbp.cell (i := 1) rfl
           have rbl := hbp.lt
           have r18 := hXd.c 3 0 rfl rfl
           have r18l := hXd.lt 3 rfl
           have j1 : (pre.length : Int) < (O9.length : Int) := by omega
           have j2 : ¬ (O9.length : Int) ≤ (pre.length : Int) := by omega
           have j3 : pre.length < 1000 := by have h1 := HN8.out.2.2.1; have h2 := HN8.out.2.2.2; omega
           clear hX hx0 hA9 hsame hmA hch hm hy3 hy2 hlen hyA hbp hXd
           gi_wp2_with fail
           refine Lx.regionIn (C := fun _ => True) (hs := []) (by kernel_rfl) (by kernel_rfl) (by kernel_rfl) trivial ?_
           repeat' (first | ((first | refine Lx.ln (fun K hK => ?_) | (first | (refine Lx.lp (v := ?_) ?_ (fun K hK => ?_); rotate_left 1; intro w' hCw; try dsimp only at hCw) | (refine Lx.lr (v := ?_) ?_ (fun K hK => ?_); rotate_left 1)); go_simp; first | done | with_reducible rfl); go_simp; refine hK _ ?_; clear hK K) | (refine Lx.le (fun K hK => ?_); go_simp; (first | (go_at_call 24; refine HSAME.out.mono ?_; rintro e' Y ⟨rfl, hbY⟩; have HBY := Lib.hid hbY; clear hbY) | skip); refine hK _ _ (trivial) ?_; clear hK K) | (refine Lx.lex_cases rfl rfl rfl (fun hgd K hK => ?_) (fun hgd K hK => ?_) <;> (try simp only [decide_eq_true_eq, decide_eq_false_iff_not] at hgd) <;> (first | (exfalso; omega) | (go_simp; refine hK _ ?_; clear hK K))))
           all_goals (refine Lx.lex_nil ?_)
           have hY := HX.out.keep HBY.out
           have hZ : Hp WS X (Y.setCell ⟨p18, 0, none⟩ (.int .i64 ((pre.length : Int) + 1))) (e :: ([.blk p16 3 [.int .i64 (k : Int)], .blk p17 3 [.int .i64 (n1 : Int)], .blk p18 3 [.int .i64 ((pre.length : Int) + 1)]] ++ prfEnts y) ++ [.blk bp 44 [.slice y.sa y.sn y.sc, .slice y.la y.ln y.lc]]) (D1 :: ds) := hY.set 3 0 _ rfl
           obtain ⟨Z, hZe⟩ : ∃ Z, Z = Y.setCell ⟨p18, 0, none⟩ (.int .i64 ((pre.length : Int) + 1)) := ⟨_, rfl⟩
           rw [← hZe] at hZ
           have r18 := hY.c 3 0 rfl rfl
           have r18f := hY.f 3 rfl
           have r18l := hY.lt 3 rfl
           clear hY HX HBY HSAME hcell hcell' hbl r13 r13l rb0 rb1 rbl j1 j2
           gi_upto_region 34 with fail
           rw [← hZe]
           clear r18 r18f r18l hZe
           have HZ := Lib.hid hZ
           have r18 := hZ.c 3 0 rfl rfl
           have r18l := hZ.lt 3 rfl
           have r16 := hZ.c 1 0 rfl rfl
           have r16l := hZ.lt 1 rfl
           have hx0 := HPS.out.keep hZ.below
           have r7 := hx0.c 2 0 rfl rfl
           have r7l := hx0.lt 2 rfl
           clear hZ hx0
           have HR : Hid ((((pre.length + 1 : Nat)) : Int) = (pre.length : Int) + 1) := Lib.hid (by omega)
           by_cases hk0 : k = 0
           ·have d0 : ((k : Int) == 0) = true := by simp [hk0]
            have HK0 := Lib.hid hk0
            clear hk0
            by_cases hmy : many ≤ (pre.length : Int) + 1
            ·gi_wp2_with fail
             first | refine wpIn_exit ?_ | skip
             exact ⟨pre.length + 1, ⟨rfl, HK0.out⟩, by dsimp only; rw [HR.out]; exact HZ.out.sub ((List.Sublist.cons _ (List.sublist_append_left _ _)).trans (List.sublist_append_left _ _))⟩
            ·gi_wp2_with fail
             exact ⟨pre.length + 1, by simp, by dsimp only; rw [HR.out]; exact HZ.out.sub ((List.Sublist.cons_cons _ (List.sublist_append_left _ _)).trans (List.sublist_append_left _ _))⟩
           ·have d0 : ((k : Int) == 0) = false := by simp; omega
            clear hk0
            gi_wp2_with fail
            exact ⟨pre.length + 1, by simp, by dsimp only; rw [HR.out]; exact HZ.out.sub ((List.Sublist.cons_cons _ (List.sublist_append_left _ _)).trans (List.sublist_append_left _ _))⟩
          case done2 =>
           rintro D2 ys X2 n2 hys hn2 hX2
           have HX2 := Lib.hid hX2
           have HN2 : Hid (k = 1 → n2 = O9.length) := Lib.hid (fun _ => by have hys : ys.length = x1.re.length := hys; rw [hn2, hys]; exact HN8.out.2.2.1.symm)
           clear hX2 hys hn2
           have r16 := HX2.out.c 0 0 rfl rfl
           have r16f := HX2.out.f 0 rfl
           have r16l := HX2.out.lt 0 rfl
           have r17 := HX2.out.c 1 0 rfl rfl
           have r17l := HX2.out.lt 1 rfl
           have r18 := HX2.out.c 2 0 rfl rfl
           have r18l := HX2.out.lt 2 rfl
           have hx0 := HPS.out.keep HX2.out.below
           have r12 := hx0.c 5 0 rfl rfl
           have r12l := hx0.lt 5 rfl
           have r13 := hx0.c 6 0 rfl rfl
           have r13l := hx0.lt 6 rfl
           clear hx0
           by_cases hk1 : k = 1
           ·have e1 : n1 = O8.length := HN1.out hk1
            have e2 : n2 = O9.length := HN2.out hk1
            have d1 : ((k : Int) == 1) = true := by simp [hk1]
            have d2 : ((n1 : Int) != (O8.length : Int)) = false := by simp [e1]
            have d3 : ((n2 : Int) != (O9.length : Int)) = false := by simp [e2]
            clear e1 e2 hk1
            gi_wp2_with fail
            exact ⟨_, by omega, k + 1, X2.heap.size, D2 :: D1 :: ds, rfl, hlt, LoF_mk, ((HX2.out.alloc [.int .i64 ((k : Int) + 1)] 3).sub (List.Sublist.cons _ (List.Sublist.cons _ (List.Sublist.cons _ (List.Sublist.refl _))))).rebase⟩
           ·have d1 : ((k : Int) == 1) = false := by simp; omega
            clear hk1
            gi_wp2_with fail
            all_goals first | (rename_i hz _; cases hz; done) | exact ⟨_, by omega, k + 1, X2.heap.size, D2 :: D1 :: ds, rfl, hlt, LoF_mk, ((HX2.out.alloc [.int .i64 ((k : Int) + 1)] 3).sub (List.Sublist.cons _ (List.Sublist.cons _ (List.Sublist.cons _ (List.Sublist.refl _))))).rebase⟩
          case stop2 =>
           rintro D2 cd pre X2 n2 _ ⟨rfl, hk0⟩ hX2
           have HX2 := Lib.hid hX2
           have HN2 : Hid (k = 1 → n2 = O9.length) := Lib.hid (fun h => by omega)
           clear hX2 hk0
           have r16 := HX2.out.c 0 0 rfl rfl
           have r16f := HX2.out.f 0 rfl
           have r16l := HX2.out.lt 0 rfl
           have r17 := HX2.out.c 1 0 rfl rfl
           have r17l := HX2.out.lt 1 rfl
           have r18 := HX2.out.c 2 0 rfl rfl
           have r18l := HX2.out.lt 2 rfl
           have hx0 := HPS.out.keep HX2.out.below
           have r12 := hx0.c 5 0 rfl rfl
           have r12l := hx0.lt 5 rfl
           have r13 := hx0.c 6 0 rfl rfl
           have r13l := hx0.lt 6 rfl
           clear hx0
           by_cases hk1 : k = 1
           ·have e1 : n1 = O8.length := HN1.out hk1
            have e2 : n2 = O9.length := HN2.out hk1
            have d1 : ((k : Int) == 1) = true := by simp [hk1]
            have d2 : ((n1 : Int) != (O8.length : Int)) = false := by simp [e1]
            have d3 : ((n2 : Int) != (O9.length : Int)) = false := by simp [e2]
            clear e1 e2 hk1
            gi_wp2_with fail
            exact ⟨_, by omega, k + 1, X2.heap.size, D2 :: D1 :: ds, rfl, hlt, LoF_mk, ((HX2.out.alloc [.int .i64 ((k : Int) + 1)] 3).sub (List.Sublist.cons _ (List.Sublist.cons _ (List.Sublist.cons _ (List.Sublist.refl _))))).rebase⟩
           ·have d1 : ((k : Int) == 1) = false := by simp; omega
            clear hk1
            gi_wp2_with fail
            all_goals first | (rename_i hz _; cases hz; done) | exact ⟨_, by omega, k + 1, X2.heap.size, D2 :: D1 :: ds, rfl, hlt, LoF_mk, ((HX2.out.alloc [.int .i64 ((k : Int) + 1)] 3).sub (List.Sublist.cons _ (List.Sublist.cons _ (List.Sublist.cons _ (List.Sublist.refl _))))).rebase⟩
         case stop =>
          rintro D1 cd pre X1 n1 _ ⟨rfl, hk0⟩ hX1
          have HX1 := Lib.hid hX1
          have HN1 : Hid (k = 1 → n1 = O8.length) := Lib.hid (fun h => by omega)
          clear hX1 hk0
          gi_wp2_with fail
          have HSR := Lib.hid (vals1R 5 (by decide) WS.heap.size k2 b2 x1.ra x1.rn x1.rc x1.re X1 ((HPS.out.keep HX1.out.below).blk 9 rfl) ((HPS.out.keep HX1.out.below).blk 10 rfl) (HRE.out.keep HX1.out.below) HX1.out.below.size (by have h1 := HRE.out.1.1; have h2 := HN8.out.2.2.2; omega) HSN.out)
          gi_wp2_with fail
          refine hp_handso (w := WS) (ds := D1 :: ds) (σ := Nat) (fun s => [.blk p16 3 [.int .i64 (k : Int)], .blk p17 3 [.int .i64 (n1 : Int)], .blk p18 3 [.int .i64 (s : Int)]])
           (fun pre s => s = pre.length) (fun c pre s => c = .exit 6 ∧ k = 0) (fun y => prfEnts y.2) (fun pre y => y.1 = pre.length ∧ y.2.Ok ∧ x1.Q[pre.length]? = some y.2.say) ?a₂ 44 (fun y => [.slice y.2.sa y.2.sn y.2.sc, .slice y.2.la y.2.ln y.2.lc]) (by decide)
           (gf := 96) (lb := #[.pointer (some ⟨k2, 0, none⟩), .pointer (some ⟨b2, 0, none⟩)]) rfl (enters_of Tryz.func96 (by kernel_rfl) rfl) HSR.out (Nat.le_refl _) (fun _ => rfl) 0 rfl HX1.out (HPS.out.lt 10 rfl)
           (fun pre y L X Y hX hbl hG => ?give2) ?assign2 ?body2 ?done2 ?stop2
          case give2 =>
           obtain ⟨h1, ⟨e, he, hc, hs, hl, hm⟩, hH⟩ := hG
           have hA := HRE.out.2 e (List.mem_of_getElem? he)
           exact ⟨⟨h1, ⟨by rw [hs]; exact hA.2.2.2.1, by rw [hl]; exact hA.2.2.2.2, hm⟩, by unfold StS.Q; rw [List.getElem?_map, he, hc]; rfl⟩, hX.join hbl hH, fun e' he' => hH.low e' he'⟩
          case assign2 =>
           intro l y p W K hp hK
           unfold Prf.val Prf.v1 Prf.v2
           gi_wp2
           rw [← hp]
           exact hK
          case body2 =>
           rintro l pre ⟨k0, y⟩ e bp X s2 _ rfl ⟨hy1, hy2, hy3⟩ hX hlen
           dsimp only at hy1 hy2 hy3 hX
           subst hy1
           have hlo : pre.length < O9.length := by have h1 := HN8.out.2.2.1; have h2 : pre.length < x1.re.length := hlen; omega
           obtain ⟨m, hm⟩ : ∃ m, O9[pre.length]? = some m := ⟨_, List.getElem?_eq_getElem hlo⟩
           have hch : m.say = y.say := by
            have h := hy3
            rw [← HO9.out.1, List.getElem?_map, hm] at h
            exact Option.some.inj h
           have hXd := hX.drew
           obtain ⟨⟨b, off, hA9, hbl, hcell, hcell'⟩, hmA⟩ := (HLS9.out.keep hXd.below).get hm
           have hyA : y.At X.drew (fun _ => True) := prf_own hXd (((List.sublist_append_right _ _).trans (List.sublist_cons_self e _)).trans (List.sublist_append_left _ _)) hy2
           have hsame := psame_any y m X.drew hyA hmA
           rw [decide_eq_true hch.symm] at hsame
           unfold Prf.val Prf.v1 Prf.v2 at hsame
           have HSAME := Lib.hid hsame
           have HX := Lib.hid hXd
           have hx0 := HPS.out.keep hXd.below
           have r13 := hx0.c 6 0 rfl rfl
           have r13l := hx0.lt 6 rfl
           rw [hA9] at r13
           have hbp : Blk X.drew bp 44 [.slice y.sa y.sn y.sc, .slice y.la y.ln y.lc] := hXd.all (.blk bp 44 [.slice y.sa y.sn y.sc, .slice y.la y.ln y.lc]) (by simp)
           have rb0 := hbp.cell (i := 0) rfl
           have rb1 := hbp.cell (i := 1) rfl
           have rbl := hbp.lt
           have r18 := hXd.c 3 0 rfl rfl
           have r18l := hXd.lt 3 rfl
           have j1 : (pre.length : Int) < (O9.length : Int) := by omega
           have j2 : ¬ (O9.length : Int) ≤ (pre.length : Int) := by omega
           have j3 : pre.length < 1000 := by have h1 := HN8.out.2.2.1; have h2 := HN8.out.2.2.2; omega
           clear hX hx0 hA9 hsame hmA hch hm hy3 hy2 hlen hyA hbp hXd
           gi_wp2_with fail
           refine Lx.regionIn (C := fun _ => True) (hs := []) (by kernel_rfl) (by kernel_rfl) (by kernel_rfl) trivial ?_
           repeat' (first | ((first | refine Lx.ln (fun K hK => ?_) | (first | (refine Lx.lp (v := ?_) ?_ (fun K hK => ?_); rotate_left 1; intro w' hCw; try dsimp only at hCw) | (refine Lx.lr (v := ?_) ?_ (fun K hK => ?_); rotate_left 1)); go_simp; first | done | with_reducible rfl); go_simp; refine hK _ ?_; clear hK K) | (refine Lx.le (fun K hK => ?_); go_simp; (first | (go_at_call 24; refine HSAME.out.mono ?_; rintro e' Y ⟨rfl, hbY⟩; have HBY := Lib.hid hbY; clear hbY) | skip); refine hK _ _ (trivial) ?_; clear hK K) | (refine Lx.lex_cases rfl rfl rfl (fun hgd K hK => ?_) (fun hgd K hK => ?_) <;> (try simp only [decide_eq_true_eq, decide_eq_false_iff_not] at hgd) <;> (first | (exfalso; omega) | (go_simp; refine hK _ ?_; clear hK K))))
           all_goals (refine Lx.lex_nil ?_)
           have hY := HX.out.keep HBY.out
           have hZ : Hp WS X (Y.setCell ⟨p18, 0, none⟩ (.int .i64 ((pre.length : Int) + 1))) (e :: ([.blk p16 3 [.int .i64 (k : Int)], .blk p17 3 [.int .i64 (n1 : Int)], .blk p18 3 [.int .i64 ((pre.length : Int) + 1)]] ++ prfEnts y) ++ [.blk bp 44 [.slice y.sa y.sn y.sc, .slice y.la y.ln y.lc]]) (D1 :: ds) := hY.set 3 0 _ rfl
           obtain ⟨Z, hZe⟩ : ∃ Z, Z = Y.setCell ⟨p18, 0, none⟩ (.int .i64 ((pre.length : Int) + 1)) := ⟨_, rfl⟩
           rw [← hZe] at hZ
           have r18 := hY.c 3 0 rfl rfl
           have r18f := hY.f 3 rfl
           have r18l := hY.lt 3 rfl
           clear hY HX HBY HSAME hcell hcell' hbl r13 r13l rb0 rb1 rbl j1 j2
           gi_upto_region 34 with fail
           rw [← hZe]
           clear r18 r18f r18l hZe
           have HZ := Lib.hid hZ
           have r18 := hZ.c 3 0 rfl rfl
           have r18l := hZ.lt 3 rfl
           have r16 := hZ.c 1 0 rfl rfl
           have r16l := hZ.lt 1 rfl
           have hx0 := HPS.out.keep hZ.below
           have r7 := hx0.c 2 0 rfl rfl
           have r7l := hx0.lt 2 rfl
           clear hZ hx0
           have HR : Hid ((((pre.length + 1 : Nat)) : Int) = (pre.length : Int) + 1) := Lib.hid (by omega)
           by_cases hk0 : k = 0
           ·have d0 : ((k : Int) == 0) = true := by simp [hk0]
            have HK0 := Lib.hid hk0
            clear hk0
            by_cases hmy : many ≤ (pre.length : Int) + 1
            ·gi_wp2_with fail
             first | refine wpIn_exit ?_ | skip
             exact ⟨pre.length + 1, ⟨rfl, HK0.out⟩, by dsimp only; rw [HR.out]; exact HZ.out.sub ((List.Sublist.cons _ (List.sublist_append_left _ _)).trans (List.sublist_append_left _ _))⟩
            ·gi_wp2_with fail
             exact ⟨pre.length + 1, by simp, by dsimp only; rw [HR.out]; exact HZ.out.sub ((List.Sublist.cons_cons _ (List.sublist_append_left _ _)).trans (List.sublist_append_left _ _))⟩
           ·have d0 : ((k : Int) == 0) = false := by simp; omega
            clear hk0
            gi_wp2_with fail
            exact ⟨pre.length + 1, by simp, by dsimp only; rw [HR.out]; exact HZ.out.sub ((List.Sublist.cons_cons _ (List.sublist_append_left _ _)).trans (List.sublist_append_left _ _))⟩
          case done2 =>
           rintro D2 ys X2 n2 hys hn2 hX2
           have HX2 := Lib.hid hX2
           have HN2 : Hid (k = 1 → n2 = O9.length) := Lib.hid (fun _ => by have hys : ys.length = x1.re.length := hys; rw [hn2, hys]; exact HN8.out.2.2.1.symm)
           clear hX2 hys hn2
           have r16 := HX2.out.c 0 0 rfl rfl
           have r16f := HX2.out.f 0 rfl
           have r16l := HX2.out.lt 0 rfl
           have r17 := HX2.out.c 1 0 rfl rfl
           have r17l := HX2.out.lt 1 rfl
           have r18 := HX2.out.c 2 0 rfl rfl
           have r18l := HX2.out.lt 2 rfl
           have hx0 := HPS.out.keep HX2.out.below
           have r12 := hx0.c 5 0 rfl rfl
           have r12l := hx0.lt 5 rfl
           have r13 := hx0.c 6 0 rfl rfl
           have r13l := hx0.lt 6 rfl
           clear hx0
           by_cases hk1 : k = 1
           ·have e1 : n1 = O8.length := HN1.out hk1
            have e2 : n2 = O9.length := HN2.out hk1
            have d1 : ((k : Int) == 1) = true := by simp [hk1]
            have d2 : ((n1 : Int) != (O8.length : Int)) = false := by simp [e1]
            have d3 : ((n2 : Int) != (O9.length : Int)) = false := by simp [e2]
            clear e1 e2 hk1
            gi_wp2_with fail
            exact ⟨_, by omega, k + 1, X2.heap.size, D2 :: D1 :: ds, rfl, hlt, LoF_mk, ((HX2.out.alloc [.int .i64 ((k : Int) + 1)] 3).sub (List.Sublist.cons _ (List.Sublist.cons _ (List.Sublist.cons _ (List.Sublist.refl _))))).rebase⟩
           ·have d1 : ((k : Int) == 1) = false := by simp; omega
            clear hk1
            gi_wp2_with fail
            all_goals first | (rename_i hz _; cases hz; done) | exact ⟨_, by omega, k + 1, X2.heap.size, D2 :: D1 :: ds, rfl, hlt, LoF_mk, ((HX2.out.alloc [.int .i64 ((k : Int) + 1)] 3).sub (List.Sublist.cons _ (List.Sublist.cons _ (List.Sublist.cons _ (List.Sublist.refl _))))).rebase⟩
          case stop2 =>
           rintro D2 cd pre X2 n2 _ ⟨rfl, hk0⟩ hX2
           have HX2 := Lib.hid hX2
           have HN2 : Hid (k = 1 → n2 = O9.length) := Lib.hid (fun h => by omega)
           clear hX2 hk0
           have r16 := HX2.out.c 0 0 rfl rfl
           have r16f := HX2.out.f 0 rfl
           have r16l := HX2.out.lt 0 rfl
           have r17 := HX2.out.c 1 0 rfl rfl
           have r17l := HX2.out.lt 1 rfl
           have r18 := HX2.out.c 2 0 rfl rfl
           have r18l := HX2.out.lt 2 rfl
           have hx0 := HPS.out.keep HX2.out.below
           have r12 := hx0.c 5 0 rfl rfl
           have r12l := hx0.lt 5 rfl
           have r13 := hx0.c 6 0 rfl rfl
           have r13l := hx0.lt 6 rfl
           clear hx0
           by_cases hk1 : k = 1
           ·have e1 : n1 = O8.length := HN1.out hk1
            have e2 : n2 = O9.length := HN2.out hk1
            have d1 : ((k : Int) == 1) = true := by simp [hk1]
            have d2 : ((n1 : Int) != (O8.length : Int)) = false := by simp [e1]
            have d3 : ((n2 : Int) != (O9.length : Int)) = false := by simp [e2]
            clear e1 e2 hk1
            gi_wp2_with fail
            exact ⟨_, by omega, k + 1, X2.heap.size, D2 :: D1 :: ds, rfl, hlt, LoF_mk, ((HX2.out.alloc [.int .i64 ((k : Int) + 1)] 3).sub (List.Sublist.cons _ (List.Sublist.cons _ (List.Sublist.cons _ (List.Sublist.refl _))))).rebase⟩
           ·have d1 : ((k : Int) == 1) = false := by simp; omega
            clear hk1
            gi_wp2_with fail
            all_goals first | (rename_i hz _; cases hz; done) | exact ⟨_, by omega, k + 1, X2.heap.size, D2 :: D1 :: ds, rfl, hlt, LoF_mk, ((HX2.out.alloc [.int .i64 ((k : Int) + 1)] 3).sub (List.Sublist.cons _ (List.Sublist.cons _ (List.Sublist.cons _ (List.Sublist.refl _))))).rebase⟩
        ·obtain rfl : k = 2 := by omega
         have HF := Lib.hid (HPS.out.over HPW.out)
         clear HPW
         gi_wp2_with fail
         refine ⟨trivial, (callsIn_wide.2 (HKN.out _ HF.out.below)).mono ?_⟩
         rintro e WE ⟨rfl, hbE⟩
         have HPE := Lib.hid (HF.out.keep hbE)
         have k0 := HPE.out.c 3 0 rfl rfl
         have k1' := HPE.out.f 3 rfl
         have k2' := HPE.out.lt 3 rfl
         clear hbE
         gi_wp2_with fail
         show LeavesInM _ _ _ _ _ _ (marksOf ds) .returning _
         refine hp_leaves (fun Y hY => ?_) _ _ _ (HPE.out.set 3 0 (.bool true) rfl)
         exact ⟨.bool true, by simp [results, Tryz.results5, go_sem, hY.c 3 0 rfl rfl], rfl, hY.below⟩
theorem containLoops_lifted (os : Os) (started : os.Started) (H : Type) (enc : TypeId × Value → H) :
  ReturnsInHanded {} Tryz.checked os 5 .any (fun w args => (Rows.containLoopsSpec.pre enc Tryz.prog Tryz.f5 [] false w args ∧ laidMetH Tryz.prog laid07 w) ∧ sizedMet enc Tryz.prog Tryz.f5 (OpenSpec.ofChange Rows.containLoopsSpec) false w args) (Rows.containLoopsSpec.post enc Tryz.prog Tryz.f5 false true false false) := by
 refine handed_laid (C := Tryz.checked) (laid := laid07) own started (by kernel_rfl) Tryz.func5
  (ChangeSpec.witness_shaped (enc := enc) (C := Tryz.checked) (os := os) (X := fun w _ => laidMetH Tryz.prog laid07 w) false (World.laidAll Tryz.prog os laid07) #[.agg #[.slice none 0 0, .slice none 0 0, .slice none 0 0, .slice none 0 0], .slice none 0 0, .agg #[.int .i64 0, .slice none 0 0, .slice none 0 0, .slice none 0 0, .slice none 0 0], .int .i64 0] 8 (World.laidAll_os _ _ _) (World.shaped_of_ZipB (by kernel_rfl) (by kernel_rfl)) (by kernel_rfl) (by kernel_rfl) (by kernel_rfl) (laidHold os _)) ?_
 intro W base args ds gs before hval0 hW hL hsh
 have hTab := tab_of hL hsh
 have hval : ∀ (j : Nat) t v, Tryz.f5.params[j]? = some t → args[j]? = some v → Value.okWide Tryz.prog W .any base t v := hval0
 have hW' := hW
 obtain ⟨p, q, hA0, hV, rfl, hfz, hnd⟩ := hW
 have hA : DataW.TrodAll enc Tryz.prog W 0 (fun _ => true) true Tryz.f5.params.toList args.toList ds p := hA0
 rw [Tryz.params5] at hA hval
 obtain ⟨v0, vs0, d0, ds0, p0, q0, hargs, rfl, rfl, h0, r0⟩ := trodAll_cons hA
 obtain ⟨v1, vs1, d1, ds1, p1, q1, rfl, rfl, rfl, h1, r1⟩ := trodAll_cons r0
 obtain ⟨v2, vs2, d2, ds2, p2, q2, rfl, rfl, rfl, h2, r2⟩ := trodAll_cons r1
 obtain ⟨v3, vs3, d3, ds3, p3, q3, rfl, rfl, rfl, h3, r3⟩ := trodAll_cons r2
 obtain ⟨rfl, rfl, rfl⟩ := trodAll_nil r3
 obtain rfl : args = #[v0, v1, v2, v3] := by cases args; simp_all
 obtain ⟨rfl, rfl⟩ := trodVars_none hV
 have k0 := h0
 have lt0 : ∀ x ∈ p0, x.block < W.heap.size := by obtain ⟨m, hm⟩ := k0; exact DataW.trod_lt m _ _ _ hm
 have k1 := h1
 have lt1 : ∀ x ∈ p1, x.block < W.heap.size := by obtain ⟨m, hm⟩ := k1; exact DataW.trod_lt m _ _ _ hm
 have k2 := h2
 have lt2 : ∀ x ∈ p2, x.block < W.heap.size := by obtain ⟨m, hm⟩ := k2; exact DataW.trod_lt m _ _ _ hm
 have k3 := h3
 have lt3 : ∀ x ∈ p3, x.block < W.heap.size := by obtain ⟨m, hm⟩ := k3; exact DataW.trod_lt m _ _ _ hm
 obtain ⟨s0, ds0, x0, rfl, R0⟩ := arg_prb (hval 0 29 _ rfl rfl) h0
 obtain ⟨A1, n1, c1, xs1, rfl, R1⟩ := arg_acts (hval 1 30 _ rfl rfl) h1
 obtain ⟨y2, rfl, R2⟩ := arg_act (hval 2 46 _ rfl rfl) h2
 obtain ⟨x3, rfl, b3⟩ := arg_int Tryz.underlying3 (hval 3 3 _ rfl rfl) h3
 clear hA0 hval0
 refine (containLoops_walk W hTab s0 ds0 x0 R0 A1 n1 c1 xs1 R1 y2 R2 x3 b3).mono fun e W' ⟨he, bel⟩ => ?_
 subst he
 exact ⟨_, rfl, _, _, _, [], _, [], hW', trodAll_mk1 (shut_bool Tryz.underlying4 _), (trodAll_cons_mk (Below.trod laidOut (by kernel_rfl) (of_decide_eq_true (by kernel_rfl)) k0 bel lt0) (trodAll_cons_mk (Below.trod laidOut (by kernel_rfl) (of_decide_eq_true (by kernel_rfl)) k1 bel lt1) (trodAll_cons_mk (Below.trod laidOut (by kernel_rfl) (of_decide_eq_true (by kernel_rfl)) k2 bel lt2) (trodAll_cons_mk (Below.trod laidOut (by kernel_rfl) (of_decide_eq_true (by kernel_rfl)) k3 bel lt3) trodAll_mk0)))), rfl, bel.frame _, fun h => by cases h⟩
theorem containLoops_over : Rows.containLoopsRow.holds Tryz.pinned (OpenSpec.ofChange Rows.containLoopsSpec) :=
 OpenClaim.holds_of_wide 5 Tryz.f5 rfl rfl rfl rfl rfl rfl rfl ⟨rfl, rfl, rfl, rfl, rfl⟩ rfl rfl rfl rfl rfl (by kernel_rfl) Tryz.func5 (by kernel_rfl)
  (of_decide_eq_true (by kernel_rfl)) (by unfold Func.isWrapper; first | (rw [if_pos (by decide +kernel)]; kernel_rfl) | (rw [if_neg (by decide +kernel)]; exact ⟨rfl, rfl⟩))
  (fun os started H enc _ => containLoops_lifted os started H enc)
theorem containLoopsCard_holds : Rows.ContainLoopsCardSaid :=
 Claim7.holds_tied_plain_at .later [] [.data] true (true, "6a1e8bf9da2a490e4a6c8e160f0563e6348fe16053a562f29b6eba6119d16f53") false
  containLoops_over (fun _ h => by cases h) (by kernel_rfl) (fun _ h => by cases h) containLoops_row_tie rfl ⟨rfl, rfl⟩ (by kernel_rfl) rfl
  (fun f fn hf hfn => by
   obtain rfl : f = 5 := Option.some.inj ((show Tryz.prog.funcNamed "bandplan/bandplanlaw24.ContainLoops" = some 5 by kernel_rfl).symm.trans hf) |>.symm
   obtain rfl : fn = Tryz.f5 := (Option.some.inj (Tryz.func5.symm.trans hfn)).symm
   exact ⟨by kernel_rfl, fun j t ht => by
    rw [Tryz.params5] at ht
    rcases j with _ | j
    ·obtain rfl : t = 29 := by simpa using ht.symm
     exact (show Tryz.prog.wantsStandIn 29 = false by kernel_rfl)
    rcases j with _ | j
    ·obtain rfl : t = 30 := by simpa using ht.symm
     exact (show Tryz.prog.wantsStandIn 30 = false by kernel_rfl)
    rcases j with _ | j
    ·obtain rfl : t = 46 := by simpa using ht.symm
     exact (show Tryz.prog.wantsStandIn 46 = false by kernel_rfl)
    rcases j with _ | j
    ·obtain rfl : t = 3 := by simpa using ht.symm
     exact (show Tryz.prog.wantsStandIn 3 = false by kernel_rfl)
    ·simp at ht⟩)
  (by kernel_rfl)
#print axioms containLoopsCard_holds
end Go.Proofs.YtdpbbhbegehcjaaGreatDoor
