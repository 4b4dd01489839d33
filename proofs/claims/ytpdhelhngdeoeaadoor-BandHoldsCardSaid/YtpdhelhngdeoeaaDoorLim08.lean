/- The reference of layer 17: ValidRules. -/
import Derived.Laws.StructEq
import Derived.Test.YtpdhelhngdeoeaaDoorLim01
import Derived.Test.YtpdhelhngdeoeaaDoorLim04
import Derived.Test.YtpdhelhngdeoeaaDoorLim07
/- The reference of layer 17: Has, Find, SameDomains, SameRules, Same, Small. -/
namespace Go.Proofs.YtpdhelhngdeoeaaDoor
open Go.RowKit

/-- whether a list has a number -/
def hasL : List Int → Int → Bool
  | [], _ => false
  | y :: r, x => if y = x then true else hasL r x
theorem hasL_mem (l : List Int) (x : Int) : hasL l x = decide (x ∈ l) := by
  induction l with
  | nil => simp [hasL]
  | cons y r ih =>
    unfold hasL
    by_cases h : y = x
    · rw [if_pos h]; simp [h]
    · rw [if_neg h, ih]; simp [Ne.symm h]
theorem rhas_any (A : Option Addr) (n c : Nat) (x : Int) (w : World) (l : List Int) (hn : n ≤ 9223372036854775807) (hl : Row1 intV w w.heap.size A n l) :
    Calls Tryd.prog 23 #[.slice A n c, .int .i64 x] w fun e w' => e = .returned (.bool (hasL l x)) ∧ w = w' := by
  have Hl := Lib.hid hl
  have Hlen := Eqn.mk hl.1
  clear hl
  go_enter Tryd.func23, Tryd.ntmps23
  go_wp2_with fail
  go_loopw [5] (fun i wr => ∃ k : Nat, k ≤ n ∧ i = .int .i64 k ∧ Eqn (hasL l x) (hasL (l.drop k) x) ∧ w = wr) (fun i _ => n - (intOf i).toNat)
  case atStart => exact ⟨0, Nat.zero_le _, rfl, rfl, rfl⟩
  case round =>
    obtain ⟨k, hk, rfl, HR, rfl⟩ := hrel
    by_cases hlt : k < n
    · obtain ⟨p, hp, hpd⟩ := drop_at (xs := l) (k := k) (by rw [Hlen.out]; exact hlt)
      obtain ⟨b, off, hA, hbl, hc⟩ := Hl.out.2 (by omega)
      subst hA
      have c0 := hc k p hp
      simp only [intV] at c0
      have HR2 := HR.out
      rw [hpd, hasL] at HR2
      have HRR := Eqn.mk HR2
      have j0 : (k : Int) < (n : Int) := by omega
      clear hc hp hpd HR HR2
      by_cases he : p = x
      · have HE := Eqn.mk (HRR.out.trans (if_pos he))
        have hd : (p == x) = true := by simpa using he
        clear HRR he
        go_wp2_with fail
        go_ret
        exact ⟨ret_bool HE.out.symm, rfl⟩
      · have HE := Eqn.mk (HRR.out.trans (if_neg he))
        have hd : (p == x) = false := by simpa using he
        clear HRR he
        go_wp2_with fail
        go_roundw
        case rel => exact ⟨k + 1, by omega, by go_num, HE, trivial⟩
        case measure => simp [intOf]; omega
    · obtain rfl : k = n := by omega
      go_wp2_with fail
      go_ret
      exact ⟨ret_bool (by rw [HR.out, drop_end (by rw [Hlen.out]; omega)]; rfl), rfl⟩

/-- the index of a station's domain -/
def findD (x : Int) : Nat → List Dom → Int
  | _, [] => -1
  | k, d :: r => if d.st = x then k else findD x (k + 1) r
theorem findD_neg (x : Int) : ∀ (l : List Dom) (k : Nat), decide (findD x k l < 0) = !decide (x ∈ l.map Dom.st) := by
  intro l
  induction l with
  | nil => intro k; rfl
  | cons d r ih =>
    intro k
    unfold findD
    by_cases h : d.st = x
    · rw [if_pos h]
      simp [h]
    · rw [if_neg h, ih]
      simp [Ne.symm h]
set_option maxHeartbeats 1000000 in
theorem rfind_any (s : PrbS) (x : Int) (w : World) (ds : List Dom) (hn : s.nd ≤ 9223372036854775807) (hl : DomsAt w w.heap.size s.ad s.nd ds) :
    Calls Tryd.prog 28 #[s.val, .int .i64 x] w (RetPost (.int .i64 (findD x 0 ds)) w.heap.size w) := by
  obtain ⟨A, n, c, ⟨A0, n0, c0, A1, n1, c1, A2, n2, c2⟩⟩ := s
  obtain ⟨W0, hW0⟩ : ∃ W0, W0 = w.alloc (.cells #[.slice A n c, .slice A0 n0 c0, .slice A1 n1 c1, .slice A2 n2 c2] 29) := ⟨_, rfl⟩
  have hB0 : Below w.heap.size w W0 := by rw [hW0]; exact (Below.refl _ w).alloc (Nat.le_refl _) _
  have z0 : W0.cell? ⟨w.heap.size, 0, none⟩ = some (.slice A n c) := by rw [hW0]; simp [go_sem]
  have Hl := Lib.hid (hl.1.keep hB0)
  have Hlen := Eqn.mk hl.1.1
  have HB0 := Lib.hid hB0
  clear hl hB0
  unfold PrbS.val
  dsimp only at *
  go_enter Tryd.func28, Tryd.ntmps28
  go_wp2_with fail
  rw [← hW0]
  clear hW0
  go_loopw [5] (fun i wr => ∃ k : Nat, k ≤ n ∧ i = .int .i64 k ∧ Eqn (findD x 0 ds) (findD x k (ds.drop k)) ∧ W0 = wr) (fun i _ => n - (intOf i).toNat)
  case atStart => exact ⟨0, Nat.zero_le _, rfl, rfl, rfl⟩
  case round =>
    obtain ⟨k, hk, rfl, HR, rfl⟩ := hrel
    by_cases hlt : k < n
    · obtain ⟨p, hp, hpd⟩ := drop_at (xs := ds) (k := k) (by rw [Hlen.out]; exact hlt)
      obtain ⟨b, off, hA, hbl, hc⟩ := Hl.out.2 (by omega)
      subst hA
      have c0 := hc k p hp 0 (by omega)
      simp only [Dom.cell, Nat.add_zero] at c0
      have HR2 := HR.out
      rw [hpd, findD] at HR2
      have HRR := Eqn.mk HR2
      have j0 : (k : Int) < (n : Int) := by omega
      clear hc hp hpd HR HR2
      by_cases he : p.st = x
      · have HE := Eqn.mk (HRR.out.trans (if_pos he))
        have hd : (p.st == x) = true := by simpa using he
        clear HRR he
        go_wp2_with fail
        go_ret
        exact ⟨ret_int HE.out.symm, HB0.out⟩
      · have HE := Eqn.mk (HRR.out.trans (if_neg he))
        have hd : (p.st == x) = false := by simpa using he
        clear HRR he
        go_wp2_with fail
        go_roundw
        case rel => exact ⟨k + 1, by omega, by go_num, HE, trivial⟩
        case measure => simp [intOf]; omega
    · obtain rfl : k = n := by omega
      go_wp2_with fail
      go_ret
      exact ⟨ret_int (by rw [HR.out, drop_end (by rw [Hlen.out]; omega)]; rfl), HB0.out⟩

set_option maxHeartbeats 1000000 in
/-- SameDomains at equal lists -/
theorem rsameD_any (A B : Option Addr) (n c m d : Nat) (w : World) (ds es : List Dom) (hn : n ≤ 9223372036854775807) (hd : ∀ x ∈ ds, x.len ≤ 100000) (ha : DomsAt w w.heap.size A n ds) (hb : DomsAt w w.heap.size B m es) (he : ds.map Dom.say = es.map Dom.say) :
    Calls Tryd.prog 35 #[.slice A n c, .slice B m d] w (RetPost (.bool true) w.heap.size w) := by
  obtain rfl : n = m := by
    have h1 := ha.1.1
    have h2 := hb.1.1
    have h3 := congrArg List.length he
    simp at h3
    omega
  have HA := Lib.hid ha
  have HBB := Lib.hid hb
  have Hla := Eqn.mk ha.1.1
  have Hlb := Eqn.mk hb.1.1
  have HE := Eqn.mk he
  have HD := Lib.hid hd
  have h0 : ((n : Int) != (n : Int)) = false := by simp
  clear ha hb he hd
  go_enter Tryd.func35, Tryd.ntmps35
  go_wp2_with fail
  go_loopw [5] (fun i wr => ∃ k : Nat, k ≤ n ∧ i = .int .i64 k ∧ Below w.heap.size w wr) (fun i _ => n - (intOf i).toNat)
  case atStart => exact ⟨0, Nat.zero_le _, rfl, Below.refl _ _⟩
  case round =>
    obtain ⟨k, hk, rfl, hB⟩ := hrel
    have HB := Lib.hid hB
    by_cases hlt : k < n
    · obtain ⟨p, hp, _⟩ := drop_at (xs := ds) (k := k) (by rw [Hla.out]; exact hlt)
      obtain ⟨q, hq, _⟩ := drop_at (xs := es) (k := k) (by rw [Hlb.out]; exact hlt)
      have hpq : p.say = q.say := by
        have h1 : (ds.map Dom.say)[k]? = some p.say := by rw [List.getElem?_map, hp]; rfl
        rw [HE.out, List.getElem?_map, hq] at h1
        simpa using h1.symm
      obtain ⟨hs1, hs2⟩ := Prod.mk.inj hpq
      obtain ⟨b, off, hA, hbl, hc⟩ := (HA.out.below hB).1.2 (by omega)
      obtain ⟨b', off', hA', hbl', hc'⟩ := (HBB.out.below hB).1.2 (by omega)
      subst hA hA'
      have c0 := hc k p hp 0 (by omega)
      have c1 := hc k p hp 1 (by omega)
      have d0 := hc' k q hq 0 (by omega)
      have d1 := hc' k q hq 1 (by omega)
      simp only [Dom.cell, Nat.add_zero] at c0 c1 d0 d1
      have hbs := hB.size
      have hrp := ((HA.out.below hB).up hbs).2 p (List.mem_of_getElem? hp)
      have hrq := ((HBB.out.below hB).up hbs).2 q (List.mem_of_getElem? hq)
      have hpl := HD.out p (List.mem_of_getElem? hp)
      obtain ⟨st, adr, len, cap, chs⟩ := p
      obtain ⟨st', adr', len', cap', chs'⟩ := q
      dsimp only at *
      subst hs1 hs2
      have HSI : Hid (∀ W, Below wr.heap.size wr W → Calls Tryd.prog 70 #[.slice adr len cap, .slice adr' len' cap'] W fun e w' => e = .returned (.bool true) ∧ Below W.heap.size W w') := Lib.hid (fun W hW => by
        have := sameInts_any adr adr' len cap len' cap' W W.heap.size chs chs (by omega) (hrp.keep hW) (hrq.keep hW)
        rwa [sameL_refl] at this)
      have hne : (st != st) = false := by simp
      have hdr : Below wr.heap.size wr wr.drew := (Below.refl _ _).drew
      have HDR := Lib.hid hdr
      have j0 : (k : Int) < (n : Int) := by omega
      clear hc hc' hp hq hpq hB hrp hrq hpl hdr
      go_wp2_with fail
      refine Lx.region (C := fun X => Below wr.heap.size wr X) (hs := []) (by kernel_rfl) (by kernel_rfl) HDR.out ?_
      repeat' (first
        | (refine Lx.lex_no (Lx.n1 rfl rfl rfl (by with_reducible rfl)) (fun K hK => ?_); go_simp; skip; refine hK _ ?_; clear hK K)
        | (refine Lx.lex_no (Lx.n0 rfl rfl rfl (by with_reducible rfl)) (fun K hK => ?_); go_simp; skip; refine hK _ ?_; clear hK K)
        | (refine Lx.lex_no (Lx.n2 rfl rfl rfl) (fun K hK => ?_); go_simp; skip; refine hK _ ?_; clear hK K)
        | (refine Lx.lex_pure (v := ?_) rfl (by first | exact Lx.w0 rfl | exact Lx.w1 rfl rfl rfl (by with_reducible rfl)) ?_ (fun K hK => ?_); rotate_left 1; (intro w' hCw; (try dsimp only at hCw); go_simp; first | done | with_reducible rfl); go_simp; skip; refine hK _ ?_; clear hK K)
        | (refine Lx.lex_read (v := ?_) rfl (by first | exact Lx.w0 rfl | exact Lx.w1 rfl rfl rfl (by with_reducible rfl)) ?_ (fun K hK => ?_); rotate_left 1; (go_simp; first | done | with_reducible rfl); go_simp; skip; refine hK _ ?_; clear hK K)
        | (refine Lx.lex_eff rfl (by first | exact Lx.w0 rfl | exact Lx.w1 rfl rfl rfl (by with_reducible rfl)) (fun K hK => ?_); go_simp; (first | (go_at_call 70; refine (HSI.out _ HDR.out).mono ?_; rintro e Wx ⟨rfl, hbx⟩)); refine hK _ _ (by exact HDR.out.trans (hbx.mono HDR.out.size)) ?_; clear hK K))
      all_goals (refine Lx.lex_nil ?_)
      go_wp2_with fail
      go_roundw
      case rel => exact ⟨k + 1, by omega, by go_num, HB.out.trans ((HDR.out.trans (hbx.mono HDR.out.size)).mono HB.out.size)⟩
      case measure => simp [intOf]; omega
    · clear hB
      go_wp2_with fail
      go_ret
      exact ⟨rfl, HB.out⟩

theorem pair_neq (w : World) (a b c d e : Int) : (binOp .neq 73 (.agg #[.int .i64 a, .int .i64 b, .int .i64 c, .int .i64 d, .int .i64 e]) (.agg #[.int .i64 a, .int .i64 b, .int .i64 c, .int .i64 d, .int .i64 e])).run Tryd.prog w = .ok (.bool false) w := by
  have h1 : Tryd.prog.stoodInHeld 73 = false := by kernel_rfl
  have h2 : Tryd.prog.underlying 73 = some (.struct (Tryd.prog.fieldsOf 73)) := by simp only [Program.fieldsOf, Tryd.underlying73]
  have p0 : ∀ w', (part 3 #[.int .i64 a, .int .i64 b, .int .i64 c, .int .i64 d, .int .i64 e] 0).run Tryd.prog w' = .ok (.int .i64 a) w' := fun _ => by kernel_rfl
  have p1 : ∀ w', (part 3 #[.int .i64 a, .int .i64 b, .int .i64 c, .int .i64 d, .int .i64 e] 1).run Tryd.prog w' = .ok (.int .i64 b) w' := fun _ => by kernel_rfl
  have p2 : ∀ w', (part 3 #[.int .i64 a, .int .i64 b, .int .i64 c, .int .i64 d, .int .i64 e] 2).run Tryd.prog w' = .ok (.int .i64 c) w' := fun _ => by kernel_rfl
  have p3 : ∀ w', (part 3 #[.int .i64 a, .int .i64 b, .int .i64 c, .int .i64 d, .int .i64 e] 3).run Tryd.prog w' = .ok (.int .i64 d) w' := fun _ => by kernel_rfl
  have p4 : ∀ w', (part 3 #[.int .i64 a, .int .i64 b, .int .i64 c, .int .i64 d, .int .i64 e] 4).run Tryd.prog w' = .ok (.int .i64 e) w' := fun _ => by kernel_rfl
  rw [run_neq_struct, run_equalIn_agg w 9999 _ _ _ h2 h1]
  simp only [Program.fieldsOf, Tryd.underlying73, Op.eqFields]
  simp [Sem.run_bind, p0, p1, p2, p3, p4, run_equalIn_int (P := Tryd.prog) _ 9998 3 .i64 .i64 _ _ Tryd.underlying3]
theorem load_neq (w : World) (a b c d e : Int) : (binOp .neq 77 (.agg #[.int .i64 a, .int .i64 b, .int .i64 c, .int .i64 d, .int .i64 e]) (.agg #[.int .i64 a, .int .i64 b, .int .i64 c, .int .i64 d, .int .i64 e])).run Tryd.prog w = .ok (.bool false) w := by
  have h1 : Tryd.prog.stoodInHeld 77 = false := by kernel_rfl
  have h2 : Tryd.prog.underlying 77 = some (.struct (Tryd.prog.fieldsOf 77)) := by simp only [Program.fieldsOf, Tryd.underlying77]
  have p0 : ∀ w', (part 3 #[.int .i64 a, .int .i64 b, .int .i64 c, .int .i64 d, .int .i64 e] 0).run Tryd.prog w' = .ok (.int .i64 a) w' := fun _ => by kernel_rfl
  have p1 : ∀ w', (part 3 #[.int .i64 a, .int .i64 b, .int .i64 c, .int .i64 d, .int .i64 e] 1).run Tryd.prog w' = .ok (.int .i64 b) w' := fun _ => by kernel_rfl
  have p2 : ∀ w', (part 3 #[.int .i64 a, .int .i64 b, .int .i64 c, .int .i64 d, .int .i64 e] 2).run Tryd.prog w' = .ok (.int .i64 c) w' := fun _ => by kernel_rfl
  have p3 : ∀ w', (part 3 #[.int .i64 a, .int .i64 b, .int .i64 c, .int .i64 d, .int .i64 e] 3).run Tryd.prog w' = .ok (.int .i64 d) w' := fun _ => by kernel_rfl
  have p4 : ∀ w', (part 3 #[.int .i64 a, .int .i64 b, .int .i64 c, .int .i64 d, .int .i64 e] 4).run Tryd.prog w' = .ok (.int .i64 e) w' := fun _ => by kernel_rfl
  rw [run_neq_struct, run_equalIn_agg w 9999 _ _ _ h2 h1]
  simp only [Program.fieldsOf, Tryd.underlying77, Op.eqFields]
  simp [Sem.run_bind, p0, p1, p2, p3, p4, run_equalIn_int (P := Tryd.prog) _ 9998 3 .i64 .i64 _ _ Tryd.underlying3]
theorem cap_neq (w : World) (a b c d : Int) : (binOp .neq 79 (.agg #[.int .i64 a, .int .i64 b, .int .i64 c, .int .i64 d]) (.agg #[.int .i64 a, .int .i64 b, .int .i64 c, .int .i64 d])).run Tryd.prog w = .ok (.bool false) w := by
  have h1 : Tryd.prog.stoodInHeld 79 = false := by kernel_rfl
  have h2 : Tryd.prog.underlying 79 = some (.struct (Tryd.prog.fieldsOf 79)) := by simp only [Program.fieldsOf, Tryd.underlying79]
  have p0 : ∀ w', (part 3 #[.int .i64 a, .int .i64 b, .int .i64 c, .int .i64 d] 0).run Tryd.prog w' = .ok (.int .i64 a) w' := fun _ => by kernel_rfl
  have p1 : ∀ w', (part 3 #[.int .i64 a, .int .i64 b, .int .i64 c, .int .i64 d] 1).run Tryd.prog w' = .ok (.int .i64 b) w' := fun _ => by kernel_rfl
  have p2 : ∀ w', (part 3 #[.int .i64 a, .int .i64 b, .int .i64 c, .int .i64 d] 2).run Tryd.prog w' = .ok (.int .i64 c) w' := fun _ => by kernel_rfl
  have p3 : ∀ w', (part 3 #[.int .i64 a, .int .i64 b, .int .i64 c, .int .i64 d] 3).run Tryd.prog w' = .ok (.int .i64 d) w' := fun _ => by kernel_rfl
  rw [run_neq_struct, run_equalIn_agg w 9999 _ _ _ h2 h1]
  simp only [Program.fieldsOf, Tryd.underlying79, Op.eqFields]
  simp [Sem.run_bind, p0, p1, p2, p3, run_equalIn_int (P := Tryd.prog) _ 9998 3 .i64 .i64 _ _ Tryd.underlying3]

set_option maxRecDepth 100000 in
set_option maxHeartbeats 4000000 in
/-- SameRules at equal constraints -/
theorem rsameR_any (s t : RulS) (w : World) (r : Rul) (h : RulAt w w.heap.size s r) (g : RulAt w w.heap.size t r) : Calls Tryd.prog 36 #[s.val, t.val] w (RetPost (.bool true) w.heap.size w) := by
  obtain ⟨A0, n0, c0, A1, n1, c1, A2, n2, c2⟩ := s
  obtain ⟨E0, m0, f0, E1, m1, f1, E2, m2, f2⟩ := t
  obtain rfl : n0 = m0 := h.1.1.symm.trans g.1.1
  obtain rfl : n1 = m1 := h.2.1.1.symm.trans g.2.1.1
  obtain rfl : n2 = m2 := h.2.2.1.1.symm.trans g.2.2.1.1
  obtain ⟨W0, hW0⟩ : ∃ W0, W0 = (w.alloc (.cells #[.slice A0 n0 c0, .slice A1 n1 c1, .slice A2 n2 c2] 27)).alloc (.cells #[.slice E0 n0 f0, .slice E1 n1 f1, .slice E2 n2 f2] 27) := ⟨_, rfl⟩
  have HB0 : Hid (Below w.heap.size w W0) := Lib.hid (by rw [hW0]; exact ((Below.refl _ w).alloc (Nat.le_refl _) _).alloc (by simp) _)
  have h0 := h.keep HB0.out
  have g0 := g.keep HB0.out
  have hX : Blk W0 w.heap.size 27 [.slice A0 n0 c0, .slice A1 n1 c1, .slice A2 n2 c2] := by rw [hW0]; exact (blk_new w _ _).alloc _
  have hY : Blk W0 (w.heap.size + 1) 27 [.slice E0 n0 f0, .slice E1 n1 f1, .slice E2 n2 f2] := by
    rw [hW0]; have := blk_new (w.alloc (.cells #[.slice A0 n0 c0, .slice A1 n1 c1, .slice A2 n2 c2] 27)) [.slice E0 n0 f0, .slice E1 n1 f1, .slice E2 n2 f2] 27; rwa [World.size_alloc] at this
  have HX := Lib.hid hX
  have HY := Lib.hid hY
  have HBW : Hid (∀ W, Below W0.heap.size W0 W → Below w.heap.size w W) := Lib.hid (fun W hb => HB0.out.trans (hb.mono HB0.out.size))
  have HH := Lib.hid h0
  have HG := Lib.hid g0
  have HL : Hid (r.pairs.length = n0 ∧ r.loads.length = n1 ∧ r.caps.length = n2) := Lib.hid ⟨h0.1.1, h0.2.1.1, h0.2.2.1.1⟩
  have HZ : Hid (∀ W, Below W0.heap.size W0 W → W.cell? ⟨w.heap.size, 0, none⟩ = some (.slice A0 n0 c0) ∧ W.cell? ⟨w.heap.size, 1, none⟩ = some (.slice A1 n1 c1) ∧ W.cell? ⟨w.heap.size, 2, none⟩ = some (.slice A2 n2 c2) ∧ W.cell? ⟨w.heap.size + 1, 0, none⟩ = some (.slice E0 n0 f0) ∧ W.cell? ⟨w.heap.size + 1, 1, none⟩ = some (.slice E1 n1 f1) ∧ W.cell? ⟨w.heap.size + 1, 2, none⟩ = some (.slice E2 n2 f2)) := Lib.hid (fun W hb =>
    ⟨(HX.out.keep hb).cell rfl, (HX.out.keep hb).cell rfl, (HX.out.keep hb).cell rfl, (HY.out.keep hb).cell rfl, (HY.out.keep hb).cell rfl, (HY.out.keep hb).cell rfl⟩)
  have B0 := Lib.hid (Below.refl W0.heap.size W0)
  have l0 : n0 ≤ 9223372036854775807 := h.2.2.2.1
  have l1 : n1 ≤ 9223372036854775807 := h.2.2.2.2.1
  have l2 : n2 ≤ 9223372036854775807 := h.2.2.2.2.2
  have k0 : ((n0 : Int) != (n0 : Int)) = false := by simp
  have k1 : ((n1 : Int) != (n1 : Int)) = false := by simp
  have k2 : ((n2 : Int) != (n2 : Int)) = false := by simp
  obtain ⟨q0, q1, q2, q3, q4, q5⟩ := HZ.out _ B0.out
  clear h g h0 g0 hX hY
  unfold RulS.val
  dsimp only
  go_enter Tryd.func36, Tryd.ntmps36
  go_wp2_with fail
  rw [← hW0]
  clear hW0 q0 q1 q2 q3 q4 q5 k0 k1 k2
  go_loopw [5] (fun i wr => ∃ k : Nat, k ≤ n0 ∧ i = .int .i64 k ∧ Below W0.heap.size W0 wr) (fun i _ => n0 - (intOf i).toNat)
  case atStart => exact ⟨0, Nat.zero_le _, rfl, B0.out⟩
  case round =>
    obtain ⟨k, hk, rfl, hB⟩ := hrel
    have HB := Lib.hid hB
    obtain ⟨q0, q1, q2, q3, q4, q5⟩ := HZ.out _ hB
    by_cases hlt : k < n0
    · obtain ⟨p, hp, _⟩ := drop_at (xs := r.pairs) (k := k) (by rw [HL.out.1]; exact hlt)
      obtain ⟨b, off, hA, hbl, hc⟩ := (HH.out.1.below hB).2 (by dsimp only; omega)
      obtain ⟨b', off', hA', hbl', hc'⟩ := (HG.out.1.below hB).2 (by dsimp only; omega)
      dsimp only at hA hA'
      subst hA hA'
      have c0 := hc k p hp 0 (by omega)
      have d0 := hc' k p hp 0 (by omega)
      have c1 := hc k p hp 1 (by omega)
      have d1 := hc' k p hp 1 (by omega)
      have c2 := hc k p hp 2 (by omega)
      have d2 := hc' k p hp 2 (by omega)
      have c3 := hc k p hp 3 (by omega)
      have d3 := hc' k p hp 3 (by omega)
      have c4 := hc k p hp 4 (by omega)
      have d4 := hc' k p hp 4 (by omega)
      simp only [R5.cell, Nat.add_zero] at c0 d0 c1 d1 c2 d2 c3 d3 c4 d4
      have hne := fun w => pair_neq w p.a p.b p.c p.d p.e
      have j0 : (k : Int) < (n0 : Int) := by omega
      clear hc hc' hp hB
      go_wp2_with fail
      refine Lx.region (C := fun _ => True) (hs := []) (by kernel_rfl) (by kernel_rfl) trivial ?_
      repeat' (first
        | (refine Lx.lex_no (Lx.n1 rfl rfl rfl (by with_reducible rfl)) (fun K hK => ?_); go_simp; skip; refine hK _ ?_; clear hK K)
        | (refine Lx.lex_no (Lx.n0 rfl rfl rfl (by with_reducible rfl)) (fun K hK => ?_); go_simp; skip; refine hK _ ?_; clear hK K)
        | (refine Lx.lex_no (Lx.n2 rfl rfl rfl) (fun K hK => ?_); go_simp; skip; refine hK _ ?_; clear hK K)
        | (refine Lx.lex_pure (v := ?_) rfl (by first | exact Lx.w0 rfl | exact Lx.w1 rfl rfl rfl (by with_reducible rfl)) ?_ (fun K hK => ?_); rotate_left 1; (intro w' hCw; (try dsimp only at hCw); go_simp; first | done | with_reducible rfl); go_simp; skip; refine hK _ ?_; clear hK K)
        | (refine Lx.lex_read (v := ?_) rfl (by first | exact Lx.w0 rfl | exact Lx.w1 rfl rfl rfl (by with_reducible rfl)) ?_ (fun K hK => ?_); rotate_left 1; (go_simp; first | done | with_reducible rfl); go_simp; skip; refine hK _ ?_; clear hK K)
        | (refine Lx.lex_eff rfl (by first | exact Lx.w0 rfl | exact Lx.w1 rfl rfl rfl (by with_reducible rfl)) (fun K hK => ?_); go_simp; (first | fail); refine hK _ _ (trivial) ?_; clear hK K))
      all_goals (refine Lx.lex_nil ?_)
      go_wp2_with fail
      go_roundw
      case rel => exact ⟨k + 1, by omega, by go_num, HB.out.drew⟩
      case measure => simp [intOf]; omega
    · obtain rfl : k = n0 := by omega
      have HBN := Lib.hid hB
      obtain ⟨wo, rfl⟩ : ∃ wo : World, wo = wr := ⟨_, rfl⟩
      clear hB HB hlt hk
      go_wp2_with fail
      clear q0 q1 q2 q3 q4 q5
      go_loopw [6] (fun i wr => ∃ k : Nat, k ≤ n1 ∧ i = .int .i64 k ∧ Below W0.heap.size W0 wr) (fun i _ => n1 - (intOf i).toNat)
      case atStart => exact ⟨0, Nat.zero_le _, rfl, HBN.out⟩
      case round =>
        obtain ⟨k, hk, rfl, hB⟩ := hrel
        have HB := Lib.hid hB
        obtain ⟨q0, q1, q2, q3, q4, q5⟩ := HZ.out _ hB
        by_cases hlt : k < n1
        · obtain ⟨p, hp, _⟩ := drop_at (xs := r.loads) (k := k) (by rw [HL.out.2.1]; exact hlt)
          obtain ⟨b, off, hA, hbl, hc⟩ := (HH.out.2.1.below hB).2 (by dsimp only; omega)
          obtain ⟨b', off', hA', hbl', hc'⟩ := (HG.out.2.1.below hB).2 (by dsimp only; omega)
          dsimp only at hA hA'
          subst hA hA'
          have c0 := hc k p hp 0 (by omega)
          have d0 := hc' k p hp 0 (by omega)
          have c1 := hc k p hp 1 (by omega)
          have d1 := hc' k p hp 1 (by omega)
          have c2 := hc k p hp 2 (by omega)
          have d2 := hc' k p hp 2 (by omega)
          have c3 := hc k p hp 3 (by omega)
          have d3 := hc' k p hp 3 (by omega)
          have c4 := hc k p hp 4 (by omega)
          have d4 := hc' k p hp 4 (by omega)
          simp only [R5.cell, Nat.add_zero] at c0 d0 c1 d1 c2 d2 c3 d3 c4 d4
          have hne := fun w => load_neq w p.a p.b p.c p.d p.e
          have j0 : (k : Int) < (n1 : Int) := by omega
          clear hc hc' hp hB
          go_wp2_with fail
          refine Lx.region (C := fun _ => True) (hs := []) (by kernel_rfl) (by kernel_rfl) trivial ?_
          repeat' (first
            | (refine Lx.lex_no (Lx.n1 rfl rfl rfl (by with_reducible rfl)) (fun K hK => ?_); go_simp; skip; refine hK _ ?_; clear hK K)
            | (refine Lx.lex_no (Lx.n0 rfl rfl rfl (by with_reducible rfl)) (fun K hK => ?_); go_simp; skip; refine hK _ ?_; clear hK K)
            | (refine Lx.lex_no (Lx.n2 rfl rfl rfl) (fun K hK => ?_); go_simp; skip; refine hK _ ?_; clear hK K)
            | (refine Lx.lex_pure (v := ?_) rfl (by first | exact Lx.w0 rfl | exact Lx.w1 rfl rfl rfl (by with_reducible rfl)) ?_ (fun K hK => ?_); rotate_left 1; (intro w' hCw; (try dsimp only at hCw); go_simp; first | done | with_reducible rfl); go_simp; skip; refine hK _ ?_; clear hK K)
            | (refine Lx.lex_read (v := ?_) rfl (by first | exact Lx.w0 rfl | exact Lx.w1 rfl rfl rfl (by with_reducible rfl)) ?_ (fun K hK => ?_); rotate_left 1; (go_simp; first | done | with_reducible rfl); go_simp; skip; refine hK _ ?_; clear hK K)
            | (refine Lx.lex_eff rfl (by first | exact Lx.w0 rfl | exact Lx.w1 rfl rfl rfl (by with_reducible rfl)) (fun K hK => ?_); go_simp; (first | fail); refine hK _ _ (trivial) ?_; clear hK K))
          all_goals (refine Lx.lex_nil ?_)
          go_wp2_with fail
          go_roundw
          case rel => exact ⟨k + 1, by omega, by go_num, HB.out.drew⟩
          case measure => simp [intOf]; omega
        · obtain rfl : k = n1 := by omega
          have HBN := Lib.hid hB
          obtain ⟨wo, rfl⟩ : ∃ wo : World, wo = wr := ⟨_, rfl⟩
          clear hB HB hlt hk
          go_wp2_with fail
          clear q0 q1 q2 q3 q4 q5
          go_loopw [7] (fun i wr => ∃ k : Nat, k ≤ n2 ∧ i = .int .i64 k ∧ Below W0.heap.size W0 wr) (fun i _ => n2 - (intOf i).toNat)
          case atStart => exact ⟨0, Nat.zero_le _, rfl, HBN.out⟩
          case round =>
            obtain ⟨k, hk, rfl, hB⟩ := hrel
            have HB := Lib.hid hB
            obtain ⟨q0, q1, q2, q3, q4, q5⟩ := HZ.out _ hB
            by_cases hlt : k < n2
            · obtain ⟨p, hp, _⟩ := drop_at (xs := r.caps) (k := k) (by rw [HL.out.2.2]; exact hlt)
              obtain ⟨b, off, hA, hbl, hc⟩ := (HH.out.2.2.1.below hB).2 (by dsimp only; omega)
              obtain ⟨b', off', hA', hbl', hc'⟩ := (HG.out.2.2.1.below hB).2 (by dsimp only; omega)
              dsimp only at hA hA'
              subst hA hA'
              have c0 := hc k p hp 0 (by omega)
              have d0 := hc' k p hp 0 (by omega)
              have c1 := hc k p hp 1 (by omega)
              have d1 := hc' k p hp 1 (by omega)
              have c2 := hc k p hp 2 (by omega)
              have d2 := hc' k p hp 2 (by omega)
              have c3 := hc k p hp 3 (by omega)
              have d3 := hc' k p hp 3 (by omega)
              simp only [R4.cell, Nat.add_zero] at c0 d0 c1 d1 c2 d2 c3 d3
              have hne := fun w => cap_neq w p.a p.b p.c p.d
              have j0 : (k : Int) < (n2 : Int) := by omega
              clear hc hc' hp hB
              go_wp2_with fail
              refine Lx.region (C := fun _ => True) (hs := []) (by kernel_rfl) (by kernel_rfl) trivial ?_
              repeat' (first
                | (refine Lx.lex_no (Lx.n1 rfl rfl rfl (by with_reducible rfl)) (fun K hK => ?_); go_simp; skip; refine hK _ ?_; clear hK K)
                | (refine Lx.lex_no (Lx.n0 rfl rfl rfl (by with_reducible rfl)) (fun K hK => ?_); go_simp; skip; refine hK _ ?_; clear hK K)
                | (refine Lx.lex_no (Lx.n2 rfl rfl rfl) (fun K hK => ?_); go_simp; skip; refine hK _ ?_; clear hK K)
                | (refine Lx.lex_pure (v := ?_) rfl (by first | exact Lx.w0 rfl | exact Lx.w1 rfl rfl rfl (by with_reducible rfl)) ?_ (fun K hK => ?_); rotate_left 1; (intro w' hCw; (try dsimp only at hCw); go_simp; first | done | with_reducible rfl); go_simp; skip; refine hK _ ?_; clear hK K)
                | (refine Lx.lex_read (v := ?_) rfl (by first | exact Lx.w0 rfl | exact Lx.w1 rfl rfl rfl (by with_reducible rfl)) ?_ (fun K hK => ?_); rotate_left 1; (go_simp; first | done | with_reducible rfl); go_simp; skip; refine hK _ ?_; clear hK K)
                | (refine Lx.lex_eff rfl (by first | exact Lx.w0 rfl | exact Lx.w1 rfl rfl rfl (by with_reducible rfl)) (fun K hK => ?_); go_simp; (first | fail); refine hK _ _ (trivial) ?_; clear hK K))
              all_goals (refine Lx.lex_nil ?_)
              go_wp2_with fail
              go_roundw
              case rel => exact ⟨k + 1, by omega, by go_num, HB.out.drew⟩
              case measure => simp [intOf]; omega
            · obtain rfl : k = n2 := by omega
              clear hB hlt hk
              go_wp2_with fail
              go_ret
              exact ⟨rfl, HBW.out _ HB.out⟩

set_option maxHeartbeats 1000000 in
/-- Same at equal problems -/
theorem rsame_any (s t : PrbS) (w : World) (ds es : List Dom) (r : Rul) (hn : s.nd ≤ 9223372036854775807) (hd : ∀ x ∈ ds, x.len ≤ 100000) (h : PrbAt w w.heap.size s ds r) (g : PrbAt w w.heap.size t es r) (he : ds.map Dom.say = es.map Dom.say) :
    Calls Tryd.prog 13 #[s.val, t.val] w (RetPost (.bool true) w.heap.size w) := by
  obtain ⟨A, n, c, ⟨A0, n0, c0, A1, n1, c1, A2, n2, c2⟩⟩ := s
  obtain ⟨E, m, f, ⟨E0, m0, f0, E1, m1, f1, E2, m2, f2⟩⟩ := t
  obtain ⟨W0, hW0⟩ : ∃ W0, W0 = (w.alloc (.cells #[.slice A n c, .slice A0 n0 c0, .slice A1 n1 c1, .slice A2 n2 c2] 29)).alloc (.cells #[.slice E m f, .slice E0 m0 f0, .slice E1 m1 f1, .slice E2 m2 f2] 29) := ⟨_, rfl⟩
  have HB0 : Hid (Below w.heap.size w W0) := Lib.hid (by rw [hW0]; exact ((Below.refl _ w).alloc (Nat.le_refl _) _).alloc (by simp) _)
  have hX : Blk W0 w.heap.size 29 [.slice A n c, .slice A0 n0 c0, .slice A1 n1 c1, .slice A2 n2 c2] := by rw [hW0]; exact (blk_new w _ _).alloc _
  have hY : Blk W0 (w.heap.size + 1) 29 [.slice E m f, .slice E0 m0 f0, .slice E1 m1 f1, .slice E2 m2 f2] := by
    rw [hW0]; have := blk_new (w.alloc (.cells #[.slice A n c, .slice A0 n0 c0, .slice A1 n1 c1, .slice A2 n2 c2] 29)) [.slice E m f, .slice E0 m0 f0, .slice E1 m1 f1, .slice E2 m2 f2] 29; rwa [World.size_alloc] at this
  have HX := Lib.hid hX
  have HY := Lib.hid hY
  have HSD := Lib.hid (rsameD_any A E n c m f W0 ds es hn hd (h.1.keep HB0.out) (g.1.keep HB0.out) he)
  have HSR : Hid (∀ W, Below W0.heap.size W0 W → Calls Tryd.prog 36 #[.agg #[.slice A0 n0 c0, .slice A1 n1 c1, .slice A2 n2 c2], .agg #[.slice E0 m0 f0, .slice E1 m1 f1, .slice E2 m2 f2]] W (RetPost (.bool true) W.heap.size W)) :=
    Lib.hid (fun W hW => rsameR_any ⟨A0, n0, c0, A1, n1, c1, A2, n2, c2⟩ ⟨E0, m0, f0, E1, m1, f1, E2, m2, f2⟩ W r ((h.2.keep HB0.out).keep hW) ((g.2.keep HB0.out).keep hW))
  have q0 : W0.cell? ⟨w.heap.size, 0, none⟩ = some (.slice A n c) := hX.cell rfl
  have q1 : W0.cell? ⟨w.heap.size + 1, 0, none⟩ = some (.slice E m f) := hY.cell rfl
  unfold PrbS.val
  dsimp only
  clear h g hd he hX hY
  go_enter Tryd.func13, Tryd.ntmps13
  go_wp2_with fail
  rw [← hW0]
  clear hW0
  refine HSD.out.mono ?_
  rintro e W1 ⟨rfl, hb1⟩
  have hX1 := HX.out.keep hb1
  have hY1 := HY.out.keep hb1
  have x1 : W1.cell? ⟨w.heap.size, 1, none⟩ = some (.slice A0 n0 c0) := hX1.cell rfl
  have x2 : W1.cell? ⟨w.heap.size, 2, none⟩ = some (.slice A1 n1 c1) := hX1.cell rfl
  have x3 : W1.cell? ⟨w.heap.size, 3, none⟩ = some (.slice A2 n2 c2) := hX1.cell rfl
  have y1 : W1.cell? ⟨w.heap.size + 1, 1, none⟩ = some (.slice E0 m0 f0) := hY1.cell rfl
  have y2 : W1.cell? ⟨w.heap.size + 1, 2, none⟩ = some (.slice E1 m1 f1) := hY1.cell rfl
  have y3 : W1.cell? ⟨w.heap.size + 1, 3, none⟩ = some (.slice E2 m2 f2) := hY1.cell rfl
  have HB1 := Lib.hid hb1
  clear hX1 hY1 hb1 q0 q1
  go_wp2_with fail
  refine (HSR.out _ HB1.out).mono ?_
  rintro e W2 ⟨rfl, hb2⟩
  go_wp2_with fail
  go_ret
  exact ⟨rfl, HB0.out.trans ((HB1.out.trans (hb2.mono HB1.out.size)).mono HB0.out.size)⟩

/-- Small: at most some domains, and some constraints of each kind -/
def smallF (ds : List Dom) (r : Rul) (d k : Int) : Bool := (ds.take 600).all (fun x => decide (x.len ≤ 60)) && decide ((ds.length : Int) ≤ d) && decide ((r.pairs.length : Int) ≤ k) && decide ((r.loads.length : Int) ≤ k) && decide ((r.caps.length : Int) ≤ k)
def smGo (l : List Dom) : Bool := match l with | [] => true | x :: r => if 60 < x.len then false else smGo r
theorem smGo_all (l : List Dom) : smGo l = l.all (fun x => decide (x.len ≤ 60)) := by
  induction l with
  | nil => rfl
  | cons x r ih =>
    rw [smGo, List.all_cons, ih]
    by_cases h : 60 < x.len
    · rw [if_pos h]; simp [show ¬ x.len ≤ 60 by omega]
    · rw [if_neg h]; simp [show x.len ≤ 60 by omega]
end Go.Proofs.YtpdhelhngdeoeaaDoor

/- The reference of layer 17: station, span, PairOf, LoadOf, CapOf, Less. -/
namespace Go.Proofs.YtpdhelhngdeoeaaDoor
open Go.RowKit

theorem rst_any (n : Int) (w : World) : Calls Tryd.prog 34 #[.int .i64 n] w fun e w' => e = .returned (.bool (stF n)) ∧ w = w' := by
  unfold stF
  by_cases h1 : 0 ≤ n
  · go_enter Tryd.func34, Tryd.ntmps34
    go_wp2
    go_ret
    exact ⟨ret_bool (by first | (simp; omega) | simp [h1]), rfl⟩
  · go_enter Tryd.func34, Tryd.ntmps34
    go_wp2
    go_ret
    exact ⟨ret_bool (by first | (simp; omega) | simp [h1]), rfl⟩
theorem rsp_any (lo hi : Int) (w : World) : Calls Tryd.prog 38 #[.int .i64 lo, .int .i64 hi] w fun e w' => e = .returned (.bool (spF lo hi)) ∧ w = w' := by
  unfold spF
  by_cases h1 : 2 ≤ lo
  · by_cases h2 : lo ≤ hi
    · go_enter Tryd.func38, Tryd.ntmps38
      go_wp2
      go_ret
      exact ⟨ret_bool (by first | (simp; omega) | simp [h1, h2]), rfl⟩
    · go_enter Tryd.func38, Tryd.ntmps38
      go_wp2
      go_ret
      exact ⟨ret_bool (by first | (simp; omega) | simp [h1, h2]), rfl⟩
  · go_enter Tryd.func38, Tryd.ntmps38
    go_wp2
    go_ret
    exact ⟨ret_bool (by first | (simp; omega) | simp [h1]), rfl⟩

/-- what PairOf, LoadOf and CapOf leave: the numbers in a row of their own -/
def NumsPost (l : List Int) (w : World) (e : Ending) (w' : World) : Prop := e = .returned (.slice (some ⟨w.heap.size + 1, 0, none⟩) l.length l.length) ∧ Row1 intV w' w'.heap.size (some ⟨w.heap.size + 1, 0, none⟩) l.length l ∧ Below w.heap.size w w'
theorem rPairOf_any (x : R5) (w : World) : Calls Tryd.prog 40 #[x.val] w (NumsPost x.nums w) := by
  have hr := row1_new (w.alloc (.cells #[.int .i64 x.a, .int .i64 x.b, .int .i64 x.c, .int .i64 x.d, .int .i64 x.e] 73)) intV 3 x.nums
  rw [World.size_alloc] at hr
  have HR : Hid (Row1 intV ((w.alloc (.cells #[.int .i64 x.a, .int .i64 x.b, .int .i64 x.c, .int .i64 x.d, .int .i64 x.e] 73)).alloc (.cells (x.nums.map intV).toArray 3)) (w.heap.size + 1 + 1) (some ⟨w.heap.size + 1, 0, none⟩) x.nums.length x.nums) := Lib.hid hr
  clear hr
  unfold R5.val
  unfold R5.nums at HR
  unfold R5.nums
  go_enter Tryd.func40, Tryd.ntmps40
  go_wp2
  go_ret
  refine ⟨rfl, HR.out.up (by simp), ((Below.refl _ w).alloc (Nat.le_refl _) _).alloc (by simp) _⟩
theorem rLoadOf_any (x : R5) (w : World) : Calls Tryd.prog 41 #[x.val] w (NumsPost x.nums w) := by
  have hr := row1_new (w.alloc (.cells #[.int .i64 x.a, .int .i64 x.b, .int .i64 x.c, .int .i64 x.d, .int .i64 x.e] 77)) intV 3 x.nums
  rw [World.size_alloc] at hr
  have HR : Hid (Row1 intV ((w.alloc (.cells #[.int .i64 x.a, .int .i64 x.b, .int .i64 x.c, .int .i64 x.d, .int .i64 x.e] 77)).alloc (.cells (x.nums.map intV).toArray 3)) (w.heap.size + 1 + 1) (some ⟨w.heap.size + 1, 0, none⟩) x.nums.length x.nums) := Lib.hid hr
  clear hr
  unfold R5.val
  unfold R5.nums at HR
  unfold R5.nums
  go_enter Tryd.func41, Tryd.ntmps41
  go_wp2
  go_ret
  refine ⟨rfl, HR.out.up (by simp), ((Below.refl _ w).alloc (Nat.le_refl _) _).alloc (by simp) _⟩
theorem rCapOf_any (x : R4) (w : World) : Calls Tryd.prog 42 #[x.val] w (NumsPost x.nums w) := by
  have hr := row1_new (w.alloc (.cells #[.int .i64 x.a, .int .i64 x.b, .int .i64 x.c, .int .i64 x.d] 79)) intV 3 x.nums
  rw [World.size_alloc] at hr
  have HR : Hid (Row1 intV ((w.alloc (.cells #[.int .i64 x.a, .int .i64 x.b, .int .i64 x.c, .int .i64 x.d] 79)).alloc (.cells (x.nums.map intV).toArray 3)) (w.heap.size + 1 + 1) (some ⟨w.heap.size + 1, 0, none⟩) x.nums.length x.nums) := Lib.hid hr
  clear hr
  unfold R4.val
  unfold R4.nums at HR
  unfold R4.nums
  go_enter Tryd.func42, Tryd.ntmps42
  go_wp2
  go_ret
  refine ⟨rfl, HR.out.up (by simp), ((Below.refl _ w).alloc (Nat.le_refl _) _).alloc (by simp) _⟩

theorem lessL_cons (x y : Int) (r t : List Int) : lessL (x :: r) (y :: t) = if x ≠ y then decide (x < y) else lessL r t := rfl
set_option maxHeartbeats 1000000 in
theorem rless_any (A B : Option Addr) (n m c d : Nat) (a b : List Int) (w : World) (hn : n ≤ 1000) (ha : Row1 intV w w.heap.size A n a) (hb : Row1 intV w w.heap.size B m b) (hnm : n = m) :
    Calls Tryd.prog 39 #[.slice A n c, .slice B m d] w (RetPost (.bool (lessL a b)) w.heap.size w) := by
  have Ha := Lib.hid ha
  have Hb := Lib.hid hb
  subst hnm
  have Hal := Eqn.mk ha.1
  have Hbl := Eqn.mk hb.1
  clear ha hb
  go_enter Tryd.func39, Tryd.ntmps39
  go_wp2_with fail
  go_loopw [5] (fun i wr => ∃ k : Nat, k ≤ n ∧ i = .int .i64 k ∧ Eqn (lessL a b) (lessL (a.drop k) (b.drop k)) ∧ Below w.heap.size w wr) (fun i _ => n - (intOf i).toNat)
  case atStart => exact ⟨0, Nat.zero_le _, rfl, rfl, Below.refl _ _⟩
  case round =>
    obtain ⟨k, hk, rfl, HR, hB⟩ := hrel
    have HB := Lib.hid hB
    have hbs := hB.size
    by_cases hlt : k < n
    · obtain ⟨p, hp, hpd⟩ := drop_at (xs := a) (k := k) (by rw [Hal.out]; exact hlt)
      obtain ⟨q, hq, hqd⟩ := drop_at (xs := b) (k := k) (by rw [Hbl.out]; exact hlt)
      obtain ⟨ab, ao, hA, hal, hca⟩ := (Ha.out.below hB).2 (by omega)
      obtain ⟨bb, bo, hBB, hbl, hcb⟩ := (Hb.out.below hB).2 (by omega)
      subst hA
      subst hBB
      have c0 := hca k p hp
      have d0 := hcb k q hq
      simp only [intV] at c0 d0
      have HR2 := HR.out
      rw [hpd, hqd, lessL_cons] at HR2
      have HRR := Eqn.mk HR2
      have j0 : (k : Int) < (n : Int) := by omega
      clear hca hcb hp hpd hq hqd HR HR2 hB
      by_cases hpq : p = q
      · have HE := Eqn.mk (HRR.out.trans (if_neg (by simp [hpq])))
        have hd : (p != q) = false := by simp [hpq]
        clear HRR hpq
        go_wp2_with fail
        refine Lx.region (C := fun _ => True) (hs := []) (by kernel_rfl) (by kernel_rfl) trivial ?_
        repeat' (first
          | (refine Lx.lex_no (Lx.n1 rfl rfl rfl (by with_reducible rfl)) (fun K hK => ?_); go_simp; skip; refine hK _ ?_; clear hK K)
          | (refine Lx.lex_no (Lx.n0 rfl rfl rfl (by with_reducible rfl)) (fun K hK => ?_); go_simp; skip; refine hK _ ?_; clear hK K)
          | (refine Lx.lex_no (Lx.n2 rfl rfl rfl) (fun K hK => ?_); go_simp; skip; refine hK _ ?_; clear hK K)
          | (refine Lx.lex_pure (v := ?_) rfl (by first | exact Lx.w0 rfl | exact Lx.w1 rfl rfl rfl (by with_reducible rfl)) ?_ (fun K hK => ?_); rotate_left 1; (intro w' hCw; (try dsimp only at hCw); go_simp; first | done | with_reducible rfl); go_simp; skip; refine hK _ ?_; clear hK K)
          | (refine Lx.lex_read (v := ?_) rfl (by first | exact Lx.w0 rfl | exact Lx.w1 rfl rfl rfl (by with_reducible rfl)) ?_ (fun K hK => ?_); rotate_left 1; (go_simp; first | done | with_reducible rfl); go_simp; skip; refine hK _ ?_; clear hK K)
          | (refine Lx.lex_eff rfl (by first | exact Lx.w0 rfl | exact Lx.w1 rfl rfl rfl (by with_reducible rfl)) (fun K hK => ?_); go_simp; (first | fail); refine hK _ _ (trivial) ?_; clear hK K))
        all_goals (refine Lx.lex_nil ?_)
        go_wp2_with fail
        go_roundw
        case rel => exact ⟨k + 1, by omega, by go_num, HE, HB.out.drew⟩
        case measure => simp [intOf]; omega
      · have HE := Eqn.mk (HRR.out.trans (if_pos hpq))
        have hd : (p != q) = true := by simp [hpq]
        clear HRR hpq
        go_wp2_with fail
        refine Lx.region (C := fun _ => True) (hs := []) (by kernel_rfl) (by kernel_rfl) trivial ?_
        repeat' (first
          | (refine Lx.lex_no (Lx.n1 rfl rfl rfl (by with_reducible rfl)) (fun K hK => ?_); go_simp; skip; refine hK _ ?_; clear hK K)
          | (refine Lx.lex_no (Lx.n0 rfl rfl rfl (by with_reducible rfl)) (fun K hK => ?_); go_simp; skip; refine hK _ ?_; clear hK K)
          | (refine Lx.lex_no (Lx.n2 rfl rfl rfl) (fun K hK => ?_); go_simp; skip; refine hK _ ?_; clear hK K)
          | (refine Lx.lex_pure (v := ?_) rfl (by first | exact Lx.w0 rfl | exact Lx.w1 rfl rfl rfl (by with_reducible rfl)) ?_ (fun K hK => ?_); rotate_left 1; (intro w' hCw; (try dsimp only at hCw); go_simp; first | done | with_reducible rfl); go_simp; skip; refine hK _ ?_; clear hK K)
          | (refine Lx.lex_read (v := ?_) rfl (by first | exact Lx.w0 rfl | exact Lx.w1 rfl rfl rfl (by with_reducible rfl)) ?_ (fun K hK => ?_); rotate_left 1; (go_simp; first | done | with_reducible rfl); go_simp; skip; refine hK _ ?_; clear hK K)
          | (refine Lx.lex_eff rfl (by first | exact Lx.w0 rfl | exact Lx.w1 rfl rfl rfl (by with_reducible rfl)) (fun K hK => ?_); go_simp; (first | fail); refine hK _ _ (trivial) ?_; clear hK K))
        all_goals (refine Lx.lex_nil ?_)
        go_wp2_with fail
        refine Lx.region (C := fun _ => True) (hs := []) (by kernel_rfl) (by kernel_rfl) trivial ?_
        repeat' (first
          | (refine Lx.lex_no (Lx.n1 rfl rfl rfl (by with_reducible rfl)) (fun K hK => ?_); go_simp; skip; refine hK _ ?_; clear hK K)
          | (refine Lx.lex_no (Lx.n0 rfl rfl rfl (by with_reducible rfl)) (fun K hK => ?_); go_simp; skip; refine hK _ ?_; clear hK K)
          | (refine Lx.lex_no (Lx.n2 rfl rfl rfl) (fun K hK => ?_); go_simp; skip; refine hK _ ?_; clear hK K)
          | (refine Lx.lex_pure (v := ?_) rfl (by first | exact Lx.w0 rfl | exact Lx.w1 rfl rfl rfl (by with_reducible rfl)) ?_ (fun K hK => ?_); rotate_left 1; (intro w' hCw; (try dsimp only at hCw); go_simp; first | done | with_reducible rfl); go_simp; skip; refine hK _ ?_; clear hK K)
          | (refine Lx.lex_read (v := ?_) rfl (by first | exact Lx.w0 rfl | exact Lx.w1 rfl rfl rfl (by with_reducible rfl)) ?_ (fun K hK => ?_); rotate_left 1; (go_simp; first | done | with_reducible rfl); go_simp; skip; refine hK _ ?_; clear hK K)
          | (refine Lx.lex_eff rfl (by first | exact Lx.w0 rfl | exact Lx.w1 rfl rfl rfl (by with_reducible rfl)) (fun K hK => ?_); go_simp; (first | fail); refine hK _ _ (trivial) ?_; clear hK K))
        all_goals (refine Lx.lex_nil ?_)
        go_wp2_with fail
        go_ret
        exact ⟨ret_bool HE.out.symm, HB.out.drew.drew⟩
    · obtain rfl : k = n := by omega
      clear hB
      go_wp2_with fail
      go_ret
      refine ⟨ret_bool ?_, HB.out⟩
      rw [HR.out, drop_end (by rw [Hal.out]; omega)]
      rfl
end Go.Proofs.YtpdhelhngdeoeaaDoor

namespace Go.Proofs.YtpdhelhngdeoeaaDoor
open Go.RowKit

def prevR {α : Type} (l : List α) (k : Nat) : Option α := if k = 0 then none else l[k - 1]?
theorem prevR_zero {α : Type} (l : List α) : prevR l 0 = none := rfl
theorem prevR_succ {α : Type} (l : List α) (k : Nat) : prevR l (k + 1) = l[k]? := by unfold prevR; rw [if_neg (by omega), Nat.add_sub_cancel]
theorem goF_cons {α : Type} (good : α → Bool) (nums : α → List Int) (prev : Option α) (x : α) (r : List α) : goF good nums prev (x :: r) = if good x && (match prev with | none => true | some y => lessL (nums y) (nums x)) then goF good nums (some x) r else false := rfl
theorem goF_bad {α : Type} {good : α → Bool} {nums : α → List Int} {prev : Option α} {x : α} {r : List α} (h : good x = false) : goF good nums prev (x :: r) = false := by rw [goF_cons, h]; simp
theorem goF_first {α : Type} {good : α → Bool} {nums : α → List Int} {x : α} {r : List α} (h : good x = true) : goF good nums none (x :: r) = goF good nums (some x) r := by rw [goF_cons, h]; simp
theorem goF_less {α : Type} {good : α → Bool} {nums : α → List Int} {x y : α} {r : List α} (h : good x = true) (h2 : lessL (nums y) (nums x) = true) : goF good nums (some y) (x :: r) = goF good nums (some x) r := by rw [goF_cons, h]; simp [h2]
theorem goF_not {α : Type} {good : α → Bool} {nums : α → List Int} {x y : α} {r : List α} (h2 : lessL (nums y) (nums x) = false) : goF good nums (some y) (x :: r) = false := by rw [goF_cons]; simp [h2]


/-- the loops of a code, in their order -/
def loopsOf : Code → List Code
  | .loop c => c :: loopsOf c
  | .seq a b => loopsOf a ++ loopsOf b
  | .block _ c => loopsOf c
  | .cond _ a b => loopsOf a ++ loopsOf b
  | _ => []
noncomputable def rvLoop (k : Nat) : Code := ((Tryd.f17.body.map loopsOf).getD []).getD k .skip
theorem cell_lt {w : World} {a : Addr} {v : Value} (h : w.cell? a = some v) : a.block < w.heap.size := by
  unfold World.cell? at h
  cases hh : w.heap[a.block]? with
  | none => simp [hh] at h
  | some o => exact (Array.getElem?_eq_some_iff.1 hh).1

end Go.Proofs.YtpdhelhngdeoeaaDoor
