/- The contract of band.Problem. -/
import Derived.Test.YtpdhelhngdeoeaaDoorLim06
namespace Go.Proofs.YtpdhelhngdeoeaaDoor
open Go.RowKit

section
variable {W1 W W' : World} {g8 g9 S : Nat} {v : PrbV} {x : PrbL}
/-- a store into a box of a domain of the call's own -/
theorem PSt.other (h : PSt W1 g8 g9 v x S W) {g : Nat} {s : List Value} (hb : Blk W g 65 s) (hg : W1.heap.size ≤ g) (hne : some g ≠ v.d.ownBlock) (i : Nat) (u : Value) : PSt W1 g8 g9 v x S (W.setCell ⟨g, i, none⟩ u) := by
  obtain ⟨h1, h2, h3, h4, h5, h6, h7, h8, h9, h10⟩ := h
  have e8 : g ≠ g8 := by
    rintro rfl
    have := (show W.heap[g]? = _ from h4).symm.trans hb
    simp at this
  have e9 : g ≠ g9 := by
    rintro rfl
    have := (show W.heap[g]? = _ from h5).symm.trans hb
    simp at this
  exact ⟨h1.setCell (p := ⟨g, i, none⟩) hg _, h2, h3, h4.other _ _ e8, h5.other _ _ e9, own_same h6 (fun k hk => Below.heap_setCell _ _ _ _ (fun e2 => by subst e2; exact hne hk.symm)), fun d hd => row_set (h7 d hd) hb (by decide) _ _, row_set h8 hb (by decide) _ _, row_set h9 hb (by decide) _ _, row_set h10 hb (by decide) _ _⟩
end
theorem cells_newN (w : World) (cs : List Value) (t : TypeId) : ∀ (j : Nat) (u : Value), cs[j]? = some u → (w.alloc (.cells cs.toArray t)).cell? ((⟨w.heap.size, 0, none⟩ : Addr).add j) = some u := by
  intro j u h
  have h2 : ((⟨w.heap.size, 0, none⟩ : Addr).add j) = ⟨w.heap.size, j, none⟩ := by unfold Addr.add; split <;> simp_all
  rw [h2]
  exact (blk_new w cs t).cell h
theorem dom_info : (Tryd.prog.info? 65).map (fun i => (i.zero, i.size, i.bytes)) = some (some (.agg #[.int .i64 0, .slice none 0 0]), 2, 32) := by kernel_rfl
theorem grown_setc (W : World) (g i : Nat) (u : Value) : W.grownBy (W.setCell ⟨g, i, none⟩ u) (some g) := ⟨rfl, rfl, rfl, by simp, fun k _ hne => Below.heap_setCell _ _ _ _ (fun e => hne (by rw [e]))⟩
theorem grown_set8 (W : World) (g S : Nat) : W.grownBy (set8 W g S) (some g) :=
  grown_step (grown_step (grown_step (grown_step (grown_step (grown_step (grown_step (grown_setc W g 0 _) (grown_setc _ g 1 _) (.inl rfl)) (grown_setc _ g 2 _) (.inl rfl)) (grown_setc _ g 3 _) (.inl rfl)) (grown_setc _ g 4 _) (.inl rfl)) (grown_setc _ g 5 _) (.inl rfl)) (grown_setc _ g 6 _) (.inl rfl)) (grown_setc _ g 7 _) (.inl rfl)
def nilS : Value := .slice none 0 0
def domOf (t : Int) (d : Dom) : Int × List Int := (d.st, d.chs.flatMap fun b => (chF b t).1)
/-- the set of some stations -/
def stS (l : List Int) : Nat := l.foldl (fun a i => a ||| 2 ^ i.toNat) 0
theorem stS_snoc (l : List Int) (i : Int) : stS (l ++ [i]) = stS l ||| 2 ^ i.toNat := by unfold stS; rw [List.foldl_append]; rfl
theorem chF_len (b t : Int) : (chF b t).1.length ≤ 38 := by
  unfold chF
  split
  · simp
  · have h1 := List.length_filter_le (leftP t) (upto (bandN b).1 (bandN b).2)
    rw [upto_len] at h1
    have h2 : (bandN b).2 ≤ 38 := by
      unfold bandN
      split
      · decide
      · split
        · decide
        · split <;> decide
    exact Nat.le_trans h1 h2
theorem vbGo_st : ∀ (l : List Dom) (prev : Option Int), vbGo prev l = true → ∀ d ∈ l, 0 ≤ d.st ∧ d.st < 512 := by
  intro l
  induction l with
  | nil => intro _ _ d h; cases h
  | cons e r ih =>
    intro prev h d hd
    rw [vbGo] at h
    split at h
    · cases h
    · rename_i hb
      split at h
      · rcases List.mem_cons.1 hd with rfl | hd
        · exact ⟨Int.not_lt.1 (fun h1 => hb (.inl h1)), Int.not_le.1 (fun h1 => hb (.inr (.inl h1)))⟩
        · exact ih _ h d hd
      · cases h
structure PrbS where
  ad : Option Addr
  nd : Nat
  cd : Nat
  rs : RulS
def PrbS.val (s : PrbS) : Value := .agg #[.slice s.ad s.nd s.cd, .slice s.rs.a0 s.rs.n0 s.rs.c0, .slice s.rs.a1 s.rs.n1 s.rs.c1, .slice s.rs.a2 s.rs.n2 s.rs.c2]
def PrbAt (w : World) (D : Nat) (s : PrbS) (ds : List Dom) (r : Rul) : Prop := DomsAt w D s.ad s.nd ds ∧ RulAt w D s.rs r
/-- what band.Problem answers: the domains, the constraints, the error -/
def probF (ds : List Dom) (r : Rul) (t : Int) : (List (Int × List Int) × Rul) × Int :=
  if vbGo none ds = true ∧ rulesF r = true ∧ vldT t = true then ((ds.map (domOf t), ⟨r.pairs.filter (fun c => hasS (stS (ds.map Dom.st)) c.a && hasS (stS (ds.map Dom.st)) c.b), r.loads.filter (fun c => hasS (stS (ds.map Dom.st)) c.a && hasS (stS (ds.map Dom.st)) c.b), r.caps.filter (fun c => hasS (stS (ds.map Dom.st)) c.a)⟩), 0) else (([], ⟨[], [], []⟩), 2)
def PrbPost (o : (List (Int × List Int) × Rul) × Int) (w : World) (e : Ending) (w' : World) : Prop := ∃ s ds, e = .returned (.tuple #[s.val, .int .i64 o.2]) ∧ PrbAt w' w'.heap.size s ds o.1.2 ∧ ds.map Dom.say = o.1.1 ∧ Below w.heap.size w w'

theorem rowS_own {α : Type} {sz : Nat} {f : α → Nat → Value} {w : World} {base e n c : Nat} {A : Option Addr} {xs : List α} (hsz : 0 < sz) (h : w.ownsRow base e sz (.slice A n c) n (flat sz f xs)) : RowS sz f w w.heap.size A n xs := by
  obtain ⟨A', c', he, hr⟩ := own_formS hsz h
  cases he
  exact hr
theorem row1_own {w : World} {base e n c : Nat} {A : Option Addr} {xs : List Int} (h : w.ownsRow base e 1 (.slice A n c) n (xs.map intV)) : Row1 intV w w.heap.size A n xs := by
  obtain ⟨A', c', he, hr⟩ := row1_of_own h
  cases he
  exact hr
theorem pair_info : (Tryd.prog.info? 73).map (fun i => (i.zero, i.size, i.bytes)) = some (some (.agg #[.int .i64 0, .int .i64 0, .int .i64 0, .int .i64 0, .int .i64 0]), 5, 40) := by kernel_rfl
theorem load_info : (Tryd.prog.info? 77).map (fun i => (i.zero, i.size, i.bytes)) = some (some (.agg #[.int .i64 0, .int .i64 0, .int .i64 0, .int .i64 0, .int .i64 0]), 5, 40) := by kernel_rfl
theorem cap_info : (Tryd.prog.info? 79).map (fun i => (i.zero, i.size, i.bytes)) = some (some (.agg #[.int .i64 0, .int .i64 0, .int .i64 0, .int .i64 0]), 4, 32) := by kernel_rfl
theorem rules_len {r : Rul} (h : rulesF r = true) : r.pairs.length ≤ 4096 ∧ r.loads.length ≤ 1024 ∧ r.caps.length ≤ 1024 := by
  simp only [rulesF, Bool.and_eq_true, decide_eq_true_eq] at h
  omega
theorem filter_take {α : Type} (f : α → Bool) (l : List α) (m : Nat) (x : α) (h : l[m]? = some x) : (l.take (m + 1)).filter f = (l.take m).filter f ++ (if f x then [x] else []) := by
  rw [List.take_add_one, h, List.filter_append]
  simp [List.filter_cons]

set_option maxRecDepth 100000 in
set_option maxHeartbeats 8000000 in
theorem problem_main (A : Option Addr) (n c : Nat) (s : RulS) (t : Int) (w : World) (ds : List Dom) (r : Rul) (hn : n ≤ 1000) (hd : ∀ d ∈ ds, d.len ≤ 100) (hl : DomsAt w w.heap.size A n ds) (hr : RulAt w w.heap.size s r)
    (hv : vbGo none ds = true) (hq : rulesF r = true) (ht : vldT t = true) :
    Calls Tryd.prog 19 #[.slice A n c, s.val, .agg #[.int .i64 t]] w (PrbPost ((ds.map (domOf t), ⟨r.pairs.filter (fun c => hasS (stS (ds.map Dom.st)) c.a && hasS (stS (ds.map Dom.st)) c.b), r.loads.filter (fun c => hasS (stS (ds.map Dom.st)) c.a && hasS (stS (ds.map Dom.st)) c.b), r.caps.filter (fun c => hasS (stS (ds.map Dom.st)) c.a)⟩), 0) w) := by
  obtain ⟨A0, n0, c0, A1, n1, c1, A2, n2, c2⟩ := s
  obtain ⟨W0, hW0⟩ : ∃ W0, W0 = ((w.alloc (.cells #[.slice A0 n0 c0, .slice A1 n1 c1, .slice A2 n2 c2] 27)).alloc (.cells #[.int .i64 t] 40)).alloc (.cells #[.slice none 0 0, .slice none 0 0, .slice none 0 0, .slice none 0 0] 29) := ⟨_, rfl⟩
  have hB0 : Below w.heap.size w W0 := by rw [hW0]; exact (((Below.refl _ w).alloc (Nat.le_refl _) _).alloc (by simp) _).alloc (by simp; omega) _
  have hs0 : W0.heap.size = w.heap.size + 3 := by rw [hW0]; simp
  have HC0 : Hid (W0.cell? ⟨w.heap.size, 0, none⟩ = some (.slice A0 n0 c0) ∧ W0.cell? ⟨w.heap.size, 1, none⟩ = some (.slice A1 n1 c1) ∧ W0.cell? ⟨w.heap.size, 2, none⟩ = some (.slice A2 n2 c2) ∧ W0.cell? ⟨w.heap.size + 1, 0, none⟩ = some (.int .i64 t)) := Lib.hid (by rw [hW0]; refine ⟨?_, ?_, ?_, ?_⟩ <;> simp [go_sem])
  have HX6 : Hid (Blk W0 (w.heap.size + 1 + 1) 29 [.slice none 0 0, .slice none 0 0, .slice none 0 0, .slice none 0 0]) := Lib.hid (by rw [hW0]; have := blk_new ((w.alloc (.cells #[.slice A0 n0 c0, .slice A1 n1 c1, .slice A2 n2 c2] 27)).alloc (.cells #[.int .i64 t] 40)) [.slice none 0 0, .slice none 0 0, .slice none 0 0, .slice none 0 0] 29; simpa using this)
  have HL := Lib.hid (hl.keep hB0)
  have HR := Lib.hid (hr.keep hB0)
  have HVB := Lib.hid (vbands_any A n c W0 ds hn (fun d h => Nat.le_trans (hd d h) (by omega)) (hl.keep hB0))
  rw [hv] at HVB
  have HVR : Hid (∀ W, Below W0.heap.size W0 W → Calls Tryd.prog 44 #[.agg #[.slice A0 n0 c0, .slice A1 n1 c1, .slice A2 n2 c2]] W (RetPost (.bool true) W.heap.size W)) := Lib.hid (fun W hb => by have := vrules_any ⟨A0, n0, c0, A1, n1, c1, A2, n2, c2⟩ W r (HR.out.keep hb); rw [hq] at this; exact this)
  have HVT : Hid (∀ W, Calls Tryd.prog 30 #[.agg #[.int .i64 t]] W (RetPost (.bool true) W.heap.size W)) := Lib.hid (fun W => by have := bvalid_any t W; rw [ht] at this; exact this)
  have HB0 := Lib.hid hB0
  unfold RulS.val
  dsimp only
  clear hl hr hB0
  go_enter Tryd.func19, Tryd.ntmps19
  go_wp2_with fail
  rw [← hW0]
  clear hW0
  refine HVB.out.mono ?_
  rintro e Wa ⟨rfl, hba⟩
  have HBa := Lib.hid hba
  obtain ⟨q0, q1, q2, q3⟩ := HC0.out
  have x0 := (hba.cell (p := ⟨w.heap.size, 0, none⟩) (by dsimp only; omega)).trans q0
  have x1 := (hba.cell (p := ⟨w.heap.size, 1, none⟩) (by dsimp only; omega)).trans q1
  have x2 := (hba.cell (p := ⟨w.heap.size, 2, none⟩) (by dsimp only; omega)).trans q2
  clear q0 q1 q2 q3 hba
  go_wp2_with fail
  clear x0 x1 x2
  refine (HVR.out _ HBa.out).mono ?_
  rintro e Wb ⟨rfl, hbb⟩
  have HBb := Lib.hid (HBa.out.trans (hbb.mono HBa.out.size))
  have x3 := (HBb.out.cell (p := ⟨w.heap.size + 1, 0, none⟩) (by dsimp only; omega)).trans HC0.out.2.2.2
  clear hbb
  go_wp2_with fail
  clear x3
  refine (HVT.out _).mono ?_
  rintro e W1 ⟨rfl, hb1⟩
  have HB1 := Lib.hid (HBb.out.trans (hb1.mono HBb.out.size))
  clear hb1
  go_wp2_with fail
  obtain ⟨V0, hV0⟩ : ∃ V0, V0 = (W1.alloc (.cells #[.slice none 0 0, .slice none 0 0, .slice none 0 0, .slice none 0 0] 29)).alloc (.cells (sL 0).toArray 96) := ⟨_, rfl⟩
  have HP0 : Hid (PSt W1 W1.heap.size (W1.heap.size + 1) ⟨nilS, nilS, nilS, nilS⟩ ⟨[], [], [], []⟩ 0 V0) := Lib.hid (by
    rw [hV0]
    refine ⟨((Below.refl _ W1).alloc (Nat.le_refl _) _).alloc (by simp) _, Nat.le_refl _, by omega, ?_, ?_, World.ownsRow_nil _ _ _ _, (fun d h => by cases h), World.ownsRow_nil _ _ _ _, World.ownsRow_nil _ _ _ _, World.ownsRow_nil _ _ _ _⟩
    · exact Blk.alloc (blk_new W1 [nilS, nilS, nilS, nilS] 29) _
    · have := blk_new (W1.alloc (.cells #[.slice none 0 0, .slice none 0 0, .slice none 0 0, .slice none 0 0] 29)) (sL 0) 96
      rw [← sL_tab]; rwa [World.size_alloc] at this)
  rw [sL_zero] at hV0
  rw [← hV0]
  clear hV0
  have HD := Lib.hid hd
  have Hlen := Eqn.mk HL.out.1.1
  have HLW : Hid (∀ W, Below W1.heap.size W1 W → DomsAt W W1.heap.size A n ds) := Lib.hid (fun W hb => (HL.out.keep HB1.out).below hb)
  have HT5 : Hid (∀ W, Below W1.heap.size W1 W → W.cell? ⟨w.heap.size + 1, 0, none⟩ = some (.int .i64 t)) := Lib.hid (fun W hb => (hb.cell (p := ⟨w.heap.size + 1, 0, none⟩) (by have := HB1.out.size; dsimp only; omega)).trans ((HB1.out.cell (p := ⟨w.heap.size + 1, 0, none⟩) (by dsimp only; omega)).trans HC0.out.2.2.2))
  have hw1 : w.heap.size + 3 ≤ W1.heap.size := by have := HB1.out.size; omega
  clear hd
  go_loopw [39] (fun i wr => ∃ (k : Nat) (dv : Value) (xd : List Dom), k ≤ n ∧ i = .int .i64 k ∧ PSt W1 W1.heap.size (W1.heap.size + 1) ⟨dv, nilS, nilS, nilS⟩ ⟨xd, [], [], []⟩ (stS ((ds.take k).map Dom.st)) wr ∧ Eqn (xd.map Dom.say) ((ds.take k).map (domOf t)) ∧ xd.length = k) (fun i _ => n - (intOf i).toNat)
  case atStart => exact ⟨0, nilS, [], Nat.zero_le _, rfl, HP0.out, rfl, rfl⟩
  case round =>
    clear HP0
    obtain ⟨k, dv, xd, hk, rfl, hP, HE, hxl⟩ := hrel
    obtain ⟨wo, rfl⟩ : ∃ wo : World, wo = wr := ⟨_, rfl⟩
    have HXL := Lib.hid hxl
    clear hxl
    have hbs := hP.1.size
    have hwo : W1.heap.size + 1 < wo.heap.size := hP.2.2.2.2.1.lt
    by_cases hlt : k < n
    · obtain ⟨p, hp, _⟩ := drop_at (xs := ds) (k := k) (by rw [Hlen.out]; exact hlt)
      obtain ⟨b, off, hA, hbl, hc⟩ := (HLW.out _ hP.1).1.2 (by omega)
      subst hA
      have hrow := (HLW.out _ hP.1).2 p (List.mem_of_getElem? hp)
      have hpl := HD.out p (List.mem_of_getElem? hp)
      have c0' := hc k p hp 0 (by omega)
      have c1' := hc k p hp 1 (by omega)
      simp only [Dom.cell, Nat.add_zero] at c0' c1'
      have hTK : (ds.take (k + 1)).map Dom.st = (ds.take k).map Dom.st ++ [p.st] := by rw [List.take_add_one, hp]; simp
      have hTD : (ds.take (k + 1)).map (domOf t) = (ds.take k).map (domOf t) ++ [domOf t p] := by rw [List.take_add_one, hp]; simp
      have HTK := Eqn.mk hTK
      have HTD := Eqn.mk hTD
      obtain ⟨st, adr, len, cap, chs⟩ := p
      dsimp only at *
      obtain ⟨V1, hV1⟩ : ∃ V1, V1 = (wo.alloc (.cells #[.int .i64 st, .slice adr len cap] 62)).alloc (.cells #[.int .i64 st, .slice none 0 0] 65) := ⟨_, rfl⟩
      have hPV : PSt W1 W1.heap.size (W1.heap.size + 1) ⟨dv, nilS, nilS, nilS⟩ ⟨xd, [], [], []⟩ (stS ((ds.take k).map Dom.st)) V1 := by rw [hV1]; exact (hP.alloc _).alloc _
      have h11 : Blk V1 wo.heap.size 62 [.int .i64 st, .slice adr len cap] := by rw [hV1]; exact Blk.alloc (blk_new wo _ _) _
      have h12 : Blk V1 (wo.heap.size + 1) 65 [.int .i64 st, .slice none 0 0] := by rw [hV1]; have := blk_new (wo.alloc (.cells #[.int .i64 st, .slice adr len cap] 62)) [.int .i64 st, .slice none 0 0] 65; rwa [World.size_alloc] at this
      have hfr : some (wo.heap.size + 1) ≠ dv.ownBlock := own_fresh hP.2.2.2.2.2.1 (by omega)
      have HV := Lib.hid (And.intro hPV (And.intro h11 (And.intro h12 hfr)))
      have HCL : Hid (chs.length = len) := Lib.hid hrow.1
      have j0 : (k : Int) < (n : Int) := by omega
      have hbw : b < wo.heap.size := by omega
      have HROW : Hid (∀ W, Below W1.heap.size W1 W → Row1 intV W W1.heap.size adr len chs) := Lib.hid (fun W hb => (HLW.out W hb).2 ⟨st, adr, len, cap, chs⟩ (List.mem_of_getElem? hp))
      have HST : Hid (0 ≤ st ∧ st < 512) := Lib.hid (vbGo_st ds none hv ⟨st, adr, len, cap, chs⟩ (List.mem_of_getElem? hp))
      clear hc hp hTK hTD hPV h11 h12 hfr hrow
      have HPk := Lib.hid hP
      clear hP
      go_wp2_with fail
      rw [← hV1]
      clear hV1 c0' c1'
      go_loopw [49] (fun i wi => ∃ (m : Nat) (ca : Option Addr) (cl cc : Nat) (L : List Int), m ≤ len ∧ i = .int .i64 m ∧ Blk wi (wo.heap.size + 1) 65 [.int .i64 st, .slice ca cl cc] ∧ wi.ownsRow W1.heap.size 3 1 (.slice ca cl cc) cl (L.map intV) ∧ Eqn L ((chs.take m).flatMap fun b => (chF b t).1) ∧ L.length ≤ 38 * m ∧ Blk wi wo.heap.size 62 [.int .i64 st, .slice adr len cap] ∧ PSt W1 W1.heap.size (W1.heap.size + 1) ⟨dv, nilS, nilS, nilS⟩ ⟨xd, [], [], []⟩ (stS ((ds.take k).map Dom.st)) wi) (fun i _ => len - (intOf i).toNat)
      case atStart => exact ⟨0, none, 0, 0, [], Nat.zero_le _, rfl, HV.out.2.2.1, World.ownsRow_nil _ _ _ _, rfl, by simp, HV.out.2.1, HV.out.1⟩
      case round =>
        obtain ⟨m, ca, cl, cc, L, hm, rfl, h12, hO, HLq, hLl, h11, hPi⟩ := hrel
        have his := hPi.1.size
        have hcl : L.length = cl := by obtain ⟨_, _, he, hrr⟩ := row1_of_own hO; cases he; exact hrr.1
        by_cases hml : m < len
        · obtain ⟨y, hy, _⟩ := drop_at (xs := chs) (k := m) (by rw [HCL.out]; exact hml)
          obtain ⟨b2, off2, hA2, hbl2, hc2⟩ := (HROW.out _ hPi.1).2 (by omega)
          have y0 := hc2 m y hy
          simp only [intV] at y0
          have y5 := HT5.out _ hPi.1
          have HLN : Eqn ((chs.take (m + 1)).flatMap fun b => (chF b t).1) (L ++ (chF y t).1) := by rw [Eqn, List.take_add_one, hy, List.flatMap_append, ← HLq.out]; simp
          have hchl := chF_len y t
          have HCH := Lib.hid (fun W => channels_any y t W)
          unfold ListPair at HCH
          generalize chF y t = cf at *
          obtain ⟨ch, er⟩ := cf
          dsimp only at *
          have m0 : (m : Int) < (len : Int) := by omega
          have hbw2 : b2 < wr.heap.size := by omega
          have hw5 : w.heap.size + 1 < wr.heap.size := by omega
          have HI := Lib.hid (And.intro h12 (And.intro hO (And.intro h11 hPi)))
          subst hA2
          clear hc2 hy h12 hO h11 hPi HLq
          go_wp2_with fail
          refine (HCH.out _).mono ?_
          rintro e W2 ⟨v5, rfl, hown5, hb2'⟩
          obtain ⟨A5, c5, rfl, hr5⟩ := row1_of_own hown5
          have h12b := HI.out.1.keep hb2'
          have hOb := own_keep HI.out.2.1 hb2'
          have h11b := HI.out.2.2.1.keep hb2'
          have hPb := HI.out.2.2.2.call hb2'
          obtain ⟨W3, hW3⟩ : ∃ W3, W3 = W2.alloc (.cells #[.slice ca cl cc, .slice A5 ch.length c5] 34) := ⟨_, rfl⟩
          have hb3 : Below W2.heap.size W2 W3 := by rw [hW3]; exact (Below.refl _ W2).alloc (Nat.le_refl _) _
          have z1 : W2.cell? ⟨wo.heap.size + 1, 1, none⟩ = some (.slice ca cl cc) := h12b.cell rfl
          have l12 := h12b.lt
          have hr6 : Row1 intV W2 W2.heap.size ca cl L := by obtain ⟨_, _, he, hrr⟩ := row1_of_own hOb; cases he; exact hrr
          have d0 : W3.cell? ⟨W2.heap.size, 0, none⟩ = some (.slice ca cl cc) := by rw [hW3]; simp [go_sem]
          have d1 : W3.cell? ⟨W2.heap.size, 1, none⟩ = some (.slice A5 ch.length c5) := by rw [hW3]; simp [go_sem]
          have HCC := Lib.hid (concat2_any W2.heap.size ca A5 cl cc ch.length c5 W3 L ch (by rw [hW3]; simp) d0 d1 (hr6.keep hb3) (hr5.keep hb3) (by omega) (by omega))
          have HJ := Lib.hid (And.intro (h12b.keep hb3) (And.intro (h11b.keep hb3) (hPb.call hb3)))
          clear h12b hOb h11b hPb hr5 hr6 hown5 hb2' hb3 d0 d1 HI
          go_wp2_with fail
          rw [← hW3]
          clear hW3 z1
          refine HCC.out.mono ?_
          rintro e W4 ⟨v6, rfl, hown6, hb4⟩
          obtain ⟨A6, c6, rfl, _⟩ := row1_of_own hown6
          have h12d := HJ.out.1.keep hb4
          have h11d := HJ.out.2.1.keep hb4
          have hPd := HJ.out.2.2.call hb4
          have hs3 : W1.heap.size ≤ W3.heap.size := HJ.out.2.2.1.size
          have z2 : W4.cell? ⟨wo.heap.size + 1, 1, none⟩ = some (.slice ca cl cc) := h12d.cell rfl
          have z3 := h12d.frozen 1
          have z4 := h12d.lt
          have HK : Hid (Blk (W4.setCell ⟨wo.heap.size + 1, 1, none⟩ (.slice A6 (L ++ ch).length c6)) (wo.heap.size + 1) 65 [.int .i64 st, .slice A6 (L ++ ch).length c6] ∧ (W4.setCell ⟨wo.heap.size + 1, 1, none⟩ (.slice A6 (L ++ ch).length c6)).ownsRow W1.heap.size 3 1 (.slice A6 (L ++ ch).length c6) (L ++ ch).length ((L ++ ch).map intV) ∧ Blk (W4.setCell ⟨wo.heap.size + 1, 1, none⟩ (.slice A6 (L ++ ch).length c6)) wo.heap.size 62 [.int .i64 st, .slice (some ⟨b2, off2, none⟩) len cap] ∧ PSt W1 W1.heap.size (W1.heap.size + 1) ⟨dv, nilS, nilS, nilS⟩ ⟨xd, [], [], []⟩ (stS ((ds.take k).map Dom.st)) (W4.setCell ⟨wo.heap.size + 1, 1, none⟩ (.slice A6 (L ++ ch).length c6))) := Lib.hid ⟨h12d.set_ 1 _, row_set (own_low hown6 hs3) h12d (by decide) 1 _, h11d.other _ _ (by dsimp only; omega), hPd.other h12d (by omega) HV.out.2.2.2 1 _⟩
          obtain ⟨N, hN⟩ : ∃ N, (L ++ ch).length = N := ⟨_, rfl⟩
          rw [hN] at HK ⊢
          clear hown6 hb4 h12d h11d hPd HCC HJ HCH hN hcl
          go_wp2_with fail
          go_roundw
          case rel => exact ⟨m + 1, A6, N, c6, L ++ ch, by omega, by go_num, HK.out.1, HK.out.2.1, HLN.out.symm, by rw [List.length_append]; omega, HK.out.2.2.1, HK.out.2.2.2⟩
          case measure => simp [intOf]; omega
        · obtain rfl : m = len := by omega
          have hTT : chs.take m = chs := List.take_of_length_le (by rw [HCL.out]; omega)
          have HLF : Eqn L (chs.flatMap fun b => (chF b t).1) := by rw [Eqn, HLq.out, hTT]
          have hst := HST.out
          have HAD := Lib.hid (fun W => add_in (stS ((ds.take k).map Dom.st)) st W hst)
          have HS2 : Eqn (stS ((ds.take (k + 1)).map Dom.st)) (stS ((ds.take k).map Dom.st) ||| 2 ^ st.toNat) := by rw [Eqn, HTK.out, stS_snoc]
          generalize stS ((ds.take k).map Dom.st) = S at *
          have e80 : wr.cell? ⟨W1.heap.size, 0, none⟩ = some dv := hPi.2.2.2.1.cell rfl
          have e81 := hPi.2.2.2.1.frozen 0
          have e82 := hPi.2.2.2.1.lt
          have e120 : wr.cell? ⟨wo.heap.size + 1, 0, none⟩ = some (.int .i64 st) := h12.cell rfl
          have e121 : wr.cell? ⟨wo.heap.size + 1, 1, none⟩ = some (.slice ca cl cc) := h12.cell rfl
          have e122 := h12.lt
          have HI := Lib.hid (And.intro h12 (And.intro hO (And.intro h11 hPi)))
          obtain ⟨i0, hi, hz0, hz1, hz2⟩ := info_parts dom_info
          have HPA := Lib.hid (hPi.alloc (.cells #[.int .i64 st, .slice ca cl cc] 65))
          have hOA := Lib.hid (row_alloc hO (.cells #[.int .i64 st, .slice ca cl cc] 65))
          have h12A := Lib.hid (Blk.alloc h12 (.cells #[.int .i64 st, .slice ca cl cc] 65))
          have h11A := Lib.hid (Blk.alloc h11 (.cells #[.int .i64 st, .slice ca cl cc] 65))
          obtain ⟨dA, dcap, hdv, _⟩ := own_formS (by decide) hPi.2.2.2.2.2.1
          dsimp only at hdv
          subst hdv
          clear h12 hO h11 hPi HLq hTT hst
          go_wp2_with (at_builtin; refine Hid.out ?_)
          unfold Hid
          refine wpList_append_own_at _ rfl _ _ 22 rfl W1.heap.size 65 i0 (.agg #[.int .i64 0, .slice none 0 0]) 2 32 Tryd.underlying22 hi hz0 hz1 hz2 rfl (by decide) _ _ _ rfl HPA.out.2.2.2.2.2.1 ⟨wr.heap.size, 0, none⟩ 1 1 [.int .i64 st, .slice ca cl cc] rfl rfl (cells_newN wr _ _) (by simp [Value.oneCell']) (by have := HXL.out; dsimp only; unfold maxLen; omega) (by have := HXL.out; dsimp only; omega) (by simp; omega) ?_
          intro v' w3 hown' hgrow hnil hat
          replace hgrow : World.grownBy _ w3 (Value.slice dA xd.length dcap).ownBlock := hgrow
          replace hown' : w3.ownsRow W1.heap.size 65 2 v' (xd.length + 1) (flat 2 Dom.cell xd ++ (List.range 2).map (Dom.cell ⟨st, ca, cl, cc, L⟩)) := hown'
          have H3 := Lib.hid (And.intro hown' hgrow)
          rw [← flat_snoc] at hown'
          obtain ⟨vA, vc, rfl, _⟩ := own_formS (by decide) hown'
          have HPB := Lib.hid (HPA.out.addD (y := ⟨st, ca, cl, cc, L⟩) hgrow H3.out.1 hOA.out)
          have hb8 : Blk w3 W1.heap.size 29 [.slice dA xd.length dcap, nilS, nilS, nilS] := blk_kept HPA.out.2.2.2.1 hgrow (blk_not_row HPA.out.2.2.2.1 (by decide) HPA.out.2.2.2.2.2.1)
          have r0 : w3.cell? ⟨W1.heap.size, 0, none⟩ = some (.slice dA xd.length dcap) := hb8.cell rfl
          have r1 := hb8.frozen 0
          have r2 := hb8.lt
          have h11C := Lib.hid (Blk.other (blk_kept h11A.out hgrow (blk_not_row h11A.out (by decide) HPA.out.2.2.2.2.2.1)) ⟨W1.heap.size, 0, none⟩ (.slice vA (xd.length + 1) vc) (by dsimp only; omega))
          clear hown' hgrow hnil hat hb8
          obtain ⟨s0, s1, s2, s3, s4, s5, s6, s7⟩ := HPB.out.2.2.2.2.1.eight
          have t11 : (w3.setCell ⟨W1.heap.size, 0, none⟩ (.slice vA (xd.length + 1) vc)).cell? ⟨wo.heap.size, 0, none⟩ = some (.int .i64 st) := h11C.out.cell rfl
          have l9 := HPB.out.2.2.2.2.1.lt
          have l11 := h11C.out.lt
          unfold sV at HAD
          go_wp2_with fail
          clear s0 s1 s2 s3 s4 s5 s6 s7 t11
          refine (HAD.out _).mono ?_
          rintro e W5 ⟨rfl, hb5⟩
          have hP5 := HPB.out.call hb5
          obtain ⟨s0, s1, s2, s3, s4, s5, s6, s7⟩ := hP5.2.2.2.2.1.eight
          have hf9 : ∀ o, W5.frozen? ⟨W1.heap.size + 1, o, none⟩ = false := hP5.2.2.2.2.1.frozen
          have hl9 := hP5.2.2.2.2.1.lt
          have HN := Lib.hid (hP5.set (S ||| 2 ^ st.toNat) (hP5.2.2.2.2.1.set8 (S ||| 2 ^ st.toNat)) (grown_set8 _ _ _))
          generalize S ||| 2 ^ st.toNat = S2 at *
          clear hP5 hb5 HPB
          go_wp2_with fail
          clear s0 s1 s2 s3 s4 s5 s6 s7 hf9
          go_roundw
          case rel =>
            refine ⟨k + 1, .slice vA (xd.length + 1) vc, xd ++ [⟨st, ca, cl, cc, L⟩], by omega, by go_num, by rw [HS2.out]; exact HN.out, ?_, by rw [List.length_append, HXL.out]; rfl⟩
            rw [Eqn, HTD.out, List.map_append, HE.out]
            simp [Dom.say, domOf, ← HLF.out]
          case measure => simp [intOf]; omega
    · obtain rfl : k = n := by omega
      have hTk : ds.take k = ds := List.take_of_length_le (by rw [Hlen.out]; omega)
      rw [hTk] at hP HE
      have HR1 : Hid (RulAt W1 W1.heap.size ⟨A0, n0, c0, A1, n1, c1, A2, n2, c2⟩ r) := Lib.hid (HR.out.keep HB1.out)
      obtain ⟨hq0, hq1, hq2⟩ := rules_len hq
      have HC1 : Hid (∀ W, Below W1.heap.size W1 W → W.cell? ⟨w.heap.size, 0, none⟩ = some (.slice A0 n0 c0) ∧ W.cell? ⟨w.heap.size, 1, none⟩ = some (.slice A1 n1 c1) ∧ W.cell? ⟨w.heap.size, 2, none⟩ = some (.slice A2 n2 c2)) := Lib.hid (fun W hb => by
        obtain ⟨q0, q1, q2, _⟩ := HC0.out
        exact ⟨(hb.cell (p := ⟨w.heap.size, 0, none⟩) (by dsimp only; omega)).trans ((HB1.out.cell (p := ⟨w.heap.size, 0, none⟩) (by dsimp only; omega)).trans q0), (hb.cell (p := ⟨w.heap.size, 1, none⟩) (by dsimp only; omega)).trans ((HB1.out.cell (p := ⟨w.heap.size, 1, none⟩) (by dsimp only; omega)).trans q1), (hb.cell (p := ⟨w.heap.size, 2, none⟩) (by dsimp only; omega)).trans ((HB1.out.cell (p := ⟨w.heap.size, 2, none⟩) (by dsimp only; omega)).trans q2)⟩)
      have HX1 : Hid (∀ W, Below W1.heap.size W1 W → Blk W (w.heap.size + 1 + 1) 29 [.slice none 0 0, .slice none 0 0, .slice none 0 0, .slice none 0 0]) := Lib.hid (fun W hb => (HX6.out.keep HB1.out).keepB hb (by omega))
      have HSS : Hid (stS (ds.map Dom.st) = stS (ds.map Dom.st)) := Lib.hid rfl
      generalize hS : stS (ds.map Dom.st) = S at *
      clear HSS
      have HSd := Eqn.mk hS
      clear hS hTk
      obtain ⟨r0, r1, r2⟩ := r
      obtain ⟨R0, R1, R2, _⟩ := HR1.out
      dsimp only at R0 R1 R2 hq0 hq1 hq2
      have hz0 := R0.1
      have hz1 := R1.1
      have hz2 := R2.1
      have HR0 := Lib.hid R0
      have HRr1 := Lib.hid R1
      have HRr2 := Lib.hid R2
      have l0 : n0 ≤ 4096 := by omega
      have l1 : n1 ≤ 1024 := by omega
      have l2 : n2 ≤ 1024 := by omega
      have Hz0 := Eqn.mk hz0
      have Hz1 := Eqn.mk hz1
      have Hz2 := Eqn.mk hz2
      have HHA := Lib.hid (fun i W => has_any S i W)
      unfold sV at HHA
      have x0 := (HC1.out _ hP.1).1
      have lw : w.heap.size < wo.heap.size := by omega
      have HPk := Lib.hid hP
      clear R0 R1 R2 hz0 hz1 hz2 hq0 hq1 hq2 hP HR1
      go_wp2_with fail
      clear x0
      go_loopw [83] (fun i wi => ∃ (m : Nat) (pv : Value) (ps : List R5), m ≤ n0 ∧ i = .int .i64 m ∧ PSt W1 W1.heap.size (W1.heap.size + 1) ⟨dv, pv, nilS, nilS⟩ ⟨xd, ps, [], []⟩ S wi ∧ Eqn ps ((r0.take m).filter (fun c => hasS S c.a && hasS S c.b)) ∧ ps.length ≤ m) (fun i _ => n0 - (intOf i).toNat)
      case atStart => exact ⟨0, nilS, [], Nat.zero_le _, rfl, HPk.out, by rw [List.take_zero]; rfl, Nat.le_refl _⟩
      case round =>
        obtain ⟨m, pv, ps, hm, rfl, hP, HE0, hpl⟩ := hrel
        obtain ⟨wo, rfl⟩ : ∃ wo : World, wo = wr := ⟨_, rfl⟩
        have hbs := hP.1.size
        by_cases hlt : m < n0
        · obtain ⟨y, hy, _⟩ := drop_at (xs := r0) (k := m) (by rw [Hz0.out]; exact hlt)
          obtain ⟨b, off, hA, hbl, hc⟩ := (HR0.out.below hP.1).2 (by omega)
          have HFT := Eqn.mk (filter_take (fun c => hasS S c.a && hasS S c.b) r0 m y hy)
          rw [← HE0.out] at HFT
          obtain ⟨y0, y1, y2, y3, y4⟩ := y
          have e0 := hc m _ hy 0 (by omega)
          have e1 := hc m _ hy 1 (by omega)
          have e2 := hc m _ hy 2 (by omega)
          have e3 := hc m _ hy 3 (by omega)
          have e4 := hc m _ hy 4 (by omega)
          simp only [R5.cell, Nat.add_zero] at e0 e1 e2 e3 e4
          dsimp only at HFT
          obtain ⟨V1, hV1⟩ : ∃ V1, V1 = wo.alloc (.cells #[.int .i64 y0, .int .i64 y1, .int .i64 y2, .int .i64 y3, .int .i64 y4] 73) := ⟨_, rfl⟩
          have hPV : PSt W1 W1.heap.size (W1.heap.size + 1) ⟨dv, pv, nilS, nilS⟩ ⟨xd, ps, [], []⟩ S V1 := by rw [hV1]; exact hP.alloc _
          have hbx : Blk V1 wo.heap.size 73 [.int .i64 y0, .int .i64 y1, .int .i64 y2, .int .i64 y3, .int .i64 y4] := by rw [hV1]; exact blk_new wo _ _
          have hbw : b < wo.heap.size := by omega
          have m0 : (m : Int) < (n0 : Int) := by omega
          have HV := Lib.hid (And.intro hPV hbx)
          obtain ⟨pA, pcap, hpv, _⟩ := own_formS (by decide) hP.2.2.2.2.2.2.2.1
          dsimp only at hpv
          subst hpv
          obtain ⟨z0, z1, z2, z3, z4, z5, z6, z7⟩ := hP.2.2.2.2.1.eight
          have z9 := hP.2.2.2.2.1.lt
          subst hA
          clear hc hy hPV hbx hP
          go_wp2_with fail
          rw [← hV1]
          clear hV1 e0 e1 e2 e3 e4 z0 z1 z2 z3 z4 z5 z6 z7 z9
          refine (HHA.out _ _).mono ?_
          rintro e W2 ⟨rfl, hb2⟩
          have H2 := Lib.hid (And.intro (HV.out.1.call hb2) (HV.out.2.keep hb2))
          clear hb2 HV
          cases hsa : hasS S y0 with
          | false =>
            go_wp2_with fail
            go_roundw
            case rel => exact ⟨m + 1, _, ps, by omega, by go_num, H2.out.1, by rw [Eqn, HFT.out]; simp [hsa], by omega⟩
            case measure => simp [intOf]; omega
          | true =>
            obtain ⟨z0, z1, z2, z3, z4, z5, z6, z7⟩ := H2.out.1.2.2.2.2.1.eight
            have z9 := H2.out.1.2.2.2.2.1.lt
            have zb : W2.cell? ⟨wo.heap.size, 1, none⟩ = some (.int .i64 y1) := H2.out.2.cell rfl
            have zl := H2.out.2.lt
            go_wp2_with fail
            clear z0 z1 z2 z3 z4 z5 z6 z7 z9 zb zl
            refine (HHA.out _ _).mono ?_
            rintro e W3 ⟨rfl, hb3⟩
            have H4 := Lib.hid (And.intro (H2.out.1.call hb3) (H2.out.2.keep hb3))
            clear hb3 H2
            cases hsb : hasS S y1 with
            | false =>
              go_wp2_with fail
              go_roundw
              case rel => exact ⟨m + 1, _, ps, by omega, by go_num, H4.out.1, by rw [Eqn, HFT.out]; simp [hsa, hsb], by omega⟩
              case measure => simp [intOf]; omega
            | true =>
              have b0 : W3.cell? ⟨wo.heap.size, 0, none⟩ = some (.int .i64 y0) := H4.out.2.cell rfl
              have b1 : W3.cell? ⟨wo.heap.size, 1, none⟩ = some (.int .i64 y1) := H4.out.2.cell rfl
              have b2 : W3.cell? ⟨wo.heap.size, 2, none⟩ = some (.int .i64 y2) := H4.out.2.cell rfl
              have b3 : W3.cell? ⟨wo.heap.size, 3, none⟩ = some (.int .i64 y3) := H4.out.2.cell rfl
              have b4 : W3.cell? ⟨wo.heap.size, 4, none⟩ = some (.int .i64 y4) := H4.out.2.cell rfl
              have bl := H4.out.2.lt
              have g0 : W3.cell? ⟨W1.heap.size, 1, none⟩ = some (.slice pA ps.length pcap) := H4.out.1.2.2.2.1.cell rfl
              have g1 := H4.out.1.2.2.2.1.lt
              obtain ⟨i0, hi, hz0, hz1, hz2⟩ := info_parts pair_info
              have HPA := Lib.hid (H4.out.1.alloc (.cells #[.int .i64 y0, .int .i64 y1, .int .i64 y2, .int .i64 y3, .int .i64 y4] 73))
              have hs3 : W1.heap.size ≤ W3.heap.size := H4.out.1.1.size
              go_wp2_with (at_builtin; refine Hid.out ?_)
              unfold Hid
              refine wpList_append_own_at _ rfl _ _ 23 rfl W1.heap.size 73 i0 (.agg #[.int .i64 0, .int .i64 0, .int .i64 0, .int .i64 0, .int .i64 0]) 5 40 Tryd.underlying23 hi hz0 hz1 hz2 rfl (by decide) _ _ _ rfl HPA.out.2.2.2.2.2.2.2.1 ⟨W3.heap.size, 0, none⟩ 1 1 [.int .i64 y0, .int .i64 y1, .int .i64 y2, .int .i64 y3, .int .i64 y4] rfl rfl (cells_newN W3 _ _) (by simp [Value.oneCell']) (by dsimp only; unfold maxLen; omega) (by dsimp only; omega) (by simp; omega) ?_
              intro v' w3 hown' hgrow hnil hat
              replace hgrow : World.grownBy _ w3 (Value.slice pA ps.length pcap).ownBlock := hgrow
              replace hown' : w3.ownsRow W1.heap.size 73 5 v' (ps.length + 1) (flat 5 R5.cell ps ++ (List.range 5).map (R5.cell ⟨y0, y1, y2, y3, y4⟩)) := hown'
              have H3 := Lib.hid (And.intro hown' hgrow)
              rw [← flat_snoc] at hown'
              obtain ⟨vA, vc, rfl, _⟩ := own_formS (by decide) hown'
              have HPB := Lib.hid (HPA.out.addP (y := ⟨y0, y1, y2, y3, y4⟩) hgrow H3.out.1)
              have hb8 := blk_kept HPA.out.2.2.2.1 hgrow (blk_not_row HPA.out.2.2.2.1 (by decide) HPA.out.2.2.2.2.2.2.2.1)
              have q0 : w3.cell? ⟨W1.heap.size, 1, none⟩ = some (.slice pA ps.length pcap) := hb8.cell rfl
              have q1 := hb8.frozen 1
              have q2 := hb8.lt
              clear hown' hgrow hnil hat hb8 b0 b1 b2 b3 b4 g0
              go_wp2_with fail
              clear q0 q1
              go_roundw
              case rel => exact ⟨m + 1, _, ps ++ [⟨y0, y1, y2, y3, y4⟩], by omega, by go_num, HPB.out, by rw [Eqn, HFT.out]; simp [hsa, hsb], by rw [List.length_append]; simp; omega⟩
              case measure => simp [intOf]; omega
        · obtain rfl : m = n0 := by omega
          have hTm : r0.take m = r0 := List.take_of_length_le (by rw [Hz0.out]; omega)
          have HF0 : Eqn ps (r0.filter (fun c => hasS S c.a && hasS S c.b)) := by rw [Eqn, HE0.out, hTm]
          obtain ⟨pv0, rfl⟩ : ∃ pv0 : Value, pv0 = pv := ⟨_, rfl⟩
          obtain ⟨ps0, rfl⟩ : ∃ ps0 : List R5, ps0 = ps := ⟨_, rfl⟩
          have HPk0 := Lib.hid hP
          have x0 := (HC1.out _ hP.1).2.1
          have lw : w.heap.size < wo.heap.size := by omega
          clear hP HE0 hTm
          go_wp2_with fail
          clear x0
          go_loopw [109] (fun i wi => ∃ (m : Nat) (pv : Value) (ps : List R5), m ≤ n1 ∧ i = .int .i64 m ∧ PSt W1 W1.heap.size (W1.heap.size + 1) ⟨dv, pv0, pv, nilS⟩ ⟨xd, ps0, ps, []⟩ S wi ∧ Eqn ps ((r1.take m).filter (fun c => hasS S c.a && hasS S c.b)) ∧ ps.length ≤ m) (fun i _ => n1 - (intOf i).toNat)
          case atStart => exact ⟨0, nilS, [], Nat.zero_le _, rfl, HPk0.out, by rw [List.take_zero]; rfl, Nat.le_refl _⟩
          case round =>
            obtain ⟨m, pv, ps, hm, rfl, hP, HE1, hpl⟩ := hrel
            obtain ⟨wo, rfl⟩ : ∃ wo : World, wo = wr := ⟨_, rfl⟩
            have hbs := hP.1.size
            by_cases hlt : m < n1
            · obtain ⟨y, hy, _⟩ := drop_at (xs := r1) (k := m) (by rw [Hz1.out]; exact hlt)
              obtain ⟨b, off, hA, hbl, hc⟩ := (HRr1.out.below hP.1).2 (by omega)
              have HFT := Eqn.mk (filter_take (fun c => hasS S c.a && hasS S c.b) r1 m y hy)
              rw [← HE1.out] at HFT
              obtain ⟨y0, y1, y2, y3, y4⟩ := y
              have e0 := hc m _ hy 0 (by omega)
              have e1 := hc m _ hy 1 (by omega)
              have e2 := hc m _ hy 2 (by omega)
              have e3 := hc m _ hy 3 (by omega)
              have e4 := hc m _ hy 4 (by omega)
              simp only [R5.cell, Nat.add_zero] at e0 e1 e2 e3 e4
              dsimp only at HFT
              obtain ⟨V1, hV1⟩ : ∃ V1, V1 = wo.alloc (.cells #[.int .i64 y0, .int .i64 y1, .int .i64 y2, .int .i64 y3, .int .i64 y4] 77) := ⟨_, rfl⟩
              have hPV : PSt W1 W1.heap.size (W1.heap.size + 1) ⟨dv, pv0, pv, nilS⟩ ⟨xd, ps0, ps, []⟩ S V1 := by rw [hV1]; exact hP.alloc _
              have hbx : Blk V1 wo.heap.size 77 [.int .i64 y0, .int .i64 y1, .int .i64 y2, .int .i64 y3, .int .i64 y4] := by rw [hV1]; exact blk_new wo _ _
              have hbw : b < wo.heap.size := by omega
              have m0 : (m : Int) < (n1 : Int) := by omega
              have HV := Lib.hid (And.intro hPV hbx)
              obtain ⟨pA, pcap, hpv, _⟩ := own_formS (by decide) hP.2.2.2.2.2.2.2.2.1
              dsimp only at hpv
              subst hpv
              obtain ⟨z0, z1, z2, z3, z4, z5, z6, z7⟩ := hP.2.2.2.2.1.eight
              have z9 := hP.2.2.2.2.1.lt
              subst hA
              clear hc hy hPV hbx hP
              go_wp2_with fail
              rw [← hV1]
              clear hV1 e0 e1 e2 e3 e4 z0 z1 z2 z3 z4 z5 z6 z7 z9
              refine (HHA.out _ _).mono ?_
              rintro e W2 ⟨rfl, hb2⟩
              have H2 := Lib.hid (And.intro (HV.out.1.call hb2) (HV.out.2.keep hb2))
              clear hb2 HV
              cases hsa : hasS S y0 with
              | false =>
                go_wp2_with fail
                go_roundw
                case rel => exact ⟨m + 1, _, ps, by omega, by go_num, H2.out.1, by rw [Eqn, HFT.out]; simp [hsa], by omega⟩
                case measure => simp [intOf]; omega
              | true =>
                obtain ⟨z0, z1, z2, z3, z4, z5, z6, z7⟩ := H2.out.1.2.2.2.2.1.eight
                have z9 := H2.out.1.2.2.2.2.1.lt
                have zb : W2.cell? ⟨wo.heap.size, 1, none⟩ = some (.int .i64 y1) := H2.out.2.cell rfl
                have zl := H2.out.2.lt
                go_wp2_with fail
                clear z0 z1 z2 z3 z4 z5 z6 z7 z9 zb zl
                refine (HHA.out _ _).mono ?_
                rintro e W3 ⟨rfl, hb3⟩
                have H4 := Lib.hid (And.intro (H2.out.1.call hb3) (H2.out.2.keep hb3))
                clear hb3 H2
                cases hsb : hasS S y1 with
                | false =>
                  go_wp2_with fail
                  go_roundw
                  case rel => exact ⟨m + 1, _, ps, by omega, by go_num, H4.out.1, by rw [Eqn, HFT.out]; simp [hsa, hsb], by omega⟩
                  case measure => simp [intOf]; omega
                | true =>
                  have b0 : W3.cell? ⟨wo.heap.size, 0, none⟩ = some (.int .i64 y0) := H4.out.2.cell rfl
                  have b1 : W3.cell? ⟨wo.heap.size, 1, none⟩ = some (.int .i64 y1) := H4.out.2.cell rfl
                  have b2 : W3.cell? ⟨wo.heap.size, 2, none⟩ = some (.int .i64 y2) := H4.out.2.cell rfl
                  have b3 : W3.cell? ⟨wo.heap.size, 3, none⟩ = some (.int .i64 y3) := H4.out.2.cell rfl
                  have b4 : W3.cell? ⟨wo.heap.size, 4, none⟩ = some (.int .i64 y4) := H4.out.2.cell rfl
                  have bl := H4.out.2.lt
                  have g0 : W3.cell? ⟨W1.heap.size, 2, none⟩ = some (.slice pA ps.length pcap) := H4.out.1.2.2.2.1.cell rfl
                  have g1 := H4.out.1.2.2.2.1.lt
                  obtain ⟨i0, hi, hz0, hz1, hz2⟩ := info_parts load_info
                  have HPA := Lib.hid (H4.out.1.alloc (.cells #[.int .i64 y0, .int .i64 y1, .int .i64 y2, .int .i64 y3, .int .i64 y4] 77))
                  have hs3 : W1.heap.size ≤ W3.heap.size := H4.out.1.1.size
                  go_wp2_with (at_builtin; refine Hid.out ?_)
                  unfold Hid
                  refine wpList_append_own_at _ rfl _ _ 24 rfl W1.heap.size 77 i0 (.agg #[.int .i64 0, .int .i64 0, .int .i64 0, .int .i64 0, .int .i64 0]) 5 40 Tryd.underlying24 hi hz0 hz1 hz2 rfl (by decide) _ _ _ rfl HPA.out.2.2.2.2.2.2.2.2.1 ⟨W3.heap.size, 0, none⟩ 1 1 [.int .i64 y0, .int .i64 y1, .int .i64 y2, .int .i64 y3, .int .i64 y4] rfl rfl (cells_newN W3 _ _) (by simp [Value.oneCell']) (by dsimp only; unfold maxLen; omega) (by dsimp only; omega) (by simp; omega) ?_
                  intro v' w3 hown' hgrow hnil hat
                  replace hgrow : World.grownBy _ w3 (Value.slice pA ps.length pcap).ownBlock := hgrow
                  replace hown' : w3.ownsRow W1.heap.size 77 5 v' (ps.length + 1) (flat 5 R5.cell ps ++ (List.range 5).map (R5.cell ⟨y0, y1, y2, y3, y4⟩)) := hown'
                  have H3 := Lib.hid (And.intro hown' hgrow)
                  rw [← flat_snoc] at hown'
                  obtain ⟨vA, vc, rfl, _⟩ := own_formS (by decide) hown'
                  have HPB := Lib.hid (HPA.out.addL (y := ⟨y0, y1, y2, y3, y4⟩) hgrow H3.out.1)
                  have hb8 := blk_kept HPA.out.2.2.2.1 hgrow (blk_not_row HPA.out.2.2.2.1 (by decide) HPA.out.2.2.2.2.2.2.2.2.1)
                  have q0 : w3.cell? ⟨W1.heap.size, 2, none⟩ = some (.slice pA ps.length pcap) := hb8.cell rfl
                  have q1 := hb8.frozen 2
                  have q2 := hb8.lt
                  clear hown' hgrow hnil hat hb8 b0 b1 b2 b3 b4 g0
                  go_wp2_with fail
                  clear q0 q1
                  go_roundw
                  case rel => exact ⟨m + 1, _, ps ++ [⟨y0, y1, y2, y3, y4⟩], by omega, by go_num, HPB.out, by rw [Eqn, HFT.out]; simp [hsa, hsb], by rw [List.length_append]; simp; omega⟩
                  case measure => simp [intOf]; omega
            · obtain rfl : m = n1 := by omega
              have hTm : r1.take m = r1 := List.take_of_length_le (by rw [Hz1.out]; omega)
              have HF1 : Eqn ps (r1.filter (fun c => hasS S c.a && hasS S c.b)) := by rw [Eqn, HE1.out, hTm]
              obtain ⟨pv1, rfl⟩ : ∃ pv1 : Value, pv1 = pv := ⟨_, rfl⟩
              obtain ⟨ps1, rfl⟩ : ∃ ps1 : List R5, ps1 = ps := ⟨_, rfl⟩
              have HPk1 := Lib.hid hP
              have x0 := (HC1.out _ hP.1).2.2
              have lw : w.heap.size < wo.heap.size := by omega
              clear hP HE1 hTm
              go_wp2_with fail
              clear x0
              go_loopw [135] (fun i wi => ∃ (m : Nat) (pv : Value) (ps : List R4), m ≤ n2 ∧ i = .int .i64 m ∧ PSt W1 W1.heap.size (W1.heap.size + 1) ⟨dv, pv0, pv1, pv⟩ ⟨xd, ps0, ps1, ps⟩ S wi ∧ Eqn ps ((r2.take m).filter (fun c => hasS S c.a)) ∧ ps.length ≤ m) (fun i _ => n2 - (intOf i).toNat)
              case atStart => exact ⟨0, nilS, [], Nat.zero_le _, rfl, HPk1.out, by rw [List.take_zero]; rfl, Nat.le_refl _⟩
              case round =>
                obtain ⟨m, pv, ps, hm, rfl, hP, HE2, hpl⟩ := hrel
                obtain ⟨wo, rfl⟩ : ∃ wo : World, wo = wr := ⟨_, rfl⟩
                have hbs := hP.1.size
                by_cases hlt : m < n2
                · obtain ⟨y, hy, _⟩ := drop_at (xs := r2) (k := m) (by rw [Hz2.out]; exact hlt)
                  obtain ⟨b, off, hA, hbl, hc⟩ := (HRr2.out.below hP.1).2 (by omega)
                  have HFT := Eqn.mk (filter_take (fun c => hasS S c.a) r2 m y hy)
                  rw [← HE2.out] at HFT
                  obtain ⟨y0, y1, y2, y3⟩ := y
                  have e0 := hc m _ hy 0 (by omega)
                  have e1 := hc m _ hy 1 (by omega)
                  have e2 := hc m _ hy 2 (by omega)
                  have e3 := hc m _ hy 3 (by omega)
                  simp only [R4.cell, Nat.add_zero] at e0 e1 e2 e3
                  dsimp only at HFT
                  obtain ⟨V1, hV1⟩ : ∃ V1, V1 = wo.alloc (.cells #[.int .i64 y0, .int .i64 y1, .int .i64 y2, .int .i64 y3] 79) := ⟨_, rfl⟩
                  have hPV : PSt W1 W1.heap.size (W1.heap.size + 1) ⟨dv, pv0, pv1, pv⟩ ⟨xd, ps0, ps1, ps⟩ S V1 := by rw [hV1]; exact hP.alloc _
                  have hbx : Blk V1 wo.heap.size 79 [.int .i64 y0, .int .i64 y1, .int .i64 y2, .int .i64 y3] := by rw [hV1]; exact blk_new wo _ _
                  have hbw : b < wo.heap.size := by omega
                  have m0 : (m : Int) < (n2 : Int) := by omega
                  have HV := Lib.hid (And.intro hPV hbx)
                  obtain ⟨pA, pcap, hpv, _⟩ := own_formS (by decide) hP.2.2.2.2.2.2.2.2.2
                  dsimp only at hpv
                  subst hpv
                  obtain ⟨z0, z1, z2, z3, z4, z5, z6, z7⟩ := hP.2.2.2.2.1.eight
                  have z9 := hP.2.2.2.2.1.lt
                  subst hA
                  clear hc hy hPV hbx hP
                  go_wp2_with fail
                  rw [← hV1]
                  clear hV1 e0 e1 e2 e3 z0 z1 z2 z3 z4 z5 z6 z7 z9
                  refine (HHA.out _ _).mono ?_
                  rintro e W2 ⟨rfl, hb2⟩
                  have H2 := Lib.hid (And.intro (HV.out.1.call hb2) (HV.out.2.keep hb2))
                  clear hb2 HV
                  cases hsa : hasS S y0 with
                  | false =>
                    go_wp2_with fail
                    go_roundw
                    case rel => exact ⟨m + 1, _, ps, by omega, by go_num, H2.out.1, by rw [Eqn, HFT.out]; simp [hsa], by omega⟩
                    case measure => simp [intOf]; omega
                  | true =>
                    have b0 : W2.cell? ⟨wo.heap.size, 0, none⟩ = some (.int .i64 y0) := H2.out.2.cell rfl
                    have b1 : W2.cell? ⟨wo.heap.size, 1, none⟩ = some (.int .i64 y1) := H2.out.2.cell rfl
                    have b2 : W2.cell? ⟨wo.heap.size, 2, none⟩ = some (.int .i64 y2) := H2.out.2.cell rfl
                    have b3 : W2.cell? ⟨wo.heap.size, 3, none⟩ = some (.int .i64 y3) := H2.out.2.cell rfl
                    have bl := H2.out.2.lt
                    have g0 : W2.cell? ⟨W1.heap.size, 3, none⟩ = some (.slice pA ps.length pcap) := H2.out.1.2.2.2.1.cell rfl
                    have g1 := H2.out.1.2.2.2.1.lt
                    obtain ⟨i0, hi, hz0, hz1, hz2⟩ := info_parts cap_info
                    have HPA := Lib.hid (H2.out.1.alloc (.cells #[.int .i64 y0, .int .i64 y1, .int .i64 y2, .int .i64 y3] 79))
                    have hs3 : W1.heap.size ≤ W2.heap.size := H2.out.1.1.size
                    go_wp2_with (at_builtin; refine Hid.out ?_)
                    unfold Hid
                    refine wpList_append_own_at _ rfl _ _ 25 rfl W1.heap.size 79 i0 (.agg #[.int .i64 0, .int .i64 0, .int .i64 0, .int .i64 0]) 4 32 Tryd.underlying25 hi hz0 hz1 hz2 rfl (by decide) _ _ _ rfl HPA.out.2.2.2.2.2.2.2.2.2 ⟨W2.heap.size, 0, none⟩ 1 1 [.int .i64 y0, .int .i64 y1, .int .i64 y2, .int .i64 y3] rfl rfl (cells_newN W2 _ _) (by simp [Value.oneCell']) (by dsimp only; unfold maxLen; omega) (by dsimp only; omega) (by simp; omega) ?_
                    intro v' w3 hown' hgrow hnil hat
                    replace hgrow : World.grownBy _ w3 (Value.slice pA ps.length pcap).ownBlock := hgrow
                    replace hown' : w3.ownsRow W1.heap.size 79 4 v' (ps.length + 1) (flat 4 R4.cell ps ++ (List.range 4).map (R4.cell ⟨y0, y1, y2, y3⟩)) := hown'
                    have H3 := Lib.hid (And.intro hown' hgrow)
                    rw [← flat_snoc] at hown'
                    obtain ⟨vA, vc, rfl, _⟩ := own_formS (by decide) hown'
                    have HPB := Lib.hid (HPA.out.addC (y := ⟨y0, y1, y2, y3⟩) hgrow H3.out.1)
                    have hb8 := blk_kept HPA.out.2.2.2.1 hgrow (blk_not_row HPA.out.2.2.2.1 (by decide) HPA.out.2.2.2.2.2.2.2.2.2)
                    have q0 : w3.cell? ⟨W1.heap.size, 3, none⟩ = some (.slice pA ps.length pcap) := hb8.cell rfl
                    have q1 := hb8.frozen 3
                    have q2 := hb8.lt
                    clear hown' hgrow hnil hat hb8 b0 b1 b2 b3 g0
                    go_wp2_with fail
                    clear q0 q1
                    go_roundw
                    case rel => exact ⟨m + 1, _, ps ++ [⟨y0, y1, y2, y3⟩], by omega, by go_num, HPB.out, by rw [Eqn, HFT.out]; simp [hsa], by rw [List.length_append]; simp; omega⟩
                    case measure => simp [intOf]; omega
                · obtain rfl : m = n2 := by omega
                  have hTm : r2.take m = r2 := List.take_of_length_le (by rw [Hz2.out]; omega)
                  have HF2 : Eqn ps (r2.filter (fun c => hasS S c.a)) := by rw [Eqn, HE2.out, hTm]
                  obtain ⟨pv2, rfl⟩ : ∃ pv2 : Value, pv2 = pv := ⟨_, rfl⟩
                  obtain ⟨ps2, rfl⟩ : ∃ ps2 : List R4, ps2 = ps := ⟨_, rfl⟩
                  obtain ⟨dA, dc, rfl, hD⟩ := own_formS (by decide) hP.2.2.2.2.2.1
                  obtain ⟨A3, c3, rfl, hp0⟩ := own_formS (by decide) hP.2.2.2.2.2.2.2.1
                  obtain ⟨A4, c4, rfl, hp1⟩ := own_formS (by decide) hP.2.2.2.2.2.2.2.2.1
                  obtain ⟨A5, c5, rfl, hp2⟩ := own_formS (by decide) hP.2.2.2.2.2.2.2.2.2
                  dsimp only at *
                  have b8 := hP.2.2.2.1
                  have g0 := b8.cell (i := 0) rfl
                  have g1 := b8.cell (i := 1) rfl
                  have g2 := b8.cell (i := 2) rfl
                  have g3 := b8.cell (i := 3) rfl
                  have g4 := b8.lt
                  have b6 := HX1.out _ hP.1
                  have f0 := b6.cell (i := 0) rfl
                  have f1 := b6.cell (i := 1) rfl
                  have f2 := b6.cell (i := 2) rfl
                  have f3 := b6.cell (i := 3) rfl
                  have f4 := b6.lt
                  have f5 : ∀ o, wo.frozen? ⟨w.heap.size + 1 + 1, o, none⟩ = false := b6.frozen
                  have HPf := Lib.hid hP
                  have HB6 := Lib.hid b6
                  clear hP HE2 hTm b8 b6
                  go_wp2_with fail
                  obtain ⟨Wf, hWf⟩ : ∃ Wf, Wf = (((wo.setCell ⟨w.heap.size + 1 + 1, 0, none⟩ (.slice dA xd.length dc)).setCell ⟨w.heap.size + 1 + 1, 1, none⟩ (.slice A3 ps0.length c3)).setCell ⟨w.heap.size + 1 + 1, 2, none⟩ (.slice A4 ps1.length c4)).setCell ⟨w.heap.size + 1 + 1, 3, none⟩ (.slice A5 ps2.length c5) := ⟨_, rfl⟩
                  have hbf : Blk Wf (w.heap.size + 1 + 1) 29 [.slice dA xd.length dc, .slice A3 ps0.length c3, .slice A4 ps1.length c4, .slice A5 ps2.length c5] := by rw [hWf]; exact (((HB6.out.set_ 0 _).set_ 1 _).set_ 2 _).set_ 3 _
                  have hrow : ∀ {e size m : Nat} {v : Value} {xs : List Value}, wo.ownsRow W1.heap.size e size v m xs → Wf.ownsRow W1.heap.size e size v m xs := by
                    intro e size m v xs h
                    rw [hWf]
                    exact own_set (own_set (own_set (own_set h (by dsimp only; omega) _) (by dsimp only; omega) _) (by dsimp only; omega) _) (by dsimp only; omega) _
                  have hBf : Below w.heap.size w Wf := by
                    have h0 : Below w.heap.size w wo := (HB0.out.trans (HB1.out.mono (by omega))).trans (HPf.out.1.mono (by omega))
                    rw [hWf]
                    exact (((h0.setCell (p := ⟨w.heap.size + 1 + 1, 0, none⟩) (by dsimp only; omega) _).setCell (p := ⟨w.heap.size + 1 + 1, 1, none⟩) (by dsimp only; omega) _).setCell (p := ⟨w.heap.size + 1 + 1, 2, none⟩) (by dsimp only; omega) _).setCell (p := ⟨w.heap.size + 1 + 1, 3, none⟩) (by dsimp only; omega) _
                  rw [← hWf]
                  have k0 := hbf.cell (i := 0) rfl
                  have k1 := hbf.cell (i := 1) rfl
                  have k2 := hbf.cell (i := 2) rfl
                  have k3 := hbf.cell (i := 3) rfl
                  clear hWf f0 f1 f2 f3 f4 f5 g0 g1 g2 g3 g4
                  have hP := HPf.out
                  refine bodyPost_ret (v := .tuple #[.agg #[.slice dA xd.length dc, .slice A3 ps0.length c3, .slice A4 ps1.length c4, .slice A5 ps2.length c5], .int .i64 0]) (by simp [results, Tryd.results19, go_sem, k0, k1, k2, k3]) rfl ?_
                  refine ⟨⟨dA, xd.length, dc, ⟨A3, ps0.length, c3, A4, ps1.length, c4, A5, ps2.length, c5⟩⟩, xd, rfl, ⟨⟨rowS_own (by decide) (hrow hP.2.2.2.2.2.1), fun d hd => row1_own (hrow (hP.2.2.2.2.2.2.1 d hd))⟩, ?_, ?_, ?_, ?_, ?_, ?_⟩, HE.out, hBf⟩
                  · have := rowS_own (by decide) (hrow hP.2.2.2.2.2.2.2.1); dsimp only at this ⊢; rw [HSd.out, ← HF0.out]; exact this
                  · have := rowS_own (by decide) (hrow hP.2.2.2.2.2.2.2.2.1); dsimp only at this ⊢; rw [HSd.out, ← HF1.out]; exact this
                  · have := rowS_own (by decide) (hrow hP.2.2.2.2.2.2.2.2.2); dsimp only at this ⊢; rw [HSd.out, ← HF2.out]; exact this
                  · dsimp only; omega
                  · dsimp only; omega
                  · dsimp only; omega

theorem prb_nil (w : World) (D : Nat) : PrbAt w D ⟨none, 0, 0, ⟨none, 0, 0, none, 0, 0, none, 0, 0⟩⟩ [] ⟨[], [], []⟩ := ⟨⟨RowS.nil _ _ _ _ _, fun d h => by cases h⟩, RowS.nil _ _ _ _ _, RowS.nil _ _ _ _ _, RowS.nil _ _ _ _ _, by decide, by decide, by decide⟩

set_option maxRecDepth 100000 in
set_option maxHeartbeats 8000000 in
theorem problem_any (A : Option Addr) (n c : Nat) (s : RulS) (t : Int) (w : World) (ds : List Dom) (r : Rul) (hn : n ≤ 1000) (hd : ∀ d ∈ ds, d.len ≤ 100) (hl : DomsAt w w.heap.size A n ds) (hr : RulAt w w.heap.size s r) :
    Calls Tryd.prog 19 #[.slice A n c, s.val, .agg #[.int .i64 t]] w (PrbPost (probF ds r t) w) := by
  by_cases hall : vbGo none ds = true ∧ rulesF r = true ∧ vldT t = true
  · have := problem_main A n c s t w ds r hn hd hl hr hall.1 hall.2.1 hall.2.2
    unfold probF
    rw [if_pos hall]
    exact this
  · unfold probF
    rw [if_neg hall]
    obtain ⟨A0, n0, c0, A1, n1, c1, A2, n2, c2⟩ := s
    obtain ⟨W0, hW0⟩ : ∃ W0, W0 = ((w.alloc (.cells #[.slice A0 n0 c0, .slice A1 n1 c1, .slice A2 n2 c2] 27)).alloc (.cells #[.int .i64 t] 40)).alloc (.cells #[.slice none 0 0, .slice none 0 0, .slice none 0 0, .slice none 0 0] 29) := ⟨_, rfl⟩
    have hB0 : Below w.heap.size w W0 := by rw [hW0]; exact (((Below.refl _ w).alloc (Nat.le_refl _) _).alloc (by simp) _).alloc (by simp; omega) _
    have hs0 : W0.heap.size = w.heap.size + 3 := by rw [hW0]; simp
    have HC0 : Hid (W0.cell? ⟨w.heap.size, 0, none⟩ = some (.slice A0 n0 c0) ∧ W0.cell? ⟨w.heap.size, 1, none⟩ = some (.slice A1 n1 c1) ∧ W0.cell? ⟨w.heap.size, 2, none⟩ = some (.slice A2 n2 c2) ∧ W0.cell? ⟨w.heap.size + 1, 0, none⟩ = some (.int .i64 t)) := Lib.hid (by rw [hW0]; refine ⟨?_, ?_, ?_, ?_⟩ <;> simp [go_sem])
    have HX6 : Hid (Blk W0 (w.heap.size + 1 + 1) 29 [.slice none 0 0, .slice none 0 0, .slice none 0 0, .slice none 0 0]) := Lib.hid (by rw [hW0]; have := blk_new ((w.alloc (.cells #[.slice A0 n0 c0, .slice A1 n1 c1, .slice A2 n2 c2] 27)).alloc (.cells #[.int .i64 t] 40)) [.slice none 0 0, .slice none 0 0, .slice none 0 0, .slice none 0 0] 29; simpa using this)
    have HVB := Lib.hid (vbands_any A n c W0 ds hn (fun d h => Nat.le_trans (hd d h) (by omega)) (hl.keep hB0))
    have HR := Lib.hid (hr.keep hB0)
    have HVR : Hid (∀ W, Below W0.heap.size W0 W → Calls Tryd.prog 44 #[.agg #[.slice A0 n0 c0, .slice A1 n1 c1, .slice A2 n2 c2]] W (RetPost (.bool (rulesF r)) W.heap.size W)) := Lib.hid (fun W hb => vrules_any ⟨A0, n0, c0, A1, n1, c1, A2, n2, c2⟩ W r (HR.out.keep hb))
    have HVT := Lib.hid (fun W => bvalid_any t W)
    have HB0 := Lib.hid hB0
    have HBad : Hid (∀ W, Below W0.heap.size W0 W → PrbPost (([], ⟨[], [], []⟩), 2) w (.returned (.tuple #[.agg #[.slice none 0 0, .slice none 0 0, .slice none 0 0, .slice none 0 0], .int .i64 2])) (((((W.setCell ⟨w.heap.size + 1 + 1, 0, none⟩ (.slice none 0 0)).setCell ⟨w.heap.size + 1 + 1, 1, none⟩ (.slice none 0 0)).setCell ⟨w.heap.size + 1 + 1, 2, none⟩ (.slice none 0 0)).setCell ⟨w.heap.size + 1 + 1, 3, none⟩ (.slice none 0 0))) ∧ Blk W (w.heap.size + 1 + 1) 29 [.slice none 0 0, .slice none 0 0, .slice none 0 0, .slice none 0 0] ∧ Blk ((((W.setCell ⟨w.heap.size + 1 + 1, 0, none⟩ (.slice none 0 0)).setCell ⟨w.heap.size + 1 + 1, 1, none⟩ (.slice none 0 0)).setCell ⟨w.heap.size + 1 + 1, 2, none⟩ (.slice none 0 0)).setCell ⟨w.heap.size + 1 + 1, 3, none⟩ (.slice none 0 0)) (w.heap.size + 1 + 1) 29 [.slice none 0 0, .slice none 0 0, .slice none 0 0, .slice none 0 0]) := Lib.hid (fun W hb => by
      have hb6 := HX6.out.keep hb
      refine ⟨⟨_, [], rfl, prb_nil _ _, rfl, ?_⟩, hb6, (((hb6.set_ 0 _).set_ 1 _).set_ 2 _).set_ 3 _⟩
      have h0 := HB0.out.trans (hb.mono (by omega))
      exact (((h0.setCell (p := ⟨w.heap.size + 1 + 1, 0, none⟩) (by dsimp only; omega) _).setCell (p := ⟨w.heap.size + 1 + 1, 1, none⟩) (by dsimp only; omega) _).setCell (p := ⟨w.heap.size + 1 + 1, 2, none⟩) (by dsimp only; omega) _).setCell (p := ⟨w.heap.size + 1 + 1, 3, none⟩) (by dsimp only; omega) _)
    unfold RulS.val
    dsimp only
    clear hl hr hB0 HR
    go_enter Tryd.func19, Tryd.ntmps19
    go_wp2_with fail
    rw [← hW0]
    clear hW0
    refine HVB.out.mono ?_
    rintro e Wa ⟨rfl, hba⟩
    have HBa := Lib.hid hba
    obtain ⟨q0, q1, q2, q3⟩ := HC0.out
    have x0 := (hba.cell (p := ⟨w.heap.size, 0, none⟩) (by dsimp only; omega)).trans q0
    have x1 := (hba.cell (p := ⟨w.heap.size, 1, none⟩) (by dsimp only; omega)).trans q1
    have x2 := (hba.cell (p := ⟨w.heap.size, 2, none⟩) (by dsimp only; omega)).trans q2
    have la : w.heap.size < Wa.heap.size := by have := hba.size; omega
    clear q0 q1 q2 q3 hba
    cases h1 : vbGo none ds with
    | false =>
      clear x0 x1 x2
      obtain ⟨hpost, hb6, hb7⟩ := HBad.out _ HBa.out
      have f0 := hb6.cell (i := 0) rfl
      have f1 := hb6.cell (i := 1) rfl
      have f2 := hb6.cell (i := 2) rfl
      have f3 := hb6.cell (i := 3) rfl
      have f4 := hb6.lt
      have f5 : ∀ o, Wa.frozen? ⟨w.heap.size + 1 + 1, o, none⟩ = false := hb6.frozen
      have HF := Lib.hid (And.intro hpost hb7)
      clear hpost hb6 hb7
      go_wp2_with fail
      clear f0 f1 f2 f3 f4 f5
      have k0 := HF.out.2.cell (i := 0) rfl
      have k1 := HF.out.2.cell (i := 1) rfl
      have k2 := HF.out.2.cell (i := 2) rfl
      have k3 := HF.out.2.cell (i := 3) rfl
      refine bodyPost_ret (v := .tuple #[.agg #[.slice none 0 0, .slice none 0 0, .slice none 0 0, .slice none 0 0], .int .i64 2]) (by simp [results, Tryd.results19, go_sem, k0, k1, k2, k3]) rfl HF.out.1
    | true =>
      rw [h1] at hall
      go_wp2_with fail
      clear x0 x1 x2
      refine (HVR.out _ HBa.out).mono ?_
      rintro e Wb ⟨rfl, hbb⟩
      have HBb := Lib.hid (HBa.out.trans (hbb.mono HBa.out.size))
      clear hbb
      cases h2 : rulesF r with
      | false =>
        obtain ⟨hpost, hb6, hb7⟩ := HBad.out _ HBb.out
        have f0 := hb6.cell (i := 0) rfl
        have f1 := hb6.cell (i := 1) rfl
        have f2 := hb6.cell (i := 2) rfl
        have f3 := hb6.cell (i := 3) rfl
        have f4 := hb6.lt
        have f5 : ∀ o, Wb.frozen? ⟨w.heap.size + 1 + 1, o, none⟩ = false := hb6.frozen
        have HF := Lib.hid (And.intro hpost hb7)
        clear hpost hb6 hb7
        go_wp2_with fail
        clear f0 f1 f2 f3 f4 f5
        have k0 := HF.out.2.cell (i := 0) rfl
        have k1 := HF.out.2.cell (i := 1) rfl
        have k2 := HF.out.2.cell (i := 2) rfl
        have k3 := HF.out.2.cell (i := 3) rfl
        refine bodyPost_ret (v := .tuple #[.agg #[.slice none 0 0, .slice none 0 0, .slice none 0 0, .slice none 0 0], .int .i64 2]) (by simp [results, Tryd.results19, go_sem, k0, k1, k2, k3]) rfl HF.out.1
      | true =>
        rw [h2] at hall
        have x3 := (HBb.out.cell (p := ⟨w.heap.size + 1, 0, none⟩) (by dsimp only; omega)).trans HC0.out.2.2.2
        have lb : w.heap.size + 1 < Wb.heap.size := by have := HBb.out.size; omega
        go_wp2_with fail
        clear x3
        refine (HVT.out _).mono ?_
        rintro e Wc ⟨rfl, hbc⟩
        have HBc := Lib.hid (HBb.out.trans (hbc.mono HBb.out.size))
        clear hbc
        cases h3 : vldT t with
        | false =>
          obtain ⟨hpost, hb6, hb7⟩ := HBad.out _ HBc.out
          have f0 := hb6.cell (i := 0) rfl
          have f1 := hb6.cell (i := 1) rfl
          have f2 := hb6.cell (i := 2) rfl
          have f3 := hb6.cell (i := 3) rfl
          have f4 := hb6.lt
          have f5 : ∀ o, Wc.frozen? ⟨w.heap.size + 1 + 1, o, none⟩ = false := hb6.frozen
          have HF := Lib.hid (And.intro hpost hb7)
          clear hpost hb6 hb7
          go_wp2_with fail
          clear f0 f1 f2 f3 f4 f5
          have k0 := HF.out.2.cell (i := 0) rfl
          have k1 := HF.out.2.cell (i := 1) rfl
          have k2 := HF.out.2.cell (i := 2) rfl
          have k3 := HF.out.2.cell (i := 3) rfl
          refine bodyPost_ret (v := .tuple #[.agg #[.slice none 0 0, .slice none 0 0, .slice none 0 0, .slice none 0 0], .int .i64 2]) (by simp [results, Tryd.results19, go_sem, k0, k1, k2, k3]) rfl HF.out.1
        | true => exact absurd h3 (by simpa using hall)
end Go.Proofs.YtpdhelhngdeoeaaDoor
