/- The reference of layer 26: stations, Problem. -/
import Derived.Test.YtpdhelhngdeoeaaQm26
import Derived.Test.YtpdhelhngdeoeaaRs17
import Derived.Test.YtpdhelhngdeoeaaLexT
namespace Go.Proofs.Ytpdhelhngdeoeaa
open Go.RowKit

theorem st26_any (A : Option Addr) (n c : Nat) (w : World) (ds : List Dom) (hn : n ≤ 1000) (hl : DomsAt w w.heap.size A n ds) :
    Calls Try.prog 48 #[.slice A n c] w (NewInts (ds.map Dom.st) w) := by
  obtain ⟨i0, hi, hz0, hz1, hz2⟩ := info_parts int_info
  have Hl := Lib.hid hl.1
  have Hlen := Eqn.mk hl.1.1
  clear hl
  go_enter Try.func48, Try.ntmps48
  go_wp2_with fail
  go_loopw [3, 4] (fun v i wr => ∃ k : Nat, k ≤ n ∧ i = .int .i64 k ∧ wr.ownsRow w.heap.size 3 1 v k (((ds.take k).map Dom.st).map intV) ∧ Below w.heap.size w wr) (fun _ i _ => n - (intOf i).toNat)
  case atStart => exact ⟨0, Nat.zero_le _, rfl, World.ownsRow_nil _ _ _ _, Below.refl _ _⟩
  case round =>
    obtain ⟨k, hk, rfl, hO, hB⟩ := hrel
    have hbs := hB.size
    by_cases hlt : k < n
    · obtain ⟨p, hp, _⟩ := drop_at (xs := ds) (k := k) (by rw [Hlen.out]; exact hlt)
      obtain ⟨b, off, hA, hbl, hc⟩ := (Hl.out.below hB).2 (by omega)
      subst hA
      have c0 := hc k p hp 0 (by omega)
      simp only [Dom.cell, Nat.add_zero] at c0
      have HT : Eqn (((ds.take (k + 1)).map Dom.st).map intV) (((ds.take k).map Dom.st).map intV ++ [.int .i64 p.st]) := by rw [Eqn, List.take_add_one, hp]; simp [intV]
      have H1 := Lib.hid (And.intro hO hB)
      have j0 : (k : Int) < (n : Int) := by omega
      have hbw : b < wr.heap.size := by omega
      obtain ⟨A1, c1, rfl, _⟩ := row1_of_own hO
      clear hc hp hO hB
      go_wp2_with (at_builtin; refine wpList_append_own_at _ rfl _ _ 38 rfl w.heap.size 3 i0 (.int .i64 0) 1 8 Try.underlying38 hi hz0 hz1 hz2 rfl (by decide) _ _ _ rfl (H1.out.1.alloc _) ⟨wr.heap.size, 0, none⟩ 1 1 [.int .i64 p.st] rfl rfl (cell_one_new _ _ _) (by simp [Value.oneCell']) (by unfold maxLen; omega) (by omega) (by simp; omega) ?_; intro v' w3 hown' hgrow hnil hat; have H3 : Hid (w3.ownsRow w.heap.size 3 1 v' (k + 1) (((ds.take k).map Dom.st).map intV ++ [.int .i64 p.st]) ∧ Below w.heap.size w w3) := Lib.hid ⟨hown', (H1.out.2.alloc (by omega) _).grown hgrow (by simp; omega) (fun g hg => own_ge H1.out.1 g hg)⟩; clear hown' hgrow hnil hat)
      go_roundw
      case rel => exact ⟨k + 1, by omega, by go_num, by rw [HT.out]; exact H3.out.1, H3.out.2⟩
      case measure => simp [intOf]; omega
    · obtain rfl : k = n := by omega
      have hT : ds.take k = ds := List.take_of_length_le (by rw [Hlen.out]; omega)
      rw [hT] at hO
      have HE := Lib.hid (And.intro hO hB)
      clear hO hB
      go_wp2_with fail
      go_ret
      exact ⟨_, rfl, by rw [List.length_map, Hlen.out]; exact HE.out.1, HE.out.2⟩

/-- what the reference's Problem answers -/
def domR (t : Int) (d : Dom) : Int × List Int := (d.st, d.chs.flatMap fun b => chR b t 50)
def keepR (l : List Int) (r : Rul) : Rul := ⟨r.pairs.filter (fun c => hasL l c.a && hasL l c.b), r.loads.filter (fun c => hasL l c.a && hasL l c.b), r.caps.filter (fun c => hasL l c.a)⟩
def PrbRet (o : List (Int × List Int) × Rul) (w : World) (e : Ending) (w' : World) : Prop := ∃ s ds, e = .returned (PrbS.val s) ∧ PrbAt w' w'.heap.size s ds o.2 ∧ ds.map Dom.say = o.1 ∧ Below w.heap.size w w'
section
variable {W1 W W' : World} {B0 g8 : Nat} {v : PrbV} {x : PrbL}
/-- another row of numbers of the call's own stays as one of the rows grows and the box is written -/
theorem QSt.keepI (h : QSt B0 W1 g8 v x W) {base e size k n : Nat} {vv u : Value} {zs ys : List Value} (hu : W.ownsRow W1.heap.size 3 1 u n ys) (hr : W.ownsRow base e size vv k zs) (hte : 3 ≠ e) (hpe : 57 ≠ e) (hg : W.grownBy W' vv.ownBlock) (i : Nat) (y : Value) : (W'.setCell ⟨g8, i, none⟩ y).ownsRow W1.heap.size 3 1 u n ys :=
  row_set (row_kept hu hg hr hte) (blk_kept h.2.2.1 hg (blk_not_row h.2.2.1 hpe hr)) (by decide) i y
end

set_option maxRecDepth 100000 in
set_option maxHeartbeats 8000000 in
theorem rprob_any (A : Option Addr) (n c : Nat) (s : RulS) (t : Int) (w : World) (ds : List Dom) (r : Rul) (hn : n ≤ 1000) (hd : ∀ d ∈ ds, d.len ≤ 100) (hl : DomsAt w w.heap.size A n ds) (hr : RulAt w w.heap.size s r)
    (hq : r.pairs.length ≤ 4096 ∧ r.loads.length ≤ 1024 ∧ r.caps.length ≤ 1024) :
    Calls Try.prog 29 #[.slice A n c, s.val, .agg #[.int .i64 t]] w (PrbRet (ds.map (domR t), keepR (ds.map Dom.st) r) w) := by
  obtain ⟨A0, n0, c0, A1, n1, c1, A2, n2, c2⟩ := s
  obtain ⟨W1, hW1⟩ : ∃ W1, W1 = ((w.alloc (.cells #[.slice A0 n0 c0, .slice A1 n1 c1, .slice A2 n2 c2] 52)).alloc (.cells #[.int .i64 t] 32)).alloc (.cells #[.slice none 0 0, .slice none 0 0, .slice none 0 0, .slice none 0 0] 57) := ⟨_, rfl⟩
  have hB0 : Below w.heap.size w W1 := by rw [hW1]; exact (((Below.refl _ w).alloc (Nat.le_refl _) _).alloc (by simp) _).alloc (by simp; omega) _
  have hs0 : W1.heap.size = w.heap.size + 3 := by rw [hW1]; simp
  have HC0 : Hid (W1.cell? ⟨w.heap.size, 0, none⟩ = some (.slice A0 n0 c0) ∧ W1.cell? ⟨w.heap.size, 1, none⟩ = some (.slice A1 n1 c1) ∧ W1.cell? ⟨w.heap.size, 2, none⟩ = some (.slice A2 n2 c2) ∧ W1.cell? ⟨w.heap.size + 1, 0, none⟩ = some (.int .i64 t)) := Lib.hid (by rw [hW1]; refine ⟨?_, ?_, ?_, ?_⟩ <;> simp [go_sem])
  have HX6 : Hid (Blk W1 (w.heap.size + 1 + 1) 57 [.slice none 0 0, .slice none 0 0, .slice none 0 0, .slice none 0 0]) := Lib.hid (by rw [hW1]; have := blk_new ((w.alloc (.cells #[.slice A0 n0 c0, .slice A1 n1 c1, .slice A2 n2 c2] 52)).alloc (.cells #[.int .i64 t] 32)) [.slice none 0 0, .slice none 0 0, .slice none 0 0, .slice none 0 0] 57; simpa using this)
  have HL := Lib.hid (hl.keep hB0)
  have HR := Lib.hid (hr.keep hB0)
  have HB0 := Lib.hid hB0
  obtain ⟨V0, hV0⟩ : ∃ V0, V0 = W1.alloc (.cells #[.slice none 0 0, .slice none 0 0, .slice none 0 0, .slice none 0 0] 57) := ⟨_, rfl⟩
  have HP0 : Hid (QSt w.heap.size W1 (w.heap.size + 1 + 1 + 1) ⟨nilS, nilS, nilS, nilS⟩ ⟨[], [], [], []⟩ V0) := Lib.hid (by
    rw [hV0]
    exact ⟨(Below.refl _ W1).alloc (Nat.le_refl _) _, by omega, by rw [← show W1.heap.size = w.heap.size + 1 + 1 + 1 by omega]; exact blk_new W1 [nilS, nilS, nilS, nilS] 57, World.ownsRow_nil _ _ _ _, (fun d h => by cases h), World.ownsRow_nil _ _ _ _, World.ownsRow_nil _ _ _ _, World.ownsRow_nil _ _ _ _⟩)
  have HD := Lib.hid hd
  have Hlen := Eqn.mk HL.out.1.1
  have HLW : Hid (∀ W, Below W1.heap.size W1 W → DomsAt W W1.heap.size A n ds) := Lib.hid (fun W hb => HL.out.below hb)
  have HT5 : Hid (∀ W, Below W1.heap.size W1 W → W.cell? ⟨w.heap.size + 1, 0, none⟩ = some (.int .i64 t)) := Lib.hid (fun W hb => (hb.cell (p := ⟨w.heap.size + 1, 0, none⟩) (by dsimp only; omega)).trans HC0.out.2.2.2)
  have hw1 : w.heap.size + 3 ≤ W1.heap.size := by omega
  unfold RulS.val
  dsimp only
  clear hl hr hB0 hd
  go_enter Try.func29, Try.ntmps29
  go_wp2_with fail
  rw [← hW1, ← hV0]
  clear hW1 hV0
  go_loopw [8] (fun i wr => ∃ (k : Nat) (dv : Value) (xd : List Dom), k ≤ n ∧ i = .int .i64 k ∧ QSt w.heap.size W1 (w.heap.size + 1 + 1 + 1) ⟨dv, nilS, nilS, nilS⟩ ⟨xd, [], [], []⟩ wr ∧ Eqn (xd.map Dom.say) ((ds.take k).map (domR t)) ∧ xd.length = k) (fun i _ => n - (intOf i).toNat)
  case atStart => exact ⟨0, nilS, [], Nat.zero_le _, rfl, HP0.out, rfl, rfl⟩
  case round =>
    clear HP0
    obtain ⟨k, dv, xd, hk, rfl, hP, HE, hxl⟩ := hrel
    obtain ⟨wo, rfl⟩ : ∃ wo : World, wo = wr := ⟨_, rfl⟩
    have HXL := Lib.hid hxl
    clear hxl
    have hbs := hP.1.size
    have hwo : W1.heap.size < wo.heap.size := by have := hP.2.2.1.lt; omega
    by_cases hlt : k < n
    · obtain ⟨p, hp, _⟩ := drop_at (xs := ds) (k := k) (by rw [Hlen.out]; exact hlt)
      obtain ⟨b, off, hA, hbl, hc⟩ := (HLW.out _ hP.1).1.2 (by omega)
      have hrow := (HLW.out _ hP.1).2 p (List.mem_of_getElem? hp)
      have hpl := HD.out p (List.mem_of_getElem? hp)
      have c0' := hc k p hp 0 (by omega)
      have HC1 : Hid (∀ W, Below W1.heap.size W1 W → W.cell? ⟨b, off + k * 2 + 1, none⟩ = some (.slice p.adr p.len p.cap)) := Lib.hid (fun W hb => by
        obtain ⟨b', off', hA', _, hc'⟩ := (HLW.out W hb).1.2 (by omega)
        rw [hA] at hA'
        cases hA'
        exact hc' k p hp 1 (by omega))
      simp only [Dom.cell, Nat.add_zero] at c0'
      have hTD : (ds.take (k + 1)).map (domR t) = (ds.take k).map (domR t) ++ [domR t p] := by rw [List.take_add_one, hp]; simp
      have HTD := Eqn.mk hTD
      have HROW : Hid (∀ W, Below W1.heap.size W1 W → Row1 intV W W1.heap.size p.adr p.len p.chs) := Lib.hid (fun W hb => (HLW.out W hb).2 p (List.mem_of_getElem? hp))
      subst hA
      obtain ⟨st, adr, len, cap, chs⟩ := p
      dsimp only at *
      obtain ⟨V1, hV1⟩ : ∃ V1, V1 = wo.alloc (.cells #[.int .i64 st, .slice none 0 0] 71) := ⟨_, rfl⟩
      have h12 : Blk V1 wo.heap.size 71 [.int .i64 st, .slice none 0 0] := by rw [hV1]; exact blk_new wo _ _
      have hbv : Below wo.heap.size wo V1 := by rw [hV1]; exact (Below.refl _ wo).alloc (Nat.le_refl _) _
      have HV := Lib.hid (And.intro h12 hbv)
      have HCL : Hid (chs.length = len) := Lib.hid hrow.1
      have j0 : (k : Int) < (n : Int) := by omega
      have hbw : b < wo.heap.size := by omega
      clear hc hp hTD h12 hbv hrow
      have HPk := Lib.hid hP
      clear hP
      go_wp2_with fail
      rw [← hV1]
      clear hV1 c0'
      go_loopw [10] (fun i wi => ∃ (m : Nat) (ca : Option Addr) (cl cc : Nat) (L : List Int), m ≤ len ∧ i = .int .i64 m ∧ Blk wi wo.heap.size 71 [.int .i64 st, .slice ca cl cc] ∧ wi.ownsRow wo.heap.size 3 1 (.slice ca cl cc) cl (L.map intV) ∧ Eqn L ((chs.take m).flatMap fun b => chR b t 50) ∧ L.length ≤ 50 * m ∧ Below wo.heap.size wo wi) (fun i _ => len - (intOf i).toNat)
      case atStart => exact ⟨0, none, 0, 0, [], Nat.zero_le _, rfl, HV.out.1, World.ownsRow_nil _ _ _ _, rfl, by simp, HV.out.2⟩
      case round =>
        obtain ⟨m, ca, cl, cc, L, hm, rfl, h12, hO, HLq, hLl, hBi⟩ := hrel
        have his := hBi.size
        have hcl : L.length = cl := by obtain ⟨_, _, he, hrr⟩ := row1_of_own hO; cases he; exact hrr.1
        have hBW : Below W1.heap.size W1 wr := HPk.out.1.trans (hBi.mono hbs)
        have c1' := HC1.out _ hBW
        have hbw2' : b < wr.heap.size := by omega
        by_cases hml : m < len
        · obtain ⟨y, hy, _⟩ := drop_at (xs := chs) (k := m) (by rw [HCL.out]; exact hml)
          obtain ⟨b2, off2, hA2, hbl2, hc2⟩ := (HROW.out _ hBW).2 (by omega)
          have y0 := hc2 m y hy
          simp only [intV] at y0
          have y5 := HT5.out _ hBW
          have HLN : Eqn ((chs.take (m + 1)).flatMap fun b => chR b t 50) (L ++ chR y t 50) := by rw [Eqn, List.take_add_one, hy, List.flatMap_append, ← HLq.out]; simp
          have hchl := chR_len y t 50
          have HCH := Lib.hid (fun W => channelsR_any y t W)
          unfold NewInts at HCH
          generalize chR y t 50 = ch at *
          have m0 : (m : Int) < (len : Int) := by omega
          have hbw2 : b2 < wr.heap.size := by omega
          have hw5 : w.heap.size + 1 < wr.heap.size := by omega
          have z1 : wr.cell? ⟨wo.heap.size, 1, none⟩ = some (.slice ca cl cc) := h12.cell rfl
          have hlw := h12.lt
          have HI := Lib.hid (And.intro h12 (And.intro hO hBi))
          obtain ⟨i0, hi, hz0, hz1, hz2⟩ := info_parts int_info
          subst hA2
          clear hc2 hy h12 hO hBi HLq hBW
          go_wp2_with fail
          refine Lx.regionT (C := fun X => X.cell? ⟨wo.heap.size, 1, none⟩ = some (.slice ca cl cc)) (C' := fun _ => True) (hs := [1]) 14 (List.take 14 _) (List.drop 14 _) (List.take_append_drop 14 _).symm rfl (by kernel_rfl) (by kernel_rfl) (by kernel_rfl) z1 ?_
          simp only [List.take_succ_cons, List.take_zero, List.drop_succ_cons, List.drop_zero]
          repeat' (first
            | (refine Lx.lex_no (Lx.n1 rfl rfl rfl (by with_reducible rfl)) (fun K hK => ?_); go_simp; skip; refine hK _ ?_; clear hK K)
            | (refine Lx.lex_no (Lx.n0 rfl rfl rfl (by with_reducible rfl)) (fun K hK => ?_); go_simp; skip; refine hK _ ?_; clear hK K)
            | (refine Lx.lex_no (Lx.n2 rfl rfl rfl) (fun K hK => ?_); go_simp; skip; refine hK _ ?_; clear hK K)
            | (refine Lx.lex_pure (v := ?_) rfl (by first | exact Lx.w0 rfl | exact Lx.w1 rfl rfl rfl (by with_reducible rfl)) ?_ (fun K hK => ?_); rotate_left 1; (intro w' hCw; (try dsimp only at hCw); go_simp; first | done | with_reducible rfl); go_simp; skip; refine hK _ ?_; clear hK K)
            | (refine Lx.lex_read (v := ?_) rfl (by first | exact Lx.w0 rfl | exact Lx.w1 rfl rfl rfl (by with_reducible rfl)) ?_ (fun K hK => ?_); rotate_left 1; (go_simp; first | done | with_reducible rfl); go_simp; skip; refine hK _ ?_; clear hK K)
            | (refine Lx.lex_eff rfl (by first | exact Lx.w0 rfl | exact Lx.w1 rfl rfl rfl (by with_reducible rfl)) (fun K hK => ?_); go_simp; (first | (go_at_call 21; refine (HCH.out _).mono ?_; rintro e W5 ⟨v5, rfl, hown5, hb5⟩; obtain ⟨A5, c5, rfl, hr5⟩ := row1_of_own hown5; have h12b : Blk W5 wo.heap.size 71 [.int .i64 st, .slice ca cl cc] := Blk.keep HI.out.1.drew hb5; have z2 : W5.cell? ⟨wo.heap.size, 1, none⟩ = some (.slice ca cl cc) := h12b.cell rfl)); refine hK _ _ (z2) ?_; clear hK K))
          have hOb : W5.ownsRow wo.heap.size 3 1 (.slice ca cl cc) cl (L.map intV) := own_keep (w := wr.drew) HI.out.2.1 hb5
          have hBb : Below wo.heap.size wo W5 := HI.out.2.2.drew.trans (hb5.mono his)
          have hs5 := hBb.size
          refine Lx.lex_append_row rfl rfl _ _ 38 rfl intV_one wo.heap.size 3 i0 (.int .i64 0) 8 Try.underlying38 hi hz0 hz1 hz2 rfl _ _ _ rfl hOb A5 _ c5 ch _ rfl hr5 (by unfold maxLen; omega) (by omega) (by omega) ?_
          intro v' w3 hown' hgrow hor
          rw [← List.map_append] at hown'
          have h12c : Blk w3 wo.heap.size 71 [.int .i64 st, .slice ca cl cc] := blk_kept h12b hgrow (blk_not_row h12b (by decide) hOb)
          have hBc : Below wo.heap.size wo w3 := hBb.grown hgrow hBb.size (own_ge hOb)
          have hcl2 : cl + ch.length = (L ++ ch).length := by rw [List.length_append, hcl]
          rw [hcl2] at hown'
          obtain ⟨vA, vc, rfl, _⟩ := row1_of_own hown'
          have z3 : w3.cell? ⟨wo.heap.size, 1, none⟩ = some (.slice ca cl cc) := h12c.cell rfl
          have z4 := h12c.frozen 1
          have z5 := h12c.lt
          have HK : Hid (Blk (w3.setCell ⟨wo.heap.size, 1, none⟩ (.slice vA (L ++ ch).length vc)) wo.heap.size 71 [.int .i64 st, .slice vA (L ++ ch).length vc] ∧ (w3.setCell ⟨wo.heap.size, 1, none⟩ (.slice vA (L ++ ch).length vc)).ownsRow wo.heap.size 3 1 (.slice vA (L ++ ch).length vc) (L ++ ch).length ((L ++ ch).map intV) ∧ Below wo.heap.size wo (w3.setCell ⟨wo.heap.size, 1, none⟩ (.slice vA (L ++ ch).length vc))) := Lib.hid ⟨h12c.set_ 1 _, row_set hown' h12c (by decide) 1 _, hBc.setCell (p := ⟨wo.heap.size, 1, none⟩) (Nat.le_refl _) _⟩
          have HLL : Hid (L.length ≤ 50 * m ∧ ch.length ≤ 50) := Lib.hid ⟨hLl, hchl⟩
          generalize (L ++ ch).length = N at *
          refine ⟨z3, ?_⟩
          clear hown' hgrow hor h12b h12c hOb hBb hBc hown5 hb5 hr5 hcl2 y0 y5 c1' z1 z2
          repeat' (first
            | (refine Lx.lex_no (Lx.n1 rfl rfl rfl (by with_reducible rfl)) (fun K hK => ?_); go_simp; skip; refine hK _ ?_; clear hK K)
            | (refine Lx.lex_no (Lx.n0 rfl rfl rfl (by with_reducible rfl)) (fun K hK => ?_); go_simp; skip; refine hK _ ?_; clear hK K)
            | (refine Lx.lex_no (Lx.n2 rfl rfl rfl) (fun K hK => ?_); go_simp; skip; refine hK _ ?_; clear hK K)
            | (refine Lx.lex_pure (v := ?_) rfl (by first | exact Lx.w0 rfl | exact Lx.w1 rfl rfl rfl (by with_reducible rfl)) ?_ (fun K hK => ?_); rotate_left 1; (intro w' hCw; (try dsimp only at hCw); go_simp; first | done | with_reducible rfl); go_simp; skip; refine hK _ ?_; clear hK K)
            | (refine Lx.lex_read (v := ?_) rfl (by first | exact Lx.w0 rfl | exact Lx.w1 rfl rfl rfl (by with_reducible rfl)) ?_ (fun K hK => ?_); rotate_left 1; (go_simp; first | done | with_reducible rfl); go_simp; skip; refine hK _ ?_; clear hK K)
            | (refine Lx.lex_eff rfl (by first | exact Lx.w0 rfl | exact Lx.w1 rfl rfl rfl (by with_reducible rfl)) (fun K hK => ?_); go_simp; (first | fail); refine hK _ _ (z3) ?_; clear hK K))
          all_goals (refine Lx.lex_nil ?_)
          refine ⟨trivial, ?_⟩
          repeat' (first
            | (refine Lx.lex_no (Lx.n1 rfl rfl rfl (by with_reducible rfl)) (fun K hK => ?_); go_simp; skip; refine hK _ ?_; clear hK K)
            | (refine Lx.lex_no (Lx.n0 rfl rfl rfl (by with_reducible rfl)) (fun K hK => ?_); go_simp; skip; refine hK _ ?_; clear hK K)
            | (refine Lx.lex_no (Lx.n2 rfl rfl rfl) (fun K hK => ?_); go_simp; skip; refine hK _ ?_; clear hK K)
            | (refine Lx.lex_pure (v := ?_) rfl (by first | exact Lx.w0 rfl | exact Lx.w1 rfl rfl rfl (by with_reducible rfl)) ?_ (fun K hK => ?_); rotate_left 1; (intro w' hCw; (try dsimp only at hCw); go_simp; first | done | with_reducible rfl); go_simp; skip; refine hK _ ?_; clear hK K)
            | (refine Lx.lex_read (v := ?_) rfl (by first | exact Lx.w0 rfl | exact Lx.w1 rfl rfl rfl (by with_reducible rfl)) ?_ (fun K hK => ?_); rotate_left 1; (go_simp; first | done | with_reducible rfl); go_simp; skip; refine hK _ ?_; clear hK K)
            | (refine Lx.lex_eff rfl (by first | exact Lx.w0 rfl | exact Lx.w1 rfl rfl rfl (by with_reducible rfl)) (fun K hK => ?_); go_simp; (first | skip); refine hK _ _ (trivial) ?_; clear hK K))
          all_goals (refine Lx.lex_nil ?_)
          go_wp2_with fail
          go_roundw
          case rel => exact ⟨m + 1, vA, N, vc, L ++ ch, by omega, by go_num, HK.out.1, HK.out.2.1, HLN.out.symm, by rw [List.length_append]; have := HLL.out; omega, HK.out.2.2⟩
          case measure => simp [intOf]; omega
        · obtain rfl : m = len := by omega
          have hTT : chs.take m = chs := List.take_of_length_le (by rw [HCL.out]; omega)
          have HLF : Eqn L (chs.flatMap fun b => chR b t 50) := by rw [Eqn, HLq.out, hTT]
          have hQ := HPk.out.call hBi
          have e80 : wr.cell? ⟨w.heap.size + 1 + 1 + 1, 0, none⟩ = some dv := hQ.2.2.1.cell rfl
          have e81 := hQ.2.2.1.frozen 0
          have e82 := hQ.2.2.1.lt
          have e120 : wr.cell? ⟨wo.heap.size, 0, none⟩ = some (.int .i64 st) := h12.cell rfl
          have e121 : wr.cell? ⟨wo.heap.size, 1, none⟩ = some (.slice ca cl cc) := h12.cell rfl
          have e122 := h12.lt
          have HPA := Lib.hid (hQ.alloc (.cells #[.int .i64 st, .slice ca cl cc] 71))
          have hOA := Lib.hid (row_alloc (own_low hO hbs) (.cells #[.int .i64 st, .slice ca cl cc] 71))
          obtain ⟨i0, hi, hz0, hz1, hz2⟩ := info_parts dom_info
          obtain ⟨dA, dcap, hdv, _⟩ := own_formS (by decide) hQ.2.2.2.1
          dsimp only at hdv
          subst hdv
          clear h12 hO hQ HLq hTT hBW hBi
          go_wp2_with (at_builtin; refine Hid.out ?_)
          unfold Hid
          refine wpList_append_own_at _ rfl _ _ 55 rfl W1.heap.size 71 i0 (.agg #[.int .i64 0, .slice none 0 0]) 2 32 Try.underlying55 hi hz0 hz1 hz2 rfl (by decide) _ _ _ rfl HPA.out.2.2.2.1 ⟨wr.heap.size, 0, none⟩ 1 1 [.int .i64 st, .slice ca cl cc] rfl rfl (cells_newN wr _ _) (by simp [Value.oneCell']) (by have := HXL.out; dsimp only; unfold maxLen; omega) (by have := HXL.out; dsimp only; omega) (by simp; omega) ?_
          intro v' w3 hown' hgrow hnil hat
          replace hgrow : World.grownBy _ w3 (Value.slice dA xd.length dcap).ownBlock := hgrow
          replace hown' : w3.ownsRow W1.heap.size 71 2 v' (xd.length + 1) (flat 2 Dom.cell xd ++ (List.range 2).map (Dom.cell ⟨st, ca, cl, cc, L⟩)) := hown'
          have H3 := Lib.hid (And.intro hown' hgrow)
          rw [← flat_snoc] at hown'
          obtain ⟨vA, vc, rfl, _⟩ := own_formS (by decide) hown'
          have HPB := Lib.hid (HPA.out.addD (y := ⟨st, ca, cl, cc, L⟩) hgrow H3.out.1 (.inl hOA.out))
          have hb8 : Blk w3 (w.heap.size + 1 + 1 + 1) 57 [.slice dA xd.length dcap, nilS, nilS, nilS] := blk_kept HPA.out.2.2.1 hgrow (blk_not_row HPA.out.2.2.1 (by decide) HPA.out.2.2.2.1)
          have r0 : w3.cell? ⟨w.heap.size + 1 + 1 + 1, 0, none⟩ = some (.slice dA xd.length dcap) := hb8.cell rfl
          have r1 := hb8.frozen 0
          have r2 := hb8.lt
          clear hown' hgrow hnil hat hb8 e80 e81 e82 e120 e121 e122 c1'
          go_wp2_with fail
          clear r0 r1 r2
          go_roundw
          case rel =>
            refine ⟨k + 1, .slice vA (xd.length + 1) vc, xd ++ [⟨st, ca, cl, cc, L⟩], by omega, by go_num, HPB.out, ?_, by rw [List.length_append, HXL.out]; rfl⟩
            rw [Eqn, HTD.out, List.map_append, HE.out]
            simp [Dom.say, domR, ← HLF.out]
          case measure => simp [intOf]; omega
    · obtain rfl : k = n := by omega
      have hTk : ds.take k = ds := List.take_of_length_le (by rw [Hlen.out]; omega)
      rw [hTk] at HE
      have HR1 := HR
      obtain ⟨hq0, hq1, hq2⟩ := hq
      have HC1 : Hid (∀ W, Below W1.heap.size W1 W → W.cell? ⟨w.heap.size, 0, none⟩ = some (.slice A0 n0 c0) ∧ W.cell? ⟨w.heap.size, 1, none⟩ = some (.slice A1 n1 c1) ∧ W.cell? ⟨w.heap.size, 2, none⟩ = some (.slice A2 n2 c2)) := Lib.hid (fun W hb => by
        obtain ⟨q0, q1, q2, _⟩ := HC0.out
        exact ⟨(hb.cell (p := ⟨w.heap.size, 0, none⟩) (by dsimp only; omega)).trans q0, (hb.cell (p := ⟨w.heap.size, 1, none⟩) (by dsimp only; omega)).trans q1, (hb.cell (p := ⟨w.heap.size, 2, none⟩) (by dsimp only; omega)).trans q2⟩)
      have HX1 : Hid (∀ W, Below W1.heap.size W1 W → Blk W (w.heap.size + 1 + 1) 57 [.slice none 0 0, .slice none 0 0, .slice none 0 0, .slice none 0 0]) := Lib.hid (fun W hb => HX6.out.keepB hb (by omega))
      have HSS := Lib.hid (fun W (hb : Below W1.heap.size W1 W) => st26_any A k c W ds hn ((HLW.out W hb).up hb.size))
      unfold NewInts at HSS
      have hSl : (ds.map Dom.st).length = k := by rw [List.length_map, Hlen.out]
      rw [hSl] at HSS
      generalize hS : ds.map Dom.st = SL at *
      have HSd := Eqn.mk hS
      have HSl := Eqn.mk hSl
      clear hS hTk hSl
      obtain ⟨r0, r1, r2⟩ := r
      obtain ⟨R0, R1, R2, _⟩ := HR1.out
      dsimp only at R0 R1 R2 hq0 hq1 hq2
      have hz0 := R0.1
      have hz1 := R1.1
      have hz2 := R2.1
      have HR0 := Lib.hid R0
      have HRr1 := Lib.hid R1
      have HRr2 := Lib.hid R2
      have l0 : n0 ≤ 4096 := by omega
      have l1 : n1 ≤ 1024 := by omega
      have l2 : n2 ≤ 1024 := by omega
      have Hz0 := Eqn.mk hz0
      have Hz1 := Eqn.mk hz1
      have Hz2 := Eqn.mk hz2
      have HHP := Lib.hid hP
      clear R0 R1 R2 hz0 hz1 hz2 hq0 hq1 hq2 HR1 hP
      go_wp2_with fail
      refine (HSS.out _ HHP.out.1).mono ?_
      rintro e W4 ⟨sv, rfl, hos, hb4⟩
      have hP4 := HHP.out.call hb4
      have hos4 := own_low hos hbs
      obtain ⟨sA, sc, rfl, _⟩ := row1_of_own hos
      have hbs4 := hP4.1.size
      have hwo4 : W1.heap.size < W4.heap.size := by have := hP4.2.2.1.lt; omega
      have HHA : Hid (∀ (i : Int) (W : World), W.ownsRow W1.heap.size 3 1 (.slice sA k sc) k (SL.map intV) → Calls Try.prog 49 #[.slice sA k sc, .int .i64 i] W fun e w' => e = .returned (.bool (hasL SL i)) ∧ W = w') := Lib.hid (fun i W h => rhas_any sA k sc i W SL (by omega) (row1_own h))
      have HPk := Lib.hid (And.intro hP4 hos4)
      have x0 := (HC1.out _ hP4.1).1
      have lw : w.heap.size < W4.heap.size := by omega
      clear hP4 hos hb4 hos4 HHP HSS
      go_wp2_with fail
      clear x0
      go_loopw [12] (fun i wi => ∃ (m : Nat) (pv : Value) (ps : List R5), m ≤ n0 ∧ i = .int .i64 m ∧ QSt w.heap.size W1 (w.heap.size + 1 + 1 + 1) ⟨dv, pv, nilS, nilS⟩ ⟨xd, ps, [], []⟩ wi ∧ wi.ownsRow W1.heap.size 3 1 (.slice sA k sc) k (SL.map intV) ∧ Eqn ps ((r0.take m).filter (fun c => hasL SL c.a && hasL SL c.b)) ∧ ps.length ≤ m) (fun i _ => n0 - (intOf i).toNat)
      case atStart => exact ⟨0, nilS, [], Nat.zero_le _, rfl, HPk.out.1, HPk.out.2, by rw [List.take_zero]; rfl, Nat.le_refl _⟩
      case round =>
        obtain ⟨m, pv, ps, hm, rfl, hP, hos, HE0, hpl⟩ := hrel
        obtain ⟨wo, rfl⟩ : ∃ wo : World, wo = wr := ⟨_, rfl⟩
        have hbs := hP.1.size
        have qx := (HC1.out _ hP.1).1
        have lwx : w.heap.size < wo.heap.size := by omega
        by_cases hlt : m < n0
        · obtain ⟨y, hy, _⟩ := drop_at (xs := r0) (k := m) (by rw [Hz0.out]; exact hlt)
          obtain ⟨b, off, hA, hbl, hc⟩ := (HR0.out.below hP.1).2 (by omega)
          have HFT := Eqn.mk (filter_take (fun c => hasL SL c.a && hasL SL c.b) r0 m y hy)
          rw [← HE0.out] at HFT
          obtain ⟨y0, y1, y2, y3, y4⟩ := y
          have e0 := hc m _ hy 0 (by omega)
          have e1 := hc m _ hy 1 (by omega)
          have e2 := hc m _ hy 2 (by omega)
          have e3 := hc m _ hy 3 (by omega)
          have e4 := hc m _ hy 4 (by omega)
          simp only [R5.cell, Nat.add_zero] at e0 e1 e2 e3 e4
          dsimp only at HFT
          have hbw : b < wo.heap.size := by omega
          have m0 : (m : Int) < (n0 : Int) := by omega
          have HV := Lib.hid (And.intro hP hos)
          obtain ⟨pA, pcap, hpv, _⟩ := own_formS (by decide) hP.2.2.2.2.2.1
          dsimp only at hpv
          subst hpv
          have g0 : wo.cell? ⟨w.heap.size + 1 + 1 + 1, 1, none⟩ = some (.slice pA ps.length pcap) := hP.2.2.1.cell rfl
          have g1 := hP.2.2.1.lt
          subst hA
          clear hc hy hP hos
          go_wp2_with fail
          refine (HHA.out _ _ HV.out.2).mono ?_
          rintro e wz ⟨rfl, rfl⟩
          cases hsa : hasL SL y0 with
          | false =>
            go_wp2_with fail
            go_roundw
            case rel => exact ⟨m + 1, _, ps, by omega, by go_num, HV.out.1, HV.out.2, by rw [Eqn, HFT.out]; simp [hsa], by omega⟩
            case measure => simp [intOf]; omega
          | true =>
            go_wp2_with fail
            refine (HHA.out _ _ HV.out.2).mono ?_
            rintro e wz ⟨rfl, rfl⟩
            cases hsb : hasL SL y1 with
            | false =>
              go_wp2_with fail
              go_roundw
              case rel => exact ⟨m + 1, _, ps, by omega, by go_num, HV.out.1, HV.out.2, by rw [Eqn, HFT.out]; simp [hsa, hsb], by omega⟩
              case measure => simp [intOf]; omega
            | true =>
              obtain ⟨i0, hi, hz0, hz1, hz2⟩ := info_parts pair_info
              have HPA : Hid (QSt w.heap.size W1 (w.heap.size + 1 + 1 + 1) ⟨dv, .slice pA ps.length pcap, nilS, nilS⟩ ⟨xd, ps, [], []⟩ (wo.alloc (.cells #[.int .i64 y0, .int .i64 y1, .int .i64 y2, .int .i64 y3, .int .i64 y4] 69)).drew) := Lib.hid ((HV.out.1.alloc (.cells #[.int .i64 y0, .int .i64 y1, .int .i64 y2, .int .i64 y3, .int .i64 y4] 69)).call (Below.refl _ _).drew)
              have HOA : Hid ((wo.alloc (.cells #[.int .i64 y0, .int .i64 y1, .int .i64 y2, .int .i64 y3, .int .i64 y4] 69)).drew.ownsRow W1.heap.size 3 1 (.slice sA k sc) k (SL.map intV)) := Lib.hid (own_keep (row_alloc HV.out.2 _) (Below.refl _ _).drew)
              go_wp2_with fail
              refine Lx.regionT (C := fun X => X.cell? ⟨w.heap.size + 1 + 1 + 1, 1, none⟩ = some (.slice pA ps.length pcap)) (C' := fun _ => True) (hs := [2]) 12 (List.take 12 _) (List.drop 12 _) (List.take_append_drop 12 _).symm rfl (by kernel_rfl) (by kernel_rfl) (by kernel_rfl) g0 ?_
              simp only [List.take_succ_cons, List.take_zero, List.drop_succ_cons, List.drop_zero]
              repeat' (first
                | (refine Lx.lex_no (Lx.n1 rfl rfl rfl (by with_reducible rfl)) (fun K hK => ?_); go_simp; skip; refine hK _ ?_; clear hK K)
                | (refine Lx.lex_no (Lx.n0 rfl rfl rfl (by with_reducible rfl)) (fun K hK => ?_); go_simp; skip; refine hK _ ?_; clear hK K)
                | (refine Lx.lex_no (Lx.n2 rfl rfl rfl) (fun K hK => ?_); go_simp; skip; refine hK _ ?_; clear hK K)
                | (refine Lx.lex_pure (v := ?_) rfl (by first | exact Lx.w0 rfl | exact Lx.w1 rfl rfl rfl (by with_reducible rfl)) ?_ (fun K hK => ?_); rotate_left 1; (intro w' hCw; (try dsimp only at hCw); go_simp; first | done | with_reducible rfl); go_simp; skip; refine hK _ ?_; clear hK K)
                | (refine Lx.lex_read (v := ?_) rfl (by first | exact Lx.w0 rfl | exact Lx.w1 rfl rfl rfl (by with_reducible rfl)) ?_ (fun K hK => ?_); rotate_left 1; (go_simp; first | done | with_reducible rfl); go_simp; skip; refine hK _ ?_; clear hK K)
                | (refine Lx.lex_eff rfl (by first | exact Lx.w0 rfl | exact Lx.w1 rfl rfl rfl (by with_reducible rfl)) (fun K hK => ?_); go_simp; (first | fail | skip); refine hK _ _ (HPA.out.2.2.1.cell rfl) ?_; clear hK K))
              refine Lx.lex_append rfl rfl _ _ 48 rfl W1.heap.size 69 i0 (.agg #[.int .i64 0, .int .i64 0, .int .i64 0, .int .i64 0, .int .i64 0]) 5 40 Try.underlying48 hi hz0 hz1 hz2 rfl (by decide) _ _ _ rfl (by exact HPA.out.2.2.2.2.2.1) ⟨wo.heap.size, 0, none⟩ 1 1 [.int .i64 y0, .int .i64 y1, .int .i64 y2, .int .i64 y3, .int .i64 y4] rfl rfl (by exact cells_newN wo _ _) (by simp [Value.oneCell']) (by dsimp only; unfold maxLen; omega) (by dsimp only; omega) (by simp; omega) ?_
              intro v' w3 hown' hgrow hor
              replace hgrow : World.grownBy _ w3 (Value.slice pA ps.length pcap).ownBlock := hgrow
              replace hown' : w3.ownsRow W1.heap.size 69 5 v' (ps.length + 1) (flat 5 R5.cell ps ++ (List.range 5).map (R5.cell ⟨y0, y1, y2, y3, y4⟩)) := hown'
              have H3 := Lib.hid (And.intro hown' hgrow)
              rw [← flat_snoc] at hown'
              obtain ⟨vA, vc, rfl, _⟩ := own_formS (by decide) hown'
              have HPB := Lib.hid (HPA.out.addP (y := ⟨y0, y1, y2, y3, y4⟩) hgrow H3.out.1)
              have HOB := Lib.hid (HPA.out.keepI HOA.out HPA.out.2.2.2.2.2.1 (by decide) (by decide) hgrow 1 (.slice vA (ps.length + 1) vc))
              have hb8 := blk_kept HPA.out.2.2.1 hgrow (blk_not_row HPA.out.2.2.1 (by decide) HPA.out.2.2.2.2.2.1)
              have q0 : w3.cell? ⟨w.heap.size + 1 + 1 + 1, 1, none⟩ = some (.slice pA ps.length pcap) := hb8.cell rfl
              have q1 := hb8.frozen 1
              have q2 := hb8.lt
              refine ⟨q0, ?_⟩
              clear hown' hgrow hor hb8 g0 g1 e0 e1 e2 e3 e4 qx
              repeat' (first
                | (refine Lx.lex_no (Lx.n1 rfl rfl rfl (by with_reducible rfl)) (fun K hK => ?_); go_simp; skip; refine hK _ ?_; clear hK K)
                | (refine Lx.lex_no (Lx.n0 rfl rfl rfl (by with_reducible rfl)) (fun K hK => ?_); go_simp; skip; refine hK _ ?_; clear hK K)
                | (refine Lx.lex_no (Lx.n2 rfl rfl rfl) (fun K hK => ?_); go_simp; skip; refine hK _ ?_; clear hK K)
                | (refine Lx.lex_pure (v := ?_) rfl (by first | exact Lx.w0 rfl | exact Lx.w1 rfl rfl rfl (by with_reducible rfl)) ?_ (fun K hK => ?_); rotate_left 1; (intro w' hCw; (try dsimp only at hCw); go_simp; first | done | with_reducible rfl); go_simp; skip; refine hK _ ?_; clear hK K)
                | (refine Lx.lex_read (v := ?_) rfl (by first | exact Lx.w0 rfl | exact Lx.w1 rfl rfl rfl (by with_reducible rfl)) ?_ (fun K hK => ?_); rotate_left 1; (go_simp; first | done | with_reducible rfl); go_simp; skip; refine hK _ ?_; clear hK K)
                | (refine Lx.lex_eff rfl (by first | exact Lx.w0 rfl | exact Lx.w1 rfl rfl rfl (by with_reducible rfl)) (fun K hK => ?_); go_simp; (first | fail); refine hK _ _ (q0) ?_; clear hK K))
              all_goals (refine Lx.lex_nil ?_)
              refine ⟨trivial, ?_⟩
              repeat' (first
                | (refine Lx.lex_no (Lx.n1 rfl rfl rfl (by with_reducible rfl)) (fun K hK => ?_); go_simp; skip; refine hK _ ?_; clear hK K)
                | (refine Lx.lex_no (Lx.n0 rfl rfl rfl (by with_reducible rfl)) (fun K hK => ?_); go_simp; skip; refine hK _ ?_; clear hK K)
                | (refine Lx.lex_no (Lx.n2 rfl rfl rfl) (fun K hK => ?_); go_simp; skip; refine hK _ ?_; clear hK K)
                | (refine Lx.lex_pure (v := ?_) rfl (by first | exact Lx.w0 rfl | exact Lx.w1 rfl rfl rfl (by with_reducible rfl)) ?_ (fun K hK => ?_); rotate_left 1; (intro w' hCw; (try dsimp only at hCw); go_simp; first | done | with_reducible rfl); go_simp; skip; refine hK _ ?_; clear hK K)
                | (refine Lx.lex_read (v := ?_) rfl (by first | exact Lx.w0 rfl | exact Lx.w1 rfl rfl rfl (by with_reducible rfl)) ?_ (fun K hK => ?_); rotate_left 1; (go_simp; first | done | with_reducible rfl); go_simp; skip; refine hK _ ?_; clear hK K)
                | (refine Lx.lex_eff rfl (by first | exact Lx.w0 rfl | exact Lx.w1 rfl rfl rfl (by with_reducible rfl)) (fun K hK => ?_); go_simp; (first | skip); refine hK _ _ (trivial) ?_; clear hK K))
              all_goals (refine Lx.lex_nil ?_)
              clear q0 q1
              go_wp2_with fail
              go_roundw
              case rel => exact ⟨m + 1, _, ps ++ [⟨y0, y1, y2, y3, y4⟩], by omega, by go_num, HPB.out, HOB.out, by rw [Eqn, HFT.out]; simp [hsa, hsb], by rw [List.length_append]; simp; omega⟩
              case measure => simp [intOf]; omega
        · obtain rfl : m = n0 := by omega
          have hTm : r0.take m = r0 := List.take_of_length_le (by rw [Hz0.out]; omega)
          have HF0 : Eqn ps (r0.filter (fun c => hasL SL c.a && hasL SL c.b)) := by rw [Eqn, HE0.out, hTm]
          obtain ⟨pv0, rfl⟩ : ∃ pv0 : Value, pv0 = pv := ⟨_, rfl⟩
          obtain ⟨ps0, rfl⟩ : ∃ ps0 : List R5, ps0 = ps := ⟨_, rfl⟩
          have HPk0 := Lib.hid (And.intro hP hos)
          have x0 := (HC1.out _ hP.1).2.1
          have lw : w.heap.size < wo.heap.size := by omega
          clear hP hos HE0 hTm
          go_wp2_with fail
          clear x0 qx
          go_loopw [13] (fun i wi => ∃ (m : Nat) (pv : Value) (ps : List R5), m ≤ n1 ∧ i = .int .i64 m ∧ QSt w.heap.size W1 (w.heap.size + 1 + 1 + 1) ⟨dv, pv0, pv, nilS⟩ ⟨xd, ps0, ps, []⟩ wi ∧ wi.ownsRow W1.heap.size 3 1 (.slice sA k sc) k (SL.map intV) ∧ Eqn ps ((r1.take m).filter (fun c => hasL SL c.a && hasL SL c.b)) ∧ ps.length ≤ m) (fun i _ => n1 - (intOf i).toNat)
          case atStart => exact ⟨0, nilS, [], Nat.zero_le _, rfl, HPk0.out.1, HPk0.out.2, by rw [List.take_zero]; rfl, Nat.le_refl _⟩
          case round =>
            obtain ⟨m, pv, ps, hm, rfl, hP, hos, HE1, hpl⟩ := hrel
            obtain ⟨wo, rfl⟩ : ∃ wo : World, wo = wr := ⟨_, rfl⟩
            have hbs := hP.1.size
            have qx := (HC1.out _ hP.1).2.1
            have lwx : w.heap.size < wo.heap.size := by omega
            by_cases hlt : m < n1
            · obtain ⟨y, hy, _⟩ := drop_at (xs := r1) (k := m) (by rw [Hz1.out]; exact hlt)
              obtain ⟨b, off, hA, hbl, hc⟩ := (HRr1.out.below hP.1).2 (by omega)
              have HFT := Eqn.mk (filter_take (fun c => hasL SL c.a && hasL SL c.b) r1 m y hy)
              rw [← HE1.out] at HFT
              obtain ⟨y0, y1, y2, y3, y4⟩ := y
              have e0 := hc m _ hy 0 (by omega)
              have e1 := hc m _ hy 1 (by omega)
              have e2 := hc m _ hy 2 (by omega)
              have e3 := hc m _ hy 3 (by omega)
              have e4 := hc m _ hy 4 (by omega)
              simp only [R5.cell, Nat.add_zero] at e0 e1 e2 e3 e4
              dsimp only at HFT
              have hbw : b < wo.heap.size := by omega
              have m0 : (m : Int) < (n1 : Int) := by omega
              have HV := Lib.hid (And.intro hP hos)
              obtain ⟨pA, pcap, hpv, _⟩ := own_formS (by decide) hP.2.2.2.2.2.2.1
              dsimp only at hpv
              subst hpv
              have g0 : wo.cell? ⟨w.heap.size + 1 + 1 + 1, 2, none⟩ = some (.slice pA ps.length pcap) := hP.2.2.1.cell rfl
              have g1 := hP.2.2.1.lt
              subst hA
              clear hc hy hP hos
              go_wp2_with fail
              refine (HHA.out _ _ HV.out.2).mono ?_
              rintro e wz ⟨rfl, rfl⟩
              cases hsa : hasL SL y0 with
              | false =>
                go_wp2_with fail
                go_roundw
                case rel => exact ⟨m + 1, _, ps, by omega, by go_num, HV.out.1, HV.out.2, by rw [Eqn, HFT.out]; simp [hsa], by omega⟩
                case measure => simp [intOf]; omega
              | true =>
                go_wp2_with fail
                refine (HHA.out _ _ HV.out.2).mono ?_
                rintro e wz ⟨rfl, rfl⟩
                cases hsb : hasL SL y1 with
                | false =>
                  go_wp2_with fail
                  go_roundw
                  case rel => exact ⟨m + 1, _, ps, by omega, by go_num, HV.out.1, HV.out.2, by rw [Eqn, HFT.out]; simp [hsa, hsb], by omega⟩
                  case measure => simp [intOf]; omega
                | true =>
                  obtain ⟨i0, hi, hz0, hz1, hz2⟩ := info_parts load_info
                  have HPA : Hid (QSt w.heap.size W1 (w.heap.size + 1 + 1 + 1) ⟨dv, pv0, .slice pA ps.length pcap, nilS⟩ ⟨xd, ps0, ps, []⟩ (wo.alloc (.cells #[.int .i64 y0, .int .i64 y1, .int .i64 y2, .int .i64 y3, .int .i64 y4] 87)).drew) := Lib.hid ((HV.out.1.alloc (.cells #[.int .i64 y0, .int .i64 y1, .int .i64 y2, .int .i64 y3, .int .i64 y4] 87)).call (Below.refl _ _).drew)
                  have HOA : Hid ((wo.alloc (.cells #[.int .i64 y0, .int .i64 y1, .int .i64 y2, .int .i64 y3, .int .i64 y4] 87)).drew.ownsRow W1.heap.size 3 1 (.slice sA k sc) k (SL.map intV)) := Lib.hid (own_keep (row_alloc HV.out.2 _) (Below.refl _ _).drew)
                  go_wp2_with fail
                  refine Lx.regionT (C := fun X => X.cell? ⟨w.heap.size + 1 + 1 + 1, 2, none⟩ = some (.slice pA ps.length pcap)) (C' := fun _ => True) (hs := [2]) 12 (List.take 12 _) (List.drop 12 _) (List.take_append_drop 12 _).symm rfl (by kernel_rfl) (by kernel_rfl) (by kernel_rfl) g0 ?_
                  simp only [List.take_succ_cons, List.take_zero, List.drop_succ_cons, List.drop_zero]
                  repeat' (first
                    | (refine Lx.lex_no (Lx.n1 rfl rfl rfl (by with_reducible rfl)) (fun K hK => ?_); go_simp; skip; refine hK _ ?_; clear hK K)
                    | (refine Lx.lex_no (Lx.n0 rfl rfl rfl (by with_reducible rfl)) (fun K hK => ?_); go_simp; skip; refine hK _ ?_; clear hK K)
                    | (refine Lx.lex_no (Lx.n2 rfl rfl rfl) (fun K hK => ?_); go_simp; skip; refine hK _ ?_; clear hK K)
                    | (refine Lx.lex_pure (v := ?_) rfl (by first | exact Lx.w0 rfl | exact Lx.w1 rfl rfl rfl (by with_reducible rfl)) ?_ (fun K hK => ?_); rotate_left 1; (intro w' hCw; (try dsimp only at hCw); go_simp; first | done | with_reducible rfl); go_simp; skip; refine hK _ ?_; clear hK K)
                    | (refine Lx.lex_read (v := ?_) rfl (by first | exact Lx.w0 rfl | exact Lx.w1 rfl rfl rfl (by with_reducible rfl)) ?_ (fun K hK => ?_); rotate_left 1; (go_simp; first | done | with_reducible rfl); go_simp; skip; refine hK _ ?_; clear hK K)
                    | (refine Lx.lex_eff rfl (by first | exact Lx.w0 rfl | exact Lx.w1 rfl rfl rfl (by with_reducible rfl)) (fun K hK => ?_); go_simp; (first | fail | skip); refine hK _ _ (HPA.out.2.2.1.cell rfl) ?_; clear hK K))
                  refine Lx.lex_append rfl rfl _ _ 49 rfl W1.heap.size 87 i0 (.agg #[.int .i64 0, .int .i64 0, .int .i64 0, .int .i64 0, .int .i64 0]) 5 40 Try.underlying49 hi hz0 hz1 hz2 rfl (by decide) _ _ _ rfl (by exact HPA.out.2.2.2.2.2.2.1) ⟨wo.heap.size, 0, none⟩ 1 1 [.int .i64 y0, .int .i64 y1, .int .i64 y2, .int .i64 y3, .int .i64 y4] rfl rfl (by exact cells_newN wo _ _) (by simp [Value.oneCell']) (by dsimp only; unfold maxLen; omega) (by dsimp only; omega) (by simp; omega) ?_
                  intro v' w3 hown' hgrow hor
                  replace hgrow : World.grownBy _ w3 (Value.slice pA ps.length pcap).ownBlock := hgrow
                  replace hown' : w3.ownsRow W1.heap.size 87 5 v' (ps.length + 1) (flat 5 R5.cell ps ++ (List.range 5).map (R5.cell ⟨y0, y1, y2, y3, y4⟩)) := hown'
                  have H3 := Lib.hid (And.intro hown' hgrow)
                  rw [← flat_snoc] at hown'
                  obtain ⟨vA, vc, rfl, _⟩ := own_formS (by decide) hown'
                  have HPB := Lib.hid (HPA.out.addL (y := ⟨y0, y1, y2, y3, y4⟩) hgrow H3.out.1)
                  have HOB := Lib.hid (HPA.out.keepI HOA.out HPA.out.2.2.2.2.2.2.1 (by decide) (by decide) hgrow 2 (.slice vA (ps.length + 1) vc))
                  have hb8 := blk_kept HPA.out.2.2.1 hgrow (blk_not_row HPA.out.2.2.1 (by decide) HPA.out.2.2.2.2.2.2.1)
                  have q0 : w3.cell? ⟨w.heap.size + 1 + 1 + 1, 2, none⟩ = some (.slice pA ps.length pcap) := hb8.cell rfl
                  have q1 := hb8.frozen 2
                  have q2 := hb8.lt
                  refine ⟨q0, ?_⟩
                  clear hown' hgrow hor hb8 g0 g1 e0 e1 e2 e3 e4 qx
                  repeat' (first
                    | (refine Lx.lex_no (Lx.n1 rfl rfl rfl (by with_reducible rfl)) (fun K hK => ?_); go_simp; skip; refine hK _ ?_; clear hK K)
                    | (refine Lx.lex_no (Lx.n0 rfl rfl rfl (by with_reducible rfl)) (fun K hK => ?_); go_simp; skip; refine hK _ ?_; clear hK K)
                    | (refine Lx.lex_no (Lx.n2 rfl rfl rfl) (fun K hK => ?_); go_simp; skip; refine hK _ ?_; clear hK K)
                    | (refine Lx.lex_pure (v := ?_) rfl (by first | exact Lx.w0 rfl | exact Lx.w1 rfl rfl rfl (by with_reducible rfl)) ?_ (fun K hK => ?_); rotate_left 1; (intro w' hCw; (try dsimp only at hCw); go_simp; first | done | with_reducible rfl); go_simp; skip; refine hK _ ?_; clear hK K)
                    | (refine Lx.lex_read (v := ?_) rfl (by first | exact Lx.w0 rfl | exact Lx.w1 rfl rfl rfl (by with_reducible rfl)) ?_ (fun K hK => ?_); rotate_left 1; (go_simp; first | done | with_reducible rfl); go_simp; skip; refine hK _ ?_; clear hK K)
                    | (refine Lx.lex_eff rfl (by first | exact Lx.w0 rfl | exact Lx.w1 rfl rfl rfl (by with_reducible rfl)) (fun K hK => ?_); go_simp; (first | fail); refine hK _ _ (q0) ?_; clear hK K))
                  all_goals (refine Lx.lex_nil ?_)
                  refine ⟨trivial, ?_⟩
                  repeat' (first
                    | (refine Lx.lex_no (Lx.n1 rfl rfl rfl (by with_reducible rfl)) (fun K hK => ?_); go_simp; skip; refine hK _ ?_; clear hK K)
                    | (refine Lx.lex_no (Lx.n0 rfl rfl rfl (by with_reducible rfl)) (fun K hK => ?_); go_simp; skip; refine hK _ ?_; clear hK K)
                    | (refine Lx.lex_no (Lx.n2 rfl rfl rfl) (fun K hK => ?_); go_simp; skip; refine hK _ ?_; clear hK K)
                    | (refine Lx.lex_pure (v := ?_) rfl (by first | exact Lx.w0 rfl | exact Lx.w1 rfl rfl rfl (by with_reducible rfl)) ?_ (fun K hK => ?_); rotate_left 1; (intro w' hCw; (try dsimp only at hCw); go_simp; first | done | with_reducible rfl); go_simp; skip; refine hK _ ?_; clear hK K)
                    | (refine Lx.lex_read (v := ?_) rfl (by first | exact Lx.w0 rfl | exact Lx.w1 rfl rfl rfl (by with_reducible rfl)) ?_ (fun K hK => ?_); rotate_left 1; (go_simp; first | done | with_reducible rfl); go_simp; skip; refine hK _ ?_; clear hK K)
                    | (refine Lx.lex_eff rfl (by first | exact Lx.w0 rfl | exact Lx.w1 rfl rfl rfl (by with_reducible rfl)) (fun K hK => ?_); go_simp; (first | skip); refine hK _ _ (trivial) ?_; clear hK K))
                  all_goals (refine Lx.lex_nil ?_)
                  clear q0 q1
                  go_wp2_with fail
                  go_roundw
                  case rel => exact ⟨m + 1, _, ps ++ [⟨y0, y1, y2, y3, y4⟩], by omega, by go_num, HPB.out, HOB.out, by rw [Eqn, HFT.out]; simp [hsa, hsb], by rw [List.length_append]; simp; omega⟩
                  case measure => simp [intOf]; omega
            · obtain rfl : m = n1 := by omega
              have hTm : r1.take m = r1 := List.take_of_length_le (by rw [Hz1.out]; omega)
              have HF1 : Eqn ps (r1.filter (fun c => hasL SL c.a && hasL SL c.b)) := by rw [Eqn, HE1.out, hTm]
              obtain ⟨pv1, rfl⟩ : ∃ pv1 : Value, pv1 = pv := ⟨_, rfl⟩
              obtain ⟨ps1, rfl⟩ : ∃ ps1 : List R5, ps1 = ps := ⟨_, rfl⟩
              have HPk1 := Lib.hid (And.intro hP hos)
              have x0 := (HC1.out _ hP.1).2.2
              have lw : w.heap.size < wo.heap.size := by omega
              clear hP hos HE1 hTm
              go_wp2_with fail
              clear x0 qx
              go_loopw [14] (fun i wi => ∃ (m : Nat) (pv : Value) (ps : List R4), m ≤ n2 ∧ i = .int .i64 m ∧ QSt w.heap.size W1 (w.heap.size + 1 + 1 + 1) ⟨dv, pv0, pv1, pv⟩ ⟨xd, ps0, ps1, ps⟩ wi ∧ wi.ownsRow W1.heap.size 3 1 (.slice sA k sc) k (SL.map intV) ∧ Eqn ps ((r2.take m).filter (fun c => hasL SL c.a)) ∧ ps.length ≤ m) (fun i _ => n2 - (intOf i).toNat)
              case atStart => exact ⟨0, nilS, [], Nat.zero_le _, rfl, HPk1.out.1, HPk1.out.2, by rw [List.take_zero]; rfl, Nat.le_refl _⟩
              case round =>
                obtain ⟨m, pv, ps, hm, rfl, hP, hos, HE2, hpl⟩ := hrel
                obtain ⟨wo, rfl⟩ : ∃ wo : World, wo = wr := ⟨_, rfl⟩
                have hbs := hP.1.size
                have qx := (HC1.out _ hP.1).2.2
                have lwx : w.heap.size < wo.heap.size := by omega
                by_cases hlt : m < n2
                · obtain ⟨y, hy, _⟩ := drop_at (xs := r2) (k := m) (by rw [Hz2.out]; exact hlt)
                  obtain ⟨b, off, hA, hbl, hc⟩ := (HRr2.out.below hP.1).2 (by omega)
                  have HFT := Eqn.mk (filter_take (fun c => hasL SL c.a) r2 m y hy)
                  rw [← HE2.out] at HFT
                  obtain ⟨y0, y1, y2, y3⟩ := y
                  have e0 := hc m _ hy 0 (by omega)
                  have e1 := hc m _ hy 1 (by omega)
                  have e2 := hc m _ hy 2 (by omega)
                  have e3 := hc m _ hy 3 (by omega)
                  simp only [R4.cell, Nat.add_zero] at e0 e1 e2 e3
                  dsimp only at HFT
                  have hbw : b < wo.heap.size := by omega
                  have m0 : (m : Int) < (n2 : Int) := by omega
                  have HV := Lib.hid (And.intro hP hos)
                  obtain ⟨pA, pcap, hpv, _⟩ := own_formS (by decide) hP.2.2.2.2.2.2.2
                  dsimp only at hpv
                  subst hpv
                  have g0 : wo.cell? ⟨w.heap.size + 1 + 1 + 1, 3, none⟩ = some (.slice pA ps.length pcap) := hP.2.2.1.cell rfl
                  have g1 := hP.2.2.1.lt
                  subst hA
                  clear hc hy hP hos
                  go_wp2_with fail
                  refine (HHA.out _ _ HV.out.2).mono ?_
                  rintro e wz ⟨rfl, rfl⟩
                  cases hsa : hasL SL y0 with
                  | false =>
                    go_wp2_with fail
                    go_roundw
                    case rel => exact ⟨m + 1, _, ps, by omega, by go_num, HV.out.1, HV.out.2, by rw [Eqn, HFT.out]; simp [hsa], by omega⟩
                    case measure => simp [intOf]; omega
                  | true =>
                    obtain ⟨i0, hi, hz0, hz1, hz2⟩ := info_parts cap_info
                    have HPA : Hid (QSt w.heap.size W1 (w.heap.size + 1 + 1 + 1) ⟨dv, pv0, pv1, .slice pA ps.length pcap⟩ ⟨xd, ps0, ps1, ps⟩ (wo.alloc (.cells #[.int .i64 y0, .int .i64 y1, .int .i64 y2, .int .i64 y3] 89)).drew) := Lib.hid ((HV.out.1.alloc (.cells #[.int .i64 y0, .int .i64 y1, .int .i64 y2, .int .i64 y3] 89)).call (Below.refl _ _).drew)
                    have HOA : Hid ((wo.alloc (.cells #[.int .i64 y0, .int .i64 y1, .int .i64 y2, .int .i64 y3] 89)).drew.ownsRow W1.heap.size 3 1 (.slice sA k sc) k (SL.map intV)) := Lib.hid (own_keep (row_alloc HV.out.2 _) (Below.refl _ _).drew)
                    go_wp2_with fail
                    refine Lx.regionT (C := fun X => X.cell? ⟨w.heap.size + 1 + 1 + 1, 3, none⟩ = some (.slice pA ps.length pcap)) (C' := fun _ => True) (hs := [2]) 12 (List.take 12 _) (List.drop 12 _) (List.take_append_drop 12 _).symm rfl (by kernel_rfl) (by kernel_rfl) (by kernel_rfl) g0 ?_
                    simp only [List.take_succ_cons, List.take_zero, List.drop_succ_cons, List.drop_zero]
                    repeat' (first
                      | (refine Lx.lex_no (Lx.n1 rfl rfl rfl (by with_reducible rfl)) (fun K hK => ?_); go_simp; skip; refine hK _ ?_; clear hK K)
                      | (refine Lx.lex_no (Lx.n0 rfl rfl rfl (by with_reducible rfl)) (fun K hK => ?_); go_simp; skip; refine hK _ ?_; clear hK K)
                      | (refine Lx.lex_no (Lx.n2 rfl rfl rfl) (fun K hK => ?_); go_simp; skip; refine hK _ ?_; clear hK K)
                      | (refine Lx.lex_pure (v := ?_) rfl (by first | exact Lx.w0 rfl | exact Lx.w1 rfl rfl rfl (by with_reducible rfl)) ?_ (fun K hK => ?_); rotate_left 1; (intro w' hCw; (try dsimp only at hCw); go_simp; first | done | with_reducible rfl); go_simp; skip; refine hK _ ?_; clear hK K)
                      | (refine Lx.lex_read (v := ?_) rfl (by first | exact Lx.w0 rfl | exact Lx.w1 rfl rfl rfl (by with_reducible rfl)) ?_ (fun K hK => ?_); rotate_left 1; (go_simp; first | done | with_reducible rfl); go_simp; skip; refine hK _ ?_; clear hK K)
                      | (refine Lx.lex_eff rfl (by first | exact Lx.w0 rfl | exact Lx.w1 rfl rfl rfl (by with_reducible rfl)) (fun K hK => ?_); go_simp; (first | fail | skip); refine hK _ _ (HPA.out.2.2.1.cell rfl) ?_; clear hK K))
                    refine Lx.lex_append rfl rfl _ _ 50 rfl W1.heap.size 89 i0 (.agg #[.int .i64 0, .int .i64 0, .int .i64 0, .int .i64 0]) 4 32 Try.underlying50 hi hz0 hz1 hz2 rfl (by decide) _ _ _ rfl (by exact HPA.out.2.2.2.2.2.2.2) ⟨wo.heap.size, 0, none⟩ 1 1 [.int .i64 y0, .int .i64 y1, .int .i64 y2, .int .i64 y3] rfl rfl (by exact cells_newN wo _ _) (by simp [Value.oneCell']) (by dsimp only; unfold maxLen; omega) (by dsimp only; omega) (by simp; omega) ?_
                    intro v' w3 hown' hgrow hor
                    replace hgrow : World.grownBy _ w3 (Value.slice pA ps.length pcap).ownBlock := hgrow
                    replace hown' : w3.ownsRow W1.heap.size 89 4 v' (ps.length + 1) (flat 4 R4.cell ps ++ (List.range 4).map (R4.cell ⟨y0, y1, y2, y3⟩)) := hown'
                    have H3 := Lib.hid (And.intro hown' hgrow)
                    rw [← flat_snoc] at hown'
                    obtain ⟨vA, vc, rfl, _⟩ := own_formS (by decide) hown'
                    have HPB := Lib.hid (HPA.out.addC (y := ⟨y0, y1, y2, y3⟩) hgrow H3.out.1)
                    have HOB := Lib.hid (HPA.out.keepI HOA.out HPA.out.2.2.2.2.2.2.2 (by decide) (by decide) hgrow 3 (.slice vA (ps.length + 1) vc))
                    have hb8 := blk_kept HPA.out.2.2.1 hgrow (blk_not_row HPA.out.2.2.1 (by decide) HPA.out.2.2.2.2.2.2.2)
                    have q0 : w3.cell? ⟨w.heap.size + 1 + 1 + 1, 3, none⟩ = some (.slice pA ps.length pcap) := hb8.cell rfl
                    have q1 := hb8.frozen 3
                    have q2 := hb8.lt
                    refine ⟨q0, ?_⟩
                    clear hown' hgrow hor hb8 g0 g1 e0 e1 e2 e3 qx
                    repeat' (first
                      | (refine Lx.lex_no (Lx.n1 rfl rfl rfl (by with_reducible rfl)) (fun K hK => ?_); go_simp; skip; refine hK _ ?_; clear hK K)
                      | (refine Lx.lex_no (Lx.n0 rfl rfl rfl (by with_reducible rfl)) (fun K hK => ?_); go_simp; skip; refine hK _ ?_; clear hK K)
                      | (refine Lx.lex_no (Lx.n2 rfl rfl rfl) (fun K hK => ?_); go_simp; skip; refine hK _ ?_; clear hK K)
                      | (refine Lx.lex_pure (v := ?_) rfl (by first | exact Lx.w0 rfl | exact Lx.w1 rfl rfl rfl (by with_reducible rfl)) ?_ (fun K hK => ?_); rotate_left 1; (intro w' hCw; (try dsimp only at hCw); go_simp; first | done | with_reducible rfl); go_simp; skip; refine hK _ ?_; clear hK K)
                      | (refine Lx.lex_read (v := ?_) rfl (by first | exact Lx.w0 rfl | exact Lx.w1 rfl rfl rfl (by with_reducible rfl)) ?_ (fun K hK => ?_); rotate_left 1; (go_simp; first | done | with_reducible rfl); go_simp; skip; refine hK _ ?_; clear hK K)
                      | (refine Lx.lex_eff rfl (by first | exact Lx.w0 rfl | exact Lx.w1 rfl rfl rfl (by with_reducible rfl)) (fun K hK => ?_); go_simp; (first | fail); refine hK _ _ (q0) ?_; clear hK K))
                    all_goals (refine Lx.lex_nil ?_)
                    refine ⟨trivial, ?_⟩
                    repeat' (first
                      | (refine Lx.lex_no (Lx.n1 rfl rfl rfl (by with_reducible rfl)) (fun K hK => ?_); go_simp; skip; refine hK _ ?_; clear hK K)
                      | (refine Lx.lex_no (Lx.n0 rfl rfl rfl (by with_reducible rfl)) (fun K hK => ?_); go_simp; skip; refine hK _ ?_; clear hK K)
                      | (refine Lx.lex_no (Lx.n2 rfl rfl rfl) (fun K hK => ?_); go_simp; skip; refine hK _ ?_; clear hK K)
                      | (refine Lx.lex_pure (v := ?_) rfl (by first | exact Lx.w0 rfl | exact Lx.w1 rfl rfl rfl (by with_reducible rfl)) ?_ (fun K hK => ?_); rotate_left 1; (intro w' hCw; (try dsimp only at hCw); go_simp; first | done | with_reducible rfl); go_simp; skip; refine hK _ ?_; clear hK K)
                      | (refine Lx.lex_read (v := ?_) rfl (by first | exact Lx.w0 rfl | exact Lx.w1 rfl rfl rfl (by with_reducible rfl)) ?_ (fun K hK => ?_); rotate_left 1; (go_simp; first | done | with_reducible rfl); go_simp; skip; refine hK _ ?_; clear hK K)
                      | (refine Lx.lex_eff rfl (by first | exact Lx.w0 rfl | exact Lx.w1 rfl rfl rfl (by with_reducible rfl)) (fun K hK => ?_); go_simp; (first | skip); refine hK _ _ (trivial) ?_; clear hK K))
                    all_goals (refine Lx.lex_nil ?_)
                    clear q0 q1
                    go_wp2_with fail
                    go_roundw
                    case rel => exact ⟨m + 1, _, ps ++ [⟨y0, y1, y2, y3⟩], by omega, by go_num, HPB.out, HOB.out, by rw [Eqn, HFT.out]; simp [hsa], by rw [List.length_append]; simp; omega⟩
                    case measure => simp [intOf]; omega
                · obtain rfl : m = n2 := by omega
                  have hTm : r2.take m = r2 := List.take_of_length_le (by rw [Hz2.out]; omega)
                  have HF2 : Eqn ps (r2.filter (fun c => hasL SL c.a)) := by rw [Eqn, HE2.out, hTm]
                  obtain ⟨pv2, rfl⟩ : ∃ pv2 : Value, pv2 = pv := ⟨_, rfl⟩
                  obtain ⟨ps2, rfl⟩ : ∃ ps2 : List R4, ps2 = ps := ⟨_, rfl⟩
                  obtain ⟨dA, dc, rfl, hD⟩ := own_formS (by decide) hP.2.2.2.1
                  obtain ⟨A3, c3, rfl, hp0⟩ := own_formS (by decide) hP.2.2.2.2.2.1
                  obtain ⟨A4, c4, rfl, hp1⟩ := own_formS (by decide) hP.2.2.2.2.2.2.1
                  obtain ⟨A5, c5, rfl, hp2⟩ := own_formS (by decide) hP.2.2.2.2.2.2.2
                  dsimp only at *
                  have b8 := hP.2.2.1
                  have g0 := b8.cell (i := 0) rfl
                  have g1 := b8.cell (i := 1) rfl
                  have g2 := b8.cell (i := 2) rfl
                  have g3 := b8.cell (i := 3) rfl
                  have g4 := b8.lt
                  have b6 := HX1.out _ hP.1
                  have f0 := b6.cell (i := 0) rfl
                  have f1 := b6.cell (i := 1) rfl
                  have f2 := b6.cell (i := 2) rfl
                  have f3 := b6.cell (i := 3) rfl
                  have f4 := b6.lt
                  have f5 : ∀ o, wo.frozen? ⟨w.heap.size + 1 + 1, o, none⟩ = false := b6.frozen
                  have HPf := Lib.hid hP
                  have HB6 := Lib.hid b6
                  clear hP hos HE2 hTm b8 b6
                  go_wp2_with fail
                  obtain ⟨Wf, hWf⟩ : ∃ Wf, Wf = (((wo.setCell ⟨w.heap.size + 1 + 1, 0, none⟩ (.slice dA xd.length dc)).setCell ⟨w.heap.size + 1 + 1, 1, none⟩ (.slice A3 ps0.length c3)).setCell ⟨w.heap.size + 1 + 1, 2, none⟩ (.slice A4 ps1.length c4)).setCell ⟨w.heap.size + 1 + 1, 3, none⟩ (.slice A5 ps2.length c5) := ⟨_, rfl⟩
                  have hbf : Blk Wf (w.heap.size + 1 + 1) 57 [.slice dA xd.length dc, .slice A3 ps0.length c3, .slice A4 ps1.length c4, .slice A5 ps2.length c5] := by rw [hWf]; exact (((HB6.out.set_ 0 _).set_ 1 _).set_ 2 _).set_ 3 _
                  have hrow : ∀ {e size m : Nat} {v : Value} {xs : List Value}, wo.ownsRow W1.heap.size e size v m xs → Wf.ownsRow W1.heap.size e size v m xs := by
                    intro e size m v xs h
                    rw [hWf]
                    exact own_set (own_set (own_set (own_set h (by dsimp only; omega) _) (by dsimp only; omega) _) (by dsimp only; omega) _) (by dsimp only; omega) _
                  have hBf : Below w.heap.size w Wf := by
                    have h0 : Below w.heap.size w wo := HB0.out.trans (HPf.out.1.mono (by omega))
                    rw [hWf]
                    exact (((h0.setCell (p := ⟨w.heap.size + 1 + 1, 0, none⟩) (by dsimp only; omega) _).setCell (p := ⟨w.heap.size + 1 + 1, 1, none⟩) (by dsimp only; omega) _).setCell (p := ⟨w.heap.size + 1 + 1, 2, none⟩) (by dsimp only; omega) _).setCell (p := ⟨w.heap.size + 1 + 1, 3, none⟩) (by dsimp only; omega) _
                  have hB1f : Below (w.heap.size + 2) W1 Wf := by
                    have h0 : Below (w.heap.size + 2) W1 wo := HPf.out.1.mono (by omega)
                    rw [hWf]
                    exact (((h0.setCell (p := ⟨w.heap.size + 1 + 1, 0, none⟩) (by dsimp only; omega) _).setCell (p := ⟨w.heap.size + 1 + 1, 1, none⟩) (by dsimp only; omega) _).setCell (p := ⟨w.heap.size + 1 + 1, 2, none⟩) (by dsimp only; omega) _).setCell (p := ⟨w.heap.size + 1 + 1, 3, none⟩) (by dsimp only; omega) _
                  rw [← hWf]
                  have k0 := hbf.cell (i := 0) rfl
                  have k1 := hbf.cell (i := 1) rfl
                  have k2 := hbf.cell (i := 2) rfl
                  have k3 := hbf.cell (i := 3) rfl
                  clear hWf f0 f1 f2 f3 f4 f5 g0 g1 g2 g3 g4
                  have hP := HPf.out
                  refine bodyPost_ret (v := .agg #[.slice dA xd.length dc, .slice A3 ps0.length c3, .slice A4 ps1.length c4, .slice A5 ps2.length c5]) (by simp [results, Try.results29, go_sem, k0, k1, k2, k3]) rfl ?_
                  refine ⟨⟨dA, xd.length, dc, ⟨A3, ps0.length, c3, A4, ps1.length, c4, A5, ps2.length, c5⟩⟩, xd, rfl, ⟨⟨rowS_own (by decide) (hrow hP.2.2.2.1), fun d hd => ?_⟩, ?_, ?_, ?_, ?_, ?_, ?_⟩, HE.out, hBf⟩
                  · rcases hP.2.2.2.2.1 d hd with h | h
                    · exact row1_own (hrow h)
                    · exact (h.below (hB1f.mono (by omega))).up (by have := hBf.size; omega)
                  · have := rowS_own (by decide) (hrow hP.2.2.2.2.2.1); dsimp only [keepR] at this ⊢; rw [← HF0.out]; exact this
                  · have := rowS_own (by decide) (hrow hP.2.2.2.2.2.2.1); dsimp only [keepR] at this ⊢; rw [← HF1.out]; exact this
                  · have := rowS_own (by decide) (hrow hP.2.2.2.2.2.2.2); dsimp only [keepR] at this ⊢; rw [← HF2.out]; exact this
                  · dsimp only; omega
                  · dsimp only; omega
                  · dsimp only; omega
end Go.Proofs.Ytpdhelhngdeoeaa
