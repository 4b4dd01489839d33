/- A region that draws its order, with effects that nothing orders: one walk for each order of the effects. Nothing of the program is named here. -/
import Derived.Test.YtdpbbhbegehcjaaGreatDoorPla12
import Derived.Test.YtdpbbhbegehcjaaGreatDoorPla17
import Derived.Test.YtdpbbhbegehcjaaGreatDoorPla23
set_option maxRecDepth 100000
set_option maxHeartbeats 4000000
namespace Go.Proofs.YtdpbbhbegehcjaaGreatDoor
open Go.RowKit Go.Shelf
def ChsNew (O : Chs) (w : World) (e : Ending) (w' : World) : Prop := ∃ v, e = .returned v ∧ w'.ownsRow w.heap.size 91 2 v O.length (flat 2 chC O) ∧ Below w.heap.size w w'
theorem ronly_any (A B : Option Addr) (n c m d : Nat) (w : World) (l : Chs) (L : List Int) (hn : n ≤ 100000) (hm : m ≤ 9223372036854775807) (hl : RowS 2 chC w w.heap.size A n l) (hL : Row1 intV w w.heap.size B m L) :
  Calls Tryz.prog 98 #[.slice A n c, .slice B m d] w (ChsNew (l.filter fun x => hasL L x.1) w) := by
 obtain ⟨i0, hi, hz0, hz1, hz2⟩ := info_parts ch_info
 have Hl := Lib.hid hl
 have Hlen := Eqn.mk hl.1
 have HHA := Lib.hid (fun (x : Int) (W : World) (hb : Below w.heap.size w W) => rhas_any B m d x W L hm (hL.keep hb))
 clear hl hL
 go_enter Tryz.func98, Tryz.ntmps98
 go_wp2_with fail
 go_loopw [5, 6] (fun v i wr => ∃ k : Nat, k ≤ n ∧ i = .int .i64 k ∧ Hp w w wr [.row v 91 2 ((l.take k).filter fun x => hasL L x.1).length (flat 2 chC ((l.take k).filter fun x => hasL L x.1))] []) (fun _ i _ => n - (intOf i).toNat)
 case atStart => exact ⟨0, Nat.zero_le _, rfl, (Hp.start w).nil 91 2⟩
 case round =>
  obtain ⟨k, hk, rfl, hP⟩ := hrel
  have HP := Lib.hid hP
  obtain ⟨A1, c1, rfl⟩ := hP.form 0 rfl
  by_cases hlt : k < n
  ·have j0 : (k : Int) < (n : Int) := by omega
   obtain ⟨x, hx⟩ : ∃ x, l[k]? = some x := ⟨_, List.getElem?_eq_getElem (by rw [Hlen.out]; exact hlt)⟩
   have HSU := Eqn.mk (filter_take_one (p := fun x : Int × Int => hasL L x.1) hx)
   have hol : ((l.take k).filter fun x => hasL L x.1).length ≤ 100000 := by
    have := List.length_filter_le (fun x : Int × Int => hasL L x.1) (l.take k)
    rw [List.length_take] at this; omega
   obtain ⟨b, off, rfl, hbw, hcell⟩ := (Hl.out.below hP.below).2 (by omega)
   have y0 : wr.cell? ⟨b, off + k * 2, none⟩ = some (.int .i64 x.1) := hcell k x hx 0 (by decide)
   have y1 : wr.cell? ⟨b, off + k * 2 + 1, none⟩ = some (.int .i64 x.2) := hcell k x hx 1 (by decide)
   obtain ⟨xs, xc⟩ := x
   dsimp only at y0 y1 HSU
   generalize (l.take k).filter (fun x => hasL L x.1) = O at *
   have HH1 := HHA.out xs wr hP.below
   generalize hasL L xs = hb at *
   have HH1 := Lib.hid HH1
   clear hP hx hcell hbw
   cases hb with
   | false =>
    have HSU2 : Eqn ((l.take (k + 1)).filter (fun x => hasL L x.1)) O := by rw [Eqn, HSU.out]; simp
    clear HSU
    go_wp2_with fail
    refine HH1.out.mono ?_
    rintro e w5 ⟨rfl, rfl⟩
    go_wp2_with fail
    go_roundw
    case rel => exact ⟨k + 1, hlt, by go_num, by rw [HSU2.out]; exact HP.out⟩
    case measure => simp [intOf]; omega
   | true =>
    have HSU2 : Eqn ((l.take (k + 1)).filter (fun x => hasL L x.1)) (O ++ [(xs, xc)]) := HSU
    clear HSU
    go_wp2_with fail
    refine HH1.out.mono ?_
    rintro e w5 ⟨rfl, rfl⟩
    go_wp2_with (at_builtin; refine wpList_append_own_at _ rfl _ _ 41 rfl w.heap.size 91 i0 (.agg #[.int .i64 0, .int .i64 0]) 2 16 Tryz.underlying41 hi hz0 hz1 hz2 rfl (by decide) _ _ _ rfl ((HP.out.row 0 rfl).alloc _) ⟨wr.heap.size, 0, none⟩ 1 1 [.int .i64 xs, .int .i64 xc] rfl rfl (cells_newR wr [.int .i64 xs, .int .i64 xc] 91) (by simp [Value.oneCell']) (by unfold maxLen; omega) (by omega) (by have := HP.out.below.size; simp; omega) ?_; intro v6 w6 hown' hgrow _ hat; have HP6 := Lib.hid ((HP.out.alloc0 _).grow 0 rfl hgrow hown' hat); obtain ⟨A6, cp6, rfl⟩ := HP6.out.form 0 rfl; clear hown' hgrow hat)
    go_roundw
    case rel => exact ⟨k + 1, hlt, by go_num, by rw [HSU2.out, flat_snoc, List.length_append]; exact HP6.out.sub (List.Sublist.cons_cons _ (List.nil_sublist _))⟩
    case measure => simp [intOf]; omega
  ·obtain rfl : k = n := by omega
   rw [List.take_of_length_le (by rw [Hlen.out]; exact Nat.le_refl _)] at HP ⊢
   clear hP
   go_wp2_with fail
   go_ret
   exact ⟨_, rfl, HP.out.row 0 rfl, HP.out.below⟩
structure MsS where
 s : PrbS
 pa : Option Addr
 pn : Nat
 pc : Nat
 O : List Lem
 qa : Option Addr
 qn : Nat
 qc : Nat
 R : List Prf
def MsS.cells (m : MsS) : List Value := [.slice m.s.ad m.s.nd m.s.cd, .slice m.s.rs.a0 m.s.rs.n0 m.s.rs.c0, .slice m.s.rs.a1 m.s.rs.n1 m.s.rs.c1, .slice m.s.rs.a2 m.s.rs.n2 m.s.rs.c2, .slice m.pa m.pn m.pc, .slice m.qa m.qn m.qc]
def MsS.val (m : MsS) : Value := .agg #[.slice m.s.ad m.s.nd m.s.cd, .slice m.s.rs.a0 m.s.rs.n0 m.s.rs.c0, .slice m.s.rs.a1 m.s.rs.n1 m.s.rs.c1, .slice m.s.rs.a2 m.s.rs.n2 m.s.rs.c2, .slice m.pa m.pn m.pc, .slice m.qa m.qn m.qc]
structure MsAt (W : World) (m : MsS) (ds : List Dom) (r : Rul) : Prop where
 prb : PrbAt W W.heap.size m.s ds r
 nd : m.s.nd ≤ 9223372036854775807
 p : RowX 1 lemC W (fun _ => True) m.pa m.pn m.O
 o : ∀ x ∈ m.O, x.At W (fun _ => True)
 q : RowX 2 prfC W (fun _ => True) m.qa m.qn m.R
 r : ∀ x ∈ m.R, x.At W (fun _ => True)
theorem MsAt.keep {W X : World} {m : MsS} {ds : List Dom} {r : Rul} (h : MsAt W m ds r) (hb : Below W.heap.size W X) : MsAt X m ds r :=
 ⟨⟨h.prb.1.keep hb, h.prb.2.keep hb⟩, h.nd, h.p.keep (by decide) hb, fun x hx => (h.o x hx).keep hb, h.q.keep (by decide) hb, fun x hx => (h.r x hx).keep hb⟩
theorem MsAt.dl {W : World} {m : MsS} {ds : List Dom} {r : Rul} (h : MsAt W m ds r) : ∀ d ∈ ds, d.len = d.chs.length := fun d hd => (h.prb.1.2 d hd).1.symm
def MsS.P (m : MsS) : List Chs := m.O.map Lem.chs
def MsS.Q (m : MsS) : List Prv := m.R.map Prf.say
structure MsX (W : World) (B : Nat) (p : Nat → Prop) (m : MsS) (ds : List Dom) (r : Rul) : Prop where
 prb : PrbAt W B m.s ds r
 low : B ≤ W.heap.size
 nd : m.s.nd ≤ 9223372036854775807
 pp : RowX 1 lemC W p m.pa m.pn m.O
 o : ∀ x ∈ m.O, x.At W p
 q : RowX 2 prfC W p m.qa m.qn m.R
 r : ∀ x ∈ m.R, x.At W p
theorem MsX.at {W : World} {B : Nat} {p : Nat → Prop} {m : MsS} {ds : List Dom} {r : Rul} (h : MsX W B p m ds r) : MsAt W m ds r :=
 ⟨h.prb.up h.low, h.nd, h.pp.mono (by decide) (fun _ _ _ => trivial), fun x hx => (h.o x hx).mono (fun _ _ _ => trivial), h.q.mono (by decide) (fun _ _ _ => trivial), fun x hx => (h.r x hx).mono (fun _ _ _ => trivial)⟩
theorem MsX.keep {W X : World} {B : Nat} {p : Nat → Prop} {m : MsS} {ds : List Dom} {r : Rul} (h : MsX W B p m ds r) (hb : Below W.heap.size W X) : MsX X B p m ds r :=
 ⟨h.prb.below (hb.mono h.low), Nat.le_trans h.low hb.size, h.nd, h.pp.keep (by decide) hb, fun x hx => (h.o x hx).keep hb, h.q.keep (by decide) hb, fun x hx => (h.r x hx).keep hb⟩
theorem MsX.mono {W : World} {B : Nat} {p q : Nat → Prop} {m : MsS} {ds : List Dom} {r : Rul} (h : MsX W B p m ds r) (hpq : ∀ k, p k → k < W.heap.size → q k) : MsX W B q m ds r :=
 ⟨h.prb, h.low, h.nd, h.pp.mono (by decide) hpq, fun x hx => (h.o x hx).mono hpq, h.q.mono (by decide) hpq, fun x hx => (h.r x hx).mono hpq⟩
theorem MsX.grown {W X : World} {B g : Nat} {p : Nat → Prop} {m : MsS} {ds : List Dom} {r : Rul} (h : MsX W B p m ds r) (hn : ¬ p g) (hB : B ≤ g) (hg : W.grownBy X (some g)) : MsX X B p m ds r := by
 have hs := kind_same hn hg
 have hb : Below B W X := (Below.refl B W).grown hg h.low (fun k e => by cases e; exact hB)
 exact ⟨h.prb.below hb, Nat.le_trans h.low hg.size, h.nd, h.pp.turn (by decide) hs, fun x hx => (h.o x hx).turn hs, h.q.turn (by decide) hs, fun x hx => (h.r x hx).turn hs⟩
theorem hasL_st {L : List Int} (h : stOk L = true) : hasL L = hasS (stS L) := by
 funext x
 rw [hasS_mem (stOk_in h), hasL_mem]
theorem all_inD {ds : List Dom} {L : List Int} (h : stOk L = true) (hv : ∀ y ∈ ds.map Dom.st, 0 ≤ y ∧ y < 512) : L.all (inD ds) = decide (mi (stS L) (stS (ds.map Dom.st)) = 0) := by
 rw [Bool.eq_iff_iff, List.all_eq_true, decide_eq_true_eq, sub_iff (stOk_in h) hv]
 constructor
 ·intro h1 x hx; have := h1 x hx; rwa [inD_mem, decide_eq_true_eq] at this
 ·intro h1 x hx; rw [inD_mem, decide_eq_true_eq]; exact h1 x hx
theorem keepR_res {L : List Int} (h : stOk L = true) (r : Rul) : keepR L r = resR (stS L) r := by unfold keepR resR; rw [hasL_st h]
theorem rrest_ok {ds : List Dom} {r : Rul} {L : List Int} (hv : validP ds r = true) (hd : ∀ d ∈ ds, d.len = d.chs.length) (h : stOk L = true) : rrestF ds r L = if mi (stS L) (stS (ds.map Dom.st)) = 0 then (((resD (stS L) ds).map Dom.say, resR (stS L) r), 0) else (([], ⟨[], [], []⟩), 9) := by
 unfold rrestF
 rw [if_pos ⟨by rw [← valid_eq hd]; exact hv, h⟩, all_inD h (valid_st hv).1, keepR_res h, hasL_st h]
 by_cases hm : mi (stS L) (stS (ds.map Dom.st)) = 0
 ·rw [if_pos hm, if_pos (decide_eq_true hm)]; rfl
 ·rw [if_neg hm, if_neg (by simpa using hm)]
def RpkPost (B : Nat) (p : Nat → Prop) (_ : MsS) (ds : List Dom) (r : Rul) (P : List Chs) (Q : List Prv) (n : Int) (w : World) (e : Ending) (w' : World) : Prop :=
 ∃ m' : MsS, e = .returned (.tuple #[m'.val, .int .i64 n]) ∧ m'.P = P ∧ m'.Q = Q ∧ MsX w' B p m' ds r ∧ Below w.heap.size w w'
theorem ms_same {B : Nat} {p : Nat → Prop} {m : MsS} {ds : List Dom} {r : Rul} {w X : World} {n : Int} (h : ∀ W, Below w.heap.size w W → MsX W B p m ds r) (hb : Below w.heap.size w X) : RpkPost B p m ds r m.P m.Q n w (.returned (.tuple #[m.val, .int .i64 n])) X := ⟨m, rfl, rfl, rfl, h X hb, hb⟩
theorem ms_packed {B : Nat} {p : Nat → Prop} {m : MsS} {ds : List Dom} {r : Rul} {w X : World} {A A' : Option Addr} {n c n' c' : Nat} {K : List Lem} {l : Chs} (h : ∀ W, Below w.heap.size w W → MsX W B p m ds r) (hb : Below w.heap.size w X) (hnew : ∀ k, w.heap.size ≤ k → p k)
  (hr : X.ownsRow w.heap.size 41 1 (.slice A' n' c') n' ((K ++ ([⟨A, n, c, l⟩] : List Lem)).map Lem.val)) (hK : ∀ o ∈ K, o ∈ m.O) (hl : RowX 2 chC w p A n l) (hn : n ≤ 100000) :
  RpkPost B p m ds r (K.map Lem.chs ++ [l]) m.Q 0 w (.returned (.tuple #[.agg #[.slice m.s.ad m.s.nd m.s.cd, .slice m.s.rs.a0 m.s.rs.n0 m.s.rs.c0, .slice m.s.rs.a1 m.s.rs.n1 m.s.rs.c1, .slice m.s.rs.a2 m.s.rs.n2 m.s.rs.c2, .slice A' n' c', .slice m.qa m.qn m.qc], .int .i64 0])) X := by
 have hX := h X hb
 rw [← flat_lems] at hr
 obtain ⟨A2, c2, e2, q2⟩ := rowX_own (p := p) hr (by decide) hnew
 injection e2 with e2
 subst e2
 refine ⟨⟨m.s, A', n', c', K ++ [⟨A, n, c, l⟩], m.qa, m.qn, m.qc, m.R⟩, rfl, ?_, rfl, ⟨hX.prb, hX.low, hX.nd, q2, fun x hx => ?_, hX.q, hX.r⟩, hb⟩
 ·unfold MsS.P; rw [List.map_append]; rfl
 ·rcases List.mem_append.1 hx with hx | hx
  ·exact hX.o x (hK x hx)
  ·rw [List.mem_singleton] at hx
   subst hx
   exact ⟨hl.keep (by decide) hb, hn⟩
theorem ms_refuted {B : Nat} {p : Nat → Prop} {m : MsS} {ds : List Dom} {r : Rul} {w X : World} {A' : Option Addr} {n' c' : Nat} {K : List Prf} {y : Prf} (h : ∀ W, Below w.heap.size w W → MsX W B p m ds r) (hb : Below w.heap.size w X) (hnew : ∀ k, w.heap.size ≤ k → p k)
  (hr : X.ownsRow w.heap.size 44 2 (.slice A' n' c') n' (flat 2 prfC (K ++ [y]))) (hK : ∀ o ∈ K, o ∈ m.R) (hy : y.At w p) :
  RpkPost B p m ds r m.P (K.map Prf.say ++ [y.say]) 0 w (.returned (.tuple #[.agg #[.slice m.s.ad m.s.nd m.s.cd, .slice m.s.rs.a0 m.s.rs.n0 m.s.rs.c0, .slice m.s.rs.a1 m.s.rs.n1 m.s.rs.c1, .slice m.s.rs.a2 m.s.rs.n2 m.s.rs.c2, .slice m.pa m.pn m.pc, .slice A' n' c'], .int .i64 0])) X := by
 have hX := h X hb
 obtain ⟨A2, c2, e2, q2⟩ := rowX_own (p := p) hr (by decide) hnew
 injection e2 with e2
 subst e2
 refine ⟨⟨m.s, m.pa, m.pn, m.pc, m.O, A', n', c', K ++ [y]⟩, rfl, rfl, ?_, ⟨hX.prb, hX.low, hX.nd, hX.pp, hX.o, q2, fun x hx => ?_⟩, hb⟩
 ·unfold MsS.Q; rw [List.map_append]; rfl
 ·rcases List.mem_append.1 hx with hx | hx
  ·exact hX.r x (hK x hx)
  ·rw [List.mem_singleton] at hx
   subst hx
   exact hy.keep hb
theorem fine_fits {ds es : List Dom} {r : Rul} {l : Chs} (hv : vlGo none l = true) (he : es.map Dom.say = (resD (stS (ofC l)) ds).map Dom.say) : fineF es (resR (stS (ofC l)) r) l = fitsF ds r l := by
 unfold fineF fitsF
 rw [hv, Bool.true_and, ok_say he]
theorem res_bd {ds es : List Dom} {r : Rul} {S : Nat} (hv : validP ds r = true) (he : es.map Dom.say = (resD S ds).map Dom.say) : es.length ≤ 512 ∧ ∀ d ∈ es, d.chs.length ≤ 50 := by
 obtain ⟨_, h2, h3, _⟩ := valid_st hv
 have h1 := congrArg List.length he
 rw [List.length_map, List.length_map] at h1
 have h4 : (resD S ds).length ≤ ds.length := List.length_filter_le _ _
 refine ⟨by omega, fun d hd => ?_⟩
 have h5 : d.say ∈ (resD S ds).map Dom.say := by rw [← he]; exact List.mem_map.2 ⟨d, hd, rfl⟩
 obtain ⟨d', hd', e⟩ := List.mem_map.1 h5
 have h6 := h3 d' (List.mem_filter.1 hd').1
 have h7 := congrArg Prod.snd e
 have h8 : d'.chs = d.chs := h7
 rw [← h8]; exact h6
def pkKeep (l : Chs) (O : List Lem) : List Lem := O.filter fun o => !amgF (ofC o.chs) (ofC l)
theorem pk_ref {ds : List Dom} {r : Rul} {O : List Lem} {l : Chs} (hO : ∀ o ∈ O, vlGo none o.chs = true) (h1 : vlGo none l = true) (h2 : mi (stS (ofC l)) (stS (ds.map Dom.st)) = 0) (h3 : fitsF ds r l = true) :
  pkF ds r (O.map Lem.chs) l = if (O.any fun o => amgF (ofC l) (ofC o.chs)) = true then (O.map Lem.chs, 0) else if 1000 ≤ (pkKeep l O).length then (O.map Lem.chs, 7) else ((pkKeep l O).map Lem.chs ++ [l], 0) := by
 unfold pkF
 rw [if_pos h1, if_pos h2, if_pos h3]
 have e1 : ((O.map Lem.chs).any fun o => decide (mi (stS (ofC l)) (stS (ofC o)) = 0)) = O.any fun o => amgF (ofC l) (ofC o.chs) := by
  rw [List.any_map]
  have : ∀ Z : List Lem, (∀ o ∈ Z, o ∈ O) → Z.any ((fun o => decide (mi (stS (ofC l)) (stS (ofC o)) = 0)) ∘ Lem.chs) = Z.any fun o => amgF (ofC l) (ofC o.chs) := by
   intro Z
   induction Z with
   | nil => intro _; rfl
   | cons o z ih =>
    intro hz
    rw [List.any_cons, List.any_cons, ih (fun y hy => hz y (by simp [hy])), amg_mi (vl_stOk h1) (vl_stOk (hO o (hz o (by simp))))]; rfl
  exact this O (fun _ h => h)
 have e2 : ((O.map Lem.chs).filter fun o => !decide (mi (stS (ofC o)) (stS (ofC l)) = 0)) = (pkKeep l O).map Lem.chs := by
  unfold pkKeep
  have : ∀ Z : List Lem, (∀ o ∈ Z, o ∈ O) → ((Z.map Lem.chs).filter fun o => !decide (mi (stS (ofC o)) (stS (ofC l)) = 0)) = (Z.filter fun o => !amgF (ofC o.chs) (ofC l)).map Lem.chs := by
   intro Z
   induction Z with
   | nil => intro _; rfl
   | cons o z ih =>
    intro hz
    rw [List.map_cons, List.filter_cons, List.filter_cons, ih (fun y hy => hz y (by simp [hy])), ← amg_mi (vl_stOk (hO o (hz o (by simp)))) (vl_stOk h1)]
    split <;> simp
  exact this O (fun _ h => h)
 rw [e1, e2, List.length_map]
def rfKeep (y : Prf) (O : List Prf) : List Prf := O.filter fun o => !amgF y.sts o.sts
theorem rf_ref {ds : List Dom} {O : List Prf} {y : Prf} (hO : ∀ o ∈ O, stOk o.sts = true) (h1 : stOk y.sts = true) (h2 : mi (stS y.sts) (stS (ds.map Dom.st)) = 0) :
  rfF ds (O.map Prf.say) y.say = if (O.any fun o => amgF o.sts y.sts) = true then (O.map Prf.say, 0) else if 1000 ≤ (rfKeep y O).length then (O.map Prf.say, 7) else ((rfKeep y O).map Prf.say ++ [y.say], 0) := by
 have ey : y.say.1 = y.sts := rfl
 unfold rfF
 rw [ey, if_pos h1, if_pos h2]
 have e1 : ((O.map Prf.say).any fun o => decide (mi (stS o.1) (stS y.sts) = 0)) = O.any fun o => amgF o.sts y.sts := by
  rw [List.any_map]
  have : ∀ Z : List Prf, (∀ o ∈ Z, o ∈ O) → Z.any ((fun o => decide (mi (stS o.1) (stS y.sts) = 0)) ∘ Prf.say) = Z.any fun o => amgF o.sts y.sts := by
   intro Z
   induction Z with
   | nil => intro _; rfl
   | cons o z ih =>
    intro hz
    rw [List.any_cons, List.any_cons, ih (fun y hy => hz y (by simp [hy])), amg_mi (hO o (hz o (by simp))) h1]; rfl
  exact this O (fun _ h => h)
 have e2 : ((O.map Prf.say).filter fun o => !decide (mi (stS y.sts) (stS o.1) = 0)) = (rfKeep y O).map Prf.say := by
  unfold rfKeep
  have : ∀ Z : List Prf, (∀ o ∈ Z, o ∈ O) → ((Z.map Prf.say).filter fun o => !decide (mi (stS y.sts) (stS o.1) = 0)) = (Z.filter fun o => !amgF y.sts o.sts).map Prf.say := by
   intro Z
   induction Z with
   | nil => intro _; rfl
   | cons o z ih =>
    intro hz
    rw [List.map_cons, List.filter_cons, List.filter_cons, ih (fun y hy => hz y (by simp [hy])), amg_mi h1 (hO o (hz o (by simp)))]
    have eo : o.say.1 = o.sts := rfl
    rw [eo]
    split <;> simp
  exact this O (fun _ h => h)
 rw [e1, e2, List.length_map]
theorem lk_ref {ds : List Dom} {O : List Lem} {R : List Prf} {L : List Int} (hO : ∀ o ∈ O, vlGo none o.chs = true) (hR : ∀ o ∈ R, stOk o.sts = true) (h1 : stOk L = true) (h2 : mi (stS L) (stS (ds.map Dom.st)) = 0) :
  lkF ds (O.map Lem.chs) (R.map Prf.say) L = match O.find? fun o => amgF L (ofC o.chs) with
   | some o => ((1, o.chs.filter (fun x => hasL L x.1), ([], [])), 0)
   | none => match R.find? fun o => amgF o.sts L with
    | some o => ((2, [], o.say), 0)
    | none => ((0, [], ([], [])), 0) := by
 unfold lkF
 rw [if_pos h1, if_pos h2, find_map, find_map, hasL_st h1]
 rw [find_congr (q := fun o : Lem => amgF L (ofC o.chs)) (fun o ho => (amg_mi h1 (vl_stOk (hO o ho))).symm), find_congr (p := fun o : Prf => decide (mi (stS o.say.1) (stS L) = 0)) (q := fun o : Prf => amgF o.sts L) (fun o ho => (amg_mi (hR o ho) h1).symm)]
 cases O.find? fun o => amgF L (ofC o.chs) with
 | some o => rfl
 | none =>
  cases R.find? fun o => amgF o.sts L with
  | some o => rfl
  | none => rfl
theorem agrees_any (B : Nat) (p : Nat → Prop) (g : Nat) (x : StS) (m : MsS) (ds : List Dom) (r : Rul) (w : World) (hS : StAt w B p g x) (hO : StOk x) (hm : MsAt w m ds r) :
  Calls Tryz.prog 27 #[.pointer (some ⟨g, 0, none⟩), m.val] w (RetPost (.bool (decide (x.P = m.P) && decide (x.Q = m.Q))) w.heap.size w) := by
 obtain ⟨p3, hp3⟩ : ∃ q, q = w.heap.size := ⟨_, rfl⟩
 obtain ⟨V0, hV0⟩ : ∃ V, V = w.alloc (.cells #[.slice m.s.ad m.s.nd m.s.cd, .slice m.s.rs.a0 m.s.rs.n0 m.s.rs.c0, .slice m.s.rs.a1 m.s.rs.n1 m.s.rs.c1, .slice m.s.rs.a2 m.s.rs.n2 m.s.rs.c2, .slice m.pa m.pn m.pc, .slice m.qa m.qn m.qc] 72) := ⟨_, rfl⟩
 have hP0 : Hp w w V0 [.blk p3 72 [.slice m.s.ad m.s.nd m.s.cd, .slice m.s.rs.a0 m.s.rs.n0 m.s.rs.c0, .slice m.s.rs.a1 m.s.rs.n1 m.s.rs.c1, .slice m.s.rs.a2 m.s.rs.n2 m.s.rs.c2, .slice m.pa m.pn m.pc, .slice m.qa m.qn m.qc]] [] := by
  have h := (Hp.start w).alloc [.slice m.s.ad m.s.nd m.s.cd, .slice m.s.rs.a0 m.s.rs.n0 m.s.rs.c0, .slice m.s.rs.a1 m.s.rs.n1 m.s.rs.c1, .slice m.s.rs.a2 m.s.rs.n2 m.s.rs.c2, .slice m.pa m.pn m.pc, .slice m.qa m.qn m.qc] 72
  rw [hV0, hp3]; exact h
 have HPD := Lib.hid (packed_any B p g x V0 (hS.keep hP0.below) (by have := hO.pl; omega))
 have HRD := Lib.hid (fun (W : World) (hb : Below w.heap.size w W) => refuted_any B p g x W (hS.keep hb) hO)
 have HM := Lib.hid (fun (W : World) (hb : Below w.heap.size w W) => hm.keep hb)
 have HOK := Lib.hid hO
 have HMP := Eqn.mk hm.p.1
 have HMQ := Eqn.mk hm.q.1
 have HE0 : Eqn (decide (x.P = m.P) && decide (x.Q = m.Q)) (decide (x.P = m.P) && decide (x.Q = m.Q)) := rfl
 generalize hans : (decide (x.P = m.P) && decide (x.Q = m.Q)) = ans at *
 have HE0 : Eqn ans (decide (x.P = m.P) && decide (x.Q = m.Q)) := hans.symm
 have HP0 := Lib.hid hP0
 unfold MsS.val
 clear hP0 hS hO hm hans
 go_enter Tryz.func27, Tryz.ntmps27
 go_upto_region 1 with fail
 rw [← hV0, ← hp3]
 clear hV0 hp3
 go_wp2_with fail
 refine HPD.out.mono ?_
 rintro e W8 hpost
 obtain ⟨v8, O8, rfl, hO8, hL8, hb8⟩ := pkd_at hpost
 obtain ⟨⟨A8, c8, rfl, _⟩, _⟩ := id hL8
 have HP8 := Lib.hid (HP0.out.keep hb8)
 have HR8 := Lib.hid (HRD.out W8 HP8.out.below)
 have HL8 := Lib.hid hL8
 have HO8 := Lib.hid hO8
 clear hpost hO8 hL8 hb8 HPD HRD HP0
 go_wp2_with fail
 refine HR8.out.mono ?_
 rintro e W9 hpost
 obtain ⟨v9, O9, rfl, hO9, hL9, hb9⟩ := rfd_at hpost
 obtain ⟨⟨A9, c9, rfl, _⟩, _⟩ := id hL9
 have HP9 := Lib.hid (HP8.out.keep hb9)
 have HL8' := Lib.hid (HL8.out.keep hb9)
 have HL9 := Lib.hid hL9
 have HO9 := Lib.hid hO9
 clear hpost hO9 hL9 hb9 HR8 HL8 HP8
 obtain ⟨n8, hn8⟩ : ∃ n8, n8 = O8.length := ⟨_, rfl⟩
 obtain ⟨n9, hn9⟩ : ∃ n9, n9 = O9.length := ⟨_, rfl⟩
 rw [← hn8, ← hn9]
 have HNN : Hid (O8.length = n8 ∧ O9.length = n9 ∧ n8 ≤ 1000 ∧ n9 ≤ 1000) := Lib.hid ⟨hn8.symm, hn9.symm, by
  have h1 := congrArg List.length HO8.out
  rw [List.length_map] at h1
  unfold StS.P at h1
  rw [List.length_map] at h1
  have := HOK.out.pl; omega, by
  have h1 := congrArg List.length HO9.out
  rw [List.length_map] at h1
  unfold StS.Q at h1
  rw [List.length_map] at h1
  have := HOK.out.rl; omega⟩
 have HR8 := Lib.hid (fun (X : World) (hb : Below W9.heap.size W9 X) => (by
  obtain ⟨⟨A', c', e', hr⟩, ha⟩ := HL8'.out.keep hb
  rw [HNN.out.1] at e' hr
  injection e' with e' _ _
  subst e'
  exact ⟨hr, ha⟩ : RowX 1 lemC X (fun _ => True) A8 n8 O8 ∧ ∀ m ∈ O8, m.At X (fun _ => True)))
 have HR9 := Lib.hid (fun (X : World) (hb : Below W9.heap.size W9 X) => (by
  obtain ⟨⟨A', c', e', hr⟩, ha⟩ := HL9.out.keep hb
  rw [HNN.out.2.1] at e' hr
  injection e' with e' _ _
  subst e'
  exact ⟨hr, ha⟩ : RowX 2 prfC X (fun _ => True) A9 n9 O9 ∧ ∀ m ∈ O9, m.At X (fun _ => True)))
 have hn8b := HNN.out.2.2.1
 have hn9b := HNN.out.2.2.2
 have HM9 := Lib.hid (fun (X : World) (hb : Below W9.heap.size W9 X) => HM.out X (HP9.out.keep hb).below)
 have HPX : Hid (x.P = O8.map Lem.chs ∧ x.Q = O9.map Prf.say) := Lib.hid ⟨HO8.out.symm, HO9.out.symm⟩
 clear hn8 hn9 HL8' HL9 HO8 HO9 HM
 have z4 := HP9.out.c 0 4 rfl rfl
 have z5 := HP9.out.c 0 5 rfl rfl
 have zl := HP9.out.lt 0 rfl
 by_cases h1 : n8 = m.pn
 ·have d1 : ((n8 : Int) != (m.pn : Int)) = false := by simp [h1]
  by_cases h2 : n9 = m.qn
  ·have d2 : ((n9 : Int) != (m.qn : Int)) = false := by simp [h2]
   have HNM : Hid (m.pn = n8 ∧ m.qn = n9) := Lib.hid ⟨h1.symm, h2.symm⟩
   have HLM : Hid ((O8.map Lem.chs).length = n8 ∧ m.P.length = n8 ∧ (O9.map Prf.say).length = n9 ∧ m.Q.length = n9) := Lib.hid ⟨by rw [List.length_map]; exact HNN.out.1, by unfold MsS.P; rw [List.length_map, HMP.out]; exact h1.symm, by rw [List.length_map]; exact HNN.out.2.1, by unfold MsS.Q; rw [List.length_map, HMQ.out]; exact h2.symm⟩
   clear h1 h2
   go_wp2_with fail
   clear z4 z5 zl
   go_loopw [7] (fun i wr => ∃ k : Nat, k ≤ n8 ∧ i = .int .i64 k ∧ (O8.map Lem.chs).take k = m.P.take k ∧ Below W9.heap.size W9 wr) (fun i _ => n8 - (intOf i).toNat)
   case atStart => exact ⟨0, Nat.zero_le _, rfl, rfl, Below.refl _ _⟩
   case round =>
    obtain ⟨k, hk, rfl, ht, hB⟩ := hrel
    have HB := Lib.hid hB
    have HT := Lib.hid ht
    clear ht
    by_cases hlt : k < n8
    ·have j0 : (k : Int) < (n8 : Int) := by omega
     obtain ⟨a, ha⟩ : ∃ a, O8[k]? = some a := ⟨_, List.getElem?_eq_getElem (by rw [HNN.out.1]; exact hlt)⟩
     obtain ⟨b, hb⟩ : ∃ b, m.O[k]? = some b := ⟨_, List.getElem?_eq_getElem (by rw [HMP.out, HNM.out.1]; exact hlt)⟩
     obtain ⟨hr8, hat8⟩ := HR8.out wr hB
     have hmw := HM9.out wr hB
     obtain ⟨b1, o1, rfl, _, hc1⟩ := hr8.2 (by omega)
     obtain ⟨b2, o2, e2, _, hc2⟩ := hmw.p.2 (by rw [HNM.out.1]; omega)
     have z4 : wr.cell? ⟨p3, 4, none⟩ = some (.slice (some ⟨b2, o2, none⟩) n8 m.pc) := by have := (HP9.out.keep hB).c 0 4 rfl rfl; rwa [e2, HNM.out.1] at this
     have zl := (HP9.out.keep hB).lt 0 rfl
     have y1 : wr.cell? ⟨b1, o1 + k, none⟩ = some (.slice a.adr a.len a.cap) := by have := hc1 k a ha 0 (by decide); rwa [Nat.mul_one, Nat.add_zero] at this
     have y2 : wr.cell? ⟨b2, o2 + k, none⟩ = some (.slice b.adr b.len b.cap) := by have := hc2 k b hb 0 (by decide); rwa [Nat.mul_one, Nat.add_zero] at this
     have hA := (hat8 a (List.mem_of_getElem? ha)).keep (Below.refl _ wr).drew
     have hBm := (hmw.o b (List.mem_of_getElem? hb)).keep (Below.refl _ wr).drew
     have hx' : (O8.map Lem.chs)[k]? = some a.chs := by rw [List.getElem?_map, ha]; rfl
     have hy' : m.P[k]? = some b.chs := by unfold MsS.P; rw [List.getElem?_map, hb]; rfl
     have HEQ : Hid (a.chs = b.chs → (O8.map Lem.chs).take (k + 1) = m.P.take (k + 1)) := Lib.hid (fun h => take_eq hx' hy' h HT.out)
     have HNE : Hid (¬ a.chs = b.chs → ans = false) := Lib.hid (fun h => by rw [HE0.out, HPX.out.1, decide_eq_false (eq_no hx' hy' h), Bool.false_and])
     have HS := Lib.hid (sameList_any a.adr b.adr a.len a.cap b.len b.cap wr.drew wr.drew.heap.size a.chs b.chs (by have := hA.2; omega) hA.rowS hBm.rowS)
     clear hc1 hc2 ha hb hB HT hx' hy' hA hBm hr8 hat8 hmw e2
     by_cases h1 : a.chs = b.chs
     ·have HV := Lib.hid (HEQ.out h1)
      rw [decide_eq_true h1] at HS
      clear h1 HEQ HNE
      go_wp2_with fail
      refine Lx.region (C := fun _ => True) (hs := []) (by kernel_rfl) (by kernel_rfl) trivial ?_
      repeat' (first | ((first | refine Lx.ln (fun K hK => ?_) | (first | (refine Lx.lp (v := ?_) ?_ (fun K hK => ?_); rotate_left 1; intro w' hCw; try dsimp only at hCw) | (refine Lx.lr (v := ?_) ?_ (fun K hK => ?_); rotate_left 1)); go_simp; first | done | with_reducible rfl); go_simp; refine hK _ ?_; clear hK K) | (refine Lx.le (fun K hK => ?_); go_simp; (first | (go_at_call 23; refine HS.out.mono ?_; rintro e w5 ⟨rfl, hb5⟩; have HB5 := Lib.hid (HB.out.drew.trans (hb5.mono HB.out.drew.size)); clear hb5) | skip); refine hK _ _ (trivial) ?_; clear hK K) | (refine Lx.lex_cases rfl rfl rfl (fun hgd K hK => ?_) (fun hgd K hK => ?_) <;> (try simp only [decide_eq_true_eq, decide_eq_false_iff_not] at hgd) <;> (first | (exfalso; omega) | (go_simp; refine hK _ ?_; clear hK K))))
      all_goals (refine Lx.lex_nil ?_)
      go_wp2_with fail
      go_roundw
      case rel => exact ⟨k + 1, by omega, by go_num, HV.out, HB5.out⟩
      case measure => simp [intOf]; omega
     ·have HV := Lib.hid (HNE.out h1)
      rw [decide_eq_false h1] at HS
      clear h1 HEQ HNE
      go_wp2_with fail
      refine Lx.region (C := fun _ => True) (hs := []) (by kernel_rfl) (by kernel_rfl) trivial ?_
      repeat' (first | ((first | refine Lx.ln (fun K hK => ?_) | (first | (refine Lx.lp (v := ?_) ?_ (fun K hK => ?_); rotate_left 1; intro w' hCw; try dsimp only at hCw) | (refine Lx.lr (v := ?_) ?_ (fun K hK => ?_); rotate_left 1)); go_simp; first | done | with_reducible rfl); go_simp; refine hK _ ?_; clear hK K) | (refine Lx.le (fun K hK => ?_); go_simp; (first | (go_at_call 23; refine HS.out.mono ?_; rintro e w5 ⟨rfl, hb5⟩; have HB5 := Lib.hid (HB.out.drew.trans (hb5.mono HB.out.drew.size)); clear hb5) | skip); refine hK _ _ (trivial) ?_; clear hK K) | (refine Lx.lex_cases rfl rfl rfl (fun hgd K hK => ?_) (fun hgd K hK => ?_) <;> (try simp only [decide_eq_true_eq, decide_eq_false_iff_not] at hgd) <;> (first | (exfalso; omega) | (go_simp; refine hK _ ?_; clear hK K))))
      all_goals (refine Lx.lex_nil ?_)
      go_wp2_with fail
      go_ret
      exact ⟨ret_bool HV.out.symm, (HP9.out.keep HB5.out).below⟩
    ·obtain rfl : k = n8 := by omega
     have j0 : ¬ (k : Int) < (k : Int) := by omega
     have HVP : Hid (x.P = m.P) := Lib.hid (by rw [HPX.out.1]; exact take_all HLM.out.1 HLM.out.2.1 HT.out)
     clear hB HT
     go_wp2_with fail
     go_loopw [8] (fun i wr => ∃ k : Nat, k ≤ n9 ∧ i = .int .i64 k ∧ (O9.map Prf.say).take k = m.Q.take k ∧ Below W9.heap.size W9 wr) (fun i _ => n9 - (intOf i).toNat)
     case atStart => exact ⟨0, Nat.zero_le _, rfl, rfl, HB.out⟩
     case round =>
      clear HB
      obtain ⟨k2, hk, rfl, ht, hB⟩ := hrel
      have HB := Lib.hid hB
      have HT := Lib.hid ht
      clear ht
      by_cases hlt : k2 < n9
      ·have j0 : (k2 : Int) < (n9 : Int) := by omega
       obtain ⟨a, ha⟩ : ∃ a, O9[k2]? = some a := ⟨_, List.getElem?_eq_getElem (by rw [HNN.out.2.1]; exact hlt)⟩
       obtain ⟨b, hb⟩ : ∃ b, m.R[k2]? = some b := ⟨_, List.getElem?_eq_getElem (by rw [HMQ.out, HNM.out.2]; exact hlt)⟩
       obtain ⟨hr9, hat9⟩ := HR9.out wr hB
       have hmw := HM9.out wr hB
       obtain ⟨b1, o1, rfl, _, hc1⟩ := hr9.2 (by omega)
       obtain ⟨b2, o2, e2, _, hc2⟩ := hmw.q.2 (by rw [HNM.out.2]; omega)
       have z5 : wr.cell? ⟨p3, 5, none⟩ = some (.slice (some ⟨b2, o2, none⟩) n9 m.qc) := by have := (HP9.out.keep hB).c 0 5 rfl rfl; rwa [e2, HNM.out.2] at this
       have zl := (HP9.out.keep hB).lt 0 rfl
       have y1 : wr.cell? ⟨b1, o1 + k2 * 2, none⟩ = some (.slice a.sa a.sn a.sc) := hc1 k2 a ha 0 (by decide)
       have y2 : wr.cell? ⟨b1, o1 + k2 * 2 + 1, none⟩ = some (.slice a.la a.ln a.lc) := hc1 k2 a ha 1 (by decide)
       have y3 : wr.cell? ⟨b2, o2 + k2 * 2, none⟩ = some (.slice b.sa b.sn b.sc) := hc2 k2 b hb 0 (by decide)
       have y4 : wr.cell? ⟨b2, o2 + k2 * 2 + 1, none⟩ = some (.slice b.la b.ln b.lc) := hc2 k2 b hb 1 (by decide)
       have hA := (hat9 a (List.mem_of_getElem? ha)).keep (Below.refl _ wr).drew
       have hBm := (hmw.r b (List.mem_of_getElem? hb)).keep (Below.refl _ wr).drew
       have hx' : (O9.map Prf.say)[k2]? = some a.say := by rw [List.getElem?_map, ha]; rfl
       have hy' : m.Q[k2]? = some b.say := by unfold MsS.Q; rw [List.getElem?_map, hb]; rfl
       have HEQ : Hid (a.say = b.say → (O9.map Prf.say).take (k2 + 1) = m.Q.take (k2 + 1)) := Lib.hid (fun h => take_eq hx' hy' h HT.out)
       have HNE : Hid (¬ a.say = b.say → ans = false) := Lib.hid (fun h => by rw [HE0.out, HPX.out.2, decide_eq_false (eq_no hx' hy' h), Bool.and_false])
       have HS := Lib.hid (psame_any a b wr.drew hA hBm)
       unfold Prf.val Prf.v1 Prf.v2 at HS
       clear hc1 hc2 ha hb hB HT hx' hy' hA hBm hr9 hat9 hmw e2
       by_cases h1 : a.say = b.say
       ·have HV := Lib.hid (HEQ.out h1)
        rw [decide_eq_true h1] at HS
        clear h1 HEQ HNE
        go_wp2_with fail
        refine Lx.region (C := fun _ => True) (hs := []) (by kernel_rfl) (by kernel_rfl) trivial ?_
        repeat' (first | ((first | refine Lx.ln (fun K hK => ?_) | (first | (refine Lx.lp (v := ?_) ?_ (fun K hK => ?_); rotate_left 1; intro w' hCw; try dsimp only at hCw) | (refine Lx.lr (v := ?_) ?_ (fun K hK => ?_); rotate_left 1)); go_simp; first | done | with_reducible rfl); go_simp; refine hK _ ?_; clear hK K) | (refine Lx.le (fun K hK => ?_); go_simp; (first | (go_at_call 24; refine HS.out.mono ?_; rintro e w5 ⟨rfl, hb5⟩; have HB5 := Lib.hid (HB.out.drew.trans (hb5.mono HB.out.drew.size)); clear hb5) | skip); refine hK _ _ (trivial) ?_; clear hK K) | (refine Lx.lex_cases rfl rfl rfl (fun hgd K hK => ?_) (fun hgd K hK => ?_) <;> (try simp only [decide_eq_true_eq, decide_eq_false_iff_not] at hgd) <;> (first | (exfalso; omega) | (go_simp; refine hK _ ?_; clear hK K))))
        all_goals (refine Lx.lex_nil ?_)
        go_wp2_with fail
        go_roundw
        case rel => exact ⟨k2 + 1, by omega, by go_num, HV.out, HB5.out⟩
        case measure => simp [intOf]; omega
       ·have HV := Lib.hid (HNE.out h1)
        rw [decide_eq_false h1] at HS
        clear h1 HEQ HNE
        go_wp2_with fail
        refine Lx.region (C := fun _ => True) (hs := []) (by kernel_rfl) (by kernel_rfl) trivial ?_
        repeat' (first | ((first | refine Lx.ln (fun K hK => ?_) | (first | (refine Lx.lp (v := ?_) ?_ (fun K hK => ?_); rotate_left 1; intro w' hCw; try dsimp only at hCw) | (refine Lx.lr (v := ?_) ?_ (fun K hK => ?_); rotate_left 1)); go_simp; first | done | with_reducible rfl); go_simp; refine hK _ ?_; clear hK K) | (refine Lx.le (fun K hK => ?_); go_simp; (first | (go_at_call 24; refine HS.out.mono ?_; rintro e w5 ⟨rfl, hb5⟩; have HB5 := Lib.hid (HB.out.drew.trans (hb5.mono HB.out.drew.size)); clear hb5) | skip); refine hK _ _ (trivial) ?_; clear hK K) | (refine Lx.lex_cases rfl rfl rfl (fun hgd K hK => ?_) (fun hgd K hK => ?_) <;> (try simp only [decide_eq_true_eq, decide_eq_false_iff_not] at hgd) <;> (first | (exfalso; omega) | (go_simp; refine hK _ ?_; clear hK K))))
        all_goals (refine Lx.lex_nil ?_)
        go_wp2_with fail
        go_ret
        exact ⟨ret_bool HV.out.symm, (HP9.out.keep HB5.out).below⟩
      ·obtain rfl : k2 = n9 := by omega
       have j0 : ¬ (k2 : Int) < (k2 : Int) := by omega
       have HV : Hid (ans = true) := Lib.hid (by
        have h2 : x.Q = m.Q := by rw [HPX.out.2]; exact take_all HLM.out.2.2.1 HLM.out.2.2.2 HT.out
        rw [HE0.out, decide_eq_true HVP.out, decide_eq_true h2]; rfl)
       clear hB HT
       go_wp2_with fail
       go_ret
       exact ⟨ret_bool HV.out.symm, (HP9.out.keep HB.out).below⟩
  ·have d2 : ((n9 : Int) != (m.qn : Int)) = true := by simp; omega
   have HV : Hid (ans = false) := Lib.hid (by
    rw [HE0.out, decide_eq_false (show ¬ x.Q = m.Q from fun e => h2 (by
     have := congrArg List.length (HPX.out.2.symm.trans e)
     rw [List.length_map, HNN.out.2.1] at this
     unfold MsS.Q at this
     rw [List.length_map, HMQ.out] at this
     exact this)), Bool.and_false])
   clear h1 h2
   go_wp2_with fail
   go_ret
   exact ⟨ret_bool HV.out.symm, HP9.out.below⟩
 ·have d1 : ((n8 : Int) != (m.pn : Int)) = true := by simp; omega
  have HV : Hid (ans = false) := Lib.hid (by
   rw [HE0.out, decide_eq_false (show ¬ x.P = m.P from fun e => h1 (by
    have := congrArg List.length (HPX.out.1.symm.trans e)
    rw [List.length_map, HNN.out.1] at this
    unfold MsS.P at this
    rw [List.length_map, HMP.out] at this
    exact this)), Bool.false_and])
  clear h1
  go_wp2_with fail
  go_ret
  exact ⟨ret_bool HV.out.symm, HP9.out.below⟩
end Go.Proofs.YtdpbbhbegehcjaaGreatDoor

namespace Go.Proofs.YtdpbbhbegehcjaaGreatDoor
open Go.RowKit
namespace Lx
section
variable {P : Program} {ops : Array Oper} {C : World → Prop} {hs : List Nat}
def eff (ops : Array Oper) (hs : List Nat) (i : Nat) : Bool := match ops[i]? with | some o => kind hs i o == 2 | none => false
def plainE (o : Oper) : Bool := match o.op with
 | .alloc .. | .box .. | .buildSlice .. | .store .. | .makeSlice .. | .makeMap .. | .mapUpdate .. | .insert .. => true
 | _ => false
def relA (ops : Array Oper) (hs : List Nat) (M : List Nat) (i j : Nat) : Bool :=
 ((M.getD j 0).testBit i || pair ops hs i j || (eff ops hs i && eff ops hs j)) && (match ops[i]? with | some o => o.after.all fun e => !Region.binds .any e || e.on != j | none => true)
theorem run_pure_bind {α : Type} {m : Sem α} {f : α → Next} {w w' : World} {x : Next} (h : (m >>= fun a => pure (f a)).run P w = .ok x w') : ∃ a, x = f a := by
 rw [Sem.run_bind] at h
 cases hm : m.run P w with
 | ok a w1 => rw [hm] at h; simp only [Result.andThen_ok, Sem.run_pure] at h; injection h with h1 h2; exact ⟨a, h1.symm⟩
 | halt y w1 => rw [hm] at h; cases h
theorem plain_not {o : Oper} (ho : plainE o = true) {ρ : Operand → Value} {w w' : World} {x : Next} (h : (execOp ρ o).run P w = .ok x w') : (∃ v, x = .value v) ∨ x = .skip := by
 unfold plainE at ho
 unfold execOp at h
 split at ho <;> simp_all only [] <;>
  first
   | (obtain ⟨a, rfl⟩ := run_pure_bind (f := fun v => Next.value v) h; exact .inl ⟨_, rfl⟩)
   | (obtain ⟨a, rfl⟩ := run_pure_bind (f := fun _ => Next.skip) h; exact .inr rfl)
   | cases ho
theorem wp_all {o : Oper} (ho : plainE o = true) {a : Act} {w : World} {I : Type} {S : I → Prop} {K : I → Act → World → Prop} (i0 : I) (h0 : S i0) (h : ∀ i, S i → o.wp P a w (K i) NoQ) : o.wp P a w (fun a' w' => ∀ i, S i → K i a' w') NoQ := by
 have hp := fun w' x => plain_not (P := P) ho (ρ := a.eval) (w := w) (w' := w') (x := x)
 unfold Oper.wp at *
 generalize (execOp a.eval o).run P w = r at *
 cases r with
 | ok n w' =>
  rcases hp w' n rfl with ⟨v, rfl⟩ | rfl
  ·exact fun i hi => h i hi
  ·exact fun i hi => h i hi
 | halt x w' =>
  have := h i0 h0
  cases x <;> simp only [Oper.upon] at this <;> first | exact this.elim | exact absurd this id
theorem step_all {j : Nat} {oj : Oper} {a : Act} {w : World} {I : Type} {S : I → Prop} {K : I → Act → World → Prop} (i0 : I) (h0 : S i0) (hC : C w) (hk : kind hs j oj ≠ 2 ∨ plainE oj = true) (h : ∀ i, S i → step P ops C hs j oj (K i) a w) : step P ops C hs j oj (fun a w => ∀ i, S i → K i a w) a w := by
 unfold step at *
 split
 ·rename_i hw
  have h' : ∀ i, S i → (kind hs j oj = 0 ∧ ∃ v, (∀ w', C w' → (execOp a.eval oj).run P w' = .ok (.value v) w') ∧ K i (a.put oj.dst v) w) ∨ (kind hs j oj = 1 ∧ ∃ v, (execOp a.eval oj).run P w = .ok (.value v) w ∧ K i (a.put oj.dst v) w) ∨ (kind hs j oj = 2 ∧ oj.wp P a w (fun a' w' => C w' ∧ K i a' w') NoQ) := fun i hi => by
   have := h i hi; rw [if_pos hw] at this; exact this
  rcases h' i0 h0 with ⟨k0, v, h1, _⟩ | ⟨k0, v, h1, _⟩ | ⟨k0, h1⟩
  ·refine .inl ⟨k0, v, h1, fun i hi => ?_⟩
   rcases h' i hi with ⟨_, v', h1', h2'⟩ | ⟨k1, _⟩ | ⟨k1, _⟩
   ·have := (h1 w hC).symm.trans (h1' w hC)
    injection this with this _
    injection this with this
    subst this
    exact h2'
   ·omega
   ·omega
  ·refine .inr (.inl ⟨k0, v, h1, fun i hi => ?_⟩)
   rcases h' i hi with ⟨k1, _⟩ | ⟨_, v', h1', h2'⟩ | ⟨k1, _⟩
   ·omega
   ·have := h1.symm.trans h1'
    injection this with this _
    injection this with this
    subst this
    exact h2'
   ·omega
  ·have hp : plainE oj = true := by
    rcases hk with hk | hk
    ·exact absurd k0 hk
    ·exact hk
   refine .inr (.inr ⟨k0, ?_⟩)
   have := wp_all (P := P) hp (a := a) (w := w) (S := S) (K := fun i a' w' => C w' ∧ K i a' w') i0 h0 (fun i hi => by
    rcases h' i hi with ⟨k1, _⟩ | ⟨k1, _⟩ | ⟨_, hh⟩
    ·omega
    ·omega
    ·exact hh)
   exact Oper.wp_mono (fun a' w' hh => ⟨(hh i0 h0).1, fun i hi => (hh i hi).2⟩) this
 ·rename_i hw
  intro i hi
  have := h i hi
  rw [if_neg hw] at this
  exact this
theorem relA_pair {i j : Nat} (h : relA ops hs (masks ops.toList []) i j = true) {listed : Array Bool} (hD : Down ops listed) {oj : Oper} (hoj : ops[j]? = some oj) (hjr : ∀ e ∈ oj.after, Region.binds .any e = true → listed.getD e.on false = true) (hi : listed.getD i true = false) (hil : i < listed.size) (hne : ¬ (eff ops hs i = true ∧ eff ops hs j = true)) : pair ops hs i j = true := by
 simp only [relA, Bool.and_eq_true, Bool.or_eq_true] at h
 rcases h.1 with (h1 | h1) | h1
 ·exfalso
  have hl := masks_sound hD (j + 1) j oj (by omega) hoj hjr i h1
  simp only [Array.getD_eq_getD_getElem?, Array.getElem?_eq_getElem hil, Option.getD_some] at hl hi
  rw [hl] at hi
  cases hi
 ·exact h1
 ·exact absurd h1 hne
theorem head_readyA {i : Nat} {L : List Nat} {listed : Array Bool} (hsz : listed.size = ops.size) (hm : ∀ k, k ∈ i :: L ↔ k < ops.size ∧ listed.getD k true = false) (hself : ∀ (k : Nat) (o : Oper), ops[k]? = some o → ∀ e ∈ o.after, Region.binds .any e = true → e.on ≠ k ∧ e.on < ops.size)
  (hp : (i :: L).Pairwise (fun a b => relA ops hs (masks ops.toList []) a b = true)) : i ∈ Region.ready .any ops listed := by
 obtain ⟨hi1, hi2⟩ := (hm i).1 (by simp)
 have ho : ops[i]? = some ops[i] := Array.getElem?_eq_getElem hi1
 refine mem_ready.2 ⟨hi2, _, ho, fun e he hb => ?_⟩
 have hse := hself i _ ho e he hb
 have hb2 : e.on < listed.size := by omega
 cases hl : listed.getD e.on false with
 | true => rfl
 | false =>
  exfalso
  have hl' : listed.getD e.on true = false := by
   simp only [Array.getD_eq_getD_getElem?, Array.getElem?_eq_getElem hb2, Option.getD_some] at hl ⊢; exact hl
  have hmem : e.on ∈ i :: L := (hm e.on).2 ⟨hse.2, hl'⟩
  rcases List.mem_cons.1 hmem with h | h
  ·exact hse.1 h
  ·have h1 := (List.pairwise_cons.1 hp).1 e.on h
   simp only [relA, ho, Bool.and_eq_true] at h1
   have h2 := Array.all_eq_true'.1 h1.2 e he
   simp [hb] at h2
structure Ord (ops : Array Oper) (hs : List Nat) (listed : Array Bool) (L : List Nat) : Prop where
 nd : L.Nodup
 mem : ∀ i, i ∈ L ↔ i < ops.size ∧ listed.getD i true = false
 pw : L.Pairwise (fun a b => relA ops hs (masks ops.toList []) a b = true)
theorem Ord.rest {listed : Array Bool} {L : List Nat} {j : Nat} (h : Ord ops hs listed L) (hj : j ∈ L) : Ord ops hs (listed.setIfInBounds j true) (L.erase j) := by
 obtain ⟨pre, post, rfl⟩ := List.append_of_mem hj
 have hnj : j ∉ pre := by
  have := (List.nodup_append.1 h.nd).2.2
  intro hh
  exact this j hh j (by simp) rfl
 have e : (pre ++ j :: post).erase j = pre ++ post := by
  rw [List.erase_append_right _ hnj, List.erase_cons_head]
 rw [e]
 exact ⟨drop_mid h.nd, mem_rest h.nd h.mem, drop_mid h.pw⟩
theorem erase_filter {p : Nat → Bool} {j : Nat} : ∀ {L : List Nat}, p j = false → (L.erase j).filter p = L.filter p := by
 intro L
 induction L with
 | nil => intro _; rfl
 | cons i L ih =>
  intro hp
  by_cases e : i = j
  ·subst e
   rw [List.erase_cons_head, List.filter_cons_of_neg (by simp [hp])]
  ·rw [List.erase_cons_tail (by simpa using e)]
   by_cases hi : p i = true
   ·rw [List.filter_cons_of_pos hi, List.filter_cons_of_pos hi, ih hp]
   ·rw [List.filter_cons_of_neg hi, List.filter_cons_of_neg hi, ih hp]
end
section
variable {P : Program} {ops : Array Oper} {C : World → Prop} {hs : List Nat} {Q : Act → World → Prop} {k : Nat} {o : Oper} {r : List (Nat × Oper)} {a : Act} {w : World}
end
end Lx
end Go.Proofs.YtdpbbhbegehcjaaGreatDoor
