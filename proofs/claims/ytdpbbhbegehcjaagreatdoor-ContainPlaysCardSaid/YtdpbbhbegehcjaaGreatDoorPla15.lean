/- slices.Contains over numbers, and a whole array stored into a block of the call's own. -/
import Derived.Test.YtdpbbhbegehcjaaGreatDoorPla01
import Derived.Test.YtdpbbhbegehcjaaGreatDoorPla04
import Derived.Test.YtdpbbhbegehcjaaGreatDoorPla05
import Derived.Test.YtdpbbhbegehcjaaGreatDoorPla07
import Derived.Test.YtdpbbhbegehcjaaGreatDoorPla08
import Derived.Test.YtdpbbhbegehcjaaGreatDoorPla09
import Derived.Test.YtdpbbhbegehcjaaGreatDoorPla10
import Derived.Test.YtdpbbhbegehcjaaGreatDoorPla11
import Derived.Test.YtdpbbhbegehcjaaGreatDoorPla14
set_option maxRecDepth 100000
set_option maxHeartbeats 2000000
namespace Go.Proofs.YtdpbbhbegehcjaaGreatDoor
open Go.RowKit
def RowX {α : Type} (sz : Nat) (f : α → Nat → Value) (w : World) (p : Nat → Prop) (A : Option Addr) (n : Nat) (xs : List α) : Prop :=
 xs.length = n ∧ (0 < n → ∃ b off, A = some ⟨b, off, none⟩ ∧ p b ∧ ∀ k x, xs[k]? = some x → ∀ j, j < sz → w.cell? ⟨b, off + k * sz + j, none⟩ = some (f x j))
section
variable {α : Type} {sz : Nat} {f : α → Nat → Value} {w X : World} {p q : Nat → Prop} {A : Option Addr} {n B : Nat} {xs : List α}
theorem RowX.rowS (h : RowX sz f w p A n xs) (hz : 0 < sz) : RowS sz f w w.heap.size A n xs := by
 refine ⟨h.1, fun hn => ?_⟩
 obtain ⟨b, off, e, _, hc⟩ := h.2 hn
 have hx : xs[0]? = some (xs[0]'(by have := h.1; omega)) := List.getElem?_eq_getElem _
 exact ⟨b, off, e, (lt_of_cell (hc 0 _ hx 0 hz)).1, hc⟩
theorem RowX.turn (h : RowX sz f w p A n xs) (_ : 0 < sz) (hs : ∀ k, p k → k < w.heap.size → X.heap[k]? = w.heap[k]?) : RowX sz f X p A n xs := by
 refine ⟨h.1, fun hn => ?_⟩
 obtain ⟨b, off, e, hp, hc⟩ := h.2 hn
 refine ⟨b, off, e, hp, fun k x hx j hj => ?_⟩
 have h1 := hc k x hx j hj
 have h2 := hs b hp (lt_of_cell h1).1
 rw [← h1]
 unfold World.cell?
 rw [h2]
theorem RowX.mono (h : RowX sz f w p A n xs) (hz : 0 < sz) (hpq : ∀ k, p k → k < w.heap.size → q k) : RowX sz f w q A n xs := by
 refine ⟨h.1, fun hn => ?_⟩
 obtain ⟨b, off, e, hp, hc⟩ := h.2 hn
 have hx : xs[0]? = some (xs[0]'(by have := h.1; omega)) := List.getElem?_eq_getElem _
 exact ⟨b, off, e, hpq b hp (lt_of_cell (hc 0 _ hx 0 hz)).1, hc⟩
theorem RowX.keep (h : RowX sz f w p A n xs) (hz : 0 < sz) (hb : Below w.heap.size w X) : RowX sz f X p A n xs := h.turn hz fun k _ hk => hb.block k hk
theorem RowS.rowX (h : RowS sz f w B A n xs) (hp : ∀ k, k < B → p k) : RowX sz f w p A n xs :=
 ⟨h.1, fun hn => by obtain ⟨b, off, e, hb, hc⟩ := h.2 hn; exact ⟨b, off, e, hp b hb, hc⟩⟩
theorem RowX.nil (sz : Nat) (f : α → Nat → Value) (w : World) (p : Nat → Prop) (A : Option Addr) : RowX sz f w p A 0 [] := ⟨rfl, fun h => absurd h (by omega)⟩
theorem rowX_own {t : TypeId} {v : Value} (h : w.ownsRow B t sz v n (flat sz f xs)) (hz : 0 < sz) (hp : ∀ k, B ≤ k → p k) : ∃ A c, v = .slice A n c ∧ RowX sz f w p A n xs := by
 obtain ⟨A, c, rfl, hr⟩ := own_formS hz h
 refine ⟨A, c, rfl, hr.1, fun hn => ?_⟩
 obtain ⟨b, off, rfl, hb, hc⟩ := hr.2 hn
 exact ⟨b, off, rfl, hp b (own_ge h b rfl), hc⟩
end
def iC (x : Int) (_ : Nat) : Value := intV x
theorem flat_ints (xs : List Int) : flat 1 iC xs = xs.map intV := by
 induction xs with
 | nil => rfl
 | cons x r ih => have : flat 1 iC (x :: r) = (List.range 1).map (iC x) ++ flat 1 iC r := rfl; rw [this, ih]; rfl
theorem row1_S {w : World} {B : Nat} {A : Option Addr} {n : Nat} {xs : List Int} (h : RowS 1 iC w B A n xs) : Row1 intV w B A n xs :=
 ⟨h.1, fun hn => by obtain ⟨b, off, e, hb, hc⟩ := h.2 hn; exact ⟨b, off, e, hb, fun k x hx => by have := hc k x hx 0 (by omega); rw [Nat.mul_one, Nat.add_zero] at this; exact this⟩⟩
theorem rowS_1 {w : World} {B : Nat} {A : Option Addr} {n : Nat} {xs : List Int} (h : Row1 intV w B A n xs) : RowS 1 iC w B A n xs :=
 ⟨h.1, fun hn => by
  obtain ⟨b, off, e, hb, hc⟩ := h.2 hn
  refine ⟨b, off, e, hb, fun k x hx j hj => ?_⟩
  obtain rfl : j = 0 := by omega
  rw [Nat.mul_one, Nat.add_zero]; exact hc k x hx⟩
structure Lem where
 adr : Option Addr
 len : Nat
 cap : Nat
 chs : List (Int × Int)
def Lem.val (x : Lem) : Value := .slice x.adr x.len x.cap
def lemC (x : Lem) (_ : Nat) : Value := x.val
def Lem.At (w : World) (p : Nat → Prop) (x : Lem) : Prop := RowX 2 chC w p x.adr x.len x.chs ∧ x.len ≤ 100000
structure Prf where
 sa : Option Addr
 sn : Nat
 sc : Nat
 sts : List Int
 la : Option Addr
 ln : Nat
 lc : Nat
 lms : List Lem
def Prf.v1 (x : Prf) : Value := .slice x.sa x.sn x.sc
def Prf.v2 (x : Prf) : Value := .slice x.la x.ln x.lc
def Prf.val (x : Prf) : Value := .agg #[x.v1, x.v2]
def Prf.say (x : Prf) : List Int × List (List (Int × Int)) := (x.sts, x.lms.map Lem.chs)
def Prf.At (w : World) (p : Nat → Prop) (x : Prf) : Prop := RowX 1 iC w p x.sa x.sn x.sts ∧ RowX 1 lemC w p x.la x.ln x.lms ∧ (∀ m ∈ x.lms, m.At w p) ∧ x.sn ≤ 100000 ∧ x.ln ≤ 100000
section
variable {w X : World} {p q : Nat → Prop}
theorem Lem.At.turn {x : Lem} (h : x.At w p) (hs : ∀ k, p k → k < w.heap.size → X.heap[k]? = w.heap[k]?) : x.At X p := ⟨h.1.turn (by decide) hs, h.2⟩
theorem Lem.At.mono {x : Lem} (h : x.At w p) (hpq : ∀ k, p k → k < w.heap.size → q k) : x.At w q := ⟨h.1.mono (by decide) hpq, h.2⟩
theorem Lem.At.keep {x : Lem} (h : x.At w p) (hb : Below w.heap.size w X) : x.At X p := h.turn fun k _ hk => hb.block k hk
theorem Lem.At.rowS {x : Lem} (h : x.At w p) : RowS 2 chC w w.heap.size x.adr x.len x.chs := h.1.rowS (by decide)
theorem Prf.At.turn {x : Prf} (h : x.At w p) (hs : ∀ k, p k → k < w.heap.size → X.heap[k]? = w.heap[k]?) : x.At X p := ⟨h.1.turn (by decide) hs, h.2.1.turn (by decide) hs, fun m hm => (h.2.2.1 m hm).turn hs, h.2.2.2⟩
theorem Prf.At.mono {x : Prf} (h : x.At w p) (hpq : ∀ k, p k → k < w.heap.size → q k) : x.At w q := ⟨h.1.mono (by decide) hpq, h.2.1.mono (by decide) hpq, fun m hm => (h.2.2.1 m hm).mono hpq, h.2.2.2⟩
theorem Prf.At.keep {x : Prf} (h : x.At w p) (hb : Below w.heap.size w X) : x.At X p := h.turn fun k _ hk => hb.block k hk
theorem Prf.At.ints {x : Prf} (h : x.At w p) : Row1 intV w w.heap.size x.sa x.sn x.sts := row1_S (h.1.rowS (by decide))
theorem Prf.At.lems {x : Prf} (h : x.At w p) : RowS 1 lemC w w.heap.size x.la x.ln x.lms := h.2.1.rowS (by decide)
end
structure PEn where
 S : Nat
 v : Lem
structure REn where
 S : Nat
 v : Prf
def PEn.cell (x : PEn) (j : Nat) : Value := if j < 8 then sC x.S j else x.v.val
def REn.cell (x : REn) (j : Nat) : Value := if j < 8 then sC x.S j else if j = 8 then x.v.v1 else x.v.v2
def PEn.val (x : PEn) : Value := .agg #[.int .u64 (wd x.S 0), .int .u64 (wd x.S 1), .int .u64 (wd x.S 2), .int .u64 (wd x.S 3), .int .u64 (wd x.S 4), .int .u64 (wd x.S 5), .int .u64 (wd x.S 6), .int .u64 (wd x.S 7), .slice x.v.adr x.v.len x.v.cap]
def REn.val (x : REn) : Value := .agg #[.int .u64 (wd x.S 0), .int .u64 (wd x.S 1), .int .u64 (wd x.S 2), .int .u64 (wd x.S 3), .int .u64 (wd x.S 4), .int .u64 (wd x.S 5), .int .u64 (wd x.S 6), .int .u64 (wd x.S 7), .slice x.v.sa x.v.sn x.v.sc, .slice x.v.la x.v.ln x.v.lc]
structure StS where
 s : PrbS
 ds : List Dom
 r : Rul
 H : Nat
 pa : Option Addr
 pn : Nat
 pc : Nat
 pe : List PEn
 ra : Option Addr
 rn : Nat
 rc : Nat
 re : List REn
def StS.cells (x : StS) : List Value := [.slice x.s.ad x.s.nd x.s.cd, .slice x.s.rs.a0 x.s.rs.n0 x.s.rs.c0, .slice x.s.rs.a1 x.s.rs.n1 x.s.rs.c1, .slice x.s.rs.a2 x.s.rs.n2 x.s.rs.c2] ++ sL x.H ++ [.bool true, .slice x.pa x.pn x.pc, .slice x.ra x.rn x.rc]
def PEs (w : World) (p : Nat → Prop) (A : Option Addr) (n : Nat) (xs : List PEn) : Prop := RowX 9 PEn.cell w p A n xs ∧ ∀ e ∈ xs, e.v.At w p
def REs (w : World) (p : Nat → Prop) (A : Option Addr) (n : Nat) (xs : List REn) : Prop := RowX 10 REn.cell w p A n xs ∧ ∀ e ∈ xs, e.v.At w p
section
variable {w X : World} {p q : Nat → Prop} {A : Option Addr} {n : Nat}
theorem PEs.turn {xs : List PEn} (h : PEs w p A n xs) (hs : ∀ k, p k → k < w.heap.size → X.heap[k]? = w.heap[k]?) : PEs X p A n xs := ⟨h.1.turn (by decide) hs, fun m hm => (h.2 m hm).turn hs⟩
theorem PEs.mono {xs : List PEn} (h : PEs w p A n xs) (hpq : ∀ k, p k → k < w.heap.size → q k) : PEs w q A n xs := ⟨h.1.mono (by decide) hpq, fun m hm => (h.2 m hm).mono hpq⟩
theorem REs.turn {xs : List REn} (h : REs w p A n xs) (hs : ∀ k, p k → k < w.heap.size → X.heap[k]? = w.heap[k]?) : REs X p A n xs := ⟨h.1.turn (by decide) hs, fun m hm => (h.2 m hm).turn hs⟩
theorem REs.mono {xs : List REn} (h : REs w p A n xs) (hpq : ∀ k, p k → k < w.heap.size → q k) : REs w q A n xs := ⟨h.1.mono (by decide) hpq, fun m hm => (h.2 m hm).mono hpq⟩
theorem PEs.keep {xs : List PEn} (h : PEs w p A n xs) (hb : Below w.heap.size w X) : PEs X p A n xs := h.turn fun k _ hk => hb.block k hk
theorem REs.keep {xs : List REn} (h : REs w p A n xs) (hb : Below w.heap.size w X) : REs X p A n xs := h.turn fun k _ hk => hb.block k hk
end
structure StAt (w : World) (B : Nat) (p : Nat → Prop) (g : Nat) (x : StS) : Prop where
 blk : Blk w g 110 x.cells
 prb : PrbAt w B x.s x.ds x.r
 low : B ≤ g
 no : ¬ p g
 pes : PEs w p x.pa x.pn x.pe
 res : REs w p x.ra x.rn x.re
theorem PrbAt.below {w X : World} {B : Nat} {s : PrbS} {ds : List Dom} {r : Rul} (h : PrbAt w B s ds r) (hb : Below B w X) : PrbAt X B s ds r := ⟨h.1.below hb, h.2.below hb⟩
theorem PrbAt.up {w : World} {B D : Nat} {s : PrbS} {ds : List Dom} {r : Rul} (h : PrbAt w B s ds r) (hb : B ≤ D) : PrbAt w D s ds r := ⟨h.1.up hb, h.2.up hb⟩
theorem StAt.keep {w X : World} {B : Nat} {p : Nat → Prop} {g : Nat} {x : StS} (h : StAt w B p g x) (hb : Below w.heap.size w X) : StAt X B p g x :=
 ⟨h.blk.keep hb, h.prb.below (hb.mono (by have := h.blk.lt; have := h.low; omega)), h.low, h.no, h.pes.keep hb, h.res.keep hb⟩
structure StOk (x : StS) : Prop where
 val : validP x.ds x.r = true
 has : x.H = stS (x.ds.map Dom.st)
 pes : ∀ e ∈ x.pe, e.S = stS (e.v.chs.map Prod.fst) ∧ vlGo none e.v.chs = true
 res : ∀ e ∈ x.re, e.S = stS e.v.sts ∧ stOk e.v.sts = true
 pl : x.pe.length ≤ 1000
 rl : x.re.length ≤ 1000
end Go.Proofs.YtdpbbhbegehcjaaGreatDoor

namespace Go.Proofs.YtdpbbhbegehcjaaGreatDoor
open Go.RowKit Go.Shelf
def NewChs (xs : List (Int × Int)) (w : World) (e : Ending) (w' : World) : Prop := ∃ v, e = .returned v ∧ w'.ownsRow w.heap.size 91 2 v xs.length (flat 2 chC xs) ∧ Below w.heap.size w w'
theorem chC_one (a : Int × Int) (j : Nat) (_ : j < 2) : (chC a j).oneCell' = true := by unfold chC; split <;> rfl
theorem cloneC_any (A : Option Addr) (n c : Nat) (w : World) (xs : List (Int × Int)) (hn : n ≤ 100000) (hx : RowS 2 chC w w.heap.size A n xs) :
  Calls Tryz.prog 45 #[.slice A n c] w (NewChs xs w) := by
 obtain ⟨i0, hi, hz0, hz1, hz2⟩ := info_parts ch_info
 have Hlen := Eqn.mk hx.1
 have Hx := Lib.hid hx
 have heq := fun W => Lib.run_eql_slice_nil (P := Tryz.prog) W 41 91 A n c 0 0 Tryz.underlying41
 cases A with
 | none =>
  have hn0 : n = 0 := by
   rcases Nat.eq_zero_or_pos n with h | h
   ·exact h
   ·obtain ⟨_, _, h1, _⟩ := hx.2 h; cases h1
  have hxs : xs = [] := List.eq_nil_of_length_eq_zero (by have := hx.1; omega)
  subst hxs hn0
  clear hx
  go_enter Tryz.func45, Tryz.ntmps45
  go_wp2
  go_ret
  exact ⟨_, rfl, World.ownsRow_nil _ _ _ _, Below.refl _ _⟩
 | some ad =>
  clear hx
  go_enter Tryz.func45, Tryz.ntmps45
  go_wp2_with (at_builtin; refine wpList_append_rowR rfl _ _ 41 rfl (f := chC) (by decide) chC_one w.heap.size 91 i0 (.agg #[.int .i64 0, .int .i64 0]) 16 Tryz.underlying41 hi hz0 hz1 hz2 rfl _ 0 [] rfl (World.ownsRow_made w #[] 0 (Nat.le_refl _) (by unfold maxLen; omega) rfl) (some ad) n c xs w.heap.size rfl (Hx.out.below ((Below.refl _ w).alloc (Nat.le_refl _) _)) (by unfold maxLen; omega) (by omega) (by simp) ?_; intro v' w1 hown' hgrow hat)
  go_ret
  refine ⟨_, rfl, ?_, ((Below.refl _ _).alloc (Nat.le_refl _) _).grown hgrow (by simp) (fun g hg => by injection hg with hg; exact Nat.le_of_eq hg)⟩
  rw [Nat.zero_add, List.nil_append] at hown'
  rw [Hlen.out]
  exact hown'
section
variable {w : World}
theorem sub_call (T : Nat) (hT : Fit T) (S : Nat) (W : World) : Calls Tryz.prog 42 ((#[sV T] : Array Value).push (sV S) ++ #[]) W (RetPost (.bool (decide (mi T S = 0))) W.heap.size W) := subset_any T S hT W
end
theorem clo_Pack (b T S : Nat) (hS : Fit S) (W : World) (hb : Blk W b 100 (tabL 8 (sC T))) : Calls Tryz.prog 43 ((#[] : Array Value).push (sV S) ++ #[.pointer (some ⟨b, 0, none⟩)]) W (RetPost (.bool (decide (mi S T = 0))) W.heap.size W) := by
 have HS := Lib.hid (fun W' => subset_any S T hS W')
 unfold sV at *
 obtain ⟨W0, hW0⟩ : ∃ W0, W0 = W.alloc (.cells (sL S).toArray 100) := ⟨_, rfl⟩
 have hB0 : Below W.heap.size W W0 := by rw [hW0]; exact (Below.refl _ W).alloc (Nat.le_refl _) _
 have hX : Blk W0 W.heap.size 100 (tabL 8 (sC S)) := by rw [hW0, ← sL_tab]; exact blk_new W _ _
 obtain ⟨z0, z1, z2, z3, z4, z5, z6, z7⟩ := hX.eight
 have hb0 := hb.keep hB0
 obtain ⟨y0, y1, y2, y3, y4, y5, y6, y7⟩ := hb0.eight
 have zl := hX.lt
 have yl := hb0.lt
 have HB := Lib.hid hB0
 unfold sL at hW0
 clear hB0 hX hb hb0
 show Calls Tryz.prog 43 #[.agg #[.int .u64 (wd S 0), .int .u64 (wd S 1), .int .u64 (wd S 2), .int .u64 (wd S 3), .int .u64 (wd S 4), .int .u64 (wd S 5), .int .u64 (wd S 6), .int .u64 (wd S 7)], .pointer (some ⟨b, 0, none⟩)] W _
 go_enter Tryz.func43, Tryz.ntmps43
 go_upto_region 1 with fail
 rw [← hW0]
 clear hW0
 go_wp2_with fail
 refine (HS.out _).mono ?_
 rintro e W1 ⟨rfl, hb1⟩
 have HB1 := Lib.hid (HB.out.trans (hb1.mono HB.out.size))
 clear hb1 z0 z1 z2 z3 z4 z5 z6 z7 zl y0 y1 y2 y3 y4 y5 y6 y7 yl
 go_wp2_with fail
 go_ret
 exact ⟨rfl, HB1.out⟩
theorem clo_Refute (b T S : Nat) (hS : Fit S) (W : World) (hb : Blk W b 100 (tabL 8 (sC T))) : Calls Tryz.prog 48 ((#[] : Array Value).push (sV S) ++ #[.pointer (some ⟨b, 0, none⟩)]) W (RetPost (.bool (decide (mi S T = 0))) W.heap.size W) := by
 have HS := Lib.hid (fun W' => subset_any S T hS W')
 unfold sV at *
 obtain ⟨W0, hW0⟩ : ∃ W0, W0 = W.alloc (.cells (sL S).toArray 100) := ⟨_, rfl⟩
 have hB0 : Below W.heap.size W W0 := by rw [hW0]; exact (Below.refl _ W).alloc (Nat.le_refl _) _
 have hX : Blk W0 W.heap.size 100 (tabL 8 (sC S)) := by rw [hW0, ← sL_tab]; exact blk_new W _ _
 obtain ⟨z0, z1, z2, z3, z4, z5, z6, z7⟩ := hX.eight
 have hb0 := hb.keep hB0
 obtain ⟨y0, y1, y2, y3, y4, y5, y6, y7⟩ := hb0.eight
 have zl := hX.lt
 have yl := hb0.lt
 have HB := Lib.hid hB0
 unfold sL at hW0
 clear hB0 hX hb hb0
 show Calls Tryz.prog 48 #[.agg #[.int .u64 (wd S 0), .int .u64 (wd S 1), .int .u64 (wd S 2), .int .u64 (wd S 3), .int .u64 (wd S 4), .int .u64 (wd S 5), .int .u64 (wd S 6), .int .u64 (wd S 7)], .pointer (some ⟨b, 0, none⟩)] W _
 go_enter Tryz.func48, Tryz.ntmps48
 go_upto_region 1 with fail
 rw [← hW0]
 clear hW0
 go_wp2_with fail
 refine (HS.out _).mono ?_
 rintro e W1 ⟨rfl, hb1⟩
 have HB1 := Lib.hid (HB.out.trans (hb1.mono HB.out.size))
 clear hb1 z0 z1 z2 z3 z4 z5 z6 z7 zl y0 y1 y2 y3 y4 y5 y6 y7 yl
 go_wp2_with fail
 go_ret
 exact ⟨rfl, HB1.out⟩
theorem clo_Lookup (b T S : Nat) (hS : Fit S) (W : World) (hb : Blk W b 100 (tabL 8 (sC T))) : Calls Tryz.prog 52 ((#[] : Array Value).push (sV S) ++ #[.pointer (some ⟨b, 0, none⟩)]) W (RetPost (.bool (decide (mi S T = 0))) W.heap.size W) := by
 have HS := Lib.hid (fun W' => subset_any S T hS W')
 unfold sV at *
 obtain ⟨W0, hW0⟩ : ∃ W0, W0 = W.alloc (.cells (sL S).toArray 100) := ⟨_, rfl⟩
 have hB0 : Below W.heap.size W W0 := by rw [hW0]; exact (Below.refl _ W).alloc (Nat.le_refl _) _
 have hX : Blk W0 W.heap.size 100 (tabL 8 (sC S)) := by rw [hW0, ← sL_tab]; exact blk_new W _ _
 obtain ⟨z0, z1, z2, z3, z4, z5, z6, z7⟩ := hX.eight
 have hb0 := hb.keep hB0
 obtain ⟨y0, y1, y2, y3, y4, y5, y6, y7⟩ := hb0.eight
 have zl := hX.lt
 have yl := hb0.lt
 have HB := Lib.hid hB0
 unfold sL at hW0
 clear hB0 hX hb hb0
 show Calls Tryz.prog 52 #[.agg #[.int .u64 (wd S 0), .int .u64 (wd S 1), .int .u64 (wd S 2), .int .u64 (wd S 3), .int .u64 (wd S 4), .int .u64 (wd S 5), .int .u64 (wd S 6), .int .u64 (wd S 7)], .pointer (some ⟨b, 0, none⟩)] W _
 go_enter Tryz.func52, Tryz.ntmps52
 go_upto_region 1 with fail
 rw [← hW0]
 clear hW0
 go_wp2_with fail
 refine (HS.out _).mono ?_
 rintro e W1 ⟨rfl, hb1⟩
 have HB1 := Lib.hid (HB.out.trans (hb1.mono HB.out.size))
 clear hb1 z0 z1 z2 z3 z4 z5 z6 z7 zl y0 y1 y2 y3 y4 y5 y6 y7 yl
 go_wp2_with fail
 go_ret
 exact ⟨rfl, HB1.out⟩
theorem missing_any (g : Nat) (cs : List Value) (w : World) (hg : Blk w g 110 cs) (hc : cs[12]? = some (.bool true)) : Calls Tryz.prog 37 #[.pointer (some ⟨g, 0, none⟩)] w fun e w' => e = .returned (.bool false) ∧ w = w' := by
 have c0 : w.cell? ⟨g, 12, none⟩ = some (.bool true) := hg.cell hc
 clear hg hc
 go_enter Tryz.func37, Tryz.ntmps37
 go_wp2
 go_ret
 exact ⟨rfl, rfl⟩
theorem Hp.join {w u W V X : World} {L L' : List Ent} {ds : List Nat} (h : Hp w u W L ds) (hb : Below W.heap.size W X) (h' : Hp W V X L' []) : Hp w u X (L ++ L') ds := by
 have hk := h.keep hb
 refine ⟨hk.below, hk.since, ?_, ?_, ?_, hk.marks, hk.nodup⟩
 ·intro e he
  rcases List.mem_append.1 he with h1 | h1
  ·exact hk.all e h1
  ·exact Ent.mono (h'.all e h1) h.below.size
 ·intro e he g hg
  rcases List.mem_append.1 he with h1 | h1
  ·exact hk.low e h1 g hg
  ·exact Nat.le_trans h.below.size (h'.low e h1 g hg)
 ·refine List.pairwise_append.2 ⟨hk.apart, h'.apart, fun a ha b hb' g hga hgb => ?_⟩
  have := Ent.lt (h.all a ha) hga
  have := h'.low b hb' g hgb
  omega
def lemEnts (O : List Lem) : List Ent := O.map fun m => .row m.val 91 2 m.len (flat 2 chC m.chs)
def prfEnts (y : Prf) : List Ent := [.row y.v1 3 1 y.sn (y.sts.map intV), .row y.v2 41 1 y.ln (y.lms.map Lem.val)] ++ lemEnts y.lms
theorem lemEnts_snoc (O : List Lem) (m : Lem) : lemEnts (O ++ [m]) = lemEnts O ++ [.row m.val 91 2 m.len (flat 2 chC m.chs)] := by simp [lemEnts]
theorem flat_lems (O : List Lem) : flat 1 lemC O = O.map Lem.val := by
 induction O with
 | nil => rfl
 | cons x r ih => have : flat 1 lemC (x :: r) = (List.range 1).map (lemC x) ++ flat 1 lemC r := rfl; rw [this, ih]; rfl
theorem cs_info : (Tryz.prog.info? 41).map (fun i => (i.zero, i.size, i.bytes)) = some (some (.slice none 0 0), 1, 24) := by kernel_rfl
theorem prf_at {w u W : World} {y : Prf} {ds : List Nat} {p : Nat → Prop} (h : Hp w u W (prfEnts y) ds) (hp : ∀ k, w.heap.size ≤ k → p k) (hn : y.sn ≤ 100000 ∧ y.ln ≤ 100000 ∧ ∀ m ∈ y.lms, m.len ≤ 100000) : y.At W p := by
 have r1 : W.ownsRow w.heap.size 3 1 y.v1 y.sn (flat 1 iC y.sts) := by rw [flat_ints]; exact h.row 0 rfl
 have r2 : W.ownsRow w.heap.size 41 1 y.v2 y.ln (flat 1 lemC y.lms) := by rw [flat_lems]; exact h.row 1 rfl
 obtain ⟨A, c, e1, q1⟩ := rowX_own r1 (by decide) hp
 obtain ⟨A2, c2, e2, q2⟩ := rowX_own r2 (by decide) hp
 injection e1 with e1
 injection e2 with e2
 subst e1 e2
 refine ⟨q1, q2, fun m hm => ?_, hn.1, hn.2.1⟩
 have hrow : W.ownsRow w.heap.size 91 2 m.val m.len (flat 2 chC m.chs) := h.all (.row m.val 91 2 m.len (flat 2 chC m.chs)) (List.mem_append_right _ (List.mem_map.2 ⟨m, hm, rfl⟩))
 obtain ⟨A3, c3, e3, q3⟩ := rowX_own hrow (by decide) hp
 injection e3 with e3
 subst e3
 exact ⟨q3, hn.2.2 m hm⟩
def CopyPost (x : Prf) (w : World) (e : Ending) (w' : World) : Prop := ∃ y : Prf, e = .returned y.val ∧ y.say = x.say ∧ (y.sn = x.sn ∧ y.ln = x.ln ∧ ∀ m ∈ y.lms, m.len ≤ 100000) ∧ Hp w w w' (prfEnts y) []
theorem copyProof_any (x : Prf) (w : World) (hx : x.At w (fun _ => True)) (hsn : x.sn ≤ 1000) : Calls Tryz.prog 50 #[x.val] w (CopyPost x w) := by
 obtain ⟨i0, hi, hz0, hz1, hz2⟩ := info_parts cs_info
 obtain ⟨p1, hp1⟩ : ∃ p, p = w.heap.size := ⟨_, rfl⟩
 obtain ⟨p2, hp2⟩ : ∃ p, p = w.heap.size + 1 := ⟨_, rfl⟩
 obtain ⟨V0, hV0⟩ : ∃ V0, V0 = (w.alloc (.cells #[.slice x.sa x.sn x.sc, .slice x.la x.ln x.lc] 44)).alloc (.cells #[.slice none 0 0, .slice none 0 0] 44) := ⟨_, rfl⟩
 have hP0 : Hp w w V0 [.blk p1 44 [.slice x.sa x.sn x.sc, .slice x.la x.ln x.lc], .blk p2 44 [.slice none 0 0, .slice none 0 0]] [] := by
  have h := ((Hp.start w).alloc [.slice x.sa x.sn x.sc, .slice x.la x.ln x.lc] 44).alloc [.slice none 0 0, .slice none 0 0] 44
  simp only [World.size_alloc] at h
  rw [hV0, hp1, hp2]; exact h
 have HP0 := Lib.hid hP0
 have HX := Lib.hid hx
 have HCN := Lib.hid (clone_any x.sa x.sn x.sc V0 x.sts hsn ((hx.keep hP0.below).ints))
 unfold Prf.val Prf.v1 Prf.v2
 obtain ⟨sa, sn, sc, sts, la, ln, lc, lms⟩ := x
 dsimp only at *
 have hln : ln ≤ 100000 := hx.2.2.2.2
 have Hlen : Eqn lms.length ln := hx.2.1.1
 have HSL : Hid (sts.length = sn) := Lib.hid hx.1.1
 have x0 := hP0.c 0 0 rfl rfl
 have xl := hP0.lt 0 rfl
 clear hP0 hx
 go_enter Tryz.func50, Tryz.ntmps50
 go_upto_region 1 with fail
 rw [← hV0, ← hp2, ← hp1]
 clear hV0 hp2 hp1
 go_wp2_with fail
 refine HCN.out.mono ?_
 rintro e W1 ⟨vs, rfl, hown, hb1⟩
 have hP1 := HP0.out.pushRow hb1 hown
 obtain ⟨vA, vc, rfl⟩ := hP1.form 2 rfl
 obtain ⟨p3, hp3⟩ : ∃ p, p = W1.heap.size := ⟨_, rfl⟩
 obtain ⟨V2, hV2⟩ : ∃ V, V = W1.alloc (.cells #[.slice vA sts.length vc, .slice none 0 0] 44) := ⟨_, rfl⟩
 have hP2 := (hP1.alloc [.slice vA sts.length vc, .slice none 0 0] 44).nil 41 1
 rw [show ([.slice vA sts.length vc, .slice none 0 0] : List Value).toArray = #[.slice vA sts.length vc, .slice none 0 0] from rfl, ← hV2, ← hp3] at hP2
 have HP2 := Lib.hid hP2
 have m0 := hP2.c 0 1 rfl rfl
 have ml := hP2.lt 0 rfl
 clear hP1 hown hb1 x0 xl HP0 HCN hP2
 go_upto_region 2 with fail
 rw [← hV2, ← hp3]
 clear hV2 hp3
 go_wp2_with fail
 clear m0 ml
 go_loopw [13] (fun i wr => ∃ (k : Nat) (O : List Lem) (v : Value), k ≤ ln ∧ i = .int .i64 k ∧ O.map Lem.chs = (lms.take k).map Lem.chs ∧ (∀ m ∈ O, m.len ≤ 100000) ∧
  Hp w w wr ([.blk p1 44 [.slice sa sn sc, .slice la ln lc], .blk p2 44 [.slice none 0 0, .slice none 0 0], .row (.slice vA sts.length vc) 3 1 sts.length (sts.map intV), .blk p3 44 [.slice vA sts.length vc, v], .row v 41 1 O.length (O.map Lem.val)] ++ lemEnts O) []) (fun i _ => ln - (intOf i).toNat)
 case atStart => exact ⟨0, [], _, Nat.zero_le _, rfl, rfl, fun _ h => (by cases h), HP2.out⟩
 case round =>
  clear HP2
  obtain ⟨k, O, v, hk, rfl, hO, hOm, hP⟩ := hrel
  have HP := Lib.hid hP
  have HO := Eqn.mk hO
  have HOM := Lib.hid hOm
  have hOl : O.length = k := by have := congrArg List.length hO; simp only [List.length_map, List.length_take] at this; have h2 : lms.length = ln := Hlen; omega
  obtain ⟨A1, c1, rfl⟩ := hP.form 4 rfl
  by_cases hlt : k < ln
  ·have j0 : (k : Int) < (ln : Int) := by omega
   obtain ⟨m, hm⟩ : ∃ m, lms[k]? = some m := ⟨_, List.getElem?_eq_getElem (by have h2 : lms.length = ln := Hlen; omega)⟩
   have hmm := List.mem_of_getElem? hm
   have hXk := HX.out.keep hP.below
   obtain ⟨b, off, rfl, hbn, hcell⟩ := hXk.lems.2 (by dsimp only; omega)
   have y0 : wr.cell? ⟨b, off + k, none⟩ = some (.slice m.adr m.len m.cap) := by have := hcell k m hm 0 (by decide); rwa [Nat.mul_one, Nat.add_zero] at this
   have hmA := hXk.2.2.1 m hmm
   have HCM := Lib.hid (fun (W : World) (hb : Below wr.heap.size wr W) => cloneC_any m.adr m.len m.cap W m.chs hmA.2 ((hmA.keep hb).rowS))
   have HML : Hid (m.chs.length = m.len ∧ m.len ≤ 100000) := Lib.hid ⟨hmA.1.1, hmA.2⟩
   have q0 := hP.c 3 1 rfl rfl
   have q1 := hP.lt 3 rfl
   have HTK : Hid ((lms.take (k + 1)).map Lem.chs = O.map Lem.chs ++ [m.chs]) := Lib.hid (by rw [List.take_add_one, hm, List.map_append, hO]; rfl)
   have HPD := Lib.hid hP.drew
   have hOl2 : O.length ≤ 100000 := by omega
   have HOL := Eqn.mk hOl
   clear hP hO hOm hm hmm hXk hcell hmA hbn hOl
   go_wp2_with fail
   refine Lx.regionT (C := fun X => X.cell? ⟨p3, 1, none⟩ = some (.slice A1 O.length c1)) (C' := fun _ => True) (hs := [1]) 7 (List.take 7 _) (List.drop 7 _) (List.take_append_drop 7 _).symm rfl (by kernel_rfl) (by kernel_rfl) (by kernel_rfl) q0 ?_
   simp only [List.take_succ_cons, List.take_zero, List.drop_succ_cons, List.drop_zero]
   repeat' (first | ((first | refine Lx.ln (fun K hK => ?_) | (first | (refine Lx.lp (v := ?_) ?_ (fun K hK => ?_); rotate_left 1; intro w' hCw; try dsimp only at hCw) | (refine Lx.lr (v := ?_) ?_ (fun K hK => ?_); rotate_left 1)); go_simp; first | done | with_reducible rfl); go_simp; refine hK _ ?_; clear hK K) | (refine Lx.le (fun K hK => ?_); go_simp; (first | (go_at_call 45; refine (HCM.out _ (Below.refl _ _).drew).mono ?_; rintro e W6 ⟨v6, rfl, hown6, hb6⟩; have HP6 := Lib.hid (HPD.out.pushRow hb6 hown6); have HZ : Hid (W6.cell? ⟨p3, 1, none⟩ = some (.slice A1 O.length c1) ∧ ∀ o, (W6.alloc o).cell? ⟨p3, 1, none⟩ = some (.slice A1 O.length c1)) := Lib.hid ⟨HP6.out.c 3 1 rfl rfl, fun o => (HP6.out.alloc0 o).c 3 1 rfl rfl⟩; obtain ⟨A6, c6, rfl, _⟩ := own_formS (by decide) hown6; clear hown6 hb6) | skip); refine hK _ _ (by first | exact HZ.out.1 | exact HZ.out.2 _) ?_; clear hK K))
   refine Lx.lex_append rfl rfl _ _ 42 rfl w.heap.size 41 i0 (.slice none 0 0) 1 24 Tryz.underlying42 hi hz0 hz1 hz2 rfl (by decide) _ _ _ rfl (by exact (HP6.out.alloc0 _).row 4 rfl) ⟨W6.heap.size, 0, none⟩ 1 1 [.slice A6 m.chs.length c6] rfl rfl (by exact cells_newR W6 _ _) (by simp [Value.oneCell']) (by unfold maxLen; omega) (by omega) (by have := HP6.out.below.size; simp; omega) ?_
   intro v' w3 hown' hgrow hor
   have hP7 := (HP6.out.alloc0 (.cells #[.slice A6 m.chs.length c6] 41)).grow 4 rfl hgrow hown' hor
   have HP7 := Lib.hid hP7
   obtain ⟨A7, c7, rfl⟩ := hP7.form 4 rfl
   have q2 := hP7.c 3 1 rfl rfl
   have q3 := hP7.f 3 rfl
   have q4 := hP7.lt 3 rfl
   refine ⟨q2, ?_⟩
   clear hown' hgrow hor q0 q1 hP7
   repeat' (first | ((first | refine Lx.ln (fun K hK => ?_) | (first | (refine Lx.lp (v := ?_) ?_ (fun K hK => ?_); rotate_left 1; intro w' hCw; try dsimp only at hCw) | (refine Lx.lr (v := ?_) ?_ (fun K hK => ?_); rotate_left 1)); go_simp; first | done | with_reducible rfl); go_simp; refine hK _ ?_; clear hK K) | (refine Lx.le (fun K hK => ?_); go_simp; (first | fail); refine hK _ _ (q2) ?_; clear hK K))
   all_goals (refine Lx.lex_nil ?_)
   refine ⟨trivial, ?_⟩
   repeat' (first | ((first | refine Lx.ln (fun K hK => ?_) | (first | (refine Lx.lp (v := ?_) ?_ (fun K hK => ?_); rotate_left 1; intro w' hCw; try dsimp only at hCw) | (refine Lx.lr (v := ?_) ?_ (fun K hK => ?_); rotate_left 1)); go_simp; first | done | with_reducible rfl); go_simp; refine hK _ ?_; clear hK K) | (refine Lx.le (fun K hK => ?_); go_simp; (first | skip); refine hK _ _ (trivial) ?_; clear hK K))
   all_goals (refine Lx.lex_nil ?_)
   clear q2 q3 q4
   go_wp2_with fail
   go_roundw
   case rel =>
    refine ⟨k + 1, O ++ [⟨A6, m.chs.length, c6, m.chs⟩], .slice A7 (O.length + 1) c7, hlt, by go_num, by rw [HTK.out, List.map_append]; rfl, fun z hz => ?_, ?_⟩
    ·rcases List.mem_append.1 hz with hz | hz
     ·exact HOM.out z hz
     ·rw [List.mem_singleton] at hz; subst hz; have := HML.out; dsimp only; omega
    ·rw [lemEnts_snoc, List.length_append, List.map_append, ← List.append_assoc]
     exact HP7.out.set 3 1 _ rfl
   case measure => simp [intOf]; omega
  ·obtain rfl : k = ln := by omega
   have q0 := hP.c 3 0 rfl rfl
   have q1 := hP.c 3 1 rfl rfl
   have q2 := hP.lt 3 rfl
   have r0 := hP.c 1 0 rfl rfl
   have r1 := hP.c 1 1 rfl rfl
   have r2 := hP.f 1 rfl
   have r3 := hP.lt 1 rfl
   have hall : O.map Lem.chs = lms.map Lem.chs := by rw [hO, List.take_of_length_le (by have h2 : lms.length = k := Hlen; omega)]
   have HALL := Eqn.mk hall
   have HOL := Eqn.mk hOl
   clear hP hO hOm hall hOl
   go_wp2_with fail
   have hP9 := (HP.out.set 1 0 (.slice vA sts.length vc) rfl).set 1 1 (.slice A1 O.length c1) rfl
   refine bodyPost_ret (v := .agg #[.slice vA sts.length vc, .slice A1 O.length c1]) (by simp [results, Tryz.results50, go_sem, hP9.c 1 0 rfl rfl, hP9.c 1 1 rfl rfl]) rfl ⟨⟨vA, sts.length, vc, sts, A1, O.length, c1, O⟩, rfl, by unfold Prf.say; dsimp only; rw [HALL.out], ⟨HSL.out, HOL.out, HOM.out⟩, ?_⟩
   exact hP9.sub (List.Sublist.cons _ (List.Sublist.cons _ (List.Sublist.cons_cons _ (List.Sublist.cons _ (List.Sublist.refl _)))))
def stnF (H : Nat) (L : List Int) : Nat × Int := if stOk L = true then if mi (stS L) H = 0 then (stS L, 0) else (0, 9) else (0, 2)
theorem stn_any (g H : Nat) (cs : List Value) (A : Option Addr) (n c : Nat) (w : World) (L : List Int) (hg : Blk w g 110 cs) (hc : ∀ j, j < 8 → cs[4 + j]? = some (sC H j)) (hn : n ≤ 100000) (hl : Row1 intV w w.heap.size A n L) :
  Calls Tryz.prog 39 #[.pointer (some ⟨g, 0, none⟩), .slice A n c] w (RetPost (.tuple #[sV (stnF H L).1, .int .i64 (stnF H L).2]) w.heap.size w) := by
 obtain ⟨p4, hp4⟩ : ∃ p, p = w.heap.size := ⟨_, rfl⟩
 obtain ⟨V0, hV0⟩ : ∃ V0, V0 = w.alloc (.cells #[.int .u64 0, .int .u64 0, .int .u64 0, .int .u64 0, .int .u64 0, .int .u64 0, .int .u64 0, .int .u64 0] 100) := ⟨_, rfl⟩
 have hP0 : Hp w w V0 [.blk p4 100 (tabL 8 (sC 0))] [] := by
  have h := (Hp.start w).alloc [.int .u64 0, .int .u64 0, .int .u64 0, .int .u64 0, .int .u64 0, .int .u64 0, .int .u64 0, .int .u64 0] 100
  rw [hV0, hp4]; rw [← sL_zero] at h ⊢; exact (Hp.start w).allocS 0 100
 have HON := Lib.hid (only_any none 0 0 A n c V0 [] L (by omega) (by omega) (RowS.nil _ _ _ _ _) (hl.keep hP0.below))
 have HF : Eqn (stnF H L) (if stOk L = true then if mi (stS L) H = 0 then (stS L, 0) else (0, 9) else (0, 2)) := rfl
 have HOF : Hid (stOk L = true → ∀ W, Below w.heap.size w W → Calls Tryz.prog 36 #[.slice A n c] W (RetPost (.tuple #[sV (stS L), .int .i64 0]) W.heap.size W)) := Lib.hid (fun h W hb => by
  have := of_any A n c W L (by omega) (hl.keep hb)
  rwa [ofF_in (stOk_in h)] at this)
 have HFT : Hid (stOk L = true → Fit (stS L)) := Lib.hid (fun h => stS_fit (stOk_in h))
 have HP0 := Lib.hid hP0
 have HG := Lib.hid hg
 have HC := Lib.hid hc
 have hr : onlyF [] L = ([], if stOk L = true then 0 else 2) := by unfold onlyF; simp [vlGo]; split <;> rfl
 rw [hr] at HON
 generalize stnF H L = r at *
 generalize stS L = T at *
 clear hP0 hg hc hl hr
 cases hs : stOk L with
 | false =>
  rw [hs] at HON HF
  have HR : Hid (r = (0, 2)) := Lib.hid HF
  clear HF hs HOF HFT
  go_enter Tryz.func39, Tryz.ntmps39
  go_upto_region 1 with fail
  rw [← hV0, ← hp4]
  clear hV0 hp4
  go_wp2_with fail
  refine HON.out.mono ?_
  rintro e W1 ⟨v, rfl, hown, hb1⟩
  have hP1 := HP0.out.keep hb1
  have HP1 := Lib.hid hP1
  obtain ⟨c0_0, c0_1, c0_2, c0_3, c0_4, c0_5, c0_6, c0_7⟩ := (hP1.blk 0 rfl).eight; have f0 := hP1.f 0 rfl; have l0 := hP1.lt 0 rfl
  clear hown hb1 hP1
  go_wp2_with fail
  have hP2 := HP1.out.set8 0 0 rfl
  rw [set8_zero] at hP2
  change bodyPost _ _ _ _ _ (zero8 W1 p4)
  generalize zero8 W1 p4 = W2 at *
  obtain ⟨x0, x1, x2, x3, x4, x5, x6, x7⟩ := (hP2.blk 0 rfl).eight
  refine bodyPost_ret (v := .tuple #[sV 0, .int .i64 2]) (by simp [results, Tryz.results39, go_sem, sV, x0, x1, x2, x3, x4, x5, x6, x7]) rfl ⟨by rw [HR.out], hP2.below⟩
 | true =>
  rw [hs] at HON HF
  have HOF2 := Lib.hid (HOF.out hs)
  have hft := HFT.out hs
  have HSB := Lib.hid (fun W => subset_any T H hft W)
  have HF2 : Hid (r = if mi T H = 0 then (T, 0) else (0, 9)) := Lib.hid HF
  unfold sV at HSB
  clear HF hs HOF HFT hft
  go_enter Tryz.func39, Tryz.ntmps39
  go_upto_region 1 with fail
  rw [← hV0, ← hp4]
  clear hV0 hp4
  go_wp2_with fail
  refine HON.out.mono ?_
  rintro e W1 ⟨v, rfl, hown, hb1⟩
  have HP1 := Lib.hid (HP0.out.keep hb1)
  have HO1 := Lib.hid (HOF2.out W1 HP1.out.below)
  unfold sV at HO1
  clear hown hb1 HP0 HON HOF2
  go_wp2_with fail
  refine HO1.out.mono ?_
  rintro e W2 ⟨rfl, hb2⟩
  obtain ⟨p8, hp8⟩ : ∃ p, p = W2.heap.size := ⟨_, rfl⟩
  obtain ⟨V3, hV3⟩ : ∃ V, V = W2.alloc (.cells (sL T).toArray 100) := ⟨_, rfl⟩
  have hP3 := (HP1.out.keep hb2).allocS T 100
  rw [← hV3, ← hp8] at hP3
  have HP3 := Lib.hid hP3
  unfold sL at hV3
  clear hb2 HP1 HO1
  go_upto_region 5 with fail
  rw [← hV3, ← hp8]
  clear hV3 hp8
  have hG3 := HG.out.keepB hP3.below HG.out.lt
  have hgl := hG3.lt
  obtain ⟨c0_0, c0_1, c0_2, c0_3, c0_4, c0_5, c0_6, c0_7⟩ := (hP3.blk 0 rfl).eight; have f0 := hP3.f 0 rfl; have l0 := hP3.lt 0 rfl; obtain ⟨c1_0, c1_1, c1_2, c1_3, c1_4, c1_5, c1_6, c1_7⟩ := (hP3.blk 1 rfl).eight; have f1 := hP3.f 1 rfl; have l1 := hP3.lt 1 rfl
  have h0 : V3.cell? ⟨g, 4, none⟩ = some (.int .u64 (wd H 0)) := hG3.cell (HC.out 0 (by decide))
  have h1 : V3.cell? ⟨g, 4 + 1, none⟩ = some (.int .u64 (wd H 1)) := hG3.cell (HC.out 1 (by decide))
  have h2 : V3.cell? ⟨g, 4 + 2, none⟩ = some (.int .u64 (wd H 2)) := hG3.cell (HC.out 2 (by decide))
  have h3 : V3.cell? ⟨g, 4 + 3, none⟩ = some (.int .u64 (wd H 3)) := hG3.cell (HC.out 3 (by decide))
  have h4 : V3.cell? ⟨g, 4 + 4, none⟩ = some (.int .u64 (wd H 4)) := hG3.cell (HC.out 4 (by decide))
  have h5 : V3.cell? ⟨g, 4 + 5, none⟩ = some (.int .u64 (wd H 5)) := hG3.cell (HC.out 5 (by decide))
  have h6 : V3.cell? ⟨g, 4 + 6, none⟩ = some (.int .u64 (wd H 6)) := hG3.cell (HC.out 6 (by decide))
  have h7 : V3.cell? ⟨g, 4 + 7, none⟩ = some (.int .u64 (wd H 7)) := hG3.cell (HC.out 7 (by decide))
  have HPD := Lib.hid hP3.drew
  clear hP3 hG3
  by_cases hm : mi T H = 0
  ·have HR : Hid (r = (T, 0)) := Lib.hid (by rw [HF2.out, if_pos hm])
   rw [decide_eq_true hm] at HSB
   clear hm HF2
   go_wp2_with fail
   refine Lx.region (C := fun _ => True) (hs := []) (by kernel_rfl) (by kernel_rfl) trivial ?_
   repeat' (first | ((first | refine Lx.ln (fun K hK => ?_) | (first | (refine Lx.lp (v := ?_) ?_ (fun K hK => ?_); rotate_left 1; intro w' hCw; try dsimp only at hCw) | (refine Lx.lr (v := ?_) ?_ (fun K hK => ?_); rotate_left 1)); go_simp; first | done | with_reducible rfl); go_simp; refine hK _ ?_; clear hK K) | (refine Lx.le (fun K hK => ?_); go_simp; (first | (go_at_call 42; refine (HSB.out _).mono ?_; rintro e w5 ⟨rfl, hb5⟩; have HP5 := Lib.hid (HPD.out.keep hb5); clear hb5) | skip); refine hK _ _ (trivial) ?_; clear hK K) | (refine Lx.lex_cases rfl rfl rfl (fun hgd K hK => ?_) (fun hgd K hK => ?_) <;> (try simp only [decide_eq_true_eq, decide_eq_false_iff_not] at hgd) <;> (first | (exfalso; omega) | (go_simp; refine hK _ ?_; clear hK K))))
   all_goals (refine Lx.lex_nil ?_)
   have hP5 := HP5.out
   clear h0 h1 h2 h3 h4 h5 h6 h7 hgl HP3 HPD c0_0 c0_1 c0_2 c0_3 c0_4 c0_5 c0_6 c0_7 f0 l0 c1_0 c1_1 c1_2 c1_3 c1_4 c1_5 c1_6 c1_7 f1 l1
   obtain ⟨c0_0, c0_1, c0_2, c0_3, c0_4, c0_5, c0_6, c0_7⟩ := (hP5.blk 0 rfl).eight; have f0 := hP5.f 0 rfl; have l0 := hP5.lt 0 rfl; obtain ⟨c1_0, c1_1, c1_2, c1_3, c1_4, c1_5, c1_6, c1_7⟩ := (hP5.blk 1 rfl).eight; have f1 := hP5.f 1 rfl; have l1 := hP5.lt 1 rfl
   clear hP5
   go_wp2_with fail
   have hP6 := HP5.out.set8 0 T rfl
   change bodyPost _ _ _ _ _ (set8 w5 p4 T)
   generalize set8 w5 p4 T = W6 at *
   obtain ⟨x0, x1, x2, x3, x4, x5, x6, x7⟩ := (hP6.blk 0 rfl).eight
   refine bodyPost_ret (v := .tuple #[sV T, .int .i64 0]) (by simp [results, Tryz.results39, go_sem, sV, x0, x1, x2, x3, x4, x5, x6, x7]) rfl ⟨by rw [HR.out], hP6.below⟩
  ·have HR : Hid (r = (0, 9)) := Lib.hid (by rw [HF2.out, if_neg hm])
   rw [decide_eq_false hm] at HSB
   clear hm HF2
   go_wp2_with fail
   refine Lx.region (C := fun _ => True) (hs := []) (by kernel_rfl) (by kernel_rfl) trivial ?_
   repeat' (first | ((first | refine Lx.ln (fun K hK => ?_) | (first | (refine Lx.lp (v := ?_) ?_ (fun K hK => ?_); rotate_left 1; intro w' hCw; try dsimp only at hCw) | (refine Lx.lr (v := ?_) ?_ (fun K hK => ?_); rotate_left 1)); go_simp; first | done | with_reducible rfl); go_simp; refine hK _ ?_; clear hK K) | (refine Lx.le (fun K hK => ?_); go_simp; (first | (go_at_call 42; refine (HSB.out _).mono ?_; rintro e w5 ⟨rfl, hb5⟩; have HP5 := Lib.hid (HPD.out.keep hb5); clear hb5) | skip); refine hK _ _ (trivial) ?_; clear hK K) | (refine Lx.lex_cases rfl rfl rfl (fun hgd K hK => ?_) (fun hgd K hK => ?_) <;> (try simp only [decide_eq_true_eq, decide_eq_false_iff_not] at hgd) <;> (first | (exfalso; omega) | (go_simp; refine hK _ ?_; clear hK K))))
   all_goals (refine Lx.lex_nil ?_)
   have hP5 := HP5.out
   clear h0 h1 h2 h3 h4 h5 h6 h7 hgl HP3 HPD c0_0 c0_1 c0_2 c0_3 c0_4 c0_5 c0_6 c0_7 f0 l0 c1_0 c1_1 c1_2 c1_3 c1_4 c1_5 c1_6 c1_7 f1 l1
   obtain ⟨c0_0, c0_1, c0_2, c0_3, c0_4, c0_5, c0_6, c0_7⟩ := (hP5.blk 0 rfl).eight; have f0 := hP5.f 0 rfl; have l0 := hP5.lt 0 rfl; obtain ⟨c1_0, c1_1, c1_2, c1_3, c1_4, c1_5, c1_6, c1_7⟩ := (hP5.blk 1 rfl).eight; have f1 := hP5.f 1 rfl; have l1 := hP5.lt 1 rfl
   clear hP5
   go_wp2_with fail
   have hP6 := HP5.out.set8 0 0 rfl
   rw [set8_zero] at hP6
   change bodyPost _ _ _ _ _ (zero8 w5 p4)
   generalize zero8 w5 p4 = W6 at *
   obtain ⟨x0, x1, x2, x3, x4, x5, x6, x7⟩ := (hP6.blk 0 rfl).eight
   refine bodyPost_ret (v := .tuple #[sV 0, .int .i64 9]) (by simp [results, Tryz.results39, go_sem, sV, x0, x1, x2, x3, x4, x5, x6, x7]) rfl ⟨by rw [HR.out], hP6.below⟩
end Go.Proofs.YtdpbbhbegehcjaaGreatDoor

namespace Go.Proofs.YtdpbbhbegehcjaaGreatDoor
open Go.RowKit
theorem stF_iff (n : Int) : stF n = true ↔ 0 ≤ n ∧ n < 512 := by unfold stF; rw [Bool.and_eq_true, decide_eq_true_eq, decide_eq_true_eq]; omega
theorem betwF_iff (n lo hi : Int) : betwF n lo hi = true ↔ lo ≤ n ∧ n ≤ hi := by unfold betwF; rw [Bool.and_eq_true, decide_eq_true_eq, decide_eq_true_eq]
theorem vl_facts : ∀ (l : List (Int × Int)) (prev : Option Int), vlGo prev l = true → (∀ x ∈ l, (0 ≤ x.1 ∧ x.1 < 512) ∧ (2 ≤ x.2 ∧ x.2 ≤ 51) ∧ ∀ q, prev = some q → q < x.1) ∧ l.Pairwise (fun x y => x.1 < y.1) := by
 intro l
 induction l with
 | nil => intro _ _; exact ⟨fun _ h => (by cases h), List.Pairwise.nil⟩
 | cons x r ih =>
  intro prev h
  rw [vlGo_cons] at h
  split at h
  ·rename_i hc
   rw [Bool.and_eq_true, Bool.and_eq_true, stF_iff, betwF_iff] at hc
   obtain ⟨h1, h2⟩ := ih _ h
   have hq : ∀ q, prev = some q → q < x.1 := by
    intro q e
    subst e
    have := hc.2
    unfold notUp at this
    simp at this
    exact this
   refine ⟨fun y hy => ?_, List.pairwise_cons.2 ⟨fun y hy => (h1 y hy).2.2 x.1 rfl, h2⟩⟩
   rcases List.mem_cons.1 hy with rfl | hy
   ·exact ⟨hc.1.1, hc.1.2, hq⟩
   ·have h3 := h1 y hy
    exact ⟨h3.1, h3.2.1, fun q e => by have := hq q e; have := h3.2.2 x.1 rfl; omega⟩
  ·cases h
def arrF (l : List (Int × Int)) : List Int := l.foldl (fun O x => O.set x.1.toNat x.2) (List.replicate 512 0)
theorem arrF_take {l : List (Int × Int)} {k : Nat} {x : Int × Int} (h : l[k]? = some x) : arrF (l.take (k + 1)) = (arrF (l.take k)).set x.1.toNat x.2 := by unfold arrF; rw [List.take_add_one, h, List.foldl_append]; rfl
theorem arrF_len (l : List (Int × Int)) : (arrF l).length = 512 := by
 have : ∀ (l : List (Int × Int)) (X : List Int), (l.foldl (fun O x => O.set x.1.toNat x.2) X).length = X.length := by
  intro l
  induction l with
  | nil => intro X; rfl
  | cons x r ih => intro X; rw [List.foldl_cons, ih, List.length_set]
 unfold arrF; rw [this, List.length_replicate]
theorem arr_on {l : List (Int × Int)} (hv : vlGo none l = true) (n : Nat) (hn : n < 512) : (arrF l).getD n 0 = onF l (n : Int) := by
 obtain ⟨h1, h2⟩ := vl_facts l none hv
 have key : ∀ (r : List (Int × Int)) (X : List Int), X.length = 512 → (∀ x ∈ r, 0 ≤ x.1 ∧ x.1 < 512) → r.Pairwise (fun x y => x.1 < y.1) → (r.foldl (fun O x => O.set x.1.toNat x.2) X).getD n 0 = if ∃ x ∈ r, x.1 = (n : Int) then onF r (n : Int) else X.getD n 0 := by
  intro r
  induction r with
  | nil => intro X _ _ _; simp
  | cons x r ih =>
   intro X hX hr hp
   obtain ⟨hp1, hp2⟩ := List.pairwise_cons.1 hp
   rw [List.foldl_cons, ih (X.set x.1.toNat x.2) (by rw [List.length_set]; exact hX) (fun y hy => hr y (by simp [hy])) hp2, onF]
   have hx := hr x (by simp)
   by_cases hxn : x.1 = (n : Int)
   ·have hno : ¬ ∃ y ∈ r, y.1 = (n : Int) := by
     rintro ⟨y, hy, e⟩
     have := hp1 y hy; omega
    have e : x.1.toNat = n := by omega
    rw [if_neg hno, if_pos ⟨x, by simp, hxn⟩, if_pos hxn, List.getD_eq_getElem?_getD, List.getElem?_set, e, if_pos rfl, if_pos (by omega)]; rfl
   ·rw [if_neg hxn]
    have e : ¬ x.1.toNat = n := by omega
    by_cases hy : ∃ y ∈ r, y.1 = (n : Int)
    ·rw [if_pos hy, if_pos (by obtain ⟨y, hy1, hy2⟩ := hy; exact ⟨y, by simp [hy1], hy2⟩)]
    ·rw [if_neg hy, if_neg (by
      rintro ⟨y, hy1, hy2⟩
      rcases List.mem_cons.1 hy1 with rfl | h
      ·exact hxn hy2
      ·exact hy ⟨y, h, hy2⟩), List.getD_eq_getElem?_getD, List.getElem?_set, if_neg e, ← List.getD_eq_getElem?_getD]
 unfold arrF
 rw [key l _ (List.length_replicate ..) (fun x hx => (h1 x hx).1) h2]
 split
 ·rfl
 ·rename_i hne
  have h0 : onF l (n : Int) = 0 := by
   clear hv h1 h2 key
   induction l with
   | nil => rfl
   | cons x r ih =>
    rw [onF, if_neg (fun e => hne ⟨x, by simp, e⟩)]
    exact ih (fun ⟨y, hy, e⟩ => hne ⟨y, by simp [hy], e⟩)
  rw [h0, List.getD_eq_getElem?_getD, List.getElem?_replicate, if_pos hn]; rfl
theorem arr_onI {l : List (Int × Int)} (hv : vlGo none l = true) (x : Int) (hx : 0 ≤ x ∧ x < 512) : (arrF l).getD x.toNat 0 = onF l x := by
 have := arr_on hv x.toNat (by omega)
 rwa [Int.toNat_of_nonneg hx.1] at this
theorem on_range {l : List (Int × Int)} (hv : vlGo none l = true) (x : Int) : onF l x = 0 ∨ (2 ≤ onF l x ∧ onF l x ≤ 51) := by
 have h1 := (vl_facts l none hv).1
 clear hv
 induction l with
 | nil => exact .inl rfl
 | cons y r ih =>
  rw [onF]
  split
  ·exact .inr (h1 y (by simp)).2.1
  ·exact ih (fun z hz => h1 z (by simp [hz]))
theorem lost_loss {l : List (Int × Int)} (hv : vlGo none l = true) (n : Int) (hn : 0 ≤ n ∧ n < 512) (loads : List R5) (hr : ∀ r ∈ loads, (0 ≤ r.a ∧ r.a < 512) ∧ 0 ≤ r.b ∧ r.b < 512) : (lostF (arrF l) loads).getD n.toNat 0 = lossGo n (onF l n) l 0 loads := by
 have key : ∀ (loads : List R5) (X : List Int), (∀ r ∈ loads, (0 ≤ r.a ∧ r.a < 512) ∧ 0 ≤ r.b ∧ r.b < 512) → X.length = 512 → (loads.foldl (lostStep (arrF l)) X).getD n.toNat 0 = lossGo n (onF l n) l (X.getD n.toNat 0) loads := by
  intro loads
  induction loads with
  | nil => intro X _ _; rfl
  | cons r q ih =>
   intro X hr hX
   have h1 := hr r (by simp)
   rw [List.foldl_cons, ih _ (fun y hy => hr y (by simp [hy])) (by unfold lostStep; split <;> simp [hX]), lossGo]
   congr 1
   unfold lostStep lossB
   rw [arr_onI hv r.a h1.1, arr_onI hv r.b h1.2]
   by_cases hc : r.d ≤ onF l r.a ∧ onF l r.a ≤ r.e ∧ onF l r.b = onF l r.a
   ·rw [if_pos hc, List.getD_eq_getElem?_getD, List.getElem?_set]
    by_cases ha : r.a = n
    ·subst ha
     rw [if_pos rfl, if_pos (by omega), if_pos]
     ·rfl
     ·rw [Bool.and_eq_true, Bool.and_eq_true, Bool.and_eq_true]
      exact ⟨decide_eq_true rfl, decide_eq_true hc.2.2, decide_eq_true hc.1, decide_eq_true hc.2.1⟩
    ·rw [if_neg (by omega), ← List.getD_eq_getElem?_getD, if_neg (by rw [decide_eq_false ha]; simp)]
   ·rw [if_neg hc, if_neg]
    rw [Bool.and_eq_true, Bool.and_eq_true, Bool.and_eq_true]
    rintro ⟨a1, a2, a3, a4⟩
    have a1 := of_decide_eq_true a1
    subst a1
    exact hc ⟨of_decide_eq_true a3, of_decide_eq_true a4, of_decide_eq_true a2⟩
 unfold lostF
 rw [key loads _ hr (List.length_replicate ..), List.getD_eq_getElem?_getD, List.getElem?_replicate, if_pos (by omega)]; rfl
theorem pair_breaks {l : List (Int × Int)} (hv : vlGo none l = true) {x : R5} (hx : goodP x = true) : (betwF (onF l x.a) x.d x.e && decide (onF l x.b = wrap64 (onF l x.a + x.c))) = bpF x l := by
 unfold goodP spF at hx
 simp only [Bool.and_eq_true, decide_eq_true_eq] at hx
 have h1 := on_range hv x.a
 have h2 := on_range hv x.b
 unfold betwF bpF
 rw [Bool.eq_iff_iff]
 simp only [Bool.and_eq_true, Bool.not_eq_true', decide_eq_true_eq, decide_eq_false_iff_not]
 constructor
 ·rintro ⟨⟨a1, a2⟩, a3⟩
  have a4 := a3
  unfold wrap64 at a3
  exact ⟨by omega, by omega, a1, a2, a4⟩
 ·rintro ⟨_, _, a1, a2, a3⟩; exact ⟨⟨a1, a2⟩, a3⟩
theorem cap_breaks {l : List (Int × Int)} (hv : vlGo none l = true) {x : R4} (hx : goodC x = true) (loads : List R5) (hr : ∀ r ∈ loads, (0 ≤ r.a ∧ r.a < 512) ∧ 0 ≤ r.b ∧ r.b < 512) : (betwF (onF l x.a) x.c x.d && decide (x.b < (lostF (arrF l) loads).getD x.a.toNat 0)) = bcF loads x l := by
 unfold goodC spF at hx
 simp only [Bool.and_eq_true, decide_eq_true_eq, stF_iff] at hx
 rw [lost_loss hv x.a hx.1.1 loads hr]
 unfold betwF bcF
 rw [Bool.eq_iff_iff]
 simp only [Bool.and_eq_true, Bool.not_eq_true', decide_eq_true_eq, decide_eq_false_iff_not]
 constructor
 ·rintro ⟨⟨a1, a2⟩, a3⟩; exact ⟨by omega, a1, a2, a3⟩
 ·rintro ⟨_, a1, a2, a3⟩; exact ⟨⟨a1, a2⟩, a3⟩
theorem st_bit (l : List Int) (k : Nat) : (stS l).testBit k = l.any (fun i => i.toNat == k) := by unfold stS; rw [stS_bit]; simp
theorem sub_iff {a b : List Int} (ha : ∀ y ∈ a, 0 ≤ y ∧ y < 512) (hb : ∀ y ∈ b, 0 ≤ y ∧ y < 512) : mi (stS a) (stS b) = 0 ↔ ∀ x ∈ a, x ∈ b := by
 constructor
 ·intro h x hx
  have h1 : (mi (stS a) (stS b)).testBit x.toNat = false := by rw [h, Nat.zero_testBit]
  rw [mi_tb, st_bit, st_bit] at h1
  have h2 : a.any (fun i => i.toNat == x.toNat) = true := List.any_eq_true.2 ⟨x, hx, by simp⟩
  rw [h2, Bool.true_and, Bool.not_eq_false'] at h1
  obtain ⟨y, hy, e⟩ := List.any_eq_true.1 h1
  have e : y.toNat = x.toNat := by simpa using e
  have := ha x hx; have := hb y hy
  have : y = x := by omega
  rw [← this]; exact hy
 ·intro h
  apply Nat.eq_of_testBit_eq
  intro k
  rw [Nat.zero_testBit, mi_tb, st_bit, st_bit]
  cases hk : a.any (fun i => i.toNat == k) with
  | false => rfl
  | true =>
   obtain ⟨y, hy, e⟩ := List.any_eq_true.1 hk
   rw [Bool.true_and, Bool.not_eq_false']
   exact List.any_eq_true.2 ⟨y, h y hy, e⟩
theorem st_say {ds es : List Dom} (h : ds.map Dom.say = es.map Dom.say) : ds.map Dom.st = es.map Dom.st := by
 have := congrArg (List.map Prod.fst) h
 simpa [List.map_map, Function.comp_def, Dom.say] using this
theorem all_say {ds es : List Dom} (f : Int × List Int → Bool) (h : ds.map Dom.say = es.map Dom.say) : ds.all (fun d => f (Dom.say d)) = es.all (fun d => f (Dom.say d)) := by
 have : ∀ l : List Dom, l.all (fun d => f (Dom.say d)) = (l.map Dom.say).all f := fun l => by rw [List.all_map]; rfl
 rw [this, this, h]
theorem inc_say : ∀ {ds es : List Dom}, ds.map Dom.say = es.map Dom.say → incF (fun x y : Dom => cmpF x.st y.st) ds = incF (fun x y : Dom => cmpF x.st y.st) es := by
 have key : ∀ l : List Dom, incF (fun x y : Dom => cmpF x.st y.st) l = incF cmpF (l.map Dom.st) := by
  intro l
  induction l with
  | nil => rfl
  | cons x r ih =>
   cases r with
   | nil => rfl
   | cons y r => simp only [List.map_cons] at ih ⊢; unfold incF; rw [ih]
 intro ds es h
 rw [key, key, st_say h]
theorem valid_say {ds es : List Dom} (h : ds.map Dom.say = es.map Dom.say) (r : Rul) : validP ds r = validP es r := by
 unfold validP validD
 rw [st_say h, inc_say h]
 have := all_say (fun d => stF d.1 && d.2.all chGood && incF cmpF d.2) h
 have e : ∀ l : List Dom, l.all goodD = l.all (fun d => (fun d : Int × List Int => stF d.1 && d.2.all chGood && incF cmpF d.2) (Dom.say d)) := fun l => rfl
 rw [e ds, e es, this]
theorem ok_say {ds es : List Dom} (h : ds.map Dom.say = es.map Dom.say) (r : Rul) (l : List (Int × Int)) (a : Bool) : okF ds r l a = okF es r l a := by
 unfold okF
 have h1 := all_say (fun d => !((decide (onF l d.1 = 0) && a) || (!decide (onF l d.1 = 0) && !hasL d.2 (onF l d.1)))) h
 have e1 : ∀ l' : List Dom, l'.all (fun d => !bdF a l d) = l'.all (fun d => (fun d : Int × List Int => !((decide (onF l d.1 = 0) && a) || (!decide (onF l d.1 = 0) && !hasL d.2 (onF l d.1)))) (Dom.say d)) := fun l' => rfl
 have e2 : ∀ x : Int, inD ds x = inD es x := fun x => by rw [inD_mem, inD_mem, st_say h]
 have e3 : inD ds = inD es := funext e2
 rw [e1 ds, e1 es, h1, e3]
def resD (S : Nat) (ds : List Dom) : List Dom := ds.filter fun d => hasS S d.st
theorem rest_valid {ds es : List Dom} {r : Rul} {L : List Int} (h : validP ds r = true) (he : es.map Dom.say = (resD (stS L) ds).map Dom.say) : validP es (resR (stS L) r) = true := by
 rw [valid_say he]
 have hst := valid_st h
 unfold validP validD at h ⊢
 simp only [Bool.and_eq_true] at h ⊢
 obtain ⟨⟨⟨h1, h2⟩, h3⟩, h4, h5, h6⟩ := h
 have hmem : ∀ x : Int, hasS (stS L) x = true → x ∈ ds.map Dom.st → hasS (stS ((resD (stS L) ds).map Dom.st)) x = true := by
  intro x hx hm
  rw [hasS_mem (fun y hy => by
   obtain ⟨d, hd, rfl⟩ := List.mem_map.1 hy
   exact hst.1 _ (List.mem_map.2 ⟨d, (List.mem_filter.1 hd).1, rfl⟩)), decide_eq_true_eq]
  obtain ⟨d, hd, rfl⟩ := List.mem_map.1 hm
  exact List.mem_map.2 ⟨d, List.mem_filter.2 ⟨hd, hx⟩, rfl⟩
 have hin : ∀ x : Int, hasS (stS (ds.map Dom.st)) x = true → x ∈ ds.map Dom.st := fun x hx => by rw [hasS_mem hst.1, decide_eq_true_eq] at hx; exact hx
 rw [List.all_eq_true] at h4 h5 h6
 refine ⟨⟨⟨?_, ?_⟩, ?_⟩, ?_, ?_, ?_⟩
 ·rw [List.all_eq_true] at h1 ⊢
  exact fun d hd => h1 d (List.mem_filter.1 hd).1
 ·exact rules_filter h2 _ _ _
 ·exact incF_filter (fun x y : Dom => cmpF x.st y.st) (fun d => [d.st]) (fun x y => cmpF_less x.st y.st) _ h3
 ·rw [List.all_eq_true]
  intro x hx
  obtain ⟨hx1, hx2⟩ := List.mem_filter.1 hx
  have := h4 x hx1
  simp only [Bool.and_eq_true] at this hx2 ⊢
  exact ⟨hmem _ hx2.1 (hin _ this.1), hmem _ hx2.2 (hin _ this.2)⟩
 ·rw [List.all_eq_true]
  intro x hx
  obtain ⟨hx1, hx2⟩ := List.mem_filter.1 hx
  have := h5 x hx1
  simp only [Bool.and_eq_true] at this hx2 ⊢
  exact ⟨hmem _ hx2.1 (hin _ this.1), hmem _ hx2.2 (hin _ this.2)⟩
 ·rw [List.all_eq_true]
  intro x hx
  obtain ⟨hx1, hx2⟩ := List.mem_filter.1 hx
  exact hmem _ hx2 (hin _ (h6 x hx1))
abbrev Chs := List (Int × Int)
abbrev Prv := List Int × List (List (Int × Int))
def ofC (l : Chs) : List Int := l.map Prod.fst
def fitsF (ds : List Dom) (r : Rul) (l : Chs) : Bool := okF (resD (stS (ofC l)) ds) (resR (stS (ofC l)) r) l true
def pkF (ds : List Dom) (r : Rul) (P : List Chs) (l : Chs) : List Chs × Int :=
 if vlGo none l = true then
  if mi (stS (ofC l)) (stS (ds.map Dom.st)) = 0 then
   if fitsF ds r l = true then
    if (P.any fun o => decide (mi (stS (ofC l)) (stS (ofC o)) = 0)) = true then (P, 0)
    else if 1000 ≤ (P.filter fun o => !decide (mi (stS (ofC o)) (stS (ofC l)) = 0)).length then (P, 7)
    else ((P.filter fun o => !decide (mi (stS (ofC o)) (stS (ofC l)) = 0)) ++ [l], 0)
   else (P, 10)
  else (P, 9)
 else (P, 2)
def rfF (ds : List Dom) (Q : List Prv) (x : Prv) : List Prv × Int :=
 if stOk x.1 = true then
  if mi (stS x.1) (stS (ds.map Dom.st)) = 0 then
   if (Q.any fun o => decide (mi (stS o.1) (stS x.1) = 0)) = true then (Q, 0)
   else if 1000 ≤ (Q.filter fun o => !decide (mi (stS x.1) (stS o.1) = 0)).length then (Q, 7)
   else ((Q.filter fun o => !decide (mi (stS x.1) (stS o.1) = 0)) ++ [x], 0)
  else (Q, 9)
 else (Q, 2)
def lkF (ds : List Dom) (P : List Chs) (Q : List Prv) (L : List Int) : (Int × Chs × Prv) × Int :=
 if stOk L = true then
  if mi (stS L) (stS (ds.map Dom.st)) = 0 then
   match P.find? fun o => decide (mi (stS L) (stS (ofC o)) = 0) with
   | some o => ((1, o.filter (fun x => hasS (stS L) x.1), ([], [])), 0)
   | none => match Q.find? fun o => decide (mi (stS o.1) (stS L) = 0) with
    | some o => ((2, [], o), 0)
    | none => ((0, [], ([], [])), 0)
  else ((0, [], ([], [])), 9)
 else ((0, [], ([], [])), 2)
theorem vl_stOk {l : Chs} (h : vlGo none l = true) : stOk (ofC l) = true := by
 obtain ⟨h1, h2⟩ := vl_facts l none h
 unfold stOk
 rw [Bool.and_eq_true, List.all_eq_true]
 refine ⟨fun x hx => ?_, ?_⟩
 ·obtain ⟨y, hy, rfl⟩ := List.mem_map.1 hx
  exact (stF_iff _).2 (h1 y hy).1
 ·rw [incF_pair cmpF (fun x => [x]) cmpF_less]
  unfold ofC
  rw [List.pairwise_map]
  refine h2.imp (fun {a b} hab => ?_)
  unfold lessL
  rw [if_pos (by omega)]
  exact decide_eq_true hab
theorem hasL_cons (y : Int) (l : List Int) (x : Int) : hasL (y :: l) x = if y = x then true else hasL l x := by
 rfl
def idxL : List Int → Int → Int → Int
 | [], _, _ => -1
 | y :: r, x, k => if x = y then k else idxL r x (k + 1)
theorem idxL_has : ∀ (l : List Int) (x k : Int), 0 ≤ k → (0 ≤ idxL l x k ↔ hasL l x = true) := by
 intro l
 induction l with
 | nil => intro x k _; simp [idxL, hasL]
 | cons y r ih =>
  intro x k hk
  rw [idxL, hasL_cons]
  by_cases h : x = y
  ·rw [if_pos h, if_pos h.symm]; exact ⟨fun _ => rfl, fun _ => hk⟩
  ·rw [if_neg h, if_neg (fun e => h e.symm)]; exact ih x (k + 1) (by omega)
theorem index_any (A : Option Addr) (n c : Nat) (x : Int) (w : World) (l : List Int) (hn : n ≤ 9223372036854775807) (hl : Row1 intV w w.heap.size A n l) :
  Calls Tryz.prog 138 #[.slice A n c, .int .i64 x] w fun e w' => e = .returned (.int .i64 (idxL l x 0)) ∧ w = w' := by
 have Hl := Lib.hid hl
 have Hlen := Eqn.mk hl.1
 clear hl
 go_enter Tryz.func138, Tryz.ntmps138
 go_wp2_with fail
 go_loopw [8] (fun i wr => ∃ k : Nat, k ≤ n ∧ i = .int .i64 k ∧ Eqn (idxL l x 0) (idxL (l.drop k) x (k : Int)) ∧ w = wr) (fun i _ => n - (intOf i).toNat)
 case atStart => exact ⟨0, Nat.zero_le _, rfl, rfl, rfl⟩
 case round =>
  obtain ⟨k, hk, rfl, HR, rfl⟩ := hrel
  by_cases hlt : k < n
  ·have j0 : (k : Int) < (n : Int) := by omega
   obtain ⟨y, hy, hyd⟩ := drop_at (xs := l) (k := k) (by rw [Hlen.out]; exact hlt)
   obtain ⟨b, off, rfl, hbl, hc⟩ := Hl.out.2 (by omega)
   have c0 := hc k y hy
   unfold intV at c0
   have HR2 := HR.out
   rw [hyd, idxL] at HR2
   have HRR := Lib.hid HR2
   clear hc hy hyd HR HR2
   by_cases hxy : x = y
   ·have HV : Hid (idxL l x 0 = (k : Int)) := Lib.hid (HRR.out.trans (if_pos hxy))
    have hd : (x == y) = true := by simpa using hxy
    clear HRR
    subst hxy
    go_wp2_with fail
    go_ret
    exact ⟨by rw [HV.out]; rfl, by first | rfl | trivial⟩
   ·have HV : Hid (idxL l x 0 = idxL (l.drop (k + 1)) x ((k : Int) + 1)) := Lib.hid (HRR.out.trans (if_neg hxy))
    have hd : (x == y) = false := by simpa using hxy
    clear HRR
    go_wp2_with fail
    go_roundw
    case rel => exact ⟨k + 1, hlt, by go_num, by rw [Eqn, HV.out]; rfl, by first | rfl | trivial⟩
    case measure => simp [intOf]; omega
  ·obtain rfl : k = n := by omega
   have HV : Hid (idxL l x 0 = -1) := Lib.hid (by rw [HR.out, List.drop_of_length_le (by rw [Hlen.out]; exact Nat.le_refl _)]; rfl)
   clear HR
   go_wp2_with fail
   go_ret
   exact ⟨by rw [HV.out]; rfl, by first | rfl | trivial⟩
theorem contains_any (A : Option Addr) (n c : Nat) (x : Int) (w : World) (l : List Int) (hn : n ≤ 9223372036854775807) (hl : Row1 intV w w.heap.size A n l) :
  Calls Tryz.prog 115 #[.slice A n c, .int .i64 x] w fun e w' => e = .returned (.bool (hasL l x)) ∧ w = w' := by
 have HI := Lib.hid (index_any A n c x w l hn hl)
 have HH := Lib.hid (idxL_has l x 0 (Int.le_refl _))
 clear hl
 generalize idxL l x 0 = k at *
 by_cases h : 0 ≤ k
 ·have hd : decide (0 ≤ k) = true := decide_eq_true h
  have HV : Hid (hasL l x = true) := Lib.hid (HH.out.1 h)
  go_enter Tryz.func115, Tryz.ntmps115
  go_wp2_with fail
  refine HI.out.mono ?_
  rintro e w1 ⟨rfl, rfl⟩
  go_wp2_with fail
  go_ret
  exact ⟨by rw [HV.out]; rfl, rfl⟩
 ·have HV : Hid (hasL l x = false) := Lib.hid (by rw [← Bool.not_eq_true]; exact fun e => h (HH.out.2 e))
  have hd : decide (0 ≤ k) = false := decide_eq_false h
  go_enter Tryz.func115, Tryz.ntmps115
  go_wp2_with fail
  refine HI.out.mono ?_
  rintro e w1 ⟨rfl, rfl⟩
  go_wp2_with fail
  go_ret
  exact ⟨by rw [HV.out]; rfl, rfl⟩
theorem Hp.setAll {w u W : World} {L : List Ent} {ds : List Nat} (h : Hp w u W L ds) (i : Nat) {g t : Nat} {s : List Value} (R : Array Value) (hi : L[i]? = some (.blk g t s)) : Hp w u (W.setRow g R) (L.set i (.blk g t R.toList)) ds :=
 h.upd i hi (grownBy_setRow W g R) (by
  have hb : W.heap[g]? = some (.cells s.toArray t (0, 0)) := h.blk i hi
  show (W.setRow g R).heap[g]? = some (.cells R.toList.toArray t (0, 0))
  simp [World.setRow, Array.getElem?_modify, hb]) (fun _ hg' => .inl hg')
end Go.Proofs.YtdpbbhbegehcjaaGreatDoor
