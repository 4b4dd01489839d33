/- add of kept: an entry in the place of those that it replaces; for lists of proofs. -/
import Derived.RangeFuncCalls
import Derived.Shelf.Abstract
import Derived.Shelf.RegionOpen
import Derived.OwnWalkIn
import Derived.TacticsInMore
import Derived.LoopNIn
import Derived.LoopIn
import Derived.Sort.LoopGhostIn
import Derived.Sort.CutIn
import Derived.Maps.OwnIn
import Derived.ScopeJumps
import Derived.Test.YtdpbbhbegehcjaaGreatDoorPla02
import Derived.Test.YtdpbbhbegehcjaaGreatDoorPla14
import Derived.Test.YtdpbbhbegehcjaaGreatDoorPla15
import Derived.Test.YtdpbbhbegehcjaaGreatDoorPla17
import Derived.Test.YtdpbbhbegehcjaaGreatDoorPla18
set_option maxRecDepth 100000
set_option maxHeartbeats 2000000
namespace Go.Proofs.YtdpbbhbegehcjaaGreatDoor
open Go.RowKit Go.Shelf
theorem eq_no {α : Type} {a b : List α} {k : Nat} {x y : α} (hx : a[k]? = some x) (hy : b[k]? = some y) (h : x ≠ y) : a ≠ b := fun e => by subst e; rw [hx] at hy; exact h (Option.some.inj hy)
theorem take_eq {α : Type} {a b : List α} {k : Nat} {x y : α} (hx : a[k]? = some x) (hy : b[k]? = some y) (h : x = y) (ht : a.take k = b.take k) : a.take (k + 1) = b.take (k + 1) := by rw [take_snoc hx, take_snoc hy, ht, h]
theorem take_all {α : Type} {a b : List α} {k : Nat} (ha : a.length = k) (hb : b.length = k) (ht : a.take k = b.take k) : a = b := by rwa [List.take_of_length_le (by omega), List.take_of_length_le (by omega)] at ht
theorem sameList_any (A B : Option Addr) (n c m d : Nat) (w : World) (D : Nat) (a b : List (Int × Int)) (hn : n ≤ 9223372036854775807) (ha : RowS 2 chC w D A n a) (hb : RowS 2 chC w D B m b) :
  Calls Tryz.prog 23 #[.slice A n c, .slice B m d] w fun e w' => e = .returned (.bool (decide (a = b))) ∧ Below D w w' := by
 have Ha := Lib.hid ha
 have Hb := Lib.hid hb
 have Hla := Eqn.mk ha.1
 have Hlb := Eqn.mk hb.1
 clear ha hb
 by_cases hnm : n = m
 ·subst hnm
  go_enter Tryz.func23, Tryz.ntmps23
  go_wp2_with fail
  go_loopw [5] (fun i wr => ∃ k : Nat, k ≤ n ∧ i = .int .i64 k ∧ a.take k = b.take k ∧ Below D w wr) (fun i _ => n - (intOf i).toNat)
  case atStart => exact ⟨0, Nat.zero_le _, rfl, rfl, Below.refl _ _⟩
  case round =>
   obtain ⟨k, hk, rfl, ht, hB⟩ := hrel
   have HB := Lib.hid hB
   have HT := Lib.hid ht
   clear ht
   by_cases hlt : k < n
   ·obtain ⟨⟨xa, xb⟩, hx⟩ : ∃ x, a[k]? = some x := ⟨_, List.getElem?_eq_getElem (by rw [Hla.out]; exact hlt)⟩
    obtain ⟨⟨ya, yb⟩, hy⟩ : ∃ x, b[k]? = some x := ⟨_, List.getElem?_eq_getElem (by rw [Hlb.out]; exact hlt)⟩
    obtain ⟨b1, o1, rfl, hl1, hc1⟩ := (Ha.out.below hB).2 (by omega)
    obtain ⟨b2, o2, rfl, hl2, hc2⟩ := (Hb.out.below hB).2 (by omega)
    have c1 : wr.cell? ⟨b1, o1 + k * 2, none⟩ = some (.int .i64 xa) := hc1 k _ hx 0 (by decide)
    have c2 : wr.cell? ⟨b1, o1 + k * 2 + 1, none⟩ = some (.int .i64 xb) := hc1 k _ hx 1 (by decide)
    have c3 : wr.cell? ⟨b2, o2 + k * 2, none⟩ = some (.int .i64 ya) := hc2 k _ hy 0 (by decide)
    have c4 : wr.cell? ⟨b2, o2 + k * 2 + 1, none⟩ = some (.int .i64 yb) := hc2 k _ hy 1 (by decide)
    have j0 : (k : Int) < (n : Int) := by omega
    have HEQ : Hid ((xa, xb) = (ya, yb) → a.take (k + 1) = b.take (k + 1)) := Lib.hid (fun h => take_eq hx hy h HT.out)
    have HNE : Hid ((xa, xb) ≠ (ya, yb) → decide (a = b) = false) := Lib.hid (fun h => decide_eq_false (eq_no hx hy h))
    clear hc1 hc2 hx hy hB HT
    by_cases h1 : xa = ya
    ·have d1 : (xa == ya) = true := by simpa using h1
     by_cases h2 : xb = yb
     ·have d2 : (xb == yb) = true := by simpa using h2
      have HV := Lib.hid (HEQ.out (by rw [h1, h2]))
      clear h1 h2
      go_wp2_with fail
      refine Lx.region (C := fun _ => True) (hs := []) (by kernel_rfl) (by kernel_rfl) trivial ?_
      repeat' (first | ((first | refine Lx.ln (fun K hK => ?_) | (first | (refine Lx.lp (v := ?_) ?_ (fun K hK => ?_); rotate_left 1; intro w' hCw; try dsimp only at hCw) | (refine Lx.lr (v := ?_) ?_ (fun K hK => ?_); rotate_left 1)); go_simp; first | done | with_reducible rfl); go_simp; refine hK _ ?_; clear hK K) | (refine Lx.le (fun K hK => ?_); go_simp; (first | fail | skip); refine hK _ _ (trivial) ?_; clear hK K) | (refine Lx.lex_cases rfl rfl rfl (fun hgd K hK => ?_) (fun hgd K hK => ?_) <;> (try simp only [decide_eq_true_eq, decide_eq_false_iff_not] at hgd) <;> (first | (exfalso; omega) | (go_simp; refine hK _ ?_; clear hK K))))
      all_goals (refine Lx.lex_nil ?_)
      go_wp2_with fail
      go_roundw
      case rel => exact ⟨k + 1, by omega, by go_num, HV.out, HB.out.drew⟩
      case measure => simp [intOf]; omega
     ·have d2 : (xb == yb) = false := by simpa using h2
      have HV := Lib.hid (HNE.out (by rintro ⟨⟩; exact h2 rfl))
      clear h1 h2
      go_wp2_with fail
      refine Lx.region (C := fun _ => True) (hs := []) (by kernel_rfl) (by kernel_rfl) trivial ?_
      repeat' (first | ((first | refine Lx.ln (fun K hK => ?_) | (first | (refine Lx.lp (v := ?_) ?_ (fun K hK => ?_); rotate_left 1; intro w' hCw; try dsimp only at hCw) | (refine Lx.lr (v := ?_) ?_ (fun K hK => ?_); rotate_left 1)); go_simp; first | done | with_reducible rfl); go_simp; refine hK _ ?_; clear hK K) | (refine Lx.le (fun K hK => ?_); go_simp; (first | fail | skip); refine hK _ _ (trivial) ?_; clear hK K) | (refine Lx.lex_cases rfl rfl rfl (fun hgd K hK => ?_) (fun hgd K hK => ?_) <;> (try simp only [decide_eq_true_eq, decide_eq_false_iff_not] at hgd) <;> (first | (exfalso; omega) | (go_simp; refine hK _ ?_; clear hK K))))
      all_goals (refine Lx.lex_nil ?_)
      go_wp2_with fail
      go_ret
      exact ⟨ret_bool HV.out.symm, HB.out.drew⟩
    ·have d1 : (xa == ya) = false := by simpa using h1
     have HV := Lib.hid (HNE.out (by rintro ⟨⟩; exact h1 rfl))
     clear h1
     go_wp2_with fail
     refine Lx.region (C := fun _ => True) (hs := []) (by kernel_rfl) (by kernel_rfl) trivial ?_
     repeat' (first | ((first | refine Lx.ln (fun K hK => ?_) | (first | (refine Lx.lp (v := ?_) ?_ (fun K hK => ?_); rotate_left 1; intro w' hCw; try dsimp only at hCw) | (refine Lx.lr (v := ?_) ?_ (fun K hK => ?_); rotate_left 1)); go_simp; first | done | with_reducible rfl); go_simp; refine hK _ ?_; clear hK K) | (refine Lx.le (fun K hK => ?_); go_simp; (first | fail | skip); refine hK _ _ (trivial) ?_; clear hK K) | (refine Lx.lex_cases rfl rfl rfl (fun hgd K hK => ?_) (fun hgd K hK => ?_) <;> (try simp only [decide_eq_true_eq, decide_eq_false_iff_not] at hgd) <;> (first | (exfalso; omega) | (go_simp; refine hK _ ?_; clear hK K))))
     all_goals (refine Lx.lex_nil ?_)
     go_wp2_with fail
     go_ret
     exact ⟨ret_bool HV.out.symm, HB.out.drew⟩
   ·obtain rfl : k = n := by omega
    have HV := Lib.hid (decide_eq_true (take_all Hla.out Hlb.out HT.out))
    clear HT hB
    go_wp2_with fail
    go_ret
    exact ⟨ret_bool HV.out.symm, HB.out⟩
 ·have HV : Hid (decide (a = b) = false) := Lib.hid (decide_eq_false (fun e => by have := congrArg List.length e; rw [Hla.out, Hlb.out] at this; exact hnm this))
  have hne : ((n : Int) != (m : Int)) = true := by simp; omega
  go_enter Tryz.func23, Tryz.ntmps23
  go_wp2_with fail
  go_ret
  exact ⟨ret_bool HV.out.symm, Below.refl _ _⟩
theorem nsame_any (A B : Option Addr) (n c m d : Nat) (w : World) (a b : List Lem) (hn : n ≤ 9223372036854775807) (ha : RowX 1 lemC w (fun _ => True) A n a) (hb : RowX 1 lemC w (fun _ => True) B m b) (hla : ∀ x ∈ a, x.At w (fun _ => True)) (hlb : ∀ x ∈ b, x.At w (fun _ => True)) :
  Calls Tryz.prog 64 #[.slice A n c, .slice B m d] w (RetPost (.bool (decide (a.map Lem.chs = b.map Lem.chs))) w.heap.size w) := by
 have Ha := Lib.hid ha
 have Hb := Lib.hid hb
 have Hxa := Lib.hid hla
 have Hxb := Lib.hid hlb
 have Hla := Eqn.mk ha.1
 have Hlb := Eqn.mk hb.1
 have Hma : Hid ((a.map Lem.chs).length = n ∧ (b.map Lem.chs).length = m) := Lib.hid ⟨by rw [List.length_map]; exact ha.1, by rw [List.length_map]; exact hb.1⟩
 clear ha hb hla hlb
 by_cases hnm : n = m
 ·subst hnm
  go_enter Tryz.func64, Tryz.ntmps64
  go_wp2_with fail
  go_loopw [5] (fun i wr => ∃ k : Nat, k ≤ n ∧ i = .int .i64 k ∧ (a.map Lem.chs).take k = (b.map Lem.chs).take k ∧ Below w.heap.size w wr) (fun i _ => n - (intOf i).toNat)
  case atStart => exact ⟨0, Nat.zero_le _, rfl, rfl, Below.refl _ _⟩
  case round =>
   obtain ⟨k, hk, rfl, ht, hB⟩ := hrel
   have HB := Lib.hid hB
   have HT := Lib.hid ht
   clear ht
   by_cases hlt : k < n
   ·obtain ⟨x, hx⟩ : ∃ x, a[k]? = some x := ⟨_, List.getElem?_eq_getElem (by rw [Hla.out]; exact hlt)⟩
    obtain ⟨y, hy⟩ : ∃ x, b[k]? = some x := ⟨_, List.getElem?_eq_getElem (by rw [Hlb.out]; exact hlt)⟩
    obtain ⟨b1, o1, rfl, hl1, hc1⟩ := (Ha.out.keep (by decide) hB).2 (by omega)
    obtain ⟨b2, o2, rfl, hl2, hc2⟩ := (Hb.out.keep (by decide) hB).2 (by omega)
    have c1 : wr.cell? ⟨b1, o1 + k, none⟩ = some (.slice x.adr x.len x.cap) := by have := hc1 k x hx 0 (by decide); rwa [Nat.mul_one, Nat.add_zero] at this
    have c2 : wr.cell? ⟨b2, o2 + k, none⟩ = some (.slice y.adr y.len y.cap) := by have := hc2 k y hy 0 (by decide); rwa [Nat.mul_one, Nat.add_zero] at this
    have j0 : (k : Int) < (n : Int) := by omega
    have hx' : (a.map Lem.chs)[k]? = some x.chs := by rw [List.getElem?_map, hx]; rfl
    have hy' : (b.map Lem.chs)[k]? = some y.chs := by rw [List.getElem?_map, hy]; rfl
    have HEQ : Hid (x.chs = y.chs → (a.map Lem.chs).take (k + 1) = (b.map Lem.chs).take (k + 1)) := Lib.hid (fun h => take_eq hx' hy' h HT.out)
    have HNE : Hid (¬ x.chs = y.chs → decide (a.map Lem.chs = b.map Lem.chs) = false) := Lib.hid (fun h => decide_eq_false (eq_no hx' hy' h))
    have hxA := (Hxa.out x (List.mem_of_getElem? hx)).keep (hB.trans ((Below.refl _ wr).drew.mono hB.size))
    have hyA := (Hxb.out y (List.mem_of_getElem? hy)).keep (hB.trans ((Below.refl _ wr).drew.mono hB.size))
    have HS := Lib.hid (sameList_any x.adr y.adr x.len x.cap y.len y.cap wr.drew wr.drew.heap.size x.chs y.chs (by have := hxA.2; omega) hxA.rowS hyA.rowS)
    clear hc1 hc2 hx hy hB HT hx' hy' hxA hyA
    by_cases h1 : x.chs = y.chs
    ·have HV := Lib.hid (HEQ.out h1)
     rw [decide_eq_true h1] at HS
     clear h1
     go_wp2_with fail
     refine Lx.region (C := fun _ => True) (hs := []) (by kernel_rfl) (by kernel_rfl) trivial ?_
     repeat' (first | ((first | refine Lx.ln (fun K hK => ?_) | (first | (refine Lx.lp (v := ?_) ?_ (fun K hK => ?_); rotate_left 1; intro w' hCw; try dsimp only at hCw) | (refine Lx.lr (v := ?_) ?_ (fun K hK => ?_); rotate_left 1)); go_simp; first | done | with_reducible rfl); go_simp; refine hK _ ?_; clear hK K) | (refine Lx.le (fun K hK => ?_); go_simp; (first | (go_at_call 23; refine HS.out.mono ?_; rintro e w5 ⟨rfl, hb5⟩; have HB5 := Lib.hid (HB.out.drew.trans (hb5.mono HB.out.drew.size)); clear hb5) | skip); refine hK _ _ (trivial) ?_; clear hK K) | (refine Lx.lex_cases rfl rfl rfl (fun hgd K hK => ?_) (fun hgd K hK => ?_) <;> (try simp only [decide_eq_true_eq, decide_eq_false_iff_not] at hgd) <;> (first | (exfalso; omega) | (go_simp; refine hK _ ?_; clear hK K))))
     all_goals (refine Lx.lex_nil ?_)
     go_wp2_with fail
     go_roundw
     case rel => exact ⟨k + 1, by omega, by go_num, HV.out, HB5.out⟩
     case measure => simp [intOf]; omega
    ·have HV := Lib.hid (HNE.out h1)
     rw [decide_eq_false h1] at HS
     clear h1
     go_wp2_with fail
     refine Lx.region (C := fun _ => True) (hs := []) (by kernel_rfl) (by kernel_rfl) trivial ?_
     repeat' (first | ((first | refine Lx.ln (fun K hK => ?_) | (first | (refine Lx.lp (v := ?_) ?_ (fun K hK => ?_); rotate_left 1; intro w' hCw; try dsimp only at hCw) | (refine Lx.lr (v := ?_) ?_ (fun K hK => ?_); rotate_left 1)); go_simp; first | done | with_reducible rfl); go_simp; refine hK _ ?_; clear hK K) | (refine Lx.le (fun K hK => ?_); go_simp; (first | (go_at_call 23; refine HS.out.mono ?_; rintro e w5 ⟨rfl, hb5⟩; have HB5 := Lib.hid (HB.out.drew.trans (hb5.mono HB.out.drew.size)); clear hb5) | skip); refine hK _ _ (trivial) ?_; clear hK K) | (refine Lx.lex_cases rfl rfl rfl (fun hgd K hK => ?_) (fun hgd K hK => ?_) <;> (try simp only [decide_eq_true_eq, decide_eq_false_iff_not] at hgd) <;> (first | (exfalso; omega) | (go_simp; refine hK _ ?_; clear hK K))))
     all_goals (refine Lx.lex_nil ?_)
     go_wp2_with fail
     go_ret
     exact ⟨ret_bool HV.out.symm, HB5.out⟩
   ·obtain rfl : k = n := by omega
    have HV := Lib.hid (decide_eq_true (take_all Hma.out.1 Hma.out.2 HT.out))
    clear HT hB
    go_wp2_with fail
    go_ret
    exact ⟨ret_bool HV.out.symm, HB.out⟩
 ·have HV : Hid (decide (a.map Lem.chs = b.map Lem.chs) = false) := Lib.hid (decide_eq_false (fun e => by have := congrArg List.length e; rw [Hma.out.1, Hma.out.2] at this; exact hnm this))
  have hne : ((n : Int) != (m : Int)) = true := by simp; omega
  go_enter Tryz.func64, Tryz.ntmps64
  go_wp2_with fail
  go_ret
  exact ⟨ret_bool HV.out.symm, Below.refl _ _⟩
theorem say_iff (x y : Prf) : x.say = y.say ↔ x.sts = y.sts ∧ x.lms.map Lem.chs = y.lms.map Lem.chs := by unfold Prf.say; exact Prod.mk.injEq _ _ _ _ ▸ Iff.rfl
theorem psame_any (x y : Prf) (w : World) (hx : x.At w (fun _ => True)) (hy : y.At w (fun _ => True)) : Calls Tryz.prog 24 #[x.val, y.val] w (RetPost (.bool (decide (x.say = y.say))) w.heap.size w) := by
 obtain ⟨p, hp⟩ : ∃ p, p = w.heap.size := ⟨_, rfl⟩
 obtain ⟨q, hq⟩ : ∃ p, p = w.heap.size + 1 := ⟨_, rfl⟩
 obtain ⟨V0, hV0⟩ : ∃ V0, V0 = (w.alloc (.cells #[.slice x.sa x.sn x.sc, .slice x.la x.ln x.lc] 44)).alloc (.cells #[.slice y.sa y.sn y.sc, .slice y.la y.ln y.lc] 44) := ⟨_, rfl⟩
 have hP0 : Hp w w V0 [.blk p 44 [.slice x.sa x.sn x.sc, .slice x.la x.ln x.lc], .blk q 44 [.slice y.sa y.sn y.sc, .slice y.la y.ln y.lc]] [] := by
  have h := ((Hp.start w).alloc [.slice x.sa x.sn x.sc, .slice x.la x.ln x.lc] 44).alloc [.slice y.sa y.sn y.sc, .slice y.la y.ln y.lc] 44
  simp only [World.size_alloc] at h
  rw [hV0, hp, hq]; exact h
 have hx0 := hx.keep hP0.below
 have hy0 := hy.keep hP0.below
 have HSI := Lib.hid (sameInts_any x.sa y.sa x.sn x.sc y.sn y.sc V0 V0.heap.size x.sts y.sts hx.2.2.2.1 hx0.ints hy0.ints)
 have HNS := Lib.hid (fun (W : World) (hb : Below V0.heap.size V0 W) => nsame_any x.la y.la x.ln x.lc y.ln y.lc W x.lms y.lms (by have := hx.2.2.2.2; omega) (hx0.keep hb).2.1 (hy0.keep hb).2.1 (hx0.keep hb).2.2.1 (hy0.keep hb).2.2.1)
 have HP0 := Lib.hid hP0
 have HSY := Lib.hid (say_iff x y)
 have z0 := hP0.c 0 0 rfl rfl
 have z1 := hP0.c 0 1 rfl rfl
 have zl := hP0.lt 0 rfl
 have y0 := hP0.c 1 0 rfl rfl
 have y1 := hP0.c 1 1 rfl rfl
 have yl := hP0.lt 1 rfl
 unfold Prf.val Prf.v1 Prf.v2
 clear hP0 hx hy hx0 hy0
 by_cases hs : x.sts = y.sts
 ·rw [(sameL_iff _ _).2 hs] at HSI
  have HE : Hid (decide (x.say = y.say) = decide (x.lms.map Lem.chs = y.lms.map Lem.chs)) := Lib.hid (decide_eq_decide.2 (by rw [HSY.out]; exact ⟨fun h => h.2, fun h => ⟨hs, h⟩⟩))
  generalize decide (x.say = y.say) = ans at *
  generalize decide (x.lms.map Lem.chs = y.lms.map Lem.chs) = a2 at *
  clear hs HSY
  go_enter Tryz.func24, Tryz.ntmps24
  go_upto_region 1 with fail
  rw [← hV0, ← hq, ← hp]
  clear hV0 hp hq
  go_wp2_with fail
  refine HSI.out.mono ?_
  rintro e W1 ⟨rfl, hb1⟩
  have hP1 := HP0.out.keep hb1
  have HN1 := Lib.hid (HNS.out W1 hb1)
  have HP1 := Lib.hid hP1
  clear z0 z1 zl y0 y1 yl HP0 HSI HNS hb1
  have z0 := hP1.c 0 0 rfl rfl
  have z1 := hP1.c 0 1 rfl rfl
  have zl := hP1.lt 0 rfl
  have y0 := hP1.c 1 0 rfl rfl
  have y1 := hP1.c 1 1 rfl rfl
  have yl := hP1.lt 1 rfl
  clear hP1
  go_wp2_with fail
  refine HN1.out.mono ?_
  rintro e W2 ⟨rfl, hb2⟩
  have HP2 := Lib.hid (HP1.out.keep hb2).below
  clear hb2 HN1 z0 z1 zl y0 y1 yl
  go_wp2_with fail
  go_ret
  exact ⟨ret_bool HE.out.symm, HP2.out⟩
 ·have hsl : sameL x.sts y.sts = false := by cases h : sameL x.sts y.sts with | false => rfl | true => exact absurd ((sameL_iff _ _).1 h) hs
  rw [hsl] at HSI
  have HE : Hid (decide (x.say = y.say) = false) := Lib.hid (decide_eq_false (by rw [HSY.out]; exact fun h => hs h.1))
  generalize decide (x.say = y.say) = ans at *
  clear hs HSY hsl HNS
  go_enter Tryz.func24, Tryz.ntmps24
  go_upto_region 1 with fail
  rw [← hV0, ← hq, ← hp]
  clear hV0 hp hq
  go_wp2_with fail
  refine HSI.out.mono ?_
  rintro e W1 ⟨rfl, hb1⟩
  have HP1 := Lib.hid (HP0.out.keep hb1).below
  clear z0 z1 zl y0 y1 yl HP0 HSI hb1
  go_wp2_with fail
  go_ret
  exact ⟨ret_bool HE.out.symm, HP1.out⟩
attribute [local go_sem] Oper.semAt_some
theorem allR_any (A : Option Addr) (m c : Nat) (w : World) : Calls Tryz.prog 90 #[.agg #[.slice A m c]] w fun e w' => e = .returned (.func (.func 119) #[] #[.pointer (some ⟨w.heap.size, 0, none⟩)]) ∧ w' = w.alloc (.cells #[.slice A m c] 108) := by
 go_enter Tryz.func90, Tryz.ntmps90
 go_wp2
 go_ret
 exact ⟨rfl, rfl⟩
theorem all1R (n : Nat) (hn : 1 ≤ n) (n₀ Bn Bq : Nat) (A : Option Addr) (m c : Nat) (L : List REn) (w : World) (hB : Blk w Bq 108 [.slice A m c]) (hL : RowX 10 REn.cell w (· < n₀) A m L) (hn₀ : n₀ ≤ w.heap.size) (hm : m ≤ 100000) :
  SeqHands Fence.wide n Tryz.prog 119 #[.pointer (some ⟨Bq, 0, none⟩)] (fun x : Nat × REn => #[Value.int .i64 x.1, x.2.val]) (Keep1 n₀ Bn) false (fun pre x _ _ => x.1 = pre.length ∧ L[pre.length]? = some x.2) (fun xs => xs.length = L.length) (fun _ => True) L.length w := by
 intro l J Jx W hW hJ hJx hY h0
 refine callsIn_of_wp Tryz.func119 rfl trivial ?_ rfl
 simp only [Tryz.ntmps119, List.size_toArray, List.length_cons, List.length_nil, Nat.reduceAdd, Nat.reduceSub, Array.replicate_succ, Array.replicate_zero, List.push_toArray, List.append_toArray, List.nil_append, List.cons_append]
 have hlen := hL.1
 have c0 : W.cell? ⟨Bq, 0, none⟩ = some (.slice A m c) := (hB.keep hW).cell rfl
 have HL := Lib.hid (hL.keep (by decide) hW)
 have HS := Lib.hid (Nat.le_trans hn₀ hW.size)
 have H0 := Lib.hid h0
 have HY := Lib.hid hY
 have HJ := Lib.hid hJ
 have Hlen := Eqn.mk hlen
 clear hB hL hlen hW hJ hJx hY h0 hn₀
 gi_wp2_with fail
 gi_loopw [8] (fun i wr => ∃ (k : Nat) (pre : List (Nat × REn)), k ≤ m ∧ i = .int .i64 k ∧ pre.length = k ∧ J pre wr ∧ Below n₀ W wr) (fun i _ => m - (intOf i).toNat)
 case atStart => exact ⟨0, [], Nat.zero_le _, rfl, rfl, H0.out, Below.refl _ _⟩
 case round =>
  clear H0 c0
  obtain ⟨k, pre, hk, rfl, hp, hJs, hb⟩ := hrel
  by_cases hlt : k < m
  ·have j0 : (k : Int) < (m : Int) := by omega
   obtain ⟨x, hx⟩ : ∃ x, L[k]? = some x := ⟨_, List.getElem?_eq_getElem (by rw [Hlen.out]; exact hlt)⟩
   have hR := HL.out.turn (by decide) (fun q (hq : q < n₀) _ => hb.block q hq)
   obtain ⟨b, off, rfl, hbn, hcell⟩ := hR.2 (by omega)
   have y0 : wr.cell? ⟨b, off + k * 10, none⟩ = some (.int .u64 (wd x.S 0)) := hcell k x hx 0 (by decide)
   have y1 : wr.cell? ⟨b, off + k * 10 + 1, none⟩ = some (.int .u64 (wd x.S 1)) := hcell k x hx 1 (by decide)
   have y2 : wr.cell? ⟨b, off + k * 10 + 2, none⟩ = some (.int .u64 (wd x.S 2)) := hcell k x hx 2 (by decide)
   have y3 : wr.cell? ⟨b, off + k * 10 + 3, none⟩ = some (.int .u64 (wd x.S 3)) := hcell k x hx 3 (by decide)
   have y4 : wr.cell? ⟨b, off + k * 10 + 4, none⟩ = some (.int .u64 (wd x.S 4)) := hcell k x hx 4 (by decide)
   have y5 : wr.cell? ⟨b, off + k * 10 + 5, none⟩ = some (.int .u64 (wd x.S 5)) := hcell k x hx 5 (by decide)
   have y6 : wr.cell? ⟨b, off + k * 10 + 6, none⟩ = some (.int .u64 (wd x.S 6)) := hcell k x hx 6 (by decide)
   have y7 : wr.cell? ⟨b, off + k * 10 + 7, none⟩ = some (.int .u64 (wd x.S 7)) := hcell k x hx 7 (by decide)
   have y8 : wr.cell? ⟨b, off + k * 10 + 8, none⟩ = some (.slice x.v.sa x.v.sn x.v.sc) := hcell k x hx 8 (by decide)
   have y9 : wr.cell? ⟨b, off + k * 10 + 9, none⟩ = some (.slice x.v.la x.v.ln x.v.lc) := hcell k x hx 9 (by decide)
   obtain ⟨V1, hV1⟩ : ∃ V, V = wr.alloc (.cells #[.int .u64 (wd x.S 0), .int .u64 (wd x.S 1), .int .u64 (wd x.S 2), .int .u64 (wd x.S 3), .int .u64 (wd x.S 4), .int .u64 (wd x.S 5), .int .u64 (wd x.S 6), .int .u64 (wd x.S 7), .slice x.v.sa x.v.sn x.v.sc, .slice x.v.la x.v.ln x.v.lc] 171) := ⟨_, rfl⟩
   have hb1 : Below wr.heap.size wr V1 := by rw [hV1]; exact (Below.refl _ wr).alloc (Nat.le_refl _) _
   have hX : Blk V1 wr.heap.size 171 [.int .u64 (wd x.S 0), .int .u64 (wd x.S 1), .int .u64 (wd x.S 2), .int .u64 (wd x.S 3), .int .u64 (wd x.S 4), .int .u64 (wd x.S 5), .int .u64 (wd x.S 6), .int .u64 (wd x.S 7), .slice x.v.sa x.v.sn x.v.sc, .slice x.v.la x.v.ln x.v.lc] := by rw [hV1]; exact blk_new wr _ _
   have q0 := hX.cell (i := 0) rfl
   have q1 := hX.cell (i := 1) rfl
   have q2 := hX.cell (i := 2) rfl
   have q3 := hX.cell (i := 3) rfl
   have q4 := hX.cell (i := 4) rfl
   have q5 := hX.cell (i := 5) rfl
   have q6 := hX.cell (i := 6) rfl
   have q7 := hX.cell (i := 7) rfl
   have q8 := hX.cell (i := 8) rfl
   have q9 := hX.cell (i := 9) rfl
   have ql := hX.lt
   have hbs := hb.size
   have HB := Lib.hid (hb.trans (hb1.mono (Nat.le_trans HS.out hbs)))
   obtain ⟨fn, tmps, assign, body, hy, hRd⟩ := HY.out pre (k, x) V1 V1 (own_kept HJ.out hJs hb1) (Below.refl _ _) (fun h => by cases h) ⟨hp.symm, by rw [hp]; exact hx⟩ (by rw [hp, Hlen.out]; exact hlt)
   dsimp only at hy
   unfold REn.val at hy
   have HP := Eqn.mk hp
   clear hb hb1 hX hcell hJs hx hR hbn hp
   gi_upto_region 3 with fail
   rw [← hV1]
   clear hV1 y0 y1 y2 y3 y4 y5 y6 y7 y8
   generalize wr.heap.size = p4 at *
   gi_wp2_with fail
   refine hRd.mono ?_
   rintro e W3 (⟨rfl, hJ3, hk3, hkp, _⟩ | ⟨rfl, hk3, hJx3⟩)
   ·have HJ3 := Lib.hid hJ3
    have HB3 := Lib.hid (HB.out.trans hkp.1)
    clear hJ3 hk3 hkp hRd hy
    gi_wp2_with fail
    go_roundw
    case rel => exact ⟨k + 1, pre ++ [(k, x)], hlt, by go_num, by rw [List.length_append, HP.out]; rfl, HJ3.out, HB3.out⟩
    case measure => simp [intOf]; omega
   ·gi_wp2_with fail
    refine bodyPost_ret (results_none rfl _ _ _) rfl ?_
    exact ⟨⟨_, rfl⟩, .inr ⟨_, trivial, hJx3⟩⟩
  ·obtain rfl : k = m := by omega
   have HJs := Lib.hid hJs
   have HP := Eqn.mk hp
   clear hJs hb hp
   gi_wp2_with fail
   go_end0
   exact ⟨⟨_, rfl⟩, .inl ⟨pre, by rw [HP.out, Hlen.out], HJs.out⟩⟩
end Go.Proofs.YtdpbbhbegehcjaaGreatDoor

namespace Go.Proofs.YtdpbbhbegehcjaaGreatDoor
open Go.RowKit Go.Shelf
attribute [local go_sem] Oper.semAt_some
def fndVR (φ : Nat → Bool) (L : List REn) : Value := match L.find? (fun x => φ x.S) with | none => .agg #[.slice none 0 0, .slice none 0 0] | some x => x.v.val
def FdR (p2 p3 p4 p6 : Nat) (ds : List Nat) (a : Act) : Prop := ∃ u : Nat → Value, a = { tmps := #[u 0, u 1, (.pointer (some ⟨p2, 0, none⟩)), (.pointer (some ⟨p3, 0, none⟩)), (.pointer (some ⟨p4, 0, none⟩)), (.bool false), (.pointer (some ⟨p6, 0, none⟩)), u 7, u 8, u 9, u 10, u 11, u 12, u 13, u 14, u 15, u 16, u 17, u 18, u 19, u 20], defers := marksOf ds }
theorem FdR_mk {p2 p3 p4 p6 : Nat} {ds : List Nat} {u0 u1 u7 u8 u9 u10 u11 u12 u13 u14 u15 u16 u17 u18 u19 u20 : Value} : FdR p2 p3 p4 p6 ds { tmps := #[u0, u1, (.pointer (some ⟨p2, 0, none⟩)), (.pointer (some ⟨p3, 0, none⟩)), (.pointer (some ⟨p4, 0, none⟩)), (.bool false), (.pointer (some ⟨p6, 0, none⟩)), u7, u8, u9, u10, u11, u12, u13, u14, u15, u16, u17, u18, u19, u20], defers := marksOf ds } := ⟨fun i => [u0, u1, undef, undef, undef, undef, undef, u7, u8, u9, u10, u11, u12, u13, u14, u15, u16, u17, u18, u19, u20].getD i undef, rfl⟩
theorem find_snocR {α : Type} {p : α → Bool} {L : List α} {k : Nat} {x : α} (hx : L[k]? = some x) (hno : ∀ y ∈ L.take k, p y = false) (hp : p x = true) : L.find? p = some x := by
 have h : L = L.take k ++ (x :: L.drop (k + 1)) := by
  obtain ⟨h1, rfl⟩ := List.getElem?_eq_some_iff.1 hx
  rw [← List.drop_eq_getElem_cons h1, List.take_append_drop]
 rw [h, List.find?_append, List.find?_eq_none.2 (fun y hy => by rw [hno y hy]; decide), Option.none_or, List.find?_cons, hp]
theorem findR_any (f : Nat) (bnd cap : Array Value) (φ : Nat → Bool) (A : Option Addr) (m c : Nat) (L : List REn) (w : World) (hL : RowX 10 REn.cell w (fun _ => True) A m L) (hm : m ≤ 100000)
  (hf : ∀ args w, (callFunc f args).run Tryz.prog w = .ok (.enter f args) w) (HF : ∀ y ∈ L, ∀ W, Below w.heap.size w W → Calls Tryz.prog f (bnd.push (sV y.S) ++ cap) W (RetPost (.bool (φ y.S)) W.heap.size W)) :
  Calls Tryz.prog 47 #[.agg #[.slice A m c], .func (.func f) bnd cap] w (RetPost (.tuple #[fndVR φ L, .bool (L.any fun x => φ x.S)]) w.heap.size w) := by
 obtain ⟨p2, hp2⟩ : ∃ p, p = w.heap.size := ⟨_, rfl⟩
 obtain ⟨p3, hp3⟩ : ∃ p, p = w.heap.size + 1 := ⟨_, rfl⟩
 obtain ⟨p4, hp4⟩ : ∃ p, p = w.heap.size + 1 + 1 := ⟨_, rfl⟩
 obtain ⟨p6, hp6⟩ : ∃ p, p = w.heap.size + 1 + 1 + 1 := ⟨_, rfl⟩
 have HL := Lib.hid ((hL.mono (q := (· < w.heap.size)) (by decide) (fun _ _ h => h)))
 have HF := Lib.hid HF
 have hlen := Eqn.mk hL.1
 clear hL
 obtain ⟨V0, hV0⟩ : ∃ V0, V0 = (((w.alloc (.cells #[.slice A m c] 108)).alloc (.cells #[.func (.func f) bnd cap] 120)).alloc (.cells #[.slice none 0 0, .slice none 0 0] 44)).alloc (.cells #[.slice none 0 0, .slice none 0 0] 44) := ⟨_, rfl⟩
 have hP0 : Hp w w V0 [.blk p2 108 [.slice A m c], .blk p3 120 [.func (.func f) bnd cap], .blk p4 44 [.slice none 0 0, .slice none 0 0], .blk p6 44 [.slice none 0 0, .slice none 0 0]] [] := by
  have h := ((((Hp.start w).alloc [.slice A m c] 108).alloc [.func (.func f) bnd cap] 120).alloc [.slice none 0 0, .slice none 0 0] 44).alloc [.slice none 0 0, .slice none 0 0] 44
  simp only [World.size_alloc] at h
  rw [hV0, hp2, hp3, hp4, hp6]; exact h
 have HP0 := Lib.hid hP0
 clear hP0
 refine (callsIn_wide (n := 3)).1 ?_
 refine callsIn_of_wp_marks Tryz.func47 rfl trivial ?_ rfl
 simp only [Tryz.ntmps47, List.size_toArray, List.length_cons, List.length_nil, Nat.reduceAdd, Nat.reduceSub, Array.replicate_succ, Array.replicate_zero, List.push_toArray, List.append_toArray, List.nil_append, List.cons_append]
 gi_wp2_with fail
 refine wpIn_wide.2 (wp_scope_jumps 0 (fun a W => ∃ (D : Nat) (x : REn), FdR p2 p3 p4 p6 [D] a ∧ L.find? (fun y => φ y.S) = some x ∧ Hp w W W [.blk p2 108 [.slice A m c], .blk p3 120 [.func (.func f) bnd cap], .blk p4 44 [.slice none 0 0, .slice none 0 0], .blk p6 44 [.slice x.v.sa x.v.sn x.v.sc, .slice x.v.la x.v.ln x.v.lc]] [D]) (fun _ _ => 0) rfl (wpIn_wide (n := 3).1 ?first) (fun a W hJ => wpIn_wide (n := 3).1 ?pass))
 case first =>
  gi_upto_region 2 with fail
  rw [← hV0, ← hp6, ← hp4, ← hp3, ← hp2]
  clear hV0 hp6 hp4 hp3
  have HP2 := Lib.hid hp2
  clear hp2
  have m2 := HP0.out.c 0 0 rfl rfl
  have m3 := HP0.out.c 1 0 rfl rfl
  have l2 := HP0.out.lt 0 rfl
  gi_wp2_with fail
  refine ⟨trivial, (callsIn_wide.2 (allR_any A m c _)).mono ?_⟩
  rintro e WE ⟨rfl, hWE⟩
  have hBq : Blk WE V0.heap.size 108 [.slice A m c] := by rw [hWE]; exact blk_new V0 _ _
  have hPE := HP0.out.alloc0 (.cells #[.slice A m c] 108)
  rw [← hWE] at hPE
  have hLE := HL.out.turn (X := WE) (by decide) (fun k (hk : k < w.heap.size) _ => hPE.below.block k hk)
  have hsq := all1R 2 (by decide) w.heap.size p2 V0.heap.size A m c L WE hBq hLE hPE.below.size hm
  have HSQ := Lib.hid hsq
  have HPE := Lib.hid hPE
  clear hWE m2 m3 l2 hBq hPE hLE hsq
  generalize V0.heap.size = Bq at *
  gi_wp2_with fail
  refine hp_hands (w := w) (ds := []) (σ := List Value) (fun v => [.blk p2 108 [.slice A m c], .blk p3 120 [.func (.func f) bnd cap], .blk p4 44 [.slice none 0 0, .slice none 0 0], .blk p6 44 v]) (fun pre v => v = [.slice none 0 0, .slice none 0 0] ∧ (∀ y ∈ pre, φ y.2.S = false) ∧ pre.map Prod.snd = L.take pre.length) (fun c _ v => c = .goto 0 ∧ ∃ x : REn, L.find? (fun y => φ y.S) = some x ∧ v = [.slice x.v.sa x.v.sn x.v.sc, .slice x.v.la x.v.ln x.v.lc]) 0 (fun _ => []) (fun pre x => x.1 = pre.length ∧ L[pre.length]? = some x.2) ?a₁ 171 (fun x => [.int .u64 (wd x.2.S 0), .int .u64 (wd x.2.S 1), .int .u64 (wd x.2.S 2), .int .u64 (wd x.2.S 3), .int .u64 (wd x.2.S 4), .int .u64 (wd x.2.S 5), .int .u64 (wd x.2.S 6), .int .u64 (wd x.2.S 7), .slice x.2.v.sa x.2.v.sn x.2.v.sc, .slice x.2.v.la x.2.v.ln x.2.v.lc]) (by decide)
   (gf := 119) (lb := #[.pointer (some ⟨Bq, 0, none⟩)]) rfl (enters_of Tryz.func119 (by kernel_rfl) rfl) HSQ.out (Nat.le_refl _) (fun _ => rfl) [.slice none 0 0, .slice none 0 0] ⟨rfl, fun _ h => (by cases h), rfl⟩ HPE.out (fun _ => rfl)
   (fun pre x L X Y hX hbl hG => ⟨hG, by rw [List.append_nil]; exact (hX.keep hbl).since' (KeepsOthers.refl _), fun _ h => (by cases h)⟩) ?assign ?body ?done ?stop
  case assign =>
   intro l x p W K hp hK
   unfold REn.val
   gi_wp2
   rw [← hp]
   exact hK
  case body =>
   rintro l pre x e p X v _ ⟨rfl, hno, hpre⟩ ⟨hx1, hx2⟩ hX hlen
   have HX := Lib.hid hX
   have m3 := hX.c 2 0 rfl rfl
   have l3 := hX.lt 2 rfl
   have r6 := hX.c 4 0 rfl rfl
   have r7 := hX.c 4 1 rfl rfl
   have f6 := hX.f 4 rfl
   have l6 := hX.lt 4 rfl
   have z0 := hX.c 5 0 rfl rfl
   have z1 := hX.c 5 1 rfl rfl
   have z2 := hX.c 5 2 rfl rfl
   have z3 := hX.c 5 3 rfl rfl
   have z4 := hX.c 5 4 rfl rfl
   have z5 := hX.c 5 5 rfl rfl
   have z6 := hX.c 5 6 rfl rfl
   have z7 := hX.c 5 7 rfl rfl
   have z8 := hX.c 5 8 rfl rfl
   have z9 := hX.c 5 9 rfl rfl
   have zl := hX.lt 5 rfl
   have hlp : (L.take pre.length).length = pre.length := by rw [List.length_take]; omega
   have HN : Hid (∀ y ∈ L.take pre.length, φ y.S = false) := Lib.hid (by
    intro y hy
    rw [← hpre] at hy
    obtain ⟨q, hq, rfl⟩ := List.mem_map.1 hy
    exact hno q hq)
   have HNO := Lib.hid hno
   have HPR := Eqn.mk hpre
   have HX2 := Eqn.mk hx2
   have HFx := Lib.hid (HF.out x.2 (List.mem_of_getElem? hx2) X hX.below)
   have HSN : Hid (φ x.2.S = true → L.find? (fun y => φ y.S) = some x.2) := Lib.hid (fun h => find_snocR (p := fun y : REn => φ y.S) hx2 HN.out h)
   have HGO : Hid (φ x.2.S = false → (∀ y ∈ pre ++ [x], φ y.2.S = false) ∧ (pre ++ [x]).map Prod.snd = L.take (pre ++ [x]).length) := Lib.hid (fun h => by
    refine ⟨fun y hy => ?_, by rw [List.map_append, hpre, List.length_append, List.length_singleton, List.take_add_one, hx2]; rfl⟩
    rcases List.mem_append.1 hy with hy | hy
    ·exact hno y hy
    ·rw [List.mem_singleton] at hy; subst hy; exact h)
   clear hX hno hpre hx1 hx2 hlp HN HNO HPR HX2
   generalize φ x.2.S = b at *
   obtain ⟨xi, xe⟩ := x
   dsimp only at *
   unfold sV at HFx
   gi_wp2_with fail
   refine ⟨trivial, CallsIn.inRound l (callsIn_wide.2 (HFx.out.mono ?_))⟩
   rintro e' W5 ⟨rfl, hb5⟩
   have hX5 := HX.out.keep hb5
   have HX5 := Lib.hid hX5
   clear m3 l3 r6 r7 f6 l6 z0 z1 z2 z3 z4 z5 z6 z7 z8 z9 zl hb5 HX HFx
   cases b with
   | true =>
    have r6 := hX5.c 4 0 rfl rfl
    have r7 := hX5.c 4 1 rfl rfl
    have f6 := hX5.f 4 rfl
    have l6 := hX5.lt 4 rfl
    have z8 := hX5.c 5 8 rfl rfl
    have z9 := hX5.c 5 9 rfl rfl
    have zl := hX5.lt 5 rfl
    clear hX5 HGO
    gi_wp2_with fail
    refine wpIn_goto ?_
    refine ⟨_, ⟨rfl, xe, HSN.out (by trivial), rfl⟩, ?_⟩
    exact ((HX5.out.set 4 0 _ rfl).set 4 1 _ rfl).sub (by simp)
   | false =>
    clear hX5 HSN
    gi_wp2_with fail
    exact ⟨_, ⟨rfl, HGO.out (by trivial)⟩, HX5.out.sub (by simp)⟩
  case done =>
   rintro D xs X v hS ⟨rfl, hno, hpre⟩ hX
   have hall : ∀ y ∈ L, φ y.S = false := by
    intro y hy
    have hS : xs.length = L.length := hS
    rw [hS, List.take_length] at hpre
    rw [← hpre] at hy
    obtain ⟨q, hq, rfl⟩ := List.mem_map.1 hy
    exact hno q hq
   have HN1 : Hid (fndVR φ L = .agg #[.slice none 0 0, .slice none 0 0]) := Lib.hid (by unfold fndVR; rw [List.find?_eq_none.2 (fun y hy => by rw [hall y hy]; decide)])
   have HN2 : Hid ((L.any fun x => φ x.S) = false) := Lib.hid (by rw [List.any_eq_false]; intro y hy; rw [hall y hy]; decide)
   have HX := Lib.hid hX
   have r6 := hX.c 3 0 rfl rfl
   have r7 := hX.c 3 1 rfl rfl
   have l6 := hX.lt 3 rfl
   have g0 := hX.c 2 0 rfl rfl
   have g1 := hX.c 2 1 rfl rfl
   have g2 := hX.f 2 rfl
   have g3 := hX.lt 2 rfl
   clear hX hno hpre hS hall
   gi_wp2_with fail
   show LeavesInM _ _ _ _ _ _ (marksOf [D]) .returning _
   refine hp_leaves (fun Y hY => ?_) _ _ _ ((HX.out.set 2 0 _ rfl).set 2 1 _ rfl)
   exact ⟨.tuple #[.agg #[.slice none 0 0, .slice none 0 0], .bool false], by simp [results, Tryz.results47, go_sem, hY.c 2 0 rfl rfl, hY.c 2 1 rfl rfl], by rw [HN1.out, HN2.out], hY.below⟩
  case stop =>
   rintro D c xs X v _ ⟨rfl, x, hx, rfl⟩ hX
   refine wpIn_goto ?_
   exact ⟨rfl, D, x, FdR_mk, hx, hX⟩
 case pass =>
  obtain ⟨D, x, ⟨u, rfl⟩, hx, hX⟩ := hJ
  have HN1 : Hid (fndVR φ L = x.v.val) := Lib.hid (by unfold fndVR; rw [hx])
  have HN2 : Hid ((L.any fun x => φ x.S) = true) := Lib.hid (by rw [List.any_eq_true]; exact ⟨x, List.mem_of_find?_eq_some hx, by have := List.find?_some hx; exact this⟩)
  have HX := Lib.hid hX
  have r6 := hX.c 3 0 rfl rfl
  have r7 := hX.c 3 1 rfl rfl
  have l6 := hX.lt 3 rfl
  have g0 := hX.c 2 0 rfl rfl
  have g1 := hX.c 2 1 rfl rfl
  have g2 := hX.f 2 rfl
  have g3 := hX.lt 2 rfl
  clear hX hx hV0 HP0 HF hp6 hp4 hp3 hp2
  gi_wp2_with fail
  show LeavesInM _ _ _ _ _ _ (marksOf [D]) .returning _
  refine hp_leaves (fun Y hY => ?_) _ _ _ ((HX.out.set 2 0 _ rfl).set 2 1 _ rfl)
  exact ⟨.tuple #[.agg #[.slice x.v.sa x.v.sn x.v.sc, .slice x.v.la x.v.ln x.v.lc], .bool true], by simp [results, Tryz.results47, go_sem, hY.c 2 0 rfl rfl, hY.c 2 1 rfl rfl], by rw [HN1.out, HN2.out]; rfl, hY.below⟩
end Go.Proofs.YtdpbbhbegehcjaaGreatDoor

namespace Go.Proofs.YtdpbbhbegehcjaaGreatDoor
open Go.RowKit Go.Shelf
attribute [local go_sem] Oper.semAt_some
theorem etR_info : (Tryz.prog.info? 171).map (fun i => (i.zero, i.size, i.bytes)) = some (some (.agg #[.int .u64 0, .int .u64 0, .int .u64 0, .int .u64 0, .int .u64 0, .int .u64 0, .int .u64 0, .int .u64 0, .slice none 0 0, .slice none 0 0]), 10, 112) := by kernel_rfl
def NewEsR (O : List REn) (w : World) (e : Ending) (w' : World) : Prop := ∃ v, e = .returned v ∧ w'.ownsRow w.heap.size 171 10 v O.length (flat 10 REn.cell O) ∧ Below w.heap.size w w'
theorem withoutR_any (f : Nat) (bnd cap : Array Value) (φ : Nat → Bool) (A : Option Addr) (m c : Nat) (L : List REn) (w : World) (hL : RowX 10 REn.cell w (fun _ => True) A m L) (hm : m ≤ 100000)
  (hf : ∀ args w, (callFunc f args).run Tryz.prog w = .ok (.enter f args) w) (HF : ∀ y ∈ L, ∀ W, Below w.heap.size w W → Calls Tryz.prog f (bnd.push (sV y.S) ++ cap) W (RetPost (.bool (φ y.S)) W.heap.size W)) :
  Calls Tryz.prog 91 #[.agg #[.slice A m c], .func (.func f) bnd cap] w (NewEsR (L.filter fun x => !φ x.S) w) := by
 obtain ⟨i0, hi, hz0, hz1, hz2⟩ := info_parts etR_info
 obtain ⟨p2, hp2⟩ : ∃ p, p = w.heap.size := ⟨_, rfl⟩
 obtain ⟨p3, hp3⟩ : ∃ p, p = w.heap.size + 1 := ⟨_, rfl⟩
 obtain ⟨p5, hp5⟩ : ∃ p, p = w.heap.size + 1 + 1 := ⟨_, rfl⟩
 have HL := Lib.hid ((hL.mono (q := (· < w.heap.size)) (by decide) (fun _ _ h => h)))
 have HF := Lib.hid HF
 have hlen := Eqn.mk hL.1
 clear hL
 obtain ⟨V0, hV0⟩ : ∃ V0, V0 = ((w.alloc (.cells #[.slice A m c] 108)).alloc (.cells #[.func (.func f) bnd cap] 120)).alloc (.cells #[.slice none 0 0] 106) := ⟨_, rfl⟩
 have hP0 : Hp w w V0 [.blk p2 108 [.slice A m c], .blk p3 120 [.func (.func f) bnd cap], .blk p5 106 [.slice none 0 0], .row (.slice none 0 0) 171 10 0 (flat 10 REn.cell [])] [] := by
  have h := ((((Hp.start w).alloc [.slice A m c] 108).alloc [.func (.func f) bnd cap] 120).alloc [.slice none 0 0] 106).nil 171 10
  simp only [World.size_alloc] at h
  rw [hV0, hp2, hp3, hp5]; exact h
 have HP0 := Lib.hid hP0
 clear hP0
 refine (callsIn_wide (n := 3)).1 ?_
 refine callsIn_of_wp_marks Tryz.func91 rfl trivial ?_ rfl
 simp only [Tryz.ntmps91, List.size_toArray, List.length_cons, List.length_nil, Nat.reduceAdd, Nat.reduceSub, Array.replicate_succ, Array.replicate_zero, List.push_toArray, List.append_toArray, List.nil_append, List.cons_append]
 gi_upto_region 2 with fail
 rw [← hV0, ← hp5, ← hp3, ← hp2]
 clear hV0 hp5 hp3
 have HP2 := Lib.hid hp2
 clear hp2
 have m2 := HP0.out.c 0 0 rfl rfl
 have l2 := HP0.out.lt 0 rfl
 gi_wp2_with fail
 refine ⟨trivial, (callsIn_wide.2 (allR_any A m c _)).mono ?_⟩
 rintro e WE ⟨rfl, hWE⟩
 have hBq : Blk WE V0.heap.size 108 [.slice A m c] := by rw [hWE]; exact blk_new V0 _ _
 have hPE := HP0.out.alloc0 (.cells #[.slice A m c] 108)
 rw [← hWE] at hPE
 have hLE := HL.out.turn (X := WE) (by decide) (fun k (hk : k < w.heap.size) _ => hPE.below.block k hk)
 have hsq := all1R 2 (by decide) w.heap.size p2 V0.heap.size A m c L WE hBq hLE hPE.below.size hm
 have HSQ := Lib.hid hsq
 have HPE := Lib.hid hPE
 clear hWE m2 l2 hBq hPE hLE hsq
 generalize V0.heap.size = Bq at *
 gi_wp2_with fail
 refine hp_hands (w := w) (ds := []) (σ := Value × List REn) (fun s => [.blk p2 108 [.slice A m c], .blk p3 120 [.func (.func f) bnd cap], .blk p5 106 [s.1], .row s.1 171 10 s.2.length (flat 10 REn.cell s.2)]) (fun pre s => s.2 = (L.take pre.length).filter (fun x => !φ x.S)) (fun _ _ _ => False) 0 (fun _ => []) (fun pre x => x.1 = pre.length ∧ L[pre.length]? = some x.2) ?a₁ 171 (fun x => [.int .u64 (wd x.2.S 0), .int .u64 (wd x.2.S 1), .int .u64 (wd x.2.S 2), .int .u64 (wd x.2.S 3), .int .u64 (wd x.2.S 4), .int .u64 (wd x.2.S 5), .int .u64 (wd x.2.S 6), .int .u64 (wd x.2.S 7), .slice x.2.v.sa x.2.v.sn x.2.v.sc, .slice x.2.v.la x.2.v.ln x.2.v.lc]) (by decide)
  (gf := 119) (lb := #[.pointer (some ⟨Bq, 0, none⟩)]) rfl (enters_of Tryz.func119 (by kernel_rfl) rfl) HSQ.out (Nat.le_refl _) (fun _ => rfl) (.slice none 0 0, []) rfl HPE.out (fun _ => rfl)
  (fun pre x L X Y hX hbl hG => ⟨hG, by rw [List.append_nil]; exact (hX.keep hbl).since' (KeepsOthers.refl _), fun _ h => (by cases h)⟩) ?assign ?body ?done ?stop
 case assign =>
  intro l x p W K hp hK
  unfold REn.val
  gi_wp2
  rw [← hp]
  exact hK
 case body =>
  rintro l pre x e p X ⟨v, O⟩ _ hO ⟨hx1, hx2⟩ hX hlen
  dsimp only at hO hX
  have HX := Lib.hid hX
  have m3 := hX.c 2 0 rfl rfl
  have l3 := hX.lt 2 rfl
  have z0 := hX.c 5 0 rfl rfl
  have z1 := hX.c 5 1 rfl rfl
  have z2 := hX.c 5 2 rfl rfl
  have z3 := hX.c 5 3 rfl rfl
  have z4 := hX.c 5 4 rfl rfl
  have z5 := hX.c 5 5 rfl rfl
  have z6 := hX.c 5 6 rfl rfl
  have z7 := hX.c 5 7 rfl rfl
  have zl := hX.lt 5 rfl
  have hOl : O.length ≤ 100000 := by
   have := List.length_filter_le (fun x : REn => !φ x.S) (L.take pre.length)
   rw [← hO, List.length_take] at this
   have := hlen; have := hlen; have h3 : L.length = m := ‹Eqn L.length m›
   omega
  have HSU : Hid ((L.take (pre ++ [x]).length).filter (fun x => !φ x.S) = O ++ if φ x.2.S = true then [] else [x.2]) := Lib.hid (by
   rw [List.length_append, List.length_singleton, filter_take_one hx2, ← hO]
   cases φ x.2.S <;> rfl)
  have HFx := Lib.hid (HF.out x.2 (List.mem_of_getElem? hx2) X hX.below)
  clear hX hO hx1 hx2 hlen
  generalize φ x.2.S = b at *
  obtain ⟨xi, xe⟩ := x
  dsimp only at *
  unfold sV at HFx
  gi_wp2_with fail
  refine ⟨trivial, CallsIn.inRound l (callsIn_wide.2 (HFx.out.mono ?_))⟩
  rintro e' W5 ⟨rfl, hb5⟩
  have hX5 := HX.out.keep hb5
  have HX5 := Lib.hid hX5
  clear m3 l3 z0 z1 z2 z3 z4 z5 z6 z7 zl hb5 HX HFx
  cases b with
  | false =>
   have HSU2 : Hid ((L.take (pre ++ [(xi, xe)]).length).filter (fun x => !φ x.S) = O ++ [xe]) := Lib.hid (HSU.out.trans (by simp))
   have r5 := hX5.c 3 0 rfl rfl
   have f5 := hX5.f 3 rfl
   have l5 := hX5.lt 3 rfl
   have z0 := hX5.c 5 0 rfl rfl
   have z1 := hX5.c 5 1 rfl rfl
   have z2 := hX5.c 5 2 rfl rfl
   have z3 := hX5.c 5 3 rfl rfl
   have z4 := hX5.c 5 4 rfl rfl
   have z5 := hX5.c 5 5 rfl rfl
   have z6 := hX5.c 5 6 rfl rfl
   have z7 := hX5.c 5 7 rfl rfl
   have z8 := hX5.c 5 8 rfl rfl
   have z9 := hX5.c 5 9 rfl rfl
   have zl := hX5.lt 5 rfl
   obtain ⟨A1, c1, rfl⟩ := hX5.form 4 rfl
   clear hX5 HSU
   gi_wp2_with (gi_at_builtin; refine wpListIn_append_own_at _ rfl _ _ 106 rfl w.heap.size 171 i0 (.agg #[.int .u64 0, .int .u64 0, .int .u64 0, .int .u64 0, .int .u64 0, .int .u64 0, .int .u64 0, .int .u64 0, .slice none 0 0, .slice none 0 0]) 10 112 Tryz.underlying106 hi hz0 hz1 hz2 rfl (by decide) _ _ _ rfl ((HX5.out.row 4 rfl).alloc _) ⟨W5.heap.size, 0, none⟩ 1 1 [.int .u64 (wd xe.S 0), .int .u64 (wd xe.S 1), .int .u64 (wd xe.S 2), .int .u64 (wd xe.S 3), .int .u64 (wd xe.S 4), .int .u64 (wd xe.S 5), .int .u64 (wd xe.S 6), .int .u64 (wd xe.S 7), .slice xe.v.sa xe.v.sn xe.v.sc, .slice xe.v.la xe.v.ln xe.v.lc] rfl rfl (cells_newR W5 [.int .u64 (wd xe.S 0), .int .u64 (wd xe.S 1), .int .u64 (wd xe.S 2), .int .u64 (wd xe.S 3), .int .u64 (wd xe.S 4), .int .u64 (wd xe.S 5), .int .u64 (wd xe.S 6), .int .u64 (wd xe.S 7), .slice xe.v.sa xe.v.sn xe.v.sc, .slice xe.v.la xe.v.ln xe.v.lc] 171) (by simp [Value.oneCell']) (by unfold maxLen; omega) (by omega) (by have := HX5.out.below.size; simp; omega) ?_; intro v2 W6 hown hgrow _ hat; have hX6 := (HX5.out.alloc0 _).grow 4 rfl hgrow hown hat; have HX6 := Lib.hid hX6; have f6 := hX6.f 3 rfl; have l6 := hX6.lt 3 rfl; have r6 := hX6.c 3 0 rfl rfl; obtain ⟨A5, cp5, rfl⟩ := hX6.form 4 rfl; clear hown hgrow hat hX6 f5 l5 r5 z0 z1 z2 z3 z4 z5 z6 z7 z8 z9 zl)
   refine ⟨(.slice A5 (O.length + 1) cp5, O ++ [xe]), HSU2.out.symm, ?_⟩
   dsimp only
   rw [flat_snoc, List.length_append, show (List.range 10).map xe.cell = [.int .u64 (wd xe.S 0), .int .u64 (wd xe.S 1), .int .u64 (wd xe.S 2), .int .u64 (wd xe.S 3), .int .u64 (wd xe.S 4), .int .u64 (wd xe.S 5), .int .u64 (wd xe.S 6), .int .u64 (wd xe.S 7), .slice xe.v.sa xe.v.sn xe.v.sc, .slice xe.v.la xe.v.ln xe.v.lc] from rfl]
   exact (HX6.out.set 3 0 _ rfl).sub (by simp)
  | true =>
   have HSU2 : Hid ((L.take (pre ++ [(xi, xe)]).length).filter (fun x => !φ x.S) = O) := Lib.hid (HSU.out.trans (by simp))
   clear hX5 HSU
   gi_wp2_with fail
   exact ⟨(v, O), HSU2.out.symm, HX5.out.sub (by simp)⟩
 case done =>
  rintro D xs X ⟨v, O⟩ hS hO hX
  dsimp only at hO hX
  have hS : xs.length = L.length := hS
  rw [hS, List.take_length] at hO
  have HO := Eqn.mk hO
  have HX := Lib.hid hX
  have r5 := hX.c 2 0 rfl rfl
  have l5 := hX.lt 2 rfl
  clear hX hS hO
  gi_wp2_with fail
  show LeavesInM _ _ _ _ _ _ (marksOf [D]) .returning _
  refine hp_leaves (fun Y hY => ?_) _ _ _ HX.out
  exact ⟨v, by simp [results, Tryz.results91, go_sem], v, rfl, by rw [← HO.out]; exact hY.row 3 rfl, hY.below⟩
 case stop =>
  rintro D c pre X s _ h _
  exact h.elim
end Go.Proofs.YtdpbbhbegehcjaaGreatDoor

namespace Go.Proofs.YtdpbbhbegehcjaaGreatDoor
open Go.RowKit Go.Shelf
def AddedR (g : Nat) (cs : List Value) (K : List REn) (S : Nat) (x : Prf) (w : World) (e : Ending) (w' : World) : Prop :=
 (1000 ≤ K.length ∧ e = .returned (.int .i64 7) ∧ Below w.heap.size w w') ∨
 (K.length < 1000 ∧ e = .returned (.int .i64 0) ∧ w.grownBy w' (some g) ∧ ∃ (A : Option Addr) (c : Nat), Blk w' g 110 (cs.set 14 (.slice A (K.length + 1) c)) ∧ w'.ownsRow w.heap.size 171 10 (.slice A (K.length + 1) c) (K.length + 1) (flat 10 REn.cell (K ++ [⟨S, x⟩])))
theorem addR_any (f : Nat) (bnd cap : Array Value) (φ : Nat → Bool) (g : Nat) (cs : List Value) (S : Nat) (x : Prf) (A : Option Addr) (m c : Nat) (L : List REn) (w : World) (hg : Blk w g 110 cs) (hc : cs[14]? = some (.slice A m c)) (hL : RowX 10 REn.cell w (fun _ => True) A m L) (hm : m ≤ 100000)
  (hf : ∀ args w, (callFunc f args).run Tryz.prog w = .ok (.enter f args) w) (HF : ∀ y ∈ L, ∀ W, Below w.heap.size w W → Calls Tryz.prog f (bnd.push (sV y.S) ++ cap) W (RetPost (.bool (φ y.S)) W.heap.size W)) :
  Calls Tryz.prog 49 #[.pointer (some ⟨g, 14, none⟩), sV S, x.val, .func (.func f) bnd cap] w (AddedR g cs (L.filter fun x => !φ x.S) S x w) := by
 obtain ⟨i0, hi, hz0, hz1, hz2⟩ := info_parts etR_info
 obtain ⟨p5, hp5⟩ : ∃ p, p = w.heap.size := ⟨_, rfl⟩
 obtain ⟨p6, hp6⟩ : ∃ p, p = w.heap.size + 1 := ⟨_, rfl⟩
 obtain ⟨V0, hV0⟩ : ∃ V0, V0 = (w.alloc (.cells (sL S).toArray 100)).alloc (.cells #[.slice x.sa x.sn x.sc, .slice x.la x.ln x.lc] 44) := ⟨_, rfl⟩
 have hP0 : Hp w w V0 [.blk p5 100 (tabL 8 (sC S)), .blk p6 44 [.slice x.sa x.sn x.sc, .slice x.la x.ln x.lc]] [] := by
  have h := ((Hp.start w).allocS S 100).alloc [.slice x.sa x.sn x.sc, .slice x.la x.ln x.lc] 44
  simp only [World.size_alloc] at h
  rw [hV0, hp5, hp6]; exact h
 have HP0 := Lib.hid hP0
 have cg0 : V0.cell? ⟨g, 14, none⟩ = some (.slice A m c) := (hg.keepB hP0.below hg.lt).cell hc
 have HW := Lib.hid (withoutR_any f bnd cap φ A m c L V0 (hL.keep (by decide) hP0.below) hm hf (fun y hy W hb => HF y hy W (hP0.below.trans (hb.mono hP0.below.size))))
 have HG := Lib.hid hg
 have HC := Lib.hid hc
 have hKl : (L.filter fun x => !φ x.S).length ≤ 100000 := by
  have := List.length_filter_le (fun x : REn => !φ x.S) L
  have := hL.1; omega
 generalize (L.filter fun x => !φ x.S) = K at *
 unfold sV
 unfold sL at hV0
 unfold Prf.val Prf.v1 Prf.v2
 clear hP0 hL hg hc HF
 go_enter Tryz.func49, Tryz.ntmps49
 go_upto_region 1 with fail
 rw [← hV0, ← hp6, ← hp5]
 clear hV0 hp5 hp6
 go_wp2_with fail
 refine HW.out.mono ?_
 rintro e W1 ⟨v, rfl, hown, hb1⟩
 have hP1 := HP0.out.pushRow hb1 hown
 have HP1 := Lib.hid hP1
 obtain ⟨A1, c1, rfl⟩ := hP1.form 2 rfl
 have zs := hP1.blk 0 rfl
 obtain ⟨z0, z1, z2, z3, z4, z5, z6, z7⟩ := zs.eight
 have zl := zs.lt
 have x0 := hP1.c 1 0 rfl rfl
 have x1 := hP1.c 1 1 rfl rfl
 have xl := hP1.lt 1 rfl
 clear hP1 hown hb1 cg0 HP0 HW zs
 by_cases hfull : 1000 ≤ K.length
 ·have j0 : (1000 : Int) ≤ (K.length : Int) := by omega
  go_wp2_with fail
  go_ret
  exact .inl ⟨hfull, rfl, HP1.out.below⟩
 ·have j0 : ¬ (1000 : Int) ≤ (K.length : Int) := by omega
  have hgl := HG.out.lt
  go_wp2_with (at_builtin; refine wpList_append_own_at _ rfl _ _ 106 rfl w.heap.size 171 i0 (.agg #[.int .u64 0, .int .u64 0, .int .u64 0, .int .u64 0, .int .u64 0, .int .u64 0, .int .u64 0, .int .u64 0, .slice none 0 0, .slice none 0 0]) 10 112 Tryz.underlying106 hi hz0 hz1 hz2 rfl (by decide) _ _ _ rfl ((HP1.out.row 2 rfl).alloc _) ⟨W1.heap.size, 0, none⟩ 1 1 [.int .u64 (wd S 0), .int .u64 (wd S 1), .int .u64 (wd S 2), .int .u64 (wd S 3), .int .u64 (wd S 4), .int .u64 (wd S 5), .int .u64 (wd S 6), .int .u64 (wd S 7), .slice x.sa x.sn x.sc, .slice x.la x.ln x.lc] rfl rfl (cells_newR W1 [.int .u64 (wd S 0), .int .u64 (wd S 1), .int .u64 (wd S 2), .int .u64 (wd S 3), .int .u64 (wd S 4), .int .u64 (wd S 5), .int .u64 (wd S 6), .int .u64 (wd S 7), .slice x.sa x.sn x.sc, .slice x.la x.ln x.lc] 171) (by simp [Value.oneCell']) (by unfold maxLen; omega) (by omega) (by have := HP1.out.below.size; simp; omega) ?_; intro v2 W6 hown hgrow _ hat; have hX6 := (HP1.out.alloc0 _).grow 2 rfl hgrow hown hat; have HX6 := Lib.hid hX6; obtain ⟨A5, cp5, rfl⟩ := hX6.form 2 rfl; have hG6 := HG.out.keepB hX6.below hgl; have cg6 : W6.cell? ⟨g, 14, none⟩ = some (.slice A m c) := hG6.cell HC.out; have fg6 := hG6.frozen; have lg6 := hG6.lt; clear hown hgrow hat hX6 hG6)
  go_ret
  have hG6 := HG.out.keepB HX6.out.below hgl
  refine .inr ⟨by omega, rfl, ?_, A5, cp5, hG6.set_ _ _, ?_⟩
  ·have hb := HX6.out.below
   have hs := hb.size
   refine ⟨hb.os, hb.tape, hb.output, by simp [World.setCell]; exact hs, fun k hk hne => ?_⟩
   rw [Below.heap_setCell _ _ _ _ (fun e => hne (by rw [e]))]
   exact hb.block k hk
  ·rw [flat_snoc, show (List.range 10).map (REn.cell ⟨S, x⟩) = [.int .u64 (wd S 0), .int .u64 (wd S 1), .int .u64 (wd S 2), .int .u64 (wd S 3), .int .u64 (wd S 4), .int .u64 (wd S 5), .int .u64 (wd S 6), .int .u64 (wd S 7), .slice x.sa x.sn x.sc, .slice x.la x.ln x.lc] from rfl]
   exact own_set (HX6.out.row 2 rfl) hgl _
end Go.Proofs.YtdpbbhbegehcjaaGreatDoor
