/- Contracts of problem.ValidRules and what it calls. -/
import Derived.WalkKit
import Derived.Deep.Draws
import Derived.MapKept
import Derived.Laws.StructEq
import Derived.Laws.AppendOwn
import Derived.Test.YtdpbbhbegehcjaaGreatDoorProg
import Derived.KernelRfl
import Derived.IntWalk
import Derived.Lib.AppendZerosOnto
import Derived.Test.YtdpbbhbegehcjaaGreatDoorPla01
set_option maxRecDepth 100000
set_option maxHeartbeats 1000000
namespace Go.Proofs.YtdpbbhbegehcjaaGreatDoor
open Go.RowKit
namespace Ay
variable {P : Program} {ops : Array Oper} {Q : Exit → Act → World → Prop}
theorem count_set {l : List Bool} {j : Nat} (h : l[j]? = some false) : (l.set j true).count false + 1 = l.count false := by
 induction l generalizing j with
 | nil => simp at h
 | cons x l ih =>
  cases j with
  | zero =>
   simp at h
   subst h
   simp
  | succ j =>
   simp at h
   have := ih h
   rw [List.set_cons_succ, List.count_cons, List.count_cons]
   omega
theorem any_inv (Inv : Array Bool → Act → World → Prop)
  (hend : ∀ (listed : Array Bool) a w, listed.size = ops.size → Region.ready .any ops listed = [] → Inv listed a w → Q .normal a w)
  (hstep : ∀ (listed : Array Bool) a w j o, ops[j]? = some o → listed.getD j true = false → (∀ e ∈ o.after, Region.binds .any e = true → listed.getD e.on false = true) → listed.size = ops.size → Inv listed a w →
   Region.wanted o (yielded ops a.tmps) = true ∧ o.wp P a w (fun a' w' => Inv (listed.setIfInBounds j true) a' w') Q) :
  ∀ (fuel : Nat) (listed : Array Bool) (a : Act) (w : World), listed.size = ops.size → listed.toList.count false = fuel → Inv listed a w → wpAny P .any ops Q fuel listed a w := by
 intro fuel
 induction fuel with
 | zero =>
  intro listed a w hs hc hI
  have hr : Region.ready .any ops listed = [] := by
   cases hr : Region.ready .any ops listed with
   | nil => rfl
   | cons x xs =>
    have hx : x ∈ Region.ready .any ops listed := by rw [hr]; simp
    obtain ⟨h1, o, ho, _⟩ := mem_ready.1 hx
    have hlt : x < listed.size := by rw [hs]; exact (Array.getElem?_eq_some_iff.1 ho).1
    have h2 : listed.toList[x]? = some false := by
     rw [Array.getElem?_toList, Array.getElem?_eq_getElem hlt]
     simp only [Array.getD_eq_getD_getElem?, Array.getElem?_eq_getElem hlt, Option.getD_some] at h1
     rw [h1]
    have := List.count_pos_iff.2 (List.mem_of_getElem? h2)
    omega
  exact ⟨hr, hend _ _ _ hs hr hI⟩
 | succ fuel ih =>
  intro listed a w hs hc hI
  refine ⟨fun hr => hend _ _ _ hs hr hI, fun j hj => ?_⟩
  obtain ⟨h1, o, ho, h2⟩ := mem_ready.1 hj
  obtain ⟨hw, h3⟩ := hstep listed a w j o ho h1 h2 hs hI
  have hlt : j < listed.size := by rw [hs]; exact (Array.getElem?_eq_some_iff.1 ho).1
  unfold wpOp
  simp only [ho, hw, if_true]
  left
  refine Oper.wp_mono (fun a' w' h => ih _ a' w' (by simp [hs]) ?_ h) h3
  have h4 : listed.toList[j]? = some false := by
   rw [Array.getElem?_toList, Array.getElem?_eq_getElem hlt]
   simp only [Array.getD_eq_getD_getElem?, Array.getElem?_eq_getElem hlt, Option.getD_some] at h1
   rw [h1]
  have := count_set h4
  rw [Array.toList_setIfInBounds]
  omega
theorem region {id : Nat} {a : Act} {w : World} (hm : P.follows .mixedOrders = true) (Inv : Array Bool → Act → World → Prop) (h0 : Inv (Array.replicate ops.size false) a w.drew)
  (hend : ∀ (listed : Array Bool) a w, listed.size = ops.size → Region.ready .any ops listed = [] → Inv listed a w → Q .normal a w)
  (hstep : ∀ (listed : Array Bool) a w j o, ops[j]? = some o → listed.getD j true = false → (∀ e ∈ o.after, Region.binds .any e = true → listed.getD e.on false = true) → listed.size = ops.size → Inv listed a w →
   Region.wanted o (yielded ops a.tmps) = true ∧ o.wp P a w (fun a' w' => Inv (listed.setIfInBounds j true) a' w') Q) :
  (Code.region id ops true).wp P Q a w := by
 refine wp_region_any hm ?_
 exact any_inv Inv hend hstep _ _ a _ (by simp) (by simp) h0
end Ay
end Go.Proofs.YtdpbbhbegehcjaaGreatDoor

namespace Go.Proofs.YtdpbbhbegehcjaaGreatDoor
open Go.RowKit
section
variable {P : Program} {κ : Type} [DecidableEq κ]
end
section
variable {w0 w : World} {listed : Array Bool} {a : Act}
end
theorem own_fresh {W : World} {base e size n : Nat} {v : Value} {xs : List Value} (h : W.ownsRow base e size v n xs) {k : Nat} (hk : W.heap.size ≤ k) : some k ≠ v.ownBlock := by
 rcases h.2 with ⟨rfl, _⟩ | ⟨g', cap, cur, rfl, _, hgb, _⟩
 ·simp [Value.ownBlock]
 ·intro e'
  simp [Value.ownBlock] at e'
  have := (Array.getElem?_eq_some_iff.1 hgb).1
  omega
def sameL : List Int → List Int → Bool
 | [], [] => true
 | x :: r, y :: s => if x = y then sameL r s else false
 | _, _ => false
theorem sameL_iff : ∀ (a b : List Int), sameL a b = true ↔ a = b := by
 intro a
 induction a with
 | nil => intro b; cases b <;> simp [sameL]
 | cons x r ih =>
  intro b
  cases b with
  | nil => simp [sameL]
  | cons y s =>
   rw [sameL]
   by_cases h : x = y
   ·rw [if_pos h, ih, h]; simp
   ·rw [if_neg h]; simp [h]
theorem sameL_len {a b : List Int} (h : a.length ≠ b.length) : sameL a b = false := by
 cases hs : sameL a b with
 | false => rfl
 | true => exact absurd (congrArg List.length ((sameL_iff a b).1 hs)) h
theorem sameInts_any (A B : Option Addr) (n c m d : Nat) (w : World) (D : Nat) (a b : List Int) (hn : n ≤ 100000) (ha : Row1 intV w D A n a) (hb : Row1 intV w D B m b) :
  Calls Tryz.prog 63 #[.slice A n c, .slice B m d] w fun e w' => e = .returned (.bool (sameL a b)) ∧ Below D w w' := by
 have Ha := Lib.hid ha
 have Hb := Lib.hid hb
 have Hla := Eqn.mk ha.1
 have Hlb := Eqn.mk hb.1
 clear ha hb
 by_cases hnm : n = m
 ·subst hnm
  go_enter Tryz.func63, Tryz.ntmps63
  go_wp2_with fail
  go_loopw [5] (fun i wr => ∃ k : Nat, k ≤ n ∧ i = .int .i64 k ∧ Eqn (sameL a b) (sameL (a.drop k) (b.drop k)) ∧ Below D w wr) (fun i _ => n - (intOf i).toNat)
  case atStart => exact ⟨0, Nat.zero_le _, rfl, rfl, Below.refl _ _⟩
  case round =>
   obtain ⟨k, hk, rfl, HE, hB⟩ := hrel
   have HB := Lib.hid hB
   by_cases hlt : k < n
   ·obtain ⟨x, hx, hxd⟩ := drop_at (xs := a) (k := k) (by rw [Hla.out]; exact hlt)
    obtain ⟨y, hy, hyd⟩ := drop_at (xs := b) (k := k) (by rw [Hlb.out]; exact hlt)
    obtain ⟨b1, o1, hA, hl1, hc1⟩ := (Ha.out.below hB).2 (by omega)
    obtain ⟨b2, o2, hB2, hl2, hc2⟩ := (Hb.out.below hB).2 (by omega)
    subst hA hB2
    have c1 := hc1 k x hx
    have c2 := hc2 k y hy
    simp only [intV] at c1 c2
    have HE2 := HE.out
    rw [hxd, hyd, sameL] at HE2
    have j0 : (k : Int) < (n : Int) := by omega
    clear hc1 hc2 hx hy hxd hyd HE hB
    by_cases he : x = y
    ·have HV := Eqn.mk (HE2.trans (if_pos he))
     have hd : (x == y) = true := by simpa using he
     have hd2 : (x != y) = false := by simpa using he
     clear HE2 he
     go_wp2_with fail
     refine Lx.region (C := fun _ => True) (hs := []) (by kernel_rfl) (by kernel_rfl) trivial ?_
     repeat' (first | ((first | refine Lx.ln (fun K hK => ?_) | (first | (refine Lx.lp (v := ?_) ?_ (fun K hK => ?_); rotate_left 1; intro w' hCw; try dsimp only at hCw) | (refine Lx.lr (v := ?_) ?_ (fun K hK => ?_); rotate_left 1)); go_simp; first | done | with_reducible rfl); go_simp; refine hK _ ?_; clear hK K) | (refine Lx.le (fun K hK => ?_); go_simp; (first | fail | skip); refine hK _ _ (trivial) ?_; clear hK K) | (refine Lx.lex_cases rfl rfl rfl (fun hgd K hK => ?_) (fun hgd K hK => ?_) <;> (try simp only [decide_eq_true_eq, decide_eq_false_iff_not] at hgd) <;> (first | (exfalso; omega) | (go_simp; refine hK _ ?_; clear hK K))))
     all_goals (refine Lx.lex_nil ?_)
     go_wp2_with fail
     go_roundw
     case rel => exact ⟨k + 1, by omega, by go_num, HV, HB.out.drew⟩
     case measure => simp [intOf]; omega
    ·have HV := Eqn.mk (HE2.trans (if_neg he))
     have hd : (x == y) = false := by simpa using he
     have hd2 : (x != y) = true := by simpa using he
     clear HE2 he
     go_wp2_with fail
     refine Lx.region (C := fun _ => True) (hs := []) (by kernel_rfl) (by kernel_rfl) trivial ?_
     repeat' (first | ((first | refine Lx.ln (fun K hK => ?_) | (first | (refine Lx.lp (v := ?_) ?_ (fun K hK => ?_); rotate_left 1; intro w' hCw; try dsimp only at hCw) | (refine Lx.lr (v := ?_) ?_ (fun K hK => ?_); rotate_left 1)); go_simp; first | done | with_reducible rfl); go_simp; refine hK _ ?_; clear hK K) | (refine Lx.le (fun K hK => ?_); go_simp; (first | fail | skip); refine hK _ _ (trivial) ?_; clear hK K) | (refine Lx.lex_cases rfl rfl rfl (fun hgd K hK => ?_) (fun hgd K hK => ?_) <;> (try simp only [decide_eq_true_eq, decide_eq_false_iff_not] at hgd) <;> (first | (exfalso; omega) | (go_simp; refine hK _ ?_; clear hK K))))
     all_goals (refine Lx.lex_nil ?_)
     go_wp2_with fail
     go_ret
     exact ⟨ret_bool HV.out.symm, HB.out.drew⟩
   ·have HV : Eqn (sameL a b) true := by rw [Eqn, HE.out, drop_end (by rw [Hla.out]; omega), drop_end (by rw [Hlb.out]; omega)]; rfl
    clear HE hB
    go_wp2_with fail
    go_ret
    exact ⟨ret_bool HV.out.symm, HB.out⟩
 ·have HV := Eqn.mk (sameL_len (a := a) (b := b) (by rw [Hla.out, Hlb.out]; exact hnm))
  have hne : ((n : Int) != (m : Int)) = true := by simp; omega
  go_enter Tryz.func63, Tryz.ntmps63
  go_wp2_with fail
  go_ret
  exact ⟨ret_bool HV.out.symm, Below.refl _ _⟩
structure R5 where
 a : Int
 b : Int
 c : Int
 d : Int
 e : Int
deriving DecidableEq
structure R4 where
 a : Int
 b : Int
 c : Int
 d : Int
deriving DecidableEq
structure Dom where
 st : Int
 adr : Option Addr
 len : Nat
 cap : Nat
 chs : List Int
def R5.cell (x : R5) : Nat → Value
 | 0 => .int .i64 x.a
 | 1 => .int .i64 x.b
 | 2 => .int .i64 x.c
 | 3 => .int .i64 x.d
 | _ => .int .i64 x.e
def R5.val (x : R5) : Value := .agg #[.int .i64 x.a, .int .i64 x.b, .int .i64 x.c, .int .i64 x.d, .int .i64 x.e]
def R4.cell (x : R4) : Nat → Value
 | 0 => .int .i64 x.a
 | 1 => .int .i64 x.b
 | 2 => .int .i64 x.c
 | _ => .int .i64 x.d
def R4.val (x : R4) : Value := .agg #[.int .i64 x.a, .int .i64 x.b, .int .i64 x.c, .int .i64 x.d]
def Dom.cell (x : Dom) : Nat → Value
 | 0 => .int .i64 x.st
 | _ => .slice x.adr x.len x.cap
def Dom.val (x : Dom) : Value := .agg #[.int .i64 x.st, .slice x.adr x.len x.cap]
def DomsAt (w : World) (D : Nat) (A : Option Addr) (n : Nat) (ds : List Dom) : Prop := RowS 2 Dom.cell w D A n ds ∧ ∀ d ∈ ds, Row1 intV w D d.adr d.len d.chs
theorem DomsAt.below {w w' : World} {D : Nat} {A : Option Addr} {n : Nat} {ds : List Dom} (h : DomsAt w D A n ds) (hb : Below D w w') : DomsAt w' D A n ds := ⟨h.1.below hb, fun b hm => (h.2 b hm).below hb⟩
theorem DomsAt.up {w : World} {D D' : Nat} {A : Option Addr} {n : Nat} {ds : List Dom} (h : DomsAt w D A n ds) (hD : D ≤ D') : DomsAt w D' A n ds := ⟨h.1.up hD, fun b hm => (h.2 b hm).up hD⟩
theorem DomsAt.keep {w w' : World} {A : Option Addr} {n : Nat} {ds : List Dom} (h : DomsAt w w.heap.size A n ds) (hb : Below w.heap.size w w') : DomsAt w' w'.heap.size A n ds := (h.below hb).up hb.size
def Dom.say (d : Dom) : Int × List Int := (d.st, d.chs)
structure Rul where
 pairs : List R5
 loads : List R5
 caps : List R4
deriving DecidableEq
def stF (n : Int) : Bool := decide (0 ≤ n) && decide (n ≤ 511)
def spF (lo hi : Int) : Bool := decide (2 ≤ lo) && decide (lo ≤ hi) && decide (hi ≤ 51)
def goodP (x : R5) : Bool := stF x.a && stF x.b && decide (x.a < x.b) && (decide (-1 ≤ x.c) && decide (x.c ≤ 1)) && spF x.d x.e
def goodL (x : R5) : Bool := stF x.a && stF x.b && !decide (x.a = x.b) && (decide (1 ≤ x.c) && decide (x.c ≤ 1073741824)) && spF x.d x.e
def goodC (x : R4) : Bool := stF x.a && (decide (0 ≤ x.b) && decide (x.b ≤ 1099511627776)) && spF x.c x.d
def cmpF (x y : Int) : Int := if x < y then -1 else if y < x then 1 else 0
def orL5 : List Int → Int
 | [] => 0
 | x :: r => if x ≠ 0 then x else orL5 r
def cmp5 (x y : R5) : Int := orL5 [cmpF x.a y.a, cmpF x.b y.b, cmpF x.c y.c, cmpF x.d y.d, cmpF x.e y.e]
def cmp4 (x y : R4) : Int := orL5 [cmpF x.a y.a, cmpF x.b y.b, cmpF x.c y.c, cmpF x.d y.d]
def incF {α : Type} (cmp : α → α → Int) : List α → Bool
 | [] => true
 | x :: r => match r with | [] => true | y :: _ => if 0 ≤ cmp x y then false else incF cmp r
def rulesF (r : Rul) : Bool := decide (r.pairs.length ≤ 4096) && r.pairs.all goodP && incF cmp5 r.pairs && decide (r.loads.length ≤ 1024) && r.loads.all goodL && incF cmp5 r.loads && decide (r.caps.length ≤ 1024) && r.caps.all goodC && incF cmp4 r.caps
def lessL : List Int → List Int → Bool
 | x :: r, y :: s => if x ≠ y then decide (x < y) else lessL r s
 | _, _ => false
def R5.nums (x : R5) : List Int := [x.a, x.b, x.c, x.d, x.e]
def R4.nums (x : R4) : List Int := [x.a, x.b, x.c, x.d]
theorem orL_less : ∀ (l : List (Int × Int)), decide (0 ≤ orL5 (l.map fun p => cmpF p.1 p.2)) = !lessL (l.map (·.1)) (l.map (·.2)) := by
 intro l
 induction l with
 | nil => rfl
 | cons p r ih =>
  simp only [List.map_cons, orL5, lessL]
  by_cases h : p.1 = p.2
  ·have h0 : cmpF p.1 p.2 = 0 := by unfold cmpF; rw [h]; simp
   rw [h0, if_neg (by simp), if_neg (by simp [h]), ih]
  ·rw [if_pos h]
   by_cases h2 : p.1 < p.2
   ·have h0 : cmpF p.1 p.2 = -1 := by unfold cmpF; simp [h2]
    rw [h0, if_pos (by decide)]
    simp [h2]
   ·have h0 : cmpF p.1 p.2 = 1 := by unfold cmpF; rw [if_neg h2, if_pos (by omega)]
    rw [h0, if_pos (by decide)]
    simp; omega
theorem cmp5_less (x y : R5) : decide (0 ≤ cmp5 x y) = !lessL x.nums y.nums := orL_less [(x.a, y.a), (x.b, y.b), (x.c, y.c), (x.d, y.d), (x.e, y.e)]
theorem cmp4_less (x y : R4) : decide (0 ≤ cmp4 x y) = !lessL x.nums y.nums := orL_less [(x.a, y.a), (x.b, y.b), (x.c, y.c), (x.d, y.d)]
def goF {α : Type} (good : α → Bool) (nums : α → List Int) : Option α → List α → Bool
 | _, [] => true
 | prev, x :: r => if good x && (match prev with | none => true | some y => lessL (nums y) (nums x)) then goF good nums (some x) r else false
theorem goF_eq {α : Type} (good : α → Bool) (nums : α → List Int) (cmp : α → α → Int) (hc : ∀ x y, decide (0 ≤ cmp x y) = !lessL (nums x) (nums y)) :
  ∀ (l : List α) (x : α), goF good nums (some x) l = (l.all good && incF cmp (x :: l)) := by
 intro l
 induction l with
 | nil => intro x; rfl
 | cons y r ih =>
  intro x
  rw [goF, ih, List.all_cons, incF]
  have h := hc x y
  by_cases hg : good y = true
  ·by_cases hl : lessL (nums x) (nums y) = true
   ·rw [hl] at h
    have h2 : ¬ 0 ≤ cmp x y := by simpa using h
    simp [hg, hl, h2]
   ·have hl' : lessL (nums x) (nums y) = false := by simpa using hl
    rw [hl'] at h
    have h2 : 0 ≤ cmp x y := by simpa using h
    simp [hg, hl', h2]
  ·simp [hg]
theorem goF_none {α : Type} (good : α → Bool) (nums : α → List Int) (cmp : α → α → Int) (hc : ∀ x y, decide (0 ≤ cmp x y) = !lessL (nums x) (nums y)) (l : List α) : goF good nums none l = (l.all good && incF cmp l) := by
 cases l with
 | nil => rfl
 | cons x r => rw [goF, goF_eq good nums cmp hc, List.all_cons]; by_cases h : good x = true <;> simp [h]
def rulesR (r : Rul) : Bool := if 4096 < r.pairs.length ∨ 1024 < r.loads.length ∨ 1024 < r.caps.length then false else goF goodP R5.nums none r.pairs && goF goodL R5.nums none r.loads && goF goodC R4.nums none r.caps
theorem rules_eq (r : Rul) : rulesR r = rulesF r := by
 unfold rulesR rulesF
 rw [goF_none _ _ _ cmp5_less, goF_none _ _ _ cmp5_less, goF_none _ _ _ cmp4_less]
 by_cases h1 : r.pairs.length ≤ 4096
 ·by_cases h2 : r.loads.length ≤ 1024
  ·by_cases h3 : r.caps.length ≤ 1024
   ·rw [if_neg (by omega)]
    simp [h1, h2, h3, Bool.and_assoc]
   ·rw [if_pos (by omega)]; simp [h3]
  ·rw [if_pos (by omega)]; simp [h2]
 ·rw [if_pos (by omega)]; simp [h1]
theorem isNaN_any (x : Int) (w : World) : Calls Tryz.prog 133 #[.int .i64 x] w fun e w' => e = .returned (.bool false) ∧ w = w' := by
 have h : (x != x) = false := by simp
 go_enter Tryz.func133, Tryz.ntmps133
 go_wp2
 go_ret
 exact ⟨rfl, rfl⟩
theorem compare_any (x y : Int) (w : World) : Calls Tryz.prog 103 #[.int .i64 x, .int .i64 y] w fun e w' => e = .returned (.int .i64 (cmpF x y)) ∧ w = w' := by
 unfold cmpF
 by_cases h1 : x < y
 ·rw [if_pos h1]
  go_enter Tryz.func103, Tryz.ntmps103
  go_wp2_with (go_at_call 133; refine (isNaN_any _ _).mono ?_; rintro e w' ⟨rfl, rfl⟩)
  go_ret
  exact ⟨rfl, rfl⟩
 ·rw [if_neg h1]
  by_cases h2 : y < x
  ·rw [if_pos h2]
   go_enter Tryz.func103, Tryz.ntmps103
   go_wp2_with (go_at_call 133; refine (isNaN_any _ _).mono ?_; rintro e w' ⟨rfl, rfl⟩)
   go_ret
   exact ⟨rfl, rfl⟩
  ·rw [if_neg h2]
   go_enter Tryz.func103, Tryz.ntmps103
   go_wp2_with (go_at_call 133; refine (isNaN_any _ _).mono ?_; rintro e w' ⟨rfl, rfl⟩)
   go_ret
   exact ⟨rfl, rfl⟩
theorem orS_any (A : Option Addr) (n c : Nat) (w : World) (D : Nat) (l : List Int) (hn : n ≤ 100000) (hl : Row1 intV w D A n l) :
  Calls Tryz.prog 143 #[.slice A n c] w fun e w' => e = .returned (.int .i64 (orL5 l)) ∧ w = w' := by
 have Hl := Lib.hid hl
 have Hlen := Eqn.mk hl.1
 clear hl
 go_enter Tryz.func143, Tryz.ntmps143
 go_wp2
 go_loop [8] (fun i => ∃ k : Nat, k ≤ n ∧ i = .int .i64 k ∧ Eqn (orL5 l) (orL5 (l.drop k))) (fun i => n - (intOf i).toNat)
 case atStart => exact ⟨0, Nat.zero_le _, rfl, rfl⟩
 case round =>
  obtain ⟨k, hk, rfl, HR⟩ := hrel
  by_cases hlt : k < n
  ·obtain ⟨p, hp, hpd⟩ := drop_at (xs := l) (k := k) (by rw [Hlen.out]; exact hlt)
   obtain ⟨b, off, rfl, hbl, hc⟩ := Hl.out.2 (by omega)
   have c0 := hc k p hp
   simp only [intV] at c0
   have HR' : Eqn (orL5 l) (if p ≠ 0 then p else orL5 (l.drop (k + 1))) := by
    have := HR.out; rw [hpd, orL5] at this; exact this
   have j0 : (k : Int) < (n : Int) := by omega
   clear hc hp hpd HR
   by_cases he : p = 0
   ·have hd : (p != 0) = false := by simpa using he
    have HR2 : Eqn (orL5 l) (orL5 (l.drop (k + 1))) := by rw [Eqn, HR'.out, if_neg (by simpa using he)]
    clear he HR'
    go_wp2
    go_round
    case rel => exact ⟨k + 1, by omega, by go_num, HR2⟩
    case measure => simp [intOf]; omega
   ·have hd : (p != 0) = true := by simpa using he
    have HR2 : Eqn (orL5 l) p := by rw [Eqn, HR'.out, if_pos he]
    clear he HR'
    go_wp2
    go_ret
    exact ⟨ret_int HR2.out.symm, rfl⟩
  ·have HR2 : Eqn (orL5 l) 0 := by rw [Eqn, HR.out, drop_end (by rw [Hlen.out]; omega)]; rfl
   clear HR
   go_wp2
   go_ret
   exact ⟨ret_int HR2.out.symm, rfl⟩
def betwF (n lo hi : Int) : Bool := decide (lo ≤ n) && decide (n ≤ hi)
theorem betw_any (n lo hi : Int) (w : World) : Calls Tryz.prog 83 #[.int .i64 n, .int .i64 lo, .int .i64 hi] w fun e w' => e = .returned (.bool (betwF n lo hi)) ∧ w = w' := by
 unfold betwF
 by_cases h1 : lo ≤ n
 ·go_enter Tryz.func83, Tryz.ntmps83
  go_wp2
  go_ret
  exact ⟨ret_bool (by first | (simp; omega) | simp [h1]), rfl⟩
 ·go_enter Tryz.func83, Tryz.ntmps83
  go_wp2
  go_ret
  exact ⟨ret_bool (by first | (simp; omega) | simp [h1]), rfl⟩
theorem isSt_any (n : Int) (w : World) : Calls Tryz.prog 82 #[.int .i64 n] w fun e w' => e = .returned (.bool (stF n)) ∧ w = w' := by
 have HB := Lib.hid (betw_any n 0 511 w)
 have hs : betwF n 0 511 = stF n := rfl
 rw [hs] at HB
 generalize stF n = r at *
 clear hs
 go_enter Tryz.func82, Tryz.ntmps82
 go_wp2_with fail
 refine HB.out.mono ?_
 rintro e w' ⟨rfl, rfl⟩
 go_wp2_with fail
 go_ret
 exact ⟨rfl, rfl⟩
theorem isRg_any (lo hi : Int) (w : World) : Calls Tryz.prog 142 #[.int .i64 lo, .int .i64 hi] w fun e w' => e = .returned (.bool (spF lo hi)) ∧ w = w' := by
 unfold spF
 by_cases h1 : 2 ≤ lo
 ·by_cases h2 : lo ≤ hi
  ·go_enter Tryz.func142, Tryz.ntmps142
   go_wp2
   go_ret
   exact ⟨ret_bool (by first | (simp; omega) | simp [h1, h2]), rfl⟩
  ·go_enter Tryz.func142, Tryz.ntmps142
   go_wp2
   go_ret
   exact ⟨ret_bool (by first | (simp; omega) | simp [h1, h2]), rfl⟩
 ·go_enter Tryz.func142, Tryz.ntmps142
  go_wp2
  go_ret
  exact ⟨ret_bool (by first | (simp; omega) | simp [h1]), rfl⟩
theorem goodP_any (x : R5) (w : World) : Calls Tryz.prog 124 #[x.val] w (RetPost (.bool (goodP x)) w.heap.size w) := by
 obtain ⟨a, b, c, d, f⟩ := x
 have HB : Hid (Below w.heap.size w (w.alloc (.cells #[.int .i64 a, .int .i64 b, .int .i64 c, .int .i64 d, .int .i64 f] 84))) := Lib.hid ((Below.refl _ w).alloc (Nat.le_refl _) _)
 unfold R5.val goodP
 dsimp only
 have HC0 := Lib.hid (fun W => isSt_any a W)
 generalize stF a = t0 at *
 have HC1 := Lib.hid (fun W => isSt_any b W)
 generalize stF b = t1 at *
 have HC3 := Lib.hid (fun W => betw_any c (-1) 1 W)
 unfold betwF at HC3
 generalize (decide (-1 ≤ c) && decide (c ≤ 1)) = t3 at *
 have HC4 := Lib.hid (fun W => isRg_any d f W)
 generalize spF d f = t4 at *
 go_enter Tryz.func124, Tryz.ntmps124
 go_wp2_with fail
 refine (HC0.out _).mono ?_
 rintro e w1 ⟨rfl, rfl⟩
 cases t0 with
 | false =>
  clear HC0 HC1 HC3 HC4
  go_wp2_with fail
  go_ret
  exact ⟨ret_bool (by first | rfl | (simp; done) | (have := HCC.out; simp; intros; omega) | (simp [HCC.out]; done)), HB.out⟩
 | true =>
  go_wp2_with fail
  refine (HC1.out _).mono ?_
  rintro e w1 ⟨rfl, rfl⟩
  cases t1 with
  | false =>
   clear HC1 HC3 HC4
   go_wp2_with fail
   go_ret
   exact ⟨ret_bool (by first | rfl | (simp; done) | (have := HCC.out; simp; intros; omega) | (simp [HCC.out]; done)), HB.out⟩
  | true =>
   by_cases hc : a < b
   ·have HCC := Lib.hid hc
    go_wp2_with fail
    refine (HC3.out _).mono ?_
    rintro e w1 ⟨rfl, rfl⟩
    cases t3 with
    | false =>
     clear HC3 HC4
     go_wp2_with fail
     go_ret
     exact ⟨ret_bool (by first | rfl | (simp; done) | (have := HCC.out; simp; intros; omega) | (simp [HCC.out]; done)), HB.out⟩
    | true =>
     go_wp2_with fail
     refine (HC4.out _).mono ?_
     rintro e w1 ⟨rfl, rfl⟩
     go_wp2_with fail
     go_ret
     exact ⟨ret_bool (by first | rfl | (simp; done) | (have := HCC.out; simp; intros; omega) | (simp [HCC.out]; done)), HB.out⟩
   ·have HCC := Lib.hid hc
    go_wp2_with fail
    go_ret
    exact ⟨ret_bool (by first | rfl | (simp; done) | (have := HCC.out; simp; intros; omega) | (simp [HCC.out]; done)), HB.out⟩
theorem goodL_any (x : R5) (w : World) : Calls Tryz.prog 127 #[x.val] w (RetPost (.bool (goodL x)) w.heap.size w) := by
 obtain ⟨a, b, c, d, f⟩ := x
 have HB : Hid (Below w.heap.size w (w.alloc (.cells #[.int .i64 a, .int .i64 b, .int .i64 c, .int .i64 d, .int .i64 f] 86))) := Lib.hid ((Below.refl _ w).alloc (Nat.le_refl _) _)
 unfold R5.val goodL
 dsimp only
 have HC0 := Lib.hid (fun W => isSt_any a W)
 generalize stF a = t0 at *
 have HC1 := Lib.hid (fun W => isSt_any b W)
 generalize stF b = t1 at *
 have HC3 := Lib.hid (fun W => betw_any c (1) 1073741824 W)
 unfold betwF at HC3
 generalize (decide (1 ≤ c) && decide (c ≤ 1073741824)) = t3 at *
 have HC4 := Lib.hid (fun W => isRg_any d f W)
 generalize spF d f = t4 at *
 go_enter Tryz.func127, Tryz.ntmps127
 go_wp2_with fail
 refine (HC0.out _).mono ?_
 rintro e w1 ⟨rfl, rfl⟩
 cases t0 with
 | false =>
  clear HC0 HC1 HC3 HC4
  go_wp2_with fail
  go_ret
  exact ⟨ret_bool (by first | rfl | (simp; done) | (have := HCC.out; simp; intros; omega) | (simp [HCC.out]; done)), HB.out⟩
 | true =>
  go_wp2_with fail
  refine (HC1.out _).mono ?_
  rintro e w1 ⟨rfl, rfl⟩
  cases t1 with
  | false =>
   clear HC1 HC3 HC4
   go_wp2_with fail
   go_ret
   exact ⟨ret_bool (by first | rfl | (simp; done) | (have := HCC.out; simp; intros; omega) | (simp [HCC.out]; done)), HB.out⟩
  | true =>
   by_cases hc : a = b
   ·have HCC := Lib.hid hc
    have hc2 : (a != b) = false := by simp [hc]
    clear hc
    go_wp2_with fail
    go_ret
    exact ⟨ret_bool (by first | rfl | (simp; done) | (have := HCC.out; simp; intros; omega) | (simp [HCC.out]; done)), HB.out⟩
   ·have HCC := Lib.hid hc
    have hc2 : (a != b) = true := by simp [hc]
    clear hc
    go_wp2_with fail
    refine (HC3.out _).mono ?_
    rintro e w1 ⟨rfl, rfl⟩
    cases t3 with
    | false =>
     clear HC3 HC4
     go_wp2_with fail
     go_ret
     exact ⟨ret_bool (by first | rfl | (simp; done) | (have := HCC.out; simp; intros; omega) | (simp [HCC.out]; done)), HB.out⟩
    | true =>
     go_wp2_with fail
     refine (HC4.out _).mono ?_
     rintro e w1 ⟨rfl, rfl⟩
     go_wp2_with fail
     go_ret
     exact ⟨ret_bool (by first | rfl | (simp; done) | (have := HCC.out; simp; intros; omega) | (simp [HCC.out]; done)), HB.out⟩
theorem goodC_any (x : R4) (w : World) : Calls Tryz.prog 130 #[x.val] w (RetPost (.bool (goodC x)) w.heap.size w) := by
 obtain ⟨a, b, c, d⟩ := x
 have HB : Hid (Below w.heap.size w (w.alloc (.cells #[.int .i64 a, .int .i64 b, .int .i64 c, .int .i64 d] 88))) := Lib.hid ((Below.refl _ w).alloc (Nat.le_refl _) _)
 unfold R4.val goodC
 dsimp only
 have HC0 := Lib.hid (fun W => isSt_any a W)
 generalize stF a = t0 at *
 have HC1 := Lib.hid (fun W => betw_any b (0) 1099511627776 W)
 unfold betwF at HC1
 generalize (decide (0 ≤ b) && decide (b ≤ 1099511627776)) = t1 at *
 have HC2 := Lib.hid (fun W => isRg_any c d W)
 generalize spF c d = t2 at *
 go_enter Tryz.func130, Tryz.ntmps130
 go_wp2_with fail
 refine (HC0.out _).mono ?_
 rintro e w1 ⟨rfl, rfl⟩
 cases t0 with
 | false =>
  clear HC0 HC1 HC2
  go_wp2_with fail
  go_ret
  exact ⟨ret_bool (by first | rfl | (simp; done) | (have := HCC.out; simp; intros; omega) | (simp [HCC.out]; done)), HB.out⟩
 | true =>
  go_wp2_with fail
  refine (HC1.out _).mono ?_
  rintro e w1 ⟨rfl, rfl⟩
  cases t1 with
  | false =>
   clear HC1 HC2
   go_wp2_with fail
   go_ret
   exact ⟨ret_bool (by first | rfl | (simp; done) | (have := HCC.out; simp; intros; omega) | (simp [HCC.out]; done)), HB.out⟩
  | true =>
   go_wp2_with fail
   refine (HC2.out _).mono ?_
   rintro e w1 ⟨rfl, rfl⟩
   go_wp2_with fail
   go_ret
   exact ⟨ret_bool (by first | rfl | (simp; done) | (have := HCC.out; simp; intros; omega) | (simp [HCC.out]; done)), HB.out⟩
end Go.Proofs.YtdpbbhbegehcjaaGreatDoor
