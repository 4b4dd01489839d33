/- The reference of layer 17: a loop of ValidRules. -/
import Derived.Test.YtdpbbhbegehcjaaGreatDoorPla01
import Derived.Test.YtdpbbhbegehcjaaGreatDoorPla03
import Derived.Test.YtdpbbhbegehcjaaGreatDoorPla04
set_option maxRecDepth 100000
set_option maxHeartbeats 8000000
namespace Go.Proofs.YtdpbbhbegehcjaaGreatDoor
open Go.RowKit
namespace Lx
section
variable {P : Program} {ops : Array Oper} {C C' : World → Prop} {hs : List Nat}
def tailOk (n : Nat) (ops : Array Oper) : Bool :=
 let M := masks ops.toList []
 (List.range ops.size).all fun j => decide (j < n) || (List.range n).all fun i => (M.getD j 0).testBit i
theorem any_of_lexT {Q : Exit → Act → World → Prop} {n : Nat} (hok : ok hs ops = true) (ht : tailOk n ops = true) : ∀ (fuel : Nat) (L1 L2 : List Nat) (listed : Array Bool) (a : Act) (w : World), C w → (L1 ++ L2).length = fuel →
  (∀ i, i ∈ L1 ++ L2 ↔ i < ops.size ∧ listed.getD i true = false) → (L1 ++ L2).Pairwise (· < ·) → (∀ i ∈ L1, i < n) → (∀ i ∈ L2, n ≤ i) → Down ops listed → listed.size = ops.size →
  lexN P ops C hs (fun a w => C' w ∧ lexN P ops C' hs (fun a w => Q .normal a w) L2 a w) L1 a w → wpAny P .any ops Q fuel listed a w := by
 have htl : ∀ j, n ≤ j → j < ops.size → ∀ i, i < n → ((masks ops.toList []).getD j 0).testBit i = true := by
  intro j hj hjs i hi
  have h1 := List.all_eq_true.1 ht j (List.mem_range.2 hjs)
  simp only [Bool.or_eq_true, decide_eq_true_eq] at h1
  rcases h1 with h1 | h1
  ·omega
  ·exact List.all_eq_true.1 h1 i (List.mem_range.2 hi)
 have hok' : ∀ (j : Nat) (oj : Oper), ops[j]? = some oj → noSel oj = true ∧ (∀ e ∈ oj.after, Region.binds .any e = true → e.on < j) ∧ ∀ i, i < j → ((masks ops.toList []).getD j 0).testBit i = true ∨ pair ops hs i j = true := by
  intro j oj hj
  have hlt : j < ops.size := (Array.getElem?_eq_some_iff.1 hj).1
  have h1 := List.all_eq_true.1 hok j (List.mem_range.2 hlt)
  simp only [hj, Bool.and_eq_true] at h1
  obtain ⟨⟨h2, h3⟩, h4⟩ := h1
  refine ⟨h2, fun e he hb => ?_, fun i hi => ?_⟩
  ·have := Array.all_eq_true'.1 h3 e he
   simpa [hb] using this
  ·have := List.all_eq_true.1 h4 i (List.mem_range.2 hi)
   simpa using this
 have hsel : ∀ (j : Nat) (o : Oper) cs b, ops[j]? = some o → o.op ≠ .select cs b := by
  intro j o cs b hj he
  have := (hok' j o hj).1
  simp [noSel, he] at this
 intro fuel
 induction fuel with
 | zero =>
  intro L1 L2 listed a w hC hL hm hs' h1 h2 hD hsz h
  have hnil : L1 = [] := List.eq_nil_of_length_eq_zero (by simp at hL; simp [hL])
  subst hnil
  exact any_of_lex hok _ L2 listed a w h.1 (by simpa using hL) (by simpa using hm) (by simpa using hs') hD hsz h.2
 | succ fuel ih =>
  intro L1 L2 listed a w hC hL hm hs' h1 h2 hD hsz h
  cases L1 with
  | nil => exact any_of_lex hok _ L2 listed a w h.1 (by simpa using hL) (by simpa using hm) (by simpa using hs') hD hsz h.2
  | cons i0 L0 =>
   have hi0 : i0 < n := h1 i0 (by simp)
   obtain ⟨hi1, hi2⟩ := (hm i0).1 (by simp)
   refine ⟨fun hr => ?_, fun j hj => ?_⟩
   ·exfalso
    have ho : ops[i0]? = some ops[i0] := Array.getElem?_eq_getElem hi1
    have hri : i0 ∈ Region.ready .any ops listed := by
     refine mem_ready.2 ⟨hi2, _, ho, fun e he hb => ?_⟩
     have hlt := (hok' i0 _ ho).2.1 e he hb
     by_cases hle : listed.getD e.on true = false
     ·have hmem : e.on ∈ i0 :: (L0 ++ L2) := (hm e.on).2 ⟨by omega, hle⟩
      rcases List.mem_cons.1 hmem with h | h
      ·omega
      ·have := (List.pairwise_cons.1 hs').1 e.on h
       omega
     ·have hb2 : e.on < listed.size := by omega
      simp only [Array.getD_eq_getD_getElem?, Array.getElem?_eq_getElem hb2, Option.getD_some] at hle ⊢
      simpa using hle
    rw [hr] at hri
    cases hri
   ·obtain ⟨hj1, oj, hoj, hjr⟩ := mem_ready.1 hj
    have hjlt : j < ops.size := (Array.getElem?_eq_some_iff.1 hoj).1
    have hmem : j ∈ i0 :: L0 := by
     rcases List.mem_append.1 ((hm j).2 ⟨hjlt, hj1⟩) with h | h
     ·exact h
     ·exfalso
      have hl := masks_sound hD (j + 1) j oj (by omega) hoj hjr i0 (htl j (h2 j h) hjlt i0 hi0)
      have hb2 : i0 < listed.size := by omega
      simp only [Array.getD_eq_getD_getElem?, Array.getElem?_eq_getElem hb2, Option.getD_some] at hl hi2
      rw [hl] at hi2
      cases hi2
    obtain ⟨pre, post, hsplit⟩ := List.append_of_mem hmem
    rw [hsplit] at hs' hm hL h h1
    clear hsplit hmem
    have hs1 := (List.pairwise_append.1 hs').1
    have hpre : ∀ i ∈ pre, i < j := by
     intro i hi
     exact (List.pairwise_append.1 hs1).2.2 i hi j (by simp)
    have hpost : ∀ i ∈ post, j < i := fun i hi => (List.pairwise_cons.1 (List.pairwise_append.1 hs1).2.1).1 i hi
    have hpair : ∀ i ∈ pre, pair ops hs i j = true := by
     intro i hi
     rcases (hok' j oj hoj).2.2 i (hpre i hi) with h1 | h1
     ·exfalso
      have hl := masks_sound hD (j + 1) j oj (by omega) hoj hjr i h1
      obtain ⟨hi1, hi2⟩ := (hm i).1 (by simp [hi])
      have hb2 : i < listed.size := by omega
      simp only [Array.getD_eq_getD_getElem?, Array.getElem?_eq_getElem hb2, Option.getD_some] at hl hi2
      rw [hl] at hi2
      cases hi2
     ·exact h1
    have hp1 := pull hoj hsel post pre a w hpair hC h
    have hset : ∀ i, (listed.setIfInBounds j true).getD i true = false ↔ (listed.getD i true = false ∧ i ≠ j) := by
     intro i
     by_cases hij : i = j
     ·subst hij
      simp [Array.getD_eq_getD_getElem?, Array.getElem?_setIfInBounds]
      split <;> simp_all
     ·simp [Array.getD_eq_getD_getElem?, Array.getElem?_setIfInBounds_ne (Ne.symm hij), hij]
    have hp2 : step P ops C hs j oj (wpAny P .any ops Q fuel (listed.setIfInBounds j true)) a w := by
     refine step_mono hC hp1 fun a' w' hC' _ hK => ih (pre ++ post) L2 _ a' w' hC' ?_ ?_ ?_ ?_ h2 ?_ (by simp [hsz]) hK
     ·simp at hL ⊢; omega
     ·intro i
      rw [hset]
      constructor
      ·intro hi
       have hi' : i ∈ (pre ++ j :: post) ++ L2 := by
        simp only [List.mem_append, List.mem_cons] at hi ⊢
        rcases hi with (h | h) | h <;> simp [h]
       obtain ⟨q1, q2⟩ := (hm i).1 hi'
       refine ⟨q1, q2, ?_⟩
       simp only [List.mem_append] at hi
       rcases hi with (h | h) | h
       ·have := hpre i h; omega
       ·have := hpost i h; omega
       ·have := h1 j (by simp)
        have := h2 i h
        omega
      ·rintro ⟨q1, q2, q3⟩
       have := (hm i).2 ⟨q1, q2⟩
       simp only [List.mem_append, List.mem_cons] at this ⊢
       rcases this with (h | h | h) | h
       ·simp [h]
       ·exact absurd h q3
       ·simp [h]
       ·simp [h]
     ·have hp := List.pairwise_append.1 hs'
      refine List.pairwise_append.2 ⟨?_, hp.2.1, fun x hx y hy => hp.2.2 x (by simp only [List.mem_append, List.mem_cons] at hx ⊢; rcases hx with h | h <;> simp [h]) y hy⟩
      have hq := List.pairwise_append.1 hs1
      refine List.pairwise_append.2 ⟨hq.1, (List.pairwise_cons.1 hq.2.1).2, fun x hx y hy => ?_⟩
      have := hpre x hx
      have := hpost y hy
      omega
     ·intro i hi
      refine h1 i ?_
      simp only [List.mem_append, List.mem_cons] at hi ⊢
      rcases hi with h | h <;> simp [h]
     ·intro j' o' ho' hl' e he hb
      by_cases hjj : j' = j
      ·subst hjj
       rw [hoj] at ho'
       injection ho' with ho'
       subst ho'
       exact getD_set_true (hjr e he hb)
      ·rw [getD_set_ne false (Ne.symm hjj)] at hl'
       exact getD_set_true (hD j' o' ho' hl' e he hb)
    unfold step at hp2
    unfold wpOp
    simp only [hoj]
    split
    ·rename_i hw
     rw [if_pos hw] at hp2
     left
     rcases hp2 with ⟨_, v, h3, h4⟩ | ⟨_, v, h3, h4⟩ | ⟨_, h3⟩
     ·unfold Oper.wp; rw [h3 w hC]; exact h4
     ·unfold Oper.wp; rw [h3]; exact h4
     ·exact Oper.wp_mono (fun _ _ hh => hh.2) (wp_noQ h3)
    ·rename_i hw
     rw [if_neg hw] at hp2
     exact hp2
end
theorem lexN_of_lexP {P : Program} {ops : Array Oper} {C : World → Prop} {hs : List Nat} {Q : Act → World → Prop} : ∀ (l : List Oper) (k : Nat), (∀ m, m < l.length → l[m]? = ops[k + m]?) → lex P ops C hs Q k l = lexN P ops C hs Q (List.range' k l.length) := by
 intro l
 induction l with
 | nil => intro k _; funext a w; simp [lex, lexN]
 | cons o r ih =>
  intro k h
  have h0 : ops[k]? = some o := by simpa using (h 0 (by simp)).symm
  have ih' := ih (k + 1) (fun m hm => by have := h (m + 1) (by simp; omega); simpa [Nat.add_assoc, Nat.add_comm 1 m] using this)
  funext a w
  simp only [lex, List.length_cons, List.range'_succ, lexN, h0, ih']
theorem regionT {P : Program} {C C' : World → Prop} {hs : List Nat} {id : Nat} {l : List Oper} {Q : Exit → Act → World → Prop} {a : Act} {w : World} (n : Nat) (l1 l2 : List Oper) (hl : l = l1 ++ l2) (hn : l1.length = n) (hm : P.follows .mixedOrders = true) (hok : ok hs l.toArray = true) (ht : tailOk n l.toArray = true) (hC : C w.drew)
  (h : lex P l.toArray C hs (fun a w => C' w ∧ lex P l.toArray C' hs (fun a w => Q .normal a w) n l2 a w) 0 l1 a w.drew) : (Code.region id l.toArray true).wp P Q a w := by
 subst hl
 refine wp_region_any hm ?_
 refine any_of_lexT (C := C) (C' := C') (hs := hs) (n := n) hok ht _ (List.range' 0 n) (List.range' n l2.length) _ a _ hC (by simp [hn]) ?_ ?_ ?_ ?_ ?_ (by simp) ?_
 ·intro i
  simp [Array.getD_eq_getD_getElem?, Array.getElem?_replicate, hn]
  constructor
  ·intro hi
   have : i < n + l2.length := by omega
   exact ⟨this, by simp [this]⟩
  ·rintro ⟨hi, _⟩
   omega
 ·have h1 := List.pairwise_lt_range (n := n + l2.length)
  rw [List.range_eq_range', List.range'_append_1.symm] at h1
  simpa using h1
 ·intro i hi; simp at hi; exact hi
 ·intro i hi; simp at hi; exact hi.1
 ·intro j o ho hl
  simp [Array.getD_eq_getD_getElem?, Array.getElem?_replicate] at hl
  split at hl <;> simp at hl
 ·have e2 := lexN_of_lex (P := P) (ops := (l1 ++ l2).toArray) (C := C') (hs := hs) (Q := fun a w => Q .normal a w) l2 n (fun m => by rw [List.getElem?_toArray, List.getElem?_append_right (by omega)]; congr 1; omega)
  rw [e2] at h
  have e1 := lexN_of_lexP (P := P) (ops := (l1 ++ l2).toArray) (C := C) (hs := hs) (Q := fun a w => C' w ∧ lexN P (l1 ++ l2).toArray C' hs (fun a w => Q .normal a w) (List.range' n l2.length) a w) l1 0 (fun m hm => by rw [Nat.zero_add, List.getElem?_toArray, List.getElem?_append_left hm])
  rw [e1, hn] at h
  exact h
section
variable {P : Program} {ops : Array Oper} {C : World → Prop} {hs : List Nat} {Q : Act → World → Prop} {k : Nat} {o : Oper} {r : List Oper} {a : Act} {w : World}
end
end Lx
def keepR (l : List Int) (r : Rul) : Rul := ⟨r.pairs.filter (fun c => hasL l c.a && hasL l c.b), r.loads.filter (fun c => hasL l c.a && hasL l c.b), r.caps.filter (fun c => hasL l c.a)⟩
section
variable {W1 W W' : World} {B0 g8 : Nat} {v : PrbV} {x : PrbL}
end
theorem rst_any (n : Int) (w : World) : Calls Tryz.prog 30 #[.int .i64 n] w fun e w' => e = .returned (.bool (stF n)) ∧ w = w' := by
 unfold stF
 by_cases h1 : 0 ≤ n
 ·go_enter Tryz.func30, Tryz.ntmps30
  go_wp2
  go_ret
  exact ⟨ret_bool (by first | (simp; omega) | simp [h1]), rfl⟩
 ·go_enter Tryz.func30, Tryz.ntmps30
  go_wp2
  go_ret
  exact ⟨ret_bool (by first | (simp; omega) | simp [h1]), rfl⟩
theorem rsp_any (lo hi : Int) (w : World) : Calls Tryz.prog 69 #[.int .i64 lo, .int .i64 hi] w fun e w' => e = .returned (.bool (spF lo hi)) ∧ w = w' := by
 unfold spF
 by_cases h1 : 2 ≤ lo
 ·by_cases h2 : lo ≤ hi
  ·go_enter Tryz.func69, Tryz.ntmps69
   go_wp2
   go_ret
   exact ⟨ret_bool (by first | (simp; omega) | simp [h1, h2]), rfl⟩
  ·go_enter Tryz.func69, Tryz.ntmps69
   go_wp2
   go_ret
   exact ⟨ret_bool (by first | (simp; omega) | simp [h1, h2]), rfl⟩
 ·go_enter Tryz.func69, Tryz.ntmps69
  go_wp2
  go_ret
  exact ⟨ret_bool (by first | (simp; omega) | simp [h1]), rfl⟩
def NumsPost (l : List Int) (w : World) (e : Ending) (w' : World) : Prop := e = .returned (.slice (some ⟨w.heap.size + 1, 0, none⟩) l.length l.length) ∧ Row1 intV w' w'.heap.size (some ⟨w.heap.size + 1, 0, none⟩) l.length l ∧ Below w.heap.size w w'
theorem rPairOf_any (x : R5) (w : World) : Calls Tryz.prog 71 #[x.val] w (NumsPost x.nums w) := by
 have hr := row1_new (w.alloc (.cells #[.int .i64 x.a, .int .i64 x.b, .int .i64 x.c, .int .i64 x.d, .int .i64 x.e] 84)) intV 3 x.nums
 rw [World.size_alloc] at hr
 have HR : Hid (Row1 intV ((w.alloc (.cells #[.int .i64 x.a, .int .i64 x.b, .int .i64 x.c, .int .i64 x.d, .int .i64 x.e] 84)).alloc (.cells (x.nums.map intV).toArray 3)) (w.heap.size + 1 + 1) (some ⟨w.heap.size + 1, 0, none⟩) x.nums.length x.nums) := Lib.hid hr
 clear hr
 unfold R5.val
 unfold R5.nums at HR
 unfold R5.nums
 go_enter Tryz.func71, Tryz.ntmps71
 go_wp2
 go_ret
 refine ⟨rfl, HR.out.up (by simp), ((Below.refl _ w).alloc (Nat.le_refl _) _).alloc (by simp) _⟩
theorem rLoadOf_any (x : R5) (w : World) : Calls Tryz.prog 72 #[x.val] w (NumsPost x.nums w) := by
 have hr := row1_new (w.alloc (.cells #[.int .i64 x.a, .int .i64 x.b, .int .i64 x.c, .int .i64 x.d, .int .i64 x.e] 86)) intV 3 x.nums
 rw [World.size_alloc] at hr
 have HR : Hid (Row1 intV ((w.alloc (.cells #[.int .i64 x.a, .int .i64 x.b, .int .i64 x.c, .int .i64 x.d, .int .i64 x.e] 86)).alloc (.cells (x.nums.map intV).toArray 3)) (w.heap.size + 1 + 1) (some ⟨w.heap.size + 1, 0, none⟩) x.nums.length x.nums) := Lib.hid hr
 clear hr
 unfold R5.val
 unfold R5.nums at HR
 unfold R5.nums
 go_enter Tryz.func72, Tryz.ntmps72
 go_wp2
 go_ret
 refine ⟨rfl, HR.out.up (by simp), ((Below.refl _ w).alloc (Nat.le_refl _) _).alloc (by simp) _⟩
theorem rCapOf_any (x : R4) (w : World) : Calls Tryz.prog 73 #[x.val] w (NumsPost x.nums w) := by
 have hr := row1_new (w.alloc (.cells #[.int .i64 x.a, .int .i64 x.b, .int .i64 x.c, .int .i64 x.d] 88)) intV 3 x.nums
 rw [World.size_alloc] at hr
 have HR : Hid (Row1 intV ((w.alloc (.cells #[.int .i64 x.a, .int .i64 x.b, .int .i64 x.c, .int .i64 x.d] 88)).alloc (.cells (x.nums.map intV).toArray 3)) (w.heap.size + 1 + 1) (some ⟨w.heap.size + 1, 0, none⟩) x.nums.length x.nums) := Lib.hid hr
 clear hr
 unfold R4.val
 unfold R4.nums at HR
 unfold R4.nums
 go_enter Tryz.func73, Tryz.ntmps73
 go_wp2
 go_ret
 refine ⟨rfl, HR.out.up (by simp), ((Below.refl _ w).alloc (Nat.le_refl _) _).alloc (by simp) _⟩
theorem lessL_cons (x y : Int) (r t : List Int) : lessL (x :: r) (y :: t) = if x ≠ y then decide (x < y) else lessL r t := rfl
theorem rless_any (A B : Option Addr) (n m c d : Nat) (a b : List Int) (w : World) (hn : n ≤ 1000) (ha : Row1 intV w w.heap.size A n a) (hb : Row1 intV w w.heap.size B m b) (hnm : n = m) :
  Calls Tryz.prog 70 #[.slice A n c, .slice B m d] w (RetPost (.bool (lessL a b)) w.heap.size w) := by
 have Ha := Lib.hid ha
 have Hb := Lib.hid hb
 subst hnm
 have Hal := Eqn.mk ha.1
 have Hbl := Eqn.mk hb.1
 clear ha hb
 go_enter Tryz.func70, Tryz.ntmps70
 go_wp2_with fail
 go_loopw [5] (fun i wr => ∃ k : Nat, k ≤ n ∧ i = .int .i64 k ∧ Eqn (lessL a b) (lessL (a.drop k) (b.drop k)) ∧ Below w.heap.size w wr) (fun i _ => n - (intOf i).toNat)
 case atStart => exact ⟨0, Nat.zero_le _, rfl, rfl, Below.refl _ _⟩
 case round =>
  obtain ⟨k, hk, rfl, HR, hB⟩ := hrel
  have HB := Lib.hid hB
  have hbs := hB.size
  by_cases hlt : k < n
  ·obtain ⟨p, hp, hpd⟩ := drop_at (xs := a) (k := k) (by rw [Hal.out]; exact hlt)
   obtain ⟨q, hq, hqd⟩ := drop_at (xs := b) (k := k) (by rw [Hbl.out]; exact hlt)
   obtain ⟨ab, ao, hA, hal, hca⟩ := (Ha.out.below hB).2 (by omega)
   obtain ⟨bb, bo, hBB, hbl, hcb⟩ := (Hb.out.below hB).2 (by omega)
   subst hA
   subst hBB
   have c0 := hca k p hp
   have d0 := hcb k q hq
   simp only [intV] at c0 d0
   have HR2 := HR.out
   rw [hpd, hqd, lessL_cons] at HR2
   have HRR := Eqn.mk HR2
   have j0 : (k : Int) < (n : Int) := by omega
   clear hca hcb hp hpd hq hqd HR HR2 hB
   by_cases hpq : p = q
   ·have HE := Eqn.mk (HRR.out.trans (if_neg (by simp [hpq])))
    have hd : (p != q) = false := by simp [hpq]
    clear HRR hpq
    go_wp2_with fail
    refine Lx.region (C := fun _ => True) (hs := []) (by kernel_rfl) (by kernel_rfl) trivial ?_
    repeat' (first | ((first | refine Lx.ln (fun K hK => ?_) | (first | (refine Lx.lp (v := ?_) ?_ (fun K hK => ?_); rotate_left 1; intro w' hCw; try dsimp only at hCw) | (refine Lx.lr (v := ?_) ?_ (fun K hK => ?_); rotate_left 1)); go_simp; first | done | with_reducible rfl); go_simp; refine hK _ ?_; clear hK K) | (refine Lx.le (fun K hK => ?_); go_simp; (first | fail); refine hK _ _ (trivial) ?_; clear hK K))
    all_goals (refine Lx.lex_nil ?_)
    go_wp2_with fail
    go_roundw
    case rel => exact ⟨k + 1, by omega, by go_num, HE, HB.out.drew⟩
    case measure => simp [intOf]; omega
   ·have HE := Eqn.mk (HRR.out.trans (if_pos hpq))
    have hd : (p != q) = true := by simp [hpq]
    clear HRR hpq
    go_wp2_with fail
    refine Lx.region (C := fun _ => True) (hs := []) (by kernel_rfl) (by kernel_rfl) trivial ?_
    repeat' (first | ((first | refine Lx.ln (fun K hK => ?_) | (first | (refine Lx.lp (v := ?_) ?_ (fun K hK => ?_); rotate_left 1; intro w' hCw; try dsimp only at hCw) | (refine Lx.lr (v := ?_) ?_ (fun K hK => ?_); rotate_left 1)); go_simp; first | done | with_reducible rfl); go_simp; refine hK _ ?_; clear hK K) | (refine Lx.le (fun K hK => ?_); go_simp; (first | fail); refine hK _ _ (trivial) ?_; clear hK K))
    all_goals (refine Lx.lex_nil ?_)
    go_wp2_with fail
    refine Lx.region (C := fun _ => True) (hs := []) (by kernel_rfl) (by kernel_rfl) trivial ?_
    repeat' (first | ((first | refine Lx.ln (fun K hK => ?_) | (first | (refine Lx.lp (v := ?_) ?_ (fun K hK => ?_); rotate_left 1; intro w' hCw; try dsimp only at hCw) | (refine Lx.lr (v := ?_) ?_ (fun K hK => ?_); rotate_left 1)); go_simp; first | done | with_reducible rfl); go_simp; refine hK _ ?_; clear hK K) | (refine Lx.le (fun K hK => ?_); go_simp; (first | fail); refine hK _ _ (trivial) ?_; clear hK K))
    all_goals (refine Lx.lex_nil ?_)
    go_wp2_with fail
    go_ret
    exact ⟨ret_bool HE.out.symm, HB.out.drew.drew⟩
  ·obtain rfl : k = n := by omega
   clear hB
   go_wp2_with fail
   go_ret
   refine ⟨ret_bool ?_, HB.out⟩
   rw [HR.out, drop_end (by rw [Hal.out]; omega)]
   rfl
def prevR {α : Type} (l : List α) (k : Nat) : Option α := if k = 0 then none else l[k - 1]?
theorem prevR_succ {α : Type} (l : List α) (k : Nat) : prevR l (k + 1) = l[k]? := by unfold prevR; rw [if_neg (by omega), Nat.add_sub_cancel]
theorem goF_cons {α : Type} (good : α → Bool) (nums : α → List Int) (prev : Option α) (x : α) (r : List α) : goF good nums prev (x :: r) = if good x && (match prev with | none => true | some y => lessL (nums y) (nums x)) then goF good nums (some x) r else false := rfl
theorem goF_bad {α : Type} {good : α → Bool} {nums : α → List Int} {prev : Option α} {x : α} {r : List α} (h : good x = false) : goF good nums prev (x :: r) = false := by rw [goF_cons, h]; simp
theorem goF_first {α : Type} {good : α → Bool} {nums : α → List Int} {x : α} {r : List α} (h : good x = true) : goF good nums none (x :: r) = goF good nums (some x) r := by rw [goF_cons, h]; simp
theorem goF_less {α : Type} {good : α → Bool} {nums : α → List Int} {x y : α} {r : List α} (h : good x = true) (h2 : lessL (nums y) (nums x) = true) : goF good nums (some y) (x :: r) = goF good nums (some x) r := by rw [goF_cons, h]; simp [h2]
theorem goF_not {α : Type} {good : α → Bool} {nums : α → List Int} {x y : α} {r : List α} (h2 : lessL (nums y) (nums x) = false) : goF good nums (some y) (x :: r) = false := by rw [goF_cons]; simp [h2]
def loopsOf : Code → List Code
 | .loop c => c :: loopsOf c
 | .seq a b => loopsOf a ++ loopsOf b
 | .block _ c => loopsOf c
 | .cond _ a b => loopsOf a ++ loopsOf b
 | _ => []
noncomputable def rvLoop (k : Nat) : Code := ((Tryz.f29.body.map loopsOf).getD []).getD k .skip
theorem cell_lt {w : World} {a : Addr} {v : Value} (h : w.cell? a = some v) : a.block < w.heap.size := by
 unfold World.cell? at h
 cases hh : w.heap[a.block]? with
 | none => simp [hh] at h
 | some o => exact (Array.getElem?_eq_some_iff.1 hh).1
theorem rv_pairs (w W0 wi : World) (A0 A1 A2 : Option Addr) (n0 c0 n1 c1 n2 c2 : Nat) (r : Rul) (ans : Bool) (h : RulAt W0 W0.heap.size ⟨A0, n0, c0, A1, n1, c1, A2, n2, c2⟩ r)
  (hx : Blk W0 w.heap.size 27 [.slice A0 n0 c0, .slice A1 n1 c1, .slice A2 n2 c2]) (hans : Eqn ans (goF goodP R5.nums none r.pairs && goF goodL R5.nums none r.loads && goF goodC R4.nums none r.caps)) (hwi : Below W0.heap.size W0 wi)
  (d0 : n0 ≤ 4096) (_d1 : n1 ≤ 1024) (_d2 : n2 ≤ 1024)
  (x_0 x_2 x_4 x_5 x_6 x_7 x_8 x_9 x_10 x_11 x_12 x_13 x_14 x_15 x_16 x_17 x_18 x_19 x_20 x_21 x_22 x_23 x_24 x_25 x_26 x_27 x_28 x_29 x_30 x_31 x_32 x_33 x_34 x_35 x_36 x_37 x_38 x_39 x_40 x_41 x_42 x_43 x_44 x_45 x_46 x_47 x_48 x_49 x_50 x_51 x_52 x_53 x_54 x_55 x_56 x_57 x_58 x_59 x_60 x_61 x_62 x_63 x_64 x_65 x_66 x_67 x_68 x_69 x_70 x_71 x_72 x_73 x_74 x_75 x_76 x_77 x_78 x_79 x_80 x_81 x_82 x_83 x_84 x_85 x_86 x_87 x_88 x_89 x_90 x_91 x_92 x_93 x_94 x_95 x_96 x_97 x_98 x_99 x_100 x_101 x_102 x_103 x_104 x_105 x_106 x_107 x_108 x_109 x_110 x_111 x_112 x_113 x_114 x_115 x_116 x_117 x_118 x_119 x_120 x_121 x_122 x_123 x_124 x_125 x_126 x_127 x_128 x_129 x_130 x_131 x_132 x_133 x_134 x_135 x_136 x_137 x_138 x_139 x_140 x_141 x_142 x_143 x_144 x_145 x_146 x_147 x_148 x_149 x_150 x_151 x_152 x_153 x_154 x_155 x_156 x_157 x_158 x_159 x_160 x_161 x_162 x_163 x_164 x_165 x_166 x_167 x_168 x_169 x_170 x_171 x_172 x_173 x_174 x_175 x_176 x_177 x_178 x_179 x_180 x_181 x_182 x_183 x_184 x_185 x_186 x_187 x_188 x_189 x_190 x_191 x_192 x_193 x_194 x_195 x_196 x_197 x_198 x_199 x_200 x_201 x_202 x_203 : Value) (Q : Exit → Act → World → Prop)
  (hQ : ∀ (u2 u3 u4 u25 u26 u27 u28 u29 u30 u31 u32 u33 u34 u35 u36 u37 u38 u39 u40 u41 u42 u43 u44 u45 u46 u47 u48 u49 u50 u51 u52 u53 u54 u55 u56 u57 u58 u59 u60 u61 u62 u63 u64 u65 u66 u67 u68 u69 u70 u71 u72 u73 u74 u75 u76 u77 u78 u79 u80 u81 u82 u83 u84 u85 u86 u87 u88 : Value) (w' : World), Eqn ans (goF goodL R5.nums none r.loads && goF goodC R4.nums none r.caps) → Below W0.heap.size W0 w' → Q (.exit 0) ⟨List.toArray (x_0 :: Value.pointer (some ⟨w.heap.size, 0, none⟩) :: u2 :: u3 :: u4 :: x_5 :: x_6 :: x_7 :: x_8 :: x_9 :: x_10 :: x_11 :: x_12 :: x_13 :: x_14 :: x_15 :: x_16 :: x_17 :: x_18 :: x_19 :: x_20 :: x_21 :: x_22 :: x_23 :: x_24 :: u25 :: u26 :: u27 :: u28 :: u29 :: u30 :: u31 :: u32 :: u33 :: u34 :: u35 :: u36 :: u37 :: u38 :: u39 :: u40 :: u41 :: u42 :: u43 :: u44 :: u45 :: u46 :: u47 :: u48 :: u49 :: u50 :: u51 :: u52 :: u53 :: u54 :: u55 :: u56 :: u57 :: u58 :: u59 :: u60 :: u61 :: u62 :: u63 :: u64 :: u65 :: u66 :: u67 :: u68 :: u69 :: u70 :: u71 :: u72 :: u73 :: u74 :: u75 :: u76 :: u77 :: u78 :: u79 :: u80 :: u81 :: u82 :: u83 :: u84 :: u85 :: u86 :: u87 :: u88 :: x_89 :: x_90 :: x_91 :: x_92 :: x_93 :: x_94 :: x_95 :: x_96 :: x_97 :: x_98 :: x_99 :: x_100 :: x_101 :: x_102 :: x_103 :: x_104 :: x_105 :: x_106 :: x_107 :: x_108 :: x_109 :: x_110 :: x_111 :: x_112 :: x_113 :: x_114 :: x_115 :: x_116 :: x_117 :: x_118 :: x_119 :: x_120 :: x_121 :: x_122 :: x_123 :: x_124 :: x_125 :: x_126 :: x_127 :: x_128 :: x_129 :: x_130 :: x_131 :: x_132 :: x_133 :: x_134 :: x_135 :: x_136 :: x_137 :: x_138 :: x_139 :: x_140 :: x_141 :: x_142 :: x_143 :: x_144 :: x_145 :: x_146 :: x_147 :: x_148 :: x_149 :: x_150 :: x_151 :: x_152 :: x_153 :: x_154 :: x_155 :: x_156 :: x_157 :: x_158 :: x_159 :: x_160 :: x_161 :: x_162 :: x_163 :: x_164 :: x_165 :: x_166 :: x_167 :: x_168 :: x_169 :: x_170 :: x_171 :: x_172 :: x_173 :: x_174 :: x_175 :: x_176 :: x_177 :: x_178 :: x_179 :: x_180 :: x_181 :: x_182 :: x_183 :: x_184 :: x_185 :: x_186 :: x_187 :: x_188 :: x_189 :: x_190 :: x_191 :: x_192 :: x_193 :: x_194 :: x_195 :: x_196 :: x_197 :: x_198 :: x_199 :: x_200 :: x_201 :: x_202 :: x_203 :: []), []⟩ w')
  (hR : ∀ (u3 u4 u25 u26 u27 u28 u29 u30 u31 u32 u33 u34 u35 u36 u37 u38 u39 u40 u41 u42 u43 u44 u45 u46 u47 u48 u49 u50 u51 u52 u53 u54 u55 u56 u57 u58 u59 u60 u61 u62 u63 u64 u65 u66 u67 u68 u69 u70 u71 u72 u73 u74 u75 u76 u77 u78 u79 u80 u81 u82 u83 u84 u85 u86 u87 u88 : Value) (w' : World), Eqn ans false → Below W0.heap.size W0 w' → Q .ret ⟨List.toArray (x_0 :: Value.pointer (some ⟨w.heap.size, 0, none⟩) :: Value.bool false :: u3 :: u4 :: x_5 :: x_6 :: x_7 :: x_8 :: x_9 :: x_10 :: x_11 :: x_12 :: x_13 :: x_14 :: x_15 :: x_16 :: x_17 :: x_18 :: x_19 :: x_20 :: x_21 :: x_22 :: x_23 :: x_24 :: u25 :: u26 :: u27 :: u28 :: u29 :: u30 :: u31 :: u32 :: u33 :: u34 :: u35 :: u36 :: u37 :: u38 :: u39 :: u40 :: u41 :: u42 :: u43 :: u44 :: u45 :: u46 :: u47 :: u48 :: u49 :: u50 :: u51 :: u52 :: u53 :: u54 :: u55 :: u56 :: u57 :: u58 :: u59 :: u60 :: u61 :: u62 :: u63 :: u64 :: u65 :: u66 :: u67 :: u68 :: u69 :: u70 :: u71 :: u72 :: u73 :: u74 :: u75 :: u76 :: u77 :: u78 :: u79 :: u80 :: u81 :: u82 :: u83 :: u84 :: u85 :: u86 :: u87 :: u88 :: x_89 :: x_90 :: x_91 :: x_92 :: x_93 :: x_94 :: x_95 :: x_96 :: x_97 :: x_98 :: x_99 :: x_100 :: x_101 :: x_102 :: x_103 :: x_104 :: x_105 :: x_106 :: x_107 :: x_108 :: x_109 :: x_110 :: x_111 :: x_112 :: x_113 :: x_114 :: x_115 :: x_116 :: x_117 :: x_118 :: x_119 :: x_120 :: x_121 :: x_122 :: x_123 :: x_124 :: x_125 :: x_126 :: x_127 :: x_128 :: x_129 :: x_130 :: x_131 :: x_132 :: x_133 :: x_134 :: x_135 :: x_136 :: x_137 :: x_138 :: x_139 :: x_140 :: x_141 :: x_142 :: x_143 :: x_144 :: x_145 :: x_146 :: x_147 :: x_148 :: x_149 :: x_150 :: x_151 :: x_152 :: x_153 :: x_154 :: x_155 :: x_156 :: x_157 :: x_158 :: x_159 :: x_160 :: x_161 :: x_162 :: x_163 :: x_164 :: x_165 :: x_166 :: x_167 :: x_168 :: x_169 :: x_170 :: x_171 :: x_172 :: x_173 :: x_174 :: x_175 :: x_176 :: x_177 :: x_178 :: x_179 :: x_180 :: x_181 :: x_182 :: x_183 :: x_184 :: x_185 :: x_186 :: x_187 :: x_188 :: x_189 :: x_190 :: x_191 :: x_192 :: x_193 :: x_194 :: x_195 :: x_196 :: x_197 :: x_198 :: x_199 :: x_200 :: x_201 :: x_202 :: x_203 :: []), []⟩ w') :
  Code.wp Tryz.prog (Code.loop (rvLoop 0)) Q ⟨List.toArray (x_0 :: Value.pointer (some ⟨w.heap.size, 0, none⟩) :: x_2 :: Value.int .i64 0 :: x_4 :: x_5 :: x_6 :: x_7 :: x_8 :: x_9 :: x_10 :: x_11 :: x_12 :: x_13 :: x_14 :: x_15 :: x_16 :: x_17 :: x_18 :: x_19 :: x_20 :: x_21 :: x_22 :: x_23 :: x_24 :: x_25 :: x_26 :: x_27 :: x_28 :: x_29 :: x_30 :: x_31 :: x_32 :: x_33 :: x_34 :: x_35 :: x_36 :: x_37 :: x_38 :: x_39 :: x_40 :: x_41 :: x_42 :: x_43 :: x_44 :: x_45 :: x_46 :: x_47 :: x_48 :: x_49 :: x_50 :: x_51 :: x_52 :: x_53 :: x_54 :: x_55 :: x_56 :: x_57 :: x_58 :: x_59 :: x_60 :: x_61 :: x_62 :: x_63 :: x_64 :: x_65 :: x_66 :: x_67 :: x_68 :: x_69 :: x_70 :: x_71 :: x_72 :: x_73 :: x_74 :: x_75 :: x_76 :: x_77 :: x_78 :: x_79 :: x_80 :: x_81 :: x_82 :: x_83 :: x_84 :: x_85 :: x_86 :: x_87 :: x_88 :: x_89 :: x_90 :: x_91 :: x_92 :: x_93 :: x_94 :: x_95 :: x_96 :: x_97 :: x_98 :: x_99 :: x_100 :: x_101 :: x_102 :: x_103 :: x_104 :: x_105 :: x_106 :: x_107 :: x_108 :: x_109 :: x_110 :: x_111 :: x_112 :: x_113 :: x_114 :: x_115 :: x_116 :: x_117 :: x_118 :: x_119 :: x_120 :: x_121 :: x_122 :: x_123 :: x_124 :: x_125 :: x_126 :: x_127 :: x_128 :: x_129 :: x_130 :: x_131 :: x_132 :: x_133 :: x_134 :: x_135 :: x_136 :: x_137 :: x_138 :: x_139 :: x_140 :: x_141 :: x_142 :: x_143 :: x_144 :: x_145 :: x_146 :: x_147 :: x_148 :: x_149 :: x_150 :: x_151 :: x_152 :: x_153 :: x_154 :: x_155 :: x_156 :: x_157 :: x_158 :: x_159 :: x_160 :: x_161 :: x_162 :: x_163 :: x_164 :: x_165 :: x_166 :: x_167 :: x_168 :: x_169 :: x_170 :: x_171 :: x_172 :: x_173 :: x_174 :: x_175 :: x_176 :: x_177 :: x_178 :: x_179 :: x_180 :: x_181 :: x_182 :: x_183 :: x_184 :: x_185 :: x_186 :: x_187 :: x_188 :: x_189 :: x_190 :: x_191 :: x_192 :: x_193 :: x_194 :: x_195 :: x_196 :: x_197 :: x_198 :: x_199 :: x_200 :: x_201 :: x_202 :: x_203 :: []), []⟩ wi := by
 have HQ := Lib.hid hQ
 have HRT := Lib.hid hR
 have HC : Hid (∀ W, Below W0.heap.size W0 W → W.cell? ⟨w.heap.size, 0, none⟩ = some (.slice A0 n0 c0) ∧ W.cell? ⟨w.heap.size, 1, none⟩ = some (.slice A1 n1 c1) ∧ W.cell? ⟨w.heap.size, 2, none⟩ = some (.slice A2 n2 c2)) := Lib.hid (fun W hb => ⟨(hx.keep hb).cell rfl, (hx.keep hb).cell rfl, (hx.keep hb).cell rfl⟩)
 have HH := Lib.hid h
 have HL : Hid (r.pairs.length = n0 ∧ r.loads.length = n1 ∧ r.caps.length = n2) := Lib.hid ⟨h.1.1, h.2.1.1, h.2.2.1.1⟩
 have HST := Lib.hid (fun n w => rst_any n w)
 have HSP := Lib.hid (fun a b w => rsp_any a b w)
 have HANS : Eqn ans (goF goodP R5.nums (prevR r.pairs 0) (r.pairs.drop 0) && goF goodL R5.nums none r.loads && goF goodC R4.nums none r.caps) := hans
 have B0 := Lib.hid hwi
 clear h hx hans hwi hQ hR
 conv => arg 2; arg 1; whnf
 go_loopw [3] (fun i wr => ∃ k : Nat, k ≤ n0 ∧ i = .int .i64 k ∧ Eqn ans (goF goodP R5.nums (prevR r.pairs k) (r.pairs.drop k) && goF goodL R5.nums none r.loads && goF goodC R4.nums none r.caps) ∧ Below W0.heap.size W0 wr) (fun i _ => n0 - (intOf i).toNat)
 case atStart => exact ⟨0, Nat.zero_le _, rfl, HANS, B0.out⟩
 case round =>
  obtain ⟨k, hk, rfl, HR, hB⟩ := hrel
  have HB := Lib.hid hB
  have hbs := hB.size
  obtain ⟨b0, b1, b2⟩ := HC.out _ hB
  have hwr : w.heap.size < wr.heap.size := (cell_lt b0)
  by_cases hlt : k < n0
  ·obtain ⟨p, hp, hpd⟩ := drop_at (xs := r.pairs) (k := k) (by rw [HL.out.1]; exact hlt)
   have hrow := HH.out.1.below hB
   obtain ⟨b, off, hA, hbl, hc⟩ := hrow.2 (by dsimp only; omega)
   dsimp only at hA hbl hc
   subst hA
   have e0 := hc k p hp 0 (by omega)
   have e1 := hc k p hp 1 (by omega)
   have e2 := hc k p hp 2 (by omega)
   have e3 := hc k p hp 3 (by omega)
   have e4 := hc k p hp 4 (by omega)
   have hnx : prevR r.pairs (k + 1) = some p := by rw [prevR_succ, hp]
   obtain ⟨y, hy, hpy⟩ : ∃ y : R5, (0 < k → ∀ j, j < 5 → wr.cell? ⟨b, off + (k - 1) * 5 + j, none⟩ = some (y.cell j)) ∧ (0 < k → prevR r.pairs k = some y) := by
    by_cases h0 : 0 < k
    ·obtain ⟨q, hq, _⟩ := drop_at (xs := r.pairs) (k := k - 1) (by rw [HL.out.1]; omega)
     exact ⟨q, fun _ j hj => hc (k - 1) q hq j hj, fun _ => by unfold prevR; rw [if_neg (by omega), hq]⟩
    ·exact ⟨p, fun h => absurd h h0, fun h => absurd h h0⟩
   obtain ⟨x0, x1, x2, x3, x4⟩ := p
   obtain ⟨y0, y1, y2, y3, y4⟩ := y
   simp only [R5.cell, Nat.add_zero] at e0 e1 e2 e3 e4
   have HR2 := HR.out
   rw [hpd] at HR2
   have HRR := Eqn.mk HR2
   have HNX := Eqn.mk hnx
   have HPY := Lib.hid hpy
   obtain ⟨W2, hW2⟩ : ∃ W2, W2 = wr.alloc (.cells #[.int .i64 x0, .int .i64 x1, .int .i64 x2, .int .i64 x3, .int .i64 x4] 84) := ⟨_, rfl⟩
   have hB2 : Below wr.heap.size wr W2 := by rw [hW2]; exact (Below.refl _ wr).alloc (Nat.le_refl _) _
   have hX : Blk W2 wr.heap.size 84 [.int .i64 x0, .int .i64 x1, .int .i64 x2, .int .i64 x3, .int .i64 x4] := by rw [hW2]; exact blk_new _ _ _
   have v0 : W2.cell? ⟨wr.heap.size, 0, none⟩ = some (.int .i64 x0) := hX.cell rfl
   have v1 : W2.cell? ⟨wr.heap.size, 1, none⟩ = some (.int .i64 x1) := hX.cell rfl
   have v2 : W2.cell? ⟨wr.heap.size, 2, none⟩ = some (.int .i64 x2) := hX.cell rfl
   have v3 : W2.cell? ⟨wr.heap.size, 3, none⟩ = some (.int .i64 x3) := hX.cell rfl
   have v4 : W2.cell? ⟨wr.heap.size, 4, none⟩ = some (.int .i64 x4) := hX.cell rfl
   have hw2 := hX.lt
   have HX := Lib.hid hX
   have HB2 := Lib.hid (hB.trans (hB2.mono hbs))
   obtain ⟨z0, z1, z2⟩ := HC.out _ HB2.out
   have HY : Hid (0 < k → ∀ j, j < 5 → W2.cell? ⟨b, off + (k - 1) * 5 + j, none⟩ = some ((⟨y0, y1, y2, y3, y4⟩ : R5).cell j)) := Lib.hid (fun h j hj => (hB2.cell (p := ⟨b, off + (k - 1) * 5 + j, none⟩) (by dsimp only; omega)).trans (hy h j hj))
   have j0 : (k : Int) < (n0 : Int) := by omega
   have HOFx : Hid (∀ W, Calls Tryz.prog 71 #[.agg #[.int .i64 x0, .int .i64 x1, .int .i64 x2, .int .i64 x3, .int .i64 x4]] W (NumsPost [x0, x1, x2, x3, x4] W)) := Lib.hid (fun W => rPairOf_any ⟨x0, x1, x2, x3, x4⟩ W)
   have HOFy : Hid (∀ W, Calls Tryz.prog 71 #[.agg #[.int .i64 y0, .int .i64 y1, .int .i64 y2, .int .i64 y3, .int .i64 y4]] W (NumsPost [y0, y1, y2, y3, y4] W)) := Lib.hid (fun W => rPairOf_any ⟨y0, y1, y2, y3, y4⟩ W)
   have HLS := Lib.hid (fun A B a b w h1 h2 => rless_any A B 5 5 5 5 a b w (by decide) h1 h2 rfl)
   have hC0 : Below W2.heap.size W2 W2.drew ∧ W2.drew.cell? ⟨wr.heap.size, 0, none⟩ = some (.int .i64 x0) ∧ W2.drew.cell? ⟨wr.heap.size, 1, none⟩ = some (.int .i64 x1) ∧ W2.drew.cell? ⟨wr.heap.size, 2, none⟩ = some (.int .i64 x2) ∧ W2.drew.cell? ⟨wr.heap.size, 3, none⟩ = some (.int .i64 x3) ∧ W2.drew.cell? ⟨wr.heap.size, 4, none⟩ = some (.int .i64 x4) := ⟨(Below.refl _ _).drew, v0, v1, v2, v3, v4⟩
   have HCK : Hid (∀ X, Below W2.heap.size W2 X → Below W2.heap.size W2 X ∧ X.cell? ⟨wr.heap.size, 0, none⟩ = some (.int .i64 x0) ∧ X.cell? ⟨wr.heap.size, 1, none⟩ = some (.int .i64 x1) ∧ X.cell? ⟨wr.heap.size, 2, none⟩ = some (.int .i64 x2) ∧ X.cell? ⟨wr.heap.size, 3, none⟩ = some (.int .i64 x3) ∧ X.cell? ⟨wr.heap.size, 4, none⟩ = some (.int .i64 x4)) := Lib.hid (fun X hb => ⟨hb, (hb.cell (p := ⟨wr.heap.size, 0, none⟩) hw2).trans v0, (hb.cell (p := ⟨wr.heap.size, 1, none⟩) hw2).trans v1, (hb.cell (p := ⟨wr.heap.size, 2, none⟩) hw2).trans v2, (hb.cell (p := ⟨wr.heap.size, 3, none⟩) hw2).trans v3, (hb.cell (p := ⟨wr.heap.size, 4, none⟩) hw2).trans v4⟩)
   have HC0 := Lib.hid hC0
   clear hc hp hpd HR HR2 hB hrow hy hpy hnx hB2 hX hC0 hbl
   go_wp2_with fail
   rw [← hW2]
   clear hW2 b0 b1 b2 e0 e1 e2 e3 e4
   by_cases hs0 : stF x0 = false
   ·have hg : goodP (⟨x0, x1, x2, x3, x4⟩ : R5) = false := by unfold goodP; dsimp only; simp [hs0]
    have HE : Eqn ans false := by rw [Eqn, HRR.out, goF_bad hg]; rfl
    clear HRR hg hlt HOFx HOFy HLS HPY HY HNX HCK
    refine Lx.region (C := fun X => Below W2.heap.size W2 X ∧ X.cell? ⟨wr.heap.size, 0, none⟩ = some (.int .i64 x0) ∧ X.cell? ⟨wr.heap.size, 1, none⟩ = some (.int .i64 x1) ∧ X.cell? ⟨wr.heap.size, 2, none⟩ = some (.int .i64 x2) ∧ X.cell? ⟨wr.heap.size, 3, none⟩ = some (.int .i64 x3) ∧ X.cell? ⟨wr.heap.size, 4, none⟩ = some (.int .i64 x4)) (hs := [46]) (by kernel_rfl) (by kernel_rfl) HC0.out ?_
    repeat' (first | ((first | refine Lx.ln (fun K hK => ?_) | (first | (refine Lx.lp (v := ?_) ?_ (fun K hK => ?_); rotate_left 1; intro w' hCw; try dsimp only at hCw) | (refine Lx.lr (v := ?_) ?_ (fun K hK => ?_); rotate_left 1)); go_simp; first | done | with_reducible rfl); go_simp; refine hK _ ?_; clear hK K) | (refine Lx.le (fun K hK => ?_); go_simp; (first | (go_at_call 30; refine (HST.out _ _).mono ?_; rintro e wz ⟨rfl, rfl⟩) | (go_at_call 69; refine (HSP.out _ _ _).mono ?_; rintro e wz ⟨rfl, rfl⟩)); refine hK _ _ (by first | exact HC0.out) ?_; clear hK K))
    all_goals (refine Lx.lex_nil ?_)
    go_wp2_with fail
    exact HRT.out _ _ _ _ _ _ _ _ _ _ _ _ _ _ _ _ _ _ _ _ _ _ _ _ _ _ _ _ _ _ _ _ _ _ _ _ _ _ _ _ _ _ _ _ _ _ _ _ _ _ _ _ _ _ _ _ _ _ _ _ _ _ _ _ _ _ _ HE (HB2.out.drew)
   ·have hs0' : stF x0 = true := by simpa using hs0
    by_cases hs1 : stF x1 = false
    ·have hg : goodP (⟨x0, x1, x2, x3, x4⟩ : R5) = false := by unfold goodP; dsimp only; simp [hs1]
     have HE : Eqn ans false := by rw [Eqn, HRR.out, goF_bad hg]; rfl
     clear HRR hg hlt HOFx HOFy HLS HPY HY HNX HCK
     refine Lx.region (C := fun X => Below W2.heap.size W2 X ∧ X.cell? ⟨wr.heap.size, 0, none⟩ = some (.int .i64 x0) ∧ X.cell? ⟨wr.heap.size, 1, none⟩ = some (.int .i64 x1) ∧ X.cell? ⟨wr.heap.size, 2, none⟩ = some (.int .i64 x2) ∧ X.cell? ⟨wr.heap.size, 3, none⟩ = some (.int .i64 x3) ∧ X.cell? ⟨wr.heap.size, 4, none⟩ = some (.int .i64 x4)) (hs := [46]) (by kernel_rfl) (by kernel_rfl) HC0.out ?_
     repeat' (first | ((first | refine Lx.ln (fun K hK => ?_) | (first | (refine Lx.lp (v := ?_) ?_ (fun K hK => ?_); rotate_left 1; intro w' hCw; try dsimp only at hCw) | (refine Lx.lr (v := ?_) ?_ (fun K hK => ?_); rotate_left 1)); go_simp; first | done | with_reducible rfl); go_simp; refine hK _ ?_; clear hK K) | (refine Lx.le (fun K hK => ?_); go_simp; (first | (go_at_call 30; refine (HST.out _ _).mono ?_; rintro e wz ⟨rfl, rfl⟩) | (go_at_call 69; refine (HSP.out _ _ _).mono ?_; rintro e wz ⟨rfl, rfl⟩)); refine hK _ _ (by first | exact HC0.out) ?_; clear hK K))
     all_goals (refine Lx.lex_nil ?_)
     go_wp2_with fail
     exact HRT.out _ _ _ _ _ _ _ _ _ _ _ _ _ _ _ _ _ _ _ _ _ _ _ _ _ _ _ _ _ _ _ _ _ _ _ _ _ _ _ _ _ _ _ _ _ _ _ _ _ _ _ _ _ _ _ _ _ _ _ _ _ _ _ _ _ _ _ HE (HB2.out.drew)
    ·have hs1' : stF x1 = true := by simpa using hs1
     by_cases hx2 : x1 ≤ x0
     ·have hg : goodP (⟨x0, x1, x2, x3, x4⟩ : R5) = false := by unfold goodP; dsimp only; simp [show ¬ (x0 < x1) by omega]
      have HE : Eqn ans false := by rw [Eqn, HRR.out, goF_bad hg]; rfl
      have hx2d : decide (x1 ≤ x0) = true := decide_eq_true hx2
      clear HRR hg hlt HOFx HOFy HLS HPY HY HNX HCK hx2
      refine Lx.region (C := fun X => Below W2.heap.size W2 X ∧ X.cell? ⟨wr.heap.size, 0, none⟩ = some (.int .i64 x0) ∧ X.cell? ⟨wr.heap.size, 1, none⟩ = some (.int .i64 x1) ∧ X.cell? ⟨wr.heap.size, 2, none⟩ = some (.int .i64 x2) ∧ X.cell? ⟨wr.heap.size, 3, none⟩ = some (.int .i64 x3) ∧ X.cell? ⟨wr.heap.size, 4, none⟩ = some (.int .i64 x4)) (hs := [46]) (by kernel_rfl) (by kernel_rfl) HC0.out ?_
      repeat' (first | ((first | refine Lx.ln (fun K hK => ?_) | (first | (refine Lx.lp (v := ?_) ?_ (fun K hK => ?_); rotate_left 1; intro w' hCw; try dsimp only at hCw) | (refine Lx.lr (v := ?_) ?_ (fun K hK => ?_); rotate_left 1)); go_simp; first | done | with_reducible rfl); go_simp; refine hK _ ?_; clear hK K) | (refine Lx.le (fun K hK => ?_); go_simp; (first | (go_at_call 30; refine (HST.out _ _).mono ?_; rintro e wz ⟨rfl, rfl⟩) | (go_at_call 69; refine (HSP.out _ _ _).mono ?_; rintro e wz ⟨rfl, rfl⟩)); refine hK _ _ (by first | exact HC0.out) ?_; clear hK K))
      all_goals (refine Lx.lex_nil ?_)
      go_wp2_with fail
      exact HRT.out _ _ _ _ _ _ _ _ _ _ _ _ _ _ _ _ _ _ _ _ _ _ _ _ _ _ _ _ _ _ _ _ _ _ _ _ _ _ _ _ _ _ _ _ _ _ _ _ _ _ _ _ _ _ _ _ _ _ _ _ _ _ _ _ _ _ _ HE (HB2.out.drew)
     ·have hx2' : decide (x1 ≤ x0) = false := by exact decide_eq_false hx2
      by_cases hx3 : x2 < -1
      ·have hg : goodP (⟨x0, x1, x2, x3, x4⟩ : R5) = false := by unfold goodP; dsimp only; simp [show ¬ (-1 ≤ x2) by omega]
       have HE : Eqn ans false := by rw [Eqn, HRR.out, goF_bad hg]; rfl
       have hx3d : decide (x2 < -1) = true := decide_eq_true hx3
       clear HRR hg hlt HOFx HOFy HLS HPY HY HNX HCK hx3
       refine Lx.region (C := fun X => Below W2.heap.size W2 X ∧ X.cell? ⟨wr.heap.size, 0, none⟩ = some (.int .i64 x0) ∧ X.cell? ⟨wr.heap.size, 1, none⟩ = some (.int .i64 x1) ∧ X.cell? ⟨wr.heap.size, 2, none⟩ = some (.int .i64 x2) ∧ X.cell? ⟨wr.heap.size, 3, none⟩ = some (.int .i64 x3) ∧ X.cell? ⟨wr.heap.size, 4, none⟩ = some (.int .i64 x4)) (hs := [46]) (by kernel_rfl) (by kernel_rfl) HC0.out ?_
       repeat' (first | ((first | refine Lx.ln (fun K hK => ?_) | (first | (refine Lx.lp (v := ?_) ?_ (fun K hK => ?_); rotate_left 1; intro w' hCw; try dsimp only at hCw) | (refine Lx.lr (v := ?_) ?_ (fun K hK => ?_); rotate_left 1)); go_simp; first | done | with_reducible rfl); go_simp; refine hK _ ?_; clear hK K) | (refine Lx.le (fun K hK => ?_); go_simp; (first | (go_at_call 30; refine (HST.out _ _).mono ?_; rintro e wz ⟨rfl, rfl⟩) | (go_at_call 69; refine (HSP.out _ _ _).mono ?_; rintro e wz ⟨rfl, rfl⟩)); refine hK _ _ (by first | exact HC0.out) ?_; clear hK K))
       all_goals (refine Lx.lex_nil ?_)
       go_wp2_with fail
       exact HRT.out _ _ _ _ _ _ _ _ _ _ _ _ _ _ _ _ _ _ _ _ _ _ _ _ _ _ _ _ _ _ _ _ _ _ _ _ _ _ _ _ _ _ _ _ _ _ _ _ _ _ _ _ _ _ _ _ _ _ _ _ _ _ _ _ _ _ _ HE (HB2.out.drew)
      ·have hx3' : decide (x2 < -1) = false := by exact decide_eq_false hx3
       by_cases hx4 : (1 : Int) < x2
       ·have hg : goodP (⟨x0, x1, x2, x3, x4⟩ : R5) = false := by unfold goodP; dsimp only; simp [show ¬ (x2 ≤ 1) by omega]
        have HE : Eqn ans false := by rw [Eqn, HRR.out, goF_bad hg]; rfl
        have hx4d : decide ((1 : Int) < x2) = true := decide_eq_true hx4
        clear HRR hg hlt HOFx HOFy HLS HPY HY HNX HCK hx4
        refine Lx.region (C := fun X => Below W2.heap.size W2 X ∧ X.cell? ⟨wr.heap.size, 0, none⟩ = some (.int .i64 x0) ∧ X.cell? ⟨wr.heap.size, 1, none⟩ = some (.int .i64 x1) ∧ X.cell? ⟨wr.heap.size, 2, none⟩ = some (.int .i64 x2) ∧ X.cell? ⟨wr.heap.size, 3, none⟩ = some (.int .i64 x3) ∧ X.cell? ⟨wr.heap.size, 4, none⟩ = some (.int .i64 x4)) (hs := [46]) (by kernel_rfl) (by kernel_rfl) HC0.out ?_
        repeat' (first | ((first | refine Lx.ln (fun K hK => ?_) | (first | (refine Lx.lp (v := ?_) ?_ (fun K hK => ?_); rotate_left 1; intro w' hCw; try dsimp only at hCw) | (refine Lx.lr (v := ?_) ?_ (fun K hK => ?_); rotate_left 1)); go_simp; first | done | with_reducible rfl); go_simp; refine hK _ ?_; clear hK K) | (refine Lx.le (fun K hK => ?_); go_simp; (first | (go_at_call 30; refine (HST.out _ _).mono ?_; rintro e wz ⟨rfl, rfl⟩) | (go_at_call 69; refine (HSP.out _ _ _).mono ?_; rintro e wz ⟨rfl, rfl⟩)); refine hK _ _ (by first | exact HC0.out) ?_; clear hK K))
        all_goals (refine Lx.lex_nil ?_)
        go_wp2_with fail
        exact HRT.out _ _ _ _ _ _ _ _ _ _ _ _ _ _ _ _ _ _ _ _ _ _ _ _ _ _ _ _ _ _ _ _ _ _ _ _ _ _ _ _ _ _ _ _ _ _ _ _ _ _ _ _ _ _ _ _ _ _ _ _ _ _ _ _ _ _ _ HE (HB2.out.drew)
       ·have hx4' : decide ((1 : Int) < x2) = false := by exact decide_eq_false hx4
        by_cases hs5 : spF x3 x4 = false
        ·have hg : goodP (⟨x0, x1, x2, x3, x4⟩ : R5) = false := by unfold goodP; dsimp only; simp [hs5]
         have HE : Eqn ans false := by rw [Eqn, HRR.out, goF_bad hg]; rfl
         clear HRR hg hlt HOFx HOFy HLS HPY HY HNX HCK
         refine Lx.region (C := fun X => Below W2.heap.size W2 X ∧ X.cell? ⟨wr.heap.size, 0, none⟩ = some (.int .i64 x0) ∧ X.cell? ⟨wr.heap.size, 1, none⟩ = some (.int .i64 x1) ∧ X.cell? ⟨wr.heap.size, 2, none⟩ = some (.int .i64 x2) ∧ X.cell? ⟨wr.heap.size, 3, none⟩ = some (.int .i64 x3) ∧ X.cell? ⟨wr.heap.size, 4, none⟩ = some (.int .i64 x4)) (hs := [46]) (by kernel_rfl) (by kernel_rfl) HC0.out ?_
         repeat' (first | ((first | refine Lx.ln (fun K hK => ?_) | (first | (refine Lx.lp (v := ?_) ?_ (fun K hK => ?_); rotate_left 1; intro w' hCw; try dsimp only at hCw) | (refine Lx.lr (v := ?_) ?_ (fun K hK => ?_); rotate_left 1)); go_simp; first | done | with_reducible rfl); go_simp; refine hK _ ?_; clear hK K) | (refine Lx.le (fun K hK => ?_); go_simp; (first | (go_at_call 30; refine (HST.out _ _).mono ?_; rintro e wz ⟨rfl, rfl⟩) | (go_at_call 69; refine (HSP.out _ _ _).mono ?_; rintro e wz ⟨rfl, rfl⟩)); refine hK _ _ (by first | exact HC0.out) ?_; clear hK K))
         all_goals (refine Lx.lex_nil ?_)
         go_wp2_with fail
         exact HRT.out _ _ _ _ _ _ _ _ _ _ _ _ _ _ _ _ _ _ _ _ _ _ _ _ _ _ _ _ _ _ _ _ _ _ _ _ _ _ _ _ _ _ _ _ _ _ _ _ _ _ _ _ _ _ _ _ _ _ _ _ _ _ _ _ _ _ _ HE (HB2.out.drew)
        ·have hs5' : spF x3 x4 = true := by simpa using hs5
         have hg : goodP (⟨x0, x1, x2, x3, x4⟩ : R5) = true := by unfold goodP; dsimp only; simp [hs0', hs1', hs5', show x0 < x1 by omega, show -1 ≤ x2 by omega, show x2 ≤ 1 by omega]
         clear hs0 hs1 hx2 hx3 hx4 hs5
         by_cases h0 : 0 < k
         ·have HP := Eqn.mk (HPY.out h0)
          obtain ⟨k', hk'⟩ : ∃ k', k - 1 = k' := ⟨_, rfl⟩
          have HYY := HY.out h0
          rw [hk'] at HYY
          have f0 := HYY 0 (by omega)
          have f1 := HYY 1 (by omega)
          have f2 := HYY 2 (by omega)
          have f3 := HYY 3 (by omega)
          have f4 := HYY 4 (by omega)
          simp only [R5.cell, Nat.add_zero] at f0 f1 f2 f3 f4
          have k1 : decide ((0 : Int) < (k : Int)) = true := decide_eq_true (by omega)
          have k5 : decide (0 < k) = true := decide_eq_true h0
          have r1 : IntKind.i64.wrap ((k : Int) - 1) = (k' : Int) := by rw [IntWalk.i64_in _ (by omega)]; omega
          have r3 : (k : Int) - 1 = (k' : Int) := by omega
          have r4 : (0 : Int) ≤ (k' : Int) := by omega
          have r5 : (k' : Int) < (n0 : Int) := by omega
          have r9 : IntKind.i64.wrap (k' : Int) = (k' : Int) := IntWalk.i64_in _ (by omega)
          have HG := Lib.hid hg
          clear hk' hg HYY HY HPY h0
          cases hll : lessL [y0, y1, y2, y3, y4] [x0, x1, x2, x3, x4] with
          | false =>
           have HE : Eqn ans false := by rw [Eqn, HRR.out, HP.out, goF_not hll]; rfl
           clear HRR HP hlt
           refine Lx.region (C := fun X => Below W2.heap.size W2 X ∧ X.cell? ⟨wr.heap.size, 0, none⟩ = some (.int .i64 x0) ∧ X.cell? ⟨wr.heap.size, 1, none⟩ = some (.int .i64 x1) ∧ X.cell? ⟨wr.heap.size, 2, none⟩ = some (.int .i64 x2) ∧ X.cell? ⟨wr.heap.size, 3, none⟩ = some (.int .i64 x3) ∧ X.cell? ⟨wr.heap.size, 4, none⟩ = some (.int .i64 x4)) (hs := [46]) (by kernel_rfl) (by kernel_rfl) HC0.out ?_
           repeat' (first | ((first | refine Lx.ln (fun K hK => ?_) | (first | (refine Lx.lp (v := ?_) ?_ (fun K hK => ?_); rotate_left 1; intro w' hCw; try dsimp only at hCw) | (refine Lx.lr (v := ?_) ?_ (fun K hK => ?_); rotate_left 1)); go_simp; first | done | with_reducible rfl); go_simp; refine hK _ ?_; clear hK K) | (refine Lx.le (fun K hK => ?_); go_simp; (first | (go_at_call 30; refine (HST.out _ _).mono ?_; rintro e wz ⟨rfl, rfl⟩) | (go_at_call 69; refine (HSP.out _ _ _).mono ?_; rintro e wz ⟨rfl, rfl⟩) | (go_at_call_of 71 (Value.agg #[.int .i64 y0, .int .i64 y1, .int .i64 y2, .int .i64 y3, .int .i64 y4]); refine (HOFy.out _).mono ?_; rintro e Wy ⟨rfl, hry, hby⟩; simp only [List.length_cons, List.length_nil] at hry; have hbw : Below W2.heap.size W2 Wy := (Below.refl _ _).drew.trans (hby.mono (Nat.le_refl _))) | (go_at_call_of 71 (Value.agg #[.int .i64 x0, .int .i64 x1, .int .i64 x2, .int .i64 x3, .int .i64 x4]); refine (HOFx.out _).mono ?_; rintro e Wx ⟨rfl, hrx, hbx⟩; simp only [List.length_cons, List.length_nil] at hrx; have hbw2 : Below W2.heap.size W2 Wx := hbw.trans (hbx.mono hbw.size); have hry2 := hry.keep hbx) | (go_at_call 70; refine (HLS.out _ _ _ _ _ hry2 hrx).mono ?_; rintro e Wl ⟨rfl, hbl⟩; have hbw3 : Below W2.heap.size W2 Wl := hbw2.trans (hbl.mono hbw2.size))); refine hK _ _ (by first | exact HCK.out _ hbw3 | exact HCK.out _ hbw2 | exact HCK.out _ hbw | exact HC0.out) ?_; clear hK K))
           all_goals (refine Lx.lex_nil ?_)
           go_wp2_with fail
           exact HRT.out _ _ _ _ _ _ _ _ _ _ _ _ _ _ _ _ _ _ _ _ _ _ _ _ _ _ _ _ _ _ _ _ _ _ _ _ _ _ _ _ _ _ _ _ _ _ _ _ _ _ _ _ _ _ _ _ _ _ _ _ _ _ _ _ _ _ _ HE (HB2.out.trans (hbw3.mono HB2.out.size))
          | true =>
           have HE : Eqn ans (goF goodP R5.nums (prevR r.pairs (k + 1)) (r.pairs.drop (k + 1)) && goF goodL R5.nums none r.loads && goF goodC R4.nums none r.caps) := by rw [Eqn, HRR.out, HP.out, goF_less HG.out hll, HNX.out]
           clear HRR HP HNX
           refine Lx.region (C := fun X => Below W2.heap.size W2 X ∧ X.cell? ⟨wr.heap.size, 0, none⟩ = some (.int .i64 x0) ∧ X.cell? ⟨wr.heap.size, 1, none⟩ = some (.int .i64 x1) ∧ X.cell? ⟨wr.heap.size, 2, none⟩ = some (.int .i64 x2) ∧ X.cell? ⟨wr.heap.size, 3, none⟩ = some (.int .i64 x3) ∧ X.cell? ⟨wr.heap.size, 4, none⟩ = some (.int .i64 x4)) (hs := [46]) (by kernel_rfl) (by kernel_rfl) HC0.out ?_
           repeat' (first | ((first | refine Lx.ln (fun K hK => ?_) | (first | (refine Lx.lp (v := ?_) ?_ (fun K hK => ?_); rotate_left 1; intro w' hCw; try dsimp only at hCw) | (refine Lx.lr (v := ?_) ?_ (fun K hK => ?_); rotate_left 1)); go_simp; first | done | with_reducible rfl); go_simp; refine hK _ ?_; clear hK K) | (refine Lx.le (fun K hK => ?_); go_simp; (first | (go_at_call 30; refine (HST.out _ _).mono ?_; rintro e wz ⟨rfl, rfl⟩) | (go_at_call 69; refine (HSP.out _ _ _).mono ?_; rintro e wz ⟨rfl, rfl⟩) | (go_at_call_of 71 (Value.agg #[.int .i64 y0, .int .i64 y1, .int .i64 y2, .int .i64 y3, .int .i64 y4]); refine (HOFy.out _).mono ?_; rintro e Wy ⟨rfl, hry, hby⟩; simp only [List.length_cons, List.length_nil] at hry; have hbw : Below W2.heap.size W2 Wy := (Below.refl _ _).drew.trans (hby.mono (Nat.le_refl _))) | (go_at_call_of 71 (Value.agg #[.int .i64 x0, .int .i64 x1, .int .i64 x2, .int .i64 x3, .int .i64 x4]); refine (HOFx.out _).mono ?_; rintro e Wx ⟨rfl, hrx, hbx⟩; simp only [List.length_cons, List.length_nil] at hrx; have hbw2 : Below W2.heap.size W2 Wx := hbw.trans (hbx.mono hbw.size); have hry2 := hry.keep hbx) | (go_at_call 70; refine (HLS.out _ _ _ _ _ hry2 hrx).mono ?_; rintro e Wl ⟨rfl, hbl⟩; have hbw3 : Below W2.heap.size W2 Wl := hbw2.trans (hbl.mono hbw2.size))); refine hK _ _ (by first | exact HCK.out _ hbw3 | exact HCK.out _ hbw2 | exact HCK.out _ hbw | exact HC0.out) ?_; clear hK K))
           all_goals (refine Lx.lex_nil ?_)
           go_wp2_with fail
           go_roundw
           case rel => exact ⟨k + 1, hlt, by go_num, HE, HB2.out.trans (hbw3.mono HB2.out.size)⟩
           case measure => simp [intOf]; omega
         ·have HP0 : prevR r.pairs k = none := by unfold prevR; rw [if_pos (by omega)]
          have HE : Eqn ans (goF goodP R5.nums (prevR r.pairs (k + 1)) (r.pairs.drop (k + 1)) && goF goodL R5.nums none r.loads && goF goodC R4.nums none r.caps) := by rw [Eqn, HRR.out, HP0, goF_first hg, HNX.out]
          have k1 : decide ((0 : Int) < (k : Int)) = false := decide_eq_false (by omega)
          have k5 : decide (0 < k) = false := decide_eq_false h0
          clear HRR HNX hg HY HPY h0 HP0
          refine Lx.region (C := fun X => Below W2.heap.size W2 X ∧ X.cell? ⟨wr.heap.size, 0, none⟩ = some (.int .i64 x0) ∧ X.cell? ⟨wr.heap.size, 1, none⟩ = some (.int .i64 x1) ∧ X.cell? ⟨wr.heap.size, 2, none⟩ = some (.int .i64 x2) ∧ X.cell? ⟨wr.heap.size, 3, none⟩ = some (.int .i64 x3) ∧ X.cell? ⟨wr.heap.size, 4, none⟩ = some (.int .i64 x4)) (hs := [46]) (by kernel_rfl) (by kernel_rfl) HC0.out ?_
          repeat' (first | ((first | refine Lx.ln (fun K hK => ?_) | (first | (refine Lx.lp (v := ?_) ?_ (fun K hK => ?_); rotate_left 1; intro w' hCw; try dsimp only at hCw) | (refine Lx.lr (v := ?_) ?_ (fun K hK => ?_); rotate_left 1)); go_simp; first | done | with_reducible rfl); go_simp; refine hK _ ?_; clear hK K) | (refine Lx.le (fun K hK => ?_); go_simp; (first | (go_at_call 30; refine (HST.out _ _).mono ?_; rintro e wz ⟨rfl, rfl⟩) | (go_at_call 69; refine (HSP.out _ _ _).mono ?_; rintro e wz ⟨rfl, rfl⟩)); refine hK _ _ (by first | exact HC0.out) ?_; clear hK K))
          all_goals (refine Lx.lex_nil ?_)
          go_wp2_with fail
          go_roundw
          case rel => exact ⟨k + 1, hlt, by go_num, HE, HB2.out.drew⟩
          case measure => simp [intOf]; omega
  ·obtain rfl : k = n0 := by omega
   have HNEXT : Eqn ans (goF goodL R5.nums none r.loads && goF goodC R4.nums none r.caps) := by rw [Eqn, HR.out, drop_end (by rw [HL.out.1]; omega)]; simp [goF]
   clear hB HR hlt hk
   go_wp2_with fail
   exact HQ.out _ _ _ _ _ _ _ _ _ _ _ _ _ _ _ _ _ _ _ _ _ _ _ _ _ _ _ _ _ _ _ _ _ _ _ _ _ _ _ _ _ _ _ _ _ _ _ _ _ _ _ _ _ _ _ _ _ _ _ _ _ _ _ _ _ _ _ _ HNEXT HB.out
end Go.Proofs.YtdpbbhbegehcjaaGreatDoor
