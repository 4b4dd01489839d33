/- Packed of contain; packed of the laws: the packed sets in rows of its own. -/
import Derived.OrdersIn
import Derived.RangeFuncCalls
import Derived.Test.YtdpbbhbegehcjaaDoorNon04
import Derived.Test.YtdpbbhbegehcjaaDoorNon08
import Derived.Test.YtdpbbhbegehcjaaDoorNon09
import Derived.Test.YtdpbbhbegehcjaaDoorNon11
import Derived.Test.YtdpbbhbegehcjaaDoorNon12
import Derived.Test.YtdpbbhbegehcjaaDoorNon14
set_option maxRecDepth 100000
set_option maxHeartbeats 4000000
namespace Go.Proofs.YtdpbbhbegehcjaaDoor
open Go.RowKit
namespace Lx
section
variable {P : Program} {ops : Array Oper} {C : World → Prop} {hs : List Nat}
def chainOk (n : Nat) (ops : Array Oper) : Bool :=
 let M := masks ops.toList []
 (List.range ops.size).all fun j => decide (j < n) || (List.range j).all fun i => (M.getD j 0).testBit i
theorem anyIn_of_lexY {Q : Exit → Act → World → Prop} {n r q : Nat} (hok : ok hs ops = true) (ht : chainOk n ops = true) (hnd : ∀ (i : Nat) (o : Oper), ops[i]? = some o → ∀ c, o.op ≠ .defer c) : ∀ (fuel : Nat) (L1 L2 : List Nat) (listed : Array Bool) (a : Act) (w : World), C w → (L1 ++ L2).length = fuel →
  (∀ i, i ∈ L1 ++ L2 ↔ i < ops.size ∧ listed.getD i true = false) → (L1 ++ L2).Pairwise (· < ·) → (∀ i ∈ L1, i < n) → L2 = List.range' n (ops.size - n) → Down ops listed → listed.size = ops.size →
  lexN P ops C hs (fun a w => wpOpsIn (Fence.wide.inRound r) q P ops Q L2 a w) L1 a w → wpAnyIn (Fence.wide.inRound r) q P .any ops Q fuel listed a w := by
 have htl : ∀ j, n ≤ j → j < ops.size → ∀ i, i < j → ((masks ops.toList []).getD j 0).testBit i = true := by
  intro j hj hjs i hi
  have h1 := List.all_eq_true.1 ht j (List.mem_range.2 hjs)
  simp only [Bool.or_eq_true, decide_eq_true_eq] at h1
  rcases h1 with h1 | h1
  ·omega
  ·have := List.all_eq_true.1 h1 i (List.mem_range.2 hi)
   simpa using this
 have hok' : ∀ (j : Nat) (oj : Oper), ops[j]? = some oj → noSel oj = true ∧ (∀ e ∈ oj.after, Region.binds .any e = true → e.on < j) ∧ ∀ i, i < j → ((masks ops.toList []).getD j 0).testBit i = true ∨ pair ops hs i j = true := by
  intro j oj hj
  have hlt : j < ops.size := (Array.getElem?_eq_some_iff.1 hj).1
  have h1 := List.all_eq_true.1 hok j (List.mem_range.2 hlt)
  simp only [hj, Bool.and_eq_true] at h1
  obtain ⟨⟨h2, h3⟩, h4⟩ := h1
  refine ⟨h2, fun e he hb => ?_, fun i hi => ?_⟩
  ·have := Array.all_eq_true'.1 h3 e he
   simpa [hb] using this
  ·have := List.all_eq_true.1 h4 i (List.mem_range.2 hi)
   simpa using this
 have hsel : ∀ (j : Nat) (o : Oper) cs b, ops[j]? = some o → o.op ≠ .select cs b := by
  intro j o cs b hj he
  have := (hok' j o hj).1
  simp [noSel, he] at this
 have hset0 : ∀ (listed : Array Bool) (j i : Nat), (listed.setIfInBounds j true).getD i true = false ↔ (listed.getD i true = false ∧ i ≠ j) := by
  intro listed j i
  by_cases hij : i = j
  ·subst hij
   simp [Array.getD_eq_getD_getElem?, Array.getElem?_setIfInBounds]
   split <;> simp_all
  ·simp [Array.getD_eq_getD_getElem?, Array.getElem?_setIfInBounds_ne (Ne.symm hij), hij]
 have chain : ∀ (m k : Nat) (listed : Array Bool) (a : Act) (w : World), k + m = ops.size → n ≤ k → (∀ i, i < ops.size → (listed.getD i true = false ↔ k ≤ i)) → Down ops listed → listed.size = ops.size →
   wpOpsIn (Fence.wide.inRound r) q P ops Q (List.range' k m) a w → wpAnyIn (Fence.wide.inRound r) q P .any ops Q m listed a w := by
  intro m
  induction m with
  | zero =>
   intro k listed a w hk hn hl hD hsz h
   refine ⟨?_, by simpa [wpOpsIn] using h⟩
   apply List.eq_nil_iff_forall_not_mem.2
   intro j hj
   obtain ⟨hj1, oj, hoj, _⟩ := mem_ready.1 hj
   have hjlt : j < ops.size := (Array.getElem?_eq_some_iff.1 hoj).1
   have := (hl j hjlt).1 hj1
   omega
  | succ m ih =>
   intro k listed a w hk hn hl hD hsz h
   have hklt : k < ops.size := by omega
   have hok0 : ops[k]? = some ops[k] := Array.getElem?_eq_getElem hklt
   rw [List.range'_succ, wpOpsIn_cons] at h
   refine ⟨fun hr => ?_, fun j hj => ?_⟩
   ·exfalso
    have hri : k ∈ Region.ready .any ops listed := by
     refine mem_ready.2 ⟨(hl k hklt).2 (Nat.le_refl _), _, hok0, fun e he hb => ?_⟩
     have hlt := (hok' k _ hok0).2.1 e he hb
     have hb2 : e.on < listed.size := by omega
     have hne : ¬ listed.getD e.on true = false := fun hf => by have := (hl e.on (by omega)).1 hf; omega
     simp only [Array.getD_eq_getD_getElem?, Array.getElem?_eq_getElem hb2, Option.getD_some] at hne ⊢
     simpa using hne
    rw [hr] at hri
    cases hri
   ·obtain ⟨hj1, oj, hoj, hjr⟩ := mem_ready.1 hj
    have hjlt : j < ops.size := (Array.getElem?_eq_some_iff.1 hoj).1
    have hkj := (hl j hjlt).1 hj1
    obtain rfl : j = k := by
     rcases Nat.lt_or_ge k j with h1 | h1
     ·exfalso
      have hl2 := masks_sound hD (j + 1) j oj (by omega) hoj hjr k (htl j (by omega) hjlt k h1)
      have hk2 := (hl k hklt).2 (Nat.le_refl _)
      have hb2 : k < listed.size := by omega
      simp only [Array.getD_eq_getD_getElem?, Array.getElem?_eq_getElem hb2, Option.getD_some] at hl2 hk2
      rw [hl2] at hk2
      cases hk2
     ·omega
    unfold wpOpIn at h ⊢
    rw [hoj] at h ⊢
    dsimp only at h ⊢
    have go : ∀ a' w', wpOpsIn (Fence.wide.inRound r) q P ops Q (List.range' (j + 1) m) a' w' → wpAnyIn (Fence.wide.inRound r) q P .any ops Q m (listed.setIfInBounds j true) a' w' := by
     intro a' w' h'
     refine ih (j + 1) _ a' w' (by omega) (by omega) (fun i hi => ?_) ?_ (by simp [hsz]) h'
     ·rw [hset0, hl i hi]; omega
     ·intro j' o' ho' hl' e he hb
      by_cases hjj : j' = j
      ·subst hjj
       rw [hoj] at ho'
       injection ho' with ho'
       subst ho'
       exact getD_set_true (hjr e he hb)
      ·rw [getD_set_ne false (Ne.symm hjj)] at hl'
       exact getD_set_true (hD j' o' ho' hl' e he hb)
    split
    ·rename_i hw
     rw [if_pos hw] at h
     exact Oper.wpIn_mono go h
    ·rename_i hw
     rw [if_neg hw] at h
     exact ⟨h.1, go _ _ h.2⟩
 have chainEnd : ∀ (L2 : List Nat) (fuel n' : Nat) (listed : Array Bool) (a : Act) (w : World), (∀ i, i ∈ [] ++ L2 ↔ i < ops.size ∧ listed.getD i true = false) → ([] ++ L2).length = fuel → L2 = List.range' n (ops.size - n) → Down ops listed → listed.size = ops.size →
   wpOpsIn (Fence.wide.inRound r) q P ops Q L2 a w → wpAnyIn (Fence.wide.inRound r) q P .any ops Q fuel listed a w := by
  intro L2 fuel _ listed a w hm hL h2 hD hsz h
  rw [List.nil_append] at hm hL
  rw [h2] at h hm hL
  rw [List.length_range'] at hL
  subst hL
  by_cases hns : n ≤ ops.size
  ·refine chain _ n listed a w (by omega) (Nat.le_refl _) (fun i hi => ?_) hD hsz h
   have := hm i
   rw [List.mem_range'_1] at this
   constructor
   ·intro hf; have := this.2 ⟨hi, hf⟩; omega
   ·intro hf; exact (this.1 (by omega)).2
  ·have h0 : ops.size - n = 0 := by omega
   rw [h0] at h hm ⊢
   refine ⟨?_, by simpa [wpOpsIn] using h⟩
   apply List.eq_nil_iff_forall_not_mem.2
   intro j hj
   obtain ⟨hj1, oj, hoj, _⟩ := mem_ready.1 hj
   have := (hm j).2 ⟨(Array.getElem?_eq_some_iff.1 hoj).1, hj1⟩
   simp at this
 intro fuel
 induction fuel with
 | zero =>
  intro L1 L2 listed a w hC hL hm hs' h1 h2 hD hsz h
  have hnil : L1 = [] := List.eq_nil_of_length_eq_zero (by simp at hL; simp [hL])
  subst hnil
  exact chainEnd L2 0 n listed a w hm hL h2 hD hsz h
 | succ fuel ih =>
  intro L1 L2 listed a w hC hL hm hs' h1 h2 hD hsz h
  cases L1 with
  | nil => exact chainEnd L2 (fuel + 1) n listed a w hm hL h2 hD hsz h
  | cons i0 L0 =>
   have hi0 : i0 < n := h1 i0 (by simp)
   have h2' : ∀ i ∈ L2, n ≤ i := fun i h => by rw [h2] at h; simp at h; omega
   obtain ⟨hi1, hi2⟩ := (hm i0).1 (by simp)
   refine ⟨fun hr => ?_, fun j hj => ?_⟩
   ·exfalso
    have ho : ops[i0]? = some ops[i0] := Array.getElem?_eq_getElem hi1
    have hri : i0 ∈ Region.ready .any ops listed := by
     refine mem_ready.2 ⟨hi2, _, ho, fun e he hb => ?_⟩
     have hlt := (hok' i0 _ ho).2.1 e he hb
     by_cases hle : listed.getD e.on true = false
     ·have hmem : e.on ∈ i0 :: (L0 ++ L2) := (hm e.on).2 ⟨by omega, hle⟩
      rcases List.mem_cons.1 hmem with h | h
      ·omega
      ·have := (List.pairwise_cons.1 hs').1 e.on h
       omega
     ·have hb2 : e.on < listed.size := by omega
      simp only [Array.getD_eq_getD_getElem?, Array.getElem?_eq_getElem hb2, Option.getD_some] at hle ⊢
      simpa using hle
    rw [hr] at hri
    cases hri
   ·obtain ⟨hj1, oj, hoj, hjr⟩ := mem_ready.1 hj
    have hjlt : j < ops.size := (Array.getElem?_eq_some_iff.1 hoj).1
    have hmem : j ∈ i0 :: L0 := by
     rcases List.mem_append.1 ((hm j).2 ⟨hjlt, hj1⟩) with h | h
     ·exact h
     ·exfalso
      have hl := masks_sound hD (j + 1) j oj (by omega) hoj hjr i0 (htl j (by rw [h2] at h; simp at h; omega) hjlt i0 (by rw [h2] at h; simp at h; omega))
      have hb2 : i0 < listed.size := by omega
      simp only [Array.getD_eq_getD_getElem?, Array.getElem?_eq_getElem hb2, Option.getD_some] at hl hi2
      rw [hl] at hi2
      cases hi2
    obtain ⟨pre, post, hsplit⟩ := List.append_of_mem hmem
    rw [hsplit] at hs' hm hL h h1
    clear hsplit hmem
    have hs1 := (List.pairwise_append.1 hs').1
    have hpre : ∀ i ∈ pre, i < j := by
     intro i hi
     exact (List.pairwise_append.1 hs1).2.2 i hi j (by simp)
    have hpost : ∀ i ∈ post, j < i := fun i hi => (List.pairwise_cons.1 (List.pairwise_append.1 hs1).2.1).1 i hi
    have hpair : ∀ i ∈ pre, pair ops hs i j = true := by
     intro i hi
     rcases (hok' j oj hoj).2.2 i (hpre i hi) with h1 | h1
     ·exfalso
      have hl := masks_sound hD (j + 1) j oj (by omega) hoj hjr i h1
      obtain ⟨hi1, hi2⟩ := (hm i).1 (by simp [hi])
      have hb2 : i < listed.size := by omega
      simp only [Array.getD_eq_getD_getElem?, Array.getElem?_eq_getElem hb2, Option.getD_some] at hl hi2
      rw [hl] at hi2
      cases hi2
     ·exact h1
    have hp1 := pull hoj hsel post pre a w hpair hC h
    have hset : ∀ i, (listed.setIfInBounds j true).getD i true = false ↔ (listed.getD i true = false ∧ i ≠ j) := by
     intro i
     by_cases hij : i = j
     ·subst hij
      simp [Array.getD_eq_getD_getElem?, Array.getElem?_setIfInBounds]
      split <;> simp_all
     ·simp [Array.getD_eq_getD_getElem?, Array.getElem?_setIfInBounds_ne (Ne.symm hij), hij]
    have hp2 : step P ops C hs j oj (wpAnyIn (Fence.wide.inRound r) q P .any ops Q fuel (listed.setIfInBounds j true)) a w := by
     refine step_mono hC hp1 fun a' w' hC' _ hK => ih (pre ++ post) L2 _ a' w' hC' ?_ ?_ ?_ ?_ h2 ?_ (by simp [hsz]) hK
     ·simp at hL ⊢; omega
     ·intro i
      rw [hset]
      constructor
      ·intro hi
       have hi' : i ∈ (pre ++ j :: post) ++ L2 := by
        simp only [List.mem_append, List.mem_cons] at hi ⊢
        rcases hi with (h | h) | h <;> simp [h]
       obtain ⟨q1, q2⟩ := (hm i).1 hi'
       refine ⟨q1, q2, ?_⟩
       simp only [List.mem_append] at hi
       rcases hi with (h | h) | h
       ·have := hpre i h; omega
       ·have := hpost i h; omega
       ·have := h1 j (by simp)
        have := h2' i h
        omega
      ·rintro ⟨q1, q2, q3⟩
       have := (hm i).2 ⟨q1, q2⟩
       simp only [List.mem_append, List.mem_cons] at this ⊢
       rcases this with (h | h | h) | h
       ·simp [h]
       ·exact absurd h q3
       ·simp [h]
       ·simp [h]
     ·have hp := List.pairwise_append.1 hs'
      refine List.pairwise_append.2 ⟨?_, hp.2.1, fun x hx y hy => hp.2.2 x (by simp only [List.mem_append, List.mem_cons] at hx ⊢; rcases hx with h | h <;> simp [h]) y hy⟩
      have hq := List.pairwise_append.1 hs1
      refine List.pairwise_append.2 ⟨hq.1, (List.pairwise_cons.1 hq.2.1).2, fun x hx y hy => ?_⟩
      have := hpre x hx
      have := hpost y hy
      omega
     ·intro i hi
      refine h1 i ?_
      simp only [List.mem_append, List.mem_cons] at hi ⊢
      rcases hi with h | h <;> simp [h]
     ·intro j' o' ho' hl' e he hb
      by_cases hjj : j' = j
      ·subst hjj
       rw [hoj] at ho'
       injection ho' with ho'
       subst ho'
       exact getD_set_true (hjr e he hb)
      ·rw [getD_set_ne false (Ne.symm hjj)] at hl'
       exact getD_set_true (hD j' o' ho' hl' e he hb)
    unfold step at hp2
    unfold wpOpIn
    simp only [hoj]
    split
    ·rename_i hw
     rw [if_pos hw] at hp2
     refine wpIn_of_wp (Q := NoQ) (hnd j oj hoj) (fun e a w h => h.elim) ?_
     rcases hp2 with ⟨_, v, h3, h4⟩ | ⟨_, v, h3, h4⟩ | ⟨_, h3⟩
     ·unfold Oper.wp; rw [h3 w hC]; exact h4
     ·unfold Oper.wp; rw [h3]; exact h4
     ·exact Oper.wp_mono (fun _ _ hh => hh.2) h3
    ·rename_i hw
     rw [if_neg hw] at hp2
     exact ⟨fun _ _ => trivial, hp2⟩
end
theorem noDeferY {l : List Oper} (hd : noDefer l = true) : ∀ (i : Nat) (o : Oper), l.toArray[i]? = some o → ∀ c, o.op ≠ .defer c := by
 intro i o ho c hc
 have hmem : o ∈ l := by
  have : l[i]? = some o := by simpa using ho
  exact List.mem_of_getElem? this
 have := List.all_eq_true.1 hd o hmem
 rw [hc] at this
 cases this
theorem regionY {P : Program} {C : World → Prop} {hs : List Nat} {id r q : Nat} {l : List Oper} {Q : Exit → Act → World → Prop} {a : Act} {w : World} (n : Nat) (l1 l2 : List Oper) (hl : l = l1 ++ l2) (hn : l1.length = n) (hm : P.follows .mixedOrders = true) (hok : ok hs l.toArray = true) (ht : chainOk n l.toArray = true) (hd : noDefer l = true) (hC : C w.drew)
  (h : lex P l.toArray C hs (fun a w => wpListIn (Fence.wide.inRound r) q P l.toArray Q l2 a w) 0 l1 a w.drew) : (Code.region id l.toArray true).wpIn (Fence.wide.inRound r) q P Q a w := by
 subst hl
 refine wpIn_region_any hm ?_
 refine anyIn_of_lexY (C := C) (hs := hs) (n := n) hok ht (noDeferY hd) _ (List.range' 0 n) (List.range' n l2.length) _ a _ hC (by simp [hn]) ?_ ?_ ?_ ?_ ?_ (by simp) ?_
 ·intro i
  simp [Array.getD_eq_getD_getElem?, Array.getElem?_replicate, hn]
  constructor
  ·intro hi
   have : i < n + l2.length := by omega
   exact ⟨this, by simp [this]⟩
  ·rintro ⟨hi, _⟩
   omega
 ·have h1 := List.pairwise_lt_range (n := n + l2.length)
  rw [List.range_eq_range', List.range'_append_1.symm] at h1
  simpa using h1
 ·intro i hi; simp at hi; exact hi
 ·simp [hn]
 ·intro j o ho hl
  simp [Array.getD_eq_getD_getElem?, Array.getElem?_replicate] at hl
  split at hl <;> simp at hl
 ·have e2 := wpOpsIn_eq_wpListIn (F := Fence.wide.inRound r) (n := q) (P := P) (ops := (l1 ++ l2).toArray) (Q := Q) l2 n (fun m => by rw [List.getElem?_toArray, List.getElem?_append_right (by omega)]; congr 1; omega)
  have e1 := lexN_of_lexP (P := P) (ops := (l1 ++ l2).toArray) (C := C) (hs := hs) (Q := fun a w => wpListIn (Fence.wide.inRound r) q P (l1 ++ l2).toArray Q l2 a w) l1 0 (fun m hm => by rw [Nat.zero_add, List.getElem?_toArray, List.getElem?_append_left hm])
  rw [e1, hn] at h
  rw [e2]
  exact h
end Lx
end Go.Proofs.YtdpbbhbegehcjaaDoor

namespace Go.Proofs.YtdpbbhbegehcjaaDoor
open Go.RowKit Go.Shelf
attribute [local go_sem] Oper.semAt_some
theorem roundIn_wide {n m r : Nat} {P : Program} {l : Nat} {f : FuncId} {tmps : Array Value} {assign body : Code} {w : World} {R : Ending → World → Prop} (h : RoundIn Fence.wide n P l f tmps assign body w R) : RoundIn (Fence.wide.inRound r) m P l f tmps assign body w R := ⟨h.1, fun c cs _ => h.2 c cs (fun d hd => by cases hd)⟩
theorem own_at {B : Nat} {o : Option Obj} {l : Nat} (hl : l < B) : OwnFrom B (fun (_ : Unit) W => l < W.heap.size ∧ W.heap[l]? = o) := own_block hl (fun x => x = o)
theorem cpP_any (A : Option Addr) (n c : Nat) (w : World) (xs : List (Int × Int)) (hn : n ≤ 100000) (hx : RowS 2 chC w w.heap.size A n xs) : Calls Tryd.prog 37 #[.slice A n c] w (NewChs xs w) := by
 have HC := Lib.hid (cloneC_any A n c w xs hn hx)
 clear hx
 go_enter Tryd.func37, Tryd.ntmps37
 go_wp2_with fail
 refine HC.out.mono ?_
 rintro e W1 ⟨v, rfl, hown, hb⟩
 have HO := Lib.hid (And.intro hown hb)
 clear hown hb
 go_wp2_with fail
 go_ret
 exact ⟨v, rfl, HO.out.1, HO.out.2⟩
theorem leavesMk {F : Fence} {n : Nat} {fn : Func} {tmps : Array Value} {R : Ending → World → Prop} {Pw : World → Prop} {B : Nat} (hP : ∀ W D, Pw W → B ≤ D → W.heap[D]? = some (.deferred (some [])) → Pw (W.putObj D (.deferred none)))
  (hE : ∀ W, Pw W → LeavesIn F n Tryd.prog fn tmps R [] .returning W) (D : Nat) (W : World) (h : Pw W) (h1 : B ≤ D) (h2 : W.heap[D]? = some (.deferred (some []))) : LeavesInM F n Tryd.prog fn tmps R (marksOf [D]) .returning W :=
 ⟨by simp, .inl ⟨D, _, rfl, run_takeDeferred h2, hE _ (hP W D h h1 h2)⟩⟩
def GvP (L : List PEn) (pre : List (Nat × Lem)) (x : Nat × Lem) (X W : World) : Prop :=
 x.1 = pre.length ∧ (∃ e, L[pre.length]? = some e ∧ x.2.chs = e.v.chs ∧ x.2.len = e.v.len) ∧ Hp X X W [.row x.2.val 74 2 x.2.len (flat 2 chC x.2.chs)] []
structure VvP (J : List (Nat × Lem) → World → Prop) (W₀ : World) (n₀ p3 Bc : Nat) (o3 oc : Obj) (L : List PEn) (pre : List (Nat × PEn)) (pre' : List (Nat × Lem)) (X : World) : Prop where
 len : pre'.length = pre.length
 J : J pre' X
 y : p3 < X.heap.size ∧ X.heap[p3]? = some o3
 c : Bc < X.heap.size ∧ X.heap[Bc]? = some oc
 low : Below n₀ W₀ X
theorem VvP.keep {J : List (Nat × Lem) → World → Prop} {B : Nat} {W₀ : World} {n₀ p3 Bc : Nat} {o3 oc : Obj} {L : List PEn} {pre : List (Nat × PEn)} {pre' : List (Nat × Lem)} {X Y : World} {row : Option Nat} (hJ : OwnFrom B J) (h3 : p3 < B) (hc : Bc < B) (hn : n₀ ≤ W₀.heap.size) (hnB : n₀ ≤ B) (h : VvP J W₀ n₀ p3 Bc o3 oc L pre pre' X) (hg : X.grownBy Y row) (hr : ∀ r, row = some r → B ≤ r ∧ ∃ o : Obj, X.heap[r]? = some o ∧ o.isCells = false) : VvP J W₀ n₀ p3 Bc o3 oc L pre pre' Y :=
 ⟨h.len, hJ _ _ _ _ h.J hg hr, own_at h3 () X Y row h.y hg hr, own_at hc () X Y row h.c hg hr, h.low.trans ⟨hg.os, hg.tape, hg.output, hg.size, fun k hk => hg.block k (Nat.lt_of_lt_of_le hk (Nat.le_trans hn h.low.size)) (fun e => by have := (hr k e.symm).1; omega)⟩⟩
theorem vals1P (n : Nat) (hn : 3 ≤ n) (n₀ Bk Bc : Nat) (A : Option Addr) (m c : Nat) (L : List PEn) (w : World) (hB : Blk w Bk 39 [.slice A m c]) (hC : Blk w Bc 99 [.func (.func 37) #[] #[]]) (hL : PEs w (· < n₀) A m L) (hn₀ : n₀ ≤ w.heap.size) (hm : m ≤ 100000) :
  SeqHands Fence.wide n Tryd.prog 58 #[.pointer (some ⟨Bk, 0, none⟩), .pointer (some ⟨Bc, 0, none⟩)] (fun x : Nat × Lem => #[Value.int .i64 x.1, x.2.val]) (Keep1 n₀ Bc) true (GvP L) (fun xs => xs.length = L.length) (fun _ => True) L.length w := by
 intro l J Jx W hW hJ hJx hY h0
 refine callsIn_of_wp_marks Tryd.func58 rfl trivial ?_ rfl
 simp only [Tryd.ntmps58, List.size_toArray, List.length_cons, List.length_nil, Nat.reduceAdd, Nat.reduceSub, Array.replicate_succ, Array.replicate_zero, List.push_toArray, List.append_toArray, List.nil_append, List.cons_append]
 obtain ⟨p3, hp3⟩ : ∃ p, p = W.heap.size := ⟨_, rfl⟩
 obtain ⟨V0, hV0⟩ : ∃ V, V = W.alloc (.cells #[.func (.yield l) #[] #[]] 101) := ⟨_, rfl⟩
 have hb0 : Below W.heap.size W V0 := by rw [hV0]; exact (Below.refl _ W).alloc (Nat.le_refl _) _
 have hy0 : Blk V0 p3 101 [.func (.yield l) #[] #[]] := by rw [hV0, hp3]; exact blk_new W _ _
 have hJ0 : J [] V0 := own_kept hJ h0 hb0
 have hWV : Below w.heap.size w V0 := hW.trans (hb0.mono hW.size)
 have HB := Lib.hid (hB.keep hWV)
 have HC := Lib.hid (hC.keep hWV)
 have HL := Lib.hid (hL.keep hWV)
 have HY := Lib.hid hY
 have HJ := Lib.hid hJ
 have HJx := Lib.hid hJx
 have HJ0 := Lib.hid hJ0
 have HY0 := Lib.hid hy0
 have HN0 := Lib.hid (Nat.le_trans hn₀ hWV.size)
 have HKB := Lib.hid ((hB.keep hWV).lt)
 have HW3 : Hid (W.heap.size = p3 ∧ p3 < V0.heap.size ∧ n₀ ≤ p3 ∧ Bc < p3) := Lib.hid ⟨hp3.symm, hy0.lt, by rw [hp3]; exact Nat.le_trans hn₀ hW.size, by rw [hp3]; have := hC.lt; have := hW.size; omega⟩
 have m1 := (hB.keep hWV).cell (i := 0) rfl
 have m2 := (hB.keep hWV).lt
 clear hB hC hL hW hJ hJx hY h0 hn₀ hb0 hy0 hJ0 hWV
 gi_upto_region 1 with fail
 rw [← hV0, ← hp3]
 clear hV0 hp3
 gi_wp2_with fail
 refine ⟨trivial, fun _ => by omega, (callsIn_wide.2 (allP_any A m c _)).mono ?_⟩
 rintro e WE ⟨rfl, hWE⟩
 obtain ⟨Bq, hBq⟩ : ∃ b, b = V0.heap.size := ⟨_, rfl⟩
 have hbE : Below V0.heap.size V0 WE := by rw [hWE]; exact (Below.refl _ V0).alloc (Nat.le_refl _) _
 have hBqE : Blk WE Bq 39 [.slice A m c] := by rw [hWE, hBq]; exact blk_new V0 _ _
 have hLE := HL.out.keep hbE
 have hsz : n₀ ≤ WE.heap.size := Nat.le_trans HN0.out hbE.size
 have hbs := hbE.size
 have HSQ := Lib.hid (all1P (n - 1) (by omega) n₀ Bc Bq A m c L WE hBqE hLE.1 hsz hm)
 have HLE := Lib.hid hLE
 have HSZ : Hid (n₀ ≤ WE.heap.size ∧ p3 < WE.heap.size ∧ Bc < WE.heap.size ∧ W.heap.size ≤ WE.heap.size) := Lib.hid ⟨hsz, by have := HW3.out; omega, by have := HW3.out; omega, by have := HW3.out; omega⟩
 have hvv : VvP J WE n₀ p3 Bc (.cells #[.func (.yield l) #[] #[]] 101 (0, 0)) (.cells #[.func (.func 37) #[] #[]] 99 (0, 0)) L [] [] WE :=
  ⟨rfl, own_kept HJ.out HJ0.out hbE, ⟨HSZ.out.2.1, (HY0.out.keep hbE)⟩, ⟨HSZ.out.2.2.1, (HC.out.keep hbE)⟩, Below.refl _ _⟩
 have HVV := Lib.hid hvv
 rw [← hBq]
 clear hWE hBq hbE hBqE hLE hsz hbs hvv HJ0 m1 m2 HL HB HC HY0 HKB
 generalize hO3 : (Obj.cells #[.func (.yield l) #[] #[]] 101 (0, 0)) = o3 at *
 generalize hOc : (Obj.cells #[.func (.func 37) #[] #[]] 99 (0, 0)) = oc at *
 gi_wp2_with fail
 have hJE := own_up HJ.out HSZ.out.2.2.2
 refine range_handsA (w := WE) (own := false) ?a₁ rfl (by omega) (gf := 62) (lb := #[.pointer (some ⟨Bq, 0, none⟩)]) rfl trivial (enters_of Tryd.func62 (by kernel_rfl) rfl) HSQ.out keep1_t (fun X o o' hl hc => ?kb) (fun _ => rfl)
  (fun pre X => ∃ pre', VvP J WE n₀ p3 Bc o3 oc L pre pre' X) (fun cd _ X => cd = .ret ∧ ∃ pre', Jx pre' X)
  (fun s X X' row ⟨pre', h⟩ hg hr => ⟨pre', h.keep hJE HSZ.out.2.1 HSZ.out.2.2.1 HSZ.out.1 HSZ.out.1 hg hr⟩) (fun cd s X X' row ⟨h1, pre', h⟩ hg hr => ⟨h1, pre', own_up HJx.out HSZ.out.2.2.2 _ _ _ _ h hg hr⟩) ⟨[], HVV.out⟩
  (fun pre x X => (∃ pre', VvP J WE n₀ p3 Bc o3 oc L pre pre' X) ∧ x.1 = pre.length ∧ L[pre.length]? = some x.2)
  (fun pre x p X => ((∃ pre', VvP J WE n₀ p3 Bc o3 oc L pre pre' X) ∧ x.1 = pre.length ∧ L[pre.length]? = some x.2) ∧ p < X.heap.size ∧ X.heap[p]? = some (.cells #[.int .u64 (wd x.2.S 0), .int .u64 (wd x.2.S 1), .int .u64 (wd x.2.S 2), .int .u64 (wd x.2.S 3), .int .u64 (wd x.2.S 4), .int .u64 (wd x.2.S 5), .int .u64 (wd x.2.S 6), .int .u64 (wd x.2.S 7), .slice x.2.v.adr x.2.v.len x.2.v.cap] 115 (0, 0)))
  (fun pre x p _ X X' row ⟨⟨⟨pre', h⟩, h1⟩, h3, h4⟩ hg hr => ⟨⟨⟨pre', h.keep hJE HSZ.out.2.1 HSZ.out.2.2.1 HSZ.out.1 HSZ.out.1 hg hr⟩, h1⟩, Nat.lt_of_lt_of_le h3 hg.size, (hg.block p h3 (fun e => by obtain ⟨_, o, ho, hc'⟩ := hr p e.symm; rw [h4] at ho; cases ho; cases hc')).trans h4⟩)
  (fun pre x X Y ⟨pre', h⟩ hbl _ hG => ⟨⟨pre', h.keep hJE HSZ.out.2.1 HSZ.out.2.2.1 HSZ.out.1 HSZ.out.1 (row := none) ⟨hbl.os, hbl.tape, hbl.output, hbl.size, fun k hk _ => hbl.block k hk⟩ (fun _ e => by cases e)⟩, hG⟩) ?assign ?body ?done ?stop
 case kb =>
  have h1 := HSZ.out
  refine ⟨⟨rfl, rfl, rfl, by simp [World.putObj], fun k hk => World.putObj_heap_other (by omega)⟩, World.putObj_heap_other (by omega)⟩
 case assign =>
  rintro l' pre x X K hXs ⟨⟨pre', h⟩, h1⟩ hK
  obtain ⟨p, hp⟩ : ∃ p, p = X.heap.size := ⟨_, rfl⟩
  have hb := (Below.refl _ X).alloc (Nat.le_refl _) (.cells #[.int .u64 (wd x.2.S 0), .int .u64 (wd x.2.S 1), .int .u64 (wd x.2.S 2), .int .u64 (wd x.2.S 3), .int .u64 (wd x.2.S 4), .int .u64 (wd x.2.S 5), .int .u64 (wd x.2.S 6), .int .u64 (wd x.2.S 7), .slice x.2.v.adr x.2.v.len x.2.v.cap] 115 (0, 0))
  have hK2 := Lib.hid (fun a' => hK a' _ hb ⟨hb.mono (by have := HSZ.out; have := h.low.size; omega), hb.block _ h.c.1⟩)
  have hA := Lib.hid (And.intro (⟨pre', h.keep hJE HSZ.out.2.1 HSZ.out.2.2.1 HSZ.out.1 HSZ.out.1 (row := none) ⟨hb.os, hb.tape, hb.output, hb.size, fun k hk _ => hb.block k hk⟩ (fun _ e => by cases e)⟩ : ∃ pre', VvP J WE n₀ p3 Bc o3 oc L pre pre' _) h1)
  have hX2 := Lib.hid (And.intro (show X.heap.size < (X.alloc (.cells #[.int .u64 (wd x.2.S 0), .int .u64 (wd x.2.S 1), .int .u64 (wd x.2.S 2), .int .u64 (wd x.2.S 3), .int .u64 (wd x.2.S 4), .int .u64 (wd x.2.S 5), .int .u64 (wd x.2.S 6), .int .u64 (wd x.2.S 7), .slice x.2.v.adr x.2.v.len x.2.v.cap] 115)).heap.size by simp) (World.alloc_heap_new X (.cells #[.int .u64 (wd x.2.S 0), .int .u64 (wd x.2.S 1), .int .u64 (wd x.2.S 2), .int .u64 (wd x.2.S 3), .int .u64 (wd x.2.S 4), .int .u64 (wd x.2.S 5), .int .u64 (wd x.2.S 6), .int .u64 (wd x.2.S 7), .slice x.2.v.adr x.2.v.len x.2.v.cap] 115)))
  clear hb h h1 hK
  rw [← hp] at hX2
  unfold PEn.val
  gi_wp2
  rw [← hp]
  exact hK2.out p ⟨hA.out, hX2.out⟩
 case body =>
  rintro l' pre ⟨k0, en⟩ p X hrec ⟨⟨⟨pre', hV⟩, hx1, hx2⟩, hpl, hpc⟩ hlen
  dsimp only at *
  subst hx1
  have hXb : Blk X p 115 [.int .u64 (wd en.S 0), .int .u64 (wd en.S 1), .int .u64 (wd en.S 2), .int .u64 (wd en.S 3), .int .u64 (wd en.S 4), .int .u64 (wd en.S 5), .int .u64 (wd en.S 6), .int .u64 (wd en.S 7), .slice en.v.adr en.v.len en.v.cap] := hpc
  have hY3 : Blk X p3 101 [.func (.yield l) #[] #[]] := by have := hV.y.2; rw [← hO3] at this; exact this
  have hC3 : Blk X Bc 99 [.func (.func 37) #[] #[]] := by have := hV.c.2; rw [← hOc] at this; exact this
  have c3 := hY3.cell (i := 0) rfl
  have l3 := hY3.lt
  have d3 := hC3.cell (i := 0) rfl
  have e3 := hC3.lt
  have z8 := hXb.cell (i := 8) rfl
  have zl := hXb.lt
  have hm := List.mem_of_getElem? hx2
  have hEA := (HLE.out.2 en hm).turn (X := X) (fun k hk _ => hV.low.block k hk)
  have HCP := Lib.hid (cpP_any en.v.adr en.v.len en.v.cap X.drew en.v.chs hEA.2 (hEA.rowS.keep (Below.refl _ _).drew))
  have HV := Lib.hid hV
  have HX2 := Eqn.mk hx2
  have HREC := Lib.hid hrec
  have HEL : Hid (en.v.chs.length = en.v.len) := Lib.hid hEA.1.1
  have HYT := Lib.hid (fun (W1 : World) (A' : Option Addr) (c' : Nat) (hb : Below X.heap.size X W1) (hH : Hp X X W1 [.row (.slice A' en.v.len c') 74 2 en.v.len (flat 2 chC en.v.chs)] []) => HY.out pre' (pre.length, ⟨A', en.v.len, c', en.v.chs⟩) X W1 hV.J hb (fun _ => ⟨_, _, by rw [HW3.out.1]; exact hY3⟩) ⟨hV.len.symm, ⟨en, by rw [hV.len]; exact hx2, rfl, rfl⟩, hH⟩ (by rw [hV.len]; exact hlen))
  have HY3 := Lib.hid hY3
  clear hXb hY3 hC3 hm hEA hV hx2 hpc hrec hlen hO3 hOc hpl
  gi_wp2_with fail
  refine Lx.regionY (C := fun Y => Y.cell? ⟨p3, 0, none⟩ = some (.func (.yield l) #[] #[])) (hs := [0]) 6 (List.take 6 _) (List.drop 6 _) (List.take_append_drop 6 _).symm rfl (by kernel_rfl) (by kernel_rfl) (by kernel_rfl) (by kernel_rfl) c3 ?_
  simp only [List.take_succ_cons, List.take_zero, List.drop_succ_cons, List.drop_zero]
  repeat' (first | ((first | refine Lx.ln (fun K hK => ?_) | (first | (refine Lx.lp (v := ?_) ?_ (fun K hK => ?_); rotate_left 1; intro w' hCw; try dsimp only at hCw) | (refine Lx.lr (v := ?_) ?_ (fun K hK => ?_); rotate_left 1)); go_simp; first | done | with_reducible rfl); go_simp; refine hK _ ?_; clear hK K) | (refine Lx.le (fun K hK => ?_); go_simp; (first | (go_at_call 37; refine HCP.out.mono ?_; rintro e W6 ⟨v6, rfl, hown6, hb6⟩; rw [HEL.out] at hown6; have hH6 := (Hp.start X).drew.pushRow hb6 hown6; obtain ⟨A6, c6, rfl⟩ := hH6.form 0 rfl; have hb06 := hH6.below; have HH6 := Lib.hid hH6; have HC6 : Hid (W6.cell? ⟨p3, 0, none⟩ = some (.func (.yield l) #[] #[])) := Lib.hid ((HY3.out.keep hb06).cell rfl); clear hown6 hb6 hH6) | skip); refine hK _ _ (by exact HC6.out) ?_; clear hK K) | (refine Lx.lex_cases rfl rfl rfl (fun hgd K hK => ?_) (fun hgd K hK => ?_) <;> (try simp only [decide_eq_true_eq, decide_eq_false_iff_not] at hgd) <;> (first | (exfalso; omega) | (go_simp; refine hK _ ?_; clear hK K))))
  all_goals (refine Lx.lex_nil ?_)
  obtain ⟨fn, tmps, assign, body, hy, hRd⟩ := HYT.out W6 A6 c6 hb06 HH6.out
  unfold Lem.val at hy
  try dsimp only at hy
  have HRD := Lib.hid hRd
  clear hRd c3 l3 d3 e3 z8 zl HYT HCP
  gi_wp2_with fail
  refine ⟨fun h => by simp [Fence.wide] at h, (roundIn_wide HRD.out).mono ?_⟩
  have hk06 : KeepsFrom WE.heap.size X W6 := ⟨hb06.size, fun k o _ hk ho => (hb06.block k (Array.getElem?_eq_some_iff.1 hk).1).trans hk⟩
  have hsz : n₀ ≤ X.heap.size ∧ W.heap.size ≤ WE.heap.size := ⟨Nat.le_trans HSZ.out.1 HV.out.low.size, HSZ.out.2.2.2⟩
  have HK := Lib.hid (And.intro hk06 (And.intro hb06 hsz))
  clear hk06 hsz hb06
  rintro e W7 (⟨rfl, hJ7, hk7, hkp, hown⟩ | ⟨rfl, hk7, hJx7⟩)
  ·have h7 : VvP J WE n₀ p3 Bc o3 oc L (pre ++ [(pre.length, en)]) (pre' ++ [(pre.length, ⟨A6, en.v.len, c6, en.v.chs⟩)]) W7 := by
    obtain ⟨_, hb06, hn0, _⟩ := HK.out
    have hs7 := hk7.size
    have hb1 : Below n₀ X W6 := hb06.mono hn0
    refine ⟨by rw [List.length_append, List.length_append, HV.out.len]; rfl, hJ7, ⟨by have := HV.out.y.1; have := hb06.size; omega, ?_⟩, ⟨by have := HV.out.c.1; have := hb06.size; omega, ?_⟩, (HV.out.low.trans hb1).trans hkp.1⟩
    ·have h1 := hown trivial
     rw [HW3.out.1] at h1
     exact h1.trans ((hb06.block p3 HV.out.y.1).trans HV.out.y.2)
    ·exact hkp.2.trans ((hb06.block Bc HV.out.c.1).trans HV.out.c.2)
   have hk := keep1_t ⟨HK.out.2.1.mono HK.out.2.2.1, HK.out.2.1.block Bc HV.out.c.1⟩ hkp
   have HF := Lib.hid (And.intro (HK.out.1.trans ⟨hk7.size, fun k o hk' => hk7.same k o (Nat.le_trans HK.out.2.2.2 hk')⟩ : KeepsFrom WE.heap.size X W7) (And.intro hk h7))
   clear hJ7 hk7 hkp hown h7 hk HRD hy
   gi_wp2_with fail
   exact ⟨HF.out.1, HF.out.2.1, (fun h => absurd h (by decide)), _, HF.out.2.2⟩
  ·have HF := Lib.hid (And.intro (HK.out.1.trans ⟨hk7.size, fun k o hk' => hk7.same k o (Nat.le_trans HK.out.2.2.2 hk')⟩ : KeepsFrom WE.heap.size X W7) hJx7)
   clear hk7 hJx7 HRD hy
   gi_wp2_with fail
   exact ⟨HF.out.1, rfl, _, HF.out.2⟩
 case done =>
  rintro D xs X hD hS ⟨pre', h⟩ hX
  have HS := Lib.hid (And.intro h.len (show xs.length = L.length from hS))
  have HX := Lib.hid (And.intro hX h.J)
  clear hX h hS
  gi_wp2_with fail
  show LeavesInM _ _ _ _ _ _ (marksOf [D]) .returning _
  refine leavesMk (Pw := fun Y => J pre' Y) (B := WE.heap.size) (fun Y E h h1 h2 => hJE.putObj _ h h1 h2 rfl) (fun Y hY => ?_) D X HX.out.2 hD HX.out.1
  exact ⟨_, results_none rfl _ _ _, ⟨_, rfl⟩, .inl ⟨pre', HS.out.1.trans HS.out.2, hY⟩⟩
 case stop =>
  rintro D cd xs X hD _ ⟨rfl, pre', h⟩ hX
  have HX := Lib.hid (And.intro hX h)
  clear hX h
  gi_wp2_with fail
  show LeavesInM _ _ _ _ _ _ (marksOf [D]) .returning _
  refine leavesMk (Pw := fun Y => Jx pre' Y) (B := WE.heap.size) (fun Y E h h1 h2 => (own_up HJx.out HSZ.out.2.2.2).putObj _ h h1 h2 rfl) (fun Y hY => ?_) D X HX.out.2 hD HX.out.1
  exact ⟨_, results_none rfl _ _ _, ⟨_, rfl⟩, .inr ⟨pre', trivial, hY⟩⟩
end Go.Proofs.YtdpbbhbegehcjaaDoor

namespace Go.Proofs.YtdpbbhbegehcjaaDoor
open Go.RowKit
namespace Lx
section
variable {P : Program} {ops : Array Oper} {C : World → Prop} {hs : List Nat} {Q : Act → World → Prop} {k : Nat} {o : Oper} {r : List Oper} {a : Act} {w : World}
theorem lex_append_rowR (hk : kind hs k o = 2) (hgd : o.guard = none) (s x : Operand) (t : TypeId)
  (ho : o.op = .call { callee := .builtin .append, args := #[s, x], argTypes := #[t, t] })
  {α : Type} {sz : Nat} {f : α → Nat → Value} (hsz : 0 < sz) (hf : ∀ a j, j < sz → (f a j).oneCell' = true) (base : Nat) (e : TypeId) (i : TypeInfo) (z : Value) (bytes : Nat) (ht : P.underlying t = some (.slice e)) (hi : P.info? e = some i) (hz : i.zero = some z)
  (hsize : i.size = sz) (hby : i.bytes = bytes) (hzs : z.cells.size = sz)
  (v : Value) (n : Nat) (xs : List Value) (hsv : a.eval s = v) (hown : w.ownsRow base e sz v n xs)
  (A : Option Addr) (m c : Nat) (ys : List α) (D : Nat) (hx : a.eval x = .slice A m c) (hy : RowS sz f w D A m ys)
  (h63 : n + m ≤ maxLen) (hbytes : (n + m) * bytes ≤ 140737488355328) (hbase : base ≤ w.heap.size)
  (h : ∀ v' w', w'.ownsRow base e sz v' (n + m) (xs ++ flat sz f ys) → w.grownBy w' v.ownBlock → (v'.ownBlock = v.ownBlock ∨ v'.ownBlock = some w.heap.size) → C w' ∧ lex P ops C hs Q (k + 1) r (a.put o.dst v') w') :
  lex P ops C hs Q k (o :: r) a w := by
 refine lex_eff hk (w0 hgd) fun K hK => ?_
 obtain ⟨v', w', hr, h2, h3, h5⟩ := run_append_rowR (P := P) hsz hf w base t o.type e i z bytes ht hi hz hsize hby hzs v n xs hown A m c ys D hy h63 hbytes hbase
 unfold Oper.wp execOp
 simp only [ho, resolve, invoke, builtin, Sem.run_bind, Sem.run_pure, Result.andThen_ok, List.map_toArray, List.map_cons, List.map_nil, hsv, hx, hr]
 exact hK _ _ (h v' w' h2 h3 h5).1 (h v' w' h2 h3 h5).2
end
end Lx
namespace Lx
theorem wpInW_of_wp {P : Program} {n : Nat} {o : Oper} {a : Act} {w : World} {K : Act → World → Prop} {Q Q' : Exit → Act → World → Prop} (hnd : ∀ c, o.op ≠ .defer c) (hQ : ∀ e a w, Q e a w → e = .normal) (h : o.wp P a w K Q) : o.wpIn Fence.wide n P a w K Q' := by
 unfold Oper.wpIn
 refine ⟨fun _ _ => trivial, ?_⟩
 rw [Oper.semAt_eq _ _ _ hnd]
 unfold Oper.wp at h
 generalize (execOp a.eval o).run P w = r at *
 cases r with
 | ok x w' =>
  cases x with
  | value v => exact h
  | skip => exact h
  | defer d => exact h
  | enter f args =>
   refine ⟨fun hd => (by cases hd), (callsIn_wide.2 (Calls.mono h ?_))⟩
   intro e w'' he
   cases e with
   | returned v => exact he
   | panicked c => exact absurd (hQ _ _ _ he) (by simp)
   | outgrown => obtain ⟨a', w3, hq⟩ := he; exact absurd (hQ _ _ _ hq) (by simp)
  | row row args => exact ⟨fun hd => (by cases hd), fun c cs _ => let ⟨v, w2, r, s⟩ := h c cs; ⟨v, w2, r, stepsIn_wide.2 s⟩⟩
  | _ => exact h.elim
 | halt x w' =>
  cases x with
  | panic v => exact absurd (hQ _ _ _ h) (by simp)
  | _ => exact h.elim
theorem anyInW_of_any {P : Program} {n : Nat} {ops : Array Oper} {Q : Exit → Act → World → Prop} (hnd : ∀ (i : Nat) (o : Oper), ops[i]? = some o → ∀ c, o.op ≠ .defer c) :
  ∀ (fuel : Nat) (listed : Array Bool) (a : Act) (w : World), wpAny P .any ops (fun e a w => e = .normal ∧ Q .normal a w) fuel listed a w → wpAnyIn Fence.wide n P .any ops Q fuel listed a w := by
 intro fuel
 induction fuel with
 | zero => intro listed a w h; exact ⟨h.1, h.2.2⟩
 | succ fuel ih =>
  intro listed a w h
  refine ⟨fun hr => (h.1 hr).2, fun i hi => ?_⟩
  have h1 := h.2 i hi
  unfold wpOp at h1
  unfold wpOpIn
  cases ho : ops[i]? with
  | none => rw [ho] at h1; exact ih _ _ _ h1
  | some o =>
   rw [ho] at h1
   dsimp only at h1 ⊢
   split
   ·rename_i hw
    rw [if_pos hw] at h1
    rcases h1 with h2 | ⟨_, a', w', h2, _⟩
    ·exact Oper.wpIn_mono (fun a w => ih _ a w) (wpInW_of_wp (hnd i o ho) (fun e _ _ he => he.1) h2)
    ·cases h2
   ·rename_i hw
    rw [if_neg hw] at h1
    exact ⟨fun _ _ => trivial, ih _ _ _ h1⟩
end Lx
namespace Lx
theorem any_T {P : Program} {C C' : World → Prop} {hs : List Nat} {Q : Exit → Act → World → Prop} {a : Act} {w : World} (n : Nat) (l1 l2 : List Oper) (hn : l1.length = n) (hok : ok hs (l1 ++ l2).toArray = true) (ht : tailOk n (l1 ++ l2).toArray = true) (hC : C w)
  (h : lex P (l1 ++ l2).toArray C hs (fun a w => C' w ∧ lex P (l1 ++ l2).toArray C' hs (fun a w => Q .normal a w) n l2 a w) 0 l1 a w) : wpAny P .any (l1 ++ l2).toArray Q (l1 ++ l2).toArray.size (Array.replicate (l1 ++ l2).toArray.size false) a w := by
 refine any_of_lexT (C := C) (C' := C') (hs := hs) (n := n) hok ht _ (List.range' 0 n) (List.range' n l2.length) _ a _ hC (by simp [hn]) ?_ ?_ ?_ ?_ ?_ (by simp) ?_
 ·intro i
  simp [Array.getD_eq_getD_getElem?, Array.getElem?_replicate, hn]
  constructor
  ·intro hi
   have : i < n + l2.length := by omega
   exact ⟨this, by simp [this]⟩
  ·rintro ⟨hi, _⟩
   omega
 ·have h1 := List.pairwise_lt_range (n := n + l2.length)
  rw [List.range_eq_range', List.range'_append_1.symm] at h1
  simpa using h1
 ·intro i hi; simp at hi; exact hi
 ·intro i hi; simp at hi; exact hi.1
 ·intro j o ho hl
  simp [Array.getD_eq_getD_getElem?, Array.getElem?_replicate] at hl
  split at hl <;> simp at hl
 ·have e2 := lexN_of_lex (P := P) (ops := (l1 ++ l2).toArray) (C := C') (hs := hs) (Q := fun a w => Q .normal a w) l2 n (fun m => by rw [List.getElem?_toArray, List.getElem?_append_right (by omega)]; congr 1; omega)
  rw [e2] at h
  have e1 := lexN_of_lexP (P := P) (ops := (l1 ++ l2).toArray) (C := C) (hs := hs) (Q := fun a w => C' w ∧ lexN P (l1 ++ l2).toArray C' hs (fun a w => Q .normal a w) (List.range' n l2.length) a w) l1 0 (fun m hm => by rw [Nat.zero_add, List.getElem?_toArray, List.getElem?_append_left hm])
  rw [e1, hn] at h
  exact h
theorem noDefer_at {l : List Oper} (hd : noDefer l = true) : ∀ (i : Nat) (o : Oper), l.toArray[i]? = some o → ∀ c, o.op ≠ .defer c := by
 intro i o ho c hc
 have hmem : o ∈ l := by
  have : l[i]? = some o := by simpa using ho
  exact List.mem_of_getElem? this
 have := List.all_eq_true.1 hd o hmem
 rw [hc] at this
 cases this
theorem regionTW {P : Program} {C C' : World → Prop} {hs : List Nat} {id r : Nat} {l : List Oper} {Q : Exit → Act → World → Prop} {a : Act} {w : World} (n : Nat) (l1 l2 : List Oper) (hl : l = l1 ++ l2) (hn : l1.length = n) (hm : P.follows .mixedOrders = true) (hok : ok hs l.toArray = true) (ht : tailOk n l.toArray = true) (hd : noDefer l = true) (hC : C w.drew)
  (h : lex P l.toArray C hs (fun a w => C' w ∧ lex P l.toArray C' hs (fun a w => Q .normal a w) n l2 a w) 0 l1 a w.drew) : (Code.region id l.toArray true).wpIn Fence.wide r P Q a w := by
 subst hl
 refine wpIn_region_any hm (anyInW_of_any (noDefer_at hd) _ _ _ _ ?_)
 refine any_T (C := C) (C' := C') (hs := hs) n l1 l2 hn hok ht hC ?_
 have h2 : (fun a w => (fun e a w => e = Exit.normal ∧ Q Exit.normal a w) Exit.normal a w) = fun a w => Q Exit.normal a w := by
  funext a w; simp
 rw [h2]
 exact h
theorem regionTIn {P : Program} {C C' : World → Prop} {hs : List Nat} {id r q : Nat} {l : List Oper} {Q : Exit → Act → World → Prop} {a : Act} {w : World} (n : Nat) (l1 l2 : List Oper) (hl : l = l1 ++ l2) (hn : l1.length = n) (hm : P.follows .mixedOrders = true) (hok : ok hs l.toArray = true) (ht : tailOk n l.toArray = true) (hd : noDefer l = true) (hC : C w.drew)
  (h : lex P l.toArray C hs (fun a w => C' w ∧ lex P l.toArray C' hs (fun a w => Q .normal a w) n l2 a w) 0 l1 a w.drew) : (Code.region id l.toArray true).wpIn (Fence.wide.inRound q) r P Q a w := by
 subst hl
 refine wpIn_region_any hm (anyIn_of_any (noDefer_at hd) _ _ _ _ ?_)
 refine any_T (C := C) (C' := C') (hs := hs) n l1 l2 hn hok ht hC ?_
 have h2 : (fun a w => (fun e a w => e = Exit.normal ∧ Q Exit.normal a w) Exit.normal a w) = fun a w => Q Exit.normal a w := by
  funext a w; simp
 rw [h2]
 exact h
end Lx
end Go.Proofs.YtdpbbhbegehcjaaDoor

namespace Go.Proofs.YtdpbbhbegehcjaaDoor
open Go.RowKit Go.Shelf
attribute [local go_sem] Oper.semAt_some
theorem run_eql_func_nil {P : Program} (w : World) (t : TypeId) {ps rs : Array TypeId} {vd : Bool} (f : Fn) (b c : Array Value) (h : P.underlying t = some (.func ps rs vd)) : (binOp .eql t (.func f b c) .nilFunc).run P w = .ok (.bool false) w := by
 have h1 : ∀ d : Nat, (Op.equalIn (d + 1) t (.func f b c) .nilFunc).run P w = .ok false w := fun d => by simp [Op.equalIn, run_underlying h]
 simp only [binOp]
 simp [Op.equal, Op.maxDepth, h1 9999]
theorem valuesP_any (A : Option Addr) (m c f : Nat) (w : World) : Calls Tryd.prog 36 #[.agg #[.slice A m c], .func (.func f) #[] #[]] w fun e w' => e = .returned (.func (.func 58) #[] #[.pointer (some ⟨w.heap.size, 0, none⟩), .pointer (some ⟨w.heap.size + 1, 0, none⟩)]) ∧ w' = (w.alloc (.cells #[.slice A m c] 39)).alloc (.cells #[.func (.func f) #[] #[]] 99) := by
 go_enter Tryd.func36, Tryd.ntmps36
 go_wp2
 go_ret
 exact ⟨rfl, rfl⟩
theorem packedIt_any (B : Nat) (p : Nat → Prop) (g : Nat) (x : StS) (w : World) (hS : StAt w B p g x) : Calls Tryd.prog 10 #[.pointer (some ⟨g, 0, none⟩)] w fun e w' =>
  ∃ kb cb, e = .returned (.func (.func 58) #[] #[.pointer (some ⟨kb, 0, none⟩), .pointer (some ⟨cb, 0, none⟩)]) ∧ Hp w w w' [.blk kb 39 [.slice x.pa x.pn x.pc], .blk cb 99 [.func (.func 37) #[] #[]]] [] := by
 have HMI := Lib.hid (missing_any g x.cells w hS.blk rfl)
 have k0 : w.cell? ⟨g, 13, none⟩ = some (.slice x.pa x.pn x.pc) := hS.blk.cell rfl
 have gl := hS.blk.lt
 have HV := Lib.hid (valuesP_any x.pa x.pn x.pc 37 w)
 clear hS
 go_enter Tryd.func10, Tryd.ntmps10
 go_wp2_with fail
 refine HMI.out.mono ?_
 rintro e W1 ⟨rfl, rfl⟩
 go_wp2_with fail
 refine HV.out.mono ?_
 rintro e W2 ⟨rfl, hW2⟩
 have hP := ((Hp.start w).alloc [.slice x.pa x.pn x.pc] 39).alloc [.func (.func 37) #[] #[]] 99
 simp only [World.size_alloc] at hP
 have HP := Lib.hid (show Hp w w W2 _ _ by rw [hW2]; exact hP)
 clear hP hW2
 go_wp2_with fail
 go_ret
 exact ⟨_, _, rfl, HP.out⟩
theorem Hp.all0 {w u W : World} {L : List Ent} {ds : List Nat} (h : Hp w u W L ds) : Hp w w W L ds := ⟨h.below, ⟨h.below.size, fun k _ hk _ => (h.below.block k (Array.getElem?_eq_some_iff.1 hk).1).trans hk⟩, h.all, h.low, h.apart, h.marks, h.nodup⟩
theorem take_snoc' {α : Type} {xs : List α} {k : Nat} {x : α} (hx : xs[k]? = some x) : xs.take (k + 1) = xs.take k ++ [x] := by rw [List.take_add_one, hx]; rfl
def PkdPost (P : List Chs) (w : World) (e : Ending) (w' : World) : Prop := ∃ (v : Value) (O : List Lem), e = .returned v ∧ O.map Lem.chs = P ∧ (∀ m ∈ O, m.len ≤ 100000) ∧ Hp w w w' (.row v 47 1 O.length (O.map Lem.val) :: lemEnts O) []
theorem packed_any (B : Nat) (p : Nat → Prop) (g : Nat) (x : StS) (w : World) (hS : StAt w B p g x) (hpl : x.pe.length ≤ 100000) : Calls Tryd.prog 12 #[.pointer (some ⟨g, 0, none⟩)] w (PkdPost x.P w) := by
 obtain ⟨i0, hi, hz0, hz1, hz2⟩ := info_parts ch_info
 obtain ⟨j0, hj, hy0, hy1, hy2⟩ := info_parts cs_info
 obtain ⟨p2, hp2⟩ : ∃ q, q = w.heap.size := ⟨_, rfl⟩
 obtain ⟨V0, hV0⟩ : ∃ V, V = w.alloc (.cells #[.slice none 0 0] 48) := ⟨_, rfl⟩
 have hP0 : Hp w w V0 [.blk p2 48 [.slice none 0 0]] [] := by
  have h := (Hp.start w).alloc [.slice none 0 0] 48
  rw [hV0, hp2]; exact h
 have HPI := Lib.hid (packedIt_any B p g x V0 (hS.keep hP0.below))
 have HPE := Lib.hid (hS.pes.mono (q := (· < w.heap.size)) (fun _ _ h => h))
 have HP0 := Lib.hid hP0
 have hpn : x.pn ≤ 100000 := by have := hS.pes.1.1; omega
 have HPL : Hid (x.P.length = x.pe.length ∧ x.pe.length ≤ 100000) := Lib.hid ⟨by unfold StS.P; rw [List.length_map], hpl⟩
 clear hS hP0 hpl
 have hnil := fun W b c => run_eql_func_nil (P := Tryd.prog) W 61 (.func 58) b c Tryd.underlying61
 refine (callsIn_wide (n := 6)).1 ?_
 refine callsIn_of_wp_marks Tryd.func12 rfl trivial ?_ rfl
 simp only [Tryd.ntmps12, List.size_toArray, List.length_cons, List.length_nil, Nat.reduceAdd, Nat.reduceSub, Array.replicate_succ, Array.replicate_zero, List.push_toArray, List.append_toArray, List.nil_append, List.cons_append]
 gi_upto_region 1 with fail
 rw [← hV0, ← hp2]
 clear hV0 hp2
 gi_wp2_with fail
 refine ⟨trivial, (callsIn_wide.2 HPI.out).mono ?_⟩
 rintro e W1 ⟨kb, cb, rfl, hH⟩
 have hP1 := HP0.out.join hH.below hH
 obtain ⟨p4, hp4⟩ : ∃ q, q = W1.heap.size := ⟨_, rfl⟩
 obtain ⟨W2, hW2⟩ : ∃ V, V = W1.alloc (.cells #[.slice none 0 0] 48) := ⟨_, rfl⟩
 have hP2 := (hP1.alloc [.slice none 0 0] 48).nil 47 1
 rw [show ([.slice none 0 0] : List Value).toArray = #[.slice none 0 0] from rfl, ← hW2, ← hp4] at hP2
 have HP2 := Lib.hid hP2
 clear hH hP1 hP2 HPI HP0
 gi_upto_region 5 with fail
 rw [← hW2, ← hp4]
 clear hW2 hp4
 have HSQ := Lib.hid (vals1P 5 (by decide) w.heap.size kb cb x.pa x.pn x.pc x.pe W2 (HP2.out.blk 1 rfl) (HP2.out.blk 2 rfl) (HPE.out.keep HP2.out.below) HP2.out.below.size hpn)
 gi_wp2_with fail
 refine hp_hands0 (w := w) (ds := []) (σ := Value × List Lem) (fun s => [.blk p2 48 [.slice none 0 0], .blk kb 39 [.slice x.pa x.pn x.pc], .blk cb 99 [.func (.func 37) #[] #[]], .blk p4 48 [s.1], .row s.1 47 1 s.2.length (s.2.map Lem.val)] ++ lemEnts s.2)
  (fun pre s => s.2.length = pre.length ∧ (∀ m ∈ s.2, m.len ≤ 100000) ∧ s.2.map Lem.chs = x.P.take pre.length) (fun _ _ _ => False) 2 (fun y => [.row y.2.val 74 2 y.2.len (flat 2 chC y.2.chs)]) (fun pre y => y.1 = pre.length ∧ y.2.len ≤ 100000 ∧ y.2.chs.length = y.2.len ∧ x.P[pre.length]? = some y.2.chs) ?a₁ (by decide)
  (gf := 58) (lb := #[.pointer (some ⟨kb, 0, none⟩), .pointer (some ⟨cb, 0, none⟩)]) rfl (enters_of Tryd.func58 (by kernel_rfl) rfl) HSQ.out (Nat.le_refl _) (fun _ => rfl) (.slice none 0 0, []) ⟨rfl, fun _ h => (by cases h), by simp⟩ HP2.out (fun _ => rfl)
  (fun pre y L X Y hX hbl hG => ?give) ?assign ?body ?done ?stop
 case give =>
  obtain ⟨h1, ⟨e, he, hc, hl⟩, hH⟩ := hG
  have hA := HPE.out.2 e (List.mem_of_getElem? he)
  exact ⟨⟨h1, by rw [hl]; exact hA.2, by rw [hc, hl]; exact hA.1.1, by unfold StS.P; rw [List.getElem?_map, he, hc]; rfl⟩, hX.join hbl hH, fun e' he' => hH.low e' he'⟩
 case assign =>
  intro l y X K hK
  unfold Lem.val
  gi_wp2
  exact hK
 case body =>
  rintro l pre ⟨k0, ⟨yA, yn, yc, ych⟩⟩ e X ⟨v, O⟩ _ ⟨hO1, hO2, hO3⟩ ⟨hy1, hy2, hyl, hy3⟩ hX hlen
  dsimp only at *
  obtain rfl : k0 = O.length := hy1.trans hO1.symm
  obtain ⟨L0, hL0⟩ : ∃ L0, L0 = lemEnts O := ⟨_, rfl⟩
  rw [← hL0] at hX
  have hX1 : Hp w X X (.row (.slice yA yn yc) 74 2 yn (flat 2 chC ych) :: e :: ([.blk p2 48 [.slice none 0 0], .blk kb 39 [.slice x.pa x.pn x.pc], .blk cb 99 [.func (.func 37) #[] #[]], .blk p4 48 [v], .row v 47 1 O.length (O.map Lem.val)] ++ L0)) [] := hX.perm (List.perm_append_singleton _ (e :: _))
  obtain ⟨A1, c1, rfl⟩ := hX1.form 6 rfl
  have HX := Lib.hid hX1
  have HL0 := Lib.hid hL0
  have HO := Lib.hid (And.intro hO2 (And.intro hO3 hy3))
  have HPR := Eqn.mk hO1
  have HYL := Eqn.mk hyl
  have hol : O.length < 100000 := by have := HPL.out; omega
  have c5 := hX1.c 5 0 rfl rfl
  have l5 := hX1.lt 5 rfl
  have hrow : RowS 2 chC X X.heap.size yA yn ych := by
   have hr := hX1.row 0 rfl
   rw [← hyl] at hr ⊢
   exact rowS_own (by decide) hr
  have HROW := Lib.hid (hrow.keep (Below.refl _ _).drew)
  clear hL0 hX hX1 hO1 hO2 hO3 hy1 hy3 hyl hlen hrow
  gi_wp2_with fail
  refine Lx.regionTIn (C := fun W' => W'.cell? ⟨p4, 0, none⟩ = some (.slice A1 O.length c1)) (C' := fun _ => True) (hs := [0]) 5 (List.take 5 _) (List.drop 5 _) (List.take_append_drop 5 _).symm rfl (by kernel_rfl) (by kernel_rfl) (by kernel_rfl) (by kernel_rfl) c5 ?_
  simp only [List.take_succ_cons, List.take_zero, List.drop_succ_cons, List.drop_zero]
  repeat' (first | ((first | refine Lx.ln (fun K hK => ?_) | (first | (refine Lx.lp (v := ?_) ?_ (fun K hK => ?_); rotate_left 1; intro w' hCw; try dsimp only at hCw) | (refine Lx.lr (v := ?_) ?_ (fun K hK => ?_); rotate_left 1)); go_simp; first | done | with_reducible rfl); go_simp; refine hK _ ?_; clear hK K) | (refine Lx.le (fun K hK => ?_); go_simp; (first | fail); refine hK _ _ (fail) ?_; clear hK K))
  refine Lx.lex_append_rowR rfl rfl _ _ 47 rfl (f := chC) (by decide) chC_one X.drew.heap.size 74 i0 (.agg #[.int .i64 0, .int .i64 0]) 16 Tryd.underlying47 hi hz0 hz1 hz2 rfl _ 0 [] rfl (World.ownsRow_nil _ _ _ _) yA yn yc ych X.drew.heap.size rfl HROW.out (by unfold maxLen; omega) (by omega) (Nat.le_refl _) ?_
  intro v6 W6 hown6 hgrow6 _
  have hb6 : Below X.drew.heap.size X.drew W6 := (Below.refl _ _).grown hgrow6 (Nat.le_refl _) (fun g hg => by cases hg)
  rw [Nat.zero_add, List.nil_append] at hown6
  have hP6 := HX.out.drew.pushRow hb6 hown6
  have HP6 := Lib.hid hP6
  have HC6 := Lib.hid (hP6.c 5 0 rfl rfl)
  obtain ⟨A6, c6, rfl, _⟩ := own_formS (by decide) hown6
  have HC7 := Lib.hid (fun o => (HP6.out.alloc0 o).c 5 0 rfl rfl)
  refine ⟨HC6.out, ?_⟩
  clear hown6 hgrow6 hb6 hP6
  repeat' (first | ((first | refine Lx.ln (fun K hK => ?_) | (first | (refine Lx.lp (v := ?_) ?_ (fun K hK => ?_); rotate_left 1; intro w' hCw; try dsimp only at hCw) | (refine Lx.lr (v := ?_) ?_ (fun K hK => ?_); rotate_left 1)); go_simp; first | done | with_reducible rfl); go_simp; refine hK _ ?_; clear hK K) | (refine Lx.le (fun K hK => ?_); go_simp; (first | skip); refine hK _ _ (by first | exact HC6.out | exact HC7.out _) ?_; clear hK K))
  refine Lx.lex_append rfl rfl _ _ 48 rfl w.heap.size 47 j0 (.slice none 0 0) 1 24 Tryd.underlying48 hj hy0 hy1 (by assumption) rfl (by decide) _ _ _ rfl ((HP6.out.row 6 rfl).alloc _) ⟨W6.heap.size, 0, none⟩ 1 1 [.slice A6 yn c6] rfl rfl (cell_one_new _ _ _) (by simp [Value.oneCell']) (by unfold maxLen; omega) (by omega) (by have := HP6.out.below.size; simp; omega) ?_
  intro v' w8 hown' hgrow hat
  have hP8 := (HP6.out.alloc0 _).grow 6 rfl hgrow hown' hat
  obtain ⟨A8, c8, rfl⟩ := hP8.form 6 rfl
  refine ⟨hP8.c 5 0 rfl rfl, ?_⟩
  obtain ⟨O2, hO2⟩ : ∃ O2, O2 = O ++ [(⟨A6, yn, c6, ych⟩ : Lem)] := ⟨_, rfl⟩
  obtain ⟨V9, hV9⟩ : ∃ V, V = w8.setCell ⟨p4, 0, none⟩ (.slice A8 (O.length + 1) c8) := ⟨_, rfl⟩
  have hP9 : Hp w X V9 (.row (.slice yA yn yc) 74 2 yn (flat 2 chC ych) :: e :: ([.blk p2 48 [.slice none 0 0], .blk kb 39 [.slice x.pa x.pn x.pc], .blk cb 99 [.func (.func 37) #[] #[]], .blk p4 48 [.slice A8 (O.length + 1) c8], .row (.slice A8 (O.length + 1) c8) 47 1 O2.length (O2.map Lem.val)] ++ lemEnts O2)) [] := by
   rw [hV9, hO2, lemEnts_snoc, ← HL0.out, List.map_append, List.length_append]
   exact hP8.set 5 0 (.slice A8 (O.length + 1) c8) rfl
  have HP9 := Lib.hid hP9
  have HO2 := Lib.hid hO2
  have c9 : w8.cell? ⟨p4, 0, none⟩ = some (.slice A1 O.length c1) := hP8.c 5 0 rfl rfl
  have f9 : ∀ o, w8.frozen? ⟨p4, o, none⟩ = false := hP8.f 5 rfl
  have l9 : p4 < w8.heap.size := hP8.lt 5 rfl
  clear hP8 hown' hgrow hat hO2 hP9 c5 l5
  refine Lx.lex_nil ⟨trivial, ?_⟩
  go_simp
  repeat' (first | ((first | refine Lx.ln (fun K hK => ?_) | (first | (refine Lx.lp (v := ?_) ?_ (fun K hK => ?_); rotate_left 1; intro w' hCw; try dsimp only at hCw) | (refine Lx.lr (v := ?_) ?_ (fun K hK => ?_); rotate_left 1)); go_simp; first | done | with_reducible rfl); go_simp; refine hK _ ?_; clear hK K) | (refine Lx.le (fun K hK => ?_); go_simp; (first | skip); refine hK _ _ (trivial) ?_; clear hK K))
  all_goals (refine Lx.lex_nil ?_)
  rw [← hV9]
  clear hV9 c9 f9 l9 HP6 HC6 HC7 HX HROW
  gi_wp2_with fail
  gi_loopw [7] (fun i wr => ∃ (k : Nat) (cs : List Value), k ≤ yn ∧ i = .int .i64 k ∧ cs.length = yn * 2 ∧ Hp w X wr (.row (.slice yA yn yc) 74 2 yn cs :: e :: ([.blk p2 48 [.slice none 0 0], .blk kb 39 [.slice x.pa x.pn x.pc], .blk cb 99 [.func (.func 37) #[] #[]], .blk p4 48 [.slice A8 (O.length + 1) c8], .row (.slice A8 (O.length + 1) c8) 47 1 O2.length (O2.map Lem.val)] ++ lemEnts O2)) []) (fun i _ => yn - (intOf i).toNat)
  case atStart => exact ⟨0, _, Nat.zero_le _, rfl, by rw [flat_lenR, HYL.out], HP9.out⟩
  case round =>
   clear HP9
   obtain ⟨k, cs, hk, rfl, hcs, hP⟩ := hrel
   have HP := Lib.hid hP
   by_cases hlt : k < yn
   ·have j0 : (k : Int) < (yn : Int) := by omega
    obtain ⟨z, hz⟩ : ∃ z, cs[k * 2 + 1]? = some z := ⟨_, List.getElem?_eq_getElem (by omega)⟩
    obtain ⟨b, c', hb', z0, zf, zl⟩ := hP.at 0 (k * 2 + 1) rfl hz
    injection hb' with hb' _ hc'
    subst hb' hc'
    have HCS := Eqn.mk hcs
    clear hP hz hcs
    gi_wp2_with fail
    go_roundw
    case rel => exact ⟨k + 1, cs.set (k * 2 + 1) (.int .i64 1), hlt, by go_num, by rw [List.length_set, HCS.out], HP.out.setRow 0 (k * 2 + 1) (.int .i64 1) rfl⟩
    case measure => simp [intOf]; omega
   ·clear hP hcs
    gi_wp2_with fail
    refine ⟨(.slice A8 (O.length + 1) c8, O2), ⟨?_, ?_, ?_⟩, HP.out.sub (List.Sublist.cons _ (List.Sublist.refl _))⟩
    ·rw [HO2.out, List.length_append, List.length_append, HPR.out]; rfl
    ·intro m hm
     rw [HO2.out] at hm
     rcases List.mem_append.1 hm with hm | hm
     ·exact HO.out.1 m hm
     ·rw [List.mem_singleton] at hm; subst hm; assumption
    ·dsimp only
     rw [HO2.out, List.map_append, HO.out.2.1, List.length_append]
     exact (take_snoc' HO.out.2.2).symm
 case done =>
  rintro D xs X ⟨v, O⟩ hS ⟨hO1, hO2, hO3⟩ hX
  dsimp only at hO1 hO2 hO3 hX
  obtain ⟨A1, c1, rfl⟩ := hX.form 4 rfl
  have hO4 : O.map Lem.chs = x.P := by rw [hO3, List.take_of_length_le]; have := HPL.out; have hS : xs.length = x.pe.length := hS; omega
  have HO := Lib.hid (And.intro hO2 hO4)
  have HX := Lib.hid hX
  have r2 := hX.c 0 0 rfl rfl
  have f2 := hX.f 0 rfl
  have l2 := hX.lt 0 rfl
  have r4 := hX.c 3 0 rfl rfl
  have l4 := hX.lt 3 rfl
  clear hX hO1 hO2 hO3 hO4 hS
  gi_wp2_with fail
  show LeavesInM _ _ _ _ _ _ (marksOf [D]) .returning _
  refine hp_leaves (fun Y hY => ?_) _ _ _ (HX.out.set 0 0 (.slice A1 O.length c1) rfl)
  exact ⟨.slice A1 O.length c1, by simp [results, Tryd.results12, go_sem, hY.c 0 0 rfl rfl], _, O, rfl, HO.out.2, HO.out.1, Hp.all0 <| hY.sub (List.Sublist.cons _ (List.Sublist.cons _ (List.Sublist.cons _ (List.Sublist.cons _ (List.Sublist.refl _)))))⟩
 case stop =>
  rintro D cd pre X s _ h
  exact h.elim
end Go.Proofs.YtdpbbhbegehcjaaDoor
