/- What problem.Valid calls: goodDomain, every and increasing, and its closures. -/
import Derived.Deep.CutBlock
import Derived.Test.YtdpbbhbegehcjaaDoorNon01
import Derived.Test.YtdpbbhbegehcjaaDoorNon02
import Derived.Test.YtdpbbhbegehcjaaDoorNon03
set_option maxRecDepth 100000
set_option maxHeartbeats 1000000
namespace Go.Proofs.YtdpbbhbegehcjaaDoor
open Go.RowKit
namespace Lx
section
variable {P : Program} {ops : Array Oper} {C C' : World → Prop} {hs : List Nat}
def tailOk (n : Nat) (ops : Array Oper) : Bool :=
 let M := masks ops.toList []
 (List.range ops.size).all fun j => decide (j < n) || (List.range n).all fun i => (M.getD j 0).testBit i
theorem any_of_lexT {Q : Exit → Act → World → Prop} {n : Nat} (hok : ok hs ops = true) (ht : tailOk n ops = true) : ∀ (fuel : Nat) (L1 L2 : List Nat) (listed : Array Bool) (a : Act) (w : World), C w → (L1 ++ L2).length = fuel →
  (∀ i, i ∈ L1 ++ L2 ↔ i < ops.size ∧ listed.getD i true = false) → (L1 ++ L2).Pairwise (· < ·) → (∀ i ∈ L1, i < n) → (∀ i ∈ L2, n ≤ i) → Down ops listed → listed.size = ops.size →
  lexN P ops C hs (fun a w => C' w ∧ lexN P ops C' hs (fun a w => Q .normal a w) L2 a w) L1 a w → wpAny P .any ops Q fuel listed a w := by
 have htl : ∀ j, n ≤ j → j < ops.size → ∀ i, i < n → ((masks ops.toList []).getD j 0).testBit i = true := by
  intro j hj hjs i hi
  have h1 := List.all_eq_true.1 ht j (List.mem_range.2 hjs)
  simp only [Bool.or_eq_true, decide_eq_true_eq] at h1
  rcases h1 with h1 | h1
  ·omega
  ·exact List.all_eq_true.1 h1 i (List.mem_range.2 hi)
 have hok' : ∀ (j : Nat) (oj : Oper), ops[j]? = some oj → noSel oj = true ∧ (∀ e ∈ oj.after, Region.binds .any e = true → e.on < j) ∧ ∀ i, i < j → ((masks ops.toList []).getD j 0).testBit i = true ∨ pair ops hs i j = true := by
  intro j oj hj
  have hlt : j < ops.size := (Array.getElem?_eq_some_iff.1 hj).1
  have h1 := List.all_eq_true.1 hok j (List.mem_range.2 hlt)
  simp only [hj, Bool.and_eq_true] at h1
  obtain ⟨⟨h2, h3⟩, h4⟩ := h1
  refine ⟨h2, fun e he hb => ?_, fun i hi => ?_⟩
  ·have := Array.all_eq_true'.1 h3 e he
   simpa [hb] using this
  ·have := List.all_eq_true.1 h4 i (List.mem_range.2 hi)
   simpa using this
 have hsel : ∀ (j : Nat) (o : Oper) cs b, ops[j]? = some o → o.op ≠ .select cs b := by
  intro j o cs b hj he
  have := (hok' j o hj).1
  simp [noSel, he] at this
 intro fuel
 induction fuel with
 | zero =>
  intro L1 L2 listed a w hC hL hm hs' h1 h2 hD hsz h
  have hnil : L1 = [] := List.eq_nil_of_length_eq_zero (by simp at hL; simp [hL])
  subst hnil
  exact any_of_lex hok _ L2 listed a w h.1 (by simpa using hL) (by simpa using hm) (by simpa using hs') hD hsz h.2
 | succ fuel ih =>
  intro L1 L2 listed a w hC hL hm hs' h1 h2 hD hsz h
  cases L1 with
  | nil => exact any_of_lex hok _ L2 listed a w h.1 (by simpa using hL) (by simpa using hm) (by simpa using hs') hD hsz h.2
  | cons i0 L0 =>
   have hi0 : i0 < n := h1 i0 (by simp)
   obtain ⟨hi1, hi2⟩ := (hm i0).1 (by simp)
   refine ⟨fun hr => ?_, fun j hj => ?_⟩
   ·exfalso
    have ho : ops[i0]? = some ops[i0] := Array.getElem?_eq_getElem hi1
    have hri : i0 ∈ Region.ready .any ops listed := by
     refine mem_ready.2 ⟨hi2, _, ho, fun e he hb => ?_⟩
     have hlt := (hok' i0 _ ho).2.1 e he hb
     by_cases hle : listed.getD e.on true = false
     ·have hmem : e.on ∈ i0 :: (L0 ++ L2) := (hm e.on).2 ⟨by omega, hle⟩
      rcases List.mem_cons.1 hmem with h | h
      ·omega
      ·have := (List.pairwise_cons.1 hs').1 e.on h
       omega
     ·have hb2 : e.on < listed.size := by omega
      simp only [Array.getD_eq_getD_getElem?, Array.getElem?_eq_getElem hb2, Option.getD_some] at hle ⊢
      simpa using hle
    rw [hr] at hri
    cases hri
   ·obtain ⟨hj1, oj, hoj, hjr⟩ := mem_ready.1 hj
    have hjlt : j < ops.size := (Array.getElem?_eq_some_iff.1 hoj).1
    have hmem : j ∈ i0 :: L0 := by
     rcases List.mem_append.1 ((hm j).2 ⟨hjlt, hj1⟩) with h | h
     ·exact h
     ·exfalso
      have hl := masks_sound hD (j + 1) j oj (by omega) hoj hjr i0 (htl j (h2 j h) hjlt i0 hi0)
      have hb2 : i0 < listed.size := by omega
      simp only [Array.getD_eq_getD_getElem?, Array.getElem?_eq_getElem hb2, Option.getD_some] at hl hi2
      rw [hl] at hi2
      cases hi2
    obtain ⟨pre, post, hsplit⟩ := List.append_of_mem hmem
    rw [hsplit] at hs' hm hL h h1
    clear hsplit hmem
    have hs1 := (List.pairwise_append.1 hs').1
    have hpre : ∀ i ∈ pre, i < j := by
     intro i hi
     exact (List.pairwise_append.1 hs1).2.2 i hi j (by simp)
    have hpost : ∀ i ∈ post, j < i := fun i hi => (List.pairwise_cons.1 (List.pairwise_append.1 hs1).2.1).1 i hi
    have hpair : ∀ i ∈ pre, pair ops hs i j = true := by
     intro i hi
     rcases (hok' j oj hoj).2.2 i (hpre i hi) with h1 | h1
     ·exfalso
      have hl := masks_sound hD (j + 1) j oj (by omega) hoj hjr i h1
      obtain ⟨hi1, hi2⟩ := (hm i).1 (by simp [hi])
      have hb2 : i < listed.size := by omega
      simp only [Array.getD_eq_getD_getElem?, Array.getElem?_eq_getElem hb2, Option.getD_some] at hl hi2
      rw [hl] at hi2
      cases hi2
     ·exact h1
    have hp1 := pull hoj hsel post pre a w hpair hC h
    have hset : ∀ i, (listed.setIfInBounds j true).getD i true = false ↔ (listed.getD i true = false ∧ i ≠ j) := by
     intro i
     by_cases hij : i = j
     ·subst hij
      simp [Array.getD_eq_getD_getElem?, Array.getElem?_setIfInBounds]
      split <;> simp_all
     ·simp [Array.getD_eq_getD_getElem?, Array.getElem?_setIfInBounds_ne (Ne.symm hij), hij]
    have hp2 : step P ops C hs j oj (wpAny P .any ops Q fuel (listed.setIfInBounds j true)) a w := by
     refine step_mono hC hp1 fun a' w' hC' _ hK => ih (pre ++ post) L2 _ a' w' hC' ?_ ?_ ?_ ?_ h2 ?_ (by simp [hsz]) hK
     ·simp at hL ⊢; omega
     ·intro i
      rw [hset]
      constructor
      ·intro hi
       have hi' : i ∈ (pre ++ j :: post) ++ L2 := by
        simp only [List.mem_append, List.mem_cons] at hi ⊢
        rcases hi with (h | h) | h <;> simp [h]
       obtain ⟨q1, q2⟩ := (hm i).1 hi'
       refine ⟨q1, q2, ?_⟩
       simp only [List.mem_append] at hi
       rcases hi with (h | h) | h
       ·have := hpre i h; omega
       ·have := hpost i h; omega
       ·have := h1 j (by simp)
        have := h2 i h
        omega
      ·rintro ⟨q1, q2, q3⟩
       have := (hm i).2 ⟨q1, q2⟩
       simp only [List.mem_append, List.mem_cons] at this ⊢
       rcases this with (h | h | h) | h
       ·simp [h]
       ·exact absurd h q3
       ·simp [h]
       ·simp [h]
     ·have hp := List.pairwise_append.1 hs'
      refine List.pairwise_append.2 ⟨?_, hp.2.1, fun x hx y hy => hp.2.2 x (by simp only [List.mem_append, List.mem_cons] at hx ⊢; rcases hx with h | h <;> simp [h]) y hy⟩
      have hq := List.pairwise_append.1 hs1
      refine List.pairwise_append.2 ⟨hq.1, (List.pairwise_cons.1 hq.2.1).2, fun x hx y hy => ?_⟩
      have := hpre x hx
      have := hpost y hy
      omega
     ·intro i hi
      refine h1 i ?_
      simp only [List.mem_append, List.mem_cons] at hi ⊢
      rcases hi with h | h <;> simp [h]
     ·intro j' o' ho' hl' e he hb
      by_cases hjj : j' = j
      ·subst hjj
       rw [hoj] at ho'
       injection ho' with ho'
       subst ho'
       exact getD_set_true (hjr e he hb)
      ·rw [getD_set_ne false (Ne.symm hjj)] at hl'
       exact getD_set_true (hD j' o' ho' hl' e he hb)
    unfold step at hp2
    unfold wpOp
    simp only [hoj]
    split
    ·rename_i hw
     rw [if_pos hw] at hp2
     left
     rcases hp2 with ⟨_, v, h3, h4⟩ | ⟨_, v, h3, h4⟩ | ⟨_, h3⟩
     ·unfold Oper.wp; rw [h3 w hC]; exact h4
     ·unfold Oper.wp; rw [h3]; exact h4
     ·exact Oper.wp_mono (fun _ _ hh => hh.2) (wp_noQ h3)
    ·rename_i hw
     rw [if_neg hw] at hp2
     exact hp2
end
theorem lexN_of_lexP {P : Program} {ops : Array Oper} {C : World → Prop} {hs : List Nat} {Q : Act → World → Prop} : ∀ (l : List Oper) (k : Nat), (∀ m, m < l.length → l[m]? = ops[k + m]?) → lex P ops C hs Q k l = lexN P ops C hs Q (List.range' k l.length) := by
 intro l
 induction l with
 | nil => intro k _; funext a w; simp [lex, lexN]
 | cons o r ih =>
  intro k h
  have h0 : ops[k]? = some o := by simpa using (h 0 (by simp)).symm
  have ih' := ih (k + 1) (fun m hm => by have := h (m + 1) (by simp; omega); simpa [Nat.add_assoc, Nat.add_comm 1 m] using this)
  funext a w
  simp only [lex, List.length_cons, List.range'_succ, lexN, h0, ih']
theorem regionT {P : Program} {C C' : World → Prop} {hs : List Nat} {id : Nat} {l : List Oper} {Q : Exit → Act → World → Prop} {a : Act} {w : World} (n : Nat) (l1 l2 : List Oper) (hl : l = l1 ++ l2) (hn : l1.length = n) (hm : P.follows .mixedOrders = true) (hok : ok hs l.toArray = true) (ht : tailOk n l.toArray = true) (hC : C w.drew)
  (h : lex P l.toArray C hs (fun a w => C' w ∧ lex P l.toArray C' hs (fun a w => Q .normal a w) n l2 a w) 0 l1 a w.drew) : (Code.region id l.toArray true).wp P Q a w := by
 subst hl
 refine wp_region_any hm ?_
 refine any_of_lexT (C := C) (C' := C') (hs := hs) (n := n) hok ht _ (List.range' 0 n) (List.range' n l2.length) _ a _ hC (by simp [hn]) ?_ ?_ ?_ ?_ ?_ (by simp) ?_
 ·intro i
  simp [Array.getD_eq_getD_getElem?, Array.getElem?_replicate, hn]
  constructor
  ·intro hi
   have : i < n + l2.length := by omega
   exact ⟨this, by simp [this]⟩
  ·rintro ⟨hi, _⟩
   omega
 ·have h1 := List.pairwise_lt_range (n := n + l2.length)
  rw [List.range_eq_range', List.range'_append_1.symm] at h1
  simpa using h1
 ·intro i hi; simp at hi; exact hi
 ·intro i hi; simp at hi; exact hi.1
 ·intro j o ho hl
  simp [Array.getD_eq_getD_getElem?, Array.getElem?_replicate] at hl
  split at hl <;> simp at hl
 ·have e2 := lexN_of_lex (P := P) (ops := (l1 ++ l2).toArray) (C := C') (hs := hs) (Q := fun a w => Q .normal a w) l2 n (fun m => by rw [List.getElem?_toArray, List.getElem?_append_right (by omega)]; congr 1; omega)
  rw [e2] at h
  have e1 := lexN_of_lexP (P := P) (ops := (l1 ++ l2).toArray) (C := C) (hs := hs) (Q := fun a w => C' w ∧ lexN P (l1 ++ l2).toArray C' hs (fun a w => Q .normal a w) (List.range' n l2.length) a w) l1 0 (fun m hm => by rw [Nat.zero_add, List.getElem?_toArray, List.getElem?_append_left hm])
  rw [e1, hn] at h
  exact h
section
variable {P : Program} {ops : Array Oper} {C : World → Prop} {hs : List Nat} {Q : Act → World → Prop} {k : Nat} {o : Oper} {r : List Oper} {a : Act} {w : World}
end
end Lx
section
variable {W1 W W' : World} {B0 g8 : Nat} {v : PrbV} {x : PrbL}
end
def chIn : Option Int → List Int → Bool
 | _, [] => true
 | prev, x :: r => if x < 2 ∨ 51 < x ∨ notUp prev x = true then false else chIn (some x) r
def domGo : Option Int → List Dom → Bool
 | _, [] => true
 | prev, d :: r => if stF d.st = false ∨ notUp prev d.st = true ∨ 50 < d.len then false else if chIn none d.chs then domGo (some d.st) r else false
def inD (ds : List Dom) (x : Int) : Bool := decide (0 ≤ findD x 0 ds)
theorem inD_mem (ds : List Dom) (x : Int) : inD ds x = decide (x ∈ ds.map Dom.st) := by
 have h := findD_neg x ds 0
 unfold inD
 by_cases hx : x ∈ ds.map Dom.st
 ·rw [decide_eq_true hx] at h ⊢
  have : ¬ findD x 0 ds < 0 := by simpa using h
  exact decide_eq_true (by omega)
 ·rw [decide_eq_false hx] at h ⊢
  have : findD x 0 ds < 0 := by simpa using h
  exact decide_eq_false (by omega)
theorem stS_bit : ∀ (l : List Int) (a k : Nat), (l.foldl (fun a i => a ||| 2 ^ i.toNat) a).testBit k = (a.testBit k || l.any (fun i => i.toNat == k)) := by
 intro l
 induction l with
 | nil => intro a k; simp
 | cons x r ih =>
  intro a k
  rw [List.foldl_cons, ih, Nat.testBit_or, Nat.testBit_two_pow, List.any_cons, Bool.or_assoc]
  congr 2
theorem hasS_mem {l : List Int} (hl : ∀ y ∈ l, 0 ≤ y ∧ y < 512) (x : Int) : hasS (stS l) x = decide (x ∈ l) := by
 unfold hasS
 by_cases hx : 0 ≤ x ∧ x < 512
 ·unfold stS
  rw [stS_bit, Nat.zero_testBit, Bool.false_or]
  by_cases hm : x ∈ l
  ·have h1 : l.any (fun i => i.toNat == x.toNat) = true := List.any_eq_true.2 ⟨x, hm, by simp⟩
   simp [hx.1, hx.2, hm, h1]
  ·have h1 : l.any (fun i => i.toNat == x.toNat) = false := by
    rw [List.any_eq_false]
    intro y hy h2
    have h3 : y.toNat = x.toNat := by simpa using h2
    obtain ⟨g1, g2⟩ := hl y hy
    exact hm (by rw [show x = y by omega]; exact hy)
   simp [hx.1, hx.2, hm, h1]
 ·have hm : x ∉ l := fun h => hx (hl x h)
  have : ¬ (0 ≤ x ∧ x < 512) := hx
  simp only [hm, decide_false]
  by_cases h0 : 0 ≤ x
  ·have h1 : ¬ x < 512 := fun h => hx ⟨h0, h⟩
   simp [h1]
  ·simp [h0]
theorem lessL_trans : ∀ (a b c : List Int), lessL a b = true → lessL b c = true → lessL a c = true := by
 intro a
 induction a with
 | nil => intro b c h; simp [lessL] at h
 | cons x r ih =>
  intro b c h1 h2
  cases b with
  | nil => simp [lessL] at h1
  | cons y s =>
   cases c with
   | nil => simp [lessL] at h2
   | cons z t =>
    rw [lessL] at h1 h2 ⊢
    by_cases e1 : x = y
    ·subst e1
     rw [if_neg (by simp)] at h1
     by_cases e2 : x = z
     ·subst e2
      rw [if_neg (by simp)] at h2 ⊢
      exact ih s t h1 h2
     ·rw [if_pos e2] at h2 ⊢
      exact h2
    ·rw [if_pos e1] at h1
     have h1' : x < y := by simpa using h1
     by_cases e2 : y = z
     ·subst e2
      rw [if_pos e1]; exact h1
     ·rw [if_pos e2] at h2
      have h2' : y < z := by simpa using h2
      rw [if_pos (by omega)]
      exact decide_eq_true (by omega)
theorem incF_pair {α : Type} (cmp : α → α → Int) (nums : α → List Int) (hc : ∀ x y, decide (0 ≤ cmp x y) = !lessL (nums x) (nums y)) : ∀ l : List α, incF cmp l = true ↔ l.Pairwise (fun x y => lessL (nums x) (nums y) = true) := by
 intro l
 induction l with
 | nil => simp [incF]
 | cons x r ih =>
  cases r with
  | nil => simp [incF]
  | cons y t =>
   rw [incF_cons]
   have h := hc x y
   constructor
   ·intro h1
    by_cases h0 : 0 ≤ cmp x y
    ·rw [if_pos h0] at h1; cases h1
    ·rw [if_neg h0] at h1
     rw [decide_eq_false h0] at h
     have hxy : lessL (nums x) (nums y) = true := by simpa using h.symm
     have hp := ih.1 h1
     refine List.pairwise_cons.2 ⟨fun z hz => ?_, hp⟩
     rcases List.mem_cons.1 hz with rfl | hz
     ·exact hxy
     ·exact lessL_trans _ _ _ hxy ((List.pairwise_cons.1 hp).1 z hz)
   ·intro hp
    obtain ⟨h1, h2⟩ := List.pairwise_cons.1 hp
    have hxy := h1 y (by simp)
    rw [hxy] at h
    have h0 : ¬ 0 ≤ cmp x y := by simpa using h
    rw [if_neg h0]
    exact ih.2 h2
theorem incF_filter {α : Type} (cmp : α → α → Int) (nums : α → List Int) (hc : ∀ x y, decide (0 ≤ cmp x y) = !lessL (nums x) (nums y)) (f : α → Bool) {l : List α} (h : incF cmp l = true) : incF cmp (l.filter f) = true :=
 (incF_pair cmp nums hc _).2 (((incF_pair cmp nums hc l).1 h).sublist List.filter_sublist)
theorem rules_filter {r : Rul} (h : rulesF r = true) (f g : R5 → Bool) (k : R4 → Bool) : rulesF ⟨r.pairs.filter f, r.loads.filter g, r.caps.filter k⟩ = true := by
 simp only [rulesF, Bool.and_eq_true, decide_eq_true_eq] at h ⊢
 obtain ⟨⟨⟨⟨⟨⟨⟨⟨h1, h2⟩, h3⟩, h4⟩, h5⟩, h6⟩, h7⟩, h8⟩, h9⟩ := h
 have e1 := List.length_filter_le f r.pairs
 have e2 := List.length_filter_le g r.loads
 have e3 := List.length_filter_le k r.caps
 have all : ∀ {α : Type} {p q : α → Bool} {l : List α}, l.all p = true → (l.filter q).all p = true := fun {α p q l} h => List.all_eq_true.2 fun x hx => List.all_eq_true.1 h x (List.mem_filter.1 hx).1
 exact ⟨⟨⟨⟨⟨⟨⟨⟨by omega, all h2⟩, incF_filter cmp5 R5.nums cmp5_less f h3⟩, by omega⟩, all h5⟩, incF_filter cmp5 R5.nums cmp5_less g h6⟩, by omega⟩, all h8⟩, incF_filter cmp4 R4.nums cmp4_less k h9⟩
def chGood (c : Int) : Bool := decide (2 ≤ c) && decide (c ≤ 51)
def goodD (d : Dom) : Bool := stF d.st && d.chs.all chGood && incF cmpF d.chs
def validD (ds : List Dom) (r : Rul) : Bool := ds.all goodD && rulesF r && incF (fun x y => cmpF x.st y.st) ds
def validP (ds : List Dom) (r : Rul) : Bool := validD ds r && (r.pairs.all (fun x => hasS (stS (ds.map Dom.st)) x.a && hasS (stS (ds.map Dom.st)) x.b) && (r.loads.all (fun x => hasS (stS (ds.map Dom.st)) x.a && hasS (stS (ds.map Dom.st)) x.b) && r.caps.all (fun x => hasS (stS (ds.map Dom.st)) x.a)))
theorem cmpF_less (x y : Int) : decide (0 ≤ cmpF x y) = !lessL [x] [y] := by
 unfold cmpF
 by_cases h1 : x < y
 ·rw [if_pos h1]
  have : x ≠ y := by omega
  simp [lessL, this, h1]
 ·rw [if_neg h1]
  by_cases h2 : y < x
  ·rw [if_pos h2]
   have : x ≠ y := by omega
   simp [lessL, this, h1]
  ·rw [if_neg h2]
   have : x = y := by omega
   simp [lessL, this]
theorem less_one (x y : Int) : lessL [x] [y] = true ↔ x < y := by
 by_cases h : x = y
 ·simp [lessL, h]
 ·simp [lessL, h]
theorem inc_cmpF (l : List Int) : incF cmpF l = true ↔ l.Pairwise (· < ·) := by
 rw [incF_pair cmpF (fun x => [x]) cmpF_less]
 simp only [less_one]
theorem inc_st (l : List Dom) : incF (fun x y : Dom => cmpF x.st y.st) l = true ↔ l.Pairwise (fun x y => x.st < y.st) := by
 rw [incF_pair (fun x y : Dom => cmpF x.st y.st) (fun x => [x.st]) (fun x y => cmpF_less x.st y.st)]
 simp only [less_one]
theorem inc_len : ∀ (l : List Int) (a b : Int), a ≤ b + 1 → l.Pairwise (· < ·) → (∀ x ∈ l, a ≤ x ∧ x ≤ b) → (l.length : Int) ≤ b - a + 1 := by
 intro l
 induction l with
 | nil => intro a b h _ _; simp; omega
 | cons x r ih =>
  intro a b h hp hb
  obtain ⟨h1, h2⟩ := List.pairwise_cons.1 hp
  have hx := hb x (by simp)
  have := ih (x + 1) b (by omega) h2 (fun y hy => ⟨by have := h1 y hy; omega, (hb y (by simp [hy])).2⟩)
  simp only [List.length_cons]
  omega
theorem chIn_iff : ∀ (l : List Int) (p : Option Int), chIn p l = true ↔ (∀ x ∈ l, 2 ≤ x ∧ x ≤ 51 ∧ (∀ q, p = some q → q < x)) ∧ l.Pairwise (· < ·) := by
 intro l
 induction l with
 | nil => intro p; simp [chIn]
 | cons x r ih =>
  intro p
  rw [chIn]
  by_cases hb : x < 2 ∨ 51 < x ∨ notUp p x = true
  ·rw [if_pos hb]
   refine ⟨fun h => (by cases h), fun h => ?_⟩
   obtain ⟨h1, h2, h3⟩ := h.1 x (by simp)
   rcases hb with hb | hb | hb
   ·omega
   ·omega
   ·cases p with
    | none => cases hb
    | some q => have := h3 q rfl; simp [notUp] at hb; omega
  ·rw [if_neg hb, ih]
   have hx2 : ¬ x < 2 := fun h => hb (.inl h)
   have hx5 : ¬ 51 < x := fun h => hb (.inr (.inl h))
   have hxp : ∀ q, p = some q → q < x := by
    rintro q rfl
    have : ¬ notUp (some q) x = true := fun h => hb (.inr (.inr h))
    simp [notUp] at this
    exact this
   constructor
   ·rintro ⟨h1, h2⟩
    refine ⟨fun y hy => ?_, List.pairwise_cons.2 ⟨fun y hy => (h1 y hy).2.2 x rfl, h2⟩⟩
    rcases List.mem_cons.1 hy with rfl | hy
    ·exact ⟨by omega, by omega, hxp⟩
    ·obtain ⟨g1, g2, g3⟩ := h1 y hy
     exact ⟨g1, g2, fun q hq => Int.lt_trans (hxp q hq) (g3 x rfl)⟩
   ·rintro ⟨h1, h2⟩
    obtain ⟨h3, h4⟩ := List.pairwise_cons.1 h2
    refine ⟨fun y hy => ?_, h4⟩
    obtain ⟨g1, g2, _⟩ := h1 y (by simp [hy])
    exact ⟨g1, g2, fun q hq => (by cases hq; exact h3 y hy)⟩
theorem chIn_good (l : List Int) : chIn none l = (l.all chGood && incF cmpF l) := by
 rw [Bool.eq_iff_iff, chIn_iff, Bool.and_eq_true, inc_cmpF, List.all_eq_true]
 constructor
 ·rintro ⟨h1, h2⟩
  refine ⟨fun x hx => ?_, h2⟩
  obtain ⟨g1, g2, _⟩ := h1 x hx
  simp [chGood, g1, g2]
 ·rintro ⟨h1, h2⟩
  refine ⟨fun x hx => ?_, h2⟩
  have := h1 x hx
  simp only [chGood, Bool.and_eq_true, decide_eq_true_eq] at this
  exact ⟨this.1, this.2, fun q hq => (by cases hq)⟩
theorem chIn_len {l : List Int} (h : chIn none l = true) : l.length ≤ 50 := by
 obtain ⟨h1, h2⟩ := (chIn_iff l none).1 h
 have := inc_len l 2 51 (by omega) h2 (fun x hx => ⟨(h1 x hx).1, (h1 x hx).2.1⟩)
 omega
theorem domGo_iff : ∀ (l : List Dom) (p : Option Int), domGo p l = true ↔ (∀ d ∈ l, stF d.st = true ∧ (∀ q, p = some q → q < d.st) ∧ d.len ≤ 50 ∧ chIn none d.chs = true) ∧ l.Pairwise (fun x y => x.st < y.st) := by
 intro l
 induction l with
 | nil => intro p; simp [domGo]
 | cons d r ih =>
  intro p
  rw [domGo]
  by_cases hb : stF d.st = false ∨ notUp p d.st = true ∨ 50 < d.len
  ·rw [if_pos hb]
   refine ⟨fun h => (by cases h), fun h => ?_⟩
   obtain ⟨h1, h2, h3, _⟩ := h.1 d (by simp)
   rcases hb with hb | hb | hb
   ·rw [h1] at hb; cases hb
   ·cases p with
    | none => cases hb
    | some q => have := h2 q rfl; simp [notUp] at hb; omega
   ·omega
  ·rw [if_neg hb]
   have hs : stF d.st = true := by
    cases h : stF d.st with
    | true => rfl
    | false => exact absurd (.inl h) hb
   have hl : d.len ≤ 50 := by have : ¬ 50 < d.len := fun h => hb (.inr (.inr h)); omega
   have hxp : ∀ q, p = some q → q < d.st := by
    rintro q rfl
    have : ¬ notUp (some q) d.st = true := fun h => hb (.inr (.inl h))
    simp [notUp] at this
    exact this
   cases hc : chIn none d.chs with
   | false =>
    simp only [Bool.false_eq_true, if_false]
    refine ⟨fun h => (by cases h), fun h => ?_⟩
    have := (h.1 d (by simp)).2.2.2
    rw [hc] at this
    cases this
   | true =>
    simp only [if_true]
    rw [ih]
    constructor
    ·rintro ⟨h1, h2⟩
     refine ⟨fun y hy => ?_, List.pairwise_cons.2 ⟨fun y hy => (h1 y hy).2.1 d.st rfl, h2⟩⟩
     rcases List.mem_cons.1 hy with rfl | hy
     ·exact ⟨hs, hxp, hl, hc⟩
     ·obtain ⟨g1, g2, g3, g4⟩ := h1 y hy
      exact ⟨g1, fun q hq => Int.lt_trans (hxp q hq) (g2 d.st rfl), g3, g4⟩
    ·rintro ⟨h1, h2⟩
     obtain ⟨h3, h4⟩ := List.pairwise_cons.1 h2
     refine ⟨fun y hy => ?_, h4⟩
     obtain ⟨g1, _, g3, g4⟩ := h1 y (by simp [hy])
     exact ⟨g1, fun q hq => (by cases hq; exact h3 y hy), g3, g4⟩
theorem domGo_good {l : List Dom} (hl : ∀ d ∈ l, d.len = d.chs.length) : domGo none l = (l.all goodD && incF (fun x y => cmpF x.st y.st) l) := by
 rw [Bool.eq_iff_iff, domGo_iff, Bool.and_eq_true, inc_st, List.all_eq_true]
 constructor
 ·rintro ⟨h1, h2⟩
  refine ⟨fun d hd => ?_, h2⟩
  obtain ⟨g1, _, _, g4⟩ := h1 d hd
  rw [chIn_good, Bool.and_eq_true] at g4
  simp [goodD, g1, g4.1, g4.2]
 ·rintro ⟨h1, h2⟩
  refine ⟨fun d hd => ?_, h2⟩
  have := h1 d hd
  simp only [goodD, Bool.and_eq_true] at this
  have hc : chIn none d.chs = true := by rw [chIn_good, this.1.2, this.2]; rfl
  exact ⟨this.1.1, fun q hq => (by cases hq), by rw [hl d hd]; exact chIn_len hc, hc⟩
theorem st_range {n : Int} (h : stF n = true) : 0 ≤ n ∧ n < 512 := by
 simp only [stF, Bool.and_eq_true, decide_eq_true_eq] at h
 omega
theorem domGo_len {l : List Dom} (h : domGo none l = true) : l.length ≤ 512 := by
 obtain ⟨h1, h2⟩ := (domGo_iff l none).1 h
 have h3 := inc_len (l.map Dom.st) 0 511 (by omega) (List.pairwise_map.2 h2) (fun x hx => by
  obtain ⟨d, hd, rfl⟩ := List.mem_map.1 hx
  have := st_range (h1 d hd).1
  omega)
 simp at h3
 omega
theorem domGo_st {l : List Dom} (h : domGo none l = true) : ∀ y ∈ l.map Dom.st, 0 ≤ y ∧ y < 512 := fun y hy => by
 obtain ⟨d, hd, rfl⟩ := List.mem_map.1 hy
 exact st_range (((domGo_iff l none).1 h).1 d hd).1
theorem goodCh_any (c : Int) (w : World) : Calls Tryd.prog 83 #[.int .i64 c] w fun e w' => e = .returned (.bool (chGood c)) ∧ w = w' := by
 have HB := Lib.hid (betw_any c 2 51 w)
 have hs : betwF c 2 51 = chGood c := rfl
 rw [hs] at HB
 generalize chGood c = r at *
 clear hs
 go_enter Tryd.func83, Tryd.ntmps83
 go_wp2_with fail
 refine HB.out.mono ?_
 rintro e w' ⟨rfl, rfl⟩
 go_wp2_with fail
 go_ret
 exact ⟨rfl, rfl⟩
theorem everyCh_any (A : Option Addr) (n c : Nat) (w : World) (l : List Int) (hn : n ≤ 9223372036854775807) (hl : Row1 intV w w.heap.size A n l) :
  Calls Tryd.prog 63 #[.slice A n c, .func (.func 83) #[] #[]] w fun e w' => e = .returned (.bool (l.all chGood)) ∧ w = w' := by
 have Hl := Lib.hid hl
 have Hlen := Eqn.mk hl.1
 have HG := Lib.hid (fun x W => goodCh_any x W)
 clear hl
 go_enter Tryd.func63, Tryd.ntmps63
 go_wp2_with fail
 go_loopw [9] (fun i wr => ∃ k : Nat, k ≤ n ∧ i = .int .i64 k ∧ Eqn (l.all chGood) ((l.drop k).all chGood) ∧ w = wr) (fun i _ => n - (intOf i).toNat)
 case atStart => exact ⟨0, Nat.zero_le _, rfl, rfl, rfl⟩
 case round =>
  obtain ⟨k, hk, rfl, HR, rfl⟩ := hrel
  by_cases hlt : k < n
  ·obtain ⟨p, hp, hpd⟩ := drop_at (xs := l) (k := k) (by rw [Hlen.out]; exact hlt)
   obtain ⟨b, off, hA, hbl, hc⟩ := Hl.out.2 (by omega)
   subst hA
   have c0 := hc k p hp
   simp only [intV] at c0
   have HR2 := HR.out
   rw [hpd, List.all_cons] at HR2
   have HGp := Lib.hid (HG.out p)
   have j0 : (k : Int) < (n : Int) := by omega
   generalize chGood p = r at *
   clear hc hp hpd HR
   go_wp2_with fail
   refine (HGp.out _).mono ?_
   rintro e w1 ⟨rfl, rfl⟩
   cases r with
   | true =>
    have HV : Eqn (l.all chGood) ((l.drop (k + 1)).all chGood) := by rw [Eqn, HR2]; rfl
    clear HR2
    go_wp2_with fail
    go_roundw
    case rel => exact ⟨k + 1, by omega, by go_num, HV, trivial⟩
    case measure => simp [intOf]; omega
   | false =>
    have HV : Eqn (l.all chGood) false := by rw [Eqn, HR2]; rfl
    clear HR2
    go_wp2_with fail
    go_ret
    exact ⟨ret_bool HV.out.symm, rfl⟩
  ·have HV : Eqn (l.all chGood) true := by rw [Eqn, HR.out, drop_end (by rw [Hlen.out]; omega)]; rfl
   clear HR
   go_wp2_with fail
   go_ret
   exact ⟨ret_bool HV.out.symm, rfl⟩
theorem everySt_any (A : Option Addr) (n c : Nat) (w : World) (l : List Int) (hn : n ≤ 9223372036854775807) (hl : Row1 intV w w.heap.size A n l) :
  Calls Tryd.prog 63 #[.slice A n c, .func (.func 51) #[] #[]] w fun e w' => e = .returned (.bool (l.all stF)) ∧ w = w' := by
 have Hl := Lib.hid hl
 have Hlen := Eqn.mk hl.1
 have HG := Lib.hid (fun x W => isSt_any x W)
 clear hl
 go_enter Tryd.func63, Tryd.ntmps63
 go_wp2_with fail
 go_loopw [9] (fun i wr => ∃ k : Nat, k ≤ n ∧ i = .int .i64 k ∧ Eqn (l.all stF) ((l.drop k).all stF) ∧ w = wr) (fun i _ => n - (intOf i).toNat)
 case atStart => exact ⟨0, Nat.zero_le _, rfl, rfl, rfl⟩
 case round =>
  obtain ⟨k, hk, rfl, HR, rfl⟩ := hrel
  by_cases hlt : k < n
  ·obtain ⟨p, hp, hpd⟩ := drop_at (xs := l) (k := k) (by rw [Hlen.out]; exact hlt)
   obtain ⟨b, off, hA, hbl, hc⟩ := Hl.out.2 (by omega)
   subst hA
   have c0 := hc k p hp
   simp only [intV] at c0
   have HR2 := HR.out
   rw [hpd, List.all_cons] at HR2
   have HGp := Lib.hid (HG.out p)
   have j0 : (k : Int) < (n : Int) := by omega
   generalize stF p = r at *
   clear hc hp hpd HR
   go_wp2_with fail
   refine (HGp.out _).mono ?_
   rintro e w1 ⟨rfl, rfl⟩
   cases r with
   | true =>
    have HV : Eqn (l.all stF) ((l.drop (k + 1)).all stF) := by rw [Eqn, HR2]; rfl
    clear HR2
    go_wp2_with fail
    go_roundw
    case rel => exact ⟨k + 1, by omega, by go_num, HV, trivial⟩
    case measure => simp [intOf]; omega
   | false =>
    have HV : Eqn (l.all stF) false := by rw [Eqn, HR2]; rfl
    clear HR2
    go_wp2_with fail
    go_ret
    exact ⟨ret_bool HV.out.symm, rfl⟩
  ·have HV : Eqn (l.all stF) true := by rw [Eqn, HR.out, drop_end (by rw [Hlen.out]; omega)]; rfl
   clear HR
   go_wp2_with fail
   go_ret
   exact ⟨ret_bool HV.out.symm, rfl⟩
theorem incI_any (A : Option Addr) (n c : Nat) (w : World) (l : List Int) (hn : n ≤ 9223372036854775807) (hl : Row1 intV w w.heap.size A n l) :
  Calls Tryd.prog 64 #[.slice A n c, .func (.func 65) #[] #[]] w (RetPost (.bool (incF cmpF l)) w.heap.size w) := by
 have Hl := Lib.hid hl
 have Hlen := Eqn.mk hl.1
 clear hl
 go_enter Tryd.func64, Tryd.ntmps64
 go_wp2_with fail
 go_loopw [5] (fun i wr => ∃ k : Nat, (k + 1 ≤ n ∨ k = 0) ∧ i = .int .i64 ((k + 1 : Nat) : Int) ∧ Eqn (incF cmpF l) (incF cmpF (l.drop k)) ∧ Below w.heap.size w wr) (fun i _ => n + 1 - (intOf i).toNat)
 case atStart => exact ⟨0, .inr rfl, rfl, rfl, Below.refl _ _⟩
 case round =>
  obtain ⟨k, hk, rfl, HR, hB⟩ := hrel
  have HB := Lib.hid hB
  have hbs := hB.size
  by_cases hlt : k + 1 < n
  ·obtain ⟨p, hp, hpd⟩ := drop_at (xs := l) (k := k) (by rw [Hlen.out]; omega)
   obtain ⟨q, hq, hqd⟩ := drop_at (xs := l) (k := k + 1) (by rw [Hlen.out]; exact hlt)
   obtain ⟨b, off, hA, hbl, hc⟩ := (Hl.out.below hB).2 (by omega)
   subst hA
   have c0 := hc k _ hp
   have d0 := hc (k + 1) _ hq
   simp only [intV] at c0 d0
   have HG := Lib.hid (fun W => compare_any p q W)
   have HR2 := HR.out
   rw [hpd, hqd, incF_cons, ← hqd] at HR2
   have hbw : b < wr.heap.size := by omega
   obtain ⟨ki, hki⟩ : ∃ ki : Int, ((k + 1 : Nat) : Int) = ki := ⟨_, rfl⟩
   rw [hki]
   have j0 : ki < (n : Int) := by omega
   have j1 : 1 ≤ ki := by omega
   have e1 : IntKind.i64.wrap (ki - 1) = (k : Int) := by rw [IntWalk.i64_in _ (by omega)]; omega
   have e2 : ki.toNat = k + 1 := by omega
   have e3 : (ki - 1).toNat = k := by omega
   have e4 : 0 ≤ ki - 1 := by omega
   have e5 : ki - 1 < (n : Int) := by omega
   have e6 : (k : Int) < (n : Int) := by omega
   have e7 : (0 : Int) ≤ (k : Int) := by omega
   have e8 : 0 ≤ ki := by omega
   have HKI := Lib.hid hki
   generalize cmpF p q = r at *
   clear hc hp hpd hq hqd HR hB hki
   by_cases hr : 0 ≤ r
   ·have HV := Eqn.mk (HR2.trans (if_pos hr))
    clear HR2
    go_wp2_with fail
    refine Lx.region (C := fun _ => True) (hs := []) (by kernel_rfl) (by kernel_rfl) trivial ?_
    repeat' (first | ((first | refine Lx.ln (fun K hK => ?_) | (first | (refine Lx.lp (v := ?_) ?_ (fun K hK => ?_); rotate_left 1; intro w' hCw; try dsimp only at hCw) | (refine Lx.lr (v := ?_) ?_ (fun K hK => ?_); rotate_left 1)); go_simp; first | done | with_reducible rfl); go_simp; refine hK _ ?_; clear hK K) | (refine Lx.le (fun K hK => ?_); go_simp; (first | (go_at_call 65; refine (HG.out _).mono ?_; rintro e w1 ⟨rfl, rfl⟩; have HB3 := Lib.hid HB.out.drew)); refine hK _ _ (trivial) ?_; clear hK K))
    all_goals (refine Lx.lex_nil ?_)
    go_wp2_with fail
    go_ret
    exact ⟨ret_bool HV.out.symm, HB3.out⟩
   ·have HV := Eqn.mk (HR2.trans (if_neg hr))
    clear HR2
    go_wp2_with fail
    refine Lx.region (C := fun _ => True) (hs := []) (by kernel_rfl) (by kernel_rfl) trivial ?_
    repeat' (first | ((first | refine Lx.ln (fun K hK => ?_) | (first | (refine Lx.lp (v := ?_) ?_ (fun K hK => ?_); rotate_left 1; intro w' hCw; try dsimp only at hCw) | (refine Lx.lr (v := ?_) ?_ (fun K hK => ?_); rotate_left 1)); go_simp; first | done | with_reducible rfl); go_simp; refine hK _ ?_; clear hK K) | (refine Lx.le (fun K hK => ?_); go_simp; (first | (go_at_call 65; refine (HG.out _).mono ?_; rintro e w1 ⟨rfl, rfl⟩; have HB3 := Lib.hid HB.out.drew)); refine hK _ _ (trivial) ?_; clear hK K))
    all_goals (refine Lx.lex_nil ?_)
    go_wp2_with fail
    clear e1 e2 e3 e4 e5
    go_roundw
    case rel => exact ⟨k + 1, .inl (by omega), by rw [← HKI.out]; go_num, HV, HB3.out⟩
    case measure => rw [← HKI.out]; simp [intOf]; omega
  ·have HV : Eqn (incF cmpF l) true := by
    rw [Eqn, HR.out]
    by_cases h0 : k < l.length
    ·obtain ⟨p, hp, hpd⟩ := drop_at (xs := l) (k := k) h0
     have hl2 := Hlen.out
     rw [hpd, drop_end (by omega)]; rfl
    ·rw [drop_end (by omega)]; rfl
   have j0 : ¬ ((k + 1 : Nat) : Int) < (n : Int) := by omega
   clear HR hB
   go_wp2_with fail
   go_ret
   exact ⟨ret_bool HV.out.symm, HB.out⟩
theorem goodD_any (d : Dom) (w : World) (hn : d.len ≤ 9223372036854775807) (hr : Row1 intV w w.heap.size d.adr d.len d.chs) : Calls Tryd.prog 68 #[d.val] w (RetPost (.bool (goodD d)) w.heap.size w) := by
 obtain ⟨st, adr, len, cap, chs⟩ := d
 dsimp only at hn hr
 obtain ⟨W0, hW0⟩ : ∃ W0, W0 = w.alloc (.cells #[.int .i64 st, .slice adr len cap] 70) := ⟨_, rfl⟩
 have hB0 : Below w.heap.size w W0 := by rw [hW0]; exact (Below.refl _ w).alloc (Nat.le_refl _) _
 have z0 : W0.cell? ⟨w.heap.size, 0, none⟩ = some (.int .i64 st) := by rw [hW0]; simp [go_sem]
 have z1 : W0.cell? ⟨w.heap.size, 1, none⟩ = some (.slice adr len cap) := by rw [hW0]; simp [go_sem]
 have HST := Lib.hid (isSt_any st W0)
 have HEV := Lib.hid (everyCh_any adr len cap W0 chs hn (hr.keep hB0))
 have HIN := Lib.hid (incI_any adr len cap W0 chs hn (hr.keep hB0))
 have HB0 := Lib.hid hB0
 unfold Dom.val goodD
 dsimp only
 generalize stF st = t0 at *
 generalize chs.all chGood = t1 at *
 generalize incF cmpF chs = t2 at *
 clear hr hB0
 go_enter Tryd.func68, Tryd.ntmps68
 go_wp2_with fail
 rw [← hW0]
 clear hW0
 refine HST.out.mono ?_
 rintro e w1 ⟨rfl, rfl⟩
 cases t0 with
 | false =>
  go_wp2_with fail
  go_ret
  exact ⟨rfl, HB0.out⟩
 | true =>
  go_wp2_with fail
  refine HEV.out.mono ?_
  rintro e w1 ⟨rfl, rfl⟩
  cases t1 with
  | false =>
   go_wp2_with fail
   go_ret
   exact ⟨rfl, HB0.out⟩
  | true =>
   go_wp2_with fail
   refine HIN.out.mono ?_
   rintro e w1 ⟨rfl, hb1⟩
   have HB1 := Lib.hid (HB0.out.trans (hb1.mono HB0.out.size))
   clear hb1
   go_wp2_with fail
   go_ret
   exact ⟨rfl, HB1.out⟩
theorem everyD_any (A : Option Addr) (n c : Nat) (w : World) (l : List Dom) (hd : ∀ d ∈ l, d.len ≤ 9223372036854775807) (hn : n ≤ 9223372036854775807) (hl : DomsAt w w.heap.size A n l) :
  Calls Tryd.prog 67 #[.slice A n c, .func (.func 68) #[] #[]] w (RetPost (.bool (l.all goodD)) w.heap.size w) := by
 have Hl := Lib.hid hl
 have Hlen := Eqn.mk hl.1.1
 skip
 clear hl
 go_enter Tryd.func67, Tryd.ntmps67
 go_wp2_with fail
 go_loopw [9] (fun i wr => ∃ k : Nat, k ≤ n ∧ i = .int .i64 k ∧ Eqn (l.all goodD) ((l.drop k).all goodD) ∧ Below w.heap.size w wr) (fun i _ => n - (intOf i).toNat)
 case atStart => exact ⟨0, Nat.zero_le _, rfl, rfl, Below.refl _ _⟩
 case round =>
  obtain ⟨k, hk, rfl, HR, hB⟩ := hrel
  have HB := Lib.hid hB
  have hbs := hB.size
  by_cases hlt : k < n
  ·obtain ⟨p, hp, hpd⟩ := drop_at (xs := l) (k := k) (by rw [Hlen.out]; exact hlt)
   obtain ⟨b, off, hA, hbl, hc⟩ := (Hl.out.1.below hB).2 (by omega)
   have hrow := ((Hl.out.2 p (List.mem_of_getElem? hp)).below hB).up hbs
   subst hA
   obtain ⟨st, adr, len, cap, chs⟩ := p
   have c0 := hc k _ hp 0 (by omega)
   have c1 := hc k _ hp 1 (by omega)
   simp only [Dom.cell, Nat.add_zero] at c0 c1
   have HG : Hid (∀ W, Below wr.heap.size wr W → Calls Tryd.prog 68 #[.agg #[.int .i64 st, .slice adr len cap]] W (RetPost (.bool (goodD ⟨st, adr, len, cap, chs⟩)) W.heap.size W)) := Lib.hid (fun W hW => goodD_any ⟨st, adr, len, cap, chs⟩ W (hd _ (List.mem_of_getElem? hp)) (hrow.keep hW))
   have HR2 := HR.out
   rw [hpd, List.all_cons] at HR2
   try dsimp only at HG
   have hbw : b < wr.heap.size := by omega
   have j0 : (k : Int) < (n : Int) := by omega
   have HB2 := Lib.hid (hB.alloc hbs (.cells #[.int .i64 st, .slice adr len cap] 70))
   generalize goodD ⟨st, adr, len, cap, chs⟩ = r at *
   clear hc hp hpd HR hB
   go_wp2_with fail
   refine (HG.out _ ((Below.refl _ _).alloc (Nat.le_refl _) _)).mono ?_
   rintro e w1 ⟨rfl, hb1⟩
   have HB3 := Lib.hid (HB2.out.trans (hb1.mono HB2.out.size))
   clear hb1
   cases r with
   | true =>
    have HV : Eqn (l.all goodD) ((l.drop (k + 1)).all goodD) := by rw [Eqn, HR2]; rfl
    clear HR2
    go_wp2_with fail
    go_roundw
    case rel => exact ⟨k + 1, by omega, by go_num, HV, HB3.out⟩
    case measure => simp [intOf]; omega
   | false =>
    have HV : Eqn (l.all goodD) false := by rw [Eqn, HR2]; rfl
    clear HR2
    go_wp2_with fail
    go_ret
    exact ⟨ret_bool HV.out.symm, HB3.out⟩
  ·have HV : Eqn (l.all goodD) true := by rw [Eqn, HR.out, drop_end (by rw [Hlen.out]; omega)]; rfl
   clear HR hB
   go_wp2_with fail
   go_ret
   exact ⟨ret_bool HV.out.symm, HB.out⟩
theorem bySt_any (x y : Dom) (w : World) : Calls Tryd.prog 70 #[x.val, y.val] w (RetPost (.int .i64 (cmpF x.st y.st)) w.heap.size w) := by
 obtain ⟨a, a1, a2, a3, a4⟩ := x
 obtain ⟨b, b1, b2, b3, b4⟩ := y
 have HC := Lib.hid (fun W => compare_any a b W)
 have HB : Hid (Below w.heap.size w ((w.alloc (.cells #[.int .i64 a, .slice a1 a2 a3] 70)).alloc (.cells #[.int .i64 b, .slice b1 b2 b3] 70))) := Lib.hid (((Below.refl _ w).alloc (Nat.le_refl _) _).alloc (by simp) _)
 unfold Dom.val
 dsimp only
 generalize cmpF a b = r at *
 go_enter Tryd.func70, Tryd.ntmps70
 go_wp2_with fail
 refine (HC.out _).mono ?_
 rintro e w1 ⟨rfl, rfl⟩
 go_wp2_with fail
 go_ret
 exact ⟨rfl, HB.out⟩
theorem incD_any (A : Option Addr) (n c : Nat) (w : World) (l : List Dom) (hn : n ≤ 9223372036854775807) (hl : RowS 2 Dom.cell w w.heap.size A n l) :
  Calls Tryd.prog 71 #[.slice A n c, .func (.func 70) #[] #[]] w (RetPost (.bool (incF (fun x y => cmpF x.st y.st) l)) w.heap.size w) := by
 have Hl := Lib.hid hl
 have Hlen := Eqn.mk hl.1
 clear hl
 go_enter Tryd.func71, Tryd.ntmps71
 go_wp2_with fail
 go_loopw [5] (fun i wr => ∃ k : Nat, (k + 1 ≤ n ∨ k = 0) ∧ i = .int .i64 ((k + 1 : Nat) : Int) ∧ Eqn (incF (fun x y => cmpF x.st y.st) l) (incF (fun x y => cmpF x.st y.st) (l.drop k)) ∧ Below w.heap.size w wr) (fun i _ => n + 1 - (intOf i).toNat)
 case atStart => exact ⟨0, .inr rfl, rfl, rfl, Below.refl _ _⟩
 case round =>
  obtain ⟨k, hk, rfl, HR, hB⟩ := hrel
  have HB := Lib.hid hB
  have hbs := hB.size
  by_cases hlt : k + 1 < n
  ·obtain ⟨p, hp, hpd⟩ := drop_at (xs := l) (k := k) (by rw [Hlen.out]; omega)
   obtain ⟨q, hq, hqd⟩ := drop_at (xs := l) (k := k + 1) (by rw [Hlen.out]; exact hlt)
   obtain ⟨b, off, hA, hbl, hc⟩ := (Hl.out.below hB).2 (by omega)
   subst hA
   obtain ⟨p0, p1, p2, p3, p4⟩ := p
   obtain ⟨q0, q1, q2, q3, q4⟩ := q
   have c0 := hc k _ hp 0 (by omega)
   have c1 := hc k _ hp 1 (by omega)
   have d0 := hc (k + 1) _ hq 0 (by omega)
   have d1 := hc (k + 1) _ hq 1 (by omega)
   simp only [Dom.cell, Nat.add_zero] at c0 c1 d0 d1
   have HG := Lib.hid (fun W => bySt_any ⟨p0, p1, p2, p3, p4⟩ ⟨q0, q1, q2, q3, q4⟩ W)
   have HR2 := HR.out
   rw [hpd, hqd, incF_cons, ← hqd] at HR2
   unfold Dom.val at HG
   dsimp only at HG HR2
   have hbw : b < wr.heap.size := by omega
   obtain ⟨ki, hki⟩ : ∃ ki : Int, ((k + 1 : Nat) : Int) = ki := ⟨_, rfl⟩
   rw [hki]
   have j0 : ki < (n : Int) := by omega
   have j1 : 1 ≤ ki := by omega
   have e1 : IntKind.i64.wrap (ki - 1) = (k : Int) := by rw [IntWalk.i64_in _ (by omega)]; omega
   have e2 : ki.toNat = k + 1 := by omega
   have e3 : (ki - 1).toNat = k := by omega
   have e4 : 0 ≤ ki - 1 := by omega
   have e5 : ki - 1 < (n : Int) := by omega
   have e6 : (k : Int) < (n : Int) := by omega
   have e7 : (0 : Int) ≤ (k : Int) := by omega
   have e8 : 0 ≤ ki := by omega
   have HKI := Lib.hid hki
   generalize cmpF p0 q0 = r at *
   clear hc hp hpd hq hqd HR hB hki
   by_cases hr : 0 ≤ r
   ·have HV := Eqn.mk (HR2.trans (if_pos hr))
    clear HR2
    go_wp2_with fail
    refine Lx.region (C := fun _ => True) (hs := []) (by kernel_rfl) (by kernel_rfl) trivial ?_
    repeat' (first | ((first | refine Lx.ln (fun K hK => ?_) | (first | (refine Lx.lp (v := ?_) ?_ (fun K hK => ?_); rotate_left 1; intro w' hCw; try dsimp only at hCw) | (refine Lx.lr (v := ?_) ?_ (fun K hK => ?_); rotate_left 1)); go_simp; first | done | with_reducible rfl); go_simp; refine hK _ ?_; clear hK K) | (refine Lx.le (fun K hK => ?_); go_simp; (first | (go_at_call 70; refine (HG.out _).mono ?_; rintro e w1 ⟨rfl, hb1⟩; have HB3 := Lib.hid (HB.out.drew.trans (hb1.mono (by exact hbs))); clear hb1)); refine hK _ _ (trivial) ?_; clear hK K))
    all_goals (refine Lx.lex_nil ?_)
    go_wp2_with fail
    go_ret
    exact ⟨ret_bool HV.out.symm, HB3.out⟩
   ·have HV := Eqn.mk (HR2.trans (if_neg hr))
    clear HR2
    go_wp2_with fail
    refine Lx.region (C := fun _ => True) (hs := []) (by kernel_rfl) (by kernel_rfl) trivial ?_
    repeat' (first | ((first | refine Lx.ln (fun K hK => ?_) | (first | (refine Lx.lp (v := ?_) ?_ (fun K hK => ?_); rotate_left 1; intro w' hCw; try dsimp only at hCw) | (refine Lx.lr (v := ?_) ?_ (fun K hK => ?_); rotate_left 1)); go_simp; first | done | with_reducible rfl); go_simp; refine hK _ ?_; clear hK K) | (refine Lx.le (fun K hK => ?_); go_simp; (first | (go_at_call 70; refine (HG.out _).mono ?_; rintro e w1 ⟨rfl, hb1⟩; have HB3 := Lib.hid (HB.out.drew.trans (hb1.mono (by exact hbs))); clear hb1)); refine hK _ _ (trivial) ?_; clear hK K))
    all_goals (refine Lx.lex_nil ?_)
    go_wp2_with fail
    clear e1 e2 e3 e4 e5
    go_roundw
    case rel => exact ⟨k + 1, .inl (by omega), by rw [← HKI.out]; go_num, HV, HB3.out⟩
    case measure => rw [← HKI.out]; simp [intOf]; omega
  ·have HV : Eqn (incF (fun x y : Dom => cmpF x.st y.st) l) true := by
    rw [Eqn, HR.out]
    by_cases h0 : k < l.length
    ·obtain ⟨p, hp, hpd⟩ := drop_at (xs := l) (k := k) h0
     have hl2 := Hlen.out
     rw [hpd, drop_end (by omega)]; rfl
    ·rw [drop_end (by omega)]; rfl
   have j0 : ¬ ((k + 1 : Nat) : Int) < (n : Int) := by omega
   clear HR hB
   go_wp2_with fail
   go_ret
   exact ⟨ret_bool HV.out.symm, HB.out⟩
theorem cloPair_any (x : R5) (g S : Nat) (w : World) (h : Blk w g 36 (tabL 8 (sC S))) : Calls Tryd.prog 73 #[x.val, .pointer (some ⟨g, 0, none⟩)] w (RetPost (.bool (hasS S x.a && hasS S x.b)) w.heap.size w) := by
 obtain ⟨x0, x1, x2, x3, x4⟩ := x
 obtain ⟨W0, hW0⟩ : ∃ W0, W0 = w.alloc (.cells #[.int .i64 x0, .int .i64 x1, .int .i64 x2, .int .i64 x3, .int .i64 x4] 109) := ⟨_, rfl⟩
 have hB0 : Below w.heap.size w W0 := by rw [hW0]; exact (Below.refl _ w).alloc (Nat.le_refl _) _
 have hx : Blk W0 w.heap.size 109 [.int .i64 x0, .int .i64 x1, .int .i64 x2, .int .i64 x3, .int .i64 x4] := by rw [hW0]; exact blk_new w _ _
 have HX := Lib.hid hx
 have HS := Lib.hid (h.keep hB0)
 have z0 : W0.cell? ⟨w.heap.size, 0, none⟩ = some (.int .i64 x0) := hx.cell rfl
 have zl := hx.lt
 have HHA := Lib.hid (fun W => has_any S x0 W)
 have HHB := Lib.hid (fun W => has_any S x1 W)
 have HB0 := Lib.hid hB0
 obtain ⟨q0, q1, q2, q3, q4, q5, q6, q7⟩ := HS.out.eight
 have ql := HS.out.lt
 unfold R5.val
 unfold sV at HHA HHB
 dsimp only
 generalize hasS S x0 = b0 at *
 generalize hasS S x1 = b1 at *
 clear h hB0 hx
 go_enter Tryd.func73, Tryd.ntmps73
 go_upto_region 1 with fail
 rw [← hW0]
 clear hW0
 go_wp2_with fail
 clear q0 q1 q2 q3 q4 q5 q6 q7
 refine (HHA.out _).mono ?_
 rintro e W1 ⟨rfl, hb1⟩
 have HB1 := Lib.hid (HB0.out.trans (hb1.mono HB0.out.size))
 have hS1 := HS.out.keep hb1
 obtain ⟨q0, q1, q2, q3, q4, q5, q6, q7⟩ := hS1.eight
 have ql1 := hS1.lt
 have z1 : W1.cell? ⟨w.heap.size, 1, none⟩ = some (.int .i64 x1) := (HX.out.keep hb1).cell rfl
 have zl1 := (HX.out.keep hb1).lt
 clear hb1 hS1
 cases b0 with
 | false =>
  go_wp2_with fail
  go_ret
  exact ⟨rfl, HB1.out⟩
 | true =>
  go_wp2_with fail
  clear q0 q1 q2 q3 q4 q5 q6 q7
  refine (HHB.out _).mono ?_
  rintro e W2 ⟨rfl, hb2⟩
  have HB2 := Lib.hid (HB1.out.trans (hb2.mono HB1.out.size))
  clear hb2
  go_wp2_with fail
  go_ret
  exact ⟨rfl, HB2.out⟩
theorem everySPair_any (A : Option Addr) (n c : Nat) (w : World) (l : List R5) (g S : Nat) (hs : Blk w g 36 (tabL 8 (sC S))) (hn : n ≤ 9223372036854775807) (hl : RowS 5 R5.cell w w.heap.size A n l) :
  Calls Tryd.prog 72 #[.slice A n c, .func (.func 73) #[] #[.pointer (some ⟨g, 0, none⟩)]] w (RetPost (.bool (l.all (fun x => hasS S x.a && hasS S x.b))) w.heap.size w) := by
 have Hl := Lib.hid hl
 have Hlen := Eqn.mk hl.1
 have HS := Lib.hid hs
 clear hl hs
 go_enter Tryd.func72, Tryd.ntmps72
 go_wp2_with fail
 go_loopw [9] (fun i wr => ∃ k : Nat, k ≤ n ∧ i = .int .i64 k ∧ Eqn (l.all (fun x => hasS S x.a && hasS S x.b)) ((l.drop k).all (fun x => hasS S x.a && hasS S x.b)) ∧ Below w.heap.size w wr) (fun i _ => n - (intOf i).toNat)
 case atStart => exact ⟨0, Nat.zero_le _, rfl, rfl, Below.refl _ _⟩
 case round =>
  obtain ⟨k, hk, rfl, HR, hB⟩ := hrel
  have HB := Lib.hid hB
  have hbs := hB.size
  by_cases hlt : k < n
  ·obtain ⟨p, hp, hpd⟩ := drop_at (xs := l) (k := k) (by rw [Hlen.out]; exact hlt)
   obtain ⟨b, off, hA, hbl, hc⟩ := (Hl.out.below hB).2 (by omega)
   skip
   subst hA
   obtain ⟨p0, p1, p2, p3, p4⟩ := p
   have c0 := hc k _ hp 0 (by omega)
   have c1 := hc k _ hp 1 (by omega)
   have c2 := hc k _ hp 2 (by omega)
   have c3 := hc k _ hp 3 (by omega)
   have c4 := hc k _ hp 4 (by omega)
   simp only [R5.cell, Nat.add_zero] at c0 c1 c2 c3 c4
   have HG : Hid (∀ W, Below wr.heap.size wr W → Calls Tryd.prog 73 #[.agg #[.int .i64 p0, .int .i64 p1, .int .i64 p2, .int .i64 p3, .int .i64 p4], .pointer (some ⟨g, 0, none⟩)] W (RetPost (.bool (hasS S p0 && hasS S p1)) W.heap.size W)) := Lib.hid (fun W hW => cloPair_any ⟨p0, p1, p2, p3, p4⟩ g S W ((HS.out.keep hB).keep hW))
   have HR2 := HR.out
   rw [hpd, List.all_cons] at HR2
   try dsimp only at HG
   have hbw : b < wr.heap.size := by omega
   have j0 : (k : Int) < (n : Int) := by omega
   have HB2 := Lib.hid (hB.alloc hbs (.cells #[.int .i64 p0, .int .i64 p1, .int .i64 p2, .int .i64 p3, .int .i64 p4] 109))
   dsimp only at HR2
   generalize (hasS S p0 && hasS S p1) = r at *
   clear hc hp hpd HR hB
   go_wp2_with fail
   refine (HG.out _ ((Below.refl _ _).alloc (Nat.le_refl _) _)).mono ?_
   rintro e w1 ⟨rfl, hb1⟩
   have HB3 := Lib.hid (HB2.out.trans (hb1.mono HB2.out.size))
   clear hb1
   cases r with
   | true =>
    have HV : Eqn (l.all (fun x => hasS S x.a && hasS S x.b)) ((l.drop (k + 1)).all (fun x => hasS S x.a && hasS S x.b)) := by rw [Eqn, HR2]; rfl
    clear HR2
    go_wp2_with fail
    go_roundw
    case rel => exact ⟨k + 1, by omega, by go_num, HV, HB3.out⟩
    case measure => simp [intOf]; omega
   | false =>
    have HV : Eqn (l.all (fun x => hasS S x.a && hasS S x.b)) false := by rw [Eqn, HR2]; rfl
    clear HR2
    go_wp2_with fail
    go_ret
    exact ⟨ret_bool HV.out.symm, HB3.out⟩
  ·have HV : Eqn (l.all (fun x => hasS S x.a && hasS S x.b)) true := by rw [Eqn, HR.out, drop_end (by rw [Hlen.out]; omega)]; rfl
   clear HR hB
   go_wp2_with fail
   go_ret
   exact ⟨ret_bool HV.out.symm, HB.out⟩
theorem cloLoad_any (x : R5) (g S : Nat) (w : World) (h : Blk w g 36 (tabL 8 (sC S))) : Calls Tryd.prog 75 #[x.val, .pointer (some ⟨g, 0, none⟩)] w (RetPost (.bool (hasS S x.a && hasS S x.b)) w.heap.size w) := by
 obtain ⟨x0, x1, x2, x3, x4⟩ := x
 obtain ⟨W0, hW0⟩ : ∃ W0, W0 = w.alloc (.cells #[.int .i64 x0, .int .i64 x1, .int .i64 x2, .int .i64 x3, .int .i64 x4] 129) := ⟨_, rfl⟩
 have hB0 : Below w.heap.size w W0 := by rw [hW0]; exact (Below.refl _ w).alloc (Nat.le_refl _) _
 have hx : Blk W0 w.heap.size 129 [.int .i64 x0, .int .i64 x1, .int .i64 x2, .int .i64 x3, .int .i64 x4] := by rw [hW0]; exact blk_new w _ _
 have HX := Lib.hid hx
 have HS := Lib.hid (h.keep hB0)
 have z0 : W0.cell? ⟨w.heap.size, 0, none⟩ = some (.int .i64 x0) := hx.cell rfl
 have zl := hx.lt
 have HHA := Lib.hid (fun W => has_any S x0 W)
 have HHB := Lib.hid (fun W => has_any S x1 W)
 have HB0 := Lib.hid hB0
 obtain ⟨q0, q1, q2, q3, q4, q5, q6, q7⟩ := HS.out.eight
 have ql := HS.out.lt
 unfold R5.val
 unfold sV at HHA HHB
 dsimp only
 generalize hasS S x0 = b0 at *
 generalize hasS S x1 = b1 at *
 clear h hB0 hx
 go_enter Tryd.func75, Tryd.ntmps75
 go_upto_region 1 with fail
 rw [← hW0]
 clear hW0
 go_wp2_with fail
 clear q0 q1 q2 q3 q4 q5 q6 q7
 refine (HHA.out _).mono ?_
 rintro e W1 ⟨rfl, hb1⟩
 have HB1 := Lib.hid (HB0.out.trans (hb1.mono HB0.out.size))
 have hS1 := HS.out.keep hb1
 obtain ⟨q0, q1, q2, q3, q4, q5, q6, q7⟩ := hS1.eight
 have ql1 := hS1.lt
 have z1 : W1.cell? ⟨w.heap.size, 1, none⟩ = some (.int .i64 x1) := (HX.out.keep hb1).cell rfl
 have zl1 := (HX.out.keep hb1).lt
 clear hb1 hS1
 cases b0 with
 | false =>
  go_wp2_with fail
  go_ret
  exact ⟨rfl, HB1.out⟩
 | true =>
  go_wp2_with fail
  clear q0 q1 q2 q3 q4 q5 q6 q7
  refine (HHB.out _).mono ?_
  rintro e W2 ⟨rfl, hb2⟩
  have HB2 := Lib.hid (HB1.out.trans (hb2.mono HB1.out.size))
  clear hb2
  go_wp2_with fail
  go_ret
  exact ⟨rfl, HB2.out⟩
theorem everySLoad_any (A : Option Addr) (n c : Nat) (w : World) (l : List R5) (g S : Nat) (hs : Blk w g 36 (tabL 8 (sC S))) (hn : n ≤ 9223372036854775807) (hl : RowS 5 R5.cell w w.heap.size A n l) :
  Calls Tryd.prog 74 #[.slice A n c, .func (.func 75) #[] #[.pointer (some ⟨g, 0, none⟩)]] w (RetPost (.bool (l.all (fun x => hasS S x.a && hasS S x.b))) w.heap.size w) := by
 have Hl := Lib.hid hl
 have Hlen := Eqn.mk hl.1
 have HS := Lib.hid hs
 clear hl hs
 go_enter Tryd.func74, Tryd.ntmps74
 go_wp2_with fail
 go_loopw [9] (fun i wr => ∃ k : Nat, k ≤ n ∧ i = .int .i64 k ∧ Eqn (l.all (fun x => hasS S x.a && hasS S x.b)) ((l.drop k).all (fun x => hasS S x.a && hasS S x.b)) ∧ Below w.heap.size w wr) (fun i _ => n - (intOf i).toNat)
 case atStart => exact ⟨0, Nat.zero_le _, rfl, rfl, Below.refl _ _⟩
 case round =>
  obtain ⟨k, hk, rfl, HR, hB⟩ := hrel
  have HB := Lib.hid hB
  have hbs := hB.size
  by_cases hlt : k < n
  ·obtain ⟨p, hp, hpd⟩ := drop_at (xs := l) (k := k) (by rw [Hlen.out]; exact hlt)
   obtain ⟨b, off, hA, hbl, hc⟩ := (Hl.out.below hB).2 (by omega)
   skip
   subst hA
   obtain ⟨p0, p1, p2, p3, p4⟩ := p
   have c0 := hc k _ hp 0 (by omega)
   have c1 := hc k _ hp 1 (by omega)
   have c2 := hc k _ hp 2 (by omega)
   have c3 := hc k _ hp 3 (by omega)
   have c4 := hc k _ hp 4 (by omega)
   simp only [R5.cell, Nat.add_zero] at c0 c1 c2 c3 c4
   have HG : Hid (∀ W, Below wr.heap.size wr W → Calls Tryd.prog 75 #[.agg #[.int .i64 p0, .int .i64 p1, .int .i64 p2, .int .i64 p3, .int .i64 p4], .pointer (some ⟨g, 0, none⟩)] W (RetPost (.bool (hasS S p0 && hasS S p1)) W.heap.size W)) := Lib.hid (fun W hW => cloLoad_any ⟨p0, p1, p2, p3, p4⟩ g S W ((HS.out.keep hB).keep hW))
   have HR2 := HR.out
   rw [hpd, List.all_cons] at HR2
   try dsimp only at HG
   have hbw : b < wr.heap.size := by omega
   have j0 : (k : Int) < (n : Int) := by omega
   have HB2 := Lib.hid (hB.alloc hbs (.cells #[.int .i64 p0, .int .i64 p1, .int .i64 p2, .int .i64 p3, .int .i64 p4] 129))
   dsimp only at HR2
   generalize (hasS S p0 && hasS S p1) = r at *
   clear hc hp hpd HR hB
   go_wp2_with fail
   refine (HG.out _ ((Below.refl _ _).alloc (Nat.le_refl _) _)).mono ?_
   rintro e w1 ⟨rfl, hb1⟩
   have HB3 := Lib.hid (HB2.out.trans (hb1.mono HB2.out.size))
   clear hb1
   cases r with
   | true =>
    have HV : Eqn (l.all (fun x => hasS S x.a && hasS S x.b)) ((l.drop (k + 1)).all (fun x => hasS S x.a && hasS S x.b)) := by rw [Eqn, HR2]; rfl
    clear HR2
    go_wp2_with fail
    go_roundw
    case rel => exact ⟨k + 1, by omega, by go_num, HV, HB3.out⟩
    case measure => simp [intOf]; omega
   | false =>
    have HV : Eqn (l.all (fun x => hasS S x.a && hasS S x.b)) false := by rw [Eqn, HR2]; rfl
    clear HR2
    go_wp2_with fail
    go_ret
    exact ⟨ret_bool HV.out.symm, HB3.out⟩
  ·have HV : Eqn (l.all (fun x => hasS S x.a && hasS S x.b)) true := by rw [Eqn, HR.out, drop_end (by rw [Hlen.out]; omega)]; rfl
   clear HR hB
   go_wp2_with fail
   go_ret
   exact ⟨ret_bool HV.out.symm, HB.out⟩
theorem cloCap_any (x : R4) (g S : Nat) (w : World) (h : Blk w g 36 (tabL 8 (sC S))) : Calls Tryd.prog 77 #[x.val, .pointer (some ⟨g, 0, none⟩)] w (RetPost (.bool (hasS S x.a)) w.heap.size w) := by
 obtain ⟨x0, x1, x2, x3⟩ := x
 obtain ⟨W0, hW0⟩ : ∃ W0, W0 = w.alloc (.cells #[.int .i64 x0, .int .i64 x1, .int .i64 x2, .int .i64 x3] 131) := ⟨_, rfl⟩
 have hB0 : Below w.heap.size w W0 := by rw [hW0]; exact (Below.refl _ w).alloc (Nat.le_refl _) _
 have hx : Blk W0 w.heap.size 131 [.int .i64 x0, .int .i64 x1, .int .i64 x2, .int .i64 x3] := by rw [hW0]; exact blk_new w _ _
 have HX := Lib.hid hx
 have HS := Lib.hid (h.keep hB0)
 have z0 : W0.cell? ⟨w.heap.size, 0, none⟩ = some (.int .i64 x0) := hx.cell rfl
 have zl := hx.lt
 have HHA := Lib.hid (fun W => has_any S x0 W)
 have HHB := Lib.hid (fun W => has_any S x1 W)
 have HB0 := Lib.hid hB0
 obtain ⟨q0, q1, q2, q3, q4, q5, q6, q7⟩ := HS.out.eight
 have ql := HS.out.lt
 unfold R4.val
 unfold sV at HHA HHB
 dsimp only
 generalize hasS S x0 = b0 at *
 generalize hasS S x1 = b1 at *
 clear h hB0 hx
 go_enter Tryd.func77, Tryd.ntmps77
 go_upto_region 1 with fail
 rw [← hW0]
 clear hW0
 go_wp2_with fail
 clear q0 q1 q2 q3 q4 q5 q6 q7
 refine (HHA.out _).mono ?_
 rintro e W1 ⟨rfl, hb1⟩
 have HB1 := Lib.hid (HB0.out.trans (hb1.mono HB0.out.size))
 clear hb1
 go_wp2_with fail
 go_ret
 exact ⟨rfl, HB1.out⟩
theorem everySCap_any (A : Option Addr) (n c : Nat) (w : World) (l : List R4) (g S : Nat) (hs : Blk w g 36 (tabL 8 (sC S))) (hn : n ≤ 9223372036854775807) (hl : RowS 4 R4.cell w w.heap.size A n l) :
  Calls Tryd.prog 76 #[.slice A n c, .func (.func 77) #[] #[.pointer (some ⟨g, 0, none⟩)]] w (RetPost (.bool (l.all (fun x => hasS S x.a))) w.heap.size w) := by
 have Hl := Lib.hid hl
 have Hlen := Eqn.mk hl.1
 have HS := Lib.hid hs
 clear hl hs
 go_enter Tryd.func76, Tryd.ntmps76
 go_wp2_with fail
 go_loopw [9] (fun i wr => ∃ k : Nat, k ≤ n ∧ i = .int .i64 k ∧ Eqn (l.all (fun x => hasS S x.a)) ((l.drop k).all (fun x => hasS S x.a)) ∧ Below w.heap.size w wr) (fun i _ => n - (intOf i).toNat)
 case atStart => exact ⟨0, Nat.zero_le _, rfl, rfl, Below.refl _ _⟩
 case round =>
  obtain ⟨k, hk, rfl, HR, hB⟩ := hrel
  have HB := Lib.hid hB
  have hbs := hB.size
  by_cases hlt : k < n
  ·obtain ⟨p, hp, hpd⟩ := drop_at (xs := l) (k := k) (by rw [Hlen.out]; exact hlt)
   obtain ⟨b, off, hA, hbl, hc⟩ := (Hl.out.below hB).2 (by omega)
   skip
   subst hA
   obtain ⟨p0, p1, p2, p3⟩ := p
   have c0 := hc k _ hp 0 (by omega)
   have c1 := hc k _ hp 1 (by omega)
   have c2 := hc k _ hp 2 (by omega)
   have c3 := hc k _ hp 3 (by omega)
   simp only [R4.cell, Nat.add_zero] at c0 c1 c2 c3
   have HG : Hid (∀ W, Below wr.heap.size wr W → Calls Tryd.prog 77 #[.agg #[.int .i64 p0, .int .i64 p1, .int .i64 p2, .int .i64 p3], .pointer (some ⟨g, 0, none⟩)] W (RetPost (.bool (hasS S p0)) W.heap.size W)) := Lib.hid (fun W hW => cloCap_any ⟨p0, p1, p2, p3⟩ g S W ((HS.out.keep hB).keep hW))
   have HR2 := HR.out
   rw [hpd, List.all_cons] at HR2
   try dsimp only at HG
   have hbw : b < wr.heap.size := by omega
   have j0 : (k : Int) < (n : Int) := by omega
   have HB2 := Lib.hid (hB.alloc hbs (.cells #[.int .i64 p0, .int .i64 p1, .int .i64 p2, .int .i64 p3] 131))
   dsimp only at HR2
   generalize (hasS S p0) = r at *
   clear hc hp hpd HR hB
   go_wp2_with fail
   refine (HG.out _ ((Below.refl _ _).alloc (Nat.le_refl _) _)).mono ?_
   rintro e w1 ⟨rfl, hb1⟩
   have HB3 := Lib.hid (HB2.out.trans (hb1.mono HB2.out.size))
   clear hb1
   cases r with
   | true =>
    have HV : Eqn (l.all (fun x => hasS S x.a)) ((l.drop (k + 1)).all (fun x => hasS S x.a)) := by rw [Eqn, HR2]; rfl
    clear HR2
    go_wp2_with fail
    go_roundw
    case rel => exact ⟨k + 1, by omega, by go_num, HV, HB3.out⟩
    case measure => simp [intOf]; omega
   | false =>
    have HV : Eqn (l.all (fun x => hasS S x.a)) false := by rw [Eqn, HR2]; rfl
    clear HR2
    go_wp2_with fail
    go_ret
    exact ⟨ret_bool HV.out.symm, HB3.out⟩
  ·have HV : Eqn (l.all (fun x => hasS S x.a)) true := by rw [Eqn, HR.out, drop_end (by rw [Hlen.out]; omega)]; rfl
   clear HR hB
   go_wp2_with fail
   go_ret
   exact ⟨ret_bool HV.out.symm, HB.out⟩
end Go.Proofs.YtdpbbhbegehcjaaDoor
