/- A region with a tail (XLexT) in a function that ranges over functions, outside the range's body (regionTW) and within a round of it (regionTIn). Nothing of the program is named here. -/
import Derived.OrdersIn
import Derived.RangeFuncCalls
import Derived.Test.YtdpbbhbegehcjaaGreatDoorPla01
import Derived.Test.YtdpbbhbegehcjaaGreatDoorPla05
import Derived.Test.YtdpbbhbegehcjaaGreatDoorPla14
import Derived.Test.YtdpbbhbegehcjaaGreatDoorPla15
import Derived.Test.YtdpbbhbegehcjaaGreatDoorPla17
set_option maxRecDepth 100000
set_option maxHeartbeats 4000000
namespace Go.Proofs.YtdpbbhbegehcjaaGreatDoor
open Go.RowKit Go.Shelf
section
variable {α : Type} {F : Fence} {n : Nat} {P : Program} {g : Operand} {ps : Array Tmp} {assign body : Code} {Q : Exit → Act → World → Prop} {a : Act} {w : World} {gf : Nat} {lb : Array Value} {encs : α → Array Value} {Kp : World → World → Prop} {own : Bool} {G : List α → α → World → World → Prop} {S Sp : List α → Prop} {N : Nat}
theorem range_handsA (a₁ : α → Nat → Act) (hro : F.round = none) (h1 : 1 ≤ n) (hg : a.eval g = .func (.func gf) #[] lb) (hFg : F.fn gf) (eg : ∀ args w, (callFunc gf args).run P w = .ok (.enter gf args) w)
  (hseq : SeqHands F (n - 1) P gf lb encs Kp own G S Sp N w) (hKt : ∀ {A B C : World}, Kp A B → Kp B C → Kp A C) (hKb : ∀ (W : World) (o o' : Obj), W.heap[w.heap.size + 1]? = some o → o.isCells = false → Kp W (W.putObj (w.heap.size + 1) o')) (hps : ∀ x, (encs x).size = ps.size)
  (I : List α → World → Prop) (Ix : Code → List α → World → Prop) (hI : OwnFrom w.heap.size I) (hIx : ∀ c, OwnFrom w.heap.size (Ix c)) (h0 : I [] w)
  (A : List α → α → World → Prop) (Ap : List α → α → Nat → World → Prop) (hA : ∀ pre x p, OwnFrom w.heap.size (fun (_ : Unit) W => Ap pre x p W)) (hgive : ∀ pre x X W, I pre X → Below X.heap.size X W → (own = true → ∃ c t, X.heap[w.heap.size + 2]? = some (.cells c t (0, 0))) → G pre x X W → A pre x W)
  (hassign : ∀ (l : Nat) (pre : List α) (x : α) (W : World) (K : Act → World → Prop), w.heap.size < W.heap.size → A pre x W → (∀ p W', Below W.heap.size W W' → Kp W W' → Ap pre x p W' → K (a₁ x p) W') → assign.wpIn (F.inRound l) (n - 1 - 1) P (Exit.then K (fun _ _ _ => False)) { tmps := (ps.zip (encs x)).foldl (fun t (p, v) => t.setIfInBounds p v) a.tmps, defers := [] } W)
  (hbody : ∀ (l : Nat) (pre : List α) (x : α) (p : Nat) (W : World), (∃ r, W.heap[l]? = some (.loop r)) → Ap pre x p W → pre.length < N → body.wpIn (F.inRound l) (n - 1 - 1) P (handPost w.heap.size Kp own I Ix (pre ++ [x]) W) (a₁ x p) W)
  (hdone : ∀ (D : Nat) (xs : List α) (W : World), w.heap.size ≤ D → S xs → I xs W → W.heap[D]? = some (.deferred (some [])) → Q .normal { a with defers := { target := .collected D, args := #[] } :: a.defers } W)
  (hstop : ∀ (D : Nat) (c : Code) (pre : List α) (W : World), w.heap.size ≤ D → Sp pre → Ix c pre W → W.heap[D]? = some (.deferred (some [])) → c.wpIn F n P Q { a with defers := { target := .collected D, args := #[] } :: a.defers } W) :
  (Code.rangeFunc g ps assign body).wpIn F n P Q a w :=
 range_hands hro h1 hg hFg eg hseq hKt hKb hps I Ix hI hIx h0 A (fun pre x a' W => ∃ p, a' = a₁ x p ∧ Ap pre x p W) (fun pre x a' u W W' row ⟨p, h1, h2⟩ hg hr => ⟨p, h1, hA pre x p u W W' row h2 hg hr⟩) hgive (fun l pre x W K h1 h2 hK => hassign l pre x W K h1 h2 (fun p W' hb hk ha => hK _ W' hb hk ⟨p, rfl, ha⟩)) (fun l pre x a' W hr ⟨p, h1, h2⟩ hl => by subst h1; exact hbody l pre x p W hr h2 hl) hdone hstop
end
section
variable {α σ : Type} {w W : World} {ds : List Nat} {g : Operand} {ps : Array Tmp} {assign body : Code} {Q : Exit → Act → World → Prop} {a : Act} {n gf : Nat} {lb : Array Value} {encs : α → Array Value} {own : Bool} {G : List α → α → World → World → Prop} {S Sp : List α → Prop} {N n₀ Bn t0 : Nat} {s0 : List Value}
theorem hp_hands0 (Lf : σ → List Ent) (R : List α → σ → Prop) (Rx : Code → List α → σ → Prop) (iB : Nat) (Lg : α → List Ent) (Fx : List α → α → Prop) (a₁ : α → Act) (h1 : 1 ≤ n) (hg : a.eval g = .func (.func gf) #[] lb) (eg : ∀ args w, (callFunc gf args).run Tryz.prog w = .ok (.enter gf args) w)
  (hseq : SeqHands Fence.wide (n - 1) Tryz.prog gf lb encs (Keep1 n₀ Bn) own G S Sp N W) (hn : n₀ ≤ w.heap.size) (hps : ∀ x, (encs x).size = ps.size) {u : World} (s : σ) (h0 : R [] s) (hH : Hp w u W (Lf s) ds) (hiB : ∀ s, (Lf s)[iB]? = some (.blk Bn t0 s0))
  (hgive : ∀ (pre : List α) (x : α) (L : List Ent) (X Y : World), Hp w X X L ds → Below X.heap.size X Y → G pre x X Y → Fx pre x ∧ Hp w X Y (L ++ Lg x) ds ∧ ∀ e ∈ Lg x, ∀ g, e.dst = some g → X.heap.size ≤ g)
  (hassign : ∀ (l : Nat) (x : α) (W : World) (K : Act → World → Prop), K (a₁ x) W → assign.wpIn (Fence.wide.inRound l) (n - 1 - 1) Tryz.prog (Exit.then K (fun _ _ _ => False)) { tmps := (ps.zip (encs x)).foldl (fun t (p, v) => t.setIfInBounds p v) a.tmps, defers := [] } W)
  (hbody : ∀ (l : Nat) (pre : List α) (x : α) (e : Ent) (X : World) (s : σ), (∃ r, X.heap[l]? = some (.loop r)) → R pre s → Fx pre x → Hp w X X (e :: (Lf s ++ Lg x)) ds → pre.length < N → body.wpIn (Fence.wide.inRound l) (n - 1 - 1) Tryz.prog (hpHand w e Lf ds R Rx (pre ++ [x]) X) (a₁ x) X)
  (hdone : ∀ (D : Nat) (xs : List α) (X : World) (s : σ), S xs → R xs s → Hp w X X (Lf s) (D :: ds) → Q .normal { a with defers := { target := .collected D, args := #[] } :: a.defers } X)
  (hstop : ∀ (D : Nat) (c : Code) (pre : List α) (X : World) (s : σ), Sp pre → Rx c pre s → Hp w X X (Lf s) (D :: ds) → c.wpIn Fence.wide n Tryz.prog Q { a with defers := { target := .collected D, args := #[] } :: a.defers } X) :
  (Code.rangeFunc g ps assign body).wpIn Fence.wide n Tryz.prog Q a W := by
 have hB := hH.below.size
 have hds : ∀ D ∈ ds, D < W.heap.size := fun D hD => (Array.getElem?_eq_some_iff.1 (hH.marks D hD).2).1
 have hbn : Bn < W.heap.size := hH.lt iB (hiB s)
 have hb2 : ∀ e ∈ Lf s, e.dst ≠ some (W.heap.size + 2) := fun e he hd => by have := Ent.lt (hH.all e he) hd; omega
 refine range_hands rfl h1 hg trivial eg hseq keep1_t (fun X o o' hl hc => ?_) hps
  (fun pre X => ∃ s, R pre s ∧ Hp w X X (Lf s) ds ∧ ∀ e ∈ Lf s, own = true → e.dst ≠ some (W.heap.size + 2)) (fun c pre X => ∃ s, Rx c pre s ∧ Hp w X X (Lf s) ds)
  (fun _ _ _ _ ⟨s, h2, h3, h4⟩ hg hr => ⟨s, h2, h3.turn hg hr hB hds, h4⟩) (fun c => hp_own hB hds Lf (Rx c)) ⟨s, h0, hH.rebase, fun e he _ => hb2 e he⟩
  (fun pre x X => ∃ s e, R pre s ∧ Fx pre x ∧ Hp w X X (e :: (Lf s ++ Lg x)) ds ∧ (own = true → ∃ t c, e = .blk (W.heap.size + 2) t c)) (fun pre x a' X => ∃ s e, R pre s ∧ Fx pre x ∧ Hp w X X (e :: (Lf s ++ Lg x)) ds ∧ (own = true → ∃ t c, e = .blk (W.heap.size + 2) t c) ∧ a' = a₁ x) (fun pre x a' _ _ _ _ ⟨s, e, h2, h3, h4, h5, h6⟩ hg hr => ⟨s, e, h2, h3, h4.turn hg hr hB hds, h5, h6⟩)
  (fun pre x X Y ⟨s, h2, h3, h4⟩ hbl hown hG => ?_) (fun l pre x X K hXs ⟨s, e, h2, h3, h4, h5⟩ hK => ?_) ?_ ?_ ?_
 ·refine ⟨⟨rfl, rfl, rfl, by simp [World.putObj], fun k hk => World.putObj_heap_other (by omega)⟩, World.putObj_heap_other (by omega)⟩
 ·obtain ⟨f1, f2, f3⟩ := hgive pre x (Lf s) X Y h3 hbl hG
  cases hw : own with
  | false => exact ⟨s, _, h2, f1, f2.rebase.frontNil, fun e => by cases e⟩
  | true =>
   obtain ⟨c, t, hc⟩ := hown hw
   have hlt := (Array.getElem?_eq_some_iff.1 hc).1
   refine ⟨s, .blk (W.heap.size + 2) t c.toList, h2, f1, f2.rebase.front ((hbl.block _ hlt).trans hc) (by omega) (fun e he hd => ?_), fun _ => ⟨_, _, rfl⟩⟩
   rcases List.mem_append.1 he with he | he
   ·exact h4 e he hw hd
   ·have := f3 e he _ hd; omega
 ·exact hassign l x X K (hK _ _ (Below.refl _ X) ⟨Below.refl _ X, rfl⟩ ⟨s, e, h2, h3, h4, h5, rfl⟩)
 ·rintro l pre x a' X hrec ⟨s, e, h2, h3, h4, h5, rfl⟩ hlen
  refine wpIn_mono (hbody l pre x e X s hrec h2 h3 h4 hlen) ?_
  intro ex a' Y he
  cases ex with
  | normal =>
   obtain ⟨s', r2, r3⟩ := he
   have hil := (List.getElem?_eq_some_iff.1 (hiB s)).1
   have hk : (e :: (Lf s ++ Lg x))[iB + 1]? = some (.blk Bn t0 s0) := by
    rw [List.getElem?_cons_succ, List.getElem?_append_left hil]; exact hiB s
   refine ⟨r3.since.from _, hp_keep1 (i := iB + 1) hn h4 r3 hk (hiB s'), fun ho => ?_, s', r2, r3.rebase.sub (List.sublist_cons_self _ _), fun e' he' ho hd => ?_⟩
   ·obtain ⟨t, c, rfl⟩ := h5 ho
    exact (r3.blk 0 rfl).trans (h4.blk 0 rfl).symm
   ·obtain ⟨t, c, rfl⟩ := h5 ho
    exact (List.pairwise_cons.1 r3.apart).1 e' he' _ rfl hd
  | ret => obtain ⟨s', r2, r3⟩ := he; exact ⟨r3.since.from _, s', r2, r3.rebase⟩
  | exit id => obtain ⟨s', r2, r3⟩ := he; exact ⟨r3.since.from _, s', r2, r3.rebase⟩
  | goto t => obtain ⟨s', r2, r3⟩ := he; exact ⟨r3.since.from _, s', r2, r3.rebase⟩
  | panic c => exact he.elim
  | outgrown => exact he.elim
 ·rintro D xs X hD hS ⟨s, h2, h3, _⟩ hK
  exact hdone D xs X s hS h2 (h3.mark hK (by omega) (fun E hE => by have := hds E hE; omega))
 ·rintro D c pre X hD hS ⟨s, h2, h3⟩ hK
  exact hstop D c pre X s hS h2 (h3.mark hK (by omega) (fun E hE => by have := hds E hE; omega))
end
end Go.Proofs.YtdpbbhbegehcjaaGreatDoor

namespace Go.Proofs.YtdpbbhbegehcjaaGreatDoor
open Go.RowKit
namespace Lx
theorem wpIn_of_wp {P : Program} {l n : Nat} {o : Oper} {a : Act} {w : World} {K : Act → World → Prop} {Q Q' : Exit → Act → World → Prop} (hnd : ∀ c, o.op ≠ .defer c) (hQ : ∀ e a w, Q e a w → e = .normal) (h : o.wp P a w K Q) : o.wpIn (Fence.wide.inRound l) n P a w K Q' := by
 unfold Oper.wpIn
 refine ⟨fun _ _ => trivial, ?_⟩
 rw [Oper.semAt_eq _ _ _ hnd]
 unfold Oper.wp at h
 generalize (execOp a.eval o).run P w = r at *
 cases r with
 | ok x w' =>
  cases x with
  | value v => exact h
  | skip => exact h
  | defer d => exact h
  | enter f args =>
   refine ⟨fun hd => (by cases hd), CallsIn.inRound l (callsIn_wide.2 (Calls.mono h ?_))⟩
   intro e w'' he
   cases e with
   | returned v => exact he
   | panicked c => exact absurd (hQ _ _ _ he) (by simp)
   | outgrown => obtain ⟨a', w3, hq⟩ := he; exact absurd (hQ _ _ _ hq) (by simp)
  | row row args => exact ⟨fun hd => (by cases hd), fun c cs _ => let ⟨v, w2, r, s⟩ := h c cs; ⟨v, w2, r, stepsIn_wide.2 s⟩⟩
  | _ => exact h.elim
 | halt x w' =>
  cases x with
  | panic v => exact absurd (hQ _ _ _ h) (by simp)
  | _ => exact h.elim
theorem anyIn_of_any {P : Program} {l n : Nat} {ops : Array Oper} {Q : Exit → Act → World → Prop} (hnd : ∀ (i : Nat) (o : Oper), ops[i]? = some o → ∀ c, o.op ≠ .defer c) :
  ∀ (fuel : Nat) (listed : Array Bool) (a : Act) (w : World), wpAny P .any ops (fun e a w => e = .normal ∧ Q .normal a w) fuel listed a w → wpAnyIn (Fence.wide.inRound l) n P .any ops Q fuel listed a w := by
 intro fuel
 induction fuel with
 | zero => intro listed a w h; exact ⟨h.1, h.2.2⟩
 | succ fuel ih =>
  intro listed a w h
  refine ⟨fun hr => (h.1 hr).2, fun i hi => ?_⟩
  have h1 := h.2 i hi
  unfold wpOp at h1
  unfold wpOpIn
  cases ho : ops[i]? with
  | none => rw [ho] at h1; exact ih _ _ _ h1
  | some o =>
   rw [ho] at h1
   dsimp only at h1 ⊢
   split
   ·rename_i hw
    rw [if_pos hw] at h1
    rcases h1 with h2 | ⟨_, a', w', h2, _⟩
    ·exact Oper.wpIn_mono (fun a w => ih _ a w) (wpIn_of_wp (hnd i o ho) (fun e _ _ he => he.1) h2)
    ·cases h2
   ·rename_i hw
    rw [if_neg hw] at h1
    exact ⟨fun _ _ => trivial, ih _ _ _ h1⟩
def noDefer (l : List Oper) : Bool := l.all fun o => match o.op with | .defer _ => false | _ => true
end Lx
namespace Lx
section
variable {P : Program} {ops : Array Oper} {C : World → Prop} {hs : List Nat}
def chainOk (n : Nat) (ops : Array Oper) : Bool :=
 let M := masks ops.toList []
 (List.range ops.size).all fun j => decide (j < n) || (List.range j).all fun i => (M.getD j 0).testBit i
theorem anyIn_of_lexY {Q : Exit → Act → World → Prop} {n r q : Nat} (hok : ok hs ops = true) (ht : chainOk n ops = true) (hnd : ∀ (i : Nat) (o : Oper), ops[i]? = some o → ∀ c, o.op ≠ .defer c) : ∀ (fuel : Nat) (L1 L2 : List Nat) (listed : Array Bool) (a : Act) (w : World), C w → (L1 ++ L2).length = fuel →
  (∀ i, i ∈ L1 ++ L2 ↔ i < ops.size ∧ listed.getD i true = false) → (L1 ++ L2).Pairwise (· < ·) → (∀ i ∈ L1, i < n) → L2 = List.range' n (ops.size - n) → Down ops listed → listed.size = ops.size →
  lexN P ops C hs (fun a w => wpOpsIn (Fence.wide.inRound r) q P ops Q L2 a w) L1 a w → wpAnyIn (Fence.wide.inRound r) q P .any ops Q fuel listed a w := by
 have htl : ∀ j, n ≤ j → j < ops.size → ∀ i, i < j → ((masks ops.toList []).getD j 0).testBit i = true := by
  intro j hj hjs i hi
  have h1 := List.all_eq_true.1 ht j (List.mem_range.2 hjs)
  simp only [Bool.or_eq_true, decide_eq_true_eq] at h1
  rcases h1 with h1 | h1
  ·omega
  ·have := List.all_eq_true.1 h1 i (List.mem_range.2 hi)
   simpa using this
 have hok' : ∀ (j : Nat) (oj : Oper), ops[j]? = some oj → noSel oj = true ∧ (∀ e ∈ oj.after, Region.binds .any e = true → e.on < j) ∧ ∀ i, i < j → ((masks ops.toList []).getD j 0).testBit i = true ∨ pair ops hs i j = true := by
  intro j oj hj
  have hlt : j < ops.size := (Array.getElem?_eq_some_iff.1 hj).1
  have h1 := List.all_eq_true.1 hok j (List.mem_range.2 hlt)
  simp only [hj, Bool.and_eq_true] at h1
  obtain ⟨⟨h2, h3⟩, h4⟩ := h1
  refine ⟨h2, fun e he hb => ?_, fun i hi => ?_⟩
  ·have := Array.all_eq_true'.1 h3 e he
   simpa [hb] using this
  ·have := List.all_eq_true.1 h4 i (List.mem_range.2 hi)
   simpa using this
 have hsel : ∀ (j : Nat) (o : Oper) cs b, ops[j]? = some o → o.op ≠ .select cs b := by
  intro j o cs b hj he
  have := (hok' j o hj).1
  simp [noSel, he] at this
 have hset0 : ∀ (listed : Array Bool) (j i : Nat), (listed.setIfInBounds j true).getD i true = false ↔ (listed.getD i true = false ∧ i ≠ j) := by
  intro listed j i
  by_cases hij : i = j
  ·subst hij
   simp [Array.getD_eq_getD_getElem?, Array.getElem?_setIfInBounds]
   split <;> simp_all
  ·simp [Array.getD_eq_getD_getElem?, Array.getElem?_setIfInBounds_ne (Ne.symm hij), hij]
 have chain : ∀ (m k : Nat) (listed : Array Bool) (a : Act) (w : World), k + m = ops.size → n ≤ k → (∀ i, i < ops.size → (listed.getD i true = false ↔ k ≤ i)) → Down ops listed → listed.size = ops.size →
   wpOpsIn (Fence.wide.inRound r) q P ops Q (List.range' k m) a w → wpAnyIn (Fence.wide.inRound r) q P .any ops Q m listed a w := by
  intro m
  induction m with
  | zero =>
   intro k listed a w hk hn hl hD hsz h
   refine ⟨?_, by simpa [wpOpsIn] using h⟩
   apply List.eq_nil_iff_forall_not_mem.2
   intro j hj
   obtain ⟨hj1, oj, hoj, _⟩ := mem_ready.1 hj
   have hjlt : j < ops.size := (Array.getElem?_eq_some_iff.1 hoj).1
   have := (hl j hjlt).1 hj1
   omega
  | succ m ih =>
   intro k listed a w hk hn hl hD hsz h
   have hklt : k < ops.size := by omega
   have hok0 : ops[k]? = some ops[k] := Array.getElem?_eq_getElem hklt
   rw [List.range'_succ, wpOpsIn_cons] at h
   refine ⟨fun hr => ?_, fun j hj => ?_⟩
   ·exfalso
    have hri : k ∈ Region.ready .any ops listed := by
     refine mem_ready.2 ⟨(hl k hklt).2 (Nat.le_refl _), _, hok0, fun e he hb => ?_⟩
     have hlt := (hok' k _ hok0).2.1 e he hb
     have hb2 : e.on < listed.size := by omega
     have hne : ¬ listed.getD e.on true = false := fun hf => by have := (hl e.on (by omega)).1 hf; omega
     simp only [Array.getD_eq_getD_getElem?, Array.getElem?_eq_getElem hb2, Option.getD_some] at hne ⊢
     simpa using hne
    rw [hr] at hri
    cases hri
   ·obtain ⟨hj1, oj, hoj, hjr⟩ := mem_ready.1 hj
    have hjlt : j < ops.size := (Array.getElem?_eq_some_iff.1 hoj).1
    have hkj := (hl j hjlt).1 hj1
    obtain rfl : j = k := by
     rcases Nat.lt_or_ge k j with h1 | h1
     ·exfalso
      have hl2 := masks_sound hD (j + 1) j oj (by omega) hoj hjr k (htl j (by omega) hjlt k h1)
      have hk2 := (hl k hklt).2 (Nat.le_refl _)
      have hb2 : k < listed.size := by omega
      simp only [Array.getD_eq_getD_getElem?, Array.getElem?_eq_getElem hb2, Option.getD_some] at hl2 hk2
      rw [hl2] at hk2
      cases hk2
     ·omega
    unfold wpOpIn at h ⊢
    rw [hoj] at h ⊢
    dsimp only at h ⊢
    have go : ∀ a' w', wpOpsIn (Fence.wide.inRound r) q P ops Q (List.range' (j + 1) m) a' w' → wpAnyIn (Fence.wide.inRound r) q P .any ops Q m (listed.setIfInBounds j true) a' w' := by
     intro a' w' h'
     refine ih (j + 1) _ a' w' (by omega) (by omega) (fun i hi => ?_) ?_ (by simp [hsz]) h'
     ·rw [hset0, hl i hi]; omega
     ·intro j' o' ho' hl' e he hb
      by_cases hjj : j' = j
      ·subst hjj
       rw [hoj] at ho'
       injection ho' with ho'
       subst ho'
       exact getD_set_true (hjr e he hb)
      ·rw [getD_set_ne false (Ne.symm hjj)] at hl'
       exact getD_set_true (hD j' o' ho' hl' e he hb)
    split
    ·rename_i hw
     rw [if_pos hw] at h
     exact Oper.wpIn_mono go h
    ·rename_i hw
     rw [if_neg hw] at h
     exact ⟨h.1, go _ _ h.2⟩
 have chainEnd : ∀ (L2 : List Nat) (fuel n' : Nat) (listed : Array Bool) (a : Act) (w : World), (∀ i, i ∈ [] ++ L2 ↔ i < ops.size ∧ listed.getD i true = false) → ([] ++ L2).length = fuel → L2 = List.range' n (ops.size - n) → Down ops listed → listed.size = ops.size →
   wpOpsIn (Fence.wide.inRound r) q P ops Q L2 a w → wpAnyIn (Fence.wide.inRound r) q P .any ops Q fuel listed a w := by
  intro L2 fuel _ listed a w hm hL h2 hD hsz h
  rw [List.nil_append] at hm hL
  rw [h2] at h hm hL
  rw [List.length_range'] at hL
  subst hL
  by_cases hns : n ≤ ops.size
  ·refine chain _ n listed a w (by omega) (Nat.le_refl _) (fun i hi => ?_) hD hsz h
   have := hm i
   rw [List.mem_range'_1] at this
   constructor
   ·intro hf; have := this.2 ⟨hi, hf⟩; omega
   ·intro hf; exact (this.1 (by omega)).2
  ·have h0 : ops.size - n = 0 := by omega
   rw [h0] at h hm ⊢
   refine ⟨?_, by simpa [wpOpsIn] using h⟩
   apply List.eq_nil_iff_forall_not_mem.2
   intro j hj
   obtain ⟨hj1, oj, hoj, _⟩ := mem_ready.1 hj
   have := (hm j).2 ⟨(Array.getElem?_eq_some_iff.1 hoj).1, hj1⟩
   simp at this
 intro fuel
 induction fuel with
 | zero =>
  intro L1 L2 listed a w hC hL hm hs' h1 h2 hD hsz h
  have hnil : L1 = [] := List.eq_nil_of_length_eq_zero (by simp at hL; simp [hL])
  subst hnil
  exact chainEnd L2 0 n listed a w hm hL h2 hD hsz h
 | succ fuel ih =>
  intro L1 L2 listed a w hC hL hm hs' h1 h2 hD hsz h
  cases L1 with
  | nil => exact chainEnd L2 (fuel + 1) n listed a w hm hL h2 hD hsz h
  | cons i0 L0 =>
   have hi0 : i0 < n := h1 i0 (by simp)
   have h2' : ∀ i ∈ L2, n ≤ i := fun i h => by rw [h2] at h; simp at h; omega
   obtain ⟨hi1, hi2⟩ := (hm i0).1 (by simp)
   refine ⟨fun hr => ?_, fun j hj => ?_⟩
   ·exfalso
    have ho : ops[i0]? = some ops[i0] := Array.getElem?_eq_getElem hi1
    have hri : i0 ∈ Region.ready .any ops listed := by
     refine mem_ready.2 ⟨hi2, _, ho, fun e he hb => ?_⟩
     have hlt := (hok' i0 _ ho).2.1 e he hb
     by_cases hle : listed.getD e.on true = false
     ·have hmem : e.on ∈ i0 :: (L0 ++ L2) := (hm e.on).2 ⟨by omega, hle⟩
      rcases List.mem_cons.1 hmem with h | h
      ·omega
      ·have := (List.pairwise_cons.1 hs').1 e.on h
       omega
     ·have hb2 : e.on < listed.size := by omega
      simp only [Array.getD_eq_getD_getElem?, Array.getElem?_eq_getElem hb2, Option.getD_some] at hle ⊢
      simpa using hle
    rw [hr] at hri
    cases hri
   ·obtain ⟨hj1, oj, hoj, hjr⟩ := mem_ready.1 hj
    have hjlt : j < ops.size := (Array.getElem?_eq_some_iff.1 hoj).1
    have hmem : j ∈ i0 :: L0 := by
     rcases List.mem_append.1 ((hm j).2 ⟨hjlt, hj1⟩) with h | h
     ·exact h
     ·exfalso
      have hl := masks_sound hD (j + 1) j oj (by omega) hoj hjr i0 (htl j (by rw [h2] at h; simp at h; omega) hjlt i0 (by rw [h2] at h; simp at h; omega))
      have hb2 : i0 < listed.size := by omega
      simp only [Array.getD_eq_getD_getElem?, Array.getElem?_eq_getElem hb2, Option.getD_some] at hl hi2
      rw [hl] at hi2
      cases hi2
    obtain ⟨pre, post, hsplit⟩ := List.append_of_mem hmem
    rw [hsplit] at hs' hm hL h h1
    clear hsplit hmem
    have hs1 := (List.pairwise_append.1 hs').1
    have hpre : ∀ i ∈ pre, i < j := by
     intro i hi
     exact (List.pairwise_append.1 hs1).2.2 i hi j (by simp)
    have hpost : ∀ i ∈ post, j < i := fun i hi => (List.pairwise_cons.1 (List.pairwise_append.1 hs1).2.1).1 i hi
    have hpair : ∀ i ∈ pre, pair ops hs i j = true := by
     intro i hi
     rcases (hok' j oj hoj).2.2 i (hpre i hi) with h1 | h1
     ·exfalso
      have hl := masks_sound hD (j + 1) j oj (by omega) hoj hjr i h1
      obtain ⟨hi1, hi2⟩ := (hm i).1 (by simp [hi])
      have hb2 : i < listed.size := by omega
      simp only [Array.getD_eq_getD_getElem?, Array.getElem?_eq_getElem hb2, Option.getD_some] at hl hi2
      rw [hl] at hi2
      cases hi2
     ·exact h1
    have hp1 := pull hoj hsel post pre a w hpair hC h
    have hset : ∀ i, (listed.setIfInBounds j true).getD i true = false ↔ (listed.getD i true = false ∧ i ≠ j) := by
     intro i
     by_cases hij : i = j
     ·subst hij
      simp [Array.getD_eq_getD_getElem?, Array.getElem?_setIfInBounds]
      split <;> simp_all
     ·simp [Array.getD_eq_getD_getElem?, Array.getElem?_setIfInBounds_ne (Ne.symm hij), hij]
    have hp2 : step P ops C hs j oj (wpAnyIn (Fence.wide.inRound r) q P .any ops Q fuel (listed.setIfInBounds j true)) a w := by
     refine step_mono hC hp1 fun a' w' hC' _ hK => ih (pre ++ post) L2 _ a' w' hC' ?_ ?_ ?_ ?_ h2 ?_ (by simp [hsz]) hK
     ·simp at hL ⊢; omega
     ·intro i
      rw [hset]
      constructor
      ·intro hi
       have hi' : i ∈ (pre ++ j :: post) ++ L2 := by
        simp only [List.mem_append, List.mem_cons] at hi ⊢
        rcases hi with (h | h) | h <;> simp [h]
       obtain ⟨q1, q2⟩ := (hm i).1 hi'
       refine ⟨q1, q2, ?_⟩
       simp only [List.mem_append] at hi
       rcases hi with (h | h) | h
       ·have := hpre i h; omega
       ·have := hpost i h; omega
       ·have := h1 j (by simp)
        have := h2' i h
        omega
      ·rintro ⟨q1, q2, q3⟩
       have := (hm i).2 ⟨q1, q2⟩
       simp only [List.mem_append, List.mem_cons] at this ⊢
       rcases this with (h | h | h) | h
       ·simp [h]
       ·exact absurd h q3
       ·simp [h]
       ·simp [h]
     ·have hp := List.pairwise_append.1 hs'
      refine List.pairwise_append.2 ⟨?_, hp.2.1, fun x hx y hy => hp.2.2 x (by simp only [List.mem_append, List.mem_cons] at hx ⊢; rcases hx with h | h <;> simp [h]) y hy⟩
      have hq := List.pairwise_append.1 hs1
      refine List.pairwise_append.2 ⟨hq.1, (List.pairwise_cons.1 hq.2.1).2, fun x hx y hy => ?_⟩
      have := hpre x hx
      have := hpost y hy
      omega
     ·intro i hi
      refine h1 i ?_
      simp only [List.mem_append, List.mem_cons] at hi ⊢
      rcases hi with h | h <;> simp [h]
     ·intro j' o' ho' hl' e he hb
      by_cases hjj : j' = j
      ·subst hjj
       rw [hoj] at ho'
       injection ho' with ho'
       subst ho'
       exact getD_set_true (hjr e he hb)
      ·rw [getD_set_ne false (Ne.symm hjj)] at hl'
       exact getD_set_true (hD j' o' ho' hl' e he hb)
    unfold step at hp2
    unfold wpOpIn
    simp only [hoj]
    split
    ·rename_i hw
     rw [if_pos hw] at hp2
     refine wpIn_of_wp (Q := NoQ) (hnd j oj hoj) (fun e a w h => h.elim) ?_
     rcases hp2 with ⟨_, v, h3, h4⟩ | ⟨_, v, h3, h4⟩ | ⟨_, h3⟩
     ·unfold Oper.wp; rw [h3 w hC]; exact h4
     ·unfold Oper.wp; rw [h3]; exact h4
     ·exact Oper.wp_mono (fun _ _ hh => hh.2) h3
    ·rename_i hw
     rw [if_neg hw] at hp2
     exact ⟨fun _ _ => trivial, hp2⟩
end
theorem noDeferY {l : List Oper} (hd : noDefer l = true) : ∀ (i : Nat) (o : Oper), l.toArray[i]? = some o → ∀ c, o.op ≠ .defer c := by
 intro i o ho c hc
 have hmem : o ∈ l := by
  have : l[i]? = some o := by simpa using ho
  exact List.mem_of_getElem? this
 have := List.all_eq_true.1 hd o hmem
 rw [hc] at this
 cases this
theorem regionY {P : Program} {C : World → Prop} {hs : List Nat} {id r q : Nat} {l : List Oper} {Q : Exit → Act → World → Prop} {a : Act} {w : World} (n : Nat) (l1 l2 : List Oper) (hl : l = l1 ++ l2) (hn : l1.length = n) (hm : P.follows .mixedOrders = true) (hok : ok hs l.toArray = true) (ht : chainOk n l.toArray = true) (hd : noDefer l = true) (hC : C w.drew)
  (h : lex P l.toArray C hs (fun a w => wpListIn (Fence.wide.inRound r) q P l.toArray Q l2 a w) 0 l1 a w.drew) : (Code.region id l.toArray true).wpIn (Fence.wide.inRound r) q P Q a w := by
 subst hl
 refine wpIn_region_any hm ?_
 refine anyIn_of_lexY (C := C) (hs := hs) (n := n) hok ht (noDeferY hd) _ (List.range' 0 n) (List.range' n l2.length) _ a _ hC (by simp [hn]) ?_ ?_ ?_ ?_ ?_ (by simp) ?_
 ·intro i
  simp [Array.getD_eq_getD_getElem?, Array.getElem?_replicate, hn]
  constructor
  ·intro hi
   have : i < n + l2.length := by omega
   exact ⟨this, by simp [this]⟩
  ·rintro ⟨hi, _⟩
   omega
 ·have h1 := List.pairwise_lt_range (n := n + l2.length)
  rw [List.range_eq_range', List.range'_append_1.symm] at h1
  simpa using h1
 ·intro i hi; simp at hi; exact hi
 ·simp [hn]
 ·intro j o ho hl
  simp [Array.getD_eq_getD_getElem?, Array.getElem?_replicate] at hl
  split at hl <;> simp at hl
 ·have e2 := wpOpsIn_eq_wpListIn (F := Fence.wide.inRound r) (n := q) (P := P) (ops := (l1 ++ l2).toArray) (Q := Q) l2 n (fun m => by rw [List.getElem?_toArray, List.getElem?_append_right (by omega)]; congr 1; omega)
  have e1 := lexN_of_lexP (P := P) (ops := (l1 ++ l2).toArray) (C := C) (hs := hs) (Q := fun a w => wpListIn (Fence.wide.inRound r) q P (l1 ++ l2).toArray Q l2 a w) l1 0 (fun m hm => by rw [Nat.zero_add, List.getElem?_toArray, List.getElem?_append_left hm])
  rw [e1, hn] at h
  rw [e2]
  exact h
end Lx
end Go.Proofs.YtdpbbhbegehcjaaGreatDoor

namespace Go.Proofs.YtdpbbhbegehcjaaGreatDoor
open Go.RowKit Go.Shelf
attribute [local go_sem] Oper.semAt_some
theorem roundIn_wide {n m r : Nat} {P : Program} {l : Nat} {f : FuncId} {tmps : Array Value} {assign body : Code} {w : World} {R : Ending → World → Prop} (h : RoundIn Fence.wide n P l f tmps assign body w R) : RoundIn (Fence.wide.inRound r) m P l f tmps assign body w R := ⟨h.1, fun c cs _ => h.2 c cs (fun d hd => by cases hd)⟩
theorem own_at {B : Nat} {o : Option Obj} {l : Nat} (hl : l < B) : OwnFrom B (fun (_ : Unit) W => l < W.heap.size ∧ W.heap[l]? = o) := own_block hl (fun x => x = o)
theorem cpP_any (A : Option Addr) (n c : Nat) (w : World) (xs : List (Int × Int)) (hn : n ≤ 100000) (hx : RowS 2 chC w w.heap.size A n xs) : Calls Tryz.prog 60 #[.slice A n c] w (NewChs xs w) := by
 have HC := Lib.hid (cloneC_any A n c w xs hn hx)
 clear hx
 go_enter Tryz.func60, Tryz.ntmps60
 go_wp2_with fail
 refine HC.out.mono ?_
 rintro e W1 ⟨v, rfl, hown, hb⟩
 have HO := Lib.hid (And.intro hown hb)
 clear hown hb
 go_wp2_with fail
 go_ret
 exact ⟨v, rfl, HO.out.1, HO.out.2⟩
theorem leavesMk {F : Fence} {n : Nat} {fn : Func} {tmps : Array Value} {R : Ending → World → Prop} {Pw : World → Prop} {B : Nat} (hP : ∀ W D, Pw W → B ≤ D → W.heap[D]? = some (.deferred (some [])) → Pw (W.putObj D (.deferred none)))
  (hE : ∀ W, Pw W → LeavesIn F n Tryz.prog fn tmps R [] .returning W) (D : Nat) (W : World) (h : Pw W) (h1 : B ≤ D) (h2 : W.heap[D]? = some (.deferred (some []))) : LeavesInM F n Tryz.prog fn tmps R (marksOf [D]) .returning W :=
 ⟨by simp, .inl ⟨D, _, rfl, run_takeDeferred h2, hE _ (hP W D h h1 h2)⟩⟩
def GvP (L : List PEn) (pre : List (Nat × Lem)) (x : Nat × Lem) (X W : World) : Prop :=
 x.1 = pre.length ∧ (∃ e, L[pre.length]? = some e ∧ x.2.chs = e.v.chs ∧ x.2.len = e.v.len) ∧ Hp X X W [.row x.2.val 91 2 x.2.len (flat 2 chC x.2.chs)] []
structure VvP (J : List (Nat × Lem) → World → Prop) (W₀ : World) (n₀ p3 Bc : Nat) (o3 oc : Obj) (L : List PEn) (pre : List (Nat × PEn)) (pre' : List (Nat × Lem)) (X : World) : Prop where
 len : pre'.length = pre.length
 J : J pre' X
 y : p3 < X.heap.size ∧ X.heap[p3]? = some o3
 c : Bc < X.heap.size ∧ X.heap[Bc]? = some oc
 low : Below n₀ W₀ X
theorem VvP.keep {J : List (Nat × Lem) → World → Prop} {B : Nat} {W₀ : World} {n₀ p3 Bc : Nat} {o3 oc : Obj} {L : List PEn} {pre : List (Nat × PEn)} {pre' : List (Nat × Lem)} {X Y : World} {row : Option Nat} (hJ : OwnFrom B J) (h3 : p3 < B) (hc : Bc < B) (hn : n₀ ≤ W₀.heap.size) (hnB : n₀ ≤ B) (h : VvP J W₀ n₀ p3 Bc o3 oc L pre pre' X) (hg : X.grownBy Y row) (hr : ∀ r, row = some r → B ≤ r ∧ ∃ o : Obj, X.heap[r]? = some o ∧ o.isCells = false) : VvP J W₀ n₀ p3 Bc o3 oc L pre pre' Y :=
 ⟨h.len, hJ _ _ _ _ h.J hg hr, own_at h3 () X Y row h.y hg hr, own_at hc () X Y row h.c hg hr, h.low.trans ⟨hg.os, hg.tape, hg.output, hg.size, fun k hk => hg.block k (Nat.lt_of_lt_of_le hk (Nat.le_trans hn h.low.size)) (fun e => by have := (hr k e.symm).1; omega)⟩⟩
theorem vals1P (n : Nat) (hn : 3 ≤ n) (n₀ Bk Bc : Nat) (A : Option Addr) (m c : Nat) (L : List PEn) (w : World) (hB : Blk w Bk 105 [.slice A m c]) (hC : Blk w Bc 122 [.func (.func 60) #[] #[]]) (hL : PEs w (· < n₀) A m L) (hn₀ : n₀ ≤ w.heap.size) (hm : m ≤ 100000) :
  SeqHands Fence.wide n Tryz.prog 95 #[.pointer (some ⟨Bk, 0, none⟩), .pointer (some ⟨Bc, 0, none⟩)] (fun x : Nat × Lem => #[Value.int .i64 x.1, x.2.val]) (Keep1 n₀ Bc) true (GvP L) (fun xs => xs.length = L.length) (fun _ => True) L.length w := by
 intro l J Jx W hW hJ hJx hY h0
 refine callsIn_of_wp_marks Tryz.func95 rfl trivial ?_ rfl
 simp only [Tryz.ntmps95, List.size_toArray, List.length_cons, List.length_nil, Nat.reduceAdd, Nat.reduceSub, Array.replicate_succ, Array.replicate_zero, List.push_toArray, List.append_toArray, List.nil_append, List.cons_append]
 obtain ⟨p3, hp3⟩ : ∃ p, p = W.heap.size := ⟨_, rfl⟩
 obtain ⟨V0, hV0⟩ : ∃ V, V = W.alloc (.cells #[.func (.yield l) #[] #[]] 136) := ⟨_, rfl⟩
 have hb0 : Below W.heap.size W V0 := by rw [hV0]; exact (Below.refl _ W).alloc (Nat.le_refl _) _
 have hy0 : Blk V0 p3 136 [.func (.yield l) #[] #[]] := by rw [hV0, hp3]; exact blk_new W _ _
 have hJ0 : J [] V0 := own_kept hJ h0 hb0
 have hWV : Below w.heap.size w V0 := hW.trans (hb0.mono hW.size)
 have HB := Lib.hid (hB.keep hWV)
 have HC := Lib.hid (hC.keep hWV)
 have HL := Lib.hid (hL.keep hWV)
 have HY := Lib.hid hY
 have HJ := Lib.hid hJ
 have HJx := Lib.hid hJx
 have HJ0 := Lib.hid hJ0
 have HY0 := Lib.hid hy0
 have HN0 := Lib.hid (Nat.le_trans hn₀ hWV.size)
 have HKB := Lib.hid ((hB.keep hWV).lt)
 have HW3 : Hid (W.heap.size = p3 ∧ p3 < V0.heap.size ∧ n₀ ≤ p3 ∧ Bc < p3) := Lib.hid ⟨hp3.symm, hy0.lt, by rw [hp3]; exact Nat.le_trans hn₀ hW.size, by rw [hp3]; have := hC.lt; have := hW.size; omega⟩
 have m1 := (hB.keep hWV).cell (i := 0) rfl
 have m2 := (hB.keep hWV).lt
 clear hB hC hL hW hJ hJx hY h0 hn₀ hb0 hy0 hJ0 hWV
 gi_upto_region 1 with fail
 rw [← hV0, ← hp3]
 clear hV0 hp3
 gi_wp2_with fail
 refine ⟨trivial, fun _ => by omega, (callsIn_wide.2 (allP_any A m c _)).mono ?_⟩
 rintro e WE ⟨rfl, hWE⟩
 obtain ⟨Bq, hBq⟩ : ∃ b, b = V0.heap.size := ⟨_, rfl⟩
 have hbE : Below V0.heap.size V0 WE := by rw [hWE]; exact (Below.refl _ V0).alloc (Nat.le_refl _) _
 have hBqE : Blk WE Bq 105 [.slice A m c] := by rw [hWE, hBq]; exact blk_new V0 _ _
 have hLE := HL.out.keep hbE
 have hsz : n₀ ≤ WE.heap.size := Nat.le_trans HN0.out hbE.size
 have hbs := hbE.size
 have HSQ := Lib.hid (all1P (n - 1) (by omega) n₀ Bc Bq A m c L WE hBqE hLE.1 hsz hm)
 have HLE := Lib.hid hLE
 have HSZ : Hid (n₀ ≤ WE.heap.size ∧ p3 < WE.heap.size ∧ Bc < WE.heap.size ∧ W.heap.size ≤ WE.heap.size) := Lib.hid ⟨hsz, by have := HW3.out; omega, by have := HW3.out; omega, by have := HW3.out; omega⟩
 have hvv : VvP J WE n₀ p3 Bc (.cells #[.func (.yield l) #[] #[]] 136 (0, 0)) (.cells #[.func (.func 60) #[] #[]] 122 (0, 0)) L [] [] WE :=
  ⟨rfl, own_kept HJ.out HJ0.out hbE, ⟨HSZ.out.2.1, (HY0.out.keep hbE)⟩, ⟨HSZ.out.2.2.1, (HC.out.keep hbE)⟩, Below.refl _ _⟩
 have HVV := Lib.hid hvv
 rw [← hBq]
 clear hWE hBq hbE hBqE hLE hsz hbs hvv HJ0 m1 m2 HL HB HC HY0 HKB
 generalize hO3 : (Obj.cells #[.func (.yield l) #[] #[]] 136 (0, 0)) = o3 at *
 generalize hOc : (Obj.cells #[.func (.func 60) #[] #[]] 122 (0, 0)) = oc at *
 gi_wp2_with fail
 have hJE := own_up HJ.out HSZ.out.2.2.2
 refine range_handsA (w := WE) (own := false) ?a₁ rfl (by omega) (gf := 117) (lb := #[.pointer (some ⟨Bq, 0, none⟩)]) rfl trivial (enters_of Tryz.func117 (by kernel_rfl) rfl) HSQ.out keep1_t (fun X o o' hl hc => ?kb) (fun _ => rfl)
  (fun pre X => ∃ pre', VvP J WE n₀ p3 Bc o3 oc L pre pre' X) (fun cd _ X => cd = .ret ∧ ∃ pre', Jx pre' X)
  (fun s X X' row ⟨pre', h⟩ hg hr => ⟨pre', h.keep hJE HSZ.out.2.1 HSZ.out.2.2.1 HSZ.out.1 HSZ.out.1 hg hr⟩) (fun cd s X X' row ⟨h1, pre', h⟩ hg hr => ⟨h1, pre', own_up HJx.out HSZ.out.2.2.2 _ _ _ _ h hg hr⟩) ⟨[], HVV.out⟩
  (fun pre x X => (∃ pre', VvP J WE n₀ p3 Bc o3 oc L pre pre' X) ∧ x.1 = pre.length ∧ L[pre.length]? = some x.2)
  (fun pre x p X => ((∃ pre', VvP J WE n₀ p3 Bc o3 oc L pre pre' X) ∧ x.1 = pre.length ∧ L[pre.length]? = some x.2) ∧ p < X.heap.size ∧ X.heap[p]? = some (.cells #[.int .u64 (wd x.2.S 0), .int .u64 (wd x.2.S 1), .int .u64 (wd x.2.S 2), .int .u64 (wd x.2.S 3), .int .u64 (wd x.2.S 4), .int .u64 (wd x.2.S 5), .int .u64 (wd x.2.S 6), .int .u64 (wd x.2.S 7), .slice x.2.v.adr x.2.v.len x.2.v.cap] 162 (0, 0)))
  (fun pre x p _ X X' row ⟨⟨⟨pre', h⟩, h1⟩, h3, h4⟩ hg hr => ⟨⟨⟨pre', h.keep hJE HSZ.out.2.1 HSZ.out.2.2.1 HSZ.out.1 HSZ.out.1 hg hr⟩, h1⟩, Nat.lt_of_lt_of_le h3 hg.size, (hg.block p h3 (fun e => by obtain ⟨_, o, ho, hc'⟩ := hr p e.symm; rw [h4] at ho; cases ho; cases hc')).trans h4⟩)
  (fun pre x X Y ⟨pre', h⟩ hbl _ hG => ⟨⟨pre', h.keep hJE HSZ.out.2.1 HSZ.out.2.2.1 HSZ.out.1 HSZ.out.1 (row := none) ⟨hbl.os, hbl.tape, hbl.output, hbl.size, fun k hk _ => hbl.block k hk⟩ (fun _ e => by cases e)⟩, hG⟩) ?assign ?body ?done ?stop
 case kb =>
  have h1 := HSZ.out
  refine ⟨⟨rfl, rfl, rfl, by simp [World.putObj], fun k hk => World.putObj_heap_other (by omega)⟩, World.putObj_heap_other (by omega)⟩
 case assign =>
  rintro l' pre x X K hXs ⟨⟨pre', h⟩, h1⟩ hK
  obtain ⟨p, hp⟩ : ∃ p, p = X.heap.size := ⟨_, rfl⟩
  have hb := (Below.refl _ X).alloc (Nat.le_refl _) (.cells #[.int .u64 (wd x.2.S 0), .int .u64 (wd x.2.S 1), .int .u64 (wd x.2.S 2), .int .u64 (wd x.2.S 3), .int .u64 (wd x.2.S 4), .int .u64 (wd x.2.S 5), .int .u64 (wd x.2.S 6), .int .u64 (wd x.2.S 7), .slice x.2.v.adr x.2.v.len x.2.v.cap] 162 (0, 0))
  have hK2 := Lib.hid (fun a' => hK a' _ hb ⟨hb.mono (by have := HSZ.out; have := h.low.size; omega), hb.block _ h.c.1⟩)
  have hA := Lib.hid (And.intro (⟨pre', h.keep hJE HSZ.out.2.1 HSZ.out.2.2.1 HSZ.out.1 HSZ.out.1 (row := none) ⟨hb.os, hb.tape, hb.output, hb.size, fun k hk _ => hb.block k hk⟩ (fun _ e => by cases e)⟩ : ∃ pre', VvP J WE n₀ p3 Bc o3 oc L pre pre' _) h1)
  have hX2 := Lib.hid (And.intro (show X.heap.size < (X.alloc (.cells #[.int .u64 (wd x.2.S 0), .int .u64 (wd x.2.S 1), .int .u64 (wd x.2.S 2), .int .u64 (wd x.2.S 3), .int .u64 (wd x.2.S 4), .int .u64 (wd x.2.S 5), .int .u64 (wd x.2.S 6), .int .u64 (wd x.2.S 7), .slice x.2.v.adr x.2.v.len x.2.v.cap] 162)).heap.size by simp) (World.alloc_heap_new X (.cells #[.int .u64 (wd x.2.S 0), .int .u64 (wd x.2.S 1), .int .u64 (wd x.2.S 2), .int .u64 (wd x.2.S 3), .int .u64 (wd x.2.S 4), .int .u64 (wd x.2.S 5), .int .u64 (wd x.2.S 6), .int .u64 (wd x.2.S 7), .slice x.2.v.adr x.2.v.len x.2.v.cap] 162)))
  clear hb h h1 hK
  rw [← hp] at hX2
  unfold PEn.val
  gi_wp2
  rw [← hp]
  exact hK2.out p ⟨hA.out, hX2.out⟩
 case body =>
  rintro l' pre ⟨k0, en⟩ p X hrec ⟨⟨⟨pre', hV⟩, hx1, hx2⟩, hpl, hpc⟩ hlen
  dsimp only at *
  subst hx1
  have hXb : Blk X p 162 [.int .u64 (wd en.S 0), .int .u64 (wd en.S 1), .int .u64 (wd en.S 2), .int .u64 (wd en.S 3), .int .u64 (wd en.S 4), .int .u64 (wd en.S 5), .int .u64 (wd en.S 6), .int .u64 (wd en.S 7), .slice en.v.adr en.v.len en.v.cap] := hpc
  have hY3 : Blk X p3 136 [.func (.yield l) #[] #[]] := by have := hV.y.2; rw [← hO3] at this; exact this
  have hC3 : Blk X Bc 122 [.func (.func 60) #[] #[]] := by have := hV.c.2; rw [← hOc] at this; exact this
  have c3 := hY3.cell (i := 0) rfl
  have l3 := hY3.lt
  have d3 := hC3.cell (i := 0) rfl
  have e3 := hC3.lt
  have z8 := hXb.cell (i := 8) rfl
  have zl := hXb.lt
  have hm := List.mem_of_getElem? hx2
  have hEA := (HLE.out.2 en hm).turn (X := X) (fun k hk _ => hV.low.block k hk)
  have HCP := Lib.hid (cpP_any en.v.adr en.v.len en.v.cap X.drew en.v.chs hEA.2 (hEA.rowS.keep (Below.refl _ _).drew))
  have HV := Lib.hid hV
  have HX2 := Eqn.mk hx2
  have HREC := Lib.hid hrec
  have HEL : Hid (en.v.chs.length = en.v.len) := Lib.hid hEA.1.1
  have HYT := Lib.hid (fun (W1 : World) (A' : Option Addr) (c' : Nat) (hb : Below X.heap.size X W1) (hH : Hp X X W1 [.row (.slice A' en.v.len c') 91 2 en.v.len (flat 2 chC en.v.chs)] []) => HY.out pre' (pre.length, ⟨A', en.v.len, c', en.v.chs⟩) X W1 hV.J hb (fun _ => ⟨_, _, by rw [HW3.out.1]; exact hY3⟩) ⟨hV.len.symm, ⟨en, by rw [hV.len]; exact hx2, rfl, rfl⟩, hH⟩ (by rw [hV.len]; exact hlen))
  have HY3 := Lib.hid hY3
  clear hXb hY3 hC3 hm hEA hV hx2 hpc hrec hlen hO3 hOc hpl
  gi_wp2_with fail
  refine Lx.regionY (C := fun Y => Y.cell? ⟨p3, 0, none⟩ = some (.func (.yield l) #[] #[])) (hs := [0]) 6 (List.take 6 _) (List.drop 6 _) (List.take_append_drop 6 _).symm rfl (by kernel_rfl) (by kernel_rfl) (by kernel_rfl) (by kernel_rfl) c3 ?_
  simp only [List.take_succ_cons, List.take_zero, List.drop_succ_cons, List.drop_zero]
  repeat' (first | ((first | refine Lx.ln (fun K hK => ?_) | (first | (refine Lx.lp (v := ?_) ?_ (fun K hK => ?_); rotate_left 1; intro w' hCw; try dsimp only at hCw) | (refine Lx.lr (v := ?_) ?_ (fun K hK => ?_); rotate_left 1)); go_simp; first | done | with_reducible rfl); go_simp; refine hK _ ?_; clear hK K) | (refine Lx.le (fun K hK => ?_); go_simp; (first | (go_at_call 60; refine HCP.out.mono ?_; rintro e W6 ⟨v6, rfl, hown6, hb6⟩; rw [HEL.out] at hown6; have hH6 := (Hp.start X).drew.pushRow hb6 hown6; obtain ⟨A6, c6, rfl⟩ := hH6.form 0 rfl; have hb06 := hH6.below; have HH6 := Lib.hid hH6; have HC6 : Hid (W6.cell? ⟨p3, 0, none⟩ = some (.func (.yield l) #[] #[])) := Lib.hid ((HY3.out.keep hb06).cell rfl); clear hown6 hb6 hH6) | skip); refine hK _ _ (by exact HC6.out) ?_; clear hK K) | (refine Lx.lex_cases rfl rfl rfl (fun hgd K hK => ?_) (fun hgd K hK => ?_) <;> (try simp only [decide_eq_true_eq, decide_eq_false_iff_not] at hgd) <;> (first | (exfalso; omega) | (go_simp; refine hK _ ?_; clear hK K))))
  all_goals (refine Lx.lex_nil ?_)
  obtain ⟨fn, tmps, assign, body, hy, hRd⟩ := HYT.out W6 A6 c6 hb06 HH6.out
  unfold Lem.val at hy
  try dsimp only at hy
  have HRD := Lib.hid hRd
  clear hRd c3 l3 d3 e3 z8 zl HYT HCP
  gi_wp2_with fail
  refine ⟨fun h => by simp [Fence.wide] at h, (roundIn_wide HRD.out).mono ?_⟩
  have hk06 : KeepsFrom WE.heap.size X W6 := ⟨hb06.size, fun k o _ hk ho => (hb06.block k (Array.getElem?_eq_some_iff.1 hk).1).trans hk⟩
  have hsz : n₀ ≤ X.heap.size ∧ W.heap.size ≤ WE.heap.size := ⟨Nat.le_trans HSZ.out.1 HV.out.low.size, HSZ.out.2.2.2⟩
  have HK := Lib.hid (And.intro hk06 (And.intro hb06 hsz))
  clear hk06 hsz hb06
  rintro e W7 (⟨rfl, hJ7, hk7, hkp, hown⟩ | ⟨rfl, hk7, hJx7⟩)
  ·have h7 : VvP J WE n₀ p3 Bc o3 oc L (pre ++ [(pre.length, en)]) (pre' ++ [(pre.length, ⟨A6, en.v.len, c6, en.v.chs⟩)]) W7 := by
    obtain ⟨_, hb06, hn0, _⟩ := HK.out
    have hs7 := hk7.size
    have hb1 : Below n₀ X W6 := hb06.mono hn0
    refine ⟨by rw [List.length_append, List.length_append, HV.out.len]; rfl, hJ7, ⟨by have := HV.out.y.1; have := hb06.size; omega, ?_⟩, ⟨by have := HV.out.c.1; have := hb06.size; omega, ?_⟩, (HV.out.low.trans hb1).trans hkp.1⟩
    ·have h1 := hown trivial
     rw [HW3.out.1] at h1
     exact h1.trans ((hb06.block p3 HV.out.y.1).trans HV.out.y.2)
    ·exact hkp.2.trans ((hb06.block Bc HV.out.c.1).trans HV.out.c.2)
   have hk := keep1_t ⟨HK.out.2.1.mono HK.out.2.2.1, HK.out.2.1.block Bc HV.out.c.1⟩ hkp
   have HF := Lib.hid (And.intro (HK.out.1.trans ⟨hk7.size, fun k o hk' => hk7.same k o (Nat.le_trans HK.out.2.2.2 hk')⟩ : KeepsFrom WE.heap.size X W7) (And.intro hk h7))
   clear hJ7 hk7 hkp hown h7 hk HRD hy
   gi_wp2_with fail
   exact ⟨HF.out.1, HF.out.2.1, (fun h => absurd h (by decide)), _, HF.out.2.2⟩
  ·have HF := Lib.hid (And.intro (HK.out.1.trans ⟨hk7.size, fun k o hk' => hk7.same k o (Nat.le_trans HK.out.2.2.2 hk')⟩ : KeepsFrom WE.heap.size X W7) hJx7)
   clear hk7 hJx7 HRD hy
   gi_wp2_with fail
   exact ⟨HF.out.1, rfl, _, HF.out.2⟩
 case done =>
  rintro D xs X hD hS ⟨pre', h⟩ hX
  have HS := Lib.hid (And.intro h.len (show xs.length = L.length from hS))
  have HX := Lib.hid (And.intro hX h.J)
  clear hX h hS
  gi_wp2_with fail
  show LeavesInM _ _ _ _ _ _ (marksOf [D]) .returning _
  refine leavesMk (Pw := fun Y => J pre' Y) (B := WE.heap.size) (fun Y E h h1 h2 => hJE.putObj _ h h1 h2 rfl) (fun Y hY => ?_) D X HX.out.2 hD HX.out.1
  exact ⟨_, results_none rfl _ _ _, ⟨_, rfl⟩, .inl ⟨pre', HS.out.1.trans HS.out.2, hY⟩⟩
 case stop =>
  rintro D cd xs X hD _ ⟨rfl, pre', h⟩ hX
  have HX := Lib.hid (And.intro hX h)
  clear hX h
  gi_wp2_with fail
  show LeavesInM _ _ _ _ _ _ (marksOf [D]) .returning _
  refine leavesMk (Pw := fun Y => Jx pre' Y) (B := WE.heap.size) (fun Y E h h1 h2 => (own_up HJx.out HSZ.out.2.2.2).putObj _ h h1 h2 rfl) (fun Y hY => ?_) D X HX.out.2 hD HX.out.1
  exact ⟨_, results_none rfl _ _ _, ⟨_, rfl⟩, .inr ⟨pre', trivial, hY⟩⟩
end Go.Proofs.YtdpbbhbegehcjaaGreatDoor

namespace Go.Proofs.YtdpbbhbegehcjaaGreatDoor
open Go.RowKit
namespace Lx
section
variable {P : Program} {ops : Array Oper} {C : World → Prop} {hs : List Nat} {Q : Act → World → Prop} {k : Nat} {o : Oper} {r : List Oper} {a : Act} {w : World}
theorem lex_append_rowR (hk : kind hs k o = 2) (hgd : o.guard = none) (s x : Operand) (t : TypeId)
  (ho : o.op = .call { callee := .builtin .append, args := #[s, x], argTypes := #[t, t] })
  {α : Type} {sz : Nat} {f : α → Nat → Value} (hsz : 0 < sz) (hf : ∀ a j, j < sz → (f a j).oneCell' = true) (base : Nat) (e : TypeId) (i : TypeInfo) (z : Value) (bytes : Nat) (ht : P.underlying t = some (.slice e)) (hi : P.info? e = some i) (hz : i.zero = some z)
  (hsize : i.size = sz) (hby : i.bytes = bytes) (hzs : z.cells.size = sz)
  (v : Value) (n : Nat) (xs : List Value) (hsv : a.eval s = v) (hown : w.ownsRow base e sz v n xs)
  (A : Option Addr) (m c : Nat) (ys : List α) (D : Nat) (hx : a.eval x = .slice A m c) (hy : RowS sz f w D A m ys)
  (h63 : n + m ≤ maxLen) (hbytes : (n + m) * bytes ≤ 140737488355328) (hbase : base ≤ w.heap.size)
  (h : ∀ v' w', w'.ownsRow base e sz v' (n + m) (xs ++ flat sz f ys) → w.grownBy w' v.ownBlock → (v'.ownBlock = v.ownBlock ∨ v'.ownBlock = some w.heap.size) → C w' ∧ lex P ops C hs Q (k + 1) r (a.put o.dst v') w') :
  lex P ops C hs Q k (o :: r) a w := by
 refine lex_eff hk (w0 hgd) fun K hK => ?_
 obtain ⟨v', w', hr, h2, h3, h5⟩ := run_append_rowR (P := P) hsz hf w base t o.type e i z bytes ht hi hz hsize hby hzs v n xs hown A m c ys D hy h63 hbytes hbase
 unfold Oper.wp execOp
 simp only [ho, resolve, invoke, builtin, Sem.run_bind, Sem.run_pure, Result.andThen_ok, List.map_toArray, List.map_cons, List.map_nil, hsv, hx, hr]
 exact hK _ _ (h v' w' h2 h3 h5).1 (h v' w' h2 h3 h5).2
end
end Lx
namespace Lx
theorem wpInW_of_wp {P : Program} {n : Nat} {o : Oper} {a : Act} {w : World} {K : Act → World → Prop} {Q Q' : Exit → Act → World → Prop} (hnd : ∀ c, o.op ≠ .defer c) (hQ : ∀ e a w, Q e a w → e = .normal) (h : o.wp P a w K Q) : o.wpIn Fence.wide n P a w K Q' := by
 unfold Oper.wpIn
 refine ⟨fun _ _ => trivial, ?_⟩
 rw [Oper.semAt_eq _ _ _ hnd]
 unfold Oper.wp at h
 generalize (execOp a.eval o).run P w = r at *
 cases r with
 | ok x w' =>
  cases x with
  | value v => exact h
  | skip => exact h
  | defer d => exact h
  | enter f args =>
   refine ⟨fun hd => (by cases hd), (callsIn_wide.2 (Calls.mono h ?_))⟩
   intro e w'' he
   cases e with
   | returned v => exact he
   | panicked c => exact absurd (hQ _ _ _ he) (by simp)
   | outgrown => obtain ⟨a', w3, hq⟩ := he; exact absurd (hQ _ _ _ hq) (by simp)
  | row row args => exact ⟨fun hd => (by cases hd), fun c cs _ => let ⟨v, w2, r, s⟩ := h c cs; ⟨v, w2, r, stepsIn_wide.2 s⟩⟩
  | _ => exact h.elim
 | halt x w' =>
  cases x with
  | panic v => exact absurd (hQ _ _ _ h) (by simp)
  | _ => exact h.elim
theorem anyInW_of_any {P : Program} {n : Nat} {ops : Array Oper} {Q : Exit → Act → World → Prop} (hnd : ∀ (i : Nat) (o : Oper), ops[i]? = some o → ∀ c, o.op ≠ .defer c) :
  ∀ (fuel : Nat) (listed : Array Bool) (a : Act) (w : World), wpAny P .any ops (fun e a w => e = .normal ∧ Q .normal a w) fuel listed a w → wpAnyIn Fence.wide n P .any ops Q fuel listed a w := by
 intro fuel
 induction fuel with
 | zero => intro listed a w h; exact ⟨h.1, h.2.2⟩
 | succ fuel ih =>
  intro listed a w h
  refine ⟨fun hr => (h.1 hr).2, fun i hi => ?_⟩
  have h1 := h.2 i hi
  unfold wpOp at h1
  unfold wpOpIn
  cases ho : ops[i]? with
  | none => rw [ho] at h1; exact ih _ _ _ h1
  | some o =>
   rw [ho] at h1
   dsimp only at h1 ⊢
   split
   ·rename_i hw
    rw [if_pos hw] at h1
    rcases h1 with h2 | ⟨_, a', w', h2, _⟩
    ·exact Oper.wpIn_mono (fun a w => ih _ a w) (wpInW_of_wp (hnd i o ho) (fun e _ _ he => he.1) h2)
    ·cases h2
   ·rename_i hw
    rw [if_neg hw] at h1
    exact ⟨fun _ _ => trivial, ih _ _ _ h1⟩
end Lx
namespace Lx
theorem any_T {P : Program} {C C' : World → Prop} {hs : List Nat} {Q : Exit → Act → World → Prop} {a : Act} {w : World} (n : Nat) (l1 l2 : List Oper) (hn : l1.length = n) (hok : ok hs (l1 ++ l2).toArray = true) (ht : tailOk n (l1 ++ l2).toArray = true) (hC : C w)
  (h : lex P (l1 ++ l2).toArray C hs (fun a w => C' w ∧ lex P (l1 ++ l2).toArray C' hs (fun a w => Q .normal a w) n l2 a w) 0 l1 a w) : wpAny P .any (l1 ++ l2).toArray Q (l1 ++ l2).toArray.size (Array.replicate (l1 ++ l2).toArray.size false) a w := by
 refine any_of_lexT (C := C) (C' := C') (hs := hs) (n := n) hok ht _ (List.range' 0 n) (List.range' n l2.length) _ a _ hC (by simp [hn]) ?_ ?_ ?_ ?_ ?_ (by simp) ?_
 ·intro i
  simp [Array.getD_eq_getD_getElem?, Array.getElem?_replicate, hn]
  constructor
  ·intro hi
   have : i < n + l2.length := by omega
   exact ⟨this, by simp [this]⟩
  ·rintro ⟨hi, _⟩
   omega
 ·have h1 := List.pairwise_lt_range (n := n + l2.length)
  rw [List.range_eq_range', List.range'_append_1.symm] at h1
  simpa using h1
 ·intro i hi; simp at hi; exact hi
 ·intro i hi; simp at hi; exact hi.1
 ·intro j o ho hl
  simp [Array.getD_eq_getD_getElem?, Array.getElem?_replicate] at hl
  split at hl <;> simp at hl
 ·have e2 := lexN_of_lex (P := P) (ops := (l1 ++ l2).toArray) (C := C') (hs := hs) (Q := fun a w => Q .normal a w) l2 n (fun m => by rw [List.getElem?_toArray, List.getElem?_append_right (by omega)]; congr 1; omega)
  rw [e2] at h
  have e1 := lexN_of_lexP (P := P) (ops := (l1 ++ l2).toArray) (C := C) (hs := hs) (Q := fun a w => C' w ∧ lexN P (l1 ++ l2).toArray C' hs (fun a w => Q .normal a w) (List.range' n l2.length) a w) l1 0 (fun m hm => by rw [Nat.zero_add, List.getElem?_toArray, List.getElem?_append_left hm])
  rw [e1, hn] at h
  exact h
theorem noDefer_at {l : List Oper} (hd : noDefer l = true) : ∀ (i : Nat) (o : Oper), l.toArray[i]? = some o → ∀ c, o.op ≠ .defer c := by
 intro i o ho c hc
 have hmem : o ∈ l := by
  have : l[i]? = some o := by simpa using ho
  exact List.mem_of_getElem? this
 have := List.all_eq_true.1 hd o hmem
 rw [hc] at this
 cases this
theorem regionTW {P : Program} {C C' : World → Prop} {hs : List Nat} {id r : Nat} {l : List Oper} {Q : Exit → Act → World → Prop} {a : Act} {w : World} (n : Nat) (l1 l2 : List Oper) (hl : l = l1 ++ l2) (hn : l1.length = n) (hm : P.follows .mixedOrders = true) (hok : ok hs l.toArray = true) (ht : tailOk n l.toArray = true) (hd : noDefer l = true) (hC : C w.drew)
  (h : lex P l.toArray C hs (fun a w => C' w ∧ lex P l.toArray C' hs (fun a w => Q .normal a w) n l2 a w) 0 l1 a w.drew) : (Code.region id l.toArray true).wpIn Fence.wide r P Q a w := by
 subst hl
 refine wpIn_region_any hm (anyInW_of_any (noDefer_at hd) _ _ _ _ ?_)
 refine any_T (C := C) (C' := C') (hs := hs) n l1 l2 hn hok ht hC ?_
 have h2 : (fun a w => (fun e a w => e = Exit.normal ∧ Q Exit.normal a w) Exit.normal a w) = fun a w => Q Exit.normal a w := by
  funext a w; simp
 rw [h2]
 exact h
theorem regionTIn {P : Program} {C C' : World → Prop} {hs : List Nat} {id r q : Nat} {l : List Oper} {Q : Exit → Act → World → Prop} {a : Act} {w : World} (n : Nat) (l1 l2 : List Oper) (hl : l = l1 ++ l2) (hn : l1.length = n) (hm : P.follows .mixedOrders = true) (hok : ok hs l.toArray = true) (ht : tailOk n l.toArray = true) (hd : noDefer l = true) (hC : C w.drew)
  (h : lex P l.toArray C hs (fun a w => C' w ∧ lex P l.toArray C' hs (fun a w => Q .normal a w) n l2 a w) 0 l1 a w.drew) : (Code.region id l.toArray true).wpIn (Fence.wide.inRound q) r P Q a w := by
 subst hl
 refine wpIn_region_any hm (anyIn_of_any (noDefer_at hd) _ _ _ _ ?_)
 refine any_T (C := C) (C' := C') (hs := hs) n l1 l2 hn hok ht hC ?_
 have h2 : (fun a w => (fun e a w => e = Exit.normal ∧ Q Exit.normal a w) Exit.normal a w) = fun a w => Q Exit.normal a w := by
  funext a w; simp
 rw [h2]
 exact h
end Lx
end Go.Proofs.YtdpbbhbegehcjaaGreatDoor
