/- A region that draws its order, with one pair of effects that nothing orders: two walks, one for each order of the pair. Nothing of the program is named here. -/
import Derived.RangeFuncCalls
import Derived.Shelf.Abstract
import Derived.Shelf.RegionOpen
import Derived.OwnWalkIn
import Derived.TacticsInMore
import Derived.LoopNIn
import Derived.LoopIn
import Derived.Sort.LoopGhostIn
import Derived.Sort.CutIn
import Derived.Maps.OwnIn
import Derived.ScopeJumps
import Derived.Test.YtdpbbhbegehcjaaGreatDoorPla01
import Derived.Test.YtdpbbhbegehcjaaGreatDoorPla14
import Derived.Test.YtdpbbhbegehcjaaGreatDoorPla15
set_option maxRecDepth 100000
set_option maxHeartbeats 2000000
namespace Go.Proofs.YtdpbbhbegehcjaaGreatDoor
open Go.RowKit Go.Shelf
def SeqHands {α : Type} (F : Fence) (n : Nat) (P : Program) (g : Nat) (lb : Array Value) (encs : α → Array Value) (Kp : World → World → Prop) (own : Bool) (G : List α → α → World → World → Prop) (S Sp : List α → Prop) (N : Nat) (w : World) : Prop :=
 ∀ (l : Nat) (J Jx : List α → World → Prop) (W : World), Below w.heap.size w W → OwnFrom W.heap.size J → OwnFrom W.heap.size Jx →
  (∀ pre x X W1, J pre X → Below X.heap.size X W1 → (own = true → ∃ c t, X.heap[W.heap.size]? = some (.cells c t (0, 0))) → G pre x X W1 → pre.length < N → YieldAt F (n - 1) P l (encs x) W1 fun e W' =>
   (e = .returned (.bool true) ∧ J (pre ++ [x]) W' ∧ KeepsFrom W.heap.size W1 W' ∧ Kp W1 W' ∧ (own = true → W'.heap[W.heap.size]? = W1.heap[W.heap.size]?)) ∨ (e = .returned (.bool false) ∧ KeepsFrom W.heap.size W1 W' ∧ Jx (pre ++ [x]) W')) →
  J [] W →
  CallsIn F n P g (#[.func (.yield l) #[] #[]] ++ lb) W fun e W' => (∃ v, e = .returned v) ∧ ((∃ xs, S xs ∧ J xs W') ∨ (∃ pre, Sp pre ∧ Jx pre W'))
theorem own_kept {β : Type} {B : Nat} {I : β → World → Prop} (h : OwnFrom B I) {s : β} {X W : World} (hs : I s X) (hb : Below X.heap.size X W) : I s W :=
 h s X W none hs ⟨hb.os, hb.tape, hb.output, hb.size, fun k hk _ => hb.block k hk⟩ (fun _ e => by cases e)
theorem own_up {β : Type} {B B' : Nat} {I : β → World → Prop} (h : OwnFrom B I) (hB : B ≤ B') : OwnFrom B' I := fun s W W' row hs hg hr => h s W W' row hs hg (fun r e => ⟨Nat.le_trans hB (hr r e).1, (hr r e).2⟩)
theorem own_block {β : Type} {B l : Nat} (hl : l < B) (p : Option Obj → Prop) : OwnFrom B (fun (_ : β) W => l < W.heap.size ∧ p W.heap[l]?) := fun _ W W' row hs hg hr =>
 ⟨Nat.lt_of_lt_of_le hs.1 hg.size, by
  rw [hg.block l hs.1 (fun e => by have := (hr l e.symm).1; omega)]; exact hs.2⟩
section
variable {α : Type} {F : Fence} {n : Nat} {P : Program} {g : Operand} {ps : Array Tmp} {assign body : Code} {Q : Exit → Act → World → Prop} {a : Act} {w : World} {gf : Nat} {lb : Array Value} {encs : α → Array Value} {Kp : World → World → Prop} {own : Bool} {G : List α → α → World → World → Prop} {S Sp : List α → Prop} {N : Nat}
def handPost (B : Nat) (Kp : World → World → Prop) (own : Bool) (I : List α → World → Prop) (Ix : Code → List α → World → Prop) (xs : List α) (W : World) : Exit → Act → World → Prop
 | .normal, _, W' => KeepsFrom B W W' ∧ Kp W W' ∧ (own = true → W'.heap[B + 2]? = W.heap[B + 2]?) ∧ I xs W'
 | .ret, _, W' => KeepsFrom B W W' ∧ Ix .ret xs W'
 | .exit id, _, W' => KeepsFrom B W W' ∧ Ix (.exit id) xs W'
 | .goto t, _, W' => KeepsFrom B W W' ∧ Ix (.goto t) xs W'
 | .panic _, _, _ => False
 | .outgrown, _, _ => False
theorem range_hands (hro : F.round = none) (h1 : 1 ≤ n) (hg : a.eval g = .func (.func gf) #[] lb) (hFg : F.fn gf) (eg : ∀ args w, (callFunc gf args).run P w = .ok (.enter gf args) w)
  (hseq : SeqHands F (n - 1) P gf lb encs Kp own G S Sp N w) (hKt : ∀ {A B C : World}, Kp A B → Kp B C → Kp A C) (hKb : ∀ (W : World) (o o' : Obj), W.heap[w.heap.size + 1]? = some o → o.isCells = false → Kp W (W.putObj (w.heap.size + 1) o')) (hps : ∀ x, (encs x).size = ps.size)
  (I : List α → World → Prop) (Ix : Code → List α → World → Prop) (hI : OwnFrom w.heap.size I) (hIx : ∀ c, OwnFrom w.heap.size (Ix c)) (h0 : I [] w)
  (A : List α → α → World → Prop) (A' : List α → α → Act → World → Prop) (hA : ∀ pre x a', OwnFrom w.heap.size (fun (_ : Unit) W => A' pre x a' W)) (hgive : ∀ pre x X W, I pre X → Below X.heap.size X W → (own = true → ∃ c t, X.heap[w.heap.size + 2]? = some (.cells c t (0, 0))) → G pre x X W → A pre x W)
  (hassign : ∀ (l : Nat) (pre : List α) (x : α) (W : World) (K : Act → World → Prop), w.heap.size < W.heap.size → A pre x W → (∀ a' W', Below W.heap.size W W' → Kp W W' → A' pre x a' W' → K a' W') → assign.wpIn (F.inRound l) (n - 1 - 1) P (Exit.then K (fun _ _ _ => False)) { tmps := (ps.zip (encs x)).foldl (fun t (p, v) => t.setIfInBounds p v) a.tmps, defers := [] } W)
  (hbody : ∀ (l : Nat) (pre : List α) (x : α) (a' : Act) (W : World), (∃ r, W.heap[l]? = some (.loop r)) → A' pre x a' W → pre.length < N → body.wpIn (F.inRound l) (n - 1 - 1) P (handPost w.heap.size Kp own I Ix (pre ++ [x]) W) a' W)
  (hdone : ∀ (D : Nat) (xs : List α) (W : World), w.heap.size ≤ D → S xs → I xs W → W.heap[D]? = some (.deferred (some [])) → Q .normal { a with defers := { target := .collected D, args := #[] } :: a.defers } W)
  (hstop : ∀ (D : Nat) (c : Code) (pre : List α) (W : World), w.heap.size ≤ D → Sp pre → Ix c pre W → W.heap[D]? = some (.deferred (some [])) → c.wpIn F n P Q { a with defers := { target := .collected D, args := #[] } :: a.defers } W) :
  (Code.rangeFunc g ps assign body).wpIn F n P Q a w := by
 refine wpIn_rangeFunc (fun fn hfn => ?_)
 rw [hro]
 obtain ⟨R, hR⟩ : ∃ R : LoopState → Option Code → Loop, R = fun st pe => { state := st, pending := pe, fn, tmps := a.tmps, params := ps, assign, body, defers := w.heap.size } := ⟨_, rfl⟩
 obtain ⟨B, hB⟩ : ∃ B, B = w.heap.size := ⟨_, rfl⟩
 have hW1 : ∃ V : World, V = (w.alloc (.deferred (some []))).alloc (.loop (R .ready none)) := ⟨_, rfl⟩
 obtain ⟨V, hV⟩ := hW1
 have sV : V.heap.size = B + 2 := by rw [hV, hB]; simp
 have bV : Below w.heap.size w V := by rw [hV]; exact ((Below.refl _ w).alloc (Nat.le_refl _) _).alloc (by simp) _
 have lV : V.heap[B + 1]? = some (.loop (R .ready none)) := by
  rw [hV, hB]; have := World.alloc_heap_new (w.alloc (.deferred (some []))) (.loop (R .ready none)); rwa [World.size_alloc] at this
 have dV : V.heap[B]? = some (.deferred (some [])) := by
  rw [hV, hB]; exact (Below.heap_alloc _ _ _ (by simp)).trans (World.alloc_heap_new w _)
 -- what the caller knows all along: its invariant, the loop's record, the block of deferred calls
 obtain ⟨C, hC⟩ : ∃ C : Loop → World → Prop, C = fun r W => (B + 1 < W.heap.size ∧ W.heap[B + 1]? = some (.loop r)) ∧ (B < W.heap.size ∧ W.heap[B]? = some (.deferred (some []))) := ⟨_, rfl⟩
 have ownC : ∀ r, OwnFrom V.heap.size (fun (_ : List α) W => C r W) := by
  intro r; rw [hC]
  exact (own_block (by omega) (fun o => o = some (.loop r))).and (own_block (by omega) (fun o => o = some (.deferred (some []))))
 have keepC : ∀ (r r' : Loop) (W W' : World), C r W → KeepsFrom B W W' → C r' (W'.putObj (B + 1) (.loop r')) ∧ W'.heap[B + 1]? = some (.loop r) := by
  intro r r' W W' h hk
  rw [hC] at h ⊢
  have e1 := hk.same _ _ (by omega) h.1.2 rfl
  have e2 := hk.same _ _ (Nat.le_refl _) h.2.2 rfl
  have s1 := (Array.getElem?_eq_some_iff.1 e1).1
  have s2 : (W'.putObj (B + 1) (.loop r')).heap.size = W'.heap.size := by simp [World.putObj]
  exact ⟨⟨⟨by omega, World.putObj_heap_same s1⟩, by omega, (World.putObj_heap_other (by omega)).trans e2⟩, e1⟩
 refine ⟨B + 1, [{ target := .collected B, args := #[] }], V, { target := .fn (.func gf) lb, args := #[.func (.yield (B + 1)) #[] #[]] }, V, gf, #[.func (.yield (B + 1)) #[] #[]] ++ lb, V, ?_, ?_, ?_, ?_, fun _ => h1, ?_⟩
 ·rw [hV, hR, hB]; exact run_enterLoop_outer _ _ _ _ _
 ·simp only [resolve, hg]
  simp [go_sem]
 ·intro f' hf'
  simp [Target.leads] at hf'
  subst hf'
  exact hFg
 ·simp [invoke, go_sem, eg]
 have hBV : B ≤ V.heap.size := by omega
 rw [← hB] at hI hIx hA hKb hgive hbody hdone hstop
 refine (hseq (B + 1) (fun pre W => I pre W ∧ C (R .ready none) W) (fun pre W => ∃ c, Ix c pre W ∧ C (R .done (some c)) W) V bV ((own_up hI hBV).and (ownC _))
  (fun s W W' row hs hg' hr => by
   obtain ⟨c, h2, h3⟩ := hs
   exact ⟨c, own_up (hIx c) hBV s W W' row h2 hg' hr, ownC _ s W W' row h3 hg' hr⟩) ?_ ⟨own_kept hI h0 bV, by rw [hC]; exact ⟨⟨by omega, lV⟩, by omega, dV⟩⟩).mono ?_
 ·rintro pre x X W ⟨hi, hc⟩ hbl hown hgx hlen
  rw [sV] at hown
  have hcW : C (R .ready none) W := own_kept (ownC _) (s := []) hc hbl
  have hcW' := hcW
  rw [hC] at hcW'
  obtain ⟨⟨l1, l2⟩, _⟩ := hcW'
  have hy := run_yield (P := P) (args := encs x) l2 (by rw [hR]; exact hps x)
  rw [hR] at hy
  refine ⟨fn, _, assign, body, hy, roundIn_of_wpIn hfn (hassign _ pre x W _ (by omega) (hgive pre x X W hi hbl hown hgx) ?_)⟩
  clear hy
  intro a' Wa hba hka hAa
  have hcWa : C (R .ready none) Wa := own_kept (ownC _) (s := []) hcW hba
  have hown2 : own = true → Wa.heap[B + 2]? = W.heap[B + 2]? := fun ho => by
   obtain ⟨c, t, hc'⟩ := hown ho
   exact hba.block _ (by have := (Array.getElem?_eq_some_iff.1 hc').1; have := hbl.size; omega)
  have hcW' := hcWa
  rw [hC] at hcW'
  obtain ⟨⟨l1, l2⟩, _⟩ := hcW'
  refine ⟨_, run_beginRound l2 (by rw [hR]), ?_⟩
  obtain ⟨Y, hY⟩ : ∃ Y : World, Y = Wa.putObj (B + 1) (.loop { R .ready none with state := .busy }) := ⟨_, rfl⟩
  have hcY : C { R .ready none with state := .busy } Y := by rw [hY]; exact (keepC _ _ Wa Wa hcWa (KeepsFrom.refl _ _)).1
  have lY : Y.heap[B + 1]? = some (.loop { R .ready none with state := .busy }) := by rw [hY]; exact World.putObj_heap_same l1
  have hAY : A' pre x a' Y := by rw [hY]; exact (hA pre x a').putObj (s := ()) _ hAa (by omega) l2 rfl
  have kY : KeepsFrom V.heap.size W Y := by
   rw [hY]
   exact KeepsFrom.trans ⟨hba.size, fun k o _ hk _ => (hba.block k (Array.getElem?_eq_some_iff.1 hk).1).trans hk⟩ (KeepsFrom.of_grownBy (grownBy_putObj' Wa _ _) (fun j e => by cases e; omega))
  have pY : Kp W Y := by rw [hY]; exact hKt hka (hKb Wa _ _ l2 rfl)
  have hb := hbody _ pre x a' Y ⟨_, lY⟩ hAY hlen
  rw [hY] at hb
  refine wpIn_mono hb ?_
  clear hb
  have fin : ∀ (jump : Option Code) (W3 : World), KeepsFrom B Y W3 → ∃ r', (Instr.endRound (B + 1) jump).run P W3 = .ok (.bool jump.isNone) (W3.putObj (B + 1) (.loop r')) ∧ r' = R (if jump.isNone then .ready else .done) jump ∧
    C r' (W3.putObj (B + 1) (.loop r')) ∧ KeepsFrom V.heap.size W (W3.putObj (B + 1) (.loop r')) ∧ W3.heap[B + 1]? = some (.loop { R .ready none with state := .busy }) := by
   intro jump W3 hk3
   obtain ⟨h4, h5⟩ := keepC _ (R (if jump.isNone then .ready else .done) jump) Y W3 hcY hk3
   refine ⟨_, ?_, rfl, h4, (kY.trans ⟨hk3.size, fun k o hk => hk3.same k o (by omega)⟩).trans (KeepsFrom.of_grownBy (grownBy_putObj' W3 _ _) (fun j e => by cases e; omega)), h5⟩
   have := run_endRound (P := P) jump h5
   rw [hR] at this ⊢
   exact this
  have stop : ∀ (c : Code) (W3 : World), KeepsFrom B Y W3 → Ix c (pre ++ [x]) W3 → ∃ v w', (Instr.endRound (B + 1) (some c)).run P W3 = .ok v w' ∧ (Ending.returned v = .returned (.bool false) ∧ KeepsFrom V.heap.size W w' ∧ ∃ c', Ix c' (pre ++ [x]) w' ∧ C (R .done (some c')) w') := by
   intro c W3 hk3 hi3
   obtain ⟨r', h4, rfl, h5, h6, h7⟩ := fin (some c) W3 hk3
   exact ⟨_, _, h4, rfl, h6, c, (hIx c).putObj _ hi3 (by omega) h7 rfl, h5⟩
  rintro e a3 W3 hp
  rw [← hY] at hp
  cases e with
  | normal =>
   obtain ⟨hk3, hkp3, hko3, hi3⟩ := hp
   obtain ⟨r', h4, rfl, h5, h6, h7⟩ := fin none W3 hk3
   refine ⟨_, _, h4, .inl ⟨rfl, ⟨hI.putObj _ hi3 (by omega) h7 rfl, h5⟩, h6, hKt (hKt pY hkp3) (hKb W3 _ _ h7 rfl), fun ho => ?_⟩⟩
   rw [sV, World.putObj_heap_other (by omega), hko3 ho, hY, World.putObj_heap_other (by omega), hown2 ho]
  | ret => obtain ⟨v, w', h4, h5⟩ := stop .ret W3 hp.1 hp.2; exact ⟨v, w', h4, .inr h5⟩
  | exit id => obtain ⟨v, w', h4, h5⟩ := stop (.exit id) W3 hp.1 hp.2; exact ⟨v, w', h4, .inr h5⟩
  | goto t => obtain ⟨v, w', h4, h5⟩ := stop (.goto t) W3 hp.1 hp.2; exact ⟨v, w', h4, .inr h5⟩
  | panic ch => exact hp.elim
  | outgrown => exact hp.elim
 ·rintro e W2 ⟨⟨v, rfl⟩, (⟨xs, hS, hi, hc⟩ | ⟨pre, hSp, c, hi, hc⟩)⟩
  ·rw [hC] at hc
   obtain ⟨⟨_, l2⟩, _, d2⟩ := hc
   exact ⟨none, _, by have := run_endLoop (P := P) l2 (by rw [hR]; simp); rw [hR] at this; exact this, hdone _ xs _ (Nat.le_refl _) hS (hI.putObj _ hi (by omega) l2 rfl) ((World.putObj_heap_other (by omega)).trans d2)⟩
  ·rw [hC] at hc
   obtain ⟨⟨_, l2⟩, _, d2⟩ := hc
   exact ⟨some c, _, by have := run_endLoop (P := P) l2 (by rw [hR]; simp); rw [hR] at this; exact this, hstop _ c pre _ (Nat.le_refl _) hSp ((hIx c).putObj _ hi (by omega) l2 rfl) ((World.putObj_heap_other (by omega)).trans d2)⟩
end
section
variable {α σ : Type} {w W : World} {ds : List Nat} {g : Operand} {ps : Array Tmp} {assign body : Code} {Q : Exit → Act → World → Prop} {a : Act} {n gf : Nat} {lb : Array Value} {encs : α → Array Value} {own : Bool} {G : List α → α → World → World → Prop} {S Sp : List α → Prop} {N n₀ Bn t0 : Nat} {s0 : List Value}
def hpHand (w : World) (e : Ent) (Lf : σ → List Ent) (ds : List Nat) (R : List α → σ → Prop) (Rx : Code → List α → σ → Prop) (xs : List α) (X : World) : Exit → Act → World → Prop
 | .normal, _, Y => ∃ s, R xs s ∧ Hp w X Y (e :: Lf s) ds
 | .ret, _, Y => ∃ s, Rx .ret xs s ∧ Hp w X Y (Lf s) ds
 | .exit id, _, Y => ∃ s, Rx (.exit id) xs s ∧ Hp w X Y (Lf s) ds
 | .goto t, _, Y => ∃ s, Rx (.goto t) xs s ∧ Hp w X Y (Lf s) ds
 | .panic _, _, _ => False
 | .outgrown, _, _ => False
theorem Hp.front {u W : World} {L : List Ent} (h : Hp w u W L ds) {b t : Nat} {c : Array Value} (hb : W.heap[b]? = some (.cells c t (0, 0))) (hl : w.heap.size ≤ b) (hn : ∀ e ∈ L, e.dst ≠ some b) : Hp w u W (.blk b t c.toList :: L) ds := by
 refine ⟨h.below, h.since, fun e he => ?_, fun e he g hg => ?_, List.pairwise_cons.2 ⟨fun e he g hg hg' => ?_, h.apart⟩, h.marks, h.nodup⟩
 ·rcases List.mem_cons.1 he with rfl | he
  ·exact hb
  ·exact h.all e he
 ·rcases List.mem_cons.1 he with rfl | he
  ·cases hg; exact hl
  ·exact h.low e he g hg
 ·cases hg; exact hn e he hg'
theorem Hp.frontNil {u W : World} {L : List Ent} (h : Hp w u W L ds) : Hp w u W (.row (.slice none 0 0) 0 0 0 [] :: L) ds := by
 refine ⟨h.below, h.since, fun e he => ?_, fun e he g hg => ?_, List.pairwise_cons.2 ⟨fun e he g hg => (by cases hg), h.apart⟩, h.marks, h.nodup⟩
 ·rcases List.mem_cons.1 he with rfl | he
  ·exact ⟨rfl, .inl ⟨rfl, rfl⟩⟩
  ·exact h.all e he
 ·rcases List.mem_cons.1 he with rfl | he
  ·cases hg
  ·exact h.low e he g hg
theorem hp_hands (Lf : σ → List Ent) (R : List α → σ → Prop) (Rx : Code → List α → σ → Prop) (iB : Nat) (Lg : α → List Ent) (Fx : List α → α → Prop) (a₁ : α → Nat → Act) (tb : Nat) (bv : α → List Value) (h1 : 1 ≤ n) (hg : a.eval g = .func (.func gf) #[] lb) (eg : ∀ args w, (callFunc gf args).run Tryz.prog w = .ok (.enter gf args) w)
  (hseq : SeqHands Fence.wide (n - 1) Tryz.prog gf lb encs (Keep1 n₀ Bn) own G S Sp N W) (hn : n₀ ≤ w.heap.size) (hps : ∀ x, (encs x).size = ps.size) {u : World} (s : σ) (h0 : R [] s) (hH : Hp w u W (Lf s) ds) (hiB : ∀ s, (Lf s)[iB]? = some (.blk Bn t0 s0))
  (hgive : ∀ (pre : List α) (x : α) (L : List Ent) (X Y : World), Hp w X X L ds → Below X.heap.size X Y → G pre x X Y → Fx pre x ∧ Hp w X Y (L ++ Lg x) ds ∧ ∀ e ∈ Lg x, ∀ g, e.dst = some g → X.heap.size ≤ g)
  (hassign : ∀ (l : Nat) (x : α) (p : Nat) (W : World) (K : Act → World → Prop), p = W.heap.size → K (a₁ x p) (W.alloc (.cells (bv x).toArray tb)) → assign.wpIn (Fence.wide.inRound l) (n - 1 - 1) Tryz.prog (Exit.then K (fun _ _ _ => False)) { tmps := (ps.zip (encs x)).foldl (fun t (p, v) => t.setIfInBounds p v) a.tmps, defers := [] } W)
  (hbody : ∀ (l : Nat) (pre : List α) (x : α) (e : Ent) (p : Nat) (X : World) (s : σ), (∃ r, X.heap[l]? = some (.loop r)) → R pre s → Fx pre x → Hp w X X (e :: (Lf s ++ Lg x) ++ [.blk p tb (bv x)]) ds → pre.length < N → body.wpIn (Fence.wide.inRound l) (n - 1 - 1) Tryz.prog (hpHand w e Lf ds R Rx (pre ++ [x]) X) (a₁ x p) X)
  (hdone : ∀ (D : Nat) (xs : List α) (X : World) (s : σ), S xs → R xs s → Hp w X X (Lf s) (D :: ds) → Q .normal { a with defers := { target := .collected D, args := #[] } :: a.defers } X)
  (hstop : ∀ (D : Nat) (c : Code) (pre : List α) (X : World) (s : σ), Sp pre → Rx c pre s → Hp w X X (Lf s) (D :: ds) → c.wpIn Fence.wide n Tryz.prog Q { a with defers := { target := .collected D, args := #[] } :: a.defers } X) :
  (Code.rangeFunc g ps assign body).wpIn Fence.wide n Tryz.prog Q a W := by
 have hB := hH.below.size
 have hds : ∀ D ∈ ds, D < W.heap.size := fun D hD => (Array.getElem?_eq_some_iff.1 (hH.marks D hD).2).1
 have hbn : Bn < W.heap.size := hH.lt iB (hiB s)
 have hb2 : ∀ e ∈ Lf s, e.dst ≠ some (W.heap.size + 2) := fun e he hd => by have := Ent.lt (hH.all e he) hd; omega
 refine range_hands rfl h1 hg trivial eg hseq keep1_t (fun X o o' hl hc => ?_) hps
  (fun pre X => ∃ s, R pre s ∧ Hp w X X (Lf s) ds ∧ ∀ e ∈ Lf s, own = true → e.dst ≠ some (W.heap.size + 2)) (fun c pre X => ∃ s, Rx c pre s ∧ Hp w X X (Lf s) ds)
  (fun _ _ _ _ ⟨s, h2, h3, h4⟩ hg hr => ⟨s, h2, h3.turn hg hr hB hds, h4⟩) (fun c => hp_own hB hds Lf (Rx c)) ⟨s, h0, hH.rebase, fun e he _ => hb2 e he⟩
  (fun pre x X => ∃ s e, R pre s ∧ Fx pre x ∧ Hp w X X (e :: (Lf s ++ Lg x)) ds ∧ (own = true → ∃ t c, e = .blk (W.heap.size + 2) t c)) (fun pre x a' X => ∃ s e p, R pre s ∧ Fx pre x ∧ Hp w X X (e :: (Lf s ++ Lg x) ++ [.blk p tb (bv x)]) ds ∧ (own = true → ∃ t c, e = .blk (W.heap.size + 2) t c) ∧ a' = a₁ x p) (fun pre x a' _ _ _ _ ⟨s, e, p, h2, h3, h4, h5, h6⟩ hg hr => ⟨s, e, p, h2, h3, h4.turn hg hr hB hds, h5, h6⟩)
  (fun pre x X Y ⟨s, h2, h3, h4⟩ hbl hown hG => ?_) (fun l pre x X K hXs ⟨s, e, h2, h3, h4, h5⟩ hK => ?_) ?_ ?_ ?_
 ·refine ⟨⟨rfl, rfl, rfl, by simp [World.putObj], fun k hk => World.putObj_heap_other (by omega)⟩, World.putObj_heap_other (by omega)⟩
 ·obtain ⟨f1, f2, f3⟩ := hgive pre x (Lf s) X Y h3 hbl hG
  cases hw : own with
  | false => exact ⟨s, _, h2, f1, f2.rebase.frontNil, fun e => by cases e⟩
  | true =>
   obtain ⟨c, t, hc⟩ := hown hw
   have hlt := (Array.getElem?_eq_some_iff.1 hc).1
   refine ⟨s, .blk (W.heap.size + 2) t c.toList, h2, f1, f2.rebase.front ((hbl.block _ hlt).trans hc) (by omega) (fun e he hd => ?_), fun _ => ⟨_, _, rfl⟩⟩
   rcases List.mem_append.1 he with he | he
   ·exact h4 e he hw hd
   ·have := f3 e he _ hd; omega
 ·exact hassign l x _ X K rfl (hK _ _ ((Below.refl _ X).alloc (Nat.le_refl _) _) ⟨((Below.refl _ X).alloc (Nat.le_refl _) _).mono (by omega), Below.heap_alloc _ _ _ (by omega)⟩ ⟨s, e, _, h2, h3, (h4.alloc (bv x) tb).rebase, h5, rfl⟩)
 ·rintro l pre x a' X hrec ⟨s, e, p, h2, h3, h4, h5, rfl⟩ hlen
  refine wpIn_mono (hbody l pre x e p X s hrec h2 h3 h4 hlen) ?_
  intro ex a' Y he
  cases ex with
  | normal =>
   obtain ⟨s', r2, r3⟩ := he
   have hil := (List.getElem?_eq_some_iff.1 (hiB s)).1
   have hk : (e :: (Lf s ++ Lg x) ++ [.blk p tb (bv x)])[iB + 1]? = some (.blk Bn t0 s0) := by
    rw [List.cons_append, List.getElem?_cons_succ, List.append_assoc, List.getElem?_append_left hil]; exact hiB s
   refine ⟨r3.since.from _, hp_keep1 (i := iB + 1) hn h4 r3 hk (hiB s'), fun ho => ?_, s', r2, r3.rebase.sub (List.sublist_cons_self _ _), fun e' he' ho hd => ?_⟩
   ·obtain ⟨t, c, rfl⟩ := h5 ho
    exact (r3.blk 0 rfl).trans (h4.blk 0 rfl).symm
   ·obtain ⟨t, c, rfl⟩ := h5 ho
    exact (List.pairwise_cons.1 r3.apart).1 e' he' _ rfl hd
  | ret => obtain ⟨s', r2, r3⟩ := he; exact ⟨r3.since.from _, s', r2, r3.rebase⟩
  | exit id => obtain ⟨s', r2, r3⟩ := he; exact ⟨r3.since.from _, s', r2, r3.rebase⟩
  | goto t => obtain ⟨s', r2, r3⟩ := he; exact ⟨r3.since.from _, s', r2, r3.rebase⟩
  | panic c => exact he.elim
  | outgrown => exact he.elim
 ·rintro D xs X hD hS ⟨s, h2, h3, _⟩ hK
  exact hdone D xs X s hS h2 (h3.mark hK (by omega) (fun E hE => by have := hds E hE; omega))
 ·rintro D c pre X hD hS ⟨s, h2, h3⟩ hK
  exact hstop D c pre X s hS h2 (h3.mark hK (by omega) (fun E hE => by have := hds E hE; omega))
end
attribute [local go_sem] Oper.semAt_some
theorem allP_any (A : Option Addr) (m c : Nat) (w : World) : Calls Tryz.prog 85 #[.agg #[.slice A m c]] w fun e w' => e = .returned (.func (.func 117) #[] #[.pointer (some ⟨w.heap.size, 0, none⟩)]) ∧ w' = w.alloc (.cells #[.slice A m c] 105) := by
 go_enter Tryz.func85, Tryz.ntmps85
 go_wp2
 go_ret
 exact ⟨rfl, rfl⟩
theorem all1P (n : Nat) (hn : 1 ≤ n) (n₀ Bn Bq : Nat) (A : Option Addr) (m c : Nat) (L : List PEn) (w : World) (hB : Blk w Bq 105 [.slice A m c]) (hL : RowX 9 PEn.cell w (· < n₀) A m L) (hn₀ : n₀ ≤ w.heap.size) (hm : m ≤ 100000) :
  SeqHands Fence.wide n Tryz.prog 117 #[.pointer (some ⟨Bq, 0, none⟩)] (fun x : Nat × PEn => #[Value.int .i64 x.1, x.2.val]) (Keep1 n₀ Bn) false (fun pre x _ _ => x.1 = pre.length ∧ L[pre.length]? = some x.2) (fun xs => xs.length = L.length) (fun _ => True) L.length w := by
 intro l J Jx W hW hJ hJx hY h0
 refine callsIn_of_wp Tryz.func117 rfl trivial ?_ rfl
 simp only [Tryz.ntmps117, List.size_toArray, List.length_cons, List.length_nil, Nat.reduceAdd, Nat.reduceSub, Array.replicate_succ, Array.replicate_zero, List.push_toArray, List.append_toArray, List.nil_append, List.cons_append]
 have hlen := hL.1
 have c0 : W.cell? ⟨Bq, 0, none⟩ = some (.slice A m c) := (hB.keep hW).cell rfl
 have HL := Lib.hid (hL.keep (by decide) hW)
 have HS := Lib.hid (Nat.le_trans hn₀ hW.size)
 have H0 := Lib.hid h0
 have HY := Lib.hid hY
 have HJ := Lib.hid hJ
 have Hlen := Eqn.mk hlen
 clear hB hL hlen hW hJ hJx hY h0 hn₀
 gi_wp2_with fail
 gi_loopw [8] (fun i wr => ∃ (k : Nat) (pre : List (Nat × PEn)), k ≤ m ∧ i = .int .i64 k ∧ pre.length = k ∧ J pre wr ∧ Below n₀ W wr) (fun i _ => m - (intOf i).toNat)
 case atStart => exact ⟨0, [], Nat.zero_le _, rfl, rfl, H0.out, Below.refl _ _⟩
 case round =>
  clear H0 c0
  obtain ⟨k, pre, hk, rfl, hp, hJs, hb⟩ := hrel
  by_cases hlt : k < m
  ·have j0 : (k : Int) < (m : Int) := by omega
   obtain ⟨x, hx⟩ : ∃ x, L[k]? = some x := ⟨_, List.getElem?_eq_getElem (by rw [Hlen.out]; exact hlt)⟩
   have hR := HL.out.turn (by decide) (fun q (hq : q < n₀) _ => hb.block q hq)
   obtain ⟨b, off, rfl, hbn, hcell⟩ := hR.2 (by omega)
   have y0 : wr.cell? ⟨b, off + k * 9, none⟩ = some (.int .u64 (wd x.S 0)) := hcell k x hx 0 (by decide)
   have y1 : wr.cell? ⟨b, off + k * 9 + 1, none⟩ = some (.int .u64 (wd x.S 1)) := hcell k x hx 1 (by decide)
   have y2 : wr.cell? ⟨b, off + k * 9 + 2, none⟩ = some (.int .u64 (wd x.S 2)) := hcell k x hx 2 (by decide)
   have y3 : wr.cell? ⟨b, off + k * 9 + 3, none⟩ = some (.int .u64 (wd x.S 3)) := hcell k x hx 3 (by decide)
   have y4 : wr.cell? ⟨b, off + k * 9 + 4, none⟩ = some (.int .u64 (wd x.S 4)) := hcell k x hx 4 (by decide)
   have y5 : wr.cell? ⟨b, off + k * 9 + 5, none⟩ = some (.int .u64 (wd x.S 5)) := hcell k x hx 5 (by decide)
   have y6 : wr.cell? ⟨b, off + k * 9 + 6, none⟩ = some (.int .u64 (wd x.S 6)) := hcell k x hx 6 (by decide)
   have y7 : wr.cell? ⟨b, off + k * 9 + 7, none⟩ = some (.int .u64 (wd x.S 7)) := hcell k x hx 7 (by decide)
   have y8 : wr.cell? ⟨b, off + k * 9 + 8, none⟩ = some (.slice x.v.adr x.v.len x.v.cap) := hcell k x hx 8 (by decide)
   obtain ⟨V1, hV1⟩ : ∃ V, V = wr.alloc (.cells #[.int .u64 (wd x.S 0), .int .u64 (wd x.S 1), .int .u64 (wd x.S 2), .int .u64 (wd x.S 3), .int .u64 (wd x.S 4), .int .u64 (wd x.S 5), .int .u64 (wd x.S 6), .int .u64 (wd x.S 7), .slice x.v.adr x.v.len x.v.cap] 162) := ⟨_, rfl⟩
   have hb1 : Below wr.heap.size wr V1 := by rw [hV1]; exact (Below.refl _ wr).alloc (Nat.le_refl _) _
   have hX : Blk V1 wr.heap.size 162 [.int .u64 (wd x.S 0), .int .u64 (wd x.S 1), .int .u64 (wd x.S 2), .int .u64 (wd x.S 3), .int .u64 (wd x.S 4), .int .u64 (wd x.S 5), .int .u64 (wd x.S 6), .int .u64 (wd x.S 7), .slice x.v.adr x.v.len x.v.cap] := by rw [hV1]; exact blk_new wr _ _
   have q0 := hX.cell (i := 0) rfl
   have q1 := hX.cell (i := 1) rfl
   have q2 := hX.cell (i := 2) rfl
   have q3 := hX.cell (i := 3) rfl
   have q4 := hX.cell (i := 4) rfl
   have q5 := hX.cell (i := 5) rfl
   have q6 := hX.cell (i := 6) rfl
   have q7 := hX.cell (i := 7) rfl
   have q8 := hX.cell (i := 8) rfl
   have ql := hX.lt
   have hbs := hb.size
   have HB := Lib.hid (hb.trans (hb1.mono (Nat.le_trans HS.out hbs)))
   obtain ⟨fn, tmps, assign, body, hy, hRd⟩ := HY.out pre (k, x) V1 V1 (own_kept HJ.out hJs hb1) (Below.refl _ _) (fun h => by cases h) ⟨hp.symm, by rw [hp]; exact hx⟩ (by rw [hp, Hlen.out]; exact hlt)
   dsimp only at hy
   unfold PEn.val at hy
   have HP := Eqn.mk hp
   clear hb hb1 hX hcell hJs hx hR hbn hp
   gi_upto_region 3 with fail
   rw [← hV1]
   clear hV1 y0 y1 y2 y3 y4 y5 y6 y7 y8
   generalize wr.heap.size = p4 at *
   gi_wp2_with fail
   refine hRd.mono ?_
   rintro e W3 (⟨rfl, hJ3, hk3, hkp, _⟩ | ⟨rfl, hk3, hJx3⟩)
   ·have HJ3 := Lib.hid hJ3
    have HB3 := Lib.hid (HB.out.trans hkp.1)
    clear hJ3 hk3 hkp hRd hy
    gi_wp2_with fail
    go_roundw
    case rel => exact ⟨k + 1, pre ++ [(k, x)], hlt, by go_num, by rw [List.length_append, HP.out]; rfl, HJ3.out, HB3.out⟩
    case measure => simp [intOf]; omega
   ·gi_wp2_with fail
    refine bodyPost_ret (results_none rfl _ _ _) rfl ?_
    exact ⟨⟨_, rfl⟩, .inr ⟨_, trivial, hJx3⟩⟩
  ·obtain rfl : k = m := by omega
   have HJs := Lib.hid hJs
   have HP := Eqn.mk hp
   clear hJs hb hp
   gi_wp2_with fail
   go_end0
   exact ⟨⟨_, rfl⟩, .inl ⟨pre, by rw [HP.out, Hlen.out], HJs.out⟩⟩
end Go.Proofs.YtdpbbhbegehcjaaGreatDoor

namespace Go.Proofs.YtdpbbhbegehcjaaGreatDoor
open Go.RowKit Go.Shelf
attribute [local go_sem] Oper.semAt_some
def fndVP (φ : Nat → Bool) (L : List PEn) : Value := match L.find? (fun x => φ x.S) with | none => .slice none 0 0 | some x => x.v.val
def FdP (p2 p3 p6 : Nat) (ds : List Nat) (a : Act) : Prop := ∃ u : Nat → Value, a = { tmps := #[u 0, u 1, (.pointer (some ⟨p2, 0, none⟩)), (.pointer (some ⟨p3, 0, none⟩)), (.slice none 0 0), (.bool false), (.pointer (some ⟨p6, 0, none⟩)), u 7, u 8, u 9, u 10, u 11, u 12, u 13, u 14, u 15, u 16, u 17, u 18, u 19, u 20], defers := marksOf ds }
theorem FdP_mk {p2 p3 p6 : Nat} {ds : List Nat} {u0 u1 u7 u8 u9 u10 u11 u12 u13 u14 u15 u16 u17 u18 u19 u20 : Value} : FdP p2 p3 p6 ds { tmps := #[u0, u1, (.pointer (some ⟨p2, 0, none⟩)), (.pointer (some ⟨p3, 0, none⟩)), (.slice none 0 0), (.bool false), (.pointer (some ⟨p6, 0, none⟩)), u7, u8, u9, u10, u11, u12, u13, u14, u15, u16, u17, u18, u19, u20], defers := marksOf ds } := ⟨fun i => [u0, u1, undef, undef, undef, undef, undef, u7, u8, u9, u10, u11, u12, u13, u14, u15, u16, u17, u18, u19, u20].getD i undef, rfl⟩
theorem find_snoc {α : Type} {p : α → Bool} {L : List α} {k : Nat} {x : α} (hx : L[k]? = some x) (hno : ∀ y ∈ L.take k, p y = false) (hp : p x = true) : L.find? p = some x := by
 have h : L = L.take k ++ (x :: L.drop (k + 1)) := by
  obtain ⟨h1, rfl⟩ := List.getElem?_eq_some_iff.1 hx
  rw [← List.drop_eq_getElem_cons h1, List.take_append_drop]
 rw [h, List.find?_append, List.find?_eq_none.2 (fun y hy => by rw [hno y hy]; decide), Option.none_or, List.find?_cons, hp]
theorem findP_any (f : Nat) (bnd cap : Array Value) (φ : Nat → Bool) (A : Option Addr) (m c : Nat) (L : List PEn) (w : World) (hL : RowX 9 PEn.cell w (fun _ => True) A m L) (hm : m ≤ 100000)
  (hf : ∀ args w, (callFunc f args).run Tryz.prog w = .ok (.enter f args) w) (HF : ∀ y ∈ L, ∀ W, Below w.heap.size w W → Calls Tryz.prog f (bnd.push (sV y.S) ++ cap) W (RetPost (.bool (φ y.S)) W.heap.size W)) :
  Calls Tryz.prog 41 #[.agg #[.slice A m c], .func (.func f) bnd cap] w (RetPost (.tuple #[fndVP φ L, .bool (L.any fun x => φ x.S)]) w.heap.size w) := by
 obtain ⟨p2, hp2⟩ : ∃ p, p = w.heap.size := ⟨_, rfl⟩
 obtain ⟨p3, hp3⟩ : ∃ p, p = w.heap.size + 1 := ⟨_, rfl⟩
 obtain ⟨p6, hp6⟩ : ∃ p, p = w.heap.size + 1 + 1 := ⟨_, rfl⟩
 have HL := Lib.hid ((hL.mono (q := (· < w.heap.size)) (by decide) (fun _ _ h => h)))
 have HF := Lib.hid HF
 have hlen := Eqn.mk hL.1
 clear hL
 obtain ⟨V0, hV0⟩ : ∃ V0, V0 = ((w.alloc (.cells #[.slice A m c] 105)).alloc (.cells #[.func (.func f) bnd cap] 120)).alloc (.cells #[.slice none 0 0] 41) := ⟨_, rfl⟩
 have hP0 : Hp w w V0 [.blk p2 105 [.slice A m c], .blk p3 120 [.func (.func f) bnd cap], .blk p6 41 [.slice none 0 0]] [] := by
  have h := (((Hp.start w).alloc [.slice A m c] 105).alloc [.func (.func f) bnd cap] 120).alloc [.slice none 0 0] 41
  simp only [World.size_alloc] at h
  rw [hV0, hp2, hp3, hp6]; exact h
 have HP0 := Lib.hid hP0
 clear hP0
 refine (callsIn_wide (n := 3)).1 ?_
 refine callsIn_of_wp_marks Tryz.func41 rfl trivial ?_ rfl
 simp only [Tryz.ntmps41, List.size_toArray, List.length_cons, List.length_nil, Nat.reduceAdd, Nat.reduceSub, Array.replicate_succ, Array.replicate_zero, List.push_toArray, List.append_toArray, List.nil_append, List.cons_append]
 gi_wp2_with fail
 refine wpIn_wide.2 (wp_scope_jumps 0 (fun a W => ∃ (D : Nat) (x : PEn), FdP p2 p3 p6 [D] a ∧ L.find? (fun y => φ y.S) = some x ∧ Hp w W W [.blk p2 105 [.slice A m c], .blk p3 120 [.func (.func f) bnd cap], .blk p6 41 [.slice x.v.adr x.v.len x.v.cap]] [D]) (fun _ _ => 0) rfl (wpIn_wide (n := 3).1 ?first) (fun a W hJ => wpIn_wide (n := 3).1 ?pass))
 case first =>
  gi_upto_region 2 with fail
  rw [← hV0, ← hp6, ← hp3, ← hp2]
  clear hV0 hp6 hp3
  have HP2 := Lib.hid hp2
  clear hp2
  have m2 := HP0.out.c 0 0 rfl rfl
  have m3 := HP0.out.c 1 0 rfl rfl
  have l2 := HP0.out.lt 0 rfl
  gi_wp2_with fail
  refine ⟨trivial, (callsIn_wide.2 (allP_any A m c _)).mono ?_⟩
  rintro e WE ⟨rfl, hWE⟩
  have hBq : Blk WE V0.heap.size 105 [.slice A m c] := by rw [hWE]; exact blk_new V0 _ _
  have hPE := HP0.out.alloc0 (.cells #[.slice A m c] 105)
  rw [← hWE] at hPE
  have hLE := HL.out.turn (X := WE) (by decide) (fun k (hk : k < w.heap.size) _ => hPE.below.block k hk)
  have hsq := all1P 2 (by decide) w.heap.size p2 V0.heap.size A m c L WE hBq hLE hPE.below.size hm
  have HSQ := Lib.hid hsq
  have HPE := Lib.hid hPE
  clear hWE m2 m3 l2 hBq hPE hLE hsq
  generalize V0.heap.size = Bq at *
  gi_wp2_with fail
  refine hp_hands (w := w) (ds := []) (σ := Value) (fun v => [.blk p2 105 [.slice A m c], .blk p3 120 [.func (.func f) bnd cap], .blk p6 41 [v]]) (fun pre v => v = .slice none 0 0 ∧ (∀ y ∈ pre, φ y.2.S = false) ∧ pre.map Prod.snd = L.take pre.length) (fun c _ v => c = .goto 0 ∧ ∃ x : PEn, L.find? (fun y => φ y.S) = some x ∧ v = .slice x.v.adr x.v.len x.v.cap) 0 (fun _ => []) (fun pre x => x.1 = pre.length ∧ L[pre.length]? = some x.2) ?a₁ 162 (fun x => [.int .u64 (wd x.2.S 0), .int .u64 (wd x.2.S 1), .int .u64 (wd x.2.S 2), .int .u64 (wd x.2.S 3), .int .u64 (wd x.2.S 4), .int .u64 (wd x.2.S 5), .int .u64 (wd x.2.S 6), .int .u64 (wd x.2.S 7), .slice x.2.v.adr x.2.v.len x.2.v.cap]) (by decide)
   (gf := 117) (lb := #[.pointer (some ⟨Bq, 0, none⟩)]) rfl (enters_of Tryz.func117 (by kernel_rfl) rfl) HSQ.out (Nat.le_refl _) (fun _ => rfl) (.slice none 0 0) ⟨rfl, fun _ h => (by cases h), rfl⟩ HPE.out (fun _ => rfl)
   (fun pre x L X Y hX hbl hG => ⟨hG, by rw [List.append_nil]; exact (hX.keep hbl).since' (KeepsOthers.refl _), fun _ h => (by cases h)⟩) ?assign ?body ?done ?stop
  case assign =>
   intro l x p W K hp hK
   unfold PEn.val
   gi_wp2
   rw [← hp]
   exact hK
  case body =>
   rintro l pre x e p X v _ ⟨rfl, hno, hpre⟩ ⟨hx1, hx2⟩ hX hlen
   have HX := Lib.hid hX
   have m3 := hX.c 2 0 rfl rfl
   have l3 := hX.lt 2 rfl
   have r6 := hX.c 3 0 rfl rfl
   have f6 := hX.f 3 rfl
   have l6 := hX.lt 3 rfl
   have z0 := hX.c 4 0 rfl rfl
   have z1 := hX.c 4 1 rfl rfl
   have z2 := hX.c 4 2 rfl rfl
   have z3 := hX.c 4 3 rfl rfl
   have z4 := hX.c 4 4 rfl rfl
   have z5 := hX.c 4 5 rfl rfl
   have z6 := hX.c 4 6 rfl rfl
   have z7 := hX.c 4 7 rfl rfl
   have z8 := hX.c 4 8 rfl rfl
   have zl := hX.lt 4 rfl
   have hlp : (L.take pre.length).length = pre.length := by rw [List.length_take]; omega
   have HN : Hid (∀ y ∈ L.take pre.length, φ y.S = false) := Lib.hid (by
    intro y hy
    rw [← hpre] at hy
    obtain ⟨q, hq, rfl⟩ := List.mem_map.1 hy
    exact hno q hq)
   have HNO := Lib.hid hno
   have HPR := Eqn.mk hpre
   have HX2 := Eqn.mk hx2
   have HFx := Lib.hid (HF.out x.2 (List.mem_of_getElem? hx2) X hX.below)
   have HSN : Hid (φ x.2.S = true → L.find? (fun y => φ y.S) = some x.2) := Lib.hid (fun h => find_snoc (p := fun y : PEn => φ y.S) hx2 HN.out h)
   have HGO : Hid (φ x.2.S = false → (∀ y ∈ pre ++ [x], φ y.2.S = false) ∧ (pre ++ [x]).map Prod.snd = L.take (pre ++ [x]).length) := Lib.hid (fun h => by
    refine ⟨fun y hy => ?_, by rw [List.map_append, hpre, List.length_append, List.length_singleton, List.take_add_one, hx2]; rfl⟩
    rcases List.mem_append.1 hy with hy | hy
    ·exact hno y hy
    ·rw [List.mem_singleton] at hy; subst hy; exact h)
   clear hX hno hpre hx1 hx2 hlp HN HNO HPR HX2
   generalize φ x.2.S = b at *
   obtain ⟨xi, xe⟩ := x
   dsimp only at *
   unfold sV at HFx
   gi_wp2_with fail
   refine ⟨trivial, CallsIn.inRound l (callsIn_wide.2 (HFx.out.mono ?_))⟩
   rintro e' W5 ⟨rfl, hb5⟩
   have hX5 := HX.out.keep hb5
   have HX5 := Lib.hid hX5
   clear m3 l3 r6 f6 l6 z0 z1 z2 z3 z4 z5 z6 z7 z8 zl hb5 HX HFx
   cases b with
   | true =>
    have r6 := hX5.c 3 0 rfl rfl
    have f6 := hX5.f 3 rfl
    have l6 := hX5.lt 3 rfl
    have z8 := hX5.c 4 8 rfl rfl
    have zl := hX5.lt 4 rfl
    clear hX5 HGO
    gi_wp2_with fail
    refine wpIn_goto ?_
    refine ⟨_, ⟨rfl, xe, HSN.out (by trivial), rfl⟩, ?_⟩
    exact (HX5.out.set 3 0 _ rfl).sub (by simp)
   | false =>
    clear hX5 HSN
    gi_wp2_with fail
    exact ⟨_, ⟨rfl, HGO.out (by trivial)⟩, HX5.out.sub (by simp)⟩
  case done =>
   rintro D xs X v hS ⟨rfl, hno, hpre⟩ hX
   have hall : ∀ y ∈ L, φ y.S = false := by
    intro y hy
    have hS : xs.length = L.length := hS
    rw [hS, List.take_length] at hpre
    rw [← hpre] at hy
    obtain ⟨q, hq, rfl⟩ := List.mem_map.1 hy
    exact hno q hq
   have HN1 : Hid (fndVP φ L = .slice none 0 0) := Lib.hid (by unfold fndVP; rw [List.find?_eq_none.2 (fun y hy => by rw [hall y hy]; decide)])
   have HN2 : Hid ((L.any fun x => φ x.S) = false) := Lib.hid (by rw [List.any_eq_false]; intro y hy; rw [hall y hy]; decide)
   have HX := Lib.hid hX
   have r6 := hX.c 2 0 rfl rfl
   have l6 := hX.lt 2 rfl
   clear hX hno hpre hS hall
   gi_wp2_with fail
   show LeavesInM _ _ _ _ _ _ (marksOf [D]) .returning _
   refine hp_leaves (fun Y hY => ?_) _ _ _ HX.out
   exact ⟨.tuple #[.slice none 0 0, .bool false], by simp [results, Tryz.results41, go_sem], by rw [HN1.out, HN2.out], hY.below⟩
  case stop =>
   rintro D c xs X v _ ⟨rfl, x, hx, rfl⟩ hX
   refine wpIn_goto ?_
   exact ⟨rfl, D, x, FdP_mk, hx, hX⟩
 case pass =>
  obtain ⟨D, x, ⟨u, rfl⟩, hx, hX⟩ := hJ
  have HN1 : Hid (fndVP φ L = x.v.val) := Lib.hid (by unfold fndVP; rw [hx])
  have HN2 : Hid ((L.any fun x => φ x.S) = true) := Lib.hid (by rw [List.any_eq_true]; exact ⟨x, List.mem_of_find?_eq_some hx, by have := List.find?_some hx; exact this⟩)
  have HX := Lib.hid hX
  have r6 := hX.c 2 0 rfl rfl
  have l6 := hX.lt 2 rfl
  clear hX hx hV0 HP0 HF hp6 hp3 hp2
  gi_wp2_with fail
  show LeavesInM _ _ _ _ _ _ (marksOf [D]) .returning _
  refine hp_leaves (fun Y hY => ?_) _ _ _ HX.out
  exact ⟨.tuple #[.slice x.v.adr x.v.len x.v.cap, .bool true], by simp [results, Tryz.results41, go_sem], by rw [HN1.out, HN2.out]; rfl, hY.below⟩
end Go.Proofs.YtdpbbhbegehcjaaGreatDoor

namespace Go.Proofs.YtdpbbhbegehcjaaGreatDoor
open Go.RowKit Go.Shelf
attribute [local go_sem] Oper.semAt_some
theorem etP_info : (Tryz.prog.info? 162).map (fun i => (i.zero, i.size, i.bytes)) = some (some (.agg #[.int .u64 0, .int .u64 0, .int .u64 0, .int .u64 0, .int .u64 0, .int .u64 0, .int .u64 0, .int .u64 0, .slice none 0 0]), 9, 88) := by kernel_rfl
def NewEsP (O : List PEn) (w : World) (e : Ending) (w' : World) : Prop := ∃ v, e = .returned v ∧ w'.ownsRow w.heap.size 162 9 v O.length (flat 9 PEn.cell O) ∧ Below w.heap.size w w'
theorem withoutP_any (f : Nat) (bnd cap : Array Value) (φ : Nat → Bool) (A : Option Addr) (m c : Nat) (L : List PEn) (w : World) (hL : RowX 9 PEn.cell w (fun _ => True) A m L) (hm : m ≤ 100000)
  (hf : ∀ args w, (callFunc f args).run Tryz.prog w = .ok (.enter f args) w) (HF : ∀ y ∈ L, ∀ W, Below w.heap.size w W → Calls Tryz.prog f (bnd.push (sV y.S) ++ cap) W (RetPost (.bool (φ y.S)) W.heap.size W)) :
  Calls Tryz.prog 86 #[.agg #[.slice A m c], .func (.func f) bnd cap] w (NewEsP (L.filter fun x => !φ x.S) w) := by
 obtain ⟨i0, hi, hz0, hz1, hz2⟩ := info_parts etP_info
 obtain ⟨p2, hp2⟩ : ∃ p, p = w.heap.size := ⟨_, rfl⟩
 obtain ⟨p3, hp3⟩ : ∃ p, p = w.heap.size + 1 := ⟨_, rfl⟩
 obtain ⟨p5, hp5⟩ : ∃ p, p = w.heap.size + 1 + 1 := ⟨_, rfl⟩
 have HL := Lib.hid ((hL.mono (q := (· < w.heap.size)) (by decide) (fun _ _ h => h)))
 have HF := Lib.hid HF
 have hlen := Eqn.mk hL.1
 clear hL
 obtain ⟨V0, hV0⟩ : ∃ V0, V0 = ((w.alloc (.cells #[.slice A m c] 105)).alloc (.cells #[.func (.func f) bnd cap] 120)).alloc (.cells #[.slice none 0 0] 103) := ⟨_, rfl⟩
 have hP0 : Hp w w V0 [.blk p2 105 [.slice A m c], .blk p3 120 [.func (.func f) bnd cap], .blk p5 103 [.slice none 0 0], .row (.slice none 0 0) 162 9 0 (flat 9 PEn.cell [])] [] := by
  have h := ((((Hp.start w).alloc [.slice A m c] 105).alloc [.func (.func f) bnd cap] 120).alloc [.slice none 0 0] 103).nil 162 9
  simp only [World.size_alloc] at h
  rw [hV0, hp2, hp3, hp5]; exact h
 have HP0 := Lib.hid hP0
 clear hP0
 refine (callsIn_wide (n := 3)).1 ?_
 refine callsIn_of_wp_marks Tryz.func86 rfl trivial ?_ rfl
 simp only [Tryz.ntmps86, List.size_toArray, List.length_cons, List.length_nil, Nat.reduceAdd, Nat.reduceSub, Array.replicate_succ, Array.replicate_zero, List.push_toArray, List.append_toArray, List.nil_append, List.cons_append]
 gi_upto_region 2 with fail
 rw [← hV0, ← hp5, ← hp3, ← hp2]
 clear hV0 hp5 hp3
 have HP2 := Lib.hid hp2
 clear hp2
 have m2 := HP0.out.c 0 0 rfl rfl
 have l2 := HP0.out.lt 0 rfl
 gi_wp2_with fail
 refine ⟨trivial, (callsIn_wide.2 (allP_any A m c _)).mono ?_⟩
 rintro e WE ⟨rfl, hWE⟩
 have hBq : Blk WE V0.heap.size 105 [.slice A m c] := by rw [hWE]; exact blk_new V0 _ _
 have hPE := HP0.out.alloc0 (.cells #[.slice A m c] 105)
 rw [← hWE] at hPE
 have hLE := HL.out.turn (X := WE) (by decide) (fun k (hk : k < w.heap.size) _ => hPE.below.block k hk)
 have hsq := all1P 2 (by decide) w.heap.size p2 V0.heap.size A m c L WE hBq hLE hPE.below.size hm
 have HSQ := Lib.hid hsq
 have HPE := Lib.hid hPE
 clear hWE m2 l2 hBq hPE hLE hsq
 generalize V0.heap.size = Bq at *
 gi_wp2_with fail
 refine hp_hands (w := w) (ds := []) (σ := Value × List PEn) (fun s => [.blk p2 105 [.slice A m c], .blk p3 120 [.func (.func f) bnd cap], .blk p5 103 [s.1], .row s.1 162 9 s.2.length (flat 9 PEn.cell s.2)]) (fun pre s => s.2 = (L.take pre.length).filter (fun x => !φ x.S)) (fun _ _ _ => False) 0 (fun _ => []) (fun pre x => x.1 = pre.length ∧ L[pre.length]? = some x.2) ?a₁ 162 (fun x => [.int .u64 (wd x.2.S 0), .int .u64 (wd x.2.S 1), .int .u64 (wd x.2.S 2), .int .u64 (wd x.2.S 3), .int .u64 (wd x.2.S 4), .int .u64 (wd x.2.S 5), .int .u64 (wd x.2.S 6), .int .u64 (wd x.2.S 7), .slice x.2.v.adr x.2.v.len x.2.v.cap]) (by decide)
  (gf := 117) (lb := #[.pointer (some ⟨Bq, 0, none⟩)]) rfl (enters_of Tryz.func117 (by kernel_rfl) rfl) HSQ.out (Nat.le_refl _) (fun _ => rfl) (.slice none 0 0, []) rfl HPE.out (fun _ => rfl)
  (fun pre x L X Y hX hbl hG => ⟨hG, by rw [List.append_nil]; exact (hX.keep hbl).since' (KeepsOthers.refl _), fun _ h => (by cases h)⟩) ?assign ?body ?done ?stop
 case assign =>
  intro l x p W K hp hK
  unfold PEn.val
  gi_wp2
  rw [← hp]
  exact hK
 case body =>
  rintro l pre x e p X ⟨v, O⟩ _ hO ⟨hx1, hx2⟩ hX hlen
  dsimp only at hO hX
  have HX := Lib.hid hX
  have m3 := hX.c 2 0 rfl rfl
  have l3 := hX.lt 2 rfl
  have z0 := hX.c 5 0 rfl rfl
  have z1 := hX.c 5 1 rfl rfl
  have z2 := hX.c 5 2 rfl rfl
  have z3 := hX.c 5 3 rfl rfl
  have z4 := hX.c 5 4 rfl rfl
  have z5 := hX.c 5 5 rfl rfl
  have z6 := hX.c 5 6 rfl rfl
  have z7 := hX.c 5 7 rfl rfl
  have zl := hX.lt 5 rfl
  have hOl : O.length ≤ 100000 := by
   have := List.length_filter_le (fun x : PEn => !φ x.S) (L.take pre.length)
   rw [← hO, List.length_take] at this
   have := hlen; have := hlen; have h3 : L.length = m := ‹Eqn L.length m›
   omega
  have HSU : Hid ((L.take (pre ++ [x]).length).filter (fun x => !φ x.S) = O ++ if φ x.2.S = true then [] else [x.2]) := Lib.hid (by
   rw [List.length_append, List.length_singleton, filter_take_one hx2, ← hO]
   cases φ x.2.S <;> rfl)
  have HFx := Lib.hid (HF.out x.2 (List.mem_of_getElem? hx2) X hX.below)
  clear hX hO hx1 hx2 hlen
  generalize φ x.2.S = b at *
  obtain ⟨xi, xe⟩ := x
  dsimp only at *
  unfold sV at HFx
  gi_wp2_with fail
  refine ⟨trivial, CallsIn.inRound l (callsIn_wide.2 (HFx.out.mono ?_))⟩
  rintro e' W5 ⟨rfl, hb5⟩
  have hX5 := HX.out.keep hb5
  have HX5 := Lib.hid hX5
  clear m3 l3 z0 z1 z2 z3 z4 z5 z6 z7 zl hb5 HX HFx
  cases b with
  | false =>
   have HSU2 : Hid ((L.take (pre ++ [(xi, xe)]).length).filter (fun x => !φ x.S) = O ++ [xe]) := Lib.hid (HSU.out.trans (by simp))
   have r5 := hX5.c 3 0 rfl rfl
   have f5 := hX5.f 3 rfl
   have l5 := hX5.lt 3 rfl
   have z0 := hX5.c 5 0 rfl rfl
   have z1 := hX5.c 5 1 rfl rfl
   have z2 := hX5.c 5 2 rfl rfl
   have z3 := hX5.c 5 3 rfl rfl
   have z4 := hX5.c 5 4 rfl rfl
   have z5 := hX5.c 5 5 rfl rfl
   have z6 := hX5.c 5 6 rfl rfl
   have z7 := hX5.c 5 7 rfl rfl
   have z8 := hX5.c 5 8 rfl rfl
   have zl := hX5.lt 5 rfl
   obtain ⟨A1, c1, rfl⟩ := hX5.form 4 rfl
   clear hX5 HSU
   gi_wp2_with (gi_at_builtin; refine wpListIn_append_own_at _ rfl _ _ 103 rfl w.heap.size 162 i0 (.agg #[.int .u64 0, .int .u64 0, .int .u64 0, .int .u64 0, .int .u64 0, .int .u64 0, .int .u64 0, .int .u64 0, .slice none 0 0]) 9 88 Tryz.underlying103 hi hz0 hz1 hz2 rfl (by decide) _ _ _ rfl ((HX5.out.row 4 rfl).alloc _) ⟨W5.heap.size, 0, none⟩ 1 1 [.int .u64 (wd xe.S 0), .int .u64 (wd xe.S 1), .int .u64 (wd xe.S 2), .int .u64 (wd xe.S 3), .int .u64 (wd xe.S 4), .int .u64 (wd xe.S 5), .int .u64 (wd xe.S 6), .int .u64 (wd xe.S 7), .slice xe.v.adr xe.v.len xe.v.cap] rfl rfl (cells_newR W5 [.int .u64 (wd xe.S 0), .int .u64 (wd xe.S 1), .int .u64 (wd xe.S 2), .int .u64 (wd xe.S 3), .int .u64 (wd xe.S 4), .int .u64 (wd xe.S 5), .int .u64 (wd xe.S 6), .int .u64 (wd xe.S 7), .slice xe.v.adr xe.v.len xe.v.cap] 162) (by simp [Value.oneCell']) (by unfold maxLen; omega) (by omega) (by have := HX5.out.below.size; simp; omega) ?_; intro v2 W6 hown hgrow _ hat; have hX6 := (HX5.out.alloc0 _).grow 4 rfl hgrow hown hat; have HX6 := Lib.hid hX6; have f6 := hX6.f 3 rfl; have l6 := hX6.lt 3 rfl; have r6 := hX6.c 3 0 rfl rfl; obtain ⟨A5, cp5, rfl⟩ := hX6.form 4 rfl; clear hown hgrow hat hX6 f5 l5 r5 z0 z1 z2 z3 z4 z5 z6 z7 z8 zl)
   refine ⟨(.slice A5 (O.length + 1) cp5, O ++ [xe]), HSU2.out.symm, ?_⟩
   dsimp only
   rw [flat_snoc, List.length_append, show (List.range 9).map xe.cell = [.int .u64 (wd xe.S 0), .int .u64 (wd xe.S 1), .int .u64 (wd xe.S 2), .int .u64 (wd xe.S 3), .int .u64 (wd xe.S 4), .int .u64 (wd xe.S 5), .int .u64 (wd xe.S 6), .int .u64 (wd xe.S 7), .slice xe.v.adr xe.v.len xe.v.cap] from rfl]
   exact (HX6.out.set 3 0 _ rfl).sub (by simp)
  | true =>
   have HSU2 : Hid ((L.take (pre ++ [(xi, xe)]).length).filter (fun x => !φ x.S) = O) := Lib.hid (HSU.out.trans (by simp))
   clear hX5 HSU
   gi_wp2_with fail
   exact ⟨(v, O), HSU2.out.symm, HX5.out.sub (by simp)⟩
 case done =>
  rintro D xs X ⟨v, O⟩ hS hO hX
  dsimp only at hO hX
  have hS : xs.length = L.length := hS
  rw [hS, List.take_length] at hO
  have HO := Eqn.mk hO
  have HX := Lib.hid hX
  have r5 := hX.c 2 0 rfl rfl
  have l5 := hX.lt 2 rfl
  clear hX hS hO
  gi_wp2_with fail
  show LeavesInM _ _ _ _ _ _ (marksOf [D]) .returning _
  refine hp_leaves (fun Y hY => ?_) _ _ _ HX.out
  exact ⟨v, by simp [results, Tryz.results86, go_sem], v, rfl, by rw [← HO.out]; exact hY.row 3 rfl, hY.below⟩
 case stop =>
  rintro D c pre X s _ h _
  exact h.elim
end Go.Proofs.YtdpbbhbegehcjaaGreatDoor

namespace Go.Proofs.YtdpbbhbegehcjaaGreatDoor
open Go.RowKit Go.Shelf
def AddedP (g : Nat) (cs : List Value) (K : List PEn) (S : Nat) (x : Lem) (w : World) (e : Ending) (w' : World) : Prop :=
 (1000 ≤ K.length ∧ e = .returned (.int .i64 7) ∧ Below w.heap.size w w') ∨
 (K.length < 1000 ∧ e = .returned (.int .i64 0) ∧ w.grownBy w' (some g) ∧ ∃ (A : Option Addr) (c : Nat), Blk w' g 110 (cs.set 13 (.slice A (K.length + 1) c)) ∧ w'.ownsRow w.heap.size 162 9 (.slice A (K.length + 1) c) (K.length + 1) (flat 9 PEn.cell (K ++ [⟨S, x⟩])))
theorem addP_any (f : Nat) (bnd cap : Array Value) (φ : Nat → Bool) (g : Nat) (cs : List Value) (S : Nat) (x : Lem) (A : Option Addr) (m c : Nat) (L : List PEn) (w : World) (hg : Blk w g 110 cs) (hc : cs[13]? = some (.slice A m c)) (hL : RowX 9 PEn.cell w (fun _ => True) A m L) (hm : m ≤ 100000)
  (hf : ∀ args w, (callFunc f args).run Tryz.prog w = .ok (.enter f args) w) (HF : ∀ y ∈ L, ∀ W, Below w.heap.size w W → Calls Tryz.prog f (bnd.push (sV y.S) ++ cap) W (RetPost (.bool (φ y.S)) W.heap.size W)) :
  Calls Tryz.prog 44 #[.pointer (some ⟨g, 13, none⟩), sV S, x.val, .func (.func f) bnd cap] w (AddedP g cs (L.filter fun x => !φ x.S) S x w) := by
 obtain ⟨i0, hi, hz0, hz1, hz2⟩ := info_parts etP_info
 obtain ⟨p5, hp5⟩ : ∃ p, p = w.heap.size := ⟨_, rfl⟩
 obtain ⟨V0, hV0⟩ : ∃ V0, V0 = (w.alloc (.cells (sL S).toArray 100)) := ⟨_, rfl⟩
 have hP0 : Hp w w V0 [.blk p5 100 (tabL 8 (sC S))] [] := by
  have h := ((Hp.start w).allocS S 100)
  rw [hV0, hp5]; exact h
 have HP0 := Lib.hid hP0
 have cg0 : V0.cell? ⟨g, 13, none⟩ = some (.slice A m c) := (hg.keepB hP0.below hg.lt).cell hc
 have HW := Lib.hid (withoutP_any f bnd cap φ A m c L V0 (hL.keep (by decide) hP0.below) hm hf (fun y hy W hb => HF y hy W (hP0.below.trans (hb.mono hP0.below.size))))
 have HG := Lib.hid hg
 have HC := Lib.hid hc
 have hKl : (L.filter fun x => !φ x.S).length ≤ 100000 := by
  have := List.length_filter_le (fun x : PEn => !φ x.S) L
  have := hL.1; omega
 generalize (L.filter fun x => !φ x.S) = K at *
 unfold sV
 unfold sL at hV0
 unfold Lem.val
 clear hP0 hL hg hc HF
 go_enter Tryz.func44, Tryz.ntmps44
 go_upto_region 1 with fail
 rw [← hV0, ← hp5]
 clear hV0 hp5
 go_wp2_with fail
 refine HW.out.mono ?_
 rintro e W1 ⟨v, rfl, hown, hb1⟩
 have hP1 := HP0.out.pushRow hb1 hown
 have HP1 := Lib.hid hP1
 obtain ⟨A1, c1, rfl⟩ := hP1.form 1 rfl
 have zs := hP1.blk 0 rfl
 obtain ⟨z0, z1, z2, z3, z4, z5, z6, z7⟩ := zs.eight
 have zl := zs.lt
 clear hP1 hown hb1 cg0 HP0 HW zs
 by_cases hfull : 1000 ≤ K.length
 ·have j0 : (1000 : Int) ≤ (K.length : Int) := by omega
  go_wp2_with fail
  go_ret
  exact .inl ⟨hfull, rfl, HP1.out.below⟩
 ·have j0 : ¬ (1000 : Int) ≤ (K.length : Int) := by omega
  have hgl := HG.out.lt
  go_wp2_with (at_builtin; refine wpList_append_own_at _ rfl _ _ 103 rfl w.heap.size 162 i0 (.agg #[.int .u64 0, .int .u64 0, .int .u64 0, .int .u64 0, .int .u64 0, .int .u64 0, .int .u64 0, .int .u64 0, .slice none 0 0]) 9 88 Tryz.underlying103 hi hz0 hz1 hz2 rfl (by decide) _ _ _ rfl ((HP1.out.row 1 rfl).alloc _) ⟨W1.heap.size, 0, none⟩ 1 1 [.int .u64 (wd S 0), .int .u64 (wd S 1), .int .u64 (wd S 2), .int .u64 (wd S 3), .int .u64 (wd S 4), .int .u64 (wd S 5), .int .u64 (wd S 6), .int .u64 (wd S 7), .slice x.adr x.len x.cap] rfl rfl (cells_newR W1 [.int .u64 (wd S 0), .int .u64 (wd S 1), .int .u64 (wd S 2), .int .u64 (wd S 3), .int .u64 (wd S 4), .int .u64 (wd S 5), .int .u64 (wd S 6), .int .u64 (wd S 7), .slice x.adr x.len x.cap] 162) (by simp [Value.oneCell']) (by unfold maxLen; omega) (by omega) (by have := HP1.out.below.size; simp; omega) ?_; intro v2 W6 hown hgrow _ hat; have hX6 := (HP1.out.alloc0 _).grow 1 rfl hgrow hown hat; have HX6 := Lib.hid hX6; obtain ⟨A5, cp5, rfl⟩ := hX6.form 1 rfl; have hG6 := HG.out.keepB hX6.below hgl; have cg6 : W6.cell? ⟨g, 13, none⟩ = some (.slice A m c) := hG6.cell HC.out; have fg6 := hG6.frozen; have lg6 := hG6.lt; clear hown hgrow hat hX6 hG6)
  go_ret
  have hG6 := HG.out.keepB HX6.out.below hgl
  refine .inr ⟨by omega, rfl, ?_, A5, cp5, hG6.set_ _ _, ?_⟩
  ·have hb := HX6.out.below
   have hs := hb.size
   refine ⟨hb.os, hb.tape, hb.output, by simp [World.setCell]; exact hs, fun k hk hne => ?_⟩
   rw [Below.heap_setCell _ _ _ _ (fun e => hne (by rw [e]))]
   exact hb.block k hk
  ·rw [flat_snoc, show (List.range 9).map (PEn.cell ⟨S, x⟩) = [.int .u64 (wd S 0), .int .u64 (wd S 1), .int .u64 (wd S 2), .int .u64 (wd S 3), .int .u64 (wd S 4), .int .u64 (wd S 5), .int .u64 (wd S 6), .int .u64 (wd S 7), .slice x.adr x.len x.cap] from rfl]
   exact own_set (HX6.out.row 1 rfl) hgl _
end Go.Proofs.YtdpbbhbegehcjaaGreatDoor

namespace Go.Proofs.YtdpbbhbegehcjaaGreatDoor
open Go.RowKit
namespace Lx
section
variable {P : Program} {ops : Array Oper} {C : World → Prop} {hs : List Nat}
def rel (ops : Array Oper) (hs : List Nat) (M : List Nat) (x y i j : Nat) : Bool :=
 ((M.getD j 0).testBit i || pair ops hs i j || (i == x && j == y)) && (match ops[i]? with | some o => o.after.all fun e => !Region.binds .any e || e.on != j | none => true)
def pw {α : Type} (r : α → α → Bool) : List α → Bool
 | [] => true
 | x :: l => l.all (r x) && pw r l
theorem pw_iff {α : Type} {r : α → α → Bool} : ∀ {l : List α}, pw r l = true → l.Pairwise (fun a b => r a b = true) := by
 intro l
 induction l with
 | nil => intro _; exact List.Pairwise.nil
 | cons x l ih =>
  intro h
  rw [pw, Bool.and_eq_true] at h
  exact List.Pairwise.cons (fun y hy => List.all_eq_true.1 h.1 y hy) (ih h.2)
theorem set_iff {listed : Array Bool} {j : Nat} (i : Nat) : (listed.setIfInBounds j true).getD i true = false ↔ (listed.getD i true = false ∧ i ≠ j) := by
 by_cases hij : i = j
 ·subst hij
  simp [Array.getD_eq_getD_getElem?, Array.getElem?_setIfInBounds]
  split <;> simp_all
 ·simp [Array.getD_eq_getD_getElem?, Array.getElem?_setIfInBounds_ne (Ne.symm hij), hij]
theorem mem_rest {listed : Array Bool} {pre post : List Nat} {j : Nat} (hnd : (pre ++ j :: post).Nodup) (hm : ∀ k, k ∈ pre ++ j :: post ↔ k < ops.size ∧ listed.getD k true = false) : ∀ k, k ∈ pre ++ post ↔ k < ops.size ∧ (listed.setIfInBounds j true).getD k true = false := by
 intro i
 rw [set_iff]
 have hnj : j ∉ pre ++ post := by
  rw [List.nodup_append] at hnd
  obtain ⟨_, h2, h3⟩ := hnd
  rw [List.nodup_cons] at h2
  intro h
  rcases List.mem_append.1 h with h | h
  ·exact h3 j h j (by simp) rfl
  ·exact h2.1 h
 constructor
 ·intro hi
  have hi' : i ∈ pre ++ j :: post := by
   rcases List.mem_append.1 hi with h | h
   ·simp [h]
   ·simp [h]
  obtain ⟨q1, q2⟩ := (hm i).1 hi'
  exact ⟨q1, q2, fun e => hnj (e ▸ hi)⟩
 ·rintro ⟨q1, q2, q3⟩
  have := (hm i).2 ⟨q1, q2⟩
  rcases List.mem_append.1 this with h | h
  ·simp [h]
  ·rcases List.mem_cons.1 h with h | h
   ·exact absurd h q3
   ·simp [h]
theorem down_set {listed : Array Bool} (hD : Down ops listed) {j : Nat} {oj : Oper} (hoj : ops[j]? = some oj) (hjr : ∀ e ∈ oj.after, Region.binds .any e = true → listed.getD e.on false = true) : Down ops (listed.setIfInBounds j true) := by
 intro j' o' ho' hl' e he hb
 by_cases hjj : j' = j
 ·subst hjj
  rw [hoj] at ho'
  injection ho' with ho'
  subst ho'
  exact getD_set_true (hjr e he hb)
 ·rw [getD_set_ne false (Ne.symm hjj)] at hl'
  exact getD_set_true (hD j' o' ho' hl' e he hb)
theorem drop_mid {α : Type} {R : α → α → Prop} {pre post : List α} {j : α} (h : (pre ++ j :: post).Pairwise R) : (pre ++ post).Pairwise R :=
 h.sublist (List.Sublist.append (List.Sublist.refl _) (List.sublist_cons_self _ _))
theorem op_of_step {Q : Exit → Act → World → Prop} {j : Nat} {oj : Oper} {a : Act} {w : World} {K : Act → World → Prop} (hoj : ops[j]? = some oj) (hC : C w) (h2 : step P ops C hs j oj K a w) : wpOp P ops Q j K a w := by
 unfold step at h2
 unfold wpOp
 simp only [hoj]
 split
 ·rename_i hw
  rw [if_pos hw] at h2
  left
  rcases h2 with ⟨_, v, h3, h4⟩ | ⟨_, v, h3, h4⟩ | ⟨_, h3⟩
  ·unfold Oper.wp; rw [h3 w hC]; exact h4
  ·unfold Oper.wp; rw [h3]; exact h4
  ·exact Oper.wp_mono (fun _ _ hh => hh.2) (wp_noQ h3)
 ·rename_i hw
  rw [if_neg hw] at h2
  exact h2
def lexI (P : Program) (ops : Array Oper) (C : World → Prop) (hs : List Nat) (Q : Act → World → Prop) : List (Nat × Oper) → Act → World → Prop
 | [], a, w => Q a w
 | p :: r, a, w => step P ops C hs p.1 p.2 (lexI P ops C hs Q r) a w
end
section
variable {P : Program} {ops : Array Oper} {C : World → Prop} {hs : List Nat} {Q : Act → World → Prop} {k : Nat} {o : Oper} {r : List (Nat × Oper)} {a : Act} {w : World}
end
attribute [irreducible] lexI
end Lx
end Go.Proofs.YtdpbbhbegehcjaaGreatDoor
