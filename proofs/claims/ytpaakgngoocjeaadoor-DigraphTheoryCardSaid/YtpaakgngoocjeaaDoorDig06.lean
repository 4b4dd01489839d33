/- The contract of distances of digraph. -/
import Derived.OrdersIn
import Derived.RangeFuncCalls
import Derived.Sort.LoopGhostIn
import Derived.Sort.CutIn
import Derived.Maps.OwnIn
import Derived.Test.YtpaakgngoocjeaaDoorDig02
import Derived.Test.YtpaakgngoocjeaaDoorDig04
import Derived.Test.YtpaakgngoocjeaaDoorDig05
/- The memory of a call's own (Hp) with sets and rows of numbers among its entries. -/
namespace Go.Proofs.YtpaakgngoocjeaaDoor
open Go.RowKit Go.Shelf

theorem grownBy_set8 (W : World) (g S : Nat) : W.grownBy (set8 W g S) (some g) := grown_setAt W g 0 S
section
variable {w u W X : World} {L : List Ent} {ds : List Nat}
theorem Hp.set8 (h : Hp w u W L ds) (i S : Nat) {g t T : Nat} (hi : L[i]? = some (.blk g t (tabL 8 (sC T)))) : Hp w u (set8 W g S) (L.set i (.blk g t (tabL 8 (sC S)))) ds :=
  h.upd i hi (grownBy_set8 W g S) ((h.blk i hi).set8 S) (fun _ hg' => .inl hg')
theorem Hp.allocS (h : Hp w u W L ds) (S t : Nat) : Hp w u (W.alloc (.cells (sL S).toArray t)) (L ++ [.blk W.heap.size t (tabL 8 (sC S))]) ds := h.alloc (sL S) t
theorem Hp.alloc1 (h : Hp w u W L ds) (v : Value) (t : Nat) : Hp w u (W.alloc (.cells #[v] t)) (L ++ [.blk W.heap.size t [v]]) ds := h.alloc [v] t
/-- a store into a row of numbers -/
theorem Hp.setI (h : Hp w u W L ds) (i k : Nat) (x : Int) {g t : Nat} {D : List Int} (hi : L[i]? = some (.blk g t (D.map intV))) : Hp w u (W.setCell ⟨g, k, none⟩ (.int .i64 x)) (L.set i (.blk g t ((D.set k x).map intV))) ds := by
  rw [List.map_set]; exact h.set i k _ hi
theorem Hp.cI (h : Hp w u W L ds) (i k : Nat) {g t : Nat} {D : List Int} {x : Int} (hi : L[i]? = some (.blk g t (D.map intV))) (hk : D[k]? = some x) : W.cell? ⟨g, k, none⟩ = some (.int .i64 x) := h.c i k hi (by rw [List.getElem?_map, hk]; rfl)
/-- a set in a row of sets -/
theorem Hp.rowSet (h : Hp w u W L ds) (i k : Nat) {v : Value} {t n T : Nat} {P : List Nat} (hi : L[i]? = some (.row v t 8 n (rowC P))) (hk : P[k]? = some T) :
    ∃ g c, v = .slice (some ⟨g, 0, none⟩) n c ∧ W.cell? ⟨g, k * 8, none⟩ = some (.int .u64 (wd T 0)) ∧ W.cell? ⟨g, k * 8 + 1, none⟩ = some (.int .u64 (wd T 1)) ∧ W.cell? ⟨g, k * 8 + 2, none⟩ = some (.int .u64 (wd T 2)) ∧ W.cell? ⟨g, k * 8 + 3, none⟩ = some (.int .u64 (wd T 3)) ∧
    W.cell? ⟨g, k * 8 + 4, none⟩ = some (.int .u64 (wd T 4)) ∧ W.cell? ⟨g, k * 8 + 5, none⟩ = some (.int .u64 (wd T 5)) ∧ W.cell? ⟨g, k * 8 + 6, none⟩ = some (.int .u64 (wd T 6)) ∧ W.cell? ⟨g, k * 8 + 7, none⟩ = some (.int .u64 (wd T 7)) ∧ g < W.heap.size := by
  obtain ⟨g, c, rfl, h0, _, hl⟩ := h.at i (k * 8 + 0) hi (rowC_at hk (j := 0) (by decide))
  have hj : ∀ j, j < 8 → W.cell? ⟨g, k * 8 + j, none⟩ = some (sC T j) := by
    intro j hj
    obtain ⟨g', c', e, h1, _, _⟩ := h.at i (k * 8 + j) hi (rowC_at hk hj)
    injection e with e _ _
    injection e with e
    injection e with e
    subst e
    exact h1
  exact ⟨g, c, rfl, h0, hj 1 (by decide), hj 2 (by decide), hj 3 (by decide), hj 4 (by decide), hj 5 (by decide), hj 6 (by decide), hj 7 (by decide), hl⟩
/-- a row of numbers, just made -/
theorem Hp.made (h : Hp w u W L ds) {g t n : Nat} (hown : X.ownsRow w.heap.size t 1 (.slice (some ⟨g, 0, none⟩) n n) n ((List.replicate n (0 : Int)).map intV)) (hg : W.grownBy X none) (hl : W.heap.size ≤ g) : Hp w u X (L ++ [.blk g t ((List.replicate n (0 : Int)).map intV)]) ds :=
  h.pushBlk ⟨hg.os, hg.tape, hg.output, hg.size, fun k hk => hg.block k hk (by simp)⟩ (blk_of_own hown).1 hl
end
theorem made_ints (n : Nat) : (madeCells (Value.int .i64 0).cells (n * 1)).toList = (List.replicate n 0).map intV := by
  apply List.ext_getElem?
  intro j
  by_cases hj : j < n
  · simp [madeCells, Value.cells, hj, intV, Nat.mod_one]
  · rw [List.getElem?_eq_none (by simp [madeCells]; omega), List.getElem?_eq_none (by simp; omega)]
/-- numbers in a block of their own are returned -/
def BlkInts (t : Nat) (R : List Int) (w : World) (e : Ending) (w' : World) : Prop := ∃ g, e = .returned (.slice (some ⟨g, 0, none⟩) R.length R.length) ∧ w.heap.size ≤ g ∧ Blk w' g t (R.map intV) ∧ Below w.heap.size w w'
end Go.Proofs.YtpaakgngoocjeaaDoor

/- A region that draws its order of evaluation, in a function that ranges over functions: walked once in the order of the text. Nothing of the program is named here. -/
namespace Go.Proofs.YtpaakgngoocjeaaDoor
open Go.RowKit

namespace Lx
/-- an operation that is no defer does in a round what it does elsewhere -/
theorem wpInW_of_wp {P : Program} {n : Nat} {o : Oper} {a : Act} {w : World} {K : Act → World → Prop} {Q Q' : Exit → Act → World → Prop} (hnd : ∀ c, o.op ≠ .defer c) (hQ : ∀ e a w, Q e a w → e = .normal) (h : o.wp P a w K Q) : o.wpIn Fence.wide n P a w K Q' := by
  unfold Oper.wpIn
  refine ⟨fun _ _ => trivial, ?_⟩
  rw [Oper.semAt_eq _ _ _ hnd]
  unfold Oper.wp at h
  generalize (execOp a.eval o).run P w = r at *
  cases r with
  | ok x w' =>
    cases x with
    | value v => exact h
    | skip => exact h
    | defer d => exact h
    | enter f args =>
      refine ⟨fun hd => (by cases hd), (callsIn_wide.2 (Calls.mono h ?_))⟩
      intro e w'' he
      cases e with
      | returned v => exact he
      | panicked c => exact absurd (hQ _ _ _ he) (by simp)
      | outgrown => obtain ⟨a', w3, hq⟩ := he; exact absurd (hQ _ _ _ hq) (by simp)
    | row row args => exact ⟨fun hd => (by cases hd), fun c cs _ => let ⟨v, w2, r, s⟩ := h c cs; ⟨v, w2, r, stepsIn_wide.2 s⟩⟩
    | _ => exact h.elim
  | halt x w' =>
    cases x with
    | panic v => exact absurd (hQ _ _ _ h) (by simp)
    | _ => exact h.elim

theorem anyInW_of_any {P : Program} {n : Nat} {ops : Array Oper} {Q : Exit → Act → World → Prop} (hnd : ∀ (i : Nat) (o : Oper), ops[i]? = some o → ∀ c, o.op ≠ .defer c) :
    ∀ (fuel : Nat) (listed : Array Bool) (a : Act) (w : World), wpAny P .any ops (fun e a w => e = .normal ∧ Q .normal a w) fuel listed a w → wpAnyIn Fence.wide n P .any ops Q fuel listed a w := by
  intro fuel
  induction fuel with
  | zero => intro listed a w h; exact ⟨h.1, h.2.2⟩
  | succ fuel ih =>
    intro listed a w h
    refine ⟨fun hr => (h.1 hr).2, fun i hi => ?_⟩
    have h1 := h.2 i hi
    unfold wpOp at h1
    unfold wpOpIn
    cases ho : ops[i]? with
    | none => rw [ho] at h1; exact ih _ _ _ h1
    | some o =>
      rw [ho] at h1
      dsimp only at h1 ⊢
      split
      · rename_i hw
        rw [if_pos hw] at h1
        rcases h1 with h2 | ⟨_, a', w', h2, _⟩
        · exact Oper.wpIn_mono (fun a w => ih _ a w) (wpInW_of_wp (hnd i o ho) (fun e _ _ he => he.1) h2)
        · cases h2
      · rename_i hw
        rw [if_neg hw] at h1
        exact ⟨fun _ _ => trivial, ih _ _ _ h1⟩



/-- THE REGION, in a round -/
theorem regionW {P : Program} {C : World → Prop} {hs : List Nat} {id n : Nat} {l : List Oper} {Q : Exit → Act → World → Prop} {a : Act} {w : World} (hm : P.follows .mixedOrders = true) (hok : ok hs l.toArray = true) (hd : noDefer l = true) (hC : C w.drew)
    (h : lex P l.toArray C hs (fun a w => Q .normal a w) 0 l a w.drew) : (Code.region id l.toArray true).wpIn Fence.wide n P Q a w := by
  refine wpIn_region_any hm (anyInW_of_any (fun i o ho c hc => ?_) _ _ _ _ ?_)
  · have hmem : o ∈ l := by have : l[i]? = some o := by simpa using ho
                            exact List.mem_of_getElem? this
    have := List.all_eq_true.1 hd o hmem
    rw [hc] at this
    cases this
  · refine any_of_lex (C := C) (hs := hs) hok _ (List.range l.length) _ a _ hC (by simp) ?_ List.pairwise_lt_range ?_ (by simp) ?_
    · intro i
      simp [Array.getD_eq_getD_getElem?, Array.getElem?_replicate]
      intro hi
      simp [hi]
    · intro j o ho hl
      simp [Array.getD_eq_getD_getElem?, Array.getElem?_replicate] at hl
      split at hl <;> simp at hl
    · have h1 := lexN_of_lex (P := P) (ops := l.toArray) (C := C) (hs := hs) (Q := fun a w => Q .normal a w) l 0 (fun m => by simp)
      rw [h1, ← List.range_eq_range'] at h
      have h2 : (fun a w => (fun e a w => e = Exit.normal ∧ Q Exit.normal a w) Exit.normal a w) = fun a w => Q Exit.normal a w := by
        funext a w; simp
      rw [h2]
      exact h
end Lx
end Go.Proofs.YtpaakgngoocjeaaDoor

/- The contract of parts of digraph: the strongly connected components. Printed by genpa09.py from tpl/Pa09.src. -/
namespace Go.Proofs.YtpaakgngoocjeaaDoor
open Go.RowKit Go.Shelf Go.ChangeShapes Go.WideShapes Go.ChangeAt Go.Deep Go.Joins

attribute [local go_sem] Oper.semAt_some

def orBits (L : List Nat) : Nat := L.foldl (fun a w => a ||| 2 ^ w) 0
theorem orBits_snoc (L : List Nat) (x : Nat) : orBits (L ++ [x]) = orBits L ||| 2 ^ x := by unfold orBits; rw [List.foldl_append]; rfl
def setIdx (X : List Int) (L : List Nat) (m : Int) : List Int := L.foldl (fun X w => X.set w m) X
theorem setIdx_snoc (X : List Int) (L : List Nat) (m : Int) (x : Nat) : setIdx X (L ++ [x]) m = (setIdx X L m).set x m := by unfold setIdx; rw [List.foldl_append]; rfl
theorem setIdx_len (m : Int) : ∀ (L : List Nat) (X : List Int), (setIdx X L m).length = X.length := by
  intro L
  induction L with
  | nil => intro X; rfl
  | cons x r ih => intro X; show (setIdx (X.set x m) r m).length = _; rw [ih, List.length_set]
/-- the members of the component of v -/
noncomputable def partL (S : List Nat) (v : Nat) : List Nat := (mem (reachM S v)).filter fun w => (reachM S w).testBit v
noncomputable def stepP (S : List Nat) (st : Nat × List Nat × List Int) (v : Nat) : Nat × List Nat × List Int := if st.1.testBit v then st else (st.1 ||| orBits (partL S v), st.2.1 ++ [orBits (partL S v)], setIdx st.2.2 (partL S v) st.2.1.length)
noncomputable def partsK (S : List Nat) (k : Nat) : Nat × List Nat × List Int := (List.range k).foldl (stepP S) (0, [], List.replicate S.length 0)
theorem partsK_succ (S : List Nat) (k : Nat) : partsK S (k + 1) = stepP S (partsK S k) k := by unfold partsK; rw [List.range_succ, List.foldl_append]; rfl
theorem partsK_len (S : List Nat) : ∀ k, (partsK S k).2.2.length = S.length ∧ (partsK S k).2.1.length ≤ k := by
  intro k
  induction k with
  | zero => exact ⟨by simp [partsK], by simp [partsK]⟩
  | succ k ih =>
    rw [partsK_succ]
    unfold stepP
    split
    · exact ⟨ih.1, by omega⟩
    · exact ⟨by rw [setIdx_len]; exact ih.1, by rw [List.length_append]; simp; omega⟩
theorem reachesM_at {S : List Nat} {k : Nat} (h : k < S.length) : (reachesM S)[k]? = some (reachM S k) := by unfold reachesM; rw [List.getElem?_map, List.getElem?_range h]; rfl

theorem grown_below {a b c : World} {r : Option Nat} (h : a.grownBy b r) (k : Below b.heap.size b c) : a.grownBy c r :=
  ⟨k.os.trans h.os, k.tape.trans h.tape, k.output.trans h.output, Nat.le_trans h.size k.size, fun i hi hne => (k.block i (Nat.lt_of_lt_of_le hi h.size)).trans (h.block i hi hne)⟩
theorem grown_own {a b c : World} {r row : Option Nat} {B : Nat} (hB : a.heap.size ≤ B) (h : a.grownBy b r) (k : b.grownBy c row) (hr : ∀ g, row = some g → B ≤ g) : a.grownBy c r :=
  ⟨k.os.trans h.os, k.tape.trans h.tape, k.output.trans h.output, Nat.le_trans h.size k.size, fun i hi hne => (k.block i (Nat.lt_of_lt_of_le hi h.size) (fun e => by have := hr i e.symm; omega)).trans (h.block i hi hne)⟩

theorem wpListIn_make_full {F : Fence} {n : Nat} {P : Program} (w : World) {ops : Array Oper} {rest : List Oper} {o : Oper} {a : Act} {Q : Exit → Act → World → Prop}
    (hg : o.guard = none) (l c : Operand) (t : TypeId) (hop : o.op = Op.makeSlice t l c)
    (base : Nat) (e : TypeId) (i : TypeInfo) (z : Value) (size : Nat) (h1 : P.underlying t = some (.slice e)) (h2 : P.info? e = some i) (h3 : i.zero = some z) (h4 : i.size = size)
    (kl kc : IntKind) (L C : Int) (m : Nat) (hl : a.eval l = .int kl L) (hc : a.eval c = .int kc C) (hL : L = (m : Int)) (hC : C = (m : Int)) (b2 : i.bytes * m ≤ 281474976710656) (b3 : m ≤ maxLen) (b4 : base ≤ w.heap.size)
    (hK : ∀ w', w'.ownsRow base e size (.slice (some ⟨w.heap.size, 0, none⟩) m m) m (madeCells z.cells (m * size)).toList → w.grownBy w' none → wpListIn F n P ops Q rest (a.put o.dst (.slice (some ⟨w.heap.size, 0, none⟩) m m)) w') :
    wpListIn F n P ops Q (o :: rest) a w := by
  refine wpListIn_plain hg fun K hK' => ?_
  obtain ⟨w', hrun, r1, r2⟩ := run_make_full (P := P) w base t e i z size h1 h2 h3 h4 kl kc m b2 b3 b4
  subst hL
  subst hC
  unfold Oper.wpIn
  refine ⟨?_, ?_⟩
  · simp [Oper.about, hop]
  · rw [Oper.semAt_plain F _ _ (by rw [hop]; intro c hc'; cases hc')]
    simp [execOp, hop, hl, hc, hrun, Result.andThen]
    exact hK' _ _ (hK w' r1 r2)

/-- the frame at the head of a round: what the scratch slots hold does not matter -/
def PaFrame (p4 p5 p6 p7 n k : Nat) (ds : List Nat) (a : Act) : Prop := ∃ u : Nat → Value, a = { tmps := #[u 0, u 1, u 2, u 3, (.pointer (some ⟨p4, 0, none⟩)), (.pointer (some ⟨p5, 0, none⟩)), (.pointer (some ⟨p6, 0, none⟩)), (.pointer (some ⟨p7, 0, none⟩)), u 8, u 9, u 10, u 11, u 12, u 13, u 14, u 15, u 16, (.int .i64 (n : Int)), (.int .i64 (k : Int)), u 19, u 20, u 21, u 22, u 23, u 24, u 25, u 26, u 27, u 28, u 29, u 30, u 31, u 32, u 33, u 34, u 35, u 36, u 37, u 38, u 39, u 40, u 41, u 42, u 43, u 44, u 45, u 46, u 47, u 48, u 49, u 50, u 51, u 52, u 53, u 54, u 55, u 56], defers := marksOf ds }
theorem paFrame_mk (p4 p5 p6 p7 n k : Nat) (ds : List Nat) (u0 u1 u2 u3 u8 u9 u10 u11 u12 u13 u14 u15 u16 u19 u20 u21 u22 u23 u24 u25 u26 u27 u28 u29 u30 u31 u32 u33 u34 u35 u36 u37 u38 u39 u40 u41 u42 u43 u44 u45 u46 u47 u48 u49 u50 u51 u52 u53 u54 u55 u56 : Value) : PaFrame p4 p5 p6 p7 n k ds { tmps := #[u0, u1, u2, u3, (.pointer (some ⟨p4, 0, none⟩)), (.pointer (some ⟨p5, 0, none⟩)), (.pointer (some ⟨p6, 0, none⟩)), (.pointer (some ⟨p7, 0, none⟩)), u8, u9, u10, u11, u12, u13, u14, u15, u16, (.int .i64 (n : Int)), (.int .i64 (k : Int)), u19, u20, u21, u22, u23, u24, u25, u26, u27, u28, u29, u30, u31, u32, u33, u34, u35, u36, u37, u38, u39, u40, u41, u42, u43, u44, u45, u46, u47, u48, u49, u50, u51, u52, u53, u54, u55, u56], defers := marksOf ds } := ⟨fun i => [u0, u1, u2, u3, undef, undef, undef, undef, u8, u9, u10, u11, u12, u13, u14, u15, u16, undef, undef, u19, u20, u21, u22, u23, u24, u25, u26, u27, u28, u29, u30, u31, u32, u33, u34, u35, u36, u37, u38, u39, u40, u41, u42, u43, u44, u45, u46, u47, u48, u49, u50, u51, u52, u53, u54, u55, u56].getD i undef, rfl⟩

theorem own_same {w w' : World} {base e size n : Nat} {v : Value} {xs : List Value} (h : w.ownsRow base e size v n xs) (hs : ∀ g, v.ownBlock = some g → w'.heap[g]? = w.heap[g]?) : w'.ownsRow base e size v n xs := by
  refine ⟨h.1, ?_⟩
  rcases h.2 with h1 | ⟨g, cap, cur, h1, h2, h3, h4, h5, h6, h7⟩
  · exact .inl h1
  · exact .inr ⟨g, cap, cur, h1, h2, (hs g (by rw [h1]; rfl)).trans h3, h4, h5, h6, h7⟩
/-- the world between two rounds -/
def PaInv (w : World) (n p4 p5 A6 p6 p7 : Nat) (RM : List Nat) (st : Nat × List Nat × List Int) (ds : List Nat) (W : World) : Prop :=
  Boxed W p4 65 (.slice (some ⟨w.heap.size, 0, none⟩) n n) ∧ Blk W w.heap.size 40 (rowC RM ++ []) ∧
  (∃ v, Boxed W p5 65 v ∧ W.ownsRow w.heap.size 40 8 v st.2.1.length (rowC st.2.1) ∧ ∀ g, v.ownBlock = some g → p7 < g) ∧
  Boxed W p6 36 (.slice (some ⟨A6, 0, none⟩) n n) ∧ Blk W A6 3 (st.2.2.map intV) ∧ Blk W p7 40 (tabL 8 (sC st.1)) ∧
  (w.heap.size < p4 ∧ p4 < p5 ∧ p5 < A6 ∧ A6 < p6 ∧ p6 < p7) ∧ Below w.heap.size w W ∧ (∀ D ∈ ds, p7 < D ∧ W.heap[D]? = some (.deferred (some []))) ∧ ds.Nodup
theorem PaInv.keep {w W W' : World} {n p4 p5 A6 p6 p7 : Nat} {RM : List Nat} {st : Nat × List Nat × List Int} {ds : List Nat} (h : PaInv w n p4 p5 A6 p6 p7 RM st ds W) (hb : Below W.heap.size W W') : PaInv w n p4 p5 A6 p6 p7 RM st ds W' := by
  obtain ⟨h1, h2, ⟨v, h3, h3', h3''⟩, h4, h5, h6, h7, h8, h9, h10⟩ := h
  exact ⟨boxed_keep h1 hb, h2.keep hb, ⟨v, boxed_keep h3 hb, own_keep h3' hb, h3''⟩, boxed_keep h4 hb, h5.keep hb, h6.keep hb, h7, h8.trans (hb.mono h8.size), fun D hD => ⟨(h9 D hD).1, (hb.block D (Array.getElem?_eq_some_iff.1 (h9 D hD).2).1).trans (h9 D hD).2⟩, h10⟩
theorem PaInv.idx {w W X : World} {n p4 p5 A6 p6 p7 : Nat} {RM : List Nat} {a : Nat} {b : List Nat} {i i' : List Int} {ds : List Nat} (h : PaInv w n p4 p5 A6 p6 p7 RM (a, b, i) ds W) (hg : W.grownBy X (some A6)) (hb : Blk X A6 3 (i'.map intV)) : PaInv w n p4 p5 A6 p6 p7 RM (a, b, i') ds X := by
  obtain ⟨h1, h2, ⟨v, h3, h3', h3''⟩, h4, h5, h6, h7, h8, h9, h10⟩ := h
  have hk : ∀ k, k < W.heap.size → k ≠ A6 → X.heap[k]? = W.heap[k]? := fun k h1 h2 => hg.block k h1 (fun e => h2 (Option.some.inj e))
  refine ⟨(hk _ h1.lt (by omega)).trans h1, (hk _ h2.lt (by omega)).trans h2, ⟨v, (hk _ h3.lt (by omega)).trans h3, own_same h3' (fun g hg' => hk g ?_ (by have := h3'' g hg'; omega)), h3''⟩, (hk _ h4.lt (by omega)).trans h4, hb, (hk _ h6.lt (by omega)).trans h6, h7, h8.grown hg h8.size (fun g e => by cases e; omega), fun D hD => ⟨(h9 D hD).1, (hk D (Array.getElem?_eq_some_iff.1 (h9 D hD).2).1 (by have := (h9 D hD).1; omega)).trans (h9 D hD).2⟩, h10⟩
  first | exact (h3'.lt g hg').2.1 | exact (h3'.lt g hg').2
theorem PaInv.seen {w W : World} {n p4 p5 A6 p6 p7 : Nat} {RM : List Nat} {a : Nat} {b : List Nat} {i : List Int} {ds : List Nat} (a' : Nat) (h : PaInv w n p4 p5 A6 p6 p7 RM (a, b, i) ds W) : PaInv w n p4 p5 A6 p6 p7 RM (a', b, i) ds (set8 W p7 a') := by
  obtain ⟨h1, h2, ⟨v, h3, h3', h3''⟩, h4, h5, h6, h7, h8, h9, h10⟩ := h
  exact ⟨(set8_other (by omega)).trans h1, (set8_other (by omega)).trans h2, ⟨v, (set8_other (by omega)).trans h3, own_same h3' (fun g hg' => set8_other (by have := h3'' g hg'; omega)), h3''⟩, (set8_other (by omega)).trans h4, (set8_other (by omega)).trans h5, h6.set8 a', h7, below_set8 a' h8 (by omega), fun D hD => ⟨(h9 D hD).1, (set8_other (by have := (h9 D hD).1; omega)).trans (h9 D hD).2⟩, h10⟩
theorem PaInv.mark {w W : World} {n p4 p5 A6 p6 p7 D : Nat} {RM : List Nat} {st : Nat × List Nat × List Int} {ds : List Nat} (h : PaInv w n p4 p5 A6 p6 p7 RM st ds W) (hD : W.heap[D]? = some (.deferred (some []))) (h5 : p7 < D) (hn : ∀ E ∈ ds, E < D) : PaInv w n p4 p5 A6 p6 p7 RM st (D :: ds) W := by
  obtain ⟨h1, h2, h3, h4, h5', h6, h7, h8, h9, h10⟩ := h
  refine ⟨h1, h2, h3, h4, h5', h6, h7, h8, fun E hE => ?_, List.nodup_cons.2 ⟨fun h => by have := hn D h; omega, h10⟩⟩
  rcases List.mem_cons.1 hE with rfl | hE
  · exact ⟨h5, hD⟩
  · exact h9 E hE
theorem rowC_snoc (x : Nat) : ∀ L : List Nat, rowC (L ++ [x]) = rowC L ++ sL x := by
  intro L
  induction L with
  | nil => rw [List.nil_append, rowC_cons]; simp [rowC, flat]
  | cons y r ih => rw [List.cons_append, rowC_cons, rowC_cons, ih, List.append_assoc]
theorem sL_one (P : Nat) : ∀ u ∈ sL P, u.oneCell' = true := by
  intro u hu
  simp only [sL, List.mem_cons, List.not_mem_nil, or_false] at hu
  rcases hu with rfl | rfl | rfl | rfl | rfl | rfl | rfl | rfl <;> rfl
theorem set_new (w : World) (P t : Nat) : ∀ j u, (sL P)[j]? = some u → (w.alloc (.cells (sL P).toArray t)).cell? ((⟨w.heap.size, 0, none⟩ : Addr).add j) = some u := by
  intro j u hu
  have h0 := (blk_new w (sL P) t).cell hu
  unfold Addr.add
  by_cases hj : j = 0
  · subst hj; simpa using h0
  · rw [if_neg hj]; simpa using h0
theorem PaInv.parts {w V w' : World} {n p4 p5 A6 p6 p7 : Nat} {RM : List Nat} {a : Nat} {b b' : List Nat} {i : List Int} {ds : List Nat} {v v' : Value} {o : Obj} (h : PaInv w n p4 p5 A6 p6 p7 RM (a, b, i) ds V) (hv : Boxed V p5 65 v) (hown : V.ownsRow w.heap.size 40 8 v b.length (rowC b)) (hgp : ∀ g, v.ownBlock = some g → p7 < g)
    (hown' : w'.ownsRow w.heap.size 40 8 v' b'.length (rowC b')) (hg : (V.alloc o).grownBy w' v.ownBlock) (hat : v'.ownBlock = v.ownBlock ∨ v'.ownBlock = some (V.alloc o).heap.size) : PaInv w n p4 p5 A6 p6 p7 RM (a, b', i) ds (w'.setCell ⟨p5, 0, none⟩ v') := by
  obtain ⟨h1, h2, _, h4, h5, h6, h7, h8, h9, h10⟩ := h
  have hl5 := hv.lt
  have hl7 := h6.lt
  have hk : ∀ q, q < V.heap.size → some q ≠ v.ownBlock → w'.heap[q]? = V.heap[q]? := fun q hq hn => (hg.block q (by simp; omega) hn).trans (Below.heap_alloc V o q hq)
  have hkp : ∀ q, q < V.heap.size → q ≤ p7 → w'.heap[q]? = V.heap[q]? := fun q hq hn => hk q hq (fun e => by have := hgp q e.symm; omega)
  have hkq : ∀ q, q < V.heap.size → q ≤ p7 → q ≠ p5 → (w'.setCell ⟨p5, 0, none⟩ v').heap[q]? = V.heap[q]? := fun q hq hn hne => (Below.heap_setCell _ _ _ _ hne).trans (hkp q hq hn)
  have hgp' : ∀ g, v'.ownBlock = some g → p7 < g := by
    intro g hg'
    rcases hat with e | e
    · exact hgp g (by rw [← e]; exact hg')
    · rw [e] at hg'; injection hg' with hg'; simp at hg'; omega
  have hv5 : Boxed w' p5 65 v := (hkp p5 hl5 (by omega)).trans hv
  refine ⟨(hkq _ h1.lt (by omega) (by omega)).trans h1, (hkq _ h2.lt (by omega) (by omega)).trans h2, ⟨v', hv5.set v', ownsRow_setCell_other hown' (fun e => by have := hgp' _ e; dsimp only at this; omega) _, hgp'⟩, (hkq _ h4.lt (by omega) (by omega)).trans h4, (hkq _ h5.lt (by omega) (by omega)).trans h5, (hkq _ h6.lt (by omega) (by omega)).trans h6, h7, ?_, fun D hD => ⟨(h9 D hD).1, ?_⟩, h10⟩
  · exact (((h8.alloc h8.size o).grown hg (by have := h8.size; simp; omega) (fun g e => own_ge hown g e)).setCell (p := ⟨p5, 0, none⟩) (by dsimp only; omega) _)
  · obtain ⟨e1, e2⟩ := h9 D hD
    rw [Below.heap_setCell _ _ _ _ (by dsimp only; omega)]
    refine (hk D (Array.getElem?_eq_some_iff.1 e2).1 (fun e => ?_)).trans e2
    rcases hown.2 with ⟨h1', _⟩ | ⟨g, cap, cur, h1', _, h3', _⟩
    · rw [h1'] at e; cases e
    · rw [h1'] at e
      injection e with e
      have e : D = g := e
      subst e
      rw [e2] at h3'
      cases h3'
/-- what stands between two rounds of the range -/
def PaJ (W5 : World) (S : List Nat) (N B A6 k : Nat) (X0 : List Int) (m : Int) (pre : List (Fin N)) (X : World) : Prop := B ≤ X.heap.size ∧ Blk X W5.heap.size 40 (tabL 8 (sC (orBits ((pre.map Fin.val).filter fun w => (reachM S w).testBit k)))) ∧
  Blk X A6 3 ((setIdx X0 ((pre.map Fin.val).filter fun w => (reachM S w).testBit k) m).map intV) ∧ W5.grownBy X (some A6)
theorem paJ_own {W5 : World} {S : List Nat} {N B A6 k : Nat} {X0 : List Int} {m : Int} (h3 : W5.heap.size ≤ B) : OwnFrom B (PaJ W5 S N B A6 k X0 m) := by
  intro pre X Y row hJ hg hr
  obtain ⟨h0, h1, h2, h4⟩ := hJ
  refine ⟨Nat.le_trans h0 hg.size, ?_, ?_, grown_own h3 h4 hg (fun g e => (hr g e).1)⟩
  · exact Own.from (blk_own (β := Unit) _ _ (tabL 8 (sC (orBits ((pre.map Fin.val).filter fun w => (reachM S w).testBit k))))) B () X Y row h1 hg hr
  · exact Own.from (blk_own (β := Unit) _ _ ((setIdx X0 ((pre.map Fin.val).filter fun w => (reachM S w).testBit k) m).map intV)) B () X Y row h2 hg hr
theorem grown_set8 {a b : World} {r : Option Nat} {g : Nat} (N : Nat) (h : a.grownBy b r) (hg : a.heap.size ≤ g) : a.grownBy (set8 b g N) r :=
  grown_own (Nat.le_refl _) h (row := some g) (show b.grownBy (set8 b g N) (some g) from grown_setAt b g 0 N) (fun g' e => by cases e; exact hg)
theorem grown_setCell {a b : World} {g i : Nat} {v : Value} (h : a.grownBy b (some g)) : a.grownBy (b.setCell ⟨g, i, none⟩ v) (some g) := by
  refine ⟨h.os, h.tape, h.output, by simpa using h.size, fun k hk hne => ?_⟩
  rw [Below.heap_setCell _ _ _ _ (fun e => hne (by rw [e]))]
  exact h.block k hk hne
theorem keeps_below {X W : World} (h : Below X.heap.size X W) : KeepsOthers X W := ⟨h.size, fun k _ hk _ => (h.block k (Array.getElem?_eq_some_iff.1 hk).1).trans hk⟩
theorem filter_snoc {N : Nat} (p : Nat → Bool) (pre : List (Fin N)) (x : Fin N) : ((pre ++ [x]).map Fin.val).filter p = (pre.map Fin.val).filter p ++ (if p x.1 then [x.1] else []) := by
  rw [List.map_append, List.filter_append, List.map_cons, List.map_nil]
  cases h : p x.1 <;> simp [h]
theorem hB5X {w W X : World} {n p4 p5 A6 p6 p7 : Nat} {RM : List Nat} {a : Nat} {b : List Nat} {i i' : List Int} {ds : List Nat} (h : PaInv w n p4 p5 A6 p6 p7 RM (a, b, i) ds W) (hg : W.grownBy X (some A6)) (hb : Blk X A6 3 (i'.map intV)) : Below w.heap.size w X := (h.idx hg hb).2.2.2.2.2.2.2.1
theorem hasS_nat {A k : Nat} (h : k < 512) : hasS A (k : Int) = A.testBit k := by unfold hasS; rw [decide_eq_true (by omega), Bool.true_and, Int.toNat_natCast]

set_option maxRecDepth 100000 in
set_option maxHeartbeats 4000000 in
theorem gparts_any {gb rb cap : Nat} {ext : List Value} {S : List Nat} {arcs : Int} (w : World) (hT : Tab w) (h : GAt w gb rb cap ext S arcs) (hI : InG S) :
    Calls Tryd.prog 49 #[.pointer (some ⟨gb, 0, none⟩)] w fun e w' => ∃ vP A6, e = .returned (.tuple #[vP, .slice (some ⟨A6, 0, none⟩) S.length S.length]) ∧
      w'.ownsRow w.heap.size 40 8 vP (partsK S S.length).2.1.length (rowC (partsK S S.length).2.1) ∧ Blk w' A6 3 ((partsK S S.length).2.2.map intV) ∧ w.heap.size ≤ A6 ∧ Below w.heap.size w w' := by
  have h512 := h.2.2.2
  have HRS := Lib.hid (greaches_any w hT h hI)
  have HT := Lib.hid hT
  have HI := Lib.hid hI
  have h4 : tabN ≤ w.heap.size := hT.1
  have HU := Lib.hid (fun A B W => union_any A B W)
  have HA := Lib.hid (fun T W => all_any T W)
  have HH := Lib.hid (fun A i W => has_any A i W)
  have HAD := Lib.hid (fun A i W hi => add_in A i W hi)
  obtain ⟨i0, hi, hz0, hz1, hz2⟩ := info_parts int_info
  obtain ⟨s0, si, sz0, sz1, sz2⟩ := info_parts set_info
  clear hT h hI
  unfold sV at HU HA HH HAD
  refine (callsIn_wide (n := 3)).1 ?_
  refine callsIn_of_wp_marks Tryd.func49 rfl trivial ?_ rfl
  simp only [Tryd.ntmps49, List.size_toArray, List.length_cons, List.length_nil, Nat.reduceAdd, Nat.reduceSub, Array.replicate_succ, Array.replicate_zero, List.push_toArray, List.append_toArray, List.nil_append, List.cons_append]
  gi_wp2_with fail
  refine ⟨trivial, (callsIn_wide.2 HRS.out).mono ?_⟩
  rintro e W1 ⟨rfl, hA4, hb1⟩
  have H1 := Lib.hid (And.intro hA4 hb1)
  have hA41 := hA4.lt
  clear hA4 hb1 HRS
  have hs1 := H1.out.2.size
  gi_wp2_with (gi_at_make; refine wpListIn_make_full _ rfl _ _ 36 rfl w.heap.size 3 i0 (.int .i64 0) 1 Tryd.underlying36 hi hz0 hz1 .i64 .i64 _ _ S.length rfl rfl rfl rfl (by rw [hz2]; omega) (by unfold maxLen; omega) (by simp; omega) ?_; intro W2 hown hgrow; rw [made_ints] at hown; have hB2 := below_of_grown hgrow; have b4 := boxed_keep ((Boxed.new W1 65 (.slice (some ⟨w.heap.size, 0, none⟩) S.length S.length)).alloc (.cells #[.slice none 0 0] 65)) hB2; have c4 := b4.cell; have l4 := b4.lt; have HO := Lib.hid (And.intro (blk_of_own hown).1 hB2); clear hown hgrow hB2 b4)
  obtain ⟨V2, hV2⟩ : ∃ V2, V2 = (W2.alloc (.cells #[.slice (some ⟨W1.heap.size + 2, 0, none⟩) S.length S.length] 36)).alloc (.cells (sL 0).toArray 40) := ⟨_, rfl⟩
  have H2 : Hid (PaInv w S.length W1.heap.size (W1.heap.size + 1) (W1.heap.size + 2) W2.heap.size (W2.heap.size + 1) (reachesM S) (partsK S 0) [] V2) := Lib.hid (by
    obtain ⟨x1, x2⟩ := H1.out
    obtain ⟨y1, y2⟩ := HO.out
    have hsz := y2.size
    rw [World.size_alloc, World.size_alloc] at hsz
    have hbb : Below w.heap.size w W2 := ((x2.alloc x2.size _).alloc (by simp; omega) _).trans (y2.mono (by simp; omega))
    rw [World.size_alloc, World.size_alloc] at y1
    have b4 := boxed_keep ((Boxed.new W1 65 (.slice (some ⟨w.heap.size, 0, none⟩) S.length S.length)).alloc (.cells #[.slice none 0 0] 65)) y2
    have b5 := Boxed.new (W1.alloc (.cells #[.slice (some ⟨w.heap.size, 0, none⟩) S.length S.length] 65)) 65 (.slice none 0 0)
    have b5 := boxed_keep b5 y2
    rw [World.size_alloc] at b5
    have hl1 := y1.lt
    rw [hV2]
    refine ⟨(b4.alloc _).alloc _, ((((x1.alloc _).alloc _).keep y2).alloc _).alloc _, ⟨.slice none 0 0, (b5.alloc _).alloc _, World.ownsRow_nil _ _ _ _, fun g hg => by cases hg⟩, (Boxed.new W2 _ _).alloc _, (y1.alloc _).alloc _, ?_, by omega, (hbb.alloc hbb.size _).alloc (by have := hbb.size; simp; omega) _, (fun D h => by cases h), by simp⟩
    rw [← sL_tab]
    have := blk_new (W2.alloc (.cells #[.slice (some ⟨W1.heap.size + 2, 0, none⟩) S.length S.length] 36)) (sL 0) 40
    rwa [World.size_alloc] at this)
  rw [sL_zero] at hV2
  rw [← hV2]
  clear hV2 HO H1 c4 l4 hs1 hA41
  have hs12 : W1.heap.size + 2 < W2.heap.size := by have := H2.out.2.2.2.2.2.2.1; omega
  have hs01 : w.heap.size < W1.heap.size := H2.out.2.2.2.2.2.2.1.1
  refine wpIn_loop_ghost (fun m a W => ∃ (k : Nat) (ds : List Nat), m = S.length - k ∧ k ≤ S.length ∧ PaFrame W1.heap.size (W1.heap.size + 1) W2.heap.size (W2.heap.size + 1) S.length k ds a ∧ PaInv w S.length W1.heap.size (W1.heap.size + 1) (W1.heap.size + 2) W2.heap.size (W2.heap.size + 1) (reachesM S) (partsK S k) ds W) (S.length - 0) ?start ?round
  case start =>
    exact ⟨0, [], rfl, Nat.zero_le _, paFrame_mk _ _ _ _ _ 0 [] _ _ _ _ _ _ _ _ _ _ _ _ _ _ _ _ _ _ _ _ _ _ _ _ _ _ _ _ _ _ _ _ _ _ _ _ _ _ _ _ _ _ _ _ _ _ _ _ _ _ _, H2.out⟩
  case round =>
    clear H2
    rintro m a W ⟨k, ds, rfl, hk, ⟨u, rfl⟩, hP⟩
    have HP := Lib.hid hP
    obtain ⟨b4, bR, ⟨vP, b5, hown, hgp⟩, b6, bI, b7, hord, hB, hds, hnd⟩ := hP
    by_cases hlt : k < S.length
    · have j0 : (k : Int) < (S.length : Int) := by omega
      have HST := Eqn.mk (partsK_succ S k)
      have HLN := Lib.hid (partsK_len S k)
      have e1 : IntKind.i64.wrap ((k : Int) + 1) = (k : Int) + 1 := IntWalk.i64_in _ (by omega)
      generalize partsK S k = st at *
      obtain ⟨seen, P, X0⟩ := st
      have HHS := HH.out seen (k : Int)
      rw [hasS_nat (by omega)] at HHS
      have HHS := Lib.hid HHS
      obtain ⟨c0, c1, c2, c3, c4, c5, c6, c7⟩ := b7.eight
      have l7 := b7.lt
      clear b4 bR b5 b6 bI b7 hord hB hds hnd hown hgp
      gi_wp2_with fail
      obtain ⟨V, hV⟩ : ∃ V, V = W.alloc (.cells #[.int .i64 k] 3) := ⟨_, rfl⟩
      have hP1 : PaInv w S.length W1.heap.size (W1.heap.size + 1) (W1.heap.size + 2) W2.heap.size (W2.heap.size + 1) (reachesM S) (seen, P, X0) ds V := HP.out.keep (by rw [hV]; exact (Below.refl _ W).alloc (Nat.le_refl _) _)
      have b8 : Boxed V W.heap.size 3 (.int .i64 k) := by rw [hV]; exact Boxed.new W _ _
      have H8 := Lib.hid (And.intro hP1 b8)
      rw [← hV]
      clear hV hP1 b8 c0 c1 c2 c3 c4 c5 c6 c7 l7
      refine ⟨trivial, (callsIn_wide.2 (HHS.out _)).mono ?_⟩
      rintro e W5 ⟨rfl, hb5⟩
      have HP5 := Lib.hid (H8.out.1.keep hb5)
      have hb8 := boxed_keep H8.out.2 hb5
      have HB8 := Lib.hid hb8
      clear hb5 HHS
      by_cases hsb : seen.testBit k = true
      · rw [hsb]
        have HST2 : Eqn (partsK S (k + 1)) (seen, P, X0) := by rw [Eqn, HST.out]; unfold stepP; rw [if_pos hsb]
        clear hb8 HST hsb
        gi_wp2_with fail
        exact ⟨S.length - (k + 1), by omega, k + 1, ds, rfl, hlt, paFrame_mk _ _ _ _ _ (k + 1) ds _ _ _ _ _ _ _ _ _ _ _ _ _ _ _ _ _ _ _ _ _ _ _ _ _ _ _ _ _ _ _ _ _ _ _ _ _ _ _ _ _ _ _ _ _ _ _ _ _ _ _, by rw [HST2.out]; exact HP5.out⟩
      · rw [Bool.not_eq_true] at hsb
        rw [hsb]
        have HST2 : Eqn (partsK S (k + 1)) (seen ||| orBits (partL S k), P ++ [orBits (partL S k)], setIdx X0 (partL S k) P.length) := by rw [Eqn, HST.out]; unfold stepP; rw [if_neg (by simp [hsb])]
        clear HST hsb
        obtain ⟨T, hTT⟩ : ∃ T, T = reachM S k := ⟨_, rfl⟩
        have HTT := Lib.hid hTT
        have hRk : (reachesM S)[k]? = some T := by rw [hTT]; exact reachesM_at hlt
        obtain ⟨b4, bR, _⟩ := HP5.out
        have c4 := b4.cell
        have l4 := b4.lt
        have cb8 := hb8.cell
        have lb8 := hb8.lt
        obtain ⟨y0, y1, y2, y3, y4, y5, y6, y7, y8⟩ := row_cells bR hRk
        clear b4 bR hb8 hRk hTT
        gi_wp2_with fail
        obtain ⟨V8, hV8⟩ : ∃ V8, V8 = W5.alloc (.cells (sL 0).toArray 40) := ⟨_, rfl⟩
        have H8' : Hid (Blk V8 W5.heap.size 40 (tabL 8 (sC 0)) ∧ Below W5.heap.size W5 V8) := Lib.hid (by
          rw [hV8, ← sL_tab]
          exact ⟨blk_new W5 _ _, (Below.refl _ W5).alloc (Nat.le_refl _) _⟩)
        rw [sL_zero] at hV8
        rw [← hV8]
        clear hV8 c4 l4 cb8 y0 y1 y2 y3 y4 y5 y6 y7 y8
        refine ⟨trivial, (callsIn_wide.2 (HA.out T _)).mono ?_⟩
        rintro e WE ⟨rfl, hWE⟩
        have hBE : Below W5.heap.size W5 WE := by rw [hWE]; exact H8'.out.2.alloc H8'.out.2.size _
        obtain ⟨_, _, _, _, bI5, _, hord5, hB5, _, _⟩ := HP5.out
        have hJ0 : PaJ W5 S S.length WE.heap.size (W1.heap.size + 2) k X0 P.length [] WE := ⟨Nat.le_refl _, by rw [hWE]; exact H8'.out.1.alloc _, bI5.keep hBE, grown_below (World.grownBy.refl W5 _) hBE⟩
        have hSE : Blk WE V8.heap.size 40 (tabL 8 (sC T)) := by rw [hWE, ← sL_tab]; exact blk_new _ _ _
        have hs8 : W5.heap.size < V8.heap.size := H8'.out.1.lt
        have hsE : V8.heap.size < WE.heap.size := hSE.lt
        have hTE : Tab WE := HT.out.keep (hB5.trans (hBE.mono hB5.size))
        have hTf : Fit T := by rw [HTT.out]; exact reachM_fit S k
        have hTin : ∀ x ∈ mem T, x < S.length := fun x hx => rch_lt HI.out hlt (by have := mem_tb hx; rw [HTT.out, reachM_tb] at this; exact this.2)
        have hs5 := hB5.size
        have hlI := bI5.lt
        clear hWE H8' HA bI5 hord5 hB5
        gi_wp2_with fail
        refine wpIn_rangeFunc_ownG rfl (by decide) (gf := 63) (lb := #[.pointer (some ⟨V8.heap.size, 0, none⟩)]) rfl trivial (enters_of Tryd.func63 (by kernel_rfl) rfl)
          (all_stopsF S.length 2 (by decide) V8.heap.size w.heap.size T hTf hTin h4 WE hSE hTE) keep1_t (keep1_b (by omega) (by omega)) (Below.refl _ _) (fun _ => rfl)
          (PaJ W5 S S.length WE.heap.size (W1.heap.size + 2) k X0 P.length) (fun _ _ _ => False) (paJ_own (by omega)) (fun _ _ _ _ _ hs _ _ => hs) hJ0
          (fun x => { tmps := #[u 0, u 1, u 2, u 3, (.pointer (some ⟨W1.heap.size, 0, none⟩)), (.pointer (some ⟨(W1.heap.size + 1), 0, none⟩)), (.pointer (some ⟨(W2.heap.size), 0, none⟩)), (.pointer (some ⟨(W2.heap.size + 1), 0, none⟩)), (.pointer (some ⟨W.heap.size, 0, none⟩)), (.pointer (some ⟨W5.heap.size, 0, none⟩)), (.int .i64 (x.1 : Int)), u 11, u 12, u 13, u 14, u 15, u 16, (.int .i64 (S.length : Int)), (.int .i64 (k : Int)), (.bool true), (.int .i64 (k : Int)), (.agg #[.int .u64 (wd seen 0), .int .u64 (wd seen 1), .int .u64 (wd seen 2), .int .u64 (wd seen 3), .int .u64 (wd seen 4), .int .u64 (wd seen 5), .int .u64 (wd seen 6), .int .u64 (wd seen 7)]), (.int .i64 (k : Int)), (.bool false), (.slice (some ⟨w.heap.size, 0, none⟩) S.length S.length), (.int .i64 (k : Int)), (.pointer (some ⟨w.heap.size, k * 8, none⟩)), (.agg #[.int .u64 (wd T 0), .int .u64 (wd T 1), .int .u64 (wd T 2), .int .u64 (wd T 3), .int .u64 (wd T 4), .int .u64 (wd T 5), .int .u64 (wd T 6), .int .u64 (wd T 7)]), (.func (.func 63) #[] #[.pointer (some ⟨V8.heap.size, 0, none⟩)]), (.int .i64 (x.1 : Int)), u 30, u 31, u 32, u 33, u 34, u 35, u 36, u 37, u 38, u 39, u 40, u 41, u 42, u 43, u 44, u 45, u 46, u 47, u 48, u 49, u 50, u 51, u 52, u 53, u 54, u 55, u 56], defers := [] }) ?assign ?body ?done ?stop
        case assign =>
          intro l x X K hK
          gi_wp2
          exact hK
        case body =>
          rintro l pre x X hJ hlen
          obtain ⟨hX0, b9, bI, hgr⟩ := hJ
          have hPX := HP5.out.idx hgr bI
          have hWA : W1.heap.size + 2 < W.heap.size := HP.out.2.2.2.2.1.lt
          have hb8X : Boxed X W.heap.size 3 (.int .i64 k) := (hgr.block _ HB8.out.lt (fun e => by have := Option.some.inj e; omega)).trans HB8.out
          have hFS := filter_snoc (fun w => (reachM S w).testBit k) pre x
          have hRx := reachesM_at x.2
          have hHX := HH.out (reachM S x.1) (k : Int)
          rw [hasS_nat (by omega)] at hHX
          obtain ⟨b4, bR, ⟨vP, b5, hown, _⟩, b6, _⟩ := hPX
          obtain ⟨A, cp, rfl, _⟩ := own_formS (f := sC) (by decide) hown
          obtain ⟨y0, y1, y2, y3, y4, y5, y6, y7, y8⟩ := row_cells bR hRx
          have c4 := b4.cell
          have c8 := hb8X.cell
          have hlx : (x.1 : Int) < (S.length : Int) := by have := x.2; omega
          have HJX := Lib.hid (And.intro hX0 (And.intro b9 (And.intro bI hgr)))
          have HBX := Lib.hid (And.intro b5 b6)
          have hBX : Below w.heap.size w X := hB5X HP5.out hgr bI
          have HBX2 := Lib.hid hBX
          have hx5 : x.1 < 512 := by have := x.2; omega
          have hAX := HAD.out (orBits ((pre.map Fin.val).filter fun w => (reachM S w).testBit k)) (x.1 : Int)
          have hset : x.1 < (setIdx X0 ((pre.map Fin.val).filter fun w => (reachM S w).testBit k) P.length).length := by rw [setIdx_len]; have := HLN.out.1; have := x.2; omega
          clear b4 bR b5 b6 hown hgr hb8X hRx bI hX0
          generalize (pre.map Fin.val).filter (fun w => (reachM S w).testBit k) = L at *
          generalize hbb : (reachM S x.1).testBit k = bb at *
          have HFS := Eqn.mk hFS
          clear hFS
          cases bb with
          | false =>
            clear b9 hset hAX
            have HHX := Lib.hid hHX
            clear hHX
            gi_wp2_with fail
            refine Lx.regionIn (C := fun _ => True) (hs := []) (by kernel_rfl) (by kernel_rfl) (by kernel_rfl) trivial ?_
            repeat' (first
              | (refine Lx.lex_no (Lx.n1 rfl rfl rfl (by with_reducible rfl)) (fun K hK => ?_); go_simp; refine hK _ ?_; clear hK K)
              | (refine Lx.lex_no (Lx.n0 rfl rfl rfl (by with_reducible rfl)) (fun K hK => ?_); go_simp; refine hK _ ?_; clear hK K)
              | (refine Lx.lex_no (Lx.n2 rfl rfl rfl) (fun K hK => ?_); go_simp; refine hK _ ?_; clear hK K)
              | (refine Lx.lex_pure (v := ?_) rfl (by first | exact Lx.w0 rfl | exact Lx.w1 rfl rfl rfl (by with_reducible rfl)) ?_ (fun K hK => ?_); rotate_left 1; (intro w' hCw; (try dsimp only at hCw); go_simp; done); go_simp; refine hK _ ?_; clear hK K)
              | (refine Lx.lex_pure (v := ?_) rfl (by first | exact Lx.w0 rfl | exact Lx.w1 rfl rfl rfl (by with_reducible rfl)) ?_ (fun K hK => ?_); rotate_left 1; (intro w' hCw; (try dsimp only at hCw); go_simp; with_reducible rfl); go_simp; refine hK _ ?_; clear hK K)
              | (refine Lx.lex_read (v := ?_) rfl (by first | exact Lx.w0 rfl | exact Lx.w1 rfl rfl rfl (by with_reducible rfl)) ?_ (fun K hK => ?_); rotate_left 1; (go_simp; done); go_simp; refine hK _ ?_; clear hK K)
              | (refine Lx.lex_read (v := ?_) rfl (by first | exact Lx.w0 rfl | exact Lx.w1 rfl rfl rfl (by with_reducible rfl)) ?_ (fun K hK => ?_); rotate_left 1; (go_simp; with_reducible rfl); go_simp; refine hK _ ?_; clear hK K)
              | (refine Lx.lex_eff rfl (by first | exact Lx.w0 rfl | exact Lx.w1 rfl rfl rfl (by with_reducible rfl)) (fun K hK => ?_); go_simp; (first | (go_at_call 24; refine (HHX.out _).mono ?_; rintro e W6 ⟨rfl, hb6⟩; have HB6 := Lib.hid hb6; clear hb6) | skip); refine hK _ _ (trivial) ?_; clear hK K)
              | (refine Lx.lex_cases rfl rfl rfl (fun hgd K hK => ?_) (fun hgd K hK => ?_) <;> (try simp only [decide_eq_true_eq, decide_eq_false_iff_not] at hgd) <;> (first | (exfalso; omega) | (go_simp; refine hK _ ?_; clear hK K))))
            all_goals (refine Lx.lex_nil ?_)
            gi_wp2_with fail
            have h6 : Below X.heap.size X W6 := (Below.refl _ X).drew.trans HB6.out
            obtain ⟨hX0, b9, bI, hgr⟩ := HJX.out
            have hVX : V8.heap.size < X.heap.size := by omega
            change KeepsFrom WE.heap.size X W6 ∧ Keep1 w.heap.size V8.heap.size X W6 ∧ PaJ W5 S S.length WE.heap.size (W1.heap.size + 2) k X0 P.length (pre ++ [x]) W6
            refine ⟨(keeps_below h6).from _, ⟨h6.mono HBX2.out.size, h6.block _ hVX⟩, Nat.le_trans hX0 h6.size, ?_, ?_, grown_below hgr h6⟩
            · rw [HFS.out, if_neg (by simp), List.append_nil]; exact b9.keep h6
            · rw [HFS.out, if_neg (by simp), List.append_nil]; exact bI.keep h6
          | true =>
            have HHX := Lib.hid hHX
            rw [Int.toNat_natCast, ← orBits_snoc] at hAX
            have HAX := Lib.hid hAX
            have HB9 := Lib.hid b9
            clear hHX hAX b9
            gi_wp2_with fail
            refine Lx.regionIn (C := fun _ => True) (hs := []) (by kernel_rfl) (by kernel_rfl) (by kernel_rfl) trivial ?_
            repeat' (first
              | (refine Lx.lex_no (Lx.n1 rfl rfl rfl (by with_reducible rfl)) (fun K hK => ?_); go_simp; refine hK _ ?_; clear hK K)
              | (refine Lx.lex_no (Lx.n0 rfl rfl rfl (by with_reducible rfl)) (fun K hK => ?_); go_simp; refine hK _ ?_; clear hK K)
              | (refine Lx.lex_no (Lx.n2 rfl rfl rfl) (fun K hK => ?_); go_simp; refine hK _ ?_; clear hK K)
              | (refine Lx.lex_pure (v := ?_) rfl (by first | exact Lx.w0 rfl | exact Lx.w1 rfl rfl rfl (by with_reducible rfl)) ?_ (fun K hK => ?_); rotate_left 1; (intro w' hCw; (try dsimp only at hCw); go_simp; done); go_simp; refine hK _ ?_; clear hK K)
              | (refine Lx.lex_pure (v := ?_) rfl (by first | exact Lx.w0 rfl | exact Lx.w1 rfl rfl rfl (by with_reducible rfl)) ?_ (fun K hK => ?_); rotate_left 1; (intro w' hCw; (try dsimp only at hCw); go_simp; with_reducible rfl); go_simp; refine hK _ ?_; clear hK K)
              | (refine Lx.lex_read (v := ?_) rfl (by first | exact Lx.w0 rfl | exact Lx.w1 rfl rfl rfl (by with_reducible rfl)) ?_ (fun K hK => ?_); rotate_left 1; (go_simp; done); go_simp; refine hK _ ?_; clear hK K)
              | (refine Lx.lex_read (v := ?_) rfl (by first | exact Lx.w0 rfl | exact Lx.w1 rfl rfl rfl (by with_reducible rfl)) ?_ (fun K hK => ?_); rotate_left 1; (go_simp; with_reducible rfl); go_simp; refine hK _ ?_; clear hK K)
              | (refine Lx.lex_eff rfl (by first | exact Lx.w0 rfl | exact Lx.w1 rfl rfl rfl (by with_reducible rfl)) (fun K hK => ?_); go_simp; (first | (go_at_call 24; refine (HHX.out _).mono ?_; rintro e W6 ⟨rfl, hb6⟩; have h6 := (Below.refl X.heap.size X).drew.trans hb6; have H6 := Lib.hid h6; obtain ⟨x0, x1, x2, x3, x4, x5, x6, x7⟩ := (HB9.out.keep h6).eight; have xl := (HB9.out.keep h6).lt; clear hb6 h6) | skip); refine hK _ _ (trivial) ?_; clear hK K)
              | (refine Lx.lex_cases rfl rfl rfl (fun hgd K hK => ?_) (fun hgd K hK => ?_) <;> (try simp only [decide_eq_true_eq, decide_eq_false_iff_not] at hgd) <;> (first | (exfalso; omega) | (go_simp; refine hK _ ?_; clear hK K))))
            all_goals (refine Lx.lex_nil ?_)
            gi_wp2_with fail
            refine ⟨trivial, (CallsIn.inRound l (callsIn_wide.2 (HAX.out _ (by omega)))).mono ?_⟩
            rintro e W7 ⟨rfl, hb7⟩
            have h7 := H6.out.trans (hb7.mono H6.out.size)
            have H7 := Lib.hid h7
            clear x0 x1 x2 x3 x4 x5 x6 x7 xl hb7
            obtain ⟨x0, x1, x2, x3, x4, x5, x6, x7⟩ := (HB9.out.keep h7).eight
            have xl := (HB9.out.keep h7).lt
            have xf : ∀ o, W7.frozen? ⟨W5.heap.size, o, none⟩ = false := (HB9.out.keep h7).frozen
            clear h7
            gi_upto_region 14 with fail
            obtain ⟨V9, hV9⟩ : ∃ V9, V9 = set8 W7 W5.heap.size (orBits (L ++ [x.1])) := ⟨_, rfl⟩
            obtain ⟨hX0, b9, bI, hgr⟩ := HJX.out
            have hg9 : W5.grownBy V9 (some (W1.heap.size + 2)) := by rw [hV9]; exact grown_set8 _ (grown_below hgr H7.out) (Nat.le_refl _)
            have hk9 : KeepsOthers X V9 := by rw [hV9]; exact (keeps_below H7.out).trans (keeps_set8 _ _ _)
            have hb9 : Blk V9 W5.heap.size 40 (tabL 8 (sC (orBits (L ++ [x.1])))) := by rw [hV9]; exact (b9.keep H7.out).set8 _
            have ho9 : ∀ q, q < X.heap.size → q ≠ W5.heap.size → V9.heap[q]? = X.heap[q]? := fun q h1 h2 => by rw [hV9, set8_other h2]; exact H7.out.block q h1
            have hB9 : Below w.heap.size X V9 := by rw [hV9]; exact below_set8 _ (H7.out.mono HBX2.out.size) hs5
            have h75 : W2.heap.size + 1 < W5.heap.size := HP5.out.2.2.2.2.2.1.lt
            have bI9 : Blk V9 (W1.heap.size + 2) 3 ((setIdx X0 L P.length).map intV) := (ho9 _ bI.lt (by omega)).trans bI
            have b59 := (ho9 _ HBX.out.1.lt (by omega)).trans HBX.out.1
            have b69 := (ho9 _ HBX.out.2.lt (by omega)).trans HBX.out.2
            have c59 : V9.cell? ⟨W1.heap.size + 1, 0, none⟩ = some (.slice A P.length cp) := Boxed.cell b59
            have c69 : V9.cell? ⟨W2.heap.size, 0, none⟩ = some (.slice (some ⟨W1.heap.size + 2, 0, none⟩) S.length S.length) := Boxed.cell b69
            obtain ⟨z, hz⟩ : ∃ z, (setIdx X0 L P.length)[x.1]? = some z := ⟨_, List.getElem?_eq_getElem hset⟩
            have cI9 : V9.cell? ⟨W1.heap.size + 2, x.1, none⟩ = some (.int .i64 z) := bI9.cell (by rw [List.getElem?_map, hz]; rfl)
            have fI9 := bI9.frozen
            have lI9 := bI9.lt
            have H9 := Lib.hid (And.intro hX0 (And.intro hg9 (And.intro hk9 (And.intro hb9 (And.intro ho9 (And.intro hB9 bI9))))))
            unfold set8 at hV9
            rw [← hV9]
            clear hV9 hg9 hk9 hb9 ho9 hB9 bI9 b59 b69 hz hX0 b9 bI hgr x0 x1 x2 x3 x4 x5 x6 x7 xl xf
            gi_wp2_with fail
            obtain ⟨hX0, hg9, hk9, hb9, ho9, hB9, bI9⟩ := H9.out
            have hVX : V8.heap.size < X.heap.size := by omega
            have hk10 := hk9.trans (KeepsOthers.setCell V9 ⟨W1.heap.size + 2, x.1, none⟩ (.int .i64 P.length))
            change KeepsFrom WE.heap.size X (V9.setCell ⟨W1.heap.size + 2, x.1, none⟩ (.int .i64 P.length)) ∧ Keep1 w.heap.size V8.heap.size X (V9.setCell ⟨W1.heap.size + 2, x.1, none⟩ (.int .i64 P.length)) ∧ PaJ W5 S S.length WE.heap.size (W1.heap.size + 2) k X0 P.length (pre ++ [x]) (V9.setCell ⟨W1.heap.size + 2, x.1, none⟩ (.int .i64 P.length))
            refine ⟨hk10.from _, ⟨hB9.setCell (p := ⟨W1.heap.size + 2, x.1, none⟩) (by dsimp only; omega) _, (Below.heap_setCell _ _ _ _ (by dsimp only; omega)).trans (ho9 _ hVX (by omega))⟩, Nat.le_trans hX0 hk10.size, ?_, ?_, grown_setCell hg9⟩
            · rw [HFS.out, if_pos trivial]; exact hb9.other ⟨W1.heap.size + 2, x.1, none⟩ _ (by have := HP5.out.2.2.2.2.2.1.lt; dsimp only; omega)
            · rw [HFS.out, if_pos trivial, setIdx_snoc, List.map_set]; exact bI9.set_ x.1 _
        case done =>
          rintro D ys X hD hys hJ hK
          obtain ⟨hX0, b9, bI, hgr⟩ := hJ
          have hys' : ys.map Fin.val = mem T := hys
          rw [hys'] at b9 bI
          have hPL : (mem T).filter (fun w => (reachM S w).testBit k) = partL S k := by rw [HTT.out]; rfl
          rw [hPL] at b9 bI
          have h75 : W2.heap.size + 1 < W5.heap.size := HP5.out.2.2.2.2.2.1.lt
          have hPX := (HP5.out.idx hgr bI).mark hK (by omega) (fun E hE => by have := (Array.getElem?_eq_some_iff.1 (HP5.out.2.2.2.2.2.2.2.2.1 E hE).2).1; omega)
          have HPX := Lib.hid hPX
          have HB9 := Lib.hid b9
          have HUX := Lib.hid (HU.out seen (orBits (partL S k)))
          have hLP : P.length + 1 ≤ 512 := by have h : P.length ≤ k := HLN.out.2; omega
          obtain ⟨z0, z1, z2, z3, z4, z5, z6, z7⟩ := hPX.2.2.2.2.2.1.eight
          obtain ⟨x0, x1, x2, x3, x4, x5, x6, x7⟩ := b9.eight
          generalize orBits (partL S k) = PT at *
          generalize setIdx X0 (partL S k) P.length = X1 at *
          clear hPX b9 bI hgr hys hys' hK hPL hJ0 hSE hBE hTE hTf hTin HLN HU HAD HH
          gi_wp2_with fail
          refine ⟨trivial, (callsIn_wide.2 (HUX.out _)).mono ?_⟩
          rintro e W7 ⟨rfl, hb7⟩
          have hP7 := HPX.out.keep hb7
          have HP7 := Lib.hid hP7
          have HB97 := Lib.hid (HB9.out.keep hb7)
          clear z0 z1 z2 z3 z4 z5 z6 z7 x0 x1 x2 x3 x4 x5 x6 x7 hb7
          obtain ⟨z0, z1, z2, z3, z4, z5, z6, z7⟩ := hP7.2.2.2.2.2.1.eight
          have zl := hP7.2.2.2.2.2.1.lt
          have zf : ∀ o, W7.frozen? ⟨W2.heap.size + 1, o, none⟩ = false := hP7.2.2.2.2.2.1.frozen
          clear hP7
          gi_upto_region 16 with fail
          obtain ⟨V9, hV9⟩ : ∃ V9, V9 = set8 W7 (W2.heap.size + 1) (seen ||| PT) := ⟨_, rfl⟩
          have hP9 := HP7.out.seen (seen ||| PT)
          have hb9 : Blk V9 W5.heap.size 40 (tabL 8 (sC PT)) := by rw [hV9]; exact (set8_other (k := W5.heap.size) (by omega)).trans HB97.out
          rw [← hV9] at hP9
          unfold set8 at hV9
          rw [← hV9]
          clear hV9 zl zf z0 z1 z2 z3 z4 z5 z6 z7 HP7 HB97 HPX HB9
          have HP9 := Lib.hid hP9
          obtain ⟨_, _, ⟨vP, b5, hown, hgp⟩, _⟩ := hP9
          obtain ⟨x0, x1, x2, x3, x4, x5, x6, x7⟩ := hb9.eight
          have c5 := b5.cell
          have f5 := b5.frozen
          have l5 := b5.lt
          have H9 := Lib.hid (And.intro b5 (And.intro hown hgp))
          have hBs := HP9.out.2.2.2.2.2.2.2.1.size
          clear b5 hown hgp hb9
          gi_wp2_with (gi_at_builtin; go_loud (refine wpListIn_append_own_at _ rfl _ _ 65 rfl w.heap.size 40 s0 (.agg #[.int .u64 0, .int .u64 0, .int .u64 0, .int .u64 0, .int .u64 0, .int .u64 0, .int .u64 0, .int .u64 0]) 8 64 Tryd.underlying65 si sz0 sz1 sz2 rfl (by decide) _ _ _ rfl (H9.out.2.1.alloc _) ⟨V9.heap.size, 0, none⟩ 1 1 (sL PT) rfl rfl (set_new V9 PT _) (sL_one PT) (Nat.le_trans hLP (by unfold maxLen; omega)) (Nat.le_trans (Nat.mul_le_mul_right 64 hLP) (by omega)) (by simp; omega) ?_); intro v' w3 hown' hgrow hnil hat; obtain ⟨g', cap', rfl⟩ := ownsRow_succ hown'; have HN := Lib.hid (And.intro hown' (And.intro hgrow hat)); have b53 := (hgrow.block (W1.heap.size + 1) (by simp; omega) (fun e => by have := H9.out.2.2 _ e.symm; omega)).trans ((Below.heap_alloc V9 _ _ l5).trans H9.out.1); have c53 := Boxed.cell b53; have f53 := Boxed.frozen b53; have l53 := Boxed.lt b53; clear hown' hgrow hnil hat b53)
          refine ⟨S.length - (k + 1), by omega, k + 1, rfl, hlt, D :: ds, paFrame_mk _ _ _ _ _ (k + 1) (D :: ds) _ _ _ _ _ _ _ _ _ _ _ _ _ _ _ _ _ _ _ _ _ _ _ _ _ _ _ _ _ _ _ _ _ _ _ _ _ _ _ _ _ _ _ _ _ _ _ _ _ _ _, ?_⟩
          rw [HST2.out]
          refine HP9.out.parts H9.out.1 H9.out.2.1 H9.out.2.2 ?_ HN.out.2.1 HN.out.2.2
          rw [rowC_snoc, List.length_append]
          exact HN.out.1
        case stop =>
          rintro D c pre X _ _ h _
          exact h.elim
    · obtain rfl : k = S.length := by omega
      have c5 := b5.cell
      have c6 := b6.cell
      clear b4 bR b5 b6 bI b7 hord hB hds hnd hlt
      gi_wp2_with fail
      refine Lx.regionW (C := fun _ => True) (hs := []) (by kernel_rfl) (by kernel_rfl) (by kernel_rfl) trivial ?_
      repeat' (first
        | (refine Lx.lex_no (Lx.n1 rfl rfl rfl (by with_reducible rfl)) (fun K hK => ?_); go_simp; refine hK _ ?_; clear hK K)
        | (refine Lx.lex_no (Lx.n0 rfl rfl rfl (by with_reducible rfl)) (fun K hK => ?_); go_simp; refine hK _ ?_; clear hK K)
        | (refine Lx.lex_no (Lx.n2 rfl rfl rfl) (fun K hK => ?_); go_simp; refine hK _ ?_; clear hK K)
        | (refine Lx.lex_pure (v := ?_) rfl (by first | exact Lx.w0 rfl | exact Lx.w1 rfl rfl rfl (by with_reducible rfl)) ?_ (fun K hK => ?_); rotate_left 1; (intro w' hCw; (try dsimp only at hCw); go_simp; done); go_simp; refine hK _ ?_; clear hK K)
        | (refine Lx.lex_pure (v := ?_) rfl (by first | exact Lx.w0 rfl | exact Lx.w1 rfl rfl rfl (by with_reducible rfl)) ?_ (fun K hK => ?_); rotate_left 1; (intro w' hCw; (try dsimp only at hCw); go_simp; with_reducible rfl); go_simp; refine hK _ ?_; clear hK K)
        | (refine Lx.lex_read (v := ?_) rfl (by first | exact Lx.w0 rfl | exact Lx.w1 rfl rfl rfl (by with_reducible rfl)) ?_ (fun K hK => ?_); rotate_left 1; (go_simp; done); go_simp; refine hK _ ?_; clear hK K)
        | (refine Lx.lex_read (v := ?_) rfl (by first | exact Lx.w0 rfl | exact Lx.w1 rfl rfl rfl (by with_reducible rfl)) ?_ (fun K hK => ?_); rotate_left 1; (go_simp; with_reducible rfl); go_simp; refine hK _ ?_; clear hK K)
        | (refine Lx.lex_eff rfl (by first | exact Lx.w0 rfl | exact Lx.w1 rfl rfl rfl (by with_reducible rfl)) (fun K hK => ?_); go_simp; (first | fail | skip); refine hK _ _ (trivial) ?_; clear hK K)
        | (refine Lx.lex_cases rfl rfl rfl (fun hgd K hK => ?_) (fun hgd K hK => ?_) <;> (try simp only [decide_eq_true_eq, decide_eq_false_iff_not] at hgd) <;> (first | (exfalso; omega) | (go_simp; refine hK _ ?_; clear hK K))))
      all_goals (refine Lx.lex_nil ?_)
      gi_wp2_with fail
      show LeavesInM _ _ _ _ _ _ (marksOf ds) .returning _
      obtain ⟨b4, bR, _, b6, bI, b7, hord, hB, hds, hnd⟩ := HP.out
      refine leaves_marks (Pw := fun X => X.ownsRow w.heap.size 40 8 vP (partsK S S.length).2.1.length (rowC (partsK S S.length).2.1) ∧ Blk X (W1.heap.size + 2) 3 ((partsK S S.length).2.2.map intV) ∧ Below w.heap.size w X) (B := W2.heap.size + 1) ?_ ?_ ds _ ?_ ?_ hnd
      · rintro X D ⟨h1, h2, h3⟩ hD hX
        exact ⟨ownsRow_putObj h1 _ hX rfl, (World.putObj_heap_other (by omega)).trans h2, h3.trans (belowK_b (w := w) (Nat.le_refl _) X D _ _ (by omega) hX rfl rfl)⟩
      · rintro X ⟨h1, h2, h3⟩
        exact ⟨.tuple #[vP, .slice (some ⟨W1.heap.size + 2, 0, none⟩) S.length S.length], by simp [results, Tryd.results49, go_sem], vP, W1.heap.size + 2, rfl, h1, h2, by omega, h3⟩
      · exact ⟨hown, bI, hB.drew⟩
      · intro D hD
        exact ⟨Nat.le_of_lt (hds D hD).1, (hds D hD).2⟩
end Go.Proofs.YtpaakgngoocjeaaDoor

namespace Go.Proofs.YtpaakgngoocjeaaDoor
open Go.RowKit

/-- one row of distances: a vertex without a distance, with an arc into the layer -/
def distStep (S : List Nat) (layer : Nat) (d : Int) (st : List Int × Nat) (v : Nat) : List Int × Nat := if st.1.getD v 0 < 0 ∧ (S.getD v 0 &&& layer) ≠ 0 then (st.1.set v d, st.2 ||| 2 ^ v) else st
def distRow (S : List Nat) (layer : Nat) (d : Int) (D : List Int) (k : Nat) : List Int × Nat := (List.range k).foldl (distStep S layer d) (D, 0)
theorem distRow_succ (S : List Nat) (layer : Nat) (d : Int) (D : List Int) (k : Nat) : distRow S layer d D (k + 1) = distStep S layer d (distRow S layer d D k) k := by unfold distRow; rw [List.range_succ, List.foldl_append]; rfl
theorem distRow_len (S : List Nat) (layer : Nat) (d : Int) (D : List Int) : ∀ k, (distRow S layer d D k).1.length = D.length := by
  intro k
  induction k with
  | zero => rfl
  | succ k ih => rw [distRow_succ]; unfold distStep; split <;> simp [ih]
theorem distRow_fit (S : List Nat) (layer : Nat) (d : Int) (D : List Int) : ∀ k, k ≤ 512 → Fit (distRow S layer d D k).2 := by
  intro k
  induction k with
  | zero => intro _; exact fit_zero
  | succ k ih =>
    intro hk
    rw [distRow_succ]; unfold distStep; split
    · exact or_lt (ih (by omega)) (fun i hi => by rw [bit_tb]; simp; omega)
    · exact ih (by omega)
/-- the distances, layer by layer -/
def distGo (S : List Nat) : Nat → Nat → Int → List Int → Option (List Int)
  | f, layer, d, D => if layer = 0 then some D else match f with
    | 0 => none
    | f + 1 => distGo S f (distRow S layer d D S.length).2 (d + 1) (distRow S layer d D S.length).1
def distF (S : List Nat) (f tt : Nat) : Option (List Int) := distGo S f (2 ^ tt) 1 ((List.replicate S.length (-1)).set tt 0)

set_option maxRecDepth 100000 in
set_option maxHeartbeats 2000000 in
theorem gdist_any {gb rb cap : Nat} {ext : List Value} {S : List Nat} {arcs : Int} (tt f : Nat) (R : List Int) (w : World) (h : GAt w gb rb cap ext S arcs) (hv : tt < S.length) (hf : f ≤ 1000) (hR : distF S f tt = some R) :
    Calls Tryd.prog 67 #[.pointer (some ⟨gb, 0, none⟩), .int .i64 tt] w (BlkInts 3 R w) := by
  obtain ⟨i0, hi, hz0, hz1, hz2⟩ := info_parts int_info
  have h512 := h.2.2.2
  have HG := Lib.hid h
  have HF : Hid (∀ x ∈ S, Fit x) := Lib.hid h.2.2.1
  have HO := Lib.hid (of_one tt (by omega))
  have HE := Lib.hid (fun T hT W => empty_any T hT W)
  have HI := Lib.hid (fun A B W => inter_any A B W)
  have HA := Lib.hid (fun T (v : Nat) W h => add_in T (v : Int) W h)
  have HR := Eqn.mk hR
  unfold sV at HO HE HI HA
  clear hR
  obtain ⟨_, c1, _, c3⟩ := h.cells
  clear h
  have hto : (tt : Int) < (S.length : Int) := by omega
  have hto0 : (0 : Int) ≤ (tt : Int) := by omega
  generalize hn : S.length = n at *
  have HN := Eqn.mk hn
  clear hn
  go_enter Tryd.func67, Tryd.ntmps67
  go_wp2_with (at_make; refine wpList_make_full _ rfl _ _ 36 rfl w.heap.size 3 i0 (.int .i64 0) 1 Tryd.underlying36 hi hz0 hz1 .i64 .i64 _ _ n rfl rfl rfl rfl (by rw [hz2]; omega) (by unfold maxLen; omega) (Nat.le_refl _) ?_; intro w2 hown hgrow; rw [made_ints] at hown; have HP2 := Lib.hid ((Hp.start w).made hown hgrow (Nat.le_refl _)); clear hown hgrow)
  go_loopw [21] (fun i wr => ∃ (k : Nat) (D : List Int), k ≤ n ∧ i = .int .i64 k ∧ D.length = n ∧ (∀ j, j < k → D[j]? = some (-1)) ∧ Hp w w wr [.blk w.heap.size 3 (D.map intV)] []) (fun i _ => n - (intOf i).toNat)
  case atStart => exact ⟨0, List.replicate n 0, Nat.zero_le _, rfl, by simp, fun j hj => by omega, HP2.out⟩
  case round =>
    clear HP2
    obtain ⟨k, D, hk, rfl, hDl, hDv, hP⟩ := hrel
    have HD := Lib.hid (And.intro hDl hDv)
    have HP := Lib.hid hP
    clear hDv
    by_cases hlt : k < n
    · have j0 : (k : Int) < (n : Int) := by omega
      obtain ⟨x, hx⟩ : ∃ x, D[k]? = some x := ⟨_, List.getElem?_eq_getElem (by omega)⟩
      have cA := hP.cI 0 k rfl hx
      have fA := hP.f 0 rfl
      have lA := hP.lt 0 rfl
      clear hP hx hDl
      go_wp2_with fail
      go_roundw
      case rel =>
        refine ⟨k + 1, D.set k (-1), hlt, by go_num, by rw [List.length_set]; exact HD.out.1, fun j hj => ?_, HP.out.setI 0 k (-1) rfl⟩
        rw [List.getElem?_set]
        by_cases hjk : k = j
        · subst hjk
          rw [if_pos rfl, if_pos (by have := HD.out.1; omega)]
        · rw [if_neg hjk]; exact HD.out.2 j (by omega)
      case measure => simp [intOf]; omega
    · obtain rfl : k = n := by omega
      have hD : D = List.replicate k (-1) := by
        apply List.ext_getElem?
        intro j
        by_cases hj : j < k
        · rw [HD.out.2 j hj, List.getElem?_replicate, if_pos hj]
        · rw [List.getElem?_eq_none (by have := HD.out.1; omega), List.getElem?_eq_none (by simp; omega)]
      subst hD
      obtain ⟨x, hx⟩ : ∃ x, (List.replicate k (-1 : Int))[tt]? = some x := ⟨_, List.getElem?_eq_getElem (by simp; omega)⟩
      have cA := hP.cI 0 tt rfl hx
      have fA := hP.f 0 rfl
      have lA := hP.lt 0 rfl
      clear hx hP HD hDl
      go_wp2_with fail
      have hP1 := (HP.out.setI 0 tt 0 rfl).alloc1 (.int .i64 (tt : Int)) 3
      have HP1 := Lib.hid hP1
      refine (HO.out wr.heap.size _ (by simpa using hP1.c 1 0 rfl rfl) (by simp)).mono ?_
      rintro e W1 ⟨rfl, hb1⟩
      have hP3 := (((HP1.out.keep hb1).sub (L' := [.blk w.heap.size 3 (((List.replicate k (-1 : Int)).set tt 0).map intV)]) (by simp)).allocS (2 ^ tt) 40)
      have HP3 := Lib.hid hP3
      clear hP1 hP3 hb1 cA fA lA HP1
      go_wp2_with fail
      obtain ⟨V1, hV1⟩ : ∃ V1, V1 = W1.alloc (.cells (sL (2 ^ tt)).toArray 40) := ⟨_, rfl⟩
      rw [← hV1] at HP3
      unfold sL at hV1
      rw [← hV1]
      generalize W1.heap.size = p7 at *
      clear hV1
      go_loopw [9] (fun i wr => ∃ (m q layer : Nat) (D : List Int), i = .int .i64 m ∧ m + q ≤ 1001 ∧ D.length = k ∧ Fit layer ∧ Eqn (some R) (distGo S q layer m D) ∧ Hp w w wr [.blk w.heap.size 3 (D.map intV), .blk p7 40 (tabL 8 (sC layer))] []) (fun i _ => 1001 - (intOf i).toNat)
      case atStart => exact ⟨1, f, 2 ^ tt, (List.replicate k (-1 : Int)).set tt 0, rfl, by omega, by simp, fun i hi => by rw [bit_tb]; simp; omega, by rw [← HR.out, distF, HN.out]; rfl, HP3.out⟩
      case round =>
        clear HP3 c1 c3
        obtain ⟨m, q, layer, D, rfl, hmq, hDl, hLf, hGo, hP⟩ := hrel
        have HP := Lib.hid hP
        have HEL := Lib.hid (HE.out layer hLf)
        have HL := Lib.hid hLf
        have hm1 : (0 : Int) ≤ (m : Int) := by omega
        obtain ⟨c1_0, c1_1, c1_2, c1_3, c1_4, c1_5, c1_6, c1_7⟩ := (hP.blk 1 rfl).eight; have f1 := hP.f 1 rfl; have l1 := hP.lt 1 rfl
        clear hP hLf
        by_cases h0 : layer = 0
        · subst h0
          have hRD : Eqn D R := by
            rw [Eqn]
            have := hGo.out
            unfold distGo at this
            rw [if_pos rfl] at this
            exact (Option.some.inj this).symm
          rw [decide_eq_true rfl] at HEL
          clear hGo
          go_wp2_with fail
          refine (HEL.out _).mono ?_
          rintro e W2 ⟨rfl, hb2⟩
          have HP2 := Lib.hid (HP.out.keep hb2)
          clear hb2 c1_0 c1_1 c1_2 c1_3 c1_4 c1_5 c1_6 c1_7 f1 l1
          go_wp2_with fail
          go_ret
          rw [← hRD.out]
          exact ⟨w.heap.size, by rw [hDl]; rfl, Nat.le_refl _, HP2.out.blk 0 rfl, HP2.out.below⟩
        · rw [decide_eq_false h0] at HEL
          have HGo : Hid (∃ q', q = q' + 1 ∧ Eqn (some R) (distGo S q' (distRow S layer m D S.length).2 (m + 1) (distRow S layer m D S.length).1)) := Lib.hid (by
            have := hGo.out
            unfold distGo at this
            rw [if_neg h0] at this
            cases q with
            | zero => cases this
            | succ q => exact ⟨q, rfl, this⟩)
          rw [HN.out] at HGo
          clear hGo h0
          go_wp2_with fail
          refine (HEL.out _).mono ?_
          rintro e W2 ⟨rfl, hb2⟩
          have hP2 := HP.out.keep hb2
          have HP2 := Lib.hid (hP2.allocS 0 40)
          obtain ⟨_, c1, _, c3⟩ := (HG.out.keep HP2.out.below).cells
          rw [HN.out] at c1
          clear hb2 c1_0 c1_1 c1_2 c1_3 c1_4 c1_5 c1_6 c1_7 f1 l1
          clear hP2 HP HEL
          obtain ⟨V3, hV3⟩ : ∃ V3, V3 = W2.alloc (.cells (sL 0).toArray 40) := ⟨_, rfl⟩
          rw [← hV3] at HP2 c1 c3
          rw [sL_zero] at hV3
          go_upto_region 13 with fail
          rw [← hV3]
          clear hV3
          generalize W2.heap.size = p10 at *
          go_wp2_with fail
          go_loopw [47] (fun i wr => ∃ k2 : Nat, k2 ≤ k ∧ i = .int .i64 k2 ∧ Hp w w wr [.blk w.heap.size 3 ((distRow S layer m D k2).1.map intV), .blk p7 40 (tabL 8 (sC layer)), .blk p10 40 (tabL 8 (sC (distRow S layer m D k2).2))] []) (fun i _ => k - (intOf i).toNat)
          case atStart => exact ⟨0, Nat.zero_le _, rfl, HP2.out⟩
          case round =>
            clear HP2 c1 c3
            obtain ⟨k2, hk2, rfl, hP⟩ := hrel
            have HP := Lib.hid hP
            have hDk := distRow_len S layer m D k2
            have HFi := Lib.hid (distRow_fit S layer m D k2 (by omega))
            by_cases hlt : k2 < k
            · have j0 : (k2 : Int) < (k : Int) := by omega
              have HS := Eqn.mk (distRow_succ S layer m D k2)
              generalize distRow S layer m D k2 = st at *
              obtain ⟨D2, nx⟩ := st
              dsimp only at hDk HS HFi HP hP
              obtain ⟨x, hx⟩ : ∃ x, D2[k2]? = some x := ⟨_, List.getElem?_eq_getElem (by omega)⟩
              obtain ⟨y, hy⟩ : ∃ y, S[k2]? = some y := ⟨_, List.getElem?_eq_getElem (by have := HN.out; omega)⟩
              have hDx : D2.getD k2 0 = x := by rw [List.getD_eq_getElem?_getD, hx]; rfl
              have hSy : S.getD k2 0 = y := by rw [List.getD_eq_getElem?_getD, hy]; rfl
              unfold distStep at HS
              rw [hDx, hSy] at HS
              have HYF := Lib.hid (HF.out y (List.mem_of_getElem? hy))
              obtain ⟨y0, y1, y2, y3, y4, y5, y6, y7, y8⟩ := row_cells (HG.out.keep hP.below).2.1 hy
              obtain ⟨V4, hV4⟩ : ∃ V4, V4 = wr.alloc (.cells (sL y).toArray 40) := ⟨_, rfl⟩
              have hP4 := hP.allocS y 40
              rw [← hV4] at hP4
              unfold sL at hV4
              have HP4 := Lib.hid hP4
              clear hP hDk hy hDx hSy
              go_upto_region 16 with fail
              rw [← hV4]
              clear hV4 y0 y1 y2 y3 y4 y5 y6 y7 y8
              generalize wr.heap.size = p12 at *
              have cA := hP4.cI 0 k2 rfl hx
              have fA := hP4.f 0 rfl
              have lA := hP4.lt 0 rfl
              obtain ⟨c1_0, c1_1, c1_2, c1_3, c1_4, c1_5, c1_6, c1_7⟩ := (hP4.blk 1 rfl).eight; have f1 := hP4.f 1 rfl; have l1 := hP4.lt 1 rfl; obtain ⟨c3_0, c3_1, c3_2, c3_3, c3_4, c3_5, c3_6, c3_7⟩ := (hP4.blk 3 rfl).eight; have f3 := hP4.f 3 rfl; have l3 := hP4.lt 3 rfl
              have HX := Lib.hid hx
              clear hx hP4
              have HIX := Lib.hid (HI.out y layer)
              have HEX := Lib.hid (HE.out (y &&& layer) (fun i hi => by rw [Nat.testBit_and, HYF.out i hi]; rfl))
              by_cases hneg : x < 0
              · generalize hI : y &&& layer = I at *
                have HII := Eqn.mk hI
                clear hI
                go_wp2_with fail
                refine (HIX.out _).mono ?_
                rintro e W5 ⟨rfl, hb5⟩
                have hP5 := HP4.out.keep hb5
                have HP5 := Lib.hid hP5
                clear hb5 hP5 cA fA lA c1_0 c1_1 c1_2 c1_3 c1_4 c1_5 c1_6 c1_7 f1 l1 c3_0 c3_1 c3_2 c3_3 c3_4 c3_5 c3_6 c3_7 f3 l3
                go_wp2_with fail
                refine (HEX.out _).mono ?_
                rintro e W6 ⟨rfl, hb6⟩
                have hP6 := HP5.out.keep hb6
                have HP6 := Lib.hid hP6
                have cA := hP6.cI 0 k2 rfl HX.out
                have fA := hP6.f 0 rfl
                have lA := hP6.lt 0 rfl
                have HHN := Lib.hid hneg
                clear hb6 hP6 HP4 HP5 hneg
                by_cases hI0 : I = 0
                · have dI : decide (I = 0) = true := decide_eq_true hI0
                  have HS2 : Eqn (distRow S layer m D (k2 + 1)) (D2, nx) := by
                    rw [Eqn, HS.out, if_neg (by rintro ⟨_, h⟩; exact h hI0)]
                  clear hI0
                  go_wp2_with fail
                  go_roundw
                  case rel => exact ⟨k2 + 1, hlt, by go_num, by rw [HS2.out]; exact HP6.out.sub (by simp)⟩
                  case measure => simp [intOf]; omega
                · have dI : decide (I = 0) = false := decide_eq_false hI0
                  have HS2 : Eqn (distRow S layer m D (k2 + 1)) (D2.set k2 m, nx ||| 2 ^ k2) := by
                    rw [Eqn, HS.out, if_pos ⟨HHN.out, hI0⟩]
                  clear hI0
                  go_upto_region 18 with fail
                  have hP7 := HP6.out.setI 0 k2 m rfl
                  obtain ⟨V7, hV7⟩ : ∃ V7, V7 = W6.setCell ⟨w.heap.size, k2, none⟩ (.int .i64 (m : Int)) := ⟨_, rfl⟩
                  rw [← hV7] at hP7 ⊢
                  have HP7 := Lib.hid hP7
                  have HAX := HA.out nx k2 V7 (by omega)
                  rw [Int.toNat_natCast] at HAX
                  have HAX := Lib.hid HAX
                  clear hV7 cA fA lA
                  obtain ⟨c2_0, c2_1, c2_2, c2_3, c2_4, c2_5, c2_6, c2_7⟩ := (hP7.blk 2 rfl).eight; have f2 := hP7.f 2 rfl; have l2 := hP7.lt 2 rfl
                  clear hP7
                  go_wp2_with fail
                  refine HAX.out.mono ?_
                  rintro e W8 ⟨rfl, hb8⟩
                  have hP8 := HP7.out.keep hb8
                  have HP8 := Lib.hid hP8
                  clear hb8 c2_0 c2_1 c2_2 c2_3 c2_4 c2_5 c2_6 c2_7 f2 l2
                  obtain ⟨c2_0, c2_1, c2_2, c2_3, c2_4, c2_5, c2_6, c2_7⟩ := (hP8.blk 2 rfl).eight; have f2 := hP8.f 2 rfl; have l2 := hP8.lt 2 rfl
                  clear hP8
                  go_upto_region 19 with fail
                  obtain ⟨V9, hV9⟩ : ∃ V9, V9 = set8 W8 p10 (nx ||| 2 ^ k2) := ⟨_, rfl⟩
                  have HP9 := Lib.hid (HP8.out.set8 2 (nx ||| 2 ^ k2) rfl)
                  rw [← hV9] at HP9
                  unfold set8 at hV9
                  rw [← hV9]
                  clear hV9 c2_0 c2_1 c2_2 c2_3 c2_4 c2_5 c2_6 c2_7 f2 l2
                  go_wp2_with fail
                  go_roundw
                  case rel => exact ⟨k2 + 1, hlt, by go_num, by rw [HS2.out]; exact HP9.out.sub (by simp)⟩
                  case measure => simp [intOf]; omega
              · have HS2 : Eqn (distRow S layer m D (k2 + 1)) (D2, nx) := by
                  rw [Eqn, HS.out, if_neg (by rintro ⟨h, _⟩; exact hneg h)]
                go_wp2_with fail
                go_roundw
                case rel => exact ⟨k2 + 1, hlt, by go_num, by rw [HS2.out]; exact HP4.out.sub (by simp)⟩
                case measure => simp [intOf]; omega
            · obtain rfl : k2 = k := by omega
              obtain ⟨q', rfl, hGo⟩ := HGo.out
              generalize distRow S layer m D k2 = st at *
              obtain ⟨D2, nx⟩ := st
              dsimp only at hDk HFi HP hP hGo
              have HGo2 := Lib.hid hGo
              obtain ⟨c1_0, c1_1, c1_2, c1_3, c1_4, c1_5, c1_6, c1_7⟩ := (hP.blk 1 rfl).eight; have f1 := hP.f 1 rfl; have l1 := hP.lt 1 rfl; obtain ⟨c2_0, c2_1, c2_2, c2_3, c2_4, c2_5, c2_6, c2_7⟩ := (hP.blk 2 rfl).eight; have f2 := hP.f 2 rfl; have l2 := hP.lt 2 rfl
              clear hP hGo HGo
              go_upto_region 11 with fail
              obtain ⟨V9, hV9⟩ : ∃ V9, V9 = set8 wr p7 nx := ⟨_, rfl⟩
              have HP9 := Lib.hid (HP.out.set8 1 nx rfl)
              rw [← hV9] at HP9
              unfold set8 at hV9
              rw [← hV9]
              clear hV9 c1_0 c1_1 c1_2 c1_3 c1_4 c1_5 c1_6 c1_7 f1 l1 c2_0 c2_1 c2_2 c2_3 c2_4 c2_5 c2_6 c2_7 f2 l2
              go_wp2_with fail
              go_roundw
              case rel => exact ⟨m + 1, q', nx, D2, by go_num, by omega, by omega, HFi.out, by rw [Eqn]; exact_mod_cast HGo2.out, HP9.out.sub (by simp)⟩
              case measure => simp [intOf]; omega
end Go.Proofs.YtpaakgngoocjeaaDoor
