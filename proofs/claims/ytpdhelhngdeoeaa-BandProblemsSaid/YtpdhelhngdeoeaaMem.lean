/- Words for memory that a call owns: blocks known whole, slices of numbers, small words for results. -/
import Derived.Test.YtpdhelhngdeoeaaProg
import Derived.Test.YtpdhelhngdeoeaaLexM
import Derived.Lib.Hide
import Derived.Lib.SliceRun
import Derived.Lib.SmallJoins
import Derived.Laws.OwnMore
import Derived.Deep.Heap
import Derived.Maps.AppendAt
import Derived.Deep.RegionHeld3
import Derived.Deep.RegionWith
import Derived.Deep.QuietTactic
import Derived.BigQuiet
namespace Go.Proofs.Ytpdhelhngdeoeaa
open Go.RowKit

def intV (n : Int) : Value := .int .i64 n

/-- block g holds just these cells, of element type t -/
def Blk (w : World) (g t : Nat) (s : List Value) : Prop := w.heap[g]? = some (.cells s.toArray t (0, 0))
section
variable {w w' : World} {g t : Nat} {s : List Value}
theorem Blk.lt (h : Blk w g t s) : g < w.heap.size := by
  rcases Nat.lt_or_ge g w.heap.size with hlt | hge
  · exact hlt
  · unfold Blk at h; rw [Array.getElem?_eq_none hge] at h; cases h
theorem Blk.cell (h : Blk w g t s) {i : Nat} {x : Value} (hx : s[i]? = some x) : w.cell? ⟨g, i, none⟩ = some x := by
  unfold Blk at h
  simp [World.cell?, h, hx]
theorem Blk.frozen (h : Blk w g t s) (i : Nat) : w.frozen? ⟨g, i, none⟩ = false := by
  unfold Blk at h
  simp [World.frozen?, h]
theorem Blk.set_ (h : Blk w g t s) (i : Nat) (x : Value) : Blk (w.setCell ⟨g, i, none⟩ x) g t (s.set i x) := by
  unfold Blk at h ⊢
  simp [World.setCell, Array.getElem?_modify, h]
theorem Blk.alloc (h : Blk w g t s) (o : Obj) : Blk (w.alloc o) g t s := (Below.heap_alloc w o g h.lt).trans h
theorem Blk.keep (h : Blk w g t s) (hb : Below w.heap.size w w') : Blk w' g t s := (hb.block g h.lt).trans h
theorem Blk.keepB {B : Nat} (h : Blk w g t s) (hb : Below B w w') (hg : g < B) : Blk w' g t s := (hb.block g hg).trans h
theorem Blk.other (h : Blk w g t s) (a : Addr) (v : Value) (ha : a.block ≠ g) : Blk (w.setCell a v) g t s :=
  (Below.heap_setCell _ _ _ _ (fun e => ha e.symm)).trans h
theorem Blk.drew (h : Blk w g t s) : Blk w.drew g t s := h
theorem blk_new (w : World) (s : List Value) (t : Nat) : Blk (w.alloc (.cells s.toArray t)) w.heap.size t s := heap_alloc_new w _
end

/-- a block of n cells by a function -/
def tabL (n : Nat) (f : Nat → Value) : List Value := (List.range n).map f
theorem tabL_at {n : Nat} {f : Nat → Value} {i : Nat} (h : i < n) : (tabL n f)[i]? = some (f i) := by simp [tabL, h]
theorem tabL_set (n : Nat) (f : Nat → Value) (i : Nat) (v : Value) : (tabL n f).set i v = tabL n (fun j => if j = i then v else f j) := by
  apply List.ext_getElem?
  intro j
  rw [List.getElem?_set]
  by_cases e : i = j
  · subst e
    by_cases hj : i < n
    · simp [tabL, hj]
    · simp [tabL, hj]
  · rw [if_neg e]
    by_cases hj : j < n
    · simp [tabL, hj, Ne.symm e]
    · simp [tabL, hj]
theorem tabL_congr {n : Nat} {f g : Nat → Value} (h : ∀ i, i < n → f i = g i) : tabL n f = tabL n g := List.map_congr_left fun i hi => h i (List.mem_range.1 hi)
theorem Blk.tab {w : World} {g t n : Nat} {f f' : Nat → Value} (h : Blk w g t (tabL n f)) (he : ∀ i, i < n → f i = f' i) : Blk w g t (tabL n f') := by rw [← tabL_congr he]; exact h
theorem tabL_rep (n : Nat) (v : Value) : tabL n (fun _ => v) = List.replicate n v := by
  apply List.ext_getElem?
  intro j
  by_cases hj : j < n <;> simp [tabL, hj]

/-- a slice as long as its block, just made -/
theorem blk_of_own {w : World} {base e g n size : Nat} {xs : List Value} (h : w.ownsRow base e size (.slice (some ⟨g, 0, none⟩) n n) n xs) : Blk w g e xs ∧ base ≤ g := by
  rcases h.2 with ⟨h1, _⟩ | ⟨g', cap, cur, h1, h2, h3, h4, h5, h6, h7⟩
  · cases h1
  · injection h1 with h1 h1n h1c
    injection h1 with h1
    injection h1 with h1
    subst h1
    subst h1c
    refine ⟨?_, h2⟩
    unfold Blk
    rw [h3]
    have hl := h.1
    have : cur = xs.toArray := by
      apply Array.toList_inj.1
      rw [← h7, List.take_of_length_le]
      rw [Array.length_toList, h6]
      exact Nat.le_refl _
    rw [this]

def RetPost (v : Value) (B : Nat) (w : World) (e : Ending) (w' : World) : Prop := e = .returned v ∧ Below B w w'

theorem int_info : (Try.prog.info? 3).map (fun i => (i.zero, i.size, i.bytes)) = some (some (.int .i64 0), 1, 8) := by kernel_rfl

theorem row1_of_own {α : Type} {f : α → Value} {w : World} {base : Nat} {e : TypeId} {v : Value} {n : Nat} {xs : List α} (h : w.ownsRow base e 1 v n (xs.map f)) :
    ∃ A c, v = .slice A n c ∧ Row1 f w w.heap.size A n xs := by
  have hl : xs.length = n := by have := h.1; simpa using this
  rcases h.2 with ⟨rfl, rfl⟩ | ⟨g, cap, cur, rfl, hb, hh, hnc, hm, hsz, ht⟩
  · exact ⟨none, 0, rfl, hl, fun hn => absurd hn (by omega)⟩
  · refine ⟨_, cap, rfl, hl, fun hn => ⟨g, 0, rfl, ?_, fun k x hx => ?_⟩⟩
    · rcases Nat.lt_or_ge g w.heap.size with h1 | h1
      · exact h1
      · rw [Array.getElem?_eq_none h1] at hh; cases hh
    · have h2 := h.cells (g := g) rfl k (f x) (by simp [hx])
      by_cases hk : k = 0
      · subst hk; simpa [Addr.add] using h2
      · simpa [Addr.add, hk] using h2

theorem own_ge {w : World} {base : Nat} {e : TypeId} {size n : Nat} {v : Value} {xs : List Value} (h : w.ownsRow base e size v n xs) : ∀ g, v.ownBlock = some g → base ≤ g := by
  intro g hg
  rcases h.2 with ⟨rfl, _⟩ | ⟨g', cap, cur, rfl, hb, _⟩
  · simp [Value.ownBlock] at hg
  · simp [Value.ownBlock] at hg
    omega

/-- a new slice of numbers is returned -/
def NewInts (xs : List Int) (w : World) (e : Ending) (w' : World) : Prop := ∃ v, e = .returned v ∧ w'.ownsRow w.heap.size 3 1 v xs.length (xs.map intV) ∧ Below w.heap.size w w'

section
variable {P : Program}
/-- append of a row of one-cell elements, whatever its address -/
theorem run_append_row {α : Type} {f : α → Value} (hf : ∀ a, (f a).oneCell' = true) (w : World) (base : Nat) (t ty e : TypeId) (i : TypeInfo) (z : Value) (bytes : Nat) (ht : P.underlying t = some (.slice e)) (hi : P.info? e = some i) (hz : i.zero = some z)
    (hsize : i.size = 1) (hby : i.bytes = bytes) (hzs : z.cells.size = 1) (v : Value) (n : Nat) (xs : List Value) (hown : w.ownsRow base e 1 v n xs) (A : Option Addr) (m c : Nat) (ys : List α) (D : Nat) (hy : Row1 f w D A m ys)
    (h63 : n + m ≤ maxLen) (hbytes : (n + m) * bytes ≤ 140737488355328) (hbase : base ≤ w.heap.size) :
    ∃ v' w', (Builtin.append_ #[t, t] ty #[v, .slice A m c]).run P w = .ok v' w' ∧ w'.ownsRow base e 1 v' (n + m) (xs ++ ys.map f) ∧ w.grownBy w' v.ownBlock ∧ (v'.ownBlock = v.ownBlock ∨ v'.ownBlock = some w.heap.size) := by
  cases A with
  | none =>
    have hn0 : m = 0 := by
      rcases Nat.eq_zero_or_pos m with h | h
      · exact h
      · obtain ⟨_, _, h1, _⟩ := hy.2 h; cases h1
    have hxs : ys = [] := List.eq_nil_of_length_eq_zero (by have := hy.1; omega)
    subst hn0 hxs
    refine ⟨v, w, ?_, by simpa using hown, ⟨rfl, rfl, rfl, Nat.le_refl _, fun _ _ _ => rfl⟩, .inl rfl⟩
    rcases hown.2 with ⟨rfl, rfl⟩ | ⟨g, cap, cur, rfl, hbg, hg, hnc, hcm, hcs, htake⟩
    · simp [Builtin.append_, run_underlying ht, sizeOf, typeInfo, hi, Builtin.lenOf, Builtin.firstCells]
    · simp [Builtin.append_, run_underlying ht, sizeOf, typeInfo, hi, Builtin.lenOf, Builtin.firstCells, loadCells, storeCells, hnc]
  | some ad =>
    have hlen := hy.1
    have hcells : ∀ j u, (ys.map f)[j]? = some u → w.cell? (ad.add j) = some u := by
      intro j u hu
      rcases Nat.eq_zero_or_pos m with h | h
      · have hxs : ys = [] := List.eq_nil_of_length_eq_zero (by omega)
        subst hxs
        simp at hu
      · obtain ⟨b, off, h1, _, h3⟩ := hy.2 h
        injection h1 with h1
        subst h1
        rw [List.getElem?_map] at hu
        cases hk : ys[j]? with
        | none => rw [hk] at hu; cases hu
        | some x =>
          rw [hk] at hu
          injection hu with hu
          subst hu
          have := h3 j x hk
          unfold Addr.add
          by_cases hj : j = 0
          · subst hj; simpa using this
          · rw [if_neg hj]; exact this
    obtain ⟨v', w', hr, h2, h3, _, h5⟩ := run_append_own_at (P := P) w base t ty e i z 1 bytes ht hi hz hsize hby hzs (by decide) v n xs hown ad m c (ys.map f) (by simp [hlen]) hcells
      (by intro u hu; obtain ⟨y, _, rfl⟩ := List.mem_map.1 hu; exact hf y) h63 hbytes hbase
    exact ⟨v', w', hr, h2, h3, h5⟩

theorem wpList_append_row {w : World} {ops : Array Oper} {rest : List Oper} {o : Oper} {a : Act} {Q : Exit → Act → World → Prop} (hgd : o.guard = none) (s x : Operand) (t : TypeId)
    (ho : o.op = .call { callee := .builtin .append, args := #[s, x], argTypes := #[t, t] })
    {α : Type} {f : α → Value} (hf : ∀ a, (f a).oneCell' = true) (base : Nat) (e : TypeId) (i : TypeInfo) (z : Value) (bytes : Nat) (ht : P.underlying t = some (.slice e)) (hi : P.info? e = some i) (hz : i.zero = some z)
    (hsize : i.size = 1) (hby : i.bytes = bytes) (hzs : z.cells.size = 1)
    (v : Value) (n : Nat) (xs : List Value) (hs : a.eval s = v) (hown : w.ownsRow base e 1 v n xs) (A : Option Addr) (m c : Nat) (ys : List α) (D : Nat) (hx : a.eval x = .slice A m c) (hy : Row1 f w D A m ys)
    (h63 : n + m ≤ maxLen) (hbytes : (n + m) * bytes ≤ 140737488355328) (hbase : base ≤ w.heap.size)
    (h : ∀ v' w', w'.ownsRow base e 1 v' (n + m) (xs ++ ys.map f) → w.grownBy w' v.ownBlock → (v'.ownBlock = v.ownBlock ∨ v'.ownBlock = some w.heap.size) → wpList P ops Q rest (a.put o.dst v') w') :
    wpList P ops Q (o :: rest) a w := by
  refine wpList_plain hgd fun K hK => ?_
  obtain ⟨v', w', hr, h2, h3, h5⟩ := run_append_row (P := P) hf w base t o.type e i z bytes ht hi hz hsize hby hzs v n xs hown A m c ys D hy h63 hbytes hbase
  unfold Oper.wp execOp
  simp only [ho, resolve, invoke, builtin, Sem.run_bind, Sem.run_pure, Result.andThen_ok, List.map_toArray, List.map_cons, List.map_nil, hs, hx, hr]
  exact hK _ _ (h v' w' h2 h3 h5)
end

theorem intV_one (a : Int) : (intV a).oneCell' = true := rfl

theorem row1_add {w : World} {D : Nat} {A : Option Addr} {n : Nat} {xs : List Int} (h : Row1 intV w D A n xs) (hD : D ≤ w.heap.size) (o : Obj) : Row1 intV (w.alloc o) D A n xs := h.below ((Below.refl _ _).alloc hD _)

theorem own_congr {w w' : World} {base e size n : Nat} {v : Value} {xs : List Value} (h : w.ownsRow base e size v n xs) (hh : ∀ g, base ≤ g → g < w.heap.size → w'.heap[g]? = w.heap[g]?) : w'.ownsRow base e size v n xs := by
  refine ⟨h.1, h.2.imp id ?_⟩
  rintro ⟨g, cap, cur, rfl, h1, h2, h3⟩
  refine ⟨g, cap, cur, rfl, h1, ?_, h3⟩
  rw [hh g h1 ?_, h2]
  rcases Nat.lt_or_ge g w.heap.size with h4 | h4
  · exact h4
  · rw [Array.getElem?_eq_none h4] at h2; cases h2

theorem own_set {w : World} {base e size n : Nat} {v : Value} {xs : List Value} (h : w.ownsRow base e size v n xs) {a : Addr} (ha : a.block < base) (u : Value) : (w.setCell a u).ownsRow base e size v n xs :=
  own_congr h fun g hg _ => Go.Deep.blk_setCell_other _ _ _ _ (by omega)

theorem own_low {w : World} {base base' e size n : Nat} {v : Value} {xs : List Value} (h : w.ownsRow base e size v n xs) (hb : base' ≤ base) : w.ownsRow base' e size v n xs := by
  refine ⟨h.1, h.2.imp id ?_⟩
  rintro ⟨g, cap, cur, rfl, h1, h2⟩
  exact ⟨g, cap, cur, rfl, Nat.le_trans hb h1, h2⟩

theorem own_keep {w w' : World} {base e size n : Nat} {v : Value} {xs : List Value} (h : w.ownsRow base e size v n xs) (hb : Below w.heap.size w w') : w'.ownsRow base e size v n xs :=
  own_congr h fun g _ hg => hb.block g hg

/-- the form of an owned slice of numbers -/
theorem own_form {w : World} {base e n : Nat} {v : Value} {xs : List Int} (h : w.ownsRow base e 1 v n (xs.map intV)) : ∃ A c, v = .slice A n c ∧ Row1 intV w w.heap.size A n xs ∧ (∀ a, A = some a → base ≤ a.block ∧ a.block < w.heap.size ∧ a.spot = none ∧ a.off = 0 ∧ w.frozen? a = false) := by
  obtain ⟨A, c, rfl, hr⟩ := row1_of_own h
  refine ⟨A, c, rfl, hr, ?_⟩
  rintro a rfl
  rcases h.2 with ⟨h1, _⟩ | ⟨g, cap, cur, h1, h2, h3, _⟩
  · cases h1
  · injection h1 with h1 _ _
    injection h1 with h1
    subst h1
    refine ⟨h2, ?_, rfl, rfl, ?_⟩
    · rcases Nat.lt_or_ge g w.heap.size with h4 | h4
      · exact h4
      · rw [Array.getElem?_eq_none h4] at h3; cases h3
    · simp [World.frozen?, h3]

/-- numbers in a slice of their own are returned, and an error -/
def ListPost (r : List Int × Int) (w : World) (e : Ending) (w' : World) : Prop :=
  ∃ v, e = .returned (.tuple #[v, .int .i64 r.2]) ∧ w'.ownsRow w.heap.size 3 1 v r.1.length (r.1.map intV) ∧ Below w.heap.size w w'

def v2 (x : Int × Int) : Value := .tuple #[.int .i64 x.1, .int .i64 x.2]
def v3 (x : Int × Int × Int) : Value := .tuple #[.int .i64 x.1, .int .i64 x.2.1, .int .i64 x.2.2]

/-- the form of an owned slice of structs -/
theorem own_formS {α : Type} {sz : Nat} {f : α → Nat → Value} {w : World} {base e n : Nat} {v : Value} {xs : List α} (hsz : 0 < sz) (h : w.ownsRow base e sz v n (flat sz f xs)) : ∃ A c, v = .slice A n c ∧ RowS sz f w w.heap.size A n xs := by
  have hfl : ∀ ys : List α, (flat sz f ys).length = ys.length * sz := by
    intro ys
    induction ys with
    | nil => simp [flat]
    | cons y ys ih =>
      have : flat sz f (y :: ys) = (List.range sz).map (f y) ++ flat sz f ys := rfl
      rw [this, List.length_append, ih, List.length_cons, Nat.succ_mul]; simp; omega
  have hl : xs.length = n := by
    have := h.1; rw [hfl] at this; exact Nat.eq_of_mul_eq_mul_right hsz this
  rcases h.2 with ⟨rfl, rfl⟩ | ⟨g, cap, cur, rfl, hb, hh, hnc, hm, hs, ht⟩
  · exact ⟨none, 0, rfl, hl, fun hn => absurd hn (by omega)⟩
  · refine ⟨_, cap, rfl, hl, fun hn => ⟨g, 0, rfl, ?_, fun k x hx j hj => ?_⟩⟩
    · rcases Nat.lt_or_ge g w.heap.size with h1 | h1
      · exact h1
      · rw [Array.getElem?_eq_none h1] at hh; cases hh
    · have hk : k < n := by rw [← hl]; exact (List.getElem?_eq_some_iff.1 hx).1
      have h2 : k * sz + j < n * sz := by
        have := Nat.mul_le_mul_right sz (show k + 1 ≤ n from hk)
        rw [Nat.succ_mul] at this; omega
      have h3 := h.cellAt (k * sz + j) h2
      rw [Nat.zero_add, h3]
      exact flat_at sz f xs k x hx j hj
theorem flat_snoc {α : Type} (sz : Nat) (f : α → Nat → Value) (xs : List α) (x : α) : flat sz f (xs ++ [x]) = flat sz f xs ++ (List.range sz).map (f x) := by
  simp [flat]
end Go.Proofs.Ytpdhelhngdeoeaa
