/- Claims, wishes and slots as they lie in memory; the table of solve as it lies in memory. -/
import Derived.Test.YteckijkmcafpaaaMem
import Derived.Test.YteckijkmcafpaaaLex3
import Derived.Test.YteckijkmcafpaaaPm39
namespace Go.Proofs.Yteckijkmcafpaaa
open Go.RowKit

structure Claim where
  win : Int
  cnt : Int
structure Wish where
  win : Int
  start : Int
  val : Int
structure Slot where
  win : Int
  start : Int
  cnt : Int
def Claim.cell (p : Claim) : Nat → Value
  | 0 => .int .i64 p.win
  | _ => .int .i64 p.cnt
def Wish.cell (p : Wish) : Nat → Value
  | 0 => .int .i64 p.win
  | 1 => .int .i64 p.start
  | _ => .int .i64 p.val
def Slot.cell (p : Slot) : Nat → Value
  | 0 => .int .i64 p.win
  | 1 => .int .i64 p.start
  | _ => .int .i64 p.cnt
/-- a row of a table of values -/
def rowV (r : List Int) (j : Nat) : Value := .int .i64 (r.getD j 0)

def cnOf (l : List Claim) (i : Nat) : Nat := match l[i]? with | some c => c.cnt.toNat | none => 1
def valOf (vs : List (List Int)) (i s : Nat) : Int := (vs.getD i []).getD s 0

/-- the tables of solve in memory: the values' outer block gv, the counts' gc, the rows' blocks vb r and cb r -/
structure Tab (w wr : World) (B N gv gc : Nat) (vb cb : Nat → Nat) (T : Nat → Nat → Int × Int) : Prop where
  bl : Below w.heap.size w wr
  ov : Blk wr gv 27 (tabL (B + 1) fun r => .slice (some ⟨vb r, 0, none⟩) N N)
  oc : Blk wr gc 27 (tabL (B + 1) fun r => .slice (some ⟨cb r, 0, none⟩) N N)
  rv : ∀ r, r ≤ B → Blk wr (vb r) 3 (tabL N fun s => .int .i64 (T r s).1)
  rc : ∀ r, r ≤ B → Blk wr (cb r) 3 (tabL N fun s => .int .i64 (T r s).2)
  dvv : ∀ r r', r ≤ B → r' ≤ B → vb r = vb r' → r = r'
  dcc : ∀ r r', r ≤ B → r' ≤ B → cb r = cb r' → r = r'
  dvc : ∀ r r', r ≤ B → r' ≤ B → vb r ≠ cb r'
  hi : ∀ r, r ≤ B → w.heap.size ≤ vb r ∧ w.heap.size ≤ cb r
  no : ∀ r, r ≤ B → vb r ≠ gv ∧ vb r ≠ gc ∧ cb r ≠ gv ∧ cb r ≠ gc

def up1 (T : Nat → Nat → Int × Int) (r s : Nat) (v : Int) (r' s' : Nat) : Int × Int := if r' = r ∧ s' = s then (v, (T r' s').2) else T r' s'
def up2 (T : Nat → Nat → Int × Int) (r s : Nat) (v : Int) (r' s' : Nat) : Int × Int := if r' = r ∧ s' = s then ((T r' s').1, v) else T r' s'

section
variable {w wr : World} {B N gv gc : Nat} {vb cb : Nat → Nat} {T T' : Nat → Nat → Int × Int}
theorem Tab.congr (h : Tab w wr B N gv gc vb cb T) (he : ∀ r s, r ≤ B → s < N → T r s = T' r s) : Tab w wr B N gv gc vb cb T' where
  bl := h.bl
  ov := h.ov
  oc := h.oc
  rv := fun r hr => by rw [← tabL_congr (fun s hs => show _ = _ by rw [← he r s hr hs])]; exact h.rv r hr
  rc := fun r hr => by rw [← tabL_congr (fun s hs => show _ = _ by rw [← he r s hr hs])]; exact h.rc r hr
  dvv := h.dvv
  dcc := h.dcc
  dvc := h.dvc
  hi := h.hi
  no := h.no
theorem Tab.alloc (h : Tab w wr B N gv gc vb cb T) (o : Obj) : Tab w (wr.alloc o) B N gv gc vb cb T where
  bl := h.bl.alloc h.bl.size _
  ov := h.ov.alloc _
  oc := h.oc.alloc _
  rv := fun r hr => (h.rv r hr).alloc _
  rc := fun r hr => (h.rc r hr).alloc _
  dvv := h.dvv
  dcc := h.dcc
  dvc := h.dvc
  hi := h.hi
  no := h.no
theorem Tab.drew (h : Tab w wr B N gv gc vb cb T) : Tab w wr.drew B N gv gc vb cb T where
  bl := h.bl.drew
  ov := h.ov
  oc := h.oc
  rv := h.rv
  rc := h.rc
  dvv := h.dvv
  dcc := h.dcc
  dvc := h.dvc
  hi := h.hi
  no := h.no
theorem Tab.setV (h : Tab w wr B N gv gc vb cb T) {r s : Nat} (hr : r ≤ B) (v : Int) : Tab w (wr.setCell ⟨vb r, s, none⟩ (.int .i64 v)) B N gv gc vb cb (up1 T r s v) where
  bl := h.bl.setCell (h.hi r hr).1 _
  ov := h.ov.other _ _ (h.no r hr).1
  oc := h.oc.other _ _ (h.no r hr).2.1
  rv := fun r' hr' => by
    by_cases e : r' = r
    · subst e
      have := (h.rv r' hr').set_ s (.int .i64 v)
      rw [tabL_set] at this
      rw [tabL_congr (g := fun j => if j = s then .int .i64 v else .int .i64 (T r' j).1) (fun j _ => by unfold up1; by_cases e : j = s <;> simp [e])]
      exact this
    · rw [tabL_congr (g := fun j => .int .i64 (T r' j).1) (fun j _ => by unfold up1; simp [e])]
      exact (h.rv r' hr').other _ _ (fun e' => e (h.dvv r r' hr hr' e').symm)
  rc := fun r' hr' => by
    rw [tabL_congr (g := fun j => .int .i64 (T r' j).2) (fun j _ => by unfold up1; split <;> rfl)]
    exact (h.rc r' hr').other _ _ (h.dvc r r' hr hr')
  dvv := h.dvv
  dcc := h.dcc
  dvc := h.dvc
  hi := h.hi
  no := h.no
theorem Tab.setC (h : Tab w wr B N gv gc vb cb T) {r s : Nat} (hr : r ≤ B) (v : Int) : Tab w (wr.setCell ⟨cb r, s, none⟩ (.int .i64 v)) B N gv gc vb cb (up2 T r s v) where
  bl := h.bl.setCell (h.hi r hr).2 _
  ov := h.ov.other _ _ (h.no r hr).2.2.1
  oc := h.oc.other _ _ (h.no r hr).2.2.2
  rc := fun r' hr' => by
    by_cases e : r' = r
    · subst e
      have := (h.rc r' hr').set_ s (.int .i64 v)
      rw [tabL_set] at this
      rw [tabL_congr (g := fun j => if j = s then .int .i64 v else .int .i64 (T r' j).2) (fun j _ => by unfold up2; by_cases e : j = s <;> simp [e])]
      exact this
    · rw [tabL_congr (g := fun j => .int .i64 (T r' j).2) (fun j _ => by unfold up2; simp [e])]
      exact (h.rc r' hr').other _ _ (fun e' => e (h.dcc r r' hr hr' e').symm)
  rv := fun r' hr' => by
    rw [tabL_congr (g := fun j => .int .i64 (T r' j).1) (fun j _ => by unfold up2; split <;> rfl)]
    exact (h.rv r' hr').other _ _ (fun e => h.dvc r' r hr' hr e.symm)
  dvv := h.dvv
  dcc := h.dcc
  dvc := h.dvc
  hi := h.hi
  no := h.no
theorem Tab.cv (h : Tab w wr B N gv gc vb cb T) {r : Nat} (hr : r ≤ B) : wr.cell? ⟨gv, r, none⟩ = some (.slice (some ⟨vb r, 0, none⟩) N N) := h.ov.cell (tabL_at (by omega))
theorem Tab.cc (h : Tab w wr B N gv gc vb cb T) {r : Nat} (hr : r ≤ B) : wr.cell? ⟨gc, r, none⟩ = some (.slice (some ⟨cb r, 0, none⟩) N N) := h.oc.cell (tabL_at (by omega))
theorem Tab.xv (h : Tab w wr B N gv gc vb cb T) {r s : Nat} (hr : r ≤ B) (hs : s < N) : wr.cell? ⟨vb r, s, none⟩ = some (.int .i64 (T r s).1) := (h.rv r hr).cell (tabL_at hs)
theorem Tab.xc (h : Tab w wr B N gv gc vb cb T) {r s : Nat} (hr : r ≤ B) (hs : s < N) : wr.cell? ⟨cb r, s, none⟩ = some (.int .i64 (T r s).2) := (h.rc r hr).cell (tabL_at hs)
end

def upd (f : Nat → Nat) (k g : Nat) (r : Nat) : Nat := if r = k then g else f r
/-- the tables while their rows are made: k rows are there -/
structure Mk (w wr : World) (B N gv gc k : Nat) (vb cb : Nat → Nat) : Prop where
  bl : Below w.heap.size w wr
  ov : Blk wr gv 27 (tabL (B + 1) fun r => if r < k then .slice (some ⟨vb r, 0, none⟩) N N else .slice none 0 0)
  oc : Blk wr gc 27 (tabL (B + 1) fun r => if r < k then .slice (some ⟨cb r, 0, none⟩) N N else .slice none 0 0)
  rv : ∀ r, r < k → Blk wr (vb r) 3 (tabL N fun _ => .int .i64 0)
  rc : ∀ r, r < k → Blk wr (cb r) 3 (tabL N fun _ => .int .i64 0)
  dvv : ∀ r r', r < k → r' < k → vb r = vb r' → r = r'
  dcc : ∀ r r', r < k → r' < k → cb r = cb r' → r = r'
  dvc : ∀ r r', r < k → r' < k → vb r ≠ cb r'
  hi : ∀ r, r < k → w.heap.size ≤ vb r ∧ w.heap.size ≤ cb r
  no : ∀ r, r < k → vb r ≠ gv ∧ vb r ≠ gc ∧ cb r ≠ gv ∧ cb r ≠ gc
  gg : gv ≠ gc ∧ w.heap.size ≤ gv ∧ w.heap.size ≤ gc
theorem Mk.start {w wr : World} {B N gv gc : Nat} (h : Below w.heap.size w wr) (h1 : Blk wr gv 27 (tabL (B + 1) fun _ => .slice none 0 0)) (h2 : Blk wr gc 27 (tabL (B + 1) fun _ => .slice none 0 0)) (hg : gv ≠ gc ∧ w.heap.size ≤ gv ∧ w.heap.size ≤ gc) : Mk w wr B N gv gc 0 id id where
  bl := h
  ov := h1
  oc := h2
  rv := fun r hr => by omega
  rc := fun r hr => by omega
  dvv := fun r _ hr => by omega
  dcc := fun r _ hr => by omega
  dvc := fun r _ hr => by omega
  hi := fun r hr => by omega
  no := fun r hr => by omega
  gg := hg
theorem Mk.next {w wr : World} {B N gv gc k : Nat} {vb cb : Nat → Nat} (h : Mk w wr B N gv gc k vb cb) (g1 g2 : Nat) (hg : (g1 = wr.heap.size ∧ g2 = wr.heap.size + 1) ∨ (g1 = wr.heap.size + 1 ∧ g2 = wr.heap.size)) :
    Mk w ((((wr.setCell ⟨gv, k, none⟩ (.slice (some ⟨g1, 0, none⟩) N N)).setCell ⟨gc, k, none⟩ (.slice (some ⟨g2, 0, none⟩) N N)).alloc (.cells (tabL N fun _ => .int .i64 0).toArray 3)).alloc (.cells (tabL N fun _ => .int .i64 0).toArray 3)) B N gv gc (k + 1) (upd vb k g1) (upd cb k g2) := by
  have hsw : (((wr.setCell ⟨gv, k, none⟩ (.slice (some ⟨g1, 0, none⟩) N N)).setCell ⟨gc, k, none⟩ (.slice (some ⟨g2, 0, none⟩) N N))).heap.size = wr.heap.size := by simp
  have b1 := blk_new ((wr.setCell ⟨gv, k, none⟩ (.slice (some ⟨g1, 0, none⟩) N N)).setCell ⟨gc, k, none⟩ (.slice (some ⟨g2, 0, none⟩) N N)) (tabL N fun _ => Value.int .i64 0) 3
  have b2 := blk_new (((wr.setCell ⟨gv, k, none⟩ (.slice (some ⟨g1, 0, none⟩) N N)).setCell ⟨gc, k, none⟩ (.slice (some ⟨g2, 0, none⟩) N N)).alloc (.cells (tabL N fun _ => .int .i64 0).toArray 3)) (tabL N fun _ => Value.int .i64 0) 3
  rw [World.size_alloc] at b2
  rw [hsw] at b1 b2
  have b1' := b1.alloc (.cells (tabL N fun _ => .int .i64 0).toArray 3)
  have hsz := h.bl.size
  have lv := h.ov.lt
  have lc := h.oc.lt
  have lv' := fun r hr => (h.rv r hr).lt
  have lc' := fun r hr => (h.rc r hr).lt
  have new1 : Blk ((((wr.setCell ⟨gv, k, none⟩ (.slice (some ⟨g1, 0, none⟩) N N)).setCell ⟨gc, k, none⟩ (.slice (some ⟨g2, 0, none⟩) N N)).alloc (.cells (tabL N fun _ => .int .i64 0).toArray 3)).alloc (.cells (tabL N fun _ => .int .i64 0).toArray 3)) g1 3 (tabL N fun _ => .int .i64 0) := by
    rcases hg with ⟨e, _⟩ | ⟨e, _⟩
    · rw [← e] at b1'; exact b1'
    · rw [← e] at b2; exact b2
  have new2 : Blk ((((wr.setCell ⟨gv, k, none⟩ (.slice (some ⟨g1, 0, none⟩) N N)).setCell ⟨gc, k, none⟩ (.slice (some ⟨g2, 0, none⟩) N N)).alloc (.cells (tabL N fun _ => .int .i64 0).toArray 3)).alloc (.cells (tabL N fun _ => .int .i64 0).toArray 3)) g2 3 (tabL N fun _ => .int .i64 0) := by
    rcases hg with ⟨_, e⟩ | ⟨_, e⟩
    · rw [← e] at b2; exact b2
    · rw [← e] at b1'; exact b1'
  have hne : g1 ≠ g2 ∧ wr.heap.size ≤ g1 ∧ wr.heap.size ≤ g2 := by omega
  clear hg
  have hgg := h.gg
  refine ⟨((((h.bl.setCell hgg.2.1 _).setCell hgg.2.2 _).alloc (by rw [hsw]; exact hsz) _).alloc (by rw [World.size_alloc, hsw]; omega) _), ?_, ?_, fun r hr => ?_, fun r hr => ?_, fun r r' hr hr' e => ?_, fun r r' hr hr' e => ?_, fun r r' hr hr' e => ?_, fun r hr => ?_, fun r hr => ?_, hgg⟩
  · have := (((h.ov.set_ k (.slice (some ⟨g1, 0, none⟩) N N)).other ⟨gc, k, none⟩ (.slice (some ⟨g2, 0, none⟩) N N) (Ne.symm hgg.1)).alloc (.cells (tabL N fun _ => .int .i64 0).toArray 3)).alloc (.cells (tabL N fun _ => .int .i64 0).toArray 3)
    rw [tabL_set] at this
    refine this.tab fun j _ => ?_
    unfold upd
    by_cases e : j = k
    · rw [if_pos e, if_pos (by omega), if_pos e]
    · rw [if_neg e, if_neg e]
      by_cases e' : j < k
      · rw [if_pos e', if_pos (by omega)]
      · rw [if_neg e', if_neg (by omega)]
  · have := (((h.oc.other ⟨gv, k, none⟩ (.slice (some ⟨g1, 0, none⟩) N N) hgg.1).set_ k (.slice (some ⟨g2, 0, none⟩) N N)).alloc (.cells (tabL N fun _ => .int .i64 0).toArray 3)).alloc (.cells (tabL N fun _ => .int .i64 0).toArray 3)
    rw [tabL_set] at this
    refine this.tab fun j _ => ?_
    unfold upd
    by_cases e : j = k
    · rw [if_pos e, if_pos (by omega), if_pos e]
    · rw [if_neg e, if_neg e]
      by_cases e' : j < k
      · rw [if_pos e', if_pos (by omega)]
      · rw [if_neg e', if_neg (by omega)]
  · unfold upd
    by_cases e : r = k
    · rw [if_pos e]
      exact new1
    · rw [if_neg e]
      have := h.no r (by omega)
      exact ((((h.rv r (by omega)).other _ _ (by dsimp only; omega)).other _ _ (by dsimp only; omega)).alloc _).alloc _
  · unfold upd
    by_cases e : r = k
    · rw [if_pos e]
      exact new2
    · rw [if_neg e]
      have := h.no r (by omega)
      exact ((((h.rc r (by omega)).other _ _ (by dsimp only; omega)).other _ _ (by dsimp only; omega)).alloc _).alloc _
  · unfold upd at e
    by_cases e1 : r = k
    · by_cases e2 : r' = k
      · omega
      · rw [if_pos e1, if_neg e2] at e
        have := lv' r' (by omega)
        omega
    · by_cases e2 : r' = k
      · rw [if_neg e1, if_pos e2] at e
        have := lv' r (by omega)
        omega
      · rw [if_neg e1, if_neg e2] at e
        exact h.dvv r r' (by omega) (by omega) e
  · unfold upd at e
    by_cases e1 : r = k
    · by_cases e2 : r' = k
      · omega
      · rw [if_pos e1, if_neg e2] at e
        have := lc' r' (by omega)
        omega
    · by_cases e2 : r' = k
      · rw [if_neg e1, if_pos e2] at e
        have := lc' r (by omega)
        omega
      · rw [if_neg e1, if_neg e2] at e
        exact h.dcc r r' (by omega) (by omega) e
  · unfold upd at e
    by_cases e1 : r = k
    · by_cases e2 : r' = k
      · rw [if_pos e1, if_pos e2] at e
        omega
      · rw [if_pos e1, if_neg e2] at e
        have := lc' r' (by omega)
        omega
    · by_cases e2 : r' = k
      · rw [if_neg e1, if_pos e2] at e
        have := lv' r (by omega)
        omega
      · rw [if_neg e1, if_neg e2] at e
        exact h.dvc r r' (by omega) (by omega) e
  · unfold upd
    by_cases e : r = k
    · rw [if_pos e, if_pos e]; omega
    · rw [if_neg e, if_neg e]; exact h.hi r (by omega)
  · unfold upd
    by_cases e : r = k
    · rw [if_pos e, if_pos e]; omega
    · rw [if_neg e, if_neg e]; exact h.no r (by omega)
theorem Mk.drew {w wr : World} {B N gv gc k : Nat} {vb cb : Nat → Nat} (h : Mk w wr B N gv gc k vb cb) : Mk w wr.drew B N gv gc k vb cb := ⟨h.bl.drew, h.ov, h.oc, h.rv, h.rc, h.dvv, h.dcc, h.dvc, h.hi, h.no, h.gg⟩
theorem Mk.tab {w wr : World} {B N gv gc : Nat} {vb cb : Nat → Nat} (h : Mk w wr B N gv gc (B + 1) vb cb) : Tab w wr B N gv gc vb cb (fun _ _ => (0, 0)) where
  bl := h.bl
  ov := by rw [tabL_congr (g := fun r => if r < B + 1 then .slice (some ⟨vb r, 0, none⟩) N N else .slice none 0 0) (fun j hj => by rw [if_pos hj])]; exact h.ov
  oc := by rw [tabL_congr (g := fun r => if r < B + 1 then .slice (some ⟨cb r, 0, none⟩) N N else .slice none 0 0) (fun j hj => by rw [if_pos hj])]; exact h.oc
  rv := fun r hr => h.rv r (by omega)
  rc := fun r hr => h.rc r (by omega)
  dvv := fun r r' hr hr' => h.dvv r r' (by omega) (by omega)
  dcc := fun r r' hr hr' => h.dcc r r' (by omega) (by omega)
  dvc := fun r r' hr hr' => h.dvc r r' (by omega) (by omega)
  hi := fun r hr => h.hi r (by omega)
  no := fun r hr => h.no r (by omega)

section
variable {n B : Nat} {cn : Nat → Nat} {fx : Nat → Int} {val : Nat → Nat → Int}
/-- bounds of the table -/
theorem step_bd {T : Nat → Nat → Int × Int} {M V K : Int} {r s : Nat} (hT : ∀ r s, 0 ≤ (T r s).1 ∧ (T r s).1 ≤ V ∧ 0 ≤ (T r s).2 ∧ (T r s).2 ≤ M) (hv : ∀ i s, 0 ≤ val i s ∧ val i s ≤ K) (p : Int × Int) (hp : 0 ≤ p.1 ∧ p.1 ≤ V + K) (i : Nat) :
    0 ≤ (step B cn fx val T r s p i).1 ∧ (step B cn fx val T r s p i).1 ≤ V + K ∧ p.2 ≤ (step B cn fx val T r s p i).2 ∧ (step B cn fx val T r s p i).2 ≤ p.2 + M := by
  have h := hT (r + cn i) (clr s i)
  have h' := hv i r
  unfold step
  split
  · dsimp only
    split <;> omega
  · omega
theorem fold_bd {T : Nat → Nat → Int × Int} {M V K : Int} {r s : Nat} (hT : ∀ r s, 0 ≤ (T r s).1 ∧ (T r s).1 ≤ V ∧ 0 ≤ (T r s).2 ∧ (T r s).2 ≤ M) (hv : ∀ i s, 0 ≤ val i s ∧ val i s ≤ K) (p : Int × Int) (hp : 0 ≤ p.1 ∧ p.1 ≤ V + K) (k : Nat) :
    0 ≤ ((List.range k).foldl (step B cn fx val T r s) p).1 ∧ ((List.range k).foldl (step B cn fx val T r s) p).1 ≤ V + K ∧ p.2 ≤ ((List.range k).foldl (step B cn fx val T r s) p).2 ∧ ((List.range k).foldl (step B cn fx val T r s) p).2 ≤ p.2 + k * M := by
  induction k with
  | zero => exact ⟨hp.1, hp.2, Int.le_refl _, by simp⟩
  | succ k ih =>
    rw [List.range_succ, List.foldl_append]
    have := step_bd (B := B) (cn := cn) (fx := fx) (r := r) (s := s) hT hv ((List.range k).foldl (step B cn fx val T r s) p) ⟨ih.1, ih.2.1⟩ k
    simp only [List.foldl_cons, List.foldl_nil]
    have e : ((k + 1 : Nat) : Int) * M = k * M + M := by rw [Int.natCast_succ, Int.add_mul, Int.one_mul]
    omega
theorem dp_bd {K : Int} (hn : n ≤ 6) (hK : 0 ≤ K) (hv : ∀ i s, 0 ≤ val i s ∧ val i s ≤ K) : ∀ (d r s : Nat), 0 ≤ (dpT n B cn fx val d r s).1 ∧ (dpT n B cn fx val d r s).1 ≤ d * K ∧ 0 ≤ (dpT n B cn fx val d r s).2 ∧ (dpT n B cn fx val d r s).2 ≤ 7 ^ d := by
  intro d
  induction d with
  | zero =>
    intro r s
    rw [dpT]
    split <;> simp
  | succ d ih =>
    intro r s
    have e : ((d + 1 : Nat) : Int) * K = d * K + K := by rw [Int.natCast_succ, Int.add_mul, Int.one_mul]
    have e7 : (7 : Int) ^ (d + 1) = 7 ^ d * 7 := Int.pow_succ _ _
    have hp : (0 : Int) ≤ 7 ^ d := Int.le_of_lt (Int.pow_pos (by omega))
    have h0 := ih r s
    have h1 := ih (r + 1) s
    rw [dpT]
    split
    · have := fold_bd (B := B) (cn := cn) (fx := fx) (r := r) (s := s) ih hv (dpT n B cn fx val d (r + 1) s) ⟨h1.1, by omega⟩ n
      have hm : (n : Int) * 7 ^ d ≤ 6 * 7 ^ d := Int.mul_le_mul_of_nonneg_right (by omega) hp
      omega
    · omega

def mixT (n B : Nat) (cn : Nat → Nat) (fx : Nat → Int) (val : Nat → Nat → Int) (d s r s' : Nat) : Int × Int := if r + (d + 1) = B ∧ s' < s then dpT n B cn fx val (d + 1) r s' else dpT n B cn fx val d r s'
def inF (n B : Nat) (cn : Nat → Nat) (fx : Nat → Int) (val : Nat → Nat → Int) (d r s k : Nat) : Int × Int := (List.range k).foldl (step B cn fx val (dpT n B cn fx val d) r s) (dpT n B cn fx val d (r + 1) s)
def inT (n B : Nat) (cn : Nat → Nat) (fx : Nat → Int) (val : Nat → Nat → Int) (d r s k r' s' : Nat) : Int × Int := if r' = r ∧ s' = s then inF n B cn fx val d r s k else mixT n B cn fx val d s r' s'
theorem mixT_zero (d r s : Nat) : dpT n B cn fx val d r s = mixT n B cn fx val d 0 r s := by unfold mixT; rw [if_neg (by omega)]
theorem mixT_full {d N r s : Nat} (hs : s < N) : mixT n B cn fx val d N r s = dpT n B cn fx val (d + 1) r s := by
  unfold mixT
  by_cases h : r + (d + 1) = B
  · rw [if_pos ⟨h, hs⟩]
  · rw [if_neg (fun hh => h hh.1)]
    conv => rhs; rw [dpT]
    rw [if_neg h]
theorem inT_zero {d r s r' s' : Nat} : up2 (up1 (mixT n B cn fx val d s) r s (dpT n B cn fx val d (r + 1) s).1) r s (dpT n B cn fx val d (r + 1) s).2 r' s' = inT n B cn fx val d r s 0 r' s' := by
  unfold up2 up1 inT inF
  by_cases h : r' = r ∧ s' = s
  · rw [if_pos h, if_pos h, if_pos h]; rfl
  · rw [if_neg h, if_neg h, if_neg h]
theorem inT_full {d r s r' s' : Nat} (h : r + (d + 1) = B) : inT n B cn fx val d r s n r' s' = mixT n B cn fx val d (s + 1) r' s' := by
  unfold inT
  by_cases e : r' = r ∧ s' = s
  · obtain ⟨rfl, rfl⟩ := e
    rw [if_pos ⟨rfl, rfl⟩]
    unfold mixT inF
    rw [if_pos ⟨h, by omega⟩, dpT, if_pos h]
  · rw [if_neg e]
    unfold mixT
    by_cases e' : r' + (d + 1) = B
    · by_cases hs : s' < s
      · rw [if_pos ⟨e', hs⟩, if_pos ⟨e', by omega⟩]
      · rw [if_neg (fun hh => hs hh.2), if_neg (fun hh => e ⟨by omega, by omega⟩)]
    · rw [if_neg (fun hh => e' hh.1), if_neg (fun hh => e' hh.1)]
theorem inT_here {d r s k : Nat} : inT n B cn fx val d r s k r s = inF n B cn fx val d r s k := by unfold inT; rw [if_pos ⟨rfl, rfl⟩]
theorem inT_above {d r s k r' s' : Nat} (h : r + (d + 1) = B) (hr : r < r') : inT n B cn fx val d r s k r' s' = dpT n B cn fx val d r' s' := by
  unfold inT mixT
  rw [if_neg (fun hh => by omega), if_neg (fun hh => by omega)]
theorem mixT_above {d r s r' s' : Nat} (h : r + (d + 1) = B) (hr : r < r') : mixT n B cn fx val d s r' s' = dpT n B cn fx val d r' s' := by
  unfold mixT
  rw [if_neg (fun hh => by omega)]
theorem inF_succ (d r s k : Nat) : inF n B cn fx val d r s (k + 1) = step B cn fx val (dpT n B cn fx val d) r s (inF n B cn fx val d r s k) k := by
  unfold inF
  rw [List.range_succ, List.foldl_append]; rfl
/-- nothing changes at a claim that may not begin here -/
theorem inT_same {d r s k r' s' : Nat} (h : ¬ (may B cn fx s r k ∧ (dpT n B cn fx val d (r + cn k) (clr s k)).2 ≠ 0)) : inT n B cn fx val d r s k r' s' = inT n B cn fx val d r s (k + 1) r' s' := by
  unfold inT
  rw [inF_succ]
  unfold step
  rw [if_neg h]
/-- a claim more, with a greater value -/
theorem inT_more {d r s k r' s' : Nat} (h : may B cn fx s r k ∧ (dpT n B cn fx val d (r + cn k) (clr s k)).2 ≠ 0) (hv : (inF n B cn fx val d r s k).2 = 0 ∨ (inF n B cn fx val d r s k).1 < (dpT n B cn fx val d (r + cn k) (clr s k)).1 + val k r) :
    up2 (up1 (inT n B cn fx val d r s k) r s ((dpT n B cn fx val d (r + cn k) (clr s k)).1 + val k r)) r s ((inF n B cn fx val d r s k).2 + (dpT n B cn fx val d (r + cn k) (clr s k)).2) r' s' = inT n B cn fx val d r s (k + 1) r' s' := by
  unfold up2 up1 inT
  rw [inF_succ]
  by_cases e : r' = r ∧ s' = s
  · rw [if_pos e, if_pos e, if_pos e]
    unfold step
    rw [if_pos h, if_pos hv, if_pos e]
  · rw [if_neg e, if_neg e, if_neg e, if_neg e]
theorem inT_less {d r s k r' s' : Nat} (h : may B cn fx s r k ∧ (dpT n B cn fx val d (r + cn k) (clr s k)).2 ≠ 0) (hv : ¬ ((inF n B cn fx val d r s k).2 = 0 ∨ (inF n B cn fx val d r s k).1 < (dpT n B cn fx val d (r + cn k) (clr s k)).1 + val k r)) :
    up2 (inT n B cn fx val d r s k) r s ((inF n B cn fx val d r s k).2 + (dpT n B cn fx val d (r + cn k) (clr s k)).2) r' s' = inT n B cn fx val d r s (k + 1) r' s' := by
  unfold up2 inT
  rw [inF_succ]
  by_cases e : r' = r ∧ s' = s
  · rw [if_pos e, if_pos e, if_pos e]
    unfold step
    rw [if_pos h, if_neg hv]
  · rw [if_neg e, if_neg e, if_neg e]
theorem start_zero {r s : Nat} : up2 (fun _ _ => ((0 : Int), (0 : Int))) B 0 1 r s = dpT n B cn fx val 0 r s := by
  unfold up2
  rw [dpT]
end
theorem cell_set {w : World} {b o b' o' : Nat} {v : Option Value} {u : Value} (h : w.cell? ⟨b, o, none⟩ = v) (hne : b' ≠ b) : (w.setCell ⟨b', o', none⟩ u).cell? ⟨b, o, none⟩ = v := by
  rw [← h]
  simp only [World.cell?]
  rw [Below.heap_setCell _ _ _ _ (fun e => hne e.symm)]
end Go.Proofs.Yteckijkmcafpaaa
