/- Contracts of package product's Valid and of what it calls. -/
import Derived.Test.YtpgomblalmnonaaDoorProg
import Derived.Test.YtpgomblalmnonaaDoorBase
import Derived.Deep.RegionHeld3
import Derived.Deep.RegionWith
import Derived.Deep.QuietTactic
import Derived.BigQuiet
namespace Go.Proofs.YtpgomblalmnonaaDoor
open Go.RowKit

/-- A product. -/
structure Prod where
  area : Int
  cat : Int
  sup : Int
  units : Int
  res : Int

def Prod.cell (p : Prod) : Nat → Value
  | 0 => .int .i64 p.area
  | 1 => .int .i64 p.cat
  | 2 => .int .i64 p.sup
  | 3 => .int .i64 p.units
  | _ => .int .i64 p.res

def Prod.val (p : Prod) : Value := .agg #[.int .i64 p.area, .int .i64 p.cat, .int .i64 p.sup, .int .i64 p.units, .int .i64 p.res]

def intV (n : Int) : Value := .int .i64 n

/-- cmp.Compare -/
def cmpF (x y : Int) : Int := if x < y then -1 else if y < x then 1 else 0

theorem isNaN_any (x : Int) (w : World) : Calls Tryd.prog 54 #[.int .i64 x] w fun e w' => e = .returned (.bool false) ∧ w = w' := by
  have h : (x != x) = false := by simp
  go_enter Tryd.func54, Tryd.ntmps54
  go_wp2
  go_ret
  exact ⟨rfl, rfl⟩

theorem compare_any (x y : Int) (w : World) : Calls Tryd.prog 44 #[.int .i64 x, .int .i64 y] w fun e w' => e = .returned (.int .i64 (cmpF x y)) ∧ w = w' := by
  unfold cmpF
  by_cases h1 : x < y
  · go_enter Tryd.func44, Tryd.ntmps44
    go_wp2_with (go_at_call 54; refine (isNaN_any _ _).mono ?_; rintro e w' ⟨rfl, rfl⟩)
    go_ret
    exact ⟨rfl, rfl⟩
  · by_cases h2 : y < x
    · go_enter Tryd.func44, Tryd.ntmps44
      go_wp2_with (go_at_call 54; refine (isNaN_any _ _).mono ?_; rintro e w' ⟨rfl, rfl⟩)
      go_ret
      exact ⟨rfl, rfl⟩
    · go_enter Tryd.func44, Tryd.ntmps44
      go_wp2_with (go_at_call 54; refine (isNaN_any _ _).mono ?_; rintro e w' ⟨rfl, rfl⟩)
      go_ret
      exact ⟨rfl, rfl⟩

/-- cmp.Or at two numbers -/
def orF (a b : Int) : Int := if a ≠ 0 then a else b

theorem or_any (a b : Int) (B : Nat) (w : World) (h0 : w.cell? ⟨B, 0, none⟩ = some (.int .i64 a)) (h1 : w.cell? ⟨B, 1, none⟩ = some (.int .i64 b)) :
    Calls Tryd.prog 43 #[.slice (some ⟨B, 0, none⟩) 2 2] w fun e w' => e = .returned (.int .i64 (orF a b)) ∧ w = w' := by
  have HS : Eqn (orF a b) (if a ≠ 0 then a else b) := rfl
  by_cases ha : a = 0
  · have ha' : (a != 0) = false := by simp [ha]
    have hr : orF a b = b := by simp [orF, ha]
    have HR := Eqn.mk hr
    clear ha hr
    by_cases hb : b = 0
    · have hb' : (b != 0) = false := by simp [hb]
      have HB := Eqn.mk hb
      clear hb
      go_enter Tryd.func43, Tryd.ntmps43
      go_wp2
      refine wp_loop_rounds 3 ?_
      repeat any_goals (rw [rounds_succ]; go_wp2)
      go_ret
      exact ⟨ret_int (by rw [HR.out, HB.out]), rfl⟩
    · have hb' : (b != 0) = true := by simp [hb]
      clear hb
      go_enter Tryd.func43, Tryd.ntmps43
      go_wp2
      refine wp_loop_rounds 3 ?_
      repeat any_goals (rw [rounds_succ]; go_wp2)
      go_ret
      exact ⟨ret_int (by rw [HR.out]), rfl⟩
  · have ha' : (a != 0) = true := by simp [ha]
    clear ha
    go_enter Tryd.func43, Tryd.ntmps43
    go_wp2
    refine wp_loop_rounds 3 ?_
    repeat any_goals (rw [rounds_succ]; go_wp2)
    go_ret
    exact ⟨ret_int (by rw [HS.out, if_pos (by simpa using ha')]), rfl⟩

/-- the comparison of two products -/
def cmpP (a b : Prod) : Int := orF (cmpF a.area b.area) (cmpF a.cat b.cat)

theorem cmpP_any (a b : Prod) (w : World) : Calls Tryd.prog 42 #[a.val, b.val] w fun e w' => e = .returned (.int .i64 (cmpP a b)) ∧ Below w.heap.size w w' := by
  unfold Prod.val cmpP
  obtain ⟨a0, a1, a2, a3, a4⟩ := a
  obtain ⟨b0, b1, b2, b3, b4⟩ := b
  dsimp only
  go_enter Tryd.func42, Tryd.ntmps42
  go_wp2
  go_region_held3 (fun w' => w'.cell? ⟨w.heap.size, 0, none⟩ = some (.int .i64 a0) ∧ w'.cell? ⟨w.heap.size, 1, none⟩ = some (.int .i64 a1) ∧ w'.cell? ⟨w.heap.size + 1, 0, none⟩ = some (.int .i64 b0) ∧ w'.cell? ⟨w.heap.size + 1, 1, none⟩ = some (.int .i64 b1)) (go_keep) (first
    | (go_at_call 44; refine (compare_any _ _ _).mono ?_; rintro e w' ⟨rfl, rfl⟩)
    | (go_at_call 43; refine (or_any (cmpF a0 b0) (cmpF a1 b1) _ _ (by go_simp) (by go_simp)).mono ?_; rintro e w' ⟨rfl, rfl⟩))
  go_wp2
  go_ret
  exact ⟨rfl, by repeat (first | exact Below.refl _ _ | apply Below.drew | refine Below.alloc ?_ (by simp; try omega) _)⟩

/-- within, of package product -/
def withinB (n lo hi : Int) : Bool := decide (lo ≤ n) && decide (n ≤ hi)
theorem withinB_true {n lo hi : Int} (h1 : lo ≤ n) (h2 : n ≤ hi) : withinB n lo hi = true := by simp [withinB, h1, h2]
theorem withinB_false {n lo hi : Int} (h : ¬ (lo ≤ n ∧ n ≤ hi)) : withinB n lo hi = false := by
  unfold withinB; rw [Bool.and_eq_false_iff]; simp only [decide_eq_false_iff_not]; omega

theorem pwithin_any (n lo hi : Int) (w : World) :
    Calls Tryd.prog 30 #[.int .i64 n, .int .i64 lo, .int .i64 hi] w fun e w' => e = .returned (.bool (withinB n lo hi)) ∧ w = w' := by
  by_cases h1 : lo ≤ n
  · go_enter Tryd.func30, Tryd.ntmps30
    go_wp2
    go_ret
    exact ⟨ret_bool (by unfold withinB; simp [h1]), rfl⟩
  · have h2 := withinB_false (n := n) (lo := lo) (hi := hi) (by omega)
    have H2 := Eqn.mk h2
    clear h2
    go_enter Tryd.func30, Tryd.ntmps30
    go_wp2
    go_ret
    exact ⟨ret_bool (by rw [H2.out]), rfl⟩

/-- the fields of a product that do not hang on the others -/
def okA (p : Prod) : Prop := 0 ≤ p.area ∧ p.area ≤ 63 ∧ 1 ≤ p.cat ∧ p.cat ≤ 2 ∧ 1 ≤ p.sup ∧ p.sup ≤ 12
def okB (p : Prod) : Prop := 1 ≤ p.units ∧ p.units ≤ 100000 ∧ 0 ≤ p.res ∧ p.res ≤ 549755813888

def okBB (p : Prod) : Bool := withinB p.units 1 100000 && withinB p.res 0 549755813888

/-- block g is a row of numbers s of element type t -/
def IntBlk (w : World) (g t : Nat) (s : List Int) : Prop := w.heap[g]? = some (.cells (s.map (Value.int .i64)).toArray t (0, 0))
theorem IntBlk.lt {w : World} {g t : Nat} {s : List Int} (h : IntBlk w g t s) : g < w.heap.size := by
  rcases Nat.lt_or_ge g w.heap.size with hlt | hge
  · exact hlt
  · unfold IntBlk at h; rw [Array.getElem?_eq_none hge] at h; cases h
theorem IntBlk.cell {w : World} {g t : Nat} {s : List Int} (h : IntBlk w g t s) {i : Nat} {x : Int} (hx : s[i]? = some x) : w.cell? ⟨g, i, none⟩ = some (.int .i64 x) := by
  unfold IntBlk at h
  simp [World.cell?, h, hx]
theorem IntBlk.frozen {w : World} {g t : Nat} {s : List Int} (h : IntBlk w g t s) (i : Nat) : w.frozen? ⟨g, i, none⟩ = false := by
  unfold IntBlk at h
  simp [World.frozen?, h]
theorem IntBlk.set_ {w : World} {g t : Nat} {s : List Int} (h : IntBlk w g t s) (i : Nat) (x : Int) : IntBlk (w.setCell ⟨g, i, none⟩ (.int .i64 x)) g t (s.set i x) := by
  unfold IntBlk at h ⊢
  simp [World.setCell, Array.getElem?_modify, h, List.map_set]
theorem IntBlk.alloc {w : World} {g t : Nat} {s : List Int} (h : IntBlk w g t s) (o : Obj) : IntBlk (w.alloc o) g t s := (Below.heap_alloc w o g h.lt).trans h
theorem IntBlk.grown {w w' : World} {g t : Nat} {s : List Int} (h : IntBlk w g t s) (hb : Below w.heap.size w w') : IntBlk w' g t s := (hb.block g h.lt).trans h

/-- Valid's first function literal at a product that fails at once -/
theorem valid1_bad (p : Prod) (g : Nat) (w : World) (h : ¬ okA p) :
    Calls Tryd.prog 41 #[p.val, .pointer (some ⟨g, 0, none⟩)] w fun e w' => e = .returned (.bool false) ∧ Below w.heap.size w w' := by
  unfold Prod.val okA at *
  obtain ⟨a0, a1, a2, a3, a4⟩ := p
  dsimp only at *
  by_cases h1 : 0 ≤ a0 ∧ a0 ≤ 63
  · have w1 := withinB_true h1.1 h1.2
    by_cases h2 : 1 ≤ a1 ∧ a1 ≤ 2
    · have w2 := withinB_true h2.1 h2.2
      have w3 := withinB_false (n := a2) (lo := 1) (hi := 12) (by omega)
      clear h h1 h2
      go_enter Tryd.func41, Tryd.ntmps41
      go_wp2_with (go_at_call 30; refine (pwithin_any _ _ _ _).mono ?_; rintro e w' ⟨rfl, rfl⟩)
      go_ret
      exact ⟨rfl, (Below.refl _ _).alloc (Nat.le_refl _) _⟩
    · have w2 := withinB_false h2
      clear h h1 h2
      go_enter Tryd.func41, Tryd.ntmps41
      go_wp2_with (go_at_call 30; refine (pwithin_any _ _ _ _).mono ?_; rintro e w' ⟨rfl, rfl⟩)
      go_ret
      exact ⟨rfl, (Below.refl _ _).alloc (Nat.le_refl _) _⟩
  · have w1 := withinB_false h1
    clear h h1
    go_enter Tryd.func41, Tryd.ntmps41
    go_wp2_with (go_at_call 30; refine (pwithin_any _ _ _ _).mono ?_; rintro e w' ⟨rfl, rfl⟩)
    go_ret
    exact ⟨rfl, (Below.refl _ _).alloc (Nat.le_refl _) _⟩

def Valid1Post (b : Bool) (p : Prod) (g t : Nat) (s : List Int) (x : Int) (w : World) (e : Ending) (w' : World) : Prop :=
  e = .returned (.bool b) ∧ w.grownBy w' (some g) ∧ IntBlk w' g t (s.set p.area.toNat (x + p.sup))

theorem valid1_ok (p : Prod) (g t : Nat) (s : List Int) (x : Int) (w : World) (h : okA p) (hs : IntBlk w g t s) (hl : s.length = 64) (hx : s[p.area.toNat]? = some x) (h0 : 0 ≤ x) (h1 : x ≤ 12) (b : Bool) (hb : (decide (x + p.sup ≤ 12) && okBB p) = b) :
    Calls Tryd.prog 41 #[p.val, .pointer (some ⟨g, 0, none⟩)] w (Valid1Post b p g t s x w) := by
  unfold Prod.val
  obtain ⟨a0, a1, a2, a3, a4⟩ := p
  unfold okA at h
  dsimp only at *
  obtain ⟨i1, i2, i3, i4, i5, i6⟩ := h
  obtain ⟨a, rfl⟩ := Int.eq_ofNat_of_zero_le i1
  rw [Int.toNat_natCast] at hx
  have w1 := withinB_true i1 i2
  have w2 := withinB_true i3 i4
  have w3 := withinB_true i5 i6
  have hg := hs.lt
  have c1 := (hs.alloc (.cells #[.int .i64 (a : Int), .int .i64 a1, .int .i64 a2, .int .i64 a3, .int .i64 a4] 48)).cell hx
  have f1 := (hs.alloc (.cells #[.int .i64 (a : Int), .int .i64 a1, .int .i64 a2, .int .i64 a3, .int .i64 a4] 48)).frozen a
  have c2 := (hs.set_ a (x + a2)).cell (i := a) (x := x + a2) (by rw [List.getElem?_set_self]; omega)
  have Hs := Lib.hid hs
  have HB := Eqn.mk hb
  clear hb
  have Hl := Lib.hid hl
  have Hx := Lib.hid hx
  clear hs hl hx
  have i2' : (a : Int) < 64 := by omega
  go_enter Tryd.func41, Tryd.ntmps41
  go_wp2_with (go_at_call 30; refine (pwithin_any _ _ _ _).mono ?_; rintro e w' ⟨rfl, rfl⟩)
  go_region
  have fin : ∀ b', b' = (decide (x + a2 ≤ 12) && okBB ⟨a, a1, a2, a3, a4⟩) → Valid1Post b ⟨a, a1, a2, a3, a4⟩ g t s x w (.returned (.bool b')) ((w.setCell ⟨g, a, none⟩ (.int .i64 (x + a2))).alloc (.cells #[.int .i64 (a : Int), .int .i64 a1, .int .i64 a2, .int .i64 a3, .int .i64 a4] 48)).drew := by
    rintro b' rfl
    refine ⟨by rw [HB.out], ?_, ?_⟩
    · refine ⟨rfl, rfl, rfl, by simp, fun k hk hne => ?_⟩
      show ((w.setCell ⟨g, a, none⟩ (.int .i64 (x + a2))).alloc _).heap[k]? = _
      rw [Below.heap_alloc _ _ _ (by simpa [World.setCell] using hk), Below.heap_setCell _ _ _ _ (fun e => hne (by rw [e]))]
    · exact (Hs.out.set_ a (x + a2)).alloc _
  have Fin := Lib.hid fin
  clear fin
  by_cases j1 : x + a2 ≤ 12
  · have j1' : decide (x + a2 ≤ 12) = true := by simpa using j1
    cases j2 : withinB a3 1 100000 with
    | true =>
      go_wp2_with (go_at_call 30; refine (pwithin_any _ _ _ _).mono ?_; rintro e w' ⟨rfl, rfl⟩)
      go_ret
      exact Fin.out _ (by simp [okBB, j1, j2])
    | false =>
      go_wp2_with (go_at_call 30; refine (pwithin_any _ _ _ _).mono ?_; rintro e w' ⟨rfl, rfl⟩)
      go_ret
      exact Fin.out _ (by simp [okBB, j2])
  · have j1' : decide (x + a2 ≤ 12) = false := by simpa using j1
    go_wp2_with (go_at_call 30; refine (pwithin_any _ _ _ _).mono ?_; rintro e w' ⟨rfl, rfl⟩)
    go_ret
    exact Fin.out _ (by simp [j1'])

/-- okA as a Bool -/
def okAB (p : Prod) : Bool := decide (0 ≤ p.area ∧ p.area ≤ 63 ∧ 1 ≤ p.cat ∧ p.cat ≤ 2 ∧ 1 ≤ p.sup ∧ p.sup ≤ 12)
theorem okAB_iff (p : Prod) : okAB p = true ↔ okA p := by unfold okAB okA; simp

/-- the loop of 'ordered' under Valid's two function literals: the products that are left, the one before them, the supplies so far -/
def prodGo : List Prod → Option Prod → List Int → Bool
  | [], _, _ => true
  | p :: l, prev, s =>
    if okAB p = false then false
    else if (decide (s.getD p.area.toNat 0 + p.sup ≤ 12) && okBB p) = false then false
    else match prev with
      | none => prodGo l (some p) (s.set p.area.toNat (s.getD p.area.toNat 0 + p.sup))
      | some q => if 0 ≤ cmpP q p then false else prodGo l (some p) (s.set p.area.toNat (s.getD p.area.toNat 0 + p.sup))

/-- product.Valid -/
def prodValid (l : List Prod) : Bool := prodGo l none (List.replicate 64 0)

/-- supplies that are possible so far -/
def SupOk (s : List Int) : Prop := s.length = 64 ∧ ∀ (i : Nat) (x : Int), s[i]? = some x → 0 ≤ x ∧ x ≤ 12
theorem SupOk.get {s : List Int} (h : SupOk s) {a : Nat} (ha : a < 64) : ∃ x, s[a]? = some x ∧ s.getD a 0 = x ∧ 0 ≤ x ∧ x ≤ 12 := by
  have hl : a < s.length := by rw [h.1]; exact ha
  refine ⟨s[a], List.getElem?_eq_getElem hl, by simp [List.getD, List.getElem?_eq_getElem hl], ?_⟩
  exact h.2 a _ (List.getElem?_eq_getElem hl)
theorem SupOk.put {s : List Int} (h : SupOk s) {a : Nat} {x : Int} (h0 : 0 ≤ x) (h1 : x ≤ 12) : SupOk (s.set a x) := by
  refine ⟨by rw [List.length_set]; exact h.1, fun i y hy => ?_⟩
  rw [List.getElem?_set] at hy
  split at hy
  · split at hy
    · injection hy with e; omega
    · cases hy
  · exact h.2 i y hy
theorem below_of_grownBy {w w' : World} {B g : Nat} (h : w.grownBy w' (some g)) (hB : B ≤ g) (hs : g < w.heap.size) : Below B w w' :=
  ⟨h.os, h.tape, h.output, h.size, fun k hk => h.block k (by omega) (fun e => by injection e with e; omega)⟩

def OrdPost (r : Bool) (B : Nat) (w : World) (e : Ending) (w' : World) : Prop := e = .returned (.bool r) ∧ Below B w w'
end Go.Proofs.YtpgomblalmnonaaDoor
