/- The types of layers 17 and 26 as plain data: pairs and loads (five numbers), caps (four), domains and bands (a station and numbers); plain functions of validity. -/
import Derived.Test.YtpdhelhngdeoeaaMem
namespace Go.Proofs.Ytpdhelhngdeoeaa
open Go.RowKit

structure R5 where
  a : Int
  b : Int
  c : Int
  d : Int
  e : Int
deriving DecidableEq
structure R4 where
  a : Int
  b : Int
  c : Int
  d : Int
deriving DecidableEq
/-- a station and a slice of numbers -/
structure Dom where
  st : Int
  adr : Option Addr
  len : Nat
  cap : Nat
  chs : List Int
def R5.cell (x : R5) : Nat → Value
  | 0 => .int .i64 x.a
  | 1 => .int .i64 x.b
  | 2 => .int .i64 x.c
  | 3 => .int .i64 x.d
  | _ => .int .i64 x.e
def R5.val (x : R5) : Value := .agg #[.int .i64 x.a, .int .i64 x.b, .int .i64 x.c, .int .i64 x.d, .int .i64 x.e]
def R4.cell (x : R4) : Nat → Value
  | 0 => .int .i64 x.a
  | 1 => .int .i64 x.b
  | 2 => .int .i64 x.c
  | _ => .int .i64 x.d
def R4.val (x : R4) : Value := .agg #[.int .i64 x.a, .int .i64 x.b, .int .i64 x.c, .int .i64 x.d]
def Dom.cell (x : Dom) : Nat → Value
  | 0 => .int .i64 x.st
  | _ => .slice x.adr x.len x.cap
def Dom.val (x : Dom) : Value := .agg #[.int .i64 x.st, .slice x.adr x.len x.cap]
/-- a slice of domains (or of bands) -/
def DomsAt (w : World) (D : Nat) (A : Option Addr) (n : Nat) (ds : List Dom) : Prop := RowS 2 Dom.cell w D A n ds ∧ ∀ d ∈ ds, Row1 intV w D d.adr d.len d.chs
theorem DomsAt.below {w w' : World} {D : Nat} {A : Option Addr} {n : Nat} {ds : List Dom} (h : DomsAt w D A n ds) (hb : Below D w w') : DomsAt w' D A n ds := ⟨h.1.below hb, fun b hm => (h.2 b hm).below hb⟩
theorem DomsAt.up {w : World} {D D' : Nat} {A : Option Addr} {n : Nat} {ds : List Dom} (h : DomsAt w D A n ds) (hD : D ≤ D') : DomsAt w D' A n ds := ⟨h.1.up hD, fun b hm => (h.2 b hm).up hD⟩
theorem DomsAt.keep {w w' : World} {A : Option Addr} {n : Nat} {ds : List Dom} (h : DomsAt w w.heap.size A n ds) (hb : Below w.heap.size w w') : DomsAt w' w'.heap.size A n ds := (h.below hb).up hb.size
/-- what a domain says: the station and the numbers -/
def Dom.say (d : Dom) : Int × List Int := (d.st, d.chs)

/-- the constraints -/
structure Rul where
  pairs : List R5
  loads : List R5
  caps : List R4
deriving DecidableEq

def stF (n : Int) : Bool := decide (0 ≤ n) && decide (n ≤ 511)
def spF (lo hi : Int) : Bool := decide (2 ≤ lo) && decide (lo ≤ hi) && decide (hi ≤ 51)
def goodP (x : R5) : Bool := stF x.a && stF x.b && decide (x.a < x.b) && (decide (-1 ≤ x.c) && decide (x.c ≤ 1)) && spF x.d x.e
def goodL (x : R5) : Bool := stF x.a && stF x.b && !decide (x.a = x.b) && (decide (1 ≤ x.c) && decide (x.c ≤ 1073741824)) && spF x.d x.e
def goodC (x : R4) : Bool := stF x.a && (decide (0 ≤ x.b) && decide (x.b ≤ 1099511627776)) && spF x.c x.d
def cmpF (x y : Int) : Int := if x < y then -1 else if y < x then 1 else 0
def orL5 : List Int → Int
  | [] => 0
  | x :: r => if x ≠ 0 then x else orL5 r
def cmp5 (x y : R5) : Int := orL5 [cmpF x.a y.a, cmpF x.b y.b, cmpF x.c y.c, cmpF x.d y.d, cmpF x.e y.e]
def cmp4 (x y : R4) : Int := orL5 [cmpF x.a y.a, cmpF x.b y.b, cmpF x.c y.c, cmpF x.d y.d]
/-- each element is below the next one -/
def incF {α : Type} (cmp : α → α → Int) : List α → Bool
  | [] => true
  | x :: r => match r with | [] => true | y :: _ => if 0 ≤ cmp x y then false else incF cmp r
def rulesF (r : Rul) : Bool := decide (r.pairs.length ≤ 4096) && r.pairs.all goodP && incF cmp5 r.pairs && decide (r.loads.length ≤ 1024) && r.loads.all goodL && incF cmp5 r.loads && decide (r.caps.length ≤ 1024) && r.caps.all goodC && incF cmp4 r.caps

/-- the reference's order: the first numbers that differ -/
def lessL : List Int → List Int → Bool
  | x :: r, y :: s => if x ≠ y then decide (x < y) else lessL r s
  | _, _ => false
def R5.nums (x : R5) : List Int := [x.a, x.b, x.c, x.d, x.e]
def R4.nums (x : R4) : List Int := [x.a, x.b, x.c, x.d]
theorem orL_less : ∀ (l : List (Int × Int)), decide (0 ≤ orL5 (l.map fun p => cmpF p.1 p.2)) = !lessL (l.map (·.1)) (l.map (·.2)) := by
  intro l
  induction l with
  | nil => rfl
  | cons p r ih =>
    simp only [List.map_cons, orL5, lessL]
    by_cases h : p.1 = p.2
    · have h0 : cmpF p.1 p.2 = 0 := by unfold cmpF; rw [h]; simp
      rw [h0, if_neg (by simp), if_neg (by simp [h]), ih]
    · rw [if_pos h]
      by_cases h2 : p.1 < p.2
      · have h0 : cmpF p.1 p.2 = -1 := by unfold cmpF; simp [h2]
        rw [h0, if_pos (by decide)]
        simp [h2]
      · have h0 : cmpF p.1 p.2 = 1 := by unfold cmpF; rw [if_neg h2, if_pos (by omega)]
        rw [h0, if_pos (by decide)]
        simp; omega
theorem cmp5_less (x y : R5) : decide (0 ≤ cmp5 x y) = !lessL x.nums y.nums := orL_less [(x.a, y.a), (x.b, y.b), (x.c, y.c), (x.d, y.d), (x.e, y.e)]
theorem cmp4_less (x y : R4) : decide (0 ≤ cmp4 x y) = !lessL x.nums y.nums := orL_less [(x.a, y.a), (x.b, y.b), (x.c, y.c), (x.d, y.d)]

/-- the reference's way: element by element, with the one before it -/
def goF {α : Type} (good : α → Bool) (nums : α → List Int) : Option α → List α → Bool
  | _, [] => true
  | prev, x :: r => if good x && (match prev with | none => true | some y => lessL (nums y) (nums x)) then goF good nums (some x) r else false
theorem goF_eq {α : Type} (good : α → Bool) (nums : α → List Int) (cmp : α → α → Int) (hc : ∀ x y, decide (0 ≤ cmp x y) = !lessL (nums x) (nums y)) :
    ∀ (l : List α) (x : α), goF good nums (some x) l = (l.all good && incF cmp (x :: l)) := by
  intro l
  induction l with
  | nil => intro x; rfl
  | cons y r ih =>
    intro x
    rw [goF, ih, List.all_cons, incF]
    have h := hc x y
    by_cases hg : good y = true
    · by_cases hl : lessL (nums x) (nums y) = true
      · rw [hl] at h
        have h2 : ¬ 0 ≤ cmp x y := by simpa using h
        simp [hg, hl, h2]
      · have hl' : lessL (nums x) (nums y) = false := by simpa using hl
        rw [hl'] at h
        have h2 : 0 ≤ cmp x y := by simpa using h
        simp [hg, hl', h2]
    · simp [hg]
theorem goF_none {α : Type} (good : α → Bool) (nums : α → List Int) (cmp : α → α → Int) (hc : ∀ x y, decide (0 ≤ cmp x y) = !lessL (nums x) (nums y)) (l : List α) : goF good nums none l = (l.all good && incF cmp l) := by
  cases l with
  | nil => rfl
  | cons x r => rw [goF, goF_eq good nums cmp hc, List.all_cons]; by_cases h : good x = true <;> simp [h]
def rulesR (r : Rul) : Bool := if 4096 < r.pairs.length ∨ 1024 < r.loads.length ∨ 1024 < r.caps.length then false else goF goodP R5.nums none r.pairs && goF goodL R5.nums none r.loads && goF goodC R4.nums none r.caps
theorem rules_eq (r : Rul) : rulesR r = rulesF r := by
  unfold rulesR rulesF
  rw [goF_none _ _ _ cmp5_less, goF_none _ _ _ cmp5_less, goF_none _ _ _ cmp4_less]
  by_cases h1 : r.pairs.length ≤ 4096
  · by_cases h2 : r.loads.length ≤ 1024
    · by_cases h3 : r.caps.length ≤ 1024
      · rw [if_neg (by omega)]
        simp [h1, h2, h3, Bool.and_assoc]
      · rw [if_pos (by omega)]; simp [h3]
    · rw [if_pos (by omega)]; simp [h2]
  · rw [if_pos (by omega)]; simp [h1]
end Go.Proofs.Ytpdhelhngdeoeaa
