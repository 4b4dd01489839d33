/- Contracts of the reference's Free, Mark, Has, Wish, and of slices.Contains. -/
import Derived.Test.YteckijkmcafpaaaTy39
import Derived.IntWalk
namespace Go.Proofs.Yteckijkmcafpaaa
open Go.RowKit

def boolV (b : Bool) : Value := .bool b
theorem bool_info : (Try.prog.info? 4).map (fun i => (i.zero, i.size, i.bytes)) = some (some (.bool false), 1, 1) := by kernel_rfl
theorem info_get {P : Program} {t : Nat} {z : Value} {s b : Nat} (h : (P.info? t).map (fun i => (i.zero, i.size, i.bytes)) = some (some z, s, b)) : ∃ i, P.info? t = some i ∧ i.zero = some z ∧ i.size = s ∧ i.bytes = b := by
  cases hi : P.info? t with
  | none => rw [hi] at h; cases h
  | some i =>
    rw [hi] at h
    simp only [Option.map_some, Option.some.injEq, _root_.Prod.mk.injEq] at h
    exact ⟨i, rfl, h.1, h.2.1, h.2.2⟩

theorem getD_at {α : Type} {l : List α} {i : Nat} {x d : α} (h : l[i]? = some x) : l.getD i d = x := by rw [List.getD_eq_getElem?_getD, h]; rfl

set_option maxHeartbeats 1000000 in
theorem free_any (A : Option Addr) (n c s q : Nat) (w : World) (D : Nat) (u : List Bool) (hn : n ≤ 1000) (hsq : s + q ≤ n) (hu : Row1 boolV w D A n u) :
    Calls Try.prog 52 #[.slice A n c, .int .i64 s, .int .i64 q] w fun e w' => e = .returned (.bool (freeU u s q)) ∧ w = w' := by
  have Hu := Lib.hid hu
  have Hlen := Eqn.mk hu.1
  clear hu
  go_enter Try.func52, Try.ntmps52
  go_wp2
  go_loop [7] (fun i => ∃ j : Nat, j ≤ q ∧ i = .int .i64 ((s : Int) + (j : Int)) ∧ Hid (∀ b, s ≤ b → b < s + j → u.getD b false = false)) (fun i => s + q - (intOf i).toNat)
  case atStart => exact ⟨0, Nat.zero_le _, by go_num, Lib.hid (fun b h1 h2 => by omega)⟩
  case round =>
    obtain ⟨j, hj, rfl, HR⟩ := hrel
    by_cases hlt : j < q
    · obtain ⟨x, hx, _⟩ := drop_at (xs := u) (k := s + j) (by rw [Hlen.out]; omega)
      obtain ⟨b, off, rfl, hbl, hc⟩ := Hu.out.2 (by omega)
      have c0 := hc (s + j) x hx
      simp only [boolV] at c0
      have j0 : (s : Int) + (j : Int) < (n : Int) := by omega
      have j1 : (0 : Int) ≤ (s : Int) + (j : Int) := by omega
      have j2 : ((s : Int) + (j : Int)).toNat = s + j := by omega
      have j3 : (s : Int) + (j : Int) < (s : Int) + (q : Int) := by omega
      have HX := Eqn.mk (getD_at (d := false) hx)
      clear hc hx
      cases x with
      | true =>
        have HF : Eqn (freeU u s q) false := by
          rw [Eqn]
          cases hf : freeU u s q with
          | false => rfl
          | true => exact absurd ((freeU_iff u s q).1 hf (s + j) (by omega) (by omega)) (by rw [HX.out]; simp)
        go_wp2
        go_ret
        exact ⟨ret_bool HF.out.symm, rfl⟩
      | false =>
        have HR2 : Hid (∀ b, s ≤ b → b < s + (j + 1) → u.getD b false = false) := Lib.hid (fun b h1 h2 => by
          rcases Nat.lt_or_ge b (s + j) with h | h
          · exact HR.out b h1 h
          · obtain rfl : b = s + j := by omega
            exact HX.out)
        clear HR HX j2
        go_wp2
        go_round
        case rel => exact ⟨j + 1, by omega, by go_num, HR2⟩
        case measure => simp [intOf]; omega
    · have HF : Eqn (freeU u s q) true := (freeU_iff u s q).2 (fun b h1 h2 => HR.out b h1 (by omega))
      have j3 : ¬ (s : Int) + (j : Int) < (s : Int) + (q : Int) := by omega
      clear HR
      go_wp2
      go_ret
      exact ⟨ret_bool HF.out.symm, rfl⟩

/-- a new slice of truth values -/
def NewBools (xs : List Bool) (w : World) (e : Ending) (w' : World) : Prop := ∃ g c, e = .returned (.slice (some ⟨g, 0, none⟩) xs.length c) ∧ w'.ownsRow w.heap.size 4 1 (.slice (some ⟨g, 0, none⟩) xs.length c) xs.length (xs.map boolV) ∧ Below w.heap.size w w'

theorem boolV_one (b : Bool) : (boolV b).oneCell' = true := rfl
theorem markU_at' {u : List Bool} {s j n : Nat} (hl : u.length = n) (h : s + j < n) : ∃ x, (markU u s j)[s + j]? = some x := ⟨_, List.getElem?_eq_getElem (by rw [markU_len, hl]; exact h)⟩

set_option maxHeartbeats 2000000 in
theorem mark_any (A : Option Addr) (n c s q : Nat) (w : World) (u : List Bool) (hn : n ≤ 1000) (hn0 : 0 < n) (hsq : s + q ≤ n) (hu : Row1 boolV w w.heap.size A n u) :
    Calls Try.prog 40 #[.slice A n c, .int .i64 s, .int .i64 q] w (NewBools (markU u s q) w) := by
  obtain ⟨i0, hi, hz0, hz1, hz2⟩ := info_get bool_info
  have Hu := Lib.hid hu
  have Hlen := Eqn.mk hu.1
  clear hu
  go_enter Try.func40, Try.ntmps40
  go_wp2_with (at_builtin; refine wpList_append_row rfl _ _ 73 rfl boolV_one w.heap.size 4 i0 (.bool false) 1 Try.underlying73 hi hz0 hz1 hz2 rfl _ 0 [] rfl (World.ownsRow_nil _ _ _ _) A n c u w.heap.size rfl (by exact Hu.out) (by unfold maxLen; omega) (by omega) (Nat.le_refl _) ?_; intro v' w1 hown' hgrow hat)
  rw [Nat.zero_add, List.nil_append] at hown'
  obtain ⟨g, cap, hv'⟩ : ∃ g cap, v' = .slice (some ⟨g, 0, none⟩) n cap := by
    rcases hown'.2 with ⟨_, h2⟩ | ⟨g, cap, cur, h1, _⟩
    · omega
    · exact ⟨g, cap, h1⟩
  subst hv'
  have HO := Lib.hid hown'
  have B1 : Hid (Below w.heap.size w w1) := Lib.hid ((Below.refl _ _).grown hgrow (Nat.le_refl _) (fun g hg => by cases hg))
  clear hown' hgrow hat
  go_wp2_with fail
  go_loopw [8] (fun i wr => ∃ j : Nat, j ≤ q ∧ i = .int .i64 ((s : Int) + (j : Int)) ∧ wr.ownsRow w.heap.size 4 1 (.slice (some ⟨g, 0, none⟩) n cap) n ((markU u s j).map boolV) ∧ Below w.heap.size w wr) (fun i _ => s + q - (intOf i).toNat)
  case atStart => exact ⟨0, Nat.zero_le _, by go_num, HO.out, B1.out⟩
  case round =>
    clear HO B1
    obtain ⟨j, hj, rfl, HP, HW⟩ := hrel
    have HWW := Lib.hid HW
    by_cases hlt : j < q
    · obtain ⟨x, hx⟩ := markU_at' (u := u) (s := s) (j := j) Hlen.out (by omega)
      have c5 : wr.cell? ⟨g, s + j, none⟩ = some (.bool x) := by
        rw [HP.cellAt (s + j) (by omega), List.getElem?_map, hx]; rfl
      have hfr := HP.frozenAt (s + j)
      have HS := Lib.hid (fun u' => (HP.stored (s + j) u').1)
      have hgl := (HP.lt g rfl).2
      have hgb := (HP.lt g rfl).1
      have HM : Eqn (((markU u s j).map boolV).set (s + j) (.bool true)) ((markU u s (j + 1)).map boolV) := by
        rw [Eqn, markU_succ, List.map_set]; rfl
      have j0 : (s : Int) + (j : Int) < (n : Int) := by omega
      have j1 : (0 : Int) ≤ (s : Int) + (j : Int) := by omega
      have j2 : ((s : Int) + (j : Int)).toNat = s + j := by omega
      have j3 : (s : Int) + (j : Int) < (s : Int) + (q : Int) := by omega
      clear HP HW hx
      go_wp2_with fail
      clear j2
      go_roundw
      case rel => exact ⟨j + 1, by omega, by go_num, by rw [← HM.out]; exact HS.out _, HWW.out.setCell hgb _⟩
      case measure => simp [intOf]; omega
    · obtain rfl : j = q := by omega
      have HO := Lib.hid HP
      have j3 : ¬ (s : Int) + (j : Int) < (s : Int) + (j : Int) := by omega
      clear HP HW
      go_wp2_with fail
      go_ret
      refine ⟨g, cap, by rw [markU_len, Hlen.out]; rfl, ?_, HWW.out⟩
      rw [markU_len, Hlen.out]
      exact HO.out

/-- whether a list has a number -/
def hasF (l : List Int) (x : Int) : Bool := l.any fun y => decide (y = x)
theorem hasF_cons (y : Int) (l : List Int) (x : Int) : hasF (y :: l) x = if y = x then true else hasF l x := by
  unfold hasF
  rw [List.any_cons]
  by_cases h : y = x <;> simp [h]

theorem has_any (A : Option Addr) (n c : Nat) (x : Int) (w : World) (D : Nat) (l : List Int) (hn : n ≤ 1000) (hl : Row1 intV w D A n l) :
    Calls Try.prog 32 #[.slice A n c, .int .i64 x] w fun e w' => e = .returned (.bool (hasF l x)) ∧ w = w' := by
  have Hl := Lib.hid hl
  have Hlen := Eqn.mk hl.1
  clear hl
  go_enter Try.func32, Try.ntmps32
  go_wp2
  go_loop [5] (fun i => ∃ k : Nat, k ≤ n ∧ i = .int .i64 k ∧ Eqn (hasF l x) (hasF (l.drop k) x)) (fun i => n - (intOf i).toNat)
  case atStart => exact ⟨0, Nat.zero_le _, rfl, rfl⟩
  case round =>
    obtain ⟨k, hk, rfl, HR⟩ := hrel
    by_cases hlt : k < n
    · obtain ⟨p, hp, hpd⟩ := drop_at (xs := l) (k := k) (by rw [Hlen.out]; exact hlt)
      obtain ⟨b, off, rfl, hbl, hc⟩ := Hl.out.2 (by omega)
      have c0 := hc k p hp
      simp only [intV] at c0
      have HR' : Eqn (hasF l x) (if p = x then true else hasF (l.drop (k + 1)) x) := by
        have := HR.out; rw [hpd, hasF_cons] at this; exact this
      have j0 : (k : Int) < (n : Int) := by omega
      clear hc hp hpd HR
      by_cases he : p = x
      · have hd : (p == x) = true := by simpa using he
        have HR2 : Eqn (hasF l x) true := by rw [Eqn, HR'.out, if_pos he]
        clear he HR'
        go_wp2
        go_ret
        exact ⟨ret_bool HR2.out.symm, rfl⟩
      · have hd : (p == x) = false := by simpa using he
        have HR2 : Eqn (hasF l x) (hasF (l.drop (k + 1)) x) := by rw [Eqn, HR'.out, if_neg he]
        clear he HR'
        go_wp2
        go_round
        case rel => exact ⟨k + 1, by omega, by go_num, HR2⟩
        case measure => simp [intOf]; omega
    · have HR2 : Eqn (hasF l x) false := by rw [Eqn, HR.out, drop_end (by rw [Hlen.out]; omega)]; rfl
      clear HR
      go_wp2
      go_ret
      exact ⟨ret_bool HR2.out.symm, rfl⟩

def idxF (x : Int) : List Int → Int → Int
  | [], _ => -1
  | y :: r, k => if x = y then k else idxF x r (k + 1)
theorem idxF_has (x : Int) : ∀ (l : List Int) (k : Int), 0 ≤ k → decide (0 ≤ idxF x l k) = hasF l x := by
  intro l
  induction l with
  | nil => intro k _; rfl
  | cons y r ih =>
    intro k hk
    rw [idxF, hasF_cons]
    by_cases h : x = y
    · rw [if_pos h, if_pos h.symm]; simpa using hk
    · rw [if_neg h, if_neg (fun e => h e.symm)]; exact ih (k + 1) (by omega)

theorem index_any (A : Option Addr) (n c : Nat) (x : Int) (w : World) (D : Nat) (l : List Int) (hn : n ≤ 1000) (hl : Row1 intV w D A n l) :
    Calls Try.prog 54 #[.slice A n c, .int .i64 x] w fun e w' => e = .returned (.int .i64 (idxF x l 0)) ∧ w = w' := by
  have Hl := Lib.hid hl
  have Hlen := Eqn.mk hl.1
  clear hl
  go_enter Try.func54, Try.ntmps54
  go_wp2
  go_loop [8] (fun i => ∃ k : Nat, k ≤ n ∧ i = .int .i64 k ∧ Eqn (idxF x l 0) (idxF x (l.drop k) k)) (fun i => n - (intOf i).toNat)
  case atStart => exact ⟨0, Nat.zero_le _, rfl, rfl⟩
  case round =>
    obtain ⟨k, hk, rfl, HR⟩ := hrel
    by_cases hlt : k < n
    · obtain ⟨p, hp, hpd⟩ := drop_at (xs := l) (k := k) (by rw [Hlen.out]; exact hlt)
      obtain ⟨b, off, rfl, hbl, hc⟩ := Hl.out.2 (by omega)
      have c0 := hc k p hp
      simp only [intV] at c0
      have HR' : Eqn (idxF x l 0) (if x = p then (k : Int) else idxF x (l.drop (k + 1)) (k + 1)) := by
        have := HR.out; rw [hpd, idxF] at this; exact this
      have j0 : (k : Int) < (n : Int) := by omega
      clear hc hp hpd HR
      by_cases he : x = p
      · have hd : (x == p) = true := by simpa using he
        have HR2 : Eqn (idxF x l 0) k := by rw [Eqn, HR'.out, if_pos he]
        clear he HR'
        go_wp2
        go_ret
        exact ⟨by rw [HR2.out]; rfl, rfl⟩
      · have hd : (x == p) = false := by simpa using he
        have HR2 : Eqn (idxF x l 0) (idxF x (l.drop (k + 1)) (k + 1)) := by rw [Eqn, HR'.out, if_neg he]
        clear he HR'
        go_wp2
        go_round
        case rel => exact ⟨k + 1, by omega, by go_num, HR2⟩
        case measure => simp [intOf]; omega
    · have HR2 : Eqn (idxF x l 0) (-1) := by rw [Eqn, HR.out, drop_end (by rw [Hlen.out]; omega)]; rfl
      clear HR
      go_wp2
      go_ret
      exact ⟨by rw [HR2.out]; rfl, rfl⟩

theorem contains_any (A : Option Addr) (n c : Nat) (x : Int) (w : World) (D : Nat) (l : List Int) (hn : n ≤ 1000) (hl : Row1 intV w D A n l) :
    Calls Try.prog 43 #[.slice A n c, .int .i64 x] w fun e w' => e = .returned (.bool (hasF l x)) ∧ w = w' := by
  have Hl := Lib.hid hl
  have HI := Eqn.mk (idxF_has x l 0 (Int.le_refl _))
  clear hl
  go_enter Try.func43, Try.ntmps43
  go_wp2_with fail
  refine (index_any A n c x _ D l hn Hl.out).mono ?_
  generalize idxF x l 0 = ii at *
  rintro e w1 ⟨rfl, rfl⟩
  go_wp2_with fail
  go_ret
  exact ⟨ret_bool HI.out, rfl⟩

/-- the value of a slot -/
def wishF (x : Int) (s : Int) : List Wish → Int
  | [] => 0
  | y :: r => if y.win = x ∧ y.start = s then y.val else wishF x s r

set_option maxHeartbeats 1000000 in
theorem wish_any (A : Option Addr) (n c : Nat) (x s : Int) (w : World) (D : Nat) (l : List Wish) (hn : n ≤ 1000) (hl : RowS 3 Wish.cell w D A n l) :
    Calls Try.prog 53 #[.slice A n c, .int .i64 x, .int .i64 s] w fun e w' => e = .returned (.int .i64 (wishF x s l)) ∧ w = w' := by
  have Hl := Lib.hid hl
  have Hlen := Eqn.mk hl.1
  clear hl
  go_enter Try.func53, Try.ntmps53
  go_wp2
  go_loop [7] (fun i => ∃ k : Nat, k ≤ n ∧ i = .int .i64 k ∧ Eqn (wishF x s l) (wishF x s (l.drop k))) (fun i => n - (intOf i).toNat)
  case atStart => exact ⟨0, Nat.zero_le _, rfl, rfl⟩
  case round =>
    obtain ⟨k, hk, rfl, HR⟩ := hrel
    by_cases hlt : k < n
    · obtain ⟨p, hp, hpd⟩ := drop_at (xs := l) (k := k) (by rw [Hlen.out]; exact hlt)
      obtain ⟨b, off, rfl, hbl, hc⟩ := Hl.out.2 (by omega)
      have c0 := hc k p hp 0 (by omega)
      have c1 := hc k p hp 1 (by omega)
      have c2 := hc k p hp 2 (by omega)
      simp only [Wish.cell, Nat.add_zero] at c0 c1 c2
      have HR' : Eqn (wishF x s l) (if p.win = x ∧ p.start = s then p.val else wishF x s (l.drop (k + 1))) := by
        have := HR.out; rw [hpd, wishF] at this; exact this
      have j0 : (k : Int) < (n : Int) := by omega
      clear hc hp hpd HR
      by_cases he : p.win = x
      · have hd : (p.win == x) = true := by simpa using he
        by_cases he2 : p.start = s
        · have hd2 : (p.start == s) = true := by simpa using he2
          have HR2 : Eqn (wishF x s l) p.val := by rw [Eqn, HR'.out, if_pos ⟨he, he2⟩]
          clear he he2 HR'
          go_wp2
          go_ret
          exact ⟨by rw [HR2.out]; rfl, rfl⟩
        · have hd2 : (p.start == s) = false := by simpa using he2
          have HR2 : Eqn (wishF x s l) (wishF x s (l.drop (k + 1))) := by rw [Eqn, HR'.out, if_neg (fun h => he2 h.2)]
          clear he he2 HR'
          go_wp2
          go_round
          case rel => exact ⟨k + 1, by omega, by go_num, HR2⟩
          case measure => simp [intOf]; omega
      · have hd : (p.win == x) = false := by simpa using he
        have HR2 : Eqn (wishF x s l) (wishF x s (l.drop (k + 1))) := by rw [Eqn, HR'.out, if_neg (fun h => he h.1)]
        clear he HR'
        go_wp2
        go_round
        case rel => exact ⟨k + 1, by omega, by go_num, HR2⟩
        case measure => simp [intOf]; omega
    · have HR2 : Eqn (wishF x s l) 0 := by rw [Eqn, HR.out, drop_end (by rw [Hlen.out]; omega)]; rfl
      clear HR
      go_wp2
      go_ret
      exact ⟨by rw [HR2.out]; rfl, rfl⟩
end Go.Proofs.Yteckijkmcafpaaa
