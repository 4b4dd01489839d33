/- Contracts of the reference's In, Allowed, Next, Of, Part, Union, and of the statements' set and is. -/
import Derived.Test.YtencbmgjdiillaaDoorDec07
namespace Go.Proofs.YtencbmgjdiillaaDoor
open Go.RowKit

/-- whether a list has a number -/
def inF (l : List Int) (x : Int) : Bool := l.any fun y => decide (y = x)
theorem inF_cons (y : Int) (l : List Int) (x : Int) : inF (y :: l) x = if y = x then true else inF l x := by
  unfold inF
  rw [List.any_cons]
  by_cases h : y = x <;> simp [h]
theorem inF_iff (l : List Int) (x : Int) : inF l x = true ↔ x ∈ l := by
  unfold inF
  rw [List.any_eq_true]
  constructor
  · rintro ⟨y, h1, h2⟩; simp at h2; subst h2; exact h1
  · intro h; exact ⟨x, h, by simp⟩

theorem in_any (A : Option Addr) (n c : Nat) (x : Int) (w : World) (D : Nat) (l : List Int) (hn : n ≤ 100000) (hl : Row1 intV w D A n l) :
    Calls Tryd.prog 33 #[.slice A n c, .int .i64 x] w fun e w' => e = .returned (.bool (inF l x)) ∧ w = w' := by
  have Hl := Lib.hid hl
  have Hlen := Eqn.mk hl.1
  clear hl
  go_enter Tryd.func33, Tryd.ntmps33
  go_wp2
  go_loop [5] (fun i => ∃ k : Nat, k ≤ n ∧ i = .int .i64 k ∧ Eqn (inF l x) (inF (l.drop k) x)) (fun i => n - (intOf i).toNat)
  case atStart => exact ⟨0, Nat.zero_le _, rfl, rfl⟩
  case round =>
    obtain ⟨k, hk, rfl, HR⟩ := hrel
    by_cases hlt : k < n
    · obtain ⟨p, hp, hpd⟩ := drop_at (xs := l) (k := k) (by rw [Hlen.out]; exact hlt)
      obtain ⟨b, off, rfl, hbl, hc⟩ := Hl.out.2 (by omega)
      have c0 := hc k p hp
      simp only [intV] at c0
      have HR' : Eqn (inF l x) (if p = x then true else inF (l.drop (k + 1)) x) := by
        have := HR.out; rw [hpd, inF_cons] at this; exact this
      have j0 : (k : Int) < (n : Int) := by omega
      clear hc hp hpd HR
      by_cases he : p = x
      · have hd : (p == x) = true := by simpa using he
        have HR2 : Eqn (inF l x) true := by rw [Eqn, HR'.out, if_pos he]
        clear he HR'
        go_wp2
        go_ret
        exact ⟨ret_bool HR2.out.symm, rfl⟩
      · have hd : (p == x) = false := by simpa using he
        have HR2 : Eqn (inF l x) (inF (l.drop (k + 1)) x) := by rw [Eqn, HR'.out, if_neg he]
        clear he HR'
        go_wp2
        go_round
        case rel => exact ⟨k + 1, by omega, by go_num, HR2⟩
        case measure => simp [intOf]; omega
    · have HR2 : Eqn (inF l x) false := by rw [Eqn, HR.out, drop_end (by rw [Hlen.out]; omega)]; rfl
      clear HR
      go_wp2
      go_ret
      exact ⟨ret_bool HR2.out.symm, rfl⟩

/-- whether all numbers are from 0 to 511 -/
def allowF : List Int → Bool
  | [] => true
  | x :: r => if x < 0 ∨ 511 < x then false else allowF r
theorem allowF_all {l : List Int} (h : allowF l = true) : ∀ x ∈ l, 0 ≤ x ∧ x < 512 := by
  induction l with
  | nil => intro x hx; cases hx
  | cons y r ih =>
    rw [allowF] at h
    split at h
    · cases h
    · intro x hx
      rcases List.mem_cons.1 hx with rfl | hx
      · omega
      · exact ih h x hx

theorem allowed_any (A : Option Addr) (n c : Nat) (w : World) (D : Nat) (l : List Int) (hn : n ≤ 100000) (hl : Row1 intV w D A n l) :
    Calls Tryd.prog 11 #[.slice A n c] w fun e w' => e = .returned (.bool (allowF l)) ∧ w = w' := by
  have Hl := Lib.hid hl
  have Hlen := Eqn.mk hl.1
  clear hl
  go_enter Tryd.func11, Tryd.ntmps11
  go_wp2
  go_loop [3] (fun i => ∃ k : Nat, k ≤ n ∧ i = .int .i64 k ∧ Eqn (allowF l) (allowF (l.drop k))) (fun i => n - (intOf i).toNat)
  case atStart => exact ⟨0, Nat.zero_le _, rfl, rfl⟩
  case round =>
    obtain ⟨k, hk, rfl, HR⟩ := hrel
    by_cases hlt : k < n
    · obtain ⟨p, hp, hpd⟩ := drop_at (xs := l) (k := k) (by rw [Hlen.out]; exact hlt)
      obtain ⟨b, off, rfl, hbl, hc⟩ := Hl.out.2 (by omega)
      have c0 := hc k p hp
      simp only [intV] at c0
      have HR' : Eqn (allowF l) (if p < 0 ∨ 511 < p then false else allowF (l.drop (k + 1))) := by
        have := HR.out; rw [hpd, allowF] at this; exact this
      have j0 : (k : Int) < (n : Int) := by omega
      clear hc hp hpd HR
      by_cases h1 : p < 0
      · have HR2 : Eqn (allowF l) false := by rw [Eqn, HR'.out, if_pos (.inl h1)]
        clear HR'
        go_wp2
        go_ret
        exact ⟨ret_bool HR2.out.symm, rfl⟩
      · by_cases h2 : 511 < p
        · have HR2 : Eqn (allowF l) false := by rw [Eqn, HR'.out, if_pos (.inr h2)]
          clear HR'
          go_wp2
          go_ret
          exact ⟨ret_bool HR2.out.symm, rfl⟩
        · have HR2 : Eqn (allowF l) (allowF (l.drop (k + 1))) := by rw [Eqn, HR'.out, if_neg (by omega)]
          clear HR'
          go_wp2
          go_round
          case rel => exact ⟨k + 1, by omega, by go_num, HR2⟩
          case measure => simp [intOf]; omega
    · have HR2 : Eqn (allowF l) true := by rw [Eqn, HR.out, drop_end (by rw [Hlen.out]; omega)]; rfl
      clear HR
      go_wp2
      go_ret
      exact ⟨ret_bool HR2.out.symm, rfl⟩

/-- the first number that is at least x, or -1 -/
def nextR (x : Int) : List Int → Int
  | [] => -1
  | y :: r => if x ≤ y then y else nextR x r

theorem nextR_any (A : Option Addr) (n c : Nat) (x : Int) (w : World) (D : Nat) (l : List Int) (hn : n ≤ 100000) (hl : Row1 intV w D A n l) :
    Calls Tryd.prog 24 #[.slice A n c, .int .i64 x] w fun e w' => e = .returned (.int .i64 (nextR x l)) ∧ w = w' := by
  have Hl := Lib.hid hl
  have Hlen := Eqn.mk hl.1
  clear hl
  go_enter Tryd.func24, Tryd.ntmps24
  go_wp2
  go_loop [5] (fun i => ∃ k : Nat, k ≤ n ∧ i = .int .i64 k ∧ Eqn (nextR x l) (nextR x (l.drop k))) (fun i => n - (intOf i).toNat)
  case atStart => exact ⟨0, Nat.zero_le _, rfl, rfl⟩
  case round =>
    obtain ⟨k, hk, rfl, HR⟩ := hrel
    by_cases hlt : k < n
    · obtain ⟨p, hp, hpd⟩ := drop_at (xs := l) (k := k) (by rw [Hlen.out]; exact hlt)
      obtain ⟨b, off, rfl, hbl, hc⟩ := Hl.out.2 (by omega)
      have c0 := hc k p hp
      simp only [intV] at c0
      have HR' : Eqn (nextR x l) (if x ≤ p then p else nextR x (l.drop (k + 1))) := by
        have := HR.out; rw [hpd, nextR] at this; exact this
      have j0 : (k : Int) < (n : Int) := by omega
      clear hc hp hpd HR
      by_cases he : x ≤ p
      · have HR2 : Eqn (nextR x l) p := by rw [Eqn, HR'.out, if_pos he]
        clear HR'
        go_wp2
        go_ret
        exact ⟨ret_int HR2.out.symm, rfl⟩
      · have HR2 : Eqn (nextR x l) (nextR x (l.drop (k + 1))) := by rw [Eqn, HR'.out, if_neg he]
        clear HR'
        go_wp2
        go_round
        case rel => exact ⟨k + 1, by omega, by go_num, HR2⟩
        case measure => simp [intOf]; omega
    · have HR2 : Eqn (nextR x l) (-1) := by rw [Eqn, HR.out, drop_end (by rw [Hlen.out]; omega)]; rfl
      clear HR
      go_wp2
      go_ret
      exact ⟨ret_int HR2.out.symm, rfl⟩

/-- the members below k, in increasing order -/
def ofK (l : List Int) (k : Nat) : List Int := ((List.range k).filter fun i : Nat => inF l (i : Int)).map fun i : Nat => (i : Int)
theorem ofK_succ (l : List Int) (k : Nat) : ofK l (k + 1) = if inF l (k : Int) then ofK l k ++ [(k : Int)] else ofK l k := by
  unfold ofK
  rw [List.range_succ, List.filter_append, List.map_append]
  by_cases h : inF l (k : Int) = true
  · simp [h]
  · simp [h]
theorem ofK_len (l : List Int) (k : Nat) : (ofK l k).length ≤ k := by
  unfold ofK
  rw [List.length_map]
  have := List.length_filter_le (fun i : Nat => inF l (i : Int)) (List.range k)
  simpa using this

set_option maxHeartbeats 1000000 in
theorem ofR_any (A : Option Addr) (n c : Nat) (w : World) (l : List Int) (hn : n ≤ 100000) (hl : Row1 intV w w.heap.size A n l) :
    Calls Tryd.prog 14 #[.slice A n c] w (NewInts (ofK l 512) w) := by
  obtain ⟨i0, hi, hz0, hz1, hz2⟩ := info_parts int_info
  have Hl := Lib.hid hl
  clear hl
  go_enter Tryd.func14, Tryd.ntmps14
  go_wp2_with fail
  go_loopw [3, 4] (fun v i wr => ∃ k : Nat, k ≤ 512 ∧ i = .int .i64 k ∧ wr.ownsRow w.heap.size 3 1 v (ofK l k).length ((ofK l k).map intV) ∧ Below w.heap.size w wr) (fun _ i _ => 512 - (intOf i).toNat)
  case atStart => exact ⟨0, by decide, rfl, World.ownsRow_nil _ _ _ _, Below.refl _ _⟩
  case round =>
    obtain ⟨k, hk, rfl, hO, hB⟩ := hrel
    obtain ⟨A1, c1, rfl, _⟩ := row1_of_own hO
    have hlen := ofK_len l k
    have hbs := hB.size
    have H1 := Lib.hid (And.intro hO hB)
    have HI := Lib.hid (in_any A n c k wr _ l hn (Hl.out.below hB))
    clear hO hB
    by_cases hlt : k = 512
    · subst hlt
      go_wp2_with fail
      go_ret
      exact ⟨_, rfl, H1.out.1, H1.out.2⟩
    · have j0 : (k : Int) < 512 := by omega
      have HS := Eqn.mk (ofK_succ l k)
      generalize inF l (k : Int) = bb at *
      generalize ofK l k = L at *
      cases bb with
      | false =>
        have HS2 : Eqn (ofK l (k + 1)) L := HS.out
        clear HS
        go_wp2_with fail
        refine HI.out.mono ?_
        rintro e w1 ⟨rfl, rfl⟩
        go_wp2_with fail
        go_roundw
        case rel => exact ⟨k + 1, by omega, by go_num, by rw [HS2.out]; exact H1.out.1, H1.out.2⟩
        case measure => simp [intOf]; omega
      | true =>
        have HS2 : Eqn (ofK l (k + 1)) (L ++ [(k : Int)]) := HS.out
        clear HS
        go_wp2_with fail
        refine HI.out.mono ?_
        rintro e w1 ⟨rfl, rfl⟩
        go_wp2_with (at_builtin; refine wpList_append_own_at _ rfl _ _ 22 rfl w.heap.size 3 i0 (.int .i64 0) 1 8 Tryd.underlying22 hi hz0 hz1 hz2 rfl (by decide) _ _ _ rfl (H1.out.1.alloc _) ⟨wr.heap.size, 0, none⟩ 1 1 [.int .i64 (k : Int)] rfl rfl (cell_one_new _ _ _) (by simp [Value.oneCell']) (by unfold maxLen; omega) (by omega) (by simp; omega) ?_; intro v' w3 hown' hgrow hnil hat; have H3 : Hid (w3.ownsRow w.heap.size 3 1 v' (L.length + 1) (L.map intV ++ [.int .i64 (k : Int)]) ∧ Below w.heap.size w w3) := Lib.hid ⟨hown', (H1.out.2.alloc hbs _).grown hgrow (by simp; omega) (fun g hg => own_ge H1.out.1 g hg)⟩; clear hown' hgrow hnil hat)
        go_roundw
        case rel => exact ⟨k + 1, by omega, by go_num, by rw [HS2.out, List.length_append, List.map_append]; exact H3.out.1, H3.out.2⟩
        case measure => simp [intOf]; omega

/-- the members that are, or that are not, in the second list -/
def partF (b : List Int) (both : Bool) (a : List Int) : List Int := a.filter fun x => inF b x == both
theorem partF_snoc (b : List Int) (both : Bool) (a : List Int) (k : Nat) (p : Int) (hp : a[k]? = some p) : partF b both (a.take (k + 1)) = if (inF b p == both) = true then partF b both (a.take k) ++ [p] else partF b both (a.take k) := by
  unfold partF
  rw [List.take_add_one, hp, List.filter_append]
  by_cases h : (inF b p == both) = true
  · simp [h]
  · simp [h]

set_option maxHeartbeats 1000000 in
theorem part_any (A B : Option Addr) (n c m d : Nat) (both : Bool) (w : World) (a b : List Int) (hn : n ≤ 100000) (hm : m ≤ 100000) (ha : Row1 intV w w.heap.size A n a) (hb : Row1 intV w w.heap.size B m b) :
    Calls Tryd.prog 36 #[.slice A n c, .slice B m d, .bool both] w (NewInts (partF b both a) w) := by
  obtain ⟨i0, hi, hz0, hz1, hz2⟩ := info_parts int_info
  have Ha := Lib.hid ha
  have Hb := Lib.hid hb
  have Hlen := Eqn.mk ha.1
  clear ha hb
  go_enter Tryd.func36, Tryd.ntmps36
  go_wp2_with fail
  go_loopw [7, 8] (fun v i wr => ∃ k : Nat, k ≤ n ∧ i = .int .i64 k ∧ wr.ownsRow w.heap.size 3 1 v (partF b both (a.take k)).length ((partF b both (a.take k)).map intV) ∧ Below w.heap.size w wr) (fun _ i _ => n - (intOf i).toNat)
  case atStart => exact ⟨0, Nat.zero_le _, rfl, World.ownsRow_nil _ _ _ _, Below.refl _ _⟩
  case round =>
    obtain ⟨k, hk, rfl, hO, hB⟩ := hrel
    obtain ⟨A1, c1, rfl, _⟩ := row1_of_own hO
    have hlen : (partF b both (a.take k)).length ≤ 100000 := by
      have := List.length_filter_le (fun x => inF b x == both) (a.take k)
      unfold partF
      rw [List.length_take] at this
      omega
    have hbs := hB.size
    have H1 := Lib.hid (And.intro hO hB)
    by_cases hlt : k < n
    · obtain ⟨p, hp, _⟩ := drop_at (xs := a) (k := k) (by rw [Hlen.out]; exact hlt)
      obtain ⟨b1, off, rfl, hbl, hc⟩ := (Ha.out.below hB).2 (by omega)
      have c0 := hc k p hp
      simp only [intV] at c0
      have HI := Lib.hid (in_any B m d p wr _ b hm (Hb.out.below hB))
      have HS := Eqn.mk (partF_snoc b both a k p hp)
      have j0 : (k : Int) < (n : Int) := by omega
      clear hO hB hc hp
      generalize inF b p = bb at *
      generalize partF b both (a.take k) = L at *
      by_cases hbb : (bb == both) = true
      · have HS2 : Eqn (partF b both (a.take (k + 1))) (L ++ [p]) := by rw [Eqn, HS.out, if_pos hbb]
        have c1' : ∀ o, (wr.alloc o).cell? ⟨b1, off + k, none⟩ = some (.int .i64 p) := fun o => ((Below.refl wr.heap.size wr).alloc (Nat.le_refl _) o).cell (p := ⟨b1, off + k, none⟩) (by dsimp only; omega) |>.trans c0
        clear HS
        go_wp2_with fail
        refine HI.out.mono ?_
        rintro e w1 ⟨rfl, rfl⟩
        go_wp2_with (at_builtin; refine wpList_append_own_at _ rfl _ _ 22 rfl w.heap.size 3 i0 (.int .i64 0) 1 8 Tryd.underlying22 hi hz0 hz1 hz2 rfl (by decide) _ _ _ rfl (H1.out.1.alloc _) ⟨wr.heap.size, 0, none⟩ 1 1 [.int .i64 p] rfl rfl (cell_one_new _ _ _) (by simp [Value.oneCell']) (by unfold maxLen; omega) (by omega) (by simp; omega) ?_; intro v' w3 hown' hgrow hnil hat; have H3 : Hid (w3.ownsRow w.heap.size 3 1 v' (L.length + 1) (L.map intV ++ [.int .i64 p]) ∧ Below w.heap.size w w3) := Lib.hid ⟨hown', (H1.out.2.alloc hbs _).grown hgrow (by simp; omega) (fun g hg => own_ge H1.out.1 g hg)⟩; clear hown' hgrow hnil hat)
        go_roundw
        case rel => exact ⟨k + 1, by omega, by go_num, by rw [HS2.out, List.length_append, List.map_append]; exact H3.out.1, H3.out.2⟩
        case measure => simp [intOf]; omega
      · have HS2 : Eqn (partF b both (a.take (k + 1))) L := by rw [Eqn, HS.out, if_neg hbb]
        clear HS
        go_wp2_with fail
        refine HI.out.mono ?_
        rintro e w1 ⟨rfl, rfl⟩
        go_wp2_with fail
        go_roundw
        case rel => exact ⟨k + 1, by omega, by go_num, by rw [HS2.out]; exact H1.out.1, H1.out.2⟩
        case measure => simp [intOf]; omega
    · have HT : a.take k = a := List.take_of_length_le (by rw [Hlen.out]; omega)
      clear H1
      rw [HT] at hO ⊢
      have H1 := Lib.hid (And.intro hO hB)
      clear hO hB HT
      go_wp2_with fail
      go_ret
      exact ⟨_, rfl, H1.out.1, H1.out.2⟩

theorem own_empty (w : World) {base : Nat} (hb : base ≤ w.heap.size) (e : TypeId) : (w.alloc (.cells #[] e)).ownsRow base e 1 (.slice (some ⟨w.heap.size, 0, none⟩) 0 0) 0 [] :=
  ⟨rfl, .inr ⟨w.heap.size, 0, #[], rfl, hb, heap_alloc_new w _, Nat.le_refl _, by decide, rfl, rfl⟩⟩

set_option maxHeartbeats 1000000 in
theorem unionR_any (A B : Option Addr) (n c m d : Nat) (w : World) (a b : List Int) (hn : n ≤ 1000) (hm : m ≤ 1000) (ha : Row1 intV w w.heap.size A n a) (hb : Row1 intV w w.heap.size B m b) :
    Calls Tryd.prog 35 #[.slice A n c, .slice B m d] w (NewInts (ofK (a ++ b) 512) w) := by
  obtain ⟨i0, hi, hz0, hz1, hz2⟩ := info_parts int_info
  have Ha := Lib.hid ha
  have Hb := Lib.hid hb
  have hal := ha.1
  have hbl := hb.1
  clear ha hb
  go_enter Tryd.func35, Tryd.ntmps35
  go_wp2_with (at_builtin; first
    | (refine wpList_append_row rfl _ _ 22 rfl intV_one w.heap.size 3 i0 (.int .i64 0) 8 Tryd.underlying22 hi hz0 hz1 hz2 rfl (.slice (some ⟨w.heap.size, 0, none⟩) 0 0) 0 [] rfl (own_empty w (Nat.le_refl _) 3) A n c a w.heap.size rfl (by exact row1_add Ha.out (Nat.le_refl _) _) (by unfold maxLen; omega) (by omega) (by simp) ?_; intro v1 w1 hown hgrow hat; rw [Nat.zero_add, List.nil_append] at hown; have H1 : Hid (w1.ownsRow w.heap.size 3 1 v1 n (a.map intV) ∧ Below w.heap.size w w1) := Lib.hid ⟨hown, ((Below.refl _ w).alloc (Nat.le_refl _) _).grown hgrow (by simp) (fun g hg => by cases hg; exact Nat.le_refl _)⟩; have hsz1 := H1.out.2.size; clear hown hgrow hat)
    | (refine wpList_append_row rfl _ _ 22 rfl intV_one w.heap.size 3 i0 (.int .i64 0) 8 Tryd.underlying22 hi hz0 hz1 hz2 rfl v1 n (a.map intV) rfl H1.out.1 B m d b w.heap.size rfl (by exact Hb.out.below H1.out.2) (by unfold maxLen; omega) (by omega) hsz1 ?_; intro v2 w2 hown hgrow hat; rw [← List.map_append] at hown; have H2 : Hid (w2.ownsRow w.heap.size 3 1 v2 (n + m) ((a ++ b).map intV) ∧ Below w.heap.size w w2) := Lib.hid ⟨hown, H1.out.2.grown hgrow hsz1 (fun g hg => own_ge H1.out.1 g hg)⟩; obtain ⟨A2, c2, rfl, hr2⟩ := row1_of_own hown; have HR2 := Lib.hid hr2; clear hown hgrow hat hr2))
  refine (ofR_any A2 (n + m) c2 w2 (a ++ b) (by omega) HR2.out).mono ?_
  rintro e w3 ⟨v3, rfl, hown3, hb3⟩
  have HZ : Hid (w3.ownsRow w.heap.size 3 1 v3 (ofK (a ++ b) 512).length ((ofK (a ++ b) 512).map intV) ∧ Below w.heap.size w w3) := Lib.hid ⟨own_low hown3 H2.out.2.size, H2.out.2.trans (hb3.mono H2.out.2.size)⟩
  obtain ⟨A3, c3, rfl, _⟩ := row1_of_own hown3
  clear hown3 hb3
  go_wp2_with fail
  go_ret
  exact ⟨_, rfl, HZ.out.1, HZ.out.2⟩
end Go.Proofs.YtencbmgjdiillaaDoor
