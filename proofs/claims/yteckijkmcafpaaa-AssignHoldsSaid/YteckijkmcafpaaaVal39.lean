/- Contracts of Valid, claim, ValidWishes on both sides. -/
import Derived.Test.YteckijkmcafpaaaTy39
import Derived.IntWalk
namespace Go.Proofs.Yteckijkmcafpaaa
open Go.RowKit

def badC (c : Claim) (last left : Int) : Prop := c.win ≤ last ∨ 32 ≤ c.win ∨ c.cnt < 1 ∨ left < c.cnt
instance (c : Claim) (last left : Int) : Decidable (badC c last left) := by unfold badC; infer_instance
def validGo : List Claim → Int → Int → Bool
  | [], _, _ => true
  | c :: r, last, left => if badC c last left then false else validGo r c.win (left - c.cnt)
def validF (blocks : Int) (l : List Claim) : Bool := if blocks < 1 ∨ 12 < blocks ∨ 6 < l.length then false else validGo l (-1) blocks

def prevW (prev : Option Int) (x : Int) : Bool := match prev with | none => false | some p => decide (x ≤ p)
def badR (c : Claim) (prev : Option Int) (b : Int) : Prop := c.win < 0 ∨ 31 < c.win ∨ c.cnt < 1 ∨ b < c.cnt ∨ prevW prev c.win = true
instance (c : Claim) (prev : Option Int) (b : Int) : Decidable (badR c prev b) := by unfold badR; infer_instance
def rvalGo (b : Int) : List Claim → Option Int → Int → Bool
  | [], _, s => decide (s ≤ b)
  | c :: r, prev, s => if badR c prev b then false else rvalGo b r (some c.win) (s + c.cnt)

theorem rval_big (b : Int) : ∀ (l : List Claim) (prev : Option Int) (s : Int), b < s → rvalGo b l prev s = false := by
  intro l
  induction l with
  | nil => intro _ s h; simp [rvalGo]; omega
  | cons c r ih =>
    intro prev s h
    rw [rvalGo]
    split
    · rfl
    · rename_i hb
      unfold badR at hb
      exact ih _ _ (by omega)
theorem valid_ref (b : Int) : ∀ (l : List Claim) (last s : Int) (prev : Option Int), s ≤ b → 0 ≤ s → ((prev = none ∧ last = -1) ∨ (prev = some last ∧ 0 ≤ last)) → rvalGo b l prev s = validGo l last (b - s) := by
  intro l
  induction l with
  | nil => intro last s prev hs h0 _; simp [rvalGo, validGo, hs]
  | cons c r ih =>
    intro last s prev hs h0 hp
    rw [rvalGo, validGo]
    by_cases hb : badR c prev b
    · rw [if_pos hb, if_pos ?_]
      unfold badR at hb
      unfold badC
      rcases hp with ⟨rfl, rfl⟩ | ⟨rfl, hl⟩
      · simp [prevW] at hb; omega
      · simp [prevW] at hb; omega
    · rw [if_neg hb]
      have hb' := hb
      unfold badR at hb'
      by_cases hc : badC c last (b - s)
      · rw [if_pos hc]
        unfold badC at hc
        apply rval_big
        rcases hp with ⟨rfl, rfl⟩ | ⟨rfl, hl⟩
        · simp [prevW] at hb'; omega
        · simp [prevW] at hb'; omega
      · rw [if_neg hc]
        unfold badC at hc
        rw [ih c.win (s + c.cnt) (some c.win) (by omega) (by omega) (.inr ⟨rfl, by omega⟩)]
        congr 1
        omega

theorem valid_all : ∀ (l : List Claim) (last left : Int), validGo l last left = true → -1 ≤ last → (∀ c ∈ l, 0 ≤ c.win ∧ c.win ≤ 31 ∧ 1 ≤ c.cnt ∧ c.cnt ≤ left) := by
  intro l
  induction l with
  | nil => intro _ _ _ _ c hc; cases hc
  | cons c r ih =>
    intro last left h hl x hx
    rw [validGo] at h
    split at h
    · cases h
    · rename_i hb
      unfold badC at hb
      rcases List.mem_cons.1 hx with rfl | hx
      · omega
      · have := ih c.win (left - c.cnt) h (by omega) x hx
        omega
theorem validF_all {b : Int} {l : List Claim} (h : validF b l = true) : 1 ≤ b ∧ b ≤ 12 ∧ l.length ≤ 6 ∧ ∀ c ∈ l, 0 ≤ c.win ∧ c.win ≤ 31 ∧ 1 ≤ c.cnt ∧ c.cnt ≤ b := by
  unfold validF at h
  split at h
  · cases h
  · rename_i hh
    exact ⟨by omega, by omega, by omega, valid_all l (-1) b h (by omega)⟩

set_option maxHeartbeats 2000000 in
theorem valid_any (b : Int) (A : Option Addr) (n c : Nat) (w : World) (l : List Claim) (hn : n ≤ 1000) (hl : RowS 2 Claim.cell w w.heap.size A n l) :
    Calls Try.prog 12 #[.int .i64 b, .slice A n c] w (RetPost (.bool (validF b l)) w.heap.size w) := by
  have Hl := Lib.hid hl
  have Hlen := Eqn.mk hl.1
  clear hl
  by_cases h1 : b < 1
  · have HF : Eqn (validF b l) false := by unfold validF; rw [if_pos (.inl h1)]; rfl
    go_enter Try.func12, Try.ntmps12
    go_wp2
    go_ret
    exact ⟨ret_bool HF.out.symm, Below.refl _ _⟩
  · by_cases h2 : 12 < b
    · have HF : Eqn (validF b l) false := by unfold validF; rw [if_pos (.inr (.inl h2))]; rfl
      go_enter Try.func12, Try.ntmps12
      go_wp2
      go_ret
      exact ⟨ret_bool HF.out.symm, Below.refl _ _⟩
    · by_cases h3 : 6 < n
      · have HF : Eqn (validF b l) false := by unfold validF; rw [if_pos (.inr (.inr (by rw [Hlen.out]; exact h3)))]; rfl
        have h3' : (6 : Int) < (n : Int) := by omega
        go_enter Try.func12, Try.ntmps12
        go_wp2
        go_ret
        exact ⟨ret_bool HF.out.symm, Below.refl _ _⟩
      · have HF : Eqn (validF b l) (validGo l (-1) b) := by unfold validF; rw [if_neg (by rw [Hlen.out]; omega)]; rfl
        have h3' : ¬ (6 : Int) < (n : Int) := by omega
        go_enter Try.func12, Try.ntmps12
        go_wp2
        go_loopw [5, 6, 23] (fun a e i wr => ∃ (k : Nat) (la le : Int), k ≤ n ∧ i = .int .i64 k ∧ a = .int .i64 la ∧ e = .int .i64 le ∧ 0 ≤ le ∧ le ≤ 12 ∧ Eqn (validF b l) (validGo (l.drop k) la le) ∧ Below w.heap.size w wr) (fun _ _ i _ => n - (intOf i).toNat)
        case atStart => exact ⟨0, -1, b, Nat.zero_le _, rfl, rfl, rfl, by omega, by omega, HF, Below.refl _ _⟩
        case round =>
          obtain ⟨k, la, le, hk, rfl, rfl, rfl, he0, he1, HR, HW⟩ := hrel
          have HWW := Lib.hid HW
          by_cases hlt : k < n
          · obtain ⟨p, hp, hpd⟩ := drop_at (xs := l) (k := k) (by rw [Hlen.out]; exact hlt)
            obtain ⟨g, off, rfl, hg, hc⟩ := (Hl.out.below HW).2 (by omega)
            have q0 := hc k p hp 0 (by omega)
            have q1 := hc k p hp 1 (by omega)
            simp only [Claim.cell, Nat.add_zero] at q0 q1
            have HR' : Eqn (validF b l) (if badC p la le then false else validGo (l.drop (k + 1)) p.win (le - p.cnt)) := by
              have := HR.out; rw [hpd, validGo] at this; exact this
            have hws := HW.size
            have hgs : g < wr.heap.size := by omega
            have j0 : (k : Int) < (n : Int) := by omega
            obtain ⟨pw, pc⟩ := p
            dsimp only at *
            clear hc hp hpd HR HW
            by_cases c1 : pw ≤ la
            · have HB : Eqn (validF b l) false := by rw [Eqn, HR'.out, if_pos (.inl c1)]
              go_wp2
              go_ret
              exact ⟨ret_bool HB.out.symm, HWW.out.alloc hws _⟩
            · by_cases c2 : 32 ≤ pw
              · have HB : Eqn (validF b l) false := by rw [Eqn, HR'.out, if_pos (.inr (.inl c2))]
                go_wp2
                go_ret
                exact ⟨ret_bool HB.out.symm, HWW.out.alloc hws _⟩
              · by_cases c3 : pc < 1
                · have HB : Eqn (validF b l) false := by rw [Eqn, HR'.out, if_pos (.inr (.inr (.inl c3)))]
                  go_wp2
                  go_ret
                  exact ⟨ret_bool HB.out.symm, HWW.out.alloc hws _⟩
                · by_cases c4 : le < pc
                  · have HB : Eqn (validF b l) false := by rw [Eqn, HR'.out, if_pos (.inr (.inr (.inr c4)))]
                    go_wp2
                    go_ret
                    exact ⟨ret_bool HB.out.symm, HWW.out.alloc hws _⟩
                  · have HB : Eqn (validF b l) (validGo (l.drop (k + 1)) pw (le - pc)) := by
                      rw [Eqn, HR'.out, if_neg (by unfold badC; dsimp only; omega)]
                    go_wp2
                    go_roundw
                    case rel => exact ⟨k + 1, pw, le - pc, by omega, by go_num, rfl, rfl, by omega, by omega, HB, HWW.out.alloc hws _⟩
                    case measure => simp only [intOf]; omega
          · have HB : Eqn (validF b l) true := by
              rw [Eqn, HR.out, drop_end (by rw [Hlen.out]; omega)]; rfl
            clear HW HR
            go_wp2
            go_ret
            exact ⟨ret_bool HB.out.symm, HWW.out⟩

/-- the index of a winner's claim, or -1 -/
def findGo (x : Int) : List Claim → Int → Int
  | [], _ => -1
  | c :: r, k => if c.win = x then k else findGo x r (k + 1)
def findC (l : List Claim) (x : Int) : Int := findGo x l 0

set_option maxHeartbeats 1000000 in
theorem claim1_any (p : Claim) (x : Int) (g : Nat) (w : World) (hx : w.cell? ⟨g, 0, none⟩ = some (.int .i64 x)) (hg : g < w.heap.size) (b : Bool) (hb : decide (p.win = x) = b) :
    Calls Try.prog 51 #[.agg #[.int .i64 p.win, .int .i64 p.cnt], .pointer (some ⟨g, 0, none⟩)] w (RetPost (.bool b) w.heap.size w) := by
  have hb' : (p.win == x) = b := by rw [← hb]; exact (Bool.eq_iff_iff.2 (by simp))
  go_enter Try.func51, Try.ntmps51
  go_wp2
  go_ret
  exact ⟨rfl, (Below.refl _ _).alloc (Nat.le_refl _) _⟩

set_option maxHeartbeats 1000000 in
theorem idxC_any (A : Option Addr) (n c g : Nat) (x : Int) (w : World) (l : List Claim) (hn : n ≤ 1000) (hl : RowS 2 Claim.cell w w.heap.size A n l) (hg : g < w.heap.size) (hx : w.cell? ⟨g, 0, none⟩ = some (.int .i64 x)) :
    Calls Try.prog 50 #[.slice A n c, .func (.func 51) #[] #[.pointer (some ⟨g, 0, none⟩)]] w (RetPost (.int .i64 (findC l x)) w.heap.size w) := by
  have Hl := Lib.hid hl
  have Hlen := Eqn.mk hl.1
  have Hx := Lib.hid hx
  clear hl hx
  go_enter Try.func50, Try.ntmps50
  go_wp2
  go_loopw [8] (fun i wr => ∃ k : Nat, k ≤ n ∧ i = .int .i64 k ∧ Eqn (findC l x) (findGo x (l.drop k) k) ∧ Below w.heap.size w wr) (fun i _ => n - (intOf i).toNat)
  case atStart => exact ⟨0, Nat.zero_le _, rfl, rfl, Below.refl _ _⟩
  case round =>
    obtain ⟨k, hk, rfl, HR, HW⟩ := hrel
    have HWW := Lib.hid HW
    have hws := HW.size
    by_cases hlt : k < n
    · obtain ⟨p, hp, hpd⟩ := drop_at (xs := l) (k := k) (by rw [Hlen.out]; exact hlt)
      obtain ⟨b, off, rfl, hbl, hc⟩ := (Hl.out.below HW).2 (by omega)
      have c0 := hc k p hp 0 (by omega)
      have c1 := hc k p hp 1 (by omega)
      simp only [Claim.cell, Nat.add_zero] at c0 c1
      have HCW := Lib.hid ((HW.cell (p := ⟨g, 0, none⟩) hg).trans Hx.out)
      have HR' : Eqn (findC l x) (if p.win = x then (k : Int) else findGo x (l.drop (k + 1)) (k + 1)) := by
        have := HR.out; rw [hpd, findGo] at this; exact this
      clear hc hp hpd HR HW
      by_cases he : p.win = x
      · have HR2 : Eqn (findC l x) k := by rw [Eqn, HR'.out, if_pos he]
        have HE := Lib.hid he
        clear he HR'
        go_wp2_with fail
        refine (claim1_any p x g _ HCW.out (by omega) true (decide_eq_true HE.out)).mono ?_
        rintro e w1 ⟨rfl, hb1⟩
        have B1 : Hid (Below w.heap.size w w1) := HWW.out.trans (hb1.mono hws)
        clear hb1
        go_wp2_with fail
        go_ret
        exact ⟨by rw [HR2.out]; rfl, B1.out⟩
      · have HR2 : Eqn (findC l x) (findGo x (l.drop (k + 1)) (k + 1)) := by rw [Eqn, HR'.out, if_neg he]
        have HE := Lib.hid he
        clear he HR'
        go_wp2_with fail
        refine (claim1_any p x g _ HCW.out (by omega) false (decide_eq_false HE.out)).mono ?_
        rintro e w1 ⟨rfl, hb1⟩
        have B1 : Hid (Below w.heap.size w w1) := HWW.out.trans (hb1.mono hws)
        clear hb1
        go_wp2_with fail
        go_roundw
        case rel => exact ⟨k + 1, by omega, by go_num, HR2, B1.out⟩
        case measure => simp [intOf]; omega
    · have HR2 : Eqn (findC l x) (-1) := by rw [Eqn, HR.out, drop_end (by rw [Hlen.out]; omega)]; rfl
      clear HR HW
      go_wp2_with fail
      go_ret
      exact ⟨by rw [HR2.out]; rfl, HWW.out⟩

theorem claim_any (A : Option Addr) (n c : Nat) (x : Int) (w : World) (l : List Claim) (hn : n ≤ 1000) (hl : RowS 2 Claim.cell w w.heap.size A n l) :
    Calls Try.prog 33 #[.slice A n c, .int .i64 x] w (RetPost (.int .i64 (findC l x)) w.heap.size w) := by
  have Hl := Lib.hid hl
  clear hl
  have B0 : Hid (Below w.heap.size w (w.alloc (.cells #[.int .i64 x] 3))) := Lib.hid ((Below.refl _ _).alloc (Nat.le_refl _) _)
  go_enter Try.func33, Try.ntmps33
  go_wp2_with fail
  refine (idxC_any A n c w.heap.size x _ l hn (by exact Hl.out.keep B0.out) (by simp) (by go_simp)).mono ?_
  rintro e w1 ⟨rfl, hb1⟩
  have B1 := Lib.hid (B0.out.trans (hb1.mono B0.out.size))
  clear hb1
  go_wp2_with fail
  go_ret
  exact ⟨rfl, B1.out⟩

theorem rfind_any (A : Option Addr) (n c : Nat) (x : Int) (w : World) (D : Nat) (l : List Claim) (hn : n ≤ 1000) (hl : RowS 2 Claim.cell w D A n l) :
    Calls Try.prog 34 #[.slice A n c, .int .i64 x] w fun e w' => e = .returned (.int .i64 (findC l x)) ∧ w = w' := by
  have Hl := Lib.hid hl
  have Hlen := Eqn.mk hl.1
  clear hl
  go_enter Try.func34, Try.ntmps34
  go_wp2
  go_loop [5] (fun i => ∃ k : Nat, k ≤ n ∧ i = .int .i64 k ∧ Eqn (findC l x) (findGo x (l.drop k) k)) (fun i => n - (intOf i).toNat)
  case atStart => exact ⟨0, Nat.zero_le _, rfl, rfl⟩
  case round =>
    obtain ⟨k, hk, rfl, HR⟩ := hrel
    by_cases hlt : k < n
    · obtain ⟨p, hp, hpd⟩ := drop_at (xs := l) (k := k) (by rw [Hlen.out]; exact hlt)
      obtain ⟨b, off, rfl, hbl, hc⟩ := Hl.out.2 (by omega)
      have c0 := hc k p hp 0 (by omega)
      simp only [Claim.cell, Nat.add_zero] at c0
      have HR' : Eqn (findC l x) (if p.win = x then (k : Int) else findGo x (l.drop (k + 1)) (k + 1)) := by
        have := HR.out; rw [hpd, findGo] at this; exact this
      have j0 : (k : Int) < (n : Int) := by omega
      clear hc hp hpd HR
      by_cases he : p.win = x
      · have hd : (p.win == x) = true := by simpa using he
        have HR2 : Eqn (findC l x) k := by rw [Eqn, HR'.out, if_pos he]
        clear he HR'
        go_wp2
        go_ret
        exact ⟨by rw [HR2.out]; rfl, rfl⟩
      · have hd : (p.win == x) = false := by simpa using he
        have HR2 : Eqn (findC l x) (findGo x (l.drop (k + 1)) (k + 1)) := by rw [Eqn, HR'.out, if_neg he]
        clear he HR'
        go_wp2
        go_round
        case rel => exact ⟨k + 1, by omega, by go_num, HR2⟩
        case measure => simp [intOf]; omega
    · have HR2 : Eqn (findC l x) (-1) := by rw [Eqn, HR.out, drop_end (by rw [Hlen.out]; omega)]; rfl
      clear HR
      go_wp2
      go_ret
      exact ⟨by rw [HR2.out]; rfl, rfl⟩

def prevP (k : Nat) (l : List Claim) : Option Int := if k = 0 then none else (l[k - 1]?).map (·.win)

set_option maxHeartbeats 2000000 in
theorem rvalid_any (b : Int) (A : Option Addr) (n c : Nat) (w : World) (l : List Claim) (hn : n ≤ 1000) (hl : RowS 2 Claim.cell w w.heap.size A n l) :
    Calls Try.prog 13 #[.int .i64 b, .slice A n c] w (RetPost (.bool (validF b l)) w.heap.size w) := by
  have Hl := Lib.hid hl
  have Hlen := Eqn.mk hl.1
  clear hl
  by_cases h1 : b < 1
  · have HF : Eqn (validF b l) false := by unfold validF; rw [if_pos (.inl h1)]; rfl
    go_enter Try.func13, Try.ntmps13
    go_wp2
    go_ret
    exact ⟨ret_bool HF.out.symm, Below.refl _ _⟩
  · by_cases h2 : 12 < b
    · have HF : Eqn (validF b l) false := by unfold validF; rw [if_pos (.inr (.inl h2))]; rfl
      go_enter Try.func13, Try.ntmps13
      go_wp2
      go_ret
      exact ⟨ret_bool HF.out.symm, Below.refl _ _⟩
    · by_cases h3 : 6 < n
      · have HF : Eqn (validF b l) false := by unfold validF; rw [if_pos (.inr (.inr (by rw [Hlen.out]; exact h3)))]; rfl
        have h3' : (6 : Int) < (n : Int) := by omega
        go_enter Try.func13, Try.ntmps13
        go_wp2
        go_ret
        exact ⟨ret_bool HF.out.symm, Below.refl _ _⟩
      · have HF : Eqn (validF b l) (rvalGo b l none 0) := by
          have := valid_ref b l (-1) 0 none (by omega) (by omega) (.inl ⟨rfl, rfl⟩)
          unfold validF; rw [if_neg (by rw [Hlen.out]; omega), this, Int.sub_zero]; rfl
        have h3' : ¬ (6 : Int) < (n : Int) := by omega
        go_enter Try.func13, Try.ntmps13
        go_wp2
        go_loopw [5, 6] (fun a i wr => ∃ (k : Nat) (su : Int), k ≤ n ∧ i = .int .i64 k ∧ a = .int .i64 su ∧ 0 ≤ su ∧ su ≤ 12 * k ∧ Eqn (validF b l) (rvalGo b (l.drop k) (prevP k l) su) ∧ Below w.heap.size w wr) (fun _ i _ => n - (intOf i).toNat)
        case atStart => exact ⟨0, 0, Nat.zero_le _, rfl, rfl, by omega, by omega, HF, Below.refl _ _⟩
        case round =>
          obtain ⟨k, su, hk, rfl, rfl, he0, he1, HR, HW⟩ := hrel
          have HWW := Lib.hid HW
          by_cases hlt : k < n
          · obtain ⟨p, hp, hpd⟩ := drop_at (xs := l) (k := k) (by rw [Hlen.out]; exact hlt)
            obtain ⟨g, off, rfl, hg, hc⟩ := (Hl.out.below HW).2 (by omega)
            have q0 := hc k p hp 0 (by omega)
            have q1 := hc k p hp 1 (by omega)
            simp only [Claim.cell, Nat.add_zero] at q0 q1
            have HB1 : Hid (badR p (prevP k l) b → validF b l = false) := by
              intro hb; have := HR.out; rw [hpd, rvalGo, if_pos hb] at this; exact this
            have HB2 : Hid (¬ badR p (prevP k l) b → validF b l = rvalGo b (l.drop (k + 1)) (prevP (k + 1) l) (su + p.cnt)) := by
              intro hb
              have := HR.out
              rw [hpd, rvalGo, if_neg hb] at this
              rw [this]
              congr 1
              unfold prevP
              rw [if_neg (by omega), Nat.add_sub_cancel, hp]; rfl
            have j0 : (k : Int) < (n : Int) := by omega
            obtain ⟨pw, pc⟩ := p
            dsimp only at *
            clear hpd HR HW
            by_cases hk0 : k = 0
            · have g0 : ¬ (0 : Int) < (k : Int) := by omega
              have g0' : decide (0 < k) = false := by simp [hk0]
              have HP : Eqn (prevP k l) none := by unfold prevP; rw [if_pos hk0]; rfl
              rw [HP.out] at HB1 HB2
              clear hc hp hk0 HP
              go_wp2_with fail
              refine Lx.region (C := fun _ => True) (hs := []) (by kernel_rfl) (by kernel_rfl) trivial ?_
              repeat' (first
                | (refine Lx.lex_no (Lx.n1 rfl rfl rfl (by with_reducible rfl)) (fun K hK => ?_); go_simp; refine hK _ ?_; clear hK K)
                | (refine Lx.lex_no (Lx.n0 rfl rfl rfl (by with_reducible rfl)) (fun K hK => ?_); go_simp; refine hK _ ?_; clear hK K)
                | (refine Lx.lex_no (Lx.n2 rfl rfl rfl) (fun K hK => ?_); go_simp; refine hK _ ?_; clear hK K)
                | (refine Lx.lex_pure (v := ?_) rfl (by first | exact Lx.w0 rfl | exact Lx.w1 rfl rfl rfl (by with_reducible rfl)) ?_ (fun K hK => ?_); rotate_left 1; (intro w' hCw; (try dsimp only at hCw); go_simp; done); go_simp; refine hK _ ?_; clear hK K)
                | (refine Lx.lex_pure (v := ?_) rfl (by first | exact Lx.w0 rfl | exact Lx.w1 rfl rfl rfl (by with_reducible rfl)) ?_ (fun K hK => ?_); rotate_left 1; (intro w' hCw; (try dsimp only at hCw); go_simp; with_reducible rfl); go_simp; refine hK _ ?_; clear hK K)
                | (refine Lx.lex_read (v := ?_) rfl (by first | exact Lx.w0 rfl | exact Lx.w1 rfl rfl rfl (by with_reducible rfl)) ?_ (fun K hK => ?_); rotate_left 1; (go_simp; done); go_simp; refine hK _ ?_; clear hK K)
                | (refine Lx.lex_read (v := ?_) rfl (by first | exact Lx.w0 rfl | exact Lx.w1 rfl rfl rfl (by with_reducible rfl)) ?_ (fun K hK => ?_); rotate_left 1; (go_simp; with_reducible rfl); go_simp; refine hK _ ?_; clear hK K)
                | (refine Lx.lex_eff rfl (by first | exact Lx.w0 rfl | exact Lx.w1 rfl rfl rfl (by with_reducible rfl)) (fun K hK => ?_); go_simp; (first | fail | skip); refine hK _ _ (trivial) ?_; clear hK K)
                | (refine Lx.lex_cases rfl rfl rfl (fun hgd K hK => ?_) (fun hgd K hK => ?_) <;> (try simp only [decide_eq_true_eq, decide_eq_false_iff_not] at hgd) <;> (first | (exfalso; omega) | (go_simp; refine hK _ ?_; clear hK K))))
              all_goals (refine Lx.lex_nil ?_)
              all_goals go_wp2_with fail
              case roundEnd =>
                go_roundw
                case rel => exact ⟨k + 1, su + pc, by omega, by go_num, by go_num, by omega, by omega, HB2.out (by unfold badR; simp [prevW]; omega), HWW.out.drew⟩
                case measure => simp [intOf]; omega
              all_goals
                go_ret
                exact ⟨ret_bool (HB1.out (by unfold badR; simp [prevW]; omega)).symm, HWW.out.drew⟩
            · have g1 : (0 : Int) < (k : Int) := by omega
              have g1' : decide (0 < k) = true := by simpa using (by omega : 0 < k)
              obtain ⟨q, hq⟩ : ∃ q, l[k - 1]? = some q := ⟨_, List.getElem?_eq_getElem (by rw [Hlen.out]; omega)⟩
              have HP : Eqn (prevP k l) (some q.win) := by unfold prevP; rw [if_neg hk0, hq]; rfl
              rw [HP.out] at HB1 HB2
              have d0 := hc (k - 1) q hq 0 (by omega)
              simp only [Claim.cell, Nat.add_zero] at d0
              have hwr : IntKind.i64.wrap ((k : Int) - 1) = (k : Int) - 1 := IntWalk.i64_in _ (by omega)
              have htn : ((k : Int) - 1).toNat = k - 1 := by omega
              have hge : (0 : Int) ≤ (k : Int) - 1 := by omega
              have hlt2 : (k : Int) - 1 < (n : Int) := by omega
              have hge' : (1 : Int) ≤ (k : Int) := by omega
              clear hc hp hk0 HP hq
              go_wp2_with fail
              refine Lx.region (C := fun _ => True) (hs := []) (by kernel_rfl) (by kernel_rfl) trivial ?_
              repeat' (first
                | (refine Lx.lex_no (Lx.n1 rfl rfl rfl (by with_reducible rfl)) (fun K hK => ?_); go_simp; refine hK _ ?_; clear hK K)
                | (refine Lx.lex_no (Lx.n0 rfl rfl rfl (by with_reducible rfl)) (fun K hK => ?_); go_simp; refine hK _ ?_; clear hK K)
                | (refine Lx.lex_no (Lx.n2 rfl rfl rfl) (fun K hK => ?_); go_simp; refine hK _ ?_; clear hK K)
                | (refine Lx.lex_pure (v := ?_) rfl (by first | exact Lx.w0 rfl | exact Lx.w1 rfl rfl rfl (by with_reducible rfl)) ?_ (fun K hK => ?_); rotate_left 1; (intro w' hCw; (try dsimp only at hCw); go_simp; done); go_simp; refine hK _ ?_; clear hK K)
                | (refine Lx.lex_pure (v := ?_) rfl (by first | exact Lx.w0 rfl | exact Lx.w1 rfl rfl rfl (by with_reducible rfl)) ?_ (fun K hK => ?_); rotate_left 1; (intro w' hCw; (try dsimp only at hCw); go_simp; with_reducible rfl); go_simp; refine hK _ ?_; clear hK K)
                | (refine Lx.lex_read (v := ?_) rfl (by first | exact Lx.w0 rfl | exact Lx.w1 rfl rfl rfl (by with_reducible rfl)) ?_ (fun K hK => ?_); rotate_left 1; (go_simp; done); go_simp; refine hK _ ?_; clear hK K)
                | (refine Lx.lex_read (v := ?_) rfl (by first | exact Lx.w0 rfl | exact Lx.w1 rfl rfl rfl (by with_reducible rfl)) ?_ (fun K hK => ?_); rotate_left 1; (go_simp; with_reducible rfl); go_simp; refine hK _ ?_; clear hK K)
                | (refine Lx.lex_eff rfl (by first | exact Lx.w0 rfl | exact Lx.w1 rfl rfl rfl (by with_reducible rfl)) (fun K hK => ?_); go_simp; (first | fail | skip); refine hK _ _ (trivial) ?_; clear hK K)
                | (refine Lx.lex_cases rfl rfl rfl (fun hgd K hK => ?_) (fun hgd K hK => ?_) <;> (try simp only [decide_eq_true_eq, decide_eq_false_iff_not] at hgd) <;> (first | (exfalso; omega) | (go_simp; refine hK _ ?_; clear hK K))))
              all_goals (refine Lx.lex_nil ?_)
              all_goals clear hwr htn
              all_goals go_wp2_with fail
              case roundEnd =>
                go_roundw
                case rel => exact ⟨k + 1, su + pc, by omega, by go_num, by go_num, by omega, by omega, HB2.out (by unfold badR; simp [prevW]; omega), HWW.out.drew⟩
                case measure => simp [intOf]; omega
              all_goals
                go_ret
                exact ⟨ret_bool (HB1.out (by unfold badR; simp [prevW]; omega)).symm, HWW.out.drew⟩
          · have HB : Eqn (validF b l) (decide (su ≤ b)) := by
              rw [Eqn, HR.out, drop_end (by rw [Hlen.out]; omega)]; rfl
            clear HW HR
            go_wp2_with fail
            go_ret
            exact ⟨ret_bool HB.out.symm, HWW.out⟩
end Go.Proofs.Yteckijkmcafpaaa
