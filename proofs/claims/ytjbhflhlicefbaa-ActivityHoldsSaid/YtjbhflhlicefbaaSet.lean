/- Contract of activity.Settle. -/
import Derived.Test.YtjbhflhlicefbaaActF
import Derived.Test.YtjbhflhlicefbaaActC
import Derived.Test.YtjbhflhlicefbaaSlices
namespace Go.Proofs.Ytjbhflhlicefbaa
open Go.RowKit

/-- a settled bidder (number, eligibility, waivers, blocks) and an error -/
def setF (l : List Prod) (x : Bidr) (pc : Int) : Int × Int × Int × List Int × Int :=
  if vBidders l [x] = true ∧ 1 ≤ pc ∧ pc ≤ 100 then (x.id, (keepF x.elig x.waiv (unitsF l x.blocks) pc).1, (keepF x.elig x.waiv (unitsF l x.blocks) pc).2.1, x.blocks, 0) else (0, 0, 0, [], 2)

/-- it is returned with blocks of its own -/
def SetPost (r : Int × Int × Int × List Int × Int) (w : World) (e : Ending) (w' : World) : Prop :=
  ∃ v, e = .returned (.tuple #[.agg #[.int .i64 r.1, .int .i64 r.2.1, .int .i64 r.2.2.1, v], .int .i64 r.2.2.2.2]) ∧ w'.ownsRow w.heap.size 3 1 v r.2.2.2.1.length (r.2.2.2.1.map intV) ∧ Below w.heap.size w w'

theorem set_good {l : List Prod} {x : Bidr} (h : vBidders l [x] = true) {pc : Int} (h1 : 1 ≤ pc) (h2 : pc ≤ 100) : good x.elig x.waiv pc ∧ 0 ≤ unitsF l x.blocks ∧ unitsF l x.blocks ≤ x.elig := by
  obtain ⟨a, b, c, d⟩ := vBidders_one h
  have hu := unitsGo_le l x.blocks 0 (sane_of a b)
  unfold badB at d
  unfold good
  unfold unitsF at c ⊢
  omega

theorem set_keep {l : List Prod} {x : Bidr} (h : vBidders l [x] = true) {pc : Int} (h1 : 1 ≤ pc) (h2 : pc ≤ 100) : (keepF x.elig x.waiv (unitsF l x.blocks) pc).2.2 = 0 := by
  obtain ⟨a, b, c⟩ := set_good h h1 h2
  exact (keepF_good a b c).1

theorem set_bad {el wv ac pc : Int} (h : ¬ (1 ≤ pc ∧ pc ≤ 100)) : keepF el wv ac pc = (0, 0, 2) := by
  unfold keepF
  rw [if_neg (by unfold good; omega)]

theorem settle_any (A : Option Addr) (n c : Nat) (pc : Int) (w : World) (l : List Prod) (x : Bidr) (hn : n ≤ 140) (hxl : x.len ≤ 1000) (hl : RowS 5 Prod.cell w w.heap.size A n l) (hx : Row1 intV w w.heap.size x.adr x.len x.blocks) :
    Calls Try.prog 20 #[.slice A n c, x.val, .int .i64 pc] w (SetPost (setF l x pc) w) := by
  have Hl := Lib.hid hl
  have Hx := Lib.hid hx
  clear hl hx
  unfold Bidr.val
  have hL : Hid (Below w.heap.size w ((w.alloc (.cells #[.int .i64 x.id, .int .i64 x.elig, .int .i64 x.waiv, .slice x.adr x.len x.cap] 40)).alloc (.cells #[.int .i64 0, .int .i64 0, .int .i64 0, .slice none 0 0] 40))) := ((Below.refl _ _).alloc (Nat.le_refl _) _).alloc (by simp) _
  cases hv : vBidders l [x] with
  | false =>
    have hH : Eqn (holdV l x) (.tuple #[.agg #[.int .i64 0, .int .i64 0, .int .i64 0, .slice none 0 0, .int .i64 0], .bool false]) := by
      unfold holdV Eqn; rw [hv]; rfl
    have hF : Eqn (setF l x pc) (0, 0, 0, [], 2) := by unfold setF Eqn; rw [if_neg (by rw [hv]; simp)]
    clear hv
    go_enter Try.func20, Try.ntmps20
    go_wp2_with fail
    refine (hold_any A n c _ l x hn (by exact Hl.out.keep hL.out) (by exact Hx.out.keep hL.out)).mono ?_
    rw [hH.out]
    rintro e w1 ⟨rfl, hb1⟩
    have z1 : w.heap.size + 1 < w1.heap.size := by have := hb1.size; simp at this; omega
    have r1 := fun o => hb1.cell (p := ⟨w.heap.size + 1, o, none⟩) (by simp)
    have f1 := fun o => hb1.frozen (p := ⟨w.heap.size + 1, o, none⟩) (by simp)
    have B1 : Hid (Below w.heap.size w w1) := hL.out.trans (hb1.mono (by simp <;> omega))
    clear hb1
    go_wp2
    rw [hF.out]
    refine bodyPost_ret (v := .tuple #[.agg #[.int .i64 0, .int .i64 0, .int .i64 0, .slice none 0 0], .int .i64 2]) (by simp [results, Try.results20, go_sem, r1, World.cell?_alloc_lt, z1]) rfl ⟨_, rfl, World.ownsRow_nil _ _ _ _, ?_⟩
    exact ((((B1.out.setCell (by simp) _).setCell (by simp) _).setCell (by simp) _).setCell (by simp) _).alloc (by simp <;> omega) _
  | true =>
    have hH : Eqn (holdV l x) (.tuple #[.agg #[.int .i64 x.id, .int .i64 x.elig, .int .i64 x.waiv, .slice x.adr x.len x.cap, .int .i64 (unitsF l x.blocks)], .bool true]) := by
      unfold holdV Eqn; rw [hv]; rfl
    by_cases hp : 1 ≤ pc ∧ pc ≤ 100
    · have hk := v3_eq _ (set_keep hv hp.1 hp.2)
      have hF : Eqn (setF l x pc) (x.id, (keepF x.elig x.waiv (unitsF l x.blocks) pc).1, (keepF x.elig x.waiv (unitsF l x.blocks) pc).2.1, x.blocks, 0) := by unfold setF Eqn; rw [if_pos ⟨hv, hp⟩]
      generalize (keepF x.elig x.waiv (unitsF l x.blocks) pc).1 = ka at *
      generalize (keepF x.elig x.waiv (unitsF l x.blocks) pc).2.1 = kb at *
      have HK := Eqn.mk hk
      clear hv hk hp
      go_enter Try.func20, Try.ntmps20
      go_wp2_with fail
      refine (hold_any A n c _ l x hn (by exact Hl.out.keep hL.out) (by exact Hx.out.keep hL.out)).mono ?_
      rw [hH.out]
      rintro e w1 ⟨rfl, hb1⟩
      have z1 : w.heap.size + 1 < w1.heap.size := by have := hb1.size; simp at this; omega
      have r1 := fun o => hb1.cell (p := ⟨w.heap.size + 1, o, none⟩) (by simp)
      have f1 := fun o => hb1.frozen (p := ⟨w.heap.size + 1, o, none⟩) (by simp)
      have B1 : Hid (Below w.heap.size w w1) := hL.out.trans (hb1.mono (by simp <;> omega))
      clear hb1
      go_wp2_with fail
      refine (keep_any _ _ _ _ _).mono ?_
      rw [HK.out]
      rintro e w' ⟨rfl, rfl⟩
      go_wp2_with fail
      refine Lx.region (C := fun w' => w'.cell? ⟨w1.heap.size, 0, none⟩ = some (.int .i64 x.id)) (hs := [2]) (by kernel_rfl) (by kernel_rfl) (by go_simp) ?_
      repeat' (first
        | (refine Lx.lex_no (Lx.n1 rfl rfl rfl (by with_reducible rfl)) (fun K hK => ?_); go_simp; refine hK _ ?_; clear hK K)
        | (refine Lx.lex_no (Lx.n0 rfl rfl rfl (by with_reducible rfl)) (fun K hK => ?_); go_simp; refine hK _ ?_; clear hK K)
        | (refine Lx.lex_no (Lx.n2 rfl rfl rfl) (fun K hK => ?_); go_simp; refine hK _ ?_; clear hK K)
        | (refine Lx.lex_pure (v := ?_) rfl (by first | exact Lx.w0 rfl | exact Lx.w1 rfl rfl rfl (by with_reducible rfl)) ?_ (fun K hK => ?_); rotate_left 1; (intro w' hCw; (try dsimp only at hCw); go_simp; done); go_simp; refine hK _ ?_; clear hK K)
        | (refine Lx.lex_pure (v := ?_) rfl (by first | exact Lx.w0 rfl | exact Lx.w1 rfl rfl rfl (by with_reducible rfl)) ?_ (fun K hK => ?_); rotate_left 1; (intro w' hCw; (try dsimp only at hCw); go_simp; with_reducible rfl); go_simp; refine hK _ ?_; clear hK K)
        | (refine Lx.lex_read (v := ?_) rfl (by first | exact Lx.w0 rfl | exact Lx.w1 rfl rfl rfl (by with_reducible rfl)) ?_ (fun K hK => ?_); rotate_left 1; (go_simp; done); go_simp; refine hK _ ?_; clear hK K)
        | (refine Lx.lex_read (v := ?_) rfl (by first | exact Lx.w0 rfl | exact Lx.w1 rfl rfl rfl (by with_reducible rfl)) ?_ (fun K hK => ?_); rotate_left 1; (go_simp; with_reducible rfl); go_simp; refine hK _ ?_; clear hK K)
        | (refine Lx.lex_eff rfl (by first | exact Lx.w0 rfl | exact Lx.w1 rfl rfl rfl (by with_reducible rfl)) (fun K hK => ?_); go_simp; (first | (go_at_call 34; refine (clone_any x.adr x.len x.cap _ x.blocks hxl (by exact Hx.out.keep (B1.out.alloc B1.out.size _).drew)).mono ?_; rintro e w2 ⟨v, rfl, hown, hb2⟩; obtain ⟨A', c', rfl, _⟩ := row1_of_own hown; have hb' : Below (w.heap.size + 1 + 1) w1 w2 := ((Below.refl _ _).alloc (by omega) _).drew.trans (hb2.mono (by simp <;> omega)); have r2 := fun o => (hb'.cell (p := ⟨w.heap.size + 1, o, none⟩) (by simp <;> omega)).trans (r1 o); have f2 := fun o => (hb'.frozen (p := ⟨w.heap.size + 1, o, none⟩) (by simp <;> omega)).trans (f1 o); have q2 := fun o => (hb2.cell (p := ⟨w1.heap.size, o, none⟩) (by simp)); have B2 : Hid (Below w.heap.size w w2) := (B1.out.alloc B1.out.size _).drew.trans (hb2.mono (by simp <;> omega)); have HO := Lib.hid hown; clear hown hb2 hb') | skip); refine hK _ _ (by go_simp) ?_; clear hK K)
        | (refine Lx.lex_cases rfl rfl rfl (fun hgd K hK => ?_) (fun hgd K hK => ?_) <;> (try simp only [decide_eq_true_eq, decide_eq_false_iff_not] at hgd) <;> (first | (exfalso; omega) | (go_simp; refine hK _ ?_; clear hK K))))
      all_goals (refine Lx.lex_nil ?_)
      go_wp2
      rw [hF.out]
      refine bodyPost_ret (v := .tuple #[.agg #[.int .i64 x.id, .int .i64 ka, .int .i64 kb, .slice A' x.blocks.length c'], .int .i64 0]) (by simp [results, Try.results20, go_sem, r2]) rfl ⟨_, rfl, ?_, ?_⟩
      · have := own_set (own_set (own_set (own_set HO.out (a := ⟨w.heap.size + 1, 0, none⟩) (by simp <;> omega) (.int .i64 x.id)) (a := ⟨w.heap.size + 1, 1, none⟩) (by simp <;> omega) (.int .i64 ka)) (a := ⟨w.heap.size + 1, 2, none⟩) (by simp <;> omega) (.int .i64 kb)) (a := ⟨w.heap.size + 1, 3, none⟩) (by simp <;> omega) (.slice A' x.blocks.length c')
        exact own_low this (by simp <;> omega)
      · exact (((B2.out.setCell (by simp) _).setCell (by simp) _).setCell (by simp) _).setCell (by simp) _
    · have HK : Eqn (v3 (keepF x.elig x.waiv (unitsF l x.blocks) pc)) (.tuple #[.int .i64 0, .int .i64 0, .int .i64 2]) := by unfold Eqn; rw [set_bad hp]; rfl
      have hF : Eqn (setF l x pc) (0, 0, 0, [], 2) := by unfold setF Eqn; rw [if_neg (fun h => hp h.2)]
      clear hv hp
      go_enter Try.func20, Try.ntmps20
      go_wp2_with fail
      refine (hold_any A n c _ l x hn (by exact Hl.out.keep hL.out) (by exact Hx.out.keep hL.out)).mono ?_
      rw [hH.out]
      rintro e w1 ⟨rfl, hb1⟩
      have z1 : w.heap.size + 1 < w1.heap.size := by have := hb1.size; simp at this; omega
      have r1 := fun o => hb1.cell (p := ⟨w.heap.size + 1, o, none⟩) (by simp)
      have f1 := fun o => hb1.frozen (p := ⟨w.heap.size + 1, o, none⟩) (by simp)
      have B1 : Hid (Below w.heap.size w w1) := hL.out.trans (hb1.mono (by simp <;> omega))
      clear hb1
      go_wp2_with fail
      refine (keep_any _ _ _ _ _).mono ?_
      rw [HK.out]
      rintro e w' ⟨rfl, rfl⟩
      go_wp2
      rw [hF.out]
      refine bodyPost_ret (v := .tuple #[.agg #[.int .i64 0, .int .i64 0, .int .i64 0, .slice none 0 0], .int .i64 2]) (by simp [results, Try.results20, go_sem, r1, World.cell?_alloc_lt, z1]) rfl ⟨_, rfl, World.ownsRow_nil _ _ _ _, ?_⟩
      exact ((((B1.out.setCell (by simp) _).setCell (by simp) _).setCell (by simp) _).setCell (by simp) _).alloc (by simp <;> omega) _
end Go.Proofs.Ytjbhflhlicefbaa
