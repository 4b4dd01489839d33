/- Contracts of package demand: Units, ValidBidders. -/
import Derived.Test.YtoafkphcfhbnmaaDemA
import Derived.Test.YtoafkphcfhbnmaaPlain33
import Derived.Test.YtoafkphcfhbnmaaLex
namespace Go.Proofs.Ytoafkphcfhbnmaa
open Go.RowKit

def RetPost (v : Value) (B : Nat) (w : World) (e : Ending) (w' : World) : Prop := e = .returned v ∧ Below B w w'

theorem fitsF_spec (l : List Prod) : ∀ (bs : List Int), fitsF l bs = true → l.length = bs.length ∧ ∀ (k : Nat) (p : Prod) (x : Int), l[k]? = some p → bs[k]? = some x → 0 ≤ x ∧ x ≤ p.sup := by
  induction l with
  | nil => intro bs h; cases bs with
    | nil => exact ⟨rfl, fun k p x h => by simp at h⟩
    | cons => simp [fitsF] at h
  | cons p l ih => intro bs h; cases bs with
    | nil => simp [fitsF] at h
    | cons x bs =>
      rw [fitsF] at h
      split at h
      · cases h
      · rename_i hn
        obtain ⟨h1, h2⟩ := ih bs h
        refine ⟨by simp [h1], fun k q y hq hy => ?_⟩
        cases k with
        | zero => simp at hq hy; subst hq hy; omega
        | succ k => simp at hq hy; exact h2 k q y hq hy

theorem prodValid_ok {l : List Prod} (h : prodValid l = true) : ∀ p ∈ l, ¬ badP p := by
  rw [prodValid_eq] at h
  exact refGo_ok l none h

theorem sane_of {l : List Prod} {bs : List Int} (h : prodValid l = true) (h2 : fitsF l bs = true) : Sane l bs := by
  obtain ⟨h3, h4⟩ := fitsF_spec l bs h2
  refine ⟨h3, fun k p x hp hx => ?_⟩
  have h5 := prodValid_ok h p (List.mem_of_getElem? hp)
  have h6 := h4 k p x hp hx
  unfold badP at h5
  omega

theorem unitsGo_le : ∀ (l : List Prod) (bs : List Int) (acc : Int), Sane l bs → acc ≤ unitsGo l bs acc ∧ unitsGo l bs acc ≤ acc + l.length * 1200000 := by
  intro l
  induction l with
  | nil => intro bs acc _; cases bs <;> simp [unitsGo]
  | cons p l ih =>
    intro bs acc h
    cases bs with
    | nil => have := h.1; simp at this
    | cons x bs =>
      rw [unitsGo]
      have h1 := h.2 0 p x rfl rfl
      have h2 := mul_le x p.units h1.1 h1.2.1 h1.2.2.1 h1.2.2.2
      have h3 := ih bs (acc + x * p.units) ⟨by have := h.1; simpa using this, fun k q y hq hy => h.2 (k + 1) q y (by simpa using hq) (by simpa using hy)⟩
      simp only [List.length_cons]
      omega

/-- demand.Units -/
def dUnits (l : List Prod) (bs : List Int) : Value := if dValid l bs then .tuple #[.int .i64 (unitsF l bs), .int .i64 0] else .tuple #[.int .i64 0, .int .i64 2]

theorem dUnits_any (A B : Option Addr) (n c m d : Nat) (w : World) (l : List Prod) (bs : List Int) (hn : n ≤ 140) (hl : RowS 5 Prod.cell w w.heap.size A n l) (hb : Row1 intV w w.heap.size B m bs) :
    Calls Try.prog 15 #[.slice A n c, .slice B m d] w (RetPost (dUnits l bs) w.heap.size w) := by
  have Hl := Lib.hid hl
  have Hb := Lib.hid hb
  clear hl hb
  cases hv : dValid l bs with
  | true =>
    have HV := Eqn.mk hv
    have HS : Hid (Sane l bs) := by
      unfold dValid at hv; rw [Bool.and_eq_true] at hv; exact sane_of hv.1 hv.2
    go_enter Try.func15, Try.ntmps15
    go_wp2_with fail
    refine (dValid_any A B n c m d _ l bs hn Hl.out Hb.out).mono ?_
    rintro e w1 ⟨rfl, hb1⟩
    go_wp2_with fail
    refine (units_any A B n c m d _ _ l bs hn (Hl.out.keep hb1) (Hb.out.keep hb1) HS.out).mono ?_
    rintro e w' ⟨rfl, rfl⟩
    go_wp2
    go_ret2
    exact ⟨by unfold dUnits; rw [HV.out]; rfl, hb1⟩
  | false =>
    have HV := Eqn.mk hv
    go_enter Try.func15, Try.ntmps15
    go_wp2_with fail
    refine (dValid_any A B n c m d _ l bs hn Hl.out Hb.out).mono ?_
    rintro e w1 ⟨rfl, hb1⟩
    go_wp2_with fail
    go_ret2
    exact ⟨by unfold dUnits; rw [HV.out]; rfl, hb1⟩

/-- a bidder: its numbers, its slice of blocks and what they are -/
structure Bidr where
  id : Int
  elig : Int
  waiv : Int
  adr : Option Addr
  len : Nat
  cap : Nat
  blocks : List Int

def Bidr.cell (b : Bidr) : Nat → Value
  | 0 => .int .i64 b.id
  | 1 => .int .i64 b.elig
  | 2 => .int .i64 b.waiv
  | _ => .slice b.adr b.len b.cap
def Bidr.val (b : Bidr) : Value := .agg #[.int .i64 b.id, .int .i64 b.elig, .int .i64 b.waiv, .slice b.adr b.len b.cap]

/-- a slice of bidders -/
def BidsAt (w : World) (D : Nat) (A : Option Addr) (n : Nat) (bs : List Bidr) : Prop :=
  RowS 4 Bidr.cell w D A n bs ∧ ∀ b ∈ bs, Row1 intV w D b.adr b.len b.blocks
theorem BidsAt.below {w w' : World} {D : Nat} {A : Option Addr} {n : Nat} {bs : List Bidr} (h : BidsAt w D A n bs) (hb : Below D w w') : BidsAt w' D A n bs :=
  ⟨h.1.below hb, fun b hm => (h.2 b hm).below hb⟩
theorem BidsAt.up {w : World} {D D' : Nat} {A : Option Addr} {n : Nat} {bs : List Bidr} (h : BidsAt w D A n bs) (hD : D ≤ D') : BidsAt w D' A n bs :=
  ⟨h.1.up hD, fun b hm => (h.2 b hm).up hD⟩
theorem BidsAt.keep {w w' : World} {A : Option Addr} {n : Nat} {bs : List Bidr} (h : BidsAt w w.heap.size A n bs) (hb : Below w.heap.size w w') : BidsAt w' w'.heap.size A n bs := (h.below hb).up hb.size

/-- a bidder's own numbers are out of bounds -/
def badB (b : Bidr) : Prop := b.elig < 0 ∨ 76800000 < b.elig ∨ b.waiv < 0 ∨ 3 < b.waiv
instance (b : Bidr) : Decidable (badB b) := by unfold badB; infer_instance

def vbGo (l : List Prod) : List Bidr → Int → Bool
  | [], _ => true
  | b :: r, last =>
    if b.id ≤ last ∨ 32 ≤ b.id then false
    else if badB b then false
    else if fitsF l b.blocks = false then false
    else if b.elig < unitsF l b.blocks then false
    else vbGo l r b.id
/-- demand.ValidBidders -/
def vBidders (l : List Prod) (bs : List Bidr) : Bool := if 32 < bs.length then false else if prodValid l = false then false else vbGo l bs (-1)

set_option maxHeartbeats 1000000 in
theorem vBidders_any (A B : Option Addr) (n c m d : Nat) (w : World) (l : List Prod) (bs : List Bidr) (hn : n ≤ 140) (hm : m ≤ 9223372036854775807) (hl : RowS 5 Prod.cell w w.heap.size A n l) (hb : BidsAt w w.heap.size B m bs) :
    Calls Try.prog 21 #[.slice A n c, .slice B m d] w (OrdPost (vBidders l bs) w.heap.size w) := by
  have Hl := Lib.hid hl
  have Hb := Lib.hid hb
  have hlen := hb.1.1
  have Hlen := Eqn.mk hlen
  clear hl hb
  by_cases hm32 : 32 < m
  · have HV : Eqn (vBidders l bs) false := by unfold vBidders Eqn; rw [if_pos (by omega)]
    clear hlen
    go_enter Try.func21, Try.ntmps21
    go_wp2_with fail
    go_ret
    exact ⟨ret_bool (by rw [HV.out]), Below.refl _ _⟩
  · cases hv : prodValid l with
    | false =>
      have HV : Eqn (vBidders l bs) false := by unfold vBidders Eqn; rw [if_neg (by omega), if_pos hv]
      have Hv := Eqn.mk hv
      clear hlen hv
      go_enter Try.func21, Try.ntmps21
      go_wp2_with fail
      refine (prodValid_any A n c l _ hn Hl.out).mono ?_
      rw [Hv.out]
      rintro e w1 ⟨rfl, hb1⟩
      go_wp2_with fail
      go_ret
      exact ⟨ret_bool (by rw [HV.out]), hb1⟩
    | true =>
      have HV : Eqn (vBidders l bs) (vbGo l bs (-1)) := by unfold vBidders Eqn; rw [if_neg (by omega), if_neg (by rw [hv]; simp)]
      have Hv := Eqn.mk hv
      clear hlen hv
      go_enter Try.func21, Try.ntmps21
      go_wp2_with fail
      refine (prodValid_any A n c l _ hn Hl.out).mono ?_
      rw [Hv.out]
      rintro e w1 ⟨rfl, hb1⟩
      have HB1 := Lib.hid hb1
      clear hb1
      go_wp2_with fail
      go_loopw [5, 18] (fun t i wr => ∃ (k : Nat) (last : Int), k ≤ m ∧ i = .int .i64 k ∧ t = .int .i64 last ∧ Eqn (vBidders l bs) (vbGo l (bs.drop k) last) ∧ Below w.heap.size w wr) (fun _ i _ => m - (intOf i).toNat)
      case atStart => exact ⟨0, -1, Nat.zero_le _, rfl, rfl, HV, HB1.out⟩
      case round =>
        obtain ⟨k, last, hk, rfl, rfl, HR, HW⟩ := hrel
        have HWW := Lib.hid HW
        by_cases hlt : k < m
        · obtain ⟨x, hx, hxd⟩ := drop_at (xs := bs) (k := k) (by rw [Hlen.out]; exact hlt)
          obtain ⟨b, off, rfl, hbl, hc⟩ := (Hb.out.below HW).1.2 (by omega)
          have HX := Lib.hid ((Hb.out.below HW).2 x (List.mem_of_getElem? hx))
          have HL := Lib.hid (Hl.out.below HW)
          have c0 := hc k x hx 0 (by omega)
          have c1 := hc k x hx 1 (by omega)
          have c2 := hc k x hx 2 (by omega)
          have c3 := hc k x hx 3 (by omega)
          simp only [Bidr.cell, Nat.add_zero] at c0 c1 c2 c3
          have hws := HW.size
          have hbs : b < wr.heap.size := by omega
          have hR : Eqn (vBidders l bs) (if x.id ≤ last ∨ 32 ≤ x.id then false
            else if badB x then false
            else if fitsF l x.blocks = false then false
            else if x.elig < unitsF l x.blocks then false
            else vbGo l (bs.drop (k + 1)) x.id) := by
            have := HR.out; rw [hxd] at this; exact this
          clear hc hxd hx HW HR
          by_cases h1 : x.id ≤ last ∨ 32 ≤ x.id
          · have hR' : Eqn (vBidders l bs) false := by rw [Eqn, hR.out, if_pos h1]
            clear hR
            go_wp2
            all_goals
              go_ret
              exact ⟨ret_bool (by rw [hR'.out]), HWW.out.trans ((Below.refl _ _).alloc (by omega) _)⟩
          · by_cases h2 : badB x
            · have hR' : Eqn (vBidders l bs) false := by rw [Eqn, hR.out, if_neg h1, if_pos h2]
              unfold badB at h2
              clear hR
              go_wp2
              all_goals
                go_ret
                exact ⟨ret_bool (by rw [hR'.out]), HWW.out.trans ((Below.refl _ _).alloc (by omega) _)⟩
            · rw [if_neg h1, if_neg h2] at hR
              unfold badB at h2
              obtain ⟨g1, g2⟩ : ¬ x.id ≤ last ∧ ¬ 32 ≤ x.id := by omega
              obtain ⟨g3, g4, g5, g6⟩ : ¬ x.elig < 0 ∧ ¬ 76800000 < x.elig ∧ ¬ x.waiv < 0 ∧ ¬ 3 < x.waiv := by omega
              clear h1 h2
              cases hf : fitsF l x.blocks with
              | false =>
                have hR' : Eqn (vBidders l bs) false := by rw [Eqn, hR.out, if_pos hf]
                have HF := Eqn.mk hf
                clear hR hf
                go_wp2
                refine Lx.region (C := fun w' => w'.cell? ⟨wr.heap.size, 1, none⟩ = some (.int .i64 x.elig)) (hs := [11]) (by kernel_rfl) (by kernel_rfl) (by go_simp) ?_
                repeat' (first
                  | (refine Lx.lex_no (Lx.n1 rfl rfl rfl (by with_reducible rfl)) (fun K hK => ?_); go_simp; refine hK _ ?_; clear hK K)
                  | (refine Lx.lex_no (Lx.n0 rfl rfl rfl (by with_reducible rfl)) (fun K hK => ?_); go_simp; refine hK _ ?_; clear hK K)
                  | (refine Lx.lex_no (Lx.n2 rfl rfl rfl) (fun K hK => ?_); go_simp; refine hK _ ?_; clear hK K)
                  | (refine Lx.lex_pure (v := ?_) rfl (by first | exact Lx.w0 rfl | exact Lx.w1 rfl rfl rfl (by with_reducible rfl)) ?_ (fun K hK => ?_); rotate_left 1; (intro w' hCw; (try dsimp only at hCw); go_simp; done); go_simp; refine hK _ ?_; clear hK K)
                  | (refine Lx.lex_pure (v := ?_) rfl (by first | exact Lx.w0 rfl | exact Lx.w1 rfl rfl rfl (by with_reducible rfl)) ?_ (fun K hK => ?_); rotate_left 1; (intro w' hCw; (try dsimp only at hCw); go_simp; with_reducible rfl); go_simp; refine hK _ ?_; clear hK K)
                  | (refine Lx.lex_read (v := ?_) rfl (by first | exact Lx.w0 rfl | exact Lx.w1 rfl rfl rfl (by with_reducible rfl)) ?_ (fun K hK => ?_); rotate_left 1; (go_simp; done); go_simp; refine hK _ ?_; clear hK K)
                  | (refine Lx.lex_read (v := ?_) rfl (by first | exact Lx.w0 rfl | exact Lx.w1 rfl rfl rfl (by with_reducible rfl)) ?_ (fun K hK => ?_); rotate_left 1; (go_simp; with_reducible rfl); go_simp; refine hK _ ?_; clear hK K)
                  | (refine Lx.lex_eff rfl (by first | exact Lx.w0 rfl | exact Lx.w1 rfl rfl rfl (by with_reducible rfl)) (fun K hK => ?_); go_simp; (first | (go_at_call 34; refine (fits_any A x.adr n c x.len x.cap _ w.heap.size l x.blocks hn (by exact HL.out.below ((Below.refl _ _).alloc (by omega) _).drew) (by exact HX.out.below ((Below.refl _ _).alloc (by omega) _).drew)).mono ?_; rw [HF.out]; rintro e w' ⟨rfl, rfl⟩) | skip); refine hK _ _ (by go_simp) ?_; clear hK K)
                  | (refine Lx.lex_cases rfl rfl rfl (fun hgd K hK => ?_) (fun hgd K hK => ?_) <;> (try simp only [decide_eq_true_eq, decide_eq_false_iff_not] at hgd) <;> (first | (exfalso; omega) | (go_simp; refine hK _ ?_; clear hK K))))
                all_goals (refine Lx.lex_nil ?_)
                go_wp2
                go_ret
                exact ⟨ret_bool (by rw [hR'.out]), HWW.out.trans (((Below.refl _ _).alloc (by omega) _).drew)⟩
              | true =>
                have HF := Eqn.mk hf
                have HS : Hid (Sane l x.blocks) := sane_of Hv.out hf
                rw [if_neg (by rw [hf]; simp)] at hR
                by_cases h3 : x.elig < unitsF l x.blocks
                · have h3' : decide (x.elig < unitsF l x.blocks) = true := by simpa using h3
                  have hR' : Eqn (vBidders l bs) false := by rw [Eqn, hR.out, if_pos h3]
                  clear hR hf
                  go_wp2
                  refine Lx.region (C := fun w' => w'.cell? ⟨wr.heap.size, 1, none⟩ = some (.int .i64 x.elig)) (hs := [11]) (by kernel_rfl) (by kernel_rfl) (by go_simp) ?_
                  repeat' (first
                    | (refine Lx.lex_no (Lx.n1 rfl rfl rfl (by with_reducible rfl)) (fun K hK => ?_); go_simp; refine hK _ ?_; clear hK K)
                    | (refine Lx.lex_no (Lx.n0 rfl rfl rfl (by with_reducible rfl)) (fun K hK => ?_); go_simp; refine hK _ ?_; clear hK K)
                    | (refine Lx.lex_no (Lx.n2 rfl rfl rfl) (fun K hK => ?_); go_simp; refine hK _ ?_; clear hK K)
                    | (refine Lx.lex_pure (v := ?_) rfl (by first | exact Lx.w0 rfl | exact Lx.w1 rfl rfl rfl (by with_reducible rfl)) ?_ (fun K hK => ?_); rotate_left 1; (intro w' hCw; (try dsimp only at hCw); go_simp; done); go_simp; refine hK _ ?_; clear hK K)
                    | (refine Lx.lex_pure (v := ?_) rfl (by first | exact Lx.w0 rfl | exact Lx.w1 rfl rfl rfl (by with_reducible rfl)) ?_ (fun K hK => ?_); rotate_left 1; (intro w' hCw; (try dsimp only at hCw); go_simp; with_reducible rfl); go_simp; refine hK _ ?_; clear hK K)
                    | (refine Lx.lex_read (v := ?_) rfl (by first | exact Lx.w0 rfl | exact Lx.w1 rfl rfl rfl (by with_reducible rfl)) ?_ (fun K hK => ?_); rotate_left 1; (go_simp; done); go_simp; refine hK _ ?_; clear hK K)
                    | (refine Lx.lex_read (v := ?_) rfl (by first | exact Lx.w0 rfl | exact Lx.w1 rfl rfl rfl (by with_reducible rfl)) ?_ (fun K hK => ?_); rotate_left 1; (go_simp; with_reducible rfl); go_simp; refine hK _ ?_; clear hK K)
                    | (refine Lx.lex_eff rfl (by first | exact Lx.w0 rfl | exact Lx.w1 rfl rfl rfl (by with_reducible rfl)) (fun K hK => ?_); go_simp; (first | (go_at_call 34; refine (fits_any A x.adr n c x.len x.cap _ w.heap.size l x.blocks hn (by exact HL.out.below ((Below.refl _ _).alloc (by omega) _).drew) (by exact HX.out.below ((Below.refl _ _).alloc (by omega) _).drew)).mono ?_; rw [HF.out]; rintro e w' ⟨rfl, rfl⟩) | (go_at_call 36; refine (units_any A x.adr n c x.len x.cap _ w.heap.size l x.blocks hn (by exact HL.out.below ((Below.refl _ _).alloc (by omega) _).drew) (by exact HX.out.below ((Below.refl _ _).alloc (by omega) _).drew) HS.out).mono ?_; rintro e w' ⟨rfl, rfl⟩) | skip); refine hK _ _ (by go_simp) ?_; clear hK K)
                    | (refine Lx.lex_cases rfl rfl rfl (fun hgd K hK => ?_) (fun hgd K hK => ?_) <;> (try simp only [decide_eq_true_eq, decide_eq_false_iff_not] at hgd) <;> (first | (exfalso; omega) | (go_simp; refine hK _ ?_; clear hK K))))
                  all_goals (refine Lx.lex_nil ?_)
                  go_wp2
                  go_ret
                  exact ⟨ret_bool (by rw [hR'.out]), HWW.out.trans (((Below.refl _ _).alloc (by omega) _).drew)⟩
                · have h3' : decide (x.elig < unitsF l x.blocks) = false := by simpa using h3
                  have hR' : Eqn (vBidders l bs) (vbGo l (bs.drop (k + 1)) x.id) := by rw [Eqn, hR.out, if_neg h3]
                  clear hR hf
                  go_wp2
                  refine Lx.region (C := fun w' => w'.cell? ⟨wr.heap.size, 1, none⟩ = some (.int .i64 x.elig)) (hs := [11]) (by kernel_rfl) (by kernel_rfl) (by go_simp) ?_
                  repeat' (first
                    | (refine Lx.lex_no (Lx.n1 rfl rfl rfl (by with_reducible rfl)) (fun K hK => ?_); go_simp; refine hK _ ?_; clear hK K)
                    | (refine Lx.lex_no (Lx.n0 rfl rfl rfl (by with_reducible rfl)) (fun K hK => ?_); go_simp; refine hK _ ?_; clear hK K)
                    | (refine Lx.lex_no (Lx.n2 rfl rfl rfl) (fun K hK => ?_); go_simp; refine hK _ ?_; clear hK K)
                    | (refine Lx.lex_pure (v := ?_) rfl (by first | exact Lx.w0 rfl | exact Lx.w1 rfl rfl rfl (by with_reducible rfl)) ?_ (fun K hK => ?_); rotate_left 1; (intro w' hCw; (try dsimp only at hCw); go_simp; done); go_simp; refine hK _ ?_; clear hK K)
                    | (refine Lx.lex_pure (v := ?_) rfl (by first | exact Lx.w0 rfl | exact Lx.w1 rfl rfl rfl (by with_reducible rfl)) ?_ (fun K hK => ?_); rotate_left 1; (intro w' hCw; (try dsimp only at hCw); go_simp; with_reducible rfl); go_simp; refine hK _ ?_; clear hK K)
                    | (refine Lx.lex_read (v := ?_) rfl (by first | exact Lx.w0 rfl | exact Lx.w1 rfl rfl rfl (by with_reducible rfl)) ?_ (fun K hK => ?_); rotate_left 1; (go_simp; done); go_simp; refine hK _ ?_; clear hK K)
                    | (refine Lx.lex_read (v := ?_) rfl (by first | exact Lx.w0 rfl | exact Lx.w1 rfl rfl rfl (by with_reducible rfl)) ?_ (fun K hK => ?_); rotate_left 1; (go_simp; with_reducible rfl); go_simp; refine hK _ ?_; clear hK K)
                    | (refine Lx.lex_eff rfl (by first | exact Lx.w0 rfl | exact Lx.w1 rfl rfl rfl (by with_reducible rfl)) (fun K hK => ?_); go_simp; (first | (go_at_call 34; refine (fits_any A x.adr n c x.len x.cap _ w.heap.size l x.blocks hn (by exact HL.out.below ((Below.refl _ _).alloc (by omega) _).drew) (by exact HX.out.below ((Below.refl _ _).alloc (by omega) _).drew)).mono ?_; rw [HF.out]; rintro e w' ⟨rfl, rfl⟩) | (go_at_call 36; refine (units_any A x.adr n c x.len x.cap _ w.heap.size l x.blocks hn (by exact HL.out.below ((Below.refl _ _).alloc (by omega) _).drew) (by exact HX.out.below ((Below.refl _ _).alloc (by omega) _).drew) HS.out).mono ?_; rintro e w' ⟨rfl, rfl⟩) | skip); refine hK _ _ (by go_simp) ?_; clear hK K)
                    | (refine Lx.lex_cases rfl rfl rfl (fun hgd K hK => ?_) (fun hgd K hK => ?_) <;> (try simp only [decide_eq_true_eq, decide_eq_false_iff_not] at hgd) <;> (first | (exfalso; omega) | (go_simp; refine hK _ ?_; clear hK K))))
                  all_goals (refine Lx.lex_nil ?_)
                  go_wp2
                  go_roundw
                  case rel => exact ⟨k + 1, x.id, by omega, by go_num, rfl, hR', HWW.out.trans (((Below.refl _ _).alloc (by omega) _).drew)⟩
                  case measure => simp [intOf]; omega
        · have : k = m := by omega
          subst this
          clear HW
          go_wp2
          go_ret
          exact ⟨ret_bool (by rw [HR.out, drop_end (by rw [Hlen.out]; omega)]; rfl), HWW.out⟩
end Go.Proofs.Ytoafkphcfhbnmaa
