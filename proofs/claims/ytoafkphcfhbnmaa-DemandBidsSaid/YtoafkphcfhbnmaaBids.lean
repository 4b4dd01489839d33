/- Contracts of demand.ValidBids and of the reference's Index and Bids. -/
import Derived.Test.YtoafkphcfhbnmaaRef34B
namespace Go.Proofs.Ytoafkphcfhbnmaa
open Go.RowKit

/-- a bid: its numbers and its point -/
structure BidV where
  who : Int
  prod : Int
  chg : Int
  ng : Bool
  na : Option Addr
  nl : Nat
  nc : Nat
  dg : Bool
  da : Option Addr
  dl : Nat
  dc : Nat

def BidV.cell (b : BidV) : Nat → Value
  | 0 => .int .i64 b.who
  | 1 => .int .i64 b.prod
  | 2 => .int .i64 b.chg
  | 3 => .bool b.ng
  | 4 => .slice b.na b.nl b.nc
  | 5 => .bool b.dg
  | _ => .slice b.da b.dl b.dc

def hasId (bs : List Bidr) (id : Int) : Bool := bs.any fun b => decide (b.id = id)

/-- the loop over the bids: the last bidder so far -/
def bidsGo (n : Nat) (bs : List Bidr) : List BidV → Int → Bool
  | [], _ => true
  | b :: r, last =>
    if b.who < last ∨ b.prod < 0 ∨ n ≤ b.prod then false
    else if b.chg < -12 ∨ 12 < b.chg ∨ b.chg = 0 then false
    else if hasId bs b.who = false then false
    else bidsGo n bs r b.who
def bidsF (l : List Prod) (bs : List Bidr) (ds : List BidV) : Bool := if 128 < ds.length then false else if vBidders l bs = false then false else bidsGo l.length bs ds 0

def idxId (id : Int) : List Bidr → Int → Int
  | [], _ => -1
  | b :: r, k => if b.id = id then k else idxId id r (k + 1)
theorem idxId_has (id : Int) : ∀ (bs : List Bidr) (k : Int), 0 ≤ k → decide (0 ≤ idxId id bs k) = hasId bs id := by
  intro bs
  induction bs with
  | nil => intro k _; rfl
  | cons b r ih =>
    intro k hk
    rw [idxId, hasId, List.any_cons]
    by_cases h : b.id = id
    · rw [if_pos h]; simp [h, hk]
    · rw [if_neg h, ih (k + 1) (by omega)]; simp [h, hasId]
theorem idxId_le (id : Int) : ∀ (bs : List Bidr) (k : Int), 0 ≤ k → -1 ≤ idxId id bs k ∧ idxId id bs k ≤ k + bs.length := by
  intro bs
  induction bs with
  | nil => intro k _; simp [idxId]; omega
  | cons b r ih =>
    intro k hk
    rw [idxId]
    split
    · simp; omega
    · have := ih (k + 1) (by omega); simp; omega

theorem vb1_any (x : Bidr) (id : Int) (g : Nat) (w : World) (hg : g < w.heap.size) (hc : w.cell? ⟨g, 0, none⟩ = some (.int .i64 id)) :
    Calls Try.prog 42 #[x.val, .pointer (some ⟨g, 0, none⟩)] w (RetPost (.bool (x.id == id)) w.heap.size w) := by
  unfold Bidr.val
  go_enter Try.func42, Try.ntmps42
  go_wp2
  go_ret
  exact ⟨rfl, (Below.refl _ _).alloc (Nat.le_refl _) _⟩

set_option maxHeartbeats 1000000 in
theorem idxB_any (B : Option Addr) (m d g : Nat) (id : Int) (w : World) (bs : List Bidr) (hm : m ≤ 140) (hb : RowS 4 Bidr.cell w w.heap.size B m bs) (hg : g < w.heap.size) (hc : w.cell? ⟨g, 0, none⟩ = some (.int .i64 id)) :
    Calls Try.prog 50 #[.slice B m d, .func (.func 42) #[] #[.pointer (some ⟨g, 0, none⟩)]] w (RetPost (.int .i64 (idxId id bs 0)) w.heap.size w) := by
  have Hb := Lib.hid hb
  have Hlen := Eqn.mk hb.1
  have Hc := Lib.hid hc
  clear hb hc
  go_enter Try.func50, Try.ntmps50
  go_wp2
  go_loopw [8] (fun i wr => ∃ k : Nat, k ≤ m ∧ i = .int .i64 k ∧ Eqn (idxId id bs 0) (idxId id (bs.drop k) k) ∧ Below w.heap.size w wr) (fun i _ => m - (intOf i).toNat)
  case atStart => exact ⟨0, Nat.zero_le _, rfl, rfl, Below.refl _ _⟩
  case round =>
    obtain ⟨k, hk, rfl, HR, HW⟩ := hrel
    have HWW := Lib.hid HW
    have hws := HW.size
    by_cases hlt : k < m
    · obtain ⟨x, hx, hxd⟩ := drop_at (xs := bs) (k := k) (by rw [Hlen.out]; exact hlt)
      obtain ⟨b, off, rfl, hbl, hc⟩ := (Hb.out.below HW).2 (by omega)
      have c0 := hc k x hx 0 (by omega)
      have c1 := hc k x hx 1 (by omega)
      have c2 := hc k x hx 2 (by omega)
      have c3 := hc k x hx 3 (by omega)
      simp only [Bidr.cell, Nat.add_zero] at c0 c1 c2 c3
      have HCW := Lib.hid ((HW.cell (p := ⟨g, 0, none⟩) hg).trans Hc.out)
      have HR' : Eqn (idxId id bs 0) (if x.id = id then (k : Int) else idxId id (bs.drop (k + 1)) (k + 1)) := by
        have := HR.out; rw [hxd, idxId] at this; exact this
      obtain ⟨xi, xe, xw, xa, xl, xc, xb⟩ := x
      dsimp only at *
      clear hc hx hxd HR HW
      by_cases he : xi = id
      · have hd : (xi == id) = true := by simpa using he
        have HR2 : Eqn (idxId id bs 0) k := by rw [Eqn, HR'.out, if_pos he]
        clear he HR'
        go_wp2_with fail
        refine (vb1_any ⟨xi, xe, xw, xa, xl, xc, xb⟩ id g _ (by omega) HCW.out).mono ?_
        rintro e w1 ⟨rfl, hb1⟩
        have B1 : Hid (Below w.heap.size w w1) := HWW.out.trans (hb1.mono hws)
        clear hb1
        go_wp2_with fail
        go_ret
        exact ⟨by rw [HR2.out]; rfl, B1.out⟩
      · have hd : (xi == id) = false := by simpa using he
        have HR2 : Eqn (idxId id bs 0) (idxId id (bs.drop (k + 1)) (k + 1)) := by rw [Eqn, HR'.out, if_neg he]
        clear he HR'
        go_wp2_with fail
        refine (vb1_any ⟨xi, xe, xw, xa, xl, xc, xb⟩ id g _ (by omega) HCW.out).mono ?_
        rintro e w1 ⟨rfl, hb1⟩
        have B1 : Hid (Below w.heap.size w w1) := HWW.out.trans (hb1.mono hws)
        clear hb1
        go_wp2_with fail
        go_roundw
        case rel => exact ⟨k + 1, by omega, by go_num, HR2, B1.out⟩
        case measure => simp [intOf]; omega
    · have HR2 : Eqn (idxId id bs 0) (-1) := by rw [Eqn, HR.out, drop_end (by rw [Hlen.out]; omega)]; rfl
      clear HR HW
      go_wp2_with fail
      go_ret
      exact ⟨by rw [HR2.out]; rfl, HWW.out⟩

theorem contB_any (B : Option Addr) (m d g : Nat) (id : Int) (w : World) (bs : List Bidr) (hm : m ≤ 140) (hb : RowS 4 Bidr.cell w w.heap.size B m bs) (hg : g < w.heap.size) (hc : w.cell? ⟨g, 0, none⟩ = some (.int .i64 id)) :
    Calls Try.prog 41 #[.slice B m d, .func (.func 42) #[] #[.pointer (some ⟨g, 0, none⟩)]] w (RetPost (.bool (hasId bs id)) w.heap.size w) := by
  have Hb := Lib.hid hb
  have Hc := Lib.hid hc
  have HH := Eqn.mk (idxId_has id bs 0 (Int.le_refl _))
  clear hb hc
  go_enter Try.func41, Try.ntmps41
  go_wp2_with fail
  refine (idxB_any B m d g id _ bs hm Hb.out hg Hc.out).mono ?_
  rintro e w1 ⟨rfl, hb1⟩
  go_wp2_with fail
  go_ret
  exact ⟨by rw [← HH.out]; rfl, hb1⟩

set_option maxHeartbeats 1000000 in
theorem rindex_any (B : Option Addr) (m d : Nat) (id : Int) (w : World) (D : Nat) (bs : List Bidr) (hm : m ≤ 140) (hb : RowS 4 Bidr.cell w D B m bs) :
    Calls Try.prog 43 #[.slice B m d, .int .i64 id] w fun e w' => e = .returned (.int .i64 (idxId id bs 0)) ∧ w = w' := by
  have Hb := Lib.hid hb
  have Hlen := Eqn.mk hb.1
  clear hb
  go_enter Try.func43, Try.ntmps43
  go_wp2
  go_loop [5] (fun i => ∃ k : Nat, k ≤ m ∧ i = .int .i64 k ∧ Eqn (idxId id bs 0) (idxId id (bs.drop k) k)) (fun i => m - (intOf i).toNat)
  case atStart => exact ⟨0, Nat.zero_le _, rfl, rfl⟩
  case round =>
    obtain ⟨k, hk, rfl, HR⟩ := hrel
    by_cases hlt : k < m
    · obtain ⟨x, hx, hxd⟩ := drop_at (xs := bs) (k := k) (by rw [Hlen.out]; exact hlt)
      obtain ⟨b, off, rfl, hbl, hc⟩ := Hb.out.2 (by omega)
      have c0 := hc k x hx 0 (by omega)
      simp only [Bidr.cell, Nat.add_zero] at c0
      have HR' : Eqn (idxId id bs 0) (if x.id = id then (k : Int) else idxId id (bs.drop (k + 1)) (k + 1)) := by
        have := HR.out; rw [hxd, idxId] at this; exact this
      clear hc hx hxd HR
      by_cases he : x.id = id
      · have hd : (x.id == id) = true := by simpa using he
        have HR2 : Eqn (idxId id bs 0) k := by rw [Eqn, HR'.out, if_pos he]
        clear he HR'
        go_wp2
        go_ret
        exact ⟨by rw [HR2.out]; rfl, rfl⟩
      · have hd : (x.id == id) = false := by simpa using he
        have HR2 : Eqn (idxId id bs 0) (idxId id (bs.drop (k + 1)) (k + 1)) := by rw [Eqn, HR'.out, if_neg he]
        clear he HR'
        go_wp2
        go_round
        case rel => exact ⟨k + 1, by omega, by go_num, HR2⟩
        case measure => simp [intOf]; omega
    · have HR2 : Eqn (idxId id bs 0) (-1) := by rw [Eqn, HR.out, drop_end (by rw [Hlen.out]; omega)]; rfl
      clear HR
      go_wp2
      go_ret
      exact ⟨by rw [HR2.out]; rfl, rfl⟩

set_option maxHeartbeats 2000000 in
theorem bids_any (A B X : Option Addr) (n c m d q cq : Nat) (w : World) (l : List Prod) (bs : List Bidr) (ds : List BidV) (hn : n ≤ 140) (hm : m ≤ 140) (hq : q ≤ 140) (hl : RowS 5 Prod.cell w w.heap.size A n l) (hb : BidsAt w w.heap.size B m bs) (hx : RowS 7 BidV.cell w w.heap.size X q ds) :
    Calls Try.prog 31 #[.slice A n c, .slice B m d, .slice X q cq] w (OrdPost (bidsF l bs ds) w.heap.size w) := by
  have Hl := Lib.hid hl
  have Hb := Lib.hid hb
  have Hx := Lib.hid hx
  have Hlen := Eqn.mk hl.1
  have Hxlen := Eqn.mk hx.1
  clear hl hb hx
  by_cases hq8 : 128 < q
  · have HF : Eqn (bidsF l bs ds) false := by unfold bidsF Eqn; rw [if_pos (by rw [Hxlen.out]; exact hq8)]
    go_enter Try.func31, Try.ntmps31
    go_wp2_with fail
    go_ret
    exact ⟨ret_bool (by rw [HF.out]), Below.refl _ _⟩
  · cases hv : vBidders l bs with
    | false =>
      have HV := Eqn.mk hv
      have HF : Eqn (bidsF l bs ds) false := by unfold bidsF Eqn; rw [if_neg (by rw [Hxlen.out]; exact hq8), if_pos hv]
      clear hv
      go_enter Try.func31, Try.ntmps31
      go_wp2_with fail
      refine (vBidders_any A B n c m d _ l bs hn (by omega) Hl.out Hb.out).mono ?_
      rw [HV.out]
      rintro e w1 ⟨rfl, hb1⟩
      go_wp2_with fail
      go_ret
      exact ⟨ret_bool (by rw [HF.out]), hb1⟩
    | true =>
      have HV := Eqn.mk hv
      have HF : Eqn (bidsF l bs ds) (bidsGo n bs ds 0) := by unfold bidsF Eqn; rw [if_neg (by rw [Hxlen.out]; exact hq8), if_neg (by rw [hv]; simp), Hlen.out]
      clear hv
      go_enter Try.func31, Try.ntmps31
      go_wp2_with fail
      refine (vBidders_any A B n c m d _ l bs hn (by omega) Hl.out Hb.out).mono ?_
      rw [HV.out]
      rintro e w1 ⟨rfl, hb1⟩
      have B1 := Lib.hid hb1
      clear hb1
      go_wp2_with fail
      go_loopw [7, 21] (fun t i wr => ∃ (k : Nat) (last : Int), k ≤ q ∧ i = .int .i64 k ∧ t = .int .i64 last ∧ Eqn (bidsF l bs ds) (bidsGo n bs (ds.drop k) last) ∧ Below w.heap.size w wr) (fun _ i _ => q - (intOf i).toNat)
      case atStart => exact ⟨0, 0, Nat.zero_le _, rfl, rfl, HF, B1.out⟩
      case round =>
        obtain ⟨k, last, hk, rfl, rfl, HR, HW⟩ := hrel
        have HWW := Lib.hid HW
        have hws := HW.size
        by_cases hlt : k < q
        · obtain ⟨x, hx, hxd⟩ := drop_at (xs := ds) (k := k) (by rw [Hxlen.out]; exact hlt)
          obtain ⟨b, off, rfl, hbl, hc⟩ := (Hx.out.below HW).2 (by omega)
          have c0 := hc k x hx 0 (by omega)
          have c1 := hc k x hx 1 (by omega)
          have c2 := hc k x hx 2 (by omega)
          have c3 := hc k x hx 3 (by omega)
          have c4 := hc k x hx 4 (by omega)
          have c5 := hc k x hx 5 (by omega)
          have c6 := hc k x hx 6 (by omega)
          simp only [BidV.cell, Nat.add_zero] at c0 c1 c2 c3 c4 c5 c6
          have hbs : b < wr.heap.size := by omega
          have HR' : Eqn (bidsF l bs ds) (if x.who < last ∨ x.prod < 0 ∨ n ≤ x.prod then false
            else if x.chg < -12 ∨ 12 < x.chg ∨ x.chg = 0 then false
            else if hasId bs x.who = false then false
            else bidsGo n bs (ds.drop (k + 1)) x.who) := by
            have := HR.out; rw [hxd, bidsGo] at this; exact this
          obtain ⟨xw, xp, xg, r0, r1, r2, r3, r4, r5, r6, r7⟩ := x
          dsimp only at *
          clear hc hx hxd HR HW
          by_cases h1 : xw < last ∨ xp < 0 ∨ n ≤ xp
          · have HR2 : Eqn (bidsF l bs ds) false := by rw [Eqn, HR'.out, if_pos h1]
            clear HR'
            rcases h1 with h1 | h1 | h1
            all_goals
              go_wp2_with fail
              all_goals
                go_ret
                exact ⟨ret_bool (by rw [HR2.out]), HWW.out.alloc hws _⟩
          · obtain ⟨n1, n2, n3⟩ : ¬ xw < last ∧ ¬ xp < 0 ∧ ¬ n ≤ xp := by omega
            by_cases h2 : xg < -12 ∨ 12 < xg ∨ xg = 0
            · have HR2 : Eqn (bidsF l bs ds) false := by rw [Eqn, HR'.out, if_neg h1, if_pos h2]
              clear HR' h1
              rcases h2 with h2 | h2 | h2
              · go_wp2_with fail
                go_ret
                exact ⟨ret_bool (by rw [HR2.out]), HWW.out.alloc hws _⟩
              · go_wp2_with fail
                all_goals
                  go_ret
                  exact ⟨ret_bool (by rw [HR2.out]), HWW.out.alloc hws _⟩
              · have hz : (xg == 0) = true := by simpa using h2
                have n4 : ¬ xg < -12 := by omega
                have n5 : ¬ 12 < xg := by omega
                clear h2
                go_wp2_with fail
                go_ret
                exact ⟨ret_bool (by rw [HR2.out]), HWW.out.alloc hws _⟩
            · obtain ⟨n4, n5, n6⟩ : ¬ xg < -12 ∧ ¬ 12 < xg ∧ ¬ xg = 0 := by omega
              have hz : (xg == 0) = false := by simpa using n6
              have B2 : Hid (Below w.heap.size w (wr.alloc (.cells #[.int .i64 xw, .int .i64 xp, .int .i64 xg, .bool r0, .slice r1 r2 r3, .bool r4, .slice r5 r6 r7] 72))) := HWW.out.alloc hws _
              have B2' : Hid (Below wr.heap.size wr (wr.alloc (.cells #[.int .i64 xw, .int .i64 xp, .int .i64 xg, .bool r0, .slice r1 r2 r3, .bool r4, .slice r5 r6 r7] 72))) := (Below.refl _ _).alloc (Nat.le_refl _) _
              cases hh : hasId bs xw with
              | false =>
                have HR2 : Eqn (bidsF l bs ds) false := by rw [Eqn, HR'.out, if_neg h1, if_neg h2, if_pos hh]
                have HH := Eqn.mk hh
                clear HR' h1 h2 hh n6
                go_wp2_with fail
                refine (contB_any B m d wr.heap.size xw _ bs hm (by exact Hb.out.1.keep B2.out) (by simp) (by go_simp)).mono ?_
                rw [HH.out]
                rintro e w3 ⟨rfl, hb3⟩
                have B3 : Hid (Below w.heap.size w w3) := B2.out.trans (hb3.mono B2.out.size)
                clear hb3
                go_wp2_with fail
                go_ret
                exact ⟨ret_bool (by rw [HR2.out]), B3.out⟩
              | true =>
                have HR2 : Eqn (bidsF l bs ds) (bidsGo n bs (ds.drop (k + 1)) xw) := by rw [Eqn, HR'.out, if_neg h1, if_neg h2, if_neg (by rw [hh]; simp)]
                have HH := Eqn.mk hh
                clear HR' h1 h2 hh n6
                go_wp2_with fail
                refine (contB_any B m d wr.heap.size xw _ bs hm (by exact Hb.out.1.keep B2.out) (by simp) (by go_simp)).mono ?_
                rw [HH.out]
                rintro e w3 ⟨rfl, hb3⟩
                have B3 : Hid (Below w.heap.size w w3) := B2.out.trans (hb3.mono B2.out.size)
                have q3 := fun o => hb3.cell (p := ⟨wr.heap.size, o, none⟩) (by simp)
                clear hb3
                go_wp2_with fail
                go_roundw
                case rel => exact ⟨k + 1, xw, by omega, by go_num, rfl, HR2, B3.out⟩
                case measure => simp [intOf]; omega
        · have HR2 : Eqn (bidsF l bs ds) true := by rw [Eqn, HR.out, drop_end (by rw [Hxlen.out]; omega)]; rfl
          clear HR HW
          go_wp2_with fail
          go_ret
          exact ⟨ret_bool (by rw [HR2.out]), HWW.out⟩
end Go.Proofs.Ytoafkphcfhbnmaa
