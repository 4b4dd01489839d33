/- Contract of table, for each function that is handed to it. -/
import Derived.Test.YteckijkmcafpaaaArea39
namespace Go.Proofs.Yteckijkmcafpaaa
open Go.RowKit

theorem arr_info : (Try.prog.info? 78).map (fun i => (i.zero, i.size, i.bytes)) = some (some (.agg (List.replicate 12 (.int .i64 0)).toArray), 12, 96) := by kernel_rfl

theorem made12 (n : Nat) : (madeCells (Value.agg (List.replicate 12 (.int .i64 0)).toArray).cells (n * 12)) = (cellsF n (fun _ _ => 0)).toArray := by
  have hz : (Value.agg (List.replicate 12 (.int .i64 0)).toArray).cells = (List.replicate 12 (Value.int .i64 0)).toArray := by kernel_rfl
  rw [hz]
  unfold madeCells cellsF tabL
  apply Array.toList_inj.1
  rw [Array.toList_map, Array.toList_range]
  refine List.map_congr_left fun i _ => ?_
  have h12 : i % 12 < 12 := Nat.mod_lt _ (by omega)
  have : ∀ k : Fin 12, ((List.replicate 12 (Value.int .i64 0)).toArray)[k.1]! = Value.int .i64 0 := fun k => by
    rw [getElem!_pos _ _ (by simp)]; simp only [List.getElem_toArray, List.getElem_replicate]
  exact this ⟨i % 12, h12⟩

theorem mk_tab (N : Nat) (h : N ≤ 1000) (w : World) : (Instr.makeSlice 65 (.int .i64 (N : Int)) (.int .i64 (N : Int))).run Try.prog w = .ok (.slice (some ⟨w.heap.size, 0, none⟩) N N) (w.alloc (.cells (cellsF N (fun _ _ => 0)).toArray 78)) := by
  obtain ⟨i, hi, hz, hs, hb⟩ := info_get arr_info
  have hr := run_make (P := Try.prog) w 65 78 i _ Try.underlying65 hi hz .i64 .i64 N N (by omega) (Int.le_refl _) (by rw [hb]; omega) (by omega)
  simp only [Int.toNat_natCast, hs, made12] at hr
  exact hr

/-- the table after some wishes -/
def tabG (l : List Claim) (P : Int → Bool) : List Wish → (Nat → Nat → Int) → Nat → Nat → Int
  | [], F => F
  | x :: r, F => tabG l P r (if P x.win = true then updF F (findC l x.win).toNat x.start.toNat x.val else F)
def wok (l : List Claim) (x : Wish) : Prop := 0 ≤ findC l x.win ∧ 0 ≤ x.start ∧ x.start < 12
theorem vw_ok {b : Int} {l : List Claim} (hv : validF b l = true) : ∀ (ws : List Wish) (prev : Option Wish), vwGo b l ws prev = true → ∀ x ∈ ws, wok l x ∧ 0 ≤ x.val ∧ x.val ≤ 1099511627776 := by
  intro ws
  induction ws with
  | nil => intro _ _ x hx; cases hx
  | cons y r ih =>
    intro prev h x hx
    rw [vwGo] at h
    split at h
    · cases h
    · rename_i hb
      split at h
      · cases h
      · rcases List.mem_cons.1 hx with rfl | hx
        · unfold badW at hb
          have hv' := validF_all hv
          have : 1 ≤ cntAt l (findC l x.win) := by
            rcases findC_cases l x.win with h1 | ⟨i, c, h1, h2, _⟩
            · omega
            · unfold cntAt
              rw [h1, Int.toNat_natCast, h2]
              exact (hv'.2.2.2 c (List.mem_of_getElem? h2)).2.2.1
          exact ⟨⟨by omega, by omega, by omega⟩, by omega, by omega⟩
        · exact ih (some y) h x hx

/-- a new table is returned -/
def NewTab (n : Nat) (F : Nat → Nat → Int) (w : World) (e : Ending) (w' : World) : Prop :=
  ∃ gt, e = .returned (.slice (some ⟨gt, 0, none⟩) n n) ∧ w.heap.size ≤ gt ∧ Blk w' gt 78 (cellsF n F) ∧ Below w.heap.size w w'

theorem all_any (x : Int) (w : World) : Calls Try.prog 37 #[.int .i64 x] w (RetPost (.bool true) w.heap.size w) := by
  go_enter Try.func37, Try.ntmps37
  go_wp2
  go_ret
  exact ⟨rfl, Below.refl _ _⟩

/-- Best's function literal: whether a number is among the winners -/
theorem best1_any (x : Int) (g : Nat) (W : Option Addr) (p pc : Nat) (w : World) (D : Nat) (wn : List Int) (hp : p ≤ 1000) (hc : w.cell? ⟨g, 0, none⟩ = some (.slice W p pc)) (hw : Row1 intV w D W p wn) :
    Calls Try.prog 42 #[.int .i64 x, .pointer (some ⟨g, 0, none⟩)] w (RetPost (.bool (hasF wn x)) w.heap.size w) := by
  have Hw := Lib.hid hw
  clear hw
  go_enter Try.func42, Try.ntmps42
  go_wp2_with fail
  refine (contains_any W p pc x _ D wn hp Hw.out).mono ?_
  rintro e w1 ⟨rfl, rfl⟩
  go_wp2_with fail
  go_ret
  exact ⟨rfl, Below.refl _ _⟩
theorem value1_any (x : Int) (g : Nat) (W : Option Addr) (p pc : Nat) (w : World) (D : Nat) (wn : List Int) (hp : p ≤ 1000) (hc : w.cell? ⟨g, 0, none⟩ = some (.slice W p pc)) (hw : Row1 intV w D W p wn) :
    Calls Try.prog 48 #[.int .i64 x, .pointer (some ⟨g, 0, none⟩)] w (RetPost (.bool (hasF wn x)) w.heap.size w) := by
  have Hw := Lib.hid hw
  clear hw
  go_enter Try.func48, Try.ntmps48
  go_wp2_with fail
  refine (contains_any W p pc x _ D wn hp Hw.out).mono ?_
  rintro e w1 ⟨rfl, rfl⟩
  go_wp2_with fail
  go_ret
  exact ⟨rfl, Below.refl _ _⟩

set_option maxRecDepth 100000 in
set_option maxHeartbeats 4000000 in
theorem table_all (A B : Option Addr) (n c m d : Nat) (w : World) (l : List Claim) (ws : List Wish) (hn : n ≤ 1000) (hm : m ≤ 1000) (hl : RowS 2 Claim.cell w w.heap.size A n l) (hw : RowS 3 Wish.cell w w.heap.size B m ws) (hok : ∀ x ∈ ws, wok l x) :
    Calls Try.prog 36 #[.slice A n c, .slice B m d, .func (.func 37) #[] #[]] w (NewTab n (tabG l (fun _ => true) ws (fun _ _ => 0)) w) := by
  have Hl := Lib.hid hl
  have Hw := Lib.hid hw
  have Hlen := Eqn.mk hl.1
  have Hwl := Eqn.mk hw.1
  have HOK := Lib.hid hok
  have mkT := fun w => mk_tab n hn w
  clear hl hw hok
  have T0 : Hid (Blk (w.alloc (.cells (cellsF n (fun _ _ => 0)).toArray 78)) w.heap.size 78 (cellsF n (fun _ _ => 0))) := Lib.hid (blk_new w _ _)
  have B0 : Hid (Below w.heap.size w (w.alloc (.cells (cellsF n (fun _ _ => 0)).toArray 78))) := Lib.hid ((Below.refl _ _).alloc (Nat.le_refl _) _)
  go_enter Try.func36, Try.ntmps36
  go_wp2_with fail
  go_loopw [15] (fun i wr => ∃ (k : Nat) (FF : Nat → Nat → Int), k ≤ m ∧ i = .int .i64 k ∧ Eqn (tabG l (fun _ => true) ws (fun _ _ => 0)) (tabG l (fun _ => true) (ws.drop k) FF) ∧ Blk wr w.heap.size 78 (cellsF n FF) ∧ Below w.heap.size w wr) (fun i _ => m - (intOf i).toNat)
  case atStart => exact ⟨0, _, Nat.zero_le _, rfl, rfl, T0.out, B0.out⟩
  case round =>
    clear T0 B0
    obtain ⟨k, FF, hk, rfl, HR, HT, HW⟩ := hrel
    have HWW := Lib.hid HW
    have HTT := Lib.hid HT
    have hws := HW.size
    by_cases hlt : k < m
    · obtain ⟨x, hx, hxd⟩ := drop_at (xs := ws) (k := k) (by rw [Hwl.out]; exact hlt)
      obtain ⟨g, off, rfl, hg, hc⟩ := (Hw.out.below HW).2 (by omega)
      have q0 := hc k x hx 0 (by omega)
      have q1 := hc k x hx 1 (by omega)
      have q2 := hc k x hx 2 (by omega)
      simp only [Wish.cell, Nat.add_zero] at q0 q1 q2
      have hgs : g < wr.heap.size := by omega
      have j0 : (k : Int) < (m : Int) := by omega
      obtain ⟨o1, o2, o3⟩ := HOK.out x (List.mem_of_getElem? hx)
      have HR' : Eqn (tabG l (fun _ => true) ws (fun _ _ => 0)) (tabG l (fun _ => true) (ws.drop (k + 1)) (if (fun _ => true) x.win = true then updF FF (findC l x.win).toNat x.start.toNat x.val else FF)) := by
        have := HR.out; rw [hxd, tabG] at this; exact this
      have hfi : ∃ i : Nat, findC l x.win = i ∧ i < n := by
        rcases findC_cases l x.win with h1 | ⟨i, cc, h1, h2, _⟩
        · omega
        · exact ⟨i, h1, by rw [← Hlen.out]; exact (List.getElem?_eq_some_iff.1 h2).1⟩
      obtain ⟨i, hii, hin⟩ := hfi
      obtain ⟨s, hs⟩ := Int.eq_ofNat_of_zero_le o2
      obtain ⟨wo, rfl⟩ : ∃ wo : World, wo = wr := ⟨_, rfl⟩
      obtain ⟨xw, xs, xv⟩ := x
      dsimp only at *
      subst hs
      rw [hii, Int.toNat_natCast, Int.toNat_natCast] at HR'
      have HII := Eqn.mk hii
      have BA : Hid (Below w.heap.size w (wo.alloc (.cells #[.int .i64 xw, .int .i64 (s : Int), .int .i64 xv] 61))) := Lib.hid (HWW.out.alloc hws _)
      have TA : Hid (Blk (wo.alloc (.cells #[.int .i64 xw, .int .i64 (s : Int), .int .i64 xv] 61)) w.heap.size 78 (cellsF n FF)) := Lib.hid (HT.alloc _)
      have s12 : s < 12 := by omega
      have hlo : w.heap.size < wo.heap.size := HT.lt
      clear hx hxd HR HW hc hii HT o1 o2 o3
      go_wp2_with fail
      refine (all_any xw _).mono ?_
      rintro e w2 ⟨rfl, hb2⟩
      have p0 := (hb2.cell (p := ⟨wo.heap.size, 0, none⟩) (by simp)).trans (show _ = some (Value.int .i64 xw) by go_simp)
      have p1 := (hb2.cell (p := ⟨wo.heap.size, 1, none⟩) (by simp)).trans (show _ = some (Value.int .i64 (s : Int)) by go_simp)
      have p2 := (hb2.cell (p := ⟨wo.heap.size, 2, none⟩) (by simp)).trans (show _ = some (Value.int .i64 xv) by go_simp)
      have z2 : wo.heap.size < w2.heap.size := Nat.lt_of_lt_of_le (by simp) hb2.size
      have B2 : Hid (Below w.heap.size w w2) := Lib.hid (BA.out.trans (hb2.mono BA.out.size))
      have T2 : Hid (Blk w2 w.heap.size 78 (cellsF n FF)) := Lib.hid (TA.out.keep hb2)
      clear hb2 BA TA q0 q1 q2 HWW HTT hgs
      rw [if_pos trivial] at HR'
      have HR2 := HR'
      clear HR'
      go_wp2_with fail
      refine Lx.region (C := fun w' => w'.cell? ⟨wo.heap.size, 1, none⟩ = some (.int .i64 (s : Int)) ∧ w'.cell? ⟨wo.heap.size, 2, none⟩ = some (.int .i64 xv)) (hs := [6, 8]) (by kernel_rfl) (by kernel_rfl) (by exact ⟨p1, p2⟩) ?_
      have i0 : (0 : Int) ≤ (i : Int) := by omega
      have i1 : (i : Int) < (n : Int) := by omega
      have i2 : (s : Int) < 12 := by omega
      repeat' (first
        | (refine Lx.lex_no (Lx.n1 rfl rfl rfl (by with_reducible rfl)) (fun K hK => ?_); go_simp; refine hK _ ?_; clear hK K)
        | (refine Lx.lex_no (Lx.n0 rfl rfl rfl (by with_reducible rfl)) (fun K hK => ?_); go_simp; refine hK _ ?_; clear hK K)
        | (refine Lx.lex_no (Lx.n2 rfl rfl rfl) (fun K hK => ?_); go_simp; refine hK _ ?_; clear hK K)
        | (refine Lx.lex_pure (v := ?_) rfl (by first | exact Lx.w0 rfl | exact Lx.w1 rfl rfl rfl (by with_reducible rfl)) ?_ (fun K hK => ?_); rotate_left 1; (intro w' hCw; (try dsimp only at hCw); go_simp; done); go_simp; refine hK _ ?_; clear hK K)
        | (refine Lx.lex_pure (v := ?_) rfl (by first | exact Lx.w0 rfl | exact Lx.w1 rfl rfl rfl (by with_reducible rfl)) ?_ (fun K hK => ?_); rotate_left 1; (intro w' hCw; (try dsimp only at hCw); go_simp; with_reducible rfl); go_simp; refine hK _ ?_; clear hK K)
        | (refine Lx.lex_read (v := ?_) rfl (by first | exact Lx.w0 rfl | exact Lx.w1 rfl rfl rfl (by with_reducible rfl)) ?_ (fun K hK => ?_); rotate_left 1; (go_simp; done); go_simp; refine hK _ ?_; clear hK K)
        | (refine Lx.lex_read (v := ?_) rfl (by first | exact Lx.w0 rfl | exact Lx.w1 rfl rfl rfl (by with_reducible rfl)) ?_ (fun K hK => ?_); rotate_left 1; (go_simp; with_reducible rfl); go_simp; refine hK _ ?_; clear hK K)
        | (refine Lx.lex_eff rfl (by first | exact Lx.w0 rfl | exact Lx.w1 rfl rfl rfl (by with_reducible rfl)) (fun K hK => ?_); go_simp; (first | (go_at_call 33; refine (claim_any A n c xw _ l hn (by exact (Hl.out.below B2.out.drew).up B2.out.size)).mono ?_; rw [HII.out]; rintro e w3 ⟨rfl, hb3⟩; have r1 := (hb3.cell (p := ⟨wo.heap.size, 1, none⟩) z2).trans p1; have r2 := (hb3.cell (p := ⟨wo.heap.size, 2, none⟩) z2).trans p2; have B3 : Hid (Below w.heap.size w w3) := Lib.hid (B2.out.drew.trans (hb3.mono B2.out.size)); have T3 : Hid (Blk w3 w.heap.size 78 (cellsF n FF)) := Lib.hid (T2.out.drew.keep hb3); have y1 := T3.out.cell (tabL_at (show i * 12 + s < n * 12 by omega)); have y2 := T3.out.frozen (i * 12 + s); have y3 := T3.out.lt; have n1 : w.heap.size ≠ wo.heap.size := Nat.ne_of_lt (Nat.lt_of_lt_of_le hlo (Nat.le_refl _)); clear hb3) | skip); refine hK _ _ (by refine ⟨?_, ?_⟩ <;> (first | assumption | (refine cell_set ?_ ?_ <;> assumption))) ?_; clear hK K)
        | (refine Lx.lex_cases rfl rfl rfl (fun hgd K hK => ?_) (fun hgd K hK => ?_) <;> (try simp only [decide_eq_true_eq, decide_eq_false_iff_not] at hgd) <;> (first | (exfalso; omega) | (go_simp; refine hK _ ?_; clear hK K))))
      all_goals (refine Lx.lex_nil ?_)
      go_wp2_with fail
      go_roundw
      case rel => exact ⟨k + 1, updF FF i s xv, by omega, by go_num, HR2, cellsF_set T3.out s12 xv, B3.out.setCell (Nat.le_refl _) _⟩
      case measure => simp [intOf]; omega
    · have HB : Eqn (tabG l (fun _ => true) ws (fun _ _ => 0)) FF := by
        rw [Eqn, HR.out, drop_end (by rw [Hwl.out]; omega)]; rfl
      clear HW HR HT
      go_wp2_with fail
      go_ret
      exact ⟨w.heap.size, rfl, Nat.le_refl _, by rw [HB.out]; exact HTT.out, HWW.out⟩

set_option maxRecDepth 100000 in
set_option maxHeartbeats 4000000 in
theorem table_best (A B : Option Addr) (n c m d : Nat) (w : World) (l : List Claim) (ws : List Wish) (gw : Nat) (W : Option Addr) (p pc : Nat) (wn : List Int) (hp : p ≤ 1000) (hgw : gw < w.heap.size) (hcw : w.cell? ⟨gw, 0, none⟩ = some (.slice W p pc)) (hwn : Row1 intV w w.heap.size W p wn) (hn : n ≤ 1000) (hm : m ≤ 1000) (hl : RowS 2 Claim.cell w w.heap.size A n l) (hw : RowS 3 Wish.cell w w.heap.size B m ws) (hok : ∀ x ∈ ws, wok l x) :
    Calls Try.prog 36 #[.slice A n c, .slice B m d, .func (.func 42) #[] #[.pointer (some ⟨gw, 0, none⟩)]] w (NewTab n (tabG l (hasF wn) ws (fun _ _ => 0)) w) := by
  have Hl := Lib.hid hl
  have Hw := Lib.hid hw
  have Hlen := Eqn.mk hl.1
  have Hwl := Eqn.mk hw.1
  have HOK := Lib.hid hok
  have HCW := Lib.hid hcw
  have HWN := Lib.hid hwn
  clear hcw hwn
  have mkT := fun w => mk_tab n hn w
  clear hl hw hok
  have T0 : Hid (Blk (w.alloc (.cells (cellsF n (fun _ _ => 0)).toArray 78)) w.heap.size 78 (cellsF n (fun _ _ => 0))) := Lib.hid (blk_new w _ _)
  have B0 : Hid (Below w.heap.size w (w.alloc (.cells (cellsF n (fun _ _ => 0)).toArray 78))) := Lib.hid ((Below.refl _ _).alloc (Nat.le_refl _) _)
  go_enter Try.func36, Try.ntmps36
  go_wp2_with fail
  go_loopw [15] (fun i wr => ∃ (k : Nat) (FF : Nat → Nat → Int), k ≤ m ∧ i = .int .i64 k ∧ Eqn (tabG l (hasF wn) ws (fun _ _ => 0)) (tabG l (hasF wn) (ws.drop k) FF) ∧ Blk wr w.heap.size 78 (cellsF n FF) ∧ Below w.heap.size w wr) (fun i _ => m - (intOf i).toNat)
  case atStart => exact ⟨0, _, Nat.zero_le _, rfl, rfl, T0.out, B0.out⟩
  case round =>
    clear T0 B0
    obtain ⟨k, FF, hk, rfl, HR, HT, HW⟩ := hrel
    have HWW := Lib.hid HW
    have HTT := Lib.hid HT
    have hws := HW.size
    by_cases hlt : k < m
    · obtain ⟨x, hx, hxd⟩ := drop_at (xs := ws) (k := k) (by rw [Hwl.out]; exact hlt)
      obtain ⟨g, off, rfl, hg, hc⟩ := (Hw.out.below HW).2 (by omega)
      have q0 := hc k x hx 0 (by omega)
      have q1 := hc k x hx 1 (by omega)
      have q2 := hc k x hx 2 (by omega)
      simp only [Wish.cell, Nat.add_zero] at q0 q1 q2
      have hgs : g < wr.heap.size := by omega
      have j0 : (k : Int) < (m : Int) := by omega
      obtain ⟨o1, o2, o3⟩ := HOK.out x (List.mem_of_getElem? hx)
      have HR' : Eqn (tabG l (hasF wn) ws (fun _ _ => 0)) (tabG l (hasF wn) (ws.drop (k + 1)) (if (hasF wn) x.win = true then updF FF (findC l x.win).toNat x.start.toNat x.val else FF)) := by
        have := HR.out; rw [hxd, tabG] at this; exact this
      have hfi : ∃ i : Nat, findC l x.win = i ∧ i < n := by
        rcases findC_cases l x.win with h1 | ⟨i, cc, h1, h2, _⟩
        · omega
        · exact ⟨i, h1, by rw [← Hlen.out]; exact (List.getElem?_eq_some_iff.1 h2).1⟩
      obtain ⟨i, hii, hin⟩ := hfi
      obtain ⟨s, hs⟩ := Int.eq_ofNat_of_zero_le o2
      obtain ⟨wo, rfl⟩ : ∃ wo : World, wo = wr := ⟨_, rfl⟩
      obtain ⟨xw, xs, xv⟩ := x
      dsimp only at *
      subst hs
      rw [hii, Int.toNat_natCast, Int.toNat_natCast] at HR'
      have HII := Eqn.mk hii
      have BA : Hid (Below w.heap.size w (wo.alloc (.cells #[.int .i64 xw, .int .i64 (s : Int), .int .i64 xv] 61))) := Lib.hid (HWW.out.alloc hws _)
      have TA : Hid (Blk (wo.alloc (.cells #[.int .i64 xw, .int .i64 (s : Int), .int .i64 xv] 61)) w.heap.size 78 (cellsF n FF)) := Lib.hid (HT.alloc _)
      have s12 : s < 12 := by omega
      have hlo : w.heap.size < wo.heap.size := HT.lt
      clear hx hxd HR HW hc hii HT o1 o2 o3
      go_wp2_with fail
      refine (best1_any xw gw W p pc _ w.heap.size wn hp (by exact (BA.out.cell (p := ⟨gw, 0, none⟩) hgw).trans HCW.out) (by exact HWN.out.below BA.out)).mono ?_
      rintro e w2 ⟨rfl, hb2⟩
      have p0 := (hb2.cell (p := ⟨wo.heap.size, 0, none⟩) (by simp)).trans (show _ = some (Value.int .i64 xw) by go_simp)
      have p1 := (hb2.cell (p := ⟨wo.heap.size, 1, none⟩) (by simp)).trans (show _ = some (Value.int .i64 (s : Int)) by go_simp)
      have p2 := (hb2.cell (p := ⟨wo.heap.size, 2, none⟩) (by simp)).trans (show _ = some (Value.int .i64 xv) by go_simp)
      have z2 : wo.heap.size < w2.heap.size := Nat.lt_of_lt_of_le (by simp) hb2.size
      have B2 : Hid (Below w.heap.size w w2) := Lib.hid (BA.out.trans (hb2.mono BA.out.size))
      have T2 : Hid (Blk w2 w.heap.size 78 (cellsF n FF)) := Lib.hid (TA.out.keep hb2)
      clear hb2 BA TA q0 q1 q2 HWW HTT hgs
      cases hh : hasF wn xw with
      | true =>
        rw [hh, if_pos rfl] at HR'
        have HR2 := Lib.hid HR'
        have HR2 := HR2.out
        clear HR' hh
        go_wp2_with fail
        refine Lx.region (C := fun w' => w'.cell? ⟨wo.heap.size, 1, none⟩ = some (.int .i64 (s : Int)) ∧ w'.cell? ⟨wo.heap.size, 2, none⟩ = some (.int .i64 xv)) (hs := [6, 8]) (by kernel_rfl) (by kernel_rfl) (by exact ⟨p1, p2⟩) ?_
        have i0 : (0 : Int) ≤ (i : Int) := by omega
        have i1 : (i : Int) < (n : Int) := by omega
        have i2 : (s : Int) < 12 := by omega
        repeat' (first
          | (refine Lx.lex_no (Lx.n1 rfl rfl rfl (by with_reducible rfl)) (fun K hK => ?_); go_simp; refine hK _ ?_; clear hK K)
          | (refine Lx.lex_no (Lx.n0 rfl rfl rfl (by with_reducible rfl)) (fun K hK => ?_); go_simp; refine hK _ ?_; clear hK K)
          | (refine Lx.lex_no (Lx.n2 rfl rfl rfl) (fun K hK => ?_); go_simp; refine hK _ ?_; clear hK K)
          | (refine Lx.lex_pure (v := ?_) rfl (by first | exact Lx.w0 rfl | exact Lx.w1 rfl rfl rfl (by with_reducible rfl)) ?_ (fun K hK => ?_); rotate_left 1; (intro w' hCw; (try dsimp only at hCw); go_simp; done); go_simp; refine hK _ ?_; clear hK K)
          | (refine Lx.lex_pure (v := ?_) rfl (by first | exact Lx.w0 rfl | exact Lx.w1 rfl rfl rfl (by with_reducible rfl)) ?_ (fun K hK => ?_); rotate_left 1; (intro w' hCw; (try dsimp only at hCw); go_simp; with_reducible rfl); go_simp; refine hK _ ?_; clear hK K)
          | (refine Lx.lex_read (v := ?_) rfl (by first | exact Lx.w0 rfl | exact Lx.w1 rfl rfl rfl (by with_reducible rfl)) ?_ (fun K hK => ?_); rotate_left 1; (go_simp; done); go_simp; refine hK _ ?_; clear hK K)
          | (refine Lx.lex_read (v := ?_) rfl (by first | exact Lx.w0 rfl | exact Lx.w1 rfl rfl rfl (by with_reducible rfl)) ?_ (fun K hK => ?_); rotate_left 1; (go_simp; with_reducible rfl); go_simp; refine hK _ ?_; clear hK K)
          | (refine Lx.lex_eff rfl (by first | exact Lx.w0 rfl | exact Lx.w1 rfl rfl rfl (by with_reducible rfl)) (fun K hK => ?_); go_simp; (first | (go_at_call 33; refine (claim_any A n c xw _ l hn (by exact (Hl.out.below B2.out.drew).up B2.out.size)).mono ?_; rw [HII.out]; rintro e w3 ⟨rfl, hb3⟩; have r1 := (hb3.cell (p := ⟨wo.heap.size, 1, none⟩) z2).trans p1; have r2 := (hb3.cell (p := ⟨wo.heap.size, 2, none⟩) z2).trans p2; have B3 : Hid (Below w.heap.size w w3) := Lib.hid (B2.out.drew.trans (hb3.mono B2.out.size)); have T3 : Hid (Blk w3 w.heap.size 78 (cellsF n FF)) := Lib.hid (T2.out.drew.keep hb3); have y1 := T3.out.cell (tabL_at (show i * 12 + s < n * 12 by omega)); have y2 := T3.out.frozen (i * 12 + s); have y3 := T3.out.lt; have n1 : w.heap.size ≠ wo.heap.size := Nat.ne_of_lt (Nat.lt_of_lt_of_le hlo (Nat.le_refl _)); clear hb3) | skip); refine hK _ _ (by refine ⟨?_, ?_⟩ <;> (first | assumption | (refine cell_set ?_ ?_ <;> assumption))) ?_; clear hK K)
          | (refine Lx.lex_cases rfl rfl rfl (fun hgd K hK => ?_) (fun hgd K hK => ?_) <;> (try simp only [decide_eq_true_eq, decide_eq_false_iff_not] at hgd) <;> (first | (exfalso; omega) | (go_simp; refine hK _ ?_; clear hK K))))
        all_goals (refine Lx.lex_nil ?_)
        go_wp2_with fail
        go_roundw
        case rel => exact ⟨k + 1, updF FF i s xv, by omega, by go_num, HR2, cellsF_set T3.out s12 xv, B3.out.setCell (Nat.le_refl _) _⟩
        case measure => simp [intOf]; omega
      | false =>
        rw [hh, if_neg (by simp)] at HR'
        have HR2 := HR'
        clear HR' hh
        go_wp2_with fail
        go_roundw
        case rel => exact ⟨k + 1, FF, by omega, by go_num, HR2, T2.out, B2.out⟩
        case measure => simp [intOf]; omega
    · have HB : Eqn (tabG l (hasF wn) ws (fun _ _ => 0)) FF := by
        rw [Eqn, HR.out, drop_end (by rw [Hwl.out]; omega)]; rfl
      clear HW HR HT
      go_wp2_with fail
      go_ret
      exact ⟨w.heap.size, rfl, Nat.le_refl _, by rw [HB.out]; exact HTT.out, HWW.out⟩

set_option maxRecDepth 100000 in
set_option maxHeartbeats 4000000 in
theorem table_value (A B : Option Addr) (n c m d : Nat) (w : World) (l : List Claim) (ws : List Wish) (gw : Nat) (W : Option Addr) (p pc : Nat) (wn : List Int) (hp : p ≤ 1000) (hgw : gw < w.heap.size) (hcw : w.cell? ⟨gw, 0, none⟩ = some (.slice W p pc)) (hwn : Row1 intV w w.heap.size W p wn) (hn : n ≤ 1000) (hm : m ≤ 1000) (hl : RowS 2 Claim.cell w w.heap.size A n l) (hw : RowS 3 Wish.cell w w.heap.size B m ws) (hok : ∀ x ∈ ws, wok l x) :
    Calls Try.prog 36 #[.slice A n c, .slice B m d, .func (.func 48) #[] #[.pointer (some ⟨gw, 0, none⟩)]] w (NewTab n (tabG l (hasF wn) ws (fun _ _ => 0)) w) := by
  have Hl := Lib.hid hl
  have Hw := Lib.hid hw
  have Hlen := Eqn.mk hl.1
  have Hwl := Eqn.mk hw.1
  have HOK := Lib.hid hok
  have HCW := Lib.hid hcw
  have HWN := Lib.hid hwn
  clear hcw hwn
  have mkT := fun w => mk_tab n hn w
  clear hl hw hok
  have T0 : Hid (Blk (w.alloc (.cells (cellsF n (fun _ _ => 0)).toArray 78)) w.heap.size 78 (cellsF n (fun _ _ => 0))) := Lib.hid (blk_new w _ _)
  have B0 : Hid (Below w.heap.size w (w.alloc (.cells (cellsF n (fun _ _ => 0)).toArray 78))) := Lib.hid ((Below.refl _ _).alloc (Nat.le_refl _) _)
  go_enter Try.func36, Try.ntmps36
  go_wp2_with fail
  go_loopw [15] (fun i wr => ∃ (k : Nat) (FF : Nat → Nat → Int), k ≤ m ∧ i = .int .i64 k ∧ Eqn (tabG l (hasF wn) ws (fun _ _ => 0)) (tabG l (hasF wn) (ws.drop k) FF) ∧ Blk wr w.heap.size 78 (cellsF n FF) ∧ Below w.heap.size w wr) (fun i _ => m - (intOf i).toNat)
  case atStart => exact ⟨0, _, Nat.zero_le _, rfl, rfl, T0.out, B0.out⟩
  case round =>
    clear T0 B0
    obtain ⟨k, FF, hk, rfl, HR, HT, HW⟩ := hrel
    have HWW := Lib.hid HW
    have HTT := Lib.hid HT
    have hws := HW.size
    by_cases hlt : k < m
    · obtain ⟨x, hx, hxd⟩ := drop_at (xs := ws) (k := k) (by rw [Hwl.out]; exact hlt)
      obtain ⟨g, off, rfl, hg, hc⟩ := (Hw.out.below HW).2 (by omega)
      have q0 := hc k x hx 0 (by omega)
      have q1 := hc k x hx 1 (by omega)
      have q2 := hc k x hx 2 (by omega)
      simp only [Wish.cell, Nat.add_zero] at q0 q1 q2
      have hgs : g < wr.heap.size := by omega
      have j0 : (k : Int) < (m : Int) := by omega
      obtain ⟨o1, o2, o3⟩ := HOK.out x (List.mem_of_getElem? hx)
      have HR' : Eqn (tabG l (hasF wn) ws (fun _ _ => 0)) (tabG l (hasF wn) (ws.drop (k + 1)) (if (hasF wn) x.win = true then updF FF (findC l x.win).toNat x.start.toNat x.val else FF)) := by
        have := HR.out; rw [hxd, tabG] at this; exact this
      have hfi : ∃ i : Nat, findC l x.win = i ∧ i < n := by
        rcases findC_cases l x.win with h1 | ⟨i, cc, h1, h2, _⟩
        · omega
        · exact ⟨i, h1, by rw [← Hlen.out]; exact (List.getElem?_eq_some_iff.1 h2).1⟩
      obtain ⟨i, hii, hin⟩ := hfi
      obtain ⟨s, hs⟩ := Int.eq_ofNat_of_zero_le o2
      obtain ⟨wo, rfl⟩ : ∃ wo : World, wo = wr := ⟨_, rfl⟩
      obtain ⟨xw, xs, xv⟩ := x
      dsimp only at *
      subst hs
      rw [hii, Int.toNat_natCast, Int.toNat_natCast] at HR'
      have HII := Eqn.mk hii
      have BA : Hid (Below w.heap.size w (wo.alloc (.cells #[.int .i64 xw, .int .i64 (s : Int), .int .i64 xv] 61))) := Lib.hid (HWW.out.alloc hws _)
      have TA : Hid (Blk (wo.alloc (.cells #[.int .i64 xw, .int .i64 (s : Int), .int .i64 xv] 61)) w.heap.size 78 (cellsF n FF)) := Lib.hid (HT.alloc _)
      have s12 : s < 12 := by omega
      have hlo : w.heap.size < wo.heap.size := HT.lt
      clear hx hxd HR HW hc hii HT o1 o2 o3
      go_wp2_with fail
      refine (value1_any xw gw W p pc _ w.heap.size wn hp (by exact (BA.out.cell (p := ⟨gw, 0, none⟩) hgw).trans HCW.out) (by exact HWN.out.below BA.out)).mono ?_
      rintro e w2 ⟨rfl, hb2⟩
      have p0 := (hb2.cell (p := ⟨wo.heap.size, 0, none⟩) (by simp)).trans (show _ = some (Value.int .i64 xw) by go_simp)
      have p1 := (hb2.cell (p := ⟨wo.heap.size, 1, none⟩) (by simp)).trans (show _ = some (Value.int .i64 (s : Int)) by go_simp)
      have p2 := (hb2.cell (p := ⟨wo.heap.size, 2, none⟩) (by simp)).trans (show _ = some (Value.int .i64 xv) by go_simp)
      have z2 : wo.heap.size < w2.heap.size := Nat.lt_of_lt_of_le (by simp) hb2.size
      have B2 : Hid (Below w.heap.size w w2) := Lib.hid (BA.out.trans (hb2.mono BA.out.size))
      have T2 : Hid (Blk w2 w.heap.size 78 (cellsF n FF)) := Lib.hid (TA.out.keep hb2)
      clear hb2 BA TA q0 q1 q2 HWW HTT hgs
      cases hh : hasF wn xw with
      | true =>
        rw [hh, if_pos rfl] at HR'
        have HR2 := Lib.hid HR'
        have HR2 := HR2.out
        clear HR' hh
        go_wp2_with fail
        refine Lx.region (C := fun w' => w'.cell? ⟨wo.heap.size, 1, none⟩ = some (.int .i64 (s : Int)) ∧ w'.cell? ⟨wo.heap.size, 2, none⟩ = some (.int .i64 xv)) (hs := [6, 8]) (by kernel_rfl) (by kernel_rfl) (by exact ⟨p1, p2⟩) ?_
        have i0 : (0 : Int) ≤ (i : Int) := by omega
        have i1 : (i : Int) < (n : Int) := by omega
        have i2 : (s : Int) < 12 := by omega
        repeat' (first
          | (refine Lx.lex_no (Lx.n1 rfl rfl rfl (by with_reducible rfl)) (fun K hK => ?_); go_simp; refine hK _ ?_; clear hK K)
          | (refine Lx.lex_no (Lx.n0 rfl rfl rfl (by with_reducible rfl)) (fun K hK => ?_); go_simp; refine hK _ ?_; clear hK K)
          | (refine Lx.lex_no (Lx.n2 rfl rfl rfl) (fun K hK => ?_); go_simp; refine hK _ ?_; clear hK K)
          | (refine Lx.lex_pure (v := ?_) rfl (by first | exact Lx.w0 rfl | exact Lx.w1 rfl rfl rfl (by with_reducible rfl)) ?_ (fun K hK => ?_); rotate_left 1; (intro w' hCw; (try dsimp only at hCw); go_simp; done); go_simp; refine hK _ ?_; clear hK K)
          | (refine Lx.lex_pure (v := ?_) rfl (by first | exact Lx.w0 rfl | exact Lx.w1 rfl rfl rfl (by with_reducible rfl)) ?_ (fun K hK => ?_); rotate_left 1; (intro w' hCw; (try dsimp only at hCw); go_simp; with_reducible rfl); go_simp; refine hK _ ?_; clear hK K)
          | (refine Lx.lex_read (v := ?_) rfl (by first | exact Lx.w0 rfl | exact Lx.w1 rfl rfl rfl (by with_reducible rfl)) ?_ (fun K hK => ?_); rotate_left 1; (go_simp; done); go_simp; refine hK _ ?_; clear hK K)
          | (refine Lx.lex_read (v := ?_) rfl (by first | exact Lx.w0 rfl | exact Lx.w1 rfl rfl rfl (by with_reducible rfl)) ?_ (fun K hK => ?_); rotate_left 1; (go_simp; with_reducible rfl); go_simp; refine hK _ ?_; clear hK K)
          | (refine Lx.lex_eff rfl (by first | exact Lx.w0 rfl | exact Lx.w1 rfl rfl rfl (by with_reducible rfl)) (fun K hK => ?_); go_simp; (first | (go_at_call 33; refine (claim_any A n c xw _ l hn (by exact (Hl.out.below B2.out.drew).up B2.out.size)).mono ?_; rw [HII.out]; rintro e w3 ⟨rfl, hb3⟩; have r1 := (hb3.cell (p := ⟨wo.heap.size, 1, none⟩) z2).trans p1; have r2 := (hb3.cell (p := ⟨wo.heap.size, 2, none⟩) z2).trans p2; have B3 : Hid (Below w.heap.size w w3) := Lib.hid (B2.out.drew.trans (hb3.mono B2.out.size)); have T3 : Hid (Blk w3 w.heap.size 78 (cellsF n FF)) := Lib.hid (T2.out.drew.keep hb3); have y1 := T3.out.cell (tabL_at (show i * 12 + s < n * 12 by omega)); have y2 := T3.out.frozen (i * 12 + s); have y3 := T3.out.lt; have n1 : w.heap.size ≠ wo.heap.size := Nat.ne_of_lt (Nat.lt_of_lt_of_le hlo (Nat.le_refl _)); clear hb3) | skip); refine hK _ _ (by refine ⟨?_, ?_⟩ <;> (first | assumption | (refine cell_set ?_ ?_ <;> assumption))) ?_; clear hK K)
          | (refine Lx.lex_cases rfl rfl rfl (fun hgd K hK => ?_) (fun hgd K hK => ?_) <;> (try simp only [decide_eq_true_eq, decide_eq_false_iff_not] at hgd) <;> (first | (exfalso; omega) | (go_simp; refine hK _ ?_; clear hK K))))
        all_goals (refine Lx.lex_nil ?_)
        go_wp2_with fail
        go_roundw
        case rel => exact ⟨k + 1, updF FF i s xv, by omega, by go_num, HR2, cellsF_set T3.out s12 xv, B3.out.setCell (Nat.le_refl _) _⟩
        case measure => simp [intOf]; omega
      | false =>
        rw [hh, if_neg (by simp)] at HR'
        have HR2 := HR'
        clear HR' hh
        go_wp2_with fail
        go_roundw
        case rel => exact ⟨k + 1, FF, by omega, by go_num, HR2, T2.out, B2.out⟩
        case measure => simp [intOf]; omega
    · have HB : Eqn (tabG l (hasF wn) ws (fun _ _ => 0)) FF := by
        rw [Eqn, HR.out, drop_end (by rw [Hwl.out]; omega)]; rfl
      clear HW HR HT
      go_wp2_with fail
      go_ret
      exact ⟨w.heap.size, rfl, Nat.le_refl _, by rw [HB.out]; exact HTT.out, HWW.out⟩

end Go.Proofs.Yteckijkmcafpaaa
