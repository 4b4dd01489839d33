/- Contract of the reference's Search, which calls itself. -/
import Derived.Test.YteckijkmcafpaaaRec39
namespace Go.Proofs.Yteckijkmcafpaaa
open Go.RowKit

theorem own_single (w : World) (base e : Nat) (x : Value) (hb : base ≤ w.heap.size) : (w.alloc (.cells #[x] e)).ownsRow base e 1 (.slice (some ⟨w.heap.size, 0, none⟩) 1 1) 1 [x] :=
  ⟨rfl, .inr ⟨w.heap.size, 1, #[x], rfl, hb, heap_alloc_new w _, Nat.le_refl _, by unfold maxLen; omega, rfl, rfl⟩⟩

def srK (p : Nat × (Nat → Int)) (r : List (Nat × (Nat → Int))) (u : List Bool) (k : Nat) : Bool × Int × List Int :=
  (List.range k).foldl (fun acc s => if freeU u s p.1 = true then
      (if (srF r (markU u s p.1)).1 = true ∧ (acc.1 = false ∨ acc.2.1 < (srF r (markU u s p.1)).2.1 + p.2 s) then (true, (srF r (markU u s p.1)).2.1 + p.2 s, (s : Int) :: (srF r (markU u s p.1)).2.2) else acc) else acc) (false, 0, [])
theorem srK_succ (p : Nat × (Nat → Int)) (r : List (Nat × (Nat → Int))) (u : List Bool) (k : Nat) : srK p r u (k + 1) = if freeU u k p.1 = true then
      (if (srF r (markU u k p.1)).1 = true ∧ ((srK p r u k).1 = false ∨ (srK p r u k).2.1 < (srF r (markU u k p.1)).2.1 + p.2 k) then (true, (srF r (markU u k p.1)).2.1 + p.2 k, (k : Int) :: (srF r (markU u k p.1)).2.2) else srK p r u k) else srK p r u k := by
  unfold srK
  rw [List.range_succ, List.foldl_append]; rfl
theorem srK_yes {p : Nat × (Nat → Int)} {r : List (Nat × (Nat → Int))} {u : List Bool} {k : Nat} {v0 amo : Int} {rest afi : List Int} {ath : Bool} (hf : freeU u k p.1 = true) (hr : srF r (markU u k p.1) = (true, v0, rest)) (ha : srK p r u k = (ath, amo, afi)) (h : ath = false ∨ amo < v0 + p.2 k) : srK p r u (k + 1) = (true, v0 + p.2 k, (k : Int) :: rest) := by
  rw [srK_succ, if_pos hf, hr, ha, if_pos ⟨rfl, h⟩]
theorem srK_no {p : Nat × (Nat → Int)} {r : List (Nat × (Nat → Int))} {u : List Bool} {k : Nat} {v0 amo : Int} {rest afi : List Int} {ath ok : Bool} (hf : freeU u k p.1 = true) (hr : srF r (markU u k p.1) = (ok, v0, rest)) (ha : srK p r u k = (ath, amo, afi)) (h : ¬ (ok = true ∧ (ath = false ∨ amo < v0 + p.2 k))) : srK p r u (k + 1) = (ath, amo, afi) := by
  rw [srK_succ, if_pos hf, hr, ha, if_neg h]
theorem srK_not {p : Nat × (Nat → Int)} {r : List (Nat × (Nat → Int))} {u : List Bool} {k : Nat} {amo : Int} {afi : List Int} {ath : Bool} (hf : freeU u k p.1 = false) (ha : srK p r u k = (ath, amo, afi)) : srK p r u (k + 1) = (ath, amo, afi) := by
  rw [srK_succ, if_neg (by rw [hf]; simp), ha]
theorem srF_cons (p : Nat × (Nat → Int)) (r : List (Nat × (Nat → Int))) (u : List Bool) : srF (p :: r) u = srK p r u (u.length + 1 - p.1) := by rw [srF]; rfl
def okV (ps : List (Nat × (Nat → Int))) : Prop := ∀ p ∈ ps, ∀ s, 0 ≤ p.2 s ∧ p.2 s ≤ 1099511627776
theorem sr_bd : ∀ (ps : List (Nat × (Nat → Int))) (u : List Bool), okV ps → 0 ≤ (srF ps u).2.1 ∧ (srF ps u).2.1 ≤ ps.length * 1099511627776 ∧ (srF ps u).2.2.length ≤ ps.length := by
  intro ps
  induction ps with
  | nil => intro u _; rw [srF]; simp
  | cons p r ih =>
    intro u h
    have key : ∀ k, 0 ≤ (srK p r u k).2.1 ∧ (srK p r u k).2.1 ≤ (r.length + 1) * 1099511627776 ∧ (srK p r u k).2.2.length ≤ r.length + 1 := by
      intro k
      induction k with
      | zero => simp [srK]; omega
      | succ k ihk =>
        rw [srK_succ]
        have h1 := ih (markU u k p.1) (fun x hx => h x (by simp [hx]))
        have h2 := h p (by simp) k
        split
        · split
          · dsimp only [List.length_cons]; omega
          · exact ihk
        · exact ihk
    rw [srF_cons, List.length_cons]
    have := key (u.length + 1 - p.1)
    omega
theorem srK_bd (p : Nat × (Nat → Int)) (r : List (Nat × (Nat → Int))) (u : List Bool) (h : okV (p :: r)) (k : Nat) : 0 ≤ (srK p r u k).2.1 ∧ (srK p r u k).2.1 ≤ (r.length + 1) * 1099511627776 ∧ (srK p r u k).2.2.length ≤ r.length + 1 := by
  induction k with
  | zero => simp [srK]; omega
  | succ k ihk =>
    rw [srK_succ]
    have h1 := sr_bd r (markU u k p.1) (fun x hx => h x (by simp [hx]))
    have h2 := h p (by simp) k
    split
    · split
      · dsimp only [List.length_cons]; omega
      · exact ihk
    · exact ihk

/-- the results of Search -/
def SrPost (q : Bool × Int × List Int) (w : World) (e : Ending) (w' : World) : Prop :=
  ∃ v, e = .returned (.tuple #[.bool q.1, .int .i64 q.2.1, v]) ∧ w'.ownsRow w.heap.size 3 1 v q.2.2.length (q.2.2.map intV) ∧ Below w.heap.size w w'

set_option maxRecDepth 100000 in
set_option maxHeartbeats 8000000 in
theorem search_any (A : Option Addr) (n c : Nat) (l : List Claim) (hn : n ≤ 6) (Bw : Option Addr) (mw dw : Nat) (ws : List Wish) (hmw : mw ≤ 1000) (Wa : Option Addr) (pn pc : Nat) (wn : List Int) (hpn : pn ≤ 1000) (hok : okV (psOf l ws wn)) : ∀ (m idx : Nat) (w : World) (U : Option Addr) (B cu : Nat) (u : List Bool), idx + m = n → 1 ≤ B → B ≤ 12 → (∀ c ∈ l, 1 ≤ c.cnt ∧ c.cnt ≤ B) → RowS 2 Claim.cell w w.heap.size A n l → RowS 3 Wish.cell w w.heap.size Bw mw ws → Row1 intV w w.heap.size Wa pn wn → Row1 boolV w w.heap.size U B u →
    Calls Try.prog 39 #[.slice A n c, .slice Bw mw dw, .slice Wa pn pc, .int .i64 idx, .slice U B cu] w (SrPost (srF (psOf (l.drop idx) ws wn) u) w) := by
  obtain ⟨i0, hi, hz0, hz1, hz2⟩ := info_get int_info
  intro m
  induction m with
  | zero =>
    intro idx w U B cu u hidx hB1 hB2 hcs hl hw hwn hu
    have HF : Eqn (srF (psOf (l.drop idx) ws wn) u) (true, 0, []) := by
      rw [Eqn, drop_end (by rw [hl.1]; omega)]; rfl
    obtain rfl : idx = n := by omega
    have t1 : ((idx : Int) == (idx : Int)) = true := by simp
    clear hl hu hcs hw hwn hok
    go_enter Try.func39, Try.ntmps39
    go_wp2
    go_ret3
    rw [HF.out]
    exact ⟨_, rfl, World.ownsRow_nil _ _ _ _, Below.refl _ _⟩
  | succ m ih =>
    intro idx w U B cu u hidx hB1 hB2 hcs hl hw hwn hu
    have IH := Lib.hid ih
    have Hlen := Eqn.mk hl.1
    have Hul := Eqn.mk hu.1
    have Hl := Lib.hid hl
    have Hw := Lib.hid hw
    have Hwn := Lib.hid hwn
    have Hu := Lib.hid hu
    have HCS := Lib.hid hcs
    obtain ⟨p, hp, hpd⟩ := drop_at (xs := l) (k := idx) (by rw [Hlen.out]; omega)
    have hpb := hcs p (List.mem_of_getElem? hp)
    obtain ⟨q, hq⟩ := Int.eq_ofNat_of_zero_le (show 0 ≤ p.cnt by omega)
    have hqn : p.cnt.toNat = q := by omega
    have hps : psOf (l.drop idx) ws wn = (q, fuOf ws wn p.win) :: psOf (l.drop (idx + 1)) ws wn := by
      rw [hpd]; unfold psOf; rw [List.map_cons, hqn]
    have hsub : okV (psOf (l.drop idx) ws wn) := fun x hx => hok x (by
      unfold psOf at hx ⊢
      obtain ⟨y, hy, rfl⟩ := List.mem_map.1 hx
      exact List.mem_map.2 ⟨y, List.mem_of_mem_drop hy, rfl⟩)
    rw [hps] at hsub
    have hll : (psOf (l.drop (idx + 1)) ws wn).length ≤ 5 := by unfold psOf; simp; rw [hl.1]; omega
    have HRB := Lib.hid (fun k => sr_bd (psOf (l.drop (idx + 1)) ws wn) (markU u k q) (fun x hx => hsub x (by simp [hx])))
    have HKB := Lib.hid (fun k => srK_bd (q, fuOf ws wn p.win) (psOf (l.drop (idx + 1)) ws wn) u hsub k)
    have HPB := Lib.hid (fun (k : Nat) => hsub (q, fuOf ws wn p.win) (by simp) k)
    have HF : Eqn (srF (psOf (l.drop idx) ws wn) u) (srK (q, fuOf ws wn p.win) (psOf (l.drop (idx + 1)) ws wn) u (B + 1 - q)) := by
      rw [Eqn, hps, srF_cons, hu.1]
    have HY := Lib.hid (fun k v0 amo rest afi ath => srK_yes (p := (q, fuOf ws wn p.win)) (r := psOf (l.drop (idx + 1)) ws wn) (u := u) (k := k) (v0 := v0) (amo := amo) (rest := rest) (afi := afi) (ath := ath))
    have HNo := Lib.hid (fun k v0 amo rest afi ath ok => srK_no (p := (q, fuOf ws wn p.win)) (r := psOf (l.drop (idx + 1)) ws wn) (u := u) (k := k) (v0 := v0) (amo := amo) (rest := rest) (afi := afi) (ath := ath) (ok := ok))
    have HNt := Lib.hid (fun k amo afi ath => srK_not (p := (q, fuOf ws wn p.win)) (r := psOf (l.drop (idx + 1)) ws wn) (u := u) (k := k) (amo := amo) (afi := afi) (ath := ath))
    obtain ⟨g, off, rfl, hg, hc⟩ := hl.2 (by omega)
    have c0 := hc idx p hp 0 (by omega)
    have c1 := hc idx p hp 1 (by omega)
    simp only [Claim.cell, Nat.add_zero] at c0 c1
    rw [hq] at c1 hpb
    have t1 : ((idx : Int) == (n : Int)) = false := by
      rw [beq_eq_false_iff_ne]; omega
    have j0 : (idx : Int) < (n : Int) := by omega
    have C1 := Lib.hid c1
    have C0 := Lib.hid c0
    clear ih hl hu hcs hw hwn hp hpd hc hq hps hsub hqn
    generalize hfu : fuOf ws wn p.win = fu at *
    have HFU := Lib.hid (fun k => congrFun hfu k)
    clear hfu
    dsimp only at *
    have hS0 : srK (q, fu) (psOf (l.drop (idx + 1)) ws wn) u 0 = (false, 0, []) := rfl
    generalize hkk : srK (q, fu) (psOf (l.drop (idx + 1)) ws wn) u = SK at *
    have HS0 := Eqn.mk hS0
    clear hkk hS0
    generalize hPS : psOf (l.drop (idx + 1)) ws wn = PS at *
    have HPS := Eqn.mk hPS
    clear hPS
    go_enter Try.func39, Try.ntmps39
    go_wp2_with fail
    go_loopw [13, 14, 15, 16] (fun th mo fi i wr => ∃ (k : Nat) (ath : Bool) (amo : Int) (afi : List Int), k ≤ B + 1 - q ∧ i = .int .i64 k ∧ th = .bool ath ∧ mo = .int .i64 amo ∧ Eqn (SK k) (ath, amo, afi) ∧ wr.ownsRow w.heap.size 3 1 fi afi.length (afi.map intV) ∧ Below w.heap.size w wr) (fun _ _ _ i _ => B + 1 - q - (intOf i).toNat)
    case atStart => exact ⟨0, false, 0, [], Nat.zero_le _, rfl, rfl, rfl, HS0, World.ownsRow_nil _ _ _ _, Below.refl _ _⟩
    case round =>
      clear HS0
      obtain ⟨k, ath, amo, afi, hk, rfl, rfl, rfl, HS, HO, HW⟩ := hrel
      have HWW := Lib.hid HW
      have HOO := Lib.hid HO
      have d1 := (HW.cell (p := ⟨g, off + idx * 2 + 1, none⟩) hg).trans C1.out
      have d0 := (HW.cell (p := ⟨g, off + idx * 2, none⟩) hg).trans C0.out
      have hws := HW.size
      have hgs : g < wr.heap.size := by omega
      have hkb := HKB.out k
      rw [HS.out] at hkb
      obtain ⟨kb0, kb1, kb2⟩ := hkb
      dsimp only at kb0 kb1 kb2
      clear HO
      by_cases hlt : k < B + 1 - q
      · have t2 : (k : Int) ≤ (B : Int) - (q : Int) := by omega
        obtain ⟨wo, rfl⟩ : ∃ wo : World, wo = wr := ⟨_, rfl⟩
        cases hf : freeU u k q with
        | false =>
          have HFR := Eqn.mk hf
          have HS2 := Eqn.mk (HNt.out k _ _ _ hf HS.out)
          clear hf HW
          go_wp2_with fail
          refine (free_any U B cu k q _ w.heap.size u (by omega) (by omega) (by exact Hu.out.below HWW.out)).mono ?_
          rw [HFR.out]
          rintro e w2 ⟨rfl, rfl⟩
          go_wp2_with fail
          go_roundw
          case rel => exact ⟨k + 1, ath, amo, afi, by omega, by go_num, rfl, rfl, HS2, HOO.out, HWW.out⟩
          case measure => simp [intOf]; omega
        | true =>
          have HFR := Eqn.mk hf
          have hrb := HRB.out k
          obtain ⟨res, hres⟩ : ∃ res, srF PS (markU u k q) = res := ⟨_, rfl⟩
          rw [hres] at hrb
          have HRES := Eqn.mk hres
          clear hres
          obtain ⟨ok, v0, rest⟩ := res
          dsimp only at hrb
          obtain ⟨rb0, rb1, rb2⟩ := hrb
          have hpk := HPB.out k
          have hfk := HFU.out k
          unfold fuOf at hfk
          obtain ⟨fk, hfkk⟩ : ∃ fk, fk = fu k := ⟨_, rfl⟩
          rw [← hfkk] at hpk hfk
          have HFKK := Eqn.mk hfkk
          clear hfkk
          obtain ⟨pk0, pk1⟩ := hpk
          have HFF := Lib.hid hf
          clear hf HW
          go_wp2_with fail
          refine (free_any U B cu k q _ w.heap.size u (by omega) (by omega) (by exact Hu.out.below HWW.out)).mono ?_
          rw [HFR.out]
          rintro e w2 ⟨rfl, rfl⟩
          have HFK := Lib.hid hfk
          clear hfk
          go_wp2_with fail
          refine (mark_any U B cu k q _ u (by omega) (by omega) (by omega) (by exact (Hu.out.below HWW.out).up hws)).mono ?_
          rintro e w3 ⟨g', c', rfl, ho3, hb3⟩
          obtain ⟨A3, c3, hv3, hr3⟩ := row1_of_own ho3
          injection hv3 with hv3 _ hv4
          subst hv3 hv4
          rw [markU_len, Hul.out] at hr3
          rw [markU_len, Hul.out]
          have R3 := Lib.hid hr3
          have B3 : Hid (Below w.heap.size w w3) := Lib.hid (HWW.out.trans (hb3.mono hws))
          have O3 := Lib.hid (own_keep HOO.out hb3)
          clear ho3 hr3 hb3 HOO d0 d1
          go_wp2_with fail
          refine (IH.out (idx + 1) w3 _ B _ (markU u k q) (by omega) hB1 hB2 HCS.out (by exact (Hl.out.below B3.out).up B3.out.size) (by exact (Hw.out.below B3.out).up B3.out.size) (by exact (Hwn.out.below B3.out).up B3.out.size) (by exact R3.out)).mono ?_
          rw [HPS.out, HRES.out]
          rintro e w4 ⟨v4, rfl, ho4, hb4⟩
          obtain ⟨A4, c4, rfl, hr4⟩ := row1_of_own ho4
          have R4 := Lib.hid hr4
          have B4 : Hid (Below w.heap.size w w4) := Lib.hid (B3.out.trans (hb4.mono B3.out.size))
          have O4 := Lib.hid (own_keep O3.out hb4)
          have hs4 := B4.out.size
          have d0 := (B4.out.cell (p := ⟨g, off + idx * 2, none⟩) hg).trans C0.out
          have hgs4 : g < w4.heap.size := by omega
          clear ho4 hr4 hb4 O3 B3 R3
          go_wp2_with fail
          refine (has_any Wa pn pc p.win _ w.heap.size wn hpn (by exact Hwn.out.below B4.out)).mono ?_
          rintro e w5 ⟨rfl, rfl⟩
          cases hh : hasF wn p.win with
          | false =>
            rw [hh] at HFK
            have HV : Eqn (v0 + fk) (v0) := by have := HFK.out; simp at this; rw [Eqn, ← this]; omega
            clear hh
            cases ok with
            | false =>
              have HS2 : Eqn (SK (k + 1)) (ath, amo, afi) := HNo.out k v0 amo rest afi ath false HFF.out HRES.out HS.out (fun h => by simp at h)
              go_wp2_with fail
              go_roundw
              case rel => exact ⟨k + 1, ath, amo, afi, by omega, by go_num, rfl, rfl, HS2, O4.out, B4.out⟩
              case measure => simp [intOf]; omega
            | true =>
              cases ath with
              | false =>
                have HS2 : Eqn (SK (k + 1)) (true, v0, (k : Int) :: rest) := by have := HY.out k v0 amo rest afi false HFF.out HRES.out HS.out (.inl rfl); rw [← HFKK.out, HV.out] at this; exact this
                go_wp2_with (at_builtin; refine wpList_append_row rfl _ _ 27 rfl intV_one w.heap.size 3 i0 (.int .i64 0) 8 Try.underlying27 hi hz0 hz1 hz2 rfl _ 1 [.int .i64 (k : Int)] rfl (by exact own_single w4 w.heap.size 3 (.int .i64 (k : Int)) hs4) A4 rest.length c4 rest w4.heap.size rfl (by exact R4.out.below ((Below.refl _ _).alloc (Nat.le_refl _) _)) (by unfold maxLen; omega) (by omega) (by simp; omega) ?_; intro v6 w6 hown6 hgrow6 hat6)
                have hown6' : w6.ownsRow w.heap.size 3 1 v6 ((k : Int) :: rest).length (((k : Int) :: rest).map intV) := by rw [List.length_cons, Nat.add_comm, List.map_cons]; exact hown6
                have B6 := Lib.hid ((B4.out.alloc hs4 _).grown hgrow6 (by simp; omega) (own_ge (own_single w4 w.heap.size 3 (.int .i64 (k : Int)) hs4)))
                have HO6 := Lib.hid hown6'
                clear hown6 hgrow6 hat6 hown6'
                go_wp2_with fail
                go_roundw
                case rel => exact ⟨k + 1, true, v0, (k : Int) :: rest, by omega, by go_num, rfl, rfl, HS2, HO6.out, B6.out⟩
                case measure => simp [intOf]; omega
              | true =>
                by_cases hgt : amo < v0
                · have HS2 : Eqn (SK (k + 1)) (true, v0, (k : Int) :: rest) := by have := HY.out k v0 amo rest afi true HFF.out HRES.out HS.out (.inr (by rw [← HFKK.out, HV.out]; exact hgt)); rw [← HFKK.out, HV.out] at this; exact this
                  go_wp2_with (at_builtin; refine wpList_append_row rfl _ _ 27 rfl intV_one w.heap.size 3 i0 (.int .i64 0) 8 Try.underlying27 hi hz0 hz1 hz2 rfl _ 1 [.int .i64 (k : Int)] rfl (by exact own_single w4 w.heap.size 3 (.int .i64 (k : Int)) hs4) A4 rest.length c4 rest w4.heap.size rfl (by exact R4.out.below ((Below.refl _ _).alloc (Nat.le_refl _) _)) (by unfold maxLen; omega) (by omega) (by simp; omega) ?_; intro v6 w6 hown6 hgrow6 hat6)
                  have hown6' : w6.ownsRow w.heap.size 3 1 v6 ((k : Int) :: rest).length (((k : Int) :: rest).map intV) := by rw [List.length_cons, Nat.add_comm, List.map_cons]; exact hown6
                  have B6 := Lib.hid ((B4.out.alloc hs4 _).grown hgrow6 (by simp; omega) (own_ge (own_single w4 w.heap.size 3 (.int .i64 (k : Int)) hs4)))
                  have HO6 := Lib.hid hown6'
                  clear hown6 hgrow6 hat6 hown6'
                  go_wp2_with fail
                  go_roundw
                  case rel => exact ⟨k + 1, true, v0, (k : Int) :: rest, by omega, by go_num, rfl, rfl, HS2, HO6.out, B6.out⟩
                  case measure => simp [intOf]; omega
                · have HS2 : Eqn (SK (k + 1)) (true, amo, afi) := HNo.out k v0 amo rest afi true true HFF.out HRES.out HS.out (by
                    rintro ⟨_, h | h⟩
                    · cases h
                    · rw [← HFKK.out, HV.out] at h; exact hgt h)
                  go_wp2_with fail
                  go_roundw
                  case rel => exact ⟨k + 1, true, amo, afi, by omega, by go_num, rfl, rfl, HS2, O4.out, B4.out⟩
                  case measure => simp [intOf]; omega
          | true =>
            rw [hh] at HFK
            have hwv : wishF p.win (k : Int) ws = fk := by have := HFK.out; simpa using this
            have HWV := Eqn.mk hwv
            clear hwv
            go_wp2_with fail
            refine (wish_any Bw mw dw p.win k _ w.heap.size ws hmw (by exact Hw.out.below B4.out)).mono ?_
            rw [HWV.out]
            rintro e w5 ⟨rfl, rfl⟩
            have hsum : (0 : Int) ≤ v0 + fk ∧ v0 + fk ≤ 9223372036854775807 := by omega
            have HV : Eqn (v0 + fk) (v0 + fk) := by rfl
            clear hh
            cases ok with
            | false =>
              have HS2 : Eqn (SK (k + 1)) (ath, amo, afi) := HNo.out k v0 amo rest afi ath false HFF.out HRES.out HS.out (fun h => by simp at h)
              go_wp2_with fail
              go_roundw
              case rel => exact ⟨k + 1, ath, amo, afi, by omega, by go_num, rfl, rfl, HS2, O4.out, B4.out⟩
              case measure => simp [intOf]; omega
            | true =>
              cases ath with
              | false =>
                have HS2 : Eqn (SK (k + 1)) (true, v0 + fk, (k : Int) :: rest) := by have := HY.out k v0 amo rest afi false HFF.out HRES.out HS.out (.inl rfl); rw [← HFKK.out, HV.out] at this; exact this
                go_wp2_with (at_builtin; refine wpList_append_row rfl _ _ 27 rfl intV_one w.heap.size 3 i0 (.int .i64 0) 8 Try.underlying27 hi hz0 hz1 hz2 rfl _ 1 [.int .i64 (k : Int)] rfl (by exact own_single w4 w.heap.size 3 (.int .i64 (k : Int)) hs4) A4 rest.length c4 rest w4.heap.size rfl (by exact R4.out.below ((Below.refl _ _).alloc (Nat.le_refl _) _)) (by unfold maxLen; omega) (by omega) (by simp; omega) ?_; intro v6 w6 hown6 hgrow6 hat6)
                have hown6' : w6.ownsRow w.heap.size 3 1 v6 ((k : Int) :: rest).length (((k : Int) :: rest).map intV) := by rw [List.length_cons, Nat.add_comm, List.map_cons]; exact hown6
                have B6 := Lib.hid ((B4.out.alloc hs4 _).grown hgrow6 (by simp; omega) (own_ge (own_single w4 w.heap.size 3 (.int .i64 (k : Int)) hs4)))
                have HO6 := Lib.hid hown6'
                clear hown6 hgrow6 hat6 hown6'
                go_wp2_with fail
                go_roundw
                case rel => exact ⟨k + 1, true, v0 + fk, (k : Int) :: rest, by omega, by go_num, rfl, rfl, HS2, HO6.out, B6.out⟩
                case measure => simp [intOf]; omega
              | true =>
                by_cases hgt : amo < v0 + fk
                · have HS2 : Eqn (SK (k + 1)) (true, v0 + fk, (k : Int) :: rest) := by have := HY.out k v0 amo rest afi true HFF.out HRES.out HS.out (.inr (by rw [← HFKK.out, HV.out]; exact hgt)); rw [← HFKK.out, HV.out] at this; exact this
                  go_wp2_with (at_builtin; refine wpList_append_row rfl _ _ 27 rfl intV_one w.heap.size 3 i0 (.int .i64 0) 8 Try.underlying27 hi hz0 hz1 hz2 rfl _ 1 [.int .i64 (k : Int)] rfl (by exact own_single w4 w.heap.size 3 (.int .i64 (k : Int)) hs4) A4 rest.length c4 rest w4.heap.size rfl (by exact R4.out.below ((Below.refl _ _).alloc (Nat.le_refl _) _)) (by unfold maxLen; omega) (by omega) (by simp; omega) ?_; intro v6 w6 hown6 hgrow6 hat6)
                  have hown6' : w6.ownsRow w.heap.size 3 1 v6 ((k : Int) :: rest).length (((k : Int) :: rest).map intV) := by rw [List.length_cons, Nat.add_comm, List.map_cons]; exact hown6
                  have B6 := Lib.hid ((B4.out.alloc hs4 _).grown hgrow6 (by simp; omega) (own_ge (own_single w4 w.heap.size 3 (.int .i64 (k : Int)) hs4)))
                  have HO6 := Lib.hid hown6'
                  clear hown6 hgrow6 hat6 hown6'
                  go_wp2_with fail
                  go_roundw
                  case rel => exact ⟨k + 1, true, v0 + fk, (k : Int) :: rest, by omega, by go_num, rfl, rfl, HS2, HO6.out, B6.out⟩
                  case measure => simp [intOf]; omega
                · have HS2 : Eqn (SK (k + 1)) (true, amo, afi) := HNo.out k v0 amo rest afi true true HFF.out HRES.out HS.out (by
                    rintro ⟨_, h | h⟩
                    · cases h
                    · rw [← HFKK.out, HV.out] at h; exact hgt h)
                  go_wp2_with fail
                  go_roundw
                  case rel => exact ⟨k + 1, true, amo, afi, by omega, by go_num, rfl, rfl, HS2, O4.out, B4.out⟩
                  case measure => simp [intOf]; omega
      · have t2 : ¬ (k : Int) ≤ (B : Int) - (q : Int) := by omega
        have HE : Eqn (srF (psOf (l.drop idx) ws wn) u) (ath, amo, afi) := by rw [Eqn, HF.out, ← HS.out, show B + 1 - q = k by omega]
        clear HW
        go_wp2_with fail
        go_ret3
        rw [HE.out]
        exact ⟨_, rfl, HOO.out, HWW.out⟩
end Go.Proofs.Yteckijkmcafpaaa
