/- Contracts of demand.Total and of the reference's Total. -/
import Derived.Test.YtoafkphcfhbnmaaExc
import Derived.Test.YtoafkphcfhbnmaaRef34B
namespace Go.Proofs.Ytoafkphcfhbnmaa
open Go.RowKit

/-- the number of blocks of product i that bidders have -/
def totAt (bs : List Bidr) (i : Nat) : Int := bs.foldl (fun a b => a + b.blocks.getD i 0) 0
def totS (bs : List Bidr) (n : Nat) : List Int := (List.range n).map (totAt bs)
theorem totS_len (bs : List Bidr) (n : Nat) : (totS bs n).length = n := by simp [totS]
theorem totS_at (bs : List Bidr) (n i : Nat) (h : i < n) : (totS bs n)[i]? = some (totAt bs i) := by simp [totS, h]
theorem totAt_snoc (bs : List Bidr) (j i : Nat) (b : Bidr) (h : bs[j]? = some b) : totAt (bs.take (j + 1)) i = totAt (bs.take j) i + b.blocks.getD i 0 := by
  unfold totAt
  rw [List.take_add_one, h]
  simp [List.foldl_append]
/-- Total: the numbers and an error -/
def totF (l : List Prod) (bs : List Bidr) : List Int × Int := if vBidders l bs = true then (totS bs l.length, 0) else ([], 2)

theorem vbGo_all (l : List Prod) (hv : prodValid l = true) : ∀ (bs : List Bidr) (last : Int), vbGo l bs last = true → ∀ b ∈ bs, b.blocks.length = l.length ∧ ∀ i, 0 ≤ b.blocks.getD i 0 ∧ b.blocks.getD i 0 ≤ 12 := by
  intro bs
  induction bs with
  | nil => intro last _ b hb; cases hb
  | cons x r ih =>
    intro last h b hb
    rw [vbGo_cons] at h
    split at h
    · cases h
    · split at h
      · cases h
      · rename_i hf
        split at h
        · cases h
        · rcases List.mem_cons.1 hb with rfl | hb
          · have hf' : fitsF l b.blocks = true := by simpa using hf
            obtain ⟨h1, h2⟩ := fitsF_spec l b.blocks hf'
            refine ⟨h1.symm, fun i => ?_⟩
            by_cases hi : i < b.blocks.length
            · have hx : b.blocks[i]? = some b.blocks[i] := List.getElem?_eq_getElem hi
              have hp : l[i]? = some (l[i]'(by omega)) := List.getElem?_eq_getElem (by omega)
              have h3 := h2 i _ _ hp hx
              have h4 := prodValid_ok hv _ (List.mem_of_getElem? hp)
              unfold badP at h4
              rw [List.getD_eq_getElem?_getD, hx, Option.getD_some]
              omega
            · rw [List.getD_eq_getElem?_getD, List.getElem?_eq_none (by omega), Option.getD_none]
              omega
          · exact ih x.id h b hb

theorem vBidders_all {l : List Prod} {bs : List Bidr} (h : vBidders l bs = true) : bs.length ≤ 32 ∧ ∀ b ∈ bs, b.blocks.length = l.length ∧ ∀ i, 0 ≤ b.blocks.getD i 0 ∧ b.blocks.getD i 0 ≤ 12 := by
  unfold vBidders at h
  split at h
  · cases h
  · split at h
    · cases h
    · rename_i h1 h2
      exact ⟨by omega, vbGo_all l (by simpa using h2) bs _ h⟩

theorem totAt_le : ∀ (bs : List Bidr), (∀ b ∈ bs, ∀ i, 0 ≤ b.blocks.getD i 0 ∧ b.blocks.getD i 0 ≤ 12) → ∀ (j i : Nat), 0 ≤ totAt (bs.take j) i ∧ totAt (bs.take j) i ≤ 12 * j := by
  intro bs hb j
  induction j with
  | zero => intro i; simp [totAt]
  | succ j ih =>
    intro i
    have h := ih i
    by_cases hj : j < bs.length
    · have hx : bs[j]? = some bs[j] := List.getElem?_eq_getElem hj
      rw [totAt_snoc bs j i _ hx]
      have := hb _ (List.mem_of_getElem? hx) i
      omega
    · rw [List.take_of_length_le (by omega)] at h ⊢
      omega

theorem mix_set {α : Type} (xs ys : List α) (n i : Nat) (x : α) (h1 : xs.length = n) (h2 : ys.length = n) (hx : xs[i]? = some x) : (xs.take i ++ ys.drop i).set i x = xs.take (i + 1) ++ ys.drop (i + 1) := by
  have hi : i < xs.length := (List.getElem?_eq_some_iff.1 hx).1
  have hd : ys.drop i = ys[i]'(by omega) :: ys.drop (i + 1) := List.drop_eq_getElem_cons (by omega)
  rw [List.set_append_right _ _ (by simp; omega), List.length_take, Nat.min_eq_left (by omega), Nat.sub_self, hd, List.set_cons_zero, List.take_add_one, hx]
  simp

theorem mix_at {α : Type} (xs ys : List α) (n i : Nat) (h1 : xs.length = n) (h2 : ys.length = n) (hi : i < n) : (xs.take i ++ ys.drop i)[i]? = ys[i]? := by
  rw [List.getElem?_append_right (by simp; omega), List.length_take, Nat.min_eq_left (by omega), Nat.sub_self, List.getElem?_drop, Nat.add_zero]

set_option maxHeartbeats 2000000 in
theorem total_any (A B : Option Addr) (n c m d : Nat) (w : World) (l : List Prod) (bs : List Bidr) (hn : n ≤ 140) (hm : m ≤ 140) (hl : RowS 5 Prod.cell w w.heap.size A n l) (hb : BidsAt w w.heap.size B m bs) :
    Calls Try.prog 19 #[.slice A n c, .slice B m d] w (ListPost (totF l bs) w) := by
  obtain ⟨i0, hi, hz0, hz1, hz2⟩ := info_parts int_info
  have Hl := Lib.hid hl
  have Hb := Lib.hid hb
  have Hlen := Eqn.mk hl.1
  have Hblen := Eqn.mk hb.1.1
  clear hl hb
  cases hv : vBidders l bs with
  | false =>
    have HV := Eqn.mk hv
    have HF : Eqn (totF l bs) ([], 2) := by unfold totF Eqn; rw [if_neg (by rw [hv]; simp)]
    clear hv
    go_enter Try.func19, Try.ntmps19
    go_wp2_with fail
    refine (vBidders_any A B n c m d _ l bs hn (by omega) Hl.out Hb.out).mono ?_
    rw [HV.out]
    rintro e w1 ⟨rfl, hb1⟩
    go_wp2_with fail
    go_ret2
    rw [HF.out]
    exact ⟨_, rfl, World.ownsRow_nil _ _ _ _, hb1⟩
  | true =>
    have HV := Eqn.mk hv
    have HF : Eqn (totF l bs) (totS bs n, 0) := by unfold totF Eqn; rw [if_pos hv, Hlen.out]
    have HAll := Lib.hid (vBidders_all hv)
    have HLe := Lib.hid (totAt_le bs (fun b hb => ((vBidders_all hv).2 b hb).2))
    have hm2 : m ≤ 32 := by rw [← Hblen.out]; exact (vBidders_all hv).1
    clear hv
    go_enter Try.func19, Try.ntmps19
    go_wp2_with fail
    refine (vBidders_any A B n c m d _ l bs hn (by omega) Hl.out Hb.out).mono ?_
    rw [HV.out]
    rintro e w1 ⟨rfl, hb1⟩
    have B1 := Lib.hid hb1
    have z1 := hb1.size
    clear hb1
    go_wp2_with (at_make; refine wpList_make_full _ rfl _ _ 23 rfl w1.heap.size 3 i0 (.int .i64 0) 1 Try.underlying23 hi hz0 hz1 .i64 .i64 _ _ n rfl rfl rfl rfl (by rw [hz2]; omega) (by unfold maxLen; omega) (Nat.le_refl _) ?_; intro w2 hown hgrow)
    have hown' := Lib.hid (made_zeros (f := intV) rfl hown)
    have B2 : Hid (Below w.heap.size w w2) := B1.out.grown hgrow z1 (fun g hg => by cases hg)
    have hT0 : Eqn (totS (bs.take 0) n) (List.replicate n 0) := by
      rw [Eqn, List.take_zero]; apply List.ext_getElem?; intro i
      by_cases hi : i < n
      · rw [totS_at _ _ _ hi]; simp [hi, totAt]
      · simp [totS, hi]
    clear hown hgrow
    go_loopw [20] (fun i wr => ∃ j : Nat, j ≤ m ∧ i = .int .i64 j ∧ wr.ownsRow w1.heap.size 3 1 (.slice (some ⟨w1.heap.size, 0, none⟩) n n) n ((totS (bs.take j) n).map intV) ∧ Below w.heap.size w wr) (fun i _ => m - (intOf i).toNat)
    case atStart => exact ⟨0, Nat.zero_le _, rfl, by rw [hT0.out]; exact hown'.out, B2.out⟩
    case round =>
      obtain ⟨j, hj, rfl, HO, HW⟩ := hrel
      obtain ⟨wo, rfl⟩ : ∃ wo : World, wo = wr := ⟨_, rfl⟩
      have HWW := Lib.hid HW
      have HOO := Lib.hid HO
      by_cases hlt : j < m
      · obtain ⟨x, hx, hxd⟩ := drop_at (xs := bs) (k := j) (by rw [Hblen.out]; exact hlt)
        obtain ⟨b, off, rfl, hbl, hc⟩ := (Hb.out.below HW).1.2 (by omega)
        have hxm := List.mem_of_getElem? hx
        have HXr := Lib.hid (Hb.out.2 x hxm)
        have HX := Lib.hid hx
        have c0 := hc j x hx 0 (by omega)
        have c1 := hc j x hx 1 (by omega)
        have c2 := hc j x hx 2 (by omega)
        have c3 := hc j x hx 3 (by omega)
        simp only [Bidr.cell, Nat.add_zero] at c0 c1 c2 c3
        obtain ⟨hal, hav⟩ := HAll.out.2 x hxm
        have Hxn : Eqn x.len n := by rw [← HXr.out.1, ← Hlen.out]; exact hal
        have HV12 := Lib.hid hav
        have hws := HW.size
        have hbs : b < wo.heap.size := by omega
        have hgl := (HO.lt w1.heap.size rfl).2
        obtain ⟨xi, xe, xw, xa, xl, xc, xb⟩ := x
        dsimp only at *
        clear hc hxd hx HW HO hxm hal hav
        go_wp2_with fail
        have HO1 : Hid ((wo.alloc (.cells #[.int .i64 xi, .int .i64 xe, .int .i64 xw, .slice xa xl xc] 56)).ownsRow w1.heap.size 3 1 (.slice (some ⟨w1.heap.size, 0, none⟩) n n) n ((totS (bs.take j) n).map intV)) := HOO.out.alloc _
        have HB1 : Hid (Below w.heap.size w (wo.alloc (.cells #[.int .i64 xi, .int .i64 xe, .int .i64 xw, .slice xa xl xc] 56))) := HWW.out.alloc hws _
        go_loopw [27] (fun i wi => ∃ k : Nat, k ≤ xl ∧ i = .int .i64 k ∧ wi.ownsRow w1.heap.size 3 1 (.slice (some ⟨w1.heap.size, 0, none⟩) n n) n (((totS (bs.take (j + 1)) n).take k ++ (totS (bs.take j) n).drop k).map intV) ∧ Below w.heap.size w wi) (fun i _ => xl - (intOf i).toNat)
        case atStart => exact ⟨0, Nat.zero_le _, rfl, by simpa using HO1.out, HB1.out⟩
        case round =>
          obtain ⟨k, hk, rfl, HP, HY⟩ := hrel
          have HYY := Lib.hid HY
          by_cases hlt2 : k < xl
          · have hkn : k < n := by have := Hxn.out; omega
            obtain ⟨y, hy, _⟩ := drop_at (xs := xb) (k := k) (by rw [HXr.out.1]; exact hlt2)
            obtain ⟨b2, off2, rfl, hbl2, hc2⟩ := (HXr.out.below HY).2 (by omega)
            have c4 := hc2 k y hy
            simp only [intV] at c4
            have hyd : xb.getD k 0 = y := by rw [List.getD_eq_getElem?_getD, hy]; rfl
            have hle := HLe.out j k
            have h12 := HV12.out k
            rw [hyd] at h12
            have hsn := totAt_snoc bs j k _ HX.out
            dsimp only at hsn
            rw [hyd] at hsn
            have c5 : wr.cell? ⟨w1.heap.size, k, none⟩ = some (.int .i64 (totAt (bs.take j) k)) := by
              rw [HP.cellAt k (by omega), List.getElem?_map, mix_at _ _ n k (totS_len _ _) (totS_len _ _) hkn, totS_at _ _ _ hkn]; rfl
            have hfr := HP.frozenAt k
            have HS := Lib.hid (fun u => (HP.stored k u).1)
            have HM : Eqn (((totS (bs.take (j + 1)) n).take k ++ (totS (bs.take j) n).drop k).set k (totAt (bs.take j) k + y)) ((totS (bs.take (j + 1)) n).take (k + 1) ++ (totS (bs.take j) n).drop (k + 1)) :=
              mix_set _ _ n k _ (totS_len _ _) (totS_len _ _) (by rw [totS_at _ _ _ hkn, hsn])
            have hgl2 := (HP.lt w1.heap.size rfl).2
            have j1 : (k : Int) < (n : Int) := by omega
            generalize totAt (bs.take j) k = tt at *
            clear hsn hyd hc2 hy HP HY
            go_wp2
            go_roundw
            case rel =>
              refine ⟨k + 1, by omega, by go_num, ?_, HYY.out.setCell (by simp; omega) _⟩
              rw [← HM.out, List.map_set]
              exact HS.out _
            case measure => simp [intOf]; omega
          · have hkn : k = n := by have := Hxn.out; omega
            have HPP := Lib.hid HP
            clear HP HY
            go_wp2
            go_roundw
            case rel =>
              refine ⟨j + 1, by omega, by go_num, ?_, HYY.out⟩
              have := HPP.out
              rw [hkn, List.take_of_length_le (by rw [totS_len]; omega), drop_end (by rw [totS_len]; omega), List.append_nil] at this
              exact this
            case measure => simp [intOf]; omega
      · have : j = m := by omega
        subst this
        clear HO HW
        go_wp2
        go_ret2
        rw [HF.out]
        refine ⟨_, rfl, ?_, HWW.out⟩
        have := HOO.out
        rw [List.take_of_length_le (by rw [Hblen.out]; omega)] at this
        dsimp only
        rw [totS_len]
        exact own_low this z1

set_option maxHeartbeats 2000000 in
theorem rtotal_any (A B : Option Addr) (n c m d : Nat) (w : World) (l : List Prod) (bs : List Bidr) (hn : n ≤ 140) (hm : m ≤ 140) (hl : RowS 5 Prod.cell w w.heap.size A n l) (hb : BidsAt w w.heap.size B m bs) :
    Calls Try.prog 20 #[.slice A n c, .slice B m d] w (ListPost (totF l bs) w) := by
  obtain ⟨i0, hi, hz0, hz1, hz2⟩ := info_parts int_info
  have Hl := Lib.hid hl
  have Hb := Lib.hid hb
  have Hlen := Eqn.mk hl.1
  have Hblen := Eqn.mk hb.1.1
  clear hl hb
  cases hv : vBidders l bs with
  | false =>
    have HV := Eqn.mk hv
    have HF : Eqn (totF l bs) ([], 2) := by unfold totF Eqn; rw [if_neg (by rw [hv]; simp)]
    clear hv
    go_enter Try.func20, Try.ntmps20
    go_wp2_with fail
    refine (rBidders_any A B n c m d _ l bs hn hm Hl.out Hb.out).mono ?_
    rw [HV.out]
    rintro e w1 ⟨rfl, hb1⟩
    go_wp2_with fail
    go_ret2
    rw [HF.out]
    exact ⟨_, rfl, World.ownsRow_nil _ _ _ _, hb1⟩
  | true =>
    have HV := Eqn.mk hv
    have HF : Eqn (totF l bs) (totS bs n, 0) := by unfold totF Eqn; rw [if_pos hv, Hlen.out]
    have HAll := Lib.hid (vBidders_all hv)
    have HLe := Lib.hid (totAt_le bs (fun b hb => ((vBidders_all hv).2 b hb).2))
    clear hv
    go_enter Try.func20, Try.ntmps20
    go_wp2_with fail
    refine (rBidders_any A B n c m d _ l bs hn hm Hl.out Hb.out).mono ?_
    rw [HV.out]
    rintro e w1 ⟨rfl, hb1⟩
    have B1 := Lib.hid hb1
    clear hb1
    go_wp2_with fail
    go_loopw [6, 7] (fun v i wr => ∃ k : Nat, k ≤ n ∧ i = .int .i64 k ∧ wr.ownsRow w.heap.size 3 1 v k (((totS bs n).take k).map intV) ∧ Below w.heap.size w wr) (fun _ i _ => n - (intOf i).toNat)
    case atStart => exact ⟨0, Nat.zero_le _, rfl, World.ownsRow_nil _ _ _ _, B1.out⟩
    case round =>
      obtain ⟨k, hk, rfl, HO, HW⟩ := hrel
      have HWW := Lib.hid HW
      have HOO := Lib.hid HO
      have hws := HW.size
      have HBW := Lib.hid (Hb.out.below HW)
      by_cases hlt : k < n
      · clear HO HW
        have HT : Eqn ((totS bs n).take (k + 1)) ((totS bs n).take k ++ [totAt bs k]) := by
          rw [Eqn, List.take_add_one, totS_at _ _ _ hlt]; rfl
        go_wp2_with fail
        go_loop [8, 9] (fun t i => ∃ (j : Nat) (acc : Int), j ≤ m ∧ i = .int .i64 j ∧ t = .int .i64 acc ∧ Eqn acc (totAt (bs.take j) k)) (fun _ i => m - (intOf i).toNat)
        case atStart => exact ⟨0, 0, Nat.zero_le _, rfl, rfl, rfl⟩
        case round =>
          obtain ⟨j, acc, hj, rfl, rfl, HR⟩ := hrel
          have hle := HLe.out j k
          rw [← HR.out] at hle
          by_cases hlt2 : j < m
          · obtain ⟨x, hx, hxd⟩ := drop_at (xs := bs) (k := j) (by rw [Hblen.out]; exact hlt2)
            obtain ⟨b, off, rfl, hbl, hc⟩ := HBW.out.1.2 (by omega)
            have hxm := List.mem_of_getElem? hx
            obtain ⟨hal, hav⟩ := HAll.out.2 x hxm
            have hrow := HBW.out.2 x hxm
            have c3 := hc j x hx 3 (by omega)
            simp only [Bidr.cell] at c3
            have hxl : k < x.len := by rw [← hrow.1, hal, Hlen.out]; exact hlt
            obtain ⟨y, hy, _⟩ := drop_at (xs := x.blocks) (k := k) (by rw [hrow.1]; exact hxl)
            obtain ⟨b2, off2, hadr, hbl2, hc2⟩ := hrow.2 (by omega)
            have c4 := hc2 k y hy
            simp only [intV] at c4
            rw [hadr] at c3
            have hyd : x.blocks.getD k 0 = y := by rw [List.getD_eq_getElem?_getD, hy]; rfl
            have h12 := hav k
            rw [hyd] at h12
            have HR2 : Eqn (acc + y) (totAt (bs.take (j + 1)) k) := by rw [Eqn, totAt_snoc bs j k x hx, hyd, HR.out]
            have j1 : (k : Int) < (x.len : Int) := by omega
            obtain ⟨g1, g2⟩ := h12
            obtain ⟨g3, g4⟩ := hle
            clear hc hc2 hxd hx hxm hal hav hrow hyd hy hadr HR
            go_wp2
            go_round
            case rel => exact ⟨j + 1, acc + y, by omega, by go_num, rfl, HR2⟩
            case measure => simp [intOf]; omega
          · have hjm : j = m := by omega
            have HR2 : Eqn acc (totAt bs k) := by
              have := HR.out; rw [hjm, List.take_of_length_le (by rw [Hblen.out]; omega)] at this; exact this
            clear HR hjm
            go_wp2_with (at_builtin; refine wpList_append_own_at _ rfl _ _ 23 rfl w.heap.size 3 i0 (.int .i64 0) 1 8 Try.underlying23 hi hz0 hz1 hz2 rfl (by decide) _ _ _ rfl (HOO.out.alloc _) ⟨wr.heap.size, 0, none⟩ 1 1 [.int .i64 acc] rfl rfl (cell_one_new _ _ _) (by simp [Value.oneCell']) (by unfold maxLen; omega) (by omega) (by simp; omega) ?_; intro v' w3 hown' hgrow hnil hat)
            go_roundw
            case rel => exact ⟨k + 1, by omega, by go_num, by rw [HT.out, List.map_append, ← HR2.out]; exact hown', (HWW.out.alloc hws _).grown hgrow (by simp; omega) (own_ge HOO.out)⟩
            case measure => simp [intOf]; omega
      · have : k = n := by omega
        subst this
        clear HO HW
        go_wp2_with fail
        go_ret2
        rw [HF.out]
        refine ⟨_, rfl, ?_, HWW.out⟩
        have := HOO.out
        rw [List.take_of_length_le (by rw [totS_len]; omega)] at this
        dsimp only
        rw [totS_len]
        exact this
end Go.Proofs.Ytoafkphcfhbnmaa
