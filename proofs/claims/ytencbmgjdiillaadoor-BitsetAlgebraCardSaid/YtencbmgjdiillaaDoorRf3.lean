/- Contracts of the reference's Encode and Decode. -/
import Derived.Test.YtencbmgjdiillaaDoorCn07
import Derived.Test.YtencbmgjdiillaaDoorEn07
namespace Go.Proofs.YtencbmgjdiillaaDoor
open Go.RowKit

theorem byV_one (b : UInt8) : (byV b).oneCell' = true := rfl
theorem bc_byV (l : List UInt8) : Lib.byteCells l = l.map byV := rfl

/-- how long a slice is -/
def lenV (v : Value) : Nat := match v with | .slice _ n _ => n | _ => 0
theorem lenV_slice (A : Option Addr) (n c : Nat) : lenV (.slice A n c) = n := rfl

set_option maxHeartbeats 4000000 in
theorem encR_any (A : Option Addr) (n c : Nat) (w : World) (l : List (Fin 512)) (hn : n ≤ 1000) (hl : Row1 intV w w.heap.size A n (finI l)) :
    Calls Tryd.prog 27 #[.slice A n c] w fun e w' => ∃ v, e = .returned v ∧ w'.ownsRow w.heap.size 5 1 v (encP (l.map Fin.val)).length (Lib.byteCells (encP (l.map Fin.val))) ∧ Below w.heap.size w w' := by
  obtain ⟨i0, hi, hz0, hz1, hz2⟩ := info_parts u8_info
  have Hl := Lib.hid hl
  have Hlen : Eqn l.length n := by have := hl.1; unfold finI at this; rw [List.length_map] at this; exact this
  clear hl
  go_enter Tryd.func27, Tryd.ntmps27
  go_wp2_with fail
  go_loopw [3, 4] (fun v i wr => ∃ k : Nat, k ≤ n ∧ i = .int .i64 k ∧ wr.ownsRow w.heap.size 5 1 v (encP ((l.take k).map Fin.val)).length (Lib.byteCells (encP ((l.take k).map Fin.val))) ∧ Below w.heap.size w wr) (fun _ i _ => n - (intOf i).toNat)
  case atStart => exact ⟨0, Nat.zero_le _, rfl, World.ownsRow_nil _ _ _ _, Below.refl _ _⟩
  case round =>
    obtain ⟨k, hk, rfl, hO, hB⟩ := hrel
    by_cases hlt : k < n
    · obtain ⟨x, hx, _⟩ := drop_at (xs := l) (k := k) (by rw [Hlen.out]; exact hlt)
      obtain ⟨b, off, rfl, hbl, hc⟩ := (Hl.out.below hB).2 (by omega)
      have HSN : Eqn (encP ((l.take (k + 1)).map Fin.val)) (encGo (encP ((l.take k).map Fin.val)) x.1) := by
        rw [Eqn, List.take_add_one, hx]
        simp only [Option.toList_some, List.map_append, List.map_cons, List.map_nil]
        rw [encP_snoc]
      have hl1 := encP_len (l.take k)
      have hxg : (finI l)[k]? = some (x.1 : Int) := by unfold finI; rw [List.getElem?_map, hx]; rfl
      obtain ⟨y, hy⟩ : ∃ y : Int, ((x.1 : Nat) : Int) = y := ⟨_, rfl⟩
      obtain ⟨q, hq⟩ : ∃ q : Nat, x.1 / 8 = q := ⟨_, rfl⟩
      obtain ⟨j, hj⟩ : ∃ j : Nat, x.1 % 8 = j := ⟨_, rfl⟩
      have hx5 := x.2
      have e1 : IntKind.i64.wrap (y.tdiv 8) = (q : Int) := by rw [IntWalk.i64_quo _ _ (by omega)]; omega
      have e2 : y.tmod 8 = (j : Int) := by rw [IntWalk.rem_in _ _ (by omega)]; omega
      have hq6 : q < 64 := by omega
      have hj8 : j < 8 := by omega
      generalize encP ((l.take k).map Fin.val) = T at *
      have HN : Hid (encP ((l.take (k + 1)).map Fin.val) = (padB T (q + 1)).set q (orB ((padB T (q + 1)).getD q 0) j)) := Lib.hid (by rw [HSN.out, encGo, hq, hj])
      have HC : Hid (∀ W, Below w.heap.size w W → W.cell? ⟨b, off + k, none⟩ = some (.int .i64 y)) := Lib.hid (fun W h => by
        obtain ⟨b2, off2, he, _, hc2⟩ := (Hl.out.below h).2 (by omega)
        cases he
        have := hc2 k (x.1 : Int) hxg
        rw [hy] at this
        exact this)
      have j0 : (k : Int) < (n : Int) := by omega
      have H0 := Lib.hid (And.intro hO hB)
      clear hc hx HSN hy hq hj hx5 hxg hO hB
      go_wp2_with fail
      go_loopw [3] (fun v wr => ∃ kk : Nat, wr.ownsRow w.heap.size 5 1 v (T.length + kk) (Lib.byteCells (T ++ List.replicate kk 0)) ∧ Below w.heap.size w wr ∧ (kk = 0 ∨ T.length + kk ≤ q + 1)) (fun v _ => 65 - lenV v)
      case atStart => exact ⟨0, by simpa using H0.out.1, H0.out.2, .inl rfl⟩
      case round =>
        clear H0
        obtain ⟨kk, hrow, hB, hkk⟩ := hrel
        obtain ⟨A1, cap1, rfl⟩ := own_slice hrow
        have hbs := hB.size
        have c0 := HC.out _ hB
        have hbw : b < wr.heap.size := by omega
        have H1 := Lib.hid (And.intro hrow hB)
        by_cases hle : T.length + kk ≤ q
        · have hle' : ((T.length + kk : Nat) : Int) ≤ (q : Int) := by omega
          clear hrow hB
          go_wp2_with (at_builtin; refine wpList_append_own_at _ rfl _ _ 50 rfl w.heap.size 5 i0 (.int .u8 0) 1 1 Tryd.underlying50 hi hz0 hz1 hz2 rfl (by decide) _ _ _ rfl (H1.out.1.alloc _) ⟨wr.heap.size, 0, none⟩ 1 1 [.int .u8 0] rfl rfl (cell_one_new _ _ _) (by simp [Value.oneCell']) (by unfold maxLen; omega) (by omega) (by simp; omega) ?_; intro v' w3 hown' hgrow hnil hat; obtain ⟨g', cap', rfl⟩ := ownsRow_succ hown'; have H3 : Hid (w3.ownsRow w.heap.size 5 1 (.slice (some ⟨g', 0, none⟩) (T.length + kk + 1) cap') (T.length + kk + 1) (Lib.byteCells (T ++ List.replicate kk 0) ++ [.int .u8 0]) ∧ Below w.heap.size w w3) := Lib.hid ⟨hown', (H1.out.2.alloc hbs _).grown hgrow (by simp; omega) (fun g hg => own_ge H1.out.1 g hg)⟩; clear hown' hgrow hnil hat)
          clear e1 e2 c0
          go_roundw
          case rel => exact ⟨kk + 1, by rw [List.replicate_succ', ← List.append_assoc, bc_append, ← Nat.add_assoc]; exact H3.out.1, H3.out.2, .inr (by omega)⟩
          case measure => rw [lenV_slice, lenV_slice]; omega
        · have hgt : (q : Int) < ((T.length + kk : Nat) : Int) := by omega
          have hgt' : ¬ ((T.length + kk : Nat) : Int) ≤ (q : Int) := by omega
          have hpad : padB T (q + 1) = T ++ List.replicate kk 0 := by
            unfold padB
            rcases hkk with rfl | hkk
            · rw [show q + 1 - T.length = 0 by omega]
            · rw [show q + 1 - T.length = kk by omega]
          rw [hpad] at HN
          clear hpad
          have hRl : (T ++ List.replicate kk 0).length = T.length + kk := by simp
          generalize T ++ List.replicate kk 0 = R at *
          obtain ⟨m, hm⟩ : ∃ m, T.length + kk = m := ⟨_, rfl⟩
          rw [hm] at hrow hgt hgt' hRl ⊢
          clear H1
          obtain ⟨m', hm'⟩ : ∃ m', m = m' + 1 := ⟨m - 1, by omega⟩
          subst hm'
          obtain ⟨g, capg, hge⟩ := ownsRow_succ hrow
          injection hge with hA hlen_ hcap_
          subst hA
          obtain ⟨bb, hb0⟩ : ∃ bb, R[q]? = some bb := ⟨_, List.getElem?_eq_getElem (by omega)⟩
          have hgD : R.getD q 0 = bb := by rw [List.getD_eq_getElem?_getD, hb0]; rfl
          rw [hgD] at HN
          have c5 : wr.cell? ⟨g, q, none⟩ = some (.int .u8 (bb.toNat : Int)) := by
            rw [hrow.cellAt q (by omega)]
            simp [Lib.byteCells, hb0]
          have hfr := hrow.frozenAt q
          have hgl := (hrow.lt g rfl).2
          have hgb := (hrow.lt g rfl).1
          have HST := Lib.hid (fun u' => (hrow.stored q u').1)
          have e3 : IntKind.u8.wrap (2 ^ j) = ((2 ^ j : Nat) : Int) := by
            have := Nat.pow_lt_pow_right (a := 2) (by decide) hj8
            rw [pow_cast]
            generalize 2 ^ j = z at *
            rw [IntWalk.u8_in _ (by omega)]
          have HOR : Hid (bits .or .u8 (bb.toNat : Int) (2 ^ j) = ((orB bb j).toNat : Int)) := Lib.hid (by
            rw [orB_nat bb hj8, pow_cast]
            exact u8_or_nat _ _ bb.toNat_lt (by have := Nat.pow_lt_pow_right (a := 2) (by decide) hj8; simpa using this))
          have HR2 := Lib.hid (And.intro hRl hb0)
          have HB := Lib.hid hB
          have hq0 : (0 : Int) ≤ (q : Int) := by omega
          have hk0 : (0 : Int) ≤ (k : Int) := by omega
          clear hrow hB hRl hb0 hgD hle hkk hm hlen_ hcap_
          go_wp2_with fail
          refine Lx.region (C := fun _ => True) (hs := []) (by kernel_rfl) (by kernel_rfl) trivial ?_
          repeat' (first
            | (refine Lx.lex_no (Lx.n1 rfl rfl rfl (by with_reducible rfl)) (fun K hK => ?_); go_simp; refine hK _ ?_; clear hK K)
            | (refine Lx.lex_no (Lx.n0 rfl rfl rfl (by with_reducible rfl)) (fun K hK => ?_); go_simp; refine hK _ ?_; clear hK K)
            | (refine Lx.lex_no (Lx.n2 rfl rfl rfl) (fun K hK => ?_); go_simp; refine hK _ ?_; clear hK K)
            | (refine Lx.lex_pure (v := ?_) rfl (by first | exact Lx.w0 rfl | exact Lx.w1 rfl rfl rfl (by with_reducible rfl)) ?_ (fun K hK => ?_); rotate_left 1; (intro w' hCw; (try dsimp only at hCw); go_simp; done); go_simp; refine hK _ ?_; clear hK K)
            | (refine Lx.lex_pure (v := ?_) rfl (by first | exact Lx.w0 rfl | exact Lx.w1 rfl rfl rfl (by with_reducible rfl)) ?_ (fun K hK => ?_); rotate_left 1; (intro w' hCw; (try dsimp only at hCw); go_simp; with_reducible rfl); go_simp; refine hK _ ?_; clear hK K)
            | (refine Lx.lex_read (v := ?_) rfl (by first | exact Lx.w0 rfl | exact Lx.w1 rfl rfl rfl (by with_reducible rfl)) ?_ (fun K hK => ?_); rotate_left 1; (go_simp; done); go_simp; refine hK _ ?_; clear hK K)
            | (refine Lx.lex_read (v := ?_) rfl (by first | exact Lx.w0 rfl | exact Lx.w1 rfl rfl rfl (by with_reducible rfl)) ?_ (fun K hK => ?_); rotate_left 1; (go_simp; with_reducible rfl); go_simp; refine hK _ ?_; clear hK K)
            | (refine Lx.lex_eff rfl (by first | exact Lx.w0 rfl | exact Lx.w1 rfl rfl rfl (by with_reducible rfl)) (fun K hK => ?_); go_simp; (first | fail | skip); refine hK _ _ (trivial) ?_; clear hK K)
            | (refine Lx.lex_cases rfl rfl rfl (fun hgd K hK => ?_) (fun hgd K hK => ?_) <;> (try simp only [decide_eq_true_eq, decide_eq_false_iff_not] at hgd) <;> (first | (exfalso; omega) | (go_simp; refine hK _ ?_; clear hK K))))
          all_goals (refine Lx.lex_nil ?_)
          rw [HOR.out]
          go_wp2_with fail
          clear e1 e2 e3
          go_roundw
          case rel =>
            refine ⟨k + 1, by omega, by go_num, ?_, (HB.out.setCell (p := ⟨g, q, none⟩) hgb _).drew⟩
            rw [HN.out, List.length_set, HR2.out.1]
            have : Lib.byteCells (R.set q (orB bb j)) = (Lib.byteCells R).set q (.int .u8 ((orB bb j).toNat : Int)) := by unfold Lib.byteCells; rw [List.map_set]
            rw [this]
            exact HST.out _
          case measure => simp [intOf]; omega
    · have HT : l.take k = l := List.take_of_length_le (by rw [Hlen.out]; omega)
      rw [HT] at hO
      obtain ⟨A1, c1, rfl⟩ := own_slice hO
      have H1 := Lib.hid (And.intro hO hB)
      clear hO hB HT
      go_wp2_with fail
      go_ret
      exact ⟨_, rfl, H1.out.1, H1.out.2⟩

theorem encM_any (S : Nat) (A : Option Addr) (n c : Nat) (w : World) (hl : Row1 intV w w.heap.size A n (memI S)) :
    Calls Tryd.prog 27 #[.slice A n c] w fun e w' => ∃ v, e = .returned v ∧ w'.ownsRow w.heap.size 5 1 v (encF S).length (Lib.byteCells (encF S)) ∧ Below w.heap.size w w' := by
  obtain ⟨L, hL⟩ := fin_of (mem S) (fun m hm => mem_lt hm)
  have hn : n ≤ 1000 := by have h1 := hl.1; rw [memI_len] at h1; have := mem_len S; omega
  rw [← finI_mem hL] at hl
  have := encR_any A n c w L hn hl
  rw [hL] at this
  exact this
end Go.Proofs.YtencbmgjdiillaaDoor
