/- The contract of band.Next. -/
import Derived.Test.YtpdhelhngdeoeaaTg26
namespace Go.Proofs.Ytpdhelhngdeoeaa
open Go.RowKit Go.Shelf

attribute [local go_sem] Oper.semAt_some

theorem tgt_eql (a b : Int) (w : World) : (binOp .eql 32 (.agg #[.int .i64 a]) (.agg #[.int .i64 b])).run Try.prog w = .ok (.bool (decide (a = b))) w := by
  have h := target_eq w a b
  unfold binOp
  simp [go_sem, h]
theorem tgt_neq (a b : Int) (w : World) : (binOp .neq 32 (.agg #[.int .i64 a]) (.agg #[.int .i64 b])).run Try.prog w = .ok (.bool (!decide (a = b))) w := by
  have h := target_eq w a b
  unfold binOp
  simp [go_sem, h]

/-- the next target and the error -/
def nextT (t : Int) : Int × Int := if vldT t = false then (0, 2) else if atF t = 10 then (0, 9) else (keyE (atF t + 1).toNat, 0)
theorem nextT_at : ∀ y : Fin 10, nextT (keyE y.1) = (keyE (y.1 + 1), 0) := by decide +kernel
theorem nextT_last : nextT (keyE 10) = (0, 9) := by decide +kernel
def lastIs (t : Int) (pre : List Nat) : Bool := match pre.getLast? with | some y => decide (keyE y = t) | none => false
theorem lastIs_snoc (t : Int) (pre : List Nat) (x : Nat) : lastIs t (pre ++ [x]) = decide (keyE x = t) := by unfold lastIs; simp

def NxI (w : World) (t : Int) (gp m : Nat) (pre : List Nat) (X : World) : Prop := m ≤ X.heap.size ∧ (∀ y ∈ pre.dropLast, keyE y ≠ t) ∧ Boxed X gp 4 (.bool (lastIs t pre)) ∧ Boxed X w.heap.size 32 (.int .i64 t) ∧ Boxed X (w.heap.size + 1) 32 (.int .i64 0) ∧ Boxed X (w.heap.size + 1 + 1) 22 (.int .i64 0) ∧ Below w.heap.size w X
def NxX (w : World) (t : Int) (c : Code) (pre : List Nat) (X : World) : Prop := c = .ret ∧ ∃ q y z, pre = q ++ [y, z] ∧ keyE y = t ∧ Boxed X (w.heap.size + 1) 32 (.int .i64 (keyE z)) ∧ Boxed X (w.heap.size + 1 + 1) 22 (.int .i64 0) ∧ Below w.heap.size w X
theorem nxI_own {w : World} {t : Int} {gp m B : Nat} (hB : w.heap.size ≤ B) : OwnFrom B (NxI w t gp m) := by
  intro pre X Y row hJ hg hr
  obtain ⟨h0, h1, h2, h3, h4, h5, h6⟩ := hJ
  refine ⟨Nat.le_trans h0 hg.size, h1, ?_, ?_, ?_, ?_, ownFrom_below (β := Unit) (Nat.le_refl _) hB () X Y row h6 hg hr⟩
  · exact Own.from (boxed_own gp 4 (fun _ : Unit => Value.bool (lastIs t pre))) B () X Y row h2 hg hr
  · exact Own.from (boxed_own _ 32 (fun _ : Unit => Value.int .i64 t)) B () X Y row h3 hg hr
  · exact Own.from (boxed_own _ 32 (fun _ : Unit => Value.int .i64 0)) B () X Y row h4 hg hr
  · exact Own.from (boxed_own _ 22 (fun _ : Unit => Value.int .i64 0)) B () X Y row h5 hg hr
theorem nxX_own {w : World} {t : Int} {B : Nat} (hB : w.heap.size ≤ B) (c : Code) : OwnFrom B (NxX w t c) := by
  intro pre X Y row hJ hg hr
  obtain ⟨h1, q, y, z, h2, h3, h4, h5, h6⟩ := hJ
  refine ⟨h1, q, y, z, h2, h3, ?_, ?_, ownFrom_below (β := Unit) (Nat.le_refl _) hB () X Y row h6 hg hr⟩
  · exact Own.from (boxed_own _ 32 (fun _ : Unit => Value.int .i64 (keyE z))) B () X Y row h4 hg hr
  · exact Own.from (boxed_own _ 22 (fun _ : Unit => Value.int .i64 0)) B () X Y row h5 hg hr
theorem heap_set {W : World} {a : Addr} {v : Value} {k : Nat} (h : a.block ≠ k) : (W.setCell a v).heap[k]? = W.heap[k]? := Below.heap_setCell _ _ _ _ (fun e => h e.symm)
theorem boxed_put {W : World} {B D : Nat} {t : TypeId} {v : Value} (h : Boxed W B t v) (hne : B ≠ D) (o : Obj) : Boxed (W.putObj D o) B t v := (World.putObj_heap_other hne).trans h
theorem boxed_keep {W W' : World} {B : Nat} {t : TypeId} {v : Value} (h : Boxed W B t v) (hb : Below W.heap.size W W') : Boxed W' B t v := (hb.block B h.lt).trans h

set_option maxRecDepth 100000 in
set_option maxHeartbeats 2000000 in
theorem nextT_any (t : Int) (w : World) : Calls Try.prog 14 #[.agg #[.int .i64 t]] w (RetPost (.tuple #[.agg #[.int .i64 (nextT t).1], .int .i64 (nextT t).2]) w.heap.size w) := by
  obtain ⟨W0, hW0⟩ : ∃ W0, W0 = ((w.alloc (.cells #[.int .i64 t] 32)).alloc (.cells #[.int .i64 0] 32)).alloc (.cells #[.int .i64 0] 22) := ⟨_, rfl⟩
  have b1 : Boxed W0 w.heap.size 32 (.int .i64 t) := by rw [hW0]; exact ((Boxed.new w _ _).alloc _).alloc _
  have b2 : Boxed W0 (w.heap.size + 1) 32 (.int .i64 0) := by
    rw [hW0]; have := Boxed.new (w.alloc (.cells #[.int .i64 t] 32)) 32 (.int .i64 0); rw [World.size_alloc] at this; exact this.alloc _
  have b3 : Boxed W0 (w.heap.size + 1 + 1) 22 (.int .i64 0) := by
    rw [hW0]; have := Boxed.new ((w.alloc (.cells #[.int .i64 t] 32)).alloc (.cells #[.int .i64 0] 32)) 22 (.int .i64 0); simpa using this
  have hB0 : Below w.heap.size w W0 := by rw [hW0]; exact (((Below.refl _ w).alloc (Nat.le_refl _) _).alloc (by simp) _).alloc (by simp; omega) _
  have c1 := b1.cell
  have H0 := Lib.hid (And.intro b1 (And.intro b2 (And.intro b3 hB0)))
  have HVL := Lib.hid (fun W => bvalid_any t W)
  clear b1 b2 b3 hB0
  cases hv : vldT t with
  | false =>
    have HF : Eqn (nextT t) (0, 2) := by rw [Eqn, nextT, if_pos hv]
    rw [HF.out]
    rw [hv] at HVL
    clear HF hv
    go_enter Try.func14, Try.ntmps14
    go_wp2_with fail
    rw [← hW0]
    clear hW0
    refine (HVL.out _).mono ?_
    rintro e W1 ⟨rfl, hb1⟩
    have b2 := boxed_keep H0.out.2.1 hb1
    have b3 := boxed_keep H0.out.2.2.1 hb1
    have k2 := b2.cell
    have k3 := b3.cell
    have f2 := b2.frozen
    have f3 := b3.frozen
    have l2 := b2.lt
    have l3 := b3.lt
    have H1 := Lib.hid (And.intro b2 (And.intro b3 (H0.out.2.2.2.trans (hb1.mono H0.out.2.2.2.size))))
    clear b2 b3 hb1
    go_wp2_with fail
    have b2 := (H1.out.1.set (.int .i64 0)).other (B' := w.heap.size + 1 + 1) (by omega) (.int .i64 2)
    have b3 := (H1.out.2.1.other (B' := w.heap.size + 1) (by omega) (.int .i64 0)).set (.int .i64 2)
    have q2 := b2.cell
    have q3 := b3.cell
    refine bodyPost_ret (v := .tuple #[.agg #[.int .i64 0], .int .i64 2]) (by simp [results, Try.results14, go_sem, q2, q3]) rfl ⟨rfl, (H1.out.2.2.setCell (p := ⟨w.heap.size + 1, 0, none⟩) (by simp) _).setCell (p := ⟨w.heap.size + 1 + 1, 0, none⟩) (by dsimp only; omega) _⟩
  | true =>
    have heq := tgt_eql
    rw [hv] at HVL
    have HV := Lib.hid hv
    clear hv
    refine (callsIn_wide (n := 3)).1 ?_
    refine callsIn_of_wp_marks Try.func14 rfl trivial ?_ rfl
    simp only [Try.ntmps14, List.size_toArray, List.length_cons, List.length_nil, Nat.reduceAdd, Nat.reduceSub, Array.replicate_succ, Array.replicate_zero, List.push_toArray, List.append_toArray, List.nil_append, List.cons_append]
    gi_wp2_with fail
    rw [← hW0]
    clear hW0
    refine ⟨trivial, (callsIn_wide.2 (HVL.out _)).mono ?_⟩
    rintro e W1 ⟨rfl, hb1⟩
    have H1 := Lib.hid (And.intro (boxed_keep H0.out.1 hb1) (And.intro (boxed_keep H0.out.2.1 hb1) (And.intro (boxed_keep H0.out.2.2.1 hb1) (H0.out.2.2.2.trans (hb1.mono H0.out.2.2.2.size)))))
    clear hb1 H0 c1
    gi_wp2_with fail
    refine ⟨trivial, (callsIn_wide.2 (targets_any _)).mono ?_⟩
    rintro e W2 ⟨rfl, hW2⟩
    have hbW : Below W1.heap.size W1 W2 := by rw [hW2]; exact ((Below.refl _ W1).alloc (Nat.le_refl _) _).alloc (by simp) _
    have bp : Boxed W2 W1.heap.size 4 (.bool false) := by rw [hW2]; exact (Boxed.new W1 _ _).alloc _
    have hk : Blk W2 (W1.heap.size + 1) 75 keyCells := by rw [hW2]; have := blk_new (W1.alloc (.cells #[.bool false] 4)) keyCells 75; rwa [World.size_alloc] at this
    have hs2 : W2.heap.size = W1.heap.size + 2 := by rw [hW2]; simp
    have hl3 := H1.out.2.2.1.lt
    have HI0 : Hid (NxI w t W1.heap.size W2.heap.size [] W2) := Lib.hid ⟨Nat.le_refl _, (fun y h => by cases h), bp, boxed_keep H1.out.1 hbW, boxed_keep H1.out.2.1 hbW, boxed_keep H1.out.2.2.1 hbW, H1.out.2.2.2.trans (hbW.mono H1.out.2.2.2.size)⟩
    clear hW2 hbW bp
    simp only [World.size_alloc]
    gi_wp2_with fail
    refine wpIn_rangeFunc_ownH rfl (by decide) (gf := 31) (lb := #[.pointer (some ⟨W1.heap.size + 1, 0, none⟩)]) rfl trivial (enters_of Try.func31 (by kernel_rfl) rfl)
      (tgt_stops 2 (by decide) (W1.heap.size + 1) w.heap.size W2 hk) keep1_t (keep1_b (by omega) (by omega)) (Below.refl _ _) (fun _ => rfl)
      (NxI w t W1.heap.size W2.heap.size) (NxX w t) (nxI_own (by omega)) (nxX_own (by omega)) HI0.out
      (fun x a' X => ∃ Bx, W2.heap.size ≤ Bx ∧ Boxed X Bx 32 (.int .i64 (keyE x)) ∧ a' = { tmps := #[.agg #[.int .i64 t], .pointer (some ⟨w.heap.size, 0, none⟩), .pointer (some ⟨w.heap.size + 1, 0, none⟩), .pointer (some ⟨w.heap.size + 1 + 1, 0, none⟩), .pointer (some ⟨W1.heap.size, 0, none⟩), undef, .pointer (some ⟨Bx, 0, none⟩), .agg #[.int .i64 t], .bool true, .bool false, undef, .func (.func 31) #[] #[.pointer (some ⟨W1.heap.size + 1, 0, none⟩)], .int .i64 x, .agg #[.int .i64 (keyE x)], undef, undef, undef, undef, undef, undef], defers := [] }) ?hAx ?assign ?body ?done ?stop
    case hAx =>
      intro x a' u X Y row h hg hr
      obtain ⟨Bx, h1, h2, h3⟩ := h
      exact ⟨Bx, h1, Own.from (boxed_own Bx 32 (fun _ : Unit => Value.int .i64 (keyE x))) _ () X Y row h2 hg hr, h3⟩
    case assign =>
      rintro l pre x X K hI hK
      gi_wp2
      obtain ⟨h0, h1, h2, h3, h4, h5, h6⟩ := hI
      exact hK _ _ ((KeepsOthers.alloc _ _).from _) ⟨(Below.refl _ X).alloc h6.size _, Below.heap_alloc X _ _ (by omega)⟩ ⟨by simp; omega, h1, h2.alloc _, h3.alloc _, h4.alloc _, h5.alloc _, h6.alloc h6.size _⟩ ⟨X.heap.size, h0, Boxed.new X _ _, rfl⟩
    case body =>
      rintro l pre x a' X hl ⟨r, hr⟩ hI ⟨Bx, hBx, bX, rfl⟩ hlt
      obtain ⟨h0, h1, h2, h3, h4, h5, h6⟩ := hI
      have c4 := h2.cell
      have f4 := h2.frozen
      have l4 := h2.lt
      have c1 := h3.cell
      have c2 := h4.cell
      have f2 := h4.frozen
      have l2 := h4.lt
      have c3 := h5.cell
      have f3 := h5.frozen
      have l3 := h5.lt
      have c6 := bX.cell
      cases hla : lastIs t pre with
      | true =>
        rw [hla] at c4
        obtain ⟨q, y, hq, hy⟩ : ∃ q y, pre = q ++ [y] ∧ keyE y = t := by
          unfold lastIs at hla
          cases hg : pre.getLast? with
          | none => rw [hg] at hla; cases hla
          | some y =>
            rw [hg] at hla
            obtain ⟨q, hq⟩ := List.getLast?_eq_some_iff.1 hg
            exact ⟨q, y, hq, by simpa using hla⟩
        have HN : Hid (KeepsFrom W2.heap.size X ((X.setCell ⟨w.heap.size + 1, 0, none⟩ (.int .i64 (keyE x))).setCell ⟨w.heap.size + 1 + 1, 0, none⟩ (.int .i64 0)) ∧ NxX w t .ret (pre ++ [x]) ((X.setCell ⟨w.heap.size + 1, 0, none⟩ (.int .i64 (keyE x))).setCell ⟨w.heap.size + 1 + 1, 0, none⟩ (.int .i64 0))) := Lib.hid ⟨((KeepsOthers.setCell _ _ _).trans (KeepsOthers.setCell _ _ _)).from _, rfl, q, y, x, by rw [hq]; simp, hy, (h4.set _).other (by omega) _, (h5.other (by omega) _).set _, (h6.setCell (p := ⟨w.heap.size + 1, 0, none⟩) (by simp) _).setCell (p := ⟨w.heap.size + 1 + 1, 0, none⟩) (by dsimp only; omega) _⟩
        clear h1 h2 h3 h4 h5 h6 bX hla hq hy hr
        gi_wp2_with fail
        exact HN.out
      | false =>
        rw [hla] at c4
        have HN : Hid (KeepsFrom W2.heap.size X (X.setCell ⟨W1.heap.size, 0, none⟩ (.bool (decide (keyE x = t)))) ∧ Keep1 w.heap.size (W1.heap.size + 1) X (X.setCell ⟨W1.heap.size, 0, none⟩ (.bool (decide (keyE x = t)))) ∧ NxI w t W1.heap.size W2.heap.size (pre ++ [x]) (X.setCell ⟨W1.heap.size, 0, none⟩ (.bool (decide (keyE x = t))))) := Lib.hid ⟨(KeepsOthers.setCell _ _ _).from _, ⟨(Below.refl _ X).setCell (p := ⟨W1.heap.size, 0, none⟩) (by dsimp only; omega) _, heap_set (by dsimp only; omega)⟩, by simpa using h0, by
            intro y hy
            rw [List.dropLast_concat] at hy
            rcases List.eq_nil_or_concat pre with rfl | ⟨q, z, rfl⟩
            · cases hy
            · rw [List.concat_eq_append] at h1 hla hy
              rw [List.dropLast_concat] at h1
              rcases List.mem_append.1 hy with h | h
              · exact h1 y h
              · obtain rfl : y = z := by simpa using h
                rw [lastIs_snoc] at hla
                simpa using hla, by rw [lastIs_snoc]; exact h2.set _, h3.other (by omega) _, h4.other (by omega) _, h5.other (by omega) _, h6.setCell (p := ⟨W1.heap.size, 0, none⟩) (by dsimp only; omega) _⟩
        clear h1 h2 h3 h4 h5 h6 bX hla hr
        generalize keyE x = y at *
        gi_wp2_with fail
        exact HN.out
    case done =>
      rintro D ys X hD rfl hI hK
      obtain ⟨h0, h1, h2, h3, h4, h5, h6⟩ := hI
      have c2 := h4.cell
      have f2 := h4.frozen
      have l2 := h4.lt
      have c3 := h5.cell
      have f3 := h5.frozen
      have l3 := h5.lt
      have HF : Eqn (nextT t) (0, 9) := by
        obtain ⟨e, he, rfl⟩ := vldT_key HV.out
        by_cases h10 : e = 10
        · subst h10; exact nextT_last
        · exact absurd rfl (h1 e (by
            have : (List.range 11).dropLast = List.range 10 := by decide
            rw [this, List.mem_range]; omega))
      have HB := Lib.hid (And.intro h4 (And.intro h5 h6))
      have HKD := Lib.hid hK
      clear h1 h2 h3 h4 h5 h6 hK
      gi_wp2_with fail
      have b2 := (HB.out.1.set (.int .i64 0)).other (B' := w.heap.size + 1 + 1) (by omega) (.int .i64 9)
      have b3 := (HB.out.2.1.other (B' := w.heap.size + 1) (by omega) (.int .i64 0)).set (.int .i64 9)
      have hKX := ((KeepsOthers.setCell X ⟨w.heap.size + 1, 0, none⟩ (.int .i64 0)).trans (KeepsOthers.setCell _ ⟨w.heap.size + 1 + 1, 0, none⟩ (.int .i64 9))).same D _ HKD.out rfl
      refine ⟨by simp, .inl ⟨_, _, rfl, run_takeDeferred hKX, ?_⟩⟩
      have hD2 : w.heap.size + 1 + 1 < D := by omega
      have q2 := (boxed_put b2 (D := D) (by omega) (.deferred none)).cell
      have q3 := (boxed_put b3 (D := D) (by omega) (.deferred none)).cell
      refine ⟨.tuple #[.agg #[.int .i64 0], .int .i64 9], by simp [results, Try.results14, go_sem, q2, q3], by rw [HF.out], ?_⟩
      exact ((HB.out.2.2.setCell (p := ⟨w.heap.size + 1, 0, none⟩) (by simp) _).setCell (p := ⟨w.heap.size + 1 + 1, 0, none⟩) (by dsimp only; omega) _).trans (belowK_b (w := w) (Nat.le_refl _) _ D _ _ (by omega) hKX rfl rfl)
    case stop =>
      rintro D cc pre X hD hSp ⟨rfl, q, y, z, rfl, hy, h4, h5, h6⟩ hK
      have HF : Eqn (nextT t) (keyE z, 0) := by
        obtain ⟨s, hs⟩ := hSp
        have e1 : (List.range 11)[q.length]? = some y := by rw [← hs]; simp
        have e2 : (List.range 11)[q.length + 1]? = some z := by rw [← hs]; simp
        obtain ⟨g1, g2⟩ := List.getElem?_eq_some_iff.1 e1
        obtain ⟨g3, g4⟩ := List.getElem?_eq_some_iff.1 e2
        simp at g1 g2 g3 g4
        subst g2 g4
        rw [← hy]
        exact nextT_at ⟨q.length, by omega⟩
      have c2 := h4.cell
      have HB := Lib.hid (And.intro h4 (And.intro h5 h6))
      have HKD := Lib.hid hK
      have l3 := h5.lt
      clear h4 h5 h6 hK hSp
      gi_wp2_with fail
      refine ⟨by simp, .inl ⟨_, _, rfl, run_takeDeferred HKD.out, ?_⟩⟩
      have q2 := (boxed_put HB.out.1 (D := D) (by omega) (.deferred none)).cell
      have q3 := (boxed_put HB.out.2.1 (D := D) (by omega) (.deferred none)).cell
      refine ⟨.tuple #[.agg #[.int .i64 (keyE z)], .int .i64 0], by simp [results, Try.results14, go_sem, q2, q3], by rw [HF.out], ?_⟩
      exact HB.out.2.2.trans (belowK_b (w := w) (Nat.le_refl _) _ D _ _ (by omega) HKD.out rfl rfl)
end Go.Proofs.Ytpdhelhngdeoeaa
