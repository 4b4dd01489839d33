/- Contracts of assigned, Check, and of the reference's Is and Check. -/
import Derived.Test.YteckijkmcafpaaaCnt39
namespace Go.Proofs.Yteckijkmcafpaaa
open Go.RowKit

def badS (b : Int) (c : Claim) (x : Slot) : Prop := x.win ≠ c.win ∨ x.cnt ≠ c.cnt ∨ x.start < 0 ∨ b - x.cnt < x.start
instance (b : Int) (c : Claim) (x : Slot) : Decidable (badS b c x) := by unfold badS; infer_instance
def isGo (b : Int) : List Claim → List Slot → List Bool → Bool
  | c :: l, x :: r, u => if badS b c x then false else if freeU u x.start.toNat x.cnt.toNat = true then isGo b l r (markU u x.start.toNat x.cnt.toNat) else false
  | _, _, _ => true
def isF (b : Int) (l : List Claim) (s : List Slot) : Bool := if s.length = l.length then isGo b l s (List.replicate b.toNat false) else false

theorem isGo_congr (b : Int) (hb : 0 ≤ b) : ∀ (l : List Claim) (s : List Slot) (u u' : List Bool), (∀ c ∈ l, 1 ≤ c.cnt) → b.toNat ≤ u.length → b.toNat ≤ u'.length → (∀ k, k < b.toNat → u.getD k false = u'.getD k false) → isGo b l s u = isGo b l s u' := by
  intro l
  induction l with
  | nil => intro s u u' _ _ _ _; rw [isGo, isGo] <;> simp
  | cons c r ih =>
    intro s u u' hc h1 h2 h
    cases s with
    | nil => rw [isGo, isGo] <;> simp
    | cons x s =>
      rw [isGo, isGo]
      split
      · rfl
      · rename_i hbad
        unfold badS at hbad
        have hcc := hc c (by simp)
        have hf : freeU u x.start.toNat x.cnt.toNat = freeU u' x.start.toNat x.cnt.toNat := by
          rw [Bool.eq_iff_iff, freeU_iff, freeU_iff]
          constructor
          · intro hh k k1 k2; rw [← h k (by omega)]; exact hh k k1 k2
          · intro hh k k1 k2; rw [h k (by omega)]; exact hh k k1 k2
        rw [hf]
        split
        · refine ih s _ _ (fun y hy => hc y (by simp [hy])) (by rw [markU_len]; exact h1) (by rw [markU_len]; exact h2) (fun k hk => ?_)
          rw [markU_at _ _ _ _ (by omega), markU_at _ _ _ _ (by omega), h k hk]
        · rfl
theorem rep_getD (n k : Nat) : (List.replicate n false).getD k false = false := by
  rw [List.getD_eq_getElem?_getD, List.getElem?_replicate]; split <;> rfl

theorem is_step {b : Int} {l : List Claim} {s : List Slot} {u : List Bool} {k : Nat} {c : Claim} {x : Slot} {R : Bool} (hl : l.drop k = c :: l.drop (k + 1)) (hs : s.drop k = x :: s.drop (k + 1)) (h : Eqn R (isGo b (l.drop k) (s.drop k) u)) :
    (badS b c x → R = false) ∧ (¬ badS b c x → freeU u x.start.toNat x.cnt.toNat = false → R = false) ∧ (¬ badS b c x → freeU u x.start.toNat x.cnt.toNat = true → Eqn R (isGo b (l.drop (k + 1)) (s.drop (k + 1)) (markU u x.start.toNat x.cnt.toNat))) := by
  have h' := h.out
  rw [hl, hs, isGo] at h'
  refine ⟨fun hb => ?_, fun hb hf => ?_, fun hb hf => ?_⟩
  · rw [if_pos hb] at h'; exact h'
  · rw [if_neg hb, hf] at h'; simpa using h'
  · rw [if_neg hb, if_pos hf] at h'; exact h'
theorem markU_self {u : List Bool} {s j : Nat} (h : s + j < u.length) : (markU u s j)[s + j]? = some (u.getD (s + j) false) := by
  have hlt : s + j < (markU u s j).length := by rw [markU_len]; exact h
  rw [List.getElem?_eq_getElem hlt]
  have := markU_at u s j (s + j) (by omega)
  rw [List.getD_eq_getElem?_getD, List.getElem?_eq_getElem hlt, Option.getD_some] at this
  rw [this]
  simp

set_option maxRecDepth 100000 in
set_option maxHeartbeats 8000000 in
theorem assigned_any (N : Nat) (A B : Option Addr) (n c m d : Nat) (w : World) (l : List Claim) (sl : List Slot) (hN1 : 1 ≤ N) (hN : N ≤ 12) (hn : n ≤ 1000) (hm : m ≤ 1000) (hcl : ∀ c ∈ l, 1 ≤ c.cnt ∧ c.cnt ≤ N) (hl : RowS 2 Claim.cell w w.heap.size A n l) (hs : RowS 3 Slot.cell w w.heap.size B m sl) :
    Calls Try.prog 46 #[.int .i64 N, .slice A n c, .slice B m d] w (RetPost (.bool (isF N l sl)) w.heap.size w) := by
  have Hl := Lib.hid hl
  have Hs := Lib.hid hs
  have Hlen := Eqn.mk hl.1
  have Hsl := Eqn.mk hs.1
  have HCL := Lib.hid hcl
  clear hl hs
  by_cases hmn : m = n
  · subst hmn
    have t0 : ((m : Int) != (m : Int)) = false := by simp
    have HF : Eqn (isF N l sl) (isGo N l sl (List.replicate 12 false)) := by
      unfold isF; rw [if_pos (by rw [Hlen.out, Hsl.out])]
      exact isGo_congr N (by omega) l sl _ _ (fun c hc => (hcl c hc).1) (by simp) (by simp; omega) (fun k _ => by rw [rep_getD, rep_getD])
    clear hcl
    have U0 : Hid (Blk (w.alloc (.cells ((List.replicate 12 false).map boolV).toArray 86)) w.heap.size 86 ((List.replicate 12 false).map boolV)) := Lib.hid (blk_new w _ _)
    have B0 : Hid (Below w.heap.size w (w.alloc (.cells ((List.replicate 12 false).map boolV).toArray 86))) := Lib.hid ((Below.refl _ _).alloc (Nat.le_refl _) _)
    go_enter Try.func46, Try.ntmps46
    go_wp2_with fail
    go_loopw [18] (fun i wr => ∃ (k : Nat) (u : List Bool), k ≤ m ∧ i = .int .i64 k ∧ u.length = 12 ∧ Eqn (isF N l sl) (isGo N (l.drop k) (sl.drop k) u) ∧ Blk wr w.heap.size 86 (u.map boolV) ∧ Below w.heap.size w wr) (fun i _ => m - (intOf i).toNat)
    case atStart => exact ⟨0, List.replicate 12 false, Nat.zero_le _, rfl, by simp, HF, U0.out, B0.out⟩
    case round =>
      clear U0 B0
      obtain ⟨k, u, hk, rfl, hul, HR, HU, HW⟩ := hrel
      have HWW := Lib.hid HW
      have HUU := Lib.hid HU
      have Hul := Eqn.mk hul
      have hws := HW.size
      have hlo := HU.lt
      by_cases hlt : k < m
      · obtain ⟨p, hp, hpd⟩ := drop_at (xs := l) (k := k) (by rw [Hlen.out]; exact hlt)
        obtain ⟨x, hx, hxd⟩ := drop_at (xs := sl) (k := k) (by rw [Hsl.out]; exact hlt)
        obtain ⟨gl, ol, rfl, hgl, hc⟩ := (Hl.out.below HW).2 (by omega)
        obtain ⟨gs, os, rfl, hgs, hcs⟩ := (Hs.out.below HW).2 (by omega)
        have q0 := hc k p hp 0 (by omega)
        have q1 := hc k p hp 1 (by omega)
        have y0 := hcs k x hx 0 (by omega)
        have y1 := hcs k x hx 1 (by omega)
        have y2 := hcs k x hx 2 (by omega)
        simp only [Claim.cell, Slot.cell, Nat.add_zero] at q0 q1 y0 y1 y2
        have HST := Lib.hid (is_step hpd hxd HR)
        have hpb := HCL.out p (List.mem_of_getElem? hp)
        have lgl : gl < wr.heap.size := by omega
        have lgs : gs < wr.heap.size := by omega
        have j0 : (k : Int) < (m : Int) := by omega
        obtain ⟨pw, pc⟩ := p
        obtain ⟨xw, xs, xc⟩ := x
        dsimp only at *
        have HBS : Hid (xw ≠ pw ∨ xc ≠ pc ∨ xs < 0 ∨ (N : Int) - xc < xs ↔ badS N ⟨pw, pc⟩ ⟨xw, xs, xc⟩) := Lib.hid Iff.rfl
        obtain ⟨wo, rfl⟩ : ∃ wo : World, wo = wr := ⟨_, rfl⟩
        clear hc hcs hp hx hpd hxd HR HU HW hul
        by_cases c1 : xw = pw
        · have e1 : (xw != pw) = false := by simpa using c1
          by_cases c2 : xc = pc
          · have e2 : (xc != pc) = false := by simpa using c2
            have hwb : IntKind.i64.wrap ((N : Int) - xc) = (N : Int) - xc := IntWalk.i64_in _ (by omega)
            by_cases c3 : xs < 0
            · have HB := Lib.hid (HST.out.1 (HBS.out.1 (.inr (.inr (.inl c3)))))
              clear c1 c2
              go_wp2_with fail
              refine Lx.region (C := fun _ => True) (hs := []) (by kernel_rfl) (by kernel_rfl) trivial ?_
              repeat' (first
                | (refine Lx.lex_no (Lx.n1 rfl rfl rfl (by with_reducible rfl)) (fun K hK => ?_); go_simp; refine hK _ ?_; clear hK K)
                | (refine Lx.lex_no (Lx.n0 rfl rfl rfl (by with_reducible rfl)) (fun K hK => ?_); go_simp; refine hK _ ?_; clear hK K)
                | (refine Lx.lex_no (Lx.n2 rfl rfl rfl) (fun K hK => ?_); go_simp; refine hK _ ?_; clear hK K)
                | (refine Lx.lex_pure (v := ?_) rfl (by first | exact Lx.w0 rfl | exact Lx.w1 rfl rfl rfl (by with_reducible rfl)) ?_ (fun K hK => ?_); rotate_left 1; (intro w' hCw; (try dsimp only at hCw); go_simp; done); go_simp; refine hK _ ?_; clear hK K)
                | (refine Lx.lex_pure (v := ?_) rfl (by first | exact Lx.w0 rfl | exact Lx.w1 rfl rfl rfl (by with_reducible rfl)) ?_ (fun K hK => ?_); rotate_left 1; (intro w' hCw; (try dsimp only at hCw); go_simp; with_reducible rfl); go_simp; refine hK _ ?_; clear hK K)
                | (refine Lx.lex_read (v := ?_) rfl (by first | exact Lx.w0 rfl | exact Lx.w1 rfl rfl rfl (by with_reducible rfl)) ?_ (fun K hK => ?_); rotate_left 1; (go_simp; done); go_simp; refine hK _ ?_; clear hK K)
                | (refine Lx.lex_read (v := ?_) rfl (by first | exact Lx.w0 rfl | exact Lx.w1 rfl rfl rfl (by with_reducible rfl)) ?_ (fun K hK => ?_); rotate_left 1; (go_simp; with_reducible rfl); go_simp; refine hK _ ?_; clear hK K)
                | (refine Lx.lex_eff rfl (by first | exact Lx.w0 rfl | exact Lx.w1 rfl rfl rfl (by with_reducible rfl)) (fun K hK => ?_); go_simp; (first | fail | skip); refine hK _ _ (trivial) ?_; clear hK K)
                | (refine Lx.lex_cases rfl rfl rfl (fun hgd K hK => ?_) (fun hgd K hK => ?_) <;> (try simp only [decide_eq_true_eq, decide_eq_false_iff_not] at hgd) <;> (first | (exfalso; omega) | (go_simp; refine hK _ ?_; clear hK K))))
              all_goals (refine Lx.lex_nil ?_)
              go_wp2_with fail
              go_ret
              exact ⟨ret_bool HB.out.symm, (HWW.out.alloc hws _).drew⟩
            · by_cases c4 : (N : Int) - xc < xs
              · have HB := Lib.hid (HST.out.1 (HBS.out.1 (.inr (.inr (.inr c4)))))
                clear c1 c2
                go_wp2_with fail
                refine Lx.region (C := fun _ => True) (hs := []) (by kernel_rfl) (by kernel_rfl) trivial ?_
                repeat' (first
                  | (refine Lx.lex_no (Lx.n1 rfl rfl rfl (by with_reducible rfl)) (fun K hK => ?_); go_simp; refine hK _ ?_; clear hK K)
                  | (refine Lx.lex_no (Lx.n0 rfl rfl rfl (by with_reducible rfl)) (fun K hK => ?_); go_simp; refine hK _ ?_; clear hK K)
                  | (refine Lx.lex_no (Lx.n2 rfl rfl rfl) (fun K hK => ?_); go_simp; refine hK _ ?_; clear hK K)
                  | (refine Lx.lex_pure (v := ?_) rfl (by first | exact Lx.w0 rfl | exact Lx.w1 rfl rfl rfl (by with_reducible rfl)) ?_ (fun K hK => ?_); rotate_left 1; (intro w' hCw; (try dsimp only at hCw); go_simp; done); go_simp; refine hK _ ?_; clear hK K)
                  | (refine Lx.lex_pure (v := ?_) rfl (by first | exact Lx.w0 rfl | exact Lx.w1 rfl rfl rfl (by with_reducible rfl)) ?_ (fun K hK => ?_); rotate_left 1; (intro w' hCw; (try dsimp only at hCw); go_simp; with_reducible rfl); go_simp; refine hK _ ?_; clear hK K)
                  | (refine Lx.lex_read (v := ?_) rfl (by first | exact Lx.w0 rfl | exact Lx.w1 rfl rfl rfl (by with_reducible rfl)) ?_ (fun K hK => ?_); rotate_left 1; (go_simp; done); go_simp; refine hK _ ?_; clear hK K)
                  | (refine Lx.lex_read (v := ?_) rfl (by first | exact Lx.w0 rfl | exact Lx.w1 rfl rfl rfl (by with_reducible rfl)) ?_ (fun K hK => ?_); rotate_left 1; (go_simp; with_reducible rfl); go_simp; refine hK _ ?_; clear hK K)
                  | (refine Lx.lex_eff rfl (by first | exact Lx.w0 rfl | exact Lx.w1 rfl rfl rfl (by with_reducible rfl)) (fun K hK => ?_); go_simp; (first | fail | skip); refine hK _ _ (trivial) ?_; clear hK K)
                  | (refine Lx.lex_cases rfl rfl rfl (fun hgd K hK => ?_) (fun hgd K hK => ?_) <;> (try simp only [decide_eq_true_eq, decide_eq_false_iff_not] at hgd) <;> (first | (exfalso; omega) | (go_simp; refine hK _ ?_; clear hK K))))
                all_goals (refine Lx.lex_nil ?_)
                go_wp2_with fail
                go_ret
                exact ⟨ret_bool HB.out.symm, (HWW.out.alloc hws _).drew⟩
              · have HNB := Lib.hid (show ¬ badS N ⟨pw, pc⟩ ⟨xw, xs, xc⟩ from fun hh => by
                  rcases HBS.out.2 hh with h | h | h | h
                  · exact h c1
                  · exact h c2
                  · exact c3 h
                  · exact c4 h)
                obtain ⟨s, rfl⟩ := Int.eq_ofNat_of_zero_le (show 0 ≤ xs by omega)
                obtain ⟨q, hq⟩ := Int.eq_ofNat_of_zero_le (show 0 ≤ xc by omega)
                have hsq : s + q ≤ N := by omega
                have HQ : Hid (pc = (q : Int)) := Lib.hid (by omega)
                clear c1 c2
                subst hq
                have HB2 := Lib.hid (fun hf => HST.out.2.1 HNB.out hf)
                have HB3 := Lib.hid (fun hf => HST.out.2.2 HNB.out hf)
                rw [Int.toNat_natCast, Int.toNat_natCast] at HB2 HB3
                clear HST HBS HNB
                have BA : Hid (Below w.heap.size w ((wo.alloc (.cells #[.int .i64 xw, .int .i64 (s : Int), .int .i64 (q : Int)] 56)).drew)) := Lib.hid ((HWW.out.alloc hws _).drew)
                have UA : Hid (Blk ((wo.alloc (.cells #[.int .i64 xw, .int .i64 (s : Int), .int .i64 (q : Int)] 56)).drew) w.heap.size 86 (u.map boolV)) := Lib.hid ((HUU.out.alloc _).drew)
                have CA : Hid (Blk ((wo.alloc (.cells #[.int .i64 xw, .int .i64 (s : Int), .int .i64 (q : Int)] 56)).drew) wo.heap.size 56 [.int .i64 xw, .int .i64 (s : Int), .int .i64 (q : Int)]) := Lib.hid ((blk_new wo _ _).drew)
                have hne : w.heap.size ≠ wo.heap.size := Nat.ne_of_lt hlo
                go_wp2_with fail
                refine Lx.region (C := fun _ => True) (hs := []) (by kernel_rfl) (by kernel_rfl) trivial ?_
                repeat' (first
                  | (refine Lx.lex_no (Lx.n1 rfl rfl rfl (by with_reducible rfl)) (fun K hK => ?_); go_simp; refine hK _ ?_; clear hK K)
                  | (refine Lx.lex_no (Lx.n0 rfl rfl rfl (by with_reducible rfl)) (fun K hK => ?_); go_simp; refine hK _ ?_; clear hK K)
                  | (refine Lx.lex_no (Lx.n2 rfl rfl rfl) (fun K hK => ?_); go_simp; refine hK _ ?_; clear hK K)
                  | (refine Lx.lex_pure (v := ?_) rfl (by first | exact Lx.w0 rfl | exact Lx.w1 rfl rfl rfl (by with_reducible rfl)) ?_ (fun K hK => ?_); rotate_left 1; (intro w' hCw; (try dsimp only at hCw); go_simp; done); go_simp; refine hK _ ?_; clear hK K)
                  | (refine Lx.lex_pure (v := ?_) rfl (by first | exact Lx.w0 rfl | exact Lx.w1 rfl rfl rfl (by with_reducible rfl)) ?_ (fun K hK => ?_); rotate_left 1; (intro w' hCw; (try dsimp only at hCw); go_simp; with_reducible rfl); go_simp; refine hK _ ?_; clear hK K)
                  | (refine Lx.lex_read (v := ?_) rfl (by first | exact Lx.w0 rfl | exact Lx.w1 rfl rfl rfl (by with_reducible rfl)) ?_ (fun K hK => ?_); rotate_left 1; (go_simp; done); go_simp; refine hK _ ?_; clear hK K)
                  | (refine Lx.lex_read (v := ?_) rfl (by first | exact Lx.w0 rfl | exact Lx.w1 rfl rfl rfl (by with_reducible rfl)) ?_ (fun K hK => ?_); rotate_left 1; (go_simp; with_reducible rfl); go_simp; refine hK _ ?_; clear hK K)
                  | (refine Lx.lex_eff rfl (by first | exact Lx.w0 rfl | exact Lx.w1 rfl rfl rfl (by with_reducible rfl)) (fun K hK => ?_); go_simp; (first | fail | skip); refine hK _ _ (trivial) ?_; clear hK K)
                  | (refine Lx.lex_cases rfl rfl rfl (fun hgd K hK => ?_) (fun hgd K hK => ?_) <;> (try simp only [decide_eq_true_eq, decide_eq_false_iff_not] at hgd) <;> (first | (exfalso; omega) | (go_simp; refine hK _ ?_; clear hK K))))
                all_goals (refine Lx.lex_nil ?_)
                clear hwb
                go_wp2_with fail
                go_loopw [10] (fun i wi => ∃ t : Nat, t ≤ q ∧ i = .int .i64 ((s : Int) + (t : Int)) ∧ Blk wi w.heap.size 86 ((markU u s t).map boolV) ∧ Hid (∀ b, s ≤ b → b < s + t → u.getD b false = false) ∧ Blk wi wo.heap.size 56 [.int .i64 xw, .int .i64 (s : Int), .int .i64 (q : Int)] ∧ Below w.heap.size w wi) (fun i _ => s + q - (intOf i).toNat)
                case atStart => exact ⟨0, Nat.zero_le _, by go_num, UA.out, Lib.hid (fun b h1 h2 => by omega), CA.out, BA.out⟩
                case round =>
                  clear UA BA CA
                  obtain ⟨t, ht, rfl, hu, HFR, hcp, HX⟩ := hrel
                  have HXX := Lib.hid HX
                  have HU2 := Lib.hid hu
                  have HCP := Lib.hid hcp
                  have u1 := hcp.cell (i := 1) rfl
                  have u2 := hcp.cell (i := 2) rfl
                  by_cases htq : t < q
                  · have hlt2 : s + t < u.length := by rw [Hul.out]; omega
                    have z1 := hu.cell (i := s + t) (x := .bool (u.getD (s + t) false)) (by rw [List.getElem?_map, markU_self hlt2]; rfl)
                    have f1 := hu.frozen (s + t)
                    have l1 := hu.lt
                    have k0 : (s : Int) + (t : Int) < (s : Int) + (q : Int) := by omega
                    have k1 : (0 : Int) ≤ (s : Int) + (t : Int) := by omega
                    have k2 : ((s : Int) + (t : Int)).toNat = s + t := by omega
                    have k3 : (s : Int) + (t : Int) < 12 := by omega
                    clear hu HX hcp
                    cases hb : u.getD (s + t) false with
                    | true =>
                      have HF2 := Lib.hid (HB2.out (by
                        cases hf : freeU u s q with
                        | false => rfl
                        | true => exact absurd ((freeU_iff u s q).1 hf (s + t) (by omega) (by omega)) (by rw [hb]; simp)))
                      rw [hb] at z1
                      clear hb
                      go_wp2_with fail
                      go_ret
                      exact ⟨ret_bool HF2.out.symm, HXX.out⟩
                    | false =>
                      have HFR2 : Hid (∀ b, s ≤ b → b < s + (t + 1) → u.getD b false = false) := Lib.hid (fun b h1 h2 => by
                        rcases Nat.lt_or_ge b (s + t) with h | h
                        · exact HFR.out b h1 h
                        · obtain rfl : b = s + t := by omega
                          exact hb)
                      rw [hb] at z1
                      have HM : Eqn (((markU u s t).map boolV).set (s + t) (.bool true)) ((markU u s (t + 1)).map boolV) := by rw [Eqn, markU_succ, List.map_set]; rfl
                      clear hb HFR
                      go_wp2_with fail
                      clear k2
                      go_roundw
                      case rel => exact ⟨t + 1, by omega, by go_num, by rw [← HM.out]; exact (HU2.out.set_ (s + t) (.bool true)), HFR2, (HCP.out.other _ _ hne), (HXX.out.setCell (Nat.le_refl _) _)⟩
                      case measure => simp [intOf]; omega
                  · obtain rfl : t = q := by omega
                    have k0 : ¬ (s : Int) + (t : Int) < (s : Int) + (t : Int) := by omega
                    have HN3 := Lib.hid (HB3.out ((freeU_iff u s t).2 (fun b h1 h2 => HFR.out b h1 h2)))
                    clear hu HX HFR hcp
                    go_wp2_with fail
                    go_roundw
                    case rel => exact ⟨k + 1, markU u s t, by omega, by go_num, by rw [markU_len]; exact Hul.out, HN3.out, HU2.out, HXX.out⟩
                    case measure => simp [intOf]; omega
          · have e2 : (xc != pc) = true := by simpa using c2
            have HB := Lib.hid (HST.out.1 (HBS.out.1 (.inr (.inl c2))))
            clear c1 c2
            go_wp2_with fail
            refine Lx.region (C := fun _ => True) (hs := []) (by kernel_rfl) (by kernel_rfl) trivial ?_
            repeat' (first
              | (refine Lx.lex_no (Lx.n1 rfl rfl rfl (by with_reducible rfl)) (fun K hK => ?_); go_simp; refine hK _ ?_; clear hK K)
              | (refine Lx.lex_no (Lx.n0 rfl rfl rfl (by with_reducible rfl)) (fun K hK => ?_); go_simp; refine hK _ ?_; clear hK K)
              | (refine Lx.lex_no (Lx.n2 rfl rfl rfl) (fun K hK => ?_); go_simp; refine hK _ ?_; clear hK K)
              | (refine Lx.lex_pure (v := ?_) rfl (by first | exact Lx.w0 rfl | exact Lx.w1 rfl rfl rfl (by with_reducible rfl)) ?_ (fun K hK => ?_); rotate_left 1; (intro w' hCw; (try dsimp only at hCw); go_simp; done); go_simp; refine hK _ ?_; clear hK K)
              | (refine Lx.lex_pure (v := ?_) rfl (by first | exact Lx.w0 rfl | exact Lx.w1 rfl rfl rfl (by with_reducible rfl)) ?_ (fun K hK => ?_); rotate_left 1; (intro w' hCw; (try dsimp only at hCw); go_simp; with_reducible rfl); go_simp; refine hK _ ?_; clear hK K)
              | (refine Lx.lex_read (v := ?_) rfl (by first | exact Lx.w0 rfl | exact Lx.w1 rfl rfl rfl (by with_reducible rfl)) ?_ (fun K hK => ?_); rotate_left 1; (go_simp; done); go_simp; refine hK _ ?_; clear hK K)
              | (refine Lx.lex_read (v := ?_) rfl (by first | exact Lx.w0 rfl | exact Lx.w1 rfl rfl rfl (by with_reducible rfl)) ?_ (fun K hK => ?_); rotate_left 1; (go_simp; with_reducible rfl); go_simp; refine hK _ ?_; clear hK K)
              | (refine Lx.lex_eff rfl (by first | exact Lx.w0 rfl | exact Lx.w1 rfl rfl rfl (by with_reducible rfl)) (fun K hK => ?_); go_simp; (first | fail | skip); refine hK _ _ (trivial) ?_; clear hK K)
              | (refine Lx.lex_cases rfl rfl rfl (fun hgd K hK => ?_) (fun hgd K hK => ?_) <;> (try simp only [decide_eq_true_eq, decide_eq_false_iff_not] at hgd) <;> (first | (exfalso; omega) | (go_simp; refine hK _ ?_; clear hK K))))
            all_goals (refine Lx.lex_nil ?_)
            go_wp2_with fail
            go_ret
            exact ⟨ret_bool HB.out.symm, (HWW.out.alloc hws _).drew⟩
        · have e1 : (xw != pw) = true := by simpa using c1
          have HB := Lib.hid (HST.out.1 (HBS.out.1 (.inl c1)))
          clear c1
          go_wp2_with fail
          refine Lx.region (C := fun _ => True) (hs := []) (by kernel_rfl) (by kernel_rfl) trivial ?_
          repeat' (first
            | (refine Lx.lex_no (Lx.n1 rfl rfl rfl (by with_reducible rfl)) (fun K hK => ?_); go_simp; refine hK _ ?_; clear hK K)
            | (refine Lx.lex_no (Lx.n0 rfl rfl rfl (by with_reducible rfl)) (fun K hK => ?_); go_simp; refine hK _ ?_; clear hK K)
            | (refine Lx.lex_no (Lx.n2 rfl rfl rfl) (fun K hK => ?_); go_simp; refine hK _ ?_; clear hK K)
            | (refine Lx.lex_pure (v := ?_) rfl (by first | exact Lx.w0 rfl | exact Lx.w1 rfl rfl rfl (by with_reducible rfl)) ?_ (fun K hK => ?_); rotate_left 1; (intro w' hCw; (try dsimp only at hCw); go_simp; done); go_simp; refine hK _ ?_; clear hK K)
            | (refine Lx.lex_pure (v := ?_) rfl (by first | exact Lx.w0 rfl | exact Lx.w1 rfl rfl rfl (by with_reducible rfl)) ?_ (fun K hK => ?_); rotate_left 1; (intro w' hCw; (try dsimp only at hCw); go_simp; with_reducible rfl); go_simp; refine hK _ ?_; clear hK K)
            | (refine Lx.lex_read (v := ?_) rfl (by first | exact Lx.w0 rfl | exact Lx.w1 rfl rfl rfl (by with_reducible rfl)) ?_ (fun K hK => ?_); rotate_left 1; (go_simp; done); go_simp; refine hK _ ?_; clear hK K)
            | (refine Lx.lex_read (v := ?_) rfl (by first | exact Lx.w0 rfl | exact Lx.w1 rfl rfl rfl (by with_reducible rfl)) ?_ (fun K hK => ?_); rotate_left 1; (go_simp; with_reducible rfl); go_simp; refine hK _ ?_; clear hK K)
            | (refine Lx.lex_eff rfl (by first | exact Lx.w0 rfl | exact Lx.w1 rfl rfl rfl (by with_reducible rfl)) (fun K hK => ?_); go_simp; (first | fail | skip); refine hK _ _ (trivial) ?_; clear hK K)
            | (refine Lx.lex_cases rfl rfl rfl (fun hgd K hK => ?_) (fun hgd K hK => ?_) <;> (try simp only [decide_eq_true_eq, decide_eq_false_iff_not] at hgd) <;> (first | (exfalso; omega) | (go_simp; refine hK _ ?_; clear hK K))))
          all_goals (refine Lx.lex_nil ?_)
          go_wp2_with fail
          go_ret
          exact ⟨ret_bool HB.out.symm, (HWW.out.alloc hws _).drew⟩
      · have HB : Eqn (isF N l sl) true := by
          rw [Eqn, HR.out, drop_end (by rw [Hlen.out]; omega), isGo]; simp
        clear HW HR HU
        go_wp2_with fail
        go_ret
        exact ⟨ret_bool HB.out.symm, HWW.out⟩
  · have t0 : ((m : Int) != (n : Int)) = true := by simp; omega
    have HF : Eqn (isF N l sl) false := by unfold isF; rw [if_neg (by rw [Hlen.out, Hsl.out]; exact hmn)]; rfl
    clear hcl
    go_enter Try.func46, Try.ntmps46
    go_wp2_with fail
    go_ret
    exact ⟨ret_bool HF.out.symm, Below.refl _ _⟩

def checkF (b : Int) (l : List Claim) (s : List Slot) : Int := if validF b l = true then (if isF b l s = true then 0 else 10) else 2
set_option maxHeartbeats 2000000 in
theorem check_any (b : Int) (A B : Option Addr) (n c m d : Nat) (w : World) (l : List Claim) (sl : List Slot) (hn : n ≤ 1000) (hm : m ≤ 1000) (hl : RowS 2 Claim.cell w w.heap.size A n l) (hs : RowS 3 Slot.cell w w.heap.size B m sl) :
    Calls Try.prog 27 #[.int .i64 b, .slice A n c, .slice B m d] w (RetPost (.int .i64 (checkF b l sl)) w.heap.size w) := by
  have Hl := Lib.hid hl
  have Hs := Lib.hid hs
  clear hl hs
  cases hv : validF b l with
  | false =>
    have HV := Eqn.mk hv
    have HF : Eqn (checkF b l sl) 2 := by unfold checkF; rw [if_neg (by rw [hv]; simp)]; rfl
    clear hv
    go_enter Try.func27, Try.ntmps27
    go_wp2_with fail
    refine (valid_any b A n c _ l hn Hl.out).mono ?_
    rw [HV.out]
    rintro e w1 ⟨rfl, hb1⟩
    go_wp2_with fail
    go_ret
    exact ⟨by rw [HF.out]; rfl, hb1⟩
  | true =>
    have HV := Eqn.mk hv
    obtain ⟨v1, v2', v3, v4⟩ := validF_all hv
    obtain ⟨N, rfl⟩ := Int.eq_ofNat_of_zero_le (show 0 ≤ b by omega)
    have H4 := Lib.hid v4
    cases hi : isF N l sl with
    | false =>
      have HI := Eqn.mk hi
      have HF : Eqn (checkF N l sl) 10 := by unfold checkF; rw [if_pos hv, if_neg (by rw [hi]; simp)]; rfl
      clear hv v4 hi
      go_enter Try.func27, Try.ntmps27
      go_wp2_with fail
      refine (valid_any N A n c _ l hn Hl.out).mono ?_
      rw [HV.out]
      rintro e w1 ⟨rfl, hb1⟩
      have B1 := Lib.hid hb1
      clear hb1
      go_wp2_with fail
      refine (assigned_any N A B n c m d _ l sl (by omega) (by omega) hn hm (fun x hx => ⟨(H4.out x hx).2.2.1, (H4.out x hx).2.2.2⟩) (by exact (Hl.out.below B1.out).up B1.out.size) (by exact (Hs.out.below B1.out).up B1.out.size)).mono ?_
      rw [HI.out]
      rintro e w2 ⟨rfl, hb2⟩
      have B2 := Lib.hid (B1.out.trans (hb2.mono B1.out.size))
      clear hb2
      go_wp2_with fail
      go_ret
      exact ⟨by rw [HF.out]; rfl, B2.out⟩
    | true =>
      have HI := Eqn.mk hi
      have HF : Eqn (checkF N l sl) 0 := by unfold checkF; rw [if_pos hv, if_pos hi]; rfl
      clear hv v4 hi
      go_enter Try.func27, Try.ntmps27
      go_wp2_with fail
      refine (valid_any N A n c _ l hn Hl.out).mono ?_
      rw [HV.out]
      rintro e w1 ⟨rfl, hb1⟩
      have B1 := Lib.hid hb1
      clear hb1
      go_wp2_with fail
      refine (assigned_any N A B n c m d _ l sl (by omega) (by omega) hn hm (fun x hx => ⟨(H4.out x hx).2.2.1, (H4.out x hx).2.2.2⟩) (by exact (Hl.out.below B1.out).up B1.out.size) (by exact (Hs.out.below B1.out).up B1.out.size)).mono ?_
      rw [HI.out]
      rintro e w2 ⟨rfl, hb2⟩
      have B2 := Lib.hid (B1.out.trans (hb2.mono B1.out.size))
      clear hb2
      go_wp2_with fail
      go_ret
      exact ⟨by rw [HF.out]; rfl, B2.out⟩

end Go.Proofs.Yteckijkmcafpaaa
