/- Contracts of the reference's Valid, Weights, Sum, Units for demands. -/
import Derived.Test.YtoafkphcfhbnmaaDemB
import Derived.Maps.AppendAt
namespace Go.Proofs.Ytoafkphcfhbnmaa
open Go.RowKit

/-- the reference's Valid -/
def rdValid (l : List Prod) (bs : List Int) : Bool := refValid l && fitsF l bs

theorem rdValid_eq (l : List Prod) (bs : List Int) : rdValid l bs = dValid l bs := by unfold rdValid dValid; rw [prodValid_eq]

set_option maxHeartbeats 1000000 in
theorem rdValid_any (A B : Option Addr) (n c m d : Nat) (w : World) (l : List Prod) (bs : List Int) (hn : n ≤ 140) (hl : RowS 5 Prod.cell w w.heap.size A n l) (hb : Row1 intV w w.heap.size B m bs) :
    Calls Try.prog 14 #[.slice A n c, .slice B m d] w (OrdPost (dValid l bs) w.heap.size w) := by
  have hlen := hl.1
  have hblen := hb.1
  have Hl := Lib.hid hl
  have Hb := Lib.hid hb
  clear hl hb
  rw [← rdValid_eq]
  cases hv : refValid l with
  | false =>
    have HV := Eqn.mk hv
    have HF : Eqn (rdValid l bs) false := by unfold rdValid Eqn; rw [hv]; rfl
    clear hv hlen hblen
    go_enter Try.func14, Try.ntmps14
    go_wp2_with fail
    refine (refValid_any A n c l _ hn Hl.out).mono ?_
    rw [HV.out]
    rintro e w1 ⟨rfl, hb1⟩
    go_wp2_with fail
    go_ret
    exact ⟨ret_bool (by rw [HF.out]), hb1⟩
  | true =>
    have HV := Eqn.mk hv
    by_cases hmn : m = n
    · subst hmn
      have h0 : ((m : Int) != (m : Int)) = false := by simp
      have HF : Eqn (rdValid l bs) (fitsF l bs) := by unfold rdValid Eqn; rw [hv]; rfl
      have Hlen := Eqn.mk hlen
      have Hblen := Eqn.mk hblen
      clear hv hlen hblen
      go_enter Try.func14, Try.ntmps14
      go_wp2_with fail
      refine (refValid_any A m c l _ hn Hl.out).mono ?_
      rw [HV.out]
      rintro e w1 ⟨rfl, hb1⟩
      have HB1 := Lib.hid hb1
      clear hb1
      go_wp2_with fail
      go_loopw [5] (fun i wr => ∃ k : Nat, k ≤ m ∧ i = .int .i64 k ∧ Eqn (rdValid l bs) (fitsF (l.drop k) (bs.drop k)) ∧ Below w.heap.size w wr) (fun i _ => m - (intOf i).toNat)
      case atStart => exact ⟨0, Nat.zero_le _, rfl, HF, HB1.out⟩
      case round =>
        obtain ⟨k, hk, rfl, HR, HW⟩ := hrel
        have HWW := Lib.hid HW
        by_cases hlt : k < m
        · obtain ⟨p, hp, hpd⟩ := drop_at (xs := l) (k := k) (by rw [Hlen.out]; exact hlt)
          obtain ⟨x, hx, hxd⟩ := drop_at (xs := bs) (k := k) (by rw [Hblen.out]; exact hlt)
          obtain ⟨b, off, rfl, hbl, hc⟩ := (Hl.out.below HW).2 (by omega)
          obtain ⟨b', off', rfl, hbl', hc'⟩ := (Hb.out.below HW).2 (by omega)
          have c1 := hc k p hp 2 (by omega)
          have c2 := hc' k x hx
          simp only [Prod.cell, intV] at c1 c2
          have HR' : Eqn (rdValid l bs) (if x < 0 ∨ p.sup < x then false else fitsF (l.drop (k + 1)) (bs.drop (k + 1))) := by
            have := HR.out; rw [hpd, hxd, fitsF] at this; exact this
          clear hc hc' hp hpd hx hxd HR HW
          go_wp2
          refine Lx.region (C := fun _ => True) (hs := []) (by kernel_rfl) (by kernel_rfl) trivial ?_
          repeat' (first
            | (refine Lx.lex_no (Lx.n1 rfl rfl rfl (by with_reducible rfl)) (fun K hK => ?_); go_simp; refine hK _ ?_; clear hK K)
            | (refine Lx.lex_no (Lx.n0 rfl rfl rfl (by with_reducible rfl)) (fun K hK => ?_); go_simp; refine hK _ ?_; clear hK K)
            | (refine Lx.lex_no (Lx.n2 rfl rfl rfl) (fun K hK => ?_); go_simp; refine hK _ ?_; clear hK K)
            | (refine Lx.lex_pure (v := ?_) rfl (by first | exact Lx.w0 rfl | exact Lx.w1 rfl rfl rfl (by with_reducible rfl)) ?_ (fun K hK => ?_); rotate_left 1; (intro w' hCw; (try dsimp only at hCw); go_simp; done); go_simp; refine hK _ ?_; clear hK K)
            | (refine Lx.lex_pure (v := ?_) rfl (by first | exact Lx.w0 rfl | exact Lx.w1 rfl rfl rfl (by with_reducible rfl)) ?_ (fun K hK => ?_); rotate_left 1; (intro w' hCw; (try dsimp only at hCw); go_simp; with_reducible rfl); go_simp; refine hK _ ?_; clear hK K)
            | (refine Lx.lex_read (v := ?_) rfl (by first | exact Lx.w0 rfl | exact Lx.w1 rfl rfl rfl (by with_reducible rfl)) ?_ (fun K hK => ?_); rotate_left 1; (go_simp; done); go_simp; refine hK _ ?_; clear hK K)
            | (refine Lx.lex_read (v := ?_) rfl (by first | exact Lx.w0 rfl | exact Lx.w1 rfl rfl rfl (by with_reducible rfl)) ?_ (fun K hK => ?_); rotate_left 1; (go_simp; with_reducible rfl); go_simp; refine hK _ ?_; clear hK K)
            | (refine Lx.lex_eff rfl (by first | exact Lx.w0 rfl | exact Lx.w1 rfl rfl rfl (by with_reducible rfl)) (fun K hK => ?_); go_simp; (first | fail | skip); refine hK _ _ (trivial) ?_; clear hK K)
            | (refine Lx.lex_cases rfl rfl rfl (fun hgd K hK => ?_) (fun hgd K hK => ?_) <;> (try simp only [decide_eq_true_eq, decide_eq_false_iff_not] at hgd) <;> (first | (exfalso; omega) | (go_simp; refine hK _ ?_; clear hK K))))
          all_goals (refine Lx.lex_nil ?_)
          all_goals go_wp2
          case roundEnd =>
            go_roundw
            case rel => exact ⟨k + 1, by omega, by go_num, by have := HR'.out; rw [if_neg (by omega)] at this; exact this, HWW.out.drew⟩
            case measure => simp [intOf]; omega
          all_goals
            go_ret
            exact ⟨ret_bool (by rw [HR'.out, if_pos (by omega)]), HWW.out.drew⟩
        · have : k = m := by omega
          subst this
          clear HW
          go_wp2
          go_ret
          exact ⟨ret_bool (by rw [HR.out, drop_end (by rw [Hlen.out]; omega), drop_end (by rw [Hblen.out]; omega)]; rfl), HWW.out⟩
    · have h0 : ((m : Int) != (n : Int)) = true := by simp; omega
      have HF : Eqn (rdValid l bs) false := by unfold rdValid Eqn; rw [fitsF_len l bs (by omega)]; simp
      clear hv hlen hblen
      go_enter Try.func14, Try.ntmps14
      go_wp2_with fail
      refine (refValid_any A n c l _ hn Hl.out).mono ?_
      rw [HV.out]
      rintro e w1 ⟨rfl, hb1⟩
      go_wp2_with fail
      go_ret
      exact ⟨ret_bool (by rw [HF.out]), hb1⟩

theorem int_info : (Try.prog.info? 3).map (fun i => (i.zero, i.size, i.bytes)) = some (some (.int .i64 0), 1, 8) := by kernel_rfl

theorem row1_of_own {α : Type} {f : α → Value} {w : World} {base : Nat} {e : TypeId} {v : Value} {n : Nat} {xs : List α} (h : w.ownsRow base e 1 v n (xs.map f)) :
    ∃ A c, v = .slice A n c ∧ Row1 f w w.heap.size A n xs := by
  have hl : xs.length = n := by have := h.1; simpa using this
  rcases h.2 with ⟨rfl, rfl⟩ | ⟨g, cap, cur, rfl, hb, hh, hnc, hm, hsz, ht⟩
  · exact ⟨none, 0, rfl, hl, fun hn => absurd hn (by omega)⟩
  · refine ⟨_, cap, rfl, hl, fun hn => ⟨g, 0, rfl, ?_, fun k x hx => ?_⟩⟩
    · rcases Nat.lt_or_ge g w.heap.size with h1 | h1
      · exact h1
      · rw [Array.getElem?_eq_none h1] at hh; cases hh
    · have h2 := h.cells (g := g) rfl k (f x) (by simp [hx])
      by_cases hk : k = 0
      · subst hk; simpa [Addr.add] using h2
      · simpa [Addr.add, hk] using h2

theorem own_ge {w : World} {base : Nat} {e : TypeId} {size n : Nat} {v : Value} {xs : List Value} (h : w.ownsRow base e size v n xs) : ∀ g, v.ownBlock = some g → base ≤ g := by
  intro g hg
  rcases h.2 with ⟨rfl, _⟩ | ⟨g', cap, cur, rfl, hb, _⟩
  · simp [Value.ownBlock] at hg
  · simp [Value.ownBlock] at hg
    omega

def WeiPost (l : List Prod) (w : World) (e : Ending) (w' : World) : Prop := ∃ v, e = .returned v ∧ w'.ownsRow w.heap.size 3 1 v l.length ((l.map Prod.units).map intV) ∧ Below w.heap.size w w'

set_option maxHeartbeats 1000000 in
theorem weights_any (A : Option Addr) (n c : Nat) (w : World) (l : List Prod) (hn : n ≤ 140) (hl : RowS 5 Prod.cell w w.heap.size A n l) :
    Calls Try.prog 38 #[.slice A n c] w (WeiPost l w) := by
  obtain ⟨i0, hi, hz0, hz1, hz2⟩ := info_parts int_info
  have Hl := Lib.hid hl
  have Hlen := Eqn.mk hl.1
  clear hl
  go_enter Try.func38, Try.ntmps38
  go_wp2
  go_loopw [3, 4] (fun v i wr => ∃ k : Nat, k ≤ n ∧ i = .int .i64 k ∧ wr.ownsRow w.heap.size 3 1 v k (((l.take k).map Prod.units).map intV) ∧ Below w.heap.size w wr) (fun _ i _ => n - (intOf i).toNat)
  case atStart => exact ⟨0, Nat.zero_le _, rfl, World.ownsRow_nil _ _ _ _, Below.refl _ _⟩
  case round =>
    obtain ⟨k, hk, rfl, HO, HW⟩ := hrel
    have HWW := Lib.hid HW
    have HOO := Lib.hid HO
    clear HO
    by_cases hlt : k < n
    · obtain ⟨p, hp, hpd⟩ := drop_at (xs := l) (k := k) (by rw [Hlen.out]; exact hlt)
      obtain ⟨b, off, rfl, hbl, hc⟩ := (Hl.out.below HW).2 (by omega)
      have c1 := hc k p hp 3 (by omega)
      simp only [Prod.cell] at c1
      have hws := HW.size
      have hbs : b < wr.heap.size := by omega
      have HT : Eqn (((l.take (k + 1)).map Prod.units).map intV) (((l.take k).map Prod.units).map intV ++ [.int .i64 p.units]) := by
        unfold Eqn
        rw [List.take_add_one, hp]
        simp [intV]
      clear hc hp hpd HW
      go_wp2_with (at_builtin; refine wpList_append_own_at _ rfl _ _ 23 rfl w.heap.size 3 i0 (.int .i64 0) 1 8 Try.underlying23 hi hz0 hz1 hz2 rfl (by decide) _ _ _ rfl (HOO.out.alloc _) ⟨wr.heap.size, 0, none⟩ 1 1 [.int .i64 p.units] rfl rfl (cell_one_new _ _ _) (by simp [Value.oneCell']) (by unfold maxLen; omega) (by omega) (by simp; omega) ?_; intro v' w1 hown' hgrow hnil hat)
      go_roundw
      case rel => exact ⟨k + 1, by omega, by go_num, by rw [HT.out]; exact hown', (HWW.out.alloc hws _).grown hgrow (by simp; omega) (own_ge HOO.out)⟩
      case measure => simp [intOf]; omega
    · have : k = n := by omega
      subst this
      clear HW
      go_wp2
      go_ret
      refine ⟨_, rfl, ?_, HWW.out⟩
      have := HOO.out
      rw [List.take_of_length_le (by rw [Hlen.out]; omega)] at this
      rw [Hlen.out]
      exact this

/-- the reference's Sum -/
def sumGo : List Int → List Int → Int → Int
  | a :: l, b :: r, acc => sumGo l r (acc + a * b)
  | _, _, acc => acc

/-- factors that do not overflow -/
def SmallM (a b : List Int) (u v : Int) : Prop := ∀ (k : Nat) (x y : Int), a[k]? = some x → b[k]? = some y → 0 ≤ x ∧ x ≤ u ∧ 0 ≤ y ∧ y ≤ v

theorem mul_le2 (x y u v : Int) (h0 : 0 ≤ x) (h1 : x ≤ u) (h2 : 0 ≤ y) (h3 : y ≤ v) : 0 ≤ x * y ∧ x * y ≤ u * v := by
  refine ⟨Int.mul_nonneg h0 h2, ?_⟩
  exact Int.mul_le_mul h1 h3 h2 (by omega)

set_option maxHeartbeats 1000000 in
theorem sum_any (A B : Option Addr) (n c m d : Nat) (w : World) (a b : List Int) (u v M : Int) (hM : u * v = M) (hM0 : 0 ≤ M) (hM1 : M ≤ 100000000000000) (hn : n ≤ 140) (hm : m ≤ 9223372036854775807) (ha : Row1 intV w w.heap.size A n a) (hb : Row1 intV w w.heap.size B m b) (hs : SmallM a b u v) :
    Calls Try.prog 37 #[.slice A n c, .slice B m d] w (RetPost (.int .i64 (sumGo a b 0)) w.heap.size w) := by
  have Ha := Lib.hid ha
  have Hb := Lib.hid hb
  have Hs := Lib.hid hs
  have Hla := Eqn.mk ha.1
  have Hlb := Eqn.mk hb.1
  have HM := Eqn.mk hM
  clear ha hb hs hM
  go_enter Try.func37, Try.ntmps37
  go_wp2
  go_loopw [5, 6] (fun t i wr => ∃ (k : Nat) (acc : Int), k ≤ n ∧ k ≤ m ∧ i = .int .i64 k ∧ t = .int .i64 acc ∧ 0 ≤ acc ∧ acc ≤ 100000000000000 * k ∧ Eqn (sumGo a b 0) (sumGo (a.drop k) (b.drop k) acc) ∧ Below w.heap.size w wr) (fun _ i _ => n - (intOf i).toNat)
  case atStart => exact ⟨0, 0, Nat.zero_le _, Nat.zero_le _, rfl, rfl, Int.le_refl _, by omega, Eqn.mk rfl, Below.refl _ _⟩
  case round =>
    obtain ⟨k, acc, hk, hkm, rfl, rfl, ha0, ha1, HR, HW⟩ := hrel
    have HWW := Lib.hid HW
    by_cases hlt : k < n ∧ k < m
    · obtain ⟨hl1, hl2⟩ := hlt
      obtain ⟨x, hx, hxd⟩ := drop_at (xs := a) (k := k) (by rw [Hla.out]; exact hl1)
      obtain ⟨y, hy, hyd⟩ := drop_at (xs := b) (k := k) (by rw [Hlb.out]; exact hl2)
      obtain ⟨b1, off, rfl, hbl, hc⟩ := (Ha.out.below HW).2 (by omega)
      obtain ⟨b2, off', rfl, hbl', hc'⟩ := (Hb.out.below HW).2 (by omega)
      have c1 := hc k x hx
      have c2 := hc' k y hy
      simp only [intV] at c1 c2
      obtain ⟨g1, g2, g3, g4⟩ := Hs.out k x y hx hy
      obtain ⟨m1, m2⟩ := mul_le2 x y u v g1 g2 g3 g4
      rw [HM.out] at m2
      have HR' : Eqn (sumGo a b 0) (sumGo (a.drop (k + 1)) (b.drop (k + 1)) (acc + x * y)) := by
        have := HR.out; rw [hxd, hyd, sumGo] at this; exact this
      have e1 : IntKind.i64.wrap (x * y) = x * y := by rw [IntKind.wrap_i64]; omega
      have e2 : IntKind.i64.wrap (acc + x * y) = acc + x * y := by rw [IntKind.wrap_i64]; omega
      clear hc hc' hx hxd hy hyd HR HW
      have j1 : (k : Int) < (n : Int) := by omega
      have j2 : (k : Int) < (m : Int) := by omega
      go_wp2
      refine Lx.region (C := fun _ => True) (hs := []) (by kernel_rfl) (by kernel_rfl) trivial ?_
      repeat' (first
        | (refine Lx.lex_no (Lx.n1 rfl rfl rfl (by with_reducible rfl)) (fun K hK => ?_); go_simp; refine hK _ ?_; clear hK K)
        | (refine Lx.lex_no (Lx.n0 rfl rfl rfl (by with_reducible rfl)) (fun K hK => ?_); go_simp; refine hK _ ?_; clear hK K)
        | (refine Lx.lex_no (Lx.n2 rfl rfl rfl) (fun K hK => ?_); go_simp; refine hK _ ?_; clear hK K)
        | (refine Lx.lex_pure (v := ?_) rfl (by first | exact Lx.w0 rfl | exact Lx.w1 rfl rfl rfl (by with_reducible rfl)) ?_ (fun K hK => ?_); rotate_left 1; (intro w' hCw; (try dsimp only at hCw); go_simp; done); go_simp; refine hK _ ?_; clear hK K)
        | (refine Lx.lex_pure (v := ?_) rfl (by first | exact Lx.w0 rfl | exact Lx.w1 rfl rfl rfl (by with_reducible rfl)) ?_ (fun K hK => ?_); rotate_left 1; (intro w' hCw; (try dsimp only at hCw); go_simp; with_reducible rfl); go_simp; refine hK _ ?_; clear hK K)
        | (refine Lx.lex_read (v := ?_) rfl (by first | exact Lx.w0 rfl | exact Lx.w1 rfl rfl rfl (by with_reducible rfl)) ?_ (fun K hK => ?_); rotate_left 1; (go_simp; done); go_simp; refine hK _ ?_; clear hK K)
        | (refine Lx.lex_read (v := ?_) rfl (by first | exact Lx.w0 rfl | exact Lx.w1 rfl rfl rfl (by with_reducible rfl)) ?_ (fun K hK => ?_); rotate_left 1; (go_simp; with_reducible rfl); go_simp; refine hK _ ?_; clear hK K)
        | (refine Lx.lex_eff rfl (by first | exact Lx.w0 rfl | exact Lx.w1 rfl rfl rfl (by with_reducible rfl)) (fun K hK => ?_); go_simp; (first | fail | skip); refine hK _ _ (trivial) ?_; clear hK K)
        | (refine Lx.lex_cases rfl rfl rfl (fun hgd K hK => ?_) (fun hgd K hK => ?_) <;> (try simp only [decide_eq_true_eq, decide_eq_false_iff_not] at hgd) <;> (first | (exfalso; omega) | (go_simp; refine hK _ ?_; clear hK K))))
      all_goals (refine Lx.lex_nil ?_)
      clear e1 e2
      go_wp2
      go_roundw
      case rel => exact ⟨k + 1, acc + x * y, by omega, by omega, by go_num, rfl, by omega, by omega, HR', HWW.out.drew⟩
      case measure => simp [intOf]; omega
    · have HE : Eqn (sumGo a b 0) acc := by
        rw [Eqn, HR.out]
        by_cases h1 : k < n
        · rw [drop_end (xs := b) (by rw [Hlb.out]; omega)]
          cases a.drop k <;> rfl
        · rw [drop_end (xs := a) (by rw [Hla.out]; omega)]
          rfl
      clear HW HR
      go_wp2
      all_goals
        go_ret
        exact ⟨by rw [HE.out]; rfl, HWW.out⟩

theorem sum_units : ∀ (l : List Prod) (bs : List Int) (acc : Int), l.length = bs.length → sumGo (l.map Prod.units) bs acc = unitsGo l bs acc := by
  intro l
  induction l with
  | nil => intro bs acc h; cases bs <;> simp [sumGo, unitsGo]
  | cons p l ih =>
    intro bs acc h
    cases bs with
    | nil => simp at h
    | cons x bs =>
      rw [List.map_cons, sumGo, unitsGo, ih bs _ (by simpa using h), Int.mul_comm]

set_option maxHeartbeats 1000000 in
theorem rUnits_any (A B : Option Addr) (n c m d : Nat) (w : World) (l : List Prod) (bs : List Int) (hn : n ≤ 140) (hl : RowS 5 Prod.cell w w.heap.size A n l) (hb : Row1 intV w w.heap.size B m bs) :
    Calls Try.prog 16 #[.slice A n c, .slice B m d] w (RetPost (dUnits l bs) w.heap.size w) := by
  have Hl := Lib.hid hl
  have Hb := Lib.hid hb
  have Hlen := Eqn.mk hl.1
  have Hblen := Eqn.mk hb.1
  clear hl hb
  cases hv : dValid l bs with
  | true =>
    have HV := Eqn.mk hv
    have hfit : prodValid l = true ∧ fitsF l bs = true := by unfold dValid at hv; rw [Bool.and_eq_true] at hv; exact hv
    have hs := sane_of hfit.1 hfit.2
    have HS : Hid (SmallM (l.map Prod.units) bs 100000 12) := by
      intro k x y hx hy
      rw [List.getElem?_map] at hx
      cases hp : l[k]? with
      | none => rw [hp] at hx; cases hx
      | some p =>
        rw [hp] at hx
        injection hx with hx
        have := hs.2 k p y hp hy
        omega
    have HU : Eqn (sumGo (l.map Prod.units) bs 0) (unitsF l bs) := sum_units l bs 0 hs.1
    have hmn : m = n := by rw [← Hlen.out, ← Hblen.out]; exact hs.1.symm
    clear hv hfit hs
    have hm2 : m ≤ 140 := by omega
    go_enter Try.func16, Try.ntmps16
    clear hmn
    go_wp2_with fail
    refine (rdValid_any A B n c m d _ l bs hn Hl.out Hb.out).mono ?_
    rw [HV.out]
    rintro e w1 ⟨rfl, hb1⟩
    have HB1 := Lib.hid hb1
    clear hb1
    go_wp2_with fail
    refine (weights_any A n c _ l hn (Hl.out.keep HB1.out)).mono ?_
    rintro e w2 ⟨v, rfl, hown, hb2⟩
    obtain ⟨A2, c2, hv2, hrow⟩ := row1_of_own hown
    rw [hv2]
    have HB2 : Hid (Below w.heap.size w w2) := HB1.out.trans (hb2.mono HB1.out.size)
    have HRow := Lib.hid hrow
    clear hv2 hrow hown hb2
    go_wp2_with fail
    refine (sum_any A2 B l.length c2 m d _ (l.map Prod.units) bs 100000 12 1200000 (by omega) (by omega) (by omega) (by rw [Hlen.out]; exact hn) (by omega) HRow.out (Hb.out.keep HB2.out) HS.out).mono ?_
    rw [HU.out]
    rintro e w3 ⟨rfl, hb3⟩
    have HB3 : Hid (Below w.heap.size w w3) := HB2.out.trans (hb3.mono HB2.out.size)
    clear hb3
    go_wp2
    go_ret2
    exact ⟨by unfold dUnits; rw [HV.out]; rfl, HB3.out⟩
  | false =>
    have HV := Eqn.mk hv
    clear hv
    go_enter Try.func16, Try.ntmps16
    go_wp2_with fail
    refine (rdValid_any A B n c m d _ l bs hn Hl.out Hb.out).mono ?_
    rw [HV.out]
    rintro e w1 ⟨rfl, hb1⟩
    go_wp2_with fail
    go_ret2
    exact ⟨by unfold dUnits; rw [HV.out]; rfl, hb1⟩
end Go.Proofs.Ytoafkphcfhbnmaa
