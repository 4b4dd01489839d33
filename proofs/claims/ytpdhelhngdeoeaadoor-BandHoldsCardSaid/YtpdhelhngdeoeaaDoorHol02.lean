/- The reference of layer 26: ValidBands. -/
import Derived.Test.YtpdhelhngdeoeaaDoorLim15
import Derived.Test.YtpdhelhngdeoeaaDoorLim19
import Derived.Test.YtpdhelhngdeoeaaDoorLim08
import Derived.Test.YtpdhelhngdeoeaaDoorHol01
/- Plain laws for BandHolds: problems for two targets, their limits, assignments. -/
namespace Go.Proofs.YtpdhelhngdeoeaaDoor
open Go.RowKit

theorem two_targets0 : ∀ e f : Fin 11, e.1 ≤ f.1 → ∀ b ∈ bandLists, (b.flatMap fun x => (chF x (keyE f.1)).1).filter (leftP (keyE e.1)) = (b.flatMap fun x => (chF x (keyE e.1)).1) ∧ (b.flatMap fun x => (chF x (keyE e.1)).1).filter (leftP (keyE f.1)) = (b.flatMap fun x => (chF x (keyE e.1)).1) := by decide +kernel
theorem in_band0 : ∀ e : Fin 11, ∀ b ∈ bandLists, ∀ c ∈ (b.flatMap fun x => (chF x (keyE e.1)).1), (ofP c).2 = 0 ∧ c ≠ 37 ∧ (ofP c).1 ∈ b := by decide +kernel
theorem key_vld : ∀ e : Fin 11, vldT (keyE e.1) = true := by decide +kernel
theorem key_blk : ∀ e : Fin 11, blkF (keyE e.1) = (12 - (e.1 : Int), 0) := by decide +kernel

theorem lim_two {a b : Nat} (hab : a ≤ b) (hb : b < 11) {ds : List Dom} (hv : vbGo none ds = true) {es : List Dom} (he : es.map Dom.say = ds.map (domOf (keyE b))) : es.map (limD (keyE a)) = ds.map (domOf (keyE a)) := by
  have h1 : ∀ (es : List Dom) (t : Int), es.map (limD t) = (es.map Dom.say).map fun x => (x.1, x.2.filter (leftP t)) := fun es t => by rw [List.map_map]; rfl
  rw [h1, he, List.map_map]
  refine List.map_congr_left (fun d hd => ?_)
  have hm := vbIn_none (vbGo_bands ds none hv d hd)
  have := (two_targets0 ⟨a, by omega⟩ ⟨b, hb⟩ hab d.chs hm).1
  simp only [Function.comp, domOf]
  exact congrArg (Prod.mk d.st) this
theorem lim_less {a b : Nat} (hab : a ≤ b) (hb : b < 11) {ds : List Dom} (hv : vbGo none ds = true) {es : List Dom} (he : es.map Dom.say = ds.map (domOf (keyE a))) : es.map (limD (keyE b)) = ds.map (domOf (keyE a)) := by
  have h1 : ∀ (es : List Dom) (t : Int), es.map (limD t) = (es.map Dom.say).map fun x => (x.1, x.2.filter (leftP t)) := fun es t => by rw [List.map_map]; rfl
  rw [h1, he, List.map_map]
  refine List.map_congr_left (fun d hd => ?_)
  have hm := vbIn_none (vbGo_bands ds none hv d hd)
  have := (two_targets0 ⟨a, by omega⟩ ⟨b, hb⟩ hab d.chs hm).2
  simp only [Function.comp, domOf]
  exact congrArg (Prod.mk d.st) this

/-- strictly increasing lists with the same members are equal -/
theorem inc_ext : ∀ {a b : List Int}, a.Pairwise (· < ·) → b.Pairwise (· < ·) → (∀ x, x ∈ a ↔ x ∈ b) → a = b := by
  intro a
  induction a with
  | nil =>
    intro b _ _ h
    cases b with
    | nil => rfl
    | cons y r => have := (h y).2 (by simp); cases this
  | cons x r ih =>
    intro b ha hb h
    cases b with
    | nil => have := (h x).1 (by simp); cases this
    | cons y s =>
      obtain ⟨h1, h2⟩ := List.pairwise_cons.1 ha
      obtain ⟨h3, h4⟩ := List.pairwise_cons.1 hb
      have hxy : x = y := by
        have hx := (h x).1 (by simp)
        have hy := (h y).2 (by simp)
        rcases List.mem_cons.1 hx with hx | hx
        · exact hx
        · rcases List.mem_cons.1 hy with hy | hy
          · exact hy.symm
          · have := h1 y hy; have := h3 x hx; omega
      subst hxy
      congr 1
      refine ih h2 h4 (fun z => ?_)
      constructor
      · intro hz
        rcases List.mem_cons.1 ((h z).1 (by simp [hz])) with rfl | hz'
        · have := h1 _ hz; omega
        · exact hz'
      · intro hz
        rcases List.mem_cons.1 ((h z).2 (by simp [hz])) with rfl | hz'
        · have := h3 _ hz; omega
        · exact hz'
theorem vlGo_iff : ∀ (l : List (Int × Int)) (p : Option Int), vlGo p l = true ↔ (∀ x ∈ l, stF x.1 = true ∧ 2 ≤ x.2 ∧ x.2 ≤ 51 ∧ (∀ q, p = some q → q < x.1)) ∧ l.Pairwise (fun x y => x.1 < y.1) := by
  intro l
  induction l with
  | nil => intro p; simp [vlGo]
  | cons x r ih =>
    intro p
    rw [vlGo]
    by_cases hb : stF x.1 = false ∨ x.2 < 2 ∨ 51 < x.2 ∨ notUp p x.1 = true
    · rw [if_pos hb]
      refine ⟨fun h => (by cases h), fun h => ?_⟩
      obtain ⟨h1, h2, h3, h4⟩ := h.1 x (by simp)
      rcases hb with hb | hb | hb | hb
      · rw [h1] at hb; cases hb
      · omega
      · omega
      · cases p with
        | none => cases hb
        | some q => have := h4 q rfl; simp [notUp] at hb; omega
    · rw [if_neg hb, ih]
      have hs : stF x.1 = true := by
        cases h : stF x.1 with
        | true => rfl
        | false => exact absurd (.inl h) hb
      have h2 : ¬ x.2 < 2 := fun h => hb (.inr (.inl h))
      have h5 : ¬ 51 < x.2 := fun h => hb (.inr (.inr (.inl h)))
      have hxp : ∀ q, p = some q → q < x.1 := by
        rintro q rfl
        have : ¬ notUp (some q) x.1 = true := fun h => hb (.inr (.inr (.inr h)))
        simp [notUp] at this
        exact this
      constructor
      · rintro ⟨h1, h3⟩
        refine ⟨fun y hy => ?_, List.pairwise_cons.2 ⟨fun y hy => (h1 y hy).2.2.2 x.1 rfl, h3⟩⟩
        rcases List.mem_cons.1 hy with rfl | hy
        · exact ⟨hs, by omega, by omega, hxp⟩
        · obtain ⟨g1, g2, g3, g4⟩ := h1 y hy
          exact ⟨g1, g2, g3, fun q hq => Int.lt_trans (hxp q hq) (g4 x.1 rfl)⟩
      · rintro ⟨h1, h3⟩
        obtain ⟨h6, h4⟩ := List.pairwise_cons.1 h3
        refine ⟨fun y hy => ?_, h4⟩
        obtain ⟨g1, g2, g3, _⟩ := h1 y (by simp [hy])
        exact ⟨g1, g2, g3, fun q hq => (by cases hq; exact h6 y hy)⟩
theorem onF_mem : ∀ {l : List (Int × Int)} {n : Int}, onF l n ≠ 0 → n ∈ l.map Prod.fst := by
  intro l
  induction l with
  | nil => intro n h; exact absurd rfl h
  | cons x r ih =>
    intro n h
    rw [onF] at h
    by_cases he : x.1 = n
    · simp [he]
    · rw [if_neg he] at h
      have := ih h
      simp only [List.map_cons, List.mem_cons]
      exact .inr this
theorem onF_at : ∀ {l : List (Int × Int)}, l.Pairwise (fun x y => x.1 < y.1) → ∀ x ∈ l, onF l x.1 = x.2 := by
  intro l
  induction l with
  | nil => intro _ x h; cases h
  | cons y r ih =>
    intro hp x hx
    obtain ⟨h1, h2⟩ := List.pairwise_cons.1 hp
    rw [onF]
    rcases List.mem_cons.1 hx with rfl | hx
    · rw [if_pos rfl]
    · have := h1 x hx
      rw [if_neg (by omega)]
      exact ih h2 x hx
/-- an assignment has the stations of the problem, in order -/
theorem fine_st {ds : List Dom} {r : Rul} {l : List (Int × Int)} (h : fineF ds r l = true) (hi : (ds.map Dom.st).Pairwise (· < ·)) : l.map Prod.fst = ds.map Dom.st := by
  simp only [fineF, okF, Bool.and_eq_true, List.all_eq_true] at h
  obtain ⟨h1, h2, h3, _⟩ := h
  have hv := (vlGo_iff l none).1 h1
  refine inc_ext (List.pairwise_map.2 hv.2) hi (fun x => ⟨fun hx => ?_, fun hx => ?_⟩)
  · obtain ⟨y, hy, rfl⟩ := List.mem_map.1 hx
    have := h3 y hy
    rw [inD_mem] at this
    exact of_decide_eq_true this
  · obtain ⟨d, hd, rfl⟩ := List.mem_map.1 hx
    have := h2 d hd
    refine onF_mem (fun h0 => ?_)
    simp [bdF, h0] at this
theorem fine_ch {ds : List Dom} {r : Rul} {l : List (Int × Int)} (h : fineF ds r l = true) (hi : (ds.map Dom.st).Pairwise (· < ·)) (k : Nat) (d : Dom) (x : Int × Int) (hd : ds[k]? = some d) (hx : l[k]? = some x) : x.2 ∈ d.chs := by
  have hs := fine_st h hi
  have hst : x.1 = d.st := by
    have h1 : (l.map Prod.fst)[k]? = some x.1 := by rw [List.getElem?_map, hx]; rfl
    have h2 : (ds.map Dom.st)[k]? = some d.st := by rw [List.getElem?_map, hd]; rfl
    rw [hs, h2] at h1
    exact (Option.some.inj h1).symm
  simp only [fineF, okF, Bool.and_eq_true, List.all_eq_true] at h
  obtain ⟨h1, h2, _⟩ := h
  have hv := (vlGo_iff l none).1 h1
  have hon := onF_at hv.2 x (List.mem_of_getElem? hx)
  have := h2 d (List.mem_of_getElem? hd)
  unfold bdF at this
  rw [← hst, hon] at this
  have hc := (hv.1 x (List.mem_of_getElem? hx)).2.1
  have hc0 : x.2 ≠ 0 := by omega
  simp [hc0] at this
  rw [hasL_mem] at this
  exact of_decide_eq_true this
/-- an assignment stays one where the domains grow -/
theorem fine_more {ds es : List Dom} {r : Rul} {l : List (Int × Int)} (h : fineF ds r l = true) (hs : ds.map Dom.st = es.map Dom.st) (hc : ∀ (k : Nat) (d e : Dom), ds[k]? = some d → es[k]? = some e → ∀ c ∈ d.chs, c ∈ e.chs) : fineF es r l = true := by
  simp only [fineF, okF, Bool.and_eq_true] at h ⊢
  obtain ⟨h1, h2, h3, h4, h5⟩ := h
  refine ⟨h1, ?_, ?_, h4, h5⟩
  · rw [List.all_eq_true] at h2 ⊢
    intro e he
    obtain ⟨k, hk⟩ := List.mem_iff_getElem?.1 he
    have hke : (es.map Dom.st)[k]? = some e.st := by rw [List.getElem?_map, hk]; rfl
    rw [← hs, List.getElem?_map] at hke
    cases hd : ds[k]? with
    | none => rw [hd] at hke; cases hke
    | some d =>
      rw [hd] at hke
      have hst : d.st = e.st := Option.some.inj hke
      have := h2 d (List.mem_of_getElem? hd)
      unfold bdF at this ⊢
      rw [hst] at this
      by_cases h0 : onF l e.st = 0
      · simp [h0] at this
      · simp [h0] at this ⊢
        rw [hasL_mem] at this ⊢
        exact decide_eq_true (hc k d e hd hk _ (of_decide_eq_true this))
  · rw [List.all_eq_true] at h3 ⊢
    intro x hx
    have := h3 x hx
    rw [inD_mem] at this ⊢
    rw [← hs]
    exact this
end Go.Proofs.YtpdhelhngdeoeaaDoor

/- The references: Few, ValidBands (layer 26), Small (layer 17). -/
namespace Go.Proofs.YtpdhelhngdeoeaaDoor
open Go.RowKit

def fewGo : Nat → List Dom → Bool
  | 0, _ => true
  | _, [] => true
  | f + 1, d :: r => if 10 < d.len then false else fewGo f r
theorem fewGo_nil (f : Nat) : fewGo f [] = true := by cases f <;> rfl
theorem fewGo_all : ∀ (f : Nat) (l : List Dom), fewGo f l = true → l.length ≤ f → ∀ d ∈ l, d.len ≤ 10 := by
  intro f
  induction f with
  | zero => intro l _ h2 d hd; cases l with | nil => cases hd | cons x r => simp at h2
  | succ f ih =>
    intro l h1 h2 d hd
    cases l with
    | nil => cases hd
    | cons x r =>
      rw [fewGo] at h1
      by_cases hx : 10 < x.len
      · rw [if_pos hx] at h1; cases h1
      · rw [if_neg hx] at h1
        rcases List.mem_cons.1 hd with rfl | h
        · omega
        · exact ih r h1 (by simp at h2; omega) d h
def fewF (ds : List Dom) : Bool := fewGo 13 ds && decide (ds.length ≤ 12)
theorem fewF_spec {ds : List Dom} (h : fewF ds = true) : ds.length ≤ 12 ∧ ∀ d ∈ ds, d.len ≤ 10 := by
  simp only [fewF, Bool.and_eq_true, decide_eq_true_eq] at h
  exact ⟨h.2, fewGo_all 13 ds h.1 (by omega)⟩

set_option maxHeartbeats 1000000 in
theorem few_any (A : Option Addr) (n c : Nat) (w : World) (ds : List Dom) (hn : n ≤ 9223372036854775807) (hl : DomsAt w w.heap.size A n ds) :
    Calls Tryd.prog 15 #[.slice A n c, .int .i64 12] w fun e w' => e = .returned (.bool (fewF ds)) ∧ w = w' := by
  have Hl := Lib.hid hl.1
  have Hlen := Eqn.mk hl.1.1
  have HF : Eqn (fewF ds) (fewGo (13 - 0) (ds.drop 0) && decide (n ≤ 12)) := by rw [Eqn, fewF, Hlen.out]; rfl
  clear hl
  rw [show fewF ds = _ from HF.out]
  obtain ⟨ans, hans⟩ : ∃ ans, ans = (fewGo (13 - 0) (ds.drop 0) && decide (n ≤ 12)) := ⟨_, rfl⟩
  rw [← hans]
  have HA := Eqn.mk hans
  clear hans HF
  go_enter Tryd.func15, Tryd.ntmps15
  go_wp2_with fail
  go_loopw [5] (fun i wr => ∃ k : Nat, k ≤ n ∧ k ≤ 13 ∧ i = .int .i64 k ∧ Eqn ans (fewGo (13 - k) (ds.drop k) && decide (n ≤ 12)) ∧ w = wr) (fun i _ => n - (intOf i).toNat)
  case atStart => exact ⟨0, Nat.zero_le _, Nat.zero_le _, rfl, HA, rfl⟩
  case round =>
    clear HA
    obtain ⟨k, hk, hk13, rfl, HR, rfl⟩ := hrel
    by_cases hlt : k < n
    · by_cases h12 : k ≤ 12
      · obtain ⟨p, hp, hpd⟩ := drop_at (xs := ds) (k := k) (by rw [Hlen.out]; exact hlt)
        obtain ⟨b, off, hA, hbl, hc⟩ := Hl.out.2 (by omega)
        subst hA
        have c1 := hc k p hp 1 (by omega)
        simp only [Dom.cell] at c1
        have HR2 := HR.out
        rw [hpd, show 13 - k = (13 - (k + 1)) + 1 by omega, fewGo] at HR2
        have HRR := Eqn.mk HR2
        have j0 : (k : Int) < (n : Int) := by omega
        have j1 : (k : Int) ≤ 12 := by omega
        clear hc hp hpd HR HR2
        obtain ⟨st, adr, len, cap, chs⟩ := p
        dsimp only at *
        by_cases h10 : 10 < len
        · have HE : Eqn ans false := by rw [Eqn, HRR.out, if_pos h10]; rfl
          have j2 : (10 : Int) < (len : Int) := by omega
          clear HRR h10
          go_wp2_with fail
          go_ret
          exact ⟨ret_bool HE.out.symm, rfl⟩
        · have HE : Eqn ans (fewGo (13 - (k + 1)) (ds.drop (k + 1)) && decide (n ≤ 12)) := by rw [Eqn, HRR.out, if_neg h10]
          have j2 : ¬ (10 : Int) < (len : Int) := by omega
          clear HRR h10
          go_wp2_with fail
          go_roundw
          case rel => exact ⟨k + 1, by omega, by omega, by go_num, HE, trivial⟩
          case measure => simp [intOf]; omega
      · have HE : Eqn ans false := by rw [Eqn, HR.out]; simp [show ¬ n ≤ 12 by omega]
        have j0 : (k : Int) < (n : Int) := by omega
        have j1 : ¬ (k : Int) ≤ 12 := by omega
        have j2 : ¬ (n : Int) ≤ 12 := by omega
        clear HR
        go_wp2_with fail
        go_ret
        exact ⟨ret_bool (by rw [HE.out]), rfl⟩
    · obtain rfl : k = n := by omega
      have HE : Eqn ans (decide (k ≤ 12)) := by rw [Eqn, HR.out, drop_end (by rw [Hlen.out]; omega), fewGo_nil]; rfl
      clear HR
      go_wp2_with fail
      go_ret
      exact ⟨ret_bool (by rw [HE.out]; exact decide_eq_decide.2 (by omega)), rfl⟩
end Go.Proofs.YtpdhelhngdeoeaaDoor

namespace Go.Proofs.YtpdhelhngdeoeaaDoor
open Go.RowKit

set_option maxRecDepth 100000 in
set_option maxHeartbeats 4000000 in
theorem rvb_any (A : Option Addr) (n c : Nat) (w : World) (ds : List Dom) (hn : n ≤ 1000) (hd : ∀ d ∈ ds, d.len ≤ 1000) (hl : DomsAt w w.heap.size A n ds) :
    Calls Tryd.prog 16 #[.slice A n c] w (RetPost (.bool (vbGo none ds)) w.heap.size w) := by
  have Hl := Lib.hid hl
  have Hlen := Eqn.mk hl.1.1
  have HD := Lib.hid hd
  clear hl hd
  go_enter Tryd.func16, Tryd.ntmps16
  go_wp2_with fail
  go_loopw [3] (fun i wr => ∃ k : Nat, k ≤ n ∧ i = .int .i64 k ∧ Eqn (vbGo none ds) (vbGo (prevOf Dom.st ds k) (ds.drop k)) ∧ Below w.heap.size w wr) (fun i _ => n - (intOf i).toNat)
  case atStart => exact ⟨0, Nat.zero_le _, rfl, rfl, Below.refl _ _⟩
  case round =>
    obtain ⟨k, hk, rfl, HR, hB⟩ := hrel
    obtain ⟨wo, rfl⟩ : ∃ wo : World, wo = wr := ⟨_, rfl⟩
    have HB := Lib.hid hB
    have hbs := hB.size
    by_cases hlt : k < n
    · obtain ⟨p, hp, hpd⟩ := drop_at (xs := ds) (k := k) (by rw [Hlen.out]; exact hlt)
      obtain ⟨b, off, hA, hbl, hc⟩ := (Hl.out.1.below hB).2 (by omega)
      subst hA
      have hrow := (Hl.out.2 p (List.mem_of_getElem? hp)).below hB
      have hpl := HD.out p (List.mem_of_getElem? hp)
      have HR2 := HR.out
      rw [hpd, vbGo] at HR2
      have hnx : prevOf Dom.st ds (k + 1) = some p.st := by rw [prevOf_succ, hp]; rfl
      have c0 := hc k p hp 0 (by omega)
      have c1 := hc k p hp 1 (by omega)
      simp only [Dom.cell, Nat.add_zero] at c0 c1
      have hbw : b < wo.heap.size := by omega
      obtain ⟨qs, hqs, hprev⟩ : ∃ qs : Int, (0 < k → wo.cell? ⟨b, off + (k - 1) * 2, none⟩ = some (.int .i64 qs)) ∧ (0 < k → prevOf Dom.st ds k = some qs) := by
        by_cases h0 : 0 < k
        · obtain ⟨q, hq, _⟩ := drop_at (xs := ds) (k := k - 1) (by rw [Hlen.out]; omega)
          refine ⟨q.st, fun _ => ?_, fun _ => ?_⟩
          · have := hc (k - 1) q hq 0 (by omega); simpa [Dom.cell] using this
          · unfold prevOf; rw [if_neg (by omega), hq]; rfl
        · exact ⟨0, fun h => absurd h h0, fun h => absurd h h0⟩
      obtain ⟨st, adr, len, cap, chs⟩ := p
      dsimp only at *
      have HROW := Lib.hid (hrow.up hbs)
      have HQ := Lib.hid hqs
      have HP := Lib.hid hprev
      have HNX := Eqn.mk hnx
      have HCL : Hid (chs.length = len) := Lib.hid hrow.1
      have HRR := Eqn.mk HR2
      have j0 : (k : Int) < (n : Int) := by omega
      clear hc hp hpd HR HR2 hB hrow hqs hprev hnx
      by_cases b1 : st < 0
      · have HV := Eqn.mk (HRR.out.trans (if_pos (.inl b1)))
        have hd1 : decide (st < 0) = true := decide_eq_true b1
        clear HRR
        go_wp2_with fail
        refine Lx.region (C := fun _ => True) (hs := []) (by kernel_rfl) (by kernel_rfl) trivial ?_
        repeat' (first
          | (refine Lx.lex_no (Lx.n1 rfl rfl rfl (by with_reducible rfl)) (fun K hK => ?_); go_simp; skip; refine hK _ ?_; clear hK K)
          | (refine Lx.lex_no (Lx.n0 rfl rfl rfl (by with_reducible rfl)) (fun K hK => ?_); go_simp; skip; refine hK _ ?_; clear hK K)
          | (refine Lx.lex_no (Lx.n2 rfl rfl rfl) (fun K hK => ?_); go_simp; skip; refine hK _ ?_; clear hK K)
          | (refine Lx.lex_pure (v := ?_) rfl (by first | exact Lx.w0 rfl | exact Lx.w1 rfl rfl rfl (by with_reducible rfl)) ?_ (fun K hK => ?_); rotate_left 1; (intro w' hCw; (try dsimp only at hCw); go_simp; first | done | with_reducible rfl); go_simp; skip; refine hK _ ?_; clear hK K)
          | (refine Lx.lex_read (v := ?_) rfl (by first | exact Lx.w0 rfl | exact Lx.w1 rfl rfl rfl (by with_reducible rfl)) ?_ (fun K hK => ?_); rotate_left 1; (go_simp; first | done | with_reducible rfl); go_simp; skip; refine hK _ ?_; clear hK K)
          | (refine Lx.lex_eff rfl (by first | exact Lx.w0 rfl | exact Lx.w1 rfl rfl rfl (by with_reducible rfl)) (fun K hK => ?_); go_simp; (first | fail); refine hK _ _ (trivial) ?_; clear hK K))
        all_goals (refine Lx.lex_nil ?_)
        go_wp2_with fail
        go_ret
        exact ⟨ret_bool HV.out.symm, HB.out.drew⟩
      by_cases b2 : 511 < st
      · have HV := Eqn.mk (HRR.out.trans (if_pos (.inr (.inl (by omega)))))
        have hd1 : decide (st < 0) = false := decide_eq_false b1
        have hd2 : decide (511 < st) = true := decide_eq_true b2
        clear HRR b1
        go_wp2_with fail
        refine Lx.region (C := fun _ => True) (hs := []) (by kernel_rfl) (by kernel_rfl) trivial ?_
        repeat' (first
          | (refine Lx.lex_no (Lx.n1 rfl rfl rfl (by with_reducible rfl)) (fun K hK => ?_); go_simp; skip; refine hK _ ?_; clear hK K)
          | (refine Lx.lex_no (Lx.n0 rfl rfl rfl (by with_reducible rfl)) (fun K hK => ?_); go_simp; skip; refine hK _ ?_; clear hK K)
          | (refine Lx.lex_no (Lx.n2 rfl rfl rfl) (fun K hK => ?_); go_simp; skip; refine hK _ ?_; clear hK K)
          | (refine Lx.lex_pure (v := ?_) rfl (by first | exact Lx.w0 rfl | exact Lx.w1 rfl rfl rfl (by with_reducible rfl)) ?_ (fun K hK => ?_); rotate_left 1; (intro w' hCw; (try dsimp only at hCw); go_simp; first | done | with_reducible rfl); go_simp; skip; refine hK _ ?_; clear hK K)
          | (refine Lx.lex_read (v := ?_) rfl (by first | exact Lx.w0 rfl | exact Lx.w1 rfl rfl rfl (by with_reducible rfl)) ?_ (fun K hK => ?_); rotate_left 1; (go_simp; first | done | with_reducible rfl); go_simp; skip; refine hK _ ?_; clear hK K)
          | (refine Lx.lex_eff rfl (by first | exact Lx.w0 rfl | exact Lx.w1 rfl rfl rfl (by with_reducible rfl)) (fun K hK => ?_); go_simp; (first | fail); refine hK _ _ (trivial) ?_; clear hK K))
        all_goals (refine Lx.lex_nil ?_)
        go_wp2_with fail
        go_ret
        exact ⟨ret_bool HV.out.symm, HB.out.drew⟩
      have hd1 : decide (st < 0) = false := decide_eq_false b1
      have hd2 : decide (511 < st) = false := decide_eq_false b2
      have hINNER : Hid (0 < len → (notUp (prevOf Dom.st ds k) st = false) → vbGo none ds = (vbIn none chs && vbGo (prevOf Dom.st ds (k + 1)) (ds.drop (k + 1)))) := Lib.hid (fun h0 h1 => by
        rw [HRR.out, if_neg (by
          rintro (h | h | h | h)
          · omega
          · omega
          · rw [h1] at h; cases h
          · have := HCL.out; rw [h] at this; simp at this; omega), HNX.out]
        by_cases hv : vbIn none chs = true
        · rw [if_pos hv, hv]; rfl
        · rw [if_neg hv]; simp [hv])
      by_cases h0 : 0 < k
      · have hp := HP.out h0
        have qc := HQ.out h0
        have k1 : decide ((0 : Int) < (k : Int)) = true := decide_eq_true (by omega)
        have k5 : decide (0 < k) = true := decide_eq_true h0
        obtain ⟨k', hk'⟩ : ∃ k', k - 1 = k' := ⟨_, rfl⟩
        have e1 : IntKind.i64.wrap ((k : Int) - 1) = (k' : Int) := by rw [IntWalk.i64_in _ (by omega)]; omega
        have e3 : (k : Int) - 1 = (k' : Int) := by omega
        have e9 : IntKind.i64.wrap (k' : Int) = (k' : Int) := by rw [IntWalk.i64_in _ (by omega)]
        have e4 : (0 : Int) ≤ (k' : Int) := by omega
        have e5 : (k' : Int) < (n : Int) := by omega
        rw [hk'] at qc
        have hup0 : notUp (prevOf Dom.st ds k) st = decide (st ≤ qs) := by rw [hp]; rfl
        by_cases b3 : st ≤ qs
        · have HV := Eqn.mk (HRR.out.trans (if_pos (.inr (.inr (.inl (by rw [hup0]; simpa using b3))))))
          have hd3 : decide (st ≤ qs) = true := decide_eq_true b3
          clear HRR hINNER HP HQ hp hup0 hk' h0 b1 b2 b3
          go_wp2_with fail
          refine Lx.region (C := fun _ => True) (hs := []) (by kernel_rfl) (by kernel_rfl) trivial ?_
          repeat' (first
            | (refine Lx.lex_no (Lx.n1 rfl rfl rfl (by with_reducible rfl)) (fun K hK => ?_); go_simp; skip; refine hK _ ?_; clear hK K)
            | (refine Lx.lex_no (Lx.n0 rfl rfl rfl (by with_reducible rfl)) (fun K hK => ?_); go_simp; skip; refine hK _ ?_; clear hK K)
            | (refine Lx.lex_no (Lx.n2 rfl rfl rfl) (fun K hK => ?_); go_simp; skip; refine hK _ ?_; clear hK K)
            | (refine Lx.lex_pure (v := ?_) rfl (by first | exact Lx.w0 rfl | exact Lx.w1 rfl rfl rfl (by with_reducible rfl)) ?_ (fun K hK => ?_); rotate_left 1; (intro w' hCw; (try dsimp only at hCw); go_simp; first | done | with_reducible rfl); go_simp; skip; refine hK _ ?_; clear hK K)
            | (refine Lx.lex_read (v := ?_) rfl (by first | exact Lx.w0 rfl | exact Lx.w1 rfl rfl rfl (by with_reducible rfl)) ?_ (fun K hK => ?_); rotate_left 1; (go_simp; first | done | with_reducible rfl); go_simp; skip; refine hK _ ?_; clear hK K)
            | (refine Lx.lex_eff rfl (by first | exact Lx.w0 rfl | exact Lx.w1 rfl rfl rfl (by with_reducible rfl)) (fun K hK => ?_); go_simp; (first | fail); refine hK _ _ (trivial) ?_; clear hK K))
          all_goals (refine Lx.lex_nil ?_)
          go_wp2_with fail
          go_ret
          exact ⟨ret_bool HV.out.symm, HB.out.drew⟩
        · have hd3 : decide (st ≤ qs) = false := decide_eq_false b3
          have hup : notUp (prevOf Dom.st ds k) st = false := by rw [hup0]; exact hd3
          clear hp hup0 hk' h0 b1 b2 b3 HQ
          by_cases hl0 : len < 1
          · have HV : Eqn (vbGo none ds) false := HRR.out.trans (if_pos (.inr (.inr (.inr (by have := HCL.out; exact List.eq_nil_of_length_eq_zero (by omega))))))
            have hd6 : decide ((len : Int) < 1) = true := decide_eq_true (by omega)
            clear HRR hINNER HP
            go_wp2_with fail
            refine Lx.region (C := fun _ => True) (hs := []) (by kernel_rfl) (by kernel_rfl) trivial ?_
            repeat' (first
              | (refine Lx.lex_no (Lx.n1 rfl rfl rfl (by with_reducible rfl)) (fun K hK => ?_); go_simp; skip; refine hK _ ?_; clear hK K)
              | (refine Lx.lex_no (Lx.n0 rfl rfl rfl (by with_reducible rfl)) (fun K hK => ?_); go_simp; skip; refine hK _ ?_; clear hK K)
              | (refine Lx.lex_no (Lx.n2 rfl rfl rfl) (fun K hK => ?_); go_simp; skip; refine hK _ ?_; clear hK K)
              | (refine Lx.lex_pure (v := ?_) rfl (by first | exact Lx.w0 rfl | exact Lx.w1 rfl rfl rfl (by with_reducible rfl)) ?_ (fun K hK => ?_); rotate_left 1; (intro w' hCw; (try dsimp only at hCw); go_simp; first | done | with_reducible rfl); go_simp; skip; refine hK _ ?_; clear hK K)
              | (refine Lx.lex_read (v := ?_) rfl (by first | exact Lx.w0 rfl | exact Lx.w1 rfl rfl rfl (by with_reducible rfl)) ?_ (fun K hK => ?_); rotate_left 1; (go_simp; first | done | with_reducible rfl); go_simp; skip; refine hK _ ?_; clear hK K)
              | (refine Lx.lex_eff rfl (by first | exact Lx.w0 rfl | exact Lx.w1 rfl rfl rfl (by with_reducible rfl)) (fun K hK => ?_); go_simp; (first | fail); refine hK _ _ (trivial) ?_; clear hK K))
            all_goals (refine Lx.lex_nil ?_)
            go_wp2_with fail
            go_ret
            exact ⟨ret_bool HV.out.symm, HB.out.drew⟩
          have hd6 : decide ((len : Int) < 1) = false := decide_eq_false (by omega)
          have HI : Eqn (vbGo none ds) (vbIn (prevOf id chs 0) (chs.drop 0) && vbGo (prevOf Dom.st ds (k + 1)) (ds.drop (k + 1))) := hINNER.out (by omega) hup
          clear HRR hINNER HP hup
          go_wp2_with fail
          refine Lx.region (C := fun _ => True) (hs := []) (by kernel_rfl) (by kernel_rfl) trivial ?_
          repeat' (first
            | (refine Lx.lex_no (Lx.n1 rfl rfl rfl (by with_reducible rfl)) (fun K hK => ?_); go_simp; skip; refine hK _ ?_; clear hK K)
            | (refine Lx.lex_no (Lx.n0 rfl rfl rfl (by with_reducible rfl)) (fun K hK => ?_); go_simp; skip; refine hK _ ?_; clear hK K)
            | (refine Lx.lex_no (Lx.n2 rfl rfl rfl) (fun K hK => ?_); go_simp; skip; refine hK _ ?_; clear hK K)
            | (refine Lx.lex_pure (v := ?_) rfl (by first | exact Lx.w0 rfl | exact Lx.w1 rfl rfl rfl (by with_reducible rfl)) ?_ (fun K hK => ?_); rotate_left 1; (intro w' hCw; (try dsimp only at hCw); go_simp; first | done | with_reducible rfl); go_simp; skip; refine hK _ ?_; clear hK K)
            | (refine Lx.lex_read (v := ?_) rfl (by first | exact Lx.w0 rfl | exact Lx.w1 rfl rfl rfl (by with_reducible rfl)) ?_ (fun K hK => ?_); rotate_left 1; (go_simp; first | done | with_reducible rfl); go_simp; skip; refine hK _ ?_; clear hK K)
            | (refine Lx.lex_eff rfl (by first | exact Lx.w0 rfl | exact Lx.w1 rfl rfl rfl (by with_reducible rfl)) (fun K hK => ?_); go_simp; (first | fail); refine hK _ _ (trivial) ?_; clear hK K))
          all_goals (refine Lx.lex_nil ?_)
          have HB1 : Hid (Below w.heap.size w wo.drew) := Lib.hid HB.out.drew
          have HBW : Hid (∀ W, Below wo.heap.size wo W → Below w.heap.size w W) := Lib.hid (fun W h => HB.out.trans (h.mono hbs))
          have HCC : Hid (∀ W, Below wo.heap.size wo W → W.cell? ⟨b, off + k * 2 + 1, none⟩ = some (.slice adr len cap)) := Lib.hid (fun W h => (h.cell (p := ⟨b, off + k * 2 + 1, none⟩) hbw).trans c1)
          have HRW : Hid (∀ W, Below wo.heap.size wo W → Row1 intV W wo.heap.size adr len chs) := Lib.hid (fun W h => HROW.out.below h)
          clear c0
          go_wp2_with fail
          clear c1
          go_loopw [4] (fun i wr => ∃ m : Nat, m ≤ len ∧ i = .int .i64 m ∧ Eqn (vbGo none ds) (vbIn (prevOf id chs m) (chs.drop m) && vbGo (prevOf Dom.st ds (k + 1)) (ds.drop (k + 1))) ∧ Below wo.heap.size wo wr) (fun i _ => len - (intOf i).toNat)
          case atStart => exact ⟨0, Nat.zero_le _, rfl, HI, (Below.refl _ _).drew⟩
          case round =>
            clear HI
            obtain ⟨m, hm, rfl, HJ, hBi⟩ := hrel
            have c1 := HCC.out _ hBi
            have his := hBi.size
            have hbw2 : b < wr.heap.size := by omega
            have HBi := Lib.hid hBi
            by_cases hml : m < len
            · obtain ⟨x, hx, hxd⟩ := drop_at (xs := chs) (k := m) (by rw [HCL.out]; exact hml)
              obtain ⟨b2, off2, hA2, hbl2, hc2⟩ := (HRW.out _ hBi).2 (by omega)
              subst hA2
              have x0 := hc2 m x hx
              simp only [intV] at x0
              have HJ2 := HJ.out
              rw [hxd, vbIn] at HJ2
              have hnx : prevOf id chs (m + 1) = some x := by rw [prevOf_succ, hx]; rfl
              obtain ⟨q, hq, hprev⟩ : ∃ q : Int, (0 < m → wr.cell? ⟨b2, off2 + (m - 1), none⟩ = some (.int .i64 q)) ∧ (0 < m → prevOf id chs m = some q) := by
                by_cases h0 : 0 < m
                · obtain ⟨q, hq, _⟩ := drop_at (xs := chs) (k := m - 1) (by rw [HCL.out]; omega)
                  refine ⟨q, fun _ => ?_, fun _ => ?_⟩
                  · have := hc2 (m - 1) q hq; simpa [intV] using this
                  · unfold prevOf; rw [if_neg (by omega), hq]; rfl
                · exact ⟨0, fun h => absurd h h0, fun h => absurd h h0⟩
              have HNX2 := Eqn.mk hnx
              have HJJ := Eqn.mk HJ2
              have HQ2 := Lib.hid hq
              have HP2 := Lib.hid hprev
              have m0 : (m : Int) < (len : Int) := by omega
              have hbw3 : b2 < wr.heap.size := by omega
              clear hc2 hx hxd HJ HJ2 hnx hq hprev hBi
              by_cases a1 : x < 1
              · have HV : Eqn (vbGo none ds) false := by rw [Eqn, HJJ.out, if_pos (.inl a1)]; rfl
                have g1 : decide (x < 1) = true := decide_eq_true a1
                clear HJJ
                go_wp2_with fail
                refine Lx.region (C := fun _ => True) (hs := []) (by kernel_rfl) (by kernel_rfl) trivial ?_
                repeat' (first
                  | (refine Lx.lex_no (Lx.n1 rfl rfl rfl (by with_reducible rfl)) (fun K hK => ?_); go_simp; skip; refine hK _ ?_; clear hK K)
                  | (refine Lx.lex_no (Lx.n0 rfl rfl rfl (by with_reducible rfl)) (fun K hK => ?_); go_simp; skip; refine hK _ ?_; clear hK K)
                  | (refine Lx.lex_no (Lx.n2 rfl rfl rfl) (fun K hK => ?_); go_simp; skip; refine hK _ ?_; clear hK K)
                  | (refine Lx.lex_pure (v := ?_) rfl (by first | exact Lx.w0 rfl | exact Lx.w1 rfl rfl rfl (by with_reducible rfl)) ?_ (fun K hK => ?_); rotate_left 1; (intro w' hCw; (try dsimp only at hCw); go_simp; first | done | with_reducible rfl); go_simp; skip; refine hK _ ?_; clear hK K)
                  | (refine Lx.lex_read (v := ?_) rfl (by first | exact Lx.w0 rfl | exact Lx.w1 rfl rfl rfl (by with_reducible rfl)) ?_ (fun K hK => ?_); rotate_left 1; (go_simp; first | done | with_reducible rfl); go_simp; skip; refine hK _ ?_; clear hK K)
                  | (refine Lx.lex_eff rfl (by first | exact Lx.w0 rfl | exact Lx.w1 rfl rfl rfl (by with_reducible rfl)) (fun K hK => ?_); go_simp; (first | fail); refine hK _ _ (trivial) ?_; clear hK K))
                all_goals (refine Lx.lex_nil ?_)
                go_wp2_with fail
                go_ret
                exact ⟨ret_bool HV.out.symm, HBW.out _ HBi.out.drew⟩
              by_cases a2 : 3 < x
              · have HV : Eqn (vbGo none ds) false := by rw [Eqn, HJJ.out, if_pos (.inr (.inl a2))]; rfl
                have g1 : decide (x < 1) = false := decide_eq_false a1
                have g2 : decide (3 < x) = true := decide_eq_true a2
                clear HJJ a1
                go_wp2_with fail
                refine Lx.region (C := fun _ => True) (hs := []) (by kernel_rfl) (by kernel_rfl) trivial ?_
                repeat' (first
                  | (refine Lx.lex_no (Lx.n1 rfl rfl rfl (by with_reducible rfl)) (fun K hK => ?_); go_simp; skip; refine hK _ ?_; clear hK K)
                  | (refine Lx.lex_no (Lx.n0 rfl rfl rfl (by with_reducible rfl)) (fun K hK => ?_); go_simp; skip; refine hK _ ?_; clear hK K)
                  | (refine Lx.lex_no (Lx.n2 rfl rfl rfl) (fun K hK => ?_); go_simp; skip; refine hK _ ?_; clear hK K)
                  | (refine Lx.lex_pure (v := ?_) rfl (by first | exact Lx.w0 rfl | exact Lx.w1 rfl rfl rfl (by with_reducible rfl)) ?_ (fun K hK => ?_); rotate_left 1; (intro w' hCw; (try dsimp only at hCw); go_simp; first | done | with_reducible rfl); go_simp; skip; refine hK _ ?_; clear hK K)
                  | (refine Lx.lex_read (v := ?_) rfl (by first | exact Lx.w0 rfl | exact Lx.w1 rfl rfl rfl (by with_reducible rfl)) ?_ (fun K hK => ?_); rotate_left 1; (go_simp; first | done | with_reducible rfl); go_simp; skip; refine hK _ ?_; clear hK K)
                  | (refine Lx.lex_eff rfl (by first | exact Lx.w0 rfl | exact Lx.w1 rfl rfl rfl (by with_reducible rfl)) (fun K hK => ?_); go_simp; (first | fail); refine hK _ _ (trivial) ?_; clear hK K))
                all_goals (refine Lx.lex_nil ?_)
                go_wp2_with fail
                go_ret
                exact ⟨ret_bool HV.out.symm, HBW.out _ HBi.out.drew⟩
              have g1 : decide (x < 1) = false := decide_eq_false a1
              have g2 : decide (3 < x) = false := decide_eq_false a2
              by_cases h0 : 0 < m
              · have hp := HP2.out h0
                have qc := HQ2.out h0
                have k1' : decide ((0 : Int) < (m : Int)) = true := decide_eq_true (by omega)
                have k5' : decide (0 < m) = true := decide_eq_true h0
                obtain ⟨m', hm'⟩ : ∃ m', m - 1 = m' := ⟨_, rfl⟩
                have s1 : IntKind.i64.wrap ((m : Int) - 1) = (m' : Int) := by rw [IntWalk.i64_in _ (by omega)]; omega
                have s3 : (m : Int) - 1 = (m' : Int) := by omega
                have s9 : IntKind.i64.wrap (m' : Int) = (m' : Int) := by rw [IntWalk.i64_in _ (by omega)]
                have s4 : (0 : Int) ≤ (m' : Int) := by omega
                have s5 : (m' : Int) < (len : Int) := by omega
                rw [hm'] at qc
                by_cases a3 : x ≤ q
                · have HV : Eqn (vbGo none ds) false := by rw [Eqn, HJJ.out, if_pos (.inr (.inr (by rw [hp]; simpa [notUp] using a3)))]; rfl
                  have g3 : decide (x ≤ q) = true := decide_eq_true a3
                  clear HJJ hp HP2 HQ2 hm' h0 a1 a2 a3
                  go_wp2_with fail
                  refine Lx.region (C := fun _ => True) (hs := []) (by kernel_rfl) (by kernel_rfl) trivial ?_
                  repeat' (first
                    | (refine Lx.lex_no (Lx.n1 rfl rfl rfl (by with_reducible rfl)) (fun K hK => ?_); go_simp; skip; refine hK _ ?_; clear hK K)
                    | (refine Lx.lex_no (Lx.n0 rfl rfl rfl (by with_reducible rfl)) (fun K hK => ?_); go_simp; skip; refine hK _ ?_; clear hK K)
                    | (refine Lx.lex_no (Lx.n2 rfl rfl rfl) (fun K hK => ?_); go_simp; skip; refine hK _ ?_; clear hK K)
                    | (refine Lx.lex_pure (v := ?_) rfl (by first | exact Lx.w0 rfl | exact Lx.w1 rfl rfl rfl (by with_reducible rfl)) ?_ (fun K hK => ?_); rotate_left 1; (intro w' hCw; (try dsimp only at hCw); go_simp; first | done | with_reducible rfl); go_simp; skip; refine hK _ ?_; clear hK K)
                    | (refine Lx.lex_read (v := ?_) rfl (by first | exact Lx.w0 rfl | exact Lx.w1 rfl rfl rfl (by with_reducible rfl)) ?_ (fun K hK => ?_); rotate_left 1; (go_simp; first | done | with_reducible rfl); go_simp; skip; refine hK _ ?_; clear hK K)
                    | (refine Lx.lex_eff rfl (by first | exact Lx.w0 rfl | exact Lx.w1 rfl rfl rfl (by with_reducible rfl)) (fun K hK => ?_); go_simp; (first | fail); refine hK _ _ (trivial) ?_; clear hK K))
                  all_goals (refine Lx.lex_nil ?_)
                  go_wp2_with fail
                  go_ret
                  exact ⟨ret_bool HV.out.symm, HBW.out _ HBi.out.drew⟩
                · have HN : Eqn (vbGo none ds) (vbIn (prevOf id chs (m + 1)) (chs.drop (m + 1)) && vbGo (prevOf Dom.st ds (k + 1)) (ds.drop (k + 1))) := by
                    rw [Eqn, HJJ.out, if_neg (by
                      rintro (h | h | h)
                      · exact a1 h
                      · exact a2 h
                      · rw [hp] at h; simp [notUp] at h; omega), HNX2.out]
                  have g3 : decide (x ≤ q) = false := decide_eq_false a3
                  clear HJJ hp HP2 HQ2 hm' h0 a1 a2 a3
                  go_wp2_with fail
                  refine Lx.region (C := fun _ => True) (hs := []) (by kernel_rfl) (by kernel_rfl) trivial ?_
                  repeat' (first
                    | (refine Lx.lex_no (Lx.n1 rfl rfl rfl (by with_reducible rfl)) (fun K hK => ?_); go_simp; skip; refine hK _ ?_; clear hK K)
                    | (refine Lx.lex_no (Lx.n0 rfl rfl rfl (by with_reducible rfl)) (fun K hK => ?_); go_simp; skip; refine hK _ ?_; clear hK K)
                    | (refine Lx.lex_no (Lx.n2 rfl rfl rfl) (fun K hK => ?_); go_simp; skip; refine hK _ ?_; clear hK K)
                    | (refine Lx.lex_pure (v := ?_) rfl (by first | exact Lx.w0 rfl | exact Lx.w1 rfl rfl rfl (by with_reducible rfl)) ?_ (fun K hK => ?_); rotate_left 1; (intro w' hCw; (try dsimp only at hCw); go_simp; first | done | with_reducible rfl); go_simp; skip; refine hK _ ?_; clear hK K)
                    | (refine Lx.lex_read (v := ?_) rfl (by first | exact Lx.w0 rfl | exact Lx.w1 rfl rfl rfl (by with_reducible rfl)) ?_ (fun K hK => ?_); rotate_left 1; (go_simp; first | done | with_reducible rfl); go_simp; skip; refine hK _ ?_; clear hK K)
                    | (refine Lx.lex_eff rfl (by first | exact Lx.w0 rfl | exact Lx.w1 rfl rfl rfl (by with_reducible rfl)) (fun K hK => ?_); go_simp; (first | fail); refine hK _ _ (trivial) ?_; clear hK K))
                  all_goals (refine Lx.lex_nil ?_)
                  go_wp2_with fail
                  go_roundw
                  case rel => exact ⟨m + 1, by omega, by go_num, HN, HBi.out.drew⟩
                  case measure => simp [intOf]; omega
              · have hp : prevOf id chs m = none := by unfold prevOf; rw [if_pos (by omega)]
                have HN : Eqn (vbGo none ds) (vbIn (prevOf id chs (m + 1)) (chs.drop (m + 1)) && vbGo (prevOf Dom.st ds (k + 1)) (ds.drop (k + 1))) := by
                  rw [Eqn, HJJ.out, if_neg (by
                    rintro (h | h | h)
                    · exact a1 h
                    · exact a2 h
                    · rw [hp] at h; cases h), HNX2.out]
                have k1' : decide ((0 : Int) < (m : Int)) = false := decide_eq_false (by omega)
                have k5' : decide (0 < m) = false := decide_eq_false h0
                clear HJJ hp HP2 HQ2 h0 a1 a2
                go_wp2_with fail
                refine Lx.region (C := fun _ => True) (hs := []) (by kernel_rfl) (by kernel_rfl) trivial ?_
                repeat' (first
                  | (refine Lx.lex_no (Lx.n1 rfl rfl rfl (by with_reducible rfl)) (fun K hK => ?_); go_simp; skip; refine hK _ ?_; clear hK K)
                  | (refine Lx.lex_no (Lx.n0 rfl rfl rfl (by with_reducible rfl)) (fun K hK => ?_); go_simp; skip; refine hK _ ?_; clear hK K)
                  | (refine Lx.lex_no (Lx.n2 rfl rfl rfl) (fun K hK => ?_); go_simp; skip; refine hK _ ?_; clear hK K)
                  | (refine Lx.lex_pure (v := ?_) rfl (by first | exact Lx.w0 rfl | exact Lx.w1 rfl rfl rfl (by with_reducible rfl)) ?_ (fun K hK => ?_); rotate_left 1; (intro w' hCw; (try dsimp only at hCw); go_simp; first | done | with_reducible rfl); go_simp; skip; refine hK _ ?_; clear hK K)
                  | (refine Lx.lex_read (v := ?_) rfl (by first | exact Lx.w0 rfl | exact Lx.w1 rfl rfl rfl (by with_reducible rfl)) ?_ (fun K hK => ?_); rotate_left 1; (go_simp; first | done | with_reducible rfl); go_simp; skip; refine hK _ ?_; clear hK K)
                  | (refine Lx.lex_eff rfl (by first | exact Lx.w0 rfl | exact Lx.w1 rfl rfl rfl (by with_reducible rfl)) (fun K hK => ?_); go_simp; (first | fail); refine hK _ _ (trivial) ?_; clear hK K))
                all_goals (refine Lx.lex_nil ?_)
                go_wp2_with fail
                go_roundw
                case rel => exact ⟨m + 1, by omega, by go_num, HN, HBi.out.drew⟩
                case measure => simp [intOf]; omega
            · obtain rfl : m = len := by omega
              have HN : Eqn (vbGo none ds) (vbGo (prevOf Dom.st ds (k + 1)) (ds.drop (k + 1))) := by rw [Eqn, HJ.out, drop_end (by rw [HCL.out]; omega)]; simp [vbIn]
              clear HJ hBi
              go_wp2_with fail
              clear c1
              go_roundw
              case rel => exact ⟨k + 1, by omega, by go_num, HN, HBW.out _ HBi.out⟩
              case measure => simp [intOf]; omega
      · have hup : notUp (prevOf Dom.st ds k) st = false := by unfold prevOf; rw [if_pos (by omega)]; rfl
        have k1 : decide ((0 : Int) < (k : Int)) = false := decide_eq_false (by omega)
        have k5 : decide (0 < k) = false := decide_eq_false h0
        clear h0 b1 b2 HQ
        by_cases hl0 : len < 1
        · have HV : Eqn (vbGo none ds) false := HRR.out.trans (if_pos (.inr (.inr (.inr (by have := HCL.out; exact List.eq_nil_of_length_eq_zero (by omega))))))
          have hd6 : decide ((len : Int) < 1) = true := decide_eq_true (by omega)
          clear HRR hINNER HP
          go_wp2_with fail
          refine Lx.region (C := fun _ => True) (hs := []) (by kernel_rfl) (by kernel_rfl) trivial ?_
          repeat' (first
            | (refine Lx.lex_no (Lx.n1 rfl rfl rfl (by with_reducible rfl)) (fun K hK => ?_); go_simp; skip; refine hK _ ?_; clear hK K)
            | (refine Lx.lex_no (Lx.n0 rfl rfl rfl (by with_reducible rfl)) (fun K hK => ?_); go_simp; skip; refine hK _ ?_; clear hK K)
            | (refine Lx.lex_no (Lx.n2 rfl rfl rfl) (fun K hK => ?_); go_simp; skip; refine hK _ ?_; clear hK K)
            | (refine Lx.lex_pure (v := ?_) rfl (by first | exact Lx.w0 rfl | exact Lx.w1 rfl rfl rfl (by with_reducible rfl)) ?_ (fun K hK => ?_); rotate_left 1; (intro w' hCw; (try dsimp only at hCw); go_simp; first | done | with_reducible rfl); go_simp; skip; refine hK _ ?_; clear hK K)
            | (refine Lx.lex_read (v := ?_) rfl (by first | exact Lx.w0 rfl | exact Lx.w1 rfl rfl rfl (by with_reducible rfl)) ?_ (fun K hK => ?_); rotate_left 1; (go_simp; first | done | with_reducible rfl); go_simp; skip; refine hK _ ?_; clear hK K)
            | (refine Lx.lex_eff rfl (by first | exact Lx.w0 rfl | exact Lx.w1 rfl rfl rfl (by with_reducible rfl)) (fun K hK => ?_); go_simp; (first | fail); refine hK _ _ (trivial) ?_; clear hK K))
          all_goals (refine Lx.lex_nil ?_)
          go_wp2_with fail
          go_ret
          exact ⟨ret_bool HV.out.symm, HB.out.drew⟩
        have hd6 : decide ((len : Int) < 1) = false := decide_eq_false (by omega)
        have HI : Eqn (vbGo none ds) (vbIn (prevOf id chs 0) (chs.drop 0) && vbGo (prevOf Dom.st ds (k + 1)) (ds.drop (k + 1))) := hINNER.out (by omega) hup
        clear HRR hINNER HP hup
        go_wp2_with fail
        refine Lx.region (C := fun _ => True) (hs := []) (by kernel_rfl) (by kernel_rfl) trivial ?_
        repeat' (first
          | (refine Lx.lex_no (Lx.n1 rfl rfl rfl (by with_reducible rfl)) (fun K hK => ?_); go_simp; skip; refine hK _ ?_; clear hK K)
          | (refine Lx.lex_no (Lx.n0 rfl rfl rfl (by with_reducible rfl)) (fun K hK => ?_); go_simp; skip; refine hK _ ?_; clear hK K)
          | (refine Lx.lex_no (Lx.n2 rfl rfl rfl) (fun K hK => ?_); go_simp; skip; refine hK _ ?_; clear hK K)
          | (refine Lx.lex_pure (v := ?_) rfl (by first | exact Lx.w0 rfl | exact Lx.w1 rfl rfl rfl (by with_reducible rfl)) ?_ (fun K hK => ?_); rotate_left 1; (intro w' hCw; (try dsimp only at hCw); go_simp; first | done | with_reducible rfl); go_simp; skip; refine hK _ ?_; clear hK K)
          | (refine Lx.lex_read (v := ?_) rfl (by first | exact Lx.w0 rfl | exact Lx.w1 rfl rfl rfl (by with_reducible rfl)) ?_ (fun K hK => ?_); rotate_left 1; (go_simp; first | done | with_reducible rfl); go_simp; skip; refine hK _ ?_; clear hK K)
          | (refine Lx.lex_eff rfl (by first | exact Lx.w0 rfl | exact Lx.w1 rfl rfl rfl (by with_reducible rfl)) (fun K hK => ?_); go_simp; (first | fail); refine hK _ _ (trivial) ?_; clear hK K))
        all_goals (refine Lx.lex_nil ?_)
        have HB1 : Hid (Below w.heap.size w wo.drew) := Lib.hid HB.out.drew
        have HBW : Hid (∀ W, Below wo.heap.size wo W → Below w.heap.size w W) := Lib.hid (fun W h => HB.out.trans (h.mono hbs))
        have HCC : Hid (∀ W, Below wo.heap.size wo W → W.cell? ⟨b, off + k * 2 + 1, none⟩ = some (.slice adr len cap)) := Lib.hid (fun W h => (h.cell (p := ⟨b, off + k * 2 + 1, none⟩) hbw).trans c1)
        have HRW : Hid (∀ W, Below wo.heap.size wo W → Row1 intV W wo.heap.size adr len chs) := Lib.hid (fun W h => HROW.out.below h)
        clear c0
        go_wp2_with fail
        clear c1
        go_loopw [4] (fun i wr => ∃ m : Nat, m ≤ len ∧ i = .int .i64 m ∧ Eqn (vbGo none ds) (vbIn (prevOf id chs m) (chs.drop m) && vbGo (prevOf Dom.st ds (k + 1)) (ds.drop (k + 1))) ∧ Below wo.heap.size wo wr) (fun i _ => len - (intOf i).toNat)
        case atStart => exact ⟨0, Nat.zero_le _, rfl, HI, (Below.refl _ _).drew⟩
        case round =>
          clear HI
          obtain ⟨m, hm, rfl, HJ, hBi⟩ := hrel
          have c1 := HCC.out _ hBi
          have his := hBi.size
          have hbw2 : b < wr.heap.size := by omega
          have HBi := Lib.hid hBi
          by_cases hml : m < len
          · obtain ⟨x, hx, hxd⟩ := drop_at (xs := chs) (k := m) (by rw [HCL.out]; exact hml)
            obtain ⟨b2, off2, hA2, hbl2, hc2⟩ := (HRW.out _ hBi).2 (by omega)
            subst hA2
            have x0 := hc2 m x hx
            simp only [intV] at x0
            have HJ2 := HJ.out
            rw [hxd, vbIn] at HJ2
            have hnx : prevOf id chs (m + 1) = some x := by rw [prevOf_succ, hx]; rfl
            obtain ⟨q, hq, hprev⟩ : ∃ q : Int, (0 < m → wr.cell? ⟨b2, off2 + (m - 1), none⟩ = some (.int .i64 q)) ∧ (0 < m → prevOf id chs m = some q) := by
              by_cases h0 : 0 < m
              · obtain ⟨q, hq, _⟩ := drop_at (xs := chs) (k := m - 1) (by rw [HCL.out]; omega)
                refine ⟨q, fun _ => ?_, fun _ => ?_⟩
                · have := hc2 (m - 1) q hq; simpa [intV] using this
                · unfold prevOf; rw [if_neg (by omega), hq]; rfl
              · exact ⟨0, fun h => absurd h h0, fun h => absurd h h0⟩
            have HNX2 := Eqn.mk hnx
            have HJJ := Eqn.mk HJ2
            have HQ2 := Lib.hid hq
            have HP2 := Lib.hid hprev
            have m0 : (m : Int) < (len : Int) := by omega
            have hbw3 : b2 < wr.heap.size := by omega
            clear hc2 hx hxd HJ HJ2 hnx hq hprev hBi
            by_cases a1 : x < 1
            · have HV : Eqn (vbGo none ds) false := by rw [Eqn, HJJ.out, if_pos (.inl a1)]; rfl
              have g1 : decide (x < 1) = true := decide_eq_true a1
              clear HJJ
              go_wp2_with fail
              refine Lx.region (C := fun _ => True) (hs := []) (by kernel_rfl) (by kernel_rfl) trivial ?_
              repeat' (first
                | (refine Lx.lex_no (Lx.n1 rfl rfl rfl (by with_reducible rfl)) (fun K hK => ?_); go_simp; skip; refine hK _ ?_; clear hK K)
                | (refine Lx.lex_no (Lx.n0 rfl rfl rfl (by with_reducible rfl)) (fun K hK => ?_); go_simp; skip; refine hK _ ?_; clear hK K)
                | (refine Lx.lex_no (Lx.n2 rfl rfl rfl) (fun K hK => ?_); go_simp; skip; refine hK _ ?_; clear hK K)
                | (refine Lx.lex_pure (v := ?_) rfl (by first | exact Lx.w0 rfl | exact Lx.w1 rfl rfl rfl (by with_reducible rfl)) ?_ (fun K hK => ?_); rotate_left 1; (intro w' hCw; (try dsimp only at hCw); go_simp; first | done | with_reducible rfl); go_simp; skip; refine hK _ ?_; clear hK K)
                | (refine Lx.lex_read (v := ?_) rfl (by first | exact Lx.w0 rfl | exact Lx.w1 rfl rfl rfl (by with_reducible rfl)) ?_ (fun K hK => ?_); rotate_left 1; (go_simp; first | done | with_reducible rfl); go_simp; skip; refine hK _ ?_; clear hK K)
                | (refine Lx.lex_eff rfl (by first | exact Lx.w0 rfl | exact Lx.w1 rfl rfl rfl (by with_reducible rfl)) (fun K hK => ?_); go_simp; (first | fail); refine hK _ _ (trivial) ?_; clear hK K))
              all_goals (refine Lx.lex_nil ?_)
              go_wp2_with fail
              go_ret
              exact ⟨ret_bool HV.out.symm, HBW.out _ HBi.out.drew⟩
            by_cases a2 : 3 < x
            · have HV : Eqn (vbGo none ds) false := by rw [Eqn, HJJ.out, if_pos (.inr (.inl a2))]; rfl
              have g1 : decide (x < 1) = false := decide_eq_false a1
              have g2 : decide (3 < x) = true := decide_eq_true a2
              clear HJJ a1
              go_wp2_with fail
              refine Lx.region (C := fun _ => True) (hs := []) (by kernel_rfl) (by kernel_rfl) trivial ?_
              repeat' (first
                | (refine Lx.lex_no (Lx.n1 rfl rfl rfl (by with_reducible rfl)) (fun K hK => ?_); go_simp; skip; refine hK _ ?_; clear hK K)
                | (refine Lx.lex_no (Lx.n0 rfl rfl rfl (by with_reducible rfl)) (fun K hK => ?_); go_simp; skip; refine hK _ ?_; clear hK K)
                | (refine Lx.lex_no (Lx.n2 rfl rfl rfl) (fun K hK => ?_); go_simp; skip; refine hK _ ?_; clear hK K)
                | (refine Lx.lex_pure (v := ?_) rfl (by first | exact Lx.w0 rfl | exact Lx.w1 rfl rfl rfl (by with_reducible rfl)) ?_ (fun K hK => ?_); rotate_left 1; (intro w' hCw; (try dsimp only at hCw); go_simp; first | done | with_reducible rfl); go_simp; skip; refine hK _ ?_; clear hK K)
                | (refine Lx.lex_read (v := ?_) rfl (by first | exact Lx.w0 rfl | exact Lx.w1 rfl rfl rfl (by with_reducible rfl)) ?_ (fun K hK => ?_); rotate_left 1; (go_simp; first | done | with_reducible rfl); go_simp; skip; refine hK _ ?_; clear hK K)
                | (refine Lx.lex_eff rfl (by first | exact Lx.w0 rfl | exact Lx.w1 rfl rfl rfl (by with_reducible rfl)) (fun K hK => ?_); go_simp; (first | fail); refine hK _ _ (trivial) ?_; clear hK K))
              all_goals (refine Lx.lex_nil ?_)
              go_wp2_with fail
              go_ret
              exact ⟨ret_bool HV.out.symm, HBW.out _ HBi.out.drew⟩
            have g1 : decide (x < 1) = false := decide_eq_false a1
            have g2 : decide (3 < x) = false := decide_eq_false a2
            by_cases h0 : 0 < m
            · have hp := HP2.out h0
              have qc := HQ2.out h0
              have k1' : decide ((0 : Int) < (m : Int)) = true := decide_eq_true (by omega)
              have k5' : decide (0 < m) = true := decide_eq_true h0
              obtain ⟨m', hm'⟩ : ∃ m', m - 1 = m' := ⟨_, rfl⟩
              have s1 : IntKind.i64.wrap ((m : Int) - 1) = (m' : Int) := by rw [IntWalk.i64_in _ (by omega)]; omega
              have s3 : (m : Int) - 1 = (m' : Int) := by omega
              have s9 : IntKind.i64.wrap (m' : Int) = (m' : Int) := by rw [IntWalk.i64_in _ (by omega)]
              have s4 : (0 : Int) ≤ (m' : Int) := by omega
              have s5 : (m' : Int) < (len : Int) := by omega
              rw [hm'] at qc
              by_cases a3 : x ≤ q
              · have HV : Eqn (vbGo none ds) false := by rw [Eqn, HJJ.out, if_pos (.inr (.inr (by rw [hp]; simpa [notUp] using a3)))]; rfl
                have g3 : decide (x ≤ q) = true := decide_eq_true a3
                clear HJJ hp HP2 HQ2 hm' h0 a1 a2 a3
                go_wp2_with fail
                refine Lx.region (C := fun _ => True) (hs := []) (by kernel_rfl) (by kernel_rfl) trivial ?_
                repeat' (first
                  | (refine Lx.lex_no (Lx.n1 rfl rfl rfl (by with_reducible rfl)) (fun K hK => ?_); go_simp; skip; refine hK _ ?_; clear hK K)
                  | (refine Lx.lex_no (Lx.n0 rfl rfl rfl (by with_reducible rfl)) (fun K hK => ?_); go_simp; skip; refine hK _ ?_; clear hK K)
                  | (refine Lx.lex_no (Lx.n2 rfl rfl rfl) (fun K hK => ?_); go_simp; skip; refine hK _ ?_; clear hK K)
                  | (refine Lx.lex_pure (v := ?_) rfl (by first | exact Lx.w0 rfl | exact Lx.w1 rfl rfl rfl (by with_reducible rfl)) ?_ (fun K hK => ?_); rotate_left 1; (intro w' hCw; (try dsimp only at hCw); go_simp; first | done | with_reducible rfl); go_simp; skip; refine hK _ ?_; clear hK K)
                  | (refine Lx.lex_read (v := ?_) rfl (by first | exact Lx.w0 rfl | exact Lx.w1 rfl rfl rfl (by with_reducible rfl)) ?_ (fun K hK => ?_); rotate_left 1; (go_simp; first | done | with_reducible rfl); go_simp; skip; refine hK _ ?_; clear hK K)
                  | (refine Lx.lex_eff rfl (by first | exact Lx.w0 rfl | exact Lx.w1 rfl rfl rfl (by with_reducible rfl)) (fun K hK => ?_); go_simp; (first | fail); refine hK _ _ (trivial) ?_; clear hK K))
                all_goals (refine Lx.lex_nil ?_)
                go_wp2_with fail
                go_ret
                exact ⟨ret_bool HV.out.symm, HBW.out _ HBi.out.drew⟩
              · have HN : Eqn (vbGo none ds) (vbIn (prevOf id chs (m + 1)) (chs.drop (m + 1)) && vbGo (prevOf Dom.st ds (k + 1)) (ds.drop (k + 1))) := by
                  rw [Eqn, HJJ.out, if_neg (by
                    rintro (h | h | h)
                    · exact a1 h
                    · exact a2 h
                    · rw [hp] at h; simp [notUp] at h; omega), HNX2.out]
                have g3 : decide (x ≤ q) = false := decide_eq_false a3
                clear HJJ hp HP2 HQ2 hm' h0 a1 a2 a3
                go_wp2_with fail
                refine Lx.region (C := fun _ => True) (hs := []) (by kernel_rfl) (by kernel_rfl) trivial ?_
                repeat' (first
                  | (refine Lx.lex_no (Lx.n1 rfl rfl rfl (by with_reducible rfl)) (fun K hK => ?_); go_simp; skip; refine hK _ ?_; clear hK K)
                  | (refine Lx.lex_no (Lx.n0 rfl rfl rfl (by with_reducible rfl)) (fun K hK => ?_); go_simp; skip; refine hK _ ?_; clear hK K)
                  | (refine Lx.lex_no (Lx.n2 rfl rfl rfl) (fun K hK => ?_); go_simp; skip; refine hK _ ?_; clear hK K)
                  | (refine Lx.lex_pure (v := ?_) rfl (by first | exact Lx.w0 rfl | exact Lx.w1 rfl rfl rfl (by with_reducible rfl)) ?_ (fun K hK => ?_); rotate_left 1; (intro w' hCw; (try dsimp only at hCw); go_simp; first | done | with_reducible rfl); go_simp; skip; refine hK _ ?_; clear hK K)
                  | (refine Lx.lex_read (v := ?_) rfl (by first | exact Lx.w0 rfl | exact Lx.w1 rfl rfl rfl (by with_reducible rfl)) ?_ (fun K hK => ?_); rotate_left 1; (go_simp; first | done | with_reducible rfl); go_simp; skip; refine hK _ ?_; clear hK K)
                  | (refine Lx.lex_eff rfl (by first | exact Lx.w0 rfl | exact Lx.w1 rfl rfl rfl (by with_reducible rfl)) (fun K hK => ?_); go_simp; (first | fail); refine hK _ _ (trivial) ?_; clear hK K))
                all_goals (refine Lx.lex_nil ?_)
                go_wp2_with fail
                go_roundw
                case rel => exact ⟨m + 1, by omega, by go_num, HN, HBi.out.drew⟩
                case measure => simp [intOf]; omega
            · have hp : prevOf id chs m = none := by unfold prevOf; rw [if_pos (by omega)]
              have HN : Eqn (vbGo none ds) (vbIn (prevOf id chs (m + 1)) (chs.drop (m + 1)) && vbGo (prevOf Dom.st ds (k + 1)) (ds.drop (k + 1))) := by
                rw [Eqn, HJJ.out, if_neg (by
                  rintro (h | h | h)
                  · exact a1 h
                  · exact a2 h
                  · rw [hp] at h; cases h), HNX2.out]
              have k1' : decide ((0 : Int) < (m : Int)) = false := decide_eq_false (by omega)
              have k5' : decide (0 < m) = false := decide_eq_false h0
              clear HJJ hp HP2 HQ2 h0 a1 a2
              go_wp2_with fail
              refine Lx.region (C := fun _ => True) (hs := []) (by kernel_rfl) (by kernel_rfl) trivial ?_
              repeat' (first
                | (refine Lx.lex_no (Lx.n1 rfl rfl rfl (by with_reducible rfl)) (fun K hK => ?_); go_simp; skip; refine hK _ ?_; clear hK K)
                | (refine Lx.lex_no (Lx.n0 rfl rfl rfl (by with_reducible rfl)) (fun K hK => ?_); go_simp; skip; refine hK _ ?_; clear hK K)
                | (refine Lx.lex_no (Lx.n2 rfl rfl rfl) (fun K hK => ?_); go_simp; skip; refine hK _ ?_; clear hK K)
                | (refine Lx.lex_pure (v := ?_) rfl (by first | exact Lx.w0 rfl | exact Lx.w1 rfl rfl rfl (by with_reducible rfl)) ?_ (fun K hK => ?_); rotate_left 1; (intro w' hCw; (try dsimp only at hCw); go_simp; first | done | with_reducible rfl); go_simp; skip; refine hK _ ?_; clear hK K)
                | (refine Lx.lex_read (v := ?_) rfl (by first | exact Lx.w0 rfl | exact Lx.w1 rfl rfl rfl (by with_reducible rfl)) ?_ (fun K hK => ?_); rotate_left 1; (go_simp; first | done | with_reducible rfl); go_simp; skip; refine hK _ ?_; clear hK K)
                | (refine Lx.lex_eff rfl (by first | exact Lx.w0 rfl | exact Lx.w1 rfl rfl rfl (by with_reducible rfl)) (fun K hK => ?_); go_simp; (first | fail); refine hK _ _ (trivial) ?_; clear hK K))
              all_goals (refine Lx.lex_nil ?_)
              go_wp2_with fail
              go_roundw
              case rel => exact ⟨m + 1, by omega, by go_num, HN, HBi.out.drew⟩
              case measure => simp [intOf]; omega
          · obtain rfl : m = len := by omega
            have HN : Eqn (vbGo none ds) (vbGo (prevOf Dom.st ds (k + 1)) (ds.drop (k + 1))) := by rw [Eqn, HJ.out, drop_end (by rw [HCL.out]; omega)]; simp [vbIn]
            clear HJ hBi
            go_wp2_with fail
            clear c1
            go_roundw
            case rel => exact ⟨k + 1, by omega, by go_num, HN, HBW.out _ HBi.out⟩
            case measure => simp [intOf]; omega
    · obtain rfl : k = n := by omega
      clear hB
      go_wp2_with fail
      go_ret
      refine ⟨ret_bool ?_, HB.out⟩
      rw [HR.out, drop_end (by rw [Hlen.out]; omega)]
      rfl
end Go.Proofs.YtpdhelhngdeoeaaDoor
