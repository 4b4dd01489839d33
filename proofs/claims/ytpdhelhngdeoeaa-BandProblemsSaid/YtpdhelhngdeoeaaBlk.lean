/- Contracts of band.blocks, band.Valid and band.Blocks: the table of targets. -/
import Derived.Test.YtpdhelhngdeoeaaAny
import Derived.Test.YtpdhelhngdeoeaaMapI
import Derived.Test.YtpdhelhngdeoeaaLex
import Derived.Test.YtpdhelhngdeoeaaProg
import Derived.KernelRfl
namespace Go.Proofs.Ytpdhelhngdeoeaa
open Go.RowKit

def encT (k : Int) : Value := .agg #[.int .i64 k]

theorem target_eq (w : World) (a a' : Int) : (Op.equal 32 (.agg #[.int .i64 a]) (.agg #[.int .i64 a'])).run Try.prog w = .ok (decide (a = a')) w := by
  have h1 : Try.prog.stoodInHeld 32 = false := by kernel_rfl
  have h2 : Try.prog.underlying 32 = some (.struct (Try.prog.fieldsOf 32)) := by simp only [Program.fieldsOf, Try.underlying32]
  have h3 : ∀ w' x, (part 3 #[.int .i64 x] 0).run Try.prog w' = .ok (.int .i64 x) w' := fun _ _ => by kernel_rfl
  rw [Op.equal, Op.maxDepth, run_equalIn_agg w 9999 _ _ _ h2 h1]
  simp only [Program.fieldsOf, Try.underlying32, Op.eqFields]
  simp [Sem.run_bind, h3, run_equalIn_int (P := Try.prog) _ 9998 3 .i64 .i64 _ _ Try.underlying3]
  by_cases ha : a = a' <;> simp [ha]

theorem target_ok : KeyOk Try.prog 32 encT where
  under := ⟨_, Try.underlying32, fun _ _ => rfl⟩
  check := by intro w em x; kernel_rfl
  eq := by
    intro w a a'
    rw [encT, encT, target_eq]
  same := by
    intro a
    simp [encT, Instr.sameBits]

/-- the table -/
def keyE : Nat → Int
  | 0 => 24 | 1 => 23 | 2 => 21 | 3 => 19 | 4 => 18 | 5 => 14 | 6 => 13 | 7 => 12 | 8 => 10 | 9 => 8 | _ => 7
def litF (S : Nat → Bool) (y : Int) : Option Value := (List.range 11).foldr (fun e acc => if y = keyE e ∧ S e = true then some (.int .i64 (12 - e)) else acc) none

theorem litF_congr (S S' : Nat → Bool) (h : ∀ e, e < 11 → S e = S' e) : litF S = litF S' := by
  funext y
  have key : ∀ L : List Nat, (∀ e ∈ L, e < 11) → L.foldr (fun e acc => if y = keyE e ∧ S e = true then some (Value.int .i64 (12 - e)) else acc) none = L.foldr (fun e acc => if y = keyE e ∧ S' e = true then some (Value.int .i64 (12 - e)) else acc) none := by
    intro L
    induction L with
    | nil => intro _; rfl
    | cons e L ih =>
      intro hL
      rw [List.foldr_cons, List.foldr_cons, ih (fun x hx => hL x (by simp [hx])), h e (hL e (by simp))]
  exact key _ (fun e he => List.mem_range.1 he)

theorem litF_none (S : Nat → Bool) (h : ∀ e, e < 11 → S e = false) : litF S = fun _ => none := by
  funext y
  simp [litF, List.range, List.range.loop, h]

theorem litF_put (S S' : Nat → Bool) (e : Nat) (he : e < 11) (h1 : S' e = true) (h2 : ∀ i, i ≠ e → S' i = S i) (y : Int) : litF S' y = if y = keyE e then some (.int .i64 (12 - e)) else litF S y := by
  have hb : ∀ i, i < 11 → S' i = if i = e then true else S i := fun i _ => by
    by_cases hi : i = e
    · rw [if_pos hi, hi, h1]
    · rw [if_neg hi, h2 i hi]
  simp only [litF, List.range, List.range.loop, List.foldr_cons, List.foldr_nil]
  rw [hb 0 (by omega), hb 1 (by omega), hb 2 (by omega), hb 3 (by omega), hb 4 (by omega), hb 5 (by omega), hb 6 (by omega), hb 7 (by omega), hb 8 (by omega), hb 9 (by omega), hb 10 (by omega)]
  by_cases hy : y = keyE e
  · subst hy
    match e, he with
    | 0, _ | 1, _ | 2, _ | 3, _ | 4, _ | 5, _ | 6, _ | 7, _ | 8, _ | 9, _ | 10, _ => simp [keyE]
  · match e, he with
    | 0, _ | 1, _ | 2, _ | 3, _ | 4, _ | 5, _ | 6, _ | 7, _ | 8, _ | 9, _ | 10, _ => simp [keyE] at hy ⊢; simp [hy]

/-- what is known while the table is laid -/
structure TabInv (w0 : World) (listed : Array Bool) (a : Act) (w : World) : Prop where
  sz : a.tmps.size = 14
  df : a.defers = []
  bl : Below w0.heap.size w0 w
  m0 : listed.getD 0 false = false → w = w0
  ins : ∀ e, e < 11 → listed.getD (2 + 2 * e) false = true → listed.getD 0 false = true
  m1 : listed.getD 0 false = true → a.tmps.getD 1 undef = .map (some w0.heap.size) ∧ MapF encT w w0.heap.size (litF fun e => listed.getD (2 + 2 * e) false)
  bd : ∀ e, e < 11 → listed.getD (1 + 2 * e) false = true → a.tmps.getD (2 + e) undef = encT (keyE e)
  no23 : listed.getD 0 false = false → listed.getD 23 false = false
  no24 : listed.getD 0 false = false → listed.getD 24 false = false
  mv : listed.getD 23 false = true → a.tmps.getD 13 undef = .map (some w0.heap.size)
  asg : listed.getD 24 false = true → a.tmps.getD 0 undef = .map (some w0.heap.size)

theorem gset (listed : Array Bool) (j i : Nat) : (listed.setIfInBounds j true).getD i false = if i = j ∧ j < listed.size then true else listed.getD i false := by
  simp only [Array.getD_eq_getD_getElem?, Array.getElem?_setIfInBounds]
  by_cases h : j = i
  · subst h
    by_cases h2 : j < listed.size
    · simp [h2]
    · simp [h2]
  · rw [if_neg h, if_neg (fun hh => h hh.1.symm)]

theorem tset (ts : Array Value) (d i : Nat) (v : Value) : (ts.setIfInBounds d v).getD i undef = if i = d ∧ d < ts.size then v else ts.getD i undef := by
  simp only [Array.getD_eq_getD_getElem?, Array.getElem?_setIfInBounds]
  by_cases h : d = i
  · subst h
    by_cases h2 : d < ts.size
    · simp [h2]
    · simp [h2]
  · rw [if_neg h, if_neg (fun hh => h hh.1.symm)]

section
variable {w0 w : World} {listed : Array Bool} {a : Act}

/-- a value is put -/
theorem TabInv.put (h : TabInv w0 listed a w) (_ : listed.size = 25) (j d : Nat) (v : Value) (hz : j = 23 ∨ j = 24 → listed.getD 0 false = true)
    (hj : (j = 23 ∧ d = 13 ∧ v = .map (some w0.heap.size)) ∨ (j = 24 ∧ d = 0 ∧ v = .map (some w0.heap.size)) ∨ ∃ e, e < 11 ∧ j = 1 + 2 * e ∧ d = 2 + e ∧ v = encT (keyE e)) :
    TabInv w0 (listed.setIfInBounds j true) (a.put (some d) v) w := by
  have hj0 : ¬ j = 0 := by rcases hj with h | h | ⟨e, h⟩ <;> omega
  have hji : ∀ e, e < 11 → ¬ 2 + 2 * e = j := by intro e he; rcases hj with h | h | ⟨e', h⟩ <;> omega
  have hd1 : ¬ 1 = d := by rcases hj with h | h | ⟨e, h⟩ <;> omega
  have g0 : (listed.setIfInBounds j true).getD 0 false = listed.getD 0 false := by rw [gset, if_neg (by omega)]
  have gi : ∀ e, e < 11 → (listed.setIfInBounds j true).getD (2 + 2 * e) false = listed.getD (2 + 2 * e) false := by
    intro e he; rw [gset, if_neg (by have := hji e he; omega)]
  have hsz : (a.put (some d) v).tmps.size = 14 := by simp [Act.put, h.sz]
  have ht : ∀ i, (a.put (some d) v).tmps.getD i undef = if i = d ∧ d < a.tmps.size then v else a.tmps.getD i undef := fun i => tset _ _ _ _
  have hdl : d < a.tmps.size := by rw [h.sz]; rcases hj with h | h | ⟨e, h⟩ <;> omega
  refine ⟨hsz, h.df, h.bl, fun hh => h.m0 (by rw [← g0]; exact hh), fun e he hh => ?_, fun hh => ?_, fun e he hh => ?_, fun hh => ?_, fun hh => ?_, fun hh => ?_, fun hh => ?_⟩
  · rw [g0]; exact h.ins e he (by rw [← gi e he]; exact hh)
  · obtain ⟨h1, h2⟩ := h.m1 (by rw [← g0]; exact hh)
    refine ⟨by rw [ht, if_neg (by omega)]; exact h1, ?_⟩
    have : litF (fun e => (listed.setIfInBounds j true).getD (2 + 2 * e) false) = litF (fun e => listed.getD (2 + 2 * e) false) := litF_congr _ _ gi
    rw [this]
    exact h2
  · rw [gset] at hh
    rw [ht]
    rcases hj with ⟨rfl, rfl, rfl⟩ | ⟨rfl, rfl, rfl⟩ | ⟨e', he', rfl, rfl, rfl⟩
    · rw [if_neg (by omega)] at hh
      rw [if_neg (by omega)]
      exact h.bd e he hh
    · rw [if_neg (by omega)] at hh
      rw [if_neg (by omega)]
      exact h.bd e he hh
    · by_cases hee : e = e'
      · subst hee; rw [if_pos ⟨rfl, hdl⟩]
      · rw [if_neg (by omega)] at hh
        rw [if_neg (by omega)]
        exact h.bd e he hh
  · rw [g0] at hh
    rw [gset, if_neg (fun hc => by have := hz (by omega); rw [hh] at this; cases this)]; exact h.no23 hh
  · rw [g0] at hh
    rw [gset, if_neg (fun hc => by have := hz (by omega); rw [hh] at this; cases this)]; exact h.no24 hh
  · rw [gset] at hh
    rw [ht]
    rcases hj with ⟨rfl, rfl, rfl⟩ | ⟨rfl, rfl, rfl⟩ | ⟨e', he', rfl, rfl, rfl⟩
    · rw [if_pos ⟨rfl, hdl⟩]
    · rw [if_neg (by omega)] at hh; rw [if_neg (by omega)]; exact h.mv hh
    · rw [if_neg (by omega)] at hh
      by_cases hd : 13 = 2 + e'
      · omega
      · rw [if_neg (by omega)]; exact h.mv hh
  · rw [gset] at hh
    rw [ht]
    rcases hj with ⟨rfl, rfl, rfl⟩ | ⟨rfl, rfl, rfl⟩ | ⟨e', he', rfl, rfl, rfl⟩
    · rw [if_neg (by omega)] at hh; rw [if_neg (by omega)]; exact h.asg hh
    · rw [if_pos ⟨rfl, hdl⟩]
    · rw [if_neg (by omega)] at hh; rw [if_neg (by omega)]; exact h.asg hh

/-- the map is made -/
theorem TabInv.made (h : TabInv w0 listed a w) (hs : listed.size = 25) (h0 : listed.getD 0 false = false) (h23 : listed.getD 23 false = false) (h24 : listed.getD 24 false = false) :
    TabInv w0 (listed.setIfInBounds 0 true) (a.put (some 1) (.map (some w.heap.size))) (w.alloc (.map #[] 0)) := by
  obtain rfl := h.m0 h0
  have hsz : (a.put (some 1) (.map (some w.heap.size))).tmps.size = 14 := by simp [Act.put, h.sz]
  have ht : ∀ i, (a.put (some 1) (.map (some w.heap.size))).tmps.getD i undef = if i = 1 ∧ 1 < a.tmps.size then .map (some w.heap.size) else a.tmps.getD i undef := fun i => tset _ _ _ _
  have hno : ∀ e, e < 11 → listed.getD (2 + 2 * e) false = false := by
    intro e he
    cases hh : listed.getD (2 + 2 * e) false with
    | false => rfl
    | true => have := h.ins e he hh; rw [h0] at this; cases this
  refine ⟨hsz, h.df, (Below.refl _ _).alloc (Nat.le_refl _) _, fun hh => ?_, fun e he hh => ?_, fun hh => ?_, fun e he hh => ?_, fun hh => (by rw [gset, if_pos ⟨rfl, by omega⟩] at hh; cases hh), fun hh => (by rw [gset, if_pos ⟨rfl, by omega⟩] at hh; cases hh), fun hh => ?_, fun hh => ?_⟩
  · rw [gset, if_pos ⟨rfl, by omega⟩] at hh; cases hh
  · rw [gset, if_pos ⟨rfl, by omega⟩]
  · refine ⟨by rw [ht, if_pos ⟨rfl, by rw [h.sz]; omega⟩], ?_⟩
    rw [litF_none _ (fun e he => by rw [gset, if_neg (by omega)]; exact hno e he)]
    exact MapF.made encT w
  · rw [gset, if_neg (by omega)] at hh; rw [ht, if_neg (by omega)]; exact h.bd e he hh
  · rw [gset, if_neg (by omega), h23] at hh; cases hh
  · rw [gset, if_neg (by omega), h24] at hh; cases hh

/-- an entry is laid -/
theorem TabInv.entry (h : TabInv w0 listed a w) (hs : listed.size = 25) (e : Nat) (he : e < 11) (h0 : listed.getD 0 false = true) (hb : listed.getD (1 + 2 * e) false = true) :
    ∃ w', (Instr.mapUpdate 73 (a.tmps.getD 1 undef) (a.tmps.getD (2 + e) undef) (.int .i64 (12 - e))).run Try.prog w = .ok () w' ∧ TabInv w0 (listed.setIfInBounds (2 + 2 * e) true) a w' := by
  obtain ⟨h1, h2⟩ := h.m1 h0
  obtain ⟨w', hr, hm, hg⟩ := run_put (P := Try.prog) (et := 3) target_ok Try.underlying73 h2 (keyE e) (.int .i64 (12 - e))
  refine ⟨w', by rw [h1, h.bd e he hb]; exact hr, h.sz, h.df, h.bl.grown hg h.bl.size (fun g hg => by injection hg with hg; omega), fun hh => ?_, fun e' he' hh => ?_, fun hh => ⟨h1, ?_⟩, fun e' he' hh => ?_, fun hh => (by rw [gset, if_neg (by omega), h0] at hh; cases hh), fun hh => (by rw [gset, if_neg (by omega), h0] at hh; cases hh), fun hh => ?_, fun hh => ?_⟩
  · rw [gset, if_neg (by omega), h0] at hh; cases hh
  · rw [gset, if_neg (by omega)]; exact h0
  · have : litF (fun i => (listed.setIfInBounds (2 + 2 * e) true).getD (2 + 2 * i) false) = fun y => if y = keyE e then some (.int .i64 (12 - e)) else litF (fun i => listed.getD (2 + 2 * i) false) y := by
      funext y
      refine litF_put _ _ e he (by rw [gset, if_pos ⟨rfl, by omega⟩]) (fun i hi => ?_) y
      rw [gset, if_neg (by omega)]
    rw [this]
    exact hm
  · rw [gset, if_neg (by omega)] at hh; exact h.bd e' he' hh
  · rw [gset, if_neg (by omega)] at hh; exact h.mv hh
  · rw [gset, if_neg (by omega)] at hh; exact h.asg hh
end

theorem gd_false {listed : Array Bool} {j : Nat} (h : listed.getD j true = false) (hj : j < listed.size) : listed.getD j false = false := by
  simp only [Array.getD_eq_getD_getElem?, Array.getElem?_eq_getElem hj, Option.getD_some] at h ⊢
  exact h

def tabF (y : Int) : Option Value := litF (fun _ => true) y
/-- the number of blocks of a target, or 0 -/
def blkN (c : Int) : Int := (List.range 11).foldr (fun e acc => if c = keyE e then 12 - (e : Int) else acc) 0
theorem tabF_val (c : Int) : (tabF c).getD (.int .i64 0) = .int .i64 (blkN c) ∧ (tabF c).isSome = (blkN c != 0) := by
  by_cases h0 : c = 24
  · subst h0; exact ⟨rfl, rfl⟩
  by_cases h1 : c = 23
  · subst h1; exact ⟨rfl, rfl⟩
  by_cases h2 : c = 21
  · subst h2; exact ⟨rfl, rfl⟩
  by_cases h3 : c = 19
  · subst h3; exact ⟨rfl, rfl⟩
  by_cases h4 : c = 18
  · subst h4; exact ⟨rfl, rfl⟩
  by_cases h5 : c = 14
  · subst h5; exact ⟨rfl, rfl⟩
  by_cases h6 : c = 13
  · subst h6; exact ⟨rfl, rfl⟩
  by_cases h7 : c = 12
  · subst h7; exact ⟨rfl, rfl⟩
  by_cases h8 : c = 10
  · subst h8; exact ⟨rfl, rfl⟩
  by_cases h9 : c = 8
  · subst h9; exact ⟨rfl, rfl⟩
  by_cases h10 : c = 7
  · subst h10; exact ⟨rfl, rfl⟩
  have ht : tabF c = none := by simp [tabF, litF, List.range, List.range.loop, keyE, h0, h1, h2, h3, h4, h5, h6, h7, h8, h9, h10]
  have hb : blkN c = 0 := by simp [blkN, List.range, List.range.loop, keyE, h0, h1, h2, h3, h4, h5, h6, h7, h8, h9, h10]
  rw [ht, hb]; exact ⟨rfl, rfl⟩
theorem blkN_at (k : Nat) (hk : k < 11) : blkN (keyE k) = 12 - (k : Int) := by
  match k, hk with
  | 0, _ | 1, _ | 2, _ | 3, _ | 4, _ | 5, _ | 6, _ | 7, _ | 8, _ | 9, _ | 10, _ => rfl
theorem blkN_no (c : Int) (h : ∀ e, e < 11 → c ≠ keyE e) : blkN c = 0 := by
  simp only [blkN, List.range, List.range.loop, List.foldr_cons, List.foldr_nil]
  rw [if_neg (h 0 (by omega)), if_neg (h 1 (by omega)), if_neg (h 2 (by omega)), if_neg (h 3 (by omega)), if_neg (h 4 (by omega)), if_neg (h 5 (by omega)), if_neg (h 6 (by omega)), if_neg (h 7 (by omega)), if_neg (h 8 (by omega)), if_neg (h 9 (by omega)), if_neg (h 10 (by omega))]
theorem blkN_bd (c : Int) : 0 ≤ blkN c ∧ blkN c ≤ 12 := by
  simp only [blkN, List.range, List.range.loop, List.foldr_cons, List.foldr_nil]
  repeat' (split <;> try (constructor <;> decide))

def TabPost (w : World) (e : Ending) (w' : World) : Prop := ∃ g, e = .returned (.map (some g)) ∧ w.heap.size ≤ g ∧ MapF encT w' g tabF ∧ Below w.heap.size w w'

theorem wp_insert {K : Act → World → Prop} {Q : Exit → Act → World → Prop} {a : Act} {w w' : World} {t : TypeId} {m k x : Operand} {ty : TypeId} {pos : String} {af : Array Edge} (hr : (Instr.mapUpdate t (a.eval m) (a.eval k) (a.eval x)).run Try.prog w = .ok () w') (h : K a w') :
    (⟨none, .insert t m k x, ty, pos, af, none⟩ : Oper).wp Try.prog a w K Q := by
  unfold Oper.wp
  simp [execOp, hr, Result.andThen]
  exact h
theorem wp_value {K : Act → World → Prop} {Q : Exit → Act → World → Prop} {a : Act} {w : World} {o : Oper} {v : Value} (hr : (execOp a.eval o).run Try.prog w = .ok (.value v) w) (h : K (a.put o.dst v) w) : o.wp Try.prog a w K Q := by
  unfold Oper.wp
  rw [hr]
  exact h

set_option maxRecDepth 100000 in
set_option maxHeartbeats 4000000 in
theorem blocks_any (w : World) : Calls Try.prog 30 #[] w (TabPost w) := by
  go_enter Try.func30, Try.ntmps30
  go_wp2_with fail
  refine Ay.region (by kernel_rfl) (TabInv w.drew) ?_ ?_ ?_
  · have hz : ∀ i, (Array.replicate 25 false).getD i false = false := by
      intro i; simp only [Array.getD_eq_getD_getElem?, Array.getElem?_replicate]; split <;> rfl
    change TabInv w.drew (Array.replicate 25 false) _ _
    exact ⟨rfl, rfl, Below.refl _ _, fun _ => rfl, (fun e he hh => (by rw [hz] at hh; cases hh)), (fun hh => (by rw [hz] at hh; cases hh)), (fun e he hh => (by rw [hz] at hh; cases hh)), fun _ => hz 23, fun _ => hz 24, (fun hh => (by rw [hz] at hh; cases hh)), (fun hh => (by rw [hz] at hh; cases hh))⟩
  · intro listed a w1 hs hr hI
    have hs' : listed.size = 25 := hs
    have hall := Ay.all_listed hs (by kernel_rfl) hr
    have hT : litF (fun e => listed.getD (2 + 2 * e) false) = tabF := litF_congr _ _ fun e he => hall _ (show 2 + 2 * e < 25 by omega)
    have h24 := hI.asg (hall 24 (show 24 < 25 by omega))
    have hm := (hI.m1 (hall 0 (show 0 < 25 by omega))).2
    rw [hT] at hm
    obtain ⟨ts, df⟩ := a
    have hd0 : df = [] := hI.df
    subst hd0
    dsimp only at h24
    go_wp2_with fail
    go_ret
    dsimp only
    rw [h24]
    exact ⟨w.heap.size, rfl, Nat.le_refl _, hm, (Below.refl _ w).drew.trans hI.bl⟩
  · intro listed a w j o ho h1 h2 hs hI
    have hj : j < 25 := (Array.getElem?_eq_some_iff.1 ho).1
    have hs : listed.size = 25 := hs
    match j, hj with
    | 0, _ =>
      obtain rfl := Option.some.inj ho
      have h0 : listed.getD 0 false = false := gd_false h1 (by omega)
      have h23 : listed.getD 23 false = false := hI.no23 h0
      have h24 : listed.getD 24 false = false := hI.no24 h0
      exact ⟨rfl, hI.made hs h0 h23 h24⟩
    | 1, _ =>
      obtain rfl := Option.some.inj ho
      refine ⟨rfl, wp_value (v := encT (keyE 0)) (by kernel_rfl) ?_⟩
      exact hI.put hs 1 2 (encT (keyE 0)) (by omega) (.inr (.inr ⟨0, by omega, rfl, rfl, rfl⟩))
    | 2, _ =>
      obtain rfl := Option.some.inj ho
      obtain ⟨w', hr, hI'⟩ := hI.entry hs 0 (by omega) (h2 ⟨0, .data⟩ (by simp) rfl) (h2 ⟨1, .data⟩ (by simp) rfl)
      refine ⟨rfl, ?_⟩
      exact wp_insert hr hI'
    | 3, _ =>
      obtain rfl := Option.some.inj ho
      refine ⟨rfl, wp_value (v := encT (keyE 1)) (by kernel_rfl) ?_⟩
      exact hI.put hs 3 3 (encT (keyE 1)) (by omega) (.inr (.inr ⟨1, by omega, rfl, rfl, rfl⟩))
    | 4, _ =>
      obtain rfl := Option.some.inj ho
      obtain ⟨w', hr, hI'⟩ := hI.entry hs 1 (by omega) (h2 ⟨0, .data⟩ (by simp) rfl) (h2 ⟨3, .data⟩ (by simp) rfl)
      refine ⟨rfl, ?_⟩
      exact wp_insert hr hI'
    | 5, _ =>
      obtain rfl := Option.some.inj ho
      refine ⟨rfl, wp_value (v := encT (keyE 2)) (by kernel_rfl) ?_⟩
      exact hI.put hs 5 4 (encT (keyE 2)) (by omega) (.inr (.inr ⟨2, by omega, rfl, rfl, rfl⟩))
    | 6, _ =>
      obtain rfl := Option.some.inj ho
      obtain ⟨w', hr, hI'⟩ := hI.entry hs 2 (by omega) (h2 ⟨0, .data⟩ (by simp) rfl) (h2 ⟨5, .data⟩ (by simp) rfl)
      refine ⟨rfl, ?_⟩
      exact wp_insert hr hI'
    | 7, _ =>
      obtain rfl := Option.some.inj ho
      refine ⟨rfl, wp_value (v := encT (keyE 3)) (by kernel_rfl) ?_⟩
      exact hI.put hs 7 5 (encT (keyE 3)) (by omega) (.inr (.inr ⟨3, by omega, rfl, rfl, rfl⟩))
    | 8, _ =>
      obtain rfl := Option.some.inj ho
      obtain ⟨w', hr, hI'⟩ := hI.entry hs 3 (by omega) (h2 ⟨0, .data⟩ (by simp) rfl) (h2 ⟨7, .data⟩ (by simp) rfl)
      refine ⟨rfl, ?_⟩
      exact wp_insert hr hI'
    | 9, _ =>
      obtain rfl := Option.some.inj ho
      refine ⟨rfl, wp_value (v := encT (keyE 4)) (by kernel_rfl) ?_⟩
      exact hI.put hs 9 6 (encT (keyE 4)) (by omega) (.inr (.inr ⟨4, by omega, rfl, rfl, rfl⟩))
    | 10, _ =>
      obtain rfl := Option.some.inj ho
      obtain ⟨w', hr, hI'⟩ := hI.entry hs 4 (by omega) (h2 ⟨0, .data⟩ (by simp) rfl) (h2 ⟨9, .data⟩ (by simp) rfl)
      refine ⟨rfl, ?_⟩
      exact wp_insert hr hI'
    | 11, _ =>
      obtain rfl := Option.some.inj ho
      refine ⟨rfl, wp_value (v := encT (keyE 5)) (by kernel_rfl) ?_⟩
      exact hI.put hs 11 7 (encT (keyE 5)) (by omega) (.inr (.inr ⟨5, by omega, rfl, rfl, rfl⟩))
    | 12, _ =>
      obtain rfl := Option.some.inj ho
      obtain ⟨w', hr, hI'⟩ := hI.entry hs 5 (by omega) (h2 ⟨0, .data⟩ (by simp) rfl) (h2 ⟨11, .data⟩ (by simp) rfl)
      refine ⟨rfl, ?_⟩
      exact wp_insert hr hI'
    | 13, _ =>
      obtain rfl := Option.some.inj ho
      refine ⟨rfl, wp_value (v := encT (keyE 6)) (by kernel_rfl) ?_⟩
      exact hI.put hs 13 8 (encT (keyE 6)) (by omega) (.inr (.inr ⟨6, by omega, rfl, rfl, rfl⟩))
    | 14, _ =>
      obtain rfl := Option.some.inj ho
      obtain ⟨w', hr, hI'⟩ := hI.entry hs 6 (by omega) (h2 ⟨0, .data⟩ (by simp) rfl) (h2 ⟨13, .data⟩ (by simp) rfl)
      refine ⟨rfl, ?_⟩
      exact wp_insert hr hI'
    | 15, _ =>
      obtain rfl := Option.some.inj ho
      refine ⟨rfl, wp_value (v := encT (keyE 7)) (by kernel_rfl) ?_⟩
      exact hI.put hs 15 9 (encT (keyE 7)) (by omega) (.inr (.inr ⟨7, by omega, rfl, rfl, rfl⟩))
    | 16, _ =>
      obtain rfl := Option.some.inj ho
      obtain ⟨w', hr, hI'⟩ := hI.entry hs 7 (by omega) (h2 ⟨0, .data⟩ (by simp) rfl) (h2 ⟨15, .data⟩ (by simp) rfl)
      refine ⟨rfl, ?_⟩
      exact wp_insert hr hI'
    | 17, _ =>
      obtain rfl := Option.some.inj ho
      refine ⟨rfl, wp_value (v := encT (keyE 8)) (by kernel_rfl) ?_⟩
      exact hI.put hs 17 10 (encT (keyE 8)) (by omega) (.inr (.inr ⟨8, by omega, rfl, rfl, rfl⟩))
    | 18, _ =>
      obtain rfl := Option.some.inj ho
      obtain ⟨w', hr, hI'⟩ := hI.entry hs 8 (by omega) (h2 ⟨0, .data⟩ (by simp) rfl) (h2 ⟨17, .data⟩ (by simp) rfl)
      refine ⟨rfl, ?_⟩
      exact wp_insert hr hI'
    | 19, _ =>
      obtain rfl := Option.some.inj ho
      refine ⟨rfl, wp_value (v := encT (keyE 9)) (by kernel_rfl) ?_⟩
      exact hI.put hs 19 11 (encT (keyE 9)) (by omega) (.inr (.inr ⟨9, by omega, rfl, rfl, rfl⟩))
    | 20, _ =>
      obtain rfl := Option.some.inj ho
      obtain ⟨w', hr, hI'⟩ := hI.entry hs 9 (by omega) (h2 ⟨0, .data⟩ (by simp) rfl) (h2 ⟨19, .data⟩ (by simp) rfl)
      refine ⟨rfl, ?_⟩
      exact wp_insert hr hI'
    | 21, _ =>
      obtain rfl := Option.some.inj ho
      refine ⟨rfl, wp_value (v := encT (keyE 10)) (by kernel_rfl) ?_⟩
      exact hI.put hs 21 12 (encT (keyE 10)) (by omega) (.inr (.inr ⟨10, by omega, rfl, rfl, rfl⟩))
    | 22, _ =>
      obtain rfl := Option.some.inj ho
      obtain ⟨w', hr, hI'⟩ := hI.entry hs 10 (by omega) (h2 ⟨0, .data⟩ (by simp) rfl) (h2 ⟨21, .data⟩ (by simp) rfl)
      refine ⟨rfl, ?_⟩
      exact wp_insert hr hI'
    | 23, _ =>
      obtain rfl := Option.some.inj ho
      have h0 := h2 ⟨0, .data⟩ (by simp) rfl
      refine ⟨rfl, wp_value (v := a.tmps.getD 1 undef) (by simp [execOp, Act.eval]) ?_⟩
      exact hI.put hs 23 13 (a.tmps.getD 1 undef) (fun _ => h0) (.inl ⟨rfl, rfl, (hI.m1 h0).1⟩)
    | 24, _ =>
      obtain rfl := Option.some.inj ho
      have h0 := h2 ⟨23, .data⟩ (by simp) rfl
      have hz0 : listed.getD 0 false = true := by
        cases hq : listed.getD 0 false with
        | true => rfl
        | false => have := hI.no23 hq; rw [h0] at this; cases this
      refine ⟨rfl, wp_value (v := a.tmps.getD 13 undef) (by simp [execOp, Act.eval]) ?_⟩
      exact hI.put hs 24 0 (a.tmps.getD 13 undef) (fun _ => hz0) (.inr (.inl ⟨rfl, rfl, hI.mv h0⟩))

/-- band.Valid -/
def vldT (c : Int) : Bool := blkN c != 0
def blkF (c : Int) : Int × Int := if blkN c = 0 then (0, 2) else (blkN c, 0)

theorem bvalid_any (c : Int) (w : World) : Calls Try.prog 15 #[.agg #[.int .i64 c]] w fun e w' => e = .returned (.bool (vldT c)) ∧ Below w.heap.size w w' := by
  have hB : Hid (Below w.heap.size w (w.alloc (.cells #[.int .i64 c] 32)).drew) := ((Below.refl _ _).alloc (Nat.le_refl _) _).drew
  have HV := Eqn.mk (tabF_val c).1
  have HS := Eqn.mk (tabF_val c).2
  go_enter Try.func15, Try.ntmps15
  go_wp2_with fail
  refine Lx.region (C := fun w' => w'.cell? ⟨w.heap.size, 0, none⟩ = some (.int .i64 c)) (hs := [1]) (by kernel_rfl) (by kernel_rfl) (by go_simp) ?_
  repeat' (first
    | (refine Lx.lex_no (Lx.n1 rfl rfl rfl (by with_reducible rfl)) (fun K hK => ?_); go_simp; refine hK _ ?_; clear hK K)
    | (refine Lx.lex_no (Lx.n0 rfl rfl rfl (by with_reducible rfl)) (fun K hK => ?_); go_simp; refine hK _ ?_; clear hK K)
    | (refine Lx.lex_no (Lx.n2 rfl rfl rfl) (fun K hK => ?_); go_simp; refine hK _ ?_; clear hK K)
    | (refine Lx.lex_pure (v := ?_) rfl (by first | exact Lx.w0 rfl | exact Lx.w1 rfl rfl rfl (by with_reducible rfl)) ?_ (fun K hK => ?_); rotate_left 1; (intro w' hCw; (try dsimp only at hCw); go_simp; done); go_simp; refine hK _ ?_; clear hK K)
    | (refine Lx.lex_pure (v := ?_) rfl (by first | exact Lx.w0 rfl | exact Lx.w1 rfl rfl rfl (by with_reducible rfl)) ?_ (fun K hK => ?_); rotate_left 1; (intro w' hCw; (try dsimp only at hCw); go_simp; with_reducible rfl); go_simp; refine hK _ ?_; clear hK K)
    | (refine Lx.lex_read (v := ?_) rfl (by first | exact Lx.w0 rfl | exact Lx.w1 rfl rfl rfl (by with_reducible rfl)) ?_ (fun K hK => ?_); rotate_left 1; (go_simp; done); go_simp; refine hK _ ?_; clear hK K)
    | (refine Lx.lex_read (v := ?_) rfl (by first | exact Lx.w0 rfl | exact Lx.w1 rfl rfl rfl (by with_reducible rfl)) ?_ (fun K hK => ?_); rotate_left 1; (go_simp; with_reducible rfl); go_simp; refine hK _ ?_; clear hK K)
    | (refine Lx.lex_eff rfl (by first | exact Lx.w0 rfl | exact Lx.w1 rfl rfl rfl (by with_reducible rfl)) (fun K hK => ?_); go_simp; (first | (go_at_call 30; refine (blocks_any _).mono ?_; rintro e w1 ⟨g, rfl, hg, hm, hb1⟩; have q1 := hb1.cell (p := ⟨w.heap.size, 0, none⟩) (by simp); have hl := run_look_ok (P := Try.prog) (et := 3) target_ok Try.underlying73 hm (z := .int .i64 0) (by kernel_rfl) c; rw [HV.out, HS.out] at hl; simp only [encT] at hl) | skip); refine hK _ _ (by go_simp) ?_; clear hK K)
    | (refine Lx.lex_cases rfl rfl rfl (fun hgd K hK => ?_) (fun hgd K hK => ?_) <;> (try simp only [decide_eq_true_eq, decide_eq_false_iff_not] at hgd) <;> (first | (exfalso; omega) | (go_simp; refine hK _ ?_; clear hK K))))
  all_goals (refine Lx.lex_nil ?_)
  clear hl
  go_wp2_with fail
  go_ret
  exact ⟨rfl, hB.out.trans (hb1.mono (by simp))⟩

theorem bblocks_any (c : Int) (w : World) : Calls Try.prog 13 #[.agg #[.int .i64 c]] w fun e w' => e = .returned (.tuple #[.int .i64 (blkF c).1, .int .i64 (blkF c).2]) ∧ Below w.heap.size w w' := by
  have hB : Hid (Below w.heap.size w (w.alloc (.cells #[.int .i64 c] 32)).drew) := ((Below.refl _ _).alloc (Nat.le_refl _) _).drew
  have HV := Eqn.mk (tabF_val c).1
  have HS := Eqn.mk (tabF_val c).2
  by_cases hz : blkN c = 0
  · have hF : Eqn (blkF c) (0, 2) := by unfold blkF Eqn; rw [if_pos hz]
    have hn : (blkN c != 0) = false := by simpa using hz
    clear hz
    go_enter Try.func13, Try.ntmps13
    go_wp2_with fail
    refine Lx.region (C := fun w' => w'.cell? ⟨w.heap.size, 0, none⟩ = some (.int .i64 c)) (hs := [1]) (by kernel_rfl) (by kernel_rfl) (by go_simp) ?_
    repeat' (first
      | (refine Lx.lex_no (Lx.n1 rfl rfl rfl (by with_reducible rfl)) (fun K hK => ?_); go_simp; refine hK _ ?_; clear hK K)
      | (refine Lx.lex_no (Lx.n0 rfl rfl rfl (by with_reducible rfl)) (fun K hK => ?_); go_simp; refine hK _ ?_; clear hK K)
      | (refine Lx.lex_no (Lx.n2 rfl rfl rfl) (fun K hK => ?_); go_simp; refine hK _ ?_; clear hK K)
      | (refine Lx.lex_pure (v := ?_) rfl (by first | exact Lx.w0 rfl | exact Lx.w1 rfl rfl rfl (by with_reducible rfl)) ?_ (fun K hK => ?_); rotate_left 1; (intro w' hCw; (try dsimp only at hCw); go_simp; done); go_simp; refine hK _ ?_; clear hK K)
      | (refine Lx.lex_pure (v := ?_) rfl (by first | exact Lx.w0 rfl | exact Lx.w1 rfl rfl rfl (by with_reducible rfl)) ?_ (fun K hK => ?_); rotate_left 1; (intro w' hCw; (try dsimp only at hCw); go_simp; with_reducible rfl); go_simp; refine hK _ ?_; clear hK K)
      | (refine Lx.lex_read (v := ?_) rfl (by first | exact Lx.w0 rfl | exact Lx.w1 rfl rfl rfl (by with_reducible rfl)) ?_ (fun K hK => ?_); rotate_left 1; (go_simp; done); go_simp; refine hK _ ?_; clear hK K)
      | (refine Lx.lex_read (v := ?_) rfl (by first | exact Lx.w0 rfl | exact Lx.w1 rfl rfl rfl (by with_reducible rfl)) ?_ (fun K hK => ?_); rotate_left 1; (go_simp; with_reducible rfl); go_simp; refine hK _ ?_; clear hK K)
      | (refine Lx.lex_eff rfl (by first | exact Lx.w0 rfl | exact Lx.w1 rfl rfl rfl (by with_reducible rfl)) (fun K hK => ?_); go_simp; (first | (go_at_call 30; refine (blocks_any _).mono ?_; rintro e w1 ⟨g, rfl, hg, hm, hb1⟩; have q1 := hb1.cell (p := ⟨w.heap.size, 0, none⟩) (by simp); have hl := run_look_ok (P := Try.prog) (et := 3) target_ok Try.underlying73 hm (z := .int .i64 0) (by kernel_rfl) c; rw [HV.out, HS.out, hn] at hl; simp only [encT] at hl) | skip); refine hK _ _ (by go_simp) ?_; clear hK K)
      | (refine Lx.lex_cases rfl rfl rfl (fun hgd K hK => ?_) (fun hgd K hK => ?_) <;> (try simp only [decide_eq_true_eq, decide_eq_false_iff_not] at hgd) <;> (first | (exfalso; omega) | (go_simp; refine hK _ ?_; clear hK K))))
    all_goals (refine Lx.lex_nil ?_)
    clear hl
    go_wp2_with fail
    go_ret2
    exact ⟨by rw [hF.out]; rfl, hB.out.trans (hb1.mono (by simp))⟩
  · have hF : Eqn (blkF c) (blkN c, 0) := by unfold blkF Eqn; rw [if_neg hz]
    have hn : (blkN c != 0) = true := by simpa using hz
    clear hz
    go_enter Try.func13, Try.ntmps13
    go_wp2_with fail
    refine Lx.region (C := fun w' => w'.cell? ⟨w.heap.size, 0, none⟩ = some (.int .i64 c)) (hs := [1]) (by kernel_rfl) (by kernel_rfl) (by go_simp) ?_
    repeat' (first
      | (refine Lx.lex_no (Lx.n1 rfl rfl rfl (by with_reducible rfl)) (fun K hK => ?_); go_simp; refine hK _ ?_; clear hK K)
      | (refine Lx.lex_no (Lx.n0 rfl rfl rfl (by with_reducible rfl)) (fun K hK => ?_); go_simp; refine hK _ ?_; clear hK K)
      | (refine Lx.lex_no (Lx.n2 rfl rfl rfl) (fun K hK => ?_); go_simp; refine hK _ ?_; clear hK K)
      | (refine Lx.lex_pure (v := ?_) rfl (by first | exact Lx.w0 rfl | exact Lx.w1 rfl rfl rfl (by with_reducible rfl)) ?_ (fun K hK => ?_); rotate_left 1; (intro w' hCw; (try dsimp only at hCw); go_simp; done); go_simp; refine hK _ ?_; clear hK K)
      | (refine Lx.lex_pure (v := ?_) rfl (by first | exact Lx.w0 rfl | exact Lx.w1 rfl rfl rfl (by with_reducible rfl)) ?_ (fun K hK => ?_); rotate_left 1; (intro w' hCw; (try dsimp only at hCw); go_simp; with_reducible rfl); go_simp; refine hK _ ?_; clear hK K)
      | (refine Lx.lex_read (v := ?_) rfl (by first | exact Lx.w0 rfl | exact Lx.w1 rfl rfl rfl (by with_reducible rfl)) ?_ (fun K hK => ?_); rotate_left 1; (go_simp; done); go_simp; refine hK _ ?_; clear hK K)
      | (refine Lx.lex_read (v := ?_) rfl (by first | exact Lx.w0 rfl | exact Lx.w1 rfl rfl rfl (by with_reducible rfl)) ?_ (fun K hK => ?_); rotate_left 1; (go_simp; with_reducible rfl); go_simp; refine hK _ ?_; clear hK K)
      | (refine Lx.lex_eff rfl (by first | exact Lx.w0 rfl | exact Lx.w1 rfl rfl rfl (by with_reducible rfl)) (fun K hK => ?_); go_simp; (first | (go_at_call 30; refine (blocks_any _).mono ?_; rintro e w1 ⟨g, rfl, hg, hm, hb1⟩; have q1 := hb1.cell (p := ⟨w.heap.size, 0, none⟩) (by simp); have hl := run_look_ok (P := Try.prog) (et := 3) target_ok Try.underlying73 hm (z := .int .i64 0) (by kernel_rfl) c; rw [HV.out, HS.out, hn] at hl; simp only [encT] at hl) | skip); refine hK _ _ (by go_simp) ?_; clear hK K)
      | (refine Lx.lex_cases rfl rfl rfl (fun hgd K hK => ?_) (fun hgd K hK => ?_) <;> (try simp only [decide_eq_true_eq, decide_eq_false_iff_not] at hgd) <;> (first | (exfalso; omega) | (go_simp; refine hK _ ?_; clear hK K))))
    all_goals (refine Lx.lex_nil ?_)
    clear hl
    go_wp2_with fail
    go_ret2
    exact ⟨by rw [hF.out]; rfl, hB.out.trans (hb1.mono (by simp))⟩
end Go.Proofs.Ytpdhelhngdeoeaa
