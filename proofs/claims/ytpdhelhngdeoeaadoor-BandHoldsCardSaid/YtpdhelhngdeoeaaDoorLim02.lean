/- Contracts of band.left, Channels, of the reference's Channels and of SameInts. -/
import Derived.MapKept
import Derived.Laws.StructEq
import Derived.Laws.AppendOwn
import Derived.Test.YtpdhelhngdeoeaaDoorProg
import Derived.KernelRfl
import Derived.IntWalk
import Derived.Test.YtpdhelhngdeoeaaDoorLim01
/- Maps that the call itself makes, with keys that are structs of numbers: what is read after what was written. Nothing of the program is named here. -/
namespace Go.Proofs.YtpdhelhngdeoeaaDoor
open Go.RowKit

section
variable {P : Program} {κ : Type} [DecidableEq κ]

/-- What is needed of a key's type: enc gives a key's value. -/
structure KeyOk (P : Program) (kt : TypeId) (enc : κ → Value) : Prop where
  under : ∃ d, P.underlying kt = some d ∧ ∀ x y, Instr.sameNow d (enc x) (enc y) = none
  check : ∀ w em x, (Instr.checkKey em 10000 kt (enc x)).run P w = .ok () w
  eq : ∀ w x y, (Op.equal kt (enc x) (enc y)).run P w = .ok (decide (x = y)) w
  same : ∀ x, Instr.sameBits 10000 (enc x) (enc x) = true

def findI (x : κ) : List (κ × Value) → Nat → Option (Nat × Value)
  | [], _ => none
  | p :: r, i => if x = p.1 then some (i, p.2) else findI x r (i + 1)

def lookL (x : κ) : List (κ × Value) → Option Value
  | [] => none
  | p :: r => if x = p.1 then some p.2 else lookL x r

theorem findI_look (x : κ) : ∀ (L : List (κ × Value)) (i : Nat), (findI x L i).map (·.2) = lookL x L := by
  intro L
  induction L with
  | nil => intro i; rfl
  | cons p r ih => intro i; rw [findI, lookL]; split <;> simp [ih]

/-- how the entries read -/
def Reads (enc : κ → Value) (es : List MapEntry) (L : List (κ × Value)) : Prop := es.map (fun e => (e.key, e.val)) = L.map (fun p => (enc p.1, p.2))

theorem run_asking {kt : TypeId} {enc : κ → Value} (K : KeyOk P kt enc) (w : World) (x : κ) : ∀ (es : List MapEntry) (L : List (κ × Value)) (i : Nat), Reads enc es L → (Instr.findAsking kt (enc x) es i).run P w = .ok (findI x L i) w := by
  intro es
  induction es with
  | nil =>
    intro L i h
    cases L with
    | nil => simp [Instr.findAsking, findI]
    | cons => simp [Reads] at h
  | cons e es ih =>
    intro L i h
    cases L with
    | nil => simp [Reads] at h
    | cons p r =>
      simp only [Reads, List.map_cons, List.cons.injEq, Prod.mk.injEq] at h
      obtain ⟨⟨hk, hv⟩, hr⟩ := h
      rw [Instr.findAsking, Sem.run_bind, hk, K.eq, Result.andThen_ok, findI]
      by_cases hx : x = p.1
      · simp [hx, hv]
      · simp only [hx, decide_false, Bool.false_eq_true, if_false]
        exact ih r (i + 1) hr

theorem run_find {kt : TypeId} {enc : κ → Value} (K : KeyOk P kt enc) (w : World) (x : κ) (es : List MapEntry) (L : List (κ × Value)) (h : Reads enc es L) : (Instr.findKey kt (enc x) es).run P w = .ok (findI x L 0) w := by
  obtain ⟨d, hd, hn⟩ := K.under
  unfold Instr.findKey
  rw [Sem.run_bind, run_underlying hd, Result.andThen_ok]
  cases es with
  | nil =>
    cases L with
    | nil => simp [Instr.findNow, findI]
    | cons => simp [Reads] at h
  | cons e es =>
    cases L with
    | nil => simp [Reads] at h
    | cons p r =>
      have h' := h
      simp only [Reads, List.map_cons, List.cons.injEq, Prod.mk.injEq] at h'
      rw [Instr.findNow, h'.1.1, hn]
      exact run_asking K w x _ _ 0 h

/-- block b is a map of the call's own in which key x has the element f x -/
def MapF (enc : κ → Value) (w : World) (b : Nat) (f : κ → Option Value) : Prop :=
  ∃ es clock L, w.heap[b]? = some (.map es clock) ∧ Reads enc es.toList L ∧ ∀ y, lookL y L = f y

theorem MapF.lt {enc : κ → Value} {w : World} {b : Nat} {f : κ → Option Value} (h : MapF enc w b f) : b < w.heap.size := by
  obtain ⟨es, cl, L, hb, _⟩ := h
  rcases Nat.lt_or_ge b w.heap.size with h1 | h1
  · exact h1
  · rw [Array.getElem?_eq_none h1] at hb; cases hb

theorem MapF.congr {enc : κ → Value} {w w' : World} {b : Nat} {f : κ → Option Value} (h : MapF enc w b f) (hb : w'.heap[b]? = w.heap[b]?) : MapF enc w' b f := by
  obtain ⟨es, cl, L, h1, h2⟩ := h
  exact ⟨es, cl, L, by rw [hb]; exact h1, h2⟩
theorem MapF.below {enc : κ → Value} {w w' : World} {B b : Nat} {f : κ → Option Value} (h : MapF enc w b f) (hb : Below B w w') (hB : b < B) : MapF enc w' b f := h.congr (hb.block b hB)
theorem MapF.alloc {enc : κ → Value} {w : World} {b : Nat} {f : κ → Option Value} (h : MapF enc w b f) (o : Obj) : MapF enc (w.alloc o) b f :=
  h.congr (Below.heap_alloc _ _ _ h.lt)
theorem MapF.grown {enc : κ → Value} {w w' : World} {b : Nat} {f : κ → Option Value} {row : Option Nat} (h : MapF enc w b f) (hg : w.grownBy w' row) (hne : row ≠ some b) : MapF enc w' b f :=
  h.congr (hg.block b h.lt (fun e => hne e.symm))

theorem MapF.setCell {enc : κ → Value} {w : World} {b : Nat} {f : κ → Option Value} (h : MapF enc w b f) (a : Addr) (u : Value) (ha : a.block ≠ b) : MapF enc (w.setCell a u) b f :=
  h.congr (Below.heap_setCell _ _ _ _ (fun e => ha e.symm))

theorem MapF.made (enc : κ → Value) (w : World) : MapF enc (w.alloc (.map #[] 0)) w.heap.size (fun _ => none) :=
  ⟨#[], 0, [], heap_alloc_new w _, rfl, fun _ => rfl⟩

theorem run_look {t kt et : TypeId} {enc : κ → Value} (K : KeyOk P kt enc) (ht : P.underlying t = some (.map kt et)) {w : World} {b : Nat} {f : κ → Option Value} (h : MapF enc w b f) {z : Value} (hz : (zeroValue et).run P w = .ok z w) (x : κ) :
    (Instr.lookup t (.map (some b)) (enc x) false).run P w = .ok ((f x).getD z) w := by
  obtain ⟨es, cl, L, hb, hR, hL⟩ := h
  unfold Instr.lookup
  simp only [Sem.run_bind, run_underlying ht, Result.andThen_ok, MapKept.run_getObj_map hb, Sem.run_pure, K.check, run_find K w x _ _ hR]
  rw [← hL, ← findI_look x L 0]
  cases findI x L 0 with
  | none => simp [hz]
  | some r => simp

theorem run_look_ok {t kt et : TypeId} {enc : κ → Value} (K : KeyOk P kt enc) (ht : P.underlying t = some (.map kt et)) {w : World} {b : Nat} {f : κ → Option Value} (h : MapF enc w b f) {z : Value} (hz : (zeroValue et).run P w = .ok z w) (x : κ) :
    (Instr.lookup t (.map (some b)) (enc x) true).run P w = .ok (.tuple #[(f x).getD z, .bool (f x).isSome]) w := by
  obtain ⟨es, cl, L, hb, hR, hL⟩ := h
  unfold Instr.lookup
  simp only [Sem.run_bind, run_underlying ht, Result.andThen_ok, MapKept.run_getObj_map hb, Sem.run_pure, K.check, run_find K w x _ _ hR]
  rw [← hL, ← findI_look x L 0]
  cases findI x L 0 with
  | none => simp [hz]
  | some r => simp

theorem findI_at (x : κ) : ∀ (L : List (κ × Value)) (i j : Nat) (v : Value), findI x L i = some (j, v) → i ≤ j ∧ ∃ p, L[j - i]? = some p ∧ p.1 = x ∧ ∀ u y, lookL y (L.set (j - i) (x, u)) = if y = x then some u else lookL y L := by
  intro L
  induction L with
  | nil => intro i j v h; cases h
  | cons p r ih =>
    intro i j v h
    rw [findI] at h
    split at h
    · rename_i hx
      injection h with h
      injection h with h1 h2
      subst h1
      refine ⟨Nat.le_refl _, p, by simp, hx.symm, fun u y => ?_⟩
      rw [Nat.sub_self, List.set_cons_zero, lookL, lookL]
      dsimp only
      by_cases hy : y = x
      · simp [hy]
      · rw [if_neg hy, if_neg hy, if_neg (by rw [← hx]; exact hy)]
    · rename_i hx
      obtain ⟨h1, q, h2, h3, h4⟩ := ih (i + 1) j v h
      have hj : j - i = (j - (i + 1)) + 1 := by omega
      refine ⟨by omega, q, by rw [hj]; simpa using h2, h3, fun u y => ?_⟩
      rw [hj, List.set_cons_succ, lookL, lookL, h4]
      by_cases hy : y = x
      · subst hy; simp [hx]
      · simp [hy]

theorem findI_none (x : κ) : ∀ (L : List (κ × Value)) (i : Nat), findI x L i = none → ∀ u y, lookL y (L ++ [(x, u)]) = if y = x then some u else lookL y L := by
  intro L
  induction L with
  | nil => intro i _ u y; simp [lookL]
  | cons p r ih =>
    intro i h u y
    rw [findI] at h
    split at h
    · cases h
    · rename_i hx
      rw [List.cons_append, lookL, lookL, ih (i + 1) h]
      by_cases hy : y = x
      · subst hy; simp [hx]
      · simp [hy]

theorem run_put {t kt et : TypeId} {enc : κ → Value} (K : KeyOk P kt enc) (ht : P.underlying t = some (.map kt et)) {w : World} {b : Nat} {f : κ → Option Value} (h : MapF enc w b f) (x : κ) (v : Value) :
    ∃ w', (Instr.mapUpdate t (.map (some b)) (enc x) v).run P w = .ok () w' ∧ MapF enc w' b (fun y => if y = x then some v else f y) ∧ w.grownBy w' (some b) := by
  have hlt := h.lt
  obtain ⟨es, cl, L, hb, hR, hL⟩ := h
  have hg : ∀ o : Obj, w.grownBy { w with heap := w.heap.setIfInBounds b o } (some b) := fun o =>
    ⟨rfl, rfl, rfl, by simp, fun k _ hk => by
      have : k ≠ b := fun e => hk (by rw [e])
      simp [Array.getElem?_setIfInBounds_ne (Ne.symm this)]⟩
  unfold Instr.mapUpdate
  simp only [Sem.run_bind, run_underlying ht, Result.andThen_ok, MapKept.run_getObj_map hb, K.check, run_find K w x _ _ hR]
  cases hf : findI x L 0 with
  | none =>
    simp only [MapKept.run_setObj_map _ hb]
    refine ⟨_, rfl, ⟨es.push ⟨enc x, v, cl⟩, cl + 1, L ++ [(x, v)], by simp [hlt], ?_, fun y => ?_⟩, hg _⟩
    · unfold Reads at hR ⊢
      simp [hR]
    · rw [findI_none x L 0 hf v y, hL]
  | some r =>
    obtain ⟨j, u⟩ := r
    obtain ⟨_, p, hp, hpx, hset⟩ := findI_at x L 0 j u hf
    rw [Nat.sub_zero] at hp hset
    have hlen : es.toList.length = L.length := by unfold Reads at hR; have := congrArg List.length hR; simpa using this
    have hjl : j < L.length := (List.getElem?_eq_some_iff.1 hp).1
    have hje : j < es.size := by rw [← Array.length_toList, hlen]; exact hjl
    have hkey : (es[j]?.map (·.key)).getD (enc x) = enc x := by
      have h1 := congrArg (fun l => l[j]?) hR
      simp only [List.getElem?_map, hp, Array.getElem?_toList] at h1
      cases he : es[j]? with
      | none => rfl
      | some e =>
        rw [he] at h1
        simp only [Option.map_some, Option.some.injEq, Prod.mk.injEq] at h1
        simp [h1.1, hpx]
    simp only [hkey, Instr.keyThatStays, K.same, if_true, Sem.run_bind, Sem.run_pure, Result.andThen_ok, MapKept.run_setObj_map _ hb]
    refine ⟨_, rfl, ⟨es.modify j fun e => { e with key := enc x, val := v }, cl, L.set j (x, v), by simp [hlt], ?_, fun y => ?_⟩, hg _⟩
    · unfold Reads at hR ⊢
      apply List.ext_getElem?
      intro m
      have h1 := congrArg (fun l => l[m]?) hR
      simp only [List.getElem?_map, Array.getElem?_toList, Array.getElem?_modify, List.getElem?_set] at h1 ⊢
      by_cases hm : j = m
      · subst hm
        simp [hje, hjl]
      · simp only [hm, if_false]
        exact h1
    · rw [hset v y, hL]
end
end Go.Proofs.YtpdhelhngdeoeaaDoor

/- Contracts of band.blocks, band.Valid and band.Blocks: the table of targets. -/
namespace Go.Proofs.YtpdhelhngdeoeaaDoor
open Go.RowKit

def encT (k : Int) : Value := .agg #[.int .i64 k]

theorem target_eq (w : World) (a a' : Int) : (Op.equal 40 (.agg #[.int .i64 a]) (.agg #[.int .i64 a'])).run Tryd.prog w = .ok (decide (a = a')) w := by
  have h1 : Tryd.prog.stoodInHeld 40 = false := by kernel_rfl
  have h2 : Tryd.prog.underlying 40 = some (.struct (Tryd.prog.fieldsOf 40)) := by simp only [Program.fieldsOf, Tryd.underlying40]
  have h3 : ∀ w' x, (part 3 #[.int .i64 x] 0).run Tryd.prog w' = .ok (.int .i64 x) w' := fun _ _ => by kernel_rfl
  rw [Op.equal, Op.maxDepth, run_equalIn_agg w 9999 _ _ _ h2 h1]
  simp only [Program.fieldsOf, Tryd.underlying40, Op.eqFields]
  simp [Sem.run_bind, h3, run_equalIn_int (P := Tryd.prog) _ 9998 3 .i64 .i64 _ _ Tryd.underlying3]
  by_cases ha : a = a' <;> simp [ha]

theorem target_ok : KeyOk Tryd.prog 40 encT where
  under := ⟨_, Tryd.underlying40, fun _ _ => rfl⟩
  check := by intro w em x; kernel_rfl
  eq := by
    intro w a a'
    rw [encT, encT, target_eq]
  same := by
    intro a
    simp [encT, Instr.sameBits]

/-- the table -/
def keyE : Nat → Int
  | 0 => 24 | 1 => 23 | 2 => 21 | 3 => 19 | 4 => 18 | 5 => 14 | 6 => 13 | 7 => 12 | 8 => 10 | 9 => 8 | _ => 7
def litF (S : Nat → Bool) (y : Int) : Option Value := (List.range 11).foldr (fun e acc => if y = keyE e ∧ S e = true then some (.int .i64 (12 - e)) else acc) none

theorem litF_congr (S S' : Nat → Bool) (h : ∀ e, e < 11 → S e = S' e) : litF S = litF S' := by
  funext y
  have key : ∀ L : List Nat, (∀ e ∈ L, e < 11) → L.foldr (fun e acc => if y = keyE e ∧ S e = true then some (Value.int .i64 (12 - e)) else acc) none = L.foldr (fun e acc => if y = keyE e ∧ S' e = true then some (Value.int .i64 (12 - e)) else acc) none := by
    intro L
    induction L with
    | nil => intro _; rfl
    | cons e L ih =>
      intro hL
      rw [List.foldr_cons, List.foldr_cons, ih (fun x hx => hL x (by simp [hx])), h e (hL e (by simp))]
  exact key _ (fun e he => List.mem_range.1 he)

theorem litF_none (S : Nat → Bool) (h : ∀ e, e < 11 → S e = false) : litF S = fun _ => none := by
  funext y
  simp [litF, List.range, List.range.loop, h]

theorem litF_put (S S' : Nat → Bool) (e : Nat) (he : e < 11) (h1 : S' e = true) (h2 : ∀ i, i ≠ e → S' i = S i) (y : Int) : litF S' y = if y = keyE e then some (.int .i64 (12 - e)) else litF S y := by
  have hb : ∀ i, i < 11 → S' i = if i = e then true else S i := fun i _ => by
    by_cases hi : i = e
    · rw [if_pos hi, hi, h1]
    · rw [if_neg hi, h2 i hi]
  simp only [litF, List.range, List.range.loop, List.foldr_cons, List.foldr_nil]
  rw [hb 0 (by omega), hb 1 (by omega), hb 2 (by omega), hb 3 (by omega), hb 4 (by omega), hb 5 (by omega), hb 6 (by omega), hb 7 (by omega), hb 8 (by omega), hb 9 (by omega), hb 10 (by omega)]
  by_cases hy : y = keyE e
  · subst hy
    match e, he with
    | 0, _ | 1, _ | 2, _ | 3, _ | 4, _ | 5, _ | 6, _ | 7, _ | 8, _ | 9, _ | 10, _ => simp [keyE]
  · match e, he with
    | 0, _ | 1, _ | 2, _ | 3, _ | 4, _ | 5, _ | 6, _ | 7, _ | 8, _ | 9, _ | 10, _ => simp [keyE] at hy ⊢; simp [hy]

/-- what is known while the table is laid -/
structure TabInv (w0 : World) (listed : Array Bool) (a : Act) (w : World) : Prop where
  sz : a.tmps.size = 14
  df : a.defers = []
  bl : Below w0.heap.size w0 w
  m0 : listed.getD 0 false = false → w = w0
  ins : ∀ e, e < 11 → listed.getD (2 + 2 * e) false = true → listed.getD 0 false = true
  m1 : listed.getD 0 false = true → a.tmps.getD 1 undef = .map (some w0.heap.size) ∧ MapF encT w w0.heap.size (litF fun e => listed.getD (2 + 2 * e) false)
  bd : ∀ e, e < 11 → listed.getD (1 + 2 * e) false = true → a.tmps.getD (2 + e) undef = encT (keyE e)
  no23 : listed.getD 0 false = false → listed.getD 23 false = false
  no24 : listed.getD 0 false = false → listed.getD 24 false = false
  mv : listed.getD 23 false = true → a.tmps.getD 13 undef = .map (some w0.heap.size)
  asg : listed.getD 24 false = true → a.tmps.getD 0 undef = .map (some w0.heap.size)

theorem gset (listed : Array Bool) (j i : Nat) : (listed.setIfInBounds j true).getD i false = if i = j ∧ j < listed.size then true else listed.getD i false := by
  simp only [Array.getD_eq_getD_getElem?, Array.getElem?_setIfInBounds]
  by_cases h : j = i
  · subst h
    by_cases h2 : j < listed.size
    · simp [h2]
    · simp [h2]
  · rw [if_neg h, if_neg (fun hh => h hh.1.symm)]

theorem tset (ts : Array Value) (d i : Nat) (v : Value) : (ts.setIfInBounds d v).getD i undef = if i = d ∧ d < ts.size then v else ts.getD i undef := by
  simp only [Array.getD_eq_getD_getElem?, Array.getElem?_setIfInBounds]
  by_cases h : d = i
  · subst h
    by_cases h2 : d < ts.size
    · simp [h2]
    · simp [h2]
  · rw [if_neg h, if_neg (fun hh => h hh.1.symm)]

section
variable {w0 w : World} {listed : Array Bool} {a : Act}

/-- a value is put -/
theorem TabInv.put (h : TabInv w0 listed a w) (_ : listed.size = 25) (j d : Nat) (v : Value) (hz : j = 23 ∨ j = 24 → listed.getD 0 false = true)
    (hj : (j = 23 ∧ d = 13 ∧ v = .map (some w0.heap.size)) ∨ (j = 24 ∧ d = 0 ∧ v = .map (some w0.heap.size)) ∨ ∃ e, e < 11 ∧ j = 1 + 2 * e ∧ d = 2 + e ∧ v = encT (keyE e)) :
    TabInv w0 (listed.setIfInBounds j true) (a.put (some d) v) w := by
  have hj0 : ¬ j = 0 := by rcases hj with h | h | ⟨e, h⟩ <;> omega
  have hji : ∀ e, e < 11 → ¬ 2 + 2 * e = j := by intro e he; rcases hj with h | h | ⟨e', h⟩ <;> omega
  have hd1 : ¬ 1 = d := by rcases hj with h | h | ⟨e, h⟩ <;> omega
  have g0 : (listed.setIfInBounds j true).getD 0 false = listed.getD 0 false := by rw [gset, if_neg (by omega)]
  have gi : ∀ e, e < 11 → (listed.setIfInBounds j true).getD (2 + 2 * e) false = listed.getD (2 + 2 * e) false := by
    intro e he; rw [gset, if_neg (by have := hji e he; omega)]
  have hsz : (a.put (some d) v).tmps.size = 14 := by simp [Act.put, h.sz]
  have ht : ∀ i, (a.put (some d) v).tmps.getD i undef = if i = d ∧ d < a.tmps.size then v else a.tmps.getD i undef := fun i => tset _ _ _ _
  have hdl : d < a.tmps.size := by rw [h.sz]; rcases hj with h | h | ⟨e, h⟩ <;> omega
  refine ⟨hsz, h.df, h.bl, fun hh => h.m0 (by rw [← g0]; exact hh), fun e he hh => ?_, fun hh => ?_, fun e he hh => ?_, fun hh => ?_, fun hh => ?_, fun hh => ?_, fun hh => ?_⟩
  · rw [g0]; exact h.ins e he (by rw [← gi e he]; exact hh)
  · obtain ⟨h1, h2⟩ := h.m1 (by rw [← g0]; exact hh)
    refine ⟨by rw [ht, if_neg (by omega)]; exact h1, ?_⟩
    have : litF (fun e => (listed.setIfInBounds j true).getD (2 + 2 * e) false) = litF (fun e => listed.getD (2 + 2 * e) false) := litF_congr _ _ gi
    rw [this]
    exact h2
  · rw [gset] at hh
    rw [ht]
    rcases hj with ⟨rfl, rfl, rfl⟩ | ⟨rfl, rfl, rfl⟩ | ⟨e', he', rfl, rfl, rfl⟩
    · rw [if_neg (by omega)] at hh
      rw [if_neg (by omega)]
      exact h.bd e he hh
    · rw [if_neg (by omega)] at hh
      rw [if_neg (by omega)]
      exact h.bd e he hh
    · by_cases hee : e = e'
      · subst hee; rw [if_pos ⟨rfl, hdl⟩]
      · rw [if_neg (by omega)] at hh
        rw [if_neg (by omega)]
        exact h.bd e he hh
  · rw [g0] at hh
    rw [gset, if_neg (fun hc => by have := hz (by omega); rw [hh] at this; cases this)]; exact h.no23 hh
  · rw [g0] at hh
    rw [gset, if_neg (fun hc => by have := hz (by omega); rw [hh] at this; cases this)]; exact h.no24 hh
  · rw [gset] at hh
    rw [ht]
    rcases hj with ⟨rfl, rfl, rfl⟩ | ⟨rfl, rfl, rfl⟩ | ⟨e', he', rfl, rfl, rfl⟩
    · rw [if_pos ⟨rfl, hdl⟩]
    · rw [if_neg (by omega)] at hh; rw [if_neg (by omega)]; exact h.mv hh
    · rw [if_neg (by omega)] at hh
      by_cases hd : 13 = 2 + e'
      · omega
      · rw [if_neg (by omega)]; exact h.mv hh
  · rw [gset] at hh
    rw [ht]
    rcases hj with ⟨rfl, rfl, rfl⟩ | ⟨rfl, rfl, rfl⟩ | ⟨e', he', rfl, rfl, rfl⟩
    · rw [if_neg (by omega)] at hh; rw [if_neg (by omega)]; exact h.asg hh
    · rw [if_pos ⟨rfl, hdl⟩]
    · rw [if_neg (by omega)] at hh; rw [if_neg (by omega)]; exact h.asg hh

/-- the map is made -/
theorem TabInv.made (h : TabInv w0 listed a w) (hs : listed.size = 25) (h0 : listed.getD 0 false = false) (h23 : listed.getD 23 false = false) (h24 : listed.getD 24 false = false) :
    TabInv w0 (listed.setIfInBounds 0 true) (a.put (some 1) (.map (some w.heap.size))) (w.alloc (.map #[] 0)) := by
  obtain rfl := h.m0 h0
  have hsz : (a.put (some 1) (.map (some w.heap.size))).tmps.size = 14 := by simp [Act.put, h.sz]
  have ht : ∀ i, (a.put (some 1) (.map (some w.heap.size))).tmps.getD i undef = if i = 1 ∧ 1 < a.tmps.size then .map (some w.heap.size) else a.tmps.getD i undef := fun i => tset _ _ _ _
  have hno : ∀ e, e < 11 → listed.getD (2 + 2 * e) false = false := by
    intro e he
    cases hh : listed.getD (2 + 2 * e) false with
    | false => rfl
    | true => have := h.ins e he hh; rw [h0] at this; cases this
  refine ⟨hsz, h.df, (Below.refl _ _).alloc (Nat.le_refl _) _, fun hh => ?_, fun e he hh => ?_, fun hh => ?_, fun e he hh => ?_, fun hh => (by rw [gset, if_pos ⟨rfl, by omega⟩] at hh; cases hh), fun hh => (by rw [gset, if_pos ⟨rfl, by omega⟩] at hh; cases hh), fun hh => ?_, fun hh => ?_⟩
  · rw [gset, if_pos ⟨rfl, by omega⟩] at hh; cases hh
  · rw [gset, if_pos ⟨rfl, by omega⟩]
  · refine ⟨by rw [ht, if_pos ⟨rfl, by rw [h.sz]; omega⟩], ?_⟩
    rw [litF_none _ (fun e he => by rw [gset, if_neg (by omega)]; exact hno e he)]
    exact MapF.made encT w
  · rw [gset, if_neg (by omega)] at hh; rw [ht, if_neg (by omega)]; exact h.bd e he hh
  · rw [gset, if_neg (by omega), h23] at hh; cases hh
  · rw [gset, if_neg (by omega), h24] at hh; cases hh

/-- an entry is laid -/
theorem TabInv.entry (h : TabInv w0 listed a w) (hs : listed.size = 25) (e : Nat) (he : e < 11) (h0 : listed.getD 0 false = true) (hb : listed.getD (1 + 2 * e) false = true) :
    ∃ w', (Instr.mapUpdate 101 (a.tmps.getD 1 undef) (a.tmps.getD (2 + e) undef) (.int .i64 (12 - e))).run Tryd.prog w = .ok () w' ∧ TabInv w0 (listed.setIfInBounds (2 + 2 * e) true) a w' := by
  obtain ⟨h1, h2⟩ := h.m1 h0
  obtain ⟨w', hr, hm, hg⟩ := run_put (P := Tryd.prog) (et := 3) target_ok Tryd.underlying101 h2 (keyE e) (.int .i64 (12 - e))
  refine ⟨w', by rw [h1, h.bd e he hb]; exact hr, h.sz, h.df, h.bl.grown hg h.bl.size (fun g hg => by injection hg with hg; omega), fun hh => ?_, fun e' he' hh => ?_, fun hh => ⟨h1, ?_⟩, fun e' he' hh => ?_, fun hh => (by rw [gset, if_neg (by omega), h0] at hh; cases hh), fun hh => (by rw [gset, if_neg (by omega), h0] at hh; cases hh), fun hh => ?_, fun hh => ?_⟩
  · rw [gset, if_neg (by omega), h0] at hh; cases hh
  · rw [gset, if_neg (by omega)]; exact h0
  · have : litF (fun i => (listed.setIfInBounds (2 + 2 * e) true).getD (2 + 2 * i) false) = fun y => if y = keyE e then some (.int .i64 (12 - e)) else litF (fun i => listed.getD (2 + 2 * i) false) y := by
      funext y
      refine litF_put _ _ e he (by rw [gset, if_pos ⟨rfl, by omega⟩]) (fun i hi => ?_) y
      rw [gset, if_neg (by omega)]
    rw [this]
    exact hm
  · rw [gset, if_neg (by omega)] at hh; exact h.bd e' he' hh
  · rw [gset, if_neg (by omega)] at hh; exact h.mv hh
  · rw [gset, if_neg (by omega)] at hh; exact h.asg hh
end

theorem gd_false {listed : Array Bool} {j : Nat} (h : listed.getD j true = false) (hj : j < listed.size) : listed.getD j false = false := by
  simp only [Array.getD_eq_getD_getElem?, Array.getElem?_eq_getElem hj, Option.getD_some] at h ⊢
  exact h

def tabF (y : Int) : Option Value := litF (fun _ => true) y
/-- the number of blocks of a target, or 0 -/
def blkN (c : Int) : Int := (List.range 11).foldr (fun e acc => if c = keyE e then 12 - (e : Int) else acc) 0
theorem tabF_val (c : Int) : (tabF c).getD (.int .i64 0) = .int .i64 (blkN c) ∧ (tabF c).isSome = (blkN c != 0) := by
  by_cases h0 : c = 24
  · subst h0; exact ⟨rfl, rfl⟩
  by_cases h1 : c = 23
  · subst h1; exact ⟨rfl, rfl⟩
  by_cases h2 : c = 21
  · subst h2; exact ⟨rfl, rfl⟩
  by_cases h3 : c = 19
  · subst h3; exact ⟨rfl, rfl⟩
  by_cases h4 : c = 18
  · subst h4; exact ⟨rfl, rfl⟩
  by_cases h5 : c = 14
  · subst h5; exact ⟨rfl, rfl⟩
  by_cases h6 : c = 13
  · subst h6; exact ⟨rfl, rfl⟩
  by_cases h7 : c = 12
  · subst h7; exact ⟨rfl, rfl⟩
  by_cases h8 : c = 10
  · subst h8; exact ⟨rfl, rfl⟩
  by_cases h9 : c = 8
  · subst h9; exact ⟨rfl, rfl⟩
  by_cases h10 : c = 7
  · subst h10; exact ⟨rfl, rfl⟩
  have ht : tabF c = none := by simp [tabF, litF, List.range, List.range.loop, keyE, h0, h1, h2, h3, h4, h5, h6, h7, h8, h9, h10]
  have hb : blkN c = 0 := by simp [blkN, List.range, List.range.loop, keyE, h0, h1, h2, h3, h4, h5, h6, h7, h8, h9, h10]
  rw [ht, hb]; exact ⟨rfl, rfl⟩
theorem blkN_at (k : Nat) (hk : k < 11) : blkN (keyE k) = 12 - (k : Int) := by
  match k, hk with
  | 0, _ | 1, _ | 2, _ | 3, _ | 4, _ | 5, _ | 6, _ | 7, _ | 8, _ | 9, _ | 10, _ => rfl
theorem blkN_no (c : Int) (h : ∀ e, e < 11 → c ≠ keyE e) : blkN c = 0 := by
  simp only [blkN, List.range, List.range.loop, List.foldr_cons, List.foldr_nil]
  rw [if_neg (h 0 (by omega)), if_neg (h 1 (by omega)), if_neg (h 2 (by omega)), if_neg (h 3 (by omega)), if_neg (h 4 (by omega)), if_neg (h 5 (by omega)), if_neg (h 6 (by omega)), if_neg (h 7 (by omega)), if_neg (h 8 (by omega)), if_neg (h 9 (by omega)), if_neg (h 10 (by omega))]
theorem blkN_bd (c : Int) : 0 ≤ blkN c ∧ blkN c ≤ 12 := by
  simp only [blkN, List.range, List.range.loop, List.foldr_cons, List.foldr_nil]
  repeat' (split <;> try (constructor <;> decide))

def TabPost (w : World) (e : Ending) (w' : World) : Prop := ∃ g, e = .returned (.map (some g)) ∧ w.heap.size ≤ g ∧ MapF encT w' g tabF ∧ Below w.heap.size w w'

theorem wp_insert {K : Act → World → Prop} {Q : Exit → Act → World → Prop} {a : Act} {w w' : World} {t : TypeId} {m k x : Operand} {ty : TypeId} {pos : String} {af : Array Edge} (hr : (Instr.mapUpdate t (a.eval m) (a.eval k) (a.eval x)).run Tryd.prog w = .ok () w') (h : K a w') :
    (⟨none, .insert t m k x, ty, pos, af, none⟩ : Oper).wp Tryd.prog a w K Q := by
  unfold Oper.wp
  simp [execOp, hr, Result.andThen]
  exact h
theorem wp_value {K : Act → World → Prop} {Q : Exit → Act → World → Prop} {a : Act} {w : World} {o : Oper} {v : Value} (hr : (execOp a.eval o).run Tryd.prog w = .ok (.value v) w) (h : K (a.put o.dst v) w) : o.wp Tryd.prog a w K Q := by
  unfold Oper.wp
  rw [hr]
  exact h

set_option maxRecDepth 100000 in
set_option maxHeartbeats 4000000 in
theorem blocks_any (w : World) : Calls Tryd.prog 48 #[] w (TabPost w) := by
  go_enter Tryd.func48, Tryd.ntmps48
  go_wp2_with fail
  refine Ay.region (by kernel_rfl) (TabInv w.drew) ?_ ?_ ?_
  · have hz : ∀ i, (Array.replicate 25 false).getD i false = false := by
      intro i; simp only [Array.getD_eq_getD_getElem?, Array.getElem?_replicate]; split <;> rfl
    change TabInv w.drew (Array.replicate 25 false) _ _
    exact ⟨rfl, rfl, Below.refl _ _, fun _ => rfl, (fun e he hh => (by rw [hz] at hh; cases hh)), (fun hh => (by rw [hz] at hh; cases hh)), (fun e he hh => (by rw [hz] at hh; cases hh)), fun _ => hz 23, fun _ => hz 24, (fun hh => (by rw [hz] at hh; cases hh)), (fun hh => (by rw [hz] at hh; cases hh))⟩
  · intro listed a w1 hs hr hI
    have hs' : listed.size = 25 := hs
    have hall := Ay.all_listed hs (by kernel_rfl) hr
    have hT : litF (fun e => listed.getD (2 + 2 * e) false) = tabF := litF_congr _ _ fun e he => hall _ (show 2 + 2 * e < 25 by omega)
    have h24 := hI.asg (hall 24 (show 24 < 25 by omega))
    have hm := (hI.m1 (hall 0 (show 0 < 25 by omega))).2
    rw [hT] at hm
    obtain ⟨ts, df⟩ := a
    have hd0 : df = [] := hI.df
    subst hd0
    dsimp only at h24
    go_wp2_with fail
    go_ret
    dsimp only
    rw [h24]
    exact ⟨w.heap.size, rfl, Nat.le_refl _, hm, (Below.refl _ w).drew.trans hI.bl⟩
  · intro listed a w j o ho h1 h2 hs hI
    have hj : j < 25 := (Array.getElem?_eq_some_iff.1 ho).1
    have hs : listed.size = 25 := hs
    match j, hj with
    | 0, _ =>
      obtain rfl := Option.some.inj ho
      have h0 : listed.getD 0 false = false := gd_false h1 (by omega)
      have h23 : listed.getD 23 false = false := hI.no23 h0
      have h24 : listed.getD 24 false = false := hI.no24 h0
      exact ⟨rfl, hI.made hs h0 h23 h24⟩
    | 1, _ =>
      obtain rfl := Option.some.inj ho
      refine ⟨rfl, wp_value (v := encT (keyE 0)) (by kernel_rfl) ?_⟩
      exact hI.put hs 1 2 (encT (keyE 0)) (by omega) (.inr (.inr ⟨0, by omega, rfl, rfl, rfl⟩))
    | 2, _ =>
      obtain rfl := Option.some.inj ho
      obtain ⟨w', hr, hI'⟩ := hI.entry hs 0 (by omega) (h2 ⟨0, .data⟩ (by simp) rfl) (h2 ⟨1, .data⟩ (by simp) rfl)
      refine ⟨rfl, ?_⟩
      exact wp_insert hr hI'
    | 3, _ =>
      obtain rfl := Option.some.inj ho
      refine ⟨rfl, wp_value (v := encT (keyE 1)) (by kernel_rfl) ?_⟩
      exact hI.put hs 3 3 (encT (keyE 1)) (by omega) (.inr (.inr ⟨1, by omega, rfl, rfl, rfl⟩))
    | 4, _ =>
      obtain rfl := Option.some.inj ho
      obtain ⟨w', hr, hI'⟩ := hI.entry hs 1 (by omega) (h2 ⟨0, .data⟩ (by simp) rfl) (h2 ⟨3, .data⟩ (by simp) rfl)
      refine ⟨rfl, ?_⟩
      exact wp_insert hr hI'
    | 5, _ =>
      obtain rfl := Option.some.inj ho
      refine ⟨rfl, wp_value (v := encT (keyE 2)) (by kernel_rfl) ?_⟩
      exact hI.put hs 5 4 (encT (keyE 2)) (by omega) (.inr (.inr ⟨2, by omega, rfl, rfl, rfl⟩))
    | 6, _ =>
      obtain rfl := Option.some.inj ho
      obtain ⟨w', hr, hI'⟩ := hI.entry hs 2 (by omega) (h2 ⟨0, .data⟩ (by simp) rfl) (h2 ⟨5, .data⟩ (by simp) rfl)
      refine ⟨rfl, ?_⟩
      exact wp_insert hr hI'
    | 7, _ =>
      obtain rfl := Option.some.inj ho
      refine ⟨rfl, wp_value (v := encT (keyE 3)) (by kernel_rfl) ?_⟩
      exact hI.put hs 7 5 (encT (keyE 3)) (by omega) (.inr (.inr ⟨3, by omega, rfl, rfl, rfl⟩))
    | 8, _ =>
      obtain rfl := Option.some.inj ho
      obtain ⟨w', hr, hI'⟩ := hI.entry hs 3 (by omega) (h2 ⟨0, .data⟩ (by simp) rfl) (h2 ⟨7, .data⟩ (by simp) rfl)
      refine ⟨rfl, ?_⟩
      exact wp_insert hr hI'
    | 9, _ =>
      obtain rfl := Option.some.inj ho
      refine ⟨rfl, wp_value (v := encT (keyE 4)) (by kernel_rfl) ?_⟩
      exact hI.put hs 9 6 (encT (keyE 4)) (by omega) (.inr (.inr ⟨4, by omega, rfl, rfl, rfl⟩))
    | 10, _ =>
      obtain rfl := Option.some.inj ho
      obtain ⟨w', hr, hI'⟩ := hI.entry hs 4 (by omega) (h2 ⟨0, .data⟩ (by simp) rfl) (h2 ⟨9, .data⟩ (by simp) rfl)
      refine ⟨rfl, ?_⟩
      exact wp_insert hr hI'
    | 11, _ =>
      obtain rfl := Option.some.inj ho
      refine ⟨rfl, wp_value (v := encT (keyE 5)) (by kernel_rfl) ?_⟩
      exact hI.put hs 11 7 (encT (keyE 5)) (by omega) (.inr (.inr ⟨5, by omega, rfl, rfl, rfl⟩))
    | 12, _ =>
      obtain rfl := Option.some.inj ho
      obtain ⟨w', hr, hI'⟩ := hI.entry hs 5 (by omega) (h2 ⟨0, .data⟩ (by simp) rfl) (h2 ⟨11, .data⟩ (by simp) rfl)
      refine ⟨rfl, ?_⟩
      exact wp_insert hr hI'
    | 13, _ =>
      obtain rfl := Option.some.inj ho
      refine ⟨rfl, wp_value (v := encT (keyE 6)) (by kernel_rfl) ?_⟩
      exact hI.put hs 13 8 (encT (keyE 6)) (by omega) (.inr (.inr ⟨6, by omega, rfl, rfl, rfl⟩))
    | 14, _ =>
      obtain rfl := Option.some.inj ho
      obtain ⟨w', hr, hI'⟩ := hI.entry hs 6 (by omega) (h2 ⟨0, .data⟩ (by simp) rfl) (h2 ⟨13, .data⟩ (by simp) rfl)
      refine ⟨rfl, ?_⟩
      exact wp_insert hr hI'
    | 15, _ =>
      obtain rfl := Option.some.inj ho
      refine ⟨rfl, wp_value (v := encT (keyE 7)) (by kernel_rfl) ?_⟩
      exact hI.put hs 15 9 (encT (keyE 7)) (by omega) (.inr (.inr ⟨7, by omega, rfl, rfl, rfl⟩))
    | 16, _ =>
      obtain rfl := Option.some.inj ho
      obtain ⟨w', hr, hI'⟩ := hI.entry hs 7 (by omega) (h2 ⟨0, .data⟩ (by simp) rfl) (h2 ⟨15, .data⟩ (by simp) rfl)
      refine ⟨rfl, ?_⟩
      exact wp_insert hr hI'
    | 17, _ =>
      obtain rfl := Option.some.inj ho
      refine ⟨rfl, wp_value (v := encT (keyE 8)) (by kernel_rfl) ?_⟩
      exact hI.put hs 17 10 (encT (keyE 8)) (by omega) (.inr (.inr ⟨8, by omega, rfl, rfl, rfl⟩))
    | 18, _ =>
      obtain rfl := Option.some.inj ho
      obtain ⟨w', hr, hI'⟩ := hI.entry hs 8 (by omega) (h2 ⟨0, .data⟩ (by simp) rfl) (h2 ⟨17, .data⟩ (by simp) rfl)
      refine ⟨rfl, ?_⟩
      exact wp_insert hr hI'
    | 19, _ =>
      obtain rfl := Option.some.inj ho
      refine ⟨rfl, wp_value (v := encT (keyE 9)) (by kernel_rfl) ?_⟩
      exact hI.put hs 19 11 (encT (keyE 9)) (by omega) (.inr (.inr ⟨9, by omega, rfl, rfl, rfl⟩))
    | 20, _ =>
      obtain rfl := Option.some.inj ho
      obtain ⟨w', hr, hI'⟩ := hI.entry hs 9 (by omega) (h2 ⟨0, .data⟩ (by simp) rfl) (h2 ⟨19, .data⟩ (by simp) rfl)
      refine ⟨rfl, ?_⟩
      exact wp_insert hr hI'
    | 21, _ =>
      obtain rfl := Option.some.inj ho
      refine ⟨rfl, wp_value (v := encT (keyE 10)) (by kernel_rfl) ?_⟩
      exact hI.put hs 21 12 (encT (keyE 10)) (by omega) (.inr (.inr ⟨10, by omega, rfl, rfl, rfl⟩))
    | 22, _ =>
      obtain rfl := Option.some.inj ho
      obtain ⟨w', hr, hI'⟩ := hI.entry hs 10 (by omega) (h2 ⟨0, .data⟩ (by simp) rfl) (h2 ⟨21, .data⟩ (by simp) rfl)
      refine ⟨rfl, ?_⟩
      exact wp_insert hr hI'
    | 23, _ =>
      obtain rfl := Option.some.inj ho
      have h0 := h2 ⟨0, .data⟩ (by simp) rfl
      refine ⟨rfl, wp_value (v := a.tmps.getD 1 undef) (by simp [execOp, Act.eval]) ?_⟩
      exact hI.put hs 23 13 (a.tmps.getD 1 undef) (fun _ => h0) (.inl ⟨rfl, rfl, (hI.m1 h0).1⟩)
    | 24, _ =>
      obtain rfl := Option.some.inj ho
      have h0 := h2 ⟨23, .data⟩ (by simp) rfl
      have hz0 : listed.getD 0 false = true := by
        cases hq : listed.getD 0 false with
        | true => rfl
        | false => have := hI.no23 hq; rw [h0] at this; cases this
      refine ⟨rfl, wp_value (v := a.tmps.getD 13 undef) (by simp [execOp, Act.eval]) ?_⟩
      exact hI.put hs 24 0 (a.tmps.getD 13 undef) (fun _ => hz0) (.inr (.inl ⟨rfl, rfl, hI.mv h0⟩))

/-- band.Valid -/
def vldT (c : Int) : Bool := blkN c != 0
def blkF (c : Int) : Int × Int := if blkN c = 0 then (0, 2) else (blkN c, 0)

theorem bvalid_any (c : Int) (w : World) : Calls Tryd.prog 30 #[.agg #[.int .i64 c]] w fun e w' => e = .returned (.bool (vldT c)) ∧ Below w.heap.size w w' := by
  have hB : Hid (Below w.heap.size w (w.alloc (.cells #[.int .i64 c] 40)).drew) := ((Below.refl _ _).alloc (Nat.le_refl _) _).drew
  have HV := Eqn.mk (tabF_val c).1
  have HS := Eqn.mk (tabF_val c).2
  go_enter Tryd.func30, Tryd.ntmps30
  go_wp2_with fail
  refine Lx.region (C := fun w' => w'.cell? ⟨w.heap.size, 0, none⟩ = some (.int .i64 c)) (hs := [1]) (by kernel_rfl) (by kernel_rfl) (by go_simp) ?_
  repeat' (first
    | (refine Lx.lex_no (Lx.n1 rfl rfl rfl (by with_reducible rfl)) (fun K hK => ?_); go_simp; refine hK _ ?_; clear hK K)
    | (refine Lx.lex_no (Lx.n0 rfl rfl rfl (by with_reducible rfl)) (fun K hK => ?_); go_simp; refine hK _ ?_; clear hK K)
    | (refine Lx.lex_no (Lx.n2 rfl rfl rfl) (fun K hK => ?_); go_simp; refine hK _ ?_; clear hK K)
    | (refine Lx.lex_pure (v := ?_) rfl (by first | exact Lx.w0 rfl | exact Lx.w1 rfl rfl rfl (by with_reducible rfl)) ?_ (fun K hK => ?_); rotate_left 1; (intro w' hCw; (try dsimp only at hCw); go_simp; done); go_simp; refine hK _ ?_; clear hK K)
    | (refine Lx.lex_pure (v := ?_) rfl (by first | exact Lx.w0 rfl | exact Lx.w1 rfl rfl rfl (by with_reducible rfl)) ?_ (fun K hK => ?_); rotate_left 1; (intro w' hCw; (try dsimp only at hCw); go_simp; with_reducible rfl); go_simp; refine hK _ ?_; clear hK K)
    | (refine Lx.lex_read (v := ?_) rfl (by first | exact Lx.w0 rfl | exact Lx.w1 rfl rfl rfl (by with_reducible rfl)) ?_ (fun K hK => ?_); rotate_left 1; (go_simp; done); go_simp; refine hK _ ?_; clear hK K)
    | (refine Lx.lex_read (v := ?_) rfl (by first | exact Lx.w0 rfl | exact Lx.w1 rfl rfl rfl (by with_reducible rfl)) ?_ (fun K hK => ?_); rotate_left 1; (go_simp; with_reducible rfl); go_simp; refine hK _ ?_; clear hK K)
    | (refine Lx.lex_eff rfl (by first | exact Lx.w0 rfl | exact Lx.w1 rfl rfl rfl (by with_reducible rfl)) (fun K hK => ?_); go_simp; (first | (go_at_call 48; refine (blocks_any _).mono ?_; rintro e w1 ⟨g, rfl, hg, hm, hb1⟩; have q1 := hb1.cell (p := ⟨w.heap.size, 0, none⟩) (by simp); have hl := run_look_ok (P := Tryd.prog) (et := 3) target_ok Tryd.underlying101 hm (z := .int .i64 0) (by kernel_rfl) c; rw [HV.out, HS.out] at hl; simp only [encT] at hl) | skip); refine hK _ _ (by go_simp) ?_; clear hK K)
    | (refine Lx.lex_cases rfl rfl rfl (fun hgd K hK => ?_) (fun hgd K hK => ?_) <;> (try simp only [decide_eq_true_eq, decide_eq_false_iff_not] at hgd) <;> (first | (exfalso; omega) | (go_simp; refine hK _ ?_; clear hK K))))
  all_goals (refine Lx.lex_nil ?_)
  clear hl
  go_wp2_with fail
  go_ret
  exact ⟨rfl, hB.out.trans (hb1.mono (by simp))⟩

theorem bblocks_any (c : Int) (w : World) : Calls Tryd.prog 20 #[.agg #[.int .i64 c]] w fun e w' => e = .returned (.tuple #[.int .i64 (blkF c).1, .int .i64 (blkF c).2]) ∧ Below w.heap.size w w' := by
  have hB : Hid (Below w.heap.size w (w.alloc (.cells #[.int .i64 c] 40)).drew) := ((Below.refl _ _).alloc (Nat.le_refl _) _).drew
  have HV := Eqn.mk (tabF_val c).1
  have HS := Eqn.mk (tabF_val c).2
  by_cases hz : blkN c = 0
  · have hF : Eqn (blkF c) (0, 2) := by unfold blkF Eqn; rw [if_pos hz]
    have hn : (blkN c != 0) = false := by simpa using hz
    clear hz
    go_enter Tryd.func20, Tryd.ntmps20
    go_wp2_with fail
    refine Lx.region (C := fun w' => w'.cell? ⟨w.heap.size, 0, none⟩ = some (.int .i64 c)) (hs := [1]) (by kernel_rfl) (by kernel_rfl) (by go_simp) ?_
    repeat' (first
      | (refine Lx.lex_no (Lx.n1 rfl rfl rfl (by with_reducible rfl)) (fun K hK => ?_); go_simp; refine hK _ ?_; clear hK K)
      | (refine Lx.lex_no (Lx.n0 rfl rfl rfl (by with_reducible rfl)) (fun K hK => ?_); go_simp; refine hK _ ?_; clear hK K)
      | (refine Lx.lex_no (Lx.n2 rfl rfl rfl) (fun K hK => ?_); go_simp; refine hK _ ?_; clear hK K)
      | (refine Lx.lex_pure (v := ?_) rfl (by first | exact Lx.w0 rfl | exact Lx.w1 rfl rfl rfl (by with_reducible rfl)) ?_ (fun K hK => ?_); rotate_left 1; (intro w' hCw; (try dsimp only at hCw); go_simp; done); go_simp; refine hK _ ?_; clear hK K)
      | (refine Lx.lex_pure (v := ?_) rfl (by first | exact Lx.w0 rfl | exact Lx.w1 rfl rfl rfl (by with_reducible rfl)) ?_ (fun K hK => ?_); rotate_left 1; (intro w' hCw; (try dsimp only at hCw); go_simp; with_reducible rfl); go_simp; refine hK _ ?_; clear hK K)
      | (refine Lx.lex_read (v := ?_) rfl (by first | exact Lx.w0 rfl | exact Lx.w1 rfl rfl rfl (by with_reducible rfl)) ?_ (fun K hK => ?_); rotate_left 1; (go_simp; done); go_simp; refine hK _ ?_; clear hK K)
      | (refine Lx.lex_read (v := ?_) rfl (by first | exact Lx.w0 rfl | exact Lx.w1 rfl rfl rfl (by with_reducible rfl)) ?_ (fun K hK => ?_); rotate_left 1; (go_simp; with_reducible rfl); go_simp; refine hK _ ?_; clear hK K)
      | (refine Lx.lex_eff rfl (by first | exact Lx.w0 rfl | exact Lx.w1 rfl rfl rfl (by with_reducible rfl)) (fun K hK => ?_); go_simp; (first | (go_at_call 48; refine (blocks_any _).mono ?_; rintro e w1 ⟨g, rfl, hg, hm, hb1⟩; have q1 := hb1.cell (p := ⟨w.heap.size, 0, none⟩) (by simp); have hl := run_look_ok (P := Tryd.prog) (et := 3) target_ok Tryd.underlying101 hm (z := .int .i64 0) (by kernel_rfl) c; rw [HV.out, HS.out, hn] at hl; simp only [encT] at hl) | skip); refine hK _ _ (by go_simp) ?_; clear hK K)
      | (refine Lx.lex_cases rfl rfl rfl (fun hgd K hK => ?_) (fun hgd K hK => ?_) <;> (try simp only [decide_eq_true_eq, decide_eq_false_iff_not] at hgd) <;> (first | (exfalso; omega) | (go_simp; refine hK _ ?_; clear hK K))))
    all_goals (refine Lx.lex_nil ?_)
    clear hl
    go_wp2_with fail
    go_ret2
    exact ⟨by rw [hF.out]; rfl, hB.out.trans (hb1.mono (by simp))⟩
  · have hF : Eqn (blkF c) (blkN c, 0) := by unfold blkF Eqn; rw [if_neg hz]
    have hn : (blkN c != 0) = true := by simpa using hz
    clear hz
    go_enter Tryd.func20, Tryd.ntmps20
    go_wp2_with fail
    refine Lx.region (C := fun w' => w'.cell? ⟨w.heap.size, 0, none⟩ = some (.int .i64 c)) (hs := [1]) (by kernel_rfl) (by kernel_rfl) (by go_simp) ?_
    repeat' (first
      | (refine Lx.lex_no (Lx.n1 rfl rfl rfl (by with_reducible rfl)) (fun K hK => ?_); go_simp; refine hK _ ?_; clear hK K)
      | (refine Lx.lex_no (Lx.n0 rfl rfl rfl (by with_reducible rfl)) (fun K hK => ?_); go_simp; refine hK _ ?_; clear hK K)
      | (refine Lx.lex_no (Lx.n2 rfl rfl rfl) (fun K hK => ?_); go_simp; refine hK _ ?_; clear hK K)
      | (refine Lx.lex_pure (v := ?_) rfl (by first | exact Lx.w0 rfl | exact Lx.w1 rfl rfl rfl (by with_reducible rfl)) ?_ (fun K hK => ?_); rotate_left 1; (intro w' hCw; (try dsimp only at hCw); go_simp; done); go_simp; refine hK _ ?_; clear hK K)
      | (refine Lx.lex_pure (v := ?_) rfl (by first | exact Lx.w0 rfl | exact Lx.w1 rfl rfl rfl (by with_reducible rfl)) ?_ (fun K hK => ?_); rotate_left 1; (intro w' hCw; (try dsimp only at hCw); go_simp; with_reducible rfl); go_simp; refine hK _ ?_; clear hK K)
      | (refine Lx.lex_read (v := ?_) rfl (by first | exact Lx.w0 rfl | exact Lx.w1 rfl rfl rfl (by with_reducible rfl)) ?_ (fun K hK => ?_); rotate_left 1; (go_simp; done); go_simp; refine hK _ ?_; clear hK K)
      | (refine Lx.lex_read (v := ?_) rfl (by first | exact Lx.w0 rfl | exact Lx.w1 rfl rfl rfl (by with_reducible rfl)) ?_ (fun K hK => ?_); rotate_left 1; (go_simp; with_reducible rfl); go_simp; refine hK _ ?_; clear hK K)
      | (refine Lx.lex_eff rfl (by first | exact Lx.w0 rfl | exact Lx.w1 rfl rfl rfl (by with_reducible rfl)) (fun K hK => ?_); go_simp; (first | (go_at_call 48; refine (blocks_any _).mono ?_; rintro e w1 ⟨g, rfl, hg, hm, hb1⟩; have q1 := hb1.cell (p := ⟨w.heap.size, 0, none⟩) (by simp); have hl := run_look_ok (P := Tryd.prog) (et := 3) target_ok Tryd.underlying101 hm (z := .int .i64 0) (by kernel_rfl) c; rw [HV.out, HS.out, hn] at hl; simp only [encT] at hl) | skip); refine hK _ _ (by go_simp) ?_; clear hK K)
      | (refine Lx.lex_cases rfl rfl rfl (fun hgd K hK => ?_) (fun hgd K hK => ?_) <;> (try simp only [decide_eq_true_eq, decide_eq_false_iff_not] at hgd) <;> (first | (exfalso; omega) | (go_simp; refine hK _ ?_; clear hK K))))
    all_goals (refine Lx.lex_nil ?_)
    clear hl
    go_wp2_with fail
    go_ret2
    exact ⟨by rw [hF.out]; rfl, hB.out.trans (hb1.mono (by simp))⟩
end Go.Proofs.YtpdhelhngdeoeaaDoor

/- Contracts of band.Range, Of, top and of the reference's Of, Left, Blocks, Cleared, At. -/
namespace Go.Proofs.YtpdhelhngdeoeaaDoor
open Go.RowKit

def rngF (n : Int) : Int × Int × Int := if n = 1 then (2, 6, 0) else if n = 2 then (7, 13, 0) else if n = 3 then (14, 51, 0) else (0, 0, 2)
theorem range_any (n : Int) (w : World) : Calls Tryd.prog 24 #[.int .i64 n] w fun e w' => e = .returned (v3 (rngF n)) ∧ w = w' := by
  by_cases h1 : n = 1
  · subst h1
    go_enter Tryd.func24, Tryd.ntmps24
    go_wp2
    go_ret3
    exact ⟨rfl, rfl⟩
  · by_cases h2 : n = 2
    · subst h2
      go_enter Tryd.func24, Tryd.ntmps24
      go_wp2
      go_ret3
      exact ⟨rfl, rfl⟩
    · by_cases h3 : n = 3
      · subst h3
        go_enter Tryd.func24, Tryd.ntmps24
        go_wp2
        go_ret3
        exact ⟨rfl, rfl⟩
      · have HR : Eqn (rngF n) (0, 0, 2) := by rw [Eqn, rngF, if_neg h1, if_neg h2, if_neg h3]
        go_enter Tryd.func24, Tryd.ntmps24
        go_wp2
        go_ret3
        exact ⟨by rw [HR.out]; rfl, rfl⟩

/-- the band of a channel, or 0 -/
def ofB (c : Int) : Int := if 2 ≤ c ∧ c ≤ 6 then 1 else if 7 ≤ c ∧ c ≤ 13 then 2 else if 14 ≤ c ∧ c ≤ 51 then 3 else 0
def ofP (c : Int) : Int × Int := if ofB c = 0 then (0, 2) else (ofB c, 0)

theorem ofB_spec (c : Int) (j : Nat) (h0 : 1 ≤ j) (h1 : j ≤ 3) (hno : ∀ i : Nat, 1 ≤ i → i < j → ¬ ((rngF i).1 ≤ c ∧ c ≤ (rngF i).2.1)) (hy : (rngF j).1 ≤ c ∧ c ≤ (rngF j).2.1) : ofP c = ((j : Int), 0) := by
  have hj : j = 1 ∨ j = 2 ∨ j = 3 := by omega
  rcases hj with rfl | rfl | rfl
  · simp [rngF] at hy
    have h : ofB c = 1 := by unfold ofB; rw [if_pos hy]
    unfold ofP; rw [h]; rfl
  · simp [rngF] at hy
    have h : ofB c = 2 := by unfold ofB; rw [if_neg (by omega), if_pos hy]
    unfold ofP; rw [h]; rfl
  · simp [rngF] at hy
    have h : ofB c = 3 := by unfold ofB; rw [if_neg (by omega), if_neg (by omega), if_pos hy]
    unfold ofP; rw [h]; rfl
theorem ofB_none (c : Int) (hno : ∀ i : Nat, 1 ≤ i → i < 4 → ¬ ((rngF i).1 ≤ c ∧ c ≤ (rngF i).2.1)) : ofP c = (0, 2) := by
  have h1 := hno 1 (by omega) (by omega)
  have h2 := hno 2 (by omega) (by omega)
  have h3 := hno 3 (by omega) (by omega)
  simp [rngF] at h1 h2 h3
  have h : ofB c = 0 := by unfold ofB; rw [if_neg (by omega), if_neg (by omega), if_neg (by omega)]
  unfold ofP; rw [h]; rfl

theorem of26_any (c : Int) (w : World) : Calls Tryd.prog 22 #[.int .i64 c] w fun e w' => e = .returned (v2 (ofP c)) ∧ w = w' := by
  go_enter Tryd.func22, Tryd.ntmps22
  go_wp2_with fail
  go_loop [4] (fun i => ∃ j : Nat, 1 ≤ j ∧ j ≤ 4 ∧ i = .int .i64 j ∧ Hid (∀ i : Nat, 1 ≤ i → i < j → ¬ ((rngF i).1 ≤ c ∧ c ≤ (rngF i).2.1))) (fun i => 4 - (intOf i).toNat)
  case atStart => exact ⟨1, by omega, by omega, rfl, fun i h1 h2 => by omega⟩
  case round =>
    obtain ⟨j, h1, h4, rfl, HN⟩ := hrel
    by_cases hlt : j < 4
    · have j0 : (j : Int) ≤ 3 := by omega
      go_wp2_with fail
      refine (range_any j _).mono ?_
      rintro e w1 ⟨rfl, rfl⟩
      have HS := Lib.hid (ofB_spec c j h1 (by omega) HN.out)
      have HN2 : Hid (¬ ((rngF j).1 ≤ c ∧ c ≤ (rngF j).2.1) → ∀ i : Nat, 1 ≤ i → i < j + 1 → ¬ ((rngF i).1 ≤ c ∧ c ≤ (rngF i).2.1)) := Lib.hid (fun hh i h1 h2 => by
        rcases Nat.lt_or_ge i j with h | h
        · exact HN.out i h1 h
        · obtain rfl : i = j := by omega
          exact hh)
      generalize rngF (j : Int) = t at *
      obtain ⟨lo, hi, er⟩ := t
      dsimp only [v3] at HS HN2 ⊢
      clear HN
      by_cases ha : lo ≤ c
      · by_cases hb : c ≤ hi
        · have HV := Eqn.mk (HS.out ⟨ha, hb⟩)
          clear HS HN2
          go_wp2_with fail
          go_ret2
          exact ⟨by rw [HV.out]; rfl, rfl⟩
        · have HN3 := Lib.hid (HN2.out (fun h => hb h.2))
          clear HS HN2
          go_wp2_with fail
          go_round
          case rel => exact ⟨j + 1, by omega, by omega, by go_num, HN3.out⟩
          case measure => simp [intOf]; omega
      · have HN3 := Lib.hid (HN2.out (fun h => ha h.1))
        clear HS HN2
        go_wp2_with fail
        go_round
        case rel => exact ⟨j + 1, by omega, by omega, by go_num, HN3.out⟩
        case measure => simp [intOf]; omega
    · obtain rfl : j = 4 := by omega
      have HV := Eqn.mk (ofB_none c HN.out)
      clear HN hlt
      go_wp2_with fail
      go_ret2
      exact ⟨by rw [HV.out]; rfl, rfl⟩

def topF (t : Int) : Int := wrap64 (51 - t)
theorem top_any (t : Int) (w : World) : Calls Tryd.prog 69 #[.agg #[.int .i64 t]] w (RetPost (.int .i64 (topF t)) w.heap.size w) := by
  go_enter Tryd.func69, Tryd.ntmps69
  go_wp2_with fail
  go_ret
  exact ⟨rfl, (Below.refl _ w).alloc (Nat.le_refl _) _⟩
theorem to_any (t : Int) (w : World) : Calls Tryd.prog 10 #[.int .i64 t] w (RetPost (.agg #[.int .i64 t]) w.heap.size w) := by
  go_enter Tryd.func10, Tryd.ntmps10
  go_wp2_with fail
  refine bodyPost_ret (v := .agg #[.int .i64 t]) (by simp [results, Tryd.results10, go_sem]) rfl ⟨rfl, (Below.refl _ w).alloc (Nat.le_refl _) _⟩
/-- whether a channel may be assigned: the reference's words -/
def leftR (t c : Int) : Bool := decide (c < 14) || (decide (c ≤ topF t) && !decide (c = 37))
theorem leftR_any (c t : Int) (w : World) : Calls Tryd.prog 37 #[.int .i64 c, .agg #[.int .i64 t]] w (RetPost (.bool (leftR t c)) w.heap.size w) := by
  have hv : leftR t c = (decide (c < 14) || (decide (c ≤ wrap64 (51 - t)) && (c != 37))) := by unfold leftR topF; congr 2
  rw [hv]
  go_enter Tryd.func37, Tryd.ntmps37
  go_wp2_with fail
  all_goals (go_ret; refine ⟨?_, (Below.refl _ w).alloc (Nat.le_refl _) _⟩)
  all_goals first | rfl | (refine ret_bool ?_; first | rfl | (simp; done) | (simp; omega) | (have hh : decide (c ≤ wrap64 (51 - t)) = true := decide_eq_true (by assumption); rw [hh]; rfl))

theorem cleared_any (w : World) : Calls Tryd.prog 18 #[] w fun e w' => e = .returned (.slice (some ⟨w.heap.size, 0, none⟩) 11 11) ∧ w' = w.alloc (.cells #[.int .i64 24, .int .i64 23, .int .i64 21, .int .i64 19, .int .i64 18, .int .i64 14, .int .i64 13, .int .i64 12, .int .i64 10, .int .i64 8, .int .i64 7] 3) := by
  go_enter Tryd.func18, Tryd.ntmps18
  go_wp2_with fail
  go_ret
  exact ⟨rfl, rfl⟩
/-- the index of a target, or -1 -/
def atGo (c : Int) (k : Nat) : Nat → Int
  | 0 => -1
  | f + 1 => if keyE k = c then (k : Int) else atGo c (k + 1) f
def atF (c : Int) : Int := atGo c 0 11
def keysL : List Int := [24, 23, 21, 19, 18, 14, 13, 12, 10, 8, 7]
theorem keysL_at : ∀ k : Fin 11, keysL[k.1]? = some (keyE k.1) := by decide
theorem cleared_row (w : World) : Row1 intV (w.alloc (.cells #[.int .i64 24, .int .i64 23, .int .i64 21, .int .i64 19, .int .i64 18, .int .i64 14, .int .i64 13, .int .i64 12, .int .i64 10, .int .i64 8, .int .i64 7] 3)) (w.heap.size + 1) (some ⟨w.heap.size, 0, none⟩) 11 keysL := row1_new w intV 3 keysL
set_option maxHeartbeats 1000000 in
theorem at_any (c : Int) (w : World) : Calls Tryd.prog 12 #[.agg #[.int .i64 c]] w (RetPost (.int .i64 (atF c)) w.heap.size w) := by
  go_enter Tryd.func12, Tryd.ntmps12
  go_wp2_with fail
  refine (cleared_any _).mono ?_
  rintro e W1 ⟨rfl, hW1⟩
  have hr := cleared_row (w.alloc (.cells #[.int .i64 c] 40))
  rw [← hW1] at hr
  have hc : W1.cell? ⟨w.heap.size, 0, none⟩ = some (.int .i64 c) := by
    rw [hW1]; exact (((Below.refl (w.alloc (.cells #[.int .i64 c] 40)).heap.size _).alloc (Nat.le_refl _) _).cell (p := ⟨w.heap.size, 0, none⟩) (by simp)).trans (by simp [go_sem])
  have hB : Below w.heap.size w W1 := by rw [hW1]; exact ((Below.refl _ w).alloc (Nat.le_refl _) _).alloc (by simp) _
  have HR := Lib.hid hr
  have HB := Lib.hid hB
  have hsz : W1.heap.size = w.heap.size + 2 := by rw [hW1]; simp
  simp only [World.size_alloc] at HR
  clear hr hB hW1
  go_wp2_with fail
  go_loopw [4] (fun i wr => ∃ k f : Nat, k + f = 11 ∧ i = .int .i64 k ∧ Eqn (atF c) (atGo c k f) ∧ Below W1.heap.size W1 wr) (fun i _ => 11 - (intOf i).toNat)
  case atStart => exact ⟨0, 11, rfl, rfl, rfl, Below.refl _ _⟩
  case round =>
    obtain ⟨k, f, hkf, rfl, HE, hbr⟩ := hrel
    have HBR := Lib.hid (HB.out.trans (hbr.mono HB.out.size))
    have HRR := Lib.hid hbr
    have hsr := hbr.size
    replace hc := (hbr.cell (p := ⟨w.heap.size, 0, none⟩) (by dsimp only; omega)).trans hc
    cases f with
    | zero =>
      clear hbr
      obtain rfl : k = 11 := by omega
      clear hkf
      have HV : Eqn (atF c) (-1) := HE.out
      clear HE
      go_wp2_with fail
      go_ret
      exact ⟨ret_int HV.out.symm, HBR.out⟩
    | succ f =>
      have hk : k < 11 := by omega
      have j0 : (k : Int) < 11 := by omega
      have j1 : (0 : Int) ≤ (k : Int) := by omega
      obtain ⟨b, off, he, hbl, hcc⟩ := (HR.out.up (show w.heap.size + 1 + 1 ≤ W1.heap.size by omega)).below hbr |>.2 (by omega)
      cases he
      have c1 := hcc k _ (keysL_at ⟨k, hk⟩)
      simp only [intV, Nat.zero_add] at c1
      have hbw : w.heap.size + 1 < wr.heap.size := by omega
      clear hbr
      have HE2 := HE.out
      rw [atGo] at HE2
      generalize keyE k = y at *
      clear hcc HE
      by_cases hy : y = c
      · have HV := Eqn.mk (HE2.trans (if_pos hy))
        have hyd : (y == c) = true := by simpa using hy
        clear HE2 hy
        go_wp2_with fail
        refine Lx.region (C := fun _ => True) (hs := []) (by kernel_rfl) (by kernel_rfl) trivial ?_
        repeat' (first
          | (refine Lx.lex_no (Lx.n1 rfl rfl rfl (by with_reducible rfl)) (fun K hK => ?_); go_simp; refine hK _ ?_; clear hK K)
          | (refine Lx.lex_no (Lx.n0 rfl rfl rfl (by with_reducible rfl)) (fun K hK => ?_); go_simp; refine hK _ ?_; clear hK K)
          | (refine Lx.lex_no (Lx.n2 rfl rfl rfl) (fun K hK => ?_); go_simp; refine hK _ ?_; clear hK K)
          | (refine Lx.lex_pure (v := ?_) rfl (by first | exact Lx.w0 rfl | exact Lx.w1 rfl rfl rfl (by with_reducible rfl)) ?_ (fun K hK => ?_); rotate_left 1; (intro w' hCw; (try dsimp only at hCw); go_simp; done); go_simp; refine hK _ ?_; clear hK K)
          | (refine Lx.lex_pure (v := ?_) rfl (by first | exact Lx.w0 rfl | exact Lx.w1 rfl rfl rfl (by with_reducible rfl)) ?_ (fun K hK => ?_); rotate_left 1; (intro w' hCw; (try dsimp only at hCw); go_simp; with_reducible rfl); go_simp; refine hK _ ?_; clear hK K)
          | (refine Lx.lex_read (v := ?_) rfl (by first | exact Lx.w0 rfl | exact Lx.w1 rfl rfl rfl (by with_reducible rfl)) ?_ (fun K hK => ?_); rotate_left 1; (go_simp; done); go_simp; refine hK _ ?_; clear hK K)
          | (refine Lx.lex_read (v := ?_) rfl (by first | exact Lx.w0 rfl | exact Lx.w1 rfl rfl rfl (by with_reducible rfl)) ?_ (fun K hK => ?_); rotate_left 1; (go_simp; with_reducible rfl); go_simp; refine hK _ ?_; clear hK K)
          | (refine Lx.lex_eff rfl (by first | exact Lx.w0 rfl | exact Lx.w1 rfl rfl rfl (by with_reducible rfl)) (fun K hK => ?_); go_simp; (first | fail | skip); refine hK _ _ (trivial) ?_; clear hK K)
          | (refine Lx.lex_cases rfl rfl rfl (fun hgd K hK => ?_) (fun hgd K hK => ?_) <;> (try simp only [decide_eq_true_eq, decide_eq_false_iff_not] at hgd) <;> (first | (exfalso; omega) | (go_simp; refine hK _ ?_; clear hK K))))
        all_goals (refine Lx.lex_nil ?_)
        go_wp2_with fail
        go_ret
        exact ⟨ret_int HV.out.symm, HBR.out.drew⟩
      · have HV := Eqn.mk (HE2.trans (if_neg hy))
        have hyd : (y == c) = false := by simpa using hy
        clear HE2 hy
        go_wp2_with fail
        refine Lx.region (C := fun _ => True) (hs := []) (by kernel_rfl) (by kernel_rfl) trivial ?_
        repeat' (first
          | (refine Lx.lex_no (Lx.n1 rfl rfl rfl (by with_reducible rfl)) (fun K hK => ?_); go_simp; refine hK _ ?_; clear hK K)
          | (refine Lx.lex_no (Lx.n0 rfl rfl rfl (by with_reducible rfl)) (fun K hK => ?_); go_simp; refine hK _ ?_; clear hK K)
          | (refine Lx.lex_no (Lx.n2 rfl rfl rfl) (fun K hK => ?_); go_simp; refine hK _ ?_; clear hK K)
          | (refine Lx.lex_pure (v := ?_) rfl (by first | exact Lx.w0 rfl | exact Lx.w1 rfl rfl rfl (by with_reducible rfl)) ?_ (fun K hK => ?_); rotate_left 1; (intro w' hCw; (try dsimp only at hCw); go_simp; done); go_simp; refine hK _ ?_; clear hK K)
          | (refine Lx.lex_pure (v := ?_) rfl (by first | exact Lx.w0 rfl | exact Lx.w1 rfl rfl rfl (by with_reducible rfl)) ?_ (fun K hK => ?_); rotate_left 1; (intro w' hCw; (try dsimp only at hCw); go_simp; with_reducible rfl); go_simp; refine hK _ ?_; clear hK K)
          | (refine Lx.lex_read (v := ?_) rfl (by first | exact Lx.w0 rfl | exact Lx.w1 rfl rfl rfl (by with_reducible rfl)) ?_ (fun K hK => ?_); rotate_left 1; (go_simp; done); go_simp; refine hK _ ?_; clear hK K)
          | (refine Lx.lex_read (v := ?_) rfl (by first | exact Lx.w0 rfl | exact Lx.w1 rfl rfl rfl (by with_reducible rfl)) ?_ (fun K hK => ?_); rotate_left 1; (go_simp; with_reducible rfl); go_simp; refine hK _ ?_; clear hK K)
          | (refine Lx.lex_eff rfl (by first | exact Lx.w0 rfl | exact Lx.w1 rfl rfl rfl (by with_reducible rfl)) (fun K hK => ?_); go_simp; (first | fail | skip); refine hK _ _ (trivial) ?_; clear hK K)
          | (refine Lx.lex_cases rfl rfl rfl (fun hgd K hK => ?_) (fun hgd K hK => ?_) <;> (try simp only [decide_eq_true_eq, decide_eq_false_iff_not] at hgd) <;> (first | (exfalso; omega) | (go_simp; refine hK _ ?_; clear hK K))))
        all_goals (refine Lx.lex_nil ?_)
        go_wp2_with fail
        go_roundw
        case rel => exact ⟨k + 1, f, by omega, by go_num, HV, HRR.out.drew⟩
        case measure => simp [intOf]; omega
end Go.Proofs.YtpdhelhngdeoeaaDoor

namespace Go.Proofs.YtpdhelhngdeoeaaDoor
open Go.RowKit

def leftP (t c : Int) : Bool := decide (c ≤ topF t) && (c != 37)
theorem grown_step {W0 X Y : World} {r r' : Option Nat} (h : W0.grownBy X r) (k : X.grownBy Y r') (hr : r' = r ∨ ∀ g, r' = some g → W0.heap.size ≤ g) : W0.grownBy Y r := by
  refine ⟨k.os.trans h.os, k.tape.trans h.tape, k.output.trans h.output, Nat.le_trans h.size k.size, fun j hj hne => ?_⟩
  refine (k.block j (by have := h.size; omega) ?_).trans (h.block j hj hne)
  rcases hr with rfl | hr
  · exact hne
  · intro e
    have := hr j e.symm
    omega
theorem grown_of_below {X Y : World} (h : Below X.heap.size X Y) : X.grownBy Y none := ⟨h.os, h.tape, h.output, h.size, fun k hk _ => h.block k hk⟩
theorem row1_grown {α : Type} {f : α → Value} {W X : World} {r : Option Nat} {A : Option Addr} {n : Nat} {xs : List α} (h : Row1 f W W.heap.size A n xs) (hg : W.grownBy X r) (hne : ∀ a, A = some a → some a.block ≠ r) : Row1 f X X.heap.size A n xs := by
  refine ⟨h.1, fun hn => ?_⟩
  obtain ⟨b, off, rfl, hb, hc⟩ := h.2 hn
  have hs := hg.size
  refine ⟨b, off, rfl, by omega, fun k x hx => ?_⟩
  rw [World.cell?_of_block (w := W) (a := ⟨b, off + k, none⟩) (hg.block b hb (hne _ rfl))]
  exact hc k x hx

set_option maxRecDepth 100000 in
set_option maxHeartbeats 2000000 in
theorem left_any (v0 : Value) (base : Nat) (t : Int) (A : Option Addr) (n c : Nat) (w : World) (xs cs : List Int) (hb : base ≤ w.heap.size) (hO : w.ownsRow base 3 1 v0 xs.length (xs.map intV)) (hr : Row1 intV w w.heap.size A n cs) (hne : ∀ a, A = some a → some a.block ≠ v0.ownBlock) (hx : xs.length + n ≤ 100000) :
    Calls Tryd.prog 33 #[v0, .agg #[.int .i64 t], .slice A n c] w fun e w' => ∃ v', e = .returned v' ∧ w'.ownsRow base 3 1 v' (xs ++ cs.filter (leftP t)).length ((xs ++ cs.filter (leftP t)).map intV) ∧ Below base w w' ∧ w.grownBy w' v0.ownBlock ∧ (v'.ownBlock = v0.ownBlock ∨ ∃ g, v'.ownBlock = some g ∧ w.heap.size ≤ g) := by
  obtain ⟨i0, hi, hz0, hz1, hz2⟩ := info_parts int_info
  have Hlen := Eqn.mk hr.1
  have hvlt : v0.ownBlock ≠ some w.heap.size := by
    intro e
    rcases hO.2 with ⟨rfl, _⟩ | ⟨g', cap, cur, rfl, _, hgb, _⟩
    · simp [Value.ownBlock] at e
    · simp [Value.ownBlock] at e
      have := (Array.getElem?_eq_some_iff.1 hgb).1
      omega
  obtain ⟨W0, hW0⟩ : ∃ W0, W0 = w.alloc (.cells #[.int .i64 t] 40) := ⟨_, rfl⟩
  have h0s : W0.heap.size = w.heap.size + 1 := by rw [hW0]; simp
  have hO0 : W0.ownsRow base 3 1 v0 xs.length (xs.map intV) := by rw [hW0]; exact hO.alloc _
  have hr0 : Row1 intV W0 W0.heap.size A n cs := by rw [hW0]; exact hr.keep ((Below.refl _ w).alloc (Nat.le_refl _) _)
  have hc0 : W0.cell? ⟨w.heap.size, 0, none⟩ = some (.int .i64 t) := by rw [hW0]; simp [go_sem]
  have hB0 : Below base w W0 := by rw [hW0]; exact (Below.refl _ w).alloc hb _
  have hG0 : w.grownBy W0 v0.ownBlock := by rw [hW0]; exact World.grownBy_alloc w _ _
  have HW := Lib.hid (And.intro hr0 (And.intro hc0 (And.intro hB0 hG0)))
  have HO0 := Lib.hid hO0
  have HNE := Lib.hid hne
  have HVL := Lib.hid hvlt
  clear hO hr hne hvlt hO0 hr0 hc0 hB0 hG0
  go_enter Tryd.func33, Tryd.ntmps33
  go_wp2_with fail
  rw [← hW0]
  clear hW0
  go_loopw [0, 11] (fun v i wr => ∃ k : Nat, k ≤ n ∧ i = .int .i64 k ∧ wr.ownsRow base 3 1 v (xs ++ (cs.take k).filter (leftP t)).length ((xs ++ (cs.take k).filter (leftP t)).map intV) ∧ W0.grownBy wr v0.ownBlock ∧ (v.ownBlock = v0.ownBlock ∨ ∃ g, v.ownBlock = some g ∧ W0.heap.size ≤ g)) (fun _ i _ => n - (intOf i).toNat)
  case atStart => exact ⟨0, Nat.zero_le _, rfl, by simpa using HO0.out, ⟨rfl, rfl, rfl, Nat.le_refl _, fun _ _ _ => rfl⟩, .inl rfl⟩
  case round =>
    obtain ⟨k, hk, rfl, hO, hG, hv⟩ := hrel
    obtain ⟨A1, c1, rfl, _⟩ := row1_of_own hO
    have hgs := hG.size
    have hrr := row1_grown HW.out.1 hG HNE.out
    have hcc : wr.cell? ⟨w.heap.size, 0, none⟩ = some (.int .i64 t) := (World.cell?_of_block (w := W0) (a := ⟨w.heap.size, 0, none⟩) (hG.block _ (by dsimp only; omega) (fun e => HVL.out e.symm))).trans HW.out.2.1
    have hlen2 : (xs ++ (cs.take k).filter (leftP t)).length ≤ 100000 := by
      have := List.length_filter_le (leftP t) (cs.take k)
      rw [List.length_append]
      rw [List.length_take] at this
      omega
    have H1 := Lib.hid (And.intro hO (And.intro hG hv))
    have hlt1 : w.heap.size < wr.heap.size := by omega
    clear hO hG hv
    by_cases hlt : k < n
    · obtain ⟨p, hp, _⟩ := drop_at (xs := cs) (k := k) (by rw [Hlen.out]; exact hlt)
      obtain ⟨b, off, hA, hbl, hc⟩ := hrr.2 (by omega)
      subst hA
      have c0 := hc k p hp
      simp only [intV] at c0
      have j0 : (k : Int) < (n : Int) := by omega
      have HS : Eqn (xs ++ (cs.take (k + 1)).filter (leftP t)) (if leftP t p then (xs ++ (cs.take k).filter (leftP t)) ++ [p] else xs ++ (cs.take k).filter (leftP t)) := by
        rw [Eqn, List.take_add_one, hp, List.filter_append]
        by_cases h : leftP t p = true
        · simp [h]
        · simp [h]
      generalize xs ++ (cs.take k).filter (leftP t) = L at *
      have HT := Lib.hid (fun W => top_any t W)
      have HLP : Hid (leftP t p = (decide (p ≤ topF t) && (p != 37))) := Lib.hid rfl
      generalize topF t = tt at *
      clear hc hp hrr
      by_cases hle : p ≤ tt
      · by_cases h37 : p = 37
        · have HS2 : Eqn (xs ++ (cs.take (k + 1)).filter (leftP t)) L := by rw [Eqn, HS.out, if_neg (by rw [HLP.out]; simp [h37])]
          have h37d : (p == 37) = true := by simpa using h37
          clear HS HLP
          go_wp2_with fail
          refine (HT.out _).mono ?_
          rintro e w1 ⟨rfl, hb1⟩
          have H2 := Lib.hid (And.intro (own_keep H1.out.1 hb1) (grown_step H1.out.2.1 (grown_of_below hb1) (.inr (fun g h => by cases h))))
          clear hb1
          go_wp2_with fail
          go_roundw
          case rel => exact ⟨k + 1, by omega, by go_num, by rw [HS2.out]; exact H2.out.1, H2.out.2, H1.out.2.2⟩
          case measure => simp [intOf]; omega
        · have HS2 : Eqn (xs ++ (cs.take (k + 1)).filter (leftP t)) (L ++ [p]) := by rw [Eqn, HS.out, if_pos (by rw [HLP.out]; simp [h37, hle])]
          have h37d : (p == 37) = false := by simpa using h37
          clear HS HLP
          go_wp2_with fail
          refine (HT.out _).mono ?_
          rintro e w1 ⟨rfl, hb1⟩
          have H2 := Lib.hid (And.intro (own_keep H1.out.1 hb1) (grown_step H1.out.2.1 (grown_of_below hb1) (.inr (fun g h => by cases h))))
          have hs1 := hb1.size
          clear hb1
          go_wp2_with (at_builtin; refine wpList_append_own_at _ rfl _ _ 34 rfl base 3 i0 (.int .i64 0) 1 8 Tryd.underlying34 hi hz0 hz1 hz2 rfl (by decide) _ _ _ rfl (H2.out.1.alloc _) ⟨w1.heap.size, 0, none⟩ 1 1 [.int .i64 p] rfl rfl (cell_one_new _ _ _) (by simp [Value.oneCell']) (by unfold maxLen; omega) (by omega) (by simp; omega) ?_; intro v' w3 hown' hgrow hnil hat; replace hgrow : World.grownBy _ w3 (Value.slice A1 L.length c1).ownBlock := hgrow; replace hat : v'.ownBlock = (Value.slice A1 L.length c1).ownBlock ∨ v'.ownBlock = some (World.alloc w1 _).heap.size := hat; (have H3 : Hid (w3.ownsRow base 3 1 v' (L.length + 1) (L.map intV ++ [.int .i64 p]) ∧ W0.grownBy w3 v0.ownBlock ∧ (v'.ownBlock = v0.ownBlock ∨ ∃ g, v'.ownBlock = some g ∧ W0.heap.size ≤ g)) := Lib.hid ⟨hown', grown_step (grown_step H2.out.2 (World.grownBy_alloc w1 _ none) (.inr (fun g h => by cases h))) hgrow (by rcases H1.out.2.2 with h | ⟨g, h, hg⟩; exact .inl h; exact .inr (fun g' h' => by rw [h] at h'; cases h'; exact hg)), by rcases hat with h | h; (rw [h]; exact H1.out.2.2); (exact .inr ⟨_, h, by simp; omega⟩)⟩); clear hown' hgrow hnil hat)
          go_roundw
          case rel => exact ⟨k + 1, by omega, by go_num, by rw [HS2.out, List.length_append, List.map_append]; exact H3.out.1, H3.out.2⟩
          case measure => simp [intOf]; omega
      · have HS2 : Eqn (xs ++ (cs.take (k + 1)).filter (leftP t)) L := by rw [Eqn, HS.out, if_neg (by rw [HLP.out]; simp [hle])]
        clear HS HLP
        go_wp2_with fail
        refine (HT.out _).mono ?_
        rintro e w1 ⟨rfl, hb1⟩
        have H2 := Lib.hid (And.intro (own_keep H1.out.1 hb1) (grown_step H1.out.2.1 (grown_of_below hb1) (.inr (fun g h => by cases h))))
        clear hb1
        go_wp2_with fail
        go_roundw
        case rel => exact ⟨k + 1, by omega, by go_num, by rw [HS2.out]; exact H2.out.1, H2.out.2, H1.out.2.2⟩
        case measure => simp [intOf]; omega
    · have HT : Eqn (cs.take k) cs := List.take_of_length_le (by rw [Hlen.out]; omega)
      clear hrr
      rw [HT.out] at H1 hlen2 ⊢
      go_wp2_with fail
      go_ret
      refine ⟨_, rfl, H1.out.1, HW.out.2.2.1.grown H1.out.2.1 (by have := HW.out.2.2.1.size; omega) (fun g hg => own_ge HO0.out g hg), grown_step HW.out.2.2.2 H1.out.2.1 (.inl rfl), ?_⟩
      · rcases H1.out.2.2 with h | ⟨g, h, hg⟩
        · exact .inl h
        · exact .inr ⟨g, h, by omega⟩
end Go.Proofs.YtpdhelhngdeoeaaDoor
