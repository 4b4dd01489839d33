/- Maps that the call itself makes, with keys that are structs of numbers: what is read after what was written. Nothing of the program is named here. -/
import Derived.Test.YtpdhelhngdeoeaaBase
import Derived.MapKept
import Derived.Laws.StructEq
import Derived.Laws.AppendOwn
namespace Go.Proofs.Ytpdhelhngdeoeaa
open Go.RowKit

section
variable {P : Program} {κ : Type} [DecidableEq κ]

/-- What is needed of a key's type: enc gives a key's value. -/
structure KeyOk (P : Program) (kt : TypeId) (enc : κ → Value) : Prop where
  under : ∃ d, P.underlying kt = some d ∧ ∀ x y, Instr.sameNow d (enc x) (enc y) = none
  check : ∀ w em x, (Instr.checkKey em 10000 kt (enc x)).run P w = .ok () w
  eq : ∀ w x y, (Op.equal kt (enc x) (enc y)).run P w = .ok (decide (x = y)) w
  same : ∀ x, Instr.sameBits 10000 (enc x) (enc x) = true

def findI (x : κ) : List (κ × Value) → Nat → Option (Nat × Value)
  | [], _ => none
  | p :: r, i => if x = p.1 then some (i, p.2) else findI x r (i + 1)

def lookL (x : κ) : List (κ × Value) → Option Value
  | [] => none
  | p :: r => if x = p.1 then some p.2 else lookL x r

theorem findI_look (x : κ) : ∀ (L : List (κ × Value)) (i : Nat), (findI x L i).map (·.2) = lookL x L := by
  intro L
  induction L with
  | nil => intro i; rfl
  | cons p r ih => intro i; rw [findI, lookL]; split <;> simp [ih]

/-- how the entries read -/
def Reads (enc : κ → Value) (es : List MapEntry) (L : List (κ × Value)) : Prop := es.map (fun e => (e.key, e.val)) = L.map (fun p => (enc p.1, p.2))

theorem run_asking {kt : TypeId} {enc : κ → Value} (K : KeyOk P kt enc) (w : World) (x : κ) : ∀ (es : List MapEntry) (L : List (κ × Value)) (i : Nat), Reads enc es L → (Instr.findAsking kt (enc x) es i).run P w = .ok (findI x L i) w := by
  intro es
  induction es with
  | nil =>
    intro L i h
    cases L with
    | nil => simp [Instr.findAsking, findI]
    | cons => simp [Reads] at h
  | cons e es ih =>
    intro L i h
    cases L with
    | nil => simp [Reads] at h
    | cons p r =>
      simp only [Reads, List.map_cons, List.cons.injEq, Prod.mk.injEq] at h
      obtain ⟨⟨hk, hv⟩, hr⟩ := h
      rw [Instr.findAsking, Sem.run_bind, hk, K.eq, Result.andThen_ok, findI]
      by_cases hx : x = p.1
      · simp [hx, hv]
      · simp only [hx, decide_false, Bool.false_eq_true, if_false]
        exact ih r (i + 1) hr

theorem run_find {kt : TypeId} {enc : κ → Value} (K : KeyOk P kt enc) (w : World) (x : κ) (es : List MapEntry) (L : List (κ × Value)) (h : Reads enc es L) : (Instr.findKey kt (enc x) es).run P w = .ok (findI x L 0) w := by
  obtain ⟨d, hd, hn⟩ := K.under
  unfold Instr.findKey
  rw [Sem.run_bind, run_underlying hd, Result.andThen_ok]
  cases es with
  | nil =>
    cases L with
    | nil => simp [Instr.findNow, findI]
    | cons => simp [Reads] at h
  | cons e es =>
    cases L with
    | nil => simp [Reads] at h
    | cons p r =>
      have h' := h
      simp only [Reads, List.map_cons, List.cons.injEq, Prod.mk.injEq] at h'
      rw [Instr.findNow, h'.1.1, hn]
      exact run_asking K w x _ _ 0 h

/-- block b is a map of the call's own in which key x has the element f x -/
def MapF (enc : κ → Value) (w : World) (b : Nat) (f : κ → Option Value) : Prop :=
  ∃ es clock L, w.heap[b]? = some (.map es clock) ∧ Reads enc es.toList L ∧ ∀ y, lookL y L = f y

theorem MapF.lt {enc : κ → Value} {w : World} {b : Nat} {f : κ → Option Value} (h : MapF enc w b f) : b < w.heap.size := by
  obtain ⟨es, cl, L, hb, _⟩ := h
  rcases Nat.lt_or_ge b w.heap.size with h1 | h1
  · exact h1
  · rw [Array.getElem?_eq_none h1] at hb; cases hb

theorem MapF.congr {enc : κ → Value} {w w' : World} {b : Nat} {f : κ → Option Value} (h : MapF enc w b f) (hb : w'.heap[b]? = w.heap[b]?) : MapF enc w' b f := by
  obtain ⟨es, cl, L, h1, h2⟩ := h
  exact ⟨es, cl, L, by rw [hb]; exact h1, h2⟩
theorem MapF.below {enc : κ → Value} {w w' : World} {B b : Nat} {f : κ → Option Value} (h : MapF enc w b f) (hb : Below B w w') (hB : b < B) : MapF enc w' b f := h.congr (hb.block b hB)
theorem MapF.alloc {enc : κ → Value} {w : World} {b : Nat} {f : κ → Option Value} (h : MapF enc w b f) (o : Obj) : MapF enc (w.alloc o) b f :=
  h.congr (Below.heap_alloc _ _ _ h.lt)
theorem MapF.grown {enc : κ → Value} {w w' : World} {b : Nat} {f : κ → Option Value} {row : Option Nat} (h : MapF enc w b f) (hg : w.grownBy w' row) (hne : row ≠ some b) : MapF enc w' b f :=
  h.congr (hg.block b h.lt (fun e => hne e.symm))

theorem MapF.setCell {enc : κ → Value} {w : World} {b : Nat} {f : κ → Option Value} (h : MapF enc w b f) (a : Addr) (u : Value) (ha : a.block ≠ b) : MapF enc (w.setCell a u) b f :=
  h.congr (Below.heap_setCell _ _ _ _ (fun e => ha e.symm))

theorem MapF.made (enc : κ → Value) (w : World) : MapF enc (w.alloc (.map #[] 0)) w.heap.size (fun _ => none) :=
  ⟨#[], 0, [], heap_alloc_new w _, rfl, fun _ => rfl⟩

theorem run_look {t kt et : TypeId} {enc : κ → Value} (K : KeyOk P kt enc) (ht : P.underlying t = some (.map kt et)) {w : World} {b : Nat} {f : κ → Option Value} (h : MapF enc w b f) {z : Value} (hz : (zeroValue et).run P w = .ok z w) (x : κ) :
    (Instr.lookup t (.map (some b)) (enc x) false).run P w = .ok ((f x).getD z) w := by
  obtain ⟨es, cl, L, hb, hR, hL⟩ := h
  unfold Instr.lookup
  simp only [Sem.run_bind, run_underlying ht, Result.andThen_ok, MapKept.run_getObj_map hb, Sem.run_pure, K.check, run_find K w x _ _ hR]
  rw [← hL, ← findI_look x L 0]
  cases findI x L 0 with
  | none => simp [hz]
  | some r => simp

theorem run_look_ok {t kt et : TypeId} {enc : κ → Value} (K : KeyOk P kt enc) (ht : P.underlying t = some (.map kt et)) {w : World} {b : Nat} {f : κ → Option Value} (h : MapF enc w b f) {z : Value} (hz : (zeroValue et).run P w = .ok z w) (x : κ) :
    (Instr.lookup t (.map (some b)) (enc x) true).run P w = .ok (.tuple #[(f x).getD z, .bool (f x).isSome]) w := by
  obtain ⟨es, cl, L, hb, hR, hL⟩ := h
  unfold Instr.lookup
  simp only [Sem.run_bind, run_underlying ht, Result.andThen_ok, MapKept.run_getObj_map hb, Sem.run_pure, K.check, run_find K w x _ _ hR]
  rw [← hL, ← findI_look x L 0]
  cases findI x L 0 with
  | none => simp [hz]
  | some r => simp

theorem findI_at (x : κ) : ∀ (L : List (κ × Value)) (i j : Nat) (v : Value), findI x L i = some (j, v) → i ≤ j ∧ ∃ p, L[j - i]? = some p ∧ p.1 = x ∧ ∀ u y, lookL y (L.set (j - i) (x, u)) = if y = x then some u else lookL y L := by
  intro L
  induction L with
  | nil => intro i j v h; cases h
  | cons p r ih =>
    intro i j v h
    rw [findI] at h
    split at h
    · rename_i hx
      injection h with h
      injection h with h1 h2
      subst h1
      refine ⟨Nat.le_refl _, p, by simp, hx.symm, fun u y => ?_⟩
      rw [Nat.sub_self, List.set_cons_zero, lookL, lookL]
      dsimp only
      by_cases hy : y = x
      · simp [hy]
      · rw [if_neg hy, if_neg hy, if_neg (by rw [← hx]; exact hy)]
    · rename_i hx
      obtain ⟨h1, q, h2, h3, h4⟩ := ih (i + 1) j v h
      have hj : j - i = (j - (i + 1)) + 1 := by omega
      refine ⟨by omega, q, by rw [hj]; simpa using h2, h3, fun u y => ?_⟩
      rw [hj, List.set_cons_succ, lookL, lookL, h4]
      by_cases hy : y = x
      · subst hy; simp [hx]
      · simp [hy]

theorem findI_none (x : κ) : ∀ (L : List (κ × Value)) (i : Nat), findI x L i = none → ∀ u y, lookL y (L ++ [(x, u)]) = if y = x then some u else lookL y L := by
  intro L
  induction L with
  | nil => intro i _ u y; simp [lookL]
  | cons p r ih =>
    intro i h u y
    rw [findI] at h
    split at h
    · cases h
    · rename_i hx
      rw [List.cons_append, lookL, lookL, ih (i + 1) h]
      by_cases hy : y = x
      · subst hy; simp [hx]
      · simp [hy]

theorem run_put {t kt et : TypeId} {enc : κ → Value} (K : KeyOk P kt enc) (ht : P.underlying t = some (.map kt et)) {w : World} {b : Nat} {f : κ → Option Value} (h : MapF enc w b f) (x : κ) (v : Value) :
    ∃ w', (Instr.mapUpdate t (.map (some b)) (enc x) v).run P w = .ok () w' ∧ MapF enc w' b (fun y => if y = x then some v else f y) ∧ w.grownBy w' (some b) := by
  have hlt := h.lt
  obtain ⟨es, cl, L, hb, hR, hL⟩ := h
  have hg : ∀ o : Obj, w.grownBy { w with heap := w.heap.setIfInBounds b o } (some b) := fun o =>
    ⟨rfl, rfl, rfl, by simp, fun k _ hk => by
      have : k ≠ b := fun e => hk (by rw [e])
      simp [Array.getElem?_setIfInBounds_ne (Ne.symm this)]⟩
  unfold Instr.mapUpdate
  simp only [Sem.run_bind, run_underlying ht, Result.andThen_ok, MapKept.run_getObj_map hb, K.check, run_find K w x _ _ hR]
  cases hf : findI x L 0 with
  | none =>
    simp only [MapKept.run_setObj_map _ hb]
    refine ⟨_, rfl, ⟨es.push ⟨enc x, v, cl⟩, cl + 1, L ++ [(x, v)], by simp [hlt], ?_, fun y => ?_⟩, hg _⟩
    · unfold Reads at hR ⊢
      simp [hR]
    · rw [findI_none x L 0 hf v y, hL]
  | some r =>
    obtain ⟨j, u⟩ := r
    obtain ⟨_, p, hp, hpx, hset⟩ := findI_at x L 0 j u hf
    rw [Nat.sub_zero] at hp hset
    have hlen : es.toList.length = L.length := by unfold Reads at hR; have := congrArg List.length hR; simpa using this
    have hjl : j < L.length := (List.getElem?_eq_some_iff.1 hp).1
    have hje : j < es.size := by rw [← Array.length_toList, hlen]; exact hjl
    have hkey : (es[j]?.map (·.key)).getD (enc x) = enc x := by
      have h1 := congrArg (fun l => l[j]?) hR
      simp only [List.getElem?_map, hp, Array.getElem?_toList] at h1
      cases he : es[j]? with
      | none => rfl
      | some e =>
        rw [he] at h1
        simp only [Option.map_some, Option.some.injEq, Prod.mk.injEq] at h1
        simp [h1.1, hpx]
    simp only [hkey, Instr.keyThatStays, K.same, if_true, Sem.run_bind, Sem.run_pure, Result.andThen_ok, MapKept.run_setObj_map _ hb]
    refine ⟨_, rfl, ⟨es.modify j fun e => { e with key := enc x, val := v }, cl, L.set j (x, v), by simp [hlt], ?_, fun y => ?_⟩, hg _⟩
    · unfold Reads at hR ⊢
      apply List.ext_getElem?
      intro m
      have h1 := congrArg (fun l => l[m]?) hR
      simp only [List.getElem?_map, Array.getElem?_toList, Array.getElem?_modify, List.getElem?_set] at h1 ⊢
      by_cases hm : j = m
      · subst hm
        simp [hje, hjl]
      · simp only [hm, if_false]
        exact h1
    · rw [hset v y, hL]
end
end Go.Proofs.Ytpdhelhngdeoeaa
