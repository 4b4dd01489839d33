/- How arguments that came in read: numbers, slices of numbers, slices of structs. Nothing of the program is named here. -/
import Derived.Test.YtpdhelhngdeoeaaBase
import Derived.ProofKit
import Derived.OpenShut
import Derived.ShutString
import Derived.ChangeOld
import Derived.Below
import Derived.Deep.Slices
import Derived.Deep.Fields
import Derived.ChangeSame
namespace Go.Proofs.Ytpdhelhngdeoeaa
open Go.RowKit Go.ChangeShapes Go.WideShapes Go.ChangeAt Go.Deep

theorem i64_of_wf {n : Int} (h : (Lit.int .i64 n).wf = true) : I64 n := by
  have := bounds_i64 h
  unfold I64; omega

theorem lt_of_cell {w : World} {a : Addr} {v : Value} (h : w.cell? a = some v) : a.block < w.heap.size ∧ a.spot = none := by
  unfold World.cell? at h
  split at h
  · rename_i c e f hh
    refine ⟨?_, ?_⟩
    · rcases Nat.lt_or_ge a.block w.heap.size with h1 | h1
      · exact h1
      · rw [Array.getElem?_eq_none h1] at hh; cases hh
    · split at h
      · cases h
      · rename_i hs; simpa using hs
  · cases h

section
variable {H : Type} {enc : TypeId × Value → H} {P : Program} {w : World} {base b0 : Nat} {spare : Nat → Bool} {held : Bool} {r : Reach}

theorem arg_int {t : TypeId} {v : Value} {d : DataW H} {p : List MemPlace} (ht : P.underlying t = some (.int .i64)) (hv : Value.okWide P w r b0 t v) (h : DataW.Trod enc P w base spare held t v d p) :
    ∃ a, v = .int .i64 a ∧ I64 a := by
  obtain ⟨a, rfl, _, _, wa⟩ := open_int ht hv h
  exact ⟨a, rfl, i64_of_wf wa⟩

theorem ints_of_trod {t e : TypeId} {fuel : Nat} {A : Option Addr} {n c : Nat} {x : DataW H × List MemPlace} (ht : P.underlying t = some (.slice e)) (he : P.underlying e = some (.int .i64)) (hc : P.cellsOf e = 1)
    (hf : DataW.trod enc P w base spare held fuel t [.slice A n c] = some x) : ∃ xs : List Int, Row1 (fun z => .int .i64 z) w w.heap.size A n xs ∧ (∀ z ∈ xs, I64 z) ∧ n ≤ 9223372036854775807 := by
  rcases open_ints ht he hc hf with ⟨hcs, _⟩ | ⟨x, l, c', zs, hcs, _, hl, hm, hz, _, hcell, hwz⟩
  · simp at hcs
    obtain ⟨rfl, rfl, rfl⟩ := hcs
    exact ⟨[], Row1.nil _ _ _ _, (fun _ h => by cases h), by omega⟩
  · simp at hcs
    obtain ⟨rfl, rfl, rfl⟩ := hcs
    have hzl : n ≤ zs.length := by rw [hz]; split <;> omega
    refine ⟨zs.take n, ⟨by rw [List.length_take]; omega, fun hn => ?_⟩, fun z h => i64_of_wf (hwz z (List.mem_of_mem_take h)), by unfold maxLen at hm; omega⟩
    have h0 := hcell 0 (by omega)
    obtain ⟨hlt, hsp⟩ := lt_of_cell h0
    obtain ⟨b, off, spot⟩ := x
    simp only [Addr.add, if_true] at hlt hsp
    subst hsp
    refine ⟨b, off, rfl, hlt, fun k z hk => ?_⟩
    have hkn : k < n := by
      have := (List.getElem?_eq_some_iff.1 hk).1
      rw [List.length_take] at this
      omega
    have h1 := hcell k (by omega)
    rw [List.getElem?_take_of_lt hkn] at hk
    rw [List.getD_eq_getElem?_getD, hk] at h1
    by_cases hk0 : k = 0
    · subst hk0
      simpa [Addr.add] using h1
    · simpa [Addr.add, hk0] using h1

theorem arg_ints {t e : TypeId} {v : Value} {d : DataW H} {p : List MemPlace} (ht : P.underlying t = some (.slice e)) (he : P.underlying e = some (.int .i64)) (hc : P.cellsOf e = 1)
    (hv : Value.okWide P w r b0 t v) (h : DataW.Trod enc P w base spare held t v d p) :
    ∃ A n c xs, v = .slice A n c ∧ Row1 (fun z => .int .i64 z) w w.heap.size A n xs ∧ (∀ z ∈ xs, I64 z) ∧ n ≤ 9223372036854775807 := by
  obtain ⟨A, n, c, rfl⟩ := okWide_slice ht hv
  obtain ⟨fuel, hf⟩ := h
  obtain ⟨xs, h1, h2, h3⟩ := ints_of_trod ht he hc (by simpa [Value.cells] using hf)
  exact ⟨A, n, c, xs, rfl, h1, h2, h3⟩

theorem choose_fn {β : Type} (d : β) {Q : Nat → β → Prop} {m : Nat} (h : ∀ i, i < m → ∃ b, Q i b) : ∃ G : Nat → β, ∀ i, i < m → Q i (G i) := by
  refine ⟨fun i => if h' : i < m then Classical.choose (h i h') else d, fun i hi => ?_⟩
  dsimp only
  rw [dif_pos hi]
  exact Classical.choose_spec (h i hi)

theorem addr_add (b off : Nat) (k : Nat) : (⟨b, off, none⟩ : Addr).add k = ⟨b, off + k, none⟩ := by
  unfold Addr.add
  by_cases h : k = 0
  · subst h; rfl
  · rw [if_neg h]

/-- a slice whose elements take sz cells each -/
theorem elems_of_trod {t e : TypeId} {fuel sz : Nat} {A : Option Addr} {n c : Nat} {x : DataW H × List MemPlace} (ht : P.underlying t = some (.slice e)) (hC : P.cellsOf e = sz) (hsz : 0 < sz)
    (hf : DataW.trod enc P w base spare held fuel t [.slice A n c] = some x) :
    n ≤ 9223372036854775807 ∧ ∃ (G : Nat → List Value) (m : Nat), (∀ i, i < n → (G i).length = sz ∧ ∃ y, DataW.trod enc P w base spare held m e (G i) = some y) ∧
      (0 < n → ∃ b off, A = some ⟨b, off, none⟩ ∧ b < w.heap.size ∧ ∀ i, i < n → ∀ j, j < sz → w.cell? ⟨b, off + i * sz + j, none⟩ = (G i)[j]?) := by
  rcases open_slice ht hf with ⟨hcs, _⟩ | ⟨a, len, cap, m, fu, D, Pl, hcs, _, hl, hm, hmm, _, hi⟩
  · simp at hcs
    obtain ⟨rfl, rfl, rfl⟩ := hcs
    exact ⟨by omega, fun _ => [], 0, fun i h => absurd h (by omega), fun h => absurd h (by omega)⟩
  · simp at hcs
    obtain ⟨rfl, rfl, rfl⟩ := hcs
    have hnm : n ≤ m := by rw [hmm]; split <;> omega
    rw [hC] at hi
    obtain ⟨G, hG⟩ := choose_fn [] hi
    refine ⟨by unfold maxLen at hm; omega, G, fu, fun i hin => ?_, fun hn => ?_⟩
    · obtain ⟨h1, h2⟩ := hG i (by omega)
      exact ⟨(World.cells?_some h1).2.1, _, h2⟩
    · have h0 := hG 0 (by omega)
      obtain ⟨_, hlen, hat⟩ := World.cells?_some h0.1
      have hc0 := hat 0 hsz
      rw [List.getElem?_eq_getElem (by omega)] at hc0
      obtain ⟨hlt, hsp⟩ := lt_of_cell hc0
      obtain ⟨b, off, spot⟩ := a
      simp only [Addr.add, Nat.zero_mul, if_true] at hlt hsp
      subst hsp
      refine ⟨b, off, rfl, hlt, fun i hin j hj => ?_⟩
      have h2 := (World.cells?_some (hG i (by omega)).1).2.2 j hj
      rw [addr_add, addr_add] at h2
      exact h2

theorem rowS_of_elems {α : Type} {sz n : Nat} {A : Option Addr} (f : α → Nat → Value) (Pr : α → Prop) (G : Nat → List Value) (hG : ∀ i, i < n → ∃ a, Pr a ∧ ∀ j, j < sz → (G i)[j]? = some (f a j))
    (hA : 0 < n → ∃ b off, A = some ⟨b, off, none⟩ ∧ b < w.heap.size ∧ ∀ i, i < n → ∀ j, j < sz → w.cell? ⟨b, off + i * sz + j, none⟩ = (G i)[j]?) :
    ∃ xs : List α, RowS sz f w w.heap.size A n xs ∧ ∀ a ∈ xs, Pr a := by
  refine ⟨List.ofFn fun i : Fin n => Classical.choose (hG i.1 i.2), ⟨by simp, fun hn => ?_⟩, fun a ha => ?_⟩
  · obtain ⟨b, off, h1, h2, h3⟩ := hA hn
    refine ⟨b, off, h1, h2, fun k x hx j hj => ?_⟩
    have hk : k < n := by have := (List.getElem?_eq_some_iff.1 hx).1; simpa using this
    rw [List.getElem?_ofFn, dif_pos hk] at hx
    injection hx with hx
    rw [h3 k hk j hj, ← hx]
    exact (Classical.choose_spec (hG k hk)).2 j hj
  · obtain ⟨i, rfl⟩ := List.mem_ofFn.1 ha
    exact (Classical.choose_spec (hG i.1 i.2)).1

def isI64 (d : Option TypeDesc) : Bool := match d with | some (.int .i64) => true | _ => false
theorem isI64_spec {d : Option TypeDesc} (h : isI64 d = true) : d = some (.int .i64) := by
  unfold isI64 at h
  split at h
  · rfl
  · cases h

/-- a struct whose first m fields are ints -/
theorem fields_of_trod {e : TypeId} {fs : Array Field} {fuel : Nat} {cs : List Value} {y : DataW H × List MemPlace} (he : P.underlying e = some (.struct fs)) (hone : oneCellFields P fs = true) (hC : P.cellsOf e = fs.size)
    (h : DataW.trod enc P w base spare held fuel e cs = some y) : ∃ m, ∀ (j : Nat) (f : Field), fs[j]? = some f → ∃ v z, cs[j]? = some v ∧ DataW.trod enc P w base spare held m f.type [v] = some z := by
  obtain ⟨ys, m, _, _, hlen, hyl, hf⟩ := DataW.trod_struct he h
  refine ⟨m, fun j f hj => ?_⟩
  obtain ⟨ho, hk⟩ := hone_of hone j f hj
  have hjl : j < fs.size := (Array.getElem?_eq_some_iff.1 hj).1
  have hjc : j < cs.length := by omega
  have h1 := hf j f hj
  rw [ho, hk] at h1
  have h2 : (cs.drop j).take 1 = [cs[j]] := by
    rw [List.drop_eq_getElem_cons hjc]; rfl
  rw [h2, List.getElem?_eq_getElem (by omega)] at h1
  exact ⟨_, _, List.getElem?_eq_getElem hjc, h1⟩

/-- a struct of ints -/
theorem ints_of_struct {e : TypeId} {fs : Array Field} {fuel : Nat} {cs : List Value} {y : DataW H × List MemPlace} (he : P.underlying e = some (.struct fs)) (hone : oneCellFields P fs = true) (hC : P.cellsOf e = fs.size)
    (hint : (fs.all fun f => isI64 (P.underlying f.type)) = true) (h : DataW.trod enc P w base spare held fuel e cs = some y) :
    ∃ g : Nat → Int, ∀ j, j < fs.size → cs[j]? = some (.int .i64 (g j)) ∧ I64 (g j) := by
  obtain ⟨m, hm⟩ := fields_of_trod he hone hC h
  have key : ∀ j, j < fs.size → ∃ z, cs[j]? = some (.int .i64 z) ∧ I64 z := by
    intro j hj
    obtain ⟨v, z, h1, h2⟩ := hm j fs[j] (Array.getElem?_eq_getElem hj)
    have h3 := isI64_spec (Array.all_eq_true.1 hint j hj)
    obtain ⟨q, hq, _, hw⟩ := DataW.trod_int h3 h2
    simp at hq
    subst hq
    exact ⟨q, h1, i64_of_wf hw⟩
  exact choose_fn 0 key
end
end Go.Proofs.Ytpdhelhngdeoeaa
