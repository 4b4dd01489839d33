/- Plain laws on a changed demand. -/
import Derived.Test.YtoafkphcfhbnmaaChange
namespace Go.Proofs.Ytoafkphcfhbnmaa
open Go.RowKit

theorem fitsF_set : ∀ (l : List Prod) (bs : List Int) (k : Nat) (p : Prod) (v : Int), fitsF l bs = true → l[k]? = some p → 0 ≤ v → v ≤ p.sup → fitsF l (bs.set k v) = true := by
  intro l
  induction l with
  | nil => intro bs k p v h hp; simp at hp
  | cons q l ih =>
    intro bs k p v h hp h0 h1
    cases bs with
    | nil => simp [fitsF] at h
    | cons y bs =>
      rw [fitsF] at h
      split at h
      · cases h
      · rename_i hn
        cases k with
        | zero =>
          simp at hp
          subst hp
          rw [List.set_cons_zero, fitsF, if_neg (by omega)]
          exact h
        | succ k =>
          rw [List.set_cons_succ, fitsF, if_neg hn]
          exact ih bs k p v h (by simpa using hp) h0 h1

theorem unitsGo_acc : ∀ (l : List Prod) (bs : List Int) (a b : Int), unitsGo l bs (a + b) = unitsGo l bs a + b := by
  intro l
  induction l with
  | nil => intro bs a b; cases bs <;> rfl
  | cons q l ih =>
    intro bs a b
    cases bs with
    | nil => rfl
    | cons y bs => rw [unitsGo, unitsGo, show a + b + y * q.units = a + y * q.units + b by omega, ih]

theorem unitsGo_set : ∀ (l : List Prod) (bs : List Int) (k : Nat) (p : Prod) (y v acc : Int), l[k]? = some p → bs[k]? = some y → unitsGo l (bs.set k v) acc = unitsGo l bs acc + (v - y) * p.units := by
  intro l
  induction l with
  | nil => intro bs k p y v acc hp; simp at hp
  | cons q l ih =>
    intro bs k p y v acc hp hy
    cases bs with
    | nil => simp at hy
    | cons z bs =>
      cases k with
      | zero =>
        simp at hp hy
        subst hp hy
        rw [List.set_cons_zero, unitsGo, unitsGo, ← unitsGo_acc, Int.sub_mul, show acc + z * q.units + (v * q.units - z * q.units) = acc + v * q.units by omega]
      | succ k =>
        rw [List.set_cons_succ, unitsGo, unitsGo]
        exact ih bs k p y v _ (by simpa using hp) (by simpa using hy)

theorem unitsF_set (l : List Prod) (bs : List Int) (k : Nat) (p : Prod) (y v : Int) (hp : l[k]? = some p) (hy : bs[k]? = some y) : unitsF l (bs.set k v) = unitsF l bs + (v - y) * p.units := unitsGo_set l bs k p y v 0 hp hy

end Go.Proofs.Ytoafkphcfhbnmaa
