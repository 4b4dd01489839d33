/- The reference of layer 17: Valid, the plain part. -/
import Derived.Test.YtpdhelhngdeoeaaRs17
import Derived.Test.YtpdhelhngdeoeaaRv17
namespace Go.Proofs.Ytpdhelhngdeoeaa
open Go.RowKit

/-- channels from 2 to 51, increasing -/
def chIn : Option Int → List Int → Bool
  | _, [] => true
  | prev, x :: r => if x < 2 ∨ 51 < x ∨ notUp prev x = true then false else chIn (some x) r
/-- domains: stations from 0 to 511, increasing, each with at most 50 channels -/
def domGo : Option Int → List Dom → Bool
  | _, [] => true
  | prev, d :: r => if stF d.st = false ∨ notUp prev d.st = true ∨ 50 < d.len then false else if chIn none d.chs then domGo (some d.st) r else false
def inD (ds : List Dom) (x : Int) : Bool := decide (0 ≤ findD x 0 ds)
theorem inD_mem (ds : List Dom) (x : Int) : inD ds x = decide (x ∈ ds.map Dom.st) := by
  have h := findD_neg x ds 0
  unfold inD
  by_cases hx : x ∈ ds.map Dom.st
  · rw [decide_eq_true hx] at h ⊢
    have : ¬ findD x 0 ds < 0 := by simpa using h
    exact decide_eq_true (by omega)
  · rw [decide_eq_false hx] at h ⊢
    have : findD x 0 ds < 0 := by simpa using h
    exact decide_eq_false (by omega)
def validR (ds : List Dom) (r : Rul) : Bool := decide (ds.length ≤ 512) && rulesR r && (domGo none ds && (r.pairs.all (fun x => inD ds x.a && inD ds x.b) && (r.loads.all (fun x => inD ds x.a && inD ds x.b) && r.caps.all (fun x => inD ds x.a))))
/-- the loops of a code, in their order -/
noncomputable def vdLoop (k : Nat) : Code := ((Try.f28.body.map loopsOf).getD []).getD k .skip
end Go.Proofs.Ytpdhelhngdeoeaa
