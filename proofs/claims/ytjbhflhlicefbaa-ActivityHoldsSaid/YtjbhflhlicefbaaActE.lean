/- Contracts of hold and room. -/
import Derived.Test.YtjbhflhlicefbaaActA
import Derived.Test.YtjbhflhlicefbaaDemB
namespace Go.Proofs.Ytjbhflhlicefbaa
open Go.RowKit

/-- a bidder that the call itself has laid into a slice of one -/
theorem bidsAt_one (w : World) (x : Bidr) (D : Nat) (hD : D ≤ w.heap.size) (hx : Row1 intV w D x.adr x.len x.blocks) (t : TypeId) :
    BidsAt (w.alloc (.cells #[.int .i64 x.id, .int .i64 x.elig, .int .i64 x.waiv, .slice x.adr x.len x.cap] t)) (w.heap.size + 1) (some ⟨w.heap.size, 0, none⟩) 1 [x] := by
  refine ⟨⟨rfl, fun _ => ⟨w.heap.size, 0, rfl, by omega, fun k y hy j hj => ?_⟩⟩, fun b hb => ?_⟩
  · cases k with
    | succ k => simp at hy
    | zero =>
      simp at hy
      subst hy
      have hh : (w.alloc (.cells #[.int .i64 x.id, .int .i64 x.elig, .int .i64 x.waiv, .slice x.adr x.len x.cap] t)).heap[w.heap.size]? = some (.cells #[.int .i64 x.id, .int .i64 x.elig, .int .i64 x.waiv, .slice x.adr x.len x.cap] t (0, 0)) := heap_alloc_new w _
      simp only [World.cell?, hh]
      match j, hj with
      | 0, _ => rfl
      | 1, _ => rfl
      | 2, _ => rfl
      | 3, _ => rfl
  · simp at hb
    subst hb
    exact (hx.below ((Below.refl _ _).alloc hD _)).up (by omega)

/-- what hold returns -/
def holdV (l : List Prod) (x : Bidr) : Value :=
  if vBidders l [x] then .tuple #[.agg #[.int .i64 x.id, .int .i64 x.elig, .int .i64 x.waiv, .slice x.adr x.len x.cap, .int .i64 (unitsF l x.blocks)], .bool true]
  else .tuple #[.agg #[.int .i64 0, .int .i64 0, .int .i64 0, .slice none 0 0, .int .i64 0], .bool false]

theorem vBidders_one {l : List Prod} {x : Bidr} (h : vBidders l [x] = true) : prodValid l = true ∧ fitsF l x.blocks = true ∧ unitsF l x.blocks ≤ x.elig ∧ ¬ badB x := by
  unfold vBidders at h
  rw [if_neg (by simp)] at h
  split at h
  · cases h
  · rename_i hv
    unfold vbGo at h
    split at h
    · cases h
    · split at h
      · cases h
      · split at h
        · cases h
        · split at h
          · cases h
          · refine ⟨by simpa using hv, ?_, by omega, by assumption⟩
            rename_i hf _ 
            simpa using hf

theorem hold_any (A : Option Addr) (n c : Nat) (w : World) (l : List Prod) (x : Bidr) (hn : n ≤ 140) (hl : RowS 5 Prod.cell w w.heap.size A n l) (hx : Row1 intV w w.heap.size x.adr x.len x.blocks) :
    Calls Try.prog 30 #[.slice A n c, x.val] w (RetPost (holdV l x) w.heap.size w) := by
  have Hl := Lib.hid hl
  have Hx := Lib.hid hx
  clear hl hx
  unfold Bidr.val
  cases hv : vBidders l [x] with
  | true =>
    have HV := Eqn.mk hv
    have hone := vBidders_one hv
    have hU : Eqn (dUnits l x.blocks) (.tuple #[.int .i64 (unitsF l x.blocks), .int .i64 0]) := by
      unfold dUnits dValid Eqn; rw [hone.1, hone.2.1]; rfl
    have hR : Eqn (holdV l x) (.tuple #[.agg #[.int .i64 x.id, .int .i64 x.elig, .int .i64 x.waiv, .slice x.adr x.len x.cap, .int .i64 (unitsF l x.blocks)], .bool true]) := by
      unfold holdV Eqn; rw [hv]; rfl
    clear hv hone
    go_enter Try.func30, Try.ntmps30
    have hsz : ((w.alloc (.cells #[.int .i64 x.id, .int .i64 x.elig, .int .i64 x.waiv, .slice x.adr x.len x.cap] 40)).alloc (.cells #[.int .i64 0, .int .i64 0, .int .i64 0, .slice none 0 0, .int .i64 0] 64)).heap.size = w.heap.size + 1 + 1 := by simp
    have hB : Hid (BidsAt (((w.alloc (.cells #[.int .i64 x.id, .int .i64 x.elig, .int .i64 x.waiv, .slice x.adr x.len x.cap] 40)).alloc (.cells #[.int .i64 0, .int .i64 0, .int .i64 0, .slice none 0 0, .int .i64 0] 64)).alloc (.cells #[.int .i64 x.id, .int .i64 x.elig, .int .i64 x.waiv, .slice x.adr x.len x.cap] 40)) (w.heap.size + 1 + 1 + 1) (some ⟨w.heap.size + 1 + 1, 0, none⟩) 1 [x]) := by
      have := bidsAt_one ((w.alloc (.cells #[.int .i64 x.id, .int .i64 x.elig, .int .i64 x.waiv, .slice x.adr x.len x.cap] 40)).alloc (.cells #[.int .i64 0, .int .i64 0, .int .i64 0, .slice none 0 0, .int .i64 0] 64)) x w.heap.size (by simp <;> omega) (Hx.out.below (((Below.refl _ _).alloc (Nat.le_refl _) _).alloc (by simp) _)) 40
      rw [hsz] at this
      exact this
    have hL : Hid (Below w.heap.size w (((w.alloc (.cells #[.int .i64 x.id, .int .i64 x.elig, .int .i64 x.waiv, .slice x.adr x.len x.cap] 40)).alloc (.cells #[.int .i64 0, .int .i64 0, .int .i64 0, .slice none 0 0, .int .i64 0] 64)).alloc (.cells #[.int .i64 x.id, .int .i64 x.elig, .int .i64 x.waiv, .slice x.adr x.len x.cap] 40))) := (((Below.refl _ _).alloc (Nat.le_refl _) _).alloc (by simp) _).alloc (by simp <;> omega) _
    clear hsz
    go_wp2_with fail
    refine (vBidders_any A _ n c 1 1 _ l [x] hn (by omega) (by exact Hl.out.keep hL.out) (by exact hB.out.up (by simp))).mono ?_
    rw [HV.out]
    rintro e w1 ⟨rfl, hb1⟩
    have HB1 := Lib.hid hb1
    have hk0 := fun o => hb1.cell (p := ⟨w.heap.size, o, none⟩) (by simp <;> omega)
    have hz1 : w.heap.size + 1 + 1 < w1.heap.size := by have := hb1.size; simp at this; omega
    have hW1 : Hid (Below w.heap.size w w1) := hL.out.trans (hb1.mono (by simp <;> omega))
    clear hb1
    go_wp2_with fail
    refine (dUnits_any A _ n c _ _ _ l x.blocks hn (by exact Hl.out.keep hW1.out) (by exact Hx.out.keep hW1.out)).mono ?_
    rw [hU.out]
    rintro e w2 ⟨rfl, hb2⟩
    have hk1 := fun o => (hb2.cell (p := ⟨w.heap.size, o, none⟩) (by simp <;> omega)).trans (hk0 o)
    have hk2 := fun o => (hb2.cell (p := ⟨w.heap.size + 1, o, none⟩) (by simp <;> omega)).trans (HB1.out.cell (p := ⟨w.heap.size + 1, o, none⟩) (by simp <;> omega))
    have hf2 := fun o => (hb2.frozen (p := ⟨w.heap.size + 1, o, none⟩) (by simp <;> omega)).trans (HB1.out.frozen (p := ⟨w.heap.size + 1, o, none⟩) (by simp <;> omega))
    have hz2 : w.heap.size + 1 + 1 < w2.heap.size := by have := hb2.size; omega
    have hW2 : Hid (Below w.heap.size w w2) := hW1.out.trans (hb2.mono (by omega))
    clear hb2 hk0
    go_wp2
    refine bodyPost_ret (v := .tuple #[.agg #[.int .i64 x.id, .int .i64 x.elig, .int .i64 x.waiv, .slice x.adr x.len x.cap, .int .i64 (unitsF l x.blocks)], .bool true]) (by simp [results, Try.results30, go_sem, hk2]) rfl ⟨?_, ?_⟩
    · rw [hR.out]
    · exact ((((hW2.out.setCell (by simp) _).setCell (by simp) _).setCell (by simp) _).setCell (by simp) _).setCell (by simp) _
  | false =>
    have HV := Eqn.mk hv
    have hR : Eqn (holdV l x) (.tuple #[.agg #[.int .i64 0, .int .i64 0, .int .i64 0, .slice none 0 0, .int .i64 0], .bool false]) := by
      unfold holdV Eqn; rw [hv]; rfl
    clear hv
    go_enter Try.func30, Try.ntmps30
    have hsz : ((w.alloc (.cells #[.int .i64 x.id, .int .i64 x.elig, .int .i64 x.waiv, .slice x.adr x.len x.cap] 40)).alloc (.cells #[.int .i64 0, .int .i64 0, .int .i64 0, .slice none 0 0, .int .i64 0] 64)).heap.size = w.heap.size + 1 + 1 := by simp
    have hB : Hid (BidsAt (((w.alloc (.cells #[.int .i64 x.id, .int .i64 x.elig, .int .i64 x.waiv, .slice x.adr x.len x.cap] 40)).alloc (.cells #[.int .i64 0, .int .i64 0, .int .i64 0, .slice none 0 0, .int .i64 0] 64)).alloc (.cells #[.int .i64 x.id, .int .i64 x.elig, .int .i64 x.waiv, .slice x.adr x.len x.cap] 40)) (w.heap.size + 1 + 1 + 1) (some ⟨w.heap.size + 1 + 1, 0, none⟩) 1 [x]) := by
      have := bidsAt_one ((w.alloc (.cells #[.int .i64 x.id, .int .i64 x.elig, .int .i64 x.waiv, .slice x.adr x.len x.cap] 40)).alloc (.cells #[.int .i64 0, .int .i64 0, .int .i64 0, .slice none 0 0, .int .i64 0] 64)) x w.heap.size (by simp <;> omega) (Hx.out.below (((Below.refl _ _).alloc (Nat.le_refl _) _).alloc (by simp) _)) 40
      rw [hsz] at this
      exact this
    have hL : Hid (Below w.heap.size w (((w.alloc (.cells #[.int .i64 x.id, .int .i64 x.elig, .int .i64 x.waiv, .slice x.adr x.len x.cap] 40)).alloc (.cells #[.int .i64 0, .int .i64 0, .int .i64 0, .slice none 0 0, .int .i64 0] 64)).alloc (.cells #[.int .i64 x.id, .int .i64 x.elig, .int .i64 x.waiv, .slice x.adr x.len x.cap] 40))) := (((Below.refl _ _).alloc (Nat.le_refl _) _).alloc (by simp) _).alloc (by simp <;> omega) _
    clear hsz
    go_wp2_with fail
    refine (vBidders_any A _ n c 1 1 _ l [x] hn (by omega) (by exact Hl.out.keep hL.out) (by exact hB.out.up (by simp))).mono ?_
    rw [HV.out]
    rintro e w1 ⟨rfl, hb1⟩
    have hk2 := fun o => hb1.cell (p := ⟨w.heap.size + 1, o, none⟩) (by simp <;> omega)
    have hf2 := fun o => hb1.frozen (p := ⟨w.heap.size + 1, o, none⟩) (by simp <;> omega)
    have hz1 : w.heap.size + 1 + 1 < w1.heap.size := by have := hb1.size; simp at this; omega
    have hW1 : Hid (Below w.heap.size w w1) := hL.out.trans (hb1.mono (by simp <;> omega))
    clear hb1
    go_wp2
    refine bodyPost_ret (v := .tuple #[.agg #[.int .i64 0, .int .i64 0, .int .i64 0, .slice none 0 0, .int .i64 0], .bool false]) (by simp [results, Try.results30, go_sem, hk2]) rfl ⟨?_, ?_⟩
    · rw [hR.out]
    · exact ((((hW1.out.setCell (by simp) _).setCell (by simp) _).setCell (by simp) _).setCell (by simp) _).setCell (by simp) _
end Go.Proofs.Ytjbhflhlicefbaa
