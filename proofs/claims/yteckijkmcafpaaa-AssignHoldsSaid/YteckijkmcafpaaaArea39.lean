/- The area of solve as its callers make it: newArea, and what they know of it. -/
import Derived.Test.YteckijkmcafpaaaSol39
import Derived.Test.YteckijkmcafpaaaVw39
import Derived.Test.YteckijkmcafpaaaSm39
namespace Go.Proofs.Yteckijkmcafpaaa
open Go.RowKit

def rowsOf (n : Nat) (F : Nat → Nat → Int) : List (List Int) := (List.range n).map fun i => (List.range 12).map (F i)
theorem rowsOf_at {n : Nat} {F : Nat → Nat → Int} {i : Nat} (h : i < n) : (rowsOf n F)[i]? = some ((List.range 12).map (F i)) := by simp [rowsOf, h]
theorem valOf_rows {n : Nat} {F : Nat → Nat → Int} {i s : Nat} (h : i < n) (hs : s < 12) : valOf (rowsOf n F) i s = F i s := by
  unfold valOf
  rw [getD_at (rowsOf_at h), getD_at (x := F i s) (by simp [hs])]
theorem valOf_bd {n : Nat} {F : Nat → Nat → Int} {K : Int} (hK : 0 ≤ K) (h : ∀ i s, 0 ≤ F i s ∧ F i s ≤ K) (i s : Nat) : 0 ≤ valOf (rowsOf n F) i s ∧ valOf (rowsOf n F) i s ≤ K := by
  by_cases hi : i < n
  · by_cases hs : s < 12
    · rw [valOf_rows hi hs]; exact h i s
    · unfold valOf
      rw [getD_at (rowsOf_at hi), List.getD_eq_getElem?_getD, List.getElem?_eq_none (by simp; omega), Option.getD_none]
      omega
  · unfold valOf
    rw [show (rowsOf n F).getD i [] = [] by rw [List.getD_eq_getElem?_getD, List.getElem?_eq_none (by simp [rowsOf]; omega)]; rfl]
    simp; omega

/-- the table of values in memory -/
def cellsF (n : Nat) (F : Nat → Nat → Int) : List Value := tabL (n * 12) fun j => .int .i64 (F (j / 12) (j % 12))
theorem cellsF_rows {w : World} {g t n D : Nat} {F : Nat → Nat → Int} (h : Blk w g t (cellsF n F)) (hg : g < D) : RowS 12 rowV w D (some ⟨g, 0, none⟩) n (rowsOf n F) := by
  refine ⟨by simp [rowsOf], fun _ => ⟨g, 0, rfl, hg, fun k x hx j hj => ?_⟩⟩
  have hk : k < n := by
    have := (List.getElem?_eq_some_iff.1 hx).1
    simpa [rowsOf] using this
  rw [rowsOf_at hk] at hx
  injection hx with hx
  subst hx
  rw [Nat.zero_add, h.cell (tabL_at (show k * 12 + j < n * 12 by omega))]
  unfold rowV
  rw [getD_at (x := F k j) (by simp [hj])]
  congr 3
  · omega
  · omega
def updF (F : Nat → Nat → Int) (i s : Nat) (v : Int) (i' s' : Nat) : Int := if i' = i ∧ s' = s then v else F i' s'
theorem cellsF_set {w : World} {g t n : Nat} {F : Nat → Nat → Int} (h : Blk w g t (cellsF n F)) {i s : Nat} (hs : s < 12) (v : Int) : Blk (w.setCell ⟨g, i * 12 + s, none⟩ (.int .i64 v)) g t (cellsF n (updF F i s v)) := by
  have := h.set_ (i * 12 + s) (.int .i64 v)
  unfold cellsF at this ⊢
  rw [tabL_set] at this
  refine this.tab fun j _ => ?_
  unfold updF
  by_cases e : j = i * 12 + s
  · rw [if_pos e, if_pos (by omega)]
  · rw [if_neg e, if_neg (by omega)]

structure AreaO (w : World) (D g gf gt : Nat) (b n : Nat) (A : Option Addr) (c : Nat) (l : List Claim) (F : Nat → Nat → Int) (fx : List Int) : Prop where
  c0 : w.cell? ⟨g, 0, none⟩ = some (.int .i64 b)
  c1 : w.cell? ⟨g, 1, none⟩ = some (.slice A n c)
  c2 : w.cell? ⟨g, 2, none⟩ = some (.slice (some ⟨gt, 0, none⟩) n n)
  c3 : w.cell? ⟨g, 3, none⟩ = some (.slice (some ⟨gf, 0, none⟩) n n)
  cl : RowS 2 Claim.cell w D A n l
  tb : Blk w gt 78 (cellsF n F)
  fb : Blk w gf 3 (fx.map intV)
  fl : fx.length = n
  ne : gf ≠ g ∧ gf ≠ gt ∧ D ≤ g ∧ D ≤ gf ∧ D ≤ gt
  lt : g < w.heap.size
section
variable {w w' : World} {D g gf gt b n c : Nat} {A : Option Addr} {l : List Claim} {F : Nat → Nat → Int} {fx : List Int}
theorem AreaO.keep (h : AreaO w D g gf gt b n A c l F fx) (hb : Below w.heap.size w w') : AreaO w' D g gf gt b n A c l F fx where
  c0 := (hb.cell (p := ⟨g, 0, none⟩) h.lt).trans h.c0
  c1 := (hb.cell (p := ⟨g, 1, none⟩) h.lt).trans h.c1
  c2 := (hb.cell (p := ⟨g, 2, none⟩) h.lt).trans h.c2
  c3 := (hb.cell (p := ⟨g, 3, none⟩) h.lt).trans h.c3
  cl := h.cl.below (hb.mono (Nat.le_trans h.ne.2.2.1 (Nat.le_of_lt h.lt)))
  tb := h.tb.keep hb
  fb := h.fb.keep hb
  fl := h.fl
  ne := h.ne
  lt := Nat.lt_of_lt_of_le h.lt hb.size
theorem AreaO.at (h : AreaO w D g gf gt b n A c l F fx) : AreaAt w w.heap.size g b n l (rowsOf n F) fx where
  c0 := h.c0
  c1 := ⟨A, c, h.c1, h.cl.up (Nat.le_trans h.ne.2.2.1 (Nat.le_of_lt h.lt))⟩
  c2 := ⟨_, _, h.c2, cellsF_rows h.tb h.tb.lt⟩
  c3 := ⟨_, _, h.c3, h.fl, fun _ => ⟨gf, 0, rfl, h.fb.lt, fun k x hx => by rw [Nat.zero_add]; exact h.fb.cell (by rw [List.getElem?_map, hx]; rfl)⟩⟩
  lt := h.lt
theorem AreaO.set (h : AreaO w D g gf gt b n A c l F fx) (i : Nat) (s : Int) : AreaO (w.setCell ⟨gf, i, none⟩ (.int .i64 s)) D g gf gt b n A c l F (fx.set i s) where
  c0 := cell_set h.c0 h.ne.1
  c1 := cell_set h.c1 h.ne.1
  c2 := cell_set h.c2 h.ne.1
  c3 := cell_set h.c3 h.ne.1
  cl := h.cl.below ((Below.refl _ _).setCell h.ne.2.2.2.1 _)
  tb := h.tb.other _ _ h.ne.2.1
  fb := by have := h.fb.set_ i (.int .i64 s); rw [List.map_set]; exact this
  fl := by rw [List.length_set]; exact h.fl
  ne := h.ne
  lt := by simpa using h.lt
end

/-- a new area is returned -/
def NewArea (b n : Nat) (A : Option Addr) (c : Nat) (l : List Claim) (gt : Nat) (F : Nat → Nat → Int) (D : Nat) (w : World) (e : Ending) (w' : World) : Prop :=
  ∃ g gf, e = .returned (.pointer (some ⟨g, 0, none⟩)) ∧ AreaO w' D g gf gt b n A c l F (List.replicate n (-1)) ∧ Below w.heap.size w w'

set_option maxHeartbeats 2000000 in
theorem newArea_any (b n : Nat) (A : Option Addr) (c gt D : Nat) (w : World) (l : List Claim) (F : Nat → Nat → Int) (hn : n ≤ 1000) (hD : D ≤ w.heap.size) (hDt : D ≤ gt) (hl : RowS 2 Claim.cell w D A n l) (ht : Blk w gt 78 (cellsF n F)) :
    Calls Try.prog 35 #[.int .i64 b, .slice A n c, .slice (some ⟨gt, 0, none⟩) n n] w (NewArea b n A c l gt F D w) := by
  have Hl := Lib.hid hl
  have Ht := Lib.hid ht
  have hgt := ht.lt
  have mkI := fun w => mk_ints n hn w
  clear hl ht
  have A0 : Hid (AreaO ((w.alloc (.cells (tabL n fun _ => .int .i64 0).toArray 3)).alloc (.cells #[.int .i64 b, .slice A n c, .slice (some ⟨gt, 0, none⟩) n n, .slice (some ⟨w.heap.size, 0, none⟩) n n] 69)) D (w.heap.size + 1) w.heap.size gt b n A c l F (List.replicate n 0)) := by
    have b1 := blk_new w (tabL n fun _ => Value.int .i64 0) 3
    have b2 := blk_new (w.alloc (.cells (tabL n fun _ => .int .i64 0).toArray 3)) [.int .i64 b, .slice A n c, .slice (some ⟨gt, 0, none⟩) n n, .slice (some ⟨w.heap.size, 0, none⟩) n n] 69
    rw [World.size_alloc] at b2
    exact Lib.hid ⟨b2.cell rfl, b2.cell rfl, b2.cell rfl, b2.cell rfl, (Hl.out.below (((Below.refl _ _).alloc hD _).alloc (by simp; omega) _)), (Ht.out.alloc _).alloc _, by rw [tabL_rep] at b1; have := b1.alloc (.cells #[.int .i64 b, .slice A n c, .slice (some ⟨gt, 0, none⟩) n n, .slice (some ⟨w.heap.size, 0, none⟩) n n] 69); rw [List.map_replicate]; rw [tabL_rep]; exact this, by simp, ⟨by omega, by omega, by omega, by omega, hDt⟩, by simp⟩
  have B0 : Hid (Below w.heap.size w ((w.alloc (.cells (tabL n fun _ => .int .i64 0).toArray 3)).alloc (.cells #[.int .i64 b, .slice A n c, .slice (some ⟨gt, 0, none⟩) n n, .slice (some ⟨w.heap.size, 0, none⟩) n n] 69))) := Lib.hid (((Below.refl _ _).alloc (Nat.le_refl _) _).alloc (by simp) _)
  go_enter Try.func35, Try.ntmps35
  go_wp2_with fail
  go_loopw [22] (fun i wr => ∃ k : Nat, k ≤ n ∧ i = .int .i64 k ∧ AreaO wr D (w.heap.size + 1) w.heap.size gt b n A c l F (List.replicate k (-1) ++ List.replicate (n - k) 0) ∧ Below w.heap.size w wr) (fun i _ => n - (intOf i).toNat)
  case atStart => exact ⟨0, Nat.zero_le _, rfl, A0.out, B0.out⟩
  case round =>
    clear A0 B0
    obtain ⟨k, hk, rfl, HO, HW⟩ := hrel
    have HWW := Lib.hid HW
    by_cases hlt : k < n
    · have z3 := HO.c3
      obtain ⟨xx, hxx⟩ : ∃ xx, (List.replicate k (-1 : Int) ++ List.replicate (n - k) 0)[k]? = some xx := ⟨_, List.getElem?_eq_getElem (by simp; omega)⟩
      have z4 := HO.fb.cell (i := k) (x := .int .i64 xx) (by rw [List.getElem?_map, hxx]; rfl)
      have f4 := HO.fb.frozen k
      have l4 := HO.fb.lt
      have HO2 : Hid (AreaO (wr.setCell ⟨w.heap.size, k, none⟩ (.int .i64 (-1))) D (w.heap.size + 1) w.heap.size gt b n A c l F (List.replicate (k + 1) (-1) ++ List.replicate (n - (k + 1)) 0)) := by
        have h1 := HO.set k (-1)
        have e : (List.replicate k (-1 : Int) ++ List.replicate (n - k) 0).set k (-1) = List.replicate (k + 1) (-1) ++ List.replicate (n - (k + 1)) 0 := by
          have e : n - k = (n - (k + 1)) + 1 := by omega
          rw [e, List.replicate_succ, List.replicate_succ' (n := k), List.set_append_right _ _ (by simp)]
          simp
        rw [e] at h1
        exact Lib.hid h1
      have j0 : (k : Int) < (n : Int) := by omega
      clear HO HW hxx
      go_wp2_with fail
      go_roundw
      case rel => exact ⟨k + 1, by omega, by go_num, HO2.out, HWW.out.setCell (Nat.le_refl _) _⟩
      case measure => simp [intOf]; omega
    · obtain rfl : k = n := by omega
      have HO2 := Lib.hid HO
      clear HO HW
      go_wp2_with fail
      go_ret
      refine ⟨w.heap.size + 1, w.heap.size, rfl, ?_, HWW.out⟩
      have := HO2.out
      rw [Nat.sub_self] at this
      simpa using this
end Go.Proofs.Yteckijkmcafpaaa
