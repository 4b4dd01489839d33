/- Contract of product.counts. -/
import Derived.Test.YtpgomblalmnonaaDoorCat33
import Derived.Test.YtpgomblalmnonaaDoorImp33
namespace Go.Proofs.YtpgomblalmnonaaDoor
open Go.RowKit

/-- the per cent of each block -/
def pcsGo (area : Int) : List Imp → List Int → List Int
  | [], s => s
  | i :: r, s => pcsGo area r (if i.area = area then s.set i.block.toNat i.pct else s)
def pcsF (area : Int) (l : List Imp) : List Int := pcsGo area l (List.replicate 12 0)
/-- how many blocks have a category -/
def cntGo : List Int → List Int → List Int
  | [], n => n
  | p :: r, n => cntGo r (n.set (catF p).1.toNat (n.getD (catF p).1.toNat 0 + 1))
def countsF (area : Int) (nb : Nat) (l : List Imp) : List Int := cntGo ((pcsF area l).take nb) [0, 0, 0]

theorem pcsGo_len (area : Int) : ∀ (l : List Imp) (s : List Int), (pcsGo area l s).length = s.length := by
  intro l
  induction l with
  | nil => intro s; rfl
  | cons i r ih => intro s; rw [pcsGo, ih]; split <;> simp
theorem cntGo_len : ∀ (l n : List Int), (cntGo l n).length = n.length := by
  intro l
  induction l with
  | nil => intro n; rfl
  | cons p r ih => intro n; rw [cntGo, ih]; simp

theorem impsGo_ok : ∀ (l : List Imp) (prev : Option Imp), impsGo l prev = true → ∀ i ∈ l, ¬ badI i := by
  intro l
  induction l with
  | nil => intro _ _ i hi; cases hi
  | cons a r ih =>
    intro prev h i hi
    rw [impsGo] at h
    split at h
    · cases h
    · rename_i hb
      split at h
      · cases h
      · rcases List.mem_cons.1 hi with rfl | hi
        · exact hb
        · exact ih _ h i hi

theorem IntBlk.other {w : World} {g t : Nat} {s : List Int} (h : IntBlk w g t s) (a : Addr) (v : Value) (ha : a.block ≠ g) : IntBlk (w.setCell a v) g t s :=
  (Below.heap_setCell _ _ _ _ (fun e => ha e.symm)).trans h

def AggPost (n : List Int) (w : World) (e : Ending) (w' : World) : Prop := e = .returned (.agg (n.map intV).toArray) ∧ Below w.heap.size w w'

theorem setBlk_below {B : Nat} {w w' : World} (h : Below B w w') {g i : Nat} (hg : B ≤ g) (v : Value) : Below B w (w'.setCell ⟨g, i, none⟩ v) := h.setCell hg v

set_option maxHeartbeats 2000000 in
theorem counts_any (area : Int) (nb : Nat) (B : Option Addr) (m d : Nat) (w : World) (l : List Imp) (hnb : nb ≤ 12) (hm : m ≤ 1000) (hl : RowS 3 Imp.cell w w.heap.size B m l) (hv : impsF l = true) :
    Calls Tryd.prog 35 #[.int .i64 area, .int .i64 nb, .slice B m d] w (AggPost (countsF area nb l) w) := by
  have Hl := Lib.hid hl
  have Hlen := Eqn.mk hl.1
  have HOK := Lib.hid (impsGo_ok l none hv)
  clear hl hv
  have z3 : Hid (IntBlk (w.alloc (.cells #[.int .i64 0, .int .i64 0, .int .i64 0] 66)) w.heap.size 66 [0, 0, 0]) := heap_alloc_new w _
  have z12 : Hid (IntBlk ((w.alloc (.cells #[.int .i64 0, .int .i64 0, .int .i64 0] 66)).alloc (.cells #[.int .i64 0, .int .i64 0, .int .i64 0, .int .i64 0, .int .i64 0, .int .i64 0, .int .i64 0, .int .i64 0, .int .i64 0, .int .i64 0, .int .i64 0, .int .i64 0] 87)) (w.heap.size + 1) 87 (List.replicate 12 0)) := by
    have := heap_alloc_new (w.alloc (.cells #[.int .i64 0, .int .i64 0, .int .i64 0] 66)) (.cells #[.int .i64 0, .int .i64 0, .int .i64 0, .int .i64 0, .int .i64 0, .int .i64 0, .int .i64 0, .int .i64 0, .int .i64 0, .int .i64 0, .int .i64 0, .int .i64 0] 87)
    rw [World.size_alloc] at this
    exact this
  go_enter Tryd.func35, Tryd.ntmps35
  go_wp2_with fail
  go_loopw [17] (fun i wr => ∃ (k : Nat) (s : List Int), k ≤ m ∧ i = .int .i64 k ∧ Hid (IntBlk wr (w.heap.size + 1) 87 s ∧ s.length = 12 ∧ IntBlk wr w.heap.size 66 [0, 0, 0] ∧ pcsF area l = pcsGo area (l.drop k) s) ∧ Below w.heap.size w wr) (fun i _ => m - (intOf i).toNat)
  case atStart => exact ⟨0, _, Nat.zero_le _, rfl, ⟨z12.out, by simp, z3.out.alloc _, rfl⟩, ((Below.refl _ _).alloc (Nat.le_refl _) _).alloc (by simp) _⟩
  case round =>
    obtain ⟨k, s, hk, rfl, HI, HW⟩ := hrel
    have HWW := Lib.hid HW
    have hws := HW.size
    have hg1 : w.heap.size + 1 < wr.heap.size := HI.out.1.lt
    by_cases hlt : k < m
    · obtain ⟨p, hp, hpd⟩ := drop_at (xs := l) (k := k) (by rw [Hlen.out]; exact hlt)
      obtain ⟨b, off, rfl, hbl, hc⟩ := (Hl.out.below HW).2 (by omega)
      have c0 := hc k p hp 0 (by omega)
      have c1 := hc k p hp 1 (by omega)
      have c2 := hc k p hp 2 (by omega)
      simp only [Imp.cell, Nat.add_zero] at c0 c1 c2
      have hbad := HOK.out p (List.mem_of_getElem? hp)
      unfold badI at hbad
      have hbs : b < wr.heap.size := by omega
      obtain ⟨i1, i2, i3, i4⟩ := HI.out
      have HR' : Eqn (pcsF area l) (pcsGo area (l.drop (k + 1)) (if p.area = area then s.set p.block.toNat p.pct else s)) := by
        have := i4; rw [hpd, pcsGo] at this; exact this
      have I1 := Lib.hid i1
      have I2 := Lib.hid i2
      have I3 := Lib.hid i3
      by_cases ha : p.area = area
      · have t1 : (p.area == area) = true := by simpa using ha
        obtain ⟨bk, hbk⟩ := Int.eq_ofNat_of_zero_le (show 0 ≤ p.block by omega)
        have hb12 : bk < 12 := by omega
        obtain ⟨xx, hxx⟩ : ∃ xx, s[bk]? = some xx := ⟨_, List.getElem?_eq_getElem (by omega)⟩
        have x1 := i1.cell hxx
        have f1 := i1.frozen bk
        have HR2 : Eqn (pcsF area l) (pcsGo area (l.drop (k + 1)) (s.set bk p.pct)) := by
          rw [Eqn, HR'.out, if_pos ha, hbk]; rfl
        rw [hbk] at c1
        have j0 : (0 : Int) ≤ (bk : Int) := by omega
        have j1 : (bk : Int) < 12 := by omega
        clear hc hp hpd HW hbad i1 i2 i3 i4 HR' ha hbk HI hxx
        go_wp2_with fail
        go_roundw
        case rel => exact ⟨k + 1, s.set bk p.pct, by omega, by go_num, ⟨(I1.out.set_ bk p.pct).alloc _, by rw [List.length_set]; exact I2.out, (I3.out.other ⟨w.heap.size + 1, bk, none⟩ _ (by simp)).alloc _, HR2.out⟩, (HWW.out.setCell (by simp) _).alloc (by simp; omega) _⟩
        case measure => simp [intOf]; omega
      · have t1 : (p.area == area) = false := by simpa using ha
        have HR2 : Eqn (pcsF area l) (pcsGo area (l.drop (k + 1)) s) := by rw [Eqn, HR'.out, if_neg ha]
        clear hc hp hpd HW hbad i1 i2 i3 i4 HR' ha HI
        go_wp2_with fail
        go_roundw
        case rel => exact ⟨k + 1, s, by omega, by go_num, ⟨I1.out.alloc _, I2.out, I3.out.alloc _, HR2.out⟩, HWW.out.alloc hws _⟩
        case measure => simp [intOf]; omega
    · obtain ⟨i1, i2, i3, i4⟩ := HI.out
      have HPC : Eqn (pcsF area l) s := by rw [Eqn, i4, drop_end (by rw [Hlen.out]; omega)]; rfl
      obtain ⟨wo, rfl⟩ : ∃ wo : World, wo = wr := ⟨_, rfl⟩
      have I1 := Lib.hid i1
      have I2 := Lib.hid i2
      have I3 := Lib.hid i3
      have n3 : Hid (IntBlk (wo.alloc (.cells #[.int .i64 0, .int .i64 0, .int .i64 0] 66)) wo.heap.size 66 [0, 0, 0]) := heap_alloc_new wo _
      have HLT : Eqn (s.take nb).length nb := by rw [Eqn, List.length_take, i2]; omega
      have e0 : (nb : Int) ≤ 12 := by omega
      have e1 : (0 : Int) ≤ (nb : Int) := by omega
      clear HW HI i1 i2 i3 i4
      go_wp2_with fail
      go_loopw [34] (fun i wr => ∃ (j : Nat) (ns : List Int), j ≤ nb ∧ i = .int .i64 j ∧ Hid (IntBlk wr (w.heap.size + 1) 87 s ∧ IntBlk wr wo.heap.size 66 ns ∧ ns.length = 3 ∧ IntBlk wr w.heap.size 66 [0, 0, 0] ∧ (∀ x ∈ ns, 0 ≤ x ∧ x ≤ j) ∧ cntGo (s.take nb) [0, 0, 0] = cntGo ((s.take nb).drop j) ns) ∧ Below w.heap.size w wr) (fun i _ => nb - (intOf i).toNat)
      case atStart => exact ⟨0, _, Nat.zero_le _, rfl, ⟨I1.out.alloc _, n3.out, rfl, I3.out.alloc _, (by simp), rfl⟩, HWW.out.alloc hws _⟩
      case round =>
        obtain ⟨j, ns, hj, rfl, HJ, HY⟩ := hrel
        have HYY := Lib.hid HY
        obtain ⟨j1, j2, j3, j4, j5, j6⟩ := HJ.out
        have J1 := Lib.hid j1
        have J2 := Lib.hid j2
        have J3 := Lib.hid j3
        have J4 := Lib.hid j4
        have J5 := Lib.hid j5
        have hl2 := j2.lt
        by_cases hlt2 : j < nb
        · obtain ⟨q, hq, hqd⟩ := drop_at (xs := s.take nb) (k := j) (by rw [HLT.out]; exact hlt2)
          have hq' : s[j]? = some q := by rw [List.getElem?_take_of_lt hlt2] at hq; exact hq
          have c1 := j1.cell hq'
          have hcb := catF_bd q
          obtain ⟨cc, hcc⟩ := Int.eq_ofNat_of_zero_le hcb.1
          have hc3 : cc < 3 := by omega
          obtain ⟨x, hx⟩ : ∃ x, ns[cc]? = some x := ⟨_, List.getElem?_eq_getElem (by omega)⟩
          have c2 := j2.cell hx
          have f2 := j2.frozen cc
          have hxb := j5 x (List.mem_of_getElem? hx)
          have HC : Eqn (cntGo (s.take nb) [0, 0, 0]) (cntGo ((s.take nb).drop (j + 1)) (ns.set cc (x + 1))) := by
            rw [Eqn, j6, hqd, cntGo, hcc, Int.toNat_natCast, List.getD_eq_getElem?_getD, hx]; rfl
          obtain ⟨er, her⟩ : ∃ er, (catF q).2 = er := ⟨_, rfl⟩
          have HQ : Eqn (v2 (catF q)) (.tuple #[.int .i64 (cc : Int), .int .i64 er]) := by unfold v2 Eqn; rw [hcc, her]
          obtain ⟨x0, x1⟩ := hxb
          have k0 : (0 : Int) ≤ (cc : Int) := by omega
          have k1 : (cc : Int) < 3 := by omega
          have m0 : (0 : Int) ≤ (j : Int) := by omega
          have m1 : (j : Int) < (nb : Int) := by omega
          have hn1 : wo.heap.size ≠ w.heap.size + 1 := by omega
          have hn2 : wo.heap.size ≠ w.heap.size := by omega
          clear hq hqd hq' hcb hcc hx her j1 j2 j3 j4 j5 j6 HJ HY
          go_wp2_with fail
          refine (category_any q _).mono ?_
          rw [HQ.out]
          rintro e w' ⟨rfl, rfl⟩
          go_wp2_with fail
          go_roundw
          case rel =>
            refine ⟨j + 1, ns.set cc (x + 1), by omega, by go_num, ⟨J1.out.other _ _ hn1, J2.out.set_ cc (x + 1), by rw [List.length_set]; exact J3.out, J4.out.other _ _ hn2, fun y hy => ?_, HC.out⟩, HYY.out.setCell (by simp; omega) _⟩
            rcases List.mem_or_eq_of_mem_set hy with h | h
            · have := J5.out y h; omega
            · omega
          case measure => simp [intOf]; omega
        · have HC : Eqn (countsF area nb l) ns := by
            unfold countsF Eqn
            rw [HPC.out, j6, drop_end (by rw [HLT.out]; omega)]; rfl
          obtain ⟨y0, y1, y2, hns⟩ : ∃ y0 y1 y2, ns = [y0, y1, y2] := by
            match ns, j3 with
            | [a, b, c], _ => exact ⟨a, b, c, rfl⟩
          subst hns
          have r0 := j2.cell (i := 0) (x := y0) rfl
          have r1 := j2.cell (i := 1) (x := y1) rfl
          have r2 := j2.cell (i := 2) (x := y2) rfl
          have s0 := j4.cell (i := 0) (x := 0) rfl
          have s1 := j4.cell (i := 1) (x := 0) rfl
          have s2 := j4.cell (i := 2) (x := 0) rfl
          have u0 := j4.frozen 0
          have u1 := j4.frozen 1
          have u2 := j4.frozen 2
          have hl4 := j4.lt
          clear j1 j2 j3 j4 j5 j6 HJ HY
          go_wp2_with fail
          rw [show countsF area nb l = [y0, y1, y2] from HC.out]
          refine bodyPost_ret (v := .agg #[.int .i64 y0, .int .i64 y1, .int .i64 y2]) (by simp [results, Tryd.results35, go_sem, s0, s1, s2]) rfl ⟨rfl, ?_⟩
          exact ((HYY.out.setCell (by simp) _).setCell (by simp) _).setCell (by simp) _
end Go.Proofs.YtpgomblalmnonaaDoor
