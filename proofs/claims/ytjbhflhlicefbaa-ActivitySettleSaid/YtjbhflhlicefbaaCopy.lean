/- Contract of the reference's CopyBidders at a list of one bidder. -/
import Derived.Test.YtjbhflhlicefbaaSame
import Derived.Test.YtjbhflhlicefbaaActE
import Derived.Deep.AppendLies
namespace Go.Proofs.Ytjbhflhlicefbaa
open Go.RowKit

theorem bidr_info : (Try.prog.info? 40).map (fun i => (i.zero, i.size, i.bytes)) = some (some (.agg #[.int .i64 0, .int .i64 0, .int .i64 0, .slice none 0 0]), 4, 48) := by kernel_rfl

def CopyPost (x : Bidr) (w : World) (e : Ending) (w' : World) : Prop :=
  ∃ v A' c', e = .returned v ∧ w'.ownsRow w.heap.size 40 4 v 1 [.int .i64 x.id, .int .i64 x.elig, .int .i64 x.waiv, .slice A' x.blocks.length c'] ∧
    w'.ownsRow w.heap.size 3 1 (.slice A' x.blocks.length c') x.blocks.length (x.blocks.map intV) ∧ Below w.heap.size w w'

set_option maxHeartbeats 1000000 in
theorem copy_one (B : Option Addr) (d : Nat) (w : World) (x : Bidr) (hxl : x.len ≤ 1000) (hb : BidsAt w w.heap.size B 1 [x]) :
    Calls Try.prog 35 #[.slice B 1 d] w (CopyPost x w) := by
  obtain ⟨i0, hi, hz0, hz1, hz2⟩ := info_parts int_info
  obtain ⟨i1, hi', hz0', hz1', hz2'⟩ := info_parts bidr_info
  have HB := Lib.hid hb
  clear hb
  go_enter Try.func35, Try.ntmps35
  go_wp2_with fail
  go_loopw [3, 4] (fun v i wr => Below w.heap.size w wr ∧ ((i = .int .i64 0 ∧ v = .slice none 0 0) ∨ (i = .int .i64 1 ∧ ∃ A' c', wr.ownsRow w.heap.size 40 4 v 1 [.int .i64 x.id, .int .i64 x.elig, .int .i64 x.waiv, .slice A' x.blocks.length c'] ∧
    wr.ownsRow w.heap.size 3 1 (.slice A' x.blocks.length c') x.blocks.length (x.blocks.map intV)))) (fun _ i _ => 1 - (intOf i).toNat)
  case atStart => exact ⟨Below.refl _ _, .inl ⟨rfl, rfl⟩⟩
  case round =>
    obtain ⟨HW, ⟨rfl, rfl⟩ | ⟨rfl, A', c', HO, HP⟩⟩ := hrel
    · have HWW := Lib.hid HW
      obtain ⟨⟨_, hrow⟩, hbl⟩ := HB.out.below HW
      obtain ⟨b, off, rfl, hlt, hc⟩ := hrow (by omega)
      have c0 := hc 0 x rfl 0 (by omega)
      have c1 := hc 0 x rfl 1 (by omega)
      have c2 := hc 0 x rfl 2 (by omega)
      have c3 := hc 0 x rfl 3 (by omega)
      simp only [Bidr.cell, Nat.zero_mul, Nat.add_zero] at c0 c1 c2 c3
      have Hx := Lib.hid (hbl x (by simp))
      have hws := HW.size
      clear hrow hbl hc HW
      have Hlen := Eqn.mk Hx.out.1
      go_wp2_with (at_builtin; refine Hid.out ?_)
      unfold Hid
      refine wpList_append_row rfl _ _ 34 rfl intV_one (wr.heap.size + 1) 3 i0 (.int .i64 0) 8 Try.underlying34 hi hz0 hz1 hz2 rfl _ 0 [] rfl (World.ownsRow_nil _ _ _ _) x.adr x.len x.cap x.blocks w.heap.size rfl (by exact row1_add Hx.out hws _) (by unfold maxLen; omega) (by omega) (by simp) ?_
      intro v1 w1 hown1 hgrow1 hat1
      rw [Nat.zero_add, List.nil_append, ← Hlen.out] at hown1
      obtain ⟨A', c', rfl, _⟩ := row1_of_own hown1
      have hb1 : Below (wr.heap.size + 1) _ w1 := (Below.refl _ _).grown hgrow1 (by simp) (fun k hk => by cases hk)
      have q1 := fun o => hb1.cell (p := ⟨wr.heap.size, o, none⟩) (by simp)
      have f1 := fun o => hb1.frozen (p := ⟨wr.heap.size, o, none⟩) (by simp)
      have z1 : wr.heap.size < w1.heap.size := by (have := hb1.size; simp at this; omega)
      have B1 : Hid (Below w.heap.size w w1) := (HWW.out.alloc hws _).trans (hb1.mono (by omega))
      have HO1 := Lib.hid hown1
      clear hown1 hgrow1 hat1 hb1
      go_wp2_with (at_builtin; refine Hid.out ?_)
      unfold Hid
      refine wpList_append_own_at _ rfl _ _ 53 rfl w.heap.size 40 i1 (.agg #[.int .i64 0, .int .i64 0, .int .i64 0, .slice none 0 0]) 4 48 Try.underlying53 hi' hz0' hz1' hz2' rfl (by decide) _ 0 [] rfl (World.ownsRow_nil _ _ _ _) ⟨w1.heap.size, 0, none⟩ 1 1 [.int .i64 x.id, .int .i64 x.elig, .int .i64 x.waiv, .slice A' x.blocks.length c'] rfl rfl ?_ ?_ (by unfold maxLen; omega) (by omega) (by simp; omega) ?_
      · have hh := heap_alloc_new (w1.setCell ⟨wr.heap.size, 3, none⟩ (.slice A' x.blocks.length c')) (.cells #[.int .i64 x.id, .int .i64 x.elig, .int .i64 x.waiv, .slice A' x.blocks.length c'] 40)
        rw [World.size_setCell] at hh
        exact World.news_of_block hh
      · intro u hu
        simp at hu
        rcases hu with rfl | rfl | rfl | rfl <;> rfl
      intro v2 w2 hown2 hgrow2 _ hat2
      rw [Nat.zero_add, List.nil_append] at hown2
      have hbW : Below w1.heap.size (w1.setCell ⟨wr.heap.size, 3, none⟩ (.slice A' x.blocks.length c')) w2 := ((Below.refl _ _).alloc (by simp) _).grown hgrow2 (by simp <;> omega) (fun k hk => by cases hk)
      have HP2 := own_low (base' := w.heap.size) (own_keep (own_set HO1.out (a := ⟨wr.heap.size, 3, none⟩) (by simp) (.slice A' x.blocks.length c')) (by rw [World.size_setCell]; exact hbW)) (by omega)
      have HPP := Lib.hid HP2
      have HOO := Lib.hid hown2
      have B2 : Hid (Below w.heap.size w w2) := (B1.out.setCell (by simp; omega) _).trans (hbW.mono (by omega))
      clear HP2 hown2 hgrow2 hat2 hbW
      go_wp2
      go_roundw
      case rel => exact ⟨B2.out, .inr ⟨by go_num, A', c', HOO.out, HPP.out⟩⟩
      case measure => simp [intOf]
    · have HWW := Lib.hid HW
      have HOO := Lib.hid HO
      have HPP := Lib.hid HP
      clear HW HO HP
      go_wp2_with fail
      go_ret
      exact ⟨_, A', c', rfl, HOO.out, HPP.out, HWW.out⟩
end Go.Proofs.Ytjbhflhlicefbaa
