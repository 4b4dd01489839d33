/- CONTAIN APART: for every problem and every list of calls, the law ContainApart returns true, and the input reads as it did. Conditions: none beyond the card's own. -/
import Derived.Test.YtdpbbhbegehcjaaGreatDoorRows
import Derived.Test.YtdpbbhbegehcjaaGreatDoorTie
import Derived.Test.YtdpbbhbegehcjaaGreatDoorCards
import Derived.Test.YtdpbbhbegehcjaaGreatDoorChecked
import Derived.KernelRfl
import Derived.Lay
import Derived.MakeChecks
import Derived.LaidOnce
import Derived.SevenTiedAt
import Derived.HandedShaped
import Derived.Stop.LaidErr
import Derived.Lib.SmallJoins
import Derived.Test.YtdpbbhbegehcjaaGreatDoorApa04
import Derived.Test.YtdpbbhbegehcjaaGreatDoorApa09
import Derived.Test.YtdpbbhbegehcjaaGreatDoorApa10
import Derived.Test.YtdpbbhbegehcjaaGreatDoorApa15
import Derived.Test.YtdpbbhbegehcjaaGreatDoorApa17
import Derived.Test.YtdpbbhbegehcjaaGreatDoorApa21
/- No packed set has all stations of another one: plain laws of what Pack and Refute leave. -/
namespace Go.Proofs.YtdpbbhbegehcjaaGreatDoor
open Go.RowKit

/-- all numbers of a list are in another one -/
def amgF (a b : List Int) : Bool := a.all fun x => b.contains x
theorem amg_iff {a b : List Int} : amgF a b = true ↔ ∀ x ∈ a, x ∈ b := by
  unfold amgF
  rw [List.all_eq_true]
  constructor
  · intro h x hx; simpa using h x hx
  · intro h x hx; simpa using h x hx
theorem amg_mi {a b : List Int} (ha : stOk a = true) (hb : stOk b = true) : amgF a b = decide (mi (stS a) (stS b) = 0) := by
  rw [Bool.eq_iff_iff, amg_iff, decide_eq_true_eq, sub_iff (stOk_in ha) (stOk_in hb)]
def Inc (f : Nat) (g : Nat) : Prop := ¬ mi f g = 0 ∧ ¬ mi g f = 0
def ApP (P : List Chs) : Prop := (∀ l ∈ P, vlGo none l = true) ∧ P.Pairwise fun a b => Inc (stS (ofC a)) (stS (ofC b))
def ApQ (Q : List Prv) : Prop := (∀ q ∈ Q, stOk q.1 = true) ∧ Q.Pairwise fun a b => Inc (stS a.1) (stS b.1)
theorem apP_nil : ApP [] := ⟨fun _ h => (by cases h), List.Pairwise.nil⟩
theorem apQ_nil : ApQ [] := ⟨fun _ h => (by cases h), List.Pairwise.nil⟩
theorem apP_pk {ds : List Dom} {r : Rul} {P : List Chs} {l : Chs} (h : ApP P) : ApP (pkF ds r P l).1 := by
  unfold pkF
  split
  · rename_i hv
    split
    · split
      · split
        · exact h
        · rename_i hany
          split
          · exact h
          · refine ⟨fun y hy => ?_, ?_⟩
            · rcases List.mem_append.1 hy with hy | hy
              · exact h.1 y (List.mem_filter.1 hy).1
              · rw [List.mem_singleton] at hy; subst hy; exact hv
            · refine List.pairwise_append.2 ⟨h.2.sublist List.filter_sublist, List.pairwise_singleton _ _, fun a ha b hb => ?_⟩
              rw [List.mem_singleton] at hb; subst hb
              obtain ⟨h1, h2⟩ := List.mem_filter.1 ha
              refine ⟨by simpa using h2, fun h3 => hany (List.any_eq_true.2 ⟨a, h1, by simpa using h3⟩)⟩
      · exact h
    · exact h
  · exact h
theorem apQ_rf {ds : List Dom} {Q : List Prv} {x : Prv} (h : ApQ Q) : ApQ (rfF ds Q x).1 := by
  unfold rfF
  split
  · rename_i hv
    split
    · split
      · exact h
      · rename_i hany
        split
        · exact h
        · refine ⟨fun y hy => ?_, ?_⟩
          · rcases List.mem_append.1 hy with hy | hy
            · exact h.1 y (List.mem_filter.1 hy).1
            · rw [List.mem_singleton] at hy; subst hy; exact hv
          · refine List.pairwise_append.2 ⟨h.2.sublist List.filter_sublist, List.pairwise_singleton _ _, fun a ha b hb => ?_⟩
            rw [List.mem_singleton] at hb; subst hb
            obtain ⟨h1, h2⟩ := List.mem_filter.1 ha
            exact ⟨fun h3 => hany (List.any_eq_true.2 ⟨a, h1, by simpa using h3⟩), by simpa using h2⟩
    · exact h
  · exact h
theorem pair_get {α : Type} {R : α → α → Prop} (hs : ∀ a b, R a b → R b a) {L : List α} (h : L.Pairwise R) {i k : Nat} {x y : α} (hi : L[i]? = some x) (hk : L[k]? = some y) (hne : i ≠ k) : R x y := by
  obtain ⟨hi1, rfl⟩ := List.getElem?_eq_some_iff.1 hi
  obtain ⟨hk1, rfl⟩ := List.getElem?_eq_some_iff.1 hk
  rcases Nat.lt_or_gt_of_ne hne with h1 | h1
  · exact List.pairwise_iff_getElem.1 h i k hi1 hk1 h1
  · exact hs _ _ (List.pairwise_iff_getElem.1 h k i hk1 hi1 h1)
theorem apP_no {P : List Chs} (h : ApP P) {i k : Nat} {a b : Chs} (hi : P[i]? = some a) (hk : P[k]? = some b) (hne : i ≠ k) : amgF (ofC a) (ofC b) = false := by
  rw [amg_mi (vl_stOk (h.1 _ (List.mem_of_getElem? hi))) (vl_stOk (h.1 _ (List.mem_of_getElem? hk)))]
  exact decide_eq_false (pair_get (fun _ _ h => ⟨h.2, h.1⟩) h.2 hi hk hne).1
theorem apQ_no {Q : List Prv} (h : ApQ Q) {i k : Nat} {a b : Prv} (hi : Q[i]? = some a) (hk : Q[k]? = some b) (hne : i ≠ k) : amgF a.1 b.1 = false := by
  rw [amg_mi (h.1 _ (List.mem_of_getElem? hi)) (h.1 _ (List.mem_of_getElem? hk))]
  exact decide_eq_false (pair_get (fun _ _ h => ⟨h.2, h.1⟩) h.2 hi hk hne).1

end Go.Proofs.YtdpbbhbegehcjaaGreatDoor

/- The reference of layer 24: Among, Stations. -/
namespace Go.Proofs.YtdpbbhbegehcjaaGreatDoor
open Go.RowKit Go.Shelf

theorem hasL_con (l : List Int) (x : Int) : hasL l x = l.contains x := by rw [hasL_mem]; simp
set_option maxHeartbeats 1000000 in
theorem among_any (A B : Option Addr) (n c m d : Nat) (w : World) (a b : List Int) (hn : n ≤ 9223372036854775807) (hm : m ≤ 9223372036854775807) (ha : Row1 intV w w.heap.size A n a) (hb : Row1 intV w w.heap.size B m b) :
    Calls Tryz.prog 19 #[.slice A n c, .slice B m d] w fun e w' => e = .returned (.bool (amgF a b)) ∧ w = w' := by
  have Ha := Lib.hid ha
  have HHA := Lib.hid (fun x => rhas_any B m d x w b hm hb)
  have Hlen := Eqn.mk ha.1
  have HF : Eqn (amgF a b) (a.all fun x => b.contains x) := rfl
  generalize amgF a b = ans at *
  clear ha hb
  go_enter Tryz.func19, Tryz.ntmps19
  go_wp2_with fail
  go_loopw [5] (fun i wr => ∃ k : Nat, k ≤ n ∧ i = .int .i64 k ∧ ((a.take k).all fun x => b.contains x) = true ∧ w = wr) (fun i _ => n - (intOf i).toNat)
  case atStart => exact ⟨0, Nat.zero_le _, rfl, rfl, rfl⟩
  case round =>
    obtain ⟨k, hk, rfl, hall, rfl⟩ := hrel
    have HAL := Eqn.mk hall
    clear hall
    by_cases hlt : k < n
    · have j0 : (k : Int) < (n : Int) := by omega
      obtain ⟨x, hx⟩ : ∃ x, a[k]? = some x := ⟨_, List.getElem?_eq_getElem (by rw [Hlen.out]; exact hlt)⟩
      obtain ⟨g, off, rfl, hbl, hc⟩ := Ha.out.2 (by omega)
      have y0 : w.cell? ⟨g, off + k, none⟩ = some (.int .i64 x) := hc k x hx
      have HN1 : Hid (hasL b x = true → ((a.take (k + 1)).all fun x => b.contains x) = true) := Lib.hid (fun h => all_take hx HAL.out (by rw [← hasL_con]; exact h))
      have HN0 : Hid (hasL b x = false → ans = false) := Lib.hid (fun h => by rw [HF]; exact all_no hx (by rw [← hasL_con]; exact h))
      have HX := Lib.hid (HHA.out x)
      generalize hasL b x = sm at *
      clear hc hx hbl HAL HF HHA
      cases sm with
      | true =>
        go_wp2_with fail
        refine HX.out.mono ?_
        rintro e W1 ⟨rfl, rfl⟩
        go_wp2_with fail
        go_roundw
        case rel => exact ⟨k + 1, hlt, by go_num, HN1.out (by trivial), trivial⟩
        case measure => simp [intOf]; omega
      | false =>
        go_wp2_with fail
        refine HX.out.mono ?_
        rintro e W1 ⟨rfl, rfl⟩
        go_wp2_with fail
        go_ret
        exact ⟨ret_bool (HN0.out (by trivial)).symm, rfl⟩
    · obtain rfl : k = n := by omega
      have HE : Hid (ans = true) := Lib.hid (by
        have h1 := HAL.out
        have h2 := Hlen.out
        rw [List.take_of_length_le (by omega)] at h1
        rw [HF, h1])
      clear HAL HF HHA
      go_wp2_with fail
      go_ret
      exact ⟨ret_bool HE.out.symm, rfl⟩

set_option maxRecDepth 100000 in
set_option maxHeartbeats 2000000 in
theorem astations_any (A : Option Addr) (n c : Nat) (w : World) (l : Chs) (hn : n ≤ 100000) (hl : RowS 2 chC w w.heap.size A n l) :
    Calls Tryz.prog 20 #[.slice A n c] w (NewInts (ofC l) w) := by
  obtain ⟨i0, hi, hz0, hz1, hz2⟩ := info_parts int_info
  have Hl := Lib.hid hl
  have Hlen := Eqn.mk hl.1
  clear hl
  go_enter Tryz.func20, Tryz.ntmps20
  go_wp2_with fail
  go_loopw [3, 4] (fun v i wr => ∃ k : Nat, k ≤ n ∧ i = .int .i64 k ∧ Hp w w wr [.row v 3 1 k ((ofC (l.take k)).map intV)] []) (fun _ i _ => n - (intOf i).toNat)
  case atStart => exact ⟨0, Nat.zero_le _, rfl, (Hp.start w).nil 3 1⟩
  case round =>
    obtain ⟨k, hk, rfl, hP⟩ := hrel
    have HP := Lib.hid hP
    obtain ⟨A1, c1, rfl⟩ := hP.form 0 rfl
    by_cases hlt : k < n
    · have j0 : (k : Int) < (n : Int) := by omega
      obtain ⟨y, hy⟩ : ∃ y, l[k]? = some y := ⟨_, List.getElem?_eq_getElem (by rw [Hlen.out]; exact hlt)⟩
      have HSU : Hid (ofC (l.take (k + 1)) = ofC (l.take k) ++ [y.1]) := Lib.hid (by unfold ofC; rw [List.take_add_one, hy, List.map_append]; rfl)
      obtain ⟨b, off, rfl, hbw, hcell⟩ := (Hl.out.below hP.below).2 (by omega)
      have y0 : wr.cell? ⟨b, off + k * 2, none⟩ = some (.int .i64 y.1) := hcell k y hy 0 (by decide)
      obtain ⟨ya, yb⟩ := y
      dsimp only at y0 HSU
      clear hP hy hcell hbw
      go_wp2_with (at_builtin; refine wpList_append_own_at _ rfl _ _ 31 rfl w.heap.size 3 i0 (.int .i64 0) 1 8 Tryz.underlying31 hi hz0 hz1 hz2 rfl (by decide) _ _ _ rfl ((HP.out.row 0 rfl).alloc _) ⟨wr.heap.size, 0, none⟩ 1 1 [.int .i64 (ya)] rfl rfl (cell_one_new _ _ _) (by simp [Value.oneCell']) (by unfold maxLen; omega) (by omega) (by have := HP.out.below.size; simp; omega) ?_; intro v6 w6 hown' hgrow _ hat; have HP6 := Lib.hid ((HP.out.alloc0 _).grow 0 rfl hgrow hown' hat); obtain ⟨A6, cp6, rfl⟩ := HP6.out.form 0 rfl; clear hown' hgrow hat)
      go_roundw
      case rel => exact ⟨k + 1, hlt, by go_num, by rw [HSU.out, List.map_append]; exact HP6.out.sub (by simp [intV])⟩
      case measure => simp [intOf]; omega
    · obtain rfl : k = n := by omega
      rw [List.take_of_length_le (by rw [Hlen.out]; exact Nat.le_refl _)] at hP
      have HP := Lib.hid hP
      clear hP
      have HLL : Hid ((ofC l).length = k) := Lib.hid (by unfold ofC; rw [List.length_map]; exact Hlen.out)
      go_wp2_with fail
      go_ret
      exact ⟨_, rfl, by rw [HLL.out]; exact HP.out.row 0 rfl, HP.out.below⟩
/-- the stations in a row to be read -/
def RowNew (n : Nat) (xs : List Int) (w : World) (e : Ending) (w' : World) : Prop := ∃ B d, e = .returned (.slice B n d) ∧ Row1 intV w' w'.heap.size B n xs ∧ Below w.heap.size w w'
theorem asts_row (A : Option Addr) (n c : Nat) (w : World) (l : Chs) (hn : n ≤ 100000) (hl : RowS 2 chC w w.heap.size A n l) :
    Calls Tryz.prog 20 #[.slice A n c] w (RowNew n (ofC l) w) := by
  refine (astations_any A n c w l hn hl).mono ?_
  rintro e w' ⟨v, rfl, hown, hb⟩
  have hL : (ofC l).length = n := by unfold ofC; rw [List.length_map]; exact hl.1
  rw [hL] at hown
  obtain ⟨B, d, rfl, hr, _⟩ := own_form hown
  exact ⟨B, d, rfl, hr, hb⟩
end Go.Proofs.YtdpbbhbegehcjaaGreatDoor

/- How lists of calls, and calls, that came in read. -/
namespace Go.Proofs.YtdpbbhbegehcjaaGreatDoor
open Go.RowKit Go.ChangeShapes Go.WideShapes Go.ChangeAt Go.Deep Go.Joins

section
variable {H : Type} {enc : TypeId × Value → H} {w : World} {base b0 : Nat} {spare : Nat → Bool} {held : Bool} {r : Reach}

theorem chs_of_trod {fuel : Nat} {A : Option Addr} {n c : Nat} {x : DataW H × List MemPlace} (hf : DataW.trod enc Tryz.prog w base spare held fuel 41 [.slice A n c] = some x) :
    n ≤ 9223372036854775807 ∧ ∃ xs : List (Int × Int), RowS 2 chC w w.heap.size A n xs := by
  obtain ⟨hn, G, m, h1, h2⟩ := elems_of_trod (sz := 2) Tryz.underlying41 (by kernel_rfl) (by omega) hf
  obtain ⟨xs, hx, _⟩ := rowS_of_elems (w := w) (A := A) chC (fun _ => True) G (fun i hi => by
    obtain ⟨_, y, hy⟩ := h1 i hi
    obtain ⟨g, hg⟩ := ints_of_struct Tryz.underlying91 (by kernel_rfl) (by kernel_rfl) (by kernel_rfl) hy
    refine ⟨(g 0, g 1), trivial, fun j hj => ?_⟩
    have := (hg j hj).1
    match j, hj with
    | 0, _ => exact this
    | 1, _ => exact this) h2
  exact ⟨hn, xs, hx⟩
theorem lems_of_trod {fuel : Nat} {A : Option Addr} {n c : Nat} {x : DataW H × List MemPlace} (hf : DataW.trod enc Tryz.prog w base spare held fuel 42 [.slice A n c] = some x) :
    n ≤ 9223372036854775807 ∧ ∃ xs : List Lem, RowS 1 lemC w w.heap.size A n xs ∧ ∀ m ∈ xs, RowS 2 chC w w.heap.size m.adr m.len m.chs := by
  obtain ⟨hn, G, m, h1, h2⟩ := elems_of_trod (sz := 1) Tryz.underlying42 (by kernel_rfl) (by omega) hf
  obtain ⟨xs, hx, hp⟩ := rowS_of_elems (w := w) (A := A) lemC (fun m => RowS 2 chC w w.heap.size m.adr m.len m.chs) G (fun i hi => by
    obtain ⟨hl, y, hy⟩ := h1 i hi
    obtain ⟨v, hv⟩ : ∃ v, G i = [v] := by
      match h : G i, hl with
      | [v], _ => exact ⟨v, rfl⟩
    rw [hv] at hy
    obtain ⟨B, k, d, ev⟩ := slice_form Tryz.underlying41 hy
    simp at ev
    subst ev
    obtain ⟨_, ys, hr⟩ := chs_of_trod hy
    refine ⟨⟨B, k, d, ys⟩, hr, fun j hj => ?_⟩
    match j, hj with
    | 0, _ => rw [hv]; rfl) h2
  exact ⟨hn, xs, hx, hp⟩
theorem cap_of_trod {fuel : Nat} {t e : TypeId} {A : Option Addr} {n c : Nat} {x : DataW H × List MemPlace} (ht : Tryz.prog.underlying t = some (.slice e)) (hf : DataW.trod enc Tryz.prog w base spare held fuel t [.slice A n c] = some x) : n ≤ c := by
  rcases open_slice ht hf with ⟨hcs, _⟩ | ⟨a, len, cap, m, fu, D, Pl, hcs, _, hl, hm, hmm, _, hi⟩
  · simp at hcs; omega
  · simp at hcs
    obtain ⟨rfl, rfl, rfl⟩ := hcs
    exact hl
theorem prf_cells {fuel : Nat} {cs : List Value} {y : DataW H × List MemPlace} (h : DataW.trod enc Tryz.prog w base spare held fuel 44 cs = some y) :
    ∃ x : Prf, cs[0]? = some x.v1 ∧ cs[1]? = some x.v2 ∧ Row1 intV w w.heap.size x.sa x.sn x.sts ∧ RowS 1 lemC w w.heap.size x.la x.ln x.lms ∧ (∀ m ∈ x.lms, RowS 2 chC w w.heap.size m.adr m.len m.chs) ∧ x.ln ≤ 9223372036854775807 ∧ x.ln ≤ x.lc := by
  obtain ⟨m, hm⟩ := fields_of_trod Tryz.underlying44 (by kernel_rfl) (by kernel_rfl) h
  obtain ⟨v0, z0, c0, t0⟩ := hm 0 _ rfl
  obtain ⟨v1, z1, c1, t1⟩ := hm 1 _ rfl
  obtain ⟨A0, n0, k0, e0⟩ := slice_form Tryz.underlying31 t0
  obtain ⟨A1, n1, k1, e1⟩ := slice_form Tryz.underlying42 t1
  simp at e0 e1
  subst e0 e1
  obtain ⟨xs, hr, _, _⟩ := ints_of_trod Tryz.underlying31 Tryz.underlying3 (by kernel_rfl) t0
  obtain ⟨hn, ls, hl, hp⟩ := lems_of_trod t1
  exact ⟨⟨A0, n0, k0, xs, A1, n1, k1, ls⟩, c0, c1, hr, hl, hp, hn, cap_of_trod Tryz.underlying42 t1⟩
set_option maxRecDepth 100000 in
theorem acd_cells {fuel : Nat} {l : List Value} {y : DataW H × List MemPlace} (hll : l.length = 5) (h : DataW.trod enc Tryz.prog w base spare held fuel 46 l = some y) :
    ∃ x : Acd, l = [.int .i64 x.kind, x.ch.val, x.pr.v1, x.pr.v2, .slice x.ta x.tn x.tc] ∧ x.Raw w := by
  obtain ⟨xs, m, _, _, hlen, hxl, hg⟩ := DataW.trod_struct Tryz.underlying46 h
  have hxl' : xs.length = 4 := hxl
  match l, hll with
  | [a, b, c, d, e], _ =>
    have h0 : DataW.trod enc Tryz.prog w base spare held m 3 (List.take (Tryz.prog.cellsOf 3) (List.drop 0 [a, b, c, d, e])) = xs[0]? := hg 0 _ rfl
    have h1 : DataW.trod enc Tryz.prog w base spare held m 41 (List.take (Tryz.prog.cellsOf 41) (List.drop 1 [a, b, c, d, e])) = xs[1]? := hg 1 _ rfl
    have h2 : DataW.trod enc Tryz.prog w base spare held m 44 (List.take (Tryz.prog.cellsOf 44) (List.drop 2 [a, b, c, d, e])) = xs[2]? := hg 2 _ rfl
    have h3 : DataW.trod enc Tryz.prog w base spare held m 31 (List.take (Tryz.prog.cellsOf 31) (List.drop 4 [a, b, c, d, e])) = xs[3]? := hg 3 _ rfl
    rw [List.getElem?_eq_getElem (by omega)] at h0 h1 h2 h3
    rw [show Tryz.prog.cellsOf 3 = 1 from by kernel_rfl] at h0
    rw [show Tryz.prog.cellsOf 41 = 1 from by kernel_rfl] at h1
    rw [show Tryz.prog.cellsOf 44 = 2 from by kernel_rfl] at h2
    rw [show Tryz.prog.cellsOf 31 = 1 from by kernel_rfl] at h3
    have h0' : DataW.trod enc Tryz.prog w base spare held m 3 [a] = some xs[0] := h0
    have h1' : DataW.trod enc Tryz.prog w base spare held m 41 [b] = some xs[1] := h1
    have h2' : DataW.trod enc Tryz.prog w base spare held m 44 [c, d] = some xs[2] := h2
    have h3' : DataW.trod enc Tryz.prog w base spare held m 31 [e] = some xs[3] := h3
    obtain ⟨k, ek, _, _⟩ := DataW.trod_int Tryz.underlying3 h0'
    obtain ⟨A, n, q, ea⟩ := slice_form Tryz.underlying41 h1'
    obtain ⟨T, tn, tc, et⟩ := slice_form Tryz.underlying31 h3'
    simp at ek ea et
    subst ek ea et
    obtain ⟨_, ch, hc⟩ := chs_of_trod h1'
    obtain ⟨pf, e0, e1, hs, hl, hm, hln, hlc⟩ := prf_cells h2'
    simp at e0 e1
    subst e0 e1
    obtain ⟨ts, ht, _, _⟩ := ints_of_trod Tryz.underlying31 Tryz.underlying3 (by kernel_rfl) h3'
    exact ⟨⟨k, ⟨A, n, q, ch⟩, pf, T, tn, tc, ts⟩, rfl, ⟨hc, hs, hl, hm, ht, hln, hlc⟩⟩
set_option maxRecDepth 100000 in
theorem arg_acts {v : Value} {d : DataW H} {p : List MemPlace} (hv : Value.okWide Tryz.prog w r b0 30 v) (h : DataW.Trod enc Tryz.prog w base spare held 30 v d p) :
    ∃ A n c xs, v = .slice A n c ∧ RowS 5 Acd.cell w w.heap.size A n xs ∧ (∀ x ∈ xs, x.Raw w) ∧ n ≤ 9223372036854775807 := by
  obtain ⟨A, n, c, rfl⟩ := okWide_slice Tryz.underlying30 hv
  obtain ⟨fuel, hf⟩ := h
  obtain ⟨hn, G, m, h1, h2⟩ := elems_of_trod (sz := 5) Tryz.underlying30 (by kernel_rfl) (by omega) (by simpa [Value.cells] using hf)
  obtain ⟨xs, hx, hp⟩ := rowS_of_elems (w := w) (A := A) Acd.cell (fun x => x.Raw w) G (fun i hi => by
    obtain ⟨hl, y, hy⟩ := h1 i hi
    obtain ⟨x, e, hr⟩ := acd_cells hl hy
    refine ⟨x, hr, fun j hj => ?_⟩
    rw [e]
    match j, hj with
    | 0, _ => rfl
    | 1, _ => rfl
    | 2, _ => rfl
    | 3, _ => rfl
    | 4, _ => rfl) h2
  exact ⟨A, n, c, xs, rfl, hx, hp, hn⟩
def Acd.val (x : Acd) : Value := .agg #[.int .i64 x.kind, .slice x.ch.adr x.ch.len x.ch.cap, .slice x.pr.sa x.pr.sn x.pr.sc, .slice x.pr.la x.pr.ln x.pr.lc, .slice x.ta x.tn x.tc]
end
end Go.Proofs.YtdpbbhbegehcjaaGreatDoor

/- The reference of layer 17: Small. -/
namespace Go.Proofs.YtdpbbhbegehcjaaGreatDoor
open Go.RowKit

def smGoN : Nat → List Dom → Bool
  | 0, _ => true
  | _, [] => true
  | f + 1, d :: r => if 60 < d.len then false else smGoN f r
theorem smGoN_nil (f : Nat) : smGoN f [] = true := by cases f <;> rfl
theorem smGoN_all : ∀ (f : Nat) (l : List Dom), smGoN f l = true → l.length ≤ f → ∀ d ∈ l, d.len ≤ 60 := by
  intro f
  induction f with
  | zero => intro l _ h2 d hd; cases l with | nil => cases hd | cons x r => simp at h2
  | succ f ih =>
    intro l h1 h2 d hd
    cases l with
    | nil => cases hd
    | cons x r =>
      rw [smGoN] at h1
      by_cases hx : 60 < x.len
      · rw [if_pos hx] at h1; cases h1
      · rw [if_neg hx] at h1
        rcases List.mem_cons.1 hd with rfl | h
        · omega
        · exact ih r h1 (by simp at h2; omega) d h
def smF (ds : List Dom) (r : Rul) (d k : Int) : Bool := smGoN 600 ds && (decide ((ds.length : Int) ≤ d) && (decide ((r.pairs.length : Int) ≤ k) && (decide ((r.loads.length : Int) ≤ k) && decide ((r.caps.length : Int) ≤ k))))
theorem smF_spec {ds : List Dom} {r : Rul} {d k : Int} (hd : d ≤ 600) (h : smF ds r d k = true) : (ds.length : Int) ≤ d ∧ (∀ x ∈ ds, x.len ≤ 60) ∧ (r.pairs.length : Int) ≤ k ∧ (r.loads.length : Int) ≤ k ∧ (r.caps.length : Int) ≤ k := by
  simp only [smF, Bool.and_eq_true, decide_eq_true_eq] at h
  obtain ⟨h1, h2, h3, h4, h5⟩ := h
  exact ⟨h2, smGoN_all 600 ds h1 (by omega), h3, h4, h5⟩

set_option maxHeartbeats 2000000 in
theorem small_any (s : PrbS) (d k : Int) (w : World) (ds : List Dom) (r : Rul) (hn : s.nd ≤ 9223372036854775807) (h : PrbAt w w.heap.size s ds r) :
    Calls Tryz.prog 7 #[s.val, .int .i64 d, .int .i64 k] w (RetPost (.bool (smF ds r d k)) w.heap.size w) := by
  obtain ⟨A, n, c, ⟨A0, n0, c0, A1, n1, c1, A2, n2, c2⟩⟩ := s
  obtain ⟨W0, hW0⟩ : ∃ W0, W0 = w.alloc (.cells #[.slice A n c, .slice A0 n0 c0, .slice A1 n1 c1, .slice A2 n2 c2] 29) := ⟨_, rfl⟩
  have HB0 : Hid (Below w.heap.size w W0) := Lib.hid (by rw [hW0]; exact (Below.refl _ w).alloc (Nat.le_refl _) _)
  have h0 : DomsAt W0 W0.heap.size A n ds := h.1.keep HB0.out
  have hX : Blk W0 w.heap.size 29 [.slice A n c, .slice A0 n0 c0, .slice A1 n1 c1, .slice A2 n2 c2] := by rw [hW0]; exact blk_new w _ _
  have Hl := Lib.hid h0.1
  have Hlen := Eqn.mk h0.1.1
  have q0 : W0.cell? ⟨w.heap.size, 0, none⟩ = some (.slice A n c) := hX.cell rfl
  have q1 : W0.cell? ⟨w.heap.size, 1, none⟩ = some (.slice A0 n0 c0) := hX.cell rfl
  have q2 : W0.cell? ⟨w.heap.size, 2, none⟩ = some (.slice A1 n1 c1) := hX.cell rfl
  have q3 : W0.cell? ⟨w.heap.size, 3, none⟩ = some (.slice A2 n2 c2) := hX.cell rfl
  have q4 := hX.lt
  have HF : Eqn (smF ds r d k) (smGoN (600 - 0) (ds.drop 0) && (decide ((n : Int) ≤ d) && (decide ((n0 : Int) ≤ k) && (decide ((n1 : Int) ≤ k) && decide ((n2 : Int) ≤ k))))) := by
    rw [Eqn, smF, Hlen.out, h.2.1.1, h.2.2.1.1, h.2.2.2.1.1]; rfl
  dsimp only at hn
  clear h h0 hX
  rw [show smF ds r d k = _ from HF.out]
  obtain ⟨tail, htail⟩ : ∃ tail, tail = (decide ((n : Int) ≤ d) && (decide ((n0 : Int) ≤ k) && (decide ((n1 : Int) ≤ k) && decide ((n2 : Int) ≤ k)))) := ⟨_, rfl⟩
  rw [← htail]
  obtain ⟨ans, hans⟩ : ∃ ans, ans = (smGoN (600 - 0) (ds.drop 0) && tail) := ⟨_, rfl⟩
  rw [← hans]
  have HA := Eqn.mk hans
  have HT := Eqn.mk htail
  clear hans HF htail
  unfold PrbS.val
  dsimp only
  go_enter Tryz.func7, Tryz.ntmps7
  go_wp2_with fail
  rw [← hW0]
  clear hW0
  have HEND : Hid (Eqn ans tail → Eqn ans (decide ((n : Int) ≤ d) && (decide ((n0 : Int) ≤ k) && (decide ((n1 : Int) ≤ k) && decide ((n2 : Int) ≤ k))))) := Lib.hid (fun h => h.out.trans HT.out)
  clear HT
  generalize htt : tail = tt at *
  clear htt
  go_loopw [7] (fun i wr => ∃ j : Nat, j ≤ n ∧ j ≤ 600 ∧ i = .int .i64 j ∧ Eqn ans (smGoN (600 - j) (ds.drop j) && tt) ∧ W0 = wr) (fun i _ => n - (intOf i).toNat)
  case atStart => exact ⟨0, Nat.zero_le _, Nat.zero_le _, rfl, HA, rfl⟩
  case round =>
    clear HA
    obtain ⟨j, hj, hj6, rfl, HR, rfl⟩ := hrel
    by_cases hlt : j < n
    · by_cases h6 : j < 600
      · obtain ⟨p, hp, hpd⟩ := drop_at (xs := ds) (k := j) (by rw [Hlen.out]; exact hlt)
        obtain ⟨b, off, hA, hbl, hc⟩ := Hl.out.2 (by omega)
        subst hA
        have c1 := hc j p hp 1 (by omega)
        simp only [Dom.cell] at c1
        have HR2 := HR.out
        rw [hpd, show 600 - j = (600 - (j + 1)) + 1 by omega, smGoN] at HR2
        have HRR := Eqn.mk HR2
        have j0 : (j : Int) < (n : Int) := by omega
        have j1 : (j : Int) < 600 := by omega
        clear hc hp hpd HR HR2
        obtain ⟨st, adr, len, cap, chs⟩ := p
        dsimp only at *
        by_cases h10 : 60 < len
        · have HE : Eqn ans false := by rw [Eqn, HRR.out, if_pos h10]; rfl
          have j2 : (60 : Int) < (len : Int) := by omega
          clear HRR h10
          go_wp2_with fail
          go_ret
          exact ⟨ret_bool HE.out.symm, HB0.out⟩
        · have HE : Eqn ans (smGoN (600 - (j + 1)) (ds.drop (j + 1)) && tt) := by rw [Eqn, HRR.out, if_neg h10]
          have j2 : ¬ (60 : Int) < (len : Int) := by omega
          clear HRR h10
          go_wp2_with fail
          go_roundw
          case rel => exact ⟨j + 1, by omega, by omega, by go_num, HE, trivial⟩
          case measure => simp [intOf]; omega
      · have HE : Eqn ans tt := by rw [Eqn, HR.out, show 600 - j = 0 by omega, smGoN]; simp
        have j0 : (j : Int) < (n : Int) := by omega
        have j1 : ¬ (j : Int) < 600 := by omega
        have HE2 := HEND.out HE
        clear HR HE HEND
        by_cases g0 : (n : Int) ≤ d
        · by_cases g1 : (n0 : Int) ≤ k
          · by_cases g2 : (n1 : Int) ≤ k
            · have HV : Eqn ans (decide ((n2 : Int) ≤ k)) := by rw [Eqn, HE2.out]; simp [g0, g1, g2]
              clear HE2
              go_wp2_with fail
              go_ret
              exact ⟨ret_bool HV.out.symm, HB0.out⟩
            · have HV : Eqn ans false := by rw [Eqn, HE2.out]; simp [g0, g1, g2]
              clear HE2
              go_wp2_with fail
              go_ret
              exact ⟨ret_bool HV.out.symm, HB0.out⟩
          · have HV : Eqn ans false := by rw [Eqn, HE2.out]; simp [g0, g1]
            clear HE2
            go_wp2_with fail
            go_ret
            exact ⟨ret_bool HV.out.symm, HB0.out⟩
        · have HV : Eqn ans false := by rw [Eqn, HE2.out]; simp [g0]
          clear HE2
          go_wp2_with fail
          go_ret
          exact ⟨ret_bool HV.out.symm, HB0.out⟩
    · obtain rfl : j = n := by omega
      have HE : Eqn ans tt := by rw [Eqn, HR.out, drop_end (by rw [Hlen.out]; omega), smGoN_nil]; simp
      have HE2 := HEND.out HE
      clear HR HE HEND
      by_cases g0 : (j : Int) ≤ d
      · by_cases g1 : (n0 : Int) ≤ k
        · by_cases g2 : (n1 : Int) ≤ k
          · have HV : Eqn ans (decide ((n2 : Int) ≤ k)) := by rw [Eqn, HE2.out]; simp [g0, g1, g2]
            clear HE2
            go_wp2_with fail
            go_ret
            exact ⟨ret_bool HV.out.symm, HB0.out⟩
          · have HV : Eqn ans false := by rw [Eqn, HE2.out]; simp [g0, g1, g2]
            clear HE2
            go_wp2_with fail
            go_ret
            exact ⟨ret_bool HV.out.symm, HB0.out⟩
        · have HV : Eqn ans false := by rw [Eqn, HE2.out]; simp [g0, g1]
          clear HE2
          go_wp2_with fail
          go_ret
          exact ⟨ret_bool HV.out.symm, HB0.out⟩
      · have HV : Eqn ans false := by rw [Eqn, HE2.out]; simp [g0]
        clear HE2
        go_wp2_with fail
        go_ret
        exact ⟨ret_bool HV.out.symm, HB0.out⟩
end Go.Proofs.YtdpbbhbegehcjaaGreatDoor

/- The laid variable of the rows of a seat that lists the table of TrailingZeros64 only: what it gives to a walk; the wrap of a row that lists variables and keeps the world's shape. -/
namespace Go.Proofs.YtdpbbhbegehcjaaGreatDoor
open Go.RowKit Go.ChangeShapes Go.WideShapes Go.ChangeAt Go.Deep Go.Joins

theorem own : ownKnob Tryz.prog.godebug = none := by kernel_rfl
theorem laidOut : laidOutB Tryz.prog = true := by kernel_rfl
def laid07 : List (String × DataW Unit) := [("math/bits.deBruijn64tab", Rows.laid_math_bits_deBruijn64tab)]
theorem laidHold (os : Os) (args : Array Value) : laidMetH Tryz.prog laid07 ((World.laidAll Tryz.prog os laid07).forCall (fun _ _ => 0) ⟨#[], args, []⟩).memory := by
  rw [MakeChecks.laidMetH_plain _ _ _ (by kernel_rfl)]
  exact laidMet_laidAll _ (by kernel_rfl) (by kernel_rfl)

section
variable {H : Type} {enc : TypeId × Value → H}
/-- a row that lists variables: the contract is handed what they hold and the world's shape -/
theorem handed_laid {a : Assume} {C : Checked} {os : Os} {f : FuncId} {fn : Func} {s : ChangeSpec} {conds : List PathCond} {apart fresh handsOn again : Bool} {laid : List (String × DataW Unit)}
    (hown : ownKnob C.prog.godebug = none) (started : os.Started) (noInit : C.prog.inits.idxOf? f = none) (hfn : C.prog.funcs[f]? = some fn)
    (witness : ∃ (w : World) (tape : Tape) (i : Input), w.os = os ∧ (w.forCall tape i).Shaped C.prog ∧ i.vars = [] ∧ Input.okWide C.prog (w.forCall tape i) .any w.heap.size f i ∧
      ((s.pre enc C.prog fn conds apart (w.forCall tape i).memory i.args ∧ laidMetH C.prog laid (w.forCall tape i).memory) ∧ sizedMet enc C.prog fn (OpenSpec.ofChange s) apart (w.forCall tape i).memory i.args) ∧ a.holds C.prog (lone (Frame.enter C.prog f i.args .normal) [] (w.forCall tape i)))
    (contract : ∀ (W : World) (base : Nat) (args : Array Value) (ds gs : List (DataW H)) (before : List MemPlace),
      (∀ (j : Nat) t v, fn.params[j]? = some t → args[j]? = some v → Value.okWide C.prog W .any base t v) →
      DataW.Whole enc C.prog fn.params.toList s.vars apart W args.toList ds gs before →
      laidMetH C.prog laid W → W.ShapedOpen C.prog →
      Calls C.prog f args W fun e W' => ∃ v, e = .returned v ∧ s.post enc C.prog fn apart fresh handsOn again W args v W') :
    ReturnsInHanded a C os f .any (fun w args => (s.pre enc C.prog fn conds apart w args ∧ laidMetH C.prog laid w) ∧ sizedMet enc C.prog fn (OpenSpec.ofChange s) apart w args) (s.post enc C.prog fn apart fresh handsOn again) := by
  refine returnsInHanded_of_calls hown started noInit witness ?_
  intro w tape i _ hsh _ hok hpre _
  obtain ⟨_, _, _, fn', hfn', _, _, _, _, hval⟩ := hok
  obtain rfl : fn' = fn := Option.some.inj (hfn'.symm.trans hfn)
  obtain ⟨⟨⟨ds, gs, before, hw, _⟩, hx⟩, _⟩ := hpre
  refine (contract (w.forCall tape i) w.heap.size i.args ds gs before hval (DataW.Whole.of_heap (w' := w.forCall tape i) (by rfl) hw) (hx.of_heap (by rfl)) hsh).mono fun e W' ⟨v, he, hp⟩ => ?_
  subst he
  exact ChangeSpec.post_blind hp
end

theorem tab_of {W : World} (hL : laidMetH Tryz.prog laid07 W) (_ : W.ShapedOpen Tryz.prog) : Tab W := by
  rw [MakeChecks.laidMetH_plain _ _ _ (by kernel_rfl)] at hL
  have h2 : laidMet Tryz.prog (("math/bits.deBruijn64tab", Lib.tabData .u8 (Lib.deBruijn64tab.map fun n : Nat => (n : Int))) :: []) W := hL
  have t2 := Lib.tabIs_of_head (g := 0) (t := 218) (e := 5) (n := 64) (by kernel_rfl) (by kernel_rfl) (by kernel_rfl) (by kernel_rfl) (by kernel_rfl) (by kernel_rfl) h2
  have c1 := t2.cell (g := 0) (by kernel_rfl) 0 (by decide)
  have hsz : 0 < W.heap.size := (lt_of_cell c1).1
  refine ⟨by omega, fun j hj => ?_⟩
  have c2 := t2.cell (g := 0) (by kernel_rfl) j (by exact hj)
  rw [c2]
  congr 2
  rw [List.getD_eq_getElem?_getD, List.getElem?_map, List.getD_eq_getElem?_getD]
  cases Lib.deBruijn64tab[j]? <;> rfl
end Go.Proofs.YtdpbbhbegehcjaaGreatDoor

/- What the laws of layer 24 share. -/
namespace Go.Proofs.YtdpbbhbegehcjaaGreatDoor
open Go.RowKit Go.Shelf

abbrev kd (g : Nat) : Nat → Prop := fun k => g < k
/-- rows of choices, of proofs, to be read -/
structure LemsAt (W : World) (v : Value) (O : List Lem) : Prop where
  row : ∃ A c, v = .slice A O.length c ∧ RowX 1 lemC W (fun _ => True) A O.length O
  all : ∀ m ∈ O, m.At W (fun _ => True)
structure PrfsAt (W : World) (v : Value) (O : List Prf) : Prop where
  row : ∃ A c, v = .slice A O.length c ∧ RowX 2 prfC W (fun _ => True) A O.length O
  all : ∀ y ∈ O, y.At W (fun _ => True)
theorem LemsAt.keep {W X : World} {v : Value} {O : List Lem} (h : LemsAt W v O) (hb : Below W.heap.size W X) : LemsAt X v O := by
  obtain ⟨⟨A, c, e, hr⟩, h2⟩ := h
  exact ⟨⟨A, c, e, hr.keep (by decide) hb⟩, fun m hm => (h2 m hm).keep hb⟩
theorem PrfsAt.keep {W X : World} {v : Value} {O : List Prf} (h : PrfsAt W v O) (hb : Below W.heap.size W X) : PrfsAt X v O := by
  obtain ⟨⟨A, c, e, hr⟩, h2⟩ := h
  exact ⟨⟨A, c, e, hr.keep (by decide) hb⟩, fun m hm => (h2 m hm).keep hb⟩
theorem lem_own {w u W : World} {L : List Ent} {ds : List Nat} {m : Lem} (h : Hp w u W L ds) (hm : Ent.row m.val 91 2 m.len (flat 2 chC m.chs) ∈ L) (hl : m.len ≤ 100000) : m.At W (fun _ => True) := by
  have h0 : W.ownsRow w.heap.size 91 2 m.val m.len (flat 2 chC m.chs) := h.all _ hm
  obtain ⟨A, n, c, chs⟩ := m
  have h1 := h0.1
  rw [flat_lenR] at h1
  dsimp only at h1
  obtain rfl : chs.length = n := by omega
  obtain ⟨A2, c2, e2, q2⟩ := rowX_own (p := fun _ => True) h0 (by decide) (fun _ _ => trivial)
  injection e2 with e2
  subst e2
  exact ⟨q2, hl⟩
theorem pkd_at {P : List Chs} {w : World} {e : Ending} {W : World} (h : PkdPost P w e W) : ∃ v O, e = .returned v ∧ O.map Lem.chs = P ∧ LemsAt W v O ∧ Below w.heap.size w W := by
  obtain ⟨v, O, rfl, hO, hl, hH⟩ := h
  refine ⟨v, O, rfl, hO, ⟨?_, fun m hm => lem_own hH (List.mem_cons_of_mem _ (List.mem_map.2 ⟨m, hm, rfl⟩)) (hl m hm)⟩, hH.below⟩
  have h0 := hH.row 0 rfl
  rw [← flat_lems] at h0
  obtain ⟨A, c, e, q⟩ := rowX_own (p := fun _ => True) h0 (by decide) (fun _ _ => trivial)
  exact ⟨A, c, e, q⟩
theorem prf_own {w u W : World} {L : List Ent} {ds : List Nat} {y : Prf} (h : Hp w u W L ds) (hy : (prfEnts y).Sublist L) (hl : y.Ok) : y.At W (fun _ => True) := prf_at (h.sub hy) (fun _ _ => trivial) hl
theorem prfs_sub {O : List Prf} {y : Prf} (hy : y ∈ O) : (prfEnts y).Sublist (prfsEnts O) := by
  induction O with
  | nil => cases hy
  | cons x r ih =>
    have e : prfsEnts (x :: r) = prfEnts x ++ prfsEnts r := rfl
    rw [e]
    rcases List.mem_cons.1 hy with rfl | h
    · exact List.sublist_append_left _ _
    · exact (ih h).trans (List.sublist_append_right _ _)
theorem rfd_at {Q : List Prv} {w : World} {e : Ending} {W : World} (h : RfdPost Q w e W) : ∃ v O, e = .returned v ∧ O.map Prf.say = Q ∧ PrfsAt W v O ∧ Below w.heap.size w W := by
  obtain ⟨v, O, rfl, hO, hl, hH⟩ := h
  refine ⟨v, O, rfl, hO, ⟨?_, fun y hy => prf_own hH ((prfs_sub hy).trans (List.sublist_cons_self _ _)) (hl y hy)⟩, hH.below⟩
  obtain ⟨A, c, e, q⟩ := rowX_own (p := fun _ => True) (hH.row 0 rfl) (by decide) (fun _ _ => trivial)
  exact ⟨A, c, e, q⟩
theorem StPost.below {B : Nat} {p : Nat → Prop} {g : Nat} {x : StS} {P : List Chs} {Q : List Prv} {n : Int} {w0 w : World} {e : Ending} {w' : World} (h : StPost B p g x P Q n w e w') (hb : Below w0.heap.size w0 w) (hg : w0.heap.size ≤ g) : Below w0.heap.size w0 w' := by
  obtain ⟨_, _, _, _, _, _, _, _, hgr⟩ := h
  exact hb.grown hgr hb.size (fun k e => by cases e; exact hg)
end Go.Proofs.YtdpbbhbegehcjaaGreatDoor

namespace Go.Proofs.YtdpbbhbegehcjaaGreatDoor
open Go.RowKit Go.Shelf Go.ChangeShapes Go.WideShapes Go.ChangeAt Go.Deep Go.Joins

set_option maxRecDepth 100000 in
set_option maxHeartbeats 8000000 in
theorem containApart_walk (w : World) (hT : Tab w) (s : PrbS) (ds : List Dom) (r : Rul) (R0 : PrbAt w w.heap.size s ds r ∧ s.nd ≤ 9223372036854775807) (A : Option Addr) (n c : Nat) (xs : List Acd) (R1 : RowS 5 Acd.cell w w.heap.size A n xs ∧ (∀ x ∈ xs, x.Raw w) ∧ n ≤ 9223372036854775807) :
    Calls Tryz.prog 4 #[s.val, .slice A n c] w fun e W' => e = .returned (.bool true) ∧ Below w.heap.size w W' := by
  obtain ⟨p2, hp2⟩ : ∃ q, q = w.heap.size := ⟨_, rfl⟩
  obtain ⟨V0, hV0⟩ : ∃ V, V = w.alloc (.cells #[.slice s.ad s.nd s.cd, .slice s.rs.a0 s.rs.n0 s.rs.c0, .slice s.rs.a1 s.rs.n1 s.rs.c1, .slice s.rs.a2 s.rs.n2 s.rs.c2] 29) := ⟨_, rfl⟩
  have hP0 : Hp w w V0 [.blk p2 29 [.slice s.ad s.nd s.cd, .slice s.rs.a0 s.rs.n0 s.rs.c0, .slice s.rs.a1 s.rs.n1 s.rs.c1, .slice s.rs.a2 s.rs.n2 s.rs.c2]] [] := by
    have h := (Hp.start w).alloc [.slice s.ad s.nd s.cd, .slice s.rs.a0 s.rs.n0 s.rs.c0, .slice s.rs.a1 s.rs.n1 s.rs.c1, .slice s.rs.a2 s.rs.n2 s.rs.c2] 29
    rw [hV0, hp2]; exact h
  have HPB := Lib.hid (fun (W : World) (hb : Below w.heap.size w W) => (⟨R0.1.1.keep hb, R0.1.2.keep hb⟩ : PrbAt W W.heap.size s ds r))
  have HND := Lib.hid R0.2
  have HSM := Lib.hid (small_any s 10 40 V0 ds r R0.2 (HPB.out V0 hP0.below))
  have HFW := Lib.hid (fun (W : World) (hb : Below w.heap.size w W) => few_any A n c 12 W xs (by decide) R1.2.2 (R1.1.keep hb) (fun x hx => (R1.2.1 x hx).keep hb))
  have HVL := Lib.hid (fun (W : World) (hb : Below w.heap.size w W) => rvalid_any s W ds r R0.2 (HPB.out W hb))
  have HKN := Lib.hid (fun (W : World) (hb : Below w.heap.size w W) => known_any W (hT.keep hb))
  have HXS := Lib.hid R1
  have HT := Lib.hid hT
  have HVQ := Lib.hid (valid_eq (ds := ds) (r := r) (fun d hd => (R0.1.1.2 d hd).1.symm))
  have HP0 := Lib.hid hP0
  have m0 := hP0.c 0 0 rfl rfl
  have m1 := hP0.c 0 1 rfl rfl
  have m2 := hP0.c 0 2 rfl rfl
  have m3 := hP0.c 0 3 rfl rfl
  have ml := hP0.lt 0 rfl
  unfold PrbS.val at *
  clear hP0 R0 R1 hT
  generalize hsm : smF ds r 10 40 = sm at *
  have HSME := Lib.hid hsm
  clear hsm
  go_enter Tryz.func4, Tryz.ntmps4
  go_upto_region 1 with fail
  rw [← hV0, ← hp2]
  clear hV0 hp2
  go_wp2_with fail
  refine HSM.out.mono ?_
  rintro e W1 ⟨rfl, hb1⟩
  have HP1 := Lib.hid (HP0.out.keep hb1)
  clear m0 m1 m2 m3 ml hb1 HP0 HSM
  cases sm with
  | false =>
    go_wp2_with fail
    refine (HKN.out _ HP1.out.below).mono ?_
    rintro e W2 ⟨rfl, hb2⟩
    have HB := Lib.hid (HP1.out.keep hb2).below
    clear hb2
    go_wp2_with fail
    go_ret
    exact ⟨rfl, HB.out⟩
  | true =>
    have HF1 := Lib.hid (HFW.out W1 HP1.out.below)
    clear HFW
    generalize hfw : fewA xs 12 = fw at *
    have HFWE := Lib.hid hfw
    clear hfw
    go_wp2_with fail
    refine HF1.out.mono ?_
    rintro e W2 ⟨rfl, hb2⟩
    have hP2 := HP1.out.keep hb2
    have HP2 := Lib.hid hP2
    clear hb2 HP1 HF1
    have m0 := hP2.c 0 0 rfl rfl
    have m1 := hP2.c 0 1 rfl rfl
    have m2 := hP2.c 0 2 rfl rfl
    have m3 := hP2.c 0 3 rfl rfl
    have ml := hP2.lt 0 rfl
    clear hP2
    cases fw with
    | false =>
      go_wp2_with fail
      refine (HKN.out _ HP2.out.below).mono ?_
      rintro e W2 ⟨rfl, hb2⟩
      have HB := Lib.hid (HP2.out.keep hb2).below
      clear hb2
      go_wp2_with fail
      go_ret
      exact ⟨rfl, HB.out⟩
    | true =>
      have HV2 := Lib.hid (HVL.out W2 HP2.out.below)
      clear HVL
      generalize hvl : validR ds r = vl at *
      go_wp2_with fail
      refine HV2.out.mono ?_
      rintro e W3 ⟨rfl, hb3⟩
      have hP3 := HP2.out.keep hb3
      have HP3 := Lib.hid hP3
      clear hb3 HP2 HV2 m0 m1 m2 m3 ml
      have m0 := hP3.c 0 0 rfl rfl
      have m1 := hP3.c 0 1 rfl rfl
      have m2 := hP3.c 0 2 rfl rfl
      have m3 := hP3.c 0 3 rfl rfl
      have ml := hP3.lt 0 rfl
      clear hP3
      cases vl with
      | false =>
        go_wp2_with fail
        refine (HKN.out _ HP3.out.below).mono ?_
        rintro e W2 ⟨rfl, hb2⟩
        have HB := Lib.hid (HP3.out.keep hb2).below
        clear hb2
        go_wp2_with fail
        go_ret
        exact ⟨rfl, HB.out⟩
      | true =>
        have hvp : validP ds r = true := HVQ.out
        have hNW := new_any s W3 (HT.out.keep HP3.out.below) ds r HND.out (fun d hd => by have := (smF_spec (by decide) HSME.out).2.1 d hd; omega) (HPB.out W3 HP3.out.below)
        unfold PrbS.val at hNW
        have HNW := Lib.hid hNW
        clear hvl HVQ hNW
        have HVP := Lib.hid hvp
        clear hvp
        go_wp2_with fail
        refine HNW.out.mono ?_
        rintro e W4 hN
        unfold NewPost at hN
        rw [if_pos HVP.out] at hN
        obtain ⟨g, x0, rfl, hge, hSt, hOk, hds, hr, hPe, hQe, hb4⟩ := hN
        have hgw : w.heap.size ≤ g := Nat.le_trans HP3.out.below.size hge
        have HS0 := Lib.hid (hSt (kd g) (Nat.lt_irrefl _))
        have HO0 : Hid (StOk x0 ∧ ApP x0.P ∧ ApQ x0.Q) := Lib.hid ⟨hOk, by rw [hPe]; exact apP_nil, by rw [hQe]; exact apQ_nil⟩
        have HB4 := Lib.hid (HP3.out.keep hb4).below
        have HGW := Lib.hid hgw
        have hn12 : n ≤ 12 := by
          have h := HFWE.out
          unfold fewA at h
          rw [Bool.and_eq_true, decide_eq_true_eq] at h
          have h2 := HXS.out.1.1
          omega
        clear hge hSt hOk hds hr hPe hQe hb4 hgw HNW m0 m1 m2 m3 ml HP3
        go_wp2_with fail
        go_loopw [7] (fun i wr => ∃ (k : Nat) (x : StS), k ≤ n ∧ i = .int .i64 k ∧ StAt wr g (kd g) g x ∧ (StOk x ∧ ApP x.P ∧ ApQ x.Q) ∧ Below w.heap.size w wr) (fun i _ => n - (intOf i).toNat)
        case atStart => exact ⟨0, x0, Nat.zero_le _, rfl, HS0.out, HO0.out, HB4.out⟩
        case round =>
          clear HS0 HO0 HB4
          obtain ⟨k, x, hk, rfl, hS, hO, hB⟩ := hrel
          have HS := Lib.hid hS
          have HO := Lib.hid hO
          have HB := Lib.hid hB
          clear hS hO
          by_cases hlt : k < n
          · have j0 : (k : Int) < (n : Int) := by omega
            obtain ⟨a, ha⟩ : ∃ a, xs[k]? = some a := ⟨_, List.getElem?_eq_getElem (by rw [HXS.out.1.1]; exact hlt)⟩
            have ham := List.mem_of_getElem? ha
            obtain ⟨b, off, rfl, hbl, hc⟩ := (HXS.out.1.keep hB).2 (by omega)
            have y1 : wr.cell? ⟨b, off + k * 5 + 1, none⟩ = some (.slice a.ch.adr a.ch.len a.ch.cap) := hc k a ha 1 (by decide)
            have hsm : actSm a = true := by
              have h := HFWE.out
              unfold fewA at h
              rw [Bool.and_eq_true, List.all_eq_true] at h
              exact h.2 a ham
            have hraw := HXS.out.2.1 a ham
            have hlm := Acd.lem (hraw.keep hB) hsm
            have HPK := Lib.hid (pack_any g (kd g) g x a.ch.adr a.ch.len a.ch.cap wr a.ch.chs HS.out HO.out.1 (fun k hk => Nat.lt_of_lt_of_le HS.out.blk.lt hk) HS.out.hdl hlm.2 hlm.rowS)
            have HAT := Lib.hid (fun (W : World) (hb : Below w.heap.size w W) => Acd.prf (hraw.keep hb) hsm)
            have HCL := Lib.hid (fun (W : World) (hb : Below w.heap.size w W) => (by
              obtain ⟨b', off', e', _, hc'⟩ := (HXS.out.1.keep hb).2 (by omega)
              injection e' with e'
              injection e' with e1 e2
              subst e1 e2
              exact ⟨hc' k a ha 2 (by decide), hc' k a ha 3 (by decide)⟩ : W.cell? ⟨b, off + k * 5 + 2, none⟩ = some (.slice a.pr.sa a.pr.sn a.pr.sc) ∧ W.cell? ⟨b, off + k * 5 + 3, none⟩ = some (.slice a.pr.la a.pr.ln a.pr.lc)))
            have HBL : Hid (b < w.heap.size) := Lib.hid (by have := (HXS.out.1).2 (by omega); obtain ⟨b', off', e', h1, _⟩ := this; injection e' with e'; injection e' with e1 e2; omega)
            clear ha ham hbl hc hsm hraw hlm hB
            go_wp2_with fail
            refine HPK.out.mono ?_
            rintro e W6 hpost
            have hB6 := hpost.below HB.out HGW.out
            obtain ⟨x6, rfl, hS6, hO6, hds6, hr6, hP6, hQ6, hg6⟩ := hpost
            have hbl : b < W6.heap.size := by have := HBL.out; have := hB6.size; omega
            have y2 := (HCL.out W6 hB6).1
            have y3 : W6.cell? ⟨b, off + k * 5 + 2 + 1, none⟩ = some (.slice a.pr.la a.pr.ln a.pr.lc) := (HCL.out W6 hB6).2
            have HRF := Lib.hid (refute_any g (kd g) g x6 a.pr W6 hS6 hO6 (fun k hk => Nat.lt_of_lt_of_le hS6.blk.lt hk) (HAT.out W6 hB6))
            have HA6 : Hid (ApP x6.P ∧ ApQ x6.Q) := Lib.hid ⟨by rw [hP6]; exact apP_pk HO.out.2.1, by rw [hQ6]; exact HO.out.2.2⟩
            have HB6 := Lib.hid hB6
            unfold Prf.val Prf.v1 Prf.v2 at HRF
            clear hS6 hO6 hds6 hr6 hP6 hQ6 hg6 hB6 y1 HPK HAT HCL HBL HS HO HB
            go_wp2_with fail
            refine HRF.out.mono ?_
            rintro e W7 hpost
            have hB7 := hpost.below HB6.out HGW.out
            obtain ⟨x7, rfl, hS7, hO7, hds7, hr7, hP7, hQ7, hg7⟩ := hpost
            have HS7 := Lib.hid hS7
            have HO7 : Hid (StOk x7 ∧ ApP x7.P ∧ ApQ x7.Q) := Lib.hid ⟨hO7, by rw [hP7]; exact HA6.out.1, by rw [hQ7]; exact apQ_rf HA6.out.2⟩
            have HB7 := Lib.hid hB7
            clear hS7 hO7 hds7 hr7 hP7 hQ7 hg7 hB7 y2 y3 hbl HRF HA6 HB6
            go_wp2_with fail
            go_roundw
            case rel => exact ⟨k + 1, x7, hlt, by go_num, HS7.out, HO7.out, HB7.out⟩
            case measure => simp [intOf]; omega
          · have j0 : ¬ (k : Int) < (n : Int) := by omega
            have HPD := Lib.hid (packed_any g (kd g) g x wr HS.out (by have := HO.out.1.pl; omega))
            clear hB
            go_wp2_with fail
            refine HPD.out.mono ?_
            rintro e W8 hpost
            obtain ⟨v8, O8, rfl, hO8, hL8, hb8⟩ := pkd_at hpost
            obtain ⟨⟨A8, c8, rfl, _⟩, _⟩ := id hL8
            have HRD := Lib.hid (refuted_any g (kd g) g x W8 (HS.out.keep hb8) HO.out.1)
            have HL8 := Lib.hid hL8
            have HO8 := Lib.hid hO8
            have HB8 := Lib.hid (HB.out.trans (hb8.mono HB.out.size))
            clear hpost hO8 hL8 hb8 HPD
            go_wp2_with fail
            refine HRD.out.mono ?_
            rintro e W9 hpost
            obtain ⟨v9, O9, rfl, hO9, hL9, hb9⟩ := rfd_at hpost
            obtain ⟨⟨A9, c9, rfl, _⟩, _⟩ := id hL9
            have HL8' := Lib.hid (HL8.out.keep hb9)
            have HL9 := Lib.hid hL9
            have HO9 := Lib.hid hO9
            have HB9 := Lib.hid (HB8.out.trans (hb9.mono HB8.out.size))
            clear hpost hO9 hL9 hb9 HRD HL8 HB8
            go_wp2_with fail
            obtain ⟨n8, hn8⟩ : ∃ n8, n8 = O8.length := ⟨_, rfl⟩
            obtain ⟨n9, hn9⟩ : ∃ n9, n9 = O9.length := ⟨_, rfl⟩
            rw [← hn8, ← hn9]
            have HNN : Hid (O8.length = n8 ∧ O9.length = n9 ∧ n8 ≤ 1000 ∧ n9 ≤ 1000) := Lib.hid ⟨hn8.symm, hn9.symm, by
              have h1 := congrArg List.length HO8.out
              rw [List.length_map] at h1
              unfold StS.P at h1
              rw [List.length_map] at h1
              have := HO.out.1.pl; omega, by
              have h1 := congrArg List.length HO9.out
              rw [List.length_map] at h1
              unfold StS.Q at h1
              rw [List.length_map] at h1
              have := HO.out.1.rl; omega⟩
            have HR8 := Lib.hid (fun (X : World) (hb : Below W9.heap.size W9 X) => (by
              obtain ⟨⟨A', c', e', hr⟩, ha⟩ := HL8'.out.keep hb
              rw [HNN.out.1] at e' hr
              injection e' with e' _ _
              subst e'
              exact ⟨hr, ha⟩ : RowX 1 lemC X (fun _ => True) A8 n8 O8 ∧ ∀ m ∈ O8, m.At X (fun _ => True)))
            have HR9 := Lib.hid (fun (X : World) (hb : Below W9.heap.size W9 X) => (by
              obtain ⟨⟨A', c', e', hr⟩, ha⟩ := HL9.out.keep hb
              rw [HNN.out.2.1] at e' hr
              injection e' with e' _ _
              subst e'
              exact ⟨hr, ha⟩ : RowX 2 prfC X (fun _ => True) A9 n9 O9 ∧ ∀ m ∈ O9, m.At X (fun _ => True)))
            have hn8b := HNN.out.2.2.1
            have hn9b := HNN.out.2.2.2
            clear hn8 hn9 HL8' HL9 HS
            obtain ⟨wo, rfl⟩ : ∃ wo : World, wo = wr := ⟨_, rfl⟩
            have HB9' : Hid (Below w.heap.size w W9 ∧ w.heap.size ≤ W9.heap.size) := Lib.hid ⟨HB9.out, HB9.out.size⟩
            clear HB9 HB
            go_loopw [10] (fun i wr => ∃ k1 : Nat, k1 ≤ n8 ∧ i = .int .i64 k1 ∧ Below W9.heap.size W9 wr) (fun i _ => n8 - (intOf i).toNat)
            case atStart => exact ⟨0, Nat.zero_le _, rfl, Below.refl _ _⟩
            case round =>
              obtain ⟨k1, hk1, rfl, hB1⟩ := hrel
              have HB1 := Lib.hid hB1
              clear hB1
              by_cases hlt1 : k1 < n8
              · have j1 : (k1 : Int) < (n8 : Int) := by omega
                obtain ⟨ma, hma⟩ : ∃ m, O8[k1]? = some m := ⟨_, List.getElem?_eq_getElem (by rw [HNN.out.1]; exact hlt1)⟩
                have HMA := Lib.hid hma
                clear hma
                go_wp2_with fail
                obtain ⟨w1, rfl⟩ : ∃ w1 : World, w1 = wr := ⟨_, rfl⟩
                go_loopw [11] (fun i wr => ∃ k2 : Nat, k2 ≤ n8 ∧ i = .int .i64 k2 ∧ Below W9.heap.size W9 wr) (fun i _ => n8 - (intOf i).toNat)
                case atStart => exact ⟨0, Nat.zero_le _, rfl, HB1.out⟩
                case round =>
                  obtain ⟨k2, hk2, rfl, hB2⟩ := hrel
                  have HB2 := Lib.hid hB2
                  by_cases hlt2 : k2 < n8
                  · have j2 : (k2 : Int) < (n8 : Int) := by omega
                    obtain ⟨mb, hmb⟩ : ∃ m, O8[k2]? = some m := ⟨_, List.getElem?_eq_getElem (by rw [HNN.out.1]; exact hlt2)⟩
                    by_cases heq : k1 = k2
                    · have d0 : ((k1 : Int) != (k2 : Int)) = false := by simp [heq]
                      clear hB2 hmb heq
                      go_wp2_with fail
                      refine Lx.region (C := fun _ => True) (hs := [12]) (by kernel_rfl) (by kernel_rfl) trivial ?_
                      repeat' (first
                        | (refine Lx.lex_no (Lx.n1 rfl rfl rfl (by with_reducible rfl)) (fun K hK => ?_); go_simp; refine hK _ ?_; clear hK K)
                        | (refine Lx.lex_no (Lx.n0 rfl rfl rfl (by with_reducible rfl)) (fun K hK => ?_); go_simp; refine hK _ ?_; clear hK K)
                        | (refine Lx.lex_no (Lx.n2 rfl rfl rfl) (fun K hK => ?_); go_simp; refine hK _ ?_; clear hK K)
                        | (refine Lx.lex_pure (v := ?_) rfl (by first | exact Lx.w0 rfl | exact Lx.w1 rfl rfl rfl (by with_reducible rfl)) ?_ (fun K hK => ?_); rotate_left 1; (intro w' hCw; (try dsimp only at hCw); go_simp; done); go_simp; refine hK _ ?_; clear hK K)
                        | (refine Lx.lex_pure (v := ?_) rfl (by first | exact Lx.w0 rfl | exact Lx.w1 rfl rfl rfl (by with_reducible rfl)) ?_ (fun K hK => ?_); rotate_left 1; (intro w' hCw; (try dsimp only at hCw); go_simp; with_reducible rfl); go_simp; refine hK _ ?_; clear hK K)
                        | (refine Lx.lex_read (v := ?_) rfl (by first | exact Lx.w0 rfl | exact Lx.w1 rfl rfl rfl (by with_reducible rfl)) ?_ (fun K hK => ?_); rotate_left 1; (go_simp; done); go_simp; refine hK _ ?_; clear hK K)
                        | (refine Lx.lex_read (v := ?_) rfl (by first | exact Lx.w0 rfl | exact Lx.w1 rfl rfl rfl (by with_reducible rfl)) ?_ (fun K hK => ?_); rotate_left 1; (go_simp; with_reducible rfl); go_simp; refine hK _ ?_; clear hK K)
                        | (refine Lx.lex_eff rfl (by first | exact Lx.w0 rfl | exact Lx.w1 rfl rfl rfl (by with_reducible rfl)) (fun K hK => ?_); go_simp; (first | fail | skip); refine hK _ _ (trivial) ?_; clear hK K)
                        | (refine Lx.lex_cases rfl rfl rfl (fun hgd K hK => ?_) (fun hgd K hK => ?_) <;> (try simp only [decide_eq_true_eq, decide_eq_false_iff_not] at hgd) <;> (first | (exfalso; omega) | (go_simp; refine hK _ ?_; clear hK K))))
                      all_goals (refine Lx.lex_nil ?_)
                      go_wp2_with fail
                      go_roundw
                      case rel => exact ⟨k2 + 1, hlt2, by go_num, HB2.out.drew⟩
                      case measure => simp [intOf]; omega
                    · have d0 : ((k1 : Int) != (k2 : Int)) = true := by simp; omega
                      obtain ⟨hr8, ha8⟩ := HR8.out wr hB2
                      obtain ⟨b, off, rfl, _, hc⟩ := hr8.2 (by omega)
                      have y1 : wr.cell? ⟨b, off + k1, none⟩ = some (.slice ma.adr ma.len ma.cap) := by have := hc k1 ma HMA.out 0 (by decide); rwa [Nat.mul_one, Nat.add_zero] at this
                      have y2 : wr.cell? ⟨b, off + k2, none⟩ = some (.slice mb.adr mb.len mb.cap) := by have := hc k2 mb hmb 0 (by decide); rwa [Nat.mul_one, Nat.add_zero] at this
                      have hbl : b < wr.heap.size := (lt_of_cell y1).1
                      have hA := (ha8 ma (List.mem_of_getElem? HMA.out)).keep (Below.refl _ _).drew
                      have hBm := (ha8 mb (List.mem_of_getElem? hmb)).keep (Below.refl _ _).drew
                      have HS1 := Lib.hid (asts_row ma.adr ma.len ma.cap wr.drew ma.chs hA.2 hA.rowS)
                      have HS2 := Lib.hid (fun (X : World) (hb : Below wr.drew.heap.size wr.drew X) => asts_row mb.adr mb.len mb.cap X mb.chs hBm.2 (hBm.keep hb).rowS)
                      have HAM : Hid (amgF (ofC ma.chs) (ofC mb.chs) = false) := Lib.hid (apP_no (P := x.P) HO.out.2.1 (i := k1) (k := k2) (by rw [← HO8.out, List.getElem?_map, HMA.out]; rfl) (by rw [← HO8.out, List.getElem?_map, hmb]; rfl) heq)
                      have HYK := Lib.hid (fun (X : World) (hb : Below wr.drew.heap.size wr.drew X) => ((hb.block b hbl : X.heap[b]? = wr.heap[b]?)))
                      have HY2 := Lib.hid (And.intro hbl y2)
                      have HBD := Lib.hid (HB2.out.drew)
                      have HLA : Hid (ma.len ≤ 9223372036854775807 ∧ mb.len ≤ 9223372036854775807) := Lib.hid ⟨by have := hA.2; omega, by have := hBm.2; omega⟩
                      clear hB2 hmb heq hr8 ha8 hc hA hBm
                      go_wp2_with fail
                      refine Lx.region (C := fun X => X.cell? ⟨b, off + k2, none⟩ = some (.slice mb.adr mb.len mb.cap)) (hs := [12]) (by kernel_rfl) (by kernel_rfl) y2 ?_
                      repeat' (first
                        | (refine Lx.lex_no (Lx.n1 rfl rfl rfl (by with_reducible rfl)) (fun K hK => ?_); go_simp; skip; refine hK _ ?_; clear hK K)
                        | (refine Lx.lex_no (Lx.n0 rfl rfl rfl (by with_reducible rfl)) (fun K hK => ?_); go_simp; skip; refine hK _ ?_; clear hK K)
                        | (refine Lx.lex_no (Lx.n2 rfl rfl rfl) (fun K hK => ?_); go_simp; skip; refine hK _ ?_; clear hK K)
                        | (refine Lx.lex_pure (v := ?_) rfl (by first | exact Lx.w0 rfl | exact Lx.w1 rfl rfl rfl (by with_reducible rfl)) ?_ (fun K hK => ?_); rotate_left 1; (intro w' hCw; (try dsimp only at hCw); go_simp; first | done | with_reducible rfl); go_simp; skip; refine hK _ ?_; clear hK K)
                        | (refine Lx.lex_read (v := ?_) rfl (by first | exact Lx.w0 rfl | exact Lx.w1 rfl rfl rfl (by with_reducible rfl)) ?_ (fun K hK => ?_); rotate_left 1; (go_simp; first | done | with_reducible rfl); go_simp; skip; refine hK _ ?_; clear hK K)
                        | (refine Lx.lex_eff rfl (by first | exact Lx.w0 rfl | exact Lx.w1 rfl rfl rfl (by with_reducible rfl)) (fun K hK => ?_); go_simp; (first | (go_at_call_of 20 (Value.slice ma.adr ma.len ma.cap); refine HS1.out.mono ?_; rintro e wA ⟨A5, c5, rfl, hrA, hbA⟩; have HWA := Lib.hid (And.intro hrA hbA); have HCA : Hid (wA.cell? ⟨b, off + k2, none⟩ = some (.slice mb.adr mb.len mb.cap)) := Lib.hid ((World.cell?_of_block (w := wr) (w' := wA) (a := ⟨b, off + k2, none⟩) (HYK.out wA hbA)).trans HY2.out.2); clear hrA hbA) | (go_at_call_of 20 (Value.slice mb.adr mb.len mb.cap); refine (HS2.out wA HWA.out.2).mono ?_; rintro e wB ⟨A6, c6, rfl, hrB, hbB⟩; have HWB := Lib.hid (And.intro hrB (HWA.out.2.trans (hbB.mono HWA.out.2.size))); have HRA := Lib.hid (HWA.out.1.keep hbB); have HCB : Hid (wB.cell? ⟨b, off + k2, none⟩ = some (.slice mb.adr mb.len mb.cap)) := Lib.hid ((World.cell?_of_block (w := wr) (w' := wB) (a := ⟨b, off + k2, none⟩) (HYK.out wB HWB.out.2)).trans HY2.out.2); clear hrB hbB) | (go_at_call 19; refine (among_any A5 A6 ma.len c5 mb.len c6 wB (ofC ma.chs) (ofC mb.chs) HLA.out.1 HLA.out.2 HRA.out HWB.out.1).mono ?_; rintro e wC ⟨rfl, rfl⟩; rw [HAM.out])); refine hK _ _ (by first | exact HCB.out | exact HCA.out) ?_; clear hK K))
                      all_goals (refine Lx.lex_nil ?_)
                      go_wp2_with fail
                      go_roundw
                      case rel => exact ⟨k2 + 1, hlt2, by go_num, HBD.out.trans (HWB.out.2.mono HBD.out.size)⟩
                      case measure => simp [intOf]; omega
                  · obtain rfl : k2 = n8 := by omega
                    have j2 : ¬ (k2 : Int) < (k2 : Int) := by omega
                    clear hB2
                    go_wp2_with fail
                    go_roundw
                    case rel => exact ⟨k1 + 1, hlt1, by go_num, HB2.out⟩
                    case measure => simp [intOf]; omega
              · obtain rfl : k1 = n8 := by omega
                have j1 : ¬ (k1 : Int) < (k1 : Int) := by omega
                go_wp2_with fail
                obtain ⟨w1, rfl⟩ : ∃ w1 : World, w1 = wr := ⟨_, rfl⟩
                go_loopw [12] (fun i wr => ∃ k1 : Nat, k1 ≤ n9 ∧ i = .int .i64 k1 ∧ Below W9.heap.size W9 wr) (fun i _ => n9 - (intOf i).toNat)
                case atStart => exact ⟨0, Nat.zero_le _, rfl, HB1.out⟩
                case round =>
                  clear HB1
                  obtain ⟨i1, hi1, rfl, hB1⟩ := hrel
                  have HB1 := Lib.hid hB1
                  clear hB1
                  by_cases hlt1 : i1 < n9
                  · have j3 : (i1 : Int) < (n9 : Int) := by omega
                    obtain ⟨ma, hma⟩ : ∃ m, O9[i1]? = some m := ⟨_, List.getElem?_eq_getElem (by rw [HNN.out.2.1]; exact hlt1)⟩
                    have HMA := Lib.hid hma
                    clear hma
                    go_wp2_with fail
                    obtain ⟨w2, rfl⟩ : ∃ w2 : World, w2 = wr := ⟨_, rfl⟩
                    go_loopw [13] (fun i wr => ∃ k2 : Nat, k2 ≤ n9 ∧ i = .int .i64 k2 ∧ Below W9.heap.size W9 wr) (fun i _ => n9 - (intOf i).toNat)
                    case atStart => exact ⟨0, Nat.zero_le _, rfl, HB1.out⟩
                    case round =>
                      obtain ⟨i2, hi2, rfl, hB2⟩ := hrel
                      have HB2 := Lib.hid hB2
                      by_cases hlt2 : i2 < n9
                      · have j4 : (i2 : Int) < (n9 : Int) := by omega
                        obtain ⟨mb, hmb⟩ : ∃ m, O9[i2]? = some m := ⟨_, List.getElem?_eq_getElem (by rw [HNN.out.2.1]; exact hlt2)⟩
                        by_cases heq : i1 = i2
                        · have d0 : ((i1 : Int) != (i2 : Int)) = false := by simp [heq]
                          clear hB2 hmb heq
                          go_wp2_with fail
                          refine Lx.region (C := fun _ => True) (hs := []) (by kernel_rfl) (by kernel_rfl) trivial ?_
                          repeat' (first
                            | (refine Lx.lex_no (Lx.n1 rfl rfl rfl (by with_reducible rfl)) (fun K hK => ?_); go_simp; refine hK _ ?_; clear hK K)
                            | (refine Lx.lex_no (Lx.n0 rfl rfl rfl (by with_reducible rfl)) (fun K hK => ?_); go_simp; refine hK _ ?_; clear hK K)
                            | (refine Lx.lex_no (Lx.n2 rfl rfl rfl) (fun K hK => ?_); go_simp; refine hK _ ?_; clear hK K)
                            | (refine Lx.lex_pure (v := ?_) rfl (by first | exact Lx.w0 rfl | exact Lx.w1 rfl rfl rfl (by with_reducible rfl)) ?_ (fun K hK => ?_); rotate_left 1; (intro w' hCw; (try dsimp only at hCw); go_simp; done); go_simp; refine hK _ ?_; clear hK K)
                            | (refine Lx.lex_pure (v := ?_) rfl (by first | exact Lx.w0 rfl | exact Lx.w1 rfl rfl rfl (by with_reducible rfl)) ?_ (fun K hK => ?_); rotate_left 1; (intro w' hCw; (try dsimp only at hCw); go_simp; with_reducible rfl); go_simp; refine hK _ ?_; clear hK K)
                            | (refine Lx.lex_read (v := ?_) rfl (by first | exact Lx.w0 rfl | exact Lx.w1 rfl rfl rfl (by with_reducible rfl)) ?_ (fun K hK => ?_); rotate_left 1; (go_simp; done); go_simp; refine hK _ ?_; clear hK K)
                            | (refine Lx.lex_read (v := ?_) rfl (by first | exact Lx.w0 rfl | exact Lx.w1 rfl rfl rfl (by with_reducible rfl)) ?_ (fun K hK => ?_); rotate_left 1; (go_simp; with_reducible rfl); go_simp; refine hK _ ?_; clear hK K)
                            | (refine Lx.lex_eff rfl (by first | exact Lx.w0 rfl | exact Lx.w1 rfl rfl rfl (by with_reducible rfl)) (fun K hK => ?_); go_simp; (first | fail | skip); refine hK _ _ (trivial) ?_; clear hK K)
                            | (refine Lx.lex_cases rfl rfl rfl (fun hgd K hK => ?_) (fun hgd K hK => ?_) <;> (try simp only [decide_eq_true_eq, decide_eq_false_iff_not] at hgd) <;> (first | (exfalso; omega) | (go_simp; refine hK _ ?_; clear hK K))))
                          all_goals (refine Lx.lex_nil ?_)
                          go_wp2_with fail
                          go_roundw
                          case rel => exact ⟨i2 + 1, hlt2, by go_num, HB2.out.drew⟩
                          case measure => simp [intOf]; omega
                        · have d0 : ((i1 : Int) != (i2 : Int)) = true := by simp; omega
                          obtain ⟨hr9, ha9⟩ := HR9.out wr hB2
                          obtain ⟨b, off, rfl, _, hc⟩ := hr9.2 (by omega)
                          have y1 : wr.cell? ⟨b, off + i1 * 2, none⟩ = some (.slice ma.sa ma.sn ma.sc) := hc i1 ma HMA.out 0 (by decide)
                          have y2 : wr.cell? ⟨b, off + i2 * 2, none⟩ = some (.slice mb.sa mb.sn mb.sc) := hc i2 mb hmb 0 (by decide)
                          have hbl : b < wr.heap.size := (lt_of_cell y1).1
                          have hA := (ha9 ma (List.mem_of_getElem? HMA.out)).keep (Below.refl _ _).drew
                          have hBm := (ha9 mb (List.mem_of_getElem? hmb)).keep (Below.refl _ _).drew
                          have hAM : amgF ma.sts mb.sts = false := apQ_no (Q := x.Q) (a := ma.say) (b := mb.say) HO.out.2.2 (i := i1) (k := i2) (by rw [← HO9.out, List.getElem?_map, HMA.out]; rfl) (by rw [← HO9.out, List.getElem?_map, hmb]; rfl) heq
                          have hAMG := among_any ma.sa mb.sa ma.sn ma.sc mb.sn mb.sc wr.drew ma.sts mb.sts (by have := hA.2.2.2.1; omega) (by have := hBm.2.2.2.1; omega) hA.ints hBm.ints
                          rw [hAM] at hAMG
                          have HAMG := Lib.hid hAMG
                          clear hB2 hmb heq hr9 ha9 hc hA hBm hAM hAMG
                          go_wp2_with fail
                          refine Lx.region (C := fun _ => True) (hs := []) (by kernel_rfl) (by kernel_rfl) trivial ?_
                          repeat' (first
                            | (refine Lx.lex_no (Lx.n1 rfl rfl rfl (by with_reducible rfl)) (fun K hK => ?_); go_simp; refine hK _ ?_; clear hK K)
                            | (refine Lx.lex_no (Lx.n0 rfl rfl rfl (by with_reducible rfl)) (fun K hK => ?_); go_simp; refine hK _ ?_; clear hK K)
                            | (refine Lx.lex_no (Lx.n2 rfl rfl rfl) (fun K hK => ?_); go_simp; refine hK _ ?_; clear hK K)
                            | (refine Lx.lex_pure (v := ?_) rfl (by first | exact Lx.w0 rfl | exact Lx.w1 rfl rfl rfl (by with_reducible rfl)) ?_ (fun K hK => ?_); rotate_left 1; (intro w' hCw; (try dsimp only at hCw); go_simp; done); go_simp; refine hK _ ?_; clear hK K)
                            | (refine Lx.lex_pure (v := ?_) rfl (by first | exact Lx.w0 rfl | exact Lx.w1 rfl rfl rfl (by with_reducible rfl)) ?_ (fun K hK => ?_); rotate_left 1; (intro w' hCw; (try dsimp only at hCw); go_simp; with_reducible rfl); go_simp; refine hK _ ?_; clear hK K)
                            | (refine Lx.lex_read (v := ?_) rfl (by first | exact Lx.w0 rfl | exact Lx.w1 rfl rfl rfl (by with_reducible rfl)) ?_ (fun K hK => ?_); rotate_left 1; (go_simp; done); go_simp; refine hK _ ?_; clear hK K)
                            | (refine Lx.lex_read (v := ?_) rfl (by first | exact Lx.w0 rfl | exact Lx.w1 rfl rfl rfl (by with_reducible rfl)) ?_ (fun K hK => ?_); rotate_left 1; (go_simp; with_reducible rfl); go_simp; refine hK _ ?_; clear hK K)
                            | (refine Lx.lex_eff rfl (by first | exact Lx.w0 rfl | exact Lx.w1 rfl rfl rfl (by with_reducible rfl)) (fun K hK => ?_); go_simp; (first | (go_at_call 19; refine HAMG.out.mono ?_; rintro e wC ⟨rfl, rfl⟩) | skip); refine hK _ _ (trivial) ?_; clear hK K)
                            | (refine Lx.lex_cases rfl rfl rfl (fun hgd K hK => ?_) (fun hgd K hK => ?_) <;> (try simp only [decide_eq_true_eq, decide_eq_false_iff_not] at hgd) <;> (first | (exfalso; omega) | (go_simp; refine hK _ ?_; clear hK K))))
                          all_goals (refine Lx.lex_nil ?_)
                          go_wp2_with fail
                          go_roundw
                          case rel => exact ⟨i2 + 1, hlt2, by go_num, HB2.out.drew⟩
                          case measure => simp [intOf]; omega
                      · obtain rfl : i2 = n9 := by omega
                        have j4 : ¬ (i2 : Int) < (i2 : Int) := by omega
                        clear hB2
                        go_wp2_with fail
                        go_roundw
                        case rel => exact ⟨i1 + 1, hlt1, by go_num, HB2.out⟩
                        case measure => simp [intOf]; omega
                  · obtain rfl : i1 = n9 := by omega
                    have j3 : ¬ (i1 : Int) < (i1 : Int) := by omega
                    have HBE : Hid (Below w.heap.size w wr) := Lib.hid (HB9'.out.1.trans (HB1.out.mono HB9'.out.2))
                    have HKE := Lib.hid (HKN.out _ HBE.out)
                    go_wp2_with fail
                    refine HKE.out.mono ?_
                    rintro e W2 ⟨rfl, hb2⟩
                    have HB := Lib.hid (HBE.out.trans (hb2.mono HBE.out.size))
                    clear hb2
                    go_wp2_with fail
                    go_ret
                    exact ⟨rfl, HB.out⟩

set_option maxRecDepth 100000 in
theorem containApart_lifted (os : Os) (started : os.Started) (H : Type) (enc : TypeId × Value → H) :
    ReturnsInHanded {} Tryz.checked os 4 .any (fun w args => (Rows.containApartSpec.pre enc Tryz.prog Tryz.f4 [] false w args ∧ laidMetH Tryz.prog laid07 w) ∧ sizedMet enc Tryz.prog Tryz.f4 (OpenSpec.ofChange Rows.containApartSpec) false w args) (Rows.containApartSpec.post enc Tryz.prog Tryz.f4 false true false false) := by
  refine handed_laid (C := Tryz.checked) (laid := laid07) own started (by kernel_rfl) Tryz.func4
    (ChangeSpec.witness_shaped (enc := enc) (C := Tryz.checked) (os := os) (X := fun w _ => laidMetH Tryz.prog laid07 w) false (World.laidAll Tryz.prog os laid07) #[.agg #[.slice none 0 0, .slice none 0 0, .slice none 0 0, .slice none 0 0], .slice none 0 0] 8 (World.laidAll_os _ _ _) (World.shaped_of_ZipB (by kernel_rfl) (by kernel_rfl)) (by kernel_rfl) (by kernel_rfl) (by kernel_rfl) (laidHold os _)) ?_
  intro W base args ds gs before hval0 hW hL hsh
  have hTab := tab_of hL hsh
  have hval : ∀ (j : Nat) t v, Tryz.f4.params[j]? = some t → args[j]? = some v → Value.okWide Tryz.prog W .any base t v := hval0
  have hW' := hW
  obtain ⟨p, q, hA0, hV, rfl, hfz, hnd⟩ := hW
  have hA : DataW.TrodAll enc Tryz.prog W 0 (fun _ => true) true Tryz.f4.params.toList args.toList ds p := hA0
  rw [Tryz.params4] at hA hval
  obtain ⟨v0, vs0, d0, ds0, p0, q0, hargs, rfl, rfl, h0, r0⟩ := trodAll_cons hA
  obtain ⟨v1, vs1, d1, ds1, p1, q1, rfl, rfl, rfl, h1, r1⟩ := trodAll_cons r0
  obtain ⟨rfl, rfl, rfl⟩ := trodAll_nil r1
  obtain rfl : args = #[v0, v1] := by cases args; simp_all
  obtain ⟨rfl, rfl⟩ := trodVars_none hV
  have k0 := h0
  have lt0 : ∀ x ∈ p0, x.block < W.heap.size := by obtain ⟨m, hm⟩ := k0; exact DataW.trod_lt m _ _ _ hm
  have k1 := h1
  have lt1 : ∀ x ∈ p1, x.block < W.heap.size := by obtain ⟨m, hm⟩ := k1; exact DataW.trod_lt m _ _ _ hm
  obtain ⟨s0, ds0, x0, rfl, R0⟩ := arg_prb (hval 0 29 _ rfl rfl) h0
  obtain ⟨A1, n1, c1, xs1, rfl, R1⟩ := arg_acts (hval 1 30 _ rfl rfl) h1
  clear hA0 hval0
  refine (containApart_walk W hTab s0 ds0 x0 R0 A1 n1 c1 xs1 R1).mono fun e W' ⟨he, bel⟩ => ?_
  subst he
  exact ⟨_, rfl, _, _, _, [], _, [], hW', trodAll_mk1 (shut_bool Tryz.underlying4 _), (trodAll_cons_mk (Below.trod laidOut (by kernel_rfl) (of_decide_eq_true (by kernel_rfl)) k0 bel lt0) (trodAll_cons_mk (Below.trod laidOut (by kernel_rfl) (of_decide_eq_true (by kernel_rfl)) k1 bel lt1) trodAll_mk0)), rfl, bel.frame _, fun h => by cases h⟩

theorem containApart_over : Rows.containApartRow.holds Tryz.pinned (OpenSpec.ofChange Rows.containApartSpec) :=
  OpenClaim.holds_of_wide 4 Tryz.f4 rfl rfl rfl rfl rfl rfl rfl ⟨rfl, rfl, rfl, rfl, rfl⟩ rfl rfl rfl rfl rfl (by kernel_rfl) Tryz.func4 (by kernel_rfl)
    (of_decide_eq_true (by kernel_rfl)) (by unfold Func.isWrapper; first | (rw [if_pos (by decide +kernel)]; kernel_rfl) | (rw [if_neg (by decide +kernel)]; exact ⟨rfl, rfl⟩))
    (fun os started H enc _ => containApart_lifted os started H enc)

theorem containApartCard_holds : Rows.ContainApartCardSaid :=
  Claim7.holds_tied_plain_at .later [] [.data] true (true, "6a1e8bf9da2a490e4a6c8e160f0563e6348fe16053a562f29b6eba6119d16f53") false
    containApart_over (fun _ h => by cases h) (by kernel_rfl) (fun _ h => by cases h) containApart_row_tie rfl ⟨rfl, rfl⟩ (by kernel_rfl) rfl
    (fun f fn hf hfn => by
      obtain rfl : f = 4 := Option.some.inj ((show Tryz.prog.funcNamed "bandplan/bandplanlaw24.ContainApart" = some 4 by kernel_rfl).symm.trans hf) |>.symm
      obtain rfl : fn = Tryz.f4 := (Option.some.inj (Tryz.func4.symm.trans hfn)).symm
      exact ⟨by kernel_rfl, fun j t ht => by
        rw [Tryz.params4] at ht
        rcases j with _ | j
        · obtain rfl : t = 29 := by simpa using ht.symm
          exact (show Tryz.prog.wantsStandIn 29 = false by kernel_rfl)
        rcases j with _ | j
        · obtain rfl : t = 30 := by simpa using ht.symm
          exact (show Tryz.prog.wantsStandIn 30 = false by kernel_rfl)
        · simp at ht⟩)
    (by kernel_rfl)
#print axioms containApartCard_holds
end Go.Proofs.YtdpbbhbegehcjaaGreatDoor
