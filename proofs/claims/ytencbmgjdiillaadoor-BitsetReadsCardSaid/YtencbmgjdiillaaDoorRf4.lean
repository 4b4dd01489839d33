/- The contract of the reference's Decode; an opener for slices of bytes. -/
import Derived.Test.YtencbmgjdiillaaDoorConv07
namespace Go.Proofs.YtencbmgjdiillaaDoor
open Go.RowKit Go.ChangeShapes Go.WideShapes Go.ChangeAt Go.Deep Go.Joins

/-- the numbers below k whose bit is one -/
def bitL (l : List UInt8) (k : Nat) : List Int := ((List.range k).filter fun i : Nat => bitB l i).map fun i : Nat => (i : Int)
theorem bitL_succ (l : List UInt8) (k : Nat) : bitL l (k + 1) = if bitB l k then bitL l k ++ [(k : Int)] else bitL l k := by
  unfold bitL
  rw [List.range_succ, List.filter_append, List.map_append]
  by_cases h : bitB l k = true
  · simp [h]
  · simp [h]
theorem bitL_len (l : List UInt8) (k : Nat) : (bitL l k).length ≤ k := by
  unfold bitL
  rw [List.length_map]
  have := List.length_filter_le (fun i : Nat => bitB l i) (List.range k)
  simpa using this
theorem bitB_out {l : List UInt8} {i : Nat} (h : 8 * l.length ≤ i) : bitB l i = false := by
  unfold bitB
  rw [List.getD_eq_getElem?_getD, List.getElem?_eq_none (by omega)]
  simp
theorem bitL_up (l : List UInt8) : ∀ d, bitL l (8 * l.length + d) = bitL l (8 * l.length) := by
  intro d
  induction d with
  | zero => rfl
  | succ d ih => rw [← Nat.add_assoc, bitL_succ, bitB_out (by omega), if_neg (by simp), ih]
theorem bitL_mem {l : List UInt8} (hl : l.length ≤ 64) : bitL l (8 * l.length) = memI (decGo 0 0 l) := by
  have h1 := bitL_up l (512 - 8 * l.length)
  rw [show 8 * l.length + (512 - 8 * l.length) = 512 by omega] at h1
  rw [← h1]
  have h2 : (List.range 512).filter (fun i : Nat => bitB l i) = (List.range 512).filter (fun i : Nat => (decGo 0 0 l).testBit i) := List.filter_congr fun i _ => by rw [dec_bit]
  unfold bitL memI mem
  rw [h2]

theorem bit_at8 (a j : Nat) (ha : a < 256) : bits .and .u8 ((a : Int) / 2 ^ j) 1 = if a.testBit j then 1 else 0 := by
  have h1 : ((a : Int) / 2 ^ j) = ((a / 2 ^ j : Nat) : Int) := by rw [pow_cast]; rfl
  have h2 : a / 2 ^ j ≤ a := Nat.div_le_self _ _
  have h3 := u8_and_nat (a / 2 ^ j) 1 (by omega) (by decide)
  rw [h1]
  rw [show ((1 : Nat) : Int) = 1 from rfl] at h3
  rw [h3, nat_mask1, Nat.testBit_eq_decide_div_mod_eq]
  have : a / 2 ^ j % 2 < 2 := Nat.mod_lt _ (by decide)
  by_cases h : a / 2 ^ j % 2 = 1
  · simp [h]
  · simp [show a / 2 ^ j % 2 = 0 by omega]

/-- what the reference's Decode answers -/
def decRF (l : List UInt8) : List Int × Int := if 64 < l.length then ([], 5) else if l.getLast? = some 0 then ([], 6) else (memI (decGo 0 0 l), 0)
def ListPair (r : List Int × Int) (w : World) (e : Ending) (w' : World) : Prop := ∃ v, e = .returned (.tuple #[v, .int .i64 r.2]) ∧ w'.ownsRow w.heap.size 3 1 v r.1.length (r.1.map intV) ∧ Below w.heap.size w w'

set_option maxHeartbeats 4000000 in
theorem decodeR_any (A : Option Addr) (n c : Nat) (w : World) (l : List UInt8) (hn : n ≤ 9223372036854775807) (hl : Row1 byV w w.heap.size A n l) :
    Calls Tryd.prog 29 #[.slice A n c] w (ListPair (decRF l) w) := by
  have Hl := Lib.hid hl
  have Hlen := Eqn.mk hl.1
  clear hl
  by_cases h64 : 64 < n
  · have HF : Eqn (decRF l) ([], 5) := by rw [Eqn, decRF, if_pos (by rw [Hlen.out]; exact h64)]
    rw [HF.out]
    have h1 : 64 < (n : Int) := by omega
    clear HF h64
    go_enter Tryd.func29, Tryd.ntmps29
    go_wp2_with fail
    refine bodyPost_ret (v := .tuple #[.slice none 0 0, .int .i64 5]) (by simp [results, Tryd.results29, go_sem]) rfl ⟨_, rfl, World.ownsRow_nil _ _ _ _, Below.refl _ _⟩
  · have h1 : ¬ 64 < (n : Int) := by omega
    by_cases hz : l.getLast? = some 0
    · obtain ⟨n', rfl⟩ : ∃ n', n = n' + 1 := ⟨n - 1, by
        rcases Nat.eq_zero_or_pos n with h0 | h0
        · have : l = [] := List.eq_nil_of_length_eq_zero (by rw [Hlen.out]; exact h0)
          subst this; simp at hz
        · omega⟩
      have hp : l[n']? = some 0 := by rw [← last_at Hlen.out]; exact hz
      have HF : Eqn (decRF l) ([], 6) := by rw [Eqn, decRF, if_neg (by rw [Hlen.out]; exact h64), if_pos hz]
      obtain ⟨b, off, hAA, hbl, hc⟩ := Hl.out.2 (by omega)
      subst hAA
      have c9 : w.cell? ⟨b, off + n', none⟩ = some (.int .u8 0) := by
        have := hc n' 0 hp
        exact this
      rw [HF.out]
      clear HF h64 hz hp hc
      go_enter Tryd.func29, Tryd.ntmps29
      go_wp2_with fail
      refine bodyPost_ret (v := .tuple #[.slice none 0 0, .int .i64 6]) (by simp [results, Tryd.results29, go_sem]) rfl ⟨_, rfl, World.ownsRow_nil _ _ _ _, Below.refl _ _⟩
    · have HF : Eqn (decRF l) (bitL l (8 * n), 0) := by rw [Eqn, decRF, if_neg (by rw [Hlen.out]; exact h64), if_neg hz, ← Hlen.out, bitL_mem (by rw [Hlen.out]; omega)]
      rw [HF.out]
      obtain ⟨i0, hi, hz0, hz1, hz2⟩ := info_parts int_info
      have hn64 : n ≤ 64 := by omega
      have key : (code : Nat) → True := fun _ => trivial
      clear HF key
      have main : ∀ (a : Act), True := fun _ => trivial
      clear main
      rcases Nat.eq_zero_or_pos n with h0 | h0
      · subst h0
        clear hz h64 h1
        go_enter Tryd.func29, Tryd.ntmps29
        go_wp2_with fail
        go_loop [4, 5] (fun v i => v = .slice none 0 0 ∧ i = .int .i64 0) (fun _ _ => 0)
        case atStart => exact ⟨rfl, rfl⟩
        case round =>
          obtain ⟨rfl, rfl⟩ := hrel
          go_wp2_with fail
          refine bodyPost_ret (v := .tuple #[.slice none 0 0, .int .i64 0]) (by simp [results, Tryd.results29, go_sem]) rfl ⟨_, rfl, World.ownsRow_nil _ _ _ _, Below.refl _ _⟩
      · obtain ⟨n', rfl⟩ : ∃ n', n = n' + 1 := ⟨n - 1, by omega⟩
        obtain ⟨p, hp⟩ : ∃ p, l[n']? = some p := ⟨_, List.getElem?_eq_getElem (by rw [Hlen.out]; omega)⟩
        obtain ⟨b, off, hAA, hbl, hc⟩ := Hl.out.2 (by omega)
        subst hAA
        have c9 : w.cell? ⟨b, off + n', none⟩ = some (.int .u8 (p.toNat : Int)) := hc n' p hp
        have hp1 : ¬ (p.toNat : Int) = 0 := by
          intro h
          apply hz
          rw [last_at Hlen.out, hp]
          congr 1
          exact UInt8.toNat_inj.1 (by rw [show (0 : UInt8).toNat = 0 from rfl]; omega)
        have HC := Lib.hid hc
        clear hz h64 hp hc
        go_enter Tryd.func29, Tryd.ntmps29
        go_wp2_with fail
        clear h1 hp1 c9
        go_loopw [4, 5] (fun v i wr => ∃ k : Nat, k ≤ 8 * (n' + 1) ∧ i = .int .i64 k ∧ wr.ownsRow w.heap.size 3 1 v (bitL l k).length ((bitL l k).map intV) ∧ Below w.heap.size w wr) (fun _ i _ => 8 * (n' + 1) - (intOf i).toNat)
        case atStart => exact ⟨0, Nat.zero_le _, rfl, World.ownsRow_nil _ _ _ _, Below.refl _ _⟩
        case round =>
          obtain ⟨k, hk, rfl, hO, hB⟩ := hrel
          obtain ⟨A1, c1, rfl, _⟩ := row1_of_own hO
          have hlen := bitL_len l k
          have hbs := hB.size
          have e0 : IntKind.i64.wrap (8 * ((n' + 1 : Nat) : Int)) = ((8 * (n' + 1) : Nat) : Int) := by rw [IntWalk.i64_in _ (by omega)]; omega
          have H1 := Lib.hid (And.intro hO hB)
          by_cases hlt : k = 8 * (n' + 1)
          · subst hlt
            obtain ⟨L, hL⟩ : ∃ L, bitL l (8 * (n' + 1)) = L := ⟨_, rfl⟩
            have HL := Eqn.mk hL
            rw [hL] at H1 hlen ⊢
            clear hO hB hL
            go_wp2_with fail
            refine bodyPost_ret (v := .tuple #[.slice A1 _ c1, .int .i64 0]) (by simp [results, Tryd.results29, go_sem]; rfl) rfl ⟨_, rfl, by rw [HL.out]; exact H1.out.1, H1.out.2⟩
          · obtain ⟨p, hp⟩ : ∃ p, l[k / 8]? = some p := ⟨_, List.getElem?_eq_getElem (by rw [Hlen.out]; omega)⟩
            have c0 : wr.cell? ⟨b, off + k / 8, none⟩ = some (.int .u8 (p.toNat : Int)) := by
              rw [hB.cell (p := ⟨b, off + k / 8, none⟩) hbl]
              exact HC.out (k / 8) p hp
            have hbit : bitB l k = p.toNat.testBit (k % 8) := by
              unfold bitB; rw [List.getD_eq_getElem?_getD, hp]; rfl
            have e5 := bit_at8 p.toNat (k % 8) p.toNat_lt
            rw [← hbit] at e5
            have j0 : (k : Int) < ((8 * (n' + 1) : Nat) : Int) := by omega
            obtain ⟨ki, hki⟩ : ∃ ki : Int, (k : Int) = ki := ⟨_, rfl⟩
            have e1 : IntKind.i64.wrap (ki.tdiv 8) = ((k / 8 : Nat) : Int) := by rw [IntWalk.i64_quo _ _ (by omega)]; omega
            have e2 : ki.tmod 8 = ((k % 8 : Nat) : Int) := by rw [IntWalk.rem_in _ _ (by omega)]; omega
            have j1 : ((k / 8 : Nat) : Int) < ((n' + 1 : Nat) : Int) := by omega
            have hbw : b < wr.heap.size := by omega
            have j8 : k % 8 < 8 := by omega
            have j9 : k < 512 := by omega
            have j7 : k + 1 ≤ 8 * (n' + 1) := by omega
            generalize hq : k / 8 = q at *
            generalize hj : k % 8 = j at *
            have HS := Eqn.mk (bitL_succ l k)
            have HKI := Lib.hid hki
            have hj0 : (0 : Int) ≤ (j : Int) := by omega
            have hq0 : (0 : Int) ≤ (q : Int) := by omega
            have j3 : 0 ≤ ki := by omega
            rw [hki] at j0 HS
            rw [hki]
            clear hO hB hp hbit hq hj hki hlt hk
            cases hbb : bitB l k with
            | false =>
              rw [hbb, if_neg (by simp)] at e5
              have HS2 : Eqn (bitL l (k + 1)) (bitL l k) := by have := HS.out; rw [hbb, if_neg (by simp)] at this; exact this
              generalize bitL l k = L at *
              clear HS hbb
              go_wp2_with fail
              clear e0 e1 e2
              go_roundw
              case rel => exact ⟨k + 1, j7, by rw [← HKI.out]; go_num, by rw [HS2.out]; exact H1.out.1, H1.out.2⟩
              case measure => rw [← HKI.out]; simp [intOf]; omega
            | true =>
              rw [hbb, if_pos rfl] at e5
              have HS2 : Eqn (bitL l (k + 1)) (bitL l k ++ [ki]) := by have := HS.out; rw [hbb, if_pos rfl] at this; exact this
              generalize bitL l k = L at *
              clear HS hbb
              go_wp2_with (at_builtin; refine wpList_append_own_at _ rfl _ _ 22 rfl w.heap.size 3 i0 (.int .i64 0) 1 8 Tryd.underlying22 hi hz0 hz1 hz2 rfl (by decide) _ _ _ rfl (H1.out.1.alloc _) ⟨wr.heap.size, 0, none⟩ 1 1 [.int .i64 ki] rfl rfl (cell_one_new _ _ _) (by simp [Value.oneCell']) (by unfold maxLen; omega) (by omega) (by simp; omega) ?_; intro v' w3 hown' hgrow hnil hat; have H3 : Hid (w3.ownsRow w.heap.size 3 1 v' (L.length + 1) (L.map intV ++ [.int .i64 ki]) ∧ Below w.heap.size w w3) := Lib.hid ⟨hown', (H1.out.2.alloc hbs _).grown hgrow (by simp; omega) (fun g hg => own_ge H1.out.1 g hg)⟩; clear hown' hgrow hnil hat)
              clear e0 e1 e2
              go_roundw
              case rel => exact ⟨k + 1, j7, by rw [← HKI.out]; go_num, by rw [HS2.out, List.length_append, List.map_append]; exact H3.out.1, H3.out.2⟩
              case measure => rw [← HKI.out]; simp [intOf]; omega

section
variable {H : Type} {enc : TypeId × Value → H} {w : World} {base b0 : Nat} {spare : Nat → Bool} {held : Bool} {r : Reach}
theorem u8_of_wf {n : Int} (h : (Lit.int .u8 n).wf = true) : 0 ≤ n ∧ n < 256 := by
  have := bounds_u8 h
  omega
theorem arg_bytes {v : Value} {d : DataW H} {p : List MemPlace} (hv : Value.okWide Tryd.prog w r b0 50 v) (h : DataW.Trod enc Tryd.prog w base spare held 50 v d p) :
    ∃ A n c, ∃ xs : List UInt8, v = .slice A n c ∧ Row1 byV w w.heap.size A n xs ∧ n ≤ 9223372036854775807 := by
  obtain ⟨A, n, c, rfl⟩ := okWide_slice Tryd.underlying50 hv
  obtain ⟨fuel, hf⟩ := h
  rcases open_ints Tryd.underlying50 Tryd.underlying5 (by kernel_rfl) (by simpa [Value.cells] using hf) with ⟨hcs, _⟩ | ⟨x, l, c', zs, hcs, _, hl, hm, hz, _, hcell, hwz⟩
  · simp at hcs
    obtain ⟨rfl, rfl, rfl⟩ := hcs
    exact ⟨none, 0, 0, [], rfl, Row1.nil _ _ _ _, by omega⟩
  · simp at hcs
    obtain ⟨rfl, rfl, rfl⟩ := hcs
    have hzl : n ≤ zs.length := by rw [hz]; split <;> omega
    refine ⟨some x, n, c, (zs.take n).map fun z => UInt8.ofNat z.toNat, rfl, ⟨by rw [List.length_map, List.length_take]; omega, fun hn => ?_⟩, by unfold maxLen at hm; omega⟩
    have h0 := hcell 0 (by omega)
    obtain ⟨hlt, hsp⟩ := lt_of_cell h0
    obtain ⟨b, off, spot⟩ := x
    simp only [Addr.add, if_true] at hlt hsp
    subst hsp
    refine ⟨b, off, rfl, hlt, fun k y hk => ?_⟩
    rw [List.getElem?_map] at hk
    obtain ⟨z, hk', rfl⟩ := Option.map_eq_some_iff.1 hk
    replace hk := hk'
    have hz2 := u8_of_wf (hwz z (List.mem_of_mem_take (List.mem_of_getElem? hk)))
    have hkn : k < n := by
      have := (List.getElem?_eq_some_iff.1 hk).1
      rw [List.length_take] at this
      omega
    have h1 := hcell k (by omega)
    rw [List.getElem?_take_of_lt hkn] at hk
    rw [List.getD_eq_getElem?_getD, hk] at h1
    have h2 : ((UInt8.ofNat z.toNat).toNat : Int) = z := by rw [UInt8.toNat_ofNat']; omega
    unfold byV
    rw [h2]
    by_cases hk0 : k = 0
    · subst hk0
      simpa [Addr.add] using h1
    · simpa [Addr.add, hk0] using h1
end
end Go.Proofs.YtencbmgjdiillaaDoor
