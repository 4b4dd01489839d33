/- The contract of Refute of contain. -/
import Derived.ScopeJumps
import Derived.Test.YtdpbbhbegehcjaaDoorNon08
import Derived.Test.YtdpbbhbegehcjaaDoorNon12
set_option maxRecDepth 100000
set_option maxHeartbeats 4000000
namespace Go.Proofs.YtdpbbhbegehcjaaDoor
open Go.RowKit Go.Shelf
attribute [local go_sem] Oper.semAt_some
def fndVR (φ : Nat → Bool) (L : List REn) : Value := match L.find? (fun x => φ x.S) with | none => .agg #[.slice none 0 0, .slice none 0 0] | some x => x.v.val
def FdR (p2 p3 p4 p6 : Nat) (ds : List Nat) (a : Act) : Prop := ∃ u : Nat → Value, a = { tmps := #[u 0, u 1, (.pointer (some ⟨p2, 0, none⟩)), (.pointer (some ⟨p3, 0, none⟩)), (.pointer (some ⟨p4, 0, none⟩)), (.bool false), (.pointer (some ⟨p6, 0, none⟩)), u 7, u 8, u 9, u 10, u 11, u 12, u 13, u 14, u 15, u 16, u 17, u 18, u 19, u 20], defers := marksOf ds }
theorem FdR_mk {p2 p3 p4 p6 : Nat} {ds : List Nat} {u0 u1 u7 u8 u9 u10 u11 u12 u13 u14 u15 u16 u17 u18 u19 u20 : Value} : FdR p2 p3 p4 p6 ds { tmps := #[u0, u1, (.pointer (some ⟨p2, 0, none⟩)), (.pointer (some ⟨p3, 0, none⟩)), (.pointer (some ⟨p4, 0, none⟩)), (.bool false), (.pointer (some ⟨p6, 0, none⟩)), u7, u8, u9, u10, u11, u12, u13, u14, u15, u16, u17, u18, u19, u20], defers := marksOf ds } := ⟨fun i => [u0, u1, undef, undef, undef, undef, undef, u7, u8, u9, u10, u11, u12, u13, u14, u15, u16, u17, u18, u19, u20].getD i undef, rfl⟩
theorem find_snocR {α : Type} {p : α → Bool} {L : List α} {k : Nat} {x : α} (hx : L[k]? = some x) (hno : ∀ y ∈ L.take k, p y = false) (hp : p x = true) : L.find? p = some x := by
 have h : L = L.take k ++ (x :: L.drop (k + 1)) := by
  obtain ⟨h1, rfl⟩ := List.getElem?_eq_some_iff.1 hx
  rw [← List.drop_eq_getElem_cons h1, List.take_append_drop]
 rw [h, List.find?_append, List.find?_eq_none.2 (fun y hy => by rw [hno y hy]; decide), Option.none_or, List.find?_cons, hp]
theorem findR_any (f : Nat) (bnd cap : Array Value) (φ : Nat → Bool) (A : Option Addr) (m c : Nat) (L : List REn) (w : World) (hL : RowX 10 REn.cell w (fun _ => True) A m L) (hm : m ≤ 100000)
  (hf : ∀ args w, (callFunc f args).run Tryd.prog w = .ok (.enter f args) w) (HF : ∀ y ∈ L, ∀ W, Below w.heap.size w W → Calls Tryd.prog f (bnd.push (sV y.S) ++ cap) W (RetPost (.bool (φ y.S)) W.heap.size W)) :
  Calls Tryd.prog 22 #[.agg #[.slice A m c], .func (.func f) bnd cap] w (RetPost (.tuple #[fndVR φ L, .bool (L.any fun x => φ x.S)]) w.heap.size w) := by
 obtain ⟨p2, hp2⟩ : ∃ p, p = w.heap.size := ⟨_, rfl⟩
 obtain ⟨p3, hp3⟩ : ∃ p, p = w.heap.size + 1 := ⟨_, rfl⟩
 obtain ⟨p4, hp4⟩ : ∃ p, p = w.heap.size + 1 + 1 := ⟨_, rfl⟩
 obtain ⟨p6, hp6⟩ : ∃ p, p = w.heap.size + 1 + 1 + 1 := ⟨_, rfl⟩
 have HL := Lib.hid ((hL.mono (q := (· < w.heap.size)) (by decide) (fun _ _ h => h)))
 have HF := Lib.hid HF
 have hlen := Eqn.mk hL.1
 clear hL
 obtain ⟨V0, hV0⟩ : ∃ V0, V0 = (((w.alloc (.cells #[.slice A m c] 42)).alloc (.cells #[.func (.func f) bnd cap] 82)).alloc (.cells #[.slice none 0 0, .slice none 0 0] 50)).alloc (.cells #[.slice none 0 0, .slice none 0 0] 50) := ⟨_, rfl⟩
 have hP0 : Hp w w V0 [.blk p2 42 [.slice A m c], .blk p3 82 [.func (.func f) bnd cap], .blk p4 50 [.slice none 0 0, .slice none 0 0], .blk p6 50 [.slice none 0 0, .slice none 0 0]] [] := by
  have h := ((((Hp.start w).alloc [.slice A m c] 42).alloc [.func (.func f) bnd cap] 82).alloc [.slice none 0 0, .slice none 0 0] 50).alloc [.slice none 0 0, .slice none 0 0] 50
  simp only [World.size_alloc] at h
  rw [hV0, hp2, hp3, hp4, hp6]; exact h
 have HP0 := Lib.hid hP0
 clear hP0
 refine (callsIn_wide (n := 3)).1 ?_
 refine callsIn_of_wp_marks Tryd.func22 rfl trivial ?_ rfl
 simp only [Tryd.ntmps22, List.size_toArray, List.length_cons, List.length_nil, Nat.reduceAdd, Nat.reduceSub, Array.replicate_succ, Array.replicate_zero, List.push_toArray, List.append_toArray, List.nil_append, List.cons_append]
 gi_wp2_with fail
 refine wpIn_wide.2 (wp_scope_jumps 0 (fun a W => ∃ (D : Nat) (x : REn), FdR p2 p3 p4 p6 [D] a ∧ L.find? (fun y => φ y.S) = some x ∧ Hp w W W [.blk p2 42 [.slice A m c], .blk p3 82 [.func (.func f) bnd cap], .blk p4 50 [.slice none 0 0, .slice none 0 0], .blk p6 50 [.slice x.v.sa x.v.sn x.v.sc, .slice x.v.la x.v.ln x.v.lc]] [D]) (fun _ _ => 0) rfl (wpIn_wide (n := 3).1 ?first) (fun a W hJ => wpIn_wide (n := 3).1 ?pass))
 case first =>
  gi_upto_region 2 with fail
  rw [← hV0, ← hp6, ← hp4, ← hp3, ← hp2]
  clear hV0 hp6 hp4 hp3
  have HP2 := Lib.hid hp2
  clear hp2
  have m2 := HP0.out.c 0 0 rfl rfl
  have m3 := HP0.out.c 1 0 rfl rfl
  have l2 := HP0.out.lt 0 rfl
  gi_wp2_with fail
  refine ⟨trivial, (callsIn_wide.2 (allR_any A m c _)).mono ?_⟩
  rintro e WE ⟨rfl, hWE⟩
  have hBq : Blk WE V0.heap.size 42 [.slice A m c] := by rw [hWE]; exact blk_new V0 _ _
  have hPE := HP0.out.alloc0 (.cells #[.slice A m c] 42)
  rw [← hWE] at hPE
  have hLE := HL.out.turn (X := WE) (by decide) (fun k (hk : k < w.heap.size) _ => hPE.below.block k hk)
  have hsq := all1R 2 (by decide) w.heap.size p2 V0.heap.size A m c L WE hBq hLE hPE.below.size hm
  have HSQ := Lib.hid hsq
  have HPE := Lib.hid hPE
  clear hWE m2 m3 l2 hBq hPE hLE hsq
  generalize V0.heap.size = Bq at *
  gi_wp2_with fail
  refine hp_hands (w := w) (ds := []) (σ := List Value) (fun v => [.blk p2 42 [.slice A m c], .blk p3 82 [.func (.func f) bnd cap], .blk p4 50 [.slice none 0 0, .slice none 0 0], .blk p6 50 v]) (fun pre v => v = [.slice none 0 0, .slice none 0 0] ∧ (∀ y ∈ pre, φ y.2.S = false) ∧ pre.map Prod.snd = L.take pre.length) (fun c _ v => c = .goto 0 ∧ ∃ x : REn, L.find? (fun y => φ y.S) = some x ∧ v = [.slice x.v.sa x.v.sn x.v.sc, .slice x.v.la x.v.ln x.v.lc]) 0 (fun _ => []) (fun pre x => x.1 = pre.length ∧ L[pre.length]? = some x.2) ?a₁ 121 (fun x => [.int .u64 (wd x.2.S 0), .int .u64 (wd x.2.S 1), .int .u64 (wd x.2.S 2), .int .u64 (wd x.2.S 3), .int .u64 (wd x.2.S 4), .int .u64 (wd x.2.S 5), .int .u64 (wd x.2.S 6), .int .u64 (wd x.2.S 7), .slice x.2.v.sa x.2.v.sn x.2.v.sc, .slice x.2.v.la x.2.v.ln x.2.v.lc]) (by decide)
   (gf := 66) (lb := #[.pointer (some ⟨Bq, 0, none⟩)]) rfl (enters_of Tryd.func66 (by kernel_rfl) rfl) HSQ.out (Nat.le_refl _) (fun _ => rfl) [.slice none 0 0, .slice none 0 0] ⟨rfl, fun _ h => (by cases h), rfl⟩ HPE.out (fun _ => rfl)
   (fun pre x L X Y hX hbl hG => ⟨hG, by rw [List.append_nil]; exact (hX.keep hbl).since' (KeepsOthers.refl _), fun _ h => (by cases h)⟩) ?assign ?body ?done ?stop
  case assign =>
   intro l x p W K hp hK
   unfold REn.val
   gi_wp2
   rw [← hp]
   exact hK
  case body =>
   rintro l pre x e p X v _ ⟨rfl, hno, hpre⟩ ⟨hx1, hx2⟩ hX hlen
   have HX := Lib.hid hX
   have m3 := hX.c 2 0 rfl rfl
   have l3 := hX.lt 2 rfl
   have r6 := hX.c 4 0 rfl rfl
   have r7 := hX.c 4 1 rfl rfl
   have f6 := hX.f 4 rfl
   have l6 := hX.lt 4 rfl
   have z0 := hX.c 5 0 rfl rfl
   have z1 := hX.c 5 1 rfl rfl
   have z2 := hX.c 5 2 rfl rfl
   have z3 := hX.c 5 3 rfl rfl
   have z4 := hX.c 5 4 rfl rfl
   have z5 := hX.c 5 5 rfl rfl
   have z6 := hX.c 5 6 rfl rfl
   have z7 := hX.c 5 7 rfl rfl
   have z8 := hX.c 5 8 rfl rfl
   have z9 := hX.c 5 9 rfl rfl
   have zl := hX.lt 5 rfl
   have hlp : (L.take pre.length).length = pre.length := by rw [List.length_take]; omega
   have HN : Hid (∀ y ∈ L.take pre.length, φ y.S = false) := Lib.hid (by
    intro y hy
    rw [← hpre] at hy
    obtain ⟨q, hq, rfl⟩ := List.mem_map.1 hy
    exact hno q hq)
   have HNO := Lib.hid hno
   have HPR := Eqn.mk hpre
   have HX2 := Eqn.mk hx2
   have HFx := Lib.hid (HF.out x.2 (List.mem_of_getElem? hx2) X hX.below)
   have HSN : Hid (φ x.2.S = true → L.find? (fun y => φ y.S) = some x.2) := Lib.hid (fun h => find_snocR (p := fun y : REn => φ y.S) hx2 HN.out h)
   have HGO : Hid (φ x.2.S = false → (∀ y ∈ pre ++ [x], φ y.2.S = false) ∧ (pre ++ [x]).map Prod.snd = L.take (pre ++ [x]).length) := Lib.hid (fun h => by
    refine ⟨fun y hy => ?_, by rw [List.map_append, hpre, List.length_append, List.length_singleton, List.take_add_one, hx2]; rfl⟩
    rcases List.mem_append.1 hy with hy | hy
    ·exact hno y hy
    ·rw [List.mem_singleton] at hy; subst hy; exact h)
   clear hX hno hpre hx1 hx2 hlp HN HNO HPR HX2
   generalize φ x.2.S = b at *
   obtain ⟨xi, xe⟩ := x
   dsimp only at *
   unfold sV at HFx
   gi_wp2_with fail
   refine ⟨trivial, CallsIn.inRound l (callsIn_wide.2 (HFx.out.mono ?_))⟩
   rintro e' W5 ⟨rfl, hb5⟩
   have hX5 := HX.out.keep hb5
   have HX5 := Lib.hid hX5
   clear m3 l3 r6 r7 f6 l6 z0 z1 z2 z3 z4 z5 z6 z7 z8 z9 zl hb5 HX HFx
   cases b with
   | true =>
    have r6 := hX5.c 4 0 rfl rfl
    have r7 := hX5.c 4 1 rfl rfl
    have f6 := hX5.f 4 rfl
    have l6 := hX5.lt 4 rfl
    have z8 := hX5.c 5 8 rfl rfl
    have z9 := hX5.c 5 9 rfl rfl
    have zl := hX5.lt 5 rfl
    clear hX5 HGO
    gi_wp2_with fail
    refine wpIn_goto ?_
    refine ⟨_, ⟨rfl, xe, HSN.out (by trivial), rfl⟩, ?_⟩
    exact ((HX5.out.set 4 0 _ rfl).set 4 1 _ rfl).sub (by simp)
   | false =>
    clear hX5 HSN
    gi_wp2_with fail
    exact ⟨_, ⟨rfl, HGO.out (by trivial)⟩, HX5.out.sub (by simp)⟩
  case done =>
   rintro D xs X v hS ⟨rfl, hno, hpre⟩ hX
   have hall : ∀ y ∈ L, φ y.S = false := by
    intro y hy
    have hS : xs.length = L.length := hS
    rw [hS, List.take_length] at hpre
    rw [← hpre] at hy
    obtain ⟨q, hq, rfl⟩ := List.mem_map.1 hy
    exact hno q hq
   have HN1 : Hid (fndVR φ L = .agg #[.slice none 0 0, .slice none 0 0]) := Lib.hid (by unfold fndVR; rw [List.find?_eq_none.2 (fun y hy => by rw [hall y hy]; decide)])
   have HN2 : Hid ((L.any fun x => φ x.S) = false) := Lib.hid (by rw [List.any_eq_false]; intro y hy; rw [hall y hy]; decide)
   have HX := Lib.hid hX
   have r6 := hX.c 3 0 rfl rfl
   have r7 := hX.c 3 1 rfl rfl
   have l6 := hX.lt 3 rfl
   have g0 := hX.c 2 0 rfl rfl
   have g1 := hX.c 2 1 rfl rfl
   have g2 := hX.f 2 rfl
   have g3 := hX.lt 2 rfl
   clear hX hno hpre hS hall
   gi_wp2_with fail
   show LeavesInM _ _ _ _ _ _ (marksOf [D]) .returning _
   refine hp_leaves (fun Y hY => ?_) _ _ _ ((HX.out.set 2 0 _ rfl).set 2 1 _ rfl)
   exact ⟨.tuple #[.agg #[.slice none 0 0, .slice none 0 0], .bool false], by simp [results, Tryd.results22, go_sem, hY.c 2 0 rfl rfl, hY.c 2 1 rfl rfl], by rw [HN1.out, HN2.out], hY.below⟩
  case stop =>
   rintro D c xs X v _ ⟨rfl, x, hx, rfl⟩ hX
   refine wpIn_goto ?_
   exact ⟨rfl, D, x, FdR_mk, hx, hX⟩
 case pass =>
  obtain ⟨D, x, ⟨u, rfl⟩, hx, hX⟩ := hJ
  have HN1 : Hid (fndVR φ L = x.v.val) := Lib.hid (by unfold fndVR; rw [hx])
  have HN2 : Hid ((L.any fun x => φ x.S) = true) := Lib.hid (by rw [List.any_eq_true]; exact ⟨x, List.mem_of_find?_eq_some hx, by have := List.find?_some hx; exact this⟩)
  have HX := Lib.hid hX
  have r6 := hX.c 3 0 rfl rfl
  have r7 := hX.c 3 1 rfl rfl
  have l6 := hX.lt 3 rfl
  have g0 := hX.c 2 0 rfl rfl
  have g1 := hX.c 2 1 rfl rfl
  have g2 := hX.f 2 rfl
  have g3 := hX.lt 2 rfl
  clear hX hx hV0 HP0 HF hp6 hp4 hp3 hp2
  gi_wp2_with fail
  show LeavesInM _ _ _ _ _ _ (marksOf [D]) .returning _
  refine hp_leaves (fun Y hY => ?_) _ _ _ ((HX.out.set 2 0 _ rfl).set 2 1 _ rfl)
  exact ⟨.tuple #[.agg #[.slice x.v.sa x.v.sn x.v.sc, .slice x.v.la x.v.ln x.v.lc], .bool true], by simp [results, Tryd.results22, go_sem, hY.c 2 0 rfl rfl, hY.c 2 1 rfl rfl], by rw [HN1.out, HN2.out]; rfl, hY.below⟩
end Go.Proofs.YtdpbbhbegehcjaaDoor

namespace Go.Proofs.YtdpbbhbegehcjaaDoor
open Go.RowKit Go.Shelf
attribute [local go_sem] Oper.semAt_some
theorem etR_info : (Tryd.prog.info? 121).map (fun i => (i.zero, i.size, i.bytes)) = some (some (.agg #[.int .u64 0, .int .u64 0, .int .u64 0, .int .u64 0, .int .u64 0, .int .u64 0, .int .u64 0, .int .u64 0, .slice none 0 0, .slice none 0 0]), 10, 112) := by kernel_rfl
def NewEsR (O : List REn) (w : World) (e : Ending) (w' : World) : Prop := ∃ v, e = .returned v ∧ w'.ownsRow w.heap.size 121 10 v O.length (flat 10 REn.cell O) ∧ Below w.heap.size w w'
theorem withoutR_any (f : Nat) (bnd cap : Array Value) (φ : Nat → Bool) (A : Option Addr) (m c : Nat) (L : List REn) (w : World) (hL : RowX 10 REn.cell w (fun _ => True) A m L) (hm : m ≤ 100000)
  (hf : ∀ args w, (callFunc f args).run Tryd.prog w = .ok (.enter f args) w) (HF : ∀ y ∈ L, ∀ W, Below w.heap.size w W → Calls Tryd.prog f (bnd.push (sV y.S) ++ cap) W (RetPost (.bool (φ y.S)) W.heap.size W)) :
  Calls Tryd.prog 57 #[.agg #[.slice A m c], .func (.func f) bnd cap] w (NewEsR (L.filter fun x => !φ x.S) w) := by
 obtain ⟨i0, hi, hz0, hz1, hz2⟩ := info_parts etR_info
 obtain ⟨p2, hp2⟩ : ∃ p, p = w.heap.size := ⟨_, rfl⟩
 obtain ⟨p3, hp3⟩ : ∃ p, p = w.heap.size + 1 := ⟨_, rfl⟩
 obtain ⟨p5, hp5⟩ : ∃ p, p = w.heap.size + 1 + 1 := ⟨_, rfl⟩
 have HL := Lib.hid ((hL.mono (q := (· < w.heap.size)) (by decide) (fun _ _ h => h)))
 have HF := Lib.hid HF
 have hlen := Eqn.mk hL.1
 clear hL
 obtain ⟨V0, hV0⟩ : ∃ V0, V0 = ((w.alloc (.cells #[.slice A m c] 42)).alloc (.cells #[.func (.func f) bnd cap] 82)).alloc (.cells #[.slice none 0 0] 40) := ⟨_, rfl⟩
 have hP0 : Hp w w V0 [.blk p2 42 [.slice A m c], .blk p3 82 [.func (.func f) bnd cap], .blk p5 40 [.slice none 0 0], .row (.slice none 0 0) 121 10 0 (flat 10 REn.cell [])] [] := by
  have h := ((((Hp.start w).alloc [.slice A m c] 42).alloc [.func (.func f) bnd cap] 82).alloc [.slice none 0 0] 40).nil 121 10
  simp only [World.size_alloc] at h
  rw [hV0, hp2, hp3, hp5]; exact h
 have HP0 := Lib.hid hP0
 clear hP0
 refine (callsIn_wide (n := 3)).1 ?_
 refine callsIn_of_wp_marks Tryd.func57 rfl trivial ?_ rfl
 simp only [Tryd.ntmps57, List.size_toArray, List.length_cons, List.length_nil, Nat.reduceAdd, Nat.reduceSub, Array.replicate_succ, Array.replicate_zero, List.push_toArray, List.append_toArray, List.nil_append, List.cons_append]
 gi_upto_region 2 with fail
 rw [← hV0, ← hp5, ← hp3, ← hp2]
 clear hV0 hp5 hp3
 have HP2 := Lib.hid hp2
 clear hp2
 have m2 := HP0.out.c 0 0 rfl rfl
 have l2 := HP0.out.lt 0 rfl
 gi_wp2_with fail
 refine ⟨trivial, (callsIn_wide.2 (allR_any A m c _)).mono ?_⟩
 rintro e WE ⟨rfl, hWE⟩
 have hBq : Blk WE V0.heap.size 42 [.slice A m c] := by rw [hWE]; exact blk_new V0 _ _
 have hPE := HP0.out.alloc0 (.cells #[.slice A m c] 42)
 rw [← hWE] at hPE
 have hLE := HL.out.turn (X := WE) (by decide) (fun k (hk : k < w.heap.size) _ => hPE.below.block k hk)
 have hsq := all1R 2 (by decide) w.heap.size p2 V0.heap.size A m c L WE hBq hLE hPE.below.size hm
 have HSQ := Lib.hid hsq
 have HPE := Lib.hid hPE
 clear hWE m2 l2 hBq hPE hLE hsq
 generalize V0.heap.size = Bq at *
 gi_wp2_with fail
 refine hp_hands (w := w) (ds := []) (σ := Value × List REn) (fun s => [.blk p2 42 [.slice A m c], .blk p3 82 [.func (.func f) bnd cap], .blk p5 40 [s.1], .row s.1 121 10 s.2.length (flat 10 REn.cell s.2)]) (fun pre s => s.2 = (L.take pre.length).filter (fun x => !φ x.S)) (fun _ _ _ => False) 0 (fun _ => []) (fun pre x => x.1 = pre.length ∧ L[pre.length]? = some x.2) ?a₁ 121 (fun x => [.int .u64 (wd x.2.S 0), .int .u64 (wd x.2.S 1), .int .u64 (wd x.2.S 2), .int .u64 (wd x.2.S 3), .int .u64 (wd x.2.S 4), .int .u64 (wd x.2.S 5), .int .u64 (wd x.2.S 6), .int .u64 (wd x.2.S 7), .slice x.2.v.sa x.2.v.sn x.2.v.sc, .slice x.2.v.la x.2.v.ln x.2.v.lc]) (by decide)
  (gf := 66) (lb := #[.pointer (some ⟨Bq, 0, none⟩)]) rfl (enters_of Tryd.func66 (by kernel_rfl) rfl) HSQ.out (Nat.le_refl _) (fun _ => rfl) (.slice none 0 0, []) rfl HPE.out (fun _ => rfl)
  (fun pre x L X Y hX hbl hG => ⟨hG, by rw [List.append_nil]; exact (hX.keep hbl).since' (KeepsOthers.refl _), fun _ h => (by cases h)⟩) ?assign ?body ?done ?stop
 case assign =>
  intro l x p W K hp hK
  unfold REn.val
  gi_wp2
  rw [← hp]
  exact hK
 case body =>
  rintro l pre x e p X ⟨v, O⟩ _ hO ⟨hx1, hx2⟩ hX hlen
  dsimp only at hO hX
  have HX := Lib.hid hX
  have m3 := hX.c 2 0 rfl rfl
  have l3 := hX.lt 2 rfl
  have z0 := hX.c 5 0 rfl rfl
  have z1 := hX.c 5 1 rfl rfl
  have z2 := hX.c 5 2 rfl rfl
  have z3 := hX.c 5 3 rfl rfl
  have z4 := hX.c 5 4 rfl rfl
  have z5 := hX.c 5 5 rfl rfl
  have z6 := hX.c 5 6 rfl rfl
  have z7 := hX.c 5 7 rfl rfl
  have zl := hX.lt 5 rfl
  have hOl : O.length ≤ 100000 := by
   have := List.length_filter_le (fun x : REn => !φ x.S) (L.take pre.length)
   rw [← hO, List.length_take] at this
   have := hlen; have := hlen; have h3 : L.length = m := ‹Eqn L.length m›
   omega
  have HSU : Hid ((L.take (pre ++ [x]).length).filter (fun x => !φ x.S) = O ++ if φ x.2.S = true then [] else [x.2]) := Lib.hid (by
   rw [List.length_append, List.length_singleton, filter_take_one hx2, ← hO]
   cases φ x.2.S <;> rfl)
  have HFx := Lib.hid (HF.out x.2 (List.mem_of_getElem? hx2) X hX.below)
  clear hX hO hx1 hx2 hlen
  generalize φ x.2.S = b at *
  obtain ⟨xi, xe⟩ := x
  dsimp only at *
  unfold sV at HFx
  gi_wp2_with fail
  refine ⟨trivial, CallsIn.inRound l (callsIn_wide.2 (HFx.out.mono ?_))⟩
  rintro e' W5 ⟨rfl, hb5⟩
  have hX5 := HX.out.keep hb5
  have HX5 := Lib.hid hX5
  clear m3 l3 z0 z1 z2 z3 z4 z5 z6 z7 zl hb5 HX HFx
  cases b with
  | false =>
   have HSU2 : Hid ((L.take (pre ++ [(xi, xe)]).length).filter (fun x => !φ x.S) = O ++ [xe]) := Lib.hid (HSU.out.trans (by simp))
   have r5 := hX5.c 3 0 rfl rfl
   have f5 := hX5.f 3 rfl
   have l5 := hX5.lt 3 rfl
   have z0 := hX5.c 5 0 rfl rfl
   have z1 := hX5.c 5 1 rfl rfl
   have z2 := hX5.c 5 2 rfl rfl
   have z3 := hX5.c 5 3 rfl rfl
   have z4 := hX5.c 5 4 rfl rfl
   have z5 := hX5.c 5 5 rfl rfl
   have z6 := hX5.c 5 6 rfl rfl
   have z7 := hX5.c 5 7 rfl rfl
   have z8 := hX5.c 5 8 rfl rfl
   have z9 := hX5.c 5 9 rfl rfl
   have zl := hX5.lt 5 rfl
   obtain ⟨A1, c1, rfl⟩ := hX5.form 4 rfl
   clear hX5 HSU
   gi_wp2_with (gi_at_builtin; refine wpListIn_append_own_at _ rfl _ _ 40 rfl w.heap.size 121 i0 (.agg #[.int .u64 0, .int .u64 0, .int .u64 0, .int .u64 0, .int .u64 0, .int .u64 0, .int .u64 0, .int .u64 0, .slice none 0 0, .slice none 0 0]) 10 112 Tryd.underlying40 hi hz0 hz1 hz2 rfl (by decide) _ _ _ rfl ((HX5.out.row 4 rfl).alloc _) ⟨W5.heap.size, 0, none⟩ 1 1 [.int .u64 (wd xe.S 0), .int .u64 (wd xe.S 1), .int .u64 (wd xe.S 2), .int .u64 (wd xe.S 3), .int .u64 (wd xe.S 4), .int .u64 (wd xe.S 5), .int .u64 (wd xe.S 6), .int .u64 (wd xe.S 7), .slice xe.v.sa xe.v.sn xe.v.sc, .slice xe.v.la xe.v.ln xe.v.lc] rfl rfl (cells_newR W5 [.int .u64 (wd xe.S 0), .int .u64 (wd xe.S 1), .int .u64 (wd xe.S 2), .int .u64 (wd xe.S 3), .int .u64 (wd xe.S 4), .int .u64 (wd xe.S 5), .int .u64 (wd xe.S 6), .int .u64 (wd xe.S 7), .slice xe.v.sa xe.v.sn xe.v.sc, .slice xe.v.la xe.v.ln xe.v.lc] 121) (by simp [Value.oneCell']) (by unfold maxLen; omega) (by omega) (by have := HX5.out.below.size; simp; omega) ?_; intro v2 W6 hown hgrow _ hat; have hX6 := (HX5.out.alloc0 _).grow 4 rfl hgrow hown hat; have HX6 := Lib.hid hX6; have f6 := hX6.f 3 rfl; have l6 := hX6.lt 3 rfl; have r6 := hX6.c 3 0 rfl rfl; obtain ⟨A5, cp5, rfl⟩ := hX6.form 4 rfl; clear hown hgrow hat hX6 f5 l5 r5 z0 z1 z2 z3 z4 z5 z6 z7 z8 z9 zl)
   refine ⟨(.slice A5 (O.length + 1) cp5, O ++ [xe]), HSU2.out.symm, ?_⟩
   dsimp only
   rw [flat_snoc, List.length_append, show (List.range 10).map xe.cell = [.int .u64 (wd xe.S 0), .int .u64 (wd xe.S 1), .int .u64 (wd xe.S 2), .int .u64 (wd xe.S 3), .int .u64 (wd xe.S 4), .int .u64 (wd xe.S 5), .int .u64 (wd xe.S 6), .int .u64 (wd xe.S 7), .slice xe.v.sa xe.v.sn xe.v.sc, .slice xe.v.la xe.v.ln xe.v.lc] from rfl]
   exact (HX6.out.set 3 0 _ rfl).sub (by simp)
  | true =>
   have HSU2 : Hid ((L.take (pre ++ [(xi, xe)]).length).filter (fun x => !φ x.S) = O) := Lib.hid (HSU.out.trans (by simp))
   clear hX5 HSU
   gi_wp2_with fail
   exact ⟨(v, O), HSU2.out.symm, HX5.out.sub (by simp)⟩
 case done =>
  rintro D xs X ⟨v, O⟩ hS hO hX
  dsimp only at hO hX
  have hS : xs.length = L.length := hS
  rw [hS, List.take_length] at hO
  have HO := Eqn.mk hO
  have HX := Lib.hid hX
  have r5 := hX.c 2 0 rfl rfl
  have l5 := hX.lt 2 rfl
  clear hX hS hO
  gi_wp2_with fail
  show LeavesInM _ _ _ _ _ _ (marksOf [D]) .returning _
  refine hp_leaves (fun Y hY => ?_) _ _ _ HX.out
  exact ⟨v, by simp [results, Tryd.results57, go_sem], v, rfl, by rw [← HO.out]; exact hY.row 3 rfl, hY.below⟩
 case stop =>
  rintro D c pre X s _ h _
  exact h.elim
end Go.Proofs.YtdpbbhbegehcjaaDoor

namespace Go.Proofs.YtdpbbhbegehcjaaDoor
open Go.RowKit Go.Shelf
def AddedR (g : Nat) (cs : List Value) (K : List REn) (S : Nat) (x : Prf) (w : World) (e : Ending) (w' : World) : Prop :=
 (1000 ≤ K.length ∧ e = .returned (.int .i64 7) ∧ Below w.heap.size w w') ∨
 (K.length < 1000 ∧ e = .returned (.int .i64 0) ∧ w.grownBy w' (some g) ∧ ∃ (A : Option Addr) (c : Nat), Blk w' g 44 (cs.set 14 (.slice A (K.length + 1) c)) ∧ w'.ownsRow w.heap.size 121 10 (.slice A (K.length + 1) c) (K.length + 1) (flat 10 REn.cell (K ++ [⟨S, x⟩])))
theorem addR_any (f : Nat) (bnd cap : Array Value) (φ : Nat → Bool) (g : Nat) (cs : List Value) (S : Nat) (x : Prf) (A : Option Addr) (m c : Nat) (L : List REn) (w : World) (hg : Blk w g 44 cs) (hc : cs[14]? = some (.slice A m c)) (hL : RowX 10 REn.cell w (fun _ => True) A m L) (hm : m ≤ 100000)
  (hf : ∀ args w, (callFunc f args).run Tryd.prog w = .ok (.enter f args) w) (HF : ∀ y ∈ L, ∀ W, Below w.heap.size w W → Calls Tryd.prog f (bnd.push (sV y.S) ++ cap) W (RetPost (.bool (φ y.S)) W.heap.size W)) :
  Calls Tryd.prog 34 #[.pointer (some ⟨g, 14, none⟩), sV S, x.val, .func (.func f) bnd cap] w (AddedR g cs (L.filter fun x => !φ x.S) S x w) := by
 obtain ⟨i0, hi, hz0, hz1, hz2⟩ := info_parts etR_info
 obtain ⟨p5, hp5⟩ : ∃ p, p = w.heap.size := ⟨_, rfl⟩
 obtain ⟨p6, hp6⟩ : ∃ p, p = w.heap.size + 1 := ⟨_, rfl⟩
 obtain ⟨V0, hV0⟩ : ∃ V0, V0 = (w.alloc (.cells (sL S).toArray 36)).alloc (.cells #[.slice x.sa x.sn x.sc, .slice x.la x.ln x.lc] 50) := ⟨_, rfl⟩
 have hP0 : Hp w w V0 [.blk p5 36 (tabL 8 (sC S)), .blk p6 50 [.slice x.sa x.sn x.sc, .slice x.la x.ln x.lc]] [] := by
  have h := ((Hp.start w).allocS S 36).alloc [.slice x.sa x.sn x.sc, .slice x.la x.ln x.lc] 50
  simp only [World.size_alloc] at h
  rw [hV0, hp5, hp6]; exact h
 have HP0 := Lib.hid hP0
 have cg0 : V0.cell? ⟨g, 14, none⟩ = some (.slice A m c) := (hg.keepB hP0.below hg.lt).cell hc
 have HW := Lib.hid (withoutR_any f bnd cap φ A m c L V0 (hL.keep (by decide) hP0.below) hm hf (fun y hy W hb => HF y hy W (hP0.below.trans (hb.mono hP0.below.size))))
 have HG := Lib.hid hg
 have HC := Lib.hid hc
 have hKl : (L.filter fun x => !φ x.S).length ≤ 100000 := by
  have := List.length_filter_le (fun x : REn => !φ x.S) L
  have := hL.1; omega
 generalize (L.filter fun x => !φ x.S) = K at *
 unfold sV
 unfold sL at hV0
 unfold Prf.val Prf.v1 Prf.v2
 clear hP0 hL hg hc HF
 go_enter Tryd.func34, Tryd.ntmps34
 go_upto_region 1 with fail
 rw [← hV0, ← hp6, ← hp5]
 clear hV0 hp5 hp6
 go_wp2_with fail
 refine HW.out.mono ?_
 rintro e W1 ⟨v, rfl, hown, hb1⟩
 have hP1 := HP0.out.pushRow hb1 hown
 have HP1 := Lib.hid hP1
 obtain ⟨A1, c1, rfl⟩ := hP1.form 2 rfl
 have zs := hP1.blk 0 rfl
 obtain ⟨z0, z1, z2, z3, z4, z5, z6, z7⟩ := zs.eight
 have zl := zs.lt
 have x0 := hP1.c 1 0 rfl rfl
 have x1 := hP1.c 1 1 rfl rfl
 have xl := hP1.lt 1 rfl
 clear hP1 hown hb1 cg0 HP0 HW zs
 by_cases hfull : 1000 ≤ K.length
 ·have j0 : (1000 : Int) ≤ (K.length : Int) := by omega
  go_wp2_with fail
  go_ret
  exact .inl ⟨hfull, rfl, HP1.out.below⟩
 ·have j0 : ¬ (1000 : Int) ≤ (K.length : Int) := by omega
  have hgl := HG.out.lt
  go_wp2_with (at_builtin; refine wpList_append_own_at _ rfl _ _ 40 rfl w.heap.size 121 i0 (.agg #[.int .u64 0, .int .u64 0, .int .u64 0, .int .u64 0, .int .u64 0, .int .u64 0, .int .u64 0, .int .u64 0, .slice none 0 0, .slice none 0 0]) 10 112 Tryd.underlying40 hi hz0 hz1 hz2 rfl (by decide) _ _ _ rfl ((HP1.out.row 2 rfl).alloc _) ⟨W1.heap.size, 0, none⟩ 1 1 [.int .u64 (wd S 0), .int .u64 (wd S 1), .int .u64 (wd S 2), .int .u64 (wd S 3), .int .u64 (wd S 4), .int .u64 (wd S 5), .int .u64 (wd S 6), .int .u64 (wd S 7), .slice x.sa x.sn x.sc, .slice x.la x.ln x.lc] rfl rfl (cells_newR W1 [.int .u64 (wd S 0), .int .u64 (wd S 1), .int .u64 (wd S 2), .int .u64 (wd S 3), .int .u64 (wd S 4), .int .u64 (wd S 5), .int .u64 (wd S 6), .int .u64 (wd S 7), .slice x.sa x.sn x.sc, .slice x.la x.ln x.lc] 121) (by simp [Value.oneCell']) (by unfold maxLen; omega) (by omega) (by have := HP1.out.below.size; simp; omega) ?_; intro v2 W6 hown hgrow _ hat; have hX6 := (HP1.out.alloc0 _).grow 2 rfl hgrow hown hat; have HX6 := Lib.hid hX6; obtain ⟨A5, cp5, rfl⟩ := hX6.form 2 rfl; have hG6 := HG.out.keepB hX6.below hgl; have cg6 : W6.cell? ⟨g, 14, none⟩ = some (.slice A m c) := hG6.cell HC.out; have fg6 := hG6.frozen; have lg6 := hG6.lt; clear hown hgrow hat hX6 hG6)
  go_ret
  have hG6 := HG.out.keepB HX6.out.below hgl
  refine .inr ⟨by omega, rfl, ?_, A5, cp5, hG6.set_ _ _, ?_⟩
  ·have hb := HX6.out.below
   have hs := hb.size
   refine ⟨hb.os, hb.tape, hb.output, by simp [World.setCell]; exact hs, fun k hk hne => ?_⟩
   rw [Below.heap_setCell _ _ _ _ (fun e => hne (by rw [e]))]
   exact hb.block k hk
  ·rw [flat_snoc, show (List.range 10).map (REn.cell ⟨S, x⟩) = [.int .u64 (wd S 0), .int .u64 (wd S 1), .int .u64 (wd S 2), .int .u64 (wd S 3), .int .u64 (wd S 4), .int .u64 (wd S 5), .int .u64 (wd S 6), .int .u64 (wd S 7), .slice x.sa x.sn x.sc, .slice x.la x.ln x.lc] from rfl]
   exact own_set (HX6.out.row 2 rfl) hgl _
theorem rf_any {x : StS} (h : StOk x) (φ : Nat → Bool) : (x.re.any fun e => φ e.S) = x.Q.any fun o => φ (stS o.1) := by
 have h1 := h.res
 unfold StS.Q
 rw [List.any_map]
 generalize x.re = L at *
 clear h
 induction L with
 | nil => rfl
 | cons y r ih => rw [List.any_cons, List.any_cons, ih (fun e he => h1 e (by simp [he])), (h1 y (by simp)).1]; rfl
theorem rf_filter {x : StS} (h : StOk x) (φ : Nat → Bool) : ((x.re.filter fun e => !φ e.S).map fun e => e.v.say) = x.Q.filter fun o => !φ (stS o.1) := by
 have h1 := h.res
 unfold StS.Q
 generalize x.re = L at *
 clear h
 induction L with
 | nil => rfl
 | cons y r ih =>
  have h2 : (φ y.S) = φ (stS y.v.say.1) := by rw [(h1 y (by simp)).1]; rfl
  have h3 := ih (fun e he => h1 e (by simp [he]))
  rw [List.map_cons, List.filter_cons, List.filter_cons, h2]
  split
  ·rw [List.map_cons, h3]
  ·exact h3
theorem added_keepR {g : Nat} {cs : List Value} {K : List REn} {S : Nat} {x : Prf} {w X : World} {e : Ending} (h : AddedR g cs K S x w e X) (k : Nat) (hk : k < w.heap.size) (hne : k ≠ g) : X.heap[k]? = w.heap[k]? := by
 rcases h with ⟨_, _, hb⟩ | ⟨_, _, hg, _⟩
 ·exact hb.block k hk
 ·exact hg.block k hk (fun e => hne (by cases e; rfl))
theorem rf_done {B : Nat} {p : Nat → Prop} {g : Nat} {x : StS} {w W X : World} {φ : Nat → Bool} {S : Nat} {y : Prf} {q : Prv} {e : Ending} (hS : StAt W B p g x) (hO : StOk x) (hb : Below w.heap.size w W) (hnew : ∀ k, w.heap.size ≤ k → p k) (hq : y.say = q) (hSl : S = stS q.1) (hv : stOk q.1 = true)
  (hl : y.At W p) (h : AddedR g x.cells (x.re.filter fun z => !φ z.S) S y W e X) :
  StPost B p g x x.P (if 1000 ≤ (x.Q.filter fun o => !φ (stS o.1)).length then (x.Q, (7 : Int)) else ((x.Q.filter fun o => !φ (stS o.1)) ++ [q], 0)).1 (if 1000 ≤ (x.Q.filter fun o => !φ (stS o.1)).length then (x.Q, (7 : Int)) else ((x.Q.filter fun o => !φ (stS o.1)) ++ [q], 0)).2 w e X := by
 have hf := rf_filter hO φ
 have hlen : (x.Q.filter fun o => !φ (stS o.1)).length = (x.re.filter fun z => !φ z.S).length := by rw [← hf, List.length_map]
 rw [hlen]
 have hmem : ∀ z ∈ x.re.filter fun z => !φ z.S, z ∈ x.re := fun z hz => (List.mem_filter.1 hz).1
 generalize (x.re.filter fun z => !φ z.S) = K at *
 rcases h with ⟨h1, rfl, h3⟩ | ⟨h1, rfl, hg, A', c', hblk, hown⟩
 ·rw [if_pos h1]
  exact ⟨x, rfl, hS.keep h3, hO, rfl, rfl, rfl, rfl, grown_below hb (grown_any_of h3 _)⟩
 ·rw [if_neg (by omega)]
  have hk := kind_same hS.no hg
  obtain ⟨A2, c2, e2, hr⟩ := rowX_own hown (p := p) (by decide) (fun k hk => hnew k (Nat.le_trans hb.size hk))
  injection e2 with e2 _ e3
  subst e2 e3
  have hs : y.sts = q.1 := by rw [← hq]; rfl
  refine ⟨{ x with ra := A', rn := K.length + 1, rc := c', re := K ++ [⟨S, y⟩] }, rfl, ⟨hblk, hS.grown_prb hg, hS.low, hS.no, hS.pes.turn hk, ⟨hr, fun z hz => ?_⟩⟩, ⟨hO.val, hO.has, hO.pes, fun z hz => ?_, hO.pl, by simp; omega⟩, rfl, rfl, rfl, ?_, grown_below hb hg⟩
  ·rcases List.mem_append.1 hz with hz | hz
   ·exact (hS.res.2 z (hmem z hz)).turn hk
   ·rw [List.mem_singleton] at hz; subst hz; exact hl.turn hk
  ·rcases List.mem_append.1 hz with hz | hz
   ·exact hO.res z (hmem z hz)
   ·rw [List.mem_singleton] at hz; subst hz; exact ⟨by rw [hSl, hs], by rw [hs]; exact hv⟩
  ·show (K ++ [_]).map _ = _
   rw [List.map_append, hf, ← hq]; rfl
theorem fndR_form (φ : Nat → Bool) (L : List REn) : ∃ A n c B m d, fndVR φ L = .agg #[.slice A n c, .slice B m d] := by
 unfold fndVR
 split
 ·exact ⟨_, _, _, _, _, _, rfl⟩
 ·exact ⟨_, _, _, _, _, _, rfl⟩
theorem stOk_len {L : List Int} (h : stOk L = true) : L.length ≤ 512 := by
 have hin := stOk_in h
 unfold stOk at h
 rw [Bool.and_eq_true, incF_pair cmpF (fun x => [x]) cmpF_less] at h
 have hp : L.Pairwise (fun x y => x < y) := h.2.imp (fun {a b} hab => by
  unfold lessL at hab
  by_cases hne : a = b
  ·subst hne; simp [lessL] at hab
  ·rw [if_pos hne] at hab; exact of_decide_eq_true hab)
 have key : ∀ (L : List Int) (n : Nat), L.Pairwise (fun x y => x < y) → (∀ y ∈ L, (n : Int) ≤ y ∧ y < 512) → L.length + n ≤ 512 ∨ L = [] := by
  intro L
  induction L with
  | nil => intro n _ _; exact .inr rfl
  | cons a r ih =>
   intro n hp hr
   obtain ⟨h1, h2⟩ := List.pairwise_cons.1 hp
   have ha := hr a (by simp)
   rcases ih (n + 1) h2 (fun y hy => by have := h1 y hy; have := hr y (by simp [hy]); omega) with h3 | h3
   ·left; rw [List.length_cons]; omega
   ·subst h3; left; simp; omega
 rcases key L 0 hp (fun y hy => by have := hin y hy; omega) with h1 | h1
 ·omega
 ·subst h1; simp
theorem refute_any (B : Nat) (p : Nat → Prop) (g : Nat) (x : StS) (y : Prf) (w : World) (hS : StAt w B p g x) (hO : StOk x) (hnew : ∀ k, w.heap.size ≤ k → p k) (hy : y.At w (fun _ => True)) :
  Calls Tryd.prog 8 #[.pointer (some ⟨g, 0, none⟩), y.val] w (StPost B p g x x.P (rfF x.ds x.Q y.say).1 (rfF x.ds x.Q y.say).2 w) := by
 have HST := Lib.hid hS
 have HOK := Lib.hid hO
 have HNW := Lib.hid hnew
 have HMI := Lib.hid (fun W (hb : Below w.heap.size w W) => missing_any g x.cells W (hS.blk.keep hb) rfl)
 have HSN := Lib.hid (fun (W : World) (hb : Below w.heap.size w W) => stn_any g x.H x.cells y.sa y.sn y.sc W y.sts (hS.blk.keep hb) (fun j hj => by match j, hj with | 0, _ => rfl | 1, _ => rfl | 2, _ => rfl | 3, _ => rfl | 4, _ => rfl | 5, _ => rfl | 6, _ => rfl | 7, _ => rfl) hy.2.2.2.1 ((hy.keep hb).ints))
 have HRF : Eqn (rfF x.ds x.Q y.say) (if stOk y.sts = true then
  if mi (stS y.sts) x.H = 0 then
   if (x.Q.any fun o => decide (mi (stS o.1) (stS y.sts) = 0)) = true then (x.Q, 0)
   else if 1000 ≤ (x.Q.filter fun o => !decide (mi (stS y.sts) (stS o.1) = 0)).length then (x.Q, 7)
   else ((x.Q.filter fun o => !decide (mi (stS y.sts) (stS o.1) = 0)) ++ [y.say], 0)
  else (x.Q, 9)
 else (x.Q, 2)) := by rw [hO.has]; rfl
 generalize rfF x.ds x.Q y.say = R at *
 obtain ⟨p3, hp3⟩ : ∃ q, q = w.heap.size := ⟨_, rfl⟩
 obtain ⟨V0, hV0⟩ : ∃ V0, V0 = w.alloc (.cells #[.slice y.sa y.sn y.sc, .slice y.la y.ln y.lc] 50) := ⟨_, rfl⟩
 have hP0 : Hp w w V0 [.blk p3 50 [.slice y.sa y.sn y.sc, .slice y.la y.ln y.lc]] [] := by
  have h := (Hp.start w).alloc [.slice y.sa y.sn y.sc, .slice y.la y.ln y.lc] 50
  rw [hV0, hp3]; exact h
 have HP0 := Lib.hid hP0
 have HY := Lib.hid hy
 have z0 := hP0.c 0 0 rfl rfl
 have zl := hP0.lt 0 rfl
 unfold Prf.val Prf.v1 Prf.v2
 clear hP0 hS hO hnew hy
 have hstn : stnF x.H y.sts = if stOk y.sts = true then if mi (stS y.sts) x.H = 0 then (stS y.sts, 0) else (0, 9) else (0, 2) := rfl
 have HSR := Eqn.mk hstn
 clear hstn
 generalize hr : stnF x.H y.sts = r at *
 clear hr
 go_enter Tryd.func8, Tryd.ntmps8
 go_upto_region 1 with fail
 rw [← hV0, ← hp3]
 clear hV0 hp3
 go_wp2_with fail
 refine (HMI.out _ HP0.out.below).mono ?_
 rintro e W1 ⟨rfl, rfl⟩
 have HS1 := Lib.hid (HSN.out V0 HP0.out.below)
 unfold sV at HS1
 clear HSN
 go_wp2_with fail
 refine HS1.out.mono ?_
 rintro e W3 ⟨rfl, hb3⟩
 obtain ⟨p5, hp5⟩ : ∃ q, q = W3.heap.size := ⟨_, rfl⟩
 obtain ⟨S, hSr⟩ : ∃ S, S = r.1 := ⟨_, rfl⟩
 obtain ⟨c0, hcr⟩ : ∃ c0, c0 = r.2 := ⟨_, rfl⟩
 rw [← hSr, ← hcr]
 have HSR2 : Hid ((S, c0) = if stOk y.sts = true then if mi (stS y.sts) x.H = 0 then (stS y.sts, 0) else (0, 9) else (0, 2)) := Lib.hid (by rw [hSr, hcr]; exact HSR.out)
 obtain ⟨V4, hV4⟩ : ∃ V, V = W3.alloc (.cells (sL S).toArray 36) := ⟨_, rfl⟩
 have hP4 := (HP0.out.keep hb3).allocS S 36
 rw [← hV4, ← hp5] at hP4
 have HP4 := Lib.hid hP4
 unfold sL at hV4
 clear hb3 hP4 HP0 HS1 z0 zl hSr hcr HSR
 go_upto_region 4 with fail
 rw [← hV4, ← hp5]
 clear hV4 hp5
 by_cases hok : stOk y.sts = true ∧ mi (stS y.sts) x.H = 0
 ·have hrr : (S, c0) = (stS y.sts, 0) := by rw [HSR2.out, if_pos hok.1, if_pos hok.2]
  injection hrr with hS0 hc0
  subst hc0
  have HSE := Eqn.mk hS0
  have HRF2 := Lib.hid (HRF.out.trans (by rw [if_pos hok.1, if_pos hok.2]))
  rw [← hS0] at HRF2
  have HSO := Lib.hid hok.1
  have HFT : Hid (Fit S) := Lib.hid (by rw [hS0]; exact stS_fit (stOk_in hok.1))
  have hsn : y.sn ≤ 1000 := by
   have h1 := HY.out.1.1
   have h2 := stOk_len hok.1
   omega
  have HSNL := Lib.hid hsn
  clear HRF hok HSR2 hS0 hsn
  have hS8 := HST.out.keep HP4.out.below
  have hrl := HOK.out.rl
  have hrn : x.rn ≤ 100000 := by have := hS8.res.1.1; omega
  have hft : ∀ z ∈ x.re, Fit z.S := fun z hz => by rw [(HOK.out.res z hz).1]; exact stS_fit (stOk_in (HOK.out.res z hz).2)
  have hfd := findR_any 33 #[] #[.pointer (some ⟨p5, 0, none⟩)] (fun T => decide (mi T S = 0)) x.ra x.rn x.rc x.re V4 (hS8.res.1.mono (by decide) (fun _ _ _ => trivial)) hrn (enters_of Tryd.func33 (by kernel_rfl) rfl) (fun z hz W hb => clo_Refute p5 S z.S (hft z hz) W ((HP4.out.blk 1 rfl).keep hb))
  rw [rf_any HOK.out fun T => decide (mi T S = 0)] at hfd
  obtain ⟨fA, fn, fc, fB, fm, fd, hform⟩ := fndR_form (fun T => decide (mi T S = 0)) x.re
  rw [hform] at hfd
  have HFD := Lib.hid hfd
  have k0 : V4.cell? ⟨g, 14, none⟩ = some (.slice x.ra x.rn x.rc) := hS8.blk.cell rfl
  have gl := hS8.blk.lt
  have HFTS := Lib.hid hft
  have HRN := Lib.hid hrn
  clear hS8 hrl hrn hft hfd hform
  cases hany : x.Q.any fun o => decide (mi (stS o.1) S = 0) with
  | true =>
   rw [hany] at HFD
   have HR : Hid (R = (x.Q, 0)) := Lib.hid (HRF2.out.trans (if_pos hany))
   clear hany HRF2
   go_wp2_with fail
   refine HFD.out.mono ?_
   rintro e W9 ⟨rfl, hb9⟩
   have HB9 := Lib.hid ((HP4.out.keep hb9).below)
   clear hb9 k0 gl
   go_upto_region 7 with fail
   have HB10 := Lib.hid (HB9.out.alloc HB9.out.size (.cells #[.slice fA fn fc, .slice fB fm fd] 50))
   go_wp2_with fail
   go_ret
   rw [HR.out]
   exact st_same 0 HST.out HOK.out HB10.out
  | false =>
   rw [hany] at HFD
   have HRF3 := Lib.hid (HRF2.out.trans (if_neg (by rw [hany]; decide)))
   clear hany HRF2
   go_wp2_with fail
   refine HFD.out.mono ?_
   rintro e W9 ⟨rfl, hb9⟩
   have hP9 := HP4.out.keep hb9
   have HP10 := Lib.hid (hP9.alloc0 (.cells #[.slice fA fn fc, .slice fB fm fd] 50))
   obtain ⟨V10, hV10⟩ : ∃ V, V = W9.alloc (.cells #[.slice fA fn fc, .slice fB fm fd] 50) := ⟨_, rfl⟩
   rw [← hV10] at HP10
   clear hb9 hP9 k0 gl HP4 HFD
   go_upto_region 7 with fail
   rw [← hV10]
   clear hV10
   generalize W9.heap.size = p7 at *
   have hP10 := HP10.out
   have gl := (HST.out.keep hP10.below).blk.lt
   obtain ⟨c1_0, c1_1, c1_2, c1_3, c1_4, c1_5, c1_6, c1_7⟩ := (hP10.blk 1 rfl).eight; have f1 := hP10.f 1 rfl; have l1 := hP10.lt 1 rfl
   have x0 := hP10.c 0 0 rfl rfl
   have x1 := hP10.c 0 1 rfl rfl
   have xl := hP10.lt 0 rfl
   have HPD := Lib.hid hP10.drew
   have HCP := Lib.hid (fun (W : World) (hb : Below w.heap.size w W) => copyProof_any y W (HY.out.keep hb) HSNL.out)
   unfold Prf.val Prf.v1 Prf.v2 at HCP
   clear hP10
   go_wp2_with fail
   refine Lx.region (C := fun X => X.cell? ⟨p5, 0, none⟩ = some (.int .u64 (wd S 0)) ∧ X.cell? ⟨p5, 1, none⟩ = some (.int .u64 (wd S 1)) ∧ X.cell? ⟨p5, 2, none⟩ = some (.int .u64 (wd S 2)) ∧ X.cell? ⟨p5, 3, none⟩ = some (.int .u64 (wd S 3)) ∧ X.cell? ⟨p5, 4, none⟩ = some (.int .u64 (wd S 4)) ∧ X.cell? ⟨p5, 5, none⟩ = some (.int .u64 (wd S 5)) ∧ X.cell? ⟨p5, 6, none⟩ = some (.int .u64 (wd S 6)) ∧ X.cell? ⟨p5, 7, none⟩ = some (.int .u64 (wd S 7))) (hs := [3, 6]) (by kernel_rfl) (by kernel_rfl) (HPD.out.blk 1 rfl).eight ?_
   repeat' (first | ((first | refine Lx.ln (fun K hK => ?_) | (first | (refine Lx.lp (v := ?_) ?_ (fun K hK => ?_); rotate_left 1; intro w' hCw; try dsimp only at hCw) | (refine Lx.lr (v := ?_) ?_ (fun K hK => ?_); rotate_left 1)); go_simp; first | done | with_reducible rfl); go_simp; refine hK _ ?_; clear hK K) | (refine Lx.le (fun K hK => ?_); go_simp; (first | (go_at_call 24; refine (HCP.out _ HPD.out.below).mono ?_; rintro e w10 ⟨y', rfl, hsay, hln, hH⟩; have hb10 := hH.below; have HP11 := Lib.hid (HPD.out.keep hb10); have HZ : Hid (w10.cell? ⟨p5, 0, none⟩ = some (.int .u64 (wd S 0)) ∧ w10.cell? ⟨p5, 1, none⟩ = some (.int .u64 (wd S 1)) ∧ w10.cell? ⟨p5, 2, none⟩ = some (.int .u64 (wd S 2)) ∧ w10.cell? ⟨p5, 3, none⟩ = some (.int .u64 (wd S 3)) ∧ w10.cell? ⟨p5, 4, none⟩ = some (.int .u64 (wd S 4)) ∧ w10.cell? ⟨p5, 5, none⟩ = some (.int .u64 (wd S 5)) ∧ w10.cell? ⟨p5, 6, none⟩ = some (.int .u64 (wd S 6)) ∧ w10.cell? ⟨p5, 7, none⟩ = some (.int .u64 (wd S 7))) := Lib.hid (HP11.out.blk 1 rfl).eight; have HYA : Hid (y'.At w10 p) := Lib.hid (prf_at hH (fun k hk => HNW.out k (Nat.le_trans HPD.out.below.size hk)) ⟨by rw [hln.1]; have := HSNL.out; omega, by rw [hln.2.1]; exact HY.out.2.2.2.2, hln.2.2⟩); have HS10 := Lib.hid (HST.out.keep HP11.out.below); have HAD := Lib.hid (addR_any 20 #[sV S] #[] (fun T => decide (mi S T = 0)) g x.cells S y' x.ra x.rn x.rc x.re w10 HS10.out.blk rfl (HS10.out.res.1.mono (by decide) (fun _ _ _ => trivial)) HRN.out (enters_of Tryd.func20 (by kernel_rfl) rfl) (fun z hz W hb => sub_call S HFT.out z.S W)); have HSAY := Lib.hid hsay; clear hsay hln hH hb10; unfold sV at HAD) | (go_at_call 34; refine HAD.out.mono ?_; rintro e w11 hadd; have hpg : p5 ≠ g := (by have := HP11.out.lo 1 rfl; have := HST.out.blk.lt; omega); have HZ2 : Hid (w11.cell? ⟨p5, 0, none⟩ = some (.int .u64 (wd S 0)) ∧ w11.cell? ⟨p5, 1, none⟩ = some (.int .u64 (wd S 1)) ∧ w11.cell? ⟨p5, 2, none⟩ = some (.int .u64 (wd S 2)) ∧ w11.cell? ⟨p5, 3, none⟩ = some (.int .u64 (wd S 3)) ∧ w11.cell? ⟨p5, 4, none⟩ = some (.int .u64 (wd S 4)) ∧ w11.cell? ⟨p5, 5, none⟩ = some (.int .u64 (wd S 5)) ∧ w11.cell? ⟨p5, 6, none⟩ = some (.int .u64 (wd S 6)) ∧ w11.cell? ⟨p5, 7, none⟩ = some (.int .u64 (wd S 7))) := Lib.hid (Blk.eight (t := 36) (S := S) ((added_keepR hadd p5 (HP11.out.lt 1 rfl) hpg).trans (HP11.out.blk 1 rfl))); have hd : StPost B p g x x.P R.1 R.2 w e w11 := (by rw [HRF3.out]; exact rf_done (φ := fun T => decide (mi S T = 0)) HS10.out HOK.out HP11.out.below HNW.out HSAY.out HSE.out HSO.out HYA.out hadd); obtain ⟨x', rfl, hd2⟩ := hd; have HD := Lib.hid hd2; clear hadd hpg hd2) | skip); refine hK _ _ (by first | exact HZ2.out | exact HZ.out) ?_; clear hK K) | (refine Lx.lex_cases rfl rfl rfl (fun hgd K hK => ?_) (fun hgd K hK => ?_) <;> (try simp only [decide_eq_true_eq, decide_eq_false_iff_not] at hgd) <;> (first | (exfalso; omega) | (go_simp; refine hK _ ?_; clear hK K))))
   all_goals (refine Lx.lex_nil ?_)
   go_wp2_with fail
   go_ret
   exact ⟨x', rfl, HD.out⟩
 ·have hrr : c0 ≠ 0 ∧ R = (x.Q, c0) := by
   have h1 := HSR2.out
   have h2 := HRF.out
   by_cases hv : stOk y.sts = true
   ·have hm : ¬ mi (stS y.sts) x.H = 0 := fun h => hok ⟨hv, h⟩
    rw [if_pos hv, if_neg hm] at h1 h2
    injection h1 with _ h1
    rw [h1]; exact ⟨by decide, h2⟩
   ·rw [if_neg hv] at h1 h2
    injection h1 with _ h1
    rw [h1]; exact ⟨by decide, h2⟩
  have hc1 : (c0 != 0) = true := by simpa using hrr.1
  have HR := Lib.hid hrr.2
  clear hrr hok HSR2 HRF
  go_wp2_with fail
  go_ret
  rw [HR.out]
  exact st_same c0 HST.out HOK.out HP4.out.below
end Go.Proofs.YtdpbbhbegehcjaaDoor
