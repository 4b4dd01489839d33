/- Contract of product.Catalogue. -/
import Derived.Test.YtpgomblalmnonaaDoorCnt33
import Derived.Test.YtpgomblalmnonaaDoorArea33
import Derived.Test.YtpgomblalmnonaaDoorBlk
import Derived.Lib.SmallJoins
namespace Go.Proofs.YtpgomblalmnonaaDoor
open Go.RowKit

/-- block g is a row of bools -/
def BoolBlk (w : World) (g t : Nat) (s : List Bool) : Prop := w.heap[g]? = some (.cells (s.map Value.bool).toArray t (0, 0))
theorem BoolBlk.lt {w : World} {g t : Nat} {s : List Bool} (h : BoolBlk w g t s) : g < w.heap.size := by
  rcases Nat.lt_or_ge g w.heap.size with hlt | hge
  · exact hlt
  · unfold BoolBlk at h; rw [Array.getElem?_eq_none hge] at h; cases h
theorem BoolBlk.cell {w : World} {g t : Nat} {s : List Bool} (h : BoolBlk w g t s) {i : Nat} {x : Bool} (hx : s[i]? = some x) : w.cell? ⟨g, i, none⟩ = some (.bool x) := by
  unfold BoolBlk at h; simp [World.cell?, h, hx]
theorem BoolBlk.frozen {w : World} {g t : Nat} {s : List Bool} (h : BoolBlk w g t s) (i : Nat) : w.frozen? ⟨g, i, none⟩ = false := by
  unfold BoolBlk at h; simp [World.frozen?, h]
theorem BoolBlk.set_ {w : World} {g t : Nat} {s : List Bool} (h : BoolBlk w g t s) (i : Nat) (x : Bool) : BoolBlk (w.setCell ⟨g, i, none⟩ (.bool x)) g t (s.set i x) := by
  unfold BoolBlk at h ⊢
  simp [World.setCell, Array.getElem?_modify, h, List.map_set]
theorem BoolBlk.alloc {w : World} {g t : Nat} {s : List Bool} (h : BoolBlk w g t s) (o : Obj) : BoolBlk (w.alloc o) g t s := (Below.heap_alloc w o g h.lt).trans h

def knGo : List Area → List Bool → List Bool
  | [], s => s
  | a :: r, s => knGo r (s.set a.id.toNat true)
def knF (l : List Area) : List Bool := knGo l (List.replicate 64 false)
def hasA (l : List Area) (x : Int) : Bool := l.any fun a => decide (a.id = x)
theorem knGo_len : ∀ (l : List Area) (s : List Bool), (knGo l s).length = s.length := by
  intro l
  induction l with
  | nil => intro s; rfl
  | cons a r ih => intro s; rw [knGo, ih]; simp
theorem knGo_at : ∀ (l : List Area) (s : List Bool) (x : Nat) (b : Bool), (∀ a ∈ l, 0 ≤ a.id) → s[x]? = some b → (knGo l s)[x]? = some (b || hasA l x) := by
  intro l
  induction l with
  | nil => intro s x b _ h; simp [knGo, hasA, h]
  | cons a r ih =>
    intro s x b ha h
    rw [knGo]
    have h0 := ha a (by simp)
    by_cases hx : a.id.toNat = x
    · have hl : x < s.length := (List.getElem?_eq_some_iff.1 h).1
      rw [ih (s.set a.id.toNat true) x true (fun y hy => ha y (by simp [hy])) (by rw [hx, List.getElem?_set_self hl])]
      have : hasA (a :: r) x = true := by simp [hasA]; left; omega
      rw [this]; simp
    · rw [ih (s.set a.id.toNat true) x b (fun y hy => ha y (by simp [hy])) (by rw [List.getElem?_set_ne hx]; exact h)]
      have : hasA (a :: r) x = hasA r x := by
        simp only [hasA, List.any_cons]
        rw [decide_eq_false (by omega)]; rfl
      rw [this]
theorem areasGo_ok : ∀ (l : List Area) (prev : Option Int), areasGo l prev = true → ∀ i ∈ l, ¬ badA i := by
  intro l
  induction l with
  | nil => intro _ _ i hi; cases hi
  | cons a r ih =>
    intro prev h i hi
    rw [areasGo] at h
    split at h
    · cases h
    · rename_i hb
      split at h
      · cases h
      · rcases List.mem_cons.1 hi with rfl | hi
        · exact hb
        · exact ih _ h i hi

def knowB (ar : List Area) : List Imp → Bool
  | [] => true
  | i :: r => if hasA ar i.area = false then false else knowB ar r
def prodC (a : Area) (u pr : Int) (ns : List Int) (c : Nat) : Prod := ⟨a.id, c, ns.getD c 0, u, u * pr / c⟩
/-- the products of an area: those of the categories below c -/
def prodsU (a : Area) (u pr : Int) (ns : List Int) : Nat → List Prod
  | 0 => []
  | 1 => []
  | c + 2 => prodsU a u pr ns (c + 1) ++ (if 0 < ns.getD (c + 1) 0 then [prodC a u pr ns (c + 1)] else [])
def prodsA (imps : List Imp) (nb : Nat) (pr : Int) (a : Area) : List Prod := prodsU a (uniF a.people).1 pr (countsF a.id nb imps) 3
def catalL (ar : List Area) (imps : List Imp) (nb : Nat) (pr : Int) : List Prod := ar.flatMap (prodsA imps nb pr)
/-- Catalogue: the products and an error -/
def ctlF (ar : List Area) (imps : List Imp) (cl pr : Int) : List Prod × Int :=
  if areasF ar = true ∧ impsF imps = true ∧ vldT cl = true ∧ withinB pr 1 1000000 = true then (if knowB ar imps = true then (catalL ar imps (blkN cl).toNat pr, 0) else ([], 9)) else ([], 2)

theorem prodsU_len (a : Area) (u pr : Int) (ns : List Int) : (prodsU a u pr ns 3).length ≤ 2 := by
  simp only [prodsU, List.nil_append, List.length_append]
  split <;> split <;> simp
theorem catal_len (imps : List Imp) (nb : Nat) (pr : Int) : ∀ ar : List Area, (catalL ar imps nb pr).length ≤ 2 * ar.length := by
  intro ar
  induction ar with
  | nil => simp [catalL]
  | cons a r ih =>
    have h1 : (prodsA imps nb pr a).length ≤ 2 := prodsU_len _ _ _ _
    simp only [catalL, List.flatMap_cons, List.length_append, List.length_cons] at ih ⊢
    omega
theorem catal_snoc (imps : List Imp) (nb : Nat) (pr : Int) (ar : List Area) (k : Nat) (a : Area) (h : ar[k]? = some a) : catalL (ar.take (k + 1)) imps nb pr = catalL (ar.take k) imps nb pr ++ prodsA imps nb pr a := by
  unfold catalL
  rw [List.take_add_one, h, List.flatMap_append]
  simp

def CtlPost (r : List Prod × Int) (w : World) (e : Ending) (w' : World) : Prop :=
  ∃ v, e = .returned (.tuple #[v, .int .i64 r.2]) ∧ w'.ownsRow w.heap.size 48 5 v r.1.length (flat 5 Prod.cell r.1) ∧ Below w.heap.size w w'

theorem prod_info : (Tryd.prog.info? 48).map (fun i => (i.zero, i.size, i.bytes)) = some (some (.agg #[.int .i64 0, .int .i64 0, .int .i64 0, .int .i64 0, .int .i64 0]), 5, 40) := by kernel_rfl

theorem uniF_bd {n : Int} (h0 : 0 ≤ n) (h1 : n ≤ 4096000000) : (uniF n).1 = 1 + n / 50000 ∧ (uniF n).2 = 0 ∧ 1 ≤ (uniF n).1 ∧ (uniF n).1 ≤ 81921 := by
  unfold uniF
  rw [if_neg (by omega)]
  exact ⟨rfl, rfl, by dsimp only; omega, by dsimp only; omega⟩
theorem ctl_cell (p : Prod) : flat 5 Prod.cell [p] = [.int .i64 p.area, .int .i64 p.cat, .int .i64 p.sup, .int .i64 p.units, .int .i64 p.res] := rfl

theorem own_ne {w : World} {base e size n g : Nat} {v : Value} {xs : List Value} {cs : Array Value} {t : TypeId} {fr : Nat × Nat} (h : w.ownsRow base e size v n xs) (hg : w.heap[g]? = some (.cells cs t fr)) (ht : t ≠ e) : v.ownBlock ≠ some g := by
  intro hv
  rcases h.2 with ⟨rfl, _⟩ | ⟨g', cap, cur, rfl, _, hb, _⟩
  · simp [Value.ownBlock] at hv
  · simp [Value.ownBlock] at hv
    subst hv
    rw [hg] at hb
    injection hb with hb
    injection hb with _ hb _
    exact ht hb
theorem flat_app {α : Type} (sz : Nat) (f : α → Nat → Value) (xs ys : List α) : flat sz f (xs ++ ys) = flat sz f xs ++ flat sz f ys := by simp [flat]
theorem prodsU_succ (a : Area) (u pr : Int) (ns : List Int) (c : Nat) (hc : 1 ≤ c) : prodsU a u pr ns (c + 1) = prodsU a u pr ns c ++ (if 0 < ns.getD c 0 then [prodC a u pr ns c] else []) := by
  obtain ⟨c', rfl⟩ : ∃ c', c = c' + 1 := ⟨c - 1, by omega⟩
  rfl
theorem cells_new (w : World) (cs : Array Value) (t : TypeId) : ∀ (j : Nat) (u : Value), cs.toList[j]? = some u → (w.alloc (.cells cs t)).drew.cell? ((⟨w.heap.size, 0, none⟩ : Addr).add j) = some u := by
  intro j u h
  have hh : (w.alloc (.cells cs t)).heap[w.heap.size]? = some (.cells cs t (0, 0)) := heap_alloc_new w _
  have ha : (⟨w.heap.size, 0, none⟩ : Addr).add j = ⟨w.heap.size, j, none⟩ := by
    unfold Addr.add
    by_cases hj : j = 0
    · subst hj; rfl
    · rw [if_neg hj]; simp
  rw [ha]
  show (w.alloc (.cells cs t)).cell? ⟨w.heap.size, j, none⟩ = some u
  rw [Joins.cell_of_block hh j]
  simpa using h
theorem lt_of_blk {w : World} {g : Nat} {o : Obj} (h : w.heap[g]? = some o) : g < w.heap.size := by
  rcases Nat.lt_or_ge g w.heap.size with h1 | h1
  · exact h1
  · rw [Array.getElem?_eq_none h1] at h; cases h

/-- the first part: what is refused -/
theorem ctl_no {ar : List Area} {imps : List Imp} {cl pr : Int} (h : ¬ (areasF ar = true ∧ impsF imps = true ∧ vldT cl = true ∧ withinB pr 1 1000000 = true)) : ctlF ar imps cl pr = ([], 2) := by
  unfold ctlF; rw [if_neg h]

set_option maxHeartbeats 4000000 in
set_option maxRecDepth 100000 in
theorem catalogue_any (A B : Option Addr) (n c m d : Nat) (cl pr : Int) (w : World) (ar : List Area) (imps : List Imp) (hn : n ≤ 140) (hm : m ≤ 140) (ha : RowS 2 Area.cell w w.heap.size A n ar) (hi : RowS 3 Imp.cell w w.heap.size B m imps) :
    Calls Tryd.prog 15 #[.slice A n c, .slice B m d, .agg #[.int .i64 cl], .int .i64 pr] w (CtlPost (ctlF ar imps cl pr) w) := by
  have HA := Lib.hid ha
  have HI := Lib.hid hi
  have Hal := Eqn.mk ha.1
  have Hil := Eqn.mk hi.1
  clear ha hi
  have hL : Hid (Below w.heap.size w (w.alloc (.cells #[.int .i64 cl] 32))) := (Below.refl _ _).alloc (Nat.le_refl _) _
  cases h1 : areasF ar with
  | false =>
    have H1 := Eqn.mk h1
    have HF : Eqn (ctlF ar imps cl pr) ([], 2) := ctl_no (by rw [h1]; simp)
    clear h1
    go_enter Tryd.func15, Tryd.ntmps15
    go_wp2_with fail
    refine (areas_any A n c ar _ hn (by exact HA.out.keep hL.out)).mono ?_
    rw [H1.out]
    rintro e w1 ⟨rfl, hb1⟩
    go_wp2_with fail
    go_ret2
    rw [HF.out]
    exact ⟨_, rfl, World.ownsRow_nil _ _ _ _, hL.out.trans (hb1.mono (by simp))⟩
  | true =>
    have H1 := Eqn.mk h1
    cases h2 : impsF imps with
    | false =>
      have H2 := Eqn.mk h2
      have HF : Eqn (ctlF ar imps cl pr) ([], 2) := ctl_no (by rw [h2]; simp)
      clear h1 h2
      go_enter Tryd.func15, Tryd.ntmps15
      go_wp2_with fail
      refine (areas_any A n c ar _ hn (by exact HA.out.keep hL.out)).mono ?_
      rw [H1.out]
      rintro e w1 ⟨rfl, hb1⟩
      have B1 : Hid (Below w.heap.size w w1) := hL.out.trans (hb1.mono (by simp))
      clear hb1
      go_wp2_with fail
      refine (imps_any B m d imps _ hm (by exact HI.out.keep B1.out)).mono ?_
      rw [H2.out]
      rintro e w2 ⟨rfl, hb2⟩
      go_wp2_with fail
      go_ret2
      rw [HF.out]
      exact ⟨_, rfl, World.ownsRow_nil _ _ _ _, B1.out.trans (hb2.mono B1.out.size)⟩
    | true =>
      have H2 := Eqn.mk h2
      cases h3 : vldT cl with
      | false =>
        have H3 := Eqn.mk h3
        have HF : Eqn (ctlF ar imps cl pr) ([], 2) := ctl_no (by rw [h3]; simp)
        clear h1 h2 h3
        go_enter Tryd.func15, Tryd.ntmps15
        go_wp2_with fail
        refine (areas_any A n c ar _ hn (by exact HA.out.keep hL.out)).mono ?_
        rw [H1.out]
        rintro e w1 ⟨rfl, hb1⟩
        have B1 : Hid (Below w.heap.size w w1) := hL.out.trans (hb1.mono (by simp))
        have q1 := hb1.cell (p := ⟨w.heap.size, 0, none⟩) (by simp)
        have z1 : w.heap.size < w1.heap.size := by have := hb1.size; simp at this; omega
        clear hb1
        go_wp2_with fail
        refine (imps_any B m d imps _ hm (by exact HI.out.keep B1.out)).mono ?_
        rw [H2.out]
        rintro e w2 ⟨rfl, hb2⟩
        have B2 : Hid (Below w.heap.size w w2) := B1.out.trans (hb2.mono B1.out.size)
        have q2 := (hb2.cell (p := ⟨w.heap.size, 0, none⟩) z1).trans q1
        clear hb2 q1
        go_wp2_with fail
        refine (bvalid_any cl _).mono ?_
        rw [H3.out]
        rintro e w3 ⟨rfl, hb3⟩
        go_wp2_with fail
        go_ret2
        rw [HF.out]
        exact ⟨_, rfl, World.ownsRow_nil _ _ _ _, B2.out.trans (hb3.mono B2.out.size)⟩
      | true =>
        have H3 := Eqn.mk h3
        cases h4 : withinB pr 1 1000000 with
        | false =>
          have HF : Eqn (ctlF ar imps cl pr) ([], 2) := ctl_no (by rw [h4]; simp)
          clear h1 h2 h3
          go_enter Tryd.func15, Tryd.ntmps15
          go_wp2_with fail
          refine (areas_any A n c ar _ hn (by exact HA.out.keep hL.out)).mono ?_
          rw [H1.out]
          rintro e w1 ⟨rfl, hb1⟩
          have B1 : Hid (Below w.heap.size w w1) := hL.out.trans (hb1.mono (by simp))
          have q1 := hb1.cell (p := ⟨w.heap.size, 0, none⟩) (by simp)
          have z1 : w.heap.size < w1.heap.size := by have := hb1.size; simp at this; omega
          clear hb1
          go_wp2_with fail
          refine (imps_any B m d imps _ hm (by exact HI.out.keep B1.out)).mono ?_
          rw [H2.out]
          rintro e w2 ⟨rfl, hb2⟩
          have B2 : Hid (Below w.heap.size w w2) := B1.out.trans (hb2.mono B1.out.size)
          have q2 := (hb2.cell (p := ⟨w.heap.size, 0, none⟩) z1).trans q1
          clear hb2 q1
          go_wp2_with fail
          refine (bvalid_any cl _).mono ?_
          rw [H3.out]
          rintro e w3 ⟨rfl, hb3⟩
          have B3 : Hid (Below w.heap.size w w3) := B2.out.trans (hb3.mono B2.out.size)
          clear hb3
          go_wp2_with (go_at_call 30; refine (pwithin_any _ _ _ _).mono ?_; rintro e w' ⟨rfl, rfl⟩)
          go_ret2
          rw [HF.out]
          exact ⟨_, rfl, World.ownsRow_nil _ _ _ _, B3.out⟩
        | true =>
          have HAK := Lib.hid (areasGo_ok ar none h1)
          have HIK := Lib.hid (impsGo_ok imps none h2)
          have HIV := Lib.hid h2
          have HF : Eqn (ctlF ar imps cl pr) (if knowB ar imps = true then (catalL ar imps (blkN cl).toNat pr, 0) else ([], 9)) := by
            unfold ctlF Eqn; rw [if_pos ⟨h1, h2, h3, h4⟩]
          have hpr : 1 ≤ pr ∧ pr ≤ 1000000 := by
            have := h4; unfold withinB at this; rw [Bool.and_eq_true, decide_eq_true_eq, decide_eq_true_eq] at this; exact this
          obtain ⟨p0, p1⟩ := hpr
          have hb0 := blkN_bd cl
          have hbn : ¬ blkN cl = 0 := by unfold vldT at h3; simpa using h3
          obtain ⟨nb, hnb⟩ := Int.eq_ofNat_of_zero_le hb0.1
          have hnb12 : nb ≤ 12 := by omega
          have HBF : Eqn (blkF cl) ((nb : Int), 0) := by unfold blkF Eqn; rw [if_neg hbn, hnb]
          rw [hnb, Int.toNat_natCast] at HF
          have HNB := Eqn.mk hnb
          clear h1 h2 h3 hb0 hbn hnb
          go_enter Tryd.func15, Tryd.ntmps15
          go_wp2_with fail
          refine (areas_any A n c ar _ hn (by exact HA.out.keep hL.out)).mono ?_
          rw [H1.out]
          rintro e w1 ⟨rfl, hb1⟩
          have B1 : Hid (Below w.heap.size w w1) := hL.out.trans (hb1.mono (by simp))
          have q1 := hb1.cell (p := ⟨w.heap.size, 0, none⟩) (by simp)
          have z1 : w.heap.size < w1.heap.size := by have := hb1.size; simp at this; omega
          clear hb1
          go_wp2_with fail
          refine (imps_any B m d imps _ hm (by exact HI.out.keep B1.out)).mono ?_
          rw [H2.out]
          rintro e w2 ⟨rfl, hb2⟩
          have B2 : Hid (Below w.heap.size w w2) := B1.out.trans (hb2.mono B1.out.size)
          have q2 := (hb2.cell (p := ⟨w.heap.size, 0, none⟩) z1).trans q1
          have z2 : w.heap.size < w2.heap.size := Nat.lt_of_lt_of_le z1 hb2.size
          clear hb2 q1
          go_wp2_with fail
          refine (bvalid_any cl _).mono ?_
          rw [H3.out]
          rintro e w3 ⟨rfl, hb3⟩
          have B3 : Hid (Below w.heap.size w w3) := B2.out.trans (hb3.mono B2.out.size)
          have q3 := (hb3.cell (p := ⟨w.heap.size, 0, none⟩) z2).trans q2
          have z3 : w.heap.size < w3.heap.size := Nat.lt_of_lt_of_le z2 hb3.size
          clear hb3 q2
          go_wp2_with (go_at_call 30; refine (pwithin_any _ _ _ _).mono ?_; rintro e w' ⟨rfl, rfl⟩)
          have B3z := Lib.hid (Nat.le_of_lt z3)
          go_loopw [44] (fun i wr => ∃ (k : Nat) (s : List Bool), k ≤ n ∧ i = .int .i64 k ∧ Hid (BoolBlk wr w3.heap.size 64 s ∧ s.length = 64 ∧ knF ar = knGo (ar.drop k) s) ∧ Below w3.heap.size w3 wr) (fun i _ => n - (intOf i).toNat)
          case atStart => exact ⟨0, List.replicate 64 false, Nat.zero_le _, rfl, ⟨heap_alloc_new w3 _, by simp, rfl⟩, (Below.refl _ _).alloc (Nat.le_refl _) _⟩
          case round =>
            obtain ⟨k, s, hk, rfl, HS, HW⟩ := hrel
            have HWW := Lib.hid HW
            have hws := HW.size
            have HBW : Hid (Below w.heap.size w wr) := B3.out.trans (HW.mono B3z.out)
            obtain ⟨s1, s2, s3⟩ := HS.out
            have S1 := Lib.hid s1
            have S2 := Lib.hid s2
            have hgl := s1.lt
            by_cases hlt : k < n
            · obtain ⟨p, hp, hpd⟩ := drop_at (xs := ar) (k := k) (by rw [Hal.out]; exact hlt)
              obtain ⟨b, off, rfl, hbl, hc⟩ := (HA.out.below HBW.out).2 (by omega)
              have c0 := hc k p hp 0 (by omega)
              have c1 := hc k p hp 1 (by omega)
              simp only [Area.cell, Nat.add_zero] at c0 c1
              have hbad := HAK.out p (List.mem_of_getElem? hp)
              unfold badA at hbad
              obtain ⟨x, hx⟩ := Int.eq_ofNat_of_zero_le (show 0 ≤ p.id by omega)
              have hx64 : x < 64 := by omega
              obtain ⟨v0, hv0⟩ : ∃ v0, s[x]? = some v0 := ⟨_, List.getElem?_eq_getElem (by omega)⟩
              have d1 := s1.cell hv0
              have f1 := s1.frozen x
              have HS' : Eqn (knF ar) (knGo (ar.drop (k + 1)) (s.set x true)) := by rw [Eqn, s3, hpd, knGo, hx]; rfl
              rw [hx] at c0
              have x0 : (0 : Int) ≤ (x : Int) := by omega
              have x1 : (x : Int) < 64 := by omega
              have hbs : b < wr.heap.size := by have := HBW.out.size; omega
              clear hc hp hpd HW hbad hx hv0 s1 s2 s3 HS
              go_wp2_with fail
              go_roundw
              case rel => exact ⟨k + 1, s.set x true, by omega, by go_num, ⟨(S1.out.set_ x true).alloc _, by rw [List.length_set]; exact S2.out, HS'.out⟩, (HWW.out.setCell (by simp) _).alloc (by simp; omega) _⟩
              case measure => simp [intOf]; omega
            · have HKN : Eqn (knF ar) s := by rw [Eqn, s3, drop_end (by rw [Hal.out]; omega)]; rfl
              have HKA : Hid (∀ x : Nat, x < 64 → s[x]? = some (hasA ar x)) := by
                intro x hx
                have := knGo_at ar (List.replicate 64 false) x false (fun a ha => by have := HAK.out a ha; unfold badA at this; omega) (by rw [List.getElem?_replicate, if_pos hx])
                rw [← HKN.out]
                simpa [knF] using this
              clear HW s1 s2 s3 HS
              go_wp2_with fail
              go_loopw [54] (fun i wr => ∃ k : Nat, k ≤ m ∧ i = .int .i64 k ∧ Hid (BoolBlk wr w3.heap.size 64 s) ∧ Eqn (knowB ar imps) (knowB ar (imps.drop k)) ∧ Below w3.heap.size w3 wr) (fun i _ => m - (intOf i).toNat)
              case atStart => exact ⟨0, Nat.zero_le _, rfl, S1.out, rfl, HWW.out⟩
              case round =>
                obtain ⟨k2, hk2, rfl, HS, HR, HW⟩ := hrel
                have HWW := Lib.hid HW
                have hws := HW.size
                have HBW : Hid (Below w.heap.size w wr) := B3.out.trans (HW.mono B3z.out)
                by_cases hlt2 : k2 < m
                · obtain ⟨p, hp, hpd⟩ := drop_at (xs := imps) (k := k2) (by rw [Hil.out]; exact hlt2)
                  obtain ⟨b, off, rfl, hbl, hc⟩ := (HI.out.below HBW.out).2 (by omega)
                  have c0 := hc k2 p hp 0 (by omega)
                  have c1 := hc k2 p hp 1 (by omega)
                  have c2 := hc k2 p hp 2 (by omega)
                  simp only [Imp.cell, Nat.add_zero] at c0 c1 c2
                  have hbad := HIK.out p (List.mem_of_getElem? hp)
                  unfold badI at hbad
                  obtain ⟨x, hx⟩ := Int.eq_ofNat_of_zero_le (show 0 ≤ p.area by omega)
                  have hx64 : x < 64 := by omega
                  have d1 := HS.out.cell (HKA.out x hx64)
                  have hgl2 : w3.heap.size < wr.heap.size := HS.out.lt
                  have HR' : Eqn (knowB ar imps) (if hasA ar x = false then false else knowB ar (imps.drop (k2 + 1))) := by
                    rw [Eqn, HR.out, hpd, knowB, hx]
                  rw [hx] at c0
                  have x0 : (0 : Int) ≤ (x : Int) := by omega
                  have x1 : (x : Int) < 64 := by omega
                  have hbs : b < wr.heap.size := by have := HBW.out.size; omega
                  clear hc hp hpd HW hbad hx HR
                  cases hh : hasA ar x with
                  | false =>
                    have HK : Eqn (ctlF ar imps cl pr) ([], 9) := by rw [Eqn, HF.out, HR'.out, if_pos hh]; rfl
                    rw [hh] at d1
                    clear hh HR'
                    go_wp2_with fail
                    go_ret2
                    rw [HK.out]
                    exact ⟨_, rfl, World.ownsRow_nil _ _ _ _, HBW.out.alloc HBW.out.size _⟩
                  | true =>
                    have HR2 : Eqn (knowB ar imps) (knowB ar (imps.drop (k2 + 1))) := by rw [Eqn, HR'.out, if_neg (by rw [hh]; simp)]
                    rw [hh] at d1
                    clear hh HR'
                    go_wp2_with fail
                    go_roundw
                    case rel => exact ⟨k2 + 1, by omega, by go_num, HS.out.alloc _, HR2, HWW.out.alloc hws _⟩
                    case measure => simp [intOf]; omega
                · have HK : Eqn (ctlF ar imps cl pr) (catalL ar imps nb pr, 0) := by
                    have : knowB ar imps = true := by rw [HR.out, drop_end (by rw [Hil.out]; omega)]; rfl
                    rw [Eqn, HF.out, this]; rfl
                  have q4 := (HW.cell (p := ⟨w.heap.size, 0, none⟩) z3).trans q3
                  clear HR HW HF
                  go_wp2_with fail
                  refine (bblocks_any cl _).mono ?_
                  rw [HBF.out]
                  rintro e w5 ⟨rfl, hb5⟩
                  have B5 : Hid (Below w.heap.size w w5) := HBW.out.trans (hb5.mono HBW.out.size)
                  clear hb5
                  obtain ⟨i0, hi0, hz0, hz1, hz2⟩ := info_parts prod_info
                  go_wp2_with fail
                  go_loopw [17, 74] (fun v i wr => ∃ k : Nat, k ≤ n ∧ i = .int .i64 k ∧ wr.ownsRow w.heap.size 48 5 v (catalL (ar.take k) imps nb pr).length (flat 5 Prod.cell (catalL (ar.take k) imps nb pr)) ∧ Below w.heap.size w wr) (fun _ i _ => n - (intOf i).toNat)
                  case atStart => exact ⟨0, Nat.zero_le _, rfl, World.ownsRow_nil _ _ _ _, B5.out⟩
                  case round =>
                    obtain ⟨k3, hk3, rfl, HO, HW⟩ := hrel
                    obtain ⟨wo, rfl⟩ : ∃ wo : World, wo = wr := ⟨_, rfl⟩
                    have HWW := Lib.hid HW
                    have HOO := Lib.hid HO
                    have hws := HW.size
                    by_cases hlt3 : k3 < n
                    · obtain ⟨a, hp, hpd⟩ := drop_at (xs := ar) (k := k3) (by rw [Hal.out]; exact hlt3)
                      obtain ⟨b, off, rfl, hbl, hc⟩ := (HA.out.below HW).2 (by omega)
                      have c0 := hc k3 a hp 0 (by omega)
                      have c1 := hc k3 a hp 1 (by omega)
                      simp only [Area.cell, Nat.add_zero] at c0 c1
                      have hbad := HAK.out a (List.mem_of_getElem? hp)
                      unfold badA at hbad
                      have hbs : b < wo.heap.size := by omega
                      obtain ⟨u1, u2, u3, u4⟩ := uniF_bd (n := a.people) (by omega) (by omega)
                      have HUN : Eqn (v2 (uniF a.people)) (.tuple #[.int .i64 (uniF a.people).1, .int .i64 0]) := by unfold v2 Eqn; rw [u2]
                      have HSN := Eqn.mk (catal_snoc imps nb pr ar k3 a hp)
                      have hcl := catal_len imps nb pr (ar.take k3)
                      have hcl2 : (catalL (ar.take k3) imps nb pr).length ≤ 280 := by
                        have : (ar.take k3).length ≤ k3 := List.length_take_le _ _
                        omega
                      have hns : (countsF a.id nb imps).length = 3 := cntGo_len _ _
                      obtain ⟨y0, y1, y2, hy⟩ : ∃ y0 y1 y2, countsF a.id nb imps = [y0, y1, y2] := by
                        match hh : countsF a.id nb imps, hns with
                        | [p, q, r], _ => exact ⟨p, q, r, rfl⟩
                      have HCN := Eqn.mk hy
                      have HPA : Eqn (prodsA imps nb pr a) (prodsU a (uniF a.people).1 pr [y0, y1, y2] 3) := by unfold prodsA Eqn; rw [hy]
                      rw [HPA.out] at HSN
                      generalize (uniF a.people).1 = uu at *
                      have BA : Hid (Below w.heap.size w (wo.alloc (.cells #[.int .i64 a.id, .int .i64 a.people] 39))) := HWW.out.alloc hws _
                      have BA' : Hid (Below wo.heap.size wo (wo.alloc (.cells #[.int .i64 a.id, .int .i64 a.people] 39))) := (Below.refl _ _).alloc (Nat.le_refl _) _
                      have hmin : ¬ (12 : Int) < (nb : Int) := by omega
                      clear hc hp hpd hbad HW HO hns hy HPA u1 u2 hcl
                      go_wp2_with fail
                      refine (counts_any a.id nb B m d _ imps hnb12 (by omega) (by exact HI.out.keep BA.out) HIV.out).mono ?_
                      rw [HCN.out]
                      rintro e w6 ⟨rfl, hb6⟩
                      have B6 : Hid (Below w.heap.size w w6) := BA.out.trans (hb6.mono BA.out.size)
                      have B6' : Hid (Below wo.heap.size wo w6) := BA'.out.trans (hb6.mono BA'.out.size)
                      have K6 : Hid (w6.heap[wo.heap.size]? = some (.cells #[.int .i64 a.id, .int .i64 a.people] 39 (0, 0))) := (hb6.block wo.heap.size (by simp)).trans (heap_alloc_new wo _)
                      have a0 := hb6.cell (p := ⟨wo.heap.size, 0, none⟩) (by simp)
                      have a1 := hb6.cell (p := ⟨wo.heap.size, 1, none⟩) (by simp)
                      rw [show (wo.alloc (.cells #[.int .i64 a.id, .int .i64 a.people] 39)).cell? ⟨wo.heap.size, 0, none⟩ = some (.int .i64 a.id) by go_simp] at a0
                      rw [show (wo.alloc (.cells #[.int .i64 a.id, .int .i64 a.people] 39)).cell? ⟨wo.heap.size, 1, none⟩ = some (.int .i64 a.people) by go_simp] at a1
                      have z6 : wo.heap.size < w6.heap.size := by have := hb6.size; simp at this; omega
                      clear hb6
                      dsimp only [List.map, intV]
                      go_wp2_with fail
                      refine (units33_any a.people _).mono ?_
                      rw [HUN.out]
                      rintro e w' ⟨rfl, rfl⟩
                      go_wp2_with fail
                      have O7 : Hid ((w6.alloc (.cells #[.int .i64 y0, .int .i64 y1, .int .i64 y2] 66)).ownsRow w.heap.size 48 5 u17 (catalL (ar.take k3) imps nb pr).length (flat 5 Prod.cell (catalL (ar.take k3) imps nb pr))) := (own_keep HOO.out B6'.out).alloc _
                      have B7 : Hid (Below w.heap.size w (w6.alloc (.cells #[.int .i64 y0, .int .i64 y1, .int .i64 y2] 66))) := B6.out.alloc B6.out.size _
                      have I7 : Hid (IntBlk (w6.alloc (.cells #[.int .i64 y0, .int .i64 y1, .int .i64 y2] 66)) w6.heap.size 66 [y0, y1, y2]) := heap_alloc_new w6 _
                      have C7 : Hid ((w6.alloc (.cells #[.int .i64 y0, .int .i64 y1, .int .i64 y2] 66)).heap[wo.heap.size]? = some (.cells #[.int .i64 a.id, .int .i64 a.people] 39 (0, 0))) := (Below.heap_alloc _ _ _ z6).trans K6.out
                      generalize hbase : catalL (ar.take k3) imps nb pr = base at *
                      clear hbase a0 a1
                      go_loopw [17, 23] (fun v i wr => ∃ cc : Nat, 1 ≤ cc ∧ cc ≤ 3 ∧ i = .int .i64 cc ∧ Hid (wr.ownsRow w.heap.size 48 5 v (base ++ prodsU a uu pr [y0, y1, y2] cc).length (flat 5 Prod.cell (base ++ prodsU a uu pr [y0, y1, y2] cc)) ∧ IntBlk wr w6.heap.size 66 [y0, y1, y2] ∧ wr.heap[wo.heap.size]? = some (.cells #[.int .i64 a.id, .int .i64 a.people] 39 (0, 0))) ∧ Below w.heap.size w wr) (fun _ i _ => 3 - (intOf i).toNat)
                      case atStart => exact ⟨1, by omega, by omega, rfl, ⟨by simpa [prodsU] using O7.out, I7.out, C7.out⟩, B7.out⟩
                      case round =>
                        obtain ⟨cc, hc1, hc2, rfl, HX, HY⟩ := hrel
                        have HYY := Lib.hid HY
                        have hyz := HY.size
                        obtain ⟨x1, x2, x3⟩ := HX.out
                        have X1 := Lib.hid x1
                        have X2 := Lib.hid x2
                        have X3 := Lib.hid x3
                        have hl2 := x2.lt
                        have hl3 := lt_of_blk x3
                        by_cases hlt4 : cc < 3
                        · obtain ⟨y, hy⟩ : ∃ y, [y0, y1, y2][cc]? = some y := ⟨_, List.getElem?_eq_getElem (by simpa using hlt4)⟩
                          have c5 := x2.cell hy
                          have c6 := Joins.cell_of_block x3 0
                          rw [show (#[Value.int .i64 a.id, .int .i64 a.people] : Array Value)[0]? = some (.int .i64 a.id) from rfl] at c6
                          have hgd : [y0, y1, y2].getD cc 0 = y := by rw [List.getD_eq_getElem?_getD, hy]; rfl
                          have HU := prodsU_succ a uu pr [y0, y1, y2] cc hc1
                          rw [hgd] at HU
                          have j1 : (cc : Int) ≤ 2 := by omega
                          have j0 : (0 : Int) ≤ (cc : Int) := by omega
                          have j2 : (cc : Int) < 3 := by omega
                          by_cases hy0 : 0 < y
                          · have HU2 : Eqn (prodsU a uu pr [y0, y1, y2] (cc + 1)) (prodsU a uu pr [y0, y1, y2] cc ++ [⟨a.id, cc, y, uu, uu * pr / cc⟩]) := by
                              rw [Eqn, HU, if_pos hy0]; unfold prodC; rw [hgd]
                            obtain ⟨m1, m2⟩ : 0 ≤ uu * pr ∧ uu * pr ≤ 81921 * 1000000 := ⟨Int.mul_nonneg (by omega) (by omega), Int.mul_le_mul u4 p1 (by omega) (by omega)⟩
                            have e1 : IntKind.i64.wrap (uu * pr) = uu * pr := by rw [IntKind.wrap_i64]; omega
                            have e3 : IntKind.i64.wrap ((uu * pr).tdiv (cc : Int)) = uu * pr / (cc : Int) := IntWalk.i64_quo _ _ (by omega)
                            have hzc : ¬ cc = 0 := by omega
                            have hzd : ((cc : Int) == 0) = false := by simp; omega
                            have hpl : (prodsU a uu pr [y0, y1, y2] cc).length ≤ 2 := by
                              have h3 : cc = 1 ∨ cc = 2 := by omega
                              rcases h3 with rfl | rfl
                              · simp [prodsU]
                              · simp only [prodsU, List.nil_append]; split <;> simp
                            have hLL : (base ++ prodsU a uu pr [y0, y1, y2] cc).length ≤ 282 := by rw [List.length_append]; omega
                            have n1 := own_ne x1 (show wr.heap[w6.heap.size]? = some _ from x2) (by decide)
                            have n2 := own_ne x1 x3 (by decide)
                            have N1 := Lib.hid n1
                            have N2 := Lib.hid n2
                            clear HX HY x1 x2 x3 hy hgd HU n1 n2 hpl
                            go_wp2_with fail
                            refine Lx.region (C := fun _ => True) (hs := []) (by kernel_rfl) (by kernel_rfl) trivial ?_
                            repeat' (first
                              | (refine Lx.lex_no (Lx.n1 rfl rfl rfl (by with_reducible rfl)) (fun K hK => ?_); go_simp; refine hK _ ?_; clear hK K)
                              | (refine Lx.lex_no (Lx.n0 rfl rfl rfl (by with_reducible rfl)) (fun K hK => ?_); go_simp; refine hK _ ?_; clear hK K)
                              | (refine Lx.lex_no (Lx.n2 rfl rfl rfl) (fun K hK => ?_); go_simp; refine hK _ ?_; clear hK K)
                              | (refine Lx.lex_pure (v := ?_) rfl (by first | exact Lx.w0 rfl | exact Lx.w1 rfl rfl rfl (by with_reducible rfl)) ?_ (fun K hK => ?_); rotate_left 1; (intro w' hCw; (try dsimp only at hCw); go_simp; done); go_simp; refine hK _ ?_; clear hK K)
                              | (refine Lx.lex_pure (v := ?_) rfl (by first | exact Lx.w0 rfl | exact Lx.w1 rfl rfl rfl (by with_reducible rfl)) ?_ (fun K hK => ?_); rotate_left 1; (intro w' hCw; (try dsimp only at hCw); go_simp; with_reducible rfl); go_simp; refine hK _ ?_; clear hK K)
                              | (refine Lx.lex_read (v := ?_) rfl (by first | exact Lx.w0 rfl | exact Lx.w1 rfl rfl rfl (by with_reducible rfl)) ?_ (fun K hK => ?_); rotate_left 1; (go_simp; done); go_simp; refine hK _ ?_; clear hK K)
                              | (refine Lx.lex_read (v := ?_) rfl (by first | exact Lx.w0 rfl | exact Lx.w1 rfl rfl rfl (by with_reducible rfl)) ?_ (fun K hK => ?_); rotate_left 1; (go_simp; with_reducible rfl); go_simp; refine hK _ ?_; clear hK K)
                              | (refine Lx.lex_eff rfl (by first | exact Lx.w0 rfl | exact Lx.w1 rfl rfl rfl (by with_reducible rfl)) (fun K hK => ?_); go_simp; (first | fail | skip); refine hK _ _ (trivial) ?_; clear hK K)
                              | (refine Lx.lex_cases rfl rfl rfl (fun hgd K hK => ?_) (fun hgd K hK => ?_) <;> (try simp only [decide_eq_true_eq, decide_eq_false_iff_not] at hgd) <;> (first | (exfalso; omega) | (go_simp; refine hK _ ?_; clear hK K))))
                            refine Lx.lex_append rfl rfl _ _ 33 rfl w.heap.size 48 i0 (.agg #[.int .i64 0, .int .i64 0, .int .i64 0, .int .i64 0, .int .i64 0]) 5 40 Tryd.underlying33 hi0 hz0 hz1 hz2 rfl (by decide) _ _ _ rfl (by exact (X1.out.alloc _).drew) ⟨wr.heap.size, 0, none⟩ 1 1 [.int .i64 a.id, .int .i64 (cc : Int), .int .i64 y, .int .i64 uu, .int .i64 (uu * pr / (cc : Int))] rfl rfl ?_ (by simp [Value.oneCell']) (by unfold maxLen; omega) (by omega) (by simp; omega) ?_
                            · exact cells_new wr #[.int .i64 a.id, .int .i64 (cc : Int), .int .i64 y, .int .i64 uu, .int .i64 (uu * pr / (cc : Int))] 48
                            · intro v' w8 hown8 hgrow8 _
                              refine ⟨trivial, ?_⟩
                              clear e1 e3
                              repeat' (first
                                | (refine Lx.lex_no (Lx.n1 rfl rfl rfl (by with_reducible rfl)) (fun K hK => ?_); go_simp; refine hK _ ?_; clear hK K)
                                | (refine Lx.lex_no (Lx.n0 rfl rfl rfl (by with_reducible rfl)) (fun K hK => ?_); go_simp; refine hK _ ?_; clear hK K)
                                | (refine Lx.lex_no (Lx.n2 rfl rfl rfl) (fun K hK => ?_); go_simp; refine hK _ ?_; clear hK K)
                                | (refine Lx.lex_pure (v := ?_) rfl (by first | exact Lx.w0 rfl | exact Lx.w1 rfl rfl rfl (by with_reducible rfl)) ?_ (fun K hK => ?_); rotate_left 1; (intro w' hCw; (try dsimp only at hCw); go_simp; done); go_simp; refine hK _ ?_; clear hK K)
                                | (refine Lx.lex_pure (v := ?_) rfl (by first | exact Lx.w0 rfl | exact Lx.w1 rfl rfl rfl (by with_reducible rfl)) ?_ (fun K hK => ?_); rotate_left 1; (intro w' hCw; (try dsimp only at hCw); go_simp; with_reducible rfl); go_simp; refine hK _ ?_; clear hK K)
                                | (refine Lx.lex_read (v := ?_) rfl (by first | exact Lx.w0 rfl | exact Lx.w1 rfl rfl rfl (by with_reducible rfl)) ?_ (fun K hK => ?_); rotate_left 1; (go_simp; done); go_simp; refine hK _ ?_; clear hK K)
                                | (refine Lx.lex_read (v := ?_) rfl (by first | exact Lx.w0 rfl | exact Lx.w1 rfl rfl rfl (by with_reducible rfl)) ?_ (fun K hK => ?_); rotate_left 1; (go_simp; with_reducible rfl); go_simp; refine hK _ ?_; clear hK K)
                                | (refine Lx.lex_eff rfl (by first | exact Lx.w0 rfl | exact Lx.w1 rfl rfl rfl (by with_reducible rfl)) (fun K hK => ?_); go_simp; (first | fail | skip); refine hK _ _ (trivial) ?_; clear hK K)
                                | (refine Lx.lex_cases rfl rfl rfl (fun hgd K hK => ?_) (fun hgd K hK => ?_) <;> (try simp only [decide_eq_true_eq, decide_eq_false_iff_not] at hgd) <;> (first | (exfalso; omega) | (go_simp; refine hK _ ?_; clear hK K))))
                              all_goals (refine Lx.lex_nil ?_)
                              go_wp2_with fail
                              go_roundw
                              case rel =>
                                refine ⟨cc + 1, by omega, by omega, by go_num, ⟨?_, ?_, ?_⟩, ((HYY.out.alloc hyz _).drew).grown hgrow8 (by simp; omega) (own_ge X1.out)⟩
                                · rw [HU2.out, ← List.append_assoc, List.length_append, flat_app]
                                  exact hown8
                                · exact (hgrow8.block _ (by simp; omega) (fun e => N1.out e.symm)).trans ((Below.heap_alloc _ _ _ hl2).trans X2.out)
                                · exact (hgrow8.block _ (by simp; omega) (fun e => N2.out e.symm)).trans ((Below.heap_alloc _ _ _ hl3).trans X3.out)
                              case measure => simp [intOf]; omega
                          · have HU2 : Eqn (prodsU a uu pr [y0, y1, y2] (cc + 1)) (prodsU a uu pr [y0, y1, y2] cc) := by
                              rw [Eqn, HU, if_neg hy0, List.append_nil]
                            clear HX HY x1 x2 x3 hy hgd HU
                            go_wp2_with fail
                            go_roundw
                            case rel => exact ⟨cc + 1, by omega, by omega, by go_num, ⟨by rw [HU2.out]; exact X1.out, X2.out, X3.out⟩, HYY.out⟩
                            case measure => simp [intOf]; omega
                        · have hcc : cc = 3 := by omega
                          have HO2 : Hid (wr.ownsRow w.heap.size 48 5 u17 (base ++ prodsU a uu pr [y0, y1, y2] 3).length (flat 5 Prod.cell (base ++ prodsU a uu pr [y0, y1, y2] 3))) := by rw [← hcc]; exact x1
                          have j1 : ¬ (cc : Int) ≤ 2 := by omega
                          clear HX HY x1 x2 x3 hcc
                          go_wp2_with fail
                          go_roundw
                          case rel => exact ⟨k3 + 1, by omega, by go_num, by rw [HSN.out]; exact HO2.out, HYY.out⟩
                          case measure => simp [intOf]; omega
                    · have hkn : k3 = n := by omega
                      clear HO HW
                      go_wp2_with fail
                      go_ret2
                      rw [HK.out]
                      refine ⟨_, rfl, ?_, HWW.out⟩
                      have := HOO.out
                      rw [hkn, List.take_of_length_le (by rw [Hal.out]; omega)] at this
                      exact this
end Go.Proofs.YtpgomblalmnonaaDoor
