/- Contracts of Union, Intersect, Minus, SubsetOf, Empty. -/
import Derived.Deep.CutBlock
import Derived.Test.YtpdhelhngdeoeaaDoorLim04
import Derived.Test.YtpdhelhngdeoeaaDoorLim06
import Derived.Test.YtpdhelhngdeoeaaDoorLim11
/- Plain laws on problems: what band.Problem answers is valid, and is what the reference answers. -/
namespace Go.Proofs.YtpdhelhngdeoeaaDoor
open Go.RowKit

/-! ### the set of some stations -/
theorem stS_bit : ∀ (l : List Int) (a k : Nat), (l.foldl (fun a i => a ||| 2 ^ i.toNat) a).testBit k = (a.testBit k || l.any (fun i => i.toNat == k)) := by
  intro l
  induction l with
  | nil => intro a k; simp
  | cons x r ih =>
    intro a k
    rw [List.foldl_cons, ih, Nat.testBit_or, Nat.testBit_two_pow, List.any_cons, Bool.or_assoc]
    congr 2
theorem hasS_mem {l : List Int} (hl : ∀ y ∈ l, 0 ≤ y ∧ y < 512) (x : Int) : hasS (stS l) x = decide (x ∈ l) := by
  unfold hasS
  by_cases hx : 0 ≤ x ∧ x < 512
  · unfold stS
    rw [stS_bit, Nat.zero_testBit, Bool.false_or]
    by_cases hm : x ∈ l
    · have h1 : l.any (fun i => i.toNat == x.toNat) = true := List.any_eq_true.2 ⟨x, hm, by simp⟩
      simp [hx.1, hx.2, hm, h1]
    · have h1 : l.any (fun i => i.toNat == x.toNat) = false := by
        rw [List.any_eq_false]
        intro y hy h2
        have h3 : y.toNat = x.toNat := by simpa using h2
        obtain ⟨g1, g2⟩ := hl y hy
        exact hm (by rw [show x = y by omega]; exact hy)
      simp [hx.1, hx.2, hm, h1]
  · have hm : x ∉ l := fun h => hx (hl x h)
    have : ¬ (0 ≤ x ∧ x < 512) := hx
    simp only [hm, decide_false]
    by_cases h0 : 0 ≤ x
    · have h1 : ¬ x < 512 := fun h => hx ⟨h0, h⟩
      simp [h1]
    · simp [h0]

/-! ### constraints: filtered -/
theorem lessL_trans : ∀ (a b c : List Int), lessL a b = true → lessL b c = true → lessL a c = true := by
  intro a
  induction a with
  | nil => intro b c h; simp [lessL] at h
  | cons x r ih =>
    intro b c h1 h2
    cases b with
    | nil => simp [lessL] at h1
    | cons y s =>
      cases c with
      | nil => simp [lessL] at h2
      | cons z t =>
        rw [lessL] at h1 h2 ⊢
        by_cases e1 : x = y
        · subst e1
          rw [if_neg (by simp)] at h1
          by_cases e2 : x = z
          · subst e2
            rw [if_neg (by simp)] at h2 ⊢
            exact ih s t h1 h2
          · rw [if_pos e2] at h2 ⊢
            exact h2
        · rw [if_pos e1] at h1
          have h1' : x < y := by simpa using h1
          by_cases e2 : y = z
          · subst e2
            rw [if_pos e1]; exact h1
          · rw [if_pos e2] at h2
            have h2' : y < z := by simpa using h2
            rw [if_pos (by omega)]
            exact decide_eq_true (by omega)
theorem incF_pair {α : Type} (cmp : α → α → Int) (nums : α → List Int) (hc : ∀ x y, decide (0 ≤ cmp x y) = !lessL (nums x) (nums y)) : ∀ l : List α, incF cmp l = true ↔ l.Pairwise (fun x y => lessL (nums x) (nums y) = true) := by
  intro l
  induction l with
  | nil => simp [incF]
  | cons x r ih =>
    cases r with
    | nil => simp [incF]
    | cons y t =>
      rw [incF_cons]
      have h := hc x y
      constructor
      · intro h1
        by_cases h0 : 0 ≤ cmp x y
        · rw [if_pos h0] at h1; cases h1
        · rw [if_neg h0] at h1
          rw [decide_eq_false h0] at h
          have hxy : lessL (nums x) (nums y) = true := by simpa using h.symm
          have hp := ih.1 h1
          refine List.pairwise_cons.2 ⟨fun z hz => ?_, hp⟩
          rcases List.mem_cons.1 hz with rfl | hz
          · exact hxy
          · exact lessL_trans _ _ _ hxy ((List.pairwise_cons.1 hp).1 z hz)
      · intro hp
        obtain ⟨h1, h2⟩ := List.pairwise_cons.1 hp
        have hxy := h1 y (by simp)
        rw [hxy] at h
        have h0 : ¬ 0 ≤ cmp x y := by simpa using h
        rw [if_neg h0]
        exact ih.2 h2
theorem incF_filter {α : Type} (cmp : α → α → Int) (nums : α → List Int) (hc : ∀ x y, decide (0 ≤ cmp x y) = !lessL (nums x) (nums y)) (f : α → Bool) {l : List α} (h : incF cmp l = true) : incF cmp (l.filter f) = true :=
  (incF_pair cmp nums hc _).2 (((incF_pair cmp nums hc l).1 h).sublist List.filter_sublist)
theorem rules_filter {r : Rul} (h : rulesF r = true) (f g : R5 → Bool) (k : R4 → Bool) : rulesF ⟨r.pairs.filter f, r.loads.filter g, r.caps.filter k⟩ = true := by
  simp only [rulesF, Bool.and_eq_true, decide_eq_true_eq] at h ⊢
  obtain ⟨⟨⟨⟨⟨⟨⟨⟨h1, h2⟩, h3⟩, h4⟩, h5⟩, h6⟩, h7⟩, h8⟩, h9⟩ := h
  have e1 := List.length_filter_le f r.pairs
  have e2 := List.length_filter_le g r.loads
  have e3 := List.length_filter_le k r.caps
  have all : ∀ {α : Type} {p q : α → Bool} {l : List α}, l.all p = true → (l.filter q).all p = true := fun {α p q l} h => List.all_eq_true.2 fun x hx => List.all_eq_true.1 h x (List.mem_filter.1 hx).1
  exact ⟨⟨⟨⟨⟨⟨⟨⟨by omega, all h2⟩, incF_filter cmp5 R5.nums cmp5_less f h3⟩, by omega⟩, all h5⟩, incF_filter cmp5 R5.nums cmp5_less g h6⟩, by omega⟩, all h8⟩, incF_filter cmp4 R4.nums cmp4_less k h9⟩

/-! ### bands -/
def bandLists : List (List Int) := [[], [1], [2], [3], [1, 2], [1, 3], [2, 3], [1, 2, 3]]
theorem vbIn_none {b : List Int} (h : vbIn none b = true) : b ∈ bandLists := by
  have key : ∀ (l : List Int) (p : Option Int), vbIn p l = true → (∀ x ∈ l, 1 ≤ x ∧ x ≤ 3 ∧ (∀ q, p = some q → q < x)) ∧ l.Pairwise (· < ·) := by
    intro l
    induction l with
    | nil => intro p _; simp
    | cons x r ih =>
      intro p h
      rw [vbIn] at h
      split at h
      · cases h
      · rename_i hb
        obtain ⟨h1, h2⟩ := ih (some x) h
        have hx1 : ¬ x < 1 := fun h => hb (.inl h)
        have hx3 : ¬ 3 < x := fun h => hb (.inr (.inl h))
        have hxp : ∀ q, p = some q → q < x := by
          rintro q rfl
          have : ¬ notUp (some q) x = true := fun h => hb (.inr (.inr h))
          simp [notUp] at this
          exact this
        have hr : ∀ y ∈ r, x < y := fun y hy => (h1 y hy).2.2 x rfl
        refine ⟨fun y hy => ?_, List.pairwise_cons.2 ⟨hr, h2⟩⟩
        rcases List.mem_cons.1 hy with rfl | hy
        · exact ⟨by omega, by omega, hxp⟩
        · exact ⟨(h1 y hy).1, (h1 y hy).2.1, fun q hq => Int.lt_trans (hxp q hq) (hr y hy)⟩
  obtain ⟨h1, h2⟩ := key b none h
  have hv : ∀ x ∈ b, x = 1 ∨ x = 2 ∨ x = 3 := fun x hx => by have := h1 x hx; omega
  unfold bandLists
  match b, hv, h2 with
  | [], _, _ => simp
  | [x], hv, _ => rcases hv x (by simp) with rfl | rfl | rfl <;> decide
  | [x, y], hv, h2 =>
    have := (List.pairwise_cons.1 h2).1 y (by simp)
    rcases hv x (by simp) with rfl | rfl | rfl <;> rcases hv y (by simp) with rfl | rfl | rfl <;> first | omega | decide
  | [x, y, z], hv, h2 =>
    have e1 := (List.pairwise_cons.1 h2).1 y (by simp)
    have e2 := (List.pairwise_cons.1 (List.pairwise_cons.1 h2).2).1 z (by simp)
    rcases hv x (by simp) with rfl | rfl | rfl <;> rcases hv y (by simp) with rfl | rfl | rfl <;> rcases hv z (by simp) with rfl | rfl | rfl <;> first | omega | decide
  | x :: y :: z :: u :: r, hv, h2 =>
    have e1 := (List.pairwise_cons.1 h2).1 y (by simp)
    have e2 := (List.pairwise_cons.1 (List.pairwise_cons.1 h2).2).1 z (by simp)
    have e3 := (List.pairwise_cons.1 (List.pairwise_cons.1 (List.pairwise_cons.1 h2).2).2).1 u (by simp)
    have f1 := hv x (by simp)
    have f4 := hv u (by simp)
    omega
theorem bands_chs0 : ∀ e : Fin 11, ∀ b ∈ bandLists, chIn none (b.flatMap fun x => (chF x (keyE e.1)).1) = true ∧ (b.flatMap fun x => (chF x (keyE e.1)).1).length ≤ 50 ∧ (b.flatMap fun x => (chF x (keyE e.1)).1) = (b.flatMap fun x => chR x (keyE e.1) 50) := by decide +kernel
theorem bands_chs {t : Int} (ht : vldT t = true) {b : List Int} (h : vbIn none b = true) : chIn none (b.flatMap fun x => (chF x t).1) = true ∧ (b.flatMap fun x => (chF x t).1).length ≤ 50 ∧ (b.flatMap fun x => (chF x t).1) = (b.flatMap fun x => chR x t 50) := by
  obtain ⟨e, he, rfl⟩ := vldT_key ht
  exact bands_chs0 ⟨e, he⟩ b (vbIn_none h)
theorem vbGo_bands : ∀ (l : List Dom) (p : Option Int), vbGo p l = true → ∀ d ∈ l, vbIn none d.chs = true := by
  intro l
  induction l with
  | nil => intro p _ d h; cases h
  | cons x r ih =>
    intro p h d hd
    rw [vbGo] at h
    split at h
    · cases h
    · split at h
      · rename_i hv
        rcases List.mem_cons.1 hd with rfl | hd
        · exact hv
        · exact ih _ h d hd
      · cases h
/-- both Problems have the same domains -/
theorem dom_agree {t : Int} (ht : vldT t = true) {ds : List Dom} (h : vbGo none ds = true) : ds.map (domOf t) = ds.map (domR t) := by
  refine List.map_congr_left fun d hd => ?_
  unfold domOf domR
  rw [(bands_chs ht (vbGo_bands ds none h d hd)).2.2]

/-! ### the domains of a problem -/
/-- the domains, by what they say -/
def domGoS : Option Int → List (Int × List Int) → Bool
  | _, [] => true
  | prev, d :: r => if stF d.1 = false ∨ notUp prev d.1 = true ∨ 50 < d.2.length then false else if chIn none d.2 then domGoS (some d.1) r else false
theorem domGo_say : ∀ (l : List Dom) (p : Option Int), (∀ d ∈ l, d.len = d.chs.length) → domGo p l = domGoS p (l.map Dom.say) := by
  intro l
  induction l with
  | nil => intro p _; rfl
  | cons x r ih =>
    intro p h
    rw [List.map_cons, domGo, domGoS, ih _ (fun d hd => h d (by simp [hd])), h x (by simp)]
    rfl
theorem domGoS_of {t : Int} (ht : vldT t = true) : ∀ (l : List Dom) (p : Option Int), vbGo p l = true → domGoS p (l.map (domOf t)) = true := by
  intro l
  induction l with
  | nil => intro p _; rfl
  | cons x r ih =>
    intro p h
    have hall := vbGo_bands (x :: r) p h x (by simp)
    rw [vbGo] at h
    split at h
    · cases h
    · rename_i hb
      have h : vbGo (some x.st) r = true := by first | exact h | (rw [hall] at h; simpa using h)
      obtain ⟨c1, c2, _⟩ := bands_chs ht hall
      rw [List.map_cons, domGoS]
      have h0 : ¬ x.st < 0 := fun h => hb (.inl h)
      have h1 : ¬ 512 ≤ x.st := fun h => hb (.inr (.inl h))
      have h2 : ¬ notUp p x.st = true := fun h => hb (.inr (.inr (.inl h)))
      rw [if_neg (by
        rintro (h | h | h)
        · unfold stF domOf at h
          simp at h
          omega
        · exact h2 h
        · unfold domOf at h
          dsimp only at h
          omega)]
      show (if chIn none (x.chs.flatMap fun b => (chF b t).1) = true then _ else _) = true
      rw [if_pos c1]
      exact ih _ h
theorem mem_st_say {ds es : List Dom} (h : ds.map Dom.st = es.map Dom.st) (x : Int) : inD ds x = inD es x := by rw [inD_mem, inD_mem, h]
/-- what band.Problem answers is valid -/
theorem prob_valid {ds : List Dom} {r : Rul} {t : Int} (h1 : vbGo none ds = true) (h2 : rulesF r = true) (h3 : vldT t = true) (hn : ds.length ≤ 512) {es : List Dom} (he : es.map Dom.say = ds.map (domOf t)) (hl : ∀ d ∈ es, d.len = d.chs.length) :
    validR es (keepR (ds.map Dom.st) r) = true := by
  have hst : es.map Dom.st = ds.map Dom.st := by
    have := congrArg (List.map Prod.fst) he
    rw [List.map_map, List.map_map] at this
    exact this
  have hlen : es.length = ds.length := by have := congrArg List.length he; simpa using this
  have hk : ∀ x : Int, hasL (ds.map Dom.st) x = inD es x := fun x => by rw [hasL_mem, inD_mem, hst]
  have hd : domGo none es = true := by rw [domGo_say es none hl, he]; exact domGoS_of h3 ds none h1
  have hr : rulesR (keepR (ds.map Dom.st) r) = true := by rw [rules_eq]; exact rules_filter h2 _ _ _
  unfold validR
  rw [hd, hr, decide_eq_true (by omega)]
  simp only [Bool.true_and, Bool.and_eq_true]
  refine ⟨List.all_eq_true.2 fun x hx => ?_, List.all_eq_true.2 fun x hx => ?_, List.all_eq_true.2 fun x hx => ?_⟩
  · have := (List.mem_filter.1 hx).2
    simpa [hk] using this
  · have := (List.mem_filter.1 hx).2
    simpa [hk] using this
  · have := (List.mem_filter.1 hx).2
    simpa [hk] using this
/-- both ways of keeping constraints -/
theorem keep_agree {ds : List Dom} (h : vbGo none ds = true) (r : Rul) :
    (⟨r.pairs.filter (fun c => hasS (stS (ds.map Dom.st)) c.a && hasS (stS (ds.map Dom.st)) c.b), r.loads.filter (fun c => hasS (stS (ds.map Dom.st)) c.a && hasS (stS (ds.map Dom.st)) c.b), r.caps.filter (fun c => hasS (stS (ds.map Dom.st)) c.a)⟩ : Rul) = keepR (ds.map Dom.st) r := by
  have hk : ∀ x : Int, hasS (stS (ds.map Dom.st)) x = hasL (ds.map Dom.st) x := fun x => by
    rw [hasS_mem (fun y hy => by obtain ⟨d, hd, rfl⟩ := List.mem_map.1 hy; exact vbGo_st ds none h d hd), hasL_mem]
  unfold keepR
  simp only [hk]
end Go.Proofs.YtpdhelhngdeoeaaDoor

/- Plain law: the program's way of Valid equals the reference's. -/
namespace Go.Proofs.YtpdhelhngdeoeaaDoor
open Go.RowKit

def chGood (c : Int) : Bool := decide (2 ≤ c) && decide (c ≤ 51)
def goodD (d : Dom) : Bool := stF d.st && d.chs.all chGood && incF cmpF d.chs
/-- the program's Valid, up to the constraints' stations -/
def validD (ds : List Dom) (r : Rul) : Bool := ds.all goodD && rulesF r && incF (fun x y => cmpF x.st y.st) ds
/-- the program's Valid -/
def validP (ds : List Dom) (r : Rul) : Bool := validD ds r && (r.pairs.all (fun x => hasS (stS (ds.map Dom.st)) x.a && hasS (stS (ds.map Dom.st)) x.b) && (r.loads.all (fun x => hasS (stS (ds.map Dom.st)) x.a && hasS (stS (ds.map Dom.st)) x.b) && r.caps.all (fun x => hasS (stS (ds.map Dom.st)) x.a)))

theorem cmpF_less (x y : Int) : decide (0 ≤ cmpF x y) = !lessL [x] [y] := by
  unfold cmpF
  by_cases h1 : x < y
  · rw [if_pos h1]
    have : x ≠ y := by omega
    simp [lessL, this, h1]
  · rw [if_neg h1]
    by_cases h2 : y < x
    · rw [if_pos h2]
      have : x ≠ y := by omega
      simp [lessL, this, h1]
    · rw [if_neg h2]
      have : x = y := by omega
      simp [lessL, this]
theorem less_one (x y : Int) : lessL [x] [y] = true ↔ x < y := by
  by_cases h : x = y
  · simp [lessL, h]
  · simp [lessL, h]
theorem inc_cmpF (l : List Int) : incF cmpF l = true ↔ l.Pairwise (· < ·) := by
  rw [incF_pair cmpF (fun x => [x]) cmpF_less]
  simp only [less_one]
theorem inc_st (l : List Dom) : incF (fun x y : Dom => cmpF x.st y.st) l = true ↔ l.Pairwise (fun x y => x.st < y.st) := by
  rw [incF_pair (fun x y : Dom => cmpF x.st y.st) (fun x => [x.st]) (fun x y => cmpF_less x.st y.st)]
  simp only [less_one]
theorem inc_len : ∀ (l : List Int) (a b : Int), a ≤ b + 1 → l.Pairwise (· < ·) → (∀ x ∈ l, a ≤ x ∧ x ≤ b) → (l.length : Int) ≤ b - a + 1 := by
  intro l
  induction l with
  | nil => intro a b h _ _; simp; omega
  | cons x r ih =>
    intro a b h hp hb
    obtain ⟨h1, h2⟩ := List.pairwise_cons.1 hp
    have hx := hb x (by simp)
    have := ih (x + 1) b (by omega) h2 (fun y hy => ⟨by have := h1 y hy; omega, (hb y (by simp [hy])).2⟩)
    simp only [List.length_cons]
    omega
theorem chIn_iff : ∀ (l : List Int) (p : Option Int), chIn p l = true ↔ (∀ x ∈ l, 2 ≤ x ∧ x ≤ 51 ∧ (∀ q, p = some q → q < x)) ∧ l.Pairwise (· < ·) := by
  intro l
  induction l with
  | nil => intro p; simp [chIn]
  | cons x r ih =>
    intro p
    rw [chIn]
    by_cases hb : x < 2 ∨ 51 < x ∨ notUp p x = true
    · rw [if_pos hb]
      refine ⟨fun h => (by cases h), fun h => ?_⟩
      obtain ⟨h1, h2, h3⟩ := h.1 x (by simp)
      rcases hb with hb | hb | hb
      · omega
      · omega
      · cases p with
        | none => cases hb
        | some q => have := h3 q rfl; simp [notUp] at hb; omega
    · rw [if_neg hb, ih]
      have hx2 : ¬ x < 2 := fun h => hb (.inl h)
      have hx5 : ¬ 51 < x := fun h => hb (.inr (.inl h))
      have hxp : ∀ q, p = some q → q < x := by
        rintro q rfl
        have : ¬ notUp (some q) x = true := fun h => hb (.inr (.inr h))
        simp [notUp] at this
        exact this
      constructor
      · rintro ⟨h1, h2⟩
        refine ⟨fun y hy => ?_, List.pairwise_cons.2 ⟨fun y hy => (h1 y hy).2.2 x rfl, h2⟩⟩
        rcases List.mem_cons.1 hy with rfl | hy
        · exact ⟨by omega, by omega, hxp⟩
        · obtain ⟨g1, g2, g3⟩ := h1 y hy
          exact ⟨g1, g2, fun q hq => Int.lt_trans (hxp q hq) (g3 x rfl)⟩
      · rintro ⟨h1, h2⟩
        obtain ⟨h3, h4⟩ := List.pairwise_cons.1 h2
        refine ⟨fun y hy => ?_, h4⟩
        obtain ⟨g1, g2, _⟩ := h1 y (by simp [hy])
        exact ⟨g1, g2, fun q hq => (by cases hq; exact h3 y hy)⟩
theorem chIn_good (l : List Int) : chIn none l = (l.all chGood && incF cmpF l) := by
  rw [Bool.eq_iff_iff, chIn_iff, Bool.and_eq_true, inc_cmpF, List.all_eq_true]
  constructor
  · rintro ⟨h1, h2⟩
    refine ⟨fun x hx => ?_, h2⟩
    obtain ⟨g1, g2, _⟩ := h1 x hx
    simp [chGood, g1, g2]
  · rintro ⟨h1, h2⟩
    refine ⟨fun x hx => ?_, h2⟩
    have := h1 x hx
    simp only [chGood, Bool.and_eq_true, decide_eq_true_eq] at this
    exact ⟨this.1, this.2, fun q hq => (by cases hq)⟩
theorem chIn_len {l : List Int} (h : chIn none l = true) : l.length ≤ 50 := by
  obtain ⟨h1, h2⟩ := (chIn_iff l none).1 h
  have := inc_len l 2 51 (by omega) h2 (fun x hx => ⟨(h1 x hx).1, (h1 x hx).2.1⟩)
  omega
theorem domGo_iff : ∀ (l : List Dom) (p : Option Int), domGo p l = true ↔ (∀ d ∈ l, stF d.st = true ∧ (∀ q, p = some q → q < d.st) ∧ d.len ≤ 50 ∧ chIn none d.chs = true) ∧ l.Pairwise (fun x y => x.st < y.st) := by
  intro l
  induction l with
  | nil => intro p; simp [domGo]
  | cons d r ih =>
    intro p
    rw [domGo]
    by_cases hb : stF d.st = false ∨ notUp p d.st = true ∨ 50 < d.len
    · rw [if_pos hb]
      refine ⟨fun h => (by cases h), fun h => ?_⟩
      obtain ⟨h1, h2, h3, _⟩ := h.1 d (by simp)
      rcases hb with hb | hb | hb
      · rw [h1] at hb; cases hb
      · cases p with
        | none => cases hb
        | some q => have := h2 q rfl; simp [notUp] at hb; omega
      · omega
    · rw [if_neg hb]
      have hs : stF d.st = true := by
        cases h : stF d.st with
        | true => rfl
        | false => exact absurd (.inl h) hb
      have hl : d.len ≤ 50 := by have : ¬ 50 < d.len := fun h => hb (.inr (.inr h)); omega
      have hxp : ∀ q, p = some q → q < d.st := by
        rintro q rfl
        have : ¬ notUp (some q) d.st = true := fun h => hb (.inr (.inl h))
        simp [notUp] at this
        exact this
      cases hc : chIn none d.chs with
      | false =>
        simp only [Bool.false_eq_true, if_false]
        refine ⟨fun h => (by cases h), fun h => ?_⟩
        have := (h.1 d (by simp)).2.2.2
        rw [hc] at this
        cases this
      | true =>
        simp only [if_true]
        rw [ih]
        constructor
        · rintro ⟨h1, h2⟩
          refine ⟨fun y hy => ?_, List.pairwise_cons.2 ⟨fun y hy => (h1 y hy).2.1 d.st rfl, h2⟩⟩
          rcases List.mem_cons.1 hy with rfl | hy
          · exact ⟨hs, hxp, hl, hc⟩
          · obtain ⟨g1, g2, g3, g4⟩ := h1 y hy
            exact ⟨g1, fun q hq => Int.lt_trans (hxp q hq) (g2 d.st rfl), g3, g4⟩
        · rintro ⟨h1, h2⟩
          obtain ⟨h3, h4⟩ := List.pairwise_cons.1 h2
          refine ⟨fun y hy => ?_, h4⟩
          obtain ⟨g1, _, g3, g4⟩ := h1 y (by simp [hy])
          exact ⟨g1, fun q hq => (by cases hq; exact h3 y hy), g3, g4⟩
theorem domGo_good {l : List Dom} (hl : ∀ d ∈ l, d.len = d.chs.length) : domGo none l = (l.all goodD && incF (fun x y => cmpF x.st y.st) l) := by
  rw [Bool.eq_iff_iff, domGo_iff, Bool.and_eq_true, inc_st, List.all_eq_true]
  constructor
  · rintro ⟨h1, h2⟩
    refine ⟨fun d hd => ?_, h2⟩
    obtain ⟨g1, _, _, g4⟩ := h1 d hd
    rw [chIn_good, Bool.and_eq_true] at g4
    simp [goodD, g1, g4.1, g4.2]
  · rintro ⟨h1, h2⟩
    refine ⟨fun d hd => ?_, h2⟩
    have := h1 d hd
    simp only [goodD, Bool.and_eq_true] at this
    have hc : chIn none d.chs = true := by rw [chIn_good, this.1.2, this.2]; rfl
    exact ⟨this.1.1, fun q hq => (by cases hq), by rw [hl d hd]; exact chIn_len hc, hc⟩
theorem st_range {n : Int} (h : stF n = true) : 0 ≤ n ∧ n < 512 := by
  simp only [stF, Bool.and_eq_true, decide_eq_true_eq] at h
  omega
theorem domGo_len {l : List Dom} (h : domGo none l = true) : l.length ≤ 512 := by
  obtain ⟨h1, h2⟩ := (domGo_iff l none).1 h
  have h3 := inc_len (l.map Dom.st) 0 511 (by omega) (List.pairwise_map.2 h2) (fun x hx => by
    obtain ⟨d, hd, rfl⟩ := List.mem_map.1 hx
    have := st_range (h1 d hd).1
    omega)
  simp at h3
  omega
theorem domGo_st {l : List Dom} (h : domGo none l = true) : ∀ y ∈ l.map Dom.st, 0 ≤ y ∧ y < 512 := fun y hy => by
  obtain ⟨d, hd, rfl⟩ := List.mem_map.1 hy
  exact st_range (((domGo_iff l none).1 h).1 d hd).1
theorem valid_eq {ds : List Dom} {r : Rul} (hl : ∀ d ∈ ds, d.len = d.chs.length) : validP ds r = validR ds r := by
  unfold validP validD validR
  rw [domGo_good hl, rules_eq]
  by_cases hd : domGo none ds = true
  · have h1 := domGo_len hd
    have h2 : ∀ x : Int, hasS (stS (ds.map Dom.st)) x = inD ds x := fun x => by rw [hasS_mem (domGo_st hd), inD_mem]
    rw [domGo_good hl, Bool.and_eq_true] at hd
    rw [hd.1, hd.2, decide_eq_true h1]
    simp only [h2, Bool.true_and, Bool.and_true]
  · rw [domGo_good hl] at hd
    have hd' : (ds.all goodD && incF (fun x y => cmpF x.st y.st) ds) = false := by simpa using hd
    rw [hd', Bool.false_and, Bool.and_false]
    cases h1 : ds.all goodD with
    | false => simp
    | true =>
      rw [h1, Bool.true_and] at hd'
      rw [hd']
      simp
end Go.Proofs.YtpdhelhngdeoeaaDoor

/- What problem.Valid calls: goodDomain, every and increasing, and its closures. -/
namespace Go.Proofs.YtpdhelhngdeoeaaDoor
open Go.RowKit

theorem goodCh_any (c : Int) (w : World) : Calls Tryd.prog 86 #[.int .i64 c] w fun e w' => e = .returned (.bool (chGood c)) ∧ w = w' := by
  have HB := Lib.hid (betw_any c 2 51 w)
  have hs : betwF c 2 51 = chGood c := rfl
  rw [hs] at HB
  generalize chGood c = r at *
  clear hs
  go_enter Tryd.func86, Tryd.ntmps86
  go_wp2_with fail
  refine HB.out.mono ?_
  rintro e w' ⟨rfl, rfl⟩
  go_wp2_with fail
  go_ret
  exact ⟨rfl, rfl⟩

set_option maxHeartbeats 1000000 in
theorem everyCh_any (A : Option Addr) (n c : Nat) (w : World) (l : List Int) (hn : n ≤ 9223372036854775807) (hl : Row1 intV w w.heap.size A n l) :
    Calls Tryd.prog 89 #[.slice A n c, .func (.func 86) #[] #[]] w fun e w' => e = .returned (.bool (l.all chGood)) ∧ w = w' := by
  have Hl := Lib.hid hl
  have Hlen := Eqn.mk hl.1
  have HG := Lib.hid (fun x W => goodCh_any x W)
  clear hl
  go_enter Tryd.func89, Tryd.ntmps89
  go_wp2_with fail
  go_loopw [9] (fun i wr => ∃ k : Nat, k ≤ n ∧ i = .int .i64 k ∧ Eqn (l.all chGood) ((l.drop k).all chGood) ∧ w = wr) (fun i _ => n - (intOf i).toNat)
  case atStart => exact ⟨0, Nat.zero_le _, rfl, rfl, rfl⟩
  case round =>
    obtain ⟨k, hk, rfl, HR, rfl⟩ := hrel
    by_cases hlt : k < n
    · obtain ⟨p, hp, hpd⟩ := drop_at (xs := l) (k := k) (by rw [Hlen.out]; exact hlt)
      obtain ⟨b, off, hA, hbl, hc⟩ := Hl.out.2 (by omega)
      subst hA
      have c0 := hc k p hp
      simp only [intV] at c0
      have HR2 := HR.out
      rw [hpd, List.all_cons] at HR2
      have HGp := Lib.hid (HG.out p)
      have j0 : (k : Int) < (n : Int) := by omega
      generalize chGood p = r at *
      clear hc hp hpd HR
      go_wp2_with fail
      refine (HGp.out _).mono ?_
      rintro e w1 ⟨rfl, rfl⟩
      cases r with
      | true =>
        have HV : Eqn (l.all chGood) ((l.drop (k + 1)).all chGood) := by rw [Eqn, HR2]; rfl
        clear HR2
        go_wp2_with fail
        go_roundw
        case rel => exact ⟨k + 1, by omega, by go_num, HV, trivial⟩
        case measure => simp [intOf]; omega
      | false =>
        have HV : Eqn (l.all chGood) false := by rw [Eqn, HR2]; rfl
        clear HR2
        go_wp2_with fail
        go_ret
        exact ⟨ret_bool HV.out.symm, rfl⟩
    · have HV : Eqn (l.all chGood) true := by rw [Eqn, HR.out, drop_end (by rw [Hlen.out]; omega)]; rfl
      clear HR
      go_wp2_with fail
      go_ret
      exact ⟨ret_bool HV.out.symm, rfl⟩

set_option maxHeartbeats 1000000 in
theorem everySt_any (A : Option Addr) (n c : Nat) (w : World) (l : List Int) (hn : n ≤ 9223372036854775807) (hl : Row1 intV w w.heap.size A n l) :
    Calls Tryd.prog 89 #[.slice A n c, .func (.func 88) #[] #[]] w fun e w' => e = .returned (.bool (l.all stF)) ∧ w = w' := by
  have Hl := Lib.hid hl
  have Hlen := Eqn.mk hl.1
  have HG := Lib.hid (fun x W => isSt_any x W)
  clear hl
  go_enter Tryd.func89, Tryd.ntmps89
  go_wp2_with fail
  go_loopw [9] (fun i wr => ∃ k : Nat, k ≤ n ∧ i = .int .i64 k ∧ Eqn (l.all stF) ((l.drop k).all stF) ∧ w = wr) (fun i _ => n - (intOf i).toNat)
  case atStart => exact ⟨0, Nat.zero_le _, rfl, rfl, rfl⟩
  case round =>
    obtain ⟨k, hk, rfl, HR, rfl⟩ := hrel
    by_cases hlt : k < n
    · obtain ⟨p, hp, hpd⟩ := drop_at (xs := l) (k := k) (by rw [Hlen.out]; exact hlt)
      obtain ⟨b, off, hA, hbl, hc⟩ := Hl.out.2 (by omega)
      subst hA
      have c0 := hc k p hp
      simp only [intV] at c0
      have HR2 := HR.out
      rw [hpd, List.all_cons] at HR2
      have HGp := Lib.hid (HG.out p)
      have j0 : (k : Int) < (n : Int) := by omega
      generalize stF p = r at *
      clear hc hp hpd HR
      go_wp2_with fail
      refine (HGp.out _).mono ?_
      rintro e w1 ⟨rfl, rfl⟩
      cases r with
      | true =>
        have HV : Eqn (l.all stF) ((l.drop (k + 1)).all stF) := by rw [Eqn, HR2]; rfl
        clear HR2
        go_wp2_with fail
        go_roundw
        case rel => exact ⟨k + 1, by omega, by go_num, HV, trivial⟩
        case measure => simp [intOf]; omega
      | false =>
        have HV : Eqn (l.all stF) false := by rw [Eqn, HR2]; rfl
        clear HR2
        go_wp2_with fail
        go_ret
        exact ⟨ret_bool HV.out.symm, rfl⟩
    · have HV : Eqn (l.all stF) true := by rw [Eqn, HR.out, drop_end (by rw [Hlen.out]; omega)]; rfl
      clear HR
      go_wp2_with fail
      go_ret
      exact ⟨ret_bool HV.out.symm, rfl⟩

set_option maxHeartbeats 1000000 in
theorem incI_any (A : Option Addr) (n c : Nat) (w : World) (l : List Int) (hn : n ≤ 9223372036854775807) (hl : Row1 intV w w.heap.size A n l) :
    Calls Tryd.prog 90 #[.slice A n c, .func (.func 55) #[] #[]] w (RetPost (.bool (incF cmpF l)) w.heap.size w) := by
  have Hl := Lib.hid hl
  have Hlen := Eqn.mk hl.1
  clear hl
  go_enter Tryd.func90, Tryd.ntmps90
  go_wp2_with fail
  go_loopw [5] (fun i wr => ∃ k : Nat, (k + 1 ≤ n ∨ k = 0) ∧ i = .int .i64 ((k + 1 : Nat) : Int) ∧ Eqn (incF cmpF l) (incF cmpF (l.drop k)) ∧ Below w.heap.size w wr) (fun i _ => n + 1 - (intOf i).toNat)
  case atStart => exact ⟨0, .inr rfl, rfl, rfl, Below.refl _ _⟩
  case round =>
    obtain ⟨k, hk, rfl, HR, hB⟩ := hrel
    have HB := Lib.hid hB
    have hbs := hB.size
    by_cases hlt : k + 1 < n
    · obtain ⟨p, hp, hpd⟩ := drop_at (xs := l) (k := k) (by rw [Hlen.out]; omega)
      obtain ⟨q, hq, hqd⟩ := drop_at (xs := l) (k := k + 1) (by rw [Hlen.out]; exact hlt)
      obtain ⟨b, off, hA, hbl, hc⟩ := (Hl.out.below hB).2 (by omega)
      subst hA
      have c0 := hc k _ hp
      have d0 := hc (k + 1) _ hq
      simp only [intV] at c0 d0
      have HG := Lib.hid (fun W => compare_any p q W)
      have HR2 := HR.out
      rw [hpd, hqd, incF_cons, ← hqd] at HR2
      have hbw : b < wr.heap.size := by omega
      obtain ⟨ki, hki⟩ : ∃ ki : Int, ((k + 1 : Nat) : Int) = ki := ⟨_, rfl⟩
      rw [hki]
      have j0 : ki < (n : Int) := by omega
      have j1 : 1 ≤ ki := by omega
      have e1 : IntKind.i64.wrap (ki - 1) = (k : Int) := by rw [IntWalk.i64_in _ (by omega)]; omega
      have e2 : ki.toNat = k + 1 := by omega
      have e3 : (ki - 1).toNat = k := by omega
      have e4 : 0 ≤ ki - 1 := by omega
      have e5 : ki - 1 < (n : Int) := by omega
      have e6 : (k : Int) < (n : Int) := by omega
      have e7 : (0 : Int) ≤ (k : Int) := by omega
      have e8 : 0 ≤ ki := by omega
      have HKI := Lib.hid hki
      generalize cmpF p q = r at *
      clear hc hp hpd hq hqd HR hB hki
      by_cases hr : 0 ≤ r
      · have HV := Eqn.mk (HR2.trans (if_pos hr))
        clear HR2
        go_wp2_with fail
        refine Lx.region (C := fun _ => True) (hs := []) (by kernel_rfl) (by kernel_rfl) trivial ?_
        repeat' (first
          | (refine Lx.lex_no (Lx.n1 rfl rfl rfl (by with_reducible rfl)) (fun K hK => ?_); go_simp; skip; refine hK _ ?_; clear hK K)
          | (refine Lx.lex_no (Lx.n0 rfl rfl rfl (by with_reducible rfl)) (fun K hK => ?_); go_simp; skip; refine hK _ ?_; clear hK K)
          | (refine Lx.lex_no (Lx.n2 rfl rfl rfl) (fun K hK => ?_); go_simp; skip; refine hK _ ?_; clear hK K)
          | (refine Lx.lex_pure (v := ?_) rfl (by first | exact Lx.w0 rfl | exact Lx.w1 rfl rfl rfl (by with_reducible rfl)) ?_ (fun K hK => ?_); rotate_left 1; (intro w' hCw; (try dsimp only at hCw); go_simp; first | done | with_reducible rfl); go_simp; skip; refine hK _ ?_; clear hK K)
          | (refine Lx.lex_read (v := ?_) rfl (by first | exact Lx.w0 rfl | exact Lx.w1 rfl rfl rfl (by with_reducible rfl)) ?_ (fun K hK => ?_); rotate_left 1; (go_simp; first | done | with_reducible rfl); go_simp; skip; refine hK _ ?_; clear hK K)
          | (refine Lx.lex_eff rfl (by first | exact Lx.w0 rfl | exact Lx.w1 rfl rfl rfl (by with_reducible rfl)) (fun K hK => ?_); go_simp; (first | (go_at_call 55; refine (HG.out _).mono ?_; rintro e w1 ⟨rfl, rfl⟩; have HB3 := Lib.hid HB.out.drew)); refine hK _ _ (trivial) ?_; clear hK K))
        all_goals (refine Lx.lex_nil ?_)
        go_wp2_with fail
        go_ret
        exact ⟨ret_bool HV.out.symm, HB3.out⟩
      · have HV := Eqn.mk (HR2.trans (if_neg hr))
        clear HR2
        go_wp2_with fail
        refine Lx.region (C := fun _ => True) (hs := []) (by kernel_rfl) (by kernel_rfl) trivial ?_
        repeat' (first
          | (refine Lx.lex_no (Lx.n1 rfl rfl rfl (by with_reducible rfl)) (fun K hK => ?_); go_simp; skip; refine hK _ ?_; clear hK K)
          | (refine Lx.lex_no (Lx.n0 rfl rfl rfl (by with_reducible rfl)) (fun K hK => ?_); go_simp; skip; refine hK _ ?_; clear hK K)
          | (refine Lx.lex_no (Lx.n2 rfl rfl rfl) (fun K hK => ?_); go_simp; skip; refine hK _ ?_; clear hK K)
          | (refine Lx.lex_pure (v := ?_) rfl (by first | exact Lx.w0 rfl | exact Lx.w1 rfl rfl rfl (by with_reducible rfl)) ?_ (fun K hK => ?_); rotate_left 1; (intro w' hCw; (try dsimp only at hCw); go_simp; first | done | with_reducible rfl); go_simp; skip; refine hK _ ?_; clear hK K)
          | (refine Lx.lex_read (v := ?_) rfl (by first | exact Lx.w0 rfl | exact Lx.w1 rfl rfl rfl (by with_reducible rfl)) ?_ (fun K hK => ?_); rotate_left 1; (go_simp; first | done | with_reducible rfl); go_simp; skip; refine hK _ ?_; clear hK K)
          | (refine Lx.lex_eff rfl (by first | exact Lx.w0 rfl | exact Lx.w1 rfl rfl rfl (by with_reducible rfl)) (fun K hK => ?_); go_simp; (first | (go_at_call 55; refine (HG.out _).mono ?_; rintro e w1 ⟨rfl, rfl⟩; have HB3 := Lib.hid HB.out.drew)); refine hK _ _ (trivial) ?_; clear hK K))
        all_goals (refine Lx.lex_nil ?_)
        go_wp2_with fail
        clear e1 e2 e3 e4 e5
        go_roundw
        case rel => exact ⟨k + 1, .inl (by omega), by rw [← HKI.out]; go_num, HV, HB3.out⟩
        case measure => rw [← HKI.out]; simp [intOf]; omega
    · have HV : Eqn (incF cmpF l) true := by
        rw [Eqn, HR.out]
        by_cases h0 : k < l.length
        · obtain ⟨p, hp, hpd⟩ := drop_at (xs := l) (k := k) h0
          have hl2 := Hlen.out
          rw [hpd, drop_end (by omega)]; rfl
        · rw [drop_end (by omega)]; rfl
      have j0 : ¬ ((k + 1 : Nat) : Int) < (n : Int) := by omega
      clear HR hB
      go_wp2_with fail
      go_ret
      exact ⟨ret_bool HV.out.symm, HB.out⟩

set_option maxHeartbeats 1000000 in
theorem goodD_any (d : Dom) (w : World) (hn : d.len ≤ 9223372036854775807) (hr : Row1 intV w w.heap.size d.adr d.len d.chs) : Calls Tryd.prog 53 #[d.val] w (RetPost (.bool (goodD d)) w.heap.size w) := by
  obtain ⟨st, adr, len, cap, chs⟩ := d
  dsimp only at hn hr
  obtain ⟨W0, hW0⟩ : ∃ W0, W0 = w.alloc (.cells #[.int .i64 st, .slice adr len cap] 65) := ⟨_, rfl⟩
  have hB0 : Below w.heap.size w W0 := by rw [hW0]; exact (Below.refl _ w).alloc (Nat.le_refl _) _
  have z0 : W0.cell? ⟨w.heap.size, 0, none⟩ = some (.int .i64 st) := by rw [hW0]; simp [go_sem]
  have z1 : W0.cell? ⟨w.heap.size, 1, none⟩ = some (.slice adr len cap) := by rw [hW0]; simp [go_sem]
  have HST := Lib.hid (isSt_any st W0)
  have HEV := Lib.hid (everyCh_any adr len cap W0 chs hn (hr.keep hB0))
  have HIN := Lib.hid (incI_any adr len cap W0 chs hn (hr.keep hB0))
  have HB0 := Lib.hid hB0
  unfold Dom.val goodD
  dsimp only
  generalize stF st = t0 at *
  generalize chs.all chGood = t1 at *
  generalize incF cmpF chs = t2 at *
  clear hr hB0
  go_enter Tryd.func53, Tryd.ntmps53
  go_wp2_with fail
  rw [← hW0]
  clear hW0
  refine HST.out.mono ?_
  rintro e w1 ⟨rfl, rfl⟩
  cases t0 with
  | false =>
    go_wp2_with fail
    go_ret
    exact ⟨rfl, HB0.out⟩
  | true =>
    go_wp2_with fail
    refine HEV.out.mono ?_
    rintro e w1 ⟨rfl, rfl⟩
    cases t1 with
    | false =>
      go_wp2_with fail
      go_ret
      exact ⟨rfl, HB0.out⟩
    | true =>
      go_wp2_with fail
      refine HIN.out.mono ?_
      rintro e w1 ⟨rfl, hb1⟩
      have HB1 := Lib.hid (HB0.out.trans (hb1.mono HB0.out.size))
      clear hb1
      go_wp2_with fail
      go_ret
      exact ⟨rfl, HB1.out⟩

set_option maxHeartbeats 1000000 in
theorem everyD_any (A : Option Addr) (n c : Nat) (w : World) (l : List Dom) (hd : ∀ d ∈ l, d.len ≤ 9223372036854775807) (hn : n ≤ 9223372036854775807) (hl : DomsAt w w.heap.size A n l) :
    Calls Tryd.prog 52 #[.slice A n c, .func (.func 53) #[] #[]] w (RetPost (.bool (l.all goodD)) w.heap.size w) := by
  have Hl := Lib.hid hl
  have Hlen := Eqn.mk hl.1.1
  skip
  clear hl
  go_enter Tryd.func52, Tryd.ntmps52
  go_wp2_with fail
  go_loopw [9] (fun i wr => ∃ k : Nat, k ≤ n ∧ i = .int .i64 k ∧ Eqn (l.all goodD) ((l.drop k).all goodD) ∧ Below w.heap.size w wr) (fun i _ => n - (intOf i).toNat)
  case atStart => exact ⟨0, Nat.zero_le _, rfl, rfl, Below.refl _ _⟩
  case round =>
    obtain ⟨k, hk, rfl, HR, hB⟩ := hrel
    have HB := Lib.hid hB
    have hbs := hB.size
    by_cases hlt : k < n
    · obtain ⟨p, hp, hpd⟩ := drop_at (xs := l) (k := k) (by rw [Hlen.out]; exact hlt)
      obtain ⟨b, off, hA, hbl, hc⟩ := (Hl.out.1.below hB).2 (by omega)
      have hrow := ((Hl.out.2 p (List.mem_of_getElem? hp)).below hB).up hbs
      subst hA
      obtain ⟨st, adr, len, cap, chs⟩ := p
      have c0 := hc k _ hp 0 (by omega)
      have c1 := hc k _ hp 1 (by omega)
      simp only [Dom.cell, Nat.add_zero] at c0 c1
      have HG : Hid (∀ W, Below wr.heap.size wr W → Calls Tryd.prog 53 #[.agg #[.int .i64 st, .slice adr len cap]] W (RetPost (.bool (goodD ⟨st, adr, len, cap, chs⟩)) W.heap.size W)) := Lib.hid (fun W hW => goodD_any ⟨st, adr, len, cap, chs⟩ W (hd _ (List.mem_of_getElem? hp)) (hrow.keep hW))
      have HR2 := HR.out
      rw [hpd, List.all_cons] at HR2
      try dsimp only at HG
      have hbw : b < wr.heap.size := by omega
      have j0 : (k : Int) < (n : Int) := by omega
      have HB2 := Lib.hid (hB.alloc hbs (.cells #[.int .i64 st, .slice adr len cap] 65))
      generalize goodD ⟨st, adr, len, cap, chs⟩ = r at *
      clear hc hp hpd HR hB
      go_wp2_with fail
      refine (HG.out _ ((Below.refl _ _).alloc (Nat.le_refl _) _)).mono ?_
      rintro e w1 ⟨rfl, hb1⟩
      have HB3 := Lib.hid (HB2.out.trans (hb1.mono HB2.out.size))
      clear hb1
      cases r with
      | true =>
        have HV : Eqn (l.all goodD) ((l.drop (k + 1)).all goodD) := by rw [Eqn, HR2]; rfl
        clear HR2
        go_wp2_with fail
        go_roundw
        case rel => exact ⟨k + 1, by omega, by go_num, HV, HB3.out⟩
        case measure => simp [intOf]; omega
      | false =>
        have HV : Eqn (l.all goodD) false := by rw [Eqn, HR2]; rfl
        clear HR2
        go_wp2_with fail
        go_ret
        exact ⟨ret_bool HV.out.symm, HB3.out⟩
    · have HV : Eqn (l.all goodD) true := by rw [Eqn, HR.out, drop_end (by rw [Hlen.out]; omega)]; rfl
      clear HR hB
      go_wp2_with fail
      go_ret
      exact ⟨ret_bool HV.out.symm, HB.out⟩

set_option maxHeartbeats 1000000 in
theorem bySt_any (x y : Dom) (w : World) : Calls Tryd.prog 54 #[x.val, y.val] w (RetPost (.int .i64 (cmpF x.st y.st)) w.heap.size w) := by
  obtain ⟨a, a1, a2, a3, a4⟩ := x
  obtain ⟨b, b1, b2, b3, b4⟩ := y
  have HC := Lib.hid (fun W => compare_any a b W)
  have HB : Hid (Below w.heap.size w ((w.alloc (.cells #[.int .i64 a, .slice a1 a2 a3] 65)).alloc (.cells #[.int .i64 b, .slice b1 b2 b3] 65))) := Lib.hid (((Below.refl _ w).alloc (Nat.le_refl _) _).alloc (by simp) _)
  unfold Dom.val
  dsimp only
  generalize cmpF a b = r at *
  go_enter Tryd.func54, Tryd.ntmps54
  go_wp2_with fail
  refine (HC.out _).mono ?_
  rintro e w1 ⟨rfl, rfl⟩
  go_wp2_with fail
  go_ret
  exact ⟨rfl, HB.out⟩

set_option maxHeartbeats 1000000 in
theorem incD_any (A : Option Addr) (n c : Nat) (w : World) (l : List Dom) (hn : n ≤ 9223372036854775807) (hl : RowS 2 Dom.cell w w.heap.size A n l) :
    Calls Tryd.prog 56 #[.slice A n c, .func (.func 54) #[] #[]] w (RetPost (.bool (incF (fun x y => cmpF x.st y.st) l)) w.heap.size w) := by
  have Hl := Lib.hid hl
  have Hlen := Eqn.mk hl.1
  clear hl
  go_enter Tryd.func56, Tryd.ntmps56
  go_wp2_with fail
  go_loopw [5] (fun i wr => ∃ k : Nat, (k + 1 ≤ n ∨ k = 0) ∧ i = .int .i64 ((k + 1 : Nat) : Int) ∧ Eqn (incF (fun x y => cmpF x.st y.st) l) (incF (fun x y => cmpF x.st y.st) (l.drop k)) ∧ Below w.heap.size w wr) (fun i _ => n + 1 - (intOf i).toNat)
  case atStart => exact ⟨0, .inr rfl, rfl, rfl, Below.refl _ _⟩
  case round =>
    obtain ⟨k, hk, rfl, HR, hB⟩ := hrel
    have HB := Lib.hid hB
    have hbs := hB.size
    by_cases hlt : k + 1 < n
    · obtain ⟨p, hp, hpd⟩ := drop_at (xs := l) (k := k) (by rw [Hlen.out]; omega)
      obtain ⟨q, hq, hqd⟩ := drop_at (xs := l) (k := k + 1) (by rw [Hlen.out]; exact hlt)
      obtain ⟨b, off, hA, hbl, hc⟩ := (Hl.out.below hB).2 (by omega)
      subst hA
      obtain ⟨p0, p1, p2, p3, p4⟩ := p
      obtain ⟨q0, q1, q2, q3, q4⟩ := q
      have c0 := hc k _ hp 0 (by omega)
      have c1 := hc k _ hp 1 (by omega)
      have d0 := hc (k + 1) _ hq 0 (by omega)
      have d1 := hc (k + 1) _ hq 1 (by omega)
      simp only [Dom.cell, Nat.add_zero] at c0 c1 d0 d1
      have HG := Lib.hid (fun W => bySt_any ⟨p0, p1, p2, p3, p4⟩ ⟨q0, q1, q2, q3, q4⟩ W)
      have HR2 := HR.out
      rw [hpd, hqd, incF_cons, ← hqd] at HR2
      unfold Dom.val at HG
      dsimp only at HG HR2
      have hbw : b < wr.heap.size := by omega
      obtain ⟨ki, hki⟩ : ∃ ki : Int, ((k + 1 : Nat) : Int) = ki := ⟨_, rfl⟩
      rw [hki]
      have j0 : ki < (n : Int) := by omega
      have j1 : 1 ≤ ki := by omega
      have e1 : IntKind.i64.wrap (ki - 1) = (k : Int) := by rw [IntWalk.i64_in _ (by omega)]; omega
      have e2 : ki.toNat = k + 1 := by omega
      have e3 : (ki - 1).toNat = k := by omega
      have e4 : 0 ≤ ki - 1 := by omega
      have e5 : ki - 1 < (n : Int) := by omega
      have e6 : (k : Int) < (n : Int) := by omega
      have e7 : (0 : Int) ≤ (k : Int) := by omega
      have e8 : 0 ≤ ki := by omega
      have HKI := Lib.hid hki
      generalize cmpF p0 q0 = r at *
      clear hc hp hpd hq hqd HR hB hki
      by_cases hr : 0 ≤ r
      · have HV := Eqn.mk (HR2.trans (if_pos hr))
        clear HR2
        go_wp2_with fail
        refine Lx.region (C := fun _ => True) (hs := []) (by kernel_rfl) (by kernel_rfl) trivial ?_
        repeat' (first
          | (refine Lx.lex_no (Lx.n1 rfl rfl rfl (by with_reducible rfl)) (fun K hK => ?_); go_simp; skip; refine hK _ ?_; clear hK K)
          | (refine Lx.lex_no (Lx.n0 rfl rfl rfl (by with_reducible rfl)) (fun K hK => ?_); go_simp; skip; refine hK _ ?_; clear hK K)
          | (refine Lx.lex_no (Lx.n2 rfl rfl rfl) (fun K hK => ?_); go_simp; skip; refine hK _ ?_; clear hK K)
          | (refine Lx.lex_pure (v := ?_) rfl (by first | exact Lx.w0 rfl | exact Lx.w1 rfl rfl rfl (by with_reducible rfl)) ?_ (fun K hK => ?_); rotate_left 1; (intro w' hCw; (try dsimp only at hCw); go_simp; first | done | with_reducible rfl); go_simp; skip; refine hK _ ?_; clear hK K)
          | (refine Lx.lex_read (v := ?_) rfl (by first | exact Lx.w0 rfl | exact Lx.w1 rfl rfl rfl (by with_reducible rfl)) ?_ (fun K hK => ?_); rotate_left 1; (go_simp; first | done | with_reducible rfl); go_simp; skip; refine hK _ ?_; clear hK K)
          | (refine Lx.lex_eff rfl (by first | exact Lx.w0 rfl | exact Lx.w1 rfl rfl rfl (by with_reducible rfl)) (fun K hK => ?_); go_simp; (first | (go_at_call 54; refine (HG.out _).mono ?_; rintro e w1 ⟨rfl, hb1⟩; have HB3 := Lib.hid (HB.out.drew.trans (hb1.mono (by exact hbs))); clear hb1)); refine hK _ _ (trivial) ?_; clear hK K))
        all_goals (refine Lx.lex_nil ?_)
        go_wp2_with fail
        go_ret
        exact ⟨ret_bool HV.out.symm, HB3.out⟩
      · have HV := Eqn.mk (HR2.trans (if_neg hr))
        clear HR2
        go_wp2_with fail
        refine Lx.region (C := fun _ => True) (hs := []) (by kernel_rfl) (by kernel_rfl) trivial ?_
        repeat' (first
          | (refine Lx.lex_no (Lx.n1 rfl rfl rfl (by with_reducible rfl)) (fun K hK => ?_); go_simp; skip; refine hK _ ?_; clear hK K)
          | (refine Lx.lex_no (Lx.n0 rfl rfl rfl (by with_reducible rfl)) (fun K hK => ?_); go_simp; skip; refine hK _ ?_; clear hK K)
          | (refine Lx.lex_no (Lx.n2 rfl rfl rfl) (fun K hK => ?_); go_simp; skip; refine hK _ ?_; clear hK K)
          | (refine Lx.lex_pure (v := ?_) rfl (by first | exact Lx.w0 rfl | exact Lx.w1 rfl rfl rfl (by with_reducible rfl)) ?_ (fun K hK => ?_); rotate_left 1; (intro w' hCw; (try dsimp only at hCw); go_simp; first | done | with_reducible rfl); go_simp; skip; refine hK _ ?_; clear hK K)
          | (refine Lx.lex_read (v := ?_) rfl (by first | exact Lx.w0 rfl | exact Lx.w1 rfl rfl rfl (by with_reducible rfl)) ?_ (fun K hK => ?_); rotate_left 1; (go_simp; first | done | with_reducible rfl); go_simp; skip; refine hK _ ?_; clear hK K)
          | (refine Lx.lex_eff rfl (by first | exact Lx.w0 rfl | exact Lx.w1 rfl rfl rfl (by with_reducible rfl)) (fun K hK => ?_); go_simp; (first | (go_at_call 54; refine (HG.out _).mono ?_; rintro e w1 ⟨rfl, hb1⟩; have HB3 := Lib.hid (HB.out.drew.trans (hb1.mono (by exact hbs))); clear hb1)); refine hK _ _ (trivial) ?_; clear hK K))
        all_goals (refine Lx.lex_nil ?_)
        go_wp2_with fail
        clear e1 e2 e3 e4 e5
        go_roundw
        case rel => exact ⟨k + 1, .inl (by omega), by rw [← HKI.out]; go_num, HV, HB3.out⟩
        case measure => rw [← HKI.out]; simp [intOf]; omega
    · have HV : Eqn (incF (fun x y : Dom => cmpF x.st y.st) l) true := by
        rw [Eqn, HR.out]
        by_cases h0 : k < l.length
        · obtain ⟨p, hp, hpd⟩ := drop_at (xs := l) (k := k) h0
          have hl2 := Hlen.out
          rw [hpd, drop_end (by omega)]; rfl
        · rw [drop_end (by omega)]; rfl
      have j0 : ¬ ((k + 1 : Nat) : Int) < (n : Int) := by omega
      clear HR hB
      go_wp2_with fail
      go_ret
      exact ⟨ret_bool HV.out.symm, HB.out⟩

set_option maxHeartbeats 1000000 in
theorem cloPair_any (x : R5) (g S : Nat) (w : World) (h : Blk w g 96 (tabL 8 (sC S))) : Calls Tryd.prog 59 #[x.val, .pointer (some ⟨g, 0, none⟩)] w (RetPost (.bool (hasS S x.a && hasS S x.b)) w.heap.size w) := by
  obtain ⟨x0, x1, x2, x3, x4⟩ := x
  obtain ⟨W0, hW0⟩ : ∃ W0, W0 = w.alloc (.cells #[.int .i64 x0, .int .i64 x1, .int .i64 x2, .int .i64 x3, .int .i64 x4] 73) := ⟨_, rfl⟩
  have hB0 : Below w.heap.size w W0 := by rw [hW0]; exact (Below.refl _ w).alloc (Nat.le_refl _) _
  have hx : Blk W0 w.heap.size 73 [.int .i64 x0, .int .i64 x1, .int .i64 x2, .int .i64 x3, .int .i64 x4] := by rw [hW0]; exact blk_new w _ _
  have HX := Lib.hid hx
  have HS := Lib.hid (h.keep hB0)
  have z0 : W0.cell? ⟨w.heap.size, 0, none⟩ = some (.int .i64 x0) := hx.cell rfl
  have zl := hx.lt
  have HHA := Lib.hid (fun W => has_any S x0 W)
  have HHB := Lib.hid (fun W => has_any S x1 W)
  have HB0 := Lib.hid hB0
  obtain ⟨q0, q1, q2, q3, q4, q5, q6, q7⟩ := HS.out.eight
  have ql := HS.out.lt
  unfold R5.val
  unfold sV at HHA HHB
  dsimp only
  generalize hasS S x0 = b0 at *
  generalize hasS S x1 = b1 at *
  clear h hB0 hx
  go_enter Tryd.func59, Tryd.ntmps59
  go_upto_region 1 with fail
  rw [← hW0]
  clear hW0
  go_wp2_with fail
  clear q0 q1 q2 q3 q4 q5 q6 q7
  refine (HHA.out _).mono ?_
  rintro e W1 ⟨rfl, hb1⟩
  have HB1 := Lib.hid (HB0.out.trans (hb1.mono HB0.out.size))
  have hS1 := HS.out.keep hb1
  obtain ⟨q0, q1, q2, q3, q4, q5, q6, q7⟩ := hS1.eight
  have ql1 := hS1.lt
  have z1 : W1.cell? ⟨w.heap.size, 1, none⟩ = some (.int .i64 x1) := (HX.out.keep hb1).cell rfl
  have zl1 := (HX.out.keep hb1).lt
  clear hb1 hS1
  cases b0 with
  | false =>
    go_wp2_with fail
    go_ret
    exact ⟨rfl, HB1.out⟩
  | true =>
    go_wp2_with fail
    clear q0 q1 q2 q3 q4 q5 q6 q7
    refine (HHB.out _).mono ?_
    rintro e W2 ⟨rfl, hb2⟩
    have HB2 := Lib.hid (HB1.out.trans (hb2.mono HB1.out.size))
    clear hb2
    go_wp2_with fail
    go_ret
    exact ⟨rfl, HB2.out⟩

set_option maxHeartbeats 1000000 in
theorem everySPair_any (A : Option Addr) (n c : Nat) (w : World) (l : List R5) (g S : Nat) (hs : Blk w g 96 (tabL 8 (sC S))) (hn : n ≤ 9223372036854775807) (hl : RowS 5 R5.cell w w.heap.size A n l) :
    Calls Tryd.prog 58 #[.slice A n c, .func (.func 59) #[] #[.pointer (some ⟨g, 0, none⟩)]] w (RetPost (.bool (l.all (fun x => hasS S x.a && hasS S x.b))) w.heap.size w) := by
  have Hl := Lib.hid hl
  have Hlen := Eqn.mk hl.1
  have HS := Lib.hid hs
  clear hl hs
  go_enter Tryd.func58, Tryd.ntmps58
  go_wp2_with fail
  go_loopw [9] (fun i wr => ∃ k : Nat, k ≤ n ∧ i = .int .i64 k ∧ Eqn (l.all (fun x => hasS S x.a && hasS S x.b)) ((l.drop k).all (fun x => hasS S x.a && hasS S x.b)) ∧ Below w.heap.size w wr) (fun i _ => n - (intOf i).toNat)
  case atStart => exact ⟨0, Nat.zero_le _, rfl, rfl, Below.refl _ _⟩
  case round =>
    obtain ⟨k, hk, rfl, HR, hB⟩ := hrel
    have HB := Lib.hid hB
    have hbs := hB.size
    by_cases hlt : k < n
    · obtain ⟨p, hp, hpd⟩ := drop_at (xs := l) (k := k) (by rw [Hlen.out]; exact hlt)
      obtain ⟨b, off, hA, hbl, hc⟩ := (Hl.out.below hB).2 (by omega)
      skip
      subst hA
      obtain ⟨p0, p1, p2, p3, p4⟩ := p
      have c0 := hc k _ hp 0 (by omega)
      have c1 := hc k _ hp 1 (by omega)
      have c2 := hc k _ hp 2 (by omega)
      have c3 := hc k _ hp 3 (by omega)
      have c4 := hc k _ hp 4 (by omega)
      simp only [R5.cell, Nat.add_zero] at c0 c1 c2 c3 c4
      have HG : Hid (∀ W, Below wr.heap.size wr W → Calls Tryd.prog 59 #[.agg #[.int .i64 p0, .int .i64 p1, .int .i64 p2, .int .i64 p3, .int .i64 p4], .pointer (some ⟨g, 0, none⟩)] W (RetPost (.bool (hasS S p0 && hasS S p1)) W.heap.size W)) := Lib.hid (fun W hW => cloPair_any ⟨p0, p1, p2, p3, p4⟩ g S W ((HS.out.keep hB).keep hW))
      have HR2 := HR.out
      rw [hpd, List.all_cons] at HR2
      try dsimp only at HG
      have hbw : b < wr.heap.size := by omega
      have j0 : (k : Int) < (n : Int) := by omega
      have HB2 := Lib.hid (hB.alloc hbs (.cells #[.int .i64 p0, .int .i64 p1, .int .i64 p2, .int .i64 p3, .int .i64 p4] 73))
      dsimp only at HR2
      generalize (hasS S p0 && hasS S p1) = r at *
      clear hc hp hpd HR hB
      go_wp2_with fail
      refine (HG.out _ ((Below.refl _ _).alloc (Nat.le_refl _) _)).mono ?_
      rintro e w1 ⟨rfl, hb1⟩
      have HB3 := Lib.hid (HB2.out.trans (hb1.mono HB2.out.size))
      clear hb1
      cases r with
      | true =>
        have HV : Eqn (l.all (fun x => hasS S x.a && hasS S x.b)) ((l.drop (k + 1)).all (fun x => hasS S x.a && hasS S x.b)) := by rw [Eqn, HR2]; rfl
        clear HR2
        go_wp2_with fail
        go_roundw
        case rel => exact ⟨k + 1, by omega, by go_num, HV, HB3.out⟩
        case measure => simp [intOf]; omega
      | false =>
        have HV : Eqn (l.all (fun x => hasS S x.a && hasS S x.b)) false := by rw [Eqn, HR2]; rfl
        clear HR2
        go_wp2_with fail
        go_ret
        exact ⟨ret_bool HV.out.symm, HB3.out⟩
    · have HV : Eqn (l.all (fun x => hasS S x.a && hasS S x.b)) true := by rw [Eqn, HR.out, drop_end (by rw [Hlen.out]; omega)]; rfl
      clear HR hB
      go_wp2_with fail
      go_ret
      exact ⟨ret_bool HV.out.symm, HB.out⟩

set_option maxHeartbeats 1000000 in
theorem cloLoad_any (x : R5) (g S : Nat) (w : World) (h : Blk w g 96 (tabL 8 (sC S))) : Calls Tryd.prog 61 #[x.val, .pointer (some ⟨g, 0, none⟩)] w (RetPost (.bool (hasS S x.a && hasS S x.b)) w.heap.size w) := by
  obtain ⟨x0, x1, x2, x3, x4⟩ := x
  obtain ⟨W0, hW0⟩ : ∃ W0, W0 = w.alloc (.cells #[.int .i64 x0, .int .i64 x1, .int .i64 x2, .int .i64 x3, .int .i64 x4] 77) := ⟨_, rfl⟩
  have hB0 : Below w.heap.size w W0 := by rw [hW0]; exact (Below.refl _ w).alloc (Nat.le_refl _) _
  have hx : Blk W0 w.heap.size 77 [.int .i64 x0, .int .i64 x1, .int .i64 x2, .int .i64 x3, .int .i64 x4] := by rw [hW0]; exact blk_new w _ _
  have HX := Lib.hid hx
  have HS := Lib.hid (h.keep hB0)
  have z0 : W0.cell? ⟨w.heap.size, 0, none⟩ = some (.int .i64 x0) := hx.cell rfl
  have zl := hx.lt
  have HHA := Lib.hid (fun W => has_any S x0 W)
  have HHB := Lib.hid (fun W => has_any S x1 W)
  have HB0 := Lib.hid hB0
  obtain ⟨q0, q1, q2, q3, q4, q5, q6, q7⟩ := HS.out.eight
  have ql := HS.out.lt
  unfold R5.val
  unfold sV at HHA HHB
  dsimp only
  generalize hasS S x0 = b0 at *
  generalize hasS S x1 = b1 at *
  clear h hB0 hx
  go_enter Tryd.func61, Tryd.ntmps61
  go_upto_region 1 with fail
  rw [← hW0]
  clear hW0
  go_wp2_with fail
  clear q0 q1 q2 q3 q4 q5 q6 q7
  refine (HHA.out _).mono ?_
  rintro e W1 ⟨rfl, hb1⟩
  have HB1 := Lib.hid (HB0.out.trans (hb1.mono HB0.out.size))
  have hS1 := HS.out.keep hb1
  obtain ⟨q0, q1, q2, q3, q4, q5, q6, q7⟩ := hS1.eight
  have ql1 := hS1.lt
  have z1 : W1.cell? ⟨w.heap.size, 1, none⟩ = some (.int .i64 x1) := (HX.out.keep hb1).cell rfl
  have zl1 := (HX.out.keep hb1).lt
  clear hb1 hS1
  cases b0 with
  | false =>
    go_wp2_with fail
    go_ret
    exact ⟨rfl, HB1.out⟩
  | true =>
    go_wp2_with fail
    clear q0 q1 q2 q3 q4 q5 q6 q7
    refine (HHB.out _).mono ?_
    rintro e W2 ⟨rfl, hb2⟩
    have HB2 := Lib.hid (HB1.out.trans (hb2.mono HB1.out.size))
    clear hb2
    go_wp2_with fail
    go_ret
    exact ⟨rfl, HB2.out⟩

set_option maxHeartbeats 1000000 in
theorem everySLoad_any (A : Option Addr) (n c : Nat) (w : World) (l : List R5) (g S : Nat) (hs : Blk w g 96 (tabL 8 (sC S))) (hn : n ≤ 9223372036854775807) (hl : RowS 5 R5.cell w w.heap.size A n l) :
    Calls Tryd.prog 60 #[.slice A n c, .func (.func 61) #[] #[.pointer (some ⟨g, 0, none⟩)]] w (RetPost (.bool (l.all (fun x => hasS S x.a && hasS S x.b))) w.heap.size w) := by
  have Hl := Lib.hid hl
  have Hlen := Eqn.mk hl.1
  have HS := Lib.hid hs
  clear hl hs
  go_enter Tryd.func60, Tryd.ntmps60
  go_wp2_with fail
  go_loopw [9] (fun i wr => ∃ k : Nat, k ≤ n ∧ i = .int .i64 k ∧ Eqn (l.all (fun x => hasS S x.a && hasS S x.b)) ((l.drop k).all (fun x => hasS S x.a && hasS S x.b)) ∧ Below w.heap.size w wr) (fun i _ => n - (intOf i).toNat)
  case atStart => exact ⟨0, Nat.zero_le _, rfl, rfl, Below.refl _ _⟩
  case round =>
    obtain ⟨k, hk, rfl, HR, hB⟩ := hrel
    have HB := Lib.hid hB
    have hbs := hB.size
    by_cases hlt : k < n
    · obtain ⟨p, hp, hpd⟩ := drop_at (xs := l) (k := k) (by rw [Hlen.out]; exact hlt)
      obtain ⟨b, off, hA, hbl, hc⟩ := (Hl.out.below hB).2 (by omega)
      skip
      subst hA
      obtain ⟨p0, p1, p2, p3, p4⟩ := p
      have c0 := hc k _ hp 0 (by omega)
      have c1 := hc k _ hp 1 (by omega)
      have c2 := hc k _ hp 2 (by omega)
      have c3 := hc k _ hp 3 (by omega)
      have c4 := hc k _ hp 4 (by omega)
      simp only [R5.cell, Nat.add_zero] at c0 c1 c2 c3 c4
      have HG : Hid (∀ W, Below wr.heap.size wr W → Calls Tryd.prog 61 #[.agg #[.int .i64 p0, .int .i64 p1, .int .i64 p2, .int .i64 p3, .int .i64 p4], .pointer (some ⟨g, 0, none⟩)] W (RetPost (.bool (hasS S p0 && hasS S p1)) W.heap.size W)) := Lib.hid (fun W hW => cloLoad_any ⟨p0, p1, p2, p3, p4⟩ g S W ((HS.out.keep hB).keep hW))
      have HR2 := HR.out
      rw [hpd, List.all_cons] at HR2
      try dsimp only at HG
      have hbw : b < wr.heap.size := by omega
      have j0 : (k : Int) < (n : Int) := by omega
      have HB2 := Lib.hid (hB.alloc hbs (.cells #[.int .i64 p0, .int .i64 p1, .int .i64 p2, .int .i64 p3, .int .i64 p4] 77))
      dsimp only at HR2
      generalize (hasS S p0 && hasS S p1) = r at *
      clear hc hp hpd HR hB
      go_wp2_with fail
      refine (HG.out _ ((Below.refl _ _).alloc (Nat.le_refl _) _)).mono ?_
      rintro e w1 ⟨rfl, hb1⟩
      have HB3 := Lib.hid (HB2.out.trans (hb1.mono HB2.out.size))
      clear hb1
      cases r with
      | true =>
        have HV : Eqn (l.all (fun x => hasS S x.a && hasS S x.b)) ((l.drop (k + 1)).all (fun x => hasS S x.a && hasS S x.b)) := by rw [Eqn, HR2]; rfl
        clear HR2
        go_wp2_with fail
        go_roundw
        case rel => exact ⟨k + 1, by omega, by go_num, HV, HB3.out⟩
        case measure => simp [intOf]; omega
      | false =>
        have HV : Eqn (l.all (fun x => hasS S x.a && hasS S x.b)) false := by rw [Eqn, HR2]; rfl
        clear HR2
        go_wp2_with fail
        go_ret
        exact ⟨ret_bool HV.out.symm, HB3.out⟩
    · have HV : Eqn (l.all (fun x => hasS S x.a && hasS S x.b)) true := by rw [Eqn, HR.out, drop_end (by rw [Hlen.out]; omega)]; rfl
      clear HR hB
      go_wp2_with fail
      go_ret
      exact ⟨ret_bool HV.out.symm, HB.out⟩

set_option maxHeartbeats 1000000 in
theorem cloCap_any (x : R4) (g S : Nat) (w : World) (h : Blk w g 96 (tabL 8 (sC S))) : Calls Tryd.prog 63 #[x.val, .pointer (some ⟨g, 0, none⟩)] w (RetPost (.bool (hasS S x.a)) w.heap.size w) := by
  obtain ⟨x0, x1, x2, x3⟩ := x
  obtain ⟨W0, hW0⟩ : ∃ W0, W0 = w.alloc (.cells #[.int .i64 x0, .int .i64 x1, .int .i64 x2, .int .i64 x3] 79) := ⟨_, rfl⟩
  have hB0 : Below w.heap.size w W0 := by rw [hW0]; exact (Below.refl _ w).alloc (Nat.le_refl _) _
  have hx : Blk W0 w.heap.size 79 [.int .i64 x0, .int .i64 x1, .int .i64 x2, .int .i64 x3] := by rw [hW0]; exact blk_new w _ _
  have HX := Lib.hid hx
  have HS := Lib.hid (h.keep hB0)
  have z0 : W0.cell? ⟨w.heap.size, 0, none⟩ = some (.int .i64 x0) := hx.cell rfl
  have zl := hx.lt
  have HHA := Lib.hid (fun W => has_any S x0 W)
  have HHB := Lib.hid (fun W => has_any S x1 W)
  have HB0 := Lib.hid hB0
  obtain ⟨q0, q1, q2, q3, q4, q5, q6, q7⟩ := HS.out.eight
  have ql := HS.out.lt
  unfold R4.val
  unfold sV at HHA HHB
  dsimp only
  generalize hasS S x0 = b0 at *
  generalize hasS S x1 = b1 at *
  clear h hB0 hx
  go_enter Tryd.func63, Tryd.ntmps63
  go_upto_region 1 with fail
  rw [← hW0]
  clear hW0
  go_wp2_with fail
  clear q0 q1 q2 q3 q4 q5 q6 q7
  refine (HHA.out _).mono ?_
  rintro e W1 ⟨rfl, hb1⟩
  have HB1 := Lib.hid (HB0.out.trans (hb1.mono HB0.out.size))
  clear hb1
  go_wp2_with fail
  go_ret
  exact ⟨rfl, HB1.out⟩

set_option maxHeartbeats 1000000 in
theorem everySCap_any (A : Option Addr) (n c : Nat) (w : World) (l : List R4) (g S : Nat) (hs : Blk w g 96 (tabL 8 (sC S))) (hn : n ≤ 9223372036854775807) (hl : RowS 4 R4.cell w w.heap.size A n l) :
    Calls Tryd.prog 62 #[.slice A n c, .func (.func 63) #[] #[.pointer (some ⟨g, 0, none⟩)]] w (RetPost (.bool (l.all (fun x => hasS S x.a))) w.heap.size w) := by
  have Hl := Lib.hid hl
  have Hlen := Eqn.mk hl.1
  have HS := Lib.hid hs
  clear hl hs
  go_enter Tryd.func62, Tryd.ntmps62
  go_wp2_with fail
  go_loopw [9] (fun i wr => ∃ k : Nat, k ≤ n ∧ i = .int .i64 k ∧ Eqn (l.all (fun x => hasS S x.a)) ((l.drop k).all (fun x => hasS S x.a)) ∧ Below w.heap.size w wr) (fun i _ => n - (intOf i).toNat)
  case atStart => exact ⟨0, Nat.zero_le _, rfl, rfl, Below.refl _ _⟩
  case round =>
    obtain ⟨k, hk, rfl, HR, hB⟩ := hrel
    have HB := Lib.hid hB
    have hbs := hB.size
    by_cases hlt : k < n
    · obtain ⟨p, hp, hpd⟩ := drop_at (xs := l) (k := k) (by rw [Hlen.out]; exact hlt)
      obtain ⟨b, off, hA, hbl, hc⟩ := (Hl.out.below hB).2 (by omega)
      skip
      subst hA
      obtain ⟨p0, p1, p2, p3⟩ := p
      have c0 := hc k _ hp 0 (by omega)
      have c1 := hc k _ hp 1 (by omega)
      have c2 := hc k _ hp 2 (by omega)
      have c3 := hc k _ hp 3 (by omega)
      simp only [R4.cell, Nat.add_zero] at c0 c1 c2 c3
      have HG : Hid (∀ W, Below wr.heap.size wr W → Calls Tryd.prog 63 #[.agg #[.int .i64 p0, .int .i64 p1, .int .i64 p2, .int .i64 p3], .pointer (some ⟨g, 0, none⟩)] W (RetPost (.bool (hasS S p0)) W.heap.size W)) := Lib.hid (fun W hW => cloCap_any ⟨p0, p1, p2, p3⟩ g S W ((HS.out.keep hB).keep hW))
      have HR2 := HR.out
      rw [hpd, List.all_cons] at HR2
      try dsimp only at HG
      have hbw : b < wr.heap.size := by omega
      have j0 : (k : Int) < (n : Int) := by omega
      have HB2 := Lib.hid (hB.alloc hbs (.cells #[.int .i64 p0, .int .i64 p1, .int .i64 p2, .int .i64 p3] 79))
      dsimp only at HR2
      generalize (hasS S p0) = r at *
      clear hc hp hpd HR hB
      go_wp2_with fail
      refine (HG.out _ ((Below.refl _ _).alloc (Nat.le_refl _) _)).mono ?_
      rintro e w1 ⟨rfl, hb1⟩
      have HB3 := Lib.hid (HB2.out.trans (hb1.mono HB2.out.size))
      clear hb1
      cases r with
      | true =>
        have HV : Eqn (l.all (fun x => hasS S x.a)) ((l.drop (k + 1)).all (fun x => hasS S x.a)) := by rw [Eqn, HR2]; rfl
        clear HR2
        go_wp2_with fail
        go_roundw
        case rel => exact ⟨k + 1, by omega, by go_num, HV, HB3.out⟩
        case measure => simp [intOf]; omega
      | false =>
        have HV : Eqn (l.all (fun x => hasS S x.a)) false := by rw [Eqn, HR2]; rfl
        clear HR2
        go_wp2_with fail
        go_ret
        exact ⟨ret_bool HV.out.symm, HB3.out⟩
    · have HV : Eqn (l.all (fun x => hasS S x.a)) true := by rw [Eqn, HR.out, drop_end (by rw [Hlen.out]; omega)]; rfl
      clear HR hB
      go_wp2_with fail
      go_ret
      exact ⟨ret_bool HV.out.symm, HB.out⟩
end Go.Proofs.YtpdhelhngdeoeaaDoor

namespace Go.Proofs.YtpdhelhngdeoeaaDoor
open Go.RowKit

theorem mi_zero_iff {S T : Nat} (hS : Fit S) : mi S T = 0 ↔ ∀ k, k < 8 → wd (mi S T) k = 0 := by
  constructor
  · intro h k _; rw [h, wd_zero]
  · intro h
    exact eq_of_wd (mi_lt T hS) fit_zero (fun k hk => by rw [h k hk, wd_zero])

set_option maxHeartbeats 1000000 in
theorem subset_any (S T : Nat) (hS : Fit S) (w : World) : Calls Tryd.prog 67 #[sV S, sV T] w (RetPost (.bool (decide (mi S T = 0))) w.heap.size w) := by
  have HZ := Lib.hid (mi_zero_iff (T := T) hS)
  have hop : ∀ k, bits .andNot .u64 (wd S k) (wd T k) = ((wd (mi S T) k : Nat) : Int) := fun k => by rw [u64_andNot_nat _ _ (wd_lt S k) (wd_lt T k), andNot_mi _ _ (wd_lt S k) (wd_lt T k), wd_mi]
  have HOP := Lib.hid hop
  clear hop hS
  generalize mi S T = U at *
  unfold sV
  go_enter Tryd.func67, Tryd.ntmps67
  go_wp2_with fail
  obtain ⟨W0, hW0⟩ : ∃ W0, W0 = (w.alloc (.cells (sL S).toArray 96)).alloc (.cells (sL T).toArray 96) := ⟨_, rfl⟩
  have hT : Blk W0 (w.heap.size + 1) 96 (tabL 8 (sC T)) := by
    rw [hW0, ← sL_tab]; have := blk_new (w.alloc (.cells (sL S).toArray 96)) (sL T) 96; rwa [World.size_alloc] at this
  have HB : Hid (Below w.heap.size w W0) := Lib.hid (by rw [hW0]; exact ((Below.refl _ w).alloc (Nat.le_refl _) _).alloc (by simp) _)
  unfold sL at hW0
  rw [← hW0]
  have HT := Lib.hid hT
  have hlt := hT.lt
  clear hW0 hT
  go_loop [9] (fun i => ∃ k : Nat, k ≤ 8 ∧ i = .int .i64 k ∧ Hid (∀ j, j < k → wd U j = 0)) (fun i => 8 - (intOf i).toNat)
  case atStart => exact ⟨0, by decide, rfl, Lib.hid (fun j h => by omega)⟩
  case round =>
    obtain ⟨k, hk, rfl, HI⟩ := hrel
    by_cases h8 : k = 8
    · subst h8
      have HF : Eqn (decide (U = 0)) true := by rw [Eqn]; exact decide_eq_true (HZ.out.2 HI.out)
      go_wp2_with fail
      go_ret
      exact ⟨ret_bool HF.out.symm, HB.out⟩
    · have hx := idx_at S k (by omega)
      have c1 : W0.cell? ⟨w.heap.size + 1, k, none⟩ = some (.int .u64 (wd T k)) := HT.out.cell (tabL_at (by omega))
      have e1 := HOP.out k
      have j1 : (k : Int) < 8 := by omega
      by_cases hz : wd U k = 0
      · rw [hz] at e1
        go_wp2_with fail
        go_round
        case rel => exact ⟨k + 1, by omega, by go_num, Lib.hid (fun j hj => by rcases Nat.lt_or_ge j k with h | h; exact HI.out j h; rw [show j = k by omega]; exact hz)⟩
        case measure => simp [intOf]; omega
      · have HF : Eqn (decide (U = 0)) false := by
          rw [Eqn]; exact decide_eq_false (fun h => hz (HZ.out.1 h k (by omega)))
        have hne : ((wd U k : Int) != 0) = true := by simp; omega
        clear hz
        go_wp2_with fail
        go_ret
        exact ⟨ret_bool HF.out.symm, HB.out⟩

theorem sV_zero : sV 0 = .agg #[.int .u64 0, .int .u64 0, .int .u64 0, .int .u64 0, .int .u64 0, .int .u64 0, .int .u64 0, .int .u64 0] := by simp [sV, wd_zero]
end Go.Proofs.YtpdhelhngdeoeaaDoor
