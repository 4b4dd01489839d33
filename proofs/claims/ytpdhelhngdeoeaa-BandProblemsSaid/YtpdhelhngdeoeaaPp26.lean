/- Plain laws on problems: what band.Problem answers is valid, and is what the reference answers. -/
import Derived.Test.YtpdhelhngdeoeaaVda17
import Derived.Test.YtpdhelhngdeoeaaRp26
namespace Go.Proofs.Ytpdhelhngdeoeaa
open Go.RowKit

/-! ### the set of some stations -/
theorem stS_bit : ∀ (l : List Int) (a k : Nat), (l.foldl (fun a i => a ||| 2 ^ i.toNat) a).testBit k = (a.testBit k || l.any (fun i => i.toNat == k)) := by
  intro l
  induction l with
  | nil => intro a k; simp
  | cons x r ih =>
    intro a k
    rw [List.foldl_cons, ih, Nat.testBit_or, Nat.testBit_two_pow, List.any_cons, Bool.or_assoc]
    congr 2
theorem hasS_mem {l : List Int} (hl : ∀ y ∈ l, 0 ≤ y ∧ y < 512) (x : Int) : hasS (stS l) x = decide (x ∈ l) := by
  unfold hasS
  by_cases hx : 0 ≤ x ∧ x < 512
  · unfold stS
    rw [stS_bit, Nat.zero_testBit, Bool.false_or]
    by_cases hm : x ∈ l
    · have h1 : l.any (fun i => i.toNat == x.toNat) = true := List.any_eq_true.2 ⟨x, hm, by simp⟩
      simp [hx.1, hx.2, hm, h1]
    · have h1 : l.any (fun i => i.toNat == x.toNat) = false := by
        rw [List.any_eq_false]
        intro y hy h2
        have h3 : y.toNat = x.toNat := by simpa using h2
        obtain ⟨g1, g2⟩ := hl y hy
        exact hm (by rw [show x = y by omega]; exact hy)
      simp [hx.1, hx.2, hm, h1]
  · have hm : x ∉ l := fun h => hx (hl x h)
    have : ¬ (0 ≤ x ∧ x < 512) := hx
    simp only [hm, decide_false]
    by_cases h0 : 0 ≤ x
    · have h1 : ¬ x < 512 := fun h => hx ⟨h0, h⟩
      simp [h1]
    · simp [h0]

/-! ### constraints: filtered -/
theorem lessL_trans : ∀ (a b c : List Int), lessL a b = true → lessL b c = true → lessL a c = true := by
  intro a
  induction a with
  | nil => intro b c h; simp [lessL] at h
  | cons x r ih =>
    intro b c h1 h2
    cases b with
    | nil => simp [lessL] at h1
    | cons y s =>
      cases c with
      | nil => simp [lessL] at h2
      | cons z t =>
        rw [lessL] at h1 h2 ⊢
        by_cases e1 : x = y
        · subst e1
          rw [if_neg (by simp)] at h1
          by_cases e2 : x = z
          · subst e2
            rw [if_neg (by simp)] at h2 ⊢
            exact ih s t h1 h2
          · rw [if_pos e2] at h2 ⊢
            exact h2
        · rw [if_pos e1] at h1
          have h1' : x < y := by simpa using h1
          by_cases e2 : y = z
          · subst e2
            rw [if_pos e1]; exact h1
          · rw [if_pos e2] at h2
            have h2' : y < z := by simpa using h2
            rw [if_pos (by omega)]
            exact decide_eq_true (by omega)
theorem incF_pair {α : Type} (cmp : α → α → Int) (nums : α → List Int) (hc : ∀ x y, decide (0 ≤ cmp x y) = !lessL (nums x) (nums y)) : ∀ l : List α, incF cmp l = true ↔ l.Pairwise (fun x y => lessL (nums x) (nums y) = true) := by
  intro l
  induction l with
  | nil => simp [incF]
  | cons x r ih =>
    cases r with
    | nil => simp [incF]
    | cons y t =>
      rw [incF_cons]
      have h := hc x y
      constructor
      · intro h1
        by_cases h0 : 0 ≤ cmp x y
        · rw [if_pos h0] at h1; cases h1
        · rw [if_neg h0] at h1
          rw [decide_eq_false h0] at h
          have hxy : lessL (nums x) (nums y) = true := by simpa using h.symm
          have hp := ih.1 h1
          refine List.pairwise_cons.2 ⟨fun z hz => ?_, hp⟩
          rcases List.mem_cons.1 hz with rfl | hz
          · exact hxy
          · exact lessL_trans _ _ _ hxy ((List.pairwise_cons.1 hp).1 z hz)
      · intro hp
        obtain ⟨h1, h2⟩ := List.pairwise_cons.1 hp
        have hxy := h1 y (by simp)
        rw [hxy] at h
        have h0 : ¬ 0 ≤ cmp x y := by simpa using h
        rw [if_neg h0]
        exact ih.2 h2
theorem incF_filter {α : Type} (cmp : α → α → Int) (nums : α → List Int) (hc : ∀ x y, decide (0 ≤ cmp x y) = !lessL (nums x) (nums y)) (f : α → Bool) {l : List α} (h : incF cmp l = true) : incF cmp (l.filter f) = true :=
  (incF_pair cmp nums hc _).2 (((incF_pair cmp nums hc l).1 h).sublist List.filter_sublist)
theorem rules_filter {r : Rul} (h : rulesF r = true) (f g : R5 → Bool) (k : R4 → Bool) : rulesF ⟨r.pairs.filter f, r.loads.filter g, r.caps.filter k⟩ = true := by
  simp only [rulesF, Bool.and_eq_true, decide_eq_true_eq] at h ⊢
  obtain ⟨⟨⟨⟨⟨⟨⟨⟨h1, h2⟩, h3⟩, h4⟩, h5⟩, h6⟩, h7⟩, h8⟩, h9⟩ := h
  have e1 := List.length_filter_le f r.pairs
  have e2 := List.length_filter_le g r.loads
  have e3 := List.length_filter_le k r.caps
  have all : ∀ {α : Type} {p q : α → Bool} {l : List α}, l.all p = true → (l.filter q).all p = true := fun {α p q l} h => List.all_eq_true.2 fun x hx => List.all_eq_true.1 h x (List.mem_filter.1 hx).1
  exact ⟨⟨⟨⟨⟨⟨⟨⟨by omega, all h2⟩, incF_filter cmp5 R5.nums cmp5_less f h3⟩, by omega⟩, all h5⟩, incF_filter cmp5 R5.nums cmp5_less g h6⟩, by omega⟩, all h8⟩, incF_filter cmp4 R4.nums cmp4_less k h9⟩

/-! ### bands -/
def bandLists : List (List Int) := [[], [1], [2], [3], [1, 2], [1, 3], [2, 3], [1, 2, 3]]
theorem vbIn_none {b : List Int} (h : vbIn none b = true) : b ∈ bandLists := by
  have key : ∀ (l : List Int) (p : Option Int), vbIn p l = true → (∀ x ∈ l, 1 ≤ x ∧ x ≤ 3 ∧ (∀ q, p = some q → q < x)) ∧ l.Pairwise (· < ·) := by
    intro l
    induction l with
    | nil => intro p _; simp
    | cons x r ih =>
      intro p h
      rw [vbIn] at h
      split at h
      · cases h
      · rename_i hb
        obtain ⟨h1, h2⟩ := ih (some x) h
        have hx1 : ¬ x < 1 := fun h => hb (.inl h)
        have hx3 : ¬ 3 < x := fun h => hb (.inr (.inl h))
        have hxp : ∀ q, p = some q → q < x := by
          rintro q rfl
          have : ¬ notUp (some q) x = true := fun h => hb (.inr (.inr h))
          simp [notUp] at this
          exact this
        have hr : ∀ y ∈ r, x < y := fun y hy => (h1 y hy).2.2 x rfl
        refine ⟨fun y hy => ?_, List.pairwise_cons.2 ⟨hr, h2⟩⟩
        rcases List.mem_cons.1 hy with rfl | hy
        · exact ⟨by omega, by omega, hxp⟩
        · exact ⟨(h1 y hy).1, (h1 y hy).2.1, fun q hq => Int.lt_trans (hxp q hq) (hr y hy)⟩
  obtain ⟨h1, h2⟩ := key b none h
  have hv : ∀ x ∈ b, x = 1 ∨ x = 2 ∨ x = 3 := fun x hx => by have := h1 x hx; omega
  unfold bandLists
  match b, hv, h2 with
  | [], _, _ => simp
  | [x], hv, _ => rcases hv x (by simp) with rfl | rfl | rfl <;> decide
  | [x, y], hv, h2 =>
    have := (List.pairwise_cons.1 h2).1 y (by simp)
    rcases hv x (by simp) with rfl | rfl | rfl <;> rcases hv y (by simp) with rfl | rfl | rfl <;> first | omega | decide
  | [x, y, z], hv, h2 =>
    have e1 := (List.pairwise_cons.1 h2).1 y (by simp)
    have e2 := (List.pairwise_cons.1 (List.pairwise_cons.1 h2).2).1 z (by simp)
    rcases hv x (by simp) with rfl | rfl | rfl <;> rcases hv y (by simp) with rfl | rfl | rfl <;> rcases hv z (by simp) with rfl | rfl | rfl <;> first | omega | decide
  | x :: y :: z :: u :: r, hv, h2 =>
    have e1 := (List.pairwise_cons.1 h2).1 y (by simp)
    have e2 := (List.pairwise_cons.1 (List.pairwise_cons.1 h2).2).1 z (by simp)
    have e3 := (List.pairwise_cons.1 (List.pairwise_cons.1 (List.pairwise_cons.1 h2).2).2).1 u (by simp)
    have f1 := hv x (by simp)
    have f4 := hv u (by simp)
    omega
theorem bands_chs0 : ∀ e : Fin 11, ∀ b ∈ bandLists, chIn none (b.flatMap fun x => (chF x (keyE e.1)).1) = true ∧ (b.flatMap fun x => (chF x (keyE e.1)).1).length ≤ 50 ∧ (b.flatMap fun x => (chF x (keyE e.1)).1) = (b.flatMap fun x => chR x (keyE e.1) 50) := by decide +kernel
theorem bands_chs {t : Int} (ht : vldT t = true) {b : List Int} (h : vbIn none b = true) : chIn none (b.flatMap fun x => (chF x t).1) = true ∧ (b.flatMap fun x => (chF x t).1).length ≤ 50 ∧ (b.flatMap fun x => (chF x t).1) = (b.flatMap fun x => chR x t 50) := by
  obtain ⟨e, he, rfl⟩ := vldT_key ht
  exact bands_chs0 ⟨e, he⟩ b (vbIn_none h)
theorem vbGo_bands : ∀ (l : List Dom) (p : Option Int), vbGo p l = true → ∀ d ∈ l, vbIn none d.chs = true := by
  intro l
  induction l with
  | nil => intro p _ d h; cases h
  | cons x r ih =>
    intro p h d hd
    rw [vbGo] at h
    split at h
    · cases h
    · split at h
      · rename_i hv
        rcases List.mem_cons.1 hd with rfl | hd
        · exact hv
        · exact ih _ h d hd
      · cases h
/-- both Problems have the same domains -/
theorem dom_agree {t : Int} (ht : vldT t = true) {ds : List Dom} (h : vbGo none ds = true) : ds.map (domOf t) = ds.map (domR t) := by
  refine List.map_congr_left fun d hd => ?_
  unfold domOf domR
  rw [(bands_chs ht (vbGo_bands ds none h d hd)).2.2]

/-! ### the domains of a problem -/
/-- the domains, by what they say -/
def domGoS : Option Int → List (Int × List Int) → Bool
  | _, [] => true
  | prev, d :: r => if stF d.1 = false ∨ notUp prev d.1 = true ∨ 50 < d.2.length then false else if chIn none d.2 then domGoS (some d.1) r else false
theorem domGo_say : ∀ (l : List Dom) (p : Option Int), (∀ d ∈ l, d.len = d.chs.length) → domGo p l = domGoS p (l.map Dom.say) := by
  intro l
  induction l with
  | nil => intro p _; rfl
  | cons x r ih =>
    intro p h
    rw [List.map_cons, domGo, domGoS, ih _ (fun d hd => h d (by simp [hd])), h x (by simp)]
    rfl
theorem domGoS_of {t : Int} (ht : vldT t = true) : ∀ (l : List Dom) (p : Option Int), vbGo p l = true → domGoS p (l.map (domOf t)) = true := by
  intro l
  induction l with
  | nil => intro p _; rfl
  | cons x r ih =>
    intro p h
    have hall := vbGo_bands (x :: r) p h x (by simp)
    rw [vbGo] at h
    split at h
    · cases h
    · rename_i hb
      have h : vbGo (some x.st) r = true := by first | exact h | (rw [hall] at h; simpa using h)
      obtain ⟨c1, c2, _⟩ := bands_chs ht hall
      rw [List.map_cons, domGoS]
      have h0 : ¬ x.st < 0 := fun h => hb (.inl h)
      have h1 : ¬ 512 ≤ x.st := fun h => hb (.inr (.inl h))
      have h2 : ¬ notUp p x.st = true := fun h => hb (.inr (.inr (.inl h)))
      rw [if_neg (by
        rintro (h | h | h)
        · unfold stF domOf at h
          simp at h
          omega
        · exact h2 h
        · unfold domOf at h
          dsimp only at h
          omega)]
      show (if chIn none (x.chs.flatMap fun b => (chF b t).1) = true then _ else _) = true
      rw [if_pos c1]
      exact ih _ h
theorem mem_st_say {ds es : List Dom} (h : ds.map Dom.st = es.map Dom.st) (x : Int) : inD ds x = inD es x := by rw [inD_mem, inD_mem, h]
/-- what band.Problem answers is valid -/
theorem prob_valid {ds : List Dom} {r : Rul} {t : Int} (h1 : vbGo none ds = true) (h2 : rulesF r = true) (h3 : vldT t = true) (hn : ds.length ≤ 512) {es : List Dom} (he : es.map Dom.say = ds.map (domOf t)) (hl : ∀ d ∈ es, d.len = d.chs.length) :
    validR es (keepR (ds.map Dom.st) r) = true := by
  have hst : es.map Dom.st = ds.map Dom.st := by
    have := congrArg (List.map Prod.fst) he
    rw [List.map_map, List.map_map] at this
    exact this
  have hlen : es.length = ds.length := by have := congrArg List.length he; simpa using this
  have hk : ∀ x : Int, hasL (ds.map Dom.st) x = inD es x := fun x => by rw [hasL_mem, inD_mem, hst]
  have hd : domGo none es = true := by rw [domGo_say es none hl, he]; exact domGoS_of h3 ds none h1
  have hr : rulesR (keepR (ds.map Dom.st) r) = true := by rw [rules_eq]; exact rules_filter h2 _ _ _
  unfold validR
  rw [hd, hr, decide_eq_true (by omega)]
  simp only [Bool.true_and, Bool.and_eq_true]
  refine ⟨List.all_eq_true.2 fun x hx => ?_, List.all_eq_true.2 fun x hx => ?_, List.all_eq_true.2 fun x hx => ?_⟩
  · have := (List.mem_filter.1 hx).2
    simpa [hk] using this
  · have := (List.mem_filter.1 hx).2
    simpa [hk] using this
  · have := (List.mem_filter.1 hx).2
    simpa [hk] using this
/-- both ways of keeping constraints -/
theorem keep_agree {ds : List Dom} (h : vbGo none ds = true) (r : Rul) :
    (⟨r.pairs.filter (fun c => hasS (stS (ds.map Dom.st)) c.a && hasS (stS (ds.map Dom.st)) c.b), r.loads.filter (fun c => hasS (stS (ds.map Dom.st)) c.a && hasS (stS (ds.map Dom.st)) c.b), r.caps.filter (fun c => hasS (stS (ds.map Dom.st)) c.a)⟩ : Rul) = keepR (ds.map Dom.st) r := by
  have hk : ∀ x : Int, hasS (stS (ds.map Dom.st)) x = hasL (ds.map Dom.st) x := fun x => by
    rw [hasS_mem (fun y hy => by obtain ⟨d, hd, rfl⟩ := List.mem_map.1 hy; exact vbGo_st ds none h d hd), hasL_mem]
  unfold keepR
  simp only [hk]
end Go.Proofs.Ytpdhelhngdeoeaa
