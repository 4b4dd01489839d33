/- Plain laws for ProductHolds: a catalogue is valid; a product is found at its own place. No program in sight. -/
import Derived.Test.YtpgomblalmnonaaDoorPlC33
import Derived.Test.YtpgomblalmnonaaDoorCtl33
import Derived.Test.YtpgomblalmnonaaDoorFind33
import Derived.Test.YtpgomblalmnonaaDoorParse33
namespace Go.Proofs.YtpgomblalmnonaaDoor
open Go.RowKit

/-- the products of an area from two counts -/
def two (a : Area) (u pr n1 n2 : Int) : List Prod := (if 0 < n1 then [⟨a.id, 1, n1, u, u * pr / 1⟩] else []) ++ (if 0 < n2 then [⟨a.id, 2, n2, u, u * pr / 2⟩] else [])
theorem prodsA_two {imps : List Imp} (h : impsF imps = true) {nb : Nat} (hnb : nb ≤ 12) (pr : Int) (a : Area) : prodsA imps nb pr a = two a (uniF a.people).1 pr (cntC 1 (pctL a.id imps nb)) (cntC 2 (pctL a.id imps nb)) := by
  have h1 := counts_ref (area := a.id) h hnb 1 (by omega)
  have h2 := counts_ref (area := a.id) h hnb 2 (by omega)
  unfold prodsA two
  simp only [prodsU, prodC, List.nil_append]
  simp only [Nat.zero_add, Nat.reduceAdd, h1, h2]
  rfl
theorem cnt12 : ∀ l : List Int, cntC 1 l + cntC 2 l ≤ l.length := by
  intro l
  induction l with
  | nil => simp [cntC]
  | cons x r ih =>
    rw [cntC, cntC, List.length_cons]
    split <;> split <;> omega
theorem pctL_len (area : Int) (l : List Imp) (nb : Nat) : (pctL area l nb).length = nb := by simp [pctL]

theorem res_bd {u pr : Int} (h0 : 1 ≤ u) (h1 : u ≤ 81921) (h2 : 1 ≤ pr) (h3 : pr ≤ 1000000) (c : Int) (hc : c = 1 ∨ c = 2) : 0 ≤ u * pr / c ∧ u * pr / c ≤ 549755813888 := by
  obtain ⟨a, b⟩ := mul_bd2 u pr 81921 1000000 (by omega) h1 (by omega) h3
  rcases hc with rfl | rfl <;> omega

theorem catal_valid {imps : List Imp} (h : impsF imps = true) {nb : Nat} (hnb : nb ≤ 12) {pr : Int} (hp : 1 ≤ pr) (hp' : pr ≤ 1000000) : ∀ (ar : List Area) (pa : Option Int) (prev : Option Prod), areasGo ar pa = true → (∀ q, prev = some q → ∃ x, pa = some x ∧ q.area ≤ x) → refGo (catalL ar imps nb pr) prev = true := by
  intro ar
  induction ar with
  | nil => intro _ _ _ _; rfl
  | cons a r ih =>
    intro pa prev ha hq
    have hbad : ¬ badA a := areasGo_ok (a :: r) pa ha a (by simp)
    have hrest : areasGo r (some a.id) = true ∧ ∀ x, pa = some x → x < a.id := by
      unfold areasGo at ha
      rw [if_neg hbad] at ha
      cases pa with
      | none => exact ⟨by simpa [prevA] using ha, fun x hx => by cases hx⟩
      | some x =>
        by_cases hx : a.id ≤ x
        · rw [if_pos (show prevA (some x) a.id = true from decide_eq_true hx)] at ha
          cases ha
        · rw [if_neg (show ¬ prevA (some x) a.id = true from fun hh => hx (of_decide_eq_true hh))] at ha
          exact ⟨ha, fun y hy => by injection hy with hy; subst hy; omega⟩
    have hprev : ∀ q, prev = some q → q.area < a.id := by
      intro q hqq
      obtain ⟨x, hx, hle⟩ := hq q hqq
      have := hrest.2 x hx
      omega
    have hcat : catalL (a :: r) imps nb pr = two a (uniF a.people).1 pr (cntC 1 (pctL a.id imps nb)) (cntC 2 (pctL a.id imps nb)) ++ catalL r imps nb pr := by
      rw [← prodsA_two h hnb]; rfl
    rw [hcat]
    have hb1 := cntC_bd 1 (pctL a.id imps nb)
    have hb2 := cntC_bd 2 (pctL a.id imps nb)
    have h12 := cnt12 (pctL a.id imps nb)
    rw [pctL_len] at hb1 hb2 h12
    generalize cntC 1 (pctL a.id imps nb) = n1 at *
    generalize cntC 2 (pctL a.id imps nb) = n2 at *
    unfold badA at hbad
    obtain ⟨_, _, hu1, hu2⟩ := uniF_bd (n := a.people) (by omega) (by omega)
    have r1 := res_bd hu1 hu2 hp hp' 1 (.inl rfl)
    have r2 := res_bd hu1 hu2 hp hp' 2 (.inr rfl)
    generalize (uniF a.people).1 = u at *
    have next : ∀ q : Prod, q.area = a.id → refGo (catalL r imps nb pr) (some q) = true := fun q hqa => ih (some a.id) (some q) hrest.1 (fun q' hq' => by injection hq' with hq'; subst hq'; exact ⟨a.id, rfl, by omega⟩)
    have skip : refGo (catalL r imps nb pr) prev = true := by
      refine ih (some a.id) prev hrest.1 (fun q hqq => ⟨a.id, rfl, ?_⟩)
      have := hprev q hqq
      omega
    have g1 : 0 < n1 → ¬ badP ⟨a.id, 1, n1, u, u * pr / 1⟩ := fun hn => by unfold badP; dsimp only; omega
    have g2 : 0 < n2 → ¬ badP ⟨a.id, 2, n2, u, u * pr / 2⟩ := fun hn => by unfold badP; dsimp only; omega
    have g12 : ¬ badQ ⟨a.id, 1, n1, u, u * pr / 1⟩ ⟨a.id, 2, n2, u, u * pr / 2⟩ := by unfold badQ; dsimp only; omega
    have gp : ∀ (q p : Prod), prev = some q → p.area = a.id → ¬ badQ q p := fun q p hqq hpa => by have := hprev q hqq; unfold badQ; omega
    have step : ∀ (p : Prod) (l : List Prod), p.area = a.id → ¬ badP p → refGo l (some p) = true → refGo (p :: l) prev = true := by
      intro p l hpa hnb' hl
      unfold refGo
      rw [if_neg hnb']
      cases hpr : prev with
      | none => exact hl
      | some q => dsimp only; rw [if_neg (gp q p hpr hpa)]; exact hl
    unfold two
    by_cases c1 : 0 < n1
    · rw [if_pos c1]
      by_cases c2 : 0 < n2
      · rw [if_pos c2]
        refine step _ _ rfl (g1 c1) ?_
        show refGo (_ :: catalL r imps nb pr) _ = true
        unfold refGo
        rw [if_neg (g2 c2)]
        dsimp only
        rw [if_neg g12]
        exact next _ rfl
      · rw [if_neg c2]
        exact step _ _ rfl (g1 c1) (next _ rfl)
    · rw [if_neg c1]
      by_cases c2 : 0 < n2
      · rw [if_pos c2]
        exact step _ _ rfl (g2 c2) (next _ rfl)
      · rw [if_neg c2]
        exact skip

def keyP (p : Prod) : Int := 4 * p.area + p.cat
theorem ref_pair : ∀ (l : List Prod) (prev : Option Prod), refGo l prev = true → l.Pairwise (fun p q => keyP p < keyP q) ∧ ∀ q, prev = some q → ¬ badP q → ∀ p ∈ l, keyP q < keyP p := by
  intro l
  induction l with
  | nil => intro _ _; exact ⟨List.Pairwise.nil, fun _ _ _ _ h => by cases h⟩
  | cons p r ih =>
    intro prev h
    have hb : ¬ badP p := refGo_ok (p :: r) prev h p (by simp)
    have hr : refGo r (some p) = true ∧ ∀ q, prev = some q → ¬ badQ q p := by
      unfold refGo at h
      rw [if_neg hb] at h
      cases prev with
      | none => exact ⟨h, fun _ hq => by cases hq⟩
      | some q =>
        dsimp only at h
        split at h
        · cases h
        · rename_i hq
          exact ⟨h, fun q' hq' => by injection hq' with hq'; subst hq'; exact hq⟩
    obtain ⟨i1, i2⟩ := ih (some p) hr.1
    have i3 := i2 p rfl hb
    refine ⟨List.Pairwise.cons i3 i1, fun q hq hqb x hx => ?_⟩
    have hlt : keyP q < keyP p := by
      have := hr.2 q hq
      unfold badQ at this
      unfold badP at hb hqb
      unfold keyP
      omega
    rcases List.mem_cons.1 hx with rfl | hx
    · exact hlt
    · exact Int.lt_trans hlt (i3 x hx)

theorem find_at (a c : Int) : ∀ (l : List Prod) (j : Int) (k : Nat) (p : Prod), l[k]? = some p → p.area = a → p.cat = c → (∀ i q, i < k → l[i]? = some q → ¬ (q.area = a ∧ q.cat = c)) → findGo a c l j = (j + k, 0) := by
  intro l
  induction l with
  | nil => intro _ _ _ h; cases h
  | cons x r ih =>
    intro j k p hk ha hc hno
    cases k with
    | zero =>
      simp at hk
      subst hk
      rw [findGo, if_pos ⟨ha, hc⟩]
      simp
    | succ k =>
      rw [findGo, if_neg (hno 0 x (by omega) rfl), ih (j + 1) k p (by simpa using hk) ha hc (fun i q hi hq => hno (i + 1) q (by omega) (by simpa using hq))]
      congr 1
      omega

/-- a product of a valid list is found at its own place -/
theorem findF_own {l : List Prod} (h : prodValid l = true) {k : Nat} {p : Prod} (hk : l[k]? = some p) : findF l p.area p.cat = ((k : Int), 0) := by
  unfold findF
  rw [if_pos h]
  rw [prodValid_eq] at h
  have hp := (ref_pair l none h).1
  rw [find_at p.area p.cat l 0 k p hk rfl rfl (fun i q hi hq hh => ?_)]
  · simp
  · obtain ⟨h1, e1⟩ := List.getElem?_eq_some_iff.1 hq
    obtain ⟨h2, e2⟩ := List.getElem?_eq_some_iff.1 hk
    have := List.pairwise_iff_getElem.1 hp i k h1 h2 hi
    rw [e1, e2] at this
    unfold keyP at this
    omega

/-- names of two products of a valid list differ -/
theorem names_ne {l : List Prod} (h : prodValid l = true) {i k : Nat} {p q : Prod} (hi : l[i]? = some q) (hk : l[k]? = some p) (hik : i < k) : nameF q.area q.cat ≠ nameF p.area p.cat := by
  intro he
  have ok := pv_ok h
  have oq := ok q (List.mem_of_getElem? hi)
  have op := ok p (List.mem_of_getElem? hk)
  unfold badP at oq op
  have e1 := parseF_yes (a := q.area) (c := q.cat) (by omega) (by omega) (by omega) (by omega) he
  have e2 := parseF_yes (a := p.area) (c := p.cat) (by omega) (by omega) (by omega) (by omega) rfl
  rw [e1] at e2
  have f1 := findF_own h hi
  have f2 := findF_own h hk
  simp only [_root_.Prod.mk.injEq] at e2
  rw [e2.1, e2.2.1] at f1
  rw [f1] at f2
  simp only [_root_.Prod.mk.injEq] at f2
  omega

theorem parse_own {p : Prod} (h : ¬ badP p) : parseF (nameF p.area p.cat) = (p.area, p.cat, 0) := by
  unfold badP at h
  exact parseF_yes (by omega) (by omega) (by omega) (by omega) rfl

/-- more blocks: not fewer of a category -/
theorem cntC_mono (c : Int) (area : Int) (l : List Imp) : ∀ (d n : Nat), cntC c (pctL area l n) ≤ cntC c (pctL area l (n + d)) := by
  intro d
  induction d with
  | zero => intro n; exact Int.le_refl _
  | succ d ih =>
    intro n
    refine Int.le_trans (ih n) ?_
    rw [← Nat.add_assoc, pctL_snoc, cntC_snoc]
    split <;> omega

theorem blkN_cases (c : Int) : blkN c = 0 ∨ ∃ e, e < 11 ∧ c = keyE e ∧ blkN c = 12 - (e : Int) := by
  unfold blkN
  have key : ∀ L : List Nat, (∀ e ∈ L, e < 11) → L.foldr (fun e acc => if c = keyE e then 12 - (e : Int) else acc) 0 = 0 ∨ ∃ e, e < 11 ∧ c = keyE e ∧ L.foldr (fun e acc => if c = keyE e then 12 - (e : Int) else acc) 0 = 12 - (e : Int) := by
    intro L
    induction L with
    | nil => intro _; exact .inl rfl
    | cons x r ih =>
      intro hL
      rw [List.foldr_cons]
      by_cases hx : c = keyE x
      · rw [if_pos hx]
        exact .inr ⟨x, hL x (by simp), hx, rfl⟩
      · rw [if_neg hx]
        exact ih (fun e he => hL e (by simp [he]))
  exact key _ (fun e he => List.mem_range.1 he)
theorem keyE_mono : ∀ (e f : Fin 11), keyE e.1 ≤ keyE f.1 → f.1 ≤ e.1 := by decide +kernel
/-- a greater target has not fewer blocks -/
theorem blkN_mono {c d : Int} (hc : vldT c = true) (hd : vldT d = true) (h : c ≤ d) : (blkN c).toNat ≤ (blkN d).toNat ∧ (blkN d).toNat ≤ 12 := by
  unfold vldT at hc hd
  simp only [bne_iff_ne, ne_eq] at hc hd
  rcases blkN_cases c with h0 | ⟨e, he, rfl, h1⟩
  · exact absurd h0 hc
  · rcases blkN_cases d with h0 | ⟨f, hf, rfl, h2⟩
    · exact absurd h0 hd
    · have := keyE_mono ⟨e, he⟩ ⟨f, hf⟩ h
      simp only at this
      omega

theorem two_more {a : Area} {u pr n1 n2 m1 m2 : Int} (h1 : n1 ≤ m1) (h2 : n2 ≤ m2) {p : Prod} (hp : p ∈ two a u pr n1 n2) : ∃ p' ∈ two a u pr m1 m2, p'.area = p.area ∧ p'.cat = p.cat ∧ p'.units = p.units ∧ p'.res = p.res ∧ p.sup ≤ p'.sup := by
  unfold two at hp ⊢
  rcases List.mem_append.1 hp with h | h
  · by_cases c : 0 < n1
    · rw [if_pos c] at h
      obtain rfl := List.mem_singleton.1 h
      exact ⟨⟨a.id, 1, m1, u, u * pr / 1⟩, List.mem_append.2 (.inl (by rw [if_pos (by omega)]; simp)), rfl, rfl, rfl, rfl, h1⟩
    · rw [if_neg c] at h; cases h
  · by_cases c : 0 < n2
    · rw [if_pos c] at h
      obtain rfl := List.mem_singleton.1 h
      exact ⟨⟨a.id, 2, m2, u, u * pr / 2⟩, List.mem_append.2 (.inr (by rw [if_pos (by omega)]; simp)), rfl, rfl, rfl, rfl, h2⟩
    · rw [if_neg c] at h; cases h

/-- what a catalogue with more blocks holds of a product -/
theorem catal_more {imps : List Imp} (h : impsF imps = true) {nb nb' : Nat} (hle : nb ≤ nb') (hnb : nb' ≤ 12) {pr : Int} {ar : List Area} {p : Prod} (hp : p ∈ catalL ar imps nb pr) :
    ∃ p' ∈ catalL ar imps nb' pr, p'.area = p.area ∧ p'.cat = p.cat ∧ p'.units = p.units ∧ p'.res = p.res ∧ p.sup ≤ p'.sup := by
  obtain ⟨a, ha, hpa⟩ := List.mem_flatMap.1 hp
  rw [prodsA_two h (by omega)] at hpa
  obtain ⟨d, rfl⟩ := Nat.exists_eq_add_of_le hle
  obtain ⟨p', h1, h2⟩ := two_more (cntC_mono 1 a.id imps d nb) (cntC_mono 2 a.id imps d nb) hpa
  refine ⟨p', List.mem_flatMap.2 ⟨a, ha, ?_⟩, h2⟩
  rw [prodsA_two h hnb]
  exact h1

/-- the catalogue of valid arguments -/
theorem ctl_yes {ar : List Area} {imps : List Imp} {cl pr : Int} (h : (ctlF ar imps cl pr).2 = 0) : areasF ar = true ∧ impsF imps = true ∧ vldT cl = true ∧ 1 ≤ pr ∧ pr ≤ 1000000 ∧ knowB ar imps = true ∧ (ctlF ar imps cl pr).1 = catalL ar imps (blkN cl).toNat pr := by
  unfold ctlF at h ⊢
  split at h
  · rename_i hh
    rw [if_pos hh]
    split at h
    · rename_i hk
      rw [if_pos hk]
      obtain ⟨h1, h2, h3, h4⟩ := hh
      unfold withinB at h4
      rw [Bool.and_eq_true, decide_eq_true_eq, decide_eq_true_eq] at h4
      exact ⟨h1, h2, h3, h4.1, h4.2, hk, rfl⟩
    · cases h
  · cases h
theorem ctl_not {ar : List Area} {imps : List Imp} {cl pr : Int} (h : (ctlF ar imps cl pr).2 ≠ 0) : (ctlF ar imps cl pr).1 = [] := by
  unfold ctlF at h ⊢
  split at h
  · rename_i hh
    rw [if_pos hh]
    split at h
    · exact absurd rfl h
    · rename_i hk
      rw [if_neg hk]
  · rename_i hh
    rw [if_neg hh]
theorem ctl_valid {ar : List Area} {imps : List Imp} {cl pr : Int} (h : (ctlF ar imps cl pr).2 = 0) : prodValid (ctlF ar imps cl pr).1 = true := by
  obtain ⟨h1, h2, h3, h4, h5, _, h6⟩ := ctl_yes h
  rw [h6, prodValid_eq]
  exact catal_valid h2 (blkN_mono h3 h3 (Int.le_refl _)).2 h4 h5 ar none none h1 (fun q hq => by cases hq)
/-- with a greater target each product is found, with the same units and reserve, and no smaller supply -/
theorem ctl_more {ar : List Area} {imps : List Imp} {cl cl' pr : Int} (h : (ctlF ar imps cl pr).2 = 0) (h' : (ctlF ar imps cl' pr).2 = 0) (hle : cl ≤ cl') {p : Prod} (hp : p ∈ (ctlF ar imps cl pr).1) :
    ∃ (k : Nat) (p' : Prod), (ctlF ar imps cl' pr).1[k]? = some p' ∧ findF (ctlF ar imps cl' pr).1 p.area p.cat = ((k : Int), 0) ∧ p'.units = p.units ∧ p'.res = p.res ∧ p.sup ≤ p'.sup := by
  have hv := ctl_valid h'
  obtain ⟨_, h2, h3, _, _, _, h6⟩ := ctl_yes h
  obtain ⟨_, _, h3', _, _, _, h6'⟩ := ctl_yes h'
  rw [h6] at hp
  have hm := blkN_mono h3 h3' hle
  obtain ⟨p', hp', e1, e2, e3, e4, e5⟩ := catal_more h2 hm.1 hm.2 hp
  rw [← h6'] at hp'
  obtain ⟨k, hk⟩ := List.mem_iff_getElem?.1 hp'
  have hf := findF_own hv hk
  rw [e1, e2] at hf
  exact ⟨k, p', hk, hf, e3, e4, e5⟩
end Go.Proofs.YtpgomblalmnonaaDoor
