/- Plain laws for Starts and Solve: what solve says where some starts are fixed. No walk. -/
import Derived.Test.YteckijkmcafpaaaPn39
namespace Go.Proofs.Yteckijkmcafpaaa
open Go.RowKit

/-- assignments that agree with fixed starts -/
def agree (n : Nat) (fx x : List Int) : Prop := ∀ i, i < n → ¬ (0 ≤ nth fx i ∧ nth fx i ≠ nth x i)

section
variable {b : Int} {l : List Claim} {ws : List Wish} {wn : List Int} {P : Int → Bool} {B n : Nat}

theorem csOf_pos (hv : validF b l = true) : ∀ c ∈ csOf l, 1 ≤ c := by
  intro c hc
  unfold csOf at hc
  obtain ⟨x, hx, rfl⟩ := List.mem_map.1 hc
  have := (validF_all hv).2.2.2 x hx
  omega

/-- what solve says, as a fact on the list of all assignments -/
theorem dp_fix (h : vwF b l ws = true) (hP : ∀ c ∈ l, P c.win = hasF wn c.win) (hB : b = B) (hn : l.length = n) (fx : List Int) :
    ∃ E : List (List Int), Sol (worthL (psOf l ws wn)) (dpT n B (cnOf l) (nth fx) (valOf (rowsOf n (tabG l P ws (fun _ _ => 0)))) B 0 (2 ^ n - 1)) E ∧ ∀ x, x ∈ E ↔ x ∈ rs (csOf l) (List.replicate B false) ∧ agree n fx x := by
  obtain ⟨hv, hw⟩ := vwF_yes h
  have hva := validF_all hv
  have hcl : (csOf l).length = n := by simp [csOf, hn]
  have hcn : ∀ (i c : Nat), (csOf l)[i]? = some c → cnOf l i = c := fun i c hc => by
    unfold csOf at hc
    rw [List.getElem?_map] at hc
    cases hl : l[i]? with
    | none => rw [hl] at hc; cases hc
    | some y => rw [hl] at hc; injection hc with hc; rw [cnOf_at hl]; exact hc
  have h1 : ∀ j, j < n → 1 ≤ cnOf l j := fun j hj => by
    have hj' : j < (csOf l).length := by omega
    rw [hcn j _ (List.getElem?_eq_getElem hj')]
    exact csOf_pos hv _ (List.getElem_mem hj')
  have hmem := mem_both (cs := csOf l) (B := B) (cn := cnOf l) (csOf_pos hv) hcn (nth fx)
  rw [hcl] at hmem
  have hp : 0 < 2 ^ n := Nat.two_pow_pos _
  have S := sol_dp (n := n) (B := B) (cn := cnOf l) (fx := nth fx) (val := valOf (rowsOf n (tabG l P ws (fun _ _ => 0)))) h1 B 0 (2 ^ n - 1) (by omega) (by omega) (by omega)
  have hwo : ∀ x ∈ rs (csOf l) (List.replicate B false), worth n (valOf (rowsOf n (tabG l P ws (fun _ _ => 0)))) x = worthL (psOf l ws wn) x := by
    intro x hx
    rw [mem_rs _ (csOf_pos hv)] at hx
    obtain ⟨g1, g2, _⟩ := hx
    have hpl : (psOf l ws wn).length = n := by simp [psOf, hn]
    rw [worthL_sum _ x (by rw [g1, hcl, hpl]), hpl]
    unfold worth
    refine congrArg List.sum (List.map_congr_left fun i hi => ?_)
    have hi' := List.mem_range.1 hi
    obtain ⟨c, hc⟩ : ∃ c, l[i]? = some c := ⟨_, List.getElem?_eq_getElem (by omega)⟩
    have g := g2 i c.cnt.toNat (by unfold csOf; rw [List.getElem?_map, hc]; rfl)
    rw [List.length_replicate] at g
    have hcb := hva.2.2.2 c (List.mem_of_getElem? hc)
    have hps : ((psOf l ws wn).map Prod.snd).getD i (fun _ => 0) = fuOf ws wn c.win := by
      apply getD_at
      unfold psOf
      rw [List.getElem?_map, List.getElem?_map, hc]; rfl
    rw [if_neg (by omega), hps, valOf_rows hi' (by omega), tabG_law hv P hc _ ws _ (fun x hx => (vw_ok hv ws none hw x hx).1) (vw_inc ws none hw).1, wishD_zero, hP c (List.mem_of_getElem? hc)]
    rfl
  refine ⟨_, ⟨S.1, S.2.1, fun hne => ?_⟩, fun x => hmem x⟩
  obtain ⟨⟨x, hx, ex⟩, hall⟩ := S.2.2 hne
  exact ⟨⟨x, hx, by rw [← hwo x ((hmem x).1 hx).1]; exact ex⟩, fun y hy => by rw [← hwo y ((hmem y).1 hy).1]; exact hall y hy⟩

/-- there is an assignment -/
def pack : List Nat → Nat → List Int
  | [], _ => []
  | c :: r, at_ => (at_ : Int) :: pack r (at_ + c)
theorem pack_len : ∀ (cs : List Nat) (a : Nat), (pack cs a).length = cs.length := by
  intro cs
  induction cs with
  | nil => intro _; rfl
  | cons c r ih => intro a; rw [pack, List.length_cons, List.length_cons, ih]
theorem pack_ge : ∀ (cs : List Nat) (a i c : Nat), cs[i]? = some c → (a : Int) ≤ nth (pack cs a) i ∧ nth (pack cs a) i + c ≤ a + cs.sum := by
  intro cs
  induction cs with
  | nil => intro a i c h; cases h
  | cons d r ih =>
    intro a i c h
    cases i with
    | zero =>
      simp at h
      subst h
      rw [pack, nth_cons_zero, List.sum_cons]
      omega
    | succ i =>
      have := ih (a + d) i c (by simpa using h)
      rw [pack, nth_cons_succ, List.sum_cons]
      omega
theorem pack_sep : ∀ (cs : List Nat) (a i j ci cj : Nat), i < j → cs[i]? = some ci → cs[j]? = some cj → nth (pack cs a) i + ci ≤ nth (pack cs a) j := by
  intro cs
  induction cs with
  | nil => intro a i j ci cj _ h; cases h
  | cons d r ih =>
    intro a i j ci cj hij hi hj
    cases j with
    | zero => omega
    | succ j =>
      cases i with
      | zero =>
        simp at hi
        subst hi
        have := pack_ge r (a + d) j cj (by simpa using hj)
        rw [pack, nth_cons_zero, nth_cons_succ]
        omega
      | succ i =>
        rw [pack, nth_cons_succ, nth_cons_succ]
        exact ih (a + d) i j ci cj (by omega) (by simpa using hi) (by simpa using hj)
theorem valid_sum : ∀ (l : List Claim) (last left : Int), validGo l last left = true → 0 ≤ left → ((csOf l).sum : Int) ≤ left := by
  intro l
  induction l with
  | nil => intro _ left _ h; simpa [csOf] using h
  | cons c r ih =>
    intro last left h h0
    rw [validGo] at h
    split at h
    · cases h
    · rename_i hb
      unfold badC at hb
      have := ih _ _ h (by omega)
      have e : csOf (c :: r) = c.cnt.toNat :: csOf r := rfl
      rw [e, List.sum_cons]
      omega
theorem rs_ne (hv : validF b l = true) (hB : b = B) : rs (csOf l) (List.replicate B false) ≠ [] := by
  have hs : ((csOf l).sum : Int) ≤ b := by
    have hv' := hv
    unfold validF at hv'
    split at hv'
    · cases hv'
    · exact valid_sum l _ _ hv' (by omega)
  intro e
  have : pack (csOf l) 0 ∈ rs (csOf l) (List.replicate B false) := by
    rw [mem_rs _ (csOf_pos hv)]
    refine ⟨pack_len _ _, fun i c hi => ?_, fun i j ci cj hij hi hj => ?_⟩
    · have := pack_ge (csOf l) 0 i c hi
      rw [List.length_replicate]
      refine ⟨by omega, by omega, fun b _ _ => ?_⟩
      rw [List.getD_eq_getElem?_getD, List.getElem?_replicate]
      split <;> rfl
    · rcases Nat.lt_or_gt_of_ne hij with h | h
      · exact .inl (pack_sep (csOf l) 0 i j ci cj h hi hj)
      · exact .inr (pack_sep (csOf l) 0 j i cj ci h hj hi)
  rw [e] at this
  cases this

/-- the first best assignment -/
theorem first_best (h : vwF b l ws = true) (hB : b = B) (wn : List Int) :
    ∃ v f, srF (psOf l ws wn) (List.replicate B false) = (true, v, f) ∧ f ∈ rs (csOf l) (List.replicate B false) ∧ worthL (psOf l ws wn) f = v ∧ (∀ x ∈ rs (csOf l) (List.replicate B false), worthL (psOf l ws wn) x ≤ v) ∧ ∀ x ∈ rs (csOf l) (List.replicate B false), worthL (psOf l ws wn) x = v → ¬ LexLt x f := by
  obtain ⟨hv, _⟩ := vwF_yes h
  have hne := rs_ne hv hB
  have F := sol_sr (psOf l ws wn) (List.replicate B false)
  have L := lex_rs (csOf l) (List.replicate B false)
  rw [psOf_fst] at F
  rcases F with ⟨hE, _⟩ | ⟨hq, pre, post, hE, e1, e2, e3⟩
  · exact absurd hE hne
  · generalize srF (psOf l ws wn) (List.replicate B false) = q at *
    obtain ⟨q1, q2, q3⟩ := q
    dsimp only at hq hE e1 e2 e3
    rw [hq]
    refine ⟨q2, q3, rfl, by rw [hE]; simp, e1, fun x hx => ?_, fun x hx hw hlt => ?_⟩
    · rw [hE] at hx
      rcases List.mem_append.1 hx with hx | hx
      · exact Int.le_of_lt (e2 x hx)
      · rcases List.mem_cons.1 hx with rfl | hx
        · exact Int.le_of_eq e1
        · exact e3 x hx
    · rw [hE] at hx L
      rcases List.mem_append.1 hx with hx | hx
      · have := e2 x hx; omega
      · rcases List.mem_cons.1 hx with rfl | hx
        · exact lex_irr hlt
        · have h2 : LexLt q3 x := (List.pairwise_cons.1 (List.pairwise_append.1 L).2.1).1 x hx
          obtain ⟨i, a1, a2, a3, a4⟩ := hlt
          obtain ⟨j, b1, b2, b3, b4⟩ := h2
          have nt : ∀ (u v : List Int) (p q : Nat), u.take p = v.take p → q < p → q < u.length → q < v.length → nth u q = nth v q := by
            intro u v p q ht hqp hu hv
            have := congrArg (fun z => z[q]?) ht
            simp only [List.getElem?_take, if_pos hqp, List.getElem?_eq_getElem hu, List.getElem?_eq_getElem hv] at this
            unfold nth
            rw [List.getD_eq_getElem?_getD, List.getD_eq_getElem?_getD, List.getElem?_eq_getElem hu, List.getElem?_eq_getElem hv]
            injection this with this
          rcases Nat.lt_trichotomy i j with h | h | h
          · have := nt q3 x j i b1 h (by omega) (by omega); omega
          · subst h; omega
          · have := nt x q3 i j a1 h (by omega) (by omega); omega

/-- a prefix of starts is fixed -/
def fixP (n : Nat) (f : List Int) (i : Nat) : List Int := f.take i ++ List.replicate (n - i) (-1)
theorem fixP_len {f : List Int} {i : Nat} (hf : f.length = n) (hi : i ≤ n) : (fixP n f i).length = n := by simp [fixP]; omega
theorem nth_fixP {f : List Int} {i j : Nat} (hf : f.length = n) (hi : i ≤ n) : nth (fixP n f i) j = if j < i then nth f j else -1 := by
  unfold fixP nth
  rw [List.getD_eq_getElem?_getD, List.getElem?_append]
  have hl : (f.take i).length = i := by simp; omega
  rw [hl]
  by_cases h : j < i
  · rw [if_pos h, if_pos h, List.getElem?_take, if_pos h, ← List.getD_eq_getElem?_getD]
  · rw [if_neg h, if_neg h, List.getElem?_replicate]
    split <;> rfl
theorem fixP_next {f : List Int} {i : Nat} (hf : f.length = n) (hi : i < n) : (fixP n f i).set i (nth f i) = fixP n f (i + 1) := by
  apply nth_ext
  · rw [List.length_set, fixP_len hf (by omega), fixP_len hf (by omega)]
  · intro j _
    rw [nth_set _ _ _ _ (by rw [fixP_len hf (by omega)]; exact hi), nth_fixP hf (by omega), nth_fixP hf (by omega)]
    by_cases e : j = i
    · subst e; rw [if_pos rfl, if_pos (by omega)]
    · rw [if_neg e]
      by_cases h : j < i
      · rw [if_pos h, if_pos (by omega)]
      · rw [if_neg h, if_neg (by omega)]

/-- the test of Solve at one start -/
theorem solve_test (h : vwF b l ws = true) (hP : ∀ c ∈ l, P c.win = hasF wn c.win) (hB : b = B) (hn : l.length = n) {v : Int} {f : List Int} (hf : f ∈ rs (csOf l) (List.replicate B false)) (hw : worthL (psOf l ws wn) f = v) (hmax : ∀ x ∈ rs (csOf l) (List.replicate B false), worthL (psOf l ws wn) x ≤ v) (hlex : ∀ x ∈ rs (csOf l) (List.replicate B false), worthL (psOf l ws wn) x = v → ¬ LexLt x f) {i : Nat} (hi : i < n) (s : Nat) :
    ((s : Int) = nth f i → 0 < (dpT n B (cnOf l) (nth ((fixP n f i).set i s)) (valOf (rowsOf n (tabG l P ws (fun _ _ => 0)))) B 0 (2 ^ n - 1)).2 ∧ (dpT n B (cnOf l) (nth ((fixP n f i).set i s)) (valOf (rowsOf n (tabG l P ws (fun _ _ => 0)))) B 0 (2 ^ n - 1)).1 = v) ∧
    ((s : Int) < nth f i → ¬ (0 < (dpT n B (cnOf l) (nth ((fixP n f i).set i s)) (valOf (rowsOf n (tabG l P ws (fun _ _ => 0)))) B 0 (2 ^ n - 1)).2 ∧ (dpT n B (cnOf l) (nth ((fixP n f i).set i s)) (valOf (rowsOf n (tabG l P ws (fun _ _ => 0)))) B 0 (2 ^ n - 1)).1 = v)) := by
  obtain ⟨E, S, hE⟩ := dp_fix (wn := wn) h hP hB hn ((fixP n f i).set i s)
  obtain ⟨hv, _⟩ := vwF_yes h
  have hfl : f.length = n := by
    rw [mem_rs _ (csOf_pos hv)] at hf
    have := hf.1
    simpa [csOf, hn] using this
  generalize dpT n B (cnOf l) (nth ((fixP n f i).set i s)) (valOf (rowsOf n (tabG l P ws (fun _ _ => 0)))) B 0 (2 ^ n - 1) = q at *
  have hag : ∀ x, agree n ((fixP n f i).set i s) x → (∀ j, j < i → nth f j < 0 ∨ nth x j = nth f j) ∧ nth x i = s := by
    intro x hx
    refine ⟨fun j hj => ?_, ?_⟩
    · have := hx j (by omega)
      rw [nth_set _ _ _ _ (by rw [fixP_len hfl (by omega)]; exact hi), if_neg (by omega), nth_fixP hfl (by omega), if_pos hj] at this
      omega
    · have := hx i hi
      rw [nth_set _ _ _ _ (by rw [fixP_len hfl (by omega)]; exact hi), if_pos rfl] at this
      omega
  refine ⟨fun hs => ?_, fun hs hh => ?_⟩
  · have hfE : f ∈ E := by
      rw [hE]
      refine ⟨hf, fun j hj hh => ?_⟩
      rw [nth_set _ _ _ _ (by rw [fixP_len hfl (by omega)]; exact hi)] at hh
      by_cases e : j = i
      · subst e; rw [if_pos rfl] at hh; omega
      · rw [if_neg e, nth_fixP hfl (by omega)] at hh
        by_cases h2 : j < i
        · rw [if_pos h2] at hh; exact hh.2 rfl
        · rw [if_neg h2] at hh; omega
    have hne : E ≠ [] := fun e => by rw [e] at hfE; cases hfE
    refine ⟨?_, ?_⟩
    · rw [S.1]
      have := List.length_pos_of_mem hfE
      omega
    · obtain ⟨⟨x, hx, ex⟩, hall⟩ := S.2.2 hne
      have a1 := hall f hfE
      have a2 := hmax x ((hE x).1 hx).1
      omega
  · obtain ⟨h1, h2⟩ := hh
    have hne : E ≠ [] := fun e => by rw [S.1, e] at h1; simp at h1
    obtain ⟨⟨x, hx, ex⟩, _⟩ := S.2.2 hne
    obtain ⟨hx1, hx2⟩ := (hE x).1 hx
    obtain ⟨a1, a2⟩ := hag x hx2
    refine hlex x hx1 (by rw [ex, h2]) ?_
    have hxl : x.length = n := by
      rw [mem_rs _ (csOf_pos hv)] at hx1
      have := hx1.1
      simpa [csOf, hn] using this
    have hf0 : ∀ j, j < n → 0 ≤ nth f j := by
      intro j hj
      rw [mem_rs _ (csOf_pos hv)] at hf
      exact (hf.2.1 j _ (List.getElem?_eq_getElem (by simp [csOf, hn]; exact hj))).1
    refine ⟨i, ?_, by omega, by omega, by omega⟩
    apply nth_ext
    · simp; omega
    · intro j hj
      have hj' : j < i := by simp at hj; omega
      have nt : ∀ (u : List Int), nth (u.take i) j = nth u j := by
        intro u
        unfold nth
        rw [List.getD_eq_getElem?_getD, List.getD_eq_getElem?_getD, List.getElem?_take, if_pos hj']
      rw [nt, nt]
      rcases a1 j hj' with h3 | h3
      · have := hf0 j (by omega); omega
      · exact h3
end
end Go.Proofs.Yteckijkmcafpaaa
