/- The reference of layer 18: sum, over. -/
import Derived.Test.YtdpbbhbegehcjaaGreatDoorHol13
import Derived.Test.YtdpbbhbegehcjaaGreatDoorHol14
import Derived.Test.YtdpbbhbegehcjaaGreatDoorHol15
import Derived.Test.YtdpbbhbegehcjaaGreatDoorHol18
set_option maxRecDepth 100000
set_option maxHeartbeats 2000000
namespace Go.Proofs.YtdpbbhbegehcjaaGreatDoor
open Go.RowKit
abbrev DS := List (Int × List Int)
def onlyB (D : DS) (s c : Int) : Bool := D.all fun d => !decide (d.1 = s) || d.2.all fun x => decide (x = c)
def inR (lo c hi : Int) : Bool := decide (lo ≤ c) && decide (c ≤ hi)
theorem inR_iff {lo c hi : Int} : inR lo c hi = true ↔ lo ≤ c ∧ c ≤ hi := by unfold inR; rw [Bool.and_eq_true, decide_eq_true_eq, decide_eq_true_eq]
def bpOne (D : DS) (s c : Int) (x : R5) : Bool := (decide (x.a = s) && (inR x.d c x.e && onlyB D x.b (c + x.c))) || (decide (x.b = s) && (inR x.d (c - x.c) x.e && onlyB D x.a (c - x.c)))
def byPairF (prs : List R5) (D : DS) (s c : Int) : Bool := prs.any (bpOne D s c)
def smOne (D : DS) (u c far : Int) (x : R5) : Bool := decide (x.a = u) && (inR x.d c x.e && (decide (x.b = far) || onlyB D x.b c))
def sumW (l : List R5) : Int := (l.map R5.c).sum
def sumF (lds : List R5) (D : DS) (u c far : Int) : Int := sumW (lds.filter (smOne D u c far))
def ovOne (s c loss : Int) (x : R4) : Bool := decide (x.a = s) && (inR x.c c x.d && decide (x.b < loss))
def overF (caps : List R4) (s c loss : Int) : Bool := caps.any (ovOne s c loss)
def blOne (r : Rul) (D : DS) (s c : Int) (x : R5) : Bool := decide (x.b = s) && (inR x.d c x.e && (onlyB D x.a c && overF r.caps x.a c (sumF r.loads D x.a c s)))
def byLoadF (r : Rul) (D : DS) (s c : Int) : Bool := r.loads.any (blOne r D s c)
def remF (r : Rul) (D : DS) (s c : Int) : Bool := byPairF r.pairs D s c || (overF r.caps s c (sumF r.loads D s c (-1)) || byLoadF r D s c)
def ngGo (D : DS) (s c : Int) : Bool → Chs → Bool
 | has, [] => has
 | has, x :: r => if x.1 = s then ngGo D s c (decide (x.2 = c)) r else if onlyB D x.1 x.2 = true then ngGo D s c has r else false
def remN (r : Rul) (store : List Chs) (D : DS) (s c : Int) : Bool := store.any (fun g => ngGo D s c false g) || remF r D s c
def dropF (D : DS) (s c : Int) : DS := D.map fun d => (d.1, d.2.filter fun x => !(decide (d.1 = s) && decide (x = c)))
def keepF (D : DS) (s c : Int) : DS := D.map fun d => (d.1, if d.1 = s then (if hasL d.2 c then [c] else []) else d.2)
def atD (D : DS) (i : Nat) : Int × List Int := D.getD i (0, [])
def kGo (R : DS → Int → Int → Bool) (i : Nat) : Nat → DS → Bool → DS × Bool
 | 0, D, ag => (D, ag)
 | k + 1, D, ag => if R D (atD D i).1 ((atD D i).2.getD k 0) = true then kGo R i k (dropF D (atD D i).1 ((atD D i).2.getD k 0)) true else kGo R i k D ag
def iGo (R : DS → Int → Int → Bool) : Nat → Nat → DS → Bool → DS × Bool
 | 0, _, D, ag => (D, ag)
 | j + 1, i, D, ag => iGo R j (i + 1) (kGo R i (atD D i).2.length D ag).1 (kGo R i (atD D i).2.length D ag).2
def prGo (R : DS → Int → Int → Bool) : Nat → DS → Option DS
 | 0, _ => none
 | f + 1, D => if (iGo R D.length 0 D false).2 = true then prGo R f (iGo R D.length 0 D false).1 else some (iGo R D.length 0 D false).1
def cntD (D : DS) : Nat := (D.map fun d => d.2.length).sum
def fineD (store : List Chs) (D : DS) : Bool := D.all (fun d => !d.2.isEmpty) && store.all (fun g => !g.isEmpty)
def runD (D : DS) (g : Chs) : DS := g.foldl (fun D x => keepF D x.1 x.2) D
def folF (r : Rul) (D : DS) (store : List Chs) (g : Chs) : Bool := match prGo (remN r store) (cntD (runD D g) + 1) (runD D g) with
 | some D' => !fineD store D'
 | none => true
def nvOne (D : DS) (x : Int × Int) : Bool := match D.find? fun d => decide (d.1 = x.1) with
 | some d => hasL d.2 x.2
 | none => false
def nvF (D : DS) (g : Chs) : Bool := vlGo none g && g.all (nvOne D)
def fstGo (r : Rul) (D : DS) : List Chs → List Chs → Bool
 | _, [] => true
 | pre, g :: rest => if nvF D g = true ∧ folF r D pre g = true then fstGo r D (pre ++ [g]) rest else false
def pvOne (S : List Int) (n k : Nat) (g : Chs) : Bool := vlGo none g && (decide (g.isEmpty = decide (k + 1 = n)) && g.all fun x => hasL S x.1)
def pvGo (S : List Int) (n : Nat) : Nat → List Chs → Bool
 | _, [] => true
 | k, g :: rest => pvOne S n k g && pvGo S n (k + 1) rest
def pvF (x : Prv) : Bool := stOk x.1 && (decide (1 ≤ x.2.length) && (decide (x.2.length ≤ 4096) && pvGo x.1 x.2.length 0 x.2))
def chkF (ds : List Dom) (r : Rul) (x : Prv) : Int :=
 if validP ds r = true ∧ pvF x = true then (if mi (stS x.1) (stS (ds.map Dom.st)) = 0 then (if fstGo (resR (stS x.1) r) ((resD (stS x.1) ds).map Dom.say) [] x.2 = true then 0 else 10) else 9) else 2
def UpD (D : DS) : Prop := ∀ d ∈ D, d.2.Pairwise (· < ·)
theorem up_drop {D : DS} (h : UpD D) (s c : Int) : UpD (dropF D s c) := by
 intro d hd
 obtain ⟨e, he, rfl⟩ := List.mem_map.1 hd
 exact (h e he).filter _
theorem up_keep {D : DS} (h : UpD D) (s c : Int) : UpD (keepF D s c) := by
 intro d hd
 obtain ⟨e, he, rfl⟩ := List.mem_map.1 hd
 dsimp only
 split
 ·split <;> simp
 ·exact h e he
theorem drop_len (D : DS) (s c : Int) : (dropF D s c).length = D.length := List.length_map _
theorem keep_len (D : DS) (s c : Int) : (keepF D s c).length = D.length := List.length_map _
theorem drop_fst (D : DS) (s c : Int) : (dropF D s c).map Prod.fst = D.map Prod.fst := by unfold dropF; rw [List.map_map]; rfl
theorem keep_fst (D : DS) (s c : Int) : (keepF D s c).map Prod.fst = D.map Prod.fst := by unfold keepF; rw [List.map_map]; rfl
theorem atD_drop (D : DS) (s c : Int) (i : Nat) (hi : i < D.length) : atD (dropF D s c) i = ((atD D i).1, (atD D i).2.filter fun x => !(decide ((atD D i).1 = s) && decide (x = c))) := by
 unfold atD dropF
 rw [List.getD_eq_getElem?_getD, List.getElem?_map, List.getD_eq_getElem?_getD, List.getElem?_eq_getElem hi]; rfl
theorem atD_mem {D : DS} {i : Nat} (hi : i < D.length) : atD D i ∈ D := by
 unfold atD
 rw [List.getD_eq_getElem?_getD, List.getElem?_eq_getElem hi]
 exact List.getElem_mem hi
theorem filter_low {l : List Int} (h : l.Pairwise (· < ·)) {k : Nat} (hk : k < l.length) (p : Int → Bool) (hp : ∀ x, p x = false → x = l.getD k 0) : k ≤ (l.filter p).length := by
 have hg : l.getD k 0 = l[k] := by rw [List.getD_eq_getElem?_getD, List.getElem?_eq_getElem hk]; rfl
 rw [hg] at hp
 have e : (l.take k).filter p = l.take k := by
  rw [List.filter_eq_self]
  intro x hx
  obtain ⟨j, hj, rfl⟩ := List.mem_iff_getElem.1 hx
  rw [List.length_take] at hj
  rw [List.getElem_take]
  cases hpx : p l[j] with
  | true => rfl
  | false =>
   have := hp _ hpx
   have := List.pairwise_iff_getElem.1 h j k (by omega) hk (by omega)
   omega
 have h2 : ((l.take k).filter p).length ≤ (l.filter p).length := List.Sublist.length_le ((List.take_sublist k l).filter p)
 rw [e, List.length_take] at h2
 omega
theorem cnt_drop_le (D : DS) (s c : Int) : cntD (dropF D s c) ≤ cntD D := by
 induction D with
 | nil => exact Nat.le_refl _
 | cons d r ih =>
  have e1 : cntD (dropF (d :: r) s c) = (d.2.filter fun x => !(decide (d.1 = s) && decide (x = c))).length + cntD (dropF r s c) := by unfold cntD dropF; simp
  have e2 : cntD (d :: r) = d.2.length + cntD r := by unfold cntD; simp
  have := List.length_filter_le (fun x => !(decide (d.1 = s) && decide (x = c))) d.2
  omega
theorem cnt_drop_lt : ∀ {D : DS} {d : Int × List Int} {c : Int}, d ∈ D → c ∈ d.2 → cntD (dropF D d.1 c) < cntD D
 | e :: r, d, c, hd, hc => by
  have e1 : cntD (dropF (e :: r) d.1 c) = (e.2.filter fun x => !(decide (e.1 = d.1) && decide (x = c))).length + cntD (dropF r d.1 c) := by unfold cntD dropF; simp
  have e2 : cntD (e :: r) = e.2.length + cntD r := by unfold cntD; simp
  have h1 := List.length_filter_le (fun x => !(decide (e.1 = d.1) && decide (x = c))) e.2
  have h2 := cnt_drop_le r d.1 c
  rcases List.mem_cons.1 hd with rfl | hd
  ·have h3 : (d.2.filter fun x => !(decide (d.1 = d.1) && decide (x = c))).length < d.2.length := List.length_filter_lt_length_iff_exists.2 ⟨c, hc, by simp⟩
   omega
  ·have := cnt_drop_lt hd hc
   omega
theorem getD_mem {l : List Int} {k : Nat} (hk : k < l.length) : l.getD k 0 ∈ l := by
 rw [List.getD_eq_getElem?_getD, List.getElem?_eq_getElem hk]; exact List.getElem_mem hk
theorem kGo_keep (R : DS → Int → Int → Bool) (i : Nat) (I : DS → Prop) (hI : ∀ D s c, I D → R D s c = true → I (dropF D s c)) : ∀ (k : Nat) (D : DS) (ag : Bool), I D → I (kGo R i k D ag).1
 | 0, _, _, h => h
 | k + 1, D, ag, h => by
  unfold kGo
  split
  ·rename_i hR; exact kGo_keep R i I hI k _ _ (hI _ _ _ h hR)
  ·exact kGo_keep R i I hI k _ _ h
theorem iGo_keep (R : DS → Int → Int → Bool) (I : DS → Prop) (hI : ∀ D s c, I D → R D s c = true → I (dropF D s c)) : ∀ (j i : Nat) (D : DS) (ag : Bool), I D → I (iGo R j i D ag).1
 | 0, _, _, _, h => h
 | j + 1, i, D, ag, h => by
  unfold iGo
  exact iGo_keep R I hI j _ _ _ (kGo_keep R i I hI _ _ _ h)
theorem prGo_keep (R : DS → Int → Int → Bool) (I : DS → Prop) (hI : ∀ D s c, I D → R D s c = true → I (dropF D s c)) : ∀ (f : Nat) (D D' : DS), I D → prGo R f D = some D' → I D'
 | 0, _, _, _, e => by cases e
 | f + 1, D, D', h, e => by
  unfold prGo at e
  have h1 := iGo_keep R I hI D.length 0 D false h
  split at e
  ·exact prGo_keep R I hI f _ _ h1 e
  ·injection e with e; rw [← e]; exact h1
theorem kGo_cnt (R : DS → Int → Int → Bool) (i : Nat) : ∀ (k : Nat) (D : DS) (ag : Bool), UpD D → i < D.length → k ≤ (atD D i).2.length → cntD (kGo R i k D ag).1 ≤ cntD D ∧ ((kGo R i k D ag).2 = true → ag = true ∨ cntD (kGo R i k D ag).1 < cntD D) ∧ UpD (kGo R i k D ag).1 ∧ (kGo R i k D ag).1.length = D.length
 | 0, D, ag, h, _, _ => ⟨Nat.le_refl _, fun h => .inl h, h, rfl⟩
 | k + 1, D, ag, h, hi, hk => by
  unfold kGo
  split
  ·have hm := atD_mem hi
   have hl : k ≤ (atD (dropF D (atD D i).1 ((atD D i).2.getD k 0)) i).2.length := by
    rw [atD_drop _ _ _ _ hi]
    refine filter_low (h _ hm) hk _ (fun x hx => ?_)
    simp at hx
    simpa using hx
   obtain ⟨h1, _, h3, h4⟩ := kGo_cnt R i k (dropF D (atD D i).1 ((atD D i).2.getD k 0)) true (up_drop h _ _) (by rw [drop_len]; exact hi) hl
   have h5 := cnt_drop_lt hm (getD_mem hk)
   exact ⟨by omega, fun _ => .inr (by omega), h3, by rw [h4, drop_len]⟩
  ·exact kGo_cnt R i k D ag h hi (by omega)
theorem iGo_cnt (R : DS → Int → Int → Bool) : ∀ (j i : Nat) (D : DS) (ag : Bool), UpD D → i + j ≤ D.length → cntD (iGo R j i D ag).1 ≤ cntD D ∧ ((iGo R j i D ag).2 = true → ag = true ∨ cntD (iGo R j i D ag).1 < cntD D) ∧ UpD (iGo R j i D ag).1 ∧ (iGo R j i D ag).1.length = D.length
 | 0, _, D, ag, h, _ => ⟨Nat.le_refl _, fun h => .inl h, h, rfl⟩
 | j + 1, i, D, ag, h, hl => by
  unfold iGo
  obtain ⟨h1, h2, h3, h4⟩ := kGo_cnt R i (atD D i).2.length D ag h (by omega) (Nat.le_refl _)
  obtain ⟨q1, q2, q3, q4⟩ := iGo_cnt R j (i + 1) _ (kGo R i (atD D i).2.length D ag).2 h3 (by rw [h4]; omega)
  refine ⟨by omega, fun e => ?_, q3, by rw [q4, h4]⟩
  rcases q2 e with e | e
  ·rcases h2 e with e | e
   ·exact .inl e
   ·exact .inr (by omega)
  ·exact .inr (by omega)
theorem prGo_ends (R : DS → Int → Int → Bool) : ∀ (f : Nat) (D : DS), UpD D → cntD D < f → ∃ D', prGo R f D = some D'
 | f + 1, D, h, hc => by
  obtain ⟨_, h2, h3, _⟩ := iGo_cnt R D.length 0 D false h (by omega)
  unfold prGo
  split
  ·rename_i e
   rcases h2 e with e | e
   ·cases e
   ·exact prGo_ends R f _ h3 (by omega)
  ·exact ⟨_, rfl⟩
theorem up_run {D : DS} (h : UpD D) (g : Chs) : UpD (runD D g) := by
 unfold runD
 induction g generalizing D with
 | nil => exact h
 | cons x r ih => exact ih (up_keep h _ _)
def Has (l : Chs) (D : DS) : Prop := ∀ d ∈ D, onF l d.1 ∈ d.2
theorem has_drop {l : Chs} {D : DS} {s c : Int} (h : Has l D) (hn : onF l s ≠ c) : Has l (dropF D s c) := by
 intro d hd
 obtain ⟨e, he, rfl⟩ := List.mem_map.1 hd
 refine List.mem_filter.2 ⟨h e he, ?_⟩
 dsimp only
 by_cases h1 : e.1 = s
 ·subst h1; simp [hn]
 ·simp [h1]
theorem has_keep {l : Chs} {D : DS} {s c : Int} (h : Has l D) (hn : onF l s = c) : Has l (keepF D s c) := by
 intro d hd
 obtain ⟨e, he, rfl⟩ := List.mem_map.1 hd
 dsimp only
 have := h e he
 split
 ·rename_i h1
  subst h1
  rw [hn] at this ⊢
  rw [hasL_mem, decide_eq_true this, if_pos rfl]; simp
 ·exact this
theorem has_run {l : Chs} {D : DS} (h : Has l D) : ∀ (g : Chs), (∀ x ∈ g, onF l x.1 = x.2) → Has l (runD D g) := by
 intro g
 unfold runD
 induction g generalizing D with
 | nil => intro _; exact h
 | cons x r ih => intro hg; exact ih (has_keep h (hg x (by simp))) (fun y hy => hg y (by simp [hy]))
theorem only_on {l : Chs} {D : DS} (h : Has l D) {s c : Int} (hs : s ∈ D.map Prod.fst) (ho : onlyB D s c = true) : onF l s = c := by
 obtain ⟨d, hd, rfl⟩ := List.mem_map.1 hs
 unfold onlyB at ho
 rw [List.all_eq_true] at ho
 have h1 := ho d hd
 rw [decide_eq_true rfl, Bool.not_true, Bool.false_or, List.all_eq_true] at h1
 exact of_decide_eq_true (h1 _ (h d hd))
theorem ng_none {D : DS} {s c : Int} : ∀ {g : Chs} {has : Bool}, (∀ x ∈ g, x.1 ≠ s) → ngGo D s c has g = true → has = true ∧ ∀ x ∈ g, onlyB D x.1 x.2 = true
 | [], _, _, h => ⟨h, fun _ hx => (by cases hx)⟩
 | x :: r, has, hn, h => by
  unfold ngGo at h
  rw [if_neg (hn x (by simp))] at h
  split at h
  ·rename_i ho
   obtain ⟨h1, h2⟩ := ng_none (fun y hy => hn y (by simp [hy])) h
   refine ⟨h1, fun y hy => ?_⟩
   rcases List.mem_cons.1 hy with rfl | hy
   ·exact ho
   ·exact h2 y hy
  ·cases h
theorem ng_all {D : DS} {s c : Int} : ∀ {g : Chs} {has : Bool}, g.Pairwise (fun x y => x.1 < y.1) → ngGo D s c has g = true → ∀ x ∈ g, (x.1 = s → x.2 = c) ∧ (x.1 ≠ s → onlyB D x.1 x.2 = true)
 | [], _, _, _ => fun _ hx => (by cases hx)
 | x :: r, has, hp, h => by
  obtain ⟨hp1, hp2⟩ := List.pairwise_cons.1 hp
  unfold ngGo at h
  split at h
  ·rename_i e
   have hn : ∀ y ∈ r, y.1 ≠ s := fun y hy => by have := hp1 y hy; omega
   obtain ⟨h1, h2⟩ := ng_none hn h
   intro y hy
   rcases List.mem_cons.1 hy with rfl | hy
   ·exact ⟨fun _ => of_decide_eq_true h1, fun h => absurd e h⟩
   ·exact ⟨fun h => absurd h (hn y hy), fun _ => h2 y hy⟩
  ·rename_i e
   split at h
   ·rename_i ho
    intro y hy
    rcases List.mem_cons.1 hy with rfl | hy
    ·exact ⟨fun h => absurd h e, fun _ => ho⟩
    ·exact ng_all hp2 h y hy
   ·cases h
theorem sumW_cons (x : R5) (l : List R5) : sumW (x :: l) = x.c + sumW l := by unfold sumW; simp
theorem sumW_bd : ∀ {l : List R5}, (∀ x ∈ l, 1 ≤ x.c ∧ x.c ≤ 1073741824) → 0 ≤ sumW l ∧ sumW l ≤ 1073741824 * (l.length : Int)
 | [], _ => ⟨Int.le_refl _, Int.le_refl _⟩
 | x :: r, h => by
  have := sumW_bd (fun y hy => h y (by simp [hy]) : ∀ y ∈ r, _)
  have := h x (by simp)
  rw [sumW_cons, List.length_cons]
  omega
theorem sumW_le {p q : R5 → Bool} : ∀ {l : List R5}, (∀ x ∈ l, 1 ≤ x.c) → (∀ x ∈ l, p x = true → q x = true) → sumW (l.filter p) ≤ sumW (l.filter q)
 | [], _, _ => Int.le_refl _
 | x :: r, h, hpq => by
  have ih := sumW_le (fun y hy => h y (by simp [hy]) : ∀ y ∈ r, _) (fun y hy => hpq y (by simp [hy]))
  have h1 := h x (by simp)
  have h2 := hpq x (by simp)
  rw [List.filter_cons, List.filter_cons]
  cases hp : p x with
  | true => rw [h2 hp, if_pos rfl, if_pos rfl, sumW_cons, sumW_cons]; omega
  | false =>
   rw [if_neg (by decide)]
   split
   ·rw [sumW_cons]; omega
   ·exact ih
theorem loss_sum (n ch : Int) (l : Chs) : ∀ (rl : List R5) (s : Int), (∀ x ∈ rl, 1 ≤ x.c ∧ x.c ≤ 1073741824) → 0 ≤ s → s + 1073741824 * (rl.length : Int) ≤ 9223372036854775807 → lossGo n ch l s rl = s + sumW (rl.filter (lossB n ch l))
 | [], s, _, _, _ => by show s = s + 0; omega
 | x :: r, s, h, h0, hb => by
  have h1 := h x (by simp)
  rw [List.length_cons] at hb
  rw [lossGo, List.filter_cons]
  split
  ·have e : wrap64 (s + x.c) = s + x.c := by unfold wrap64; omega
   rw [e, loss_sum n ch l r _ (fun y hy => h y (by simp [hy])) (by omega) (by omega), sumW_cons]; omega
  ·exact loss_sum n ch l r _ (fun y hy => h y (by simp [hy])) h0 (by omega)
structure VPr (ds : List Dom) (r : Rul) : Prop where
 dom : ∀ d ∈ ds, (∀ c ∈ d.chs, 2 ≤ c ∧ c ≤ 51) ∧ d.chs.Pairwise (· < ·)
 prs : ∀ x ∈ r.pairs, (x.a ∈ ds.map Dom.st ∧ x.b ∈ ds.map Dom.st) ∧ (-1 ≤ x.c ∧ x.c ≤ 1) ∧ 2 ≤ x.d ∧ x.d ≤ x.e ∧ x.e ≤ 51
 lds : ∀ x ∈ r.loads, (x.a ∈ ds.map Dom.st ∧ x.b ∈ ds.map Dom.st) ∧ (1 ≤ x.c ∧ x.c ≤ 1073741824) ∧ 2 ≤ x.d ∧ x.d ≤ x.e ∧ x.e ≤ 51
 cps : ∀ x ∈ r.caps, x.a ∈ ds.map Dom.st ∧ (0 ≤ x.b ∧ x.b ≤ 1099511627776) ∧ 2 ≤ x.c ∧ x.c ≤ x.d ∧ x.d ≤ 51
 sts : (∀ y ∈ ds.map Dom.st, 0 ≤ y ∧ y < 512) ∧ ds.length ≤ 512 ∧ (∀ d ∈ ds, d.chs.length ≤ 50) ∧ r.pairs.length ≤ 4096 ∧ r.loads.length ≤ 1024 ∧ r.caps.length ≤ 1024
 up : (ds.map Dom.st).Pairwise (· < ·)
theorem vpr {ds : List Dom} {r : Rul} (h : validP ds r = true) : VPr ds r := by
 have hst := valid_st h
 have hup := valid_inc h
 unfold validP validD rulesF goodP goodL goodC goodD spF chGood at h
 simp only [Bool.and_eq_true, List.all_eq_true, decide_eq_true_eq] at h
 obtain ⟨⟨⟨h1, h2⟩, h3⟩, h4, h5, h6⟩ := h
 have hs : ∀ x : Int, hasS (stS (ds.map Dom.st)) x = true → x ∈ ds.map Dom.st := fun x hx => by rw [hasS_mem hst.1, decide_eq_true_eq] at hx; exact hx
 refine ⟨fun d hd => ⟨fun c hc => (h1 d hd).1.2 c hc, ?_⟩, fun x hx => ⟨⟨hs _ (h4 x hx).1, hs _ (h4 x hx).2⟩, ?_⟩, fun x hx => ⟨⟨hs _ (h5 x hx).1, hs _ (h5 x hx).2⟩, ?_⟩, fun x hx => ⟨hs _ (h6 x hx), ?_⟩, hst, hup⟩
 ·have := (h1 d hd).2
  rw [incF_pair cmpF (fun x => [x]) cmpF_less] at this
  refine this.imp (fun {a b} hab => ?_)
  unfold lessL at hab
  split at hab
  ·exact of_decide_eq_true hab
  ·cases hab
 ·have := h2.1.1.1.1.1.1.1.2 x hx; omega
 ·have := h2.1.1.1.1.2 x hx; omega
 ·have := h2.1.2 x hx; omega
section
variable {ds : List Dom} {r : Rul} {l : Chs} {D : DS}
theorem sound_pair (hr : VPr ds r) (ho : okF ds r l true = true) (hD : Has l D) (hm : D.map Prod.fst = ds.map Dom.st) {s c : Int} (h : byPairF r.pairs D s c = true) : onF l s ≠ c := by
 intro e
 unfold byPairF at h
 rw [List.any_eq_true] at h
 obtain ⟨x, hx, h⟩ := h
 obtain ⟨⟨hxa, hxb⟩, hoff, h2, h3, h4⟩ := hr.prs x hx
 unfold okF at ho
 simp only [Bool.and_eq_true, List.all_eq_true] at ho
 have hb := ho.2.2.1 x hx
 have key : ∀ a b : Int, onF l x.a = a → onF l x.b = b → x.d ≤ a → a ≤ x.e → b = a + x.c → b ≠ 0 → False := by
  intro a b ea eb q1 q2 q3 q4
  rw [Bool.not_eq_true'] at hb
  have : bpF x l = true := by
   unfold bpF
   rw [ea, eb]
   have e1 : wrap64 (a + x.c) = a + x.c := by unfold wrap64; omega
   rw [e1, decide_eq_false (show ¬ a = 0 by omega), decide_eq_false q4, decide_eq_true q1, decide_eq_true q2, decide_eq_true q3]; rfl
  rw [hb] at this; cases this
 have hnz : ∀ y ∈ D.map Prod.fst, onF l y ≠ 0 := by
  intro y hy h0
  rw [hm] at hy
  obtain ⟨d, hd, rfl⟩ := List.mem_map.1 hy
  have h1 := ho.1 d hd
  unfold bdF at h1
  rw [h0] at h1
  simp at h1
 unfold bpOne at h
 rw [Bool.or_eq_true] at h
 rcases h with h | h
 ·simp only [Bool.and_eq_true, decide_eq_true_eq, inR_iff] at h
  obtain ⟨rfl, ⟨q1, q2⟩, q3⟩ := h
  have hb' := only_on hD (by rw [hm]; exact hxb) q3
  exact key _ _ e hb' q1 q2 rfl (by have := hnz x.b (by rw [hm]; exact hxb); rwa [hb'] at this)
 ·simp only [Bool.and_eq_true, decide_eq_true_eq, inR_iff] at h
  obtain ⟨rfl, ⟨q1, q2⟩, q3⟩ := h
  have ha' := only_on hD (by rw [hm]; exact hxa) q3
  exact key _ _ ha' e q1 q2 (by omega) (by have := hnz x.b (by rw [hm]; exact hxb); rwa [e] at this)
theorem sound_over (hr : VPr ds r) (ho : okF ds r l true = true) (hD : Has l D) (hm : D.map Prod.fst = ds.map Dom.st) {s c far : Int} (hf : far ∈ ds.map Dom.st → onF l far = c) (h : overF r.caps s c (sumF r.loads D s c far) = true) : onF l s ≠ c := by
 intro e
 unfold overF at h
 rw [List.any_eq_true] at h
 obtain ⟨x, hx, h⟩ := h
 obtain ⟨_, _, h2, h3, h4⟩ := hr.cps x hx
 unfold ovOne at h
 simp only [Bool.and_eq_true, decide_eq_true_eq, inR_iff] at h
 obtain ⟨rfl, ⟨q1, q2⟩, q3⟩ := h
 unfold okF at ho
 simp only [Bool.and_eq_true, List.all_eq_true] at ho
 have hb := ho.2.2.2 x hx
 rw [Bool.not_eq_true'] at hb
 have hw : ∀ y ∈ r.loads, 1 ≤ y.c ∧ y.c ≤ 1073741824 := fun y hy => (hr.lds y hy).2.1
 have hls : lossGo x.a c l 0 r.loads = 0 + sumW (r.loads.filter (lossB x.a c l)) := loss_sum _ _ _ _ _ hw (Int.le_refl _) (by have := hr.sts.2.2.2.2.1; omega)
 have hle : sumF r.loads D x.a c far ≤ sumW (r.loads.filter (lossB x.a c l)) := by
  refine sumW_le (fun y hy => (hw y hy).1) (fun y hy hs => ?_)
  unfold smOne at hs
  simp only [Bool.and_eq_true, Bool.or_eq_true, decide_eq_true_eq, inR_iff] at hs
  obtain ⟨p1, ⟨p2, p3⟩, p4⟩ := hs
  have hyb := (hr.lds y hy).1.2
  have p5 : onF l y.b = c := by
   rcases p4 with p4 | p4
   ·rw [p4] at hyb ⊢; exact hf hyb
   ·exact only_on hD (by rw [hm]; exact hyb) p4
  unfold lossB
  rw [p1, p5, decide_eq_true rfl, decide_eq_true p2, decide_eq_true p3, decide_eq_true rfl]; rfl
 have : bcF r.loads x l = true := by
  unfold bcF
  rw [e, decide_eq_false (show ¬ c = 0 by omega), decide_eq_true q1, decide_eq_true q2, decide_eq_true (show x.b < lossGo x.a c l 0 r.loads by omega)]; rfl
 rw [hb] at this; cases this
theorem sound_rem (hr : VPr ds r) (ho : okF ds r l true = true) (hD : Has l D) (hm : D.map Prod.fst = ds.map Dom.st) {s c : Int} (h : remF r D s c = true) : onF l s ≠ c := by
 unfold remF at h
 rw [Bool.or_eq_true, Bool.or_eq_true] at h
 rcases h with h | h | h
 ·exact sound_pair hr ho hD hm h
 ·exact sound_over (far := -1) hr ho hD hm (fun h => by have := hr.sts.1 (-1) h; omega) h
 ·intro e
  unfold byLoadF at h
  rw [List.any_eq_true] at h
  obtain ⟨x, hx, h⟩ := h
  unfold blOne at h
  simp only [Bool.and_eq_true, decide_eq_true_eq] at h
  obtain ⟨rfl, _, q2, q3⟩ := h
  exact sound_over hr ho hD hm (fun _ => e) q3 (only_on hD (by rw [hm]; exact (hr.lds x hx).1.1) q2)
theorem nv_st {g : Chs} (h : nvF D g = true) : g.Pairwise (fun x y => x.1 < y.1) ∧ ∀ x ∈ g, x.1 ∈ D.map Prod.fst := by
 unfold nvF at h
 rw [Bool.and_eq_true, List.all_eq_true] at h
 refine ⟨(vl_facts g none h.1).2, fun x hx => ?_⟩
 have h1 := h.2 x hx
 unfold nvOne at h1
 cases hf : D.find? fun d => decide (d.1 = x.1) with
 | none => rw [hf] at h1; cases h1
 | some d =>
  have := List.find?_some hf
  exact List.mem_map.2 ⟨d, List.mem_of_find?_eq_some hf, of_decide_eq_true this⟩
theorem sound_remN (hr : VPr ds r) (ho : okF ds r l true = true) (hD : Has l D) (hm : D.map Prod.fst = ds.map Dom.st) {store : List Chs} (hs : ∀ g ∈ store, (g.Pairwise (fun x y => x.1 < y.1) ∧ ∀ x ∈ g, x.1 ∈ ds.map Dom.st) ∧ ∃ x ∈ g, onF l x.1 ≠ x.2) {s c : Int} (h : remN r store D s c = true) : onF l s ≠ c := by
 unfold remN at h
 rw [Bool.or_eq_true] at h
 rcases h with h | h
 ·intro e
  rw [List.any_eq_true] at h
  obtain ⟨g, hg, h⟩ := h
  obtain ⟨⟨h1, h2⟩, x, hx, h3⟩ := hs g hg
  obtain ⟨q1, q2⟩ := ng_all h1 h x hx
  by_cases hxs : x.1 = s
  ·apply h3; rw [hxs, e, q1 hxs]
  ·exact h3 (only_on hD (by rw [hm]; exact h2 x hx) (q2 hxs))
 ·exact sound_rem hr ho hD hm h
theorem run_fst (D : DS) (g : Chs) : (runD D g).map Prod.fst = D.map Prod.fst := by
 unfold runD
 induction g generalizing D with
 | nil => rfl
 | cons x r ih => rw [List.foldl_cons, ih, keep_fst]
theorem say_fst (ds : List Dom) : (ds.map Dom.say).map Prod.fst = ds.map Dom.st := by rw [List.map_map]; rfl
theorem has_start (ho : okF ds r l true = true) : Has l (ds.map Dom.say) := by
 intro d hd
 obtain ⟨e, he, rfl⟩ := List.mem_map.1 hd
 unfold okF at ho
 simp only [Bool.and_eq_true, List.all_eq_true] at ho
 have h1 := ho.1 e he
 unfold bdF at h1
 show onF l e.st ∈ e.chs
 by_cases h0 : onF l e.st = 0
 ·rw [h0] at h1; simp at h1
 ·rw [decide_eq_false h0, hasL_mem] at h1; simpa using h1
theorem sound_fol (hr : VPr ds r) (ho : okF ds r l true = true) {store : List Chs} (hs : ∀ g ∈ store, (g.Pairwise (fun x y => x.1 < y.1) ∧ ∀ x ∈ g, x.1 ∈ ds.map Dom.st) ∧ ∃ x ∈ g, onF l x.1 ≠ x.2) {g : Chs} (h : folF r (ds.map Dom.say) store g = true) : ∃ x ∈ g, onF l x.1 ≠ x.2 := by
 apply Classical.byContradiction
 intro hno
 have hg : ∀ x ∈ g, onF l x.1 = x.2 := fun x hx => Classical.byContradiction fun hn => hno ⟨x, hx, hn⟩
 have h0 : Has l (runD (ds.map Dom.say) g) := has_run (has_start ho) g hg
 have hm : (runD (ds.map Dom.say) g).map Prod.fst = ds.map Dom.st := by rw [run_fst, say_fst]
 have hup : UpD (ds.map Dom.say) := fun d hd => by obtain ⟨e, he, rfl⟩ := List.mem_map.1 hd; exact (hr.dom e he).2
 obtain ⟨D', hD'⟩ := prGo_ends (remN r store) (cntD (runD (ds.map Dom.say) g) + 1) _ (up_run hup g) (Nat.lt_succ_self _)
 obtain ⟨h1, h2⟩ := prGo_keep (remN r store) (fun D => Has l D ∧ D.map Prod.fst = ds.map Dom.st) (fun D s c hI hR => ⟨has_drop hI.1 (sound_remN hr ho hI.1 hI.2 hs hR), by rw [drop_fst]; exact hI.2⟩) _ _ _ ⟨h0, hm⟩ hD'
 unfold folF at h
 rw [hD'] at h
 dsimp only at h
 have : fineD store D' = true := by
  unfold fineD
  rw [Bool.and_eq_true, List.all_eq_true, List.all_eq_true]
  refine ⟨fun d hd => ?_, fun g hg => ?_⟩
  ·have := h1 d hd
   cases he : d.2 with
   | nil => rw [he] at this; cases this
   | cons => rfl
  ·obtain ⟨_, x, hx, _⟩ := hs g hg
   cases g with
   | nil => cases hx
   | cons => rfl
 rw [this] at h; cases h
theorem sound_fst (hr : VPr ds r) (ho : okF ds r l true = true) : ∀ (rest pre : List Chs), (∀ g ∈ pre, (g.Pairwise (fun x y => x.1 < y.1) ∧ ∀ x ∈ g, x.1 ∈ ds.map Dom.st) ∧ ∃ x ∈ g, onF l x.1 ≠ x.2) → [] ∈ rest → fstGo r (ds.map Dom.say) pre rest = true → False
 | [], _, _, h, _ => by cases h
 | g :: rest, pre, hs, hn, h => by
  unfold fstGo at h
  split at h
  ·rename_i hc
   have h1 := sound_fol hr ho hs hc.2
   rcases List.mem_cons.1 hn with rfl | hn
   ·obtain ⟨x, hx, _⟩ := h1; cases hx
   ·refine sound_fst hr ho rest (pre ++ [g]) (fun q hq => ?_) hn h
    rcases List.mem_append.1 hq with hq | hq
    ·exact hs q hq
    ·rw [List.mem_singleton] at hq
     subst hq
     have h2 := nv_st hc.1
     rw [say_fst] at h2
     exact ⟨h2, h1⟩
  ·cases h
end
theorem pv_last {S : List Int} {n : Nat} : ∀ {L : List Chs} {k : Nat}, L ≠ [] → k + L.length = n → pvGo S n k L = true → [] ∈ L
 | [], _, h, _, _ => absurd rfl h
 | g :: rest, k, _, hn, h => by
  unfold pvGo at h
  rw [Bool.and_eq_true] at h
  cases rest with
  | nil =>
   have h1 := h.1
   unfold pvOne at h1
   simp only [Bool.and_eq_true, decide_eq_true_eq] at h1
   have h2 := h1.2.1
   rw [decide_eq_true (by simpa using hn)] at h2
   cases g with
   | nil => simp
   | cons => cases h2
  | cons y z => exact List.mem_cons_of_mem _ (pv_last (by simp) (by simp at hn ⊢; omega) h.2)
theorem pv_empty {x : Prv} (h : pvF x = true) : [] ∈ x.2 := by
 unfold pvF at h
 simp only [Bool.and_eq_true, decide_eq_true_eq] at h
 exact pv_last (fun e => by rw [e] at h; simp at h) (by omega) h.2.2.2
end Go.Proofs.YtdpbbhbegehcjaaGreatDoor

namespace Go.Proofs.YtdpbbhbegehcjaaGreatDoor
open Go.RowKit Go.Shelf
theorem any_yes {α : Type} {xs : List α} {f : α → Bool} {k : Nat} {x : α} (hx : xs[k]? = some x) (hf : f x = true) : xs.any f = true := List.any_eq_true.2 ⟨x, List.mem_of_getElem? hx, hf⟩
theorem any_take {α : Type} {xs : List α} {f : α → Bool} {k : Nat} {x : α} (hx : xs[k]? = some x) (h : (xs.take k).any f = false) (hf : f x = false) : (xs.take (k + 1)).any f = false := by rw [take_snoc hx, List.any_append, h]; simp [hf]
theorem within_any (lo c hi : Int) (w : World) : Calls Tryz.prog 154 #[.int .i64 lo, .int .i64 c, .int .i64 hi] w fun e w' => e = .returned (.bool (inR lo c hi)) ∧ w = w' := by
 by_cases h1 : lo ≤ c
 ·by_cases h2 : c ≤ hi
  ·have HV : Hid (inR lo c hi = true) := Lib.hid (inR_iff.2 ⟨h1, h2⟩)
   go_enter Tryz.func154, Tryz.ntmps154
   go_wp2_with fail
   go_ret
   exact ⟨ret_bool HV.out.symm, rfl⟩
  ·have HV : Hid (inR lo c hi = false) := Lib.hid (by cases h : inR lo c hi with | false => rfl | true => exact absurd (inR_iff.1 h).2 h2)
   go_enter Tryz.func154, Tryz.ntmps154
   go_wp2_with fail
   go_ret
   exact ⟨ret_bool HV.out.symm, rfl⟩
 ·have HV : Hid (inR lo c hi = false) := Lib.hid (by cases h : inR lo c hi with | false => rfl | true => exact absurd (inR_iff.1 h).1 h1)
  go_enter Tryz.func154, Tryz.ntmps154
  go_wp2_with fail
  go_ret
  exact ⟨ret_bool HV.out.symm, rfl⟩
def olOne (s c : Int) (d : Dom) : Bool := !decide (d.st = s) || d.chs.all fun x => decide (x = c)
theorem only_map (D : List Dom) (s c : Int) : onlyB (D.map Dom.say) s c = D.all (olOne s c) := by unfold onlyB; rw [List.all_map]; rfl
theorem onlyb_any (A : Option Addr) (n cp : Nat) (s c : Int) (w : World) (D : List Dom) (hn : n ≤ 9223372036854775807) (hD : DomsAt w w.heap.size A n D) (hd : ∀ d ∈ D, d.len ≤ 9223372036854775807) :
  Calls Tryz.prog 149 #[.slice A n cp, .int .i64 s, .int .i64 c] w fun e w' => e = .returned (.bool (onlyB (D.map Dom.say) s c)) ∧ w = w' := by
 rw [only_map]
 have HD := Lib.hid hD
 have Hlen := Eqn.mk hD.1.1
 have HDL := Lib.hid hd
 have HF : Eqn (D.all (olOne s c)) (D.all (olOne s c)) := rfl
 obtain ⟨ans, hans⟩ : ∃ a, a = D.all (olOne s c) := ⟨_, rfl⟩
 rw [← hans]
 have HF := Eqn.mk hans
 clear hD hd hans
 go_enter Tryz.func149, Tryz.ntmps149
 go_wp2_with fail
 go_loopw [7] (fun i wr => ∃ k : Nat, k ≤ n ∧ i = .int .i64 k ∧ (D.take k).all (olOne s c) = true ∧ w = wr) (fun i _ => n - (intOf i).toNat)
 case atStart => exact ⟨0, Nat.zero_le _, rfl, rfl, rfl⟩
 case round =>
  obtain ⟨k, hk, rfl, hall, rfl⟩ := hrel
  have HAL := Lib.hid hall
  clear hall
  by_cases hlt : k < n
  ·have j0 : (k : Int) < (n : Int) := by omega
   obtain ⟨d, hx⟩ : ∃ d, D[k]? = some d := ⟨_, List.getElem?_eq_getElem (by rw [Hlen.out]; exact hlt)⟩
   have hmem := List.mem_of_getElem? hx
   obtain ⟨b, off, rfl, hbl, hc⟩ := HD.out.1.2 (by omega)
   have y0 : w.cell? ⟨b, off + k * 2, none⟩ = some (.int .i64 d.st) := hc k d hx 0 (by decide)
   have y1 : w.cell? ⟨b, off + k * 2 + 1, none⟩ = some (.slice d.adr d.len d.cap) := hc k d hx 1 (by decide)
   have HROW := Lib.hid (HD.out.2 d hmem)
   have hdl := HDL.out d hmem
   have HYES : Hid (olOne s c d = true → (D.take (k + 1)).all (olOne s c) = true) := Lib.hid (fun h => all_take hx HAL.out h)
   have HNO : Hid (olOne s c d = false → ans = false) := Lib.hid (fun h => by rw [HF.out]; exact all_no hx h)
   clear hc hx hmem HAL HF
   by_cases hs : d.st = s
   ·have d1 : (d.st != s) = false := by simp [hs]
    have HO : Hid (olOne s c d = d.chs.all fun x => decide (x = c)) := Lib.hid (by unfold olOne; rw [decide_eq_true hs]; rfl)
    have HCL := Eqn.mk HROW.out.1
    clear hs
    go_wp2_with fail
    obtain ⟨w1, rfl⟩ : ∃ w1 : World, w1 = w := ⟨_, rfl⟩
    go_loopw [8] (fun i wr => ∃ q : Nat, q ≤ d.len ∧ i = .int .i64 q ∧ ((d.chs.take q).all fun x => decide (x = c)) = true ∧ w1 = wr) (fun i _ => d.len - (intOf i).toNat)
    case atStart => exact ⟨0, Nat.zero_le _, rfl, rfl, rfl⟩
    case round =>
     obtain ⟨q, hq, rfl, hall2, rfl⟩ := hrel
     have HAL2 := Lib.hid hall2
     clear hall2
     by_cases hlt2 : q < d.len
     ·have j1 : (q : Int) < (d.len : Int) := by omega
      obtain ⟨x, hx⟩ : ∃ x, d.chs[q]? = some x := ⟨_, List.getElem?_eq_getElem (by rw [HCL.out]; exact hlt2)⟩
      obtain ⟨b2, o2, e2, hb2, hc2⟩ := HROW.out.2 (by omega)
      rw [e2] at y1
      have y2 : w1.cell? ⟨b2, o2 + q, none⟩ = some (.int .i64 x) := hc2 q x hx
      by_cases hxc : x = c
      ·have d2 : (x != c) = false := by simp [hxc]
       have HN := Lib.hid (all_take hx HAL2.out (by exact decide_eq_true hxc))
       clear hc2 hx hxc HAL2 e2
       go_wp2_with fail
       go_roundw
       case rel => exact ⟨q + 1, hlt2, by go_num, HN.out, trivial⟩
       case measure => simp [intOf]; omega
      ·have d2 : (x != c) = true := by simpa using hxc
       have HV := Lib.hid (HNO.out (by rw [HO.out]; exact all_no hx (by exact decide_eq_false hxc)))
       clear hc2 hx hxc HAL2 e2
       go_wp2_with fail
       go_ret
       exact ⟨ret_bool HV.out.symm, rfl⟩
     ·obtain rfl : q = d.len := by omega
      have j1 : ¬ (d.len : Int) < (d.len : Int) := by omega
      have HN := Lib.hid (HYES.out (by rw [HO.out]; have h := HAL2.out; rwa [List.take_of_length_le (by rw [HCL.out]; exact Nat.le_refl _)] at h))
      clear HAL2
      go_wp2_with fail
      go_roundw
      case rel => exact ⟨k + 1, hlt, by go_num, HN.out, trivial⟩
      case measure => simp [intOf]; omega
   ·have d1 : (d.st != s) = true := by simpa using hs
    have HN := Lib.hid (HYES.out (by unfold olOne; rw [decide_eq_false hs]; rfl))
    clear hs
    go_wp2_with fail
    go_roundw
    case rel => exact ⟨k + 1, hlt, by go_num, HN.out, trivial⟩
    case measure => simp [intOf]; omega
  ·obtain rfl : k = n := by omega
   have HV : Hid (ans = true) := Lib.hid (by rw [HF.out]; have h := HAL.out; rwa [List.take_of_length_le (by rw [Hlen.out]; exact Nat.le_refl _)] at h)
   have j0 : ¬ (k : Int) < (k : Int) := by omega
   clear HAL
   go_wp2_with fail
   go_ret
   exact ⟨ret_bool HV.out.symm, rfl⟩
theorem sumW_app (a b : List R5) : sumW (a ++ b) = sumW a + sumW b := by unfold sumW; rw [List.map_append, List.sum_append]
theorem sum_take {xs : List R5} {f : R5 → Bool} {k : Nat} {x : R5} (hx : xs[k]? = some x) : sumW ((xs.take (k + 1)).filter f) = if f x = true then sumW ((xs.take k).filter f) + x.c else sumW ((xs.take k).filter f) := by
 rw [take_snoc hx, List.filter_append, sumW_app, List.filter_cons]
 split
 ·rw [List.filter_nil, sumW_cons]; show _ + (x.c + 0) = _; omega
 ·rw [List.filter_nil]; show _ + 0 = _; omega
theorem rsum18_any (s : PrbS) (A : Option Addr) (n cp : Nat) (st c far : Int) (w : World) (ds : List Dom) (r : Rul) (hr : VPr ds r) (h : PrbAt w w.heap.size s ds r) (D : List Dom) (hn : n ≤ 9223372036854775807) (hD : DomsAt w w.heap.size A n D) (hd : ∀ d ∈ D, d.len ≤ 9223372036854775807) :
  Calls Tryz.prog 152 #[s.val, .slice A n cp, .int .i64 st, .int .i64 c, .int .i64 far] w (RetPost (.int .i64 (sumF r.loads (D.map Dom.say) st c far)) w.heap.size w) := by
 obtain ⟨p0, hp0⟩ : ∃ q, q = w.heap.size := ⟨_, rfl⟩
 obtain ⟨V0, hV0⟩ : ∃ V, V = w.alloc (.cells #[.slice s.ad s.nd s.cd, .slice s.rs.a0 s.rs.n0 s.rs.c0, .slice s.rs.a1 s.rs.n1 s.rs.c1, .slice s.rs.a2 s.rs.n2 s.rs.c2] 29) := ⟨_, rfl⟩
 have hP0 : Hp w w V0 [.blk p0 29 [.slice s.ad s.nd s.cd, .slice s.rs.a0 s.rs.n0 s.rs.c0, .slice s.rs.a1 s.rs.n1 s.rs.c1, .slice s.rs.a2 s.rs.n2 s.rs.c2]] [] := by
  have h := (Hp.start w).alloc [.slice s.ad s.nd s.cd, .slice s.rs.a0 s.rs.n0 s.rs.c0, .slice s.rs.a1 s.rs.n1 s.rs.c1, .slice s.rs.a2 s.rs.n2 s.rs.c2] 29
  rw [hV0, hp0]; exact h
 have HO := Lib.hid (fun (u v : Int) (W : World) (hb : Below w.heap.size w W) => onlyb_any A n cp u v W D hn (hD.keep hb) hd)
 have HXS := Lib.hid (fun (W : World) (hb : Below w.heap.size w W) => h.2.2.1.keep hb)
 have Hlen := Eqn.mk h.2.2.1.1
 have HVP := Lib.hid hr.lds
 have hn0 : s.rs.n1 ≤ 1024 := by have h1 := hr.sts.2.2.2.2.1; have h2 := h.2.2.1.1; omega
 obtain ⟨ans, hans⟩ : ∃ a, a = sumF r.loads (D.map Dom.say) st c far := ⟨_, rfl⟩
 rw [← hans]
 unfold sumF at hans
 have HF := Eqn.mk hans
 have HP0 := Lib.hid hP0
 unfold PrbS.val
 generalize D.map Dom.say = DS at *
 clear hP0 h hr hD hd hans
 go_enter Tryz.func152, Tryz.ntmps152
 go_upto_region 1 with fail
 rw [← hV0, ← hp0]
 clear hV0 hp0
 go_wp2_with fail
 go_loopw [11, 12] (fun v i wr => ∃ (k : Nat) (S : Int), k ≤ s.rs.n1 ∧ v = .int .i64 S ∧ i = .int .i64 k ∧ Eqn S (sumW ((r.loads.take k).filter (smOne DS st c far))) ∧ Hp w w wr [.blk p0 29 [.slice s.ad s.nd s.cd, .slice s.rs.a0 s.rs.n0 s.rs.c0, .slice s.rs.a1 s.rs.n1 s.rs.c1, .slice s.rs.a2 s.rs.n2 s.rs.c2]] []) (fun _ i _ => s.rs.n1 - (intOf i).toNat)
 case atStart => exact ⟨0, 0, Nat.zero_le _, rfl, rfl, rfl, HP0.out⟩
 case round =>
  clear HP0
  obtain ⟨k, S, hk, rfl, rfl, HS, hP⟩ := hrel
  obtain ⟨wo, rfl⟩ : ∃ wo : World, wo = wr := ⟨_, rfl⟩
  have HP := Lib.hid hP
  have q1 := hP.c 0 2 rfl rfl
  have ql := hP.lt 0 rfl
  by_cases hlt : k < s.rs.n1
  ·have j0 : (k : Int) < (s.rs.n1 : Int) := by omega
   obtain ⟨x, hx⟩ : ∃ x, r.loads[k]? = some x := ⟨_, List.getElem?_eq_getElem (by rw [Hlen.out]; exact hlt)⟩
   have hxv := HVP.out x (List.mem_of_getElem? hx)
   have hST := sum_take (f := smOne DS st c far) hx
   have hSB := sumW_bd (l := (r.loads.take k).filter (smOne DS st c far)) (fun y hy => (HVP.out y (List.mem_of_mem_take (List.mem_filter.1 hy).1)).2.1)
   have hSL : ((r.loads.take k).filter (smOne DS st c far)).length ≤ k := Nat.le_trans (List.length_filter_le _ _) (by rw [List.length_take]; omega)
   rw [← HS.out] at hST hSB
   have hSB2 : 0 ≤ S ∧ S ≤ 1099511627776 := by omega
   obtain ⟨b, off, eA, hbl, hcl⟩ := (HXS.out wo hP.below).2 (by omega)
   rw [eA] at q1
   obtain ⟨x0, x1, x2, x3, x4⟩ := x
   dsimp only at hxv hST
   have HYES : Hid (smOne DS st c far ⟨x0, x1, x2, x3, x4⟩ = true → sumW ((r.loads.take (k + 1)).filter (smOne DS st c far)) = S + x2) := Lib.hid (fun h => by rw [hST, if_pos h])
   have HNO : Hid (smOne DS st c far ⟨x0, x1, x2, x3, x4⟩ = false → sumW ((r.loads.take (k + 1)).filter (smOne DS st c far)) = S) := Lib.hid (fun h => by rw [hST, h, if_neg (by decide)])
   have hw1 : IntKind.i64.wrap (S + x2) = S + x2 := by rw [IntKind.wrap_i64]; omega
   have e0 : wo.cell? ⟨b, off + k * 5, none⟩ = some (.int .i64 x0) := hcl k _ hx 0 (by decide)
   have e1 : wo.cell? ⟨b, off + k * 5 + 1, none⟩ = some (.int .i64 x1) := hcl k _ hx 1 (by decide)
   have e2 : wo.cell? ⟨b, off + k * 5 + 2, none⟩ = some (.int .i64 x2) := hcl k _ hx 2 (by decide)
   have e3 : wo.cell? ⟨b, off + k * 5 + 3, none⟩ = some (.int .i64 x3) := hcl k _ hx 3 (by decide)
   have e4 : wo.cell? ⟨b, off + k * 5 + 4, none⟩ = some (.int .i64 x4) := hcl k _ hx 4 (by decide)
   obtain ⟨V1, hV1⟩ : ∃ V1, V1 = wo.alloc (.cells #[.int .i64 x0, .int .i64 x1, .int .i64 x2, .int .i64 x3, .int .i64 x4] 86) := ⟨_, rfl⟩
   obtain ⟨p1, hp1⟩ : ∃ q, q = wo.heap.size := ⟨_, rfl⟩
   have hP1 := hP.alloc [.int .i64 x0, .int .i64 x1, .int .i64 x2, .int .i64 x3, .int .i64 x4] 86
   rw [show ([.int .i64 x0, .int .i64 x1, .int .i64 x2, .int .i64 x3, .int .i64 x4] : List Value).toArray = #[.int .i64 x0, .int .i64 x1, .int .i64 x2, .int .i64 x3, .int .i64 x4] from rfl, ← hV1, ← hp1] at hP1
   have HP1 := Lib.hid hP1
   have y0 := hP1.c 1 0 rfl rfl
   have y1 := hP1.c 1 1 rfl rfl
   have y2 := hP1.c 1 2 rfl rfl
   have y3 := hP1.c 1 3 rfl rfl
   have y4 := hP1.c 1 4 rfl rfl
   have yl := hP1.lt 1 rfl
   have HB : Eqn (smOne DS st c far ⟨x0, x1, x2, x3, x4⟩) (decide (x0 = st) && (inR x3 c x4 && (decide (x1 = far) || onlyB DS x1 c))) := rfl
   have HI1 := Lib.hid (within_any x3 c x4 V1)
   have HO1 := Lib.hid (HO.out x1 c V1 hP1.below)
   generalize inR x3 c x4 = i1 at *
   generalize onlyB DS x1 c = o1 at *
   generalize smOne DS st c far ⟨x0, x1, x2, x3, x4⟩ = bp at *
   clear hcl hx hP hP1 HO HXS HF HS hST hSB hSL hxv hSB2
   go_upto_region 6 with fail
   rw [← hV1, ← hp1]
   clear hV1 hp1 e0 e1 e2 e3 e4 eA q1 ql
   by_cases h1 : x0 = st
   ·have d1 : (x0 == st) = true := by simpa using h1
    rw [decide_eq_true h1, Bool.true_and] at HB
    clear h1
    cases i1 with
    | true =>
     by_cases h3 : x1 = far
     ·have d3 : (x1 == far) = true := by simpa using h3
      rw [decide_eq_true h3] at HB
      clear h3
      have HN := Lib.hid (HYES.out (HB.out.trans rfl))
      go_wp2_with fail
      refine HI1.out.mono ?_
      rintro e W6 ⟨rfl, rfl⟩
      go_wp2_with fail
      go_roundw
      case rel => exact ⟨k + 1, _, hlt, rfl, by go_num, HN.out.symm, HP1.out.sub (List.Sublist.cons_cons _ (List.nil_sublist _))⟩
      case measure => simp [intOf]; omega
     ·have d3 : (x1 == far) = false := by simpa using h3
      rw [decide_eq_false h3] at HB
      clear h3
      cases o1 with
      | true =>
       have HN := Lib.hid (HYES.out (HB.out.trans rfl))
       go_wp2_with fail
       refine HI1.out.mono ?_
       rintro e W6 ⟨rfl, rfl⟩
       go_wp2_with fail
       refine HO1.out.mono ?_
       rintro e W6 ⟨rfl, rfl⟩
       go_wp2_with fail
       go_roundw
       case rel => exact ⟨k + 1, _, hlt, rfl, by go_num, HN.out.symm, HP1.out.sub (List.Sublist.cons_cons _ (List.nil_sublist _))⟩
       case measure => simp [intOf]; omega
      | false =>
       have HN := Lib.hid (HNO.out (HB.out.trans rfl))
       go_wp2_with fail
       refine HI1.out.mono ?_
       rintro e W6 ⟨rfl, rfl⟩
       go_wp2_with fail
       refine HO1.out.mono ?_
       rintro e W6 ⟨rfl, rfl⟩
       go_wp2_with fail
       go_roundw
       case rel => exact ⟨k + 1, _, hlt, rfl, by go_num, HN.out.symm, HP1.out.sub (List.Sublist.cons_cons _ (List.nil_sublist _))⟩
       case measure => simp [intOf]; omega
    | false =>
     have HN := Lib.hid (HNO.out (HB.out.trans rfl))
     go_wp2_with fail
     refine HI1.out.mono ?_
     rintro e W6 ⟨rfl, rfl⟩
     go_wp2_with fail
     go_roundw
     case rel => exact ⟨k + 1, _, hlt, rfl, by go_num, HN.out.symm, HP1.out.sub (List.Sublist.cons_cons _ (List.nil_sublist _))⟩
     case measure => simp [intOf]; omega
   ·have d1 : (x0 == st) = false := by simpa using h1
    rw [decide_eq_false h1, Bool.false_and] at HB
    clear h1
    have HN := Lib.hid (HNO.out (HB.out.trans rfl))
    go_wp2_with fail
    go_roundw
    case rel => exact ⟨k + 1, _, hlt, rfl, by go_num, HN.out.symm, HP1.out.sub (List.Sublist.cons_cons _ (List.nil_sublist _))⟩
    case measure => simp [intOf]; omega
  ·obtain rfl : k = s.rs.n1 := by omega
   have j0 : ¬ (s.rs.n1 : Int) < (s.rs.n1 : Int) := by omega
   have HV : Hid (S = ans) := Lib.hid (by rw [HF.out, HS.out, List.take_of_length_le (by rw [Hlen.out]; exact Nat.le_refl _)])
   clear hP
   go_wp2_with fail
   go_ret
   exact ⟨ret_int HV.out, HP.out.below⟩
theorem rover18_any (s : PrbS) (st c loss : Int) (w : World) (ds : List Dom) (r : Rul) (hr : VPr ds r) (h : PrbAt w w.heap.size s ds r)  :
  Calls Tryz.prog 151 #[s.val, .int .i64 st, .int .i64 c, .int .i64 loss] w (RetPost (.bool (overF r.caps st c loss)) w.heap.size w) := by
 obtain ⟨p0, hp0⟩ : ∃ q, q = w.heap.size := ⟨_, rfl⟩
 obtain ⟨V0, hV0⟩ : ∃ V, V = w.alloc (.cells #[.slice s.ad s.nd s.cd, .slice s.rs.a0 s.rs.n0 s.rs.c0, .slice s.rs.a1 s.rs.n1 s.rs.c1, .slice s.rs.a2 s.rs.n2 s.rs.c2] 29) := ⟨_, rfl⟩
 have hP0 : Hp w w V0 [.blk p0 29 [.slice s.ad s.nd s.cd, .slice s.rs.a0 s.rs.n0 s.rs.c0, .slice s.rs.a1 s.rs.n1 s.rs.c1, .slice s.rs.a2 s.rs.n2 s.rs.c2]] [] := by
  have h := (Hp.start w).alloc [.slice s.ad s.nd s.cd, .slice s.rs.a0 s.rs.n0 s.rs.c0, .slice s.rs.a1 s.rs.n1 s.rs.c1, .slice s.rs.a2 s.rs.n2 s.rs.c2] 29
  rw [hV0, hp0]; exact h
 have HXS := Lib.hid (fun (W : World) (hb : Below w.heap.size w W) => h.2.2.2.1.keep hb)
 have Hlen := Eqn.mk h.2.2.2.1.1
 have hn0 : s.rs.n2 ≤ 1024 := by have h1 := hr.sts.2.2.2.2.2; have h2 := h.2.2.2.1.1; omega
 obtain ⟨ans, hans⟩ : ∃ a, a = overF r.caps st c loss := ⟨_, rfl⟩
 rw [← hans]
 have HF := Eqn.mk hans
 have HP0 := Lib.hid hP0
 unfold PrbS.val
 clear hP0 h hr hans
 go_enter Tryz.func151, Tryz.ntmps151
 go_upto_region 1 with fail
 rw [← hV0, ← hp0]
 clear hV0 hp0
 go_wp2_with fail
 go_loopw [9] (fun i wr => ∃ k : Nat, k ≤ s.rs.n2 ∧ i = .int .i64 k ∧ (r.caps.take k).any (ovOne st c loss) = false ∧ Hp w w wr [.blk p0 29 [.slice s.ad s.nd s.cd, .slice s.rs.a0 s.rs.n0 s.rs.c0, .slice s.rs.a1 s.rs.n1 s.rs.c1, .slice s.rs.a2 s.rs.n2 s.rs.c2]] []) (fun i _ => s.rs.n2 - (intOf i).toNat)
 case atStart => exact ⟨0, Nat.zero_le _, rfl, rfl, HP0.out⟩
 case round =>
  clear HP0
  obtain ⟨k, hk, rfl, hany, hP⟩ := hrel
  obtain ⟨wo, rfl⟩ : ∃ wo : World, wo = wr := ⟨_, rfl⟩
  have HP := Lib.hid hP
  have HAN := Lib.hid hany
  have q1 := hP.c 0 3 rfl rfl
  have ql := hP.lt 0 rfl
  clear hany
  by_cases hlt : k < s.rs.n2
  ·have j0 : (k : Int) < (s.rs.n2 : Int) := by omega
   obtain ⟨x, hx⟩ : ∃ x, r.caps[k]? = some x := ⟨_, List.getElem?_eq_getElem (by rw [Hlen.out]; exact hlt)⟩
   obtain ⟨b, off, eA, hbl, hcl⟩ := (HXS.out wo hP.below).2 (by omega)
   rw [eA] at q1
   have HYES : Hid (ovOne st c loss x = true → ans = true) := Lib.hid (fun h => by rw [HF.out]; exact any_yes hx h)
   have HNO : Hid (ovOne st c loss x = false → (r.caps.take (k + 1)).any (ovOne st c loss) = false) := Lib.hid (fun h => any_take hx HAN.out h)
   obtain ⟨x0, x1, x2, x3⟩ := x
   have e0 : wo.cell? ⟨b, off + k * 4, none⟩ = some (.int .i64 x0) := hcl k _ hx 0 (by decide)
   have e1 : wo.cell? ⟨b, off + k * 4 + 1, none⟩ = some (.int .i64 x1) := hcl k _ hx 1 (by decide)
   have e2 : wo.cell? ⟨b, off + k * 4 + 2, none⟩ = some (.int .i64 x2) := hcl k _ hx 2 (by decide)
   have e3 : wo.cell? ⟨b, off + k * 4 + 3, none⟩ = some (.int .i64 x3) := hcl k _ hx 3 (by decide)
   obtain ⟨V1, hV1⟩ : ∃ V1, V1 = wo.alloc (.cells #[.int .i64 x0, .int .i64 x1, .int .i64 x2, .int .i64 x3] 88) := ⟨_, rfl⟩
   obtain ⟨p1, hp1⟩ : ∃ q, q = wo.heap.size := ⟨_, rfl⟩
   have hP1 := hP.alloc [.int .i64 x0, .int .i64 x1, .int .i64 x2, .int .i64 x3] 88
   rw [show ([.int .i64 x0, .int .i64 x1, .int .i64 x2, .int .i64 x3] : List Value).toArray = #[.int .i64 x0, .int .i64 x1, .int .i64 x2, .int .i64 x3] from rfl, ← hV1, ← hp1] at hP1
   have HP1 := Lib.hid hP1
   have y0 := hP1.c 1 0 rfl rfl
   have y1 := hP1.c 1 1 rfl rfl
   have y2 := hP1.c 1 2 rfl rfl
   have y3 := hP1.c 1 3 rfl rfl
   have yl := hP1.lt 1 rfl
   have HB : Eqn (ovOne st c loss ⟨x0, x1, x2, x3⟩) (decide (x0 = st) && (inR x2 c x3 && decide (x1 < loss))) := rfl
   have HI1 := Lib.hid (within_any x2 c x3 V1)
   generalize inR x2 c x3 = i1 at *
   generalize ovOne st c loss ⟨x0, x1, x2, x3⟩ = bp at *
   clear hcl hx hP hP1 HXS HF HAN
   go_upto_region 5 with fail
   rw [← hV1, ← hp1]
   clear hV1 hp1 e0 e1 e2 e3 eA q1 ql
   by_cases h1 : x0 = st
   ·have d1 : (x0 == st) = true := by simpa using h1
    rw [decide_eq_true h1, Bool.true_and] at HB
    clear h1
    cases i1 with
    | true =>
     by_cases h3 : x1 < loss
     ·rw [decide_eq_true h3] at HB
      have HV := Lib.hid (HYES.out (HB.out.trans rfl))
      go_wp2_with fail
      refine HI1.out.mono ?_
      rintro e W6 ⟨rfl, rfl⟩
      go_wp2_with fail
      go_ret
      exact ⟨ret_bool HV.out.symm, HP1.out.below⟩
     ·rw [decide_eq_false h3] at HB
      have HN := Lib.hid (HNO.out (HB.out.trans rfl))
      go_wp2_with fail
      refine HI1.out.mono ?_
      rintro e W6 ⟨rfl, rfl⟩
      go_wp2_with fail
      go_roundw
      case rel => exact ⟨k + 1, hlt, by go_num, HN.out, HP1.out.sub (List.Sublist.cons_cons _ (List.nil_sublist _))⟩
      case measure => simp [intOf]; omega
    | false =>
     have HN := Lib.hid (HNO.out (HB.out.trans rfl))
     go_wp2_with fail
     refine HI1.out.mono ?_
     rintro e W6 ⟨rfl, rfl⟩
     go_wp2_with fail
     go_roundw
     case rel => exact ⟨k + 1, hlt, by go_num, HN.out, HP1.out.sub (List.Sublist.cons_cons _ (List.nil_sublist _))⟩
     case measure => simp [intOf]; omega
   ·have d1 : (x0 == st) = false := by simpa using h1
    rw [decide_eq_false h1, Bool.false_and] at HB
    clear h1
    have HN := Lib.hid (HNO.out (HB.out.trans rfl))
    go_wp2_with fail
    go_roundw
    case rel => exact ⟨k + 1, hlt, by go_num, HN.out, HP1.out.sub (List.Sublist.cons_cons _ (List.nil_sublist _))⟩
    case measure => simp [intOf]; omega
  ·obtain rfl : k = s.rs.n2 := by omega
   have j0 : ¬ (s.rs.n2 : Int) < (s.rs.n2 : Int) := by omega
   have HV : Hid (ans = false) := Lib.hid (by rw [HF.out]; have h := HAN.out; rwa [List.take_of_length_le (by rw [Hlen.out]; exact Nat.le_refl _)] at h)
   clear HAN hP
   go_wp2_with fail
   go_ret
   exact ⟨ret_bool HV.out.symm, HP.out.below⟩
end Go.Proofs.YtdpbbhbegehcjaaGreatDoor
