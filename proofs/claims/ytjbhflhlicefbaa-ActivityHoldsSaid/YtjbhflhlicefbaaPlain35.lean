/- Plain laws on bidders: a settled one, a changed one. -/
import Derived.Test.YtjbhflhlicefbaaActH
import Derived.Test.YtjbhflhlicefbaaSet
import Derived.Test.YtjbhflhlicefbaaChange
namespace Go.Proofs.Ytjbhflhlicefbaa
open Go.RowKit

theorem vB1_iff (l : List Prod) (x : Bidr) : vBidders l [x] = true ↔ prodValid l = true ∧ 0 ≤ x.id ∧ x.id < 32 ∧ ¬ badB x ∧ fitsF l x.blocks = true ∧ unitsF l x.blocks ≤ x.elig := by
  unfold vBidders
  rw [if_neg (by simp)]
  cases hv : prodValid l with
  | false => simp
  | true =>
    unfold vbGo
    by_cases h1 : x.id ≤ -1 ∨ 32 ≤ x.id
    · rw [if_neg (by simp), if_pos h1]; simp; omega
    · by_cases h2 : badB x
      · rw [if_neg (by simp), if_neg h1, if_pos h2]; simp [h2]
      · cases h3 : fitsF l x.blocks with
        | false => rw [if_neg (by simp), if_neg h1, if_neg h2, if_pos rfl]; simp
        | true =>
          by_cases h4 : x.elig < unitsF l x.blocks
          · rw [if_neg (by simp), if_neg h1, if_neg h2, if_neg (by simp), if_pos h4]; simp; omega
          · rw [if_neg (by simp), if_neg h1, if_neg h2, if_neg (by simp), if_neg h4]; simp [vbGo, h2]; omega

theorem fitsF_set : ∀ (l : List Prod) (bs : List Int) (k : Nat) (p : Prod) (v : Int), fitsF l bs = true → l[k]? = some p → 0 ≤ v → v ≤ p.sup → fitsF l (bs.set k v) = true := by
  intro l
  induction l with
  | nil => intro bs k p v h hp; simp at hp
  | cons q l ih =>
    intro bs k p v h hp h0 h1
    cases bs with
    | nil => simp [fitsF] at h
    | cons y bs =>
      rw [fitsF] at h
      split at h
      · cases h
      · rename_i hn
        cases k with
        | zero =>
          simp at hp
          subst hp
          rw [List.set_cons_zero, fitsF, if_neg (by omega)]
          exact h
        | succ k =>
          rw [List.set_cons_succ, fitsF, if_neg hn]
          exact ih bs k p v h (by simpa using hp) h0 h1

theorem unitsGo_acc : ∀ (l : List Prod) (bs : List Int) (a b : Int), unitsGo l bs (a + b) = unitsGo l bs a + b := by
  intro l
  induction l with
  | nil => intro bs a b; cases bs <;> rfl
  | cons q l ih =>
    intro bs a b
    cases bs with
    | nil => rfl
    | cons y bs => rw [unitsGo, unitsGo, show a + b + y * q.units = a + y * q.units + b by omega, ih]

theorem unitsGo_set : ∀ (l : List Prod) (bs : List Int) (k : Nat) (p : Prod) (y v acc : Int), l[k]? = some p → bs[k]? = some y → unitsGo l (bs.set k v) acc = unitsGo l bs acc + (v - y) * p.units := by
  intro l
  induction l with
  | nil => intro bs k p y v acc hp; simp at hp
  | cons q l ih =>
    intro bs k p y v acc hp hy
    cases bs with
    | nil => simp at hy
    | cons z bs =>
      cases k with
      | zero =>
        simp at hp hy
        subst hp hy
        rw [List.set_cons_zero, unitsGo, unitsGo, ← unitsGo_acc, Int.sub_mul, show acc + z * q.units + (v * q.units - z * q.units) = acc + v * q.units by omega]
      | succ k =>
        rw [List.set_cons_succ, unitsGo, unitsGo]
        exact ih bs k p y v _ (by simpa using hp) (by simpa using hy)

theorem unitsF_set (l : List Prod) (bs : List Int) (k : Nat) (p : Prod) (y v : Int) (hp : l[k]? = some p) (hy : bs[k]? = some y) : unitsF l (bs.set k v) = unitsF l bs + (v - y) * p.units := unitsGo_set l bs k p y v 0 hp hy

/-- a settled bidder -/
theorem settled {l : List Prod} {x : Bidr} (h : vBidders l [x] = true) {pc : Int} (h1 : 1 ≤ pc) (h2 : pc ≤ 100) {ke kw er : Int} (hk : keepF x.elig x.waiv (unitsF l x.blocks) pc = (ke, kw, er)) :
    ke ≤ x.elig ∧ unitsF l x.blocks ≤ ke ∧ kw ≤ x.waiv ∧ good ke 0 pc ∧ (x.waiv = 0 → reqN ke pc ≤ unitsF l x.blocks) ∧ ∀ A n c, vBidders l [⟨x.id, ke, kw, A, n, c, x.blocks⟩] = true := by
  obtain ⟨g1, g2, g3⟩ := set_good h h1 h2
  have g4 := keepF_good g1 g2 g3
  obtain ⟨v1, v2, v3, v4, v5, v6⟩ := (vB1_iff l x).1 h
  rw [hk] at g4
  dsimp only at g4
  generalize hu : unitsF l x.blocks = u at *
  have key : ke ≤ x.elig ∧ u ≤ ke ∧ kw ≤ x.waiv ∧ (x.waiv = 0 → reqN ke pc ≤ u) := by
    unfold keepF at hk
    rw [if_pos ⟨g1, g2, g3⟩] at hk
    split at hk
    · rename_i hr
      simp only [_root_.Prod.mk.injEq] at hk
      obtain ⟨rfl, rfl, _⟩ := hk
      exact ⟨Int.le_refl _, g3, Int.le_refl _, fun _ => hr⟩
    · rename_i hr
      split at hk
      · rename_i hw
        simp only [_root_.Prod.mk.injEq] at hk
        obtain ⟨rfl, rfl, _⟩ := hk
        exact ⟨Int.le_refl _, g3, by omega, fun hz => by omega⟩
      · rename_i hw
        simp only [_root_.Prod.mk.injEq] at hk
        obtain ⟨rfl, rfl, _⟩ := hk
        have q0 : pc * (u * 100 / pc) ≤ u * 100 := Int.mul_ediv_self_le (by omega)
        have q1 : u * 100 / pc ≤ x.elig := by
          unfold reqN at hr
          have h5 : u * 100 < x.elig * pc + 100 := by omega
          have h6 : u * 100 ≤ x.elig * pc := by omega
          exact Int.ediv_le_of_le_mul (by omega) h6
        have q2 : u ≤ u * 100 / pc := by
          rw [Int.le_ediv_iff_mul_le (by omega)]
          exact Int.mul_le_mul_of_nonneg_left h2 g2
        refine ⟨q1, q2, by unfold good at g1; omega, fun _ => ?_⟩
        unfold reqN
        rw [Int.mul_comm] at q0
        omega
  obtain ⟨k1, k2, k3, k4⟩ := key
  unfold good badB at *
  refine ⟨k1, k2, k3, by omega, k4, fun A n c => ?_⟩
  rw [vB1_iff]
  refine ⟨v1, v2, v3, ?_, v5, ?_⟩
  · unfold badB; dsimp only; omega
  · dsimp only; rw [hu]; exact k2

/-- what the room, the limit and the two changes of a valid bidder are -/
theorem changed {l : List Prod} {x : Bidr} (h : vBidders l [x] = true) {k : Nat} (hk : k < l.length) (ch : Int) :
    ∃ rm n next, roomF l x k = (rm, 0) ∧ limF l x k ch = (n, 0) ∧ chF l x.blocks k n = (next, 0) ∧ 0 ≤ rm ∧ rm ≤ 12 ∧ -12 ≤ n ∧ n ≤ 12 ∧ (0 < ch → n ≤ ch ∧ 0 ≤ n) ∧ (ch ≤ 0 → ch ≤ n ∧ n ≤ 0) ∧
      next.length = x.blocks.length ∧ (∀ A m c, vBidders l [⟨x.id, x.elig, x.waiv, A, m, c, next⟩] = true) ∧
      ∀ more, chF l x.blocks k (rm + 1) = (more, 0) → more.length = x.blocks.length ∧ ∀ A m c, vBidders l [⟨x.id, x.elig, x.waiv, A, m, c, more⟩] = false := by
  obtain ⟨p, y, hp, hy, hp', hy', b0, b1, b2, b3, b4, b5, b6, b7⟩ := valid_at h (k := k) hk
  obtain ⟨v1, v2, v3, v4, v5, v6⟩ := (vB1_iff l x).1 h
  have hd : dValid l x.blocks = true := by unfold dValid; rw [v1, v5]; rfl
  have hro : roomF l x k = (roomN p x y (unitsF l x.blocks), 0) := by
    unfold roomF; rw [if_pos ⟨h, by omega, by omega⟩, Int.toNat_natCast, hp', hy']
  have hrg := roomN_ge p x y (unitsF l x.blocks) b1 b6 b3
  have hli : limF l x k ch = (limN (roomN p x y (unitsF l x.blocks)) y ch, 0) := by
    unfold limF; rw [if_pos ⟨h, by omega, by omega⟩, Int.toNat_natCast, hy', hro]
  have hcf : ∀ c, chF l x.blocks k c = if c < -y ∨ p.sup - y < c then ([], 3) else (x.blocks.set k (y + c), 0) := by
    intro c; unfold chF; rw [if_pos ⟨hd, by omega, by omega⟩, Int.toNat_natCast, hp', hy']
  have hq : roomN p x y (unitsF l x.blocks) ≤ (x.elig - unitsF l x.blocks) / p.units ∧ (roomN p x y (unitsF l x.blocks) < p.sup - y → roomN p x y (unitsF l x.blocks) = (x.elig - unitsF l x.blocks) / p.units) := by
    unfold roomN; split <;> omega
  have hset : ∀ v, unitsF l (x.blocks.set k v) = unitsF l x.blocks + (v - y) * p.units := fun v => unitsF_set l x.blocks k p y v hp hy
  have hfs : ∀ v, 0 ≤ v → v ≤ p.sup → fitsF l (x.blocks.set k v) = true := fun v => fitsF_set l x.blocks k p v v5 hp
  generalize hrm : roomN p x y (unitsF l x.blocks) = rm at *
  have hn1 : -y ≤ limN rm y ch ∧ limN rm y ch ≤ rm ∧ (0 < ch → limN rm y ch ≤ ch ∧ 0 ≤ limN rm y ch) ∧ (ch ≤ 0 → ch ≤ limN rm y ch ∧ limN rm y ch ≤ 0) := by
    unfold limN; split
    · omega
    · split <;> omega
  generalize limN rm y ch = n at *
  have hmul : ∀ c : Int, c ≤ (x.elig - unitsF l x.blocks) / p.units → unitsF l x.blocks + c * p.units ≤ x.elig := by
    intro c hc
    have := (Int.le_ediv_iff_mul_le (by omega : 0 < p.units)).1 hc
    omega
  refine ⟨rm, n, x.blocks.set k (y + n), hro, hli, ?_, hrg.1, by omega, by omega, by omega, hn1.2.2.1, hn1.2.2.2, by simp, ?_, ?_⟩
  · rw [hcf, if_neg (by omega)]
  · intro A m c
    rw [vB1_iff]
    refine ⟨v1, v2, v3, v4, hfs _ (by omega) (by omega), ?_⟩
    dsimp only
    rw [hset, show y + n - y = n by omega]
    exact hmul n (by omega)
  · intro more hm
    rw [hcf] at hm
    split at hm
    · simp only [_root_.Prod.mk.injEq] at hm; omega
    · rename_i hlt
      simp only [_root_.Prod.mk.injEq, and_true] at hm
      subst hm
      refine ⟨by simp, fun A m c => ?_⟩
      rw [← Bool.not_eq_true, vB1_iff]
      rintro ⟨_, _, _, _, _, h6⟩
      dsimp only at h6
      rw [hset, show y + (rm + 1) - y = rm + 1 by omega] at h6
      have h7 : rm + 1 ≤ (x.elig - unitsF l x.blocks) / p.units := (Int.le_ediv_iff_mul_le (by omega : 0 < p.units)).2 (by omega)
      have := hq.2 (by omega)
      omega
end Go.Proofs.Ytjbhflhlicefbaa
