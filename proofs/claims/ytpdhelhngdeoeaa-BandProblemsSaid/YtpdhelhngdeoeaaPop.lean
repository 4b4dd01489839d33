/- The number of one bits, as math/bits counts it: plain arithmetic, nothing of the program. -/
import Derived.WalkKit
namespace Go.Proofs.Ytpdhelhngdeoeaa
namespace Pop

theorem and_split (a b c d : Nat) (hb : b < 256) (hd : d < 256) : (256 * a + b) &&& (256 * c + d) = 256 * (a &&& c) + (b &&& d) := by
  have h1 : ((256 * a + b) &&& (256 * c + d)) / 2 ^ 8 = (256 * a + b) / 2 ^ 8 &&& (256 * c + d) / 2 ^ 8 := Nat.and_div_two_pow
  have h2 : ((256 * a + b) &&& (256 * c + d)) % 2 ^ 8 = (256 * a + b) % 2 ^ 8 &&& (256 * c + d) % 2 ^ 8 := Nat.and_mod_two_pow
  rw [show (2 : Nat) ^ 8 = 256 from rfl] at h1 h2
  rw [show (256 * a + b) / 256 = a by omega, show (256 * c + d) / 256 = c by omega] at h1
  rw [show (256 * a + b) % 256 = b by omega, show (256 * c + d) % 256 = d by omega] at h2
  omega

def M (m : Nat) : Nat → Nat
  | 0 => 0
  | n + 1 => 256 * M m n + m

def p1 (r : Nat) : Nat := (r / 2 &&& 0x55) + (r &&& 0x55)
def p2 (r : Nat) : Nat := (r / 4 &&& 0x33) + (r &&& 0x33)
def y1 (n x : Nat) : Nat := (x / 2 &&& M 0x55 n) + (x &&& M 0x55 n)
def y2 (n x : Nat) : Nat := (x / 4 &&& M 0x33 n) + (x &&& M 0x33 n)
def y3 (n x : Nat) : Nat := (x / 16 + x) &&& M 0x0f n

theorem low1 : ∀ (e : Fin 2) (r : Fin 256), (128 * e.1 + r.1 / 2) &&& 0x55 = r.1 / 2 &&& 0x55 := by decide +kernel
theorem low2 : ∀ (e : Fin 4) (r : Fin 256), (64 * e.1 + r.1 / 4) &&& 0x33 = r.1 / 4 &&& 0x33 := by decide +kernel
theorem p1_lt : ∀ r : Fin 256, p1 r.1 < 256 := by decide +kernel
theorem p2_lt : ∀ r : Fin 256, p2 r.1 < 256 := by decide +kernel

theorem y1_step (n q r : Nat) (hr : r < 256) : y1 (n + 1) (256 * q + r) = 256 * y1 n q + p1 r := by
  unfold y1 p1
  rw [show (256 * q + r) / 2 = 256 * (q / 2) + (128 * (q % 2) + r / 2) by omega]
  rw [M, and_split _ _ _ _ (by omega) (by omega), and_split _ _ _ _ hr (by omega)]
  have := low1 ⟨q % 2, by omega⟩ ⟨r, hr⟩
  simp only at this
  rw [this]
  omega

theorem y2_step (n q r : Nat) (hr : r < 256) : y2 (n + 1) (256 * q + r) = 256 * y2 n q + p2 r := by
  unfold y2 p2
  rw [show (256 * q + r) / 4 = 256 * (q / 4) + (64 * (q % 4) + r / 4) by omega]
  rw [M, and_split _ _ _ _ (by omega) (by omega), and_split _ _ _ _ hr (by omega)]
  have := low2 ⟨q % 4, by omega⟩ ⟨r, hr⟩
  simp only at this
  rw [this]
  omega

def pop8 (r : Nat) : Nat := (List.range 8).countP fun i => r.testBit i
theorem good : ∀ r : Fin 256, p2 (p1 r.1) % 16 ≤ 4 ∧ p2 (p1 r.1) / 16 ≤ 4 ∧ (p2 (p1 r.1) / 16 + p2 (p1 r.1)) % 16 = pop8 r.1 := by decide +kernel
theorem pop8_le (r : Nat) : pop8 r ≤ 8 := by
  have := List.countP_le_length (p := fun i => r.testBit i) (l := List.range 8)
  simpa [pop8] using this

theorem y12 (n q r : Nat) (hr : r < 256) : y2 (n + 1) (y1 (n + 1) (256 * q + r)) = 256 * y2 n (y1 n q) + p2 (p1 r) := by
  rw [y1_step n q r hr, y2_step _ _ _ (p1_lt ⟨r, hr⟩)]

theorem y12_low (n q : Nat) : y2 n (y1 n q) % 16 ≤ 4 := by
  cases n with
  | zero => simp [y2, y1, M]
  | succ n =>
    have h := y12 n (q / 256) (q % 256) (by omega)
    rw [show 256 * (q / 256) + q % 256 = q by omega] at h
    rw [h]
    have := (good ⟨q % 256, by omega⟩).1
    simp only at this
    omega

theorem y123 (n q r : Nat) (hr : r < 256) : y3 (n + 1) (y2 (n + 1) (y1 (n + 1) (256 * q + r))) = 256 * y3 n (y2 n (y1 n q)) + pop8 r := by
  rw [y12 n q r hr]
  have h0 := y12_low n q
  obtain ⟨h1, h2, h3⟩ := good ⟨r, hr⟩
  simp only at h1 h2 h3
  generalize y2 n (y1 n q) = A at *
  generalize p2 (p1 r) = b at *
  unfold y3
  rw [show (256 * A + b) / 16 + (256 * A + b) = 256 * (A / 16 + A) + (16 * (A % 16) + b / 16 + b) by omega]
  rw [M, and_split _ _ _ _ (by omega) (by omega)]
  have h4 := Nat.and_two_pow_sub_one_eq_mod (16 * (A % 16) + b / 16 + b) 4
  rw [show (2 : Nat) ^ 4 - 1 = 0x0f from rfl, show (2 : Nat) ^ 4 = 16 from rfl] at h4
  rw [h4]
  omega

/-- the number of one bits of a word -/
def pop (x : Nat) : Nat := (List.range 64).countP fun i => x.testBit i

theorem tb_low (q r i : Nat) (hr : r < 256) (hi : i < 8) : (256 * q + r).testBit i = r.testBit i := by
  have h := Nat.testBit_two_pow_mul_add q (i := 8) (b := r) (by simpa using hr) i
  rw [show (2 : Nat) ^ 8 = 256 from rfl] at h
  rw [h, if_pos hi]
theorem tb_high (q r i : Nat) (hr : r < 256) : (256 * q + r).testBit (8 + i) = q.testBit i := by
  have h := Nat.testBit_two_pow_mul_add q (i := 8) (b := r) (by simpa using hr) (8 + i)
  rw [show (2 : Nat) ^ 8 = 256 from rfl] at h
  rw [h, if_neg (by omega)]
  congr 1
  omega

theorem count_step (n q r : Nat) (hr : r < 256) : ((List.range (8 + n)).countP fun i => (256 * q + r).testBit i) = pop8 r + (List.range n).countP fun i => q.testBit i := by
  rw [List.range_add, List.countP_append, List.countP_map]
  congr 1
  · apply List.countP_congr
    intro i hi
    rw [tb_low q r i hr (List.mem_range.1 hi)]
  · apply List.countP_congr
    intro i _
    simp only [Function.comp]
    rw [tb_high q r i hr]

theorem pop_bytes (x : Nat) : pop x = pop8 (x % 256) + (pop8 (x / 256 % 256) + (pop8 (x / 256 / 256 % 256) + (pop8 (x / 256 / 256 / 256 % 256) + (pop8 (x / 256 / 256 / 256 / 256 % 256) + (pop8 (x / 256 / 256 / 256 / 256 / 256 % 256) + (pop8 (x / 256 / 256 / 256 / 256 / 256 / 256 % 256) + pop8 (x / 256 / 256 / 256 / 256 / 256 / 256 / 256 % 256))))))) := by
  have step : ∀ n y, ((List.range (8 + n)).countP fun i => y.testBit i) = pop8 (y % 256) + (List.range n).countP fun i => (y / 256).testBit i := by
    intro n y
    have := count_step n (y / 256) (y % 256) (by omega)
    rwa [show 256 * (y / 256) + y % 256 = y by omega] at this
  unfold pop
  rw [show (64 : Nat) = 8 + 56 from rfl, step, show (56 : Nat) = 8 + 48 from rfl, step, show (48 : Nat) = 8 + 40 from rfl, step, show (40 : Nat) = 8 + 32 from rfl, step, show (32 : Nat) = 8 + 24 from rfl, step, show (24 : Nat) = 8 + 16 from rfl, step, show (16 : Nat) = 8 + 8 from rfl, step, show (List.range 8) = List.range (8 + 0) from rfl, step]
  simp

theorem y3_bytes (x : Nat) : y3 8 (y2 8 (y1 8 x)) = pop8 (x % 256) + 256 * (pop8 (x / 256 % 256) + 256 * (pop8 (x / 256 / 256 % 256) + 256 * (pop8 (x / 256 / 256 / 256 % 256) + 256 * (pop8 (x / 256 / 256 / 256 / 256 % 256) + 256 * (pop8 (x / 256 / 256 / 256 / 256 / 256 % 256) + 256 * (pop8 (x / 256 / 256 / 256 / 256 / 256 / 256 % 256) + 256 * pop8 (x / 256 / 256 / 256 / 256 / 256 / 256 / 256 % 256))))))) := by
  have step : ∀ n y, y3 (n + 1) (y2 (n + 1) (y1 (n + 1) y)) = pop8 (y % 256) + 256 * y3 n (y2 n (y1 n (y / 256))) := by
    intro n y
    have := y123 n (y / 256) (y % 256) (by omega)
    rw [show 256 * (y / 256) + y % 256 = y by omega] at this
    omega
  rw [step 7, step 6, step 5, step 4, step 3, step 2, step 1, step 0]
  have : ∀ y, y3 0 y = 0 := fun y => by simp [y3, M]
  rw [this, Nat.mul_zero, Nat.add_zero]

theorem fold_ (a b c d e f g h : Nat) (ha : a ≤ 8) (hb : b ≤ 8) (hc : c ≤ 8) (hd : d ≤ 8) (he : e ≤ 8) (hf : f ≤ 8) (hg : g ≤ 8) (hh : h ≤ 8) (s s1 s2 s3 : Nat)
    (e0 : s = a + 256 * (b + 256 * (c + 256 * (d + 256 * (e + 256 * (f + 256 * (g + 256 * h))))))) (e1 : s1 = s + s / 256) (e2 : s2 = s1 + s1 / 65536) (e3 : s3 = s2 + s2 / 4294967296) :
    s3 % 128 = a + b + c + d + e + f + g + h ∧ s3 < 1302123111085380114 := by
  have f1 : s / 256 = b + 256 * (c + 256 * (d + 256 * (e + 256 * (f + 256 * (g + 256 * h))))) := by omega
  have f2 : s1 = (a + b) + 256 * (b + c) + 65536 * ((c + d) + 256 * (d + e) + 65536 * ((e + f) + 256 * (f + g) + 65536 * ((g + h) + 256 * h))) := by omega
  clear e0 e1 f1
  have f3 : s1 / 65536 = (c + d) + 256 * (d + e) + 65536 * ((e + f) + 256 * (f + g) + 65536 * ((g + h) + 256 * h)) := by omega
  have f4 : s2 = (a + b + c + d) + 256 * (b + c + d + e) + 65536 * (c + d + e + f + 256 * (d + e + f + g)) + 4294967296 * ((e + f + g + h) + 256 * (f + g + h) + 65536 * ((g + h) + 256 * h)) := by omega
  clear e2 f2 f3
  have f5 : s2 / 4294967296 = (e + f + g + h) + 256 * (f + g + h) + 65536 * ((g + h) + 256 * h) := by omega
  have f6 : s3 = (a + b + c + d + e + f + g + h) + 128 * (2 * (b + c + d + e + (f + g + h)) + 512 * (c + d + e + f + (g + h) + 256 * (d + e + f + g + h)) + 33554432 * ((e + f + g + h) + 256 * (f + g + h) + 65536 * ((g + h) + 256 * h))) := by omega
  clear e3 f4 f5
  omega

theorem pop_fold (x s1 s2 s3 : Nat) (e1 : s1 = y3 8 (y2 8 (y1 8 x)) + y3 8 (y2 8 (y1 8 x)) / 256) (e2 : s2 = s1 + s1 / 65536) (e3 : s3 = s2 + s2 / 4294967296) : s3 % 128 = pop x ∧ s3 < 1302123111085380114 := by
  have h := fold_ _ _ _ _ _ _ _ _ (pop8_le _) (pop8_le _) (pop8_le _) (pop8_le _) (pop8_le _) (pop8_le _) (pop8_le _) (pop8_le _) _ s1 s2 s3 (y3_bytes x) e1 e2 e3
  refine ⟨?_, h.2⟩
  rw [h.1, pop_bytes]
  omega

end Pop
end Go.Proofs.Ytpdhelhngdeoeaa
