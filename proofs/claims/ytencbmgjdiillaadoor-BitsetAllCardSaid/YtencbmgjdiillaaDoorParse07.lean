/- The contract of Parse: the set of a string. -/
import Derived.Test.YtencbmgjdiillaaDoorMemb
namespace Go.Proofs.YtencbmgjdiillaaDoor
open Go.RowKit

theorem cut_nil : Lib.cut [] [44] = ([], [], false) := by decide
theorem index_ge' (s : List UInt8) : -1 ≤ Lib.index s [44] := Lib.index_ge s [44]
theorem index_cons (c : UInt8) (r : List UInt8) : Lib.index (c :: r) [44] = if c = 44 then 0 else if Lib.index r [44] = -1 then -1 else Lib.index r [44] + 1 := by
  rw [Lib.index]
  by_cases h : c = 44
  · subst h; simp [List.isPrefixOf]
  · have : ((44 : UInt8) == c) = false := by simp; exact fun e => h e.symm
    simp [List.isPrefixOf, this, h]
theorem cut_cons (c : UInt8) (r : List UInt8) : Lib.cut (c :: r) [44] = if c = 44 then ([], r, true) else (c :: (Lib.cut r [44]).1, (Lib.cut r [44]).2.1, (Lib.cut r [44]).2.2) := by
  unfold Lib.cut
  rw [index_cons]
  by_cases h : c = 44
  · simp [h]
  · rw [if_neg h, if_neg h]
    have hg := index_ge' r
    by_cases h1 : Lib.index r [44] = -1
    · rw [if_pos h1, h1]; simp
    · rw [if_neg h1, if_pos (by omega), if_pos (by omega)]
      have : (Lib.index r [44] + 1).toNat = (Lib.index r [44]).toNat + 1 := by omega
      simp [this]
/-- a text in parts, at the commas -/
def splitC : List UInt8 → List (List UInt8)
  | [] => [[]]
  | c :: r => if c = 44 then [] :: splitC r else (c :: (splitC r).headD []) :: (splitC r).tail
theorem splitC_ne (l : List UInt8) : splitC l ≠ [] := by cases l <;> simp [splitC]; split <;> simp
theorem splitC_cut : ∀ l : List UInt8, splitC l = (Lib.cut l [44]).1 :: (if (Lib.cut l [44]).2.2 then splitC (Lib.cut l [44]).2.1 else []) := by
  intro l
  induction l with
  | nil => rw [cut_nil]; rfl
  | cons c r ih =>
    rw [cut_cons, splitC]
    by_cases h : c = 44
    · simp [h]
    · rw [if_neg h, if_neg h]
      dsimp only
      rw [ih]
      rfl
theorem cut_after_lt : ∀ l : List UInt8, (Lib.cut l [44]).2.2 = true → (Lib.cut l [44]).2.1.length < l.length := by
  intro l
  induction l with
  | nil => rw [cut_nil]; intro h; cases h
  | cons c r ih =>
    rw [cut_cons]
    by_cases h : c = 44
    · simp [h]
    · rw [if_neg h]
      dsimp only
      intro h2
      have := ih h2
      simp; omega

theorem cut_after_le : ∀ l : List UInt8, (Lib.cut l [44]).2.1.length ≤ l.length := by
  intro l
  induction l with
  | nil => rw [cut_nil]; simp
  | cons c r ih =>
    rw [cut_cons]
    by_cases h : c = 44
    · simp [h]
    · rw [if_neg h]
      simp; omega

/-- the set of the parts of a text -/
def parGo : List (List UInt8) → Int → Nat → Option Nat
  | [], _, S => some S
  | p :: r, last, S => if (memF p).2 = false ∨ (memF p).1 ≤ last then none else parGo r (memF p).1 (S ||| 2 ^ (memF p).1.toNat)
def bodyOf (s : List UInt8) : List UInt8 := Lib.trimSuffix (Lib.trimPrefix s [123]) [125]
def fenced (s : List UInt8) : Bool := Lib.hasPrefix s [123] && Lib.hasSuffix (Lib.trimPrefix s [123]) [125]
def partsOf (b : List UInt8) : List (List UInt8) := if b = [] then [] else splitC b
/-- the set of a string, and the error -/
def parseF (s : List UInt8) : Nat × Int := if fenced s then (match parGo (partsOf (bodyOf s)) (-1) 0 with | some S => (S, 0) | none => (0, 6)) else (0, 6)

theorem memF_range {p : List UInt8} (h : (memF p).2 = true) : (memF p).1 < 512 := by
  unfold memF at *
  split
  · rename_i hc
    rw [if_pos hc] at h; cases h
  · rename_i hc
    rw [if_neg hc] at h
    cases hn : numGo 0 p with
    | none => rw [hn] at h; cases h
    | some i => rw [hn] at h; simpa using h

theorem cutP_any (l : List UInt8) (w : World) : Calls Tryd.prog 44 #[.string ⟨l.toArray⟩, .string ⟨#[123]⟩] w fun e w' => e = .returned (.tuple #[.string ⟨(Lib.trimPrefix l [123]).toArray⟩, .bool (Lib.hasPrefix l [123])]) ∧ w = w' :=
  (Tryd.strings_CutPrefix ⟨l.toArray⟩ ⟨#[123]⟩ w).mono fun _ _ ⟨h1, h2⟩ => ⟨h1, h2.symm⟩
theorem cutS_any (l : List UInt8) (w : World) (hl : l.length ≤ 100000) : Calls Tryd.prog 45 #[.string ⟨l.toArray⟩, .string ⟨#[125]⟩] w fun e w' => e = .returned (.tuple #[.string ⟨(Lib.trimSuffix l [125]).toArray⟩, .bool (Lib.hasSuffix l [125])]) ∧ w = w' :=
  (Tryd.strings_CutSuffix ⟨l.toArray⟩ ⟨#[125]⟩ w (by rw [str_size]; omega)).mono fun _ _ ⟨h1, h2⟩ => ⟨h1, h2.symm⟩
theorem cut_any (l : List UInt8) (w : World) (hl : l.length ≤ 100000) (hT : Tab w) : Calls Tryd.prog 46 #[.string ⟨l.toArray⟩, .string ⟨#[44]⟩] w (RetPost (.tuple #[.string ⟨(Lib.cut l [44]).1.toArray⟩, .string ⟨(Lib.cut l [44]).2.1.toArray⟩, .bool (Lib.cut l [44]).2.2]) w.heap.size w) := by
  obtain ⟨m, hm⟩ := hT.2.2.2
  exact (Tryd.strings_Cut ⟨l.toArray⟩ ⟨#[44]⟩ m w (by rw [str_size]; omega) hm).mono fun _ _ ⟨h1, n, h2⟩ => ⟨h1, by rw [h2]; exact below_drewN (Below.refl _ _) n⟩

theorem trim_le (s : List UInt8) : (Lib.trimPrefix s [123]).length ≤ s.length ∧ (bodyOf s).length ≤ s.length := by
  have h1 : (Lib.trimPrefix s [123]).length ≤ s.length := by unfold Lib.trimPrefix; split <;> simp
  refine ⟨h1, ?_⟩
  unfold bodyOf Lib.trimSuffix
  split
  · rw [List.length_take]; omega
  · exact h1

/-- how much is left of a text, read off the loop's variables -/
def restOf (b m : Value) : Nat := match b, m with | .string s, .bool true => s.size + 1 | _, _ => 0
theorem restOf_true (b : List UInt8) : restOf (.string ⟨b.toArray⟩) (.bool true) = b.length + 1 := by simp [restOf, str_size]
theorem restOf_false (b : Value) : restOf b (.bool false) = 0 := by cases b <;> rfl

set_option maxHeartbeats 4000000 in
theorem parse_any (s : List UInt8) (w : World) (hl : s.length ≤ 100000) (hT : Tab w) : Calls Tryd.prog 18 #[.string ⟨s.toArray⟩] w (RetPost (.tuple #[sV (parseF s).1, .int .i64 (parseF s).2]) w.heap.size w) := by
  have HT := Lib.hid hT
  obtain ⟨htl, hbl⟩ := trim_le s
  have HP := Lib.hid (fun w => cutP_any s w)
  have HS := Lib.hid (fun w => cutS_any (Lib.trimPrefix s [123]) w (by omega))
  have HC : Hid (∀ (b : List UInt8) (W : World), b.length ≤ 100000 → Tab W → Calls Tryd.prog 46 #[.string ⟨b.toArray⟩, .string ⟨#[44]⟩] W (RetPost (.tuple #[.string ⟨(Lib.cut b [44]).1.toArray⟩, .string ⟨(Lib.cut b [44]).2.1.toArray⟩, .bool (Lib.cut b [44]).2.2]) W.heap.size W)) := Lib.hid (fun b W h1 h2 => cut_any b W h1 h2)
  have HF : Hid (fenced s = (Lib.hasPrefix s [123] && Lib.hasSuffix (Lib.trimPrefix s [123]) [125])) := Lib.hid rfl
  have HPF : Hid (parseF s = if fenced s then (match parGo (partsOf (bodyOf s)) (-1) 0 with | some S => (S, (0 : Int)) | none => (0, 6)) else (0, 6)) := Lib.hid rfl
  rw [show Lib.trimSuffix (Lib.trimPrefix s [123]) [125] = bodyOf s from rfl] at HS
  generalize parseF s = R at *
  generalize bodyOf s = B at *
  generalize Lib.trimPrefix s [123] = P1 at *
  generalize Lib.hasSuffix P1 [125] = ps at *
  generalize Lib.hasPrefix s [123] = pp at *
  generalize fenced s = ff at *
  clear hT
  obtain ⟨R1, R2⟩ := R
  dsimp only
  cases pp with
  | false =>
    have HR : Hid (R1 = 0 ∧ R2 = 6) := Lib.hid (by have h := HF.out; have h2 := HPF.out; simp at h; rw [h] at h2; simpa using h2)
    clear HF HPF
    go_enter Tryd.func18, Tryd.ntmps18
    go_wp2_with fail
    refine (HP.out _).mono ?_
    rintro e w1 ⟨rfl, rfl⟩
    go_wp2_with fail
    refine (HS.out _).mono ?_
    rintro e w1 ⟨rfl, rfl⟩
    go_wp2_with fail
    obtain ⟨rfl, rfl⟩ := HR.out
    rw [sV_zero]
    refine bodyPost_ret (v := .tuple #[.agg #[.int .u64 0, .int .u64 0, .int .u64 0, .int .u64 0, .int .u64 0, .int .u64 0, .int .u64 0, .int .u64 0], .int .i64 6]) (by simp [results, Tryd.results18, go_sem]) rfl ⟨rfl, ?_⟩
    exact (Below.refl _ w).alloc (Nat.le_refl _) _
  | true =>
    cases ps with
    | false =>
      have HR : Hid (R1 = 0 ∧ R2 = 6) := Lib.hid (by have h := HF.out; have h2 := HPF.out; simp at h; rw [h] at h2; simpa using h2)
      clear HF HPF
      go_enter Tryd.func18, Tryd.ntmps18
      go_wp2_with fail
      refine (HP.out _).mono ?_
      rintro e w1 ⟨rfl, rfl⟩
      go_wp2_with fail
      refine (HS.out _).mono ?_
      rintro e w1 ⟨rfl, rfl⟩
      go_wp2_with fail
      obtain ⟨rfl, rfl⟩ := HR.out
      rw [sV_zero]
      refine bodyPost_ret (v := .tuple #[.agg #[.int .u64 0, .int .u64 0, .int .u64 0, .int .u64 0, .int .u64 0, .int .u64 0, .int .u64 0, .int .u64 0], .int .i64 6]) (by simp [results, Tryd.results18, go_sem]) rfl ⟨rfl, ?_⟩
      exact (Below.refl _ w).alloc (Nat.le_refl _) _
    | true =>
      have HR : Hid ((∀ S, parGo (partsOf B) (-1) 0 = some S → R1 = S ∧ R2 = 0) ∧ (parGo (partsOf B) (-1) 0 = none → R1 = 0 ∧ R2 = 6)) := Lib.hid (by
        have h := HF.out
        have h2 := HPF.out
        simp at h
        rw [h] at h2
        constructor
        · intro S hS; rw [hS] at h2; simpa using h2
        · intro hS; rw [hS] at h2; simpa using h2)
      clear HF HPF
      go_enter Tryd.func18, Tryd.ntmps18
      go_wp2_with fail
      refine (HP.out _).mono ?_
      rintro e w1 ⟨rfl, rfl⟩
      go_wp2_with fail
      refine (HS.out _).mono ?_
      rintro e w1 ⟨rfl, rfl⟩
      go_wp2_with fail
      obtain ⟨W0, hW0⟩ : ∃ W0, W0 = (w.alloc (.cells (sL 0).toArray 28)).alloc (.cells (sL 0).toArray 28) := ⟨_, rfl⟩
      have hR : Blk W0 w.heap.size 28 (tabL 8 (sC 0)) := by rw [hW0, ← sL_tab]; exact (blk_new w _ _).alloc _
      have hS : Blk W0 (w.heap.size + 1) 28 (tabL 8 (sC 0)) := by
        rw [hW0, ← sL_tab]; have := blk_new (w.alloc (.cells (sL 0).toArray 28)) (sL 0) 28; rwa [World.size_alloc] at this
      have hB : Below w.heap.size w W0 := by rw [hW0]; exact ((Below.refl _ w).alloc (Nat.le_refl _) _).alloc (by simp) _
      rw [sL_zero] at hW0
      rw [← hW0]
      have H0 := Lib.hid (And.intro hS (And.intro hR hB))
      clear hW0 hS hR hB
      have HE0 : Eqn (parGo (partsOf B) (-1) 0) (parGo (if (!B.isEmpty) = true then splitC B else []) (-1) 0) := by
        rw [Eqn, partsOf]
        cases B <;> simp
      generalize (!B.isEmpty) = mm at *
      go_loopw [4, 8, 9] (fun b la m wr => ∃ (bb : List UInt8) (lz : Int) (mb : Bool) (S : Nat), b = .string ⟨bb.toArray⟩ ∧ la = .int .i64 lz ∧ m = .bool mb ∧ bb.length ≤ 100000 ∧ -1 ≤ lz ∧ Blk wr (w.heap.size + 1) 28 (tabL 8 (sC S)) ∧ Blk wr w.heap.size 28 (tabL 8 (sC 0)) ∧ Below w.heap.size w wr ∧ Eqn (parGo (partsOf B) (-1) 0) (parGo (if mb = true then splitC bb else []) lz S)) (fun b _ m _ => restOf b m)
      case atStart => exact ⟨B, -1, mm, 0, rfl, rfl, rfl, by omega, by omega, H0.out.1, H0.out.2.1, H0.out.2.2, HE0⟩
      case round =>
        clear H0 HE0 HP HS
        obtain ⟨bb, lz, mb, S, rfl, rfl, rfl, hbb, hlz, hS, hR, hB, HE⟩ := hrel
        have H1 := Lib.hid (And.intro hS (And.intro hR hB))
        cases mb with
        | false =>
          have HF : Hid (R1 = S ∧ R2 = 0) := Lib.hid (HR.out.1 S (by rw [HE.out]; rfl))
          obtain ⟨c0, c1, c2, c3, c4, c5, c6, c7⟩ := hS.eight
          obtain ⟨d0, d1, d2, d3, d4, d5, d6, d7⟩ := hR.eight
          have hf : ∀ o, wr.frozen? ⟨w.heap.size, o, none⟩ = false := hR.frozen
          have hlt2 := hR.lt
          clear hS hR hB HE
          go_wp2_with fail
          have b2 := H1.out.2.1.set8 S
          have HB2 := below_set8 S H1.out.2.2 (Nat.le_refl w.heap.size)
          change bodyPost _ _ _ _ _ (set8 wr w.heap.size S)
          generalize set8 wr w.heap.size S = W2 at *
          obtain ⟨x0, x1, x2, x3, x4, x5, x6, x7⟩ := b2.eight
          refine bodyPost_ret (v := .tuple #[sV S, .int .i64 0]) (by simp [results, Tryd.results18, go_sem, sV, x0, x1, x2, x3, x4, x5, x6, x7]) rfl ⟨by rw [HF.out.1, HF.out.2], HB2⟩
        | true =>
          have HCC := Lib.hid (HC.out bb wr hbb (HT.out.keep hB))
          have HE' : Eqn (parGo (partsOf B) (-1) 0) (if (memF (Lib.cut bb [44]).1).2 = false ∨ (memF (Lib.cut bb [44]).1).1 ≤ lz then none else parGo (if (Lib.cut bb [44]).2.2 = true then splitC (Lib.cut bb [44]).2.1 else []) (memF (Lib.cut bb [44]).1).1 (S ||| 2 ^ (memF (Lib.cut bb [44]).1).1.toNat)) := by
            rw [Eqn, HE.out, if_pos rfl, splitC_cut, parGo]
          have HLT := Lib.hid (cut_after_lt bb)
          have HMB : Hid (∀ W : World, Calls Tryd.prog 47 #[.string ⟨(Lib.cut bb [44]).1.toArray⟩] W (RetPost (.tuple #[.int .i64 (memF (Lib.cut bb [44]).1).1, .bool (memF (Lib.cut bb [44]).1).2]) W.heap.size W)) := Lib.hid (fun W => member_any _ W)
          have hca : (Lib.cut bb [44]).2.1.length ≤ 100000 := by have := cut_after_le bb; omega
          have HRG : Hid ((memF (Lib.cut bb [44]).1).2 = true → (memF (Lib.cut bb [44]).1).1 < 512) := Lib.hid memF_range
          clear hS hR hB HE
          generalize (Lib.cut bb [44]).2.2 = cf at *
          generalize (Lib.cut bb [44]).2.1 = ca at *
          generalize memF (Lib.cut bb [44]).1 = mF at *
          generalize (Lib.cut bb [44]).1 = cb at *
          obtain ⟨mi_, mo⟩ := mF
          dsimp only at HE' HMB HRG
          by_cases hbad : mo = false ∨ mi_ ≤ lz
          · have HF : Hid (R1 = 0 ∧ R2 = 6) := Lib.hid (HR.out.2 (by rw [HE'.out, if_pos hbad]))
            cases mo with
            | false =>
              clear HE' hbad HRG
              go_wp2_with fail
              refine HCC.out.mono ?_
              rintro e W1 ⟨rfl, hb1⟩
              have HRz1 := Lib.hid (And.intro (H1.out.2.1.keep hb1) (H1.out.2.2.trans (hb1.mono H1.out.2.2.size)))
              clear hb1
              go_wp2_with fail
              refine (HMB.out _).mono ?_
              rintro e W2 ⟨rfl, hb2⟩
              have hRz := HRz1.out.1.keep hb2
              have hBz := HRz1.out.2.trans (hb2.mono HRz1.out.2.size)
              obtain ⟨d0, d1, d2, d3, d4, d5, d6, d7⟩ := hRz.eight
              have hf : ∀ o, W2.frozen? ⟨w.heap.size, o, none⟩ = false := hRz.frozen
              have hlt2 := hRz.lt
              have HZ := Lib.hid (And.intro hRz hBz)
              clear hRz hBz hb2
              go_wp2_with fail
              obtain ⟨hRz, hBz⟩ := HZ.out
              have b2 := hRz.set8 0
              have HB2 := below_set8 0 hBz (Nat.le_refl w.heap.size)
              rw [set8_zero] at b2 HB2
              change bodyPost _ _ _ _ _ (zero8 W2 w.heap.size)
              generalize zero8 W2 w.heap.size = W3 at *
              obtain ⟨x0, x1, x2, x3, x4, x5, x6, x7⟩ := b2.eight
              refine bodyPost_ret (v := .tuple #[sV 0, .int .i64 6]) (by simp [results, Tryd.results18, go_sem, sV, x0, x1, x2, x3, x4, x5, x6, x7]) rfl ⟨by rw [HF.out.1, HF.out.2], HB2⟩
            | true =>
              have hle : mi_ ≤ lz := by rcases hbad with h | h; cases h; exact h
              clear HE' hbad HRG
              go_wp2_with fail
              refine HCC.out.mono ?_
              rintro e W1 ⟨rfl, hb1⟩
              have HRz1 := Lib.hid (And.intro (H1.out.2.1.keep hb1) (H1.out.2.2.trans (hb1.mono H1.out.2.2.size)))
              clear hb1
              go_wp2_with fail
              refine (HMB.out _).mono ?_
              rintro e W2 ⟨rfl, hb2⟩
              have hRz := HRz1.out.1.keep hb2
              have hBz := HRz1.out.2.trans (hb2.mono HRz1.out.2.size)
              obtain ⟨d0, d1, d2, d3, d4, d5, d6, d7⟩ := hRz.eight
              have hf : ∀ o, W2.frozen? ⟨w.heap.size, o, none⟩ = false := hRz.frozen
              have hlt2 := hRz.lt
              have HZ := Lib.hid (And.intro hRz hBz)
              clear hRz hBz hb2
              go_wp2_with fail
              obtain ⟨hRz, hBz⟩ := HZ.out
              have b2 := hRz.set8 0
              have HB2 := below_set8 0 hBz (Nat.le_refl w.heap.size)
              rw [set8_zero] at b2 HB2
              change bodyPost _ _ _ _ _ (zero8 W2 w.heap.size)
              generalize zero8 W2 w.heap.size = W3 at *
              obtain ⟨x0, x1, x2, x3, x4, x5, x6, x7⟩ := b2.eight
              refine bodyPost_ret (v := .tuple #[sV 0, .int .i64 6]) (by simp [results, Tryd.results18, go_sem, sV, x0, x1, x2, x3, x4, x5, x6, x7]) rfl ⟨by rw [HF.out.1, HF.out.2], HB2⟩
          · obtain rfl : mo = true := by cases mo with | false => exact absurd (.inl rfl) hbad | true => rfl
            have hgt : ¬ mi_ ≤ lz := fun h => hbad (.inr h)
            have HE2 : Eqn (parGo (partsOf B) (-1) 0) (parGo (if cf = true then splitC ca else []) mi_ (S ||| 2 ^ mi_.toNat)) := by rw [Eqn, HE'.out, if_neg hbad]
            have hm5 := HRG.out rfl
            obtain ⟨q, j, hq, hj, hqj⟩ : ∃ q j : Nat, q < 8 ∧ j < 64 ∧ mi_ = 64 * (q : Int) + (j : Int) := ⟨(mi_ / 64).toNat, (mi_ % 64).toNat, by omega, by omega, by omega⟩
            have HQ := Lib.hid hqj
            have e1 : IntKind.i64.wrap (mi_.tdiv 64) = (q : Int) := by rw [IntWalk.i64_quo _ _ (by omega)]; omega
            have e2 : mi_.tmod 64 = (j : Int) := by rw [IntWalk.rem_in _ _ (by omega)]; omega
            have e3 := wrap_pow hj
            have j1 : (q : Int) < 8 := by omega
            clear HE' hbad HRG hqj
            go_wp2_with fail
            refine HCC.out.mono ?_
            rintro e W1 ⟨rfl, hb1⟩
            have HZ1 := Lib.hid (And.intro (H1.out.1.keep hb1) (And.intro (H1.out.2.1.keep hb1) (H1.out.2.2.trans (hb1.mono H1.out.2.2.size))))
            clear hb1
            go_wp2_with fail
            refine (HMB.out _).mono ?_
            rintro e W2 ⟨rfl, hb2⟩
            have hSz := HZ1.out.1.keep hb2
            have hRz := HZ1.out.2.1.keep hb2
            have hBz := HZ1.out.2.2.trans (hb2.mono HZ1.out.2.2.size)
            have c1 : W2.cell? ⟨w.heap.size + 1, q, none⟩ = some (.int .u64 (wd S q)) := hSz.cell (tabL_at hq)
            have f1 : W2.frozen? ⟨w.heap.size + 1, q, none⟩ = false := hSz.frozen q
            have hlt2 := hSz.lt
            have HZ := Lib.hid (And.intro hSz (And.intro hRz hBz))
            clear hSz hRz hBz hb2
            go_wp2_with fail
            refine Lx.region (C := fun _ => True) (hs := []) (by kernel_rfl) (by kernel_rfl) trivial ?_
            repeat' (first
              | (refine Lx.lex_no (Lx.n1 rfl rfl rfl (by with_reducible rfl)) (fun K hK => ?_); go_simp; refine hK _ ?_; clear hK K)
              | (refine Lx.lex_no (Lx.n0 rfl rfl rfl (by with_reducible rfl)) (fun K hK => ?_); go_simp; refine hK _ ?_; clear hK K)
              | (refine Lx.lex_no (Lx.n2 rfl rfl rfl) (fun K hK => ?_); go_simp; refine hK _ ?_; clear hK K)
              | (refine Lx.lex_pure (v := ?_) rfl (by first | exact Lx.w0 rfl | exact Lx.w1 rfl rfl rfl (by with_reducible rfl)) ?_ (fun K hK => ?_); rotate_left 1; (intro w' hCw; (try dsimp only at hCw); go_simp; done); go_simp; refine hK _ ?_; clear hK K)
              | (refine Lx.lex_pure (v := ?_) rfl (by first | exact Lx.w0 rfl | exact Lx.w1 rfl rfl rfl (by with_reducible rfl)) ?_ (fun K hK => ?_); rotate_left 1; (intro w' hCw; (try dsimp only at hCw); go_simp; with_reducible rfl); go_simp; refine hK _ ?_; clear hK K)
              | (refine Lx.lex_read (v := ?_) rfl (by first | exact Lx.w0 rfl | exact Lx.w1 rfl rfl rfl (by with_reducible rfl)) ?_ (fun K hK => ?_); rotate_left 1; (go_simp; done); go_simp; refine hK _ ?_; clear hK K)
              | (refine Lx.lex_read (v := ?_) rfl (by first | exact Lx.w0 rfl | exact Lx.w1 rfl rfl rfl (by with_reducible rfl)) ?_ (fun K hK => ?_); rotate_left 1; (go_simp; with_reducible rfl); go_simp; refine hK _ ?_; clear hK K)
              | (refine Lx.lex_eff rfl (by first | exact Lx.w0 rfl | exact Lx.w1 rfl rfl rfl (by with_reducible rfl)) (fun K hK => ?_); go_simp; (first | fail | skip); refine hK _ _ (trivial) ?_; clear hK K)
              | (refine Lx.lex_cases rfl rfl rfl (fun hgd K hK => ?_) (fun hgd K hK => ?_) <;> (try simp only [decide_eq_true_eq, decide_eq_false_iff_not] at hgd) <;> (first | (exfalso; omega) | (go_simp; refine hK _ ?_; clear hK K))))
            all_goals (refine Lx.lex_nil ?_)
            go_wp2_with fail
            clear e1 e2 e3
            obtain ⟨hSz, hRz, hBz⟩ := HZ.out
            go_roundw
            case rel => exact ⟨ca, mi_, cf, S ||| 2 ^ mi_.toNat, rfl, rfl, rfl, hca, by omega, by rw [show mi_.toNat = 64 * q + j by have := HQ.out; omega]; exact (hSz.orbit hj).drew, (hRz.other _ _ (by simp)).drew, (hBz.setCell (p := ⟨w.heap.size + 1, q, none⟩) (by simp) _).drew, HE2⟩
            case measure =>
              rw [restOf_true]
              cases cf with
              | false => rw [restOf_false]; omega
              | true => rw [restOf_true]; have := HLT.out rfl; omega
end Go.Proofs.YtencbmgjdiillaaDoor
