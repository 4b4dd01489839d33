/- As XLex, with a tail: operations from n on that wait for all those ahead of them; what is said of the world (C) is owed only until the tail begins, then C'. So a load of a cell that the tail stores into may be unordered beside a call. Nothing of the program is named here. -/
import Derived.Test.YtpaakgngoocjeaaDoorDig01
import Derived.Test.YtpaakgngoocjeaaDoorDig06
/- The contract of Order of digraph. -/
namespace Go.Proofs.YtpaakgngoocjeaaDoor
open Go.RowKit Go.Shelf Go.ChangeShapes Go.WideShapes Go.ChangeAt Go.Deep Go.Joins

attribute [local go_sem] Oper.semAt_some

def zs (o : List Nat) : List Int := o.map fun (n : Nat) => (n : Int)
/-- one more arc into a vertex -/
def bump (X : List Int) (w : Nat) : List Int := X.set w (wrap64 (X.getD w 0 + 1))
theorem bumps_len : ∀ (L : List Nat) (X : List Int), (L.foldl bump X).length = X.length := by
  intro L
  induction L with
  | nil => intro X; rfl
  | cons x r ih => intro X; rw [List.foldl_cons, ih]; simp [bump]
def bumpK (S : List Nat) (k : Nat) : List Int := (List.range k).foldl (fun X v => (mem (S.getD v 0)).foldl bump X) (List.replicate S.length 0)
theorem bumpK_succ (S : List Nat) (k : Nat) : bumpK S (k + 1) = (mem (S.getD k 0)).foldl bump (bumpK S k) := by unfold bumpK; rw [List.range_succ, List.foldl_append]; rfl
theorem bumpK_len (S : List Nat) : ∀ k, (bumpK S k).length = S.length := by
  intro k
  induction k with
  | zero => simp [bumpK]
  | succ k ih => rw [bumpK_succ, bumps_len, ih]
def zeroK (X : List Int) (k : Nat) : Nat := (List.range k).foldl (fun r v => if X.getD v 0 = 0 then r ||| 2 ^ v else r) 0
theorem zeroK_succ (X : List Int) (k : Nat) : zeroK X (k + 1) = if X.getD k 0 = 0 then zeroK X k ||| 2 ^ k else zeroK X k := by unfold zeroK; rw [List.range_succ, List.foldl_append]; rfl
theorem zeroK_lt (X : List Int) : ∀ k b, (zeroK X k).testBit b = true → b < k := by
  intro k
  induction k with
  | zero => intro b h; simp [zeroK] at h
  | succ k ih =>
    intro b h
    rw [zeroK_succ] at h
    split at h
    · rw [Nat.testBit_or, Bool.or_eq_true] at h
      rcases h with h | h
      · have := ih b h; omega
      · rw [bit_tb, decide_eq_true_eq] at h; omega
    · have := ih b h; omega
/-- one arc less into a vertex: the numbers, and the vertices that are ready -/
def downS (st : List Int × Nat) (w : Nat) : List Int × Nat := (st.1.set w (wrap64 (st.1.getD w 0 - 1)), if wrap64 (st.1.getD w 0 - 1) = 0 then st.2 ||| 2 ^ w else st.2)
theorem downs_len : ∀ (L : List Nat) (st : List Int × Nat), (L.foldl downS st).1.length = st.1.length := by
  intro L
  induction L with
  | nil => intro X; rfl
  | cons x r ih => intro X; rw [List.foldl_cons, ih]; simp [downS]
theorem downs_lt {n : Nat} : ∀ (L : List Nat) (st : List Int × Nat), (∀ x ∈ L, x < n) → (∀ b, st.2.testBit b = true → b < n) → ∀ b, (L.foldl downS st).2.testBit b = true → b < n := by
  intro L
  induction L with
  | nil => intro st _ h; exact h
  | cons x r ih =>
    intro st hL h
    rw [List.foldl_cons]
    refine ih _ (fun y hy => hL y (by simp [hy])) ?_
    intro b hb
    unfold downS at hb
    dsimp only at hb
    split at hb
    · rw [Nat.testBit_or, Bool.or_eq_true] at hb
      rcases hb with hb | hb
      · exact h b hb
      · rw [bit_tb, decide_eq_true_eq] at hb
        have := hL x (by simp)
        omega
    · exact h b hb
def ordGo (S : List Nat) : Nat → List Int → Nat → List Nat → Option (List Nat)
  | f, X, r, o => if r = 0 then some o else match f with
    | 0 => none
    | f + 1 => ordGo S f ((mem (S.getD ((mem r).headD 0) 0)).foldl downS (X, mi r (2 ^ (mem r).headD 0))).1 ((mem (S.getD ((mem r).headD 0) 0)).foldl downS (X, mi r (2 ^ (mem r).headD 0))).2 (o ++ [(mem r).headD 0])
def ordF (f : Nat) (S : List Nat) : Option (List Nat) := ordGo S f (bumpK S S.length) (zeroK (bumpK S S.length) S.length) []
theorem mem_nilS {S : Nat} (hS : Fit S) : mem S = [] ↔ S = 0 := by
  constructor
  · intro h
    apply Nat.eq_of_testBit_eq
    intro i
    rw [Nat.zero_testBit]
    cases hb : S.testBit i with
    | false => rfl
    | true => have := (mem_iff hS).2 hb; rw [h] at this; cases this
  · rintro rfl
    unfold mem
    rw [List.filter_eq_nil_iff]
    intro a _
    simp
theorem fit_lt {r n : Nat} (hn : n ≤ 512) (h : ∀ b, r.testBit b = true → b < n) : Fit r := fun i hi => by
  cases hb : r.testBit i with
  | false => rfl
  | true => have := h i hb; omega

def OrF1 (gb p5 n k : Nat) (ds : List Nat) (a : Act) : Prop := ∃ u : Nat → Value, a = { tmps := #[(.pointer (some ⟨gb, 0, none⟩)), u 1, (.slice none 0 0), (.slice none 0 0), (.int .i64 (n : Int)), (.pointer (some ⟨p5, 0, none⟩)), u 6, u 7, u 8, u 9, u 10, u 11, u 12, u 13, u 14, u 15, u 16, u 17, u 18, u 19, u 20, u 21, u 22, (.int .i64 (n : Int)), (.int .i64 (k : Int)), u 25, u 26, u 27, u 28, u 29, u 30, u 31, u 32, u 33, u 34, u 35, u 36, u 37, u 38, u 39, u 40, u 41, u 42, u 43, u 44, u 45, u 46, u 47, u 48, u 49, u 50, u 51, u 52, u 53, u 54, u 55, u 56, u 57, u 58, u 59, u 60, u 61, u 62, u 63, u 64, u 65, u 66, u 67, u 68, u 69, u 70, u 71, u 72, u 73, u 74, u 75, u 76, u 77, u 78, u 79, u 80, u 81, u 82, u 83, u 84, u 85, u 86, u 87, u 88, u 89, u 90, u 91, u 92, u 93, u 94, u 95, u 96, u 97, u 98, u 99, u 100, u 101, u 102, u 103, u 104, u 105, u 106, u 107, u 108], defers := marksOf ds }
theorem OrF1_mk {gb p5 n k : Nat} {ds : List Nat} {u1 u6 u7 u8 u9 u10 u11 u12 u13 u14 u15 u16 u17 u18 u19 u20 u21 u22 u25 u26 u27 u28 u29 u30 u31 u32 u33 u34 u35 u36 u37 u38 u39 u40 u41 u42 u43 u44 u45 u46 u47 u48 u49 u50 u51 u52 u53 u54 u55 u56 u57 u58 u59 u60 u61 u62 u63 u64 u65 u66 u67 u68 u69 u70 u71 u72 u73 u74 u75 u76 u77 u78 u79 u80 u81 u82 u83 u84 u85 u86 u87 u88 u89 u90 u91 u92 u93 u94 u95 u96 u97 u98 u99 u100 u101 u102 u103 u104 u105 u106 u107 u108 : Value} : OrF1 gb p5 n k ds { tmps := #[(.pointer (some ⟨gb, 0, none⟩)), u1, (.slice none 0 0), (.slice none 0 0), (.int .i64 (n : Int)), (.pointer (some ⟨p5, 0, none⟩)), u6, u7, u8, u9, u10, u11, u12, u13, u14, u15, u16, u17, u18, u19, u20, u21, u22, (.int .i64 (n : Int)), (.int .i64 (k : Int)), u25, u26, u27, u28, u29, u30, u31, u32, u33, u34, u35, u36, u37, u38, u39, u40, u41, u42, u43, u44, u45, u46, u47, u48, u49, u50, u51, u52, u53, u54, u55, u56, u57, u58, u59, u60, u61, u62, u63, u64, u65, u66, u67, u68, u69, u70, u71, u72, u73, u74, u75, u76, u77, u78, u79, u80, u81, u82, u83, u84, u85, u86, u87, u88, u89, u90, u91, u92, u93, u94, u95, u96, u97, u98, u99, u100, u101, u102, u103, u104, u105, u106, u107, u108], defers := marksOf ds } := ⟨fun i => [undef, u1, undef, undef, undef, undef, u6, u7, u8, u9, u10, u11, u12, u13, u14, u15, u16, u17, u18, u19, u20, u21, u22, undef, undef, u25, u26, u27, u28, u29, u30, u31, u32, u33, u34, u35, u36, u37, u38, u39, u40, u41, u42, u43, u44, u45, u46, u47, u48, u49, u50, u51, u52, u53, u54, u55, u56, u57, u58, u59, u60, u61, u62, u63, u64, u65, u66, u67, u68, u69, u70, u71, u72, u73, u74, u75, u76, u77, u78, u79, u80, u81, u82, u83, u84, u85, u86, u87, u88, u89, u90, u91, u92, u93, u94, u95, u96, u97, u98, u99, u100, u101, u102, u103, u104, u105, u106, u107, u108].getD i undef, rfl⟩
def OrF2 (gb p5 p8 n k : Nat) (ds : List Nat) (a : Act) : Prop := ∃ u : Nat → Value, a = { tmps := #[(.pointer (some ⟨gb, 0, none⟩)), u 1, (.slice none 0 0), (.slice none 0 0), (.int .i64 (n : Int)), (.pointer (some ⟨p5, 0, none⟩)), u 6, u 7, (.pointer (some ⟨p8, 0, none⟩)), u 9, u 10, u 11, u 12, u 13, u 14, u 15, u 16, u 17, u 18, u 19, u 20, u 21, u 22, u 23, u 24, u 25, u 26, u 27, u 28, u 29, u 30, u 31, u 32, u 33, u 34, u 35, u 36, u 37, u 38, u 39, u 40, u 41, u 42, (.int .i64 (n : Int)), (.int .i64 (k : Int)), u 45, u 46, u 47, u 48, u 49, u 50, u 51, u 52, u 53, u 54, u 55, u 56, u 57, u 58, u 59, u 60, u 61, u 62, u 63, u 64, u 65, u 66, u 67, u 68, u 69, u 70, u 71, u 72, u 73, u 74, u 75, u 76, u 77, u 78, u 79, u 80, u 81, u 82, u 83, u 84, u 85, u 86, u 87, u 88, u 89, u 90, u 91, u 92, u 93, u 94, u 95, u 96, u 97, u 98, u 99, u 100, u 101, u 102, u 103, u 104, u 105, u 106, u 107, u 108], defers := marksOf ds }
theorem OrF2_mk {gb p5 p8 n k : Nat} {ds : List Nat} {u1 u6 u7 u9 u10 u11 u12 u13 u14 u15 u16 u17 u18 u19 u20 u21 u22 u23 u24 u25 u26 u27 u28 u29 u30 u31 u32 u33 u34 u35 u36 u37 u38 u39 u40 u41 u42 u45 u46 u47 u48 u49 u50 u51 u52 u53 u54 u55 u56 u57 u58 u59 u60 u61 u62 u63 u64 u65 u66 u67 u68 u69 u70 u71 u72 u73 u74 u75 u76 u77 u78 u79 u80 u81 u82 u83 u84 u85 u86 u87 u88 u89 u90 u91 u92 u93 u94 u95 u96 u97 u98 u99 u100 u101 u102 u103 u104 u105 u106 u107 u108 : Value} : OrF2 gb p5 p8 n k ds { tmps := #[(.pointer (some ⟨gb, 0, none⟩)), u1, (.slice none 0 0), (.slice none 0 0), (.int .i64 (n : Int)), (.pointer (some ⟨p5, 0, none⟩)), u6, u7, (.pointer (some ⟨p8, 0, none⟩)), u9, u10, u11, u12, u13, u14, u15, u16, u17, u18, u19, u20, u21, u22, u23, u24, u25, u26, u27, u28, u29, u30, u31, u32, u33, u34, u35, u36, u37, u38, u39, u40, u41, u42, (.int .i64 (n : Int)), (.int .i64 (k : Int)), u45, u46, u47, u48, u49, u50, u51, u52, u53, u54, u55, u56, u57, u58, u59, u60, u61, u62, u63, u64, u65, u66, u67, u68, u69, u70, u71, u72, u73, u74, u75, u76, u77, u78, u79, u80, u81, u82, u83, u84, u85, u86, u87, u88, u89, u90, u91, u92, u93, u94, u95, u96, u97, u98, u99, u100, u101, u102, u103, u104, u105, u106, u107, u108], defers := marksOf ds } := ⟨fun i => [undef, u1, undef, undef, undef, undef, u6, u7, undef, u9, u10, u11, u12, u13, u14, u15, u16, u17, u18, u19, u20, u21, u22, u23, u24, u25, u26, u27, u28, u29, u30, u31, u32, u33, u34, u35, u36, u37, u38, u39, u40, u41, u42, undef, undef, u45, u46, u47, u48, u49, u50, u51, u52, u53, u54, u55, u56, u57, u58, u59, u60, u61, u62, u63, u64, u65, u66, u67, u68, u69, u70, u71, u72, u73, u74, u75, u76, u77, u78, u79, u80, u81, u82, u83, u84, u85, u86, u87, u88, u89, u90, u91, u92, u93, u94, u95, u96, u97, u98, u99, u100, u101, u102, u103, u104, u105, u106, u107, u108].getD i undef, rfl⟩
def OrF3 (gb p5 p8 n : Nat) (v10 : Value) (ds : List Nat) (a : Act) : Prop := ∃ u : Nat → Value, a = { tmps := #[(.pointer (some ⟨gb, 0, none⟩)), u 1, (.slice none 0 0), (.slice none 0 0), (.int .i64 (n : Int)), (.pointer (some ⟨p5, 0, none⟩)), u 6, u 7, (.pointer (some ⟨p8, 0, none⟩)), u 9, v10, u 11, u 12, u 13, u 14, u 15, u 16, u 17, u 18, u 19, u 20, u 21, u 22, u 23, u 24, u 25, u 26, u 27, u 28, u 29, u 30, u 31, u 32, u 33, u 34, u 35, u 36, u 37, u 38, u 39, u 40, u 41, u 42, u 43, u 44, u 45, u 46, u 47, u 48, u 49, u 50, u 51, u 52, u 53, u 54, u 55, u 56, u 57, u 58, u 59, u 60, u 61, u 62, u 63, u 64, u 65, u 66, u 67, u 68, u 69, u 70, u 71, u 72, u 73, u 74, u 75, u 76, u 77, u 78, u 79, u 80, u 81, u 82, u 83, u 84, u 85, u 86, u 87, u 88, u 89, u 90, u 91, u 92, u 93, u 94, u 95, u 96, u 97, u 98, u 99, u 100, u 101, u 102, u 103, u 104, u 105, u 106, u 107, u 108], defers := marksOf ds }
theorem OrF3_mk {gb p5 p8 n : Nat} {v10 : Value} {ds : List Nat} {u1 u6 u7 u9 u11 u12 u13 u14 u15 u16 u17 u18 u19 u20 u21 u22 u23 u24 u25 u26 u27 u28 u29 u30 u31 u32 u33 u34 u35 u36 u37 u38 u39 u40 u41 u42 u43 u44 u45 u46 u47 u48 u49 u50 u51 u52 u53 u54 u55 u56 u57 u58 u59 u60 u61 u62 u63 u64 u65 u66 u67 u68 u69 u70 u71 u72 u73 u74 u75 u76 u77 u78 u79 u80 u81 u82 u83 u84 u85 u86 u87 u88 u89 u90 u91 u92 u93 u94 u95 u96 u97 u98 u99 u100 u101 u102 u103 u104 u105 u106 u107 u108 : Value} : OrF3 gb p5 p8 n v10 ds { tmps := #[(.pointer (some ⟨gb, 0, none⟩)), u1, (.slice none 0 0), (.slice none 0 0), (.int .i64 (n : Int)), (.pointer (some ⟨p5, 0, none⟩)), u6, u7, (.pointer (some ⟨p8, 0, none⟩)), u9, v10, u11, u12, u13, u14, u15, u16, u17, u18, u19, u20, u21, u22, u23, u24, u25, u26, u27, u28, u29, u30, u31, u32, u33, u34, u35, u36, u37, u38, u39, u40, u41, u42, u43, u44, u45, u46, u47, u48, u49, u50, u51, u52, u53, u54, u55, u56, u57, u58, u59, u60, u61, u62, u63, u64, u65, u66, u67, u68, u69, u70, u71, u72, u73, u74, u75, u76, u77, u78, u79, u80, u81, u82, u83, u84, u85, u86, u87, u88, u89, u90, u91, u92, u93, u94, u95, u96, u97, u98, u99, u100, u101, u102, u103, u104, u105, u106, u107, u108], defers := marksOf ds } := ⟨fun i => [undef, u1, undef, undef, undef, undef, u6, u7, undef, u9, undef, u11, u12, u13, u14, u15, u16, u17, u18, u19, u20, u21, u22, u23, u24, u25, u26, u27, u28, u29, u30, u31, u32, u33, u34, u35, u36, u37, u38, u39, u40, u41, u42, u43, u44, u45, u46, u47, u48, u49, u50, u51, u52, u53, u54, u55, u56, u57, u58, u59, u60, u61, u62, u63, u64, u65, u66, u67, u68, u69, u70, u71, u72, u73, u74, u75, u76, u77, u78, u79, u80, u81, u82, u83, u84, u85, u86, u87, u88, u89, u90, u91, u92, u93, u94, u95, u96, u97, u98, u99, u100, u101, u102, u103, u104, u105, u106, u107, u108].getD i undef, rfl⟩
/-- two rows of numbers are returned -/
def TwoInts (r : List Int × List Int) (w : World) (e : Ending) (w' : World) : Prop :=
  ∃ v1 v2, e = .returned (.tuple #[v1, v2]) ∧ w'.ownsRow w.heap.size 3 1 v1 r.1.length (r.1.map intV) ∧ w'.ownsRow w.heap.size 3 1 v2 r.2.length (r.2.map intV) ∧ Below w.heap.size w w'

set_option maxRecDepth 100000 in
set_option maxHeartbeats 4000000 in
theorem gorder_any {gb rb cap : Nat} {ext : List Value} {S : List Nat} {arcs : Int} (f : Nat) (o : List Nat) (c : List Int) (w : World) (hT : Tab w) (h : GAt w gb rb cap ext S arcs) (hI : InG S) (hf : f ≤ 100000) (ho : ordF f S = some o)
    (hc : o.length < S.length → ∀ W, Below w.heap.size w W → Calls Tryd.prog 55 #[.pointer (some ⟨gb, 0, none⟩)] W (NewInts c W)) :
    Calls Tryd.prog 31 #[.pointer (some ⟨gb, 0, none⟩)] w (TwoInts (if o.length < S.length then ([], c) else (zs o, [])) w) := by
  have h512 := h.2.2.2
  have HG := Lib.hid h
  have HF : Hid (∀ x ∈ S, Fit x) := Lib.hid h.2.2.1
  have HT := Lib.hid hT
  have HI := Lib.hid hI
  have h4 : tabN ≤ w.heap.size := hT.1
  have HV := Lib.hid (gvalid_any w h)
  have HE := Lib.hid (fun T hT W => empty_any T hT W)
  have HA := Lib.hid (fun T W => all_any T W)
  have HAD := Lib.hid (fun A i W hi => add_in A i W hi)
  have HRM := Lib.hid (fun A i W hi => remove_in A i W hi)
  have HMN := Lib.hid (fun T W hF hW => min_any T W hF hW)
  have HC := Lib.hid hc
  have HR := Eqn.mk ho
  obtain ⟨r, hr⟩ : ∃ r, r = (if o.length < S.length then (([] : List Int), c) else (zs o, [])) := ⟨_, rfl⟩
  rw [← hr]
  have HRR := Eqn.mk hr
  clear hr
  obtain ⟨i0, hi, hz0, hz1, hz2⟩ := info_parts int_info
  obtain ⟨_, c1, _, c3⟩ := h.cells
  clear h hI hT hc ho
  unfold sV at HE HA HAD HRM HMN
  generalize hn : S.length = n at *
  have HN := Eqn.mk hn
  clear hn
  refine (callsIn_wide (n := 3)).1 ?_
  refine callsIn_of_wp_marks Tryd.func31 rfl trivial ?_ rfl
  simp only [Tryd.ntmps31, List.size_toArray, List.length_cons, List.length_nil, Nat.reduceAdd, Nat.reduceSub, Array.replicate_succ, Array.replicate_zero, List.push_toArray, List.append_toArray, List.nil_append, List.cons_append]
  gi_wp2_with fail
  refine ⟨trivial, (callsIn_wide.2 HV.out).mono ?_⟩
  rintro e W1 ⟨rfl, rfl⟩
  clear HV
  gi_wp2_with (gi_at_make; refine wpListIn_make_full _ rfl _ _ 36 rfl w.heap.size 3 i0 (.int .i64 0) 1 Tryd.underlying36 hi hz0 hz1 .i64 .i64 _ _ n rfl rfl rfl rfl (by rw [hz2]; omega) (by unfold maxLen; omega) (by simp) ?_; intro W2 hown hgrow; rw [made_ints] at hown; have HP2 := Lib.hid (((Hp.start w).made hown hgrow (Nat.le_refl _)).alloc1 (.slice (some ⟨w.heap.size, 0, none⟩) n n) 36); clear hown hgrow)
  obtain ⟨V2, hV2⟩ : ∃ V2, V2 = W2.alloc (.cells #[.slice (some ⟨w.heap.size, 0, none⟩) n n] 36) := ⟨_, rfl⟩
  rw [← hV2] at HP2 ⊢
  clear hV2 c1 c3
  generalize W2.heap.size = p5 at *
  refine wpIn_loop_ghost (fun m a W => ∃ (k : Nat) (ds : List Nat), m = n - k ∧ k ≤ n ∧ OrF1 gb p5 n k ds a ∧ Hp w W W [.blk w.heap.size 3 ((bumpK S k).map intV), .blk p5 36 [.slice (some ⟨w.heap.size, 0, none⟩) n n]] ds) (n - 0) ?start ?round
  case start =>
    exact ⟨0, [], rfl, Nat.zero_le _, OrF1_mk, by have := HP2.out; rw [show bumpK S 0 = List.replicate n 0 by rw [← HN.out]; rfl]; exact this.rebase⟩
  case round =>
    clear HP2
    rintro m a W ⟨k, ds, rfl, hk, ⟨u, rfl⟩, hP⟩
    have HP := Lib.hid hP
    clear hP
    by_cases hlt : k < n
    · have j0 : (k : Int) < (n : Int) := by omega
      have HST := Eqn.mk (bumpK_succ S k)
      have HLN := Lib.hid (bumpK_len S k)
      have e1 : IntKind.i64.wrap ((k : Int) + 1) = (k : Int) + 1 := IntWalk.i64_in _ (by omega)
      obtain ⟨T, hT⟩ : ∃ T, S[k]? = some T := ⟨_, List.getElem?_eq_getElem (by have := HN.out; omega)⟩
      have HTT : Hid (T ∈ S ∧ S.getD k 0 = T) := Lib.hid ⟨List.mem_of_getElem? hT, by rw [List.getD_eq_getElem?_getD, hT]; rfl⟩
      rw [HTT.out.2] at HST
      have hG := HG.out.keep HP.out.below
      obtain ⟨_, c1, _, c3⟩ := hG.cells
      rw [HN.out] at c1
      obtain ⟨y0, y1, y2, y3, y4, y5, y6, y7, y8⟩ := row_cells hG.2.1 hT
      clear hG hT
      generalize bumpK S k = X0 at *
      gi_wp2_with fail
      refine ⟨trivial, (callsIn_wide.2 (HA.out T _)).mono ?_⟩
      rintro e WE ⟨rfl, hWE⟩
      have HPE := Lib.hid (HP.out.allocS T 40)
      rw [← hWE] at HPE
      clear hWE c1 c3 y0 y1 y2 y3 y4 y5 y6 y7 y8
      generalize W.heap.size = Bn at *
      gi_wp2_with fail
      refine hp_range (w := w) (ds := ds) (σ := List Int) (fun X => [.blk w.heap.size 3 (X.map intV), .blk p5 36 [.slice (some ⟨w.heap.size, 0, none⟩) n n], .blk Bn 40 (tabL 8 (sC T))]) (fun pre X => X = (pre.map Fin.val).foldl bump X0) (fun _ _ _ => False) 2 ?a₁ (by decide)
        (gf := 63) (lb := #[.pointer (some ⟨Bn, 0, none⟩)]) rfl (enters_of Tryd.func63 (by kernel_rfl) rfl) (all_stopsF n 2 (by decide) Bn w.heap.size T (HF.out T HTT.out.1) (fun x hx => by have := HI.out T HTT.out.1 x (mem_tb hx); rw [HN.out] at this; exact this) h4 WE (HPE.out.blk 2 rfl) (HT.out.keep HPE.out.below)) rfl (Nat.le_refl _) (fun _ => rfl) X0 rfl HPE.out (fun _ => rfl) ?assign ?body ?done ?stop
      case assign =>
        intro l x X K hK
        gi_wp2
        exact hK
      case body =>
        rintro l pre x X _ _ rfl hX hlen
        have HX := Lib.hid hX
        have hLl : ((pre.map Fin.val).foldl bump X0).length = n := by rw [bumps_len, HLN.out, HN.out]
        have HSN : Hid (((pre ++ [x]).map Fin.val).foldl bump X0 = bump ((pre.map Fin.val).foldl bump X0) x.1) := Lib.hid (by rw [List.map_append, List.foldl_append]; rfl)
        have hxn := x.2
        generalize (pre.map Fin.val).foldl bump X0 = L at *
        generalize x.1 = xn at *
        have j1 : (xn : Int) < (n : Int) := by omega
        obtain ⟨z, hz⟩ : ∃ z, L[xn]? = some z := ⟨_, List.getElem?_eq_getElem (by omega)⟩
        have hLz : L.getD xn 0 = z := by rw [List.getD_eq_getElem?_getD, hz]; rfl
        have HB : Hid (bump L xn = L.set xn (wrap64 (z + 1))) := Lib.hid (by unfold bump; rw [hLz])
        have cA := hX.cI 0 xn rfl hz
        have fA := hX.f 0 rfl
        have lA := hX.lt 0 rfl
        have c1 := hX.c 1 0 rfl rfl; have f1 := hX.f 1 rfl; have l1 := hX.lt 1 rfl
        clear hX hLl hz hLz
        gi_wp2_with fail
        refine ⟨_, HSN.out.symm, ?_⟩
        rw [HB.out]
        exact HX.out.setI 0 xn _ rfl
      case done =>
        rintro D ys X _ hys rfl hX
        have hys' : ys.map Fin.val = mem T := hys
        rw [hys', ← HST.out] at hX
        have HX := Lib.hid hX
        clear hys hys' hX
        gi_wp2_with fail
        exact ⟨_, by omega, k + 1, D :: ds, rfl, hlt, OrF1_mk, (HX.out.sub (by simp)).rebase⟩
      case stop =>
        rintro D c pre X _ _ h _
        exact h.elim
    · obtain rfl : k = n := by omega
      gi_upto_region 13 with fail
      obtain ⟨V3, hV3⟩ : ∃ V3, V3 = W.alloc (.cells (sL 0).toArray 40) := ⟨_, rfl⟩
      have HP3 := Lib.hid (HP.out.allocS 0 40)
      rw [← hV3] at HP3
      rw [sL_zero] at hV3
      rw [← hV3]
      clear hV3 HP
      generalize W.heap.size = p8 at *
      generalize hX : bumpK S k = X0 at *
      have HXL : Hid (X0.length = k) := Lib.hid (by rw [← hX, bumpK_len, HN.out])
      have HXE := Eqn.mk hX
      clear hX
      gi_wp2_with fail
      refine wpIn_loop_ghost (fun m a W => ∃ (j : Nat), m = k - j ∧ j ≤ k ∧ OrF2 gb p5 p8 k j ds a ∧ Hp w W W [.blk w.heap.size 3 (X0.map intV), .blk p5 36 [.slice (some ⟨w.heap.size, 0, none⟩) k k], .blk p8 40 (tabL 8 (sC (zeroK X0 j)))] ds) (k - 0) ?start2 ?round2
      case start2 => exact ⟨0, rfl, Nat.zero_le _, OrF2_mk, HP3.out.rebase⟩
      case round2 =>
        clear HP3
        rintro m a W ⟨j, rfl, hj, ⟨u2, rfl⟩, hP⟩
        have HP := Lib.hid hP
        by_cases hlt2 : j < k
        · have j0 : (j : Int) < (k : Int) := by omega
          have HST := Eqn.mk (zeroK_succ X0 j)
          have e1 : IntKind.i64.wrap ((j : Int) + 1) = (j : Int) + 1 := IntWalk.i64_in _ (by omega)
          obtain ⟨z, hz⟩ : ∃ z, X0[j]? = some z := ⟨_, List.getElem?_eq_getElem (by have := HXL.out; omega)⟩
          have hLz : X0.getD j 0 = z := by rw [List.getD_eq_getElem?_getD, hz]; rfl
          rw [hLz] at HST
          have cA := hP.cI 0 j rfl hz
          have c1 := hP.c 1 0 rfl rfl; have f1 := hP.f 1 rfl; have l1 := hP.lt 1 rfl; obtain ⟨c2_0, c2_1, c2_2, c2_3, c2_4, c2_5, c2_6, c2_7⟩ := (hP.blk 2 rfl).eight; have f2 := hP.f 2 rfl; have l2 := hP.lt 2 rfl
          generalize zeroK X0 j = r0 at *
          have HAX := HAD.out r0 (j : Int) W (by omega)
          rw [Int.toNat_natCast] at HAX
          replace HAX := Lib.hid HAX
          clear hP hz hLz
          by_cases hz0' : z = 0
          · subst hz0'
            rw [if_pos rfl] at HST
            gi_wp2_with fail
            refine ⟨trivial, (callsIn_wide.2 HAX.out).mono ?_⟩
            rintro e W4 ⟨rfl, hb4⟩
            have hP4 := HP.out.keep hb4
            have HP4 := Lib.hid hP4
            clear hb4 cA c1 f1 l1 c2_0 c2_1 c2_2 c2_3 c2_4 c2_5 c2_6 c2_7 f2 l2
            obtain ⟨c2_0, c2_1, c2_2, c2_3, c2_4, c2_5, c2_6, c2_7⟩ := (hP4.blk 2 rfl).eight; have f2 := hP4.f 2 rfl; have l2 := hP4.lt 2 rfl
            clear hP4
            gi_upto_region 18 with fail
            obtain ⟨V5, hV5⟩ : ∃ V5, V5 = set8 W4 p8 (r0 ||| 2 ^ j) := ⟨_, rfl⟩
            have HP5 := Lib.hid (HP4.out.set8 2 (r0 ||| 2 ^ j) rfl)
            rw [← hV5] at HP5
            unfold set8 at hV5
            rw [← hV5]
            clear hV5 c2_0 c2_1 c2_2 c2_3 c2_4 c2_5 c2_6 c2_7 f2 l2
            gi_wp2_with fail
            exact ⟨_, by omega, j + 1, rfl, hlt2, OrF2_mk, by rw [HST.out]; exact HP5.out.rebase⟩
          · rw [if_neg hz0'] at HST
            gi_wp2_with fail
            exact ⟨_, by omega, j + 1, rfl, hlt2, OrF2_mk, by rw [HST.out]; exact HP.out.rebase⟩
        · obtain rfl : j = k := by omega
          clear hP
          have hsW := HP.out.below.size
          gi_wp2_with (gi_at_make; refine wpListIn_make_own _ rfl _ _ 36 rfl W.heap.size 3 i0 (.int .i64 0) 1 Tryd.underlying36 hi hz0 hz1 .i64 .i64 (j : Int) j rfl rfl rfl (by rw [hz2]; omega) (by unfold maxLen; omega) (Nat.le_refl _) ?_; intro W3 hown hgr; have HP3 := Lib.hid (HP.out.pushRow (below_of_grown hgr) hown); clear hown hgr)
          refine wpIn_loop_ghost (fun m a W => ∃ (q : Nat) (X1 : List Int) (r1 : Nat) (o1 : List Nat) (v10 : Value) (ds : List Nat), m = q ∧ o1.length + q ≤ 100000 ∧ X1.length = j ∧ (∀ b, r1.testBit b = true → b < j) ∧ Eqn (some o) (ordGo S q X1 r1 o1) ∧ OrF3 gb p5 p8 j v10 ds a ∧
            Hp w W W [.blk w.heap.size 3 (X1.map intV), .blk p5 36 [.slice (some ⟨w.heap.size, 0, none⟩) j j], .blk p8 40 (tabL 8 (sC r1)), .row v10 3 1 o1.length ((zs o1).map intV)] ds) f ?start3 ?round3
          case start3 =>
            exact ⟨f, X0, zeroK X0 j, [], _, ds, rfl, by simpa using hf, HXL.out, zeroK_lt X0 j, by rw [Eqn, ← HR.out, ordF, HN.out, HXE.out], OrF3_mk, HP3.out.rebase⟩
          case round3 =>
            clear HP3 HP
            rintro m a W ⟨q, X1, r1, o1, v10, ds, rfl, hq, hXl, hrl, hGo, ⟨u3, rfl⟩, hP⟩
            have HP := Lib.hid hP
            have HRL := Lib.hid hrl
            have HRF := Lib.hid (fit_lt h512 hrl)
            have HEE := Lib.hid (HE.out r1 HRF.out)
            obtain ⟨c2_0, c2_1, c2_2, c2_3, c2_4, c2_5, c2_6, c2_7⟩ := (hP.blk 2 rfl).eight; have f2 := hP.f 2 rfl; have l2 := hP.lt 2 rfl
            clear hrl
            by_cases hr0 : r1 = 0
            · subst hr0
              have hoo : o1 = o := by
                have := hGo.out
                unfold ordGo at this
                rw [if_pos rfl] at this
                exact (Option.some.inj this).symm
              subst hoo
              rw [decide_eq_true rfl] at HEE
              obtain ⟨A, cp, rfl⟩ := hP.form 3 rfl
              clear hP hGo
              gi_wp2_with fail
              refine ⟨trivial, (callsIn_wide.2 (HEE.out _)).mono ?_⟩
              rintro e W4 ⟨rfl, hb4⟩
              have HP4 := Lib.hid (HP.out.keep hb4)
              clear hb4 c2_0 c2_1 c2_2 c2_3 c2_4 c2_5 c2_6 c2_7 f2 l2
              have hrj := HRR.out
              by_cases hlo : o1.length < j
              · rw [if_pos hlo] at hrj
                subst hrj
                have j3 : (o1.length : Int) < (j : Int) := by omega
                have HCW := Lib.hid (HC.out hlo W4 HP4.out.below)
                gi_wp2_with fail
                refine ⟨trivial, (callsIn_wide.2 HCW.out).mono ?_⟩
                rintro e W5 ⟨vc, rfl, hown, hb5⟩
                have HP5 := Lib.hid ((HP4.out.pushRow hb5 hown).sub (L' := [.row vc 3 1 c.length (c.map intV)]) (by simp))
                clear hown hb5
                gi_wp2_with fail
                show LeavesInM _ _ _ _ _ _ (marksOf ds) .returning _
                refine hp_leaves (fun X hX => ?_) _ _ _ HP5.out
                exact ⟨.tuple #[.slice none 0 0, vc], by simp [results, Tryd.results31, go_sem], _, vc, rfl, World.ownsRow_nil _ _ _ _, hX.row 0 rfl, hX.below⟩
              · rw [if_neg hlo] at hrj
                subst hrj
                have j3 : ¬ (o1.length : Int) < (j : Int) := by omega
                have HP5 := Lib.hid (HP4.out.sub (L' := [.row (.slice A o1.length cp) 3 1 o1.length ((zs o1).map intV)]) (by simp))
                gi_wp2_with fail
                show LeavesInM _ _ _ _ _ _ (marksOf ds) .returning _
                refine hp_leaves (fun X hX => ?_) _ _ _ HP5.out
                exact ⟨.tuple #[.slice A o1.length cp, .slice none 0 0], by simp [results, Tryd.results31, go_sem], _, _, rfl, by rw [show (zs o1).length = o1.length by simp [zs]]; exact hX.row 0 rfl, World.ownsRow_nil _ _ _ _, hX.below⟩
            · obtain ⟨v, tl, hv⟩ : ∃ v tl, mem r1 = v :: tl := by
                cases hm : mem r1 with
                | nil => exact absurd ((mem_nilS HRF.out).1 hm) hr0
                | cons v tl => exact ⟨v, tl, rfl⟩
              have hvr : v ∈ mem r1 := by rw [hv]; simp
              have hvj : v < j := HRL.out v (mem_tb hvr)
              rw [decide_eq_false hr0] at HEE
              have HGo : Hid (∃ q', m = q' + 1 ∧ Eqn (some o) (ordGo S q' ((mem (S.getD v 0)).foldl downS (X1, mi r1 (2 ^ v))).1 ((mem (S.getD v 0)).foldl downS (X1, mi r1 (2 ^ v))).2 (o1 ++ [v]))) := Lib.hid (by
                have := hGo.out
                unfold ordGo at this
                rw [if_neg hr0] at this
                cases m with
                | zero => cases this
                | succ q => exact ⟨q, rfl, by rw [hv] at this; exact this⟩)
              have hmin : nextF r1 0 = (v : Int) := by rw [next_first]; unfold atK; rw [hv]; rfl
              obtain ⟨A, cp, rfl⟩ := hP.form 3 rfl
              have HRO := Lib.hid (mi_lt (2 ^ v) HRF.out)
              have HRO2 : Hid (∀ b, (mi r1 (2 ^ v)).testBit b = true → b < j) := Lib.hid (fun b hb => by rw [mi_tb, Bool.and_eq_true] at hb; exact HRL.out b hb.1)
              clear hP hGo hv hvr hr0
              gi_wp2_with fail
              refine ⟨trivial, (callsIn_wide.2 (HEE.out _)).mono ?_⟩
              rintro e W4 ⟨rfl, hb4⟩
              have hP4 := HP.out.keep hb4
              have HP4 := Lib.hid hP4
              have HMM := HMN.out r1 W4 HRF.out (HT.out.keep hP4.below)
              rw [hmin] at HMM
              replace HMM := Lib.hid HMM
              clear hb4 hmin c2_0 c2_1 c2_2 c2_3 c2_4 c2_5 c2_6 c2_7 f2 l2
              obtain ⟨c2_0, c2_1, c2_2, c2_3, c2_4, c2_5, c2_6, c2_7⟩ := (hP4.blk 2 rfl).eight; have f2 := hP4.f 2 rfl; have l2 := hP4.lt 2 rfl
              clear hP4
              gi_wp2_with fail
              refine ⟨trivial, (callsIn_wide.2 HMM.out).mono ?_⟩
              rintro e W5 ⟨rfl, hb5⟩
              have hP5 := HP4.out.keep hb5
              have HP5 := Lib.hid hP5
              have HRE := HRM.out r1 (v : Int) W5 (by omega)
              rw [Int.toNat_natCast] at HRE
              replace HRE := Lib.hid HRE
              clear hb5 c2_0 c2_1 c2_2 c2_3 c2_4 c2_5 c2_6 c2_7 f2 l2
              obtain ⟨c2_0, c2_1, c2_2, c2_3, c2_4, c2_5, c2_6, c2_7⟩ := (hP5.blk 2 rfl).eight; have f2 := hP5.f 2 rfl; have l2 := hP5.lt 2 rfl
              clear hP5
              gi_wp2_with fail
              refine ⟨trivial, (callsIn_wide.2 HRE.out).mono ?_⟩
              rintro e W6 ⟨rfl, hb6⟩
              have hP6 := HP5.out.keep hb6
              have HP6 := Lib.hid hP6
              clear hb6 c2_0 c2_1 c2_2 c2_3 c2_4 c2_5 c2_6 c2_7 f2 l2
              obtain ⟨c2_0, c2_1, c2_2, c2_3, c2_4, c2_5, c2_6, c2_7⟩ := (hP6.blk 2 rfl).eight; have f2 := hP6.f 2 rfl; have l2 := hP6.lt 2 rfl
              clear hP6
              generalize mi r1 (2 ^ v) = r2 at *
              gi_upto_region 23 with fail
              obtain ⟨V7, hV7⟩ : ∃ V7, V7 = set8 W6 p8 r2 := ⟨_, rfl⟩
              have HP7 := Lib.hid (HP6.out.set8 2 r2 rfl)
              rw [← hV7] at HP7
              unfold set8 at hV7
              rw [← hV7]
              clear hV7 c2_0 c2_1 c2_2 c2_3 c2_4 c2_5 c2_6 c2_7 f2 l2
              obtain ⟨T, hTS⟩ : ∃ T, S[v]? = some T := ⟨_, List.getElem?_eq_getElem (by have := HN.out; omega)⟩
              have HTT : Hid (T ∈ S ∧ S.getD v 0 = T ∧ S[v]? = some T) := Lib.hid ⟨List.mem_of_getElem? hTS, by rw [List.getD_eq_getElem?_getD, hTS]; rfl, hTS⟩
              clear hTS
              have j4 : (v : Int) < (j : Int) := by omega
              gi_wp2_with (gi_at_builtin; go_loud (refine wpListIn_append_own_at _ rfl _ _ 36 rfl w.heap.size 3 i0 (.int .i64 0) 1 8 Tryd.underlying36 hi hz0 hz1 hz2 rfl (by decide) _ _ _ rfl ((HP7.out.row 3 rfl).alloc _) ⟨V7.heap.size, 0, none⟩ 1 1 [.int .i64 (v : Int)] rfl rfl (cell_one_new _ _ _) (by simp [Value.oneCell']) (by unfold maxLen; omega) (by omega) (by have := HP7.out.below.size; simp; omega) ?_); intro v8 w8 hown' hgrow _ hat; have HP8 := Lib.hid ((HP7.out.alloc0 _).grow 3 rfl hgrow hown' hat); obtain ⟨A8, cp8, rfl⟩ := HP8.out.form 3 rfl; clear hown' hgrow hat; have hG := HG.out.keep HP8.out.below; obtain ⟨_, c1, _, c3⟩ := hG.cells; rw [HN.out] at c1; obtain ⟨y0, y1, y2, y3, y4, y5, y6, y7, y8⟩ := row_cells hG.2.1 HTT.out.2.2; clear hG)
              refine ⟨trivial, (callsIn_wide.2 (HA.out T _)).mono ?_⟩
              rintro e WE ⟨rfl, hWE⟩
              have HPE := Lib.hid (HP8.out.allocS T 40)
              rw [← hWE] at HPE
              clear hWE c1 c3 y0 y1 y2 y3 y4 y5 y6 y7 y8
              generalize w8.heap.size = Bn at *
              obtain ⟨q', hq', HGo2⟩ := HGo.out
              rw [HTT.out.2.1] at HGo2
              gi_wp2_with fail
              refine hp_range (w := w) (ds := ds) (σ := List Int × Nat) (fun st => [.blk w.heap.size 3 (st.1.map intV), .blk p5 36 [.slice (some ⟨w.heap.size, 0, none⟩) j j], .blk p8 40 (tabL 8 (sC st.2)), .row (.slice A8 (o1.length + 1) cp8) 3 1 (o1.length + 1) ((zs o1).map intV ++ [.int .i64 (v : Int)]), .blk Bn 40 (tabL 8 (sC T))])
                (fun pre st => st = (pre.map Fin.val).foldl downS (X1, r2)) (fun _ _ _ => False) 4 ?a3 (by decide)
                (gf := 63) (lb := #[.pointer (some ⟨Bn, 0, none⟩)]) rfl (enters_of Tryd.func63 (by kernel_rfl) rfl) (all_stopsF j 2 (by decide) Bn w.heap.size T (HF.out T HTT.out.1) (fun x hx => by have := HI.out T HTT.out.1 x (mem_tb hx); rw [HN.out] at this; exact this) h4 WE (HPE.out.blk 4 rfl) (HT.out.keep HPE.out.below)) rfl (Nat.le_refl _) (fun _ => rfl) (X1, r2) rfl HPE.out (fun _ => rfl) ?assign3 ?body3 ?done3 ?stop3
              case assign3 =>
                intro l x X K hK
                gi_wp2
                exact hK
              case body3 =>
                rintro l pre x X _ _ rfl hX hlen
                have HX := Lib.hid hX
                have hLl : ((pre.map Fin.val).foldl downS (X1, r2)).1.length = j := by rw [downs_len]; exact hXl
                have HSN : Hid (((pre ++ [x]).map Fin.val).foldl downS (X1, r2) = downS ((pre.map Fin.val).foldl downS (X1, r2)) x.1) := Lib.hid (by rw [List.map_append, List.foldl_append]; rfl)
                have hxn := x.2
                generalize (pre.map Fin.val).foldl downS (X1, r2) = st at *
                obtain ⟨L, r3⟩ := st
                dsimp only at hLl hX HX
                generalize x.1 = xn at *
                have j1 : (xn : Int) < (j : Int) := by omega
                obtain ⟨z, hz⟩ : ∃ z, L[xn]? = some z := ⟨_, List.getElem?_eq_getElem (by omega)⟩
                have hLz : L.getD xn 0 = z := by rw [List.getD_eq_getElem?_getD, hz]; rfl
                have HB : Hid (downS (L, r3) xn = (L.set xn (wrap64 (z - 1)), if wrap64 (z - 1) = 0 then r3 ||| 2 ^ xn else r3)) := Lib.hid (by unfold downS; dsimp only; rw [hLz])
                have HZ : Hid ((L.set xn (wrap64 (z - 1)))[xn]? = some (wrap64 (z - 1))) := Lib.hid (by rw [List.getElem?_set, if_pos rfl, if_pos (by omega)])
                have cA := hX.cI 0 xn rfl hz
                have fA := hX.f 0 rfl
                have lA := hX.lt 0 rfl
                have c1 := hX.c 1 0 rfl rfl; have f1 := hX.f 1 rfl; have l1 := hX.lt 1 rfl
                clear hX hLl hz hLz
                gi_upto_region 27 with fail
                obtain ⟨V9, hV9⟩ : ∃ V9, V9 = X.setCell ⟨w.heap.size, xn, none⟩ (.int .i64 (wrap64 (z - 1))) := ⟨_, rfl⟩
                have hP9 := HX.out.setI 0 xn (wrap64 (z - 1)) rfl
                rw [← hV9] at hP9 ⊢
                have HP9 := Lib.hid hP9
                clear hV9 cA fA lA c1 f1 l1
                generalize wrap64 (z - 1) = z' at *
                have cA := hP9.cI 0 xn rfl HZ.out
                have c1 := hP9.c 1 0 rfl rfl; have f1 := hP9.f 1 rfl; have l1 := hP9.lt 1 rfl; obtain ⟨c2_0, c2_1, c2_2, c2_3, c2_4, c2_5, c2_6, c2_7⟩ := (hP9.blk 2 rfl).eight; have f2 := hP9.f 2 rfl; have l2 := hP9.lt 2 rfl
                have HAX := HAD.out r3 (xn : Int) V9 (by omega)
                rw [Int.toNat_natCast] at HAX
                replace HAX := Lib.hid HAX
                clear hP9
                by_cases hz' : z' = 0
                · subst hz'
                  rw [if_pos rfl] at HB
                  gi_wp2_with fail
                  refine ⟨trivial, (CallsIn.inRound l (callsIn_wide.2 HAX.out)).mono ?_⟩
                  rintro e W4 ⟨rfl, hb4⟩
                  have hP4 := HP9.out.keep hb4
                  have HP4 := Lib.hid hP4
                  clear hb4 cA c1 f1 l1 c2_0 c2_1 c2_2 c2_3 c2_4 c2_5 c2_6 c2_7 f2 l2
                  obtain ⟨c2_0, c2_1, c2_2, c2_3, c2_4, c2_5, c2_6, c2_7⟩ := (hP4.blk 2 rfl).eight; have f2 := hP4.f 2 rfl; have l2 := hP4.lt 2 rfl
                  clear hP4
                  gi_wp2_with fail
                  refine ⟨_, HSN.out.symm, ?_⟩
                  rw [HB.out]
                  exact HP4.out.set8 2 (r3 ||| 2 ^ xn) rfl
                · rw [if_neg hz'] at HB
                  gi_wp2_with fail
                  refine ⟨_, HSN.out.symm, ?_⟩
                  rw [HB.out]
                  exact HP9.out
              case done3 =>
                rintro D ys X _ hys rfl hX
                have hys' : ys.map Fin.val = mem T := hys
                rw [hys'] at hX
                have HX := Lib.hid hX
                clear hys hys' hX
                gi_wp2_with fail
                refine ⟨q', by omega, q', _, _, o1 ++ [v], _, D :: ds, rfl, by rw [List.length_append, List.length_singleton]; omega, by rw [downs_len]; exact hXl, ?_, HGo2, OrF3_mk, ?_⟩
                · exact downs_lt _ _ (fun x hx => by have := HI.out T HTT.out.1 x (mem_tb hx); rw [HN.out] at this; exact this) HRO2.out
                · rw [List.length_append, List.length_singleton, show (zs (o1 ++ [v])).map intV = (zs o1).map intV ++ [.int .i64 (v : Int)] by simp [zs, intV]]
                  exact (HX.out.sub (by simp)).rebase
              case stop3 =>
                rintro D c pre X _ _ h _
                exact h.elim
end Go.Proofs.YtpaakgngoocjeaaDoor

/- The contract of Longest of digraph. -/
namespace Go.Proofs.YtpaakgngoocjeaaDoor
open Go.RowKit Go.Shelf Go.ChangeShapes Go.WideShapes Go.ChangeAt Go.Deep Go.Joins

attribute [local go_sem] Oper.semAt_some

theorem ord_lt {S : List Nat} (hI : InG S) : ∀ (f : Nat) (X : List Int) (r : Nat) (o : List Nat) (res : List Nat), (∀ b, r.testBit b = true → b < S.length) → Fit r → (∀ x ∈ o, x < S.length) → S.length ≤ 512 → ordGo S f X r o = some res → ∀ x ∈ res, x < S.length := by
  intro f
  induction f with
  | zero =>
    intro X r o res hr hF ho h512 h
    unfold ordGo at h
    split at h
    · cases h; exact ho
    · cases h
  | succ f ih =>
    intro X r o res hr hF ho h512 h
    unfold ordGo at h
    split at h
    · cases h; exact ho
    · rename_i h0
      obtain ⟨v, tl, hv⟩ : ∃ v tl, mem r = v :: tl := by
        cases hm : mem r with
        | nil => exact absurd ((mem_nilS hF).1 hm) h0
        | cons v tl => exact ⟨v, tl, rfl⟩
      have hvr : v < S.length := hr v (mem_tb (by rw [hv]; simp))
      simp only [hv, List.headD_cons] at h
      have hb : ∀ b, ((mem (S.getD v 0)).foldl downS (X, mi r (2 ^ v))).2.testBit b = true → b < S.length := by
        refine downs_lt _ _ (fun x hx => ?_) (fun b hb => ?_)
        · have h1 := mem_tb hx
          rw [List.getD_eq_getElem?_getD] at h1
          cases h2 : S[v]? with
          | none => rw [h2] at h1; simp at h1
          | some y => rw [h2] at h1; exact hI y (List.mem_of_getElem? h2) _ h1
        · rw [mi_tb, Bool.and_eq_true] at hb; exact hr b hb.1
      refine ih _ _ _ _ hb (fit_lt h512 hb) (fun x hx => ?_) h512 h
      rcases List.mem_append.1 hx with h1 | h1
      · exact ho x h1
      · rw [List.mem_singleton] at h1; omega
theorem wrap64_eq (x : Int) : wrap64 x = IntKind.i64.wrap x := by rw [IntKind.wrap_i64]; unfold wrap64; omega
theorem max_if (x y : Int) : max x y = if x < y then y else x := by rw [Int.max_def]; split <;> split <;> omega
/-- the longest paths: one arc -/
def lgArc (v : Nat) (X : List Int) (w : Nat) : List Int := X.set w (max (X.getD w 0) (wrap64 (X.getD v 0 + 1)))
theorem lgs_len (v : Nat) : ∀ (L : List Nat) (X : List Int), (L.foldl (lgArc v) X).length = X.length := by
  intro L
  induction L with
  | nil => intro X; rfl
  | cons x r ih => intro X; rw [List.foldl_cons, ih]; simp [lgArc]
def lgK (S o : List Nat) (k : Nat) : List Int := (o.take k).foldl (fun X v => (mem (S.getD v 0)).foldl (lgArc v) X) (List.replicate S.length 0)
theorem lgK_succ (S o : List Nat) (k v : Nat) (h : o[k]? = some v) : lgK S o (k + 1) = (mem (S.getD v 0)).foldl (lgArc v) (lgK S o k) := by unfold lgK; rw [List.take_add_one, h]; simp
theorem lgK_len (S o : List Nat) : ∀ k, (lgK S o k).length = S.length := by
  intro k
  induction k with
  | zero => simp [lgK]
  | succ k ih =>
    cases h : o[k]? with
    | none => rw [lgK, List.take_of_length_le (by have := List.getElem?_eq_none_iff.1 h; omega), ← List.take_of_length_le (i := k) (l := o) (by have := List.getElem?_eq_none_iff.1 h; omega)]; exact ih
    | some v => rw [lgK_succ S o k v h, lgs_len, ih]

def LoF (gb p6 q k : Nat) (v27 : Value) (ds : List Nat) (a : Act) : Prop := ∃ u : Nat → Value, a = { tmps := #[(.pointer (some ⟨gb, 0, none⟩)), u 1, (.slice none 0 0), (.int .i64 0), u 4, u 5, (.pointer (some ⟨p6, 0, none⟩)), u 7, u 8, u 9, u 10, u 11, u 12, u 13, u 14, u 15, u 16, u 17, u 18, u 19, u 20, u 21, u 22, u 23, u 24, u 25, u 26, v27, (.int .i64 (q : Int)), (.int .i64 (k : Int)), u 30, u 31, u 32, u 33, u 34, u 35, u 36, u 37, u 38, u 39, u 40, u 41, u 42, u 43, u 44, u 45, u 46, u 47, u 48, u 49, u 50, u 51, u 52, u 53, u 54, u 55, u 56], defers := marksOf ds }
theorem LoF_mk {gb p6 q k : Nat} {v27 : Value} {ds : List Nat} {u1 u4 u5 u7 u8 u9 u10 u11 u12 u13 u14 u15 u16 u17 u18 u19 u20 u21 u22 u23 u24 u25 u26 u30 u31 u32 u33 u34 u35 u36 u37 u38 u39 u40 u41 u42 u43 u44 u45 u46 u47 u48 u49 u50 u51 u52 u53 u54 u55 u56 : Value} : LoF gb p6 q k v27 ds { tmps := #[(.pointer (some ⟨gb, 0, none⟩)), u1, (.slice none 0 0), (.int .i64 0), u4, u5, (.pointer (some ⟨p6, 0, none⟩)), u7, u8, u9, u10, u11, u12, u13, u14, u15, u16, u17, u18, u19, u20, u21, u22, u23, u24, u25, u26, v27, (.int .i64 (q : Int)), (.int .i64 (k : Int)), u30, u31, u32, u33, u34, u35, u36, u37, u38, u39, u40, u41, u42, u43, u44, u45, u46, u47, u48, u49, u50, u51, u52, u53, u54, u55, u56], defers := marksOf ds } := ⟨fun i => [undef, u1, undef, undef, u4, u5, undef, u7, u8, u9, u10, u11, u12, u13, u14, u15, u16, u17, u18, u19, u20, u21, u22, u23, u24, u25, u26, undef, undef, undef, u30, u31, u32, u33, u34, u35, u36, u37, u38, u39, u40, u41, u42, u43, u44, u45, u46, u47, u48, u49, u50, u51, u52, u53, u54, u55, u56].getD i undef, rfl⟩
theorem glongest_cyc {gb rb cap : Nat} {ext : List Value} {S : List Nat} {arcs : Int} (c : List Int) (w : World) (h : GAt w gb rb cap ext S arcs) (hc : 0 < c.length)
    (hO : Calls Tryd.prog 31 #[.pointer (some ⟨gb, 0, none⟩)] w (TwoInts ([], c) w)) :
    Calls Tryd.prog 34 #[.pointer (some ⟨gb, 0, none⟩)] w (RetPost (.tuple #[.slice none 0 0, .int .i64 8]) w.heap.size w) := by
  have HV := Lib.hid (gvalid_any w h)
  have HO := Lib.hid hO
  have j0 : (0 : Int) < (c.length : Int) := by omega
  clear h hO hc
  refine (callsIn_wide (n := 3)).1 ?_
  refine callsIn_of_wp_marks Tryd.func34 rfl trivial ?_ rfl
  simp only [Tryd.ntmps34, List.size_toArray, List.length_cons, List.length_nil, Nat.reduceAdd, Nat.reduceSub, Array.replicate_succ, Array.replicate_zero, List.push_toArray, List.append_toArray, List.nil_append, List.cons_append]
  gi_wp2_with fail
  refine ⟨trivial, (callsIn_wide.2 HV.out).mono ?_⟩
  rintro e W1 ⟨rfl, rfl⟩
  clear HV
  gi_wp2_with fail
  refine ⟨trivial, (callsIn_wide.2 HO.out).mono ?_⟩
  rintro e W1 ⟨v1, v2, rfl, ho1, ho2, hb⟩
  obtain ⟨A2, cp2, rfl⟩ := ((Hp.start w).pushRow hb ho2).form 0 rfl
  have HB := Lib.hid hb
  clear ho1 ho2 hb
  dsimp only
  gi_wp2_with fail
  show LeavesInM _ _ _ _ _ _ (marksOf []) .returning _
  exact ⟨_, by simp [results, Tryd.results34, go_sem], rfl, HB.out⟩

set_option maxRecDepth 100000 in
set_option maxHeartbeats 4000000 in
theorem glongest_ok {gb rb cap : Nat} {ext : List Value} {S : List Nat} {arcs : Int} (o : List Nat) (w : World) (hT : Tab w) (h : GAt w gb rb cap ext S arcs) (hI : InG S) (ho : ∀ x ∈ o, x < S.length) (hol : o.length ≤ 1000)
    (hO : Calls Tryd.prog 31 #[.pointer (some ⟨gb, 0, none⟩)] w (TwoInts (zs o, []) w)) :
    Calls Tryd.prog 34 #[.pointer (some ⟨gb, 0, none⟩)] w (ListPost (lgK S o o.length, 0) w) := by
  have h512 := h.2.2.2
  have HG := Lib.hid h
  have HF : Hid (∀ x ∈ S, Fit x) := Lib.hid h.2.2.1
  have HT := Lib.hid hT
  have HI := Lib.hid hI
  have HOL := Lib.hid ho
  have h4 : tabN ≤ w.heap.size := hT.1
  have HV := Lib.hid (gvalid_any w h)
  have HO := Lib.hid hO
  have HA := Lib.hid (fun T W => all_any T W)
  obtain ⟨i0, hi, hz0, hz1, hz2⟩ := info_parts int_info
  clear h hI hT hO ho
  unfold sV at HA
  generalize hn : S.length = n at *
  have HN := Eqn.mk hn
  clear hn
  refine (callsIn_wide (n := 3)).1 ?_
  refine callsIn_of_wp_marks Tryd.func34 rfl trivial ?_ rfl
  simp only [Tryd.ntmps34, List.size_toArray, List.length_cons, List.length_nil, Nat.reduceAdd, Nat.reduceSub, Array.replicate_succ, Array.replicate_zero, List.push_toArray, List.append_toArray, List.nil_append, List.cons_append]
  gi_wp2_with fail
  refine ⟨trivial, (callsIn_wide.2 HV.out).mono ?_⟩
  rintro e W1 ⟨rfl, rfl⟩
  clear HV
  gi_wp2_with fail
  refine ⟨trivial, (callsIn_wide.2 HO.out).mono ?_⟩
  rintro e W1 ⟨v1, v2, rfl, ho1, ho2, hb⟩
  obtain ⟨A2, cp2, rfl⟩ := ((Hp.start w).pushRow hb ho2).form 0 rfl
  have hP1 := (Hp.start w).pushRow hb ho1
  obtain ⟨A1, cp1, rfl⟩ := hP1.form 0 rfl
  rw [show (zs o).length = o.length by simp [zs]] at hP1 ⊢
  have HP1 := Lib.hid hP1
  obtain ⟨_, c1, _, c3⟩ := (HG.out.keep hb).cells
  rw [HN.out] at c1
  clear ho1 ho2 hb hP1
  dsimp only
  gi_wp2_with (gi_at_make; refine wpListIn_make_full _ rfl _ _ 36 rfl w.heap.size 3 i0 (.int .i64 0) 1 Tryd.underlying36 hi hz0 hz1 .i64 .i64 _ _ n rfl rfl rfl rfl (by rw [hz2]; omega) (by unfold maxLen; omega) (by have := HP1.out.below.size; omega) ?_; intro W2 hown hgrow; rw [made_ints] at hown; have HP2 := Lib.hid ((HP1.out.made hown hgrow (Nat.le_refl _)).alloc1 (.slice (some ⟨W1.heap.size, 0, none⟩) n n) 36); clear hown hgrow)
  obtain ⟨V2, hV2⟩ : ∃ V2, V2 = W2.alloc (.cells #[.slice (some ⟨W1.heap.size, 0, none⟩) n n] 36) := ⟨_, rfl⟩
  rw [← hV2] at HP2 ⊢
  clear hV2 c1 c3
  generalize W2.heap.size = p6 at *
  generalize W1.heap.size = g6 at *
  refine wpIn_loop_ghost (fun m a W => ∃ (k : Nat) (ds : List Nat), m = o.length - k ∧ k ≤ o.length ∧ LoF gb p6 o.length k (.slice A1 o.length cp1) ds a ∧ Hp w W W [.row (.slice A1 o.length cp1) 3 1 o.length ((zs o).map intV), .blk g6 3 ((lgK S o k).map intV), .blk p6 36 [.slice (some ⟨g6, 0, none⟩) n n]] ds) (o.length - 0) ?start ?round
  case start =>
    exact ⟨0, [], rfl, Nat.zero_le _, LoF_mk, by have := HP2.out; rw [show lgK S o 0 = List.replicate n 0 by rw [← HN.out]; rfl]; exact this.rebase⟩
  case round =>
    clear HP2
    rintro m a W ⟨k, ds, rfl, hk, ⟨u, rfl⟩, hP⟩
    have HP := Lib.hid hP
    by_cases hlt : k < o.length
    · obtain ⟨v, hv⟩ : ∃ v, o[k]? = some v := ⟨_, List.getElem?_eq_getElem hlt⟩
      have hvn : v < n := HOL.out v (List.mem_of_getElem? hv)
      have j0 : (k : Int) < (o.length : Int) := by omega
      have j1 : (v : Int) < (n : Int) := by omega
      have HST := Eqn.mk (lgK_succ S o k v hv)
      have HLN := Lib.hid (lgK_len S o k)
      have e1 : IntKind.i64.wrap ((k : Int) + 1) = (k : Int) + 1 := IntWalk.i64_in _ (by omega)
      obtain ⟨T, hT⟩ : ∃ T, S[v]? = some T := ⟨_, List.getElem?_eq_getElem (by have := HN.out; omega)⟩
      have HTT : Hid (T ∈ S ∧ S.getD v 0 = T) := Lib.hid ⟨List.mem_of_getElem? hT, by rw [List.getD_eq_getElem?_getD, hT]; rfl⟩
      rw [HTT.out.2] at HST
      obtain ⟨gO, cO, hA1, cO, fO, lO⟩ := hP.at 0 k rfl (show ((zs o).map intV)[k]? = some (.int .i64 (v : Int)) by simp [zs, hv, intV])
      injection hA1 with hA1 _ hc
      subst hA1 hc
      obtain ⟨V3, hV3⟩ : ∃ V3, V3 = W.alloc (.cells #[.int .i64 (v : Int)] 3) := ⟨_, rfl⟩
      have hP3 := hP.alloc1 (.int .i64 (v : Int)) 3
      rw [← hV3] at hP3
      have HP3 := Lib.hid hP3
      have hG := HG.out.keep hP3.below
      obtain ⟨_, q1, _, q3⟩ := hG.cells
      rw [HN.out] at q1
      obtain ⟨y0, y1, y2, y3, y4, y5, y6, y7, y8⟩ := row_cells hG.2.1 hT
      have c3 := hP3.c 3 0 rfl rfl; have f3 := hP3.f 3 rfl; have l3 := hP3.lt 3 rfl
      clear hP hv hT hG
      gi_upto_region 10 with fail
      rw [← hV3]
      clear hV3
      generalize W.heap.size = p8 at *
      clear hP3 cO fO lO
      refine Lx.regionW (C := fun _ => True) (hs := []) (by kernel_rfl) (by kernel_rfl) (by kernel_rfl) trivial ?_
      repeat' (first
        | (refine Lx.lex_no (Lx.n1 rfl rfl rfl (by with_reducible rfl)) (fun K hK => ?_); go_simp; refine hK _ ?_; clear hK K)
        | (refine Lx.lex_no (Lx.n0 rfl rfl rfl (by with_reducible rfl)) (fun K hK => ?_); go_simp; refine hK _ ?_; clear hK K)
        | (refine Lx.lex_no (Lx.n2 rfl rfl rfl) (fun K hK => ?_); go_simp; refine hK _ ?_; clear hK K)
        | (refine Lx.lex_pure (v := ?_) rfl (by first | exact Lx.w0 rfl | exact Lx.w1 rfl rfl rfl (by with_reducible rfl)) ?_ (fun K hK => ?_); rotate_left 1; (intro w' hCw; (try dsimp only at hCw); go_simp; done); go_simp; refine hK _ ?_; clear hK K)
        | (refine Lx.lex_pure (v := ?_) rfl (by first | exact Lx.w0 rfl | exact Lx.w1 rfl rfl rfl (by with_reducible rfl)) ?_ (fun K hK => ?_); rotate_left 1; (intro w' hCw; (try dsimp only at hCw); go_simp; with_reducible rfl); go_simp; refine hK _ ?_; clear hK K)
        | (refine Lx.lex_read (v := ?_) rfl (by first | exact Lx.w0 rfl | exact Lx.w1 rfl rfl rfl (by with_reducible rfl)) ?_ (fun K hK => ?_); rotate_left 1; (go_simp; done); go_simp; refine hK _ ?_; clear hK K)
        | (refine Lx.lex_read (v := ?_) rfl (by first | exact Lx.w0 rfl | exact Lx.w1 rfl rfl rfl (by with_reducible rfl)) ?_ (fun K hK => ?_); rotate_left 1; (go_simp; with_reducible rfl); go_simp; refine hK _ ?_; clear hK K)
        | (refine Lx.lex_eff rfl (by first | exact Lx.w0 rfl | exact Lx.w1 rfl rfl rfl (by with_reducible rfl)) (fun K hK => ?_); go_simp; (first | (go_at_call 46; refine (HA.out T _).mono ?_; rintro e WE ⟨rfl, hWE⟩) | skip); refine hK _ _ (trivial) ?_; clear hK K)
        | (refine Lx.lex_cases rfl rfl rfl (fun hgd K hK => ?_) (fun hgd K hK => ?_) <;> (try simp only [decide_eq_true_eq, decide_eq_false_iff_not] at hgd) <;> (first | (exfalso; omega) | (go_simp; refine hK _ ?_; clear hK K))))
      all_goals (refine Lx.lex_nil ?_)
      have HPE := Lib.hid (HP3.out.drew.allocS T 40)
      rw [← hWE] at HPE
      clear hWE q1 q3 y0 y1 y2 y3 y4 y5 y6 y7 y8 c3 f3 l3
      generalize V3.drew.heap.size = Bn at *
      generalize lgK S o k = X0 at *
      gi_wp2_with fail
      refine hp_range (w := w) (ds := ds) (σ := List Int) (fun X => [.row (.slice (some ⟨gO, 0, none⟩) o.length cp1) 3 1 o.length ((zs o).map intV), .blk g6 3 (X.map intV), .blk p6 36 [.slice (some ⟨g6, 0, none⟩) n n], .blk p8 3 [.int .i64 (v : Int)], .blk Bn 40 (tabL 8 (sC T))])
        (fun pre X => X = (pre.map Fin.val).foldl (lgArc v) X0) (fun _ _ _ => False) 4 ?a₁ (by decide)
        (gf := 63) (lb := #[.pointer (some ⟨Bn, 0, none⟩)]) rfl (enters_of Tryd.func63 (by kernel_rfl) rfl) (all_stopsF n 2 (by decide) Bn w.heap.size T (HF.out T HTT.out.1) (fun x hx => by have := HI.out T HTT.out.1 x (mem_tb hx); rw [HN.out] at this; exact this) h4 WE (HPE.out.blk 4 rfl) (HT.out.keep HPE.out.below)) rfl (Nat.le_refl _) (fun _ => rfl) X0 rfl HPE.out (fun _ => rfl) ?assign ?body ?done ?stop
      case assign =>
        intro l x X K hK
        gi_wp2
        exact hK
      case body =>
        rintro l pre x X _ _ rfl hX hlen
        have HX := Lib.hid hX
        have hLl : ((pre.map Fin.val).foldl (lgArc v) X0).length = n := by rw [lgs_len, HLN.out, HN.out]
        have HSN : Hid (((pre ++ [x]).map Fin.val).foldl (lgArc v) X0 = lgArc v ((pre.map Fin.val).foldl (lgArc v) X0) x.1) := Lib.hid (by rw [List.map_append, List.foldl_append]; rfl)
        have hxn := x.2
        generalize (pre.map Fin.val).foldl (lgArc v) X0 = L at *
        generalize x.1 = xn at *
        have j1 : (xn : Int) < (n : Int) := by omega
        obtain ⟨z, hz⟩ : ∃ z, L[xn]? = some z := ⟨_, List.getElem?_eq_getElem (by omega)⟩
        obtain ⟨z2, hz2'⟩ : ∃ z, L[v]? = some z := ⟨_, List.getElem?_eq_getElem (by omega)⟩
        have HB : Hid (lgArc v L xn = L.set xn (if z < IntKind.i64.wrap (z2 + 1) then IntKind.i64.wrap (z2 + 1) else z)) := Lib.hid (by unfold lgArc; rw [List.getD_eq_getElem?_getD, List.getD_eq_getElem?_getD, hz, hz2']; show L.set xn (max z (wrap64 (z2 + 1))) = _; rw [← wrap64_eq, max_if])
        have cA := hX.cI 1 xn rfl hz
        have cB := hX.cI 1 v rfl hz2'
        have fA := hX.f 1 rfl
        have lA := hX.lt 1 rfl
        have c2 := hX.c 2 0 rfl rfl; have f2 := hX.f 2 rfl; have l2 := hX.lt 2 rfl; have c3 := hX.c 3 0 rfl rfl; have f3 := hX.f 3 rfl; have l3 := hX.lt 3 rfl
        clear hX hLl hz hz2'
        gi_wp2_with fail
        refine Lx.regionIn (C := fun _ => True) (hs := []) (by kernel_rfl) (by kernel_rfl) (by kernel_rfl) trivial ?_
        repeat' (first
          | (refine Lx.lex_no (Lx.n1 rfl rfl rfl (by with_reducible rfl)) (fun K hK => ?_); go_simp; refine hK _ ?_; clear hK K)
          | (refine Lx.lex_no (Lx.n0 rfl rfl rfl (by with_reducible rfl)) (fun K hK => ?_); go_simp; refine hK _ ?_; clear hK K)
          | (refine Lx.lex_no (Lx.n2 rfl rfl rfl) (fun K hK => ?_); go_simp; refine hK _ ?_; clear hK K)
          | (refine Lx.lex_pure (v := ?_) rfl (by first | exact Lx.w0 rfl | exact Lx.w1 rfl rfl rfl (by with_reducible rfl)) ?_ (fun K hK => ?_); rotate_left 1; (intro w' hCw; (try dsimp only at hCw); go_simp; done); go_simp; refine hK _ ?_; clear hK K)
          | (refine Lx.lex_pure (v := ?_) rfl (by first | exact Lx.w0 rfl | exact Lx.w1 rfl rfl rfl (by with_reducible rfl)) ?_ (fun K hK => ?_); rotate_left 1; (intro w' hCw; (try dsimp only at hCw); go_simp; with_reducible rfl); go_simp; refine hK _ ?_; clear hK K)
          | (refine Lx.lex_read (v := ?_) rfl (by first | exact Lx.w0 rfl | exact Lx.w1 rfl rfl rfl (by with_reducible rfl)) ?_ (fun K hK => ?_); rotate_left 1; (go_simp; done); go_simp; refine hK _ ?_; clear hK K)
          | (refine Lx.lex_read (v := ?_) rfl (by first | exact Lx.w0 rfl | exact Lx.w1 rfl rfl rfl (by with_reducible rfl)) ?_ (fun K hK => ?_); rotate_left 1; (go_simp; with_reducible rfl); go_simp; refine hK _ ?_; clear hK K)
          | (refine Lx.lex_eff rfl (by first | exact Lx.w0 rfl | exact Lx.w1 rfl rfl rfl (by with_reducible rfl)) (fun K hK => ?_); go_simp; (first | fail | skip); refine hK _ _ (trivial) ?_; clear hK K)
          | (refine Lx.lex_cases rfl rfl rfl (fun hgd K hK => ?_) (fun hgd K hK => ?_) <;> (try simp only [decide_eq_true_eq, decide_eq_false_iff_not] at hgd) <;> (first | (exfalso; omega) | (go_simp; refine hK _ ?_; clear hK K))))
        all_goals (refine Lx.lex_nil ?_)
        generalize IntKind.i64.wrap (z2 + 1) = y at *
        by_cases hmx : z < y
        · rw [if_pos hmx] at HB ⊢
          clear hmx
          gi_wp2_with fail
          refine ⟨_, HSN.out.symm, ?_⟩
          rw [HB.out]
          exact (HX.out.setI 1 xn _ rfl).drew
        · rw [if_neg hmx] at HB ⊢
          clear hmx
          gi_wp2_with fail
          refine ⟨_, HSN.out.symm, ?_⟩
          rw [HB.out]
          exact (HX.out.setI 1 xn _ rfl).drew
      case done =>
        rintro D ys X _ hys rfl hX
        have hys' : ys.map Fin.val = mem T := hys
        rw [hys', ← HST.out] at hX
        have HX := Lib.hid hX
        clear hys hys' hX
        gi_wp2_with fail
        exact ⟨_, by omega, k + 1, D :: ds, rfl, hlt, LoF_mk, (HX.out.sub (by simp)).rebase⟩
      case stop =>
        rintro D c pre X _ _ h _
        exact h.elim
    · obtain rfl : k = o.length := by omega
      have c2 := hP.c 2 0 rfl rfl; have f2 := hP.f 2 rfl; have l2 := hP.lt 2 rfl
      clear hP
      gi_wp2_with fail
      show LeavesInM _ _ _ _ _ _ (marksOf ds) .returning _
      refine hp_leaves (fun X hX => ?_) _ _ _ HP.out
      have hLn : (lgK S o o.length).length = n := by rw [lgK_len, HN.out]
      have hr := hX.toRow 1 n 1 rfl (by simp [hLn]) (by unfold maxLen; omega)
      exact ⟨.tuple #[.slice (some ⟨g6, 0, none⟩) n n, .int .i64 0], by simp [results, Tryd.results34, go_sem], _, rfl, by rw [hLn]; exact hr.row 1 rfl, hX.below⟩
end Go.Proofs.YtpaakgngoocjeaaDoor

namespace Go.Proofs.YtpaakgngoocjeaaDoor
open Go.RowKit

namespace Lx
section
variable {P : Program} {ops : Array Oper} {C C' : World → Prop} {hs : List Nat}

def tailOk (n : Nat) (ops : Array Oper) : Bool :=
  let M := masks ops.toList []
  (List.range ops.size).all fun j => decide (j < n) || (List.range n).all fun i => (M.getD j 0).testBit i

theorem any_of_lexT {Q : Exit → Act → World → Prop} {n : Nat} (hok : ok hs ops = true) (ht : tailOk n ops = true) : ∀ (fuel : Nat) (L1 L2 : List Nat) (listed : Array Bool) (a : Act) (w : World), C w → (L1 ++ L2).length = fuel →
    (∀ i, i ∈ L1 ++ L2 ↔ i < ops.size ∧ listed.getD i true = false) → (L1 ++ L2).Pairwise (· < ·) → (∀ i ∈ L1, i < n) → (∀ i ∈ L2, n ≤ i) → Down ops listed → listed.size = ops.size →
    lexN P ops C hs (fun a w => C' w ∧ lexN P ops C' hs (fun a w => Q .normal a w) L2 a w) L1 a w → wpAny P .any ops Q fuel listed a w := by
  have htl : ∀ j, n ≤ j → j < ops.size → ∀ i, i < n → ((masks ops.toList []).getD j 0).testBit i = true := by
    intro j hj hjs i hi
    have h1 := List.all_eq_true.1 ht j (List.mem_range.2 hjs)
    simp only [Bool.or_eq_true, decide_eq_true_eq] at h1
    rcases h1 with h1 | h1
    · omega
    · exact List.all_eq_true.1 h1 i (List.mem_range.2 hi)
  have hok' : ∀ (j : Nat) (oj : Oper), ops[j]? = some oj → noSel oj = true ∧ (∀ e ∈ oj.after, Region.binds .any e = true → e.on < j) ∧ ∀ i, i < j → ((masks ops.toList []).getD j 0).testBit i = true ∨ pair ops hs i j = true := by
    intro j oj hj
    have hlt : j < ops.size := (Array.getElem?_eq_some_iff.1 hj).1
    have h1 := List.all_eq_true.1 hok j (List.mem_range.2 hlt)
    simp only [hj, Bool.and_eq_true] at h1
    obtain ⟨⟨h2, h3⟩, h4⟩ := h1
    refine ⟨h2, fun e he hb => ?_, fun i hi => ?_⟩
    · have := Array.all_eq_true'.1 h3 e he
      simpa [hb] using this
    · have := List.all_eq_true.1 h4 i (List.mem_range.2 hi)
      simpa using this
  have hsel : ∀ (j : Nat) (o : Oper) cs b, ops[j]? = some o → o.op ≠ .select cs b := by
    intro j o cs b hj he
    have := (hok' j o hj).1
    simp [noSel, he] at this
  intro fuel
  induction fuel with
  | zero =>
    intro L1 L2 listed a w hC hL hm hs' h1 h2 hD hsz h
    have hnil : L1 = [] := List.eq_nil_of_length_eq_zero (by simp at hL; simp [hL])
    subst hnil
    exact any_of_lex hok _ L2 listed a w h.1 (by simpa using hL) (by simpa using hm) (by simpa using hs') hD hsz h.2
  | succ fuel ih =>
    intro L1 L2 listed a w hC hL hm hs' h1 h2 hD hsz h
    cases L1 with
    | nil => exact any_of_lex hok _ L2 listed a w h.1 (by simpa using hL) (by simpa using hm) (by simpa using hs') hD hsz h.2
    | cons i0 L0 =>
      have hi0 : i0 < n := h1 i0 (by simp)
      obtain ⟨hi1, hi2⟩ := (hm i0).1 (by simp)
      refine ⟨fun hr => ?_, fun j hj => ?_⟩
      · exfalso
        have ho : ops[i0]? = some ops[i0] := Array.getElem?_eq_getElem hi1
        have hri : i0 ∈ Region.ready .any ops listed := by
          refine mem_ready.2 ⟨hi2, _, ho, fun e he hb => ?_⟩
          have hlt := (hok' i0 _ ho).2.1 e he hb
          by_cases hle : listed.getD e.on true = false
          · have hmem : e.on ∈ i0 :: (L0 ++ L2) := (hm e.on).2 ⟨by omega, hle⟩
            rcases List.mem_cons.1 hmem with h | h
            · omega
            · have := (List.pairwise_cons.1 hs').1 e.on h
              omega
          · have hb2 : e.on < listed.size := by omega
            simp only [Array.getD_eq_getD_getElem?, Array.getElem?_eq_getElem hb2, Option.getD_some] at hle ⊢
            simpa using hle
        rw [hr] at hri
        cases hri
      · obtain ⟨hj1, oj, hoj, hjr⟩ := mem_ready.1 hj
        have hjlt : j < ops.size := (Array.getElem?_eq_some_iff.1 hoj).1
        have hmem : j ∈ i0 :: L0 := by
          rcases List.mem_append.1 ((hm j).2 ⟨hjlt, hj1⟩) with h | h
          · exact h
          · exfalso
            have hl := masks_sound hD (j + 1) j oj (by omega) hoj hjr i0 (htl j (h2 j h) hjlt i0 hi0)
            have hb2 : i0 < listed.size := by omega
            simp only [Array.getD_eq_getD_getElem?, Array.getElem?_eq_getElem hb2, Option.getD_some] at hl hi2
            rw [hl] at hi2
            cases hi2
        obtain ⟨pre, post, hsplit⟩ := List.append_of_mem hmem
        rw [hsplit] at hs' hm hL h h1
        clear hsplit hmem
        have hs1 := (List.pairwise_append.1 hs').1
        have hpre : ∀ i ∈ pre, i < j := by
          intro i hi
          exact (List.pairwise_append.1 hs1).2.2 i hi j (by simp)
        have hpost : ∀ i ∈ post, j < i := fun i hi => (List.pairwise_cons.1 (List.pairwise_append.1 hs1).2.1).1 i hi
        have hpair : ∀ i ∈ pre, pair ops hs i j = true := by
          intro i hi
          rcases (hok' j oj hoj).2.2 i (hpre i hi) with h1 | h1
          · exfalso
            have hl := masks_sound hD (j + 1) j oj (by omega) hoj hjr i h1
            obtain ⟨hi1, hi2⟩ := (hm i).1 (by simp [hi])
            have hb2 : i < listed.size := by omega
            simp only [Array.getD_eq_getD_getElem?, Array.getElem?_eq_getElem hb2, Option.getD_some] at hl hi2
            rw [hl] at hi2
            cases hi2
          · exact h1
        have hp1 := pull hoj hsel post pre a w hpair hC h
        have hset : ∀ i, (listed.setIfInBounds j true).getD i true = false ↔ (listed.getD i true = false ∧ i ≠ j) := by
          intro i
          by_cases hij : i = j
          · subst hij
            simp [Array.getD_eq_getD_getElem?, Array.getElem?_setIfInBounds]
            split <;> simp_all
          · simp [Array.getD_eq_getD_getElem?, Array.getElem?_setIfInBounds_ne (Ne.symm hij), hij]
        have hp2 : step P ops C hs j oj (wpAny P .any ops Q fuel (listed.setIfInBounds j true)) a w := by
          refine step_mono hC hp1 fun a' w' hC' _ hK => ih (pre ++ post) L2 _ a' w' hC' ?_ ?_ ?_ ?_ h2 ?_ (by simp [hsz]) hK
          · simp at hL ⊢; omega
          · intro i
            rw [hset]
            constructor
            · intro hi
              have hi' : i ∈ (pre ++ j :: post) ++ L2 := by
                simp only [List.mem_append, List.mem_cons] at hi ⊢
                rcases hi with (h | h) | h <;> simp [h]
              obtain ⟨q1, q2⟩ := (hm i).1 hi'
              refine ⟨q1, q2, ?_⟩
              simp only [List.mem_append] at hi
              rcases hi with (h | h) | h
              · have := hpre i h; omega
              · have := hpost i h; omega
              · have := h1 j (by simp)
                have := h2 i h
                omega
            · rintro ⟨q1, q2, q3⟩
              have := (hm i).2 ⟨q1, q2⟩
              simp only [List.mem_append, List.mem_cons] at this ⊢
              rcases this with (h | h | h) | h
              · simp [h]
              · exact absurd h q3
              · simp [h]
              · simp [h]
          · have hp := List.pairwise_append.1 hs'
            refine List.pairwise_append.2 ⟨?_, hp.2.1, fun x hx y hy => hp.2.2 x (by simp only [List.mem_append, List.mem_cons] at hx ⊢; rcases hx with h | h <;> simp [h]) y hy⟩
            have hq := List.pairwise_append.1 hs1
            refine List.pairwise_append.2 ⟨hq.1, (List.pairwise_cons.1 hq.2.1).2, fun x hx y hy => ?_⟩
            have := hpre x hx
            have := hpost y hy
            omega
          · intro i hi
            refine h1 i ?_
            simp only [List.mem_append, List.mem_cons] at hi ⊢
            rcases hi with h | h <;> simp [h]
          · intro j' o' ho' hl' e he hb
            by_cases hjj : j' = j
            · subst hjj
              rw [hoj] at ho'
              injection ho' with ho'
              subst ho'
              exact getD_set_true (hjr e he hb)
            · rw [getD_set_ne false (Ne.symm hjj)] at hl'
              exact getD_set_true (hD j' o' ho' hl' e he hb)
        unfold step at hp2
        unfold wpOp
        simp only [hoj]
        split
        · rename_i hw
          rw [if_pos hw] at hp2
          left
          rcases hp2 with ⟨_, v, h3, h4⟩ | ⟨_, v, h3, h4⟩ | ⟨_, h3⟩
          · unfold Oper.wp; rw [h3 w hC]; exact h4
          · unfold Oper.wp; rw [h3]; exact h4
          · exact Oper.wp_mono (fun _ _ hh => hh.2) (wp_noQ h3)
        · rename_i hw
          rw [if_neg hw] at hp2
          exact hp2
end

theorem lexN_of_lexP {P : Program} {ops : Array Oper} {C : World → Prop} {hs : List Nat} {Q : Act → World → Prop} : ∀ (l : List Oper) (k : Nat), (∀ m, m < l.length → l[m]? = ops[k + m]?) → lex P ops C hs Q k l = lexN P ops C hs Q (List.range' k l.length) := by
  intro l
  induction l with
  | nil => intro k _; funext a w; simp [lex, lexN]
  | cons o r ih =>
    intro k h
    have h0 : ops[k]? = some o := by simpa using (h 0 (by simp)).symm
    have ih' := ih (k + 1) (fun m hm => by have := h (m + 1) (by simp; omega); simpa [Nat.add_assoc, Nat.add_comm 1 m] using this)
    funext a w
    simp only [lex, List.length_cons, List.range'_succ, lexN, h0, ih']

/-- THE REGION with a tail: l1 ahead, l2 behind -/
theorem regionT {P : Program} {C C' : World → Prop} {hs : List Nat} {id : Nat} {l : List Oper} {Q : Exit → Act → World → Prop} {a : Act} {w : World} (n : Nat) (l1 l2 : List Oper) (hl : l = l1 ++ l2) (hn : l1.length = n) (hm : P.follows .mixedOrders = true) (hok : ok hs l.toArray = true) (ht : tailOk n l.toArray = true) (hC : C w.drew)
    (h : lex P l.toArray C hs (fun a w => C' w ∧ lex P l.toArray C' hs (fun a w => Q .normal a w) n l2 a w) 0 l1 a w.drew) : (Code.region id l.toArray true).wp P Q a w := by
  subst hl
  refine wp_region_any hm ?_
  refine any_of_lexT (C := C) (C' := C') (hs := hs) (n := n) hok ht _ (List.range' 0 n) (List.range' n l2.length) _ a _ hC (by simp [hn]) ?_ ?_ ?_ ?_ ?_ (by simp) ?_
  · intro i
    simp [Array.getD_eq_getD_getElem?, Array.getElem?_replicate, hn]
    constructor
    · intro hi
      have : i < n + l2.length := by omega
      exact ⟨this, by simp [this]⟩
    · rintro ⟨hi, _⟩
      omega
  · have h1 := List.pairwise_lt_range (n := n + l2.length)
    rw [List.range_eq_range', List.range'_append_1.symm] at h1
    simpa using h1
  · intro i hi; simp at hi; exact hi
  · intro i hi; simp at hi; exact hi.1
  · intro j o ho hl
    simp [Array.getD_eq_getD_getElem?, Array.getElem?_replicate] at hl
    split at hl <;> simp at hl
  · have e2 := lexN_of_lex (P := P) (ops := (l1 ++ l2).toArray) (C := C') (hs := hs) (Q := fun a w => Q .normal a w) l2 n (fun m => by rw [List.getElem?_toArray, List.getElem?_append_right (by omega)]; congr 1; omega)
    rw [e2] at h
    have e1 := lexN_of_lexP (P := P) (ops := (l1 ++ l2).toArray) (C := C) (hs := hs) (Q := fun a w => C' w ∧ lexN P (l1 ++ l2).toArray C' hs (fun a w => Q .normal a w) (List.range' n l2.length) a w) l1 0 (fun m hm => by rw [Nat.zero_add, List.getElem?_toArray, List.getElem?_append_left hm])
    rw [e1, hn] at h
    exact h
section
variable {P : Program} {ops : Array Oper} {C : World → Prop} {hs : List Nat} {Q : Act → World → Prop} {k : Nat} {o : Oper} {r : List Oper} {a : Act} {w : World}
/-- append of a row of one-cell elements, whatever its address -/
theorem lex_append_row (hk : kind hs k o = 2) (hgd : o.guard = none) (s x : Operand) (t : TypeId)
    (ho : o.op = .call { callee := .builtin .append, args := #[s, x], argTypes := #[t, t] })
    {α : Type} {f : α → Value} (hf : ∀ a, (f a).oneCell' = true) (base : Nat) (e : TypeId) (i : TypeInfo) (z : Value) (bytes : Nat) (ht : P.underlying t = some (.slice e)) (hi : P.info? e = some i) (hz : i.zero = some z)
    (hsize : i.size = 1) (hby : i.bytes = bytes) (hzs : z.cells.size = 1)
    (v : Value) (n : Nat) (xs : List Value) (hsv : a.eval s = v) (hown : w.ownsRow base e 1 v n xs)
    (A : Option Addr) (m c : Nat) (ys : List α) (D : Nat) (hx : a.eval x = .slice A m c) (hy : Row1 f w D A m ys)
    (h63 : n + m ≤ maxLen) (hbytes : (n + m) * bytes ≤ 140737488355328) (hbase : base ≤ w.heap.size)
    (h : ∀ v' w', w'.ownsRow base e 1 v' (n + m) (xs ++ ys.map f) → w.grownBy w' v.ownBlock → (v'.ownBlock = v.ownBlock ∨ v'.ownBlock = some w.heap.size) → C w' ∧ lex P ops C hs Q (k + 1) r (a.put o.dst v') w') :
    lex P ops C hs Q k (o :: r) a w := by
  refine lex_eff hk (w0 hgd) fun K hK => ?_
  obtain ⟨v', w', hr, h2, h3, h5⟩ := run_append_row (P := P) hf w base t o.type e i z bytes ht hi hz hsize hby hzs v n xs hown A m c ys D hy h63 hbytes hbase
  unfold Oper.wp execOp
  simp only [ho, resolve, invoke, builtin, Sem.run_bind, Sem.run_pure, Result.andThen_ok, List.map_toArray, List.map_cons, List.map_nil, hsv, hx, hr]
  exact hK _ _ (h v' w' h2 h3 h5).1 (h v' w' h2 h3 h5).2
end
end Lx
end Go.Proofs.YtpaakgngoocjeaaDoor
