/- append(nil slice, a row of structs), and the law that structs equal to themselves do not differ. -/
import Derived.Test.YtpgomblalmnonaaDoorOwn
import Derived.Test.YtpgomblalmnonaaDoorArea33
import Derived.Test.YtpgomblalmnonaaDoorImp33
import Derived.Laws.StructEq
namespace Go.Proofs.YtpgomblalmnonaaDoor
open Go.RowKit

theorem flat_len {α : Type} (sz : Nat) (f : α → Nat → Value) (ys : List α) : (flat sz f ys).length = ys.length * sz := by
  induction ys with
  | nil => simp [flat]
  | cons y ys ih =>
    have : flat sz f (y :: ys) = (List.range sz).map (f y) ++ flat sz f ys := rfl
    rw [this, List.length_append, ih, List.length_cons, Nat.succ_mul]; simp; omega

section
variable {P : Program}
theorem run_append_rowS {α : Type} {sz : Nat} {f : α → Nat → Value} (hsz : 0 < sz) (hf : ∀ a j, j < sz → (f a j).oneCell' = true) (w : World) (t ty e : TypeId) (i : TypeInfo) (z : Value) (bytes : Nat) (ht : P.underlying t = some (.slice e)) (hi : P.info? e = some i) (hz : i.zero = some z)
    (hsize : i.size = sz) (hby : i.bytes = bytes) (hzs : z.cells.size = sz) (A : Option Addr) (m c : Nat) (ys : List α) (D : Nat) (hy : RowS sz f w D A m ys)
    (h63 : m ≤ maxLen) (hbytes : m * bytes ≤ 140737488355328) :
    ∃ v' w', (Builtin.append_ #[t, t] ty #[.slice none 0 0, .slice A m c]).run P w = .ok v' w' ∧ w'.ownsRow w.heap.size e sz v' m (flat sz f ys) ∧ Below w.heap.size w w' := by
  cases A with
  | none =>
    have hn0 : m = 0 := by
      rcases Nat.eq_zero_or_pos m with h | h
      · exact h
      · obtain ⟨_, _, h1, _⟩ := hy.2 h; cases h1
    have hxs : ys = [] := List.eq_nil_of_length_eq_zero (by have := hy.1; omega)
    subst hn0 hxs
    refine ⟨.slice none 0 0, w, ?_, World.ownsRow_nil _ _ _ _, Below.refl _ _⟩
    simp [Builtin.append_, run_underlying ht, sizeOf, typeInfo, hi, Builtin.lenOf, Builtin.firstCells]
  | some ad =>
    have hlen := hy.1
    have hcells : ∀ j u, (flat sz f ys)[j]? = some u → w.cell? (ad.add j) = some u := by
      intro j u hu
      have hj := (List.getElem?_eq_some_iff.1 hu).1
      rw [flat_len, hlen] at hj
      have hm : 0 < m := by
        rcases Nat.eq_zero_or_pos m with h | h
        · subst h; simp at hj
        · exact h
      obtain ⟨b, off, h1, _, h3⟩ := hy.2 hm
      injection h1 with h1
      subst h1
      have hk : j / sz < ys.length := by rw [hlen]; exact Nat.div_lt_of_lt_mul (by rw [Nat.mul_comm]; exact hj)
      have hx := List.getElem?_eq_getElem hk
      have hj' : j / sz * sz + j % sz = j := by rw [Nat.mul_comm]; exact Nat.div_add_mod j sz
      have h4 := h3 (j / sz) _ hx (j % sz) (Nat.mod_lt _ hsz)
      have h5 := flat_at sz f ys (j / sz) _ hx (j % sz) (Nat.mod_lt _ hsz)
      rw [hj', hu] at h5
      rw [Nat.add_assoc, hj', ← h5] at h4
      unfold Addr.add
      by_cases hj0 : j = 0
      · subst hj0; simpa using h4
      · rw [if_neg hj0]; exact h4
    obtain ⟨v', w', hr, h2, h3, _, _⟩ := run_append_own_at (P := P) w w.heap.size t ty e i z sz bytes ht hi hz hsize hby hzs hsz (.slice none 0 0) 0 [] (World.ownsRow_nil _ _ _ _) ad m c (flat sz f ys) (by rw [flat_len, hlen]) hcells
      (by
        intro u hu
        obtain ⟨y, _, hy2⟩ := List.mem_flatMap.1 hu
        obtain ⟨j, hj, rfl⟩ := List.mem_map.1 hy2
        exact hf y j (List.mem_range.1 hj)) (by omega) (by simpa using hbytes) (Nat.le_refl _)
    rw [Nat.zero_add, List.nil_append] at h2
    exact ⟨v', w', hr, h2, (Below.refl _ _).grown h3 (Nat.le_refl _) (fun g hg => by cases hg)⟩

theorem wpList_append_rowS {w : World} {ops : Array Oper} {rest : List Oper} {o : Oper} {a : Act} {Q : Exit → Act → World → Prop} (hgd : o.guard = none) (s x : Operand) (t : TypeId)
    (ho : o.op = .call { callee := .builtin .append, args := #[s, x], argTypes := #[t, t] })
    {α : Type} {sz : Nat} {f : α → Nat → Value} (hsz : 0 < sz) (hf : ∀ a j, j < sz → (f a j).oneCell' = true) (e : TypeId) (i : TypeInfo) (z : Value) (bytes : Nat) (ht : P.underlying t = some (.slice e)) (hi : P.info? e = some i) (hz : i.zero = some z)
    (hsize : i.size = sz) (hby : i.bytes = bytes) (hzs : z.cells.size = sz)
    (hs : a.eval s = .slice none 0 0) (A : Option Addr) (m c : Nat) (ys : List α) (D : Nat) (hx : a.eval x = .slice A m c) (hy : RowS sz f w D A m ys)
    (h63 : m ≤ maxLen) (hbytes : m * bytes ≤ 140737488355328)
    (h : ∀ v' w', w'.ownsRow w.heap.size e sz v' m (flat sz f ys) → Below w.heap.size w w' → wpList P ops Q rest (a.put o.dst v') w') :
    wpList P ops Q (o :: rest) a w := by
  refine wpList_plain hgd fun K hK => ?_
  obtain ⟨v', w', hr, h2, h3⟩ := run_append_rowS (P := P) hsz hf w t o.type e i z bytes ht hi hz hsize hby hzs A m c ys D hy h63 hbytes
  unfold Oper.wp execOp
  simp only [ho, resolve, invoke, builtin, Sem.run_bind, Sem.run_pure, Result.andThen_ok, List.map_toArray, List.map_cons, List.map_nil, hs, hx, hr]
  exact hK _ _ (h v' w' h2 h3)
end

theorem area_neq (w : World) (a b : Int) : (binOp .neq 39 (.agg #[.int .i64 a, .int .i64 b]) (.agg #[.int .i64 a, .int .i64 b])).run Tryd.prog w = .ok (.bool false) w := by
  have h1 : Tryd.prog.stoodInHeld 39 = false := by kernel_rfl
  have h2 : Tryd.prog.underlying 39 = some (.struct (Tryd.prog.fieldsOf 39)) := by simp only [Program.fieldsOf, Tryd.underlying39]
  have p0 : ∀ w', (part 3 #[.int .i64 a, .int .i64 b] 0).run Tryd.prog w' = .ok (.int .i64 a) w' := fun _ => by kernel_rfl
  have p1 : ∀ w', (part 3 #[.int .i64 a, .int .i64 b] 1).run Tryd.prog w' = .ok (.int .i64 b) w' := fun _ => by kernel_rfl
  rw [run_neq_struct, run_equalIn_agg w 9999 _ _ _ h2 h1]
  simp only [Program.fieldsOf, Tryd.underlying39, Op.eqFields]
  simp [Sem.run_bind, p0, p1, run_equalIn_int (P := Tryd.prog) _ 9998 3 .i64 .i64 _ _ Tryd.underlying3]

theorem imp_neq (w : World) (a b c : Int) : (binOp .neq 41 (.agg #[.int .i64 a, .int .i64 b, .int .i64 c]) (.agg #[.int .i64 a, .int .i64 b, .int .i64 c])).run Tryd.prog w = .ok (.bool false) w := by
  have h1 : Tryd.prog.stoodInHeld 41 = false := by kernel_rfl
  have h2 : Tryd.prog.underlying 41 = some (.struct (Tryd.prog.fieldsOf 41)) := by simp only [Program.fieldsOf, Tryd.underlying41]
  have p0 : ∀ w', (part 3 #[.int .i64 a, .int .i64 b, .int .i64 c] 0).run Tryd.prog w' = .ok (.int .i64 a) w' := fun _ => by kernel_rfl
  have p1 : ∀ w', (part 3 #[.int .i64 a, .int .i64 b, .int .i64 c] 1).run Tryd.prog w' = .ok (.int .i64 b) w' := fun _ => by kernel_rfl
  have p2 : ∀ w', (part 3 #[.int .i64 a, .int .i64 b, .int .i64 c] 2).run Tryd.prog w' = .ok (.int .i64 c) w' := fun _ => by kernel_rfl
  rw [run_neq_struct, run_equalIn_agg w 9999 _ _ _ h2 h1]
  simp only [Program.fieldsOf, Tryd.underlying41, Op.eqFields]
  simp [Sem.run_bind, p0, p1, p2, run_equalIn_int (P := Tryd.prog) _ 9998 3 .i64 .i64 _ _ Tryd.underlying3]

theorem area_info : (Tryd.prog.info? 39).map (fun i => (i.zero, i.size, i.bytes)) = some (some (.agg #[.int .i64 0, .int .i64 0]), 2, 16) := by kernel_rfl
theorem imp_info : (Tryd.prog.info? 41).map (fun i => (i.zero, i.size, i.bytes)) = some (some (.agg #[.int .i64 0, .int .i64 0, .int .i64 0]), 3, 24) := by kernel_rfl
theorem area_one (a : Area) (j : Nat) (hj : j < 2) : (a.cell j).oneCell' = true := by
  match j, hj with
  | 0, _ => rfl
  | 1, _ => rfl
theorem imp_one (a : Imp) (j : Nat) (hj : j < 3) : (a.cell j).oneCell' = true := by
  match j, hj with
  | 0, _ => rfl
  | 1, _ => rfl
  | 2, _ => rfl
end Go.Proofs.YtpgomblalmnonaaDoor
