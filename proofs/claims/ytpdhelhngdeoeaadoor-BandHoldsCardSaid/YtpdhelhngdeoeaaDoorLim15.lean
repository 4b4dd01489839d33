/- The contract of band.Limit: the problem without the channels that a target clears, in memory of its own. -/
import Derived.Test.YtpdhelhngdeoeaaDoorLim02
import Derived.Test.YtpdhelhngdeoeaaDoorLim14
namespace Go.Proofs.YtpdhelhngdeoeaaDoor
open Go.RowKit

def limD (t : Int) (d : Dom) : Int × List Int := (d.st, d.chs.filter (leftP t))
def limF (ds : List Dom) (r : Rul) (t : Int) : (List (Int × List Int) × Rul) × Int :=
  if validP ds r = true ∧ vldT t = true then ((ds.map (limD t), r), 0) else (([], ⟨[], [], []⟩), 2)

theorem filter_all {α : Type} {f : α → Bool} {l : List α} (h : l.all f = true) : l.filter f = l := List.filter_eq_self.2 (fun x hx => List.all_eq_true.1 h x hx)
theorem rest_all {ds : List Dom} {r : Rul} (h : validP ds r = true) : restF ds r (ds.map Dom.st) = ((ds.map Dom.say, r), 0) := by
  obtain ⟨hs, _, _, _⟩ := valid_st h
  have hi := valid_inc h
  have hok : stOk (ds.map Dom.st) = true := by
    unfold stOk
    rw [(inc_cmpF _).2 hi, Bool.and_true, List.all_eq_true]
    intro x hx
    have := hs x hx
    simp only [stF, Bool.and_eq_true, decide_eq_true_eq]; omega
  unfold restF
  rw [if_pos ⟨h, hok⟩, if_pos (by unfold mi; simp)]
  have hf : (ds.filter fun d => hasS (stS (ds.map Dom.st)) d.st) = ds := by
    refine List.filter_eq_self.2 (fun d hd => ?_)
    rw [hasS_mem hs]
    simpa using ⟨d, hd, rfl⟩
  rw [hf]
  simp only [validP, Bool.and_eq_true] at h
  obtain ⟨_, h1, h2, h3⟩ := h
  congr 2
  unfold resR
  rw [filter_all h1, filter_all h2, filter_all h3]

theorem own_addr {W : World} {B e sz n c : Nat} {A : Option Addr} {xs : List Value} (h : W.ownsRow B e sz (.slice A n c) n xs) (hn : 0 < n) : ∃ g, A = some ⟨g, 0, none⟩ ∧ B ≤ g ∧ g < W.heap.size ∧ ∀ j, W.frozen? ⟨g, j, none⟩ = false := by
  rcases h.2 with ⟨h1, _⟩ | ⟨g, cap, cur, h1, h2, h3, _⟩
  · cases h1; omega
  · injection h1 with h1 _ _
    subst h1
    refine ⟨g, rfl, h2, ?_, fun j => ?_⟩
    · rcases Nat.lt_or_ge g W.heap.size with h4 | h4
      · exact h4
      · rw [Array.getElem?_eq_none h4] at h3; cases h3
    · simp [World.frozen?, h3]
theorem flat_set1 : ∀ (ds : List Dom) (k : Nat) (d y : Dom), ds[k]? = some d → y.st = d.st → flat 2 Dom.cell (ds.set k y) = (flat 2 Dom.cell ds).set (k * 2 + 1) (y.cell 1) := by
  intro ds
  induction ds with
  | nil => intro k d y h _; simp at h
  | cons x r ih =>
    intro k d y h hs
    have hf : ∀ (z : Dom) (l : List Dom), flat 2 Dom.cell (z :: l) = z.cell 0 :: z.cell 1 :: flat 2 Dom.cell l := fun z l => rfl
    cases k with
    | zero =>
      simp at h
      subst h
      rw [List.set_cons_zero, hf, hf]
      simp [Dom.cell, hs]
    | succ k =>
      simp at h
      rw [List.set_cons_succ, hf, hf, ih k d y h hs]
      rw [show (k + 1) * 2 + 1 = (k * 2 + 1) + 1 + 1 by omega, List.set_cons_succ, List.set_cons_succ]
theorem PrbOwn.setD {B : Nat} {s : PrbS} {ds : List Dom} {r : Rul} {W : World} (h : PrbOwn B s ds r W) {k : Nat} {d : Dom} (hk : ds[k]? = some d) {g : Nat} (ha : s.ad = some ⟨g, 0, none⟩) {A' : Option Addr} {n' c' : Nat} {L' : List Int} (hs : W.ownsRow B 3 1 (.slice A' n' c') n' (L'.map intV)) :
    PrbOwn B s (ds.set k ⟨d.st, A', n', c', L'⟩) r (W.setCell ⟨g, k * 2 + 1, none⟩ (.slice A' n' c')) := by
  obtain ⟨A, n, c, ⟨A0, n0, c0, A1, n1, c1, A2, n2, c2⟩⟩ := s
  obtain ⟨h1, h2, h3, h0, h4, h5, h6, hl⟩ := h
  dsimp only at ha h1 h2
  subst ha h1
  obtain ⟨hr, hg⟩ := h2.stored (k * 2 + 1) (.slice A' n' c')
  have hv : (Value.slice (some ⟨g, 0, none⟩) ds.length c).ownBlock = some g := rfl
  rw [← hv] at hg
  refine ⟨by simp, ?_, fun y hy => ?_, h0, row_kept h4 hg h2 (by decide), row_kept h5 hg h2 (by decide), row_kept h6 hg h2 (by decide), hl⟩
  · rw [flat_set1 ds k d ⟨d.st, A', n', c', L'⟩ hk rfl, List.length_set]
    exact hr
  · rcases List.mem_or_eq_of_mem_set hy with hy | rfl
    · exact row_kept (h3 y hy) hg h2 (by decide)
    · exact row_kept hs hg h2 (by decide)
theorem set_mid {α β : Type} (f g : α → β) (l : List α) (k : Nat) (p : α) (h : l[k]? = some p) : ((l.take k).map f ++ (l.drop k).map g).set k (f p) = (l.take (k + 1)).map f ++ (l.drop (k + 1)).map g := by
  obtain ⟨hk, rfl⟩ := List.getElem?_eq_some_iff.1 h
  rw [List.set_append_right _ _ (by simp; omega)]
  have hz : k - ((l.take k).map f).length = 0 := by simp; omega
  rw [hz, List.drop_eq_getElem_cons hk, List.map_cons, List.set_cons_zero, List.take_add_one, h]
  simp only [Option.toList_some, List.map_append, List.map_cons, List.map_nil, List.append_assoc, List.cons_append, List.nil_append]

/-- a round of the loop: the channels that are left are stored -/
theorem lim_step {Wc V1 W6 : World} {g8 g nq cq m0 e0 m1 e1 m2 e2 c6 k len cap : Nat} {B0 B1 B2 A6 adr : Option Addr} {r : Rul} {xd : List Dom} {st : Int} {chs fs : List Int} {bx : List Value} {gx : Nat}
    (hV : PrbOwn Wc.heap.size ⟨some ⟨g, 0, none⟩, nq, cq, ⟨B0, m0, e0, B1, m1, e1, B2, m2, e2⟩⟩ xd r V1 ∧ Blk V1 g8 29 [.slice (some ⟨g, 0, none⟩) nq cq, .slice B0 m0 e0, .slice B1 m1 e1, .slice B2 m2 e2] ∧ Below Wc.heap.size Wc V1 ∧ Blk V1 gx 65 bx)
    (hk : xd[k]? = some ⟨st, adr, len, cap, chs⟩) (hg : Wc.heap.size ≤ g ∧ g8 ≠ g) (hO : W6.ownsRow V1.drew.heap.size 3 1 (.slice A6 fs.length c6) fs.length (fs.map intV)) (hb : Below V1.drew.heap.size V1.drew W6) :
    (W6.cell? ⟨g8, 0, none⟩ = some (.slice (some ⟨g, 0, none⟩) nq cq) ∧ g < W6.heap.size ∧ (∀ j, W6.frozen? ⟨g, j, none⟩ = false) ∧ W6.cell? ⟨g, k * 2 + 1, none⟩ = some (.slice adr len cap) ∧ W6.cell? ⟨g, k * 2, none⟩ = some (.int .i64 st)) ∧
    (W6.setCell ⟨g, k * 2 + 1, none⟩ (.slice A6 fs.length c6)).cell? ⟨g8, 0, none⟩ = some (.slice (some ⟨g, 0, none⟩) nq cq) ∧
    (PrbOwn Wc.heap.size ⟨some ⟨g, 0, none⟩, nq, cq, ⟨B0, m0, e0, B1, m1, e1, B2, m2, e2⟩⟩ (xd.set k ⟨st, A6, fs.length, c6, fs⟩) r (W6.setCell ⟨g, k * 2 + 1, none⟩ (.slice A6 fs.length c6)) ∧
      Blk (W6.setCell ⟨g, k * 2 + 1, none⟩ (.slice A6 fs.length c6)) g8 29 [.slice (some ⟨g, 0, none⟩) nq cq, .slice B0 m0 e0, .slice B1 m1 e1, .slice B2 m2 e2] ∧ Below Wc.heap.size Wc (W6.setCell ⟨g, k * 2 + 1, none⟩ (.slice A6 fs.length c6))) := by
  obtain ⟨h1, h2, h3, _⟩ := hV
  have hbs := h3.size
  have hO1 : PrbOwn Wc.heap.size ⟨some ⟨g, 0, none⟩, nq, cq, ⟨B0, m0, e0, B1, m1, e1, B2, m2, e2⟩⟩ xd r W6 := (h1.keep (Below.refl _ V1).drew).keep hb
  have h8 : Blk W6 g8 29 [.slice (some ⟨g, 0, none⟩) nq cq, .slice B0 m0 e0, .slice B1 m1 e1, .slice B2 m2 e2] := Blk.keep h2.drew hb
  have hB : Below Wc.heap.size Wc W6 := h3.drew.trans (hb.mono hbs)
  have hx : xd.length = nq := hO1.1.symm
  have hkx : k < xd.length := (List.getElem?_eq_some_iff.1 hk).1
  have hO2 : W6.ownsRow Wc.heap.size 65 2 (.slice (some ⟨g, 0, none⟩) nq cq) nq (flat 2 Dom.cell xd) := by have := hO1.2.1; rw [hx] at this; exact this
  obtain ⟨g', he, _, hgl, hgf⟩ := own_addr hO2 (by omega)
  cases he
  obtain ⟨b', off', hA', _, hc⟩ := (rowS_own (f := Dom.cell) (by decide) hO2).2 (by omega)
  cases hA'
  have c0 := hc k _ hk 0 (by omega)
  have c1 := hc k _ hk 1 (by omega)
  simp only [Dom.cell, Nat.zero_add, Nat.add_zero] at c0 c1
  have h9 : Blk (W6.setCell ⟨g, k * 2 + 1, none⟩ (.slice A6 fs.length c6)) g8 29 [.slice (some ⟨g, 0, none⟩) nq cq, .slice B0 m0 e0, .slice B1 m1 e1, .slice B2 m2 e2] := h8.other _ _ (fun he => hg.2 he.symm)
  exact ⟨⟨h8.cell rfl, hgl, hgf, c1, c0⟩, h9.cell rfl, hO1.setD hk rfl (own_low hO hbs), h9, hB.setCell (p := ⟨g, k * 2 + 1, none⟩) hg.1 _⟩

set_option maxRecDepth 100000 in
set_option maxHeartbeats 8000000 in
theorem limit_main (s : PrbS) (t : Int) (w : World) (hT : Tab w) (ds : List Dom) (r : Rul) (hn : s.nd ≤ 9223372036854775807) (hd : ∀ d ∈ ds, d.len ≤ 9223372036854775807) (h : PrbAt w w.heap.size s ds r) (hv : validP ds r = true) (ht : vldT t = true) :
    Calls Tryd.prog 9 #[s.val, .agg #[.int .i64 t]] w (PrbNew ((ds.map (limD t), r), 0) w) := by
  obtain ⟨hst, hdl, hch, hlen⟩ := valid_st hv
  have hPV := fun W (hb : Below w.heap.size w W) => pvalid_any s W ds r hn hd ⟨h.1.keep hb, h.2.keep hb⟩
  rw [hv] at hPV
  have HPV := Lib.hid hPV
  have hSA := fun W (hb : Below w.heap.size w W) => stations_any s W (hT.keep hb) ds r hn hd ⟨h.1.keep hb, h.2.keep hb⟩
  rw [show statF ds r = (ds.map Dom.st, 0) by unfold statF; rw [if_pos hv]] at hSA
  have HSA := Lib.hid hSA
  have HRE : Hid (∀ (A : Option Addr) (c : Nat) W, Below w.heap.size w W → Row1 intV W W.heap.size A (ds.map Dom.st).length (ds.map Dom.st) → Calls Tryd.prog 32 #[s.val, .slice A (ds.map Dom.st).length c] W (PrbNew ((ds.map Dom.say, r), 0) W)) := Lib.hid (fun A c W hb hl => by
    have := restrict_any s A (ds.map Dom.st).length c W ds r (ds.map Dom.st) hn hd (by rw [List.length_map]; omega) ⟨h.1.keep hb, h.2.keep hb⟩ hl
    rw [rest_all hv] at this
    exact this)
  have HBV := Lib.hid (fun W => bvalid_any t W)
  rw [ht] at HBV
  have HCH := Lib.hid (And.intro hch hdl)
  clear hPV hSA h hT hst hch hlen hv hd
  unfold ListPost at HSA
  unfold PrbNew at HRE
  generalize (ds.map Dom.st).length = N at *
  generalize ds.map Dom.st = L at *
  obtain ⟨Ad, nd, cd, ⟨A0, n0, c0, A1, n1, c1, A2, n2, c2⟩⟩ := s
  unfold PrbS.val at HPV HSA HRE ⊢
  dsimp only at *
  obtain ⟨W0, hW0⟩ : ∃ W0, W0 = ((w.alloc (.cells #[.slice Ad nd cd, .slice A0 n0 c0, .slice A1 n1 c1, .slice A2 n2 c2] 29)).alloc (.cells #[.int .i64 t] 40)).alloc (.cells #[.slice none 0 0, .slice none 0 0, .slice none 0 0, .slice none 0 0] 29) := ⟨_, rfl⟩
  have hB0 : Below w.heap.size w W0 := by rw [hW0]; exact (((Below.refl _ w).alloc (Nat.le_refl _) _).alloc (by simp) _).alloc (by simp; omega) _
  have hs0 : W0.heap.size = w.heap.size + 3 := by rw [hW0]; simp
  have HC0 : Hid (W0.cell? ⟨w.heap.size, 0, none⟩ = some (.slice Ad nd cd) ∧ W0.cell? ⟨w.heap.size, 1, none⟩ = some (.slice A0 n0 c0) ∧ W0.cell? ⟨w.heap.size, 2, none⟩ = some (.slice A1 n1 c1) ∧ W0.cell? ⟨w.heap.size, 3, none⟩ = some (.slice A2 n2 c2) ∧ W0.cell? ⟨w.heap.size + 1, 0, none⟩ = some (.int .i64 t)) := Lib.hid (by rw [hW0]; refine ⟨?_, ?_, ?_, ?_, ?_⟩ <;> simp [go_sem])
  have HC1 : Hid (∀ W, Below W0.heap.size W0 W → W.cell? ⟨w.heap.size, 0, none⟩ = some (.slice Ad nd cd) ∧ W.cell? ⟨w.heap.size, 1, none⟩ = some (.slice A0 n0 c0) ∧ W.cell? ⟨w.heap.size, 2, none⟩ = some (.slice A1 n1 c1) ∧ W.cell? ⟨w.heap.size, 3, none⟩ = some (.slice A2 n2 c2) ∧ W.cell? ⟨w.heap.size + 1, 0, none⟩ = some (.int .i64 t) ∧ w.heap.size + 1 < W.heap.size) := Lib.hid (fun W hb => by
    obtain ⟨q0, q1, q2, q3, q4⟩ := HC0.out
    have hg : ∀ {b o : Nat} {u : Value}, b < w.heap.size + 2 → W0.cell? ⟨b, o, none⟩ = some u → W.cell? ⟨b, o, none⟩ = some u := fun {b o u} hb2 hu => (hb.cell (p := ⟨b, o, none⟩) (by dsimp only; omega)).trans hu
    exact ⟨hg (by omega) q0, hg (by omega) q1, hg (by omega) q2, hg (by omega) q3, hg (by omega) q4, by have := hb.size; omega⟩)
  have HX6 : Hid (∀ W, Below W0.heap.size W0 W → Blk W (w.heap.size + 1 + 1) 29 [.slice none 0 0, .slice none 0 0, .slice none 0 0, .slice none 0 0]) := Lib.hid (fun W hb => by
    have h6 : Blk W0 (w.heap.size + 1 + 1) 29 [.slice none 0 0, .slice none 0 0, .slice none 0 0, .slice none 0 0] := by
      rw [hW0]
      have := blk_new ((w.alloc (.cells #[.slice Ad nd cd, .slice A0 n0 c0, .slice A1 n1 c1, .slice A2 n2 c2] 29)).alloc (.cells #[.int .i64 t] 40)) [.slice none 0 0, .slice none 0 0, .slice none 0 0, .slice none 0 0] 29
      simpa using this
    exact h6.keep hb)
  have HB0 := Lib.hid hB0
  have HLOW : Hid (∀ W, Below W0.heap.size W0 W → Below w.heap.size w W) := Lib.hid (fun W hb => hB0.trans (hb.mono (by omega)))
  obtain ⟨q0, q1, q2, q3, q4, q5⟩ := HC1.out W0 (Below.refl _ _)
  have B00 := Lib.hid (Below.refl W0.heap.size W0)
  clear hB0
  go_enter Tryd.func9, Tryd.ntmps9
  go_upto_region 1 with fail
  rw [← hW0]
  clear hW0 HC0
  have lw0 : w.heap.size < W0.heap.size := by omega
  go_wp2_with fail
  refine (HPV.out _ HB0.out).mono ?_
  rintro e Wa ⟨rfl, hba⟩
  have HBa := Lib.hid hba
  clear hba q0 q1 q2 q3 q4 q5 lw0
  obtain ⟨q0, q1, q2, q3, q4, q5⟩ := HC1.out Wa HBa.out
  go_wp2_with fail
  refine (HBV.out _).mono ?_
  rintro e Wb ⟨rfl, hbb⟩
  have HBb := Lib.hid (HBa.out.trans (hbb.mono HBa.out.size))
  clear hbb q0 q1 q2 q3 q4 q5
  obtain ⟨q0, q1, q2, q3, q4, q5⟩ := HC1.out Wb HBb.out
  have lwb : w.heap.size < Wb.heap.size := by omega
  go_wp2_with fail
  refine (HSA.out _ (HLOW.out _ HBb.out)).mono ?_
  rintro e Wc ⟨v, rfl, hown, hbc⟩
  obtain ⟨A9, c9, rfl, hrow9⟩ := row1_of_own hown
  have HBc := Lib.hid (HBb.out.trans (hbc.mono HBb.out.size))
  have HR9 := Lib.hid hrow9
  clear hbc hown hrow9 q0 q1 q2 q3 q4 q5 lwb
  obtain ⟨q0, q1, q2, q3, q4, q5⟩ := HC1.out Wc HBc.out
  have lwc : w.heap.size < Wc.heap.size := by omega
  go_wp2_with fail
  refine (HRE.out _ _ _ (HLOW.out _ HBc.out) HR9.out).mono ?_
  rintro e Wd ⟨s', es, rfl, hpo, hes, hbd⟩
  obtain ⟨Aq, nq, cq, ⟨B0, m0, e0, B1, m1, e1, B2, m2, e2⟩⟩ := s'
  have hnq : nq = es.length := hpo.1
  obtain ⟨V, hV⟩ : ∃ V, V = Wd.alloc (.cells #[.slice Aq nq cq, .slice B0 m0 e0, .slice B1 m1 e1, .slice B2 m2 e2] 29) := ⟨_, rfl⟩
  have hbv : Below Wd.heap.size Wd V := by rw [hV]; exact (Below.refl _ _).alloc (Nat.le_refl _) _
  have hg8 : Blk V Wd.heap.size 29 [.slice Aq nq cq, .slice B0 m0 e0, .slice B1 m1 e1, .slice B2 m2 e2] := by rw [hV]; exact blk_new _ _ _
  have HI0 := Lib.hid (And.intro (hpo.keep hbv) (And.intro hg8 (hbd.trans (hbv.mono hbd.size))))
  have hsv : Wd.heap.size < V.heap.size := hg8.lt
  have z0 := hg8.cell (i := 0) rfl
  have HES := Eqn.mk hes
  have HNL : Eqn es.length ds.length := by have := congrArg List.length hes; rw [List.length_map, List.length_map] at this; exact this
  have HNQ := Eqn.mk hnq
  have hcd : Wc.heap.size ≤ Wd.heap.size := hbd.size
  have hnq5 : nq ≤ 512 := by have := HNL.out; have := HNQ.out; unfold Eqn at *; omega
  clear hpo hes hbd hbv hg8 q0 q1 q2 q3 q4 q5 hnq HR9 HRE HSA HPV HBV
  go_upto_region 7 with fail
  rw [← hV]
  clear hV
  go_wp2_with fail
  clear z0
  go_loopw [42] (fun i wr => ∃ (k : Nat) (xd : List Dom), k ≤ nq ∧ i = .int .i64 k ∧ PrbOwn Wc.heap.size ⟨Aq, nq, cq, ⟨B0, m0, e0, B1, m1, e1, B2, m2, e2⟩⟩ xd r wr ∧ Blk wr Wd.heap.size 29 [.slice Aq nq cq, .slice B0 m0 e0, .slice B1 m1 e1, .slice B2 m2 e2] ∧ Below Wc.heap.size Wc wr ∧ Eqn (xd.map Dom.say) ((ds.take k).map (limD t) ++ (ds.drop k).map Dom.say)) (fun i _ => nq - (intOf i).toNat)
  case atStart => exact ⟨0, es, Nat.zero_le _, rfl, HI0.out.1, HI0.out.2.1, HI0.out.2.2, by rw [Eqn, HES.out]; rfl⟩
  case round =>
    clear HI0
    obtain ⟨k, xd, hk, rfl, hO, h8, hB, HE⟩ := hrel
    have hbs := hB.size
    by_cases hlt : k < nq
    · have hxl : nq = xd.length := hO.1
      obtain ⟨p, hp, hpd⟩ := drop_at (xs := ds) (k := k) (by rw [← HNL.out, ← HNQ.out]; exact hlt)
      obtain ⟨d, hd, _⟩ := drop_at (xs := xd) (k := k) (by omega)
      have hds : d.say = p.say := by
        have h1 : (xd.map Dom.say)[k]? = some d.say := by rw [List.getElem?_map, hd]; rfl
        rw [HE.out, List.getElem?_append_right (by rw [List.length_map, List.length_take]; omega), List.length_map, List.length_take, Nat.min_eq_left (by have := HNL.out; have := HNQ.out; omega), Nat.sub_self, hpd] at h1
        simpa using h1.symm
      have hpc := HCH.out.1 p (List.mem_of_getElem? hp)
      have hO2 : wr.ownsRow Wc.heap.size 65 2 (.slice Aq nq cq) nq (flat 2 Dom.cell xd) := by have := hO.2.1; rw [← hxl] at this; exact this
      obtain ⟨g, rfl, hgB, hgl, hgf⟩ := own_addr hO2 (by omega)
      have hrow := rowS_own (f := Dom.cell) (by decide) hO2
      obtain ⟨b', off', hA', _, hc⟩ := hrow.2 (by omega)
      cases hA'
      have c0' := hc k d hd 0 (by omega)
      have c1' := hc k d hd 1 (by omega)
      simp only [Dom.cell, Nat.zero_add, Nat.add_zero] at c0' c1'
      have hdr := hO.2.2.1 d (List.mem_of_getElem? hd)
      obtain ⟨st, adr, len, cap, chs⟩ := d
      dsimp only [Dom.say] at hds c0' c1' hdr
      have hlen : chs.length = len := by have := hdr.1; simpa using this
      have hchs : chs = p.chs := congrArg Prod.snd hds
      have hstp : st = p.st := congrArg Prod.fst hds
      have HSM : Eqn ((xd.map Dom.say).set k (st, chs.filter (leftP t))) ((ds.take (k + 1)).map (limD t) ++ (ds.drop (k + 1)).map Dom.say) := by
        rw [Eqn, HE.out, hchs, hstp]
        exact set_mid (limD t) Dom.say ds k p hp
      obtain ⟨V1, hV1⟩ : ∃ V1, V1 = wr.alloc (.cells #[.int .i64 st, .slice adr len cap] 65) := ⟨_, rfl⟩
      have hbv1 : Below wr.heap.size wr V1 := by rw [hV1]; exact (Below.refl _ wr).alloc (Nat.le_refl _) _
      have h12 : Blk V1 wr.heap.size 65 [.int .i64 st, .slice adr len cap] := by rw [hV1]; exact blk_new wr _ _
      have HV := Lib.hid (And.intro (hO.keep hbv1) (And.intro (h8.keep hbv1) (And.intro (hB.trans (hbv1.mono hbs)) h12)))
      have HRD := Lib.hid ((row1_own (A := adr) (c := cap) hdr).keep hbv1.drew)
      have HK := Lib.hid hd
      have b1 : V1.cell? ⟨wr.heap.size, 1, none⟩ = some (.slice adr len cap) := h12.cell rfl
      have bl := h12.lt
      have g0 : V1.cell? ⟨Wd.heap.size, 0, none⟩ = some (.slice (some ⟨g, 0, none⟩) nq cq) := (h8.keep hbv1).cell rfl
      have g1 := (h8.keep hbv1).lt
      have hbV := hB.trans (hbv1.mono hbs)
      obtain ⟨_, _, _, _, q4, q5⟩ := HC1.out V1 (HBc.out.trans (hbV.mono HBc.out.size))
      have j0 : (k : Int) < (nq : Int) := by omega
      have HLE : Hid (len ≤ 50) := Lib.hid (by rw [hchs] at hlen; omega)
      have hgw : g < wr.heap.size := hgl
      have HGL : Hid (Wc.heap.size ≤ g ∧ Wd.heap.size ≠ g) := Lib.hid ⟨hgB, fun he => blk_not_row h8 (by decide) hO2 (by rw [he]; rfl)⟩
      have HLF := Lib.hid (fun W (hr : Row1 intV W W.heap.size adr len chs) => left_any (.slice none 0 0) W.heap.size t adr len cap W [] chs (Nat.le_refl _) (World.ownsRow_nil _ _ _ _) hr (by intro a _; simp [Value.ownBlock]) (by have := HLE.out; simp; omega))
      clear hp hpd hd hc hrow hdr hchs hstp hlen hds hpc hO hO2 h8 hB hbv1 h12 hbV hgf hgB HE hgl hxl
      go_wp2_with fail
      rw [← hV1]
      clear hV1 c0' c1'
      go_wp2_with fail
      refine Lx.region (C := fun X => X.cell? ⟨Wd.heap.size, 0, none⟩ = some (.slice (some ⟨g, 0, none⟩) nq cq)) (hs := [1]) (by kernel_rfl) (by kernel_rfl) g0 ?_
      repeat' (first
        | (refine Lx.lex_no (Lx.n1 rfl rfl rfl (by with_reducible rfl)) (fun K hK => ?_); go_simp; skip; refine hK _ ?_; clear hK K)
        | (refine Lx.lex_no (Lx.n0 rfl rfl rfl (by with_reducible rfl)) (fun K hK => ?_); go_simp; skip; refine hK _ ?_; clear hK K)
        | (refine Lx.lex_no (Lx.n2 rfl rfl rfl) (fun K hK => ?_); go_simp; skip; refine hK _ ?_; clear hK K)
        | (refine Lx.lex_pure (v := ?_) rfl (by first | exact Lx.w0 rfl | exact Lx.w1 rfl rfl rfl (by with_reducible rfl)) ?_ (fun K hK => ?_); rotate_left 1; (intro w' hCw; (try dsimp only at hCw); go_simp; first | done | with_reducible rfl); go_simp; skip; refine hK _ ?_; clear hK K)
        | (refine Lx.lex_read (v := ?_) rfl (by first | exact Lx.w0 rfl | exact Lx.w1 rfl rfl rfl (by with_reducible rfl)) ?_ (fun K hK => ?_); rotate_left 1; (go_simp; first | done | with_reducible rfl); go_simp; skip; refine hK _ ?_; clear hK K)
        | (refine Lx.lex_eff rfl (by first | exact Lx.w0 rfl | exact Lx.w1 rfl rfl rfl (by with_reducible rfl)) (fun K hK => ?_); go_simp; (first | (go_at_call 33; refine (HLF.out _ HRD.out).mono ?_; rintro e W6 ⟨v6, rfl, hown6, hb6, _, _⟩; rw [List.nil_append] at hown6; obtain ⟨A6, c6, rfl, _⟩ := row1_of_own hown6; have HZ := Lib.hid (lim_step HV.out HK.out HGL.out hown6 hb6); obtain ⟨y0, y1, y2, y3, y4⟩ := HZ.out.1) | skip); refine hK _ _ (by first | exact HZ.out.1.1 | exact HZ.out.2.1) ?_; clear hK K))
      all_goals (refine Lx.lex_nil ?_)
      clear y0 y1 y2 y3 y4 hown6 hb6 g0 g1 b1 bl q4 q5
      have HZ2 := Lib.hid HZ.out.2.2
      clear HZ HV HLF HRD
      go_wp2_with fail
      go_roundw
      case rel => exact ⟨k + 1, _, by omega, by go_num, HZ2.out.1, HZ2.out.2.1, HZ2.out.2.2, by rw [Eqn, List.map_set]; exact HSM.out⟩
      case measure => simp [intOf]; omega
    · obtain rfl : k = nq := by omega
      have hnd : k = ds.length := by rw [HNQ.out, HNL.out]
      have hTk : ds.take k = ds := List.take_of_length_le (by omega)
      have hDk : ds.drop k = [] := drop_end (by omega)
      rw [hTk, hDk, List.map_nil, List.append_nil] at HE
      have z0 := h8.cell (i := 0) rfl
      have z1 := h8.cell (i := 1) rfl
      have z2 := h8.cell (i := 2) rfl
      have z3 := h8.cell (i := 3) rfl
      have z4 := h8.lt
      have hB0 := HBc.out.trans (hB.mono HBc.out.size)
      have b6 := HX6.out _ hB0
      have f0 := b6.cell (i := 0) rfl
      have f1 := b6.cell (i := 1) rfl
      have f2 := b6.cell (i := 2) rfl
      have f3 := b6.cell (i := 3) rfl
      have f4 := b6.lt
      have f5 : ∀ o, wr.frozen? ⟨w.heap.size + 1 + 1, o, none⟩ = false := b6.frozen
      have HB6 := Lib.hid b6
      have HF := Lib.hid (And.intro hO (HLOW.out _ hB0))
      have lwc2 : w.heap.size + 3 ≤ Wc.heap.size := by have := HBc.out.size; omega
      clear hO h8 hB hB0 b6 hTk hDk hnd
      go_wp2_with fail
      obtain ⟨Wf, hWf⟩ : ∃ Wf, Wf = (((wr.setCell ⟨w.heap.size + 1 + 1, 0, none⟩ (.slice Aq k cq)).setCell ⟨w.heap.size + 1 + 1, 1, none⟩ (.slice B0 m0 e0)).setCell ⟨w.heap.size + 1 + 1, 2, none⟩ (.slice B1 m1 e1)).setCell ⟨w.heap.size + 1 + 1, 3, none⟩ (.slice B2 m2 e2) := ⟨_, rfl⟩
      have hbf : Blk Wf (w.heap.size + 1 + 1) 29 [.slice Aq k cq, .slice B0 m0 e0, .slice B1 m1 e1, .slice B2 m2 e2] := by rw [hWf]; exact (((HB6.out.set_ 0 _).set_ 1 _).set_ 2 _).set_ 3 _
      have hOf : PrbOwn w.heap.size ⟨Aq, k, cq, ⟨B0, m0, e0, B1, m1, e1, B2, m2, e2⟩⟩ xd r Wf := by
        rw [hWf]
        exact ((((HF.out.1.set (by dsimp only; omega) _).set (by dsimp only; omega) _).set (by dsimp only; omega) _).set (by dsimp only; omega) _).low (by omega)
      have hBf : Below w.heap.size w Wf := by
        have h0 := HF.out.2
        rw [hWf]
        exact (((h0.setCell (p := ⟨w.heap.size + 1 + 1, 0, none⟩) (by dsimp only; omega) _).setCell (p := ⟨w.heap.size + 1 + 1, 1, none⟩) (by dsimp only; omega) _).setCell (p := ⟨w.heap.size + 1 + 1, 2, none⟩) (by dsimp only; omega) _).setCell (p := ⟨w.heap.size + 1 + 1, 3, none⟩) (by dsimp only; omega) _
      rw [← hWf]
      have k0 := hbf.cell (i := 0) rfl
      have k1 := hbf.cell (i := 1) rfl
      have k2 := hbf.cell (i := 2) rfl
      have k3 := hbf.cell (i := 3) rfl
      clear hWf f0 f1 f2 f3 f4 f5 z0 z1 z2 z3 z4
      refine bodyPost_ret (v := .tuple #[.agg #[.slice Aq k cq, .slice B0 m0 e0, .slice B1 m1 e1, .slice B2 m2 e2], .int .i64 0]) (by simp [results, Tryd.results9, go_sem, k0, k1, k2, k3]) rfl ?_
      exact ⟨⟨Aq, k, cq, ⟨B0, m0, e0, B1, m1, e1, B2, m2, e2⟩⟩, xd, rfl, hOf, HE.out, hBf⟩

set_option maxRecDepth 100000 in
set_option maxHeartbeats 8000000 in
theorem limit_any (s : PrbS) (t : Int) (w : World) (hT : Tab w) (ds : List Dom) (r : Rul) (hn : s.nd ≤ 9223372036854775807) (hd : ∀ d ∈ ds, d.len ≤ 9223372036854775807) (h : PrbAt w w.heap.size s ds r) :
    Calls Tryd.prog 9 #[s.val, .agg #[.int .i64 t]] w (PrbNew (limF ds r t) w) := by
  by_cases hall : validP ds r = true ∧ vldT t = true
  · unfold limF
    rw [if_pos hall]
    exact limit_main s t w hT ds r hn hd h hall.1 hall.2
  · unfold limF
    rw [if_neg hall]
    have hPV := fun W (hb : Below w.heap.size w W) => pvalid_any s W ds r hn hd ⟨h.1.keep hb, h.2.keep hb⟩
    have HPV := Lib.hid hPV
    have HBV := Lib.hid (fun W => bvalid_any t W)
    clear hPV h hT hd
    obtain ⟨Ad, nd, cd, ⟨A0, n0, c0, A1, n1, c1, A2, n2, c2⟩⟩ := s
    unfold PrbS.val at HPV ⊢
    dsimp only at *
    obtain ⟨W0, hW0⟩ : ∃ W0, W0 = ((w.alloc (.cells #[.slice Ad nd cd, .slice A0 n0 c0, .slice A1 n1 c1, .slice A2 n2 c2] 29)).alloc (.cells #[.int .i64 t] 40)).alloc (.cells #[.slice none 0 0, .slice none 0 0, .slice none 0 0, .slice none 0 0] 29) := ⟨_, rfl⟩
    have hB0 : Below w.heap.size w W0 := by rw [hW0]; exact (((Below.refl _ w).alloc (Nat.le_refl _) _).alloc (by simp) _).alloc (by simp; omega) _
    have hs0 : W0.heap.size = w.heap.size + 3 := by rw [hW0]; simp
    have HC0 : Hid (W0.cell? ⟨w.heap.size, 0, none⟩ = some (.slice Ad nd cd) ∧ W0.cell? ⟨w.heap.size, 1, none⟩ = some (.slice A0 n0 c0) ∧ W0.cell? ⟨w.heap.size, 2, none⟩ = some (.slice A1 n1 c1) ∧ W0.cell? ⟨w.heap.size, 3, none⟩ = some (.slice A2 n2 c2) ∧ W0.cell? ⟨w.heap.size + 1, 0, none⟩ = some (.int .i64 t)) := Lib.hid (by rw [hW0]; refine ⟨?_, ?_, ?_, ?_, ?_⟩ <;> simp [go_sem])
    have HX6 : Hid (Blk W0 (w.heap.size + 1 + 1) 29 [.slice none 0 0, .slice none 0 0, .slice none 0 0, .slice none 0 0]) := Lib.hid (by
      rw [hW0]
      have := blk_new ((w.alloc (.cells #[.slice Ad nd cd, .slice A0 n0 c0, .slice A1 n1 c1, .slice A2 n2 c2] 29)).alloc (.cells #[.int .i64 t] 40)) [.slice none 0 0, .slice none 0 0, .slice none 0 0, .slice none 0 0] 29
      simpa using this)
    have HB0 := Lib.hid hB0
    have HBad : Hid (∀ W, Below W0.heap.size W0 W → PrbNew (([], ⟨[], [], []⟩), 2) w (.returned (.tuple #[.agg #[.slice none 0 0, .slice none 0 0, .slice none 0 0, .slice none 0 0], .int .i64 2])) (((((W.setCell ⟨w.heap.size + 1 + 1, 0, none⟩ (.slice none 0 0)).setCell ⟨w.heap.size + 1 + 1, 1, none⟩ (.slice none 0 0)).setCell ⟨w.heap.size + 1 + 1, 2, none⟩ (.slice none 0 0)).setCell ⟨w.heap.size + 1 + 1, 3, none⟩ (.slice none 0 0))) ∧ Blk W (w.heap.size + 1 + 1) 29 [.slice none 0 0, .slice none 0 0, .slice none 0 0, .slice none 0 0] ∧ Blk ((((W.setCell ⟨w.heap.size + 1 + 1, 0, none⟩ (.slice none 0 0)).setCell ⟨w.heap.size + 1 + 1, 1, none⟩ (.slice none 0 0)).setCell ⟨w.heap.size + 1 + 1, 2, none⟩ (.slice none 0 0)).setCell ⟨w.heap.size + 1 + 1, 3, none⟩ (.slice none 0 0)) (w.heap.size + 1 + 1) 29 [.slice none 0 0, .slice none 0 0, .slice none 0 0, .slice none 0 0]) := Lib.hid (fun W hb => by
      have hb6 := HX6.out.keep hb
      refine ⟨⟨⟨none, 0, 0, ⟨none, 0, 0, none, 0, 0, none, 0, 0⟩⟩, [], rfl, prbOwn_nil _ _, rfl, ?_⟩, hb6, (((hb6.set_ 0 _).set_ 1 _).set_ 2 _).set_ 3 _⟩
      have h0 := HB0.out.trans (hb.mono (by omega))
      exact (((h0.setCell (p := ⟨w.heap.size + 1 + 1, 0, none⟩) (by dsimp only; omega) _).setCell (p := ⟨w.heap.size + 1 + 1, 1, none⟩) (by dsimp only; omega) _).setCell (p := ⟨w.heap.size + 1 + 1, 2, none⟩) (by dsimp only; omega) _).setCell (p := ⟨w.heap.size + 1 + 1, 3, none⟩) (by dsimp only; omega) _)
    obtain ⟨q0, q1, q2, q3, q4⟩ := HC0.out
    have lw0 : w.heap.size < W0.heap.size := by omega
    clear hB0
    generalize validP ds r = v at *
    generalize vldT t = v2 at *
    have HALL := Lib.hid hall
    clear hall
    go_enter Tryd.func9, Tryd.ntmps9
    go_upto_region 1 with fail
    rw [← hW0]
    clear hW0
    go_wp2_with fail
    refine (HPV.out _ HB0.out).mono ?_
    rintro e Wa ⟨rfl, hba⟩
    have HBa := Lib.hid hba
    clear q0 q1 q2 q3 q4 lw0
    have q4 := (hba.cell (p := ⟨w.heap.size + 1, 0, none⟩) (by dsimp only; omega)).trans HC0.out.2.2.2.2
    have lwa : w.heap.size + 1 < Wa.heap.size := by have := hba.size; omega
    clear hba
    cases v with
    | false =>
      obtain ⟨hpost, hb6, hb7⟩ := HBad.out _ HBa.out
      have f0 := hb6.cell (i := 0) rfl
      have f1 := hb6.cell (i := 1) rfl
      have f2 := hb6.cell (i := 2) rfl
      have f3 := hb6.cell (i := 3) rfl
      have f4 := hb6.lt
      have f5 : ∀ o, (Wa).frozen? ⟨w.heap.size + 1 + 1, o, none⟩ = false := hb6.frozen
      have HF := Lib.hid (And.intro hpost hb7)
      clear hpost hb6 hb7
      go_wp2_with fail
      clear f0 f1 f2 f3 f4 f5
      have k0 := HF.out.2.cell (i := 0) rfl
      have k1 := HF.out.2.cell (i := 1) rfl
      have k2 := HF.out.2.cell (i := 2) rfl
      have k3 := HF.out.2.cell (i := 3) rfl
      refine bodyPost_ret (v := .tuple #[.agg #[.slice none 0 0, .slice none 0 0, .slice none 0 0, .slice none 0 0], .int .i64 2]) (by simp [results, Tryd.results9, go_sem, k0, k1, k2, k3]) rfl HF.out.1
    | true =>
      cases v2 with
      | true => exact absurd ⟨rfl, rfl⟩ HALL.out
      | false =>
        go_wp2_with fail
        refine (HBV.out _).mono ?_
        rintro e Wb ⟨rfl, hbb⟩
        have HBb := Lib.hid (HBa.out.trans (hbb.mono HBa.out.size))
        clear hbb q4
        obtain ⟨hpost, hb6, hb7⟩ := HBad.out _ HBb.out
        have f0 := hb6.cell (i := 0) rfl
        have f1 := hb6.cell (i := 1) rfl
        have f2 := hb6.cell (i := 2) rfl
        have f3 := hb6.cell (i := 3) rfl
        have f4 := hb6.lt
        have f5 : ∀ o, (Wb).frozen? ⟨w.heap.size + 1 + 1, o, none⟩ = false := hb6.frozen
        have HF := Lib.hid (And.intro hpost hb7)
        clear hpost hb6 hb7
        go_wp2_with fail
        clear f0 f1 f2 f3 f4 f5
        have k0 := HF.out.2.cell (i := 0) rfl
        have k1 := HF.out.2.cell (i := 1) rfl
        have k2 := HF.out.2.cell (i := 2) rfl
        have k3 := HF.out.2.cell (i := 3) rfl
        refine bodyPost_ret (v := .tuple #[.agg #[.slice none 0 0, .slice none 0 0, .slice none 0 0, .slice none 0 0], .int .i64 2]) (by simp [results, Tryd.results9, go_sem, k0, k1, k2, k3]) rfl HF.out.1
end Go.Proofs.YtpdhelhngdeoeaaDoor
