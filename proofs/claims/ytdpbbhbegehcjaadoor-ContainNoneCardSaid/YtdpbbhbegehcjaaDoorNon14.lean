/- A region that draws its order of evaluation, in a round of a range over a function: walked once in the order of the text. Nothing of the program is named here. -/
import Derived.OrdersIn
import Derived.RangeFuncCalls
import Derived.Test.YtdpbbhbegehcjaaDoorNon01
import Derived.Test.YtdpbbhbegehcjaaDoorNon11
import Derived.Test.YtdpbbhbegehcjaaDoorNon12
import Derived.Test.YtdpbbhbegehcjaaDoorNon13
set_option maxRecDepth 100000
set_option maxHeartbeats 4000000
namespace Go.Proofs.YtdpbbhbegehcjaaDoor
open Go.RowKit Go.Shelf
def LkPost (r : (Int × Chs × Prv) × Int) (w : World) (e : Ending) (w' : World) : Prop :=
 ∃ (o : Lem) (y : Prf), e = .returned (.tuple #[.agg #[.int .i64 r.1.1, o.val, y.v1, y.v2, .int .i64 0], .int .i64 r.2]) ∧ o.chs = r.1.2.1 ∧ y.say = r.1.2.2 ∧ (o.len ≤ 100000 ∧ y.sn ≤ 100000 ∧ y.ln ≤ 100000 ∧ ∀ m ∈ y.lms, m.len ≤ 100000) ∧ Hp w w w' (.row o.val 74 2 o.len (flat 2 chC o.chs) :: prfEnts y) []
def noLem : Lem := ⟨none, 0, 0, []⟩
def noPrf : Prf := ⟨none, 0, 0, [], none, 0, 0, []⟩
theorem lk_none {w X : World} {k e : Int} (hb : Below w.heap.size w X) : LkPost ((k, [], ([], [])), e) w (.returned (.tuple #[.agg #[.int .i64 k, .slice none 0 0, .slice none 0 0, .slice none 0 0, .int .i64 0], .int .i64 e])) X :=
 ⟨noLem, noPrf, rfl, rfl, rfl, ⟨Nat.zero_le _, Nat.zero_le _, Nat.zero_le _, fun _ h => (by cases h)⟩, ((((Hp.start w).keep hb).nil 74 2).nil 3 1).nil 47 1⟩
theorem find_map {α β : Type} {f : α → β} {p : β → Bool} : ∀ {L : List α}, (L.map f).find? p = (L.find? fun x => p (f x)).map f
 | [] => rfl
 | x :: r => by rw [List.map_cons, List.find?_cons, List.find?_cons]; split <;> simp_all [find_map]
theorem find_congr {α : Type} {p q : α → Bool} : ∀ {L : List α}, (∀ x ∈ L, p x = q x) → L.find? p = L.find? q
 | [], _ => rfl
 | x :: r, h => by
  rw [List.find?_cons, List.find?_cons, h x (by simp)]
  split
  ·rfl
  ·exact find_congr fun y hy => h y (by simp [hy])
theorem pk_find {x : StS} (h : StOk x) (φ : Nat → Bool) : (x.P.find? fun o => φ (stS (ofC o))) = (x.pe.find? fun e => φ e.S).map fun e => e.v.chs := by
 unfold StS.P
 rw [find_map, find_congr (q := fun e => φ e.S) (fun e he => by rw [(h.pes e he).1]; rfl)]
theorem rf_find {x : StS} (h : StOk x) (φ : Nat → Bool) : (x.Q.find? fun o => φ (stS o.1)) = (x.re.find? fun e => φ e.S).map fun e => e.v.say := by
 unfold StS.Q
 rw [find_map, find_congr (q := fun e => φ e.S) (fun e he => by rw [(h.res e he).1]; rfl)]
theorem vl_len {l : Chs} (h : vlGo none l = true) : l.length ≤ 512 := by have := stOk_len (vl_stOk h); unfold ofC at this; rwa [List.length_map] at this
theorem lookup_any (B : Nat) (p : Nat → Prop) (g : Nat) (x : StS) (A : Option Addr) (n c : Nat) (w : World) (L : List Int) (hS : StAt w B p g x) (hO : StOk x) (hn : n ≤ 100000) (hl : Row1 intV w w.heap.size A n L) :
  Calls Tryd.prog 5 #[.pointer (some ⟨g, 0, none⟩), .slice A n c] w (LkPost (lkF x.ds x.P x.Q L) w) := by
 have HST := Lib.hid hS
 have HOK := Lib.hid hO
 have Hl := Lib.hid hl
 have HMI := Lib.hid (fun W (hb : Below w.heap.size w W) => missing_any g x.cells W (hS.blk.keep hb) rfl)
 have HSN := Lib.hid (fun (W : World) (hb : Below w.heap.size w W) => stn_any g x.H x.cells A n c W L (hS.blk.keep hb) (fun j hj => by match j, hj with | 0, _ => rfl | 1, _ => rfl | 2, _ => rfl | 3, _ => rfl | 4, _ => rfl | 5, _ => rfl | 6, _ => rfl | 7, _ => rfl) hn (hl.keep hb))
 have HLK : Eqn (lkF x.ds x.P x.Q L) (if stOk L = true then
  if mi (stS L) x.H = 0 then
   match x.P.find? fun o => decide (mi (stS L) (stS (ofC o)) = 0) with
   | some o => ((1, o.filter (fun x => hasS (stS L) x.1), ([], [])), 0)
   | none => match x.Q.find? fun o => decide (mi (stS o.1) (stS L) = 0) with
    | some o => ((2, [], o), 0)
    | none => ((0, [], ([], [])), 0)
  else ((0, [], ([], [])), 9)
 else ((0, [], ([], [])), 2)) := by rw [hO.has]; rfl
 generalize lkF x.ds x.P x.Q L = R at *
 obtain ⟨p4, hp4⟩ : ∃ q, q = w.heap.size := ⟨_, rfl⟩
 obtain ⟨V0, hV0⟩ : ∃ V0, V0 = w.alloc (.cells #[.int .i64 0, .slice none 0 0, .slice none 0 0, .slice none 0 0, .int .i64 0] 52) := ⟨_, rfl⟩
 have hP0 : Hp w w V0 [.blk p4 52 [.int .i64 0, .slice none 0 0, .slice none 0 0, .slice none 0 0, .int .i64 0]] [] := by
  have h := (Hp.start w).alloc [.int .i64 0, .slice none 0 0, .slice none 0 0, .slice none 0 0, .int .i64 0] 52
  rw [hV0, hp4]; exact h
 have HP0 := Lib.hid hP0
 clear hP0 hS hO hl
 have hstn : stnF x.H L = if stOk L = true then if mi (stS L) x.H = 0 then (stS L, 0) else (0, 9) else (0, 2) := rfl
 have HSR := Eqn.mk hstn
 clear hstn
 generalize hr : stnF x.H L = r at *
 clear hr
 go_enter Tryd.func5, Tryd.ntmps5
 go_upto_region 1 with fail
 rw [← hV0, ← hp4]
 clear hV0 hp4
 go_wp2_with fail
 refine (HMI.out _ HP0.out.below).mono ?_
 rintro e W1 ⟨rfl, rfl⟩
 have HS1 := Lib.hid (HSN.out V0 HP0.out.below)
 unfold sV at HS1
 clear HSN
 go_wp2_with fail
 refine HS1.out.mono ?_
 rintro e W3 ⟨rfl, hb3⟩
 obtain ⟨p6, hp6⟩ : ∃ q, q = W3.heap.size := ⟨_, rfl⟩
 obtain ⟨S, hSr⟩ : ∃ S, S = r.1 := ⟨_, rfl⟩
 obtain ⟨c0, hcr⟩ : ∃ c0, c0 = r.2 := ⟨_, rfl⟩
 rw [← hSr, ← hcr]
 have HSR2 : Hid ((S, c0) = if stOk L = true then if mi (stS L) x.H = 0 then (stS L, 0) else (0, 9) else (0, 2)) := Lib.hid (by rw [hSr, hcr]; exact HSR.out)
 obtain ⟨V4, hV4⟩ : ∃ V, V = W3.alloc (.cells (sL S).toArray 36) := ⟨_, rfl⟩
 have hP4 := (HP0.out.keep hb3).allocS S 36
 rw [← hV4, ← hp6] at hP4
 have HP4 := Lib.hid hP4
 unfold sL at hV4
 clear hb3 hP4 HP0 HS1 hSr hcr HSR
 go_upto_region 4 with fail
 rw [← hV4, ← hp6]
 clear hV4 hp6
 by_cases hok : stOk L = true ∧ mi (stS L) x.H = 0
 ·have hrr : (S, c0) = (stS L, 0) := by rw [HSR2.out, if_pos hok.1, if_pos hok.2]
  injection hrr with hS0 hc0
  subst hc0
  have HSE := Eqn.mk hS0
  have HLK2 := Lib.hid (HLK.out.trans (by rw [if_pos hok.1, if_pos hok.2]))
  rw [← hS0] at HLK2
  have HSO := Lib.hid hok.1
  have HFT : Hid (Fit S) := Lib.hid (by rw [hS0]; exact stS_fit (stOk_in hok.1))
  clear HLK hok HSR2 hS0
  have hS8 := HST.out.keep HP4.out.below
  have hpl := HOK.out.pl
  have hpn : x.pn ≤ 100000 := by have := hS8.pes.1.1; omega
  have hfd := fun (W : World) (hb : Below w.heap.size w W) => findP_any 20 #[sV S] #[] (fun T => decide (mi S T = 0)) x.pa x.pn x.pc x.pe W ((HST.out.keep hb).pes.1.mono (by decide) (fun _ _ _ => trivial)) hpn (enters_of Tryd.func20 (by kernel_rfl) rfl) (fun y hy W' hb' => sub_call S HFT.out y.S W')
  have HFD := Lib.hid hfd
  have k0 : V4.cell? ⟨g, 13, none⟩ = some (.slice x.pa x.pn x.pc) := hS8.blk.cell rfl
  have gl := hS8.blk.lt
  have hP4 := HP4.out
  obtain ⟨c1_0, c1_1, c1_2, c1_3, c1_4, c1_5, c1_6, c1_7⟩ := (hP4.blk 1 rfl).eight; have f1 := hP4.f 1 rfl; have l1 := hP4.lt 1 rfl
  have HPN := Lib.hid hpn
  have HPD := Lib.hid hP4.drew
  clear hS8 hpl hpn hfd hP4
  unfold sV at HFD
  go_wp2_with fail
  refine Lx.region (C := fun _ => True) (hs := []) (by kernel_rfl) (by kernel_rfl) trivial ?_
  have HPF := Lib.hid (pk_find HOK.out fun T => decide (mi S T = 0))
  cases hf : x.pe.find? fun y => decide (mi S y.S = 0) with
  | some y =>
   have hfv : fndVP (fun T => decide (mi S T = 0)) x.pe = .slice y.v.adr y.v.len y.v.cap := by unfold fndVP; rw [hf]; rfl
   have hany : (x.pe.any fun y => decide (mi S y.S = 0)) = true := by rw [List.any_eq_true]; exact ⟨y, List.mem_of_find?_eq_some hf, by have := List.find?_some hf; exact this⟩
   rw [hfv, hany] at HFD
   have hPF := HPF.out
   rw [hf] at hPF
   have hRv := HLK2.out
   rw [hPF] at hRv
   have hym := List.mem_of_find?_eq_some hf
   have HR : Hid (R = ((1, y.v.chs.filter (fun x => hasS (stS L) x.1), ([], [])), 0)) := Lib.hid (by rw [hRv, HSE.out]; rfl)
   have HON := Lib.hid (fun (W : World) (hb : Below w.heap.size w W) => (by
    have h1 := (HST.out.keep hb).pes.2 y hym
    have h2 := only_any y.v.adr y.v.len y.v.cap A n c W y.v.chs L h1.2 (by omega) h1.rowS (Hl.out.keep hb)
    rw [show onlyF y.v.chs L = (y.v.chs.filter (fun x => hasS (stS L) x.1), 0) by unfold onlyF; rw [if_pos (HOK.out.pes y hym).2, if_pos HSO.out]] at h2
    exact h2 : Calls Tryd.prog 21 #[.slice y.v.adr y.v.len y.v.cap, .slice A n c] W (ChsPost (y.v.chs.filter (fun x => hasS (stS L) x.1), 0) W)))
   have HYL : Hid ((y.v.chs.filter (fun x => hasS (stS L) x.1)).length ≤ 100000) := Lib.hid (by have h1 := List.length_filter_le (fun x : Int × Int => hasS (stS L) x.1) y.v.chs; have h2 := vl_len (HOK.out.pes y hym).2; omega)
   generalize y.v.chs.filter (fun x => hasS (stS L) x.1) = O at *
   clear hfv hany hPF hRv hym hf HPF HLK2
   repeat' (first | ((first | refine Lx.ln (fun K hK => ?_) | (first | (refine Lx.lp (v := ?_) ?_ (fun K hK => ?_); rotate_left 1; intro w' hCw; try dsimp only at hCw) | (refine Lx.lr (v := ?_) ?_ (fun K hK => ?_); rotate_left 1)); go_simp; first | done | with_reducible rfl); go_simp; refine hK _ ?_; clear hK K) | (refine Lx.le (fun K hK => ?_); go_simp; (first | (go_at_call 19; refine (HFD.out _ HPD.out.below).mono ?_; rintro e w9 ⟨rfl, hb9⟩; have HP9 := Lib.hid (HPD.out.keep hb9); clear hb9) | skip); refine hK _ _ (trivial) ?_; clear hK K) | (refine Lx.lex_cases rfl rfl rfl (fun hgd K hK => ?_) (fun hgd K hK => ?_) <;> (try simp only [decide_eq_true_eq, decide_eq_false_iff_not] at hgd) <;> (first | (exfalso; omega) | (go_simp; refine hK _ ?_; clear hK K))))
   all_goals (refine Lx.lex_nil ?_)
   clear k0 gl HPD HP4 HFD c1_0 c1_1 c1_2 c1_3 c1_4 c1_5 c1_6 c1_7 f1 l1
   have HO9 := Lib.hid (HON.out w9 HP9.out.below)
   clear HON
   go_wp2_with fail
   refine HO9.out.mono ?_
   rintro e W10 ⟨v, rfl, hown, hb10⟩
   have hP10 := HP9.out.pushRow hb10 hown
   obtain ⟨vA, vc, rfl⟩ := hP10.form 2 rfl
   have HP10 := Lib.hid hP10
   have q0 := hP10.c 0 0 rfl rfl
   have q1 := hP10.c 0 1 rfl rfl
   have q2 := hP10.c 0 2 rfl rfl
   have q3 := hP10.c 0 3 rfl rfl
   have q4 := hP10.c 0 4 rfl rfl
   have qf := hP10.f 0 rfl
   have ql := hP10.lt 0 rfl
   clear hown hb10 hP10 HO9
   go_wp2_with fail
   have hP11 := ((((HP10.out.set 0 0 (.int .i64 1) rfl).set 0 1 (.slice vA O.length vc) rfl).set 0 2 (.slice none 0 0) rfl).set 0 3 (.slice none 0 0) rfl).set 0 4 (.int .i64 0) rfl
   refine bodyPost_ret (v := .tuple #[.agg #[.int .i64 1, .slice vA O.length vc, .slice none 0 0, .slice none 0 0, .int .i64 0], .int .i64 0]) (by simp [results, Tryd.results5, go_sem, hP11.c 0 0 rfl rfl, hP11.c 0 1 rfl rfl, hP11.c 0 2 rfl rfl, hP11.c 0 3 rfl rfl, hP11.c 0 4 rfl rfl]) rfl ?_
   rw [HR.out]
   exact ⟨⟨vA, O.length, vc, O⟩, noPrf, rfl, rfl, rfl, ⟨HYL.out, Nat.zero_le _, Nat.zero_le _, fun _ h => (by cases h)⟩, ((hP11.nil 3 1).nil 47 1).sub (List.Sublist.cons _ (List.Sublist.cons _ (List.Sublist.refl _)))⟩
  | none =>
   have hfv : fndVP (fun T => decide (mi S T = 0)) x.pe = .slice none 0 0 := by unfold fndVP; rw [hf]
   have hany : (x.pe.any fun y => decide (mi S y.S = 0)) = false := by rw [List.any_eq_false]; intro y hy; have := List.find?_eq_none.1 hf y hy; simpa using this
   rw [hfv, hany] at HFD
   have hPF := HPF.out
   rw [hf] at hPF
   have hRv := HLK2.out
   rw [hPF] at hRv
   have HLK3 : Hid (R = match x.Q.find? fun o => decide (mi (stS o.1) S = 0) with
    | some o => ((2, [], o), 0)
    | none => ((0, [], ([], [])), 0)) := Lib.hid hRv
   clear hfv hany hPF hRv hf HPF HLK2
   repeat' (first | ((first | refine Lx.ln (fun K hK => ?_) | (first | (refine Lx.lp (v := ?_) ?_ (fun K hK => ?_); rotate_left 1; intro w' hCw; try dsimp only at hCw) | (refine Lx.lr (v := ?_) ?_ (fun K hK => ?_); rotate_left 1)); go_simp; first | done | with_reducible rfl); go_simp; refine hK _ ?_; clear hK K) | (refine Lx.le (fun K hK => ?_); go_simp; (first | (go_at_call 19; refine (HFD.out _ HPD.out.below).mono ?_; rintro e w9 ⟨rfl, hb9⟩; have HP9 := Lib.hid (HPD.out.keep hb9); clear hb9) | skip); refine hK _ _ (trivial) ?_; clear hK K) | (refine Lx.lex_cases rfl rfl rfl (fun hgd K hK => ?_) (fun hgd K hK => ?_) <;> (try simp only [decide_eq_true_eq, decide_eq_false_iff_not] at hgd) <;> (first | (exfalso; omega) | (go_simp; refine hK _ ?_; clear hK K))))
   all_goals (refine Lx.lex_nil ?_)
   clear k0 gl HPD HP4 HFD c1_0 c1_1 c1_2 c1_3 c1_4 c1_5 c1_6 c1_7 f1 l1
   have hS9 := HST.out.keep HP9.out.below
   have hrl := HOK.out.rl
   have hrn : x.rn ≤ 100000 := by have := hS9.res.1.1; omega
   have hft : ∀ z ∈ x.re, Fit z.S := fun z hz => by rw [(HOK.out.res z hz).1]; exact stS_fit (stOk_in (HOK.out.res z hz).2)
   have hfr := findR_any 23 #[] #[.pointer (some ⟨p6, 0, none⟩)] (fun T => decide (mi T S = 0)) x.ra x.rn x.rc x.re w9 (hS9.res.1.mono (by decide) (fun _ _ _ => trivial)) hrn (enters_of Tryd.func23 (by kernel_rfl) rfl) (fun z hz W hb => clo_Lookup p6 S z.S (hft z hz) W ((HP9.out.blk 1 rfl).keep hb))
   have HRF := Lib.hid (rf_find HOK.out fun T => decide (mi T S = 0))
   have k0 : w9.cell? ⟨g, 14, none⟩ = some (.slice x.ra x.rn x.rc) := hS9.blk.cell rfl
   have gl := hS9.blk.lt
   cases hf : x.re.find? fun y => decide (mi y.S S = 0) with
   | some y =>
    have hfv : fndVR (fun T => decide (mi T S = 0)) x.re = .agg #[.slice y.v.sa y.v.sn y.v.sc, .slice y.v.la y.v.ln y.v.lc] := by unfold fndVR; rw [hf]; rfl
    have hany : (x.re.any fun y => decide (mi y.S S = 0)) = true := by rw [List.any_eq_true]; exact ⟨y, List.mem_of_find?_eq_some hf, by have := List.find?_some hf; exact this⟩
    rw [hfv, hany] at hfr
    have hRF := HRF.out
    rw [hf] at hRF
    have hRv := HLK3.out
    rw [hRF] at hRv
    have hym := List.mem_of_find?_eq_some hf
    have HR : Hid (R = ((2, [], y.v.say), 0)) := Lib.hid hRv
    have HFR := Lib.hid hfr
    have hysn : y.v.sn ≤ 1000 := by have h1 := (HOK.out.res y hym).2; have h2 := stOk_len h1; have h3 := (HST.out.res.2 y hym).1.1; omega
    have HCP := Lib.hid (fun (W : World) (hb : Below w.heap.size w W) => copyProof_any y.v W ((((HST.out.keep hb).res.2 y hym).mono (fun _ _ _ => trivial))) hysn)
    have HYN : Hid (y.v.sn ≤ 100000 ∧ y.v.ln ≤ 100000) := Lib.hid (HST.out.res.2 y hym).2.2.2
    unfold Prf.val Prf.v1 Prf.v2 at HCP
    clear hfv hany hRF hRv hym hf HRF HLK3 hfr hrl hrn hft hS9 hysn
    go_wp2_with fail
    refine HFR.out.mono ?_
    rintro e W10 ⟨rfl, hb10⟩
    obtain ⟨p12, hp12⟩ : ∃ q, q = W10.heap.size := ⟨_, rfl⟩
    obtain ⟨V11, hV11⟩ : ∃ V, V = W10.alloc (.cells #[.slice y.v.sa y.v.sn y.v.sc, .slice y.v.la y.v.ln y.v.lc] 50) := ⟨_, rfl⟩
    have hP11 := (HP9.out.keep hb10).alloc [.slice y.v.sa y.v.sn y.v.sc, .slice y.v.la y.v.ln y.v.lc] 50
    rw [show ([.slice y.v.sa y.v.sn y.v.sc, .slice y.v.la y.v.ln y.v.lc] : List Value).toArray = #[.slice y.v.sa y.v.sn y.v.sc, .slice y.v.la y.v.ln y.v.lc] from rfl, ← hV11, ← hp12] at hP11
    have HP11 := Lib.hid hP11
    have q0 := hP11.c 2 0 rfl rfl
    have q1 := hP11.c 2 1 rfl rfl
    have ql := hP11.lt 2 rfl
    have HC11 := Lib.hid (HCP.out V11 hP11.below)
    clear hb10 hP11 k0 gl HP9 HFR HCP
    go_upto_region 13 with fail
    rw [← hV11, ← hp12]
    clear hV11 hp12
    go_wp2_with fail
    refine HC11.out.mono ?_
    rintro e W12 ⟨y', rfl, hsay, hln, hH⟩
    have hP12 := HP11.out.join hH.below hH
    have HP12 := Lib.hid hP12
    have HSY := Lib.hid (And.intro hsay hln)
    have q5 := hP12.c 0 0 rfl rfl
    have q6 := hP12.c 0 1 rfl rfl
    have q7 := hP12.c 0 2 rfl rfl
    have q8 := hP12.c 0 3 rfl rfl
    have q9 := hP12.c 0 4 rfl rfl
    have qf := hP12.f 0 rfl
    have qm := hP12.lt 0 rfl
    clear hsay hln hH hP12 HC11 HP11 q0 q1 ql
    unfold Prf.val Prf.v1 Prf.v2
    go_wp2_with fail
    have hP13 := ((((HP12.out.set 0 0 (.int .i64 2) rfl).set 0 1 (.slice none 0 0) rfl).set 0 2 y'.v1 rfl).set 0 3 y'.v2 rfl).set 0 4 (.int .i64 0) rfl
    unfold Prf.v1 Prf.v2 at hP13
    refine bodyPost_ret (v := .tuple #[.agg #[.int .i64 2, .slice none 0 0, .slice y'.sa y'.sn y'.sc, .slice y'.la y'.ln y'.lc, .int .i64 0], .int .i64 0]) (by simp [results, Tryd.results5, go_sem, hP13.c 0 0 rfl rfl, hP13.c 0 1 rfl rfl, hP13.c 0 2 rfl rfl, hP13.c 0 3 rfl rfl, hP13.c 0 4 rfl rfl]) rfl ?_
    rw [HR.out]
    refine ⟨noLem, y', rfl, rfl, HSY.out.1, ⟨Nat.zero_le _, by rw [HSY.out.2.1]; exact HYN.out.1, by rw [HSY.out.2.2.1]; exact HYN.out.2, HSY.out.2.2.2⟩, ?_⟩
    have hP14 := hP13.nil 74 2
    refine (hP14.sub (L' := prfEnts y' ++ [.row (.slice none 0 0) 74 2 0 []]) ?_).perm ?_
    ·exact List.Sublist.cons _ (List.Sublist.cons _ (List.Sublist.cons _ (List.Sublist.refl _)))
    ·exact List.perm_append_singleton _ _
   | none =>
    have hany : (x.re.any fun y => decide (mi y.S S = 0)) = false := by rw [List.any_eq_false]; intro y hy; have := List.find?_eq_none.1 hf y hy; simpa using this
    have hfv : fndVR (fun T => decide (mi T S = 0)) x.re = .agg #[.slice none 0 0, .slice none 0 0] := by unfold fndVR; rw [hf]
    rw [hfv, hany] at hfr
    have hRF := HRF.out
    rw [hf] at hRF
    have hRv := HLK3.out
    rw [hRF] at hRv
    have HR : Hid (R = ((0, [], ([], [])), 0)) := Lib.hid hRv
    have HFR := Lib.hid hfr
    clear hfv hany hRF hRv hf HRF HLK3 hfr hrl hrn hft hS9
    go_wp2_with fail
    refine HFR.out.mono ?_
    rintro e W10 ⟨rfl, hb10⟩
    obtain ⟨V11, hV11⟩ : ∃ V, V = W10.alloc (.cells #[.slice none 0 0, .slice none 0 0] 50) := ⟨_, rfl⟩
    have HP11 := Lib.hid ((HP9.out.keep hb10).alloc0 (.cells #[.slice none 0 0, .slice none 0 0] 50))
    rw [← hV11] at HP11
    clear hb10 k0 gl HP9 HFR
    go_upto_region 13 with fail
    rw [← hV11]
    clear hV11
    have hP12 := HP11.out
    have q5 := hP12.c 0 0 rfl rfl
    have q6 := hP12.c 0 1 rfl rfl
    have q7 := hP12.c 0 2 rfl rfl
    have q8 := hP12.c 0 3 rfl rfl
    have q9 := hP12.c 0 4 rfl rfl
    have qf := hP12.f 0 rfl
    have qm := hP12.lt 0 rfl
    clear hP12
    go_wp2_with fail
    have hP13 := ((((HP11.out.set 0 0 (.int .i64 0) rfl).set 0 1 (.slice none 0 0) rfl).set 0 2 (.slice none 0 0) rfl).set 0 3 (.slice none 0 0) rfl).set 0 4 (.int .i64 0) rfl
    refine bodyPost_ret (v := .tuple #[.agg #[.int .i64 0, .slice none 0 0, .slice none 0 0, .slice none 0 0, .int .i64 0], .int .i64 0]) (by simp [results, Tryd.results5, go_sem, hP13.c 0 0 rfl rfl, hP13.c 0 1 rfl rfl, hP13.c 0 2 rfl rfl, hP13.c 0 3 rfl rfl, hP13.c 0 4 rfl rfl]) rfl ?_
    rw [HR.out]
    exact lk_none hP13.below
 ·have hrr : c0 ≠ 0 ∧ R = ((0, [], ([], [])), c0) := by
   have h1 := HSR2.out
   have h2 := HLK.out
   by_cases hv : stOk L = true
   ·have hm : ¬ mi (stS L) x.H = 0 := fun h => hok ⟨hv, h⟩
    rw [if_pos hv, if_neg hm] at h1 h2
    injection h1 with _ h1
    rw [h1]; exact ⟨by decide, h2⟩
   ·rw [if_neg hv] at h1 h2
    injection h1 with _ h1
    rw [h1]; exact ⟨by decide, h2⟩
  have hc1 : (c0 != 0) = true := by simpa using hrr.1
  have HR := Lib.hid hrr.2
  have hP12 := HP4.out
  have q5 := hP12.c 0 0 rfl rfl
  have q6 := hP12.c 0 1 rfl rfl
  have q7 := hP12.c 0 2 rfl rfl
  have q8 := hP12.c 0 3 rfl rfl
  have q9 := hP12.c 0 4 rfl rfl
  have qf := hP12.f 0 rfl
  have qm := hP12.lt 0 rfl
  clear hrr hok HSR2 HLK hP12
  go_wp2_with fail
  have hP13 := ((((HP4.out.set 0 0 (.int .i64 0) rfl).set 0 1 (.slice none 0 0) rfl).set 0 2 (.slice none 0 0) rfl).set 0 3 (.slice none 0 0) rfl).set 0 4 (.int .i64 0) rfl
  refine bodyPost_ret (v := .tuple #[.agg #[.int .i64 0, .slice none 0 0, .slice none 0 0, .slice none 0 0, .int .i64 0], .int .i64 c0]) (by simp [results, Tryd.results5, go_sem, hP13.c 0 0 rfl rfl, hP13.c 0 1 rfl rfl, hP13.c 0 2 rfl rfl, hP13.c 0 3 rfl rfl, hP13.c 0 4 rfl rfl]) rfl ?_
  rw [HR.out]
  exact lk_none hP13.below
structure Ans where
 k : Int
 o : Lem
 y : Prf
 st : Int
def Ans.val (x : Ans) : Value := .agg #[.int .i64 x.k, .slice x.o.adr x.o.len x.o.cap, .slice x.y.sa x.y.sn x.y.sc, .slice x.y.la x.y.ln x.y.lc, .int .i64 x.st]
def Ans.cells (x : Ans) : List Value := [.int .i64 x.k, .slice x.o.adr x.o.len x.o.cap, .slice x.y.sa x.y.sn x.y.sc, .slice x.y.la x.y.ln x.y.lc, .int .i64 x.st]
def Ans.say (x : Ans) : Int × Chs × Prv := (x.k, x.o.chs, x.y.say)
def Ans.At (x : Ans) (w : World) : Prop := x.o.At w (fun _ => True) ∧ x.y.At w (fun _ => True)
def saF (a b : Ans) : Bool := decide (a.k = b.k) && (decide (a.st = b.st) && (decide (a.o.chs = b.o.chs) && decide (a.y.say = b.y.say)))
theorem saF_iff (a b : Ans) : saF a b = true ↔ a.say = b.say ∧ a.st = b.st := by
 unfold saF Ans.say
 simp only [Bool.and_eq_true, decide_eq_true_eq, Prod.mk.injEq]
 constructor
 ·rintro ⟨h1, h2, h3, h4⟩; exact ⟨⟨h1, h3, h4⟩, h2⟩
 ·rintro ⟨⟨h1, h3, h4⟩, h2⟩; exact ⟨h1, h2, h3, h4⟩
theorem sameAns_any (a b : Ans) (w : World) (ha : a.At w) (hb : b.At w) : Calls Tryd.prog 6 #[a.val, b.val] w (RetPost (.bool (saF a b)) w.heap.size w) := by
 obtain ⟨p, hp⟩ : ∃ p, p = w.heap.size := ⟨_, rfl⟩
 obtain ⟨q, hq⟩ : ∃ p, p = w.heap.size + 1 := ⟨_, rfl⟩
 obtain ⟨V0, hV0⟩ : ∃ V0, V0 = (w.alloc (.cells #[.int .i64 a.k, .slice a.o.adr a.o.len a.o.cap, .slice a.y.sa a.y.sn a.y.sc, .slice a.y.la a.y.ln a.y.lc, .int .i64 a.st] 52)).alloc (.cells #[.int .i64 b.k, .slice b.o.adr b.o.len b.o.cap, .slice b.y.sa b.y.sn b.y.sc, .slice b.y.la b.y.ln b.y.lc, .int .i64 b.st] 52) := ⟨_, rfl⟩
 have hP0 : Hp w w V0 [.blk p 52 a.cells, .blk q 52 b.cells] [] := by
  have h := ((Hp.start w).alloc a.cells 52).alloc b.cells 52
  simp only [World.size_alloc] at h
  rw [hV0, hp, hq]; exact h
 have HSL := Lib.hid (fun (W : World) (h : Below w.heap.size w W) => sameList_any a.o.adr b.o.adr a.o.len a.o.cap b.o.len b.o.cap W W.heap.size a.o.chs b.o.chs (by have := ha.1.2; omega) (ha.1.keep h).rowS (hb.1.keep h).rowS)
 have HPS := Lib.hid (fun (W : World) (h : Below w.heap.size w W) => psame_any a.y b.y W (ha.2.keep h) (hb.2.keep h))
 have HF : Eqn (saF a b) (decide (a.k = b.k) && (decide (a.st = b.st) && (decide (a.o.chs = b.o.chs) && decide (a.y.say = b.y.say)))) := rfl
 have HP0 := Lib.hid hP0
 unfold Ans.cells at hP0
 have z0 := hP0.c 0 0 rfl rfl
 have z1 := hP0.c 0 1 rfl rfl
 have z4 := hP0.c 0 4 rfl rfl
 have zl := hP0.lt 0 rfl
 have y0 := hP0.c 1 0 rfl rfl
 have y1 := hP0.c 1 1 rfl rfl
 have y4 := hP0.c 1 4 rfl rfl
 have yl := hP0.lt 1 rfl
 unfold Ans.val
 unfold Prf.val Prf.v1 Prf.v2 at HPS
 generalize saF a b = ans at *
 clear hP0 ha hb
 by_cases h1 : a.k = b.k
 ·have d1 : (a.k == b.k) = true := by simpa using h1
  by_cases h2 : a.st = b.st
  ·have d2 : (a.st == b.st) = true := by simpa using h2
   have HE : Hid (ans = (decide (a.o.chs = b.o.chs) && decide (a.y.say = b.y.say))) := Lib.hid (by rw [HF, decide_eq_true h1, decide_eq_true h2, Bool.true_and, Bool.true_and])
   generalize decide (a.o.chs = b.o.chs) = r3 at *
   generalize decide (a.y.say = b.y.say) = r4 at *
   clear HF h1 h2
   go_enter Tryd.func6, Tryd.ntmps6
   go_upto_region 1 with fail
   rw [← hV0, ← hq, ← hp]
   clear hV0 hp hq
   go_wp2_with fail
   refine (HSL.out _ HP0.out.below).mono ?_
   rintro e W1 ⟨rfl, hb1⟩
   have hP1 := HP0.out.keep hb1
   have HP1 := Lib.hid hP1
   unfold Ans.cells at hP1
   clear z0 z1 z4 zl y0 y1 y4 yl hb1
   have z2 := hP1.c 0 2 rfl rfl
   have z3 := hP1.c 0 3 rfl rfl
   have zl := hP1.lt 0 rfl
   have y2 := hP1.c 1 2 rfl rfl
   have y3 := hP1.c 1 3 rfl rfl
   have yl := hP1.lt 1 rfl
   have HQ := Lib.hid (HPS.out W1 hP1.below)
   clear hP1 HP0 HSL HPS
   cases r3 with
   | true =>
    go_wp2_with fail
    refine HQ.out.mono ?_
    rintro e W2 ⟨rfl, hb2⟩
    have HB := Lib.hid (HP1.out.keep hb2).below
    clear hb2 z2 z3 zl y2 y3 yl
    go_wp2_with fail
    go_ret
    exact ⟨ret_bool HE.out.symm, HB.out⟩
   | false =>
    have HB := Lib.hid HP1.out.below
    go_wp2_with fail
    go_ret
    exact ⟨ret_bool HE.out.symm, HB.out⟩
  ·have d2 : (a.st == b.st) = false := by simpa using h2
   have HE : Hid (ans = false) := Lib.hid (by rw [HF, decide_eq_false h2, Bool.false_and, Bool.and_false])
   clear HF h1 h2
   go_enter Tryd.func6, Tryd.ntmps6
   go_upto_region 1 with fail
   rw [← hV0, ← hq, ← hp]
   clear hV0 hp hq
   go_wp2_with fail
   go_ret
   exact ⟨ret_bool HE.out.symm, HP0.out.below⟩
 ·have d1 : (a.k == b.k) = false := by simpa using h1
  have HE : Hid (ans = false) := Lib.hid (by rw [HF, decide_eq_false h1, Bool.false_and])
  clear HF h1
  go_enter Tryd.func6, Tryd.ntmps6
  go_upto_region 1 with fail
  rw [← hV0, ← hq, ← hp]
  clear hV0 hp hq
  go_wp2_with fail
  go_ret
  exact ⟨ret_bool HE.out.symm, HP0.out.below⟩
theorem lk_at {w w' : World} {o : Lem} {y : Prf} {t : Nat} (ht : t = 74) (h : Hp w w w' (.row o.val t 2 o.len (flat 2 chC o.chs) :: prfEnts y) []) (hb : o.len ≤ 100000 ∧ y.sn ≤ 100000 ∧ y.ln ≤ 100000 ∧ ∀ m ∈ y.lms, m.len ≤ 100000) (hc : o.chs.length = o.len) : o.At w' (fun _ => True) ∧ y.At w' (fun _ => True) := by
 subst ht
 refine ⟨?_, prf_at (h.sub (List.sublist_cons_self _ _)) (fun _ _ => trivial) hb.2⟩
 have h0 := h.row 0 rfl
 obtain ⟨A, n, c, chs⟩ := o
 dsimp only at hc
 subst hc
 obtain ⟨A2, c2, e2, q2⟩ := rowX_own (p := fun _ => True) h0 (by decide) (fun _ _ => trivial)
 injection e2 with e2
 subst e2
 exact ⟨q2, hb.1⟩
def lookF (r : (Int × Chs × Prv) × Int) (a : Ans) : Bool := decide (r.2 = 0) && (decide (r.1 = a.say) && decide (a.st = 0))
theorem looks_any (B : Nat) (p : Nat → Prop) (g : Nat) (x : StS) (A : Option Addr) (n c : Nat) (b : Ans) (w : World) (L : List Int) (hS : StAt w B p g x) (hO : StOk x) (hn : n ≤ 100000) (hl : Row1 intV w w.heap.size A n L) (hb : b.At w) :
  Calls Tryd.prog 16 #[.pointer (some ⟨g, 0, none⟩), .slice A n c, b.val] w (RetPost (.bool (lookF (lkF x.ds x.P x.Q L) b)) w.heap.size w) := by
 obtain ⟨q, hq⟩ : ∃ p, p = w.heap.size := ⟨_, rfl⟩
 obtain ⟨V0, hV0⟩ : ∃ V0, V0 = w.alloc (.cells #[.int .i64 b.k, .slice b.o.adr b.o.len b.o.cap, .slice b.y.sa b.y.sn b.y.sc, .slice b.y.la b.y.ln b.y.lc, .int .i64 b.st] 52) := ⟨_, rfl⟩
 have hP0 : Hp w w V0 [.blk q 52 b.cells] [] := by
  have h := (Hp.start w).alloc b.cells 52
  rw [hV0, hq]; exact h
 have HLK := Lib.hid (lookup_any B p g x A n c V0 L (hS.keep hP0.below) hO hn (hl.keep hP0.below))
 have HBA := Lib.hid (fun (W : World) (h : Below w.heap.size w W) => (⟨hb.1.keep h, hb.2.keep h⟩ : b.At W))
 have HP0 := Lib.hid hP0
 generalize lkF x.ds x.P x.Q L = r at *
 have HF : Eqn (lookF r b) (decide (r.2 = 0) && (decide (r.1 = b.say) && decide (b.st = 0))) := rfl
 generalize lookF r b = ans at *
 unfold Ans.val
 clear hS hO hl hb hP0
 go_enter Tryd.func16, Tryd.ntmps16
 go_upto_region 1 with fail
 rw [← hV0, ← hq]
 clear hV0 hq
 go_wp2_with fail
 refine HLK.out.mono ?_
 rintro e W1 ⟨o, y, rfl, ho, hy, hbd, hH⟩
 have hP1 := HP0.out.keep hH.below
 have hoc : o.chs.length = o.len := by have h0 := (hH.row 0 rfl).1; rw [flat_lenR] at h0; omega
 have hat := lk_at rfl hH hbd hoc
 obtain ⟨ra, hra⟩ : ∃ ra : Ans, ra = ⟨r.1.1, o, y, 0⟩ := ⟨_, rfl⟩
 obtain ⟨p7, hp7⟩ : ∃ q, q = W1.heap.size := ⟨_, rfl⟩
 obtain ⟨V2, hV2⟩ : ∃ V, V = W1.alloc (.cells #[.int .i64 r.1.1, .slice o.adr o.len o.cap, .slice y.sa y.sn y.sc, .slice y.la y.ln y.lc, .int .i64 0] 52) := ⟨_, rfl⟩
 have hP2 := hP1.alloc ra.cells 52
 rw [show W1.alloc (.cells ra.cells.toArray 52) = V2 by rw [hV2, hra]; rfl, ← hp7] at hP2
 have hb12 : Below W1.heap.size W1 V2 := by rw [hV2]; exact (Below.refl _ W1).alloc (Nat.le_refl _) _
 have hat2 : ra.At V2 := by rw [hra]; exact ⟨hat.1.keep hb12, hat.2.keep hb12⟩
 have HSA := Lib.hid (sameAns_any ra b V2 hat2 (HBA.out V2 hP2.below))
 have HP2 := Lib.hid hP2
 have hsa : (decide (r.1 = b.say) && decide (b.st = 0)) = saF ra b := by
  rw [Bool.eq_iff_iff, saF_iff, Bool.and_eq_true, decide_eq_true_eq, decide_eq_true_eq, hra]
  have : (⟨r.1.1, o, y, 0⟩ : Ans).say = r.1 := by unfold Ans.say; dsimp only; rw [ho, hy]
  rw [this]
  exact and_congr Iff.rfl eq_comm
 have HE : Hid (ans = (decide (r.2 = 0) && saF ra b)) := Lib.hid (by rw [HF, hsa])
 have HRA := Lib.hid hra
 unfold Ans.cells at hP2
 rw [hra] at hP2
 dsimp only at hP2
 have z0 := hP2.c 1 0 rfl rfl
 have z1 := hP2.c 1 1 rfl rfl
 have z2 := hP2.c 1 2 rfl rfl
 have z3 := hP2.c 1 3 rfl rfl
 have z4 := hP2.c 1 4 rfl rfl
 have zl := hP2.lt 1 rfl
 have y0 := hP2.c 0 0 rfl rfl
 have y1 := hP2.c 0 1 rfl rfl
 have y2 := hP2.c 0 2 rfl rfl
 have y3 := hP2.c 0 3 rfl rfl
 have y4 := hP2.c 0 4 rfl rfl
 have yl := hP2.lt 0 rfl
 generalize saF ra b = sa at *
 unfold Ans.val at HSA
 rw [HRA.out] at HSA
 dsimp only at HSA
 generalize hk : r.1.1 = rk at *
 generalize hr2 : r.2 = r2 at *
 clear ho hy hbd hH hP1 hoc hat hra hP2 hb12 hat2 hsa HP0 HLK HF HBA HRA hk hr2
 unfold Lem.val Prf.v1 Prf.v2
 go_upto_region 2 with fail
 rw [← hV2, ← hp7]
 clear hV2 hp7
 by_cases h0 : r2 = 0
 ·have d0 : (r2 == 0) = true := by simpa using h0
  have HE2 : Hid (ans = sa) := Lib.hid (by rw [HE.out, decide_eq_true h0, Bool.true_and])
  clear HE h0
  go_wp2_with fail
  refine HSA.out.mono ?_
  rintro e W5 ⟨rfl, hb5⟩
  have HB := Lib.hid (HP2.out.keep hb5).below
  clear hb5 z0 z1 z2 z3 z4 zl y0 y1 y2 y3 y4 yl
  go_wp2_with fail
  go_ret
  exact ⟨ret_bool HE2.out.symm, HB.out⟩
 ·have d0 : (r2 == 0) = false := by simpa using h0
  have HE2 : Hid (ans = false) := Lib.hid (by rw [HE.out, decide_eq_false h0, Bool.false_and])
  clear HE h0
  go_wp2_with fail
  go_ret
  exact ⟨ret_bool HE2.out.symm, HP2.out.below⟩
theorem rowS_blk {α : Type} {sz : Nat} {f : α → Nat → Value} {W : World} {b t D : Nat} {s : List Value} (xs : List α) (h : Blk W b t s) (hs : s = flat sz f xs) (hD : b < D) : RowS sz f W D (some ⟨b, 0, none⟩) xs.length xs := by
 subst hs
 refine ⟨rfl, fun _ => ⟨b, 0, rfl, hD, fun k x hk j hj => ?_⟩⟩
 rw [Nat.zero_add]
 exact h.cell (flat_at sz f xs k x hk j hj)
theorem row1_blk {W : World} {b t D : Nat} {s : List Value} (xs : List Int) (h : Blk W b t s) (hs : s = xs.map intV) (hD : b < D) : Row1 intV W D (some ⟨b, 0, none⟩) xs.length xs := row1_S (rowS_blk xs h (by rw [hs, flat_ints]) hD)
def samD (A : Option Addr) : List Dom := [⟨1, A, 2, 2, [14, 15]⟩, ⟨2, A, 2, 2, [14, 15]⟩, ⟨3, A, 2, 2, [14, 15]⟩]
def samR : Rul := ⟨[⟨1, 2, 0, 14, 51⟩, ⟨1, 3, 0, 14, 51⟩, ⟨2, 3, 0, 14, 51⟩], [], []⟩
theorem same_any (a b : Int) (w : World) : Calls Tryd.prog 43 #[.int .i64 a, .int .i64 b] w (RetPost (.agg #[.int .i64 a, .int .i64 b, .int .i64 0, .int .i64 14, .int .i64 51]) w.heap.size w) := by
 obtain ⟨p, hp⟩ : ∃ p, p = w.heap.size := ⟨_, rfl⟩
 obtain ⟨V0, hV0⟩ : ∃ V0, V0 = w.alloc (.cells #[.int .i64 0, .int .i64 0, .int .i64 0, .int .i64 0, .int .i64 0] 109) := ⟨_, rfl⟩
 have hP0 : Hp w w V0 [.blk p 109 [.int .i64 0, .int .i64 0, .int .i64 0, .int .i64 0, .int .i64 0]] [] := by
  have h := (Hp.start w).alloc [.int .i64 0, .int .i64 0, .int .i64 0, .int .i64 0, .int .i64 0] 109
  rw [hV0, hp]; exact h
 have HP0 := Lib.hid hP0
 have z0 := hP0.c 0 0 rfl rfl
 have z1 := hP0.c 0 1 rfl rfl
 have z2 := hP0.c 0 2 rfl rfl
 have z3 := hP0.c 0 3 rfl rfl
 have z4 := hP0.c 0 4 rfl rfl
 have zf := hP0.f 0 rfl
 have zl := hP0.lt 0 rfl
 clear hP0
 go_enter Tryd.func43, Tryd.ntmps43
 go_upto_region 1 with fail
 rw [← hV0, ← hp]
 clear hV0 hp
 go_wp2_with fail
 have hP1 := ((((HP0.out.set 0 0 (.int .i64 a) rfl).set 0 1 (.int .i64 b) rfl).set 0 2 (.int .i64 0) rfl).set 0 3 (.int .i64 14) rfl).set 0 4 (.int .i64 51) rfl
 refine bodyPost_ret (v := .agg #[.int .i64 a, .int .i64 b, .int .i64 0, .int .i64 14, .int .i64 51]) (by simp [results, Tryd.results43, go_sem, hP1.c 0 0 rfl rfl, hP1.c 0 1 rfl rfl, hP1.c 0 2 rfl rfl, hP1.c 0 3 rfl rfl, hP1.c 0 4 rfl rfl]) rfl ⟨rfl, hP1.below⟩
def SamPost (w : World) (e : Ending) (w' : World) : Prop := ∃ (s : PrbS) (A : Option Addr), e = .returned s.val ∧ s.nd = 3 ∧ PrbAt w' w'.heap.size s (samD A) samR ∧ Below w.heap.size w w'
theorem sample_any (w : World) : Calls Tryd.prog 15 #[] w (SamPost w) := by
 obtain ⟨p, hp⟩ : ∃ p, p = w.heap.size := ⟨_, rfl⟩
 obtain ⟨b1, hb1⟩ : ∃ p, p = w.heap.size + 1 := ⟨_, rfl⟩
 obtain ⟨V0, hV0⟩ : ∃ V0, V0 = (w.alloc (.cells #[.slice none 0 0, .slice none 0 0, .slice none 0 0, .slice none 0 0] 32)).alloc (.cells #[.int .i64 14, .int .i64 15] 3) := ⟨_, rfl⟩
 have hP0 : Hp w w V0 [.blk p 32 [.slice none 0 0, .slice none 0 0, .slice none 0 0, .slice none 0 0], .blk b1 3 [.int .i64 14, .int .i64 15]] [] := by
  have h := ((Hp.start w).alloc [.slice none 0 0, .slice none 0 0, .slice none 0 0, .slice none 0 0] 32).alloc [.int .i64 14, .int .i64 15] 3
  simp only [World.size_alloc] at h
  rw [hV0, hp, hb1]; exact h
 have HP0 := Lib.hid hP0
 clear hP0
 go_enter Tryd.func15, Tryd.ntmps15
 go_upto_region 2 with fail
 rw [← hV0, ← hb1, ← hp]
 clear hV0 hp hb1
 go_wp2_with fail
 have HP1 := Lib.hid (HP0.out.alloc [.int .i64 1, .slice (some ⟨b1, 0, none⟩) 2 2, .int .i64 2, .slice (some ⟨b1, 0, none⟩) 2 2, .int .i64 3, .slice (some ⟨b1, 0, none⟩) 2 2] 70)
 refine (same_any 1 2 _).mono ?_
 rintro e W2 ⟨rfl, h2⟩
 have HP2 := Lib.hid (HP1.out.keep h2)
 clear h2 HP1
 go_wp2_with fail
 refine (same_any 1 3 _).mono ?_
 rintro e W3 ⟨rfl, h3⟩
 have HP3 := Lib.hid (HP2.out.keep h3)
 clear h3 HP2
 go_wp2_with fail
 refine (same_any 2 3 _).mono ?_
 rintro e W4 ⟨rfl, h4⟩
 have HP4 := Lib.hid (HP3.out.keep h4)
 clear h4 HP3
 have z0 := (HP4.out.c 0 0 rfl rfl)
 have z1 := (HP4.out.c 0 1 rfl rfl)
 have z2 := (HP4.out.c 0 2 rfl rfl)
 have z3 := (HP4.out.c 0 3 rfl rfl)
 have zf := (HP4.out.f 0 rfl)
 have zl := (HP4.out.lt 0 rfl)
 go_wp2_with fail
 have hP5 := ((((HP4.out.set 0 0 (.slice (some ⟨V0.heap.size, 0, none⟩) 3 3) rfl).set 0 1 (.slice (some ⟨W4.heap.size, 0, none⟩) 3 3) rfl).set 0 2 (.slice none 0 0) rfl).set 0 3 (.slice none 0 0) rfl).alloc [.int .i64 1, .int .i64 2, .int .i64 0, .int .i64 14, .int .i64 51, .int .i64 1, .int .i64 3, .int .i64 0, .int .i64 14, .int .i64 51, .int .i64 2, .int .i64 3, .int .i64 0, .int .i64 14, .int .i64 51] 109
 have hsz : ((((W4.setCell ⟨p, 0, none⟩ (.slice (some ⟨V0.heap.size, 0, none⟩) 3 3)).setCell ⟨p, 1, none⟩ (.slice (some ⟨W4.heap.size, 0, none⟩) 3 3)).setCell ⟨p, 2, none⟩ (.slice none 0 0)).setCell ⟨p, 3, none⟩ (.slice none 0 0)).heap.size = W4.heap.size := by simp [World.setCell]
 rw [hsz] at hP5
 refine bodyPost_ret (v := .agg #[.slice (some ⟨V0.heap.size, 0, none⟩) 3 3, .slice (some ⟨W4.heap.size, 0, none⟩) 3 3, .slice none 0 0, .slice none 0 0]) (by simp [results, Tryd.results15, go_sem, hP5.c 0 0 rfl rfl, hP5.c 0 1 rfl rfl, hP5.c 0 2 rfl rfl, hP5.c 0 3 rfl rfl]) rfl ?_
 refine ⟨⟨some ⟨V0.heap.size, 0, none⟩, 3, 3, ⟨some ⟨W4.heap.size, 0, none⟩, 3, 3, none, 0, 0, none, 0, 0⟩⟩, some ⟨b1, 0, none⟩, rfl, rfl, ⟨⟨rowS_blk (samD (some ⟨b1, 0, none⟩)) (hP5.blk 2 rfl) rfl (hP5.lt 2 rfl), fun d hd => ?_⟩, rowS_blk samR.pairs (hP5.blk 3 rfl) rfl (hP5.lt 3 rfl), RowS.nil _ _ _ _ _, RowS.nil _ _ _ _ _, show (3 : Nat) ≤ 9223372036854775807 by decide, show (0 : Nat) ≤ 9223372036854775807 by decide, show (0 : Nat) ≤ 9223372036854775807 by decide⟩, hP5.below⟩
 have hr := row1_blk [14, 15] (hP5.blk 1 rfl) rfl (hP5.lt 1 rfl)
 simp only [samD, List.mem_cons, List.not_mem_nil, or_false] at hd
 rcases hd with rfl | rfl | rfl <;> exact hr
end Go.Proofs.YtdpbbhbegehcjaaDoor

namespace Go.Proofs.YtdpbbhbegehcjaaDoor
open Go.RowKit
theorem filt_say {ds es : List Dom} (f : Int → Bool) (h : ds.map Dom.say = es.map Dom.say) : (ds.filter fun d => f d.st).map Dom.say = (es.filter fun d => f d.st).map Dom.say := by
 have key : ∀ l : List Dom, (l.filter fun d => f d.st).map Dom.say = (l.map Dom.say).filter fun s => f s.1 := by
  intro l
  induction l with
  | nil => rfl
  | cons x r ih =>
   rw [List.filter_cons, List.map_cons, List.filter_cons]
   show (List.map Dom.say (if f x.st = true then _ else _)) = if f x.st = true then _ else _
   split
   ·rw [List.map_cons, ih]
   ·exact ih
 rw [key, key, h]
theorem fits_say {ds es : List Dom} (r : Rul) (l : Chs) (h : ds.map Dom.say = es.map Dom.say) : fitsF ds r l = fitsF es r l := by
 unfold fitsF
 exact ok_say (filt_say _ h) _ _ _
theorem pk_say {ds es : List Dom} (r : Rul) (P : List Chs) (l : Chs) (h : ds.map Dom.say = es.map Dom.say) : pkF ds r P l = pkF es r P l := by
 unfold pkF
 rw [st_say h, fits_say r l h]
theorem rf_say {ds es : List Dom} (Q : List Prv) (x : Prv) (h : ds.map Dom.say = es.map Dom.say) : rfF ds Q x = rfF es Q x := by
 unfold rfF
 rw [st_say h]
theorem lk_say {ds es : List Dom} (P : List Chs) (Q : List Prv) (L : List Int) (h : ds.map Dom.say = es.map Dom.say) : lkF ds P Q L = lkF es P Q L := by
 unfold lkF
 rw [st_say h]
theorem sam_valid : validP (samD none) samR = true := by decide +kernel
theorem sam_p1 : pkF (samD none) samR [] [(1, 14), (2, 15)] = ([[(1, 14), (2, 15)]], 0) := by decide +kernel
theorem sam_p2 : pkF (samD none) samR [[(1, 14), (2, 15)]] [(1, 15)] = ([[(1, 14), (2, 15)]], 0) := by decide +kernel
theorem sam_p3 : pkF (samD none) samR [[(1, 14), (2, 15)]] [(1, 14), (2, 14)] = ([[(1, 14), (2, 15)]], 10) := by decide +kernel
theorem sam_p4 : pkF (samD none) samR [[(1, 14), (2, 15)]] [(4, 14)] = ([[(1, 14), (2, 15)]], 9) := by decide +kernel
theorem sam_r : rfF (samD none) [] ([1, 2, 3], [[(1, 14)], []]) = ([([1, 2, 3], [[(1, 14)], []])], 0) := by decide +kernel
theorem sam_l1 : lkF (samD none) [] [] [1, 2] = ((0, [], ([], [])), 0) := by decide +kernel
theorem sam_l2 : lkF (samD none) [[(1, 14), (2, 15)]] [] [2] = ((1, [(2, 15)], ([], [])), 0) := by decide +kernel
theorem sam_l3 : lkF (samD none) [[(1, 14), (2, 15)]] [] [1, 3] = ((0, [], ([], [])), 0) := by decide +kernel
theorem sam_l4 : lkF (samD none) [[(1, 14), (2, 15)]] [([1, 2, 3], [[(1, 14)], []])] [1, 2, 3] = ((2, [], ([1, 2, 3], [[(1, 14)], []])), 0) := by decide +kernel
theorem sam_l5 : lkF (samD none) [[(1, 14), (2, 15)]] [([1, 2, 3], [[(1, 14)], []])] [1, 2] = ((1, [(1, 14), (2, 15)], ([], [])), 0) := by decide +kernel
theorem samD_say (A : Option Addr) : (samD A).map Dom.say = (samD none).map Dom.say := rfl
end Go.Proofs.YtdpbbhbegehcjaaDoor

namespace Go.Proofs.YtdpbbhbegehcjaaDoor
open Go.RowKit Go.Shelf
section
variable {α : Type} {F : Fence} {n : Nat} {P : Program} {g : Operand} {ps : Array Tmp} {assign body : Code} {Q : Exit → Act → World → Prop} {a : Act} {w : World} {gf : Nat} {lb : Array Value} {encs : α → Array Value} {Kp : World → World → Prop} {own : Bool} {G : List α → α → World → World → Prop} {S Sp : List α → Prop} {N : Nat}
theorem range_handsA (a₁ : α → Nat → Act) (hro : F.round = none) (h1 : 1 ≤ n) (hg : a.eval g = .func (.func gf) #[] lb) (hFg : F.fn gf) (eg : ∀ args w, (callFunc gf args).run P w = .ok (.enter gf args) w)
  (hseq : SeqHands F (n - 1) P gf lb encs Kp own G S Sp N w) (hKt : ∀ {A B C : World}, Kp A B → Kp B C → Kp A C) (hKb : ∀ (W : World) (o o' : Obj), W.heap[w.heap.size + 1]? = some o → o.isCells = false → Kp W (W.putObj (w.heap.size + 1) o')) (hps : ∀ x, (encs x).size = ps.size)
  (I : List α → World → Prop) (Ix : Code → List α → World → Prop) (hI : OwnFrom w.heap.size I) (hIx : ∀ c, OwnFrom w.heap.size (Ix c)) (h0 : I [] w)
  (A : List α → α → World → Prop) (Ap : List α → α → Nat → World → Prop) (hA : ∀ pre x p, OwnFrom w.heap.size (fun (_ : Unit) W => Ap pre x p W)) (hgive : ∀ pre x X W, I pre X → Below X.heap.size X W → (own = true → ∃ c t, X.heap[w.heap.size + 2]? = some (.cells c t (0, 0))) → G pre x X W → A pre x W)
  (hassign : ∀ (l : Nat) (pre : List α) (x : α) (W : World) (K : Act → World → Prop), w.heap.size < W.heap.size → A pre x W → (∀ p W', Below W.heap.size W W' → Kp W W' → Ap pre x p W' → K (a₁ x p) W') → assign.wpIn (F.inRound l) (n - 1 - 1) P (Exit.then K (fun _ _ _ => False)) { tmps := (ps.zip (encs x)).foldl (fun t (p, v) => t.setIfInBounds p v) a.tmps, defers := [] } W)
  (hbody : ∀ (l : Nat) (pre : List α) (x : α) (p : Nat) (W : World), (∃ r, W.heap[l]? = some (.loop r)) → Ap pre x p W → pre.length < N → body.wpIn (F.inRound l) (n - 1 - 1) P (handPost w.heap.size Kp own I Ix (pre ++ [x]) W) (a₁ x p) W)
  (hdone : ∀ (D : Nat) (xs : List α) (W : World), w.heap.size ≤ D → S xs → I xs W → W.heap[D]? = some (.deferred (some [])) → Q .normal { a with defers := { target := .collected D, args := #[] } :: a.defers } W)
  (hstop : ∀ (D : Nat) (c : Code) (pre : List α) (W : World), w.heap.size ≤ D → Sp pre → Ix c pre W → W.heap[D]? = some (.deferred (some [])) → c.wpIn F n P Q { a with defers := { target := .collected D, args := #[] } :: a.defers } W) :
  (Code.rangeFunc g ps assign body).wpIn F n P Q a w :=
 range_hands hro h1 hg hFg eg hseq hKt hKb hps I Ix hI hIx h0 A (fun pre x a' W => ∃ p, a' = a₁ x p ∧ Ap pre x p W) (fun pre x a' u W W' row ⟨p, h1, h2⟩ hg hr => ⟨p, h1, hA pre x p u W W' row h2 hg hr⟩) hgive (fun l pre x W K h1 h2 hK => hassign l pre x W K h1 h2 (fun p W' hb hk ha => hK _ W' hb hk ⟨p, rfl, ha⟩)) (fun l pre x a' W hr ⟨p, h1, h2⟩ hl => by subst h1; exact hbody l pre x p W hr h2 hl) hdone hstop
end
section
variable {α σ : Type} {w W : World} {ds : List Nat} {g : Operand} {ps : Array Tmp} {assign body : Code} {Q : Exit → Act → World → Prop} {a : Act} {n gf : Nat} {lb : Array Value} {encs : α → Array Value} {own : Bool} {G : List α → α → World → World → Prop} {S Sp : List α → Prop} {N n₀ Bn t0 : Nat} {s0 : List Value}
theorem hp_hands0 (Lf : σ → List Ent) (R : List α → σ → Prop) (Rx : Code → List α → σ → Prop) (iB : Nat) (Lg : α → List Ent) (Fx : List α → α → Prop) (a₁ : α → Act) (h1 : 1 ≤ n) (hg : a.eval g = .func (.func gf) #[] lb) (eg : ∀ args w, (callFunc gf args).run Tryd.prog w = .ok (.enter gf args) w)
  (hseq : SeqHands Fence.wide (n - 1) Tryd.prog gf lb encs (Keep1 n₀ Bn) own G S Sp N W) (hn : n₀ ≤ w.heap.size) (hps : ∀ x, (encs x).size = ps.size) {u : World} (s : σ) (h0 : R [] s) (hH : Hp w u W (Lf s) ds) (hiB : ∀ s, (Lf s)[iB]? = some (.blk Bn t0 s0))
  (hgive : ∀ (pre : List α) (x : α) (L : List Ent) (X Y : World), Hp w X X L ds → Below X.heap.size X Y → G pre x X Y → Fx pre x ∧ Hp w X Y (L ++ Lg x) ds ∧ ∀ e ∈ Lg x, ∀ g, e.dst = some g → X.heap.size ≤ g)
  (hassign : ∀ (l : Nat) (x : α) (W : World) (K : Act → World → Prop), K (a₁ x) W → assign.wpIn (Fence.wide.inRound l) (n - 1 - 1) Tryd.prog (Exit.then K (fun _ _ _ => False)) { tmps := (ps.zip (encs x)).foldl (fun t (p, v) => t.setIfInBounds p v) a.tmps, defers := [] } W)
  (hbody : ∀ (l : Nat) (pre : List α) (x : α) (e : Ent) (X : World) (s : σ), (∃ r, X.heap[l]? = some (.loop r)) → R pre s → Fx pre x → Hp w X X (e :: (Lf s ++ Lg x)) ds → pre.length < N → body.wpIn (Fence.wide.inRound l) (n - 1 - 1) Tryd.prog (hpHand w e Lf ds R Rx (pre ++ [x]) X) (a₁ x) X)
  (hdone : ∀ (D : Nat) (xs : List α) (X : World) (s : σ), S xs → R xs s → Hp w X X (Lf s) (D :: ds) → Q .normal { a with defers := { target := .collected D, args := #[] } :: a.defers } X)
  (hstop : ∀ (D : Nat) (c : Code) (pre : List α) (X : World) (s : σ), Sp pre → Rx c pre s → Hp w X X (Lf s) (D :: ds) → c.wpIn Fence.wide n Tryd.prog Q { a with defers := { target := .collected D, args := #[] } :: a.defers } X) :
  (Code.rangeFunc g ps assign body).wpIn Fence.wide n Tryd.prog Q a W := by
 have hB := hH.below.size
 have hds : ∀ D ∈ ds, D < W.heap.size := fun D hD => (Array.getElem?_eq_some_iff.1 (hH.marks D hD).2).1
 have hbn : Bn < W.heap.size := hH.lt iB (hiB s)
 have hb2 : ∀ e ∈ Lf s, e.dst ≠ some (W.heap.size + 2) := fun e he hd => by have := Ent.lt (hH.all e he) hd; omega
 refine range_hands rfl h1 hg trivial eg hseq keep1_t (fun X o o' hl hc => ?_) hps
  (fun pre X => ∃ s, R pre s ∧ Hp w X X (Lf s) ds ∧ ∀ e ∈ Lf s, own = true → e.dst ≠ some (W.heap.size + 2)) (fun c pre X => ∃ s, Rx c pre s ∧ Hp w X X (Lf s) ds)
  (fun _ _ _ _ ⟨s, h2, h3, h4⟩ hg hr => ⟨s, h2, h3.turn hg hr hB hds, h4⟩) (fun c => hp_own hB hds Lf (Rx c)) ⟨s, h0, hH.rebase, fun e he _ => hb2 e he⟩
  (fun pre x X => ∃ s e, R pre s ∧ Fx pre x ∧ Hp w X X (e :: (Lf s ++ Lg x)) ds ∧ (own = true → ∃ t c, e = .blk (W.heap.size + 2) t c)) (fun pre x a' X => ∃ s e, R pre s ∧ Fx pre x ∧ Hp w X X (e :: (Lf s ++ Lg x)) ds ∧ (own = true → ∃ t c, e = .blk (W.heap.size + 2) t c) ∧ a' = a₁ x) (fun pre x a' _ _ _ _ ⟨s, e, h2, h3, h4, h5, h6⟩ hg hr => ⟨s, e, h2, h3, h4.turn hg hr hB hds, h5, h6⟩)
  (fun pre x X Y ⟨s, h2, h3, h4⟩ hbl hown hG => ?_) (fun l pre x X K hXs ⟨s, e, h2, h3, h4, h5⟩ hK => ?_) ?_ ?_ ?_
 ·refine ⟨⟨rfl, rfl, rfl, by simp [World.putObj], fun k hk => World.putObj_heap_other (by omega)⟩, World.putObj_heap_other (by omega)⟩
 ·obtain ⟨f1, f2, f3⟩ := hgive pre x (Lf s) X Y h3 hbl hG
  cases hw : own with
  | false => exact ⟨s, _, h2, f1, f2.rebase.frontNil, fun e => by cases e⟩
  | true =>
   obtain ⟨c, t, hc⟩ := hown hw
   have hlt := (Array.getElem?_eq_some_iff.1 hc).1
   refine ⟨s, .blk (W.heap.size + 2) t c.toList, h2, f1, f2.rebase.front ((hbl.block _ hlt).trans hc) (by omega) (fun e he hd => ?_), fun _ => ⟨_, _, rfl⟩⟩
   rcases List.mem_append.1 he with he | he
   ·exact h4 e he hw hd
   ·have := f3 e he _ hd; omega
 ·exact hassign l x X K (hK _ _ (Below.refl _ X) ⟨Below.refl _ X, rfl⟩ ⟨s, e, h2, h3, h4, h5, rfl⟩)
 ·rintro l pre x a' X hrec ⟨s, e, h2, h3, h4, h5, rfl⟩ hlen
  refine wpIn_mono (hbody l pre x e X s hrec h2 h3 h4 hlen) ?_
  intro ex a' Y he
  cases ex with
  | normal =>
   obtain ⟨s', r2, r3⟩ := he
   have hil := (List.getElem?_eq_some_iff.1 (hiB s)).1
   have hk : (e :: (Lf s ++ Lg x))[iB + 1]? = some (.blk Bn t0 s0) := by
    rw [List.getElem?_cons_succ, List.getElem?_append_left hil]; exact hiB s
   refine ⟨r3.since.from _, hp_keep1 (i := iB + 1) hn h4 r3 hk (hiB s'), fun ho => ?_, s', r2, r3.rebase.sub (List.sublist_cons_self _ _), fun e' he' ho hd => ?_⟩
   ·obtain ⟨t, c, rfl⟩ := h5 ho
    exact (r3.blk 0 rfl).trans (h4.blk 0 rfl).symm
   ·obtain ⟨t, c, rfl⟩ := h5 ho
    exact (List.pairwise_cons.1 r3.apart).1 e' he' _ rfl hd
  | ret => obtain ⟨s', r2, r3⟩ := he; exact ⟨r3.since.from _, s', r2, r3.rebase⟩
  | exit id => obtain ⟨s', r2, r3⟩ := he; exact ⟨r3.since.from _, s', r2, r3.rebase⟩
  | goto t => obtain ⟨s', r2, r3⟩ := he; exact ⟨r3.since.from _, s', r2, r3.rebase⟩
  | panic c => exact he.elim
  | outgrown => exact he.elim
 ·rintro D xs X hD hS ⟨s, h2, h3, _⟩ hK
  exact hdone D xs X s hS h2 (h3.mark hK (by omega) (fun E hE => by have := hds E hE; omega))
 ·rintro D c pre X hD hS ⟨s, h2, h3⟩ hK
  exact hstop D c pre X s hS h2 (h3.mark hK (by omega) (fun E hE => by have := hds E hE; omega))
end
end Go.Proofs.YtdpbbhbegehcjaaDoor

namespace Go.Proofs.YtdpbbhbegehcjaaDoor
open Go.RowKit
namespace Lx
theorem wpIn_of_wp {P : Program} {l n : Nat} {o : Oper} {a : Act} {w : World} {K : Act → World → Prop} {Q Q' : Exit → Act → World → Prop} (hnd : ∀ c, o.op ≠ .defer c) (hQ : ∀ e a w, Q e a w → e = .normal) (h : o.wp P a w K Q) : o.wpIn (Fence.wide.inRound l) n P a w K Q' := by
 unfold Oper.wpIn
 refine ⟨fun _ _ => trivial, ?_⟩
 rw [Oper.semAt_eq _ _ _ hnd]
 unfold Oper.wp at h
 generalize (execOp a.eval o).run P w = r at *
 cases r with
 | ok x w' =>
  cases x with
  | value v => exact h
  | skip => exact h
  | defer d => exact h
  | enter f args =>
   refine ⟨fun hd => (by cases hd), CallsIn.inRound l (callsIn_wide.2 (Calls.mono h ?_))⟩
   intro e w'' he
   cases e with
   | returned v => exact he
   | panicked c => exact absurd (hQ _ _ _ he) (by simp)
   | outgrown => obtain ⟨a', w3, hq⟩ := he; exact absurd (hQ _ _ _ hq) (by simp)
  | row row args => exact ⟨fun hd => (by cases hd), fun c cs _ => let ⟨v, w2, r, s⟩ := h c cs; ⟨v, w2, r, stepsIn_wide.2 s⟩⟩
  | _ => exact h.elim
 | halt x w' =>
  cases x with
  | panic v => exact absurd (hQ _ _ _ h) (by simp)
  | _ => exact h.elim
theorem anyIn_of_any {P : Program} {l n : Nat} {ops : Array Oper} {Q : Exit → Act → World → Prop} (hnd : ∀ (i : Nat) (o : Oper), ops[i]? = some o → ∀ c, o.op ≠ .defer c) :
  ∀ (fuel : Nat) (listed : Array Bool) (a : Act) (w : World), wpAny P .any ops (fun e a w => e = .normal ∧ Q .normal a w) fuel listed a w → wpAnyIn (Fence.wide.inRound l) n P .any ops Q fuel listed a w := by
 intro fuel
 induction fuel with
 | zero => intro listed a w h; exact ⟨h.1, h.2.2⟩
 | succ fuel ih =>
  intro listed a w h
  refine ⟨fun hr => (h.1 hr).2, fun i hi => ?_⟩
  have h1 := h.2 i hi
  unfold wpOp at h1
  unfold wpOpIn
  cases ho : ops[i]? with
  | none => rw [ho] at h1; exact ih _ _ _ h1
  | some o =>
   rw [ho] at h1
   dsimp only at h1 ⊢
   split
   ·rename_i hw
    rw [if_pos hw] at h1
    rcases h1 with h2 | ⟨_, a', w', h2, _⟩
    ·exact Oper.wpIn_mono (fun a w => ih _ a w) (wpIn_of_wp (hnd i o ho) (fun e _ _ he => he.1) h2)
    ·cases h2
   ·rename_i hw
    rw [if_neg hw] at h1
    exact ⟨fun _ _ => trivial, ih _ _ _ h1⟩
def noDefer (l : List Oper) : Bool := l.all fun o => match o.op with | .defer _ => false | _ => true
end Lx
end Go.Proofs.YtdpbbhbegehcjaaDoor
