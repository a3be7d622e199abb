import Derived.Test.YtacmaamllpiloaaGreatZ47
namespace Go.Proofs.YtacmaamllpiloaaGreat
open Go Go.Wk
set_option maxHeartbeats 3200000
set_option maxRecDepth 100000
theorem re_arr {c : CM} {p : Int} {x : WinL} : (arrM c x).re p = arrM (c.re p) x := rfl
theorem re_dr {c : CM} {p o : Int} : (drM c o).re p = drM (c.re p) o := rfl
theorem re_len {c : CM} {p : Int} : (c.re p).evs.length = c.evs.length := List.length_map _
theorem re_r1 {c : CM} {p : Int} (h : okR1 c) : okR1 (c.re p) := h
theorem re_evs {c : CM} {p : Int} : (c.re p).evs = c.evs.map (EvC.re p) := rfl
theorem re_cf {C : CC} {p : Int} : (C.re p).conf = C.conf ∧ (C.re p).part = p ∧ (C.re p).progs = C.progs := ⟨rfl, rfl, rfl⟩
theorem dr_f {c : CM} {o : Int} : (drM c o).mode = c.mode ∧ (drM c o).win = c.win ∧ (drM c o).tb = c.tb ∧ (drM c o).mem = c.mem ∧ (drM c o).pts = drainA c.pts o ∧ (drM c o).obs = c.obs ∧ (drM c o).slk = c.slk ∧ (drM c o).evs = c.evs := ⟨rfl, rfl, rfl, rfl, rfl, rfl, rfl, rfl⟩
theorem dr_f2 {c : CM} {o p : Int} : ((drM c o).re p).mode = (c.re p).mode ∧ ((drM c o).re p).win = (c.re p).win ∧ ((drM c o).re p).tb = (c.re p).tb ∧ ((drM c o).re p).mem = (c.re p).mem ∧ ((drM c o).re p).pts = drainA (c.re p).pts o ∧ ((drM c o).re p).obs = (c.re p).obs ∧ ((drM c o).re p).slk = (c.re p).slk ∧ ((drM c o).re p).evs = (c.re p).evs := ⟨rfl, rfl, rfl, rfl, rfl, rfl, rfl, rfl⟩
attribute [local irreducible] BrK GenK EGenK EUnitK CallK FnK CallV GuardO GuardC CondW opX opK opKc chkR eqR seqK blkK endL WL WD W LoopW BinK Tr drewK resL PickK NotK NilK ExtrK getK Instr.storeAt Instr.loadAt Instr.fieldAt Instr.indexAt Instr.lookup Instr.mapUpdate Instr.box Instr.alloc Instr.build Instr.buildSlice Instr.makeSlice Instr.makeMap Instr.sliceAt Instr.field Instr.index Instr.makeInterface Instr.typeAssert Builtin.len_ Builtin.append_ Builtin.cap_ Builtin.min_ Builtin.max_ Builtin.copy_ Builtin.clear_ convert binOp mp blk rob sl sep ex fact old
attribute [local irreducible] memX portX objX slkO taskA rmemX rportX robjX rslkO refA newM beginM cycTo ranA arrM drM CM.re CC.re
section
variable {l : LifeD} {part : Int}
theorem calone_ok : Trip Tryz.prog 5 [.agg (En.enc l).toArray, .int .i64 part].toArray (lifeL l)
  fun v l' => v = .bool true ∧ l' = [] := by
 intro F K hK
 simp only [List.cons_append, List.nil_append] at hK ⊢
 obtain ⟨conf, progs, wins⟩ := l
 try simp only at hK ⊢
 refine Tr.fzSteps (xs := progs.d) fun hst => ?_
 have hmay := may_ok (l := ⟨conf, progs, wins⟩)
 try simp only at hmay
 by_cases hL : okLife ⟨conf, progs, wins⟩
 ·have hc : okC (lifeC ⟨conf, progs, wins⟩ part) := life_c hL hst
  have hpr : (lifeC ⟨conf, progs, wins⟩ part).progs = progsM progs.d (lifeC ⟨conf, progs, wins⟩ part).progs.length := life_p
  have hw24 := hL.w
  have h9 := hL.c
  have h10 := hL.p.c1
  try simp only at hw24 h9 h10
  clear hL hst
  obtain ⟨C, hC⟩ : ∃ C, C = lifeC ⟨conf, progs, wins⟩ part := ⟨_, rfl⟩
  have hcf : C.conf = conf := by rw [hC]; rfl
  have hpt : C.part = part := by rw [hC]; rfl
  rw [← hC] at hc hpr
  clear hC
  obtain ⟨r1, r2, r3⟩ := re_cf (C := C) (p := 1)
  have hnc := cnew_ok (C := C) (u0 := .agg (En.enc conf).toArray) (s2 := progs.s) (hu := ⟨by rw [hcf]⟩) hc hpr
  have hD : okC (C.re 1) := okC_re hc
  have hnd := cnew_ok (C := C.re 1) (u0 := .agg (En.enc conf).toArray) (s2 := progs.s) (hu := ⟨by rw [r1, hcf]⟩) hD (by rw [r3]; exact hpr)
  have hnr := rcnew_ok (C := C.re 1) (u0 := .agg (En.enc conf).toArray) (s2 := progs.s) (hu := ⟨by rw [r1, hcf]⟩) hD (by rw [r3]; exact hpr)
  obtain ⟨i1, i2, i3⟩ := new_inv hc
  have i4 := new_part (C := C)
  rw [hpt] at i4
  have hrm : (newSl C.conf).room = C.conf.cap := by unfold newSl; simp only; rw [hcf, if_pos (by omega)]
  rw [hcf, hpt] at hnc
  rw [re_new, r1, r2, hcf] at hnd hnr
  clear hpr r2 r3
  obtain ⟨cN, hN⟩ : ∃ cN, cN = newM C := ⟨_, rfl⟩
  rw [← hN] at hnc hnd hnr i1 i2 i3 i4
  clear hN
  obtain ⟨D, hDe⟩ : ∃ D, D = C.re 1 := ⟨_, rfl⟩
  rw [← hDe] at hD hnd hnr r1
  rw [hcf] at r1
  (refine Tr.enter (rs := [.tmp 4]) mixed fn5 rfl (by simp +arith [Tryz.ntmps5]) fun u => ?_; simp only [cd5, Tryz.f5])
  have hX := @pl5.eq_def; repeat' (first | rintro _ _ ⟨rfl, rfl⟩ | rintro _ _ ⟨bm, hbm, rfl, rfl⟩ | rintro _ _ ⟨r, w2, hr2, rfl, rfl⟩ | (refine G.call 18 ?_; refine S.c ?_ (h := hmay)) | (refine G.call 19 ?_; refine S.c ?_ (h := hnc); rintro _ _ ⟨b, w, gs, hr, rfl, rfl⟩) | (refine G.call 19 ?_; refine S.c ?_ (h := hnd); rintro _ _ ⟨d, wd, gsd, hrd, rfl, rfl⟩) | (refine G.call 20 ?_; refine S.c ?_ (h := hnr)) | refine S.x ?_ | refine S.y ?_ ?_ | (refine G.call 17 ?_; refine S.c ?_ (h := works24_ok)) | intro hb | fail)
  ·exact S.L
  refine Tr.loopE (α := Nat × CM × CW × List TaskG × CW × List TaskG × CM) [8] [1, 2, 4, 5, 6, 7] (fun x => [.int .i64 x.1]) (fun x => cellL b C x.2.1 x.2.2.1 x.2.2.2.1 ++ cellL d D (x.2.1.re 1) x.2.2.2.2.1 x.2.2.2.2.2.1 ++ rcellL r D x.2.2.2.2.2.2 w2) (fun x => x.1 ≤ wins.d.length ∧ x.1 ≤ 12 ∧ Rel C x.2.1 x.2.2.1 x.2.2.2.1 ∧ Rel D (x.2.1.re 1) x.2.2.2.2.1 x.2.2.2.2.2.1 ∧ Inv C x.2.1 ∧ okR1 x.2.1 ∧ x.2.1.evs.length ≤ x.1 * 60000 ∧ x.2.1.re part = x.2.1) (fun x => 12 - x.1) (0, cN, w, gs, wd, gsd, cN.re 1) S.T rfl ⟨Nat.zero_le _, Nat.zero_le _, hr, hrd, i1, i2, by rw [i3]; exact Nat.zero_le _, i4⟩ fun x u hx => ?_
  clear hr hrd hr2 i1 i2 i3 i4 hnc hnd hnr hmay
  obtain ⟨k, c, w, gs, wd, gsd, cr⟩ := x
  obtain ⟨hk, hk2, hr, hrd, hi, h1, he, hpa⟩ := hx
  simp only at hk hk2 hr hrd hi h1 he hpa ⊢
  simp only [List.cons_append, List.nil_append]
  by_cases hin : k < wins.d.length ∧ k < 12
  ·obtain ⟨hin, hin2⟩ := hin
   have hw := wrapSucc (k := k) (by omega)
   obtain ⟨hm1, hm2⟩ := hw24 k hin hin2
   have har := arrive_ok (b := b) (r := r) (C := C) (C2 := D) (c := c) (c2 := cr) (w := w) (gs := gs) (w2 := w2) (x := ix wins.d (k : Int)) hm1 hm2
   have har2 := fun cr => arrive_ok (b := d) (r := r) (C := D) (C2 := D) (c := c.re 1) (c2 := cr) (w := wd) (gs := gsd) (w2 := w2) (x := ix wins.d (k : Int)) hm1 hm2
   obtain ⟨j1, j2⟩ := arr_inv (x := ix wins.d (k : Int)) hc hi h1
   have hra : Rel C (arrM c (ix wins.d (k : Int))) w gs := rel_arr hr
   have hrd2 : Rel D (arrM (c.re 1) (ix wins.d (k : Int))) wd gsd := rel_arr hrd
   have hea : (arrM c (ix wins.d (k : Int))).evs = c.evs := by rw [arrM.eq_def]
   have hpa2 : (arrM c (ix wins.d (k : Int))).re part = arrM c (ix wins.d (k : Int)) := by rw [re_arr, hpa]
   rw [← re_arr] at har2 hrd2
   obtain ⟨ca, hca⟩ : ∃ ca, ca = arrM c (ix wins.d (k : Int)) := ⟨_, rfl⟩
   rw [← hca] at har har2 j1 j2 hra hrd2 hea hpa2
   obtain ⟨cq, hcq⟩ : ∃ cq, cq = arrM cr (ix wins.d (k : Int)) := ⟨_, rfl⟩
   rw [← hcq] at har
   have har3 := har2 cq
   obtain ⟨cz, hcz⟩ : ∃ cz, cz = arrM cq (ix wins.d (k : Int)) := ⟨_, rfl⟩
   rw [← hcz] at har3
   have hfa : few ca 500 := by unfold few; rw [hea]; omega
   have hfd : few (ca.re 1) 500 := by unfold few; rw [re_len, hea]; omega
   obtain ⟨b1, b2, b3, b4, b5⟩ := begin_inv hc j1 j2
   have hcb := cbegin_ok (b := b) hc hra hfa
   have hdb := cbegin_ok (b := d) hD hrd2 hfd
   have hbe : beginM D (ca.re 1) = (beginM C ca).re 1 := by rw [hDe]; exact re_begin
   rw [hbe] at hdb
   rw [← hpt] at hpa2
   have hpb := (re_part hpa2).1
   obtain ⟨cb, hcbe⟩ : ∃ cb, cb = beginM C ca := ⟨_, rfl⟩
   rw [← hcbe] at b1 b2 b3 b4 hcb hdb hpb
   rw [hea] at b3
   rw [hrm, hcf] at b4
   have hpf := (re_part hpb).2
   have hmo := fun t (hv : ∀ j : Nat, j < t → cycV (cycTo C cb j) = true) cyc hw hcy => runs_more hc b1 b2 hv (cyc := cyc) hw hcy
   have hen := fun t hw => runs_end hc b1 b2 (t := t) hw
   have hii := cycTo_inv hc b1 b2
   have hon := fun a t ha hb ea eb => ends_once (C := C) (c := cb) (a := a) (b := t) ha hb ea eb
   obtain ⟨f, hf⟩ : ∃ f, f = cycTo C cb := ⟨_, rfl⟩
   have hf0 : f 0 = cb := by rw [hf]; exact cycTo.eq_1 _ _
   rw [← hf] at hmo hen hii hpf hon
   clear hf hca hcq hcz hcbe hea hra hrd2 hr hrd hi h1 j1 j2 hfa hfd hpa hpa2 hpb har2 hbe b1 b2 b5
   subst hf0
   have hX := And.intro @pl5.eq_def hw; repeat' (first | rintro _ _ ⟨rfl, rfl⟩ | (refine G.call 21 ?_; first | refine S.c ?_ (h := har) | refine S.c ?_ (h := har3)) | (refine G.call 8 ?_; refine S.c ?_ (h := hcb); rintro _ _ ⟨w3, gs3, hr3, rfl, rfl⟩) | (refine G.call 8 ?_; refine S.c ?_ (h := hdb); rintro _ _ ⟨w4, gs4, hr4, rfl, rfl⟩) | refine S.x ?_ | intro hb | fail)
   refine Tr.loopE (α := Nat × Nat × CW × List TaskG) [9] [1, 2, 4, 5, 6, 7, 8] (fun x => [.int .i64 x.1]) (fun x => cellL b C (f x.2.1) x.2.2.1 x.2.2.2) (fun x => x.1 ≤ 401 ∧ Rel C (f x.2.1) x.2.2.1 x.2.2.2 ∧ (∀ j : Nat, j < x.2.1 → cycV (f j) = true) ∧ (f x.2.1).evs.length ≤ k * 60000 + 500 + x.1 * 130 ∧ roomM (f x.2.1) ≤ 400 - x.1) (fun x => 401 - x.1) (0, 0, w3, gs3) S.T rfl ⟨by simp only; omega, hr3, fun j hj => absurd hj (Nat.not_lt_zero _), by simp only; omega, by simp only; omega⟩ fun y u2 hy => ?_
   clear hr3 hcb hdb har har3
   obtain ⟨n, t, w5, gs5⟩ := y
   obtain ⟨hn, hr5, hv5, he5, hs5⟩ := hy
   simp only at hn hr5 hv5 he5 hs5 ⊢
   simp only [List.cons_append, List.nil_append]
   have hwt := cwant_ok (b := b) hc hr5
   obtain ⟨q1, q2⟩ := hii t
   have hr0 := room_in q1
   by_cases hwp : 0 < wantM (f t)
   ·have hwr := want_room q1 (by omega)
    have hn4 : n ≤ 400 := by omega
    have hw2 := wrapSucc (k := n) (by omega)
    have hran := cran_ok (b := b) (cyc := wantM (f t)) hc hr5 (by unfold few; omega) q1.dp q1.p q2.le
    obtain ⟨t2, e1, e2, e3, e4⟩ := hmo t hv5 (wantM (f t)) (by omega) (by omega)
    rw [e1] at hran
    clear e1 q1 q2
    have hX := And.intro @pl5.eq_def hw2; repeat' (first | rintro _ _ ⟨rfl, rfl⟩ | rintro _ _ ⟨w7, gs7, hr7, rfl, rfl⟩ | (refine G.call 9 ?_; refine S.c ?_ (h := hwt)) | (refine G.call 11 ?_; refine S.c ?_ (h := hran)) | refine S.x ?_ | fail)
    all_goals exact S.R ((n + 1, t2, w7, gs7) : Nat × Nat × CW × List TaskG)
   ·have hw0 : wantM (f t) = 0 := by have := want_in q1 q2; omega
    rw [hw0] at hwt
    have hn4 : n ≤ 400 := by omega
    have het := hen t hwp
    clear hwp
    have hX := @pl5.eq_def; repeat' (first | rintro _ _ ⟨rfl, rfl⟩ | (refine G.call 9 ?_; refine S.c ?_ (h := hwt)) | refine S.x ?_ | fail)
    refine Tr.loopE (α := Nat × Nat × CW × List TaskG) [10] [1, 2, 4, 5, 6, 7, 8] (fun x => [.int .i64 x.1]) (fun x => cellL d D ((f x.2.1).re 1) x.2.2.1 x.2.2.2) (fun x => x.1 ≤ 401 ∧ Rel D ((f x.2.1).re 1) x.2.2.1 x.2.2.2 ∧ (∀ j : Nat, j < x.2.1 → cycV (f j) = true) ∧ (f x.2.1).evs.length ≤ k * 60000 + 500 + x.1 * 130 ∧ roomM (f x.2.1) ≤ 400 - x.1) (fun x => 401 - x.1) (0, 0, w4, gs4) S.T rfl ⟨by simp only; omega, hr4, fun j hj => absurd hj (Nat.not_lt_zero _), by simp only; omega, by simp only; omega⟩ fun z u3 hz => ?_
    clear hr4 hwt
    obtain ⟨n2, t3, w8, gs8⟩ := z
    obtain ⟨hn2, hr8, hv8, he8, hs8⟩ := hz
    simp only at hn2 hr8 hv8 he8 hs8 ⊢
    simp only [List.cons_append, List.nil_append]
    have hwd := cwant_ok (b := d) hD hr8
    rw [re_want] at hwd
    obtain ⟨q3, q4⟩ := hii t3
    have hr9 := room_in q3
    by_cases hwp : 0 < wantM (f t3)
    ·have hwr := want_room q3 (by omega)
     have hn9 : n2 ≤ 400 := by omega
     have hw2 := wrapSucc (k := n2) (by omega)
     have q5 : Inv D ((f t3).re 1) := by rw [hDe]; exact inv_re q3
     have hran := cran_ok (b := d) (cyc := 1) hD hr8 (by unfold few; rw [re_len]; omega) q5.dp q5.p (re_r1 q4).le
     obtain ⟨t4, e1, e2, e3, e4⟩ := hmo t3 hv8 1 (by omega) (by omega)
     have e5 : ranA D ((f t3).re 1) 1 = (f t4).re 1 := by rw [hDe, re_ranA, e1]
     rw [e5] at hran
     clear e1 e5 q3 q4 q5
     have hX := And.intro @pl5.eq_def hw2; repeat' (first | rintro _ _ ⟨rfl, rfl⟩ | rintro _ _ ⟨w7, gs7, hr7, rfl, rfl⟩ | (refine G.call 9 ?_; refine S.c ?_ (h := hwd)) | (refine G.call 11 ?_; refine S.c ?_ (h := hran)) | refine S.x ?_ | fail)
     all_goals exact S.R ((n2 + 1, t4, w7, gs7) : Nat × Nat × CW × List TaskG)
    ·have hw0 : wantM (f t3) = 0 := by have := want_in q3 q4; omega
     rw [hw0] at hwd
     have hn9 : n2 ≤ 400 := by omega
     have htt := hon t3 t hv8 hv5 (hen t3 hwp) het
     subst htt
     have hd := dr_inv (o := (ix wins.d (k : Int)).out) hc q1 q2
     have hrx : Rel C (drM (f t3) (ix wins.d (k : Int)).out) w5 gs5 := rel_dr hr5
     have hry : Rel D ((drM (f t3) (ix wins.d (k : Int)).out).re 1) w8 gs8 := by rw [re_dr]; exact rel_dr hr8
     have hed : (drM (f t3) (ix wins.d (k : Int)).out).evs = (f t3).evs := by rw [drM.eq_def]
     have he9 : (drM (f t3) (ix wins.d (k : Int)).out).evs.length ≤ (k + 1) * 60000 := by rw [hed]; omega
     have hpz : (drM (f t3) (ix wins.d (k : Int)).out).re part = drM (f t3) (ix wins.d (k : Int)).out := by rw [re_dr, ← hpt, hpf]
     have x1 := dr_f (c := f t3) (o := (ix wins.d (k : Int)).out)
     have x2 := dr_f2 (c := f t3) (p := 1) (o := (ix wins.d (k : Int)).out)
     obtain ⟨hd1, hd2⟩ := hd
     obtain ⟨cE, hcE⟩ : ∃ cE, cE = drM (f t3) (ix wins.d (k : Int)).out := ⟨_, rfl⟩
     rw [← hcE] at x1 x2 hd1 hd2 hrx hry he9 hpz
     clear hw0 hwp het hon hen hmo hed hcE hii hpf q1 q2 q3 q4 hr5 hr8 hv5 hv8 he5 he8 hs5 hs8
     have hX := And.intro @pl5.eq_def hw; repeat' (first | rintro _ _ ⟨rfl, rfl⟩ | rintro _ _ ⟨ds, dm, hdm, rfl, rfl⟩ | (refine G.call 9 ?_; refine S.c ?_ (h := hwd)) | (refine G.call 24 ?_; refine S.c ?_ (h := xdrain_ok)) | refine S.x ?_ | (refine G.call 13 ?_; refine S.c ?_ (h := cports_ok)) | intro hb | fail)
     all_goals
      have hX := And.intro x1 x2
      clear x1 x2
      exact S.R ((k + 1, cE, w5, gs5, w8, gs8, cz) : Nat × CM × CW × List TaskG × CW × List TaskG × CM)
  ·have hn1 : c.evs.length ≤ 1000000000 := by omega
   have hn2 : (c.re 1).evs.length ≤ 1000000000 := by rw [re_len]; exact hn1
   have hpq := part_all hpa
   have m1 : (c.re 1).mode = c.mode := re1
   have m2 : (c.re 1).win = c.win := re2
   have hE1 := cevents_ok (b := b) (C := C) (w := w) (mode := c.mode) (win := c.win) hn1
   have hE2 := cevents_ok (b := d) (C := D) (w := wd) (mode := (c.re 1).mode) (win := (c.re 1).win) hn2
   clear hr hrd hi h1 hpa hw24
   have hX := @pl5.eq_def; repeat' (first | (refine G.call 12 ?_; refine S.c ?_ (h := hE1); rintro _ _ ⟨sx, rfl, rfl⟩) | (refine G.call 12 ?_; refine S.c ?_ (h := hE2); rintro _ _ ⟨sy, rfl, rfl⟩) | refine S.x ?_ | refine S.y ?_ ?_ | intro hb | fail)
   all_goals
    clear hE1 hE2
    refine Tr.loopE (α := Nat) [4, 13] [1, 5, 7, 11, 12] (fun k => [.bool false, .int .i64 k]) (fun k => [sl false sx.v (upto (EvC.re 1) c.evs k)]) (fun k => k ≤ c.evs.length) (fun k => c.evs.length - k) 0 (by rw [upto_zero]; exact S.T) rfl (Nat.zero_le _) fun j u5 hj => ?_
    simp only [List.cons_append, List.nil_append]
    by_cases hjn : j < c.evs.length
    ·have hw := wrapSucc (k := j) (by omega)
     have hl := upto_len (f := EvC.re 1) (xs := c.evs) (k := j)
     have hi := upto_ix (f := EvC.re 1) (xs := c.evs) (k := j) hjn
     have hs := upto_set (f := EvC.re 1) (xs := c.evs) (k := j) hjn
     have hpj : (ix c.evs (j : Int)).part = part := hpq _ (List.mem_of_getElem? (ix_some (by omega) (by omega)))
     have hg : (upto (EvC.re 1) c.evs j)[j]? = some (ix c.evs (j : Int)) := by
      rw [← hi]
      have := ix_some (xs := upto (EvC.re 1) c.evs j) (k := (j : Int)) (by omega) (by rw [hl]; omega)
      rwa [Int.toNat_natCast] at this
     have hX := And.intro @pl5.eq_def (And.intro hw (And.intro hl (And.intro hi hpj))); repeat' (first | refine S.x ?_ | intro hb | fail)
     all_goals
      refine A.stF (i := j) (j := 0) (vs := [.int .i64 1]) (y := ix c.evs (j : Int)) (EvC.re 1 (ix c.evs (j : Int))) hg rfl rfl rfl (by decide) rfl ?_
      rw [hs]
      have hX := And.intro @pl5.eq_def hw; repeat' (first | refine S.x ?_ | fail)
      exact S.R (j + 1)
    ·have hje : j = c.evs.length := by omega
     subst hje
     have hex : upto (EvC.re 1) c.evs c.evs.length = (c.re 1).evs := upto_all.trans re_evs.symm
     have hl2 := upto_len (f := EvC.re 1) (xs := c.evs) (k := c.evs.length)
     have hsm := same24e_ok (a := sx) (b := sy) hex (by rw [upto_len]; exact hn1)
     have hX := And.intro @pl5.eq_def (And.intro @m1 (And.intro @m2 hl2)); repeat' (first | (refine G.call 25 ?_; refine S.c ?_ (h := hsm)) | refine S.x ?_ | (refine G.call 16 ?_; refine S.c ?_ (h := cmode_ok)) | (refine G.call 15 ?_; refine S.c ?_ (h := cwin_ok)) | rintro _ _ ⟨rfl, rfl⟩ | fail)
     all_goals exact S.L
 ·clear hst
  (refine Tr.enter (rs := [.tmp 4]) mixed fn5 rfl (by simp +arith [Tryz.ntmps5]) fun u => ?_; simp only [cd5, Tryz.f5])
  have hX := @pl5.eq_def; repeat' (first | rintro _ _ ⟨rfl, rfl⟩ | rintro _ _ ⟨bm, hbm, rfl, rfl⟩ | (refine G.call 18 ?_; refine S.c ?_ (h := hmay)) | refine S.x ?_ | refine S.y ?_ ?_ | (refine G.call 17 ?_; refine S.c ?_ (h := works24_ok)) | intro hb | fail)
  all_goals first
   | exact absurd (hbm (by assumption)) hL
   | exact S.L
end
end Go.Proofs.YtacmaamllpiloaaGreat
