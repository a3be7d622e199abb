import Derived.Test.YtacmaamllpiloaaGreatZ47
namespace Go.Proofs.YtacmaamllpiloaaGreat
open Go Go.Wk
set_option maxHeartbeats 3200000
set_option maxRecDepth 100000
section
attribute [local irreducible] BrK Xq Xt Xv XI FnK XZ Xw XC XV opX opK Yq Yk eqR Yj Yo Ys WL WD W X3 XO Tr drewK Ya X4 Yw Yv X1 YB mp blk rob sl sep ex fact old
section
attribute [local irreducible] Y1 X2 objX Zw Zg Yr XT robjX rslkO Yg Qn ZL VE xaO xcl drM
section
variable {l : xcJ}
theorem xvH : Xb Tryz.prog 6 #[.agg (En.enc l).toArray] (xtU l)
  fun v l' => v = .bool true ∧ l' = [] := by
 intro F K hK
 simp only [ap] at hK ⊢
 obtain ⟨conf, progs, wins⟩ := l
 try simp only at hK ⊢
 refine Tr.fzSteps (xs := progs.d) fun hst => ?_
 have hmay := xt2 (l := ⟨conf, progs, wins⟩)
 try simp only at hmay
 by_cases hL : xg5 ⟨conf, progs, wins⟩
 ·have hc : okC (xc1 ⟨conf, progs, wins⟩ 1) := xuR hL hst
  have hpr : (xc1 ⟨conf, progs, wins⟩ 1).progs = J1 progs.d (xc1 ⟨conf, progs, wins⟩ 1).progs.length := xup
  have hw24 := hL.w
  have h9 := hL.c
  try simp only at hw24 h9
  have hnc := xla (u0 := .agg (En.enc conf).toArray) (s2 := progs.s) (hu := ⟨rfl⟩) hc hpr
  have hnr := xpx (u0 := .agg (En.enc conf).toArray) (s2 := progs.s) (hu := ⟨rfl⟩) hc hpr
  obtain ⟨i1, i2, i3⟩ := xmr hc
  clear hL hst hpr
  obtain ⟨C, hC⟩ : ∃ C, C = xc1 ⟨conf, progs, wins⟩ 1 := ⟨_, rfl⟩
  have hcf : C.conf = conf := by rw [hC]; rfl
  have hpt : C.part = 1 := by rw [hC]; rfl
  rw [← hC] at hc hnc hnr i1 i2 i3
  rw [hcf, hpt] at hnc hnr
  clear hC
  obtain ⟨cN, hN⟩ : ∃ cN, cN = Qn C := ⟨_, rfl⟩
  rw [← hN] at hnc hnr i1 i2 i3
  clear hN
  refine S.I fun u => ?_
  have hX := @pl6.eq_def; repeat' (first | rintro _ _ ⟨rfl, rfl⟩ | rintro _ _ ⟨bm, hbm, rfl, rfl⟩ | rintro _ _ ⟨r, w2, hr2, rfl, rfl⟩ | rintro _ _ ⟨b, w, gs, hr, rfl, rfl⟩ | (refine G.call 18 ?_; refine S.c ?_ (h := hmay)) | (refine G.call 19 ?_; refine S.c ?_ (h := hnc)) | (refine G.call 20 ?_; refine S.c ?_ (h := hnr)) | refine S.x ?_ | refine S.y ?_ ?_ | (refine G.call 17 ?_; refine S.c ?_ (h := xdS)) | intro hb | fail)
  ·exact S.L
  refine Tr.loopE (α := Nat × CM × CW × List Xe × RW) [2, 5] [1, 3, 4] (fun x => [.bool false, .int .i64 x.1]) (fun x => Xh b C x.2.1 x.2.2.1 x.2.2.2.1 ++ Xf r C x.2.1 x.2.2.2.2) (fun x => x.1 ≤ wins.d.length ∧ x.1 ≤ 12 ∧ Rel C x.2.1 x.2.2.1 x.2.2.2.1 ∧ Xl C x.2.1 x.2.2.2.2 ∧ Inv C x.2.1 ∧ JB x.2.1 ∧ x.2.1.evs.length ≤ x.1 * 60000) (fun x => 12 - x.1) (0, cN, w, gs, w2) S.T rfl ⟨Nat.zero_le _, Nat.zero_le _, hr, hr2, i1, i2, by rw [i3]; exact Nat.zero_le _⟩ fun x u hx => ?_
  clear hr hr2 i1 i2 i3 hnc hnr hmay
  obtain ⟨k, c, w, gs, w2⟩ := x
  obtain ⟨hk, hk2, hr, hr2, hi, h1, he⟩ := hx
  simp only at hk hk2 hr hr2 hi h1 he ⊢
  simp only [ap]
  by_cases hin : k < wins.d.length ∧ k < 12
  ·obtain ⟨hin, hin2⟩ := hin
   have hw := Xo (k := k) S.o
   obtain ⟨hm1, hm2⟩ := hw24 k hin hin2
   have har := xna (b := b) (r := r) (C := C) (C2 := C) (c := c) (c2 := c) (w := w) (gs := gs) (w2 := w2) (x := ix wins.d (k : Int)) hm1 hm2
   obtain ⟨j1, j2⟩ := xr7 (x := ix wins.d (k : Int)) hc hi h1
   have hra : Rel C (xcl c (ix wins.d (k : Int))) w gs := xs8 hr
   have hra2 : Xl C (xcl c (ix wins.d (k : Int))) w2 := xuT hr2
   have hea : (xcl c (ix wins.d (k : Int))).evs = c.evs := by rw [xcl.eq_def]
   obtain ⟨ca, hca⟩ : ∃ ca, ca = xcl c (ix wins.d (k : Int)) := ⟨_, rfl⟩
   rw [← hca] at har j1 j2 hra hra2 hea
   have hfa : few ca 500 := by unfold few; rw [hea]; omega
   obtain ⟨b1, b2, b3, _, _⟩ := xfq hc j1 j2
   have hcb := xfz (b := b) hc hra hfa
   have hrb := xnt (r := r) hc hra2 hfa
   obtain ⟨cb, hcbe⟩ : ∃ cb, cb = ZL C ca := ⟨_, rfl⟩
   rw [← hcbe] at b1 b2 b3 hcb hrb
   rw [hea] at b3
   have hlk := fun w gs w2 (h1 : Rel C cb w gs) (h2 : Xl C cb w2) => xcq (b := b) (r := r) hc h1 h2 b1.S S.o
   clear hca hcbe hea hra hra2 hr hr2 hi h1 j1 j2 hfa
   have hX := And.intro @pl6.eq_def hw; repeat' (first | rintro _ _ ⟨rfl, rfl⟩ | rintro _ _ ⟨w4, hr4, rfl, rfl⟩ | rintro _ _ ⟨w3, gs3, hr3, rfl, rfl⟩ | (refine G.call 21 ?_; refine S.c ?_ (h := har)) | (refine G.call 8 ?_; refine S.c ?_ (h := hcb)) | (refine G.call 26 ?_; refine S.c ?_ (h := hrb)) | (refine G.call 27 ?_; refine S.c ?_ (h := hlk _ _ _ hr3 hr4)) | refine S.x ?_ | intro hb | fail)
   refine Tr.loopE (α := Nat × CM × CW × List Xe × RW) [2, 6] [1, 3, 4, 5] (fun x => [.bool false, .int .i64 x.1]) (fun x => Xh b C x.2.1 x.2.2.1 x.2.2.2.1 ++ Xf r C x.2.1 x.2.2.2.2) (fun x => x.1 ≤ 401 ∧ Rel C x.2.1 x.2.2.1 x.2.2.2.1 ∧ Xl C x.2.1 x.2.2.2.2 ∧ Inv C x.2.1 ∧ JB x.2.1 ∧ x.2.1.evs.length ≤ k * 60000 + 500 + x.1 * 130) (fun x => 401 - x.1) (0, cb, w3, gs3, w4) S.T rfl ⟨by simp only; omega, hr3, hr4, b1, b2, by simp only; omega⟩ fun y u2 hy => ?_
   clear hr3 hr4 b1 b2 b3 hlk hcb hrb har
   obtain ⟨n, c1, w5, gs5, w6⟩ := y
   obtain ⟨hn, hr5, hr6, hi5, h5, he5⟩ := hy
   simp only at hn hr5 hr6 hi5 h5 he5 ⊢
   simp only [ap]
   have hwt := xao (b := b) hc hr5
   by_cases hn4 : n ≤ 400
   ·by_cases hwp : 0 < X0 c1
    ·have hw2 := Xo (k := n) S.o
     have hran := xgP (b := b) (cyc := X0 c1) hc hr5 (by unfold few; omega) hi5.dp hi5.p h5.le
     obtain ⟨t, t1, t2, t3, t4, t5, t6, t7⟩ := xiN hc hi5 h5 (cyc := X0 c1)
     have hrr : xcH c1 (X0 c1) = X0 c1 := by
      unfold xcH xc8
      rw [if_neg (Int.lt_irrefl _), if_neg S.o]
     have hwr := xnu hi5 S.o
     have hrl := xrp hi5
     rw [← t1, t2] at hran
     rw [t2] at t5 t6 t7
     rw [hrr] at t1
     obtain ⟨m, hrun⟩ := xdp hi5 S.o
     have hlk := fun w gs w2 (h1 : Rel C (VE C c1 t) w gs) (h2 : Xl C (VE C c1 t) w2) => xcq (b := b) (r := r) hc h1 h2 t5.S S.o
     have hcy : ∀ (j : Nat) (w2 : RW), j < t → Xl C (VE C c1 j) w2 → _ := fun j w2 hj hr => xnF (r := r) hc hr (by
      have := (xd4 hc hi5 h5 hrun j S.o).2
      unfold few; rw [this]; omega) (VO hc hi5 h5 j).1.S (VO hc hi5 h5 j).1.p (VO hc hi5 h5 j).2.le
     obtain ⟨f, hf⟩ : ∃ f, f = VE C c1 := ⟨_, rfl⟩
     have hf0 : f 0 = c1 := by rw [hf]; exact VE.eq_1 _ _
     have hf1 : ∀ j, Q0 C (f j) = f (j + 1) := fun j => by rw [hf]; exact (VE.eq_2 _ _ _).symm
     rw [← hf] at hran t4 t5 t6 t7 hlk hcy
     simp only [hf1] at hcy
     clear hf hrun hf1
     subst hf0
     have ht1 : 1 ≤ (t : Int) := by omega
     have htb : (t : Int) ≤ 1000000000000 := by omega
     clear t2 t3 hrr hi5 h5
     have hX := And.intro @pl6.eq_def hw2; repeat' (first | rintro _ _ ⟨rfl, rfl⟩ | rintro _ _ ⟨w7, gs7, hr7, rfl, rfl⟩ | (refine G.call 9 ?_; refine S.c ?_ (h := hwt)) | (refine G.call 11 ?_; refine S.c ?_ (h := hran)) | refine S.x ?_ | fail)
     refine Tr.loopE (α := Nat × RW) [2, 8] [1, 3, 4, 5, 6, 7] (fun x => [.bool false, .int .i64 x.1]) (fun x => Xf r C (f x.1) x.2) (fun x => x.1 ≤ t ∧ Xl C (f x.1) x.2) (fun x => t - x.1) (0, w6) S.T rfl ⟨Nat.zero_le _, hr6⟩ fun z u3 hz => ?_
     obtain ⟨j, w8⟩ := z
     obtain ⟨hj, hr8⟩ := hz
     simp only at hj hr8 ⊢
     simp only [ap]
     by_cases hjt : j < t
     ·have hw3 := Xo (k := j) S.o
      have hcj := hcy j w8 hjt hr8
      rw [t4 j hjt] at hcj
      have hX := And.intro @pl6.eq_def hw3; repeat' (first | rintro _ _ ⟨w9, hr9, rfl, rfl⟩ | (refine G.call 28 ?_; refine S.c ?_ (h := hcj)) | refine S.x ?_ | fail)
      all_goals exact S.R ((j + 1, w9) : Nat × RW)
     ·have hje : j = t := by omega
      subst hje
      have hlj := hlk _ _ _ hr7 hr8
      have hX := And.intro @pl6.eq_def hw2; repeat' (first | rintro _ _ ⟨rfl, rfl⟩ | (refine G.call 27 ?_; refine S.c ?_ (h := hlj)) | refine S.x ?_ | fail)
      all_goals exact S.R ((n + 1, f j, w7, gs7, w8) : Nat × CM × CW × List Xe × RW)
    ·have hd := xoJ (o := (ix wins.d (k : Int)).out) hc hi5 h5
     have hr9 : Rel C (drM c1 (ix wins.d (k : Int)).out) w5 gs5 := xoc hr5
     have hr10 : Xl C (drM c1 (ix wins.d (k : Int)).out) w6 := xtv hr6
     have hed : (drM c1 (ix wins.d (k : Int)).out).evs = c1.evs := by rw [drM.eq_def]
     have he9 : (drM c1 (ix wins.d (k : Int)).out).evs.length ≤ (k + 1) * 60000 := by rw [hed]; omega
     obtain ⟨hd1, hd2⟩ := hd
     have hX := And.intro @pl6.eq_def hw; repeat' (first | rintro _ _ ⟨rfl, rfl⟩ | rintro _ _ ⟨ds, dm, hdm, rfl, rfl⟩ | (refine G.call 9 ?_; refine S.c ?_ (h := hwt)) | (refine G.call 24 ?_; refine S.c ?_ (h := xf0)) | (refine G.call 29 ?_; refine S.c ?_ (h := xe7)) | refine S.x ?_ | (refine G.call 13 ?_; refine S.c ?_ (h := WW)) | intro hb | fail)
     all_goals
      have hX := @drM.eq_def
      exact S.R ((k + 1, drM c1 (ix wins.d (k : Int)).out, w5, gs5, w6) : Nat × CM × CW × List Xe × RW)
   ·have hd := xoJ (o := (ix wins.d (k : Int)).out) hc hi5 h5
    have hr9 : Rel C (drM c1 (ix wins.d (k : Int)).out) w5 gs5 := xoc hr5
    have hr10 : Xl C (drM c1 (ix wins.d (k : Int)).out) w6 := xtv hr6
    have hed : (drM c1 (ix wins.d (k : Int)).out).evs = c1.evs := by rw [drM.eq_def]
    have he9 : (drM c1 (ix wins.d (k : Int)).out).evs.length ≤ (k + 1) * 60000 := by rw [hed]; omega
    obtain ⟨hd1, hd2⟩ := hd
    have hX := And.intro @pl6.eq_def hw; repeat' (first | rintro _ _ ⟨rfl, rfl⟩ | rintro _ _ ⟨ds, dm, hdm, rfl, rfl⟩ | (refine G.call 24 ?_; refine S.c ?_ (h := xf0)) | (refine G.call 29 ?_; refine S.c ?_ (h := xe7)) | refine S.x ?_ | (refine G.call 13 ?_; refine S.c ?_ (h := WW)) | intro hb | fail)
    all_goals
     have hX := @drM.eq_def
     exact S.R ((k + 1, drM c1 (ix wins.d (k : Int)).out, w5, gs5, w6) : Nat × CM × CW × List Xe × RW)
  ·have hlk := xcq (b := b) (r := r) hc hr hr2 hi.S S.o
   have hX := @pl6.eq_def; repeat' (first | rintro _ _ ⟨rfl, rfl⟩ | (refine G.call 27 ?_; refine S.c ?_ (h := hlk)) | refine S.x ?_ | refine S.y ?_ ?_ | intro hb | fail)
   all_goals exact S.L
 ·clear hst
  refine S.I fun u => ?_
  have hX := @pl6.eq_def; repeat' (first | rintro _ _ ⟨rfl, rfl⟩ | rintro _ _ ⟨bm, hbm, rfl, rfl⟩ | (refine G.call 18 ?_; refine S.c ?_ (h := hmay)) | refine S.x ?_ | refine S.y ?_ ?_ | (refine G.call 17 ?_; refine S.c ?_ (h := xdS)) | intro hb | fail)
  all_goals first
   | exact absurd (hbm ‹_›) hL
   | exact S.L
end
end
end
end Go.Proofs.YtacmaamllpiloaaGreat
