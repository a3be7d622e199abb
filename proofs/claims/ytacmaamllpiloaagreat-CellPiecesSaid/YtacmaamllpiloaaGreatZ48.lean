import Derived.Test.YtacmaamllpiloaaGreatZ47
namespace Go.Proofs.YtacmaamllpiloaaGreat
open Go Go.Wk Tryz
set_option maxHeartbeats 3200000
set_option maxRecDepth 100000
section
variable {C : CC} {c : CM} {p : Int}
theorem xBM {cyc : Int} (hw : 1 ≤ X0 c) (hcy : 1 ≤ cyc) : xcH c cyc = (if X0 c < cyc then X0 c else cyc) ∧ 1 ≤ xcH c cyc := by
 unfold xcH xc8
 split <;> split <;> omega
theorem xBW (hc : okC C) (hi : Inv C c) (h1 : JB c) {t : Nat} (hv : ∀ j : Nat, j < t → xd7 (VE C c j) = true) {cyc : Int} (hw : 1 ≤ X0 (VE C c t)) (hcy : 1 ≤ cyc) :
  ∃ t2 : Nat, xaO C (VE C c t) cyc = VE C c t2 ∧ (∀ j : Nat, j < t2 → xd7 (VE C c j) = true) ∧ xb1 (VE C c t2) ≤ xb1 (VE C c t) - 1 ∧ (VE C c t2).evs.length ≤ (VE C c t).evs.length + 122 := by
 obtain ⟨a, b⟩ := VO hc hi h1 t
 obtain ⟨s, s1, s2, s3, s4, _, _, s7⟩ := xiN hc a b (cyc := cyc)
 have hr := xBV hc a b (cyc := cyc)
 have hm := (xBM hw hcy).2
 refine ⟨t + s, ?_, fun j hj => ?_, ?_, ?_⟩
 ·rw [s2, ← xBI]
 ·by_cases h : j < t
  ·exact hv j h
  ·have := s4 (j - t) S.o
   rw [← xBI, show t + (j - t) = j from by omega] at this
   exact this
 ·rw [xBI, ← s2, hr]; omega
 ·rw [xBI, ← s2]; exact s7
theorem xB0 (hc : okC C) (hi : Inv C c) (h1 : JB c) {t : Nat} (hw : ¬ 0 < X0 (VE C c t)) : xd7 (VE C c t) = false := by
 obtain ⟨a, b⟩ := VO hc hi h1 t
 rw [xdR a b]
 exact decide_eq_false S.o
end
section
attribute [local irreducible] BrK Xq Xt Xv XI FnK XZ Xw XC XV opX opK Yq Yk eqR Yj Yo Ys WL WD W X3 XO Tr drewK Ya X4 Yw Yv X1 YB mp blk rob sl sep ex fact old
section
attribute [local irreducible] Y1 X2 objX Zw Zg Yr XT robjX rslkO Yg Qn ZL VE xaO xcl drM
section
variable {l : xcJ} {pc : SL UInt8}
theorem xBO : Xb prog 7 #[.agg (En.enc l).toArray, pc.s.v] (xtU l ++ [sl true pc.s.v pc.d])
  fun v l' => v = .bool true ∧ l' = [] := by
 intro F K hK
 simp only [ap] at hK ⊢
 obtain ⟨conf, progs, wins⟩ := l
 try simp only at hK ⊢
 refine Tr.fzSteps (xs := progs.d) fun hst => ?_
 have hmay := xt2 (l := ⟨conf, progs, wins⟩)
 try simp only at hmay
 by_cases hL : xg5 ⟨conf, progs, wins⟩ ∧ pc.d.length ≤ 1000
 ·obtain ⟨hL, hpl⟩ := hL
  have h10 := hL.p.c1
  have hc : okC (xc1 ⟨conf, progs, wins⟩ 1) := xuR hL hst
  have hpr : (xc1 ⟨conf, progs, wins⟩ 1).progs = J1 progs.d (xc1 ⟨conf, progs, wins⟩ 1).progs.length := xup
  have hw24 := hL.w
  have h9 := hL.c
  try simp only at hw24 h9 h10
  have hnc := xla (u0 := .agg (En.enc conf).toArray) (s2 := progs.s) (hu := ⟨rfl⟩) hc hpr
  have hnr := xpx (u0 := .agg (En.enc conf).toArray) (s2 := progs.s) (hu := ⟨rfl⟩) hc hpr
  obtain ⟨i1, i2, i3⟩ := xmr hc
  clear hL hst hpr
  obtain ⟨C, hC⟩ : ∃ C, C = xc1 ⟨conf, progs, wins⟩ 1 := ⟨_, rfl⟩
  have hcf : C.conf = conf := by rw [hC]; rfl
  have hpt : C.part = 1 := by rw [hC]; rfl
  rw [← hC] at hc hnc hnr i1 i2 i3
  rw [hcf, hpt] at hnc hnr
  clear hC
  have hrm : (Z9 C.conf).room = C.conf.cap := by unfold Z9; simp only; rw [hcf, if_pos S.o]
  obtain ⟨cN, hN⟩ : ∃ cN, cN = Qn C := ⟨_, rfl⟩
  rw [← hN] at hnc hnr i1 i2 i3
  clear hN
  refine S.I fun u => ?_
  have hX := @pl7.eq_def; repeat' (first | rintro _ _ ⟨rfl, rfl⟩ | rintro _ _ ⟨bm, hbm, rfl, rfl⟩ | rintro _ _ ⟨r, w2, hr2, rfl, rfl⟩ | rintro _ _ ⟨b, w, gs, hr, rfl, rfl⟩ | (refine G.call 18 ?_; refine S.c ?_ (h := hmay)) | (refine G.call 19 ?_; refine S.c ?_ (h := hnc)) | (refine G.call 20 ?_; refine S.c ?_ (h := hnr)) | refine S.x ?_ | refine S.y ?_ ?_ | (refine G.call 17 ?_; refine S.c ?_ (h := xdS)) | intro hb | fail)
  ·exact S.L
  refine Tr.loopE (α := Nat × Nat × CM × CW × List Xe × RW) [4, 7, 8] [1, 2, 5, 6] (fun x => [.bool false, .int .i64 x.2.1, .int .i64 x.1]) (fun x => Xh b C x.2.2.1 x.2.2.2.1 x.2.2.2.2.1 ++ Xf r C x.2.2.1 x.2.2.2.2.2) (fun x => x.1 ≤ wins.d.length ∧ x.1 ≤ 12 ∧ x.2.1 ≤ pc.d.length ∧ Rel C x.2.2.1 x.2.2.2.1 x.2.2.2.2.1 ∧ Xl C x.2.2.1 x.2.2.2.2.2 ∧ Inv C x.2.2.1 ∧ JB x.2.2.1 ∧ x.2.2.1.evs.length ≤ x.1 * 60000) (fun x => 12 - x.1) (0, 0, cN, w, gs, w2) S.T rfl ⟨Nat.zero_le _, Nat.zero_le _, Nat.zero_le _, hr, hr2, i1, i2, by rw [i3]; exact Nat.zero_le _⟩ fun x u hx => ?_
  clear hr hr2 i1 i2 i3 hnc hnr hmay
  obtain ⟨k, a, c, w, gs, w2⟩ := x
  obtain ⟨hk, hk2, ha, hr, hr2, hi, h1, he⟩ := hx
  simp only at hk hk2 ha hr hr2 hi h1 he ⊢
  simp only [ap]
  by_cases hin : k < wins.d.length ∧ k < 12
  ·obtain ⟨hin, hin2⟩ := hin
   have hw := Xo (k := k) S.o
   obtain ⟨hm1, hm2⟩ := hw24 k hin hin2
   have har := xna (b := b) (r := r) (C := C) (C2 := C) (c := c) (c2 := c) (w := w) (gs := gs) (w2 := w2) (x := ix wins.d (k : Int)) hm1 hm2
   obtain ⟨j1, j2⟩ := xr7 (x := ix wins.d (k : Int)) hc hi h1
   have hra : Rel C (xcl c (ix wins.d (k : Int))) w gs := xs8 hr
   have hra2 : Xl C (xcl c (ix wins.d (k : Int))) w2 := xuT hr2
   have hea : (xcl c (ix wins.d (k : Int))).evs = c.evs := by rw [xcl.eq_def]
   obtain ⟨ca, hca⟩ : ∃ ca, ca = xcl c (ix wins.d (k : Int)) := ⟨_, rfl⟩
   rw [← hca] at har j1 j2 hra hra2 hea
   have hfa : few ca 500 := by unfold few; rw [hea]; omega
   obtain ⟨b1, b2, b3, b4, _⟩ := xfq hc j1 j2
   have hcb := xfz (b := b) hc hra hfa
   have hrb := xBQ (r := r) hc hra2 j1 j2 (by rw [hea]; omega) (by rw [hcf]; omega) (by rw [hcf]; omega)
   obtain ⟨cb, hcbe⟩ : ∃ cb, cb = ZL C ca := ⟨_, rfl⟩
   rw [← hcbe] at b1 b2 b3 b4 hcb hrb
   rw [hea] at b3
   rw [hrm, hcf] at b4
   have hmo := fun t (hv : ∀ j : Nat, j < t → xd7 (VE C cb j) = true) cyc hw hcy => xBW hc b1 b2 hv (cyc := cyc) hw hcy
   have hen := fun t hw => xB0 hc b1 b2 (t := t) hw
   have hii := VO hc b1 b2
   have hon := fun a t ha hb ea eb => xBX (C := C) (c := cb) (a := a) (b := t) ha hb ea eb
   obtain ⟨f, hf⟩ : ∃ f, f = VE C cb := ⟨_, rfl⟩
   have hf0 : f 0 = cb := by rw [hf]; exact VE.eq_1 _ _
   rw [← hf] at hmo hen hii hon hrb
   clear hf hca hcbe hea hra hra2 hr hr2 hi h1 j1 j2 hfa b1 b2
   subst hf0
   have hX := And.intro @pl7.eq_def hw; repeat' (first | rintro _ _ ⟨rfl, rfl⟩ | rintro _ _ ⟨w3, gs3, hr3, rfl, rfl⟩ | rintro _ _ ⟨w4, tw, hv4, he4, hr4, rfl, rfl⟩ | (refine G.call 21 ?_; refine S.c ?_ (h := har)) | (refine G.call 8 ?_; refine S.c ?_ (h := hcb)) | (refine G.call 30 ?_; refine S.c ?_ (h := hrb)) | refine S.x ?_ | intro hb | fail)
   refine Tr.loopE (α := Nat × Nat × Nat × CW × List Xe) [4, 7, 9] [1, 2, 5, 6, 8] (fun x => [.bool false, .int .i64 x.2.1, .int .i64 x.1]) (fun x => Xh b C (f x.2.2.1) x.2.2.2.1 x.2.2.2.2) (fun x => x.1 ≤ 401 ∧ x.2.1 ≤ pc.d.length ∧ Rel C (f x.2.2.1) x.2.2.2.1 x.2.2.2.2 ∧ (∀ j : Nat, j < x.2.2.1 → xd7 (f j) = true) ∧ (f x.2.2.1).evs.length ≤ k * 60000 + 500 + x.1 * 130 ∧ xb1 (f x.2.2.1) ≤ 400 - x.1) (fun x => 401 - x.1) (0, a, 0, w3, gs3) S.T rfl ⟨by simp only; omega, ha, hr3, fun j hj => absurd hj (Nat.not_lt_zero _), by simp only; omega, by simp only; omega⟩ fun y u2 hy => ?_
   clear hr3 hcb hrb har b3 b4
   obtain ⟨n, a2, t, w5, gs5⟩ := y
   obtain ⟨hn, ha2, hr5, hv5, he5, hs5⟩ := hy
   simp only at hn ha2 hr5 hv5 he5 hs5 ⊢
   simp only [ap]
   have hwt := xao (b := b) hc hr5
   obtain ⟨q1, q2⟩ := hii t
   have hr0 := xBU q1
   by_cases hwp : 0 < X0 (f t)
   ·have hwr := xnu q1 S.o
    have hn4 : n ≤ 400 := by omega
    have hw2 := Xo (k := n) S.o
    have hran := fun cyc => xgP (b := b) (cyc := cyc) hc hr5 (by unfold few; omega) q1.dp q1.p q2.le
    by_cases hat : a2 < pc.d.length
    ·have hw3 := Xo (k := a2) S.o
     obtain ⟨m, hm⟩ : ∃ m : Int, m = ((ix pc.d (a2 : Int)).toNat : Int).tmod 30 := ⟨_, rfl⟩
     have hm0 : 0 ≤ m := by rw [hm]; exact Int.tmod_nonneg _ S.o
     have hm9 : m < 30 := by rw [hm]; exact Int.tmod_lt_of_pos _ (by decide)
     have hw5 : IntKind.i64.wrap m = m := Ye S.o S.o
     have hw6 : IntKind.i64.wrap (1 + m) = 1 + m := Ye S.o S.o
     obtain ⟨p, hp⟩ : ∃ p, p = 1 + m := ⟨_, rfl⟩
     have hpq : IntKind.i64.wrap (1 + IntKind.i64.wrap (((ix pc.d (a2 : Int)).toNat : Int).tmod 30)) = p := by rw [← hm, hw5, hw6, hp]
     have hp1 := xBM (c := f t) (cyc := p) S.o S.o
     obtain ⟨t2, e1, e2, e3, e4⟩ := hmo t hv5 p S.o S.o
     have hran1 := hran p
     obtain ⟨m2, hm2⟩ : ∃ m2, m2 = xcH (f t) p := ⟨_, rfl⟩
     have hmi : (if X0 (f t) < p then X0 (f t) else p) = m2 := by rw [hm2, hp1.1]
     rw [e1, ← hm2] at hran1
     clear e1 q1 q2 hp1 hran hm hw5 hw6 hp hm0 hm9 hm2
     have hX := I5 @pl7.eq_def hw2 hw3 hpq hmi; repeat' (first | rintro _ _ ⟨rfl, rfl⟩ | rintro _ _ ⟨w7, gs7, hr7, rfl, rfl⟩ | (refine G.call 9 ?_; refine S.c ?_ (h := hwt)) | (refine G.call 11 ?_; refine S.c ?_ (h := hran1)) | refine S.x ?_ | intro hb | fail)
     all_goals exact S.R ((n + 1, a2 + 1, t2, w7, gs7) : Nat × Nat × Nat × CW × List Xe)
    ·have hp1 := xBM (c := f t) (cyc := 1) S.o S.o
     obtain ⟨t2, e1, e2, e3, e4⟩ := hmo t hv5 1 S.o S.o
     have hran1 := hran 1
     rw [e1, hp1.1] at hran1
     have hmi : (if X0 (f t) < 1 then X0 (f t) else 1) = 1 := by rw [if_neg S.o]
     clear e1 q1 q2 hp1 hran
     have hX := I3 @pl7.eq_def hw2 hmi; repeat' (first | rintro _ _ ⟨rfl, rfl⟩ | rintro _ _ ⟨w7, gs7, hr7, rfl, rfl⟩ | (refine G.call 9 ?_; refine S.c ?_ (h := hwt)) | (refine G.call 11 ?_; refine S.c ?_ (h := hran1)) | refine S.x ?_ | fail)
     all_goals exact S.R ((n + 1, a2, t2, w7, gs7) : Nat × Nat × Nat × CW × List Xe)
   ·have hw0 : X0 (f t) = 0 := by have := xsC q1 q2; omega
    rw [hw0] at hwt
    have hn4 : n ≤ 400 := by omega
    have htt := hon t tw hv5 hv4 (hen t hwp) he4
    subst htt
    have hlk := xcq (b := b) (r := r) hc hr5 hr4 q1.S S.o
    have hd := xoJ (o := (ix wins.d (k : Int)).out) hc q1 q2
    have hr9 : Rel C (drM (f t) (ix wins.d (k : Int)).out) w5 gs5 := xoc hr5
    have hr10 : Xl C (drM (f t) (ix wins.d (k : Int)).out) w4 := xtv hr4
    have hed : (drM (f t) (ix wins.d (k : Int)).out).evs = (f t).evs := by rw [drM.eq_def]
    have he9 : (drM (f t) (ix wins.d (k : Int)).out).evs.length ≤ (k + 1) * 60000 := by rw [hed]; omega
    obtain ⟨hd1, hd2⟩ := hd
    clear hw0 hwp hon hen hmo hii hv4 hv5 he4
    have hX := And.intro @pl7.eq_def hw; repeat' (first | rintro _ _ ⟨rfl, rfl⟩ | rintro _ _ ⟨ds, dm, hdm, rfl, rfl⟩ | (refine G.call 9 ?_; refine S.c ?_ (h := hwt)) | (refine G.call 27 ?_; refine S.c ?_ (h := hlk)) | (refine G.call 24 ?_; refine S.c ?_ (h := xf0)) | (refine G.call 29 ?_; refine S.c ?_ (h := xe7)) | refine S.x ?_ | (refine G.call 13 ?_; refine S.c ?_ (h := WW)) | intro hb | fail)
    all_goals
     have hX := @drM.eq_def
     exact S.R ((k + 1, a2, drM (f t) (ix wins.d (k : Int)).out, w5, gs5, w4) : Nat × Nat × CM × CW × List Xe × RW)
  ·have hX := @pl7.eq_def; repeat' (first | refine S.x ?_ | refine S.y ?_ ?_ | intro hb | fail)
   all_goals exact S.L
 ·clear hst
  refine S.I fun u => ?_
  have hX := @pl7.eq_def; repeat' (first | rintro _ _ ⟨rfl, rfl⟩ | rintro _ _ ⟨bm, hbm, rfl, rfl⟩ | (refine G.call 18 ?_; refine S.c ?_ (h := hmay)) | refine S.x ?_ | refine S.y ?_ ?_ | (refine G.call 17 ?_; refine S.c ?_ (h := xdS)) | intro hb | fail)
  all_goals first
   | exact absurd ⟨hbm ‹_›, by omega⟩ hL
   | exact S.L
