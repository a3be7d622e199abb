import Derived.Test.YtacmaamllpiloaaGreatZ35
namespace Go.Proofs.YtacmaamllpiloaaGreat
open Go Go.Wk Tryz
set_option maxHeartbeats 3200000
set_option maxRecDepth 100000
section
section
variable {C : CC} {c : CM} {w : RW} {call p : Int}
theorem V9 (h : Xl C c w) (h0 : ¬ c.tb.best (One.waits call p) < 0) : inR C.progs (c.tb.best (One.waits call p)) := V3 h.ok h0
end
end
section
attribute [local irreducible] BrK Xq Xt Xv XI FnK XZ Xw XC XV opX opK Yq Yk eqR Yj Yo Ys WL WD W X3 XO Tr drewK Ya X4 Yw Yv X1 YB mp blk rob sl sep ex fact old
section
attribute [local irreducible] Yr XT robjX rslkO Yg
section
variable {r : Nat} {C : CC} {c : CM} {w : RW} {p : Int}
theorem xhk (hc : okC C) (hr : Xl C c w) (hf : few c 40) : Xb prog 73 #[ptr r, .int .i64 p] (Xf r C c w)
  fun v l' => ∃ w2, Xl C (YJ C p 20 (Yy C p 20 c)) w2 ∧ v = .tuple #[] ∧ l' = Xf r C (YJ C p 20 (Yy C p 20 c)) w2 := by
 intro F K hK
 simp only [ap] at hK ⊢
 have h8 := hc.n8
 obtain ⟨R, hR⟩ : ∃ R, R = YJ C p 20 (Yy C p 20 c) := ⟨_, rfl⟩
 rw [← hR] at hK
 have hfaa : few (Yy C p 20 c) 20 := (xbF 20 c).few hf
 obtain ⟨R1, hR1⟩ : ∃ R1, R1 = Yy C p 20 c := ⟨_, rfl⟩
 refine S.I fun u => ?_
 have hX := @Wp.eq_def; repeat' (first | refine S.x ?_ | fail)
 refine Tr.loopE (α := Nat × CM × RW) [4] [0, 1] (fun x => [.int .i64 x.1]) (fun x => Xf r C x.2.1 x.2.2) (fun x => x.1 ≤ 20 ∧ Yy C p (20 - x.1) x.2.1 = R1 ∧ few x.2.1 (40 - x.1) ∧ Xl C x.2.1 x.2.2) (fun x => 20 - x.1) (0, c, w) S.T rfl ⟨by simp only; omega, hR1.symm, hf, hr⟩ fun x u hx => ?_
 obtain ⟨n, c1, w1⟩ := x
 obtain ⟨hn, he, hf1, hr1⟩ := hx
 simp only at hn he hf1 hr1 ⊢
 simp only [ap]
 have htl := Yf hc hr1
 clear hf hr
 by_cases hn9 : n < 20
 ·have hw := Xo (k := n) S.o
  by_cases h0 : c1.tb.best (One.waits 11 p) < 0
  ·rw [xcW h0, hR1] at he
   have hX := And.intro @Wp.eq_def hw; repeat' (first | refine S.x ?_ | (refine G.call 128 ?_; refine S.c ?_ (h := X5 ‹_›)) | rintro _ _ ⟨rfl, rfl⟩ | fail)
   obtain ⟨wa, hwa⟩ : ∃ wa, wa = w1 := ⟨_, rfl⟩
   rw [← hwa] at hr1 ⊢
   rw [he] at hr1 ⊢
   have hra := hr1
   clear hwa hr1 he hR1 hf1 htl h0
   generalize hca : Yy C p 20 c = ca at *
   have htla := Yf hc hra
   have hfa : few ca 20 := hfaa
   refine Tr.loopE (α := Nat × CM × RW) [6] [0, 1] (fun x => [.int .i64 x.1]) (fun x => Xf r C x.2.1 x.2.2) (fun x => x.1 ≤ 20 ∧ YJ C p (20 - x.1) x.2.1 = R ∧ few x.2.1 (20 - x.1) ∧ Xl C x.2.1 x.2.2) (fun x => 20 - x.1) (0, ca, wa) S.T rfl ⟨by simp only; omega, hR.symm, hfa, hra⟩ fun x u hx => ?_
   obtain ⟨n, c1, w1⟩ := x
   obtain ⟨hn, he, hf1, hr1⟩ := hx
   simp only at hn he hf1 hr1 ⊢
   simp only [ap]
   have htl := Yf hc hr1
   clear hR hfa hfaa hca
   by_cases hn9 : n < 20
   ·have hw := Xo (k := n) S.o
    by_cases h0 : c1.tb.best (One.waits 12 p) < 0
    ·rw [Wt h0] at he
     rw [← he] at hK
     have hX := And.intro @Wp.eq_def hw; repeat' (first | refine S.x ?_ | (refine G.call 128 ?_; refine S.c ?_ (h := X5 ‹_›)) | rintro _ _ ⟨rfl, rfl⟩ | fail)
     all_goals exact Tr.fin hK ⟨w1, hr1, rfl, rfl⟩ S.E
    ·have hk := V9 hr1 h0
     obtain ⟨n9, hn9'⟩ : ∃ n9, 20 - n = n9 + 1 := ⟨19 - n, by omega⟩
     have hpk : XB c1 12 p = c1.tb.best (One.waits 12 p) := rfl
     rw [hn9'] at he
     unfold YJ at he
     rw [hpk, if_neg h0] at he
     simp only at he
     obtain ⟨c2, hc2⟩ : ∃ c2 : CM, c2 = { c1 with pts := Z1 c1.pts p true } := ⟨_, rfl⟩
     have hrp : Xl C c2 w1 := by rw [hc2]; exact WN hr1
     obtain ⟨bs, hbs⟩ : ∃ bs, bs = YS c1.pts p true := ⟨_, rfl⟩
     rw [← hc2, ← hbs] at he
     have hev : c2.evs = c1.evs := by rw [hc2]
     have hf2 : few c2 1 := by unfold few at *; rw [hev]; omega
     by_cases hcode : Y3 c1.pts p true = 0
     ·rw [if_pos hcode] at he
      obtain ⟨k, hkk⟩ : ∃ k, k = c1.tb.best (One.waits 12 p) := ⟨_, rfl⟩
      have hpk' : c1.tb.best (One.waits 12 p) = k := hkk.symm
      rw [← hkk] at he hk h0
      clear hkk hpk
      obtain ⟨c3, hc3⟩ : ∃ c3 : CM, c3 = Zy C c2 k 12 bs := ⟨_, rfl⟩
      rw [← hc3] at he
      have he3 : YJ C p (20 - (n + 1)) c3 = R := by rw [show 20 - (n + 1) = n9 by omega]; exact he
      have hf3 : few c3 (20 - (n + 1)) := by
       have hev3 : c3.evs.length = c1.evs.length + 1 := by rw [hc3, ← hev]; simp [Zy, Zc, Xa, XW]
       unfold few at *
       rw [hev3]; omega
      have hco := fun s3 => xar (r := r) (call := 12) (s3 := s3) (bs := bs) hc hrp hk hf2
      rw [← hc3] at hco
      have hX := And.intro @Wp.eq_def @hpk'; repeat' (first | refine S.x ?_ | (refine G.call 128 ?_; refine S.c ?_ (h := X5 ‹_›)) | (refine G.call 130 ?_; refine S.c ?_ (h := Vf)) | rintro _ _ ⟨rfl, rfl⟩ | rintro _ _ ⟨_, rfl, rfl⟩ | fail)
      rename_i s3
      refine Tr.imp (l' := sl true s3.v bs :: (Xf r C c2 w1 ++ (fzl wa.px :: fzl wa.dx :: sl true C.conf.procs.s.v C.conf.procs.d :: sl true C.conf.acts.s.v C.conf.acts.d :: fzl w.px :: fzl w.dx :: sl true C.conf.procs.s.v C.conf.procs.d :: sl true C.conf.acts.s.v C.conf.acts.d :: F))) ?_ ?_
      ·subst hc2 hbs
       simp only [ap]
       show Xd [] _ _
       exact S.E
      clear hrp hr1 hc2 hc3 hev hbs
      simp only [ap]
      have hX := And.intro @Wp.eq_def hw; repeat' (first | rintro _ _ ⟨w3, hr3, rfl, rfl⟩ | (refine G.call 131 ?_; refine S.c ?_ (h := hco s3)) | refine S.x ?_ | fail)
      all_goals exact S.R ((n + 1, c3, w3) : Nat × CM × RW)
     ·rw [if_neg hcode] at he
      rw [← he] at hK
      have hX := @Wp.eq_def; repeat' (first | refine S.x ?_ | (refine G.call 128 ?_; refine S.c ?_ (h := X5 ‹_›)) | (refine G.call 130 ?_; refine S.c ?_ (h := Vf)) | rintro _ _ ⟨rfl, rfl⟩ | rintro _ _ ⟨_, rfl, rfl⟩ | fail)
      all_goals
       refine Tr.fin hK ⟨w1, hrp, rfl, rfl⟩ ?_
       subst hc2
       simp only [ap]
       exact S.E
   ·have e0 : 20 - n = 0 := by omega
    rw [e0] at he
    have he' : c1 = R := he
    rw [← he'] at hK
    have hX := @Wp.eq_def; repeat' (first | refine S.x ?_ | fail)
    all_goals exact Tr.fin hK ⟨w1, hr1, rfl, rfl⟩ S.E
  ·have hk := V9 hr1 h0
   obtain ⟨n9, hn9'⟩ : ∃ n9, 20 - n = n9 + 1 := ⟨19 - n, by omega⟩
   have hpk : XB c1 11 p = c1.tb.best (One.waits 11 p) := rfl
   rw [hn9'] at he
   unfold Yy at he
   rw [hpk, if_neg h0] at he
   simp only at he
   have hdd := xlO hr1 hk
   have hdl : w1.dx.length = C.progs.length := by have := hr1.hd; rw [← hr1.ok.data, ← this, List.length_map]
   obtain ⟨k, hkk⟩ : ∃ k, k = c1.tb.best (One.waits 11 p) := ⟨_, rfl⟩
   have hpk' : c1.tb.best (One.waits 11 p) = k := hkk.symm
   rw [← hkk] at he hk h0 hdd
   clear hkk hpk
   obtain ⟨g0, g1⟩ := id hk
   rw [← hdd] at he
   obtain ⟨c2, hc2⟩ : ∃ c2 : CM, c2 = { c1 with pts := Yh c1.pts p true (ix w1.dx k).d } := ⟨_, rfl⟩
   have hrp : Xl C c2 w1 := by rw [hc2]; exact WN hr1
   rw [← hc2] at he
   have hev : c2.evs = c1.evs := by rw [hc2]
   have hf2 : few c2 1 := by unfold few at *; rw [hev]; omega
   by_cases hcode : YU c1.pts p true (ix w1.dx k).d.length = 0
   ·rw [if_pos hcode] at he
    obtain ⟨c3, hc3⟩ : ∃ c3 : CM, c3 = Zc C c2 k 11 0 0 := ⟨_, rfl⟩
    rw [← hc3] at he
    have he3 : Yy C p (20 - (n + 1)) c3 = R1 := by rw [show 20 - (n + 1) = n9 by omega]; exact he
    have hf3 : few c3 (40 - (n + 1)) := by
     have hev3 : c3.evs.length = c1.evs.length + 1 := by rw [hc3, ← hev]; simp [Zc, Xa, XW]
     unfold few at *
     rw [hev3]; omega
    have hco := QN (r := r) (k := k) (call := 11) (code := 0) (value := 0) hc hrp hf2
    rw [← hc3] at hco
    have hX := And.intro @Wp.eq_def @hpk'; repeat' (first | refine S.x ?_ | (refine G.call 128 ?_; refine S.c ?_ (h := X5 ‹_›)) | (refine G.call 129 ?_; refine S.c ?_ (h := xbG)) | rintro _ _ ⟨rfl, rfl⟩ | intro hb | fail)
    refine Tr.imp (l' := Xf r C c2 w1 ++ (fzl w.px :: fzl w.dx :: sl true C.conf.procs.s.v C.conf.procs.d :: sl true C.conf.acts.s.v C.conf.acts.d :: F)) ?_ ?_
    ·subst hc2
     simp only [ap]
     clear hdd
     show Xd [] _ _
     exact S.E
    clear hrp hr1 hc2 hc3 hev hdd
    simp only [ap]
    have hX := And.intro @Wp.eq_def hw; repeat' (first | rintro _ _ ⟨w3, hr3, rfl, rfl⟩ | (refine G.call 75 ?_; refine S.c ?_ (h := hco)) | refine S.x ?_ | fail)
    all_goals exact S.R ((n + 1, c3, w3) : Nat × CM × RW)
   ·rw [if_neg hcode, hR1] at he
    have hX := And.intro @Wp.eq_def @hpk'; repeat' (first | refine S.x ?_ | (refine G.call 128 ?_; refine S.c ?_ (h := X5 ‹_›)) | (refine G.call 129 ?_; refine S.c ?_ (h := xbG)) | rintro _ _ ⟨rfl, rfl⟩ | intro hb | fail)
    refine Tr.imp (l' := Xf r C c2 w1 ++ (fzl w.px :: fzl w.dx :: sl true C.conf.procs.s.v C.conf.procs.d :: sl true C.conf.acts.s.v C.conf.acts.d :: F)) ?_ ?_
    ·subst hc2
     simp only [ap]
     clear hdd
     show Xd [] _ _
     exact S.E
    obtain ⟨wa, hwa⟩ : ∃ wa, wa = w1 := ⟨_, rfl⟩
    rw [← hwa] at hrp ⊢
    rw [he] at hrp ⊢
    have hra := hrp
    clear hwa hr1 hrp he hR1 hf1 htl h0 hc2 hev hf2 hcode hdd hk g0 g1 hpk'
    simp only [ap]
    generalize hca : Yy C p 20 c = ca at *
    have htla := Yf hc hra
    have hfa : few ca 20 := hfaa
    refine Tr.loopE (α := Nat × CM × RW) [6] [0, 1] (fun x => [.int .i64 x.1]) (fun x => Xf r C x.2.1 x.2.2) (fun x => x.1 ≤ 20 ∧ YJ C p (20 - x.1) x.2.1 = R ∧ few x.2.1 (20 - x.1) ∧ Xl C x.2.1 x.2.2) (fun x => 20 - x.1) (0, ca, wa) S.T rfl ⟨by simp only; omega, hR.symm, hfa, hra⟩ fun x u hx => ?_
    obtain ⟨n, c1, w1⟩ := x
    obtain ⟨hn, he, hf1, hr1⟩ := hx
    simp only at hn he hf1 hr1 ⊢
    simp only [ap]
    have htl := Yf hc hr1
    clear hR hfa hfaa hca
    by_cases hn9 : n < 20
    ·have hw := Xo (k := n) S.o
     by_cases h0 : c1.tb.best (One.waits 12 p) < 0
     ·rw [Wt h0] at he
      rw [← he] at hK
      have hX := And.intro @Wp.eq_def hw; repeat' (first | refine S.x ?_ | (refine G.call 128 ?_; refine S.c ?_ (h := X5 ‹_›)) | rintro _ _ ⟨rfl, rfl⟩ | fail)
      all_goals exact Tr.fin hK ⟨w1, hr1, rfl, rfl⟩ S.E
     ·have hk := V9 hr1 h0
      obtain ⟨n9, hn9'⟩ : ∃ n9, 20 - n = n9 + 1 := ⟨19 - n, by omega⟩
      have hpk : XB c1 12 p = c1.tb.best (One.waits 12 p) := rfl
      rw [hn9'] at he
      unfold YJ at he
      rw [hpk, if_neg h0] at he
      simp only at he
      obtain ⟨c2, hc2⟩ : ∃ c2 : CM, c2 = { c1 with pts := Z1 c1.pts p true } := ⟨_, rfl⟩
      have hrp : Xl C c2 w1 := by rw [hc2]; exact WN hr1
      obtain ⟨bs, hbs⟩ : ∃ bs, bs = YS c1.pts p true := ⟨_, rfl⟩
      rw [← hc2, ← hbs] at he
      have hev : c2.evs = c1.evs := by rw [hc2]
      have hf2 : few c2 1 := by unfold few at *; rw [hev]; omega
      by_cases hcode : Y3 c1.pts p true = 0
      ·rw [if_pos hcode] at he
       obtain ⟨k, hkk⟩ : ∃ k, k = c1.tb.best (One.waits 12 p) := ⟨_, rfl⟩
       have hpk' : c1.tb.best (One.waits 12 p) = k := hkk.symm
       rw [← hkk] at he hk h0
       clear hkk hpk
       obtain ⟨c3, hc3⟩ : ∃ c3 : CM, c3 = Zy C c2 k 12 bs := ⟨_, rfl⟩
       rw [← hc3] at he
       have he3 : YJ C p (20 - (n + 1)) c3 = R := by rw [show 20 - (n + 1) = n9 by omega]; exact he
       have hf3 : few c3 (20 - (n + 1)) := by
        have hev3 : c3.evs.length = c1.evs.length + 1 := by rw [hc3, ← hev]; simp [Zy, Zc, Xa, XW]
        unfold few at *
        rw [hev3]; omega
       have hco := fun s3 => xar (r := r) (call := 12) (s3 := s3) (bs := bs) hc hrp hk hf2
       rw [← hc3] at hco
       have hX := And.intro @Wp.eq_def @hpk'; repeat' (first | refine S.x ?_ | (refine G.call 128 ?_; refine S.c ?_ (h := X5 ‹_›)) | (refine G.call 130 ?_; refine S.c ?_ (h := Vf)) | rintro _ _ ⟨rfl, rfl⟩ | rintro _ _ ⟨_, rfl, rfl⟩ | fail)
       rename_i s3
       refine Tr.imp (l' := sl true s3.v bs :: (Xf r C c2 w1 ++ (fzl wa.px :: fzl wa.dx :: sl true C.conf.procs.s.v C.conf.procs.d :: sl true C.conf.acts.s.v C.conf.acts.d :: fzl w.px :: fzl w.dx :: sl true C.conf.procs.s.v C.conf.procs.d :: sl true C.conf.acts.s.v C.conf.acts.d :: F))) ?_ ?_
       ·subst hc2 hbs
        simp only [ap]
        show Xd [] _ _
        exact S.E
       clear hrp hr1 hc2 hc3 hev hbs
       simp only [ap]
       have hX := And.intro @Wp.eq_def hw; repeat' (first | rintro _ _ ⟨w3, hr3, rfl, rfl⟩ | (refine G.call 131 ?_; refine S.c ?_ (h := hco s3)) | refine S.x ?_ | fail)
       all_goals exact S.R ((n + 1, c3, w3) : Nat × CM × RW)
      ·rw [if_neg hcode] at he
       rw [← he] at hK
       have hX := @Wp.eq_def; repeat' (first | refine S.x ?_ | (refine G.call 128 ?_; refine S.c ?_ (h := X5 ‹_›)) | (refine G.call 130 ?_; refine S.c ?_ (h := Vf)) | rintro _ _ ⟨rfl, rfl⟩ | rintro _ _ ⟨_, rfl, rfl⟩ | fail)
       all_goals
        refine Tr.fin hK ⟨w1, hrp, rfl, rfl⟩ ?_
        subst hc2
        simp only [ap]
        exact S.E
    ·have e0 : 20 - n = 0 := by omega
     rw [e0] at he
     have he' : c1 = R := he
     rw [← he'] at hK
     have hX := @Wp.eq_def; repeat' (first | refine S.x ?_ | fail)
     all_goals exact Tr.fin hK ⟨w1, hr1, rfl, rfl⟩ S.E
 ·have e0 : 20 - n = 0 := by omega
  rw [e0] at he
  have he' : c1 = R1 := he
  have hX := @Wp.eq_def; repeat' (first | refine S.x ?_ | fail)
  obtain ⟨wa, hwa⟩ : ∃ wa, wa = w1 := ⟨_, rfl⟩
  rw [← hwa] at hr1 ⊢
  rw [he', hR1] at hr1 ⊢
  have hra := hr1
  clear hwa hr1 he he' hR1 hf1 htl
  generalize hca : Yy C p 20 c = ca at *
  have htla := Yf hc hra
  have hfa : few ca 20 := hfaa
  refine Tr.loopE (α := Nat × CM × RW) [6] [0, 1] (fun x => [.int .i64 x.1]) (fun x => Xf r C x.2.1 x.2.2) (fun x => x.1 ≤ 20 ∧ YJ C p (20 - x.1) x.2.1 = R ∧ few x.2.1 (20 - x.1) ∧ Xl C x.2.1 x.2.2) (fun x => 20 - x.1) (0, ca, wa) S.T rfl ⟨by simp only; omega, hR.symm, hfa, hra⟩ fun x u hx => ?_
  obtain ⟨n, c1, w1⟩ := x
  obtain ⟨hn, he, hf1, hr1⟩ := hx
  simp only at hn he hf1 hr1 ⊢
  simp only [ap]
  have htl := Yf hc hr1
  clear hR hfa hfaa hca
  by_cases hn9 : n < 20
  ·have hw := Xo (k := n) S.o
   by_cases h0 : c1.tb.best (One.waits 12 p) < 0
   ·rw [Wt h0] at he
    rw [← he] at hK
    have hX := And.intro @Wp.eq_def hw; repeat' (first | refine S.x ?_ | (refine G.call 128 ?_; refine S.c ?_ (h := X5 ‹_›)) | rintro _ _ ⟨rfl, rfl⟩ | fail)
    all_goals exact Tr.fin hK ⟨w1, hr1, rfl, rfl⟩ S.E
   ·have hk := V9 hr1 h0
    obtain ⟨n9, hn9'⟩ : ∃ n9, 20 - n = n9 + 1 := ⟨19 - n, by omega⟩
    have hpk : XB c1 12 p = c1.tb.best (One.waits 12 p) := rfl
    rw [hn9'] at he
    unfold YJ at he
    rw [hpk, if_neg h0] at he
    simp only at he
    obtain ⟨c2, hc2⟩ : ∃ c2 : CM, c2 = { c1 with pts := Z1 c1.pts p true } := ⟨_, rfl⟩
    have hrp : Xl C c2 w1 := by rw [hc2]; exact WN hr1
    obtain ⟨bs, hbs⟩ : ∃ bs, bs = YS c1.pts p true := ⟨_, rfl⟩
    rw [← hc2, ← hbs] at he
    have hev : c2.evs = c1.evs := by rw [hc2]
    have hf2 : few c2 1 := by unfold few at *; rw [hev]; omega
    by_cases hcode : Y3 c1.pts p true = 0
    ·rw [if_pos hcode] at he
     obtain ⟨k, hkk⟩ : ∃ k, k = c1.tb.best (One.waits 12 p) := ⟨_, rfl⟩
     have hpk' : c1.tb.best (One.waits 12 p) = k := hkk.symm
     rw [← hkk] at he hk h0
     clear hkk hpk
     obtain ⟨c3, hc3⟩ : ∃ c3 : CM, c3 = Zy C c2 k 12 bs := ⟨_, rfl⟩
     rw [← hc3] at he
     have he3 : YJ C p (20 - (n + 1)) c3 = R := by rw [show 20 - (n + 1) = n9 by omega]; exact he
     have hf3 : few c3 (20 - (n + 1)) := by
      have hev3 : c3.evs.length = c1.evs.length + 1 := by rw [hc3, ← hev]; simp [Zy, Zc, Xa, XW]
      unfold few at *
      rw [hev3]; omega
     have hco := fun s3 => xar (r := r) (call := 12) (s3 := s3) (bs := bs) hc hrp hk hf2
     rw [← hc3] at hco
     have hX := And.intro @Wp.eq_def @hpk'; repeat' (first | refine S.x ?_ | (refine G.call 128 ?_; refine S.c ?_ (h := X5 ‹_›)) | (refine G.call 130 ?_; refine S.c ?_ (h := Vf)) | rintro _ _ ⟨rfl, rfl⟩ | rintro _ _ ⟨_, rfl, rfl⟩ | fail)
     rename_i s3
     refine Tr.imp (l' := sl true s3.v bs :: (Xf r C c2 w1 ++ (fzl wa.px :: fzl wa.dx :: sl true C.conf.procs.s.v C.conf.procs.d :: sl true C.conf.acts.s.v C.conf.acts.d :: fzl w.px :: fzl w.dx :: sl true C.conf.procs.s.v C.conf.procs.d :: sl true C.conf.acts.s.v C.conf.acts.d :: F))) ?_ ?_
     ·subst hc2 hbs
      simp only [ap]
      show Xd [] _ _
      exact S.E
     clear hrp hr1 hc2 hc3 hev hbs
     simp only [ap]
     have hX := And.intro @Wp.eq_def hw; repeat' (first | rintro _ _ ⟨w3, hr3, rfl, rfl⟩ | (refine G.call 131 ?_; refine S.c ?_ (h := hco s3)) | refine S.x ?_ | fail)
     all_goals exact S.R ((n + 1, c3, w3) : Nat × CM × RW)
    ·rw [if_neg hcode] at he
     rw [← he] at hK
     have hX := @Wp.eq_def; repeat' (first | refine S.x ?_ | (refine G.call 128 ?_; refine S.c ?_ (h := X5 ‹_›)) | (refine G.call 130 ?_; refine S.c ?_ (h := Vf)) | rintro _ _ ⟨rfl, rfl⟩ | rintro _ _ ⟨_, rfl, rfl⟩ | fail)
     all_goals
      refine Tr.fin hK ⟨w1, hrp, rfl, rfl⟩ ?_
      subst hc2
      simp only [ap]
      exact S.E
  ·have e0 : 20 - n = 0 := by omega
   rw [e0] at he
   have he' : c1 = R := he
   rw [← he'] at hK
   have hX := @Wp.eq_def; repeat' (first | refine S.x ?_ | fail)
   all_goals exact Tr.fin hK ⟨w1, hr1, rfl, rfl⟩ S.E
end
end
section
theorem xm9 {C : CC} {c : CM} {w : RW} (h : Xl C c w) (hm : c.slk = none) : w.slk = none := by
 have := h.hs
 rw [hm] at this
 cases hw : w.slk with
 | none => rfl
 | some s => rw [hw] at this; cases this
attribute [local irreducible] Yr XT robjX rslkX Yg
section
variable {r : Nat} {C : CC} {c : CM} {w : RW} {p : Int}
theorem xgf (hc : okC C) (hr : Xl C c w) : Xb prog 82 #[ptr r] [Vy r C c.mode c.win w, Yg w.tb c.tb]
  fun v l' => v = .int .i64 (Yl c) ∧ l' = [Vy r C c.mode c.win w, Yg w.tb c.tb] := by
 intro F K hK
 simp only [ap] at hK ⊢
 have htl := Yf hc hr
 rcases Option.eq_none_or_eq_some c.slk with hm | ⟨m, hm⟩
 ·have hsp : slP w.slk = .pointer none := by rw [xm9 hr hm]; rfl
  have hwm : Yl c = -1 := by unfold Yl; rw [hm]
  rw [hwm] at hK
  refine S.I fun u => ?_
  have hX := hsp; repeat' (first | refine S.x ?_ | fail)
  all_goals exact Tr.fin hK ⟨rfl, rfl⟩ S.E
 ·obtain ⟨sb, hsb⟩ := VS hr hm
  have hsp : slP w.slk = .pointer (some ⟨sb, 0, none⟩) := by rw [hsb]; rfl
  have hwm : Yl c = if c.mode = 3 then c.tb.best One.ready else -1 := by unfold Yl; rw [hm]; rfl
  rw [hwm] at hK
  refine S.I fun u => ?_
  by_cases hmd : c.mode = 3
  ·rw [if_pos hmd] at hK
   have hX := hsp; repeat' (first | refine S.x ?_ | (refine G.call 132 ?_; refine S.c ?_ (h := xbq ‹_›)) | rintro _ _ ⟨rfl, rfl⟩ | fail)
   all_goals exact Tr.fin hK ⟨rfl, rfl⟩ S.E
  ·rw [if_neg hmd] at hK
   have hX := hsp; repeat' (first | refine S.x ?_ | fail)
   all_goals exact Tr.fin hK ⟨rfl, rfl⟩ S.E
theorem J2 (h0 : ¬ Yl c < 0) : ∃ m, c.slk = some m ∧ c.mode = 3 ∧ Yl c = XJ c := by
 unfold Yl at h0 ⊢
 split at h0
 ·rename_i m hm
  split at h0
  ·rename_i h3
   exact ⟨m, hm, h3, by rw [if_pos h3]⟩
  ·omega
 ·omega
theorem xfW (h0 : Yl c < 0) : X0 c = 0 := by
 unfold X0
 unfold Yl at h0
 split
 ·rename_i m hm
  rw [hm] at h0
  simp only at h0
  split
  ·rename_i h3
   rw [if_pos h3] at h0
   rw [if_pos h0]
  ·rfl
 ·rfl
theorem xpl (hc : okC C) (hr : Xl C c w) (hS : okS C c) : Xb prog 77 #[ptr r] (Xf r C c w)
  fun v l' => v = .int .i64 (X0 c) ∧ l' = Xf r C c w := by
 intro F K hK
 simp only [ap] at hK ⊢
 have hnx := xgf (r := r) hc hr
 by_cases h0 : Yl c < 0
 ·rw [xfW h0] at hK
  refine S.I fun u => ?_
  repeat' (first | rintro _ _ ⟨rfl, rfl⟩ | (refine G.call 82 ?_; refine S.c ?_ (h := hnx)) | refine S.x ?_ | fail)
  all_goals exact Tr.fin hK ⟨rfl, rfl⟩ S.E
 ·obtain ⟨m, hm, h3, hp⟩ := J2 h0
  rw [hp] at h0 hnx
  have hk : inR C.progs (XJ c) := xgC hr h0
  obtain ⟨o1, o2, o3⟩ := xtK hS hm hk
  have hkr : inR c.rest (XJ c) := by unfold inR at *; rw [hr.ok.rest]; exact hk
  obtain ⟨sb, hsb⟩ := VS hr hm
  have hsp : slP w.slk = .pointer (some ⟨sb, 0, none⟩) := by rw [hsb]; rfl
  have hsl : rslkO w.slk c.slk = rslkX sb m := by rw [hsb, hm]; rfl
  have hof : ofC c (XJ c) = ofM m (XJ c) := by unfold ofC; rw [hm]
  rw [hof] at o2
  have hwm : X0 c = Zn (ix c.rest (XJ c)) (ofM m (XJ c)) m.room := by unfold X0; rw [hm]; simp only; rw [if_pos h3, if_neg h0]
  rw [hwm] at hK
  generalize XJ c = k at *
  obtain ⟨q0, q1⟩ := hkr
  obtain ⟨p0, p1⟩ := o3
  obtain ⟨a, ha⟩ : ∃ a, a = ix c.rest k := ⟨_, rfl⟩
  have hmn : Zn (ix c.rest k) (ofM m k) m.room = if m.room < (if ofM m k < a then ofM m k else a) then m.room else (if ofM m k < a then ofM m k else a) := by rw [ha]; rfl
  refine Tr.imp (l' := rslkX sb m :: (Q7 r C c w ++ F)) ?_ ?_
  ·rw [← hsl]
   simp only [ap]
   show Xd [] _ _
   exact S.E
  simp only [ap]
  refine Tr.rslkO (b := sb) (m := m) S.K fun s1 s2 hok => ?_
  have ha' := ha.symm
  clear ha
  refine S.I fun u => ?_
  by_cases c1 : ofM m k < a
  ·rw [if_pos c1] at hmn
   by_cases c2 : m.room < ofM m k
   ·rw [if_pos c2] at hmn
    rw [hmn] at hK
    have hX := I3 hsp @ha' @o2; repeat' (first | rintro _ _ ⟨rfl, rfl⟩ | (refine G.call 82 ?_; refine S.c ?_ (h := hnx)) | refine S.x ?_ | intro hb | fail)
    all_goals
     refine Tr.fin hK ⟨by first | rfl | simp [*], rfl⟩ ?_
     clear hmn
     refine Xd.trans2 (l' := rslkX sb m :: (Q7 r C c w ++ F)) (Xd.rslkX (s1 := s1) (s2 := s2) hok ?_) ?_
     ·simp only [Vu, ap]
      exact S.E
     ·rw [← hsl]
      simp only [ap]
      exact S.E
   ·rw [if_neg c2] at hmn
    rw [hmn] at hK
    have hX := I3 hsp @ha' @o2; repeat' (first | rintro _ _ ⟨rfl, rfl⟩ | (refine G.call 82 ?_; refine S.c ?_ (h := hnx)) | refine S.x ?_ | intro hb | fail)
    all_goals
     refine Tr.fin hK ⟨by first | rfl | simp [*], rfl⟩ ?_
     clear hmn
     refine Xd.trans2 (l' := rslkX sb m :: (Q7 r C c w ++ F)) (Xd.rslkX (s1 := s1) (s2 := s2) hok ?_) ?_
     ·simp only [Vu, ap]
      exact S.E
     ·rw [← hsl]
      simp only [ap]
      exact S.E
  ·rw [if_neg c1] at hmn
   by_cases c2 : m.room < a
   ·rw [if_pos c2] at hmn
    rw [hmn] at hK
    have hX := I3 hsp @ha' @o2; repeat' (first | rintro _ _ ⟨rfl, rfl⟩ | (refine G.call 82 ?_; refine S.c ?_ (h := hnx)) | refine S.x ?_ | intro hb | fail)
    all_goals
     refine Tr.fin hK ⟨by first | rfl | simp [*], rfl⟩ ?_
     clear hmn
     refine Xd.trans2 (l' := rslkX sb m :: (Q7 r C c w ++ F)) (Xd.rslkX (s1 := s1) (s2 := s2) hok ?_) ?_
     ·simp only [Vu, ap]
      exact S.E
     ·rw [← hsl]
      simp only [ap]
      exact S.E
   ·rw [if_neg c2] at hmn
    rw [hmn] at hK
    have hX := I3 hsp @ha' @o2; repeat' (first | rintro _ _ ⟨rfl, rfl⟩ | (refine G.call 82 ?_; refine S.c ?_ (h := hnx)) | refine S.x ?_ | intro hb | fail)
    all_goals
     refine Tr.fin hK ⟨by first | rfl | simp [*], rfl⟩ ?_
     clear hmn
     refine Xd.trans2 (l' := rslkX sb m :: (Q7 r C c w ++ F)) (Xd.rslkX (s1 := s1) (s2 := s2) hok ?_) ?_
     ·simp only [Vu, ap]
      exact S.E
     ·rw [← hsl]
      simp only [ap]
      exact S.E
theorem xjO (hc : okC C) (hr : Xl C c w) : Xb prog 78 #[ptr r] (Xf r C c w)
  fun v l' => v = .int .i64 (JZ c) ∧ l' = Xf r C c w := by
 intro F K hK
 simp only [ap] at hK ⊢
 have hnx := xgf (r := r) hc hr
 by_cases h0 : Yl c < 0
 ·have hwm : JZ c = 0 := by
   unfold JZ
   split
   ·rw [if_pos h0]
   ·rfl
  rw [hwm] at hK
  refine S.I fun u => ?_
  repeat' (first | rintro _ _ ⟨rfl, rfl⟩ | (refine G.call 82 ?_; refine S.c ?_ (h := hnx)) | refine S.x ?_ | fail)
  all_goals exact Tr.fin hK ⟨rfl, rfl⟩ S.E
 ·obtain ⟨m, hm, _, _⟩ := J2 h0
  obtain ⟨sb, hsb⟩ := VS hr hm
  have hsp : slP w.slk = .pointer (some ⟨sb, 0, none⟩) := by rw [hsb]; rfl
  have hsl : rslkO w.slk c.slk = rslkX sb m := by rw [hsb, hm]; rfl
  have hwm : JZ c = Wr m.room m.ms := by unfold JZ; rw [hm]; simp only; rw [if_neg h0]
  rw [hwm] at hK
  simp only [hsl]
  refine S.I fun u => ?_
  have hX := hsp; repeat' (first | rintro _ _ ⟨rfl, rfl⟩ | (refine G.call 82 ?_; refine S.c ?_ (h := hnx)) | refine S.x ?_ | (refine G.call 23 ?_; first | refine S.c ?_ (h := xqY)) | fail)
  all_goals
   refine Tr.fin hK ⟨rfl, rfl⟩ ?_
   simp only [hsl, ap]
   exact S.E
