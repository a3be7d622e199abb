import Derived.Test.YtacmaamllpiloaaGreatHQ
namespace Go.Proofs.YtacmaamllpiloaaGreat
open Go Go.Wk Tryz
set_option maxHeartbeats 3200000
set_option maxRecDepth 100000
section
attribute [local irreducible] BrK Xq Xt Xv XI FnK XZ Xw XC XV opX opK Yq Yk eqR Yj Yo Ys WL WD W X3 XO Tr drewK Ya X4 Yw Yv X1 YB mp blk rob sl sep ex fact old
section
attribute [local irreducible] Yr XT robjX rslkO Yg
section
variable {r : Nat} {C : CC} {c : CM} {w : RW} {k : Int} {s : XE}
theorem xvi (hc : okC C) (hr : Xl C c w) (_hk : inR C.progs k) (hf : few c 22) (_hs : s.ok) (_hz : ix C.conf.slates.d s.a ≤ 300) (h : s.call = 22) :
  Xb prog 140 #[ptr r, .int .i64 k, .agg (En.enc s).toArray] (Xf r C c w)
  fun v l' => ∃ w2, Xl C (XN C c k s) w2 ∧ v = .tuple #[] ∧ l' = Xf r C (XN C c k s) w2 := by
 intro F K hK
 simp only [ap] at hK ⊢
 have hf1 : few c 1 := by unfold few at *; omega
 have hf2 : few c 2 := by unfold few at *; omega
 have hf3 := hf1
 unfold few at hf3
 have h8 := hc.n8
 have htl := Yf hc hr
 have hca : decide (s.call = 20) = false := by rw [h]; rfl
 have hcb : decide (s.call = 21) = false := by rw [h]; rfl
 refine Tr.robjO (r := w.obs) (c := C.conf) (o := c.obs) S.K fun g hg => ?_
 simp only [Y2, ap]
 obtain ⟨l1, l2⟩ := xgY hg
 by_cases hrg : 0 ≤ s.a ∧ s.a < (C.conf.slates.d.length : Int) ∧ s.a < 4
 ·obtain ⟨r1, r2, r3⟩ := hrg
  have h6 : s.a < (g.ys.length : Int) := by omega
  obtain ⟨sz, hsz2⟩ : ∃ sz, sz = ix C.conf.slates.d s.a := ⟨_, rfl⟩
  have hsz := hsz2.symm
  have hsm : XN C c k s = Xa C { c with obs := { c.obs with slates := Wj c.obs.slates s.a } } k 22 (QM c.obs.slates s.a) 0 := by
   unfold XN
   rw [if_pos ⟨r1, r2, r3⟩]
   simp only
   rw [if_pos h]
  rw [hsm] at hK
  have hrn := fun e => Xy (k := k) (call := 22) (code := QM c.obs.slates s.a) (value := 0) (e := e) (Qr (o := { c.obs with slates := Wj c.obs.slates s.a }) hr)
  refine S.I fun u => ?_
  have hX := I4 @Ja.eq_def hca hcb hsz; repeat' (first | intro (bx : Nat) | refine S.x ?_ | intro hb | fail)
  refine Tr.robjF (r := w.obs) (g := g) hg S.T ?_
  clear hg l1 l2 hsz h6
  have hX := I3 @Ja.eq_def hca hcb; repeat' (first | refine S.x ?_ | (refine G.call 71 ?_; refine S.c ?_ (h := Xn ?_)) | (refine G.call 219 ?_; refine S.c ?_ (h := xob)) | rintro _ _ ⟨rfl, rfl⟩ | rintro _ _ ⟨_, rfl, rfl⟩ | (refine G.prop ?_; assumption) | fail)
  all_goals
   rename_i sv
   refine Tr.fin hK ⟨{ w with ev := sv }, hrn sv, rfl, rfl⟩ ?_
   have hX := @Xa.eq_def
   clear h hca hcb
   simp only [ap]
   exact S.E
 ·have hsm : XN C c k s = Xa C c k s.call 3 0 := by unfold XN; rw [if_neg hrg]
  rw [hsm] at hK
  have hrn := fun e => Xy (k := k) (call := s.call) (code := 3) (value := 0) (e := e) hr
  by_cases h5 : s.a < 0
  ·refine S.I fun u => ?_
   have hX := I3 @Ja.eq_def hca hcb; repeat' (first | refine S.x ?_ | (refine G.call 71 ?_; refine S.c ?_ (h := Xn ?_)) | rintro _ _ ⟨_, rfl, rfl⟩ | (refine G.prop ?_; assumption) | intro hb | fail)
   all_goals
    rename_i sv
    refine Tr.robjF (r := w.obs) (g := g) hg S.T ?_
    refine Tr.fin hK ⟨{ w with ev := sv }, hrn sv, rfl, rfl⟩ ?_
    have hX := @Xa.eq_def
    clear h hca hcb hg l1 l2
    simp only [ap]
    exact S.E
  ·have h6 : (g.ys.length : Int) ≤ s.a := by omega
   refine S.I fun u => ?_
   have hX := I3 @Ja.eq_def hca hcb; repeat' (first | refine S.x ?_ | (refine G.call 71 ?_; refine S.c ?_ (h := Xn ?_)) | rintro _ _ ⟨_, rfl, rfl⟩ | (refine G.prop ?_; assumption) | intro hb | fail)
   all_goals
    rename_i sv
    refine Tr.robjF (r := w.obs) (g := g) hg S.T ?_
    refine Tr.fin hK ⟨{ w with ev := sv }, hrn sv, rfl, rfl⟩ ?_
    have hX := @Xa.eq_def
    clear h hca hcb hg l1 l2
    simp only [ap]
    exact S.E
theorem xuZ (hc : okC C) (hr : Xl C c w) (hk : inR C.progs k) (hf : few c 22) (hs : s.ok) (_hz : ix C.conf.slates.d s.a ≤ 300) (h : s.call = 21) :
  Xb prog 140 #[ptr r, .int .i64 k, .agg (En.enc s).toArray] (Xf r C c w)
  fun v l' => ∃ w2, Xl C (XN C c k s) w2 ∧ v = .tuple #[] ∧ l' = Xf r C (XN C c k s) w2 := by
 intro F K hK
 simp only [ap] at hK ⊢
 have hf1 : few c 1 := by unfold few at *; omega
 have hf2 : few c 2 := by unfold few at *; omega
 have hf3 := hf1
 unfold few at hf3
 have h8 := hc.n8
 have htl := Yf hc hr
 have hca : decide (s.call = 20) = false := by rw [h]; rfl
 have hcb : decide (s.call = 21) = true := by rw [h]; rfl
 refine Tr.robjO (r := w.obs) (c := C.conf) (o := c.obs) S.K fun g hg => ?_
 simp only [Y2, ap]
 obtain ⟨l1, l2⟩ := xgY hg
 by_cases hrg : 0 ≤ s.a ∧ s.a < (C.conf.slates.d.length : Int) ∧ s.a < 4
 ·obtain ⟨r1, r2, r3⟩ := hrg
  have h6 : s.a < (g.ys.length : Int) := by omega
  obtain ⟨sz, hsz2⟩ : ∃ sz, sz = ix C.conf.slates.d s.a := ⟨_, rfl⟩
  have hsz := hsz2.symm
  obtain ⟨bs, hbs⟩ : ∃ bs, bs = WI c.obs.slates s.a := ⟨_, rfl⟩
  have hsm : XN C c k s = if ZR c s sz = true then (if WJ c.obs.slates s.a = 0 then WY C c k s bs else YP C c k s []) else JV C c k s := by
   unfold XN
   rw [if_pos ⟨r1, r2, r3⟩, ← hsz2, hbs]
   simp only
   rw [if_neg (by rw [h]; decide), if_pos h]
  rw [hsm] at hK
  clear hsm hsz2
  cases hin : ZR c s sz with
  | true =>
   rw [hin, if_pos rfl] at hK
   have hci := xdj (r := r) (C := C) (w := w) (k := k) hs hin
   refine S.I fun u => ?_
   have hX := I4 @Ja.eq_def hca hcb hsz; repeat' (first | intro (bx : Nat) | refine S.x ?_ | intro hb | fail)
   refine Tr.robjF (r := w.obs) (g := g) hg S.T ?_
   clear hg l1 l2 hsz h6
   by_cases hcd : WJ c.obs.slates s.a = 0
   ·rw [if_pos hcd] at hK
    have hgo := fun s3 => xdh (r := r) (k := k) (s3 := s3) (bs := bs) hr hf1 hs
    have hX := I3 @Ja.eq_def hca hcb; repeat' (first | rintro _ _ ⟨rfl, rfl⟩ | rintro _ _ ⟨_, rfl, rfl⟩ | (refine G.call 205 ?_; refine S.c ?_ (h := hci)) | refine S.x ?_ | (refine G.call 218 ?_; refine S.c ?_ (h := xij)) | fail)
    rename_i s4
    refine Tr.imp (l' := sl true s4.v bs :: (Xf r C c w ++ F)) ?_ ?_
    ·subst hbs
     clear h hca hcb
     simp only [ap]
     show Xd [] _ _
     exact S.E
    clear hr hbs hcd
    simp only [ap]
    have hX := @Ja.eq_def; repeat' (first | rintro _ _ ⟨w3, hr3, rfl, rfl⟩ | (refine G.call 207 ?_; refine S.c ?_ (h := hgo s4)) | refine S.x ?_ | fail)
    all_goals exact Tr.fin hK ⟨w3, hr3, rfl, rfl⟩ S.E
   ·rw [if_neg hcd] at hK
    have hcx := J6 (r := r) (s3 := ⟨none, 0, 0⟩) (bs := []) hc hr hk hf1 hs (Nat.zero_le _)
    have hX := I3 @Ja.eq_def hca hcb; repeat' (first | rintro _ _ ⟨rfl, rfl⟩ | rintro _ _ ⟨_, rfl, rfl⟩ | rintro _ _ ⟨w3, hr3, rfl, rfl⟩ | (refine G.call 205 ?_; refine S.c ?_ (h := hci)) | (refine G.call 208 ?_; refine S.c ?_ (h := hcx)) | refine S.x ?_ | (refine G.call 218 ?_; refine S.c ?_ (h := xij)) | fail)
    all_goals exact Tr.fin hK ⟨w3, hr3, rfl, rfl⟩ S.E
  | false =>
   rw [hin, if_neg (by decide)] at hK
   have hci := xde (r := r) hc hr hk hf2 hs hin
   refine S.I fun u => ?_
   have hX := I4 @Ja.eq_def hca hcb hsz; repeat' (first | intro (bx : Nat) | refine S.x ?_ | intro hb | fail)
   refine Tr.robjF (r := w.obs) (g := g) hg S.T ?_
   clear hg l1 l2 hsz h6
   have hX := I3 @Ja.eq_def hca hcb; repeat' (first | rintro _ _ ⟨w3, hr3, rfl, rfl⟩ | (refine G.call 205 ?_; refine S.c ?_ (h := hci)) | refine S.x ?_ | fail)
   all_goals exact Tr.fin hK ⟨w3, hr3, rfl, rfl⟩ S.E
 ·have hsm : XN C c k s = Xa C c k s.call 3 0 := by unfold XN; rw [if_neg hrg]
  rw [hsm] at hK
  have hrn := fun e => Xy (k := k) (call := s.call) (code := 3) (value := 0) (e := e) hr
  by_cases h5 : s.a < 0
  ·refine S.I fun u => ?_
   have hX := I3 @Ja.eq_def hca hcb; repeat' (first | refine S.x ?_ | (refine G.call 71 ?_; refine S.c ?_ (h := Xn ?_)) | rintro _ _ ⟨_, rfl, rfl⟩ | (refine G.prop ?_; assumption) | intro hb | fail)
   all_goals
    rename_i sv
    refine Tr.robjF (r := w.obs) (g := g) hg S.T ?_
    refine Tr.fin hK ⟨{ w with ev := sv }, hrn sv, rfl, rfl⟩ ?_
    have hX := @Xa.eq_def
    clear h hca hcb hg l1 l2
    simp only [ap]
    exact S.E
  ·have h6 : (g.ys.length : Int) ≤ s.a := by omega
   refine S.I fun u => ?_
   have hX := I3 @Ja.eq_def hca hcb; repeat' (first | refine S.x ?_ | (refine G.call 71 ?_; refine S.c ?_ (h := Xn ?_)) | rintro _ _ ⟨_, rfl, rfl⟩ | (refine G.prop ?_; assumption) | intro hb | fail)
   all_goals
    rename_i sv
    refine Tr.robjF (r := w.obs) (g := g) hg S.T ?_
    refine Tr.fin hK ⟨{ w with ev := sv }, hrn sv, rfl, rfl⟩ ?_
    have hX := @Xa.eq_def
    clear h hca hcb hg l1 l2
    simp only [ap]
    exact S.E
theorem xuj (hc : okC C) (hr : Xl C c w) (hk : inR C.progs k) (hf : few c 22) (hs : s.ok) (hz : ix C.conf.slates.d s.a ≤ 300) (h : s.call = 20) :
  Xb prog 140 #[ptr r, .int .i64 k, .agg (En.enc s).toArray] (Xf r C c w)
  fun v l' => ∃ w2, Xl C (XN C c k s) w2 ∧ v = .tuple #[] ∧ l' = Xf r C (XN C c k s) w2 := by
 intro F K hK
 simp only [ap] at hK ⊢
 have hf1 : few c 1 := by unfold few at *; omega
 have hf2 : few c 2 := by unfold few at *; omega
 have hf3 := hf1
 unfold few at hf3
 have h8 := hc.n8
 have htl := Yf hc hr
 have hca : decide (s.call = 20) = true := by rw [h]; rfl
 have hcb : decide (s.call = 21) = false := by rw [h]; rfl
 refine Tr.robjO (r := w.obs) (c := C.conf) (o := c.obs) S.K fun g hg => ?_
 simp only [Y2, ap]
 obtain ⟨l1, l2⟩ := xgY hg
 by_cases hrg : 0 ≤ s.a ∧ s.a < (C.conf.slates.d.length : Int) ∧ s.a < 4
 ·obtain ⟨r1, r2, r3⟩ := hrg
  have h6 : s.a < (g.ys.length : Int) := by omega
  obtain ⟨sz, hsz2⟩ : ∃ sz, sz = ix C.conf.slates.d s.a := ⟨_, rfl⟩
  have hsz := hsz2.symm
  obtain ⟨bs, hbs⟩ : ∃ bs, bs = ldB c.mem s.b s.c := ⟨_, rfl⟩
  obtain ⟨c0, hc0⟩ : ∃ c0 : CM, c0 = Xa C { c with obs := { c.obs with slates := QC c.obs.slates s.a bs } } k 20 (Qq c.obs.slates s.a bs.length) 0 := ⟨_, rfl⟩
  obtain ⟨R, hR⟩ : ∃ R, R = Z5 C s.a bs 20 c0 := ⟨_, rfl⟩
  have hsm : XN C c k s = if Zx c s sz = true then R else Jb C c k s sz := by
   rw [hR, hc0, hbs]
   unfold XN
   rw [if_pos ⟨r1, r2, r3⟩, ← hsz2]
   simp only
   rw [if_neg (by rw [h]; decide), if_neg (by rw [h]; decide)]
  rw [hsm] at hK
  rw [← hsz2] at hz
  clear hsm hsz2
  cases hfr : Zx c s sz with
  | true =>
   rw [hfr, if_pos rfl] at hK
   have hle : bs.length ≤ 300 := by rw [hbs]; exact JE hfr hz
   have hci := xgZ (r := r) (C := C) (w := w) (k := k) hs hfr
   rw [← hbs] at hci
   have hr0 : ∀ e, Xl C c0 { w with ev := e } := fun e => by rw [hc0]; exact Xy (Qr hr)
   have hf4 : few c0 20 := by unfold few at *; rw [hc0]; simp only [Xa, List.length_append, List.length_cons, List.length_nil]; omega
   refine S.I fun u => ?_
   have hX := I4 @Ja.eq_def hca hcb hsz; repeat' (first | intro (bx : Nat) | refine S.x ?_ | intro hb | fail)
   refine Tr.robjF (r := w.obs) (g := g) hg S.T ?_
   clear hg l1 l2 hsz h6
   have hX := I3 @Ja.eq_def hca hcb; repeat' (first | rintro _ _ ⟨rfl, rfl⟩ | rintro _ _ ⟨_, rfl, rfl⟩ | (refine G.call 209 ?_; refine S.c ?_ (h := hci)) | refine S.x ?_ | (refine G.call 71 ?_; refine S.c ?_ (h := Xn ?_)) | (refine G.call 217 ?_; refine S.c ?_ (h := xoY)) | (refine G.prop ?_; assumption) | fail)
   rename_i s4 sv
   refine Tr.imp (l' := blk bx (.cells (En.enc s).toArray 86 (0, 0)) :: sl true s4.v bs :: Xf r C c0 { w with ev := sv } ++ F) ?_ ?_
   ·subst hc0
    clear h hca hcb
    simp only [ap]
    have hX := @Xa.eq_def
    show Xd [] _ _
    exact S.E
   have hrs := hr0 sv
   obtain ⟨w9, hw9⟩ : ∃ w9 : RW, w9 = { w with ev := sv } := ⟨_, rfl⟩
   rw [← hw9] at hrs ⊢
   clear hw9 hc0 hr0 hr htl hf hf1 hf2 hf3 hbs hci
   simp only [ap]
   refine Tr.loopE (α := Nat × CM × RW) [9] [0, 1, 5, 6, 7, 44] (fun x => [.int .i64 x.1]) (fun x => Xf r C x.2.1 x.2.2) (fun x => x.1 ≤ 20 ∧ Z5 C s.a bs (20 - x.1) x.2.1 = R ∧ few x.2.1 (20 - x.1) ∧ Xl C x.2.1 x.2.2) (fun x => 20 - x.1) (0, c0, w9) S.T rfl ⟨by simp only; omega, hR.symm, hf4, hrs⟩ fun x u hx => ?_
   obtain ⟨n, c1, w1⟩ := x
   obtain ⟨hn, he, hf1, hr1⟩ := hx
   simp only at hn he hf1 hr1 ⊢
   simp only [ap]
   have htl := Yf hc hr1
   clear hrs hf4 hR
   by_cases hn9 : n < 20
   ·have hw := Xo (k := n) S.o
    by_cases h0 : c1.tb.best (One.waits 21 s.a) < 0
    ·rw [xbY h0] at he
     rw [← he] at hK
     have hX := And.intro @Ja.eq_def hw; repeat' (first | refine S.x ?_ | (refine G.call 128 ?_; refine S.c ?_ (h := X5 ‹_›)) | rintro _ _ ⟨rfl, rfl⟩ | fail)
     all_goals
      refine Tr.fin hK ⟨w1, hr1, rfl, rfl⟩ ?_
      clear h hca hcb
      exact S.E
    ·have hkw : inR C.progs (c1.tb.best (One.waits 21 s.a)) := V9 hr1 h0
     obtain ⟨n9, hn9'⟩ : ∃ n9, 20 - n = n9 + 1 := ⟨19 - n, by omega⟩
     have hpk : XB c1 21 s.a = c1.tb.best (One.waits 21 s.a) := rfl
     rw [hn9'] at he
     unfold Z5 at he
     rw [hpk, if_neg h0] at he
     obtain ⟨kw, hkk⟩ : ∃ kw, kw = c1.tb.best (One.waits 21 s.a) := ⟨_, rfl⟩
     have hpk' : c1.tb.best (One.waits 21 s.a) = kw := hkk.symm
     rw [← hkk] at he h0 hkw
     clear hkk hpk
     obtain ⟨c3, hc3⟩ : ∃ c3 : CM, c3 = Zy C c1 kw 21 bs := ⟨_, rfl⟩
     rw [← hc3] at he
     have he3 : Z5 C s.a bs (20 - (n + 1)) c3 = R := by rw [show 20 - (n + 1) = n9 by omega]; exact he
     have hf2 : few c1 1 := by unfold few at *; omega
     have hf3 : few c3 (20 - (n + 1)) := by
      have hev3 : c3.evs.length = c1.evs.length + 1 := by rw [hc3]; simp [Zy, Zc, Xa, XW]
      unfold few at *
      rw [hev3]; omega
     have hco := xar (r := r) (call := 21) (s3 := s4) (bs := bs) hc hr1 hkw hf2
     rw [← hc3] at hco
     clear hr1 hc3
     have hX := I3 @Ja.eq_def hw @hpk'; repeat' (first | rintro _ _ ⟨rfl, rfl⟩ | rintro _ _ ⟨w3, hr3, rfl, rfl⟩ | (refine G.call 131 ?_; refine S.c ?_ (h := hco)) | refine S.x ?_ | (refine G.call 128 ?_; refine S.c ?_ (h := X5 ‹_›)) | fail)
     all_goals
      clear h hpk' hca hcb
      exact S.R ((n + 1, c3, w3) : Nat × CM × RW)
   ·have e0 : 20 - n = 0 := by omega
    rw [e0] at he
    have he' : c1 = R := he
    rw [← he'] at hK
    have hX := @Ja.eq_def; repeat' (first | refine S.x ?_ | fail)
    all_goals
     refine Tr.fin hK ⟨w1, hr1, rfl, rfl⟩ ?_
     clear h hca hcb
     exact S.E
  | false =>
   rw [hfr, if_neg (by decide)] at hK
   have hci := xgv (r := r) hc hr hk hf2 hs hfr
   refine S.I fun u => ?_
   have hX := I4 @Ja.eq_def hca hcb hsz; repeat' (first | intro (bx : Nat) | refine S.x ?_ | intro hb | fail)
   refine Tr.robjF (r := w.obs) (g := g) hg S.T ?_
   clear hg l1 l2 hsz h6
   have hX := I3 @Ja.eq_def hca hcb; repeat' (first | rintro _ _ ⟨s4, w3, hr3, rfl, rfl⟩ | (refine G.call 209 ?_; refine S.c ?_ (h := hci)) | refine S.x ?_ | fail)
   all_goals exact Tr.fin hK ⟨w3, hr3, rfl, rfl⟩ S.E
 ·have hsm : XN C c k s = Xa C c k s.call 3 0 := by unfold XN; rw [if_neg hrg]
  rw [hsm] at hK
  have hrn := fun e => Xy (k := k) (call := s.call) (code := 3) (value := 0) (e := e) hr
  by_cases h5 : s.a < 0
  ·refine S.I fun u => ?_
   have hX := I3 @Ja.eq_def hca hcb; repeat' (first | refine S.x ?_ | (refine G.call 71 ?_; refine S.c ?_ (h := Xn ?_)) | rintro _ _ ⟨_, rfl, rfl⟩ | (refine G.prop ?_; assumption) | intro hb | fail)
   all_goals
    rename_i sv
    refine Tr.robjF (r := w.obs) (g := g) hg S.T ?_
    refine Tr.fin hK ⟨{ w with ev := sv }, hrn sv, rfl, rfl⟩ ?_
    have hX := @Xa.eq_def
    clear h hca hcb hg l1 l2
    simp only [ap]
    exact S.E
  ·have h6 : (g.ys.length : Int) ≤ s.a := by omega
   refine S.I fun u => ?_
   have hX := I3 @Ja.eq_def hca hcb; repeat' (first | refine S.x ?_ | (refine G.call 71 ?_; refine S.c ?_ (h := Xn ?_)) | rintro _ _ ⟨_, rfl, rfl⟩ | (refine G.prop ?_; assumption) | intro hb | fail)
   all_goals
    rename_i sv
    refine Tr.robjF (r := w.obs) (g := g) hg S.T ?_
    refine Tr.fin hK ⟨{ w with ev := sv }, hrn sv, rfl, rfl⟩ ?_
    have hX := @Xa.eq_def
    clear h hca hcb hg l1 l2
    simp only [ap]
    exact S.E
theorem xnN (hc : okC C) (hr : Xl C c w) (hk : inR C.progs k) (hf : few c 22) (hs : s.ok) (hz : ix C.conf.slates.d s.a ≤ 300) (h0 : 20 ≤ s.call) (h1 : s.call ≤ 22) :
  Xb prog 140 #[ptr r, .int .i64 k, .agg (En.enc s).toArray] (Xf r C c w)
  fun v l' => ∃ w2, Xl C (XN C c k s) w2 ∧ v = .tuple #[] ∧ l' = Xf r C (XN C c k s) w2 := by
 by_cases e : s.call = 20
 ·exact xuj hc hr hk hf hs hz e
 ·by_cases e2 : s.call = 21
  ·exact xuZ hc hr hk hf hs hz e2
  ·exact xvi hc hr hk hf hs hz S.o
