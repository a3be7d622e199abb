import Derived.Test.YtacmaamllpiloaaGreatHP
namespace Go.Proofs.YtacmaamllpiloaaGreat
open Go Go.Wk Tryz
set_option maxHeartbeats 3200000
set_option maxRecDepth 100000
theorem Tr.robjO {r : Nat} {c : YF} {o : ObM} {l F : List Xc} {X : WP} (ht : Xm l (robjX r c o) F) (h : ∀ g : RoG, g.ok c o → Tr (Y2 r c g ++ F) X) : Tr l X :=
 Tr.imp ht (Tr.pk fun g hg => h g hg)
theorem Tr.robjF {r : Nat} {c : YF} {o : ObM} {g : RoG} {l F : List Xc} {X : WP} (hg : g.ok c o) (ht : YK l (Y2 r c g) F) (h : Tr (robjX r c o :: F) X) : Tr l X :=
 Tr.imp ht (Tr.imp (Imp.pk (f := fun g : RoG => Y2 r c g) (p := fun g => g.ok c o) g hg) h)
theorem xlw {c : YF} {o : ObM} {g : RoG} (hg : g.ok c o) : g.xs.length = o.pools.length ∧ o.pools.length = min 4 c.pools.d.length := by
 have e1 := congrArg List.length hg.hx
 have e2 := congrArg List.length hg.hp
 have e3 := congrArg List.length hg.ho.p
 simp only [List.length_map, List.length_take] at e1 e2 e3
 exact ⟨e1.trans e2, e3⟩
theorem xgY {c : YF} {o : ObM} {g : RoG} (hg : g.ok c o) : g.ys.length = o.slates.length ∧ o.slates.length = min 4 c.slates.d.length := by
 have e1 := congrArg List.length hg.hy
 have e2 := congrArg List.length hg.hl
 have e3 := congrArg List.length hg.ho.l
 simp only [List.length_map, List.length_take] at e1 e2 e3
 exact ⟨e1.trans e2, e3⟩
section
attribute [local irreducible] BrK Xq Xt Xv XI FnK XZ Xw XC XV opX opK Yq Yk eqR Yj Yo Ys WL WD W X3 XO Tr drewK Ya X4 Yw Yv X1 YB mp blk rob sl sep ex fact old
section
attribute [local irreducible] Yr XT robjX rslkO Yg
section
variable {r : Nat} {C : CC} {c : CM} {w : RW} {k : Int} {s : XE}
theorem xt4 (hc : okC C) (hr : Xl C c w) (hk : inR C.progs k) (hf : few c 22) (hs : s.ok) (_hz : (ix C.conf.pools.d s.a).size ≤ 300) (h : s.call = 19) :
  Xb prog 139 #[ptr r, .int .i64 k, .agg (En.enc s).toArray] (Xf r C c w)
  fun v l' => ∃ w2, Xl C (Yn C c k s) w2 ∧ v = .tuple #[] ∧ l' = Xf r C (Yn C c k s) w2 := by
 intro F K hK
 simp only [ap] at hK ⊢
 have hf1 : few c 1 := by unfold few at *; omega
 have hf2 : few c 2 := by unfold few at *; omega
 have hf3 := hf1
 unfold few at hf3
 have h8 := hc.n8
 have htl := Yf hc hr
 have hca : decide (s.call = 19) = true := by rw [h]; rfl
 refine Tr.robjO (r := w.obs) (c := C.conf) (o := c.obs) S.K fun g hg => ?_
 simp only [Y2, ap]
 obtain ⟨l1, l2⟩ := xlw hg
 by_cases hrg : 0 ≤ s.a ∧ s.a < (C.conf.pools.d.length : Int) ∧ s.a < 4
 ·obtain ⟨r1, r2, r3⟩ := hrg
  have h6 : s.a < (g.xs.length : Int) := by omega
  obtain ⟨sz, hsz2⟩ : ∃ sz, sz = (ix C.conf.pools.d s.a).size := ⟨_, rfl⟩
  have hsz := hsz2.symm
  obtain ⟨c1, hc1⟩ : ∃ c1 : CM, c1 = { c with obs := { c.obs with pools := xap c.obs.pools s.a } } := ⟨_, rfl⟩
  obtain ⟨bs, hbs⟩ : ∃ bs, bs = Wg c.obs.pools s.a := ⟨_, rfl⟩
  have hsm : Yn C c k s = if ZR c s sz = true then (if Jy c.obs.pools s.a = 0 then ZD C (WY C c1 k s bs) s.a else YP C c1 k s []) else JV C c k s := by
   unfold Yn
   rw [if_pos ⟨r1, r2, r3⟩, ← hsz2, hc1, hbs]
   simp only
   rw [if_pos h]
  rw [hsm] at hK
  clear hsm hsz2
  have hr1 : Xl C c1 w := by rw [hc1]; exact Qr hr
  have hf4 : few c1 1 := by rw [hc1]; exact hf1
  have hf5 : few c1 2 := by rw [hc1]; exact hf2
  cases hin : ZR c s sz with
  | true =>
   rw [hin, if_pos rfl] at hK
   have hci := xdj (r := r) (C := C) (w := w) (k := k) hs hin
   refine S.I fun u => ?_
   have hX := I3 @ZX.eq_def hca hsz; repeat' (first | intro (bx : Nat) | refine S.x ?_ | intro hb | fail)
   refine Tr.robjF (r := w.obs) (g := g) hg S.T ?_
   clear hg l1 l2 hsz h6
   by_cases hcd : Jy c.obs.pools s.a = 0
   ·rw [if_pos hcd] at hK
    have hgo := fun s3 => xdh (r := r) (k := k) (s3 := s3) (bs := bs) hr1 hf4 hs
    obtain ⟨c2, hc2⟩ : ∃ c2, c2 = WY C c1 k s bs := ⟨_, rfl⟩
    have hf6 : few c2 1 := by
     unfold few at *
     rw [hc2]; simp only [WY, Xa, List.length_append, List.length_cons, List.length_nil]; omega
    rw [← hc2] at hgo hK
    have hX := And.intro @ZX.eq_def hca; repeat' (first | rintro _ _ ⟨rfl, rfl⟩ | rintro _ _ ⟨_, rfl, rfl⟩ | (refine G.call 205 ?_; refine S.c ?_ (h := hci)) | refine S.x ?_ | (refine G.call 215 ?_; refine S.c ?_ (h := xmq)) | fail)
    rename_i s4
    refine Tr.imp (l' := blk bx (.cells (En.enc s).toArray 86 (0, 0)) :: sl true s4.v bs :: (Xf r C c1 w ++ F)) ?_ ?_
    ·subst hc1 hbs
     clear h hca
     simp only [ap]
     show Xd [] _ _
     exact S.E
    clear hc1 hc2 hr1 hr hbs hcd
    simp only [ap]
    refine S.c ?_ (h := hgo s4)
    rintro _ _ ⟨w3, hr3, rfl, rfl⟩
    simp only [ap]
    have htl2 := Yf hc hr3
    by_cases h0 : c2.tb.best (One.waits 18 s.a) < 0
    ·have hrm : ZD C c2 s.a = c2 := by unfold ZD XB; rw [if_pos h0]
     rw [hrm] at hK
     have hX := @ZX.eq_def; repeat' (first | refine S.x ?_ | (refine G.call 128 ?_; refine S.c ?_ (h := X5 ‹_›)) | rintro _ _ ⟨rfl, rfl⟩ | fail)
     all_goals
      refine Tr.fin hK ⟨w3, hr3, rfl, rfl⟩ ?_
      clear h hca
      exact S.E
    ·have hkw := V9 hr3 h0
     have hdd := xlO hr3 hkw
     have hdl : w3.dx.length = C.progs.length := by have := hr3.hd; rw [← hr3.ok.data, ← this, List.length_map]
     obtain ⟨kw, hkk⟩ : ∃ kw, kw = c2.tb.best (One.waits 18 s.a) := ⟨_, rfl⟩
     have hpk' : c2.tb.best (One.waits 18 s.a) = kw := hkk.symm
     obtain ⟨c4, hc4⟩ : ∃ c4 : CM, c4 = { c2 with obs := { c2.obs with pools := xbK c2.obs.pools s.a (ix w3.dx kw).d } } := ⟨_, rfl⟩
     have hrm : ZD C c2 s.a = if Vs c2.obs.pools s.a (ix w3.dx kw).d.length = 0 then Zc C c4 kw 18 0 0 else c4 := by
      rw [hc4, hkk, hdd]
      unfold ZD XB
      rw [if_neg h0]
     rw [hrm] at hK
     have hr4 : Xl C c4 w3 := by rw [hc4]; exact Qr hr3
     have hf7 : few c4 1 := by rw [hc4]; exact hf6
     rw [← hkk] at hkw h0 hdd
     clear hkk hrm hdd
     obtain ⟨k0, k1⟩ := id hkw
     by_cases hpc : Vs c2.obs.pools s.a (ix w3.dx kw).d.length = 0
     ·rw [if_pos hpc] at hK
      have hcx := QN (r := r) (k := kw) (call := 18) (code := 0) (value := 0) hc hr4 hf7
      have hX := And.intro @ZX.eq_def @hpk'; repeat' (first | refine S.x ?_ | (refine G.call 128 ?_; refine S.c ?_ (h := X5 ‹_›)) | (refine G.call 216 ?_; refine S.c ?_ (h := xcd)) | rintro _ _ ⟨rfl, rfl⟩ | intro hb | fail)
      refine Tr.imp (l' := Xf r C c4 w3 ++ F) ?_ ?_
      ·subst hc4
       clear h hca hpk'
       simp only [ap]
       show Xd [] _ _
       exact S.E
      clear hc4 hr4 hr3
      simp only [ap]
      have hX := @ZX.eq_def; repeat' (first | rintro _ _ ⟨w5, hr5, rfl, rfl⟩ | (refine G.call 75 ?_; refine S.c ?_ (h := hcx)) | refine S.x ?_ | fail)
      all_goals exact Tr.fin hK ⟨w5, hr5, rfl, rfl⟩ S.E
     ·rw [if_neg hpc] at hK
      have hX := And.intro @ZX.eq_def @hpk'; repeat' (first | refine S.x ?_ | (refine G.call 128 ?_; refine S.c ?_ (h := X5 ‹_›)) | (refine G.call 216 ?_; refine S.c ?_ (h := xcd)) | rintro _ _ ⟨rfl, rfl⟩ | intro hb | fail)
      all_goals
       refine Tr.fin hK ⟨w3, hr4, rfl, rfl⟩ ?_
       subst hc4
       clear h hca hpk'
       simp only [ap]
       exact S.E
   ·rw [if_neg hcd] at hK
    have hcx := J6 (r := r) (s3 := ⟨none, 0, 0⟩) (bs := []) hc hr1 hk hf4 hs (Nat.zero_le _)
    have hX := And.intro @ZX.eq_def hca; repeat' (first | rintro _ _ ⟨rfl, rfl⟩ | rintro _ _ ⟨_, rfl, rfl⟩ | (refine G.call 205 ?_; refine S.c ?_ (h := hci)) | refine S.x ?_ | (refine G.call 215 ?_; refine S.c ?_ (h := xmq)) | fail)
    refine Tr.imp (l' := Xf r C c1 w ++ F) ?_ ?_
    ·subst hc1
     clear h hca
     simp only [ap]
     show Xd [] _ _
     exact S.E
    clear hc1 hr1 hr hbs
    simp only [ap]
    have hX := @ZX.eq_def; repeat' (first | rintro _ _ ⟨w3, hr3, rfl, rfl⟩ | (refine G.call 208 ?_; refine S.c ?_ (h := hcx)) | refine S.x ?_ | fail)
    all_goals exact Tr.fin hK ⟨w3, hr3, rfl, rfl⟩ S.E
  | false =>
   rw [hin, if_neg (by decide)] at hK
   have hci := xde (r := r) hc hr hk hf2 hs hin
   refine S.I fun u => ?_
   have hX := I3 @ZX.eq_def hca hsz; repeat' (first | intro (bx : Nat) | refine S.x ?_ | intro hb | fail)
   refine Tr.robjF (r := w.obs) (g := g) hg S.T ?_
   clear hg l1 l2 hsz h6
   have hX := And.intro @ZX.eq_def hca; repeat' (first | rintro _ _ ⟨w3, hr3, rfl, rfl⟩ | (refine G.call 205 ?_; refine S.c ?_ (h := hci)) | refine S.x ?_ | fail)
   all_goals exact Tr.fin hK ⟨w3, hr3, rfl, rfl⟩ S.E
 ·have hsm : Yn C c k s = Xa C c k s.call 3 0 := by unfold Yn; rw [if_neg hrg]
  rw [hsm] at hK
  have hrn := fun e => Xy (k := k) (call := s.call) (code := 3) (value := 0) (e := e) hr
  by_cases h5 : s.a < 0
  ·refine S.I fun u => ?_
   have hX := And.intro @ZX.eq_def hca; repeat' (first | refine S.x ?_ | (refine G.call 71 ?_; refine S.c ?_ (h := Xn ?_)) | rintro _ _ ⟨_, rfl, rfl⟩ | (refine G.prop ?_; assumption) | intro hb | fail)
   all_goals
    rename_i sv
    refine Tr.robjF (r := w.obs) (g := g) hg S.T ?_
    refine Tr.fin hK ⟨{ w with ev := sv }, hrn sv, rfl, rfl⟩ ?_
    have hX := @Xa.eq_def
    clear h hca hg l1 l2
    simp only [ap]
    exact S.E
  ·have h6 : (g.xs.length : Int) ≤ s.a := by omega
   refine S.I fun u => ?_
   have hX := And.intro @ZX.eq_def hca; repeat' (first | refine S.x ?_ | (refine G.call 71 ?_; refine S.c ?_ (h := Xn ?_)) | rintro _ _ ⟨_, rfl, rfl⟩ | (refine G.prop ?_; assumption) | intro hb | fail)
   all_goals
    rename_i sv
    refine Tr.robjF (r := w.obs) (g := g) hg S.T ?_
    refine Tr.fin hK ⟨{ w with ev := sv }, hrn sv, rfl, rfl⟩ ?_
    have hX := @Xa.eq_def
    clear h hca hg l1 l2
    simp only [ap]
    exact S.E
theorem xuH (hc : okC C) (hr : Xl C c w) (hk : inR C.progs k) (hf : few c 22) (hs : s.ok) (hz : (ix C.conf.pools.d s.a).size ≤ 300) (h : s.call = 18) :
    Xb prog 139 #[ptr r, .int .i64 k, .agg (En.enc s).toArray] (Xf r C c w)
    fun v l' => ∃ w2, Xl C (Yn C c k s) w2 ∧ v = .tuple #[] ∧ l' = Xf r C (Yn C c k s) w2 := by
  intro F K hK
  simp only [ap] at hK ⊢
  have hf1 : few c 1 := by unfold few at *; omega
  have hf2 : few c 2 := by unfold few at *; omega
  have hf3 := hf1
  unfold few at hf3
  have h8 := hc.n8
  have htl := Yf hc hr
  have hca : decide (s.call = 19) = false := by rw [h]; rfl
  refine Tr.robjO (r := w.obs) (c := C.conf) (o := c.obs) S.K fun g hg => ?_
  simp only [Y2, ap]
  obtain ⟨l1, l2⟩ := xlw hg
  by_cases hrg : 0 ≤ s.a ∧ s.a < (C.conf.pools.d.length : Int) ∧ s.a < 4
  · obtain ⟨r1, r2, r3⟩ := hrg
    have h6 : s.a < (g.xs.length : Int) := by omega
    obtain ⟨sz, hsz2⟩ : ∃ sz, sz = (ix C.conf.pools.d s.a).size := ⟨_, rfl⟩
    have hsz := hsz2.symm
    obtain ⟨bs, hbs⟩ : ∃ bs, bs = ldB c.mem s.b s.c := ⟨_, rfl⟩
    obtain ⟨c1, hc1⟩ : ∃ c1 : CM, c1 = { c with obs := { c.obs with pools := xbK c.obs.pools s.a bs } } := ⟨_, rfl⟩
    have hsm : Yn C c k s = if Zx c s sz = true then (if 0 ≤ c.tb.best (One.waits 19 s.a) then Zy C (Xa C c k 18 0 0) (c.tb.best (One.waits 19 s.a)) 19 bs
         else if Vs c.obs.pools s.a bs.length = 0 then Xa C c1 k 18 0 0 else YP C c1 k s bs) else Jb C c k s sz := by
      unfold Yn XB
      rw [if_pos ⟨r1, r2, r3⟩, ← hsz2, hc1, hbs]
      simp only
      rw [if_neg (by rw [h]; decide)]
    rw [hsm] at hK
    rw [← hsz2] at hz
    clear hsm hsz2
    cases hfr : Zx c s sz with
    | true =>
      rw [hfr, if_pos rfl] at hK
      have hle : bs.length ≤ 300 := by rw [hbs]; exact JE hfr hz
      have hci := xgZ (r := r) (C := C) (w := w) (k := k) hs hfr
      rw [← hbs] at hci
      refine S.I fun u => ?_
      have hX := I3 @ZX.eq_def hca hsz; repeat' (first | intro (bx : Nat) | refine S.x ?_ | intro hb | fail)
      refine Tr.robjF (r := w.obs) (g := g) hg S.T ?_
      clear hg l1 l2 hsz h6
      by_cases h0 : 0 ≤ c.tb.best (One.waits 19 s.a)
      · rw [if_pos h0] at hK
        have hkw : inR C.progs (c.tb.best (One.waits 19 s.a)) := V9 hr (Int.not_lt.2 h0)
        obtain ⟨c2, hc2⟩ : ∃ c2 : CM, c2 = Xa C c k 18 0 0 := ⟨_, rfl⟩
        have hr2 : ∀ e, Xl C c2 { w with ev := e } := fun e => by rw [hc2]; exact Xy hr
        have hf4 : few c2 1 := by unfold few at *; rw [hc2]; simp only [Xa, List.length_append, List.length_cons, List.length_nil]; omega
        have hcx := fun e s4 => xar (r := r) (call := 19) (s3 := s4) (bs := bs) hc (hr2 e) hkw hf4
        rw [← hc2] at hK
        have hX := And.intro @ZX.eq_def hca; repeat' (first | rintro _ _ ⟨rfl, rfl⟩ | rintro _ _ ⟨_, rfl, rfl⟩ | (refine G.call 209 ?_; refine S.c ?_ (h := hci)) | refine S.x ?_ | (refine G.call 71 ?_; refine S.c ?_ (h := Xn ?_)) | (refine G.call 128 ?_; refine S.c ?_ (h := X5 ‹_›)) | (refine G.prop ?_; assumption) | fail)
        rename_i s4 sv
        refine Tr.imp (l' := sl true s4.v bs :: (Xf r C c2 { w with ev := sv } ++ F)) ?_ ?_
        · subst hc2
          clear h hca
          simp only [ap]
          have hX := @Xa.eq_def
          show Xd [] _ _
          exact S.E
        clear hc2 hr2 hr hc1 hbs
        simp only [ap]
        have hX := @ZX.eq_def; repeat' (first | rintro _ _ ⟨w3, hr3, rfl, rfl⟩ | (refine G.call 131 ?_; refine S.c ?_ (h := hcx sv s4)) | refine S.x ?_ | fail)
        all_goals exact Tr.fin hK ⟨w3, hr3, rfl, rfl⟩ S.E
      · rw [if_neg h0] at hK
        have hr1 : Xl C c1 w := by rw [hc1]; exact Qr hr
        have hf4 : few c1 1 := by rw [hc1]; exact hf1
        by_cases hcd : Vs c.obs.pools s.a bs.length = 0
        · rw [if_pos hcd] at hK
          have hrn := fun e => Xy (k := k) (call := 18) (code := 0) (value := 0) (e := e) hr1
          have hX := And.intro @ZX.eq_def hca; repeat' (first | rintro _ _ ⟨rfl, rfl⟩ | rintro _ _ ⟨_, rfl, rfl⟩ | (refine G.call 209 ?_; refine S.c ?_ (h := hci)) | refine S.x ?_ | (refine G.call 71 ?_; refine S.c ?_ (h := Xn ?_)) | (refine G.call 128 ?_; refine S.c ?_ (h := X5 ‹_›)) | (refine G.call 216 ?_; refine S.c ?_ (h := xcd)) | (refine G.prop ?_; assumption) | fail)
          all_goals
            rename_i s4 sv
            refine Tr.fin hK ⟨{ w with ev := sv }, hrn sv, rfl, rfl⟩ ?_
            subst hc1
            clear h hca
            simp only [ap]
            have hX := @Xa.eq_def
            exact S.E
        · rw [if_neg hcd] at hK
          have hcx := fun s3 => J6 (r := r) (s3 := s3) (bs := bs) hc hr1 hk hf4 hs hle
          have hX := And.intro @ZX.eq_def hca; repeat' (first | rintro _ _ ⟨rfl, rfl⟩ | rintro _ _ ⟨s4, rfl, rfl⟩ | (refine G.call 209 ?_; refine S.c ?_ (h := hci)) | refine S.x ?_ | (refine G.call 128 ?_; refine S.c ?_ (h := X5 ‹_›)) | (refine G.call 216 ?_; refine S.c ?_ (h := xcd)) | fail)
          refine Tr.imp (l' := sl true s4.v bs :: (Xf r C c1 w ++ F)) ?_ ?_
          · subst hc1
            clear h hca
            simp only [ap]
            show Xd [] _ _
            exact S.E
          clear hc1 hr1 hr hbs
          simp only [ap]
          have hX := @ZX.eq_def; repeat' (first | rintro _ _ ⟨w3, hr3, rfl, rfl⟩ | (refine G.call 208 ?_; refine S.c ?_ (h := hcx s4)) | refine S.x ?_ | fail)
          all_goals exact Tr.fin hK ⟨w3, hr3, rfl, rfl⟩ S.E
    | false =>
      rw [hfr, if_neg (by decide)] at hK
      have hci := xgv (r := r) hc hr hk hf2 hs hfr
      refine S.I fun u => ?_
      have hX := I3 @ZX.eq_def hca hsz; repeat' (first | intro (bx : Nat) | refine S.x ?_ | intro hb | fail)
      refine Tr.robjF (r := w.obs) (g := g) hg S.T ?_
      clear hg l1 l2 hsz h6
      have hX := And.intro @ZX.eq_def hca; repeat' (first | rintro _ _ ⟨s4, w3, hr3, rfl, rfl⟩ | (refine G.call 209 ?_; refine S.c ?_ (h := hci)) | refine S.x ?_ | fail)
      all_goals exact Tr.fin hK ⟨w3, hr3, rfl, rfl⟩ S.E
  · have hsm : Yn C c k s = Xa C c k s.call 3 0 := by unfold Yn; rw [if_neg hrg]
    rw [hsm] at hK
    have hrn := fun e => Xy (k := k) (call := s.call) (code := 3) (value := 0) (e := e) hr
    by_cases h5 : s.a < 0
    · refine S.I fun u => ?_
      have hX := And.intro @ZX.eq_def hca; repeat' (first | refine S.x ?_ | (refine G.call 71 ?_; refine S.c ?_ (h := Xn ?_)) | rintro _ _ ⟨_, rfl, rfl⟩ | (refine G.prop ?_; assumption) | intro hb | fail)
      all_goals
        rename_i sv
        refine Tr.robjF (r := w.obs) (g := g) hg S.T ?_
        refine Tr.fin hK ⟨{ w with ev := sv }, hrn sv, rfl, rfl⟩ ?_
        have hX := @Xa.eq_def
        clear h hca hg l1 l2
        simp only [ap]
        exact S.E
    · have h6 : (g.xs.length : Int) ≤ s.a := by omega
      refine S.I fun u => ?_
      have hX := And.intro @ZX.eq_def hca; repeat' (first | refine S.x ?_ | (refine G.call 71 ?_; refine S.c ?_ (h := Xn ?_)) | rintro _ _ ⟨_, rfl, rfl⟩ | (refine G.prop ?_; assumption) | intro hb | fail)
      all_goals
        rename_i sv
        refine Tr.robjF (r := w.obs) (g := g) hg S.T ?_
        refine Tr.fin hK ⟨{ w with ev := sv }, hrn sv, rfl, rfl⟩ ?_
        have hX := @Xa.eq_def
        clear h hca hg l1 l2
        simp only [ap]
        exact S.E
theorem xnY (hc : okC C) (hr : Xl C c w) (hk : inR C.progs k) (hf : few c 22) (hs : s.ok) (hz : (ix C.conf.pools.d s.a).size ≤ 300) (h0 : 18 ≤ s.call) (h1 : s.call ≤ 19) :
  Xb prog 139 #[ptr r, .int .i64 k, .agg (En.enc s).toArray] (Xf r C c w)
  fun v l' => ∃ w2, Xl C (Yn C c k s) w2 ∧ v = .tuple #[] ∧ l' = Xf r C (Yn C c k s) w2 := by
 by_cases e : s.call = 18
 ·exact xuH hc hr hk hf hs hz e
 ·exact xt4 hc hr hk hf hs hz S.o
