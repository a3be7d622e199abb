import Derived.Test.YtacmaamllpiloaaGreatHN
namespace Go.Proofs.YtacmaamllpiloaaGreat
open Go Go.Wk Tryz
set_option maxHeartbeats 3200000
set_option maxRecDepth 100000
theorem Tr.rportO {r : Nat} {ps : List AP} {l F : List Xc} {X : WP} (ht : Xm l (XT r ps) F) (h : ∀ (a b c d : SV) (xs : List (SL Msg)), xs.map mo = ps.map AP.ms → okA ps → Tr (JR r a b c d ps xs ++ F) X) : Tr l X :=
 Tr.imp ht (Tr.pk fun g hg => h g.1.1 g.1.2 g.2.1.1 g.2.1.2 g.2.2 hg.1 hg.2)
theorem Tr.rportF {r : Nat} {ps : List AP} {a b c d : SV} {xs : List (SL Msg)} {l F : List Xc} {X : WP} (h1 : xs.map mo = ps.map AP.ms) (h2 : okA ps) (ht : YK l (JR r a b c d ps xs) F) (h : Tr (XT r ps :: F) X) : Tr l X :=
 Tr.imp ht (Tr.imp (ZK h1 h2) h)
section
attribute [local irreducible] BrK Xq Xt Xv XI FnK XZ Xw XC XV opX opK Yq Yk eqR Yj Yo Ys WL WD W X3 XO Tr drewK Ya X4 Yw Yv X1 YB mp blk rob sl sep ex fact old
section
attribute [local irreducible] Yr XT robjX rslkO Yg
section
variable {r : Nat} {C : CC} {c : CM} {w : RW} {k : Int} {s : XE}
theorem xuO (hc : okC C) (hr : Xl C c w) (hk : inR C.progs k) (hf : few c 22) (hs : s.ok) (_hz : Yb c.pts s.a ≤ 300) (h : s.call = 12) :
  Xb prog 137 #[ptr r, .int .i64 k, .agg (En.enc s).toArray] (Xf r C c w)
  fun v l' => ∃ w2, Xl C (Yt C c k s) w2 ∧ v = .tuple #[] ∧ l' = Xf r C (Yt C c k s) w2 := by
 intro F K hK
 simp only [ap] at hK ⊢
 have hf1 : few c 1 := by unfold few at *; omega
 have hf2 : few c 2 := by unfold few at *; omega
 have hf3 := hf1
 unfold few at hf3
 have h8 := hc.n8
 have htl := Yf hc hr
 have hc10 : decide (s.call = 10) = false := by rw [h]; rfl
 have hc12 : decide (s.call = 12) = true := by rw [h]; rfl
 have hle : decide (11 ≤ s.call) = true := by rw [h]; rfl
 rw [xdd (q := true) (.inr ⟨h, rfl⟩)] at hK
 cases hcn : Yu c.pts s.a true true with
 | true =>
  rw [hcn, if_pos rfl] at hK
  obtain ⟨p0, p1⟩ := JG hcn
  have hsz : (ix (c.pts.map AP.c) s.a).size = Yb c.pts s.a := by unfold Yb; rw [if_pos ⟨p0, p1⟩, ixR ⟨p0, p1⟩]
  have hpl : (c.pts.map AP.c).length = c.pts.length := List.length_map _
  cases hin : ZR c s (Yb c.pts s.a) with
  | true =>
   rw [hin, if_pos rfl] at hK
   have hci := xdj (r := r) (C := C) (w := w) (k := k) hs hin
   refine S.I fun u => ?_
   have hX := I5 @YL.eq_def hc10 hc12 hle hcn; repeat' (first | refine S.x ?_ | (refine G.call 87 ?_; refine S.c ?_ (h := Jn)) | rintro _ _ ⟨rfl, rfl⟩ | intro hb | fail)
   refine Tr.rportO (r := w.pts) (ps := c.pts) S.K fun sa sb sc sd xs hxs hoa => ?_
   simp only [JR, ap]
   have hX := I6 @YL.eq_def hc10 hc12 hle hcn hsz; repeat' (first | refine S.x ?_ | intro hb | fail)
   refine Tr.rportF (r := w.pts) (ps := c.pts) (a := sa) (b := sb) (c := sc) (d := sd) (xs := xs) hxs hoa S.T ?_
   clear hsz hpl hxs hoa
   obtain ⟨c1, hc1⟩ : ∃ c1 : CM, c1 = { c with pts := Z1 c.pts s.a true } := ⟨_, rfl⟩
   have hr1 : Xl C c1 w := by rw [hc1]; exact WN hr
   have hf4 : few c1 1 := by rw [hc1]; exact hf1
   obtain ⟨bs, hbs⟩ : ∃ bs, bs = YS c.pts s.a true := ⟨_, rfl⟩
   have hoF := QE (ps := c.pts) (a := s.a)
   rw [← hc1, ← hbs] at hK
   by_cases hcd : Y3 c.pts s.a true = 0
   ·have hgm : ZI C c1 k s bs (Y3 c.pts s.a true) = WY C c1 k s bs := by unfold ZI; rw [if_pos hcd]
    rw [hgm] at hK
    have hcx := fun s3 => xdh (r := r) (k := k) (s3 := s3) (bs := bs) hr1 hf4 hs
    have hX := I4 @YL.eq_def hc10 hc12 hle; repeat' (first | rintro _ _ ⟨rfl, rfl⟩ | rintro _ _ ⟨_, rfl, rfl⟩ | (refine G.call 205 ?_; refine S.c ?_ (h := hci)) | refine S.x ?_ | (refine G.call 130 ?_; refine S.c ?_ (h := Vf)) | fail)
    rename_i s4
    refine Tr.imp (l' := sl true s4.v bs :: (Xf r C c1 w ++ F)) ?_ ?_
    ·subst hc1 hbs
     clear h hc10 hc12 hle
     simp only [ap]
     have hX := hoF
     show Xd [] _ _
     exact S.E
    clear hc1 hr1 hr hgm hbs hoF
    simp only [ap]
    have hX := @YL.eq_def; repeat' (first | rintro _ _ ⟨w3, hr3, rfl, rfl⟩ | (refine G.call 207 ?_; refine S.c ?_ (h := hcx s4)) | refine S.x ?_ | fail)
    all_goals exact Tr.fin hK ⟨w3, hr3, rfl, rfl⟩ S.E
   ·have hgm : ZI C c1 k s bs (Y3 c.pts s.a true) = YP C c1 k s [] := by unfold ZI; rw [if_neg hcd, if_neg (by rw [h]; decide)]
    rw [hgm] at hK
    have hcx := J6 (r := r) (s3 := ⟨none, 0, 0⟩) (bs := []) hc hr1 hk hf4 hs (Nat.zero_le _)
    have hX := I4 @YL.eq_def hc10 hc12 hle; repeat' (first | rintro _ _ ⟨rfl, rfl⟩ | rintro _ _ ⟨_, rfl, rfl⟩ | (refine G.call 205 ?_; refine S.c ?_ (h := hci)) | refine S.x ?_ | (refine G.call 130 ?_; refine S.c ?_ (h := Vf)) | fail)
    refine Tr.imp (l' := Xf r C c1 w ++ F) ?_ ?_
    ·subst hc1
     clear h hc10 hc12 hle
     simp only [ap]
     have hX := hoF
     show Xd [] _ _
     exact S.E
    clear hc1 hr1 hr hgm hbs hoF
    simp only [ap]
    have hX := @YL.eq_def; repeat' (first | rintro _ _ ⟨w3, hr3, rfl, rfl⟩ | (refine G.call 208 ?_; refine S.c ?_ (h := hcx)) | refine S.x ?_ | fail)
    all_goals exact Tr.fin hK ⟨w3, hr3, rfl, rfl⟩ S.E
  | false =>
   rw [hin, if_neg (by decide)] at hK
   have hci := xde (r := r) hc hr hk hf2 hs hin
   refine S.I fun u => ?_
   have hX := I5 @YL.eq_def hc10 hc12 hle hcn; repeat' (first | refine S.x ?_ | (refine G.call 87 ?_; refine S.c ?_ (h := Jn)) | rintro _ _ ⟨rfl, rfl⟩ | intro hb | fail)
   refine Tr.rportO (r := w.pts) (ps := c.pts) S.K fun sa sb sc sd xs hxs hoa => ?_
   simp only [JR, ap]
   have hX := I6 @YL.eq_def hc10 hc12 hle hcn hsz; repeat' (first | refine S.x ?_ | intro hb | fail)
   refine Tr.rportF (r := w.pts) (ps := c.pts) (a := sa) (b := sb) (c := sc) (d := sd) (xs := xs) hxs hoa S.T ?_
   clear hsz hpl hxs hoa
   have hX := I4 @YL.eq_def hc10 hc12 hle; repeat' (first | rintro _ _ ⟨w3, hr3, rfl, rfl⟩ | (refine G.call 205 ?_; refine S.c ?_ (h := hci)) | refine S.x ?_ | fail)
   all_goals exact Tr.fin hK ⟨w3, hr3, rfl, rfl⟩ S.E
 | false =>
  rw [hcn, if_neg (by decide)] at hK
  have hrn := fun e => Xy (k := k) (call := s.call) (code := 3) (value := 0) (e := e) hr
  refine S.I fun u => ?_
  have hX := I5 @YL.eq_def hc10 hc12 hle hcn; repeat' (first | refine S.x ?_ | (refine G.call 87 ?_; refine S.c ?_ (h := Jn)) | (refine G.call 71 ?_; refine S.c ?_ (h := Xn ?_)) | rintro _ _ ⟨rfl, rfl⟩ | rintro _ _ ⟨_, rfl, rfl⟩ | (refine G.prop ?_; assumption) | intro hb | fail)
  all_goals
   rename_i sv
   refine Tr.fin hK ⟨{ w with ev := sv }, hrn sv, rfl, rfl⟩ ?_
   have hX := @Xa.eq_def
   clear h hc10 hc12 hle
   simp only [ap]
   exact S.E
theorem xub (hc : okC C) (hr : Xl C c w) (hk : inR C.progs k) (hf : few c 22) (hs : s.ok) (_hz : Yb c.pts s.a ≤ 300) (h : s.call = 10) :
  Xb prog 137 #[ptr r, .int .i64 k, .agg (En.enc s).toArray] (Xf r C c w)
  fun v l' => ∃ w2, Xl C (Yt C c k s) w2 ∧ v = .tuple #[] ∧ l' = Xf r C (Yt C c k s) w2 := by
 intro F K hK
 simp only [ap] at hK ⊢
 have hf1 : few c 1 := by unfold few at *; omega
 have hf2 : few c 2 := by unfold few at *; omega
 have hf3 := hf1
 unfold few at hf3
 have h8 := hc.n8
 have htl := Yf hc hr
 have hc10 : decide (s.call = 10) = true := by rw [h]; rfl
 have hc12 : decide (s.call = 12) = false := by rw [h]; rfl
 have hle : decide (11 ≤ s.call) = false := by rw [h]; rfl
 rw [xdd (q := false) (.inl ⟨h, rfl⟩)] at hK
 cases hcn : Yu c.pts s.a false true with
 | true =>
  rw [hcn, if_pos rfl] at hK
  obtain ⟨p0, p1⟩ := JG hcn
  have hsz : (ix (c.pts.map AP.c) s.a).size = Yb c.pts s.a := by unfold Yb; rw [if_pos ⟨p0, p1⟩, ixR ⟨p0, p1⟩]
  have hpl : (c.pts.map AP.c).length = c.pts.length := List.length_map _
  cases hin : ZR c s (Yb c.pts s.a) with
  | true =>
   rw [hin, if_pos rfl] at hK
   have hci := xdj (r := r) (C := C) (w := w) (k := k) hs hin
   refine S.I fun u => ?_
   have hX := I5 @YL.eq_def hc10 hc12 hle hcn; repeat' (first | refine S.x ?_ | (refine G.call 87 ?_; refine S.c ?_ (h := Jn)) | rintro _ _ ⟨rfl, rfl⟩ | intro hb | fail)
   refine Tr.rportO (r := w.pts) (ps := c.pts) S.K fun sa sb sc sd xs hxs hoa => ?_
   simp only [JR, ap]
   have hX := I6 @YL.eq_def hc10 hc12 hle hcn hsz; repeat' (first | refine S.x ?_ | intro hb | fail)
   refine Tr.rportF (r := w.pts) (ps := c.pts) (a := sa) (b := sb) (c := sc) (d := sd) (xs := xs) hxs hoa S.T ?_
   clear hsz hpl hxs hoa
   obtain ⟨c1, hc1⟩ : ∃ c1 : CM, c1 = { c with pts := Z1 c.pts s.a false } := ⟨_, rfl⟩
   have hr1 : Xl C c1 w := by rw [hc1]; exact WN hr
   have hf4 : few c1 1 := by rw [hc1]; exact hf1
   obtain ⟨bs, hbs⟩ : ∃ bs, bs = YS c.pts s.a false := ⟨_, rfl⟩
   have hoF := QE (ps := c.pts) (a := s.a)
   rw [← hc1, ← hbs] at hK
   by_cases hcd : Y3 c.pts s.a false = 0
   ·have hgm : ZI C c1 k s bs (Y3 c.pts s.a false) = WY C c1 k s bs := by unfold ZI; rw [if_pos hcd]
    rw [hgm] at hK
    have hcx := fun s3 => xdh (r := r) (k := k) (s3 := s3) (bs := bs) hr1 hf4 hs
    have hX := I4 @YL.eq_def hc10 hc12 hle; repeat' (first | rintro _ _ ⟨rfl, rfl⟩ | rintro _ _ ⟨_, rfl, rfl⟩ | (refine G.call 205 ?_; refine S.c ?_ (h := hci)) | refine S.x ?_ | (refine G.call 206 ?_; refine S.c ?_ (h := xhv)) | fail)
    rename_i s4
    refine Tr.imp (l' := sl true s4.v bs :: (Xf r C c1 w ++ F)) ?_ ?_
    ·subst hc1 hbs
     clear h hc10 hc12 hle
     simp only [ap]
     have hX := hoF
     show Xd [] _ _
     exact S.E
    clear hc1 hr1 hr hgm hbs hoF
    simp only [ap]
    have hX := @YL.eq_def; repeat' (first | rintro _ _ ⟨w3, hr3, rfl, rfl⟩ | (refine G.call 207 ?_; refine S.c ?_ (h := hcx s4)) | refine S.x ?_ | fail)
    all_goals exact Tr.fin hK ⟨w3, hr3, rfl, rfl⟩ S.E
   ·have hgm : ZI C c1 k s bs (Y3 c.pts s.a false) = Xa C c1 k s.call (Y3 c.pts s.a false) 0 := by unfold ZI; rw [if_neg hcd, if_pos h]
    rw [hgm] at hK
    have hrn := fun e => Xy (k := k) (call := s.call) (code := Y3 c.pts s.a false) (value := 0) (e := e) hr1
    have hX := I4 @YL.eq_def hc10 hc12 hle; repeat' (first | rintro _ _ ⟨rfl, rfl⟩ | rintro _ _ ⟨_, rfl, rfl⟩ | (refine G.call 205 ?_; refine S.c ?_ (h := hci)) | refine S.x ?_ | (refine G.call 71 ?_; refine S.c ?_ (h := Xn ?_)) | (refine G.call 206 ?_; refine S.c ?_ (h := xhv)) | (refine G.prop ?_; assumption) | fail)
    all_goals
     rename_i s4 sv
     refine Tr.fin hK ⟨{ w with ev := sv }, hrn sv, rfl, rfl⟩ ?_
     subst hc1
     clear h hc10 hc12 hle
     simp only [ap]
     have hX := And.intro hoF @Xa.eq_def
     exact S.E
  | false =>
   rw [hin, if_neg (by decide)] at hK
   have hci := xde (r := r) hc hr hk hf2 hs hin
   refine S.I fun u => ?_
   have hX := I5 @YL.eq_def hc10 hc12 hle hcn; repeat' (first | refine S.x ?_ | (refine G.call 87 ?_; refine S.c ?_ (h := Jn)) | rintro _ _ ⟨rfl, rfl⟩ | intro hb | fail)
   refine Tr.rportO (r := w.pts) (ps := c.pts) S.K fun sa sb sc sd xs hxs hoa => ?_
   simp only [JR, ap]
   have hX := I6 @YL.eq_def hc10 hc12 hle hcn hsz; repeat' (first | refine S.x ?_ | intro hb | fail)
   refine Tr.rportF (r := w.pts) (ps := c.pts) (a := sa) (b := sb) (c := sc) (d := sd) (xs := xs) hxs hoa S.T ?_
   clear hsz hpl hxs hoa
   have hX := I4 @YL.eq_def hc10 hc12 hle; repeat' (first | rintro _ _ ⟨w3, hr3, rfl, rfl⟩ | (refine G.call 205 ?_; refine S.c ?_ (h := hci)) | refine S.x ?_ | fail)
   all_goals exact Tr.fin hK ⟨w3, hr3, rfl, rfl⟩ S.E
 | false =>
  rw [hcn, if_neg (by decide)] at hK
  have hrn := fun e => Xy (k := k) (call := s.call) (code := 3) (value := 0) (e := e) hr
  refine S.I fun u => ?_
  have hX := I5 @YL.eq_def hc10 hc12 hle hcn; repeat' (first | refine S.x ?_ | (refine G.call 87 ?_; refine S.c ?_ (h := Jn)) | (refine G.call 71 ?_; refine S.c ?_ (h := Xn ?_)) | rintro _ _ ⟨rfl, rfl⟩ | rintro _ _ ⟨_, rfl, rfl⟩ | (refine G.prop ?_; assumption) | intro hb | fail)
  all_goals
   rename_i sv
   refine Tr.fin hK ⟨{ w with ev := sv }, hrn sv, rfl, rfl⟩ ?_
   have hX := @Xa.eq_def
   clear h hc10 hc12 hle
   simp only [ap]
   exact S.E
theorem xwC (hc : okC C) (hr : Xl C c w) (hk : inR C.progs k) (hf : few c 22) (hs : s.ok) (_hz : Yb c.pts s.a ≤ 300) (h : s.call = 9) :
  Xb prog 137 #[ptr r, .int .i64 k, .agg (En.enc s).toArray] (Xf r C c w)
  fun v l' => ∃ w2, Xl C (Yt C c k s) w2 ∧ v = .tuple #[] ∧ l' = Xf r C (Yt C c k s) w2 := by
 intro F K hK
 simp only [ap] at hK ⊢
 have hf1 : few c 1 := by unfold few at *; omega
 have hf2 : few c 2 := by unfold few at *; omega
 have hf3 := hf1
 unfold few at hf3
 have h8 := hc.n8
 have htl := Yf hc hr
 have hc10 : decide (s.call = 10) = false := by rw [h]; rfl
 have hc12 : decide (s.call = 12) = false := by rw [h]; rfl
 have hle : decide (11 ≤ s.call) = false := by rw [h]; rfl
 rw [xbW (q := false) (.inl ⟨h, rfl⟩)] at hK
 cases hcn : Yu c.pts s.a false false with
 | true =>
  rw [hcn, if_pos rfl] at hK
  obtain ⟨p0, p1⟩ := JG hcn
  have hsz : (ix (c.pts.map AP.c) s.a).size = Yb c.pts s.a := by unfold Yb; rw [if_pos ⟨p0, p1⟩, ixR ⟨p0, p1⟩]
  have hpl : (c.pts.map AP.c).length = c.pts.length := List.length_map _
  cases hin : Zx c s (Yb c.pts s.a) with
  | true =>
   rw [hin, if_pos rfl] at hK
   have hci := xgZ (r := r) (C := C) (w := w) (k := k) hs hin
   rw [if_neg (by decide)] at hK
   have hrn := fun e => Xy (k := k) (call := s.call) (code := YU c.pts s.a false (ldB c.mem s.b s.c).length) (value := 0) (e := e) (WN (ps := Yh c.pts s.a false (ldB c.mem s.b s.c)) hr)
   refine S.I fun u => ?_
   have hX := I5 @YL.eq_def hc10 hc12 hle hcn; repeat' (first | refine S.x ?_ | (refine G.call 87 ?_; refine S.c ?_ (h := Jn)) | rintro _ _ ⟨rfl, rfl⟩ | intro hb | fail)
   refine Tr.rportO (r := w.pts) (ps := c.pts) S.K fun sa sb sc sd xs hxs hoa => ?_
   simp only [JR, ap]
   have hX := I6 @YL.eq_def hc10 hc12 hle hcn hsz; repeat' (first | refine S.x ?_ | intro hb | fail)
   refine Tr.rportF (r := w.pts) (ps := c.pts) (a := sa) (b := sb) (c := sc) (d := sd) (xs := xs) hxs hoa S.T ?_
   clear hsz hpl hxs hoa
   have hX := I4 @YL.eq_def hc10 hc12 hle; repeat' (first | rintro _ _ ⟨rfl, rfl⟩ | rintro _ _ ⟨_, rfl, rfl⟩ | (refine G.call 209 ?_; refine S.c ?_ (h := hci)) | refine S.x ?_ | (refine G.call 71 ?_; refine S.c ?_ (h := Xn ?_)) | (refine G.call 210 ?_; refine S.c ?_ (h := xnc)) | (refine G.prop ?_; assumption) | fail)
   all_goals
    rename_i s4 sv
    refine Tr.fin hK ⟨{ w with ev := sv }, hrn sv, rfl, rfl⟩ ?_
    clear h hc10 hc12 hle
    simp only [ap]
    have hX := @Xa.eq_def
    exact S.E
  | false =>
   rw [hin, if_neg (by decide)] at hK
   have hci := xgv (r := r) hc hr hk hf2 hs hin
   refine S.I fun u => ?_
   have hX := I5 @YL.eq_def hc10 hc12 hle hcn; repeat' (first | refine S.x ?_ | (refine G.call 87 ?_; refine S.c ?_ (h := Jn)) | rintro _ _ ⟨rfl, rfl⟩ | intro hb | fail)
   refine Tr.rportO (r := w.pts) (ps := c.pts) S.K fun sa sb sc sd xs hxs hoa => ?_
   simp only [JR, ap]
   have hX := I6 @YL.eq_def hc10 hc12 hle hcn hsz; repeat' (first | refine S.x ?_ | intro hb | fail)
   refine Tr.rportF (r := w.pts) (ps := c.pts) (a := sa) (b := sb) (c := sc) (d := sd) (xs := xs) hxs hoa S.T ?_
   clear hsz hpl hxs hoa
   have hX := I4 @YL.eq_def hc10 hc12 hle; repeat' (first | rintro _ _ ⟨s4, w3, hr3, rfl, rfl⟩ | (refine G.call 209 ?_; refine S.c ?_ (h := hci)) | refine S.x ?_ | fail)
   all_goals exact Tr.fin hK ⟨w3, hr3, rfl, rfl⟩ S.E
 | false =>
  rw [hcn, if_neg (by decide)] at hK
  have hrn := fun e => Xy (k := k) (call := s.call) (code := 3) (value := 0) (e := e) hr
  refine S.I fun u => ?_
  have hX := I5 @YL.eq_def hc10 hc12 hle hcn; repeat' (first | refine S.x ?_ | (refine G.call 87 ?_; refine S.c ?_ (h := Jn)) | (refine G.call 71 ?_; refine S.c ?_ (h := Xn ?_)) | rintro _ _ ⟨rfl, rfl⟩ | rintro _ _ ⟨_, rfl, rfl⟩ | (refine G.prop ?_; assumption) | intro hb | fail)
  all_goals
   rename_i sv
   refine Tr.fin hK ⟨{ w with ev := sv }, hrn sv, rfl, rfl⟩ ?_
   have hX := @Xa.eq_def
   clear h hc10 hc12 hle
   simp only [ap]
   exact S.E
theorem xvn (hc : okC C) (hr : Xl C c w) (hk : inR C.progs k) (hf : few c 22) (hs : s.ok) (hz : Yb c.pts s.a ≤ 300) (h : s.call = 11) :
  Xb prog 137 #[ptr r, .int .i64 k, .agg (En.enc s).toArray] (Xf r C c w)
  fun v l' => ∃ w2, Xl C (Yt C c k s) w2 ∧ v = .tuple #[] ∧ l' = Xf r C (Yt C c k s) w2 := by
 intro F K hK
 simp only [ap] at hK ⊢
 have hf1 : few c 1 := by unfold few at *; omega
 have hf2 : few c 2 := by unfold few at *; omega
 have hf3 := hf1
 unfold few at hf3
 have h8 := hc.n8
 have htl := Yf hc hr
 have hc10 : decide (s.call = 10) = false := by rw [h]; rfl
 have hc12 : decide (s.call = 12) = false := by rw [h]; rfl
 have hle : decide (11 ≤ s.call) = true := by rw [h]; rfl
 rw [xbW (q := true) (.inr ⟨h, rfl⟩)] at hK
 cases hcn : Yu c.pts s.a true false with
 | true =>
  rw [hcn, if_pos rfl] at hK
  obtain ⟨p0, p1⟩ := JG hcn
  have hsz : (ix (c.pts.map AP.c) s.a).size = Yb c.pts s.a := by unfold Yb; rw [if_pos ⟨p0, p1⟩, ixR ⟨p0, p1⟩]
  have hpl : (c.pts.map AP.c).length = c.pts.length := List.length_map _
  cases hin : Zx c s (Yb c.pts s.a) with
  | true =>
   rw [hin, if_pos rfl] at hK
   have hci := xgZ (r := r) (C := C) (w := w) (k := k) hs hin
   rw [if_pos rfl] at hK
   obtain ⟨c1, hc1⟩ : ∃ c1 : CM, c1 = { c with pts := Yh c.pts s.a true (ldB c.mem s.b s.c) } := ⟨_, rfl⟩
   have hr1 : Xl C c1 w := by rw [hc1]; exact WN hr
   have hf4 : few c1 1 := by rw [hc1]; exact hf1
   have hll : (ldB c.mem s.b s.c).length ≤ 300 := JE hin hz
   rw [← hc1] at hK
   refine S.I fun u => ?_
   have hX := I5 @YL.eq_def hc10 hc12 hle hcn; repeat' (first | refine S.x ?_ | (refine G.call 87 ?_; refine S.c ?_ (h := Jn)) | rintro _ _ ⟨rfl, rfl⟩ | intro hb | fail)
   refine Tr.rportO (r := w.pts) (ps := c.pts) S.K fun sa sb sc sd xs hxs hoa => ?_
   simp only [JR, ap]
   have hX := I6 @YL.eq_def hc10 hc12 hle hcn hsz; repeat' (first | refine S.x ?_ | intro hb | fail)
   refine Tr.rportF (r := w.pts) (ps := c.pts) (a := sa) (b := sb) (c := sc) (d := sd) (xs := xs) hxs hoa S.T ?_
   clear hsz hpl hxs hoa
   by_cases hcd : YU c.pts s.a true (ldB c.mem s.b s.c).length = 0
   ·rw [if_pos hcd] at hK
    have hrn := fun e => Xy (k := k) (call := s.call) (code := 0) (value := 0) (e := e) hr1
    have hX := I4 @YL.eq_def hc10 hc12 hle; repeat' (first | rintro _ _ ⟨rfl, rfl⟩ | rintro _ _ ⟨_, rfl, rfl⟩ | (refine G.call 209 ?_; refine S.c ?_ (h := hci)) | refine S.x ?_ | (refine G.call 71 ?_; refine S.c ?_ (h := Xn ?_)) | (refine G.call 129 ?_; refine S.c ?_ (h := xbG)) | (refine G.prop ?_; assumption) | fail)
    all_goals
     rename_i s4 sv
     refine Tr.fin hK ⟨{ w with ev := sv }, hrn sv, rfl, rfl⟩ ?_
     subst hc1
     clear h hc10 hc12 hle
     simp only [ap]
     have hX := @Xa.eq_def
     exact S.E
   ·rw [if_neg hcd] at hK
    have hcx := fun s3 => J6 (r := r) (s3 := s3) (bs := ldB c.mem s.b s.c) hc hr1 hk hf4 hs hll
    have hX := I4 @YL.eq_def hc10 hc12 hle; repeat' (first | rintro _ _ ⟨rfl, rfl⟩ | rintro _ _ ⟨s4, rfl, rfl⟩ | (refine G.call 209 ?_; refine S.c ?_ (h := hci)) | refine S.x ?_ | (refine G.call 129 ?_; refine S.c ?_ (h := xbG)) | fail)
    refine Tr.imp (l' := sl true s4.v (ldB c.mem s.b s.c) :: (Xf r C c1 w ++ F)) ?_ ?_
    ·subst hc1
     clear h hc10 hc12 hle
     simp only [ap]
     show Xd [] _ _
     exact S.E
    clear hc1 hr1 hr
    simp only [ap]
    have hX := @YL.eq_def; repeat' (first | rintro _ _ ⟨w3, hr3, rfl, rfl⟩ | (refine G.call 208 ?_; refine S.c ?_ (h := hcx s4)) | refine S.x ?_ | fail)
    all_goals exact Tr.fin hK ⟨w3, hr3, rfl, rfl⟩ S.E
  | false =>
   rw [hin, if_neg (by decide)] at hK
   have hci := xgv (r := r) hc hr hk hf2 hs hin
   refine S.I fun u => ?_
   have hX := I5 @YL.eq_def hc10 hc12 hle hcn; repeat' (first | refine S.x ?_ | (refine G.call 87 ?_; refine S.c ?_ (h := Jn)) | rintro _ _ ⟨rfl, rfl⟩ | intro hb | fail)
   refine Tr.rportO (r := w.pts) (ps := c.pts) S.K fun sa sb sc sd xs hxs hoa => ?_
   simp only [JR, ap]
   have hX := I6 @YL.eq_def hc10 hc12 hle hcn hsz; repeat' (first | refine S.x ?_ | intro hb | fail)
   refine Tr.rportF (r := w.pts) (ps := c.pts) (a := sa) (b := sb) (c := sc) (d := sd) (xs := xs) hxs hoa S.T ?_
   clear hsz hpl hxs hoa
   have hX := I4 @YL.eq_def hc10 hc12 hle; repeat' (first | rintro _ _ ⟨s4, w3, hr3, rfl, rfl⟩ | (refine G.call 209 ?_; refine S.c ?_ (h := hci)) | refine S.x ?_ | fail)
   all_goals exact Tr.fin hK ⟨w3, hr3, rfl, rfl⟩ S.E
 | false =>
  rw [hcn, if_neg (by decide)] at hK
  have hrn := fun e => Xy (k := k) (call := s.call) (code := 3) (value := 0) (e := e) hr
  refine S.I fun u => ?_
  have hX := I5 @YL.eq_def hc10 hc12 hle hcn; repeat' (first | refine S.x ?_ | (refine G.call 87 ?_; refine S.c ?_ (h := Jn)) | (refine G.call 71 ?_; refine S.c ?_ (h := Xn ?_)) | rintro _ _ ⟨rfl, rfl⟩ | rintro _ _ ⟨_, rfl, rfl⟩ | (refine G.prop ?_; assumption) | intro hb | fail)
  all_goals
   rename_i sv
   refine Tr.fin hK ⟨{ w with ev := sv }, hrn sv, rfl, rfl⟩ ?_
   have hX := @Xa.eq_def
   clear h hc10 hc12 hle
   simp only [ap]
   exact S.E
theorem xp6 (hc : okC C) (hr : Xl C c w) (hk : inR C.progs k) (hf : few c 22) (hs : s.ok) (hz : Yb c.pts s.a ≤ 300) (h0 : 9 ≤ s.call) (h1 : s.call ≤ 12) :
  Xb prog 137 #[ptr r, .int .i64 k, .agg (En.enc s).toArray] (Xf r C c w)
  fun v l' => ∃ w2, Xl C (Yt C c k s) w2 ∧ v = .tuple #[] ∧ l' = Xf r C (Yt C c k s) w2 := by
 by_cases e9 : s.call = 9
 ·exact xwC hc hr hk hf hs hz e9
 ·by_cases e10 : s.call = 10
  ·exact xub hc hr hk hf hs hz e10
  ·by_cases e11 : s.call = 11
   ·exact xvn hc hr hk hf hs hz e11
   ·exact xuO hc hr hk hf hs hz S.o
