import Derived.Test.YtacmaamllpiloaaGreatHO
namespace Go.Proofs.YtacmaamllpiloaaGreat
open Go Go.Wk Tryz
set_option maxHeartbeats 3200000
set_option maxRecDepth 100000
section
attribute [local irreducible] BrK Xq Xt Xv XI FnK XZ Xw XC XV opX opK Yq Yk eqR Yj Yo Ys WL WD W X3 XO Tr drewK Ya X4 Yw Yv X1 YB mp blk rob sl sep ex fact old
section
attribute [local irreducible] Yr XT robjX rslkO Yg
section
variable {r : Nat} {C : CC} {c : CM} {w : RW} {k : Int} {s : XE}
theorem xva (hc : okC C) (hr : Xl C c w) (hk : inR C.progs k) (hf : few c 22) (hs : s.ok) (h : s.call = 13) :
  Xb prog 138 #[ptr r, .int .i64 k, .agg (En.enc s).toArray] (Xf r C c w)
  fun v l' => ∃ w2, Xl C (XG C c k s) w2 ∧ v = .tuple #[] ∧ l' = Xf r C (XG C c k s) w2 := by
 intro F K hK
 simp only [ap] at hK ⊢
 have hf1 : few c 1 := by unfold few at *; omega
 have hf2 : few c 2 := by unfold few at *; omega
 have hf3 := hf1
 unfold few at hf3
 have h8 := hc.n8
 have htl := Yf hc hr
 have hca : decide (s.call = 13) = true := by rw [h]; rfl
 have hcb : decide (s.call = 14) = false := by rw [h]; rfl
 have hcc : decide (s.call = 15) = false := by rw [h]; rfl
 have hcd : decide (s.call = 16) = false := by rw [h]; rfl
 obtain ⟨c1, hc1⟩ : ∃ c1 : CM, c1 = { c with obs := { c.obs with sems := xbI c.obs.sems s.a } } := ⟨_, rfl⟩
 have hr1 : Xl C c1 w := by rw [hc1]; exact Qr hr
 have hf4 : few c1 1 := by rw [hc1]; exact hf1
 have hsm : XG C c k s = if VA c.obs.sems s.a = 1 then YP C c1 k s [] else Xa C c1 k 13 (VA c.obs.sems s.a) 0 := by
  unfold XG
  rw [if_pos h, hc1]
 rw [hsm] at hK
 refine S.I fun u => ?_
 by_cases hcd2 : VA c.obs.sems s.a = 1
 ·rw [if_pos hcd2] at hK
  have hcx := J6 (r := r) (s3 := ⟨none, 0, 0⟩) (bs := []) hc hr1 hk hf4 hs (Nat.zero_le _)
  have hX := I5 @Wb.eq_def hca hcb hcc hcd; repeat' (first | refine S.x ?_ | (refine G.call 211 ?_; refine S.c ?_ (h := xjp)) | rintro _ _ ⟨rfl, rfl⟩ | intro hb | fail)
  refine Tr.imp (l' := Xf r C c1 w ++ F) ?_ ?_
  ·subst hc1
   clear h hca hcb hcc hcd
   simp only [ap]
   show Xd [] _ _
   exact S.E
  clear hc1 hr1 hr hsm
  simp only [ap]
  have hX := @Wb.eq_def; repeat' (first | rintro _ _ ⟨w3, hr3, rfl, rfl⟩ | (refine G.call 208 ?_; refine S.c ?_ (h := hcx)) | refine S.x ?_ | fail)
  all_goals exact Tr.fin hK ⟨w3, hr3, rfl, rfl⟩ S.E
 ·rw [if_neg hcd2] at hK
  have hrn := fun e => Xy (k := k) (call := 13) (code := VA c.obs.sems s.a) (value := 0) (e := e) hr1
  have hX := I5 @Wb.eq_def hca hcb hcc hcd; repeat' (first | refine S.x ?_ | (refine G.call 211 ?_; refine S.c ?_ (h := xjp)) | (refine G.call 71 ?_; refine S.c ?_ (h := Xn ?_)) | rintro _ _ ⟨rfl, rfl⟩ | rintro _ _ ⟨_, rfl, rfl⟩ | (refine G.prop ?_; assumption) | intro hb | fail)
  all_goals
   rename_i sv
   refine Tr.fin hK ⟨{ w with ev := sv }, hrn sv, rfl, rfl⟩ ?_
   have hX := @Xa.eq_def
   subst hc1
   clear h hca hcb hcc hcd
   simp only [ap]
   exact S.E
theorem xvg (hc : okC C) (hr : Xl C c w) (_hk : inR C.progs k) (hf : few c 22) (_hs : s.ok) (h : s.call = 14) :
  Xb prog 138 #[ptr r, .int .i64 k, .agg (En.enc s).toArray] (Xf r C c w)
  fun v l' => ∃ w2, Xl C (XG C c k s) w2 ∧ v = .tuple #[] ∧ l' = Xf r C (XG C c k s) w2 := by
 intro F K hK
 simp only [ap] at hK ⊢
 have hf1 : few c 1 := by unfold few at *; omega
 have hf2 : few c 2 := by unfold few at *; omega
 have hf3 := hf1
 unfold few at hf3
 have h8 := hc.n8
 have htl := Yf hc hr
 have hca : decide (s.call = 13) = false := by rw [h]; rfl
 have hcb : decide (s.call = 14) = true := by rw [h]; rfl
 have hcc : decide (s.call = 15) = false := by rw [h]; rfl
 have hcd : decide (s.call = 16) = false := by rw [h]; rfl
 have hsm : XG C c k s = if 0 ≤ c.tb.best (One.waits 13 s.a) then Zc C (Xa C c k 14 0 0) (c.tb.best (One.waits 13 s.a)) 13 0 0
  else Xa C { c with obs := { c.obs with sems := QX c.obs.sems s.a } } k 14 (QO c.obs.sems s.a) 0 := by
  unfold XG XB
  rw [if_neg (by rw [h]; decide), if_pos h]
 rw [hsm] at hK
 by_cases h0 : 0 ≤ c.tb.best (One.waits 13 s.a)
 ·rw [if_pos h0] at hK
  obtain ⟨c1, hc1⟩ : ∃ c1 : CM, c1 = Xa C c k 14 0 0 := ⟨_, rfl⟩
  have hr1 : ∀ e, Xl C c1 { w with ev := e } := fun e => by rw [hc1]; exact Xy hr
  have hf4 : few c1 1 := by unfold few at *; rw [hc1]; simp only [Xa, List.length_append, List.length_cons, List.length_nil]; omega
  have hcx := fun e => QN (r := r) (k := c.tb.best (One.waits 13 s.a)) (call := 13) (code := 0) (value := 0) hc (hr1 e) hf4
  rw [← hc1] at hK
  refine S.I fun u => ?_
  have hX := I5 @Wb.eq_def hca hcb hcc hcd; repeat' (first | refine S.x ?_ | (refine G.call 71 ?_; refine S.c ?_ (h := Xn ?_)) | (refine G.call 128 ?_; refine S.c ?_ (h := X5 ‹_›)) | rintro _ _ ⟨rfl, rfl⟩ | rintro _ _ ⟨_, rfl, rfl⟩ | (refine G.prop ?_; assumption) | intro hb | fail)
  rename_i sv
  refine Tr.imp (l' := Xf r C c1 { w with ev := sv } ++ F) ?_ ?_
  ·subst hc1
   clear h hca hcb hcc hcd
   simp only [ap]
   have hX := @Xa.eq_def
   show Xd [] _ _
   exact S.E
  clear hc1 hr1 hr hsm
  simp only [ap]
  have hX := @Wb.eq_def; repeat' (first | rintro _ _ ⟨w3, hr3, rfl, rfl⟩ | (refine G.call 75 ?_; refine S.c ?_ (h := hcx sv)) | refine S.x ?_ | fail)
  all_goals exact Tr.fin hK ⟨w3, hr3, rfl, rfl⟩ S.E
 ·rw [if_neg h0] at hK
  have hrn := fun e => Xy (k := k) (call := 14) (code := QO c.obs.sems s.a) (value := 0) (e := e) (Qr (o := { c.obs with sems := QX c.obs.sems s.a }) hr)
  refine S.I fun u => ?_
  have hX := I5 @Wb.eq_def hca hcb hcc hcd; repeat' (first | refine S.x ?_ | (refine G.call 71 ?_; refine S.c ?_ (h := Xn ?_)) | (refine G.call 128 ?_; refine S.c ?_ (h := X5 ‹_›)) | (refine G.call 212 ?_; refine S.c ?_ (h := xor)) | rintro _ _ ⟨rfl, rfl⟩ | rintro _ _ ⟨_, rfl, rfl⟩ | (refine G.prop ?_; assumption) | intro hb | fail)
  all_goals
   rename_i sv
   refine Tr.fin hK ⟨{ w with ev := sv }, hrn sv, rfl, rfl⟩ ?_
   have hX := @Xa.eq_def
   clear h hca hcb hcc hcd
   simp only [ap]
   exact S.E
theorem xuV (hc : okC C) (hr : Xl C c w) (_hk : inR C.progs k) (hf : few c 22) (_hs : s.ok) (h : s.call = 16) :
  Xb prog 138 #[ptr r, .int .i64 k, .agg (En.enc s).toArray] (Xf r C c w)
  fun v l' => ∃ w2, Xl C (XG C c k s) w2 ∧ v = .tuple #[] ∧ l' = Xf r C (XG C c k s) w2 := by
 intro F K hK
 simp only [ap] at hK ⊢
 have hf1 : few c 1 := by unfold few at *; omega
 have hf2 : few c 2 := by unfold few at *; omega
 have hf3 := hf1
 unfold few at hf3
 have h8 := hc.n8
 have htl := Yf hc hr
 have hca : decide (s.call = 13) = false := by rw [h]; rfl
 have hcb : decide (s.call = 14) = false := by rw [h]; rfl
 have hcc : decide (s.call = 15) = false := by rw [h]; rfl
 have hcd : decide (s.call = 16) = true := by rw [h]; rfl
 have hsm : XG C c k s = Xa C { c with obs := { c.obs with flags := JS c.obs.flags s.a false } } k 16 (YT c.obs.flags s.a) 0 := by
  unfold XG
  rw [if_neg (by rw [h]; decide), if_neg (by rw [h]; decide), if_neg (by rw [h]; decide), if_pos h]
 rw [hsm] at hK
 have hrn := fun e => Xy (k := k) (call := 16) (code := YT c.obs.flags s.a) (value := 0) (e := e) (Qr (o := { c.obs with flags := JS c.obs.flags s.a false }) hr)
 refine S.I fun u => ?_
 have hX := I5 @Wb.eq_def hca hcb hcc hcd; repeat' (first | refine S.x ?_ | (refine G.call 71 ?_; refine S.c ?_ (h := Xn ?_)) | (refine G.call 213 ?_; refine S.c ?_ (h := xhB)) | rintro _ _ ⟨rfl, rfl⟩ | rintro _ _ ⟨_, rfl, rfl⟩ | (refine G.prop ?_; assumption) | intro hb | fail)
 all_goals
  rename_i sv
  refine Tr.fin hK ⟨{ w with ev := sv }, hrn sv, rfl, rfl⟩ ?_
  have hX := @Xa.eq_def
  clear h hca hcb hcc hcd
  simp only [ap]
  exact S.E
theorem xvm (hc : okC C) (hr : Xl C c w) (hk : inR C.progs k) (hf : few c 22) (hs : s.ok) (h : s.call = 17) :
  Xb prog 138 #[ptr r, .int .i64 k, .agg (En.enc s).toArray] (Xf r C c w)
  fun v l' => ∃ w2, Xl C (XG C c k s) w2 ∧ v = .tuple #[] ∧ l' = Xf r C (XG C c k s) w2 := by
 intro F K hK
 simp only [ap] at hK ⊢
 have hf1 : few c 1 := by unfold few at *; omega
 have hf2 : few c 2 := by unfold few at *; omega
 have hf3 := hf1
 unfold few at hf3
 have h8 := hc.n8
 have htl := Yf hc hr
 have hca : decide (s.call = 13) = false := by rw [h]; rfl
 have hcb : decide (s.call = 14) = false := by rw [h]; rfl
 have hcc : decide (s.call = 15) = false := by rw [h]; rfl
 have hcd : decide (s.call = 16) = false := by rw [h]; rfl
 have hsm : XG C c k s = if upM c.obs.flags s.a = true ∨ YT c.obs.flags s.a ≠ 0 then Xa C c k 17 (YT c.obs.flags s.a) 0 else YP C c k s [] := by
  unfold XG
  rw [if_neg (by rw [h]; decide), if_neg (by rw [h]; decide), if_neg (by rw [h]; decide), if_neg (by rw [h]; decide)]
 rw [hsm] at hK
 have hrn := fun e => Xy (k := k) (call := 17) (code := YT c.obs.flags s.a) (value := 0) (e := e) hr
 have hcx := J6 (r := r) (s3 := ⟨none, 0, 0⟩) (bs := []) hc hr hk hf1 hs (Nat.zero_le _)
 refine S.I fun u => ?_
 cases hup : upM c.obs.flags s.a with
 | true =>
  rw [hup, if_pos (.inl rfl)] at hK
  have hX := I6 @Wb.eq_def hca hcb hcc hcd hup; repeat' (first | refine S.x ?_ | (refine G.call 71 ?_; refine S.c ?_ (h := Xn ?_)) | (refine G.call 214 ?_; refine S.c ?_ (h := xjC)) | rintro _ _ ⟨rfl, rfl⟩ | rintro _ _ ⟨_, rfl, rfl⟩ | (refine G.prop ?_; assumption) | intro hb | fail)
  all_goals
   rename_i sv
   refine Tr.fin hK ⟨{ w with ev := sv }, hrn sv, rfl, rfl⟩ ?_
   have hX := @Xa.eq_def
   clear h hca hcb hcc hcd
   simp only [ap]
   exact S.E
 | false =>
  by_cases h0 : YT c.obs.flags s.a = 0
  ·rw [hup, if_neg (by rw [h0]; intro hh; rcases hh with hh | hh; cases hh; exact hh rfl)] at hK
   have hX := I6 @Wb.eq_def hca hcb hcc hcd hup; repeat' (first | rintro _ _ ⟨rfl, rfl⟩ | rintro _ _ ⟨w3, hr3, rfl, rfl⟩ | (refine G.call 208 ?_; refine S.c ?_ (h := hcx)) | refine S.x ?_ | (refine G.call 214 ?_; refine S.c ?_ (h := xjC)) | intro hb | fail)
   all_goals exact Tr.fin hK ⟨w3, hr3, rfl, rfl⟩ S.E
  ·rw [if_pos (.inr h0)] at hK
   have hX := I6 @Wb.eq_def hca hcb hcc hcd hup; repeat' (first | refine S.x ?_ | (refine G.call 71 ?_; refine S.c ?_ (h := Xn ?_)) | (refine G.call 214 ?_; refine S.c ?_ (h := xjC)) | rintro _ _ ⟨rfl, rfl⟩ | rintro _ _ ⟨_, rfl, rfl⟩ | (refine G.prop ?_; assumption) | intro hb | fail)
   all_goals
    rename_i sv
    refine Tr.fin hK ⟨{ w with ev := sv }, hrn sv, rfl, rfl⟩ ?_
    have hX := @Xa.eq_def
    clear h hca hcb hcc hcd
    simp only [ap]
    exact S.E
theorem xvc (hc : okC C) (hr : Xl C c w) (_hk : inR C.progs k) (hf : few c 22) (_hs : s.ok) (h : s.call = 15) :
  Xb prog 138 #[ptr r, .int .i64 k, .agg (En.enc s).toArray] (Xf r C c w)
  fun v l' => ∃ w2, Xl C (XG C c k s) w2 ∧ v = .tuple #[] ∧ l' = Xf r C (XG C c k s) w2 := by
 intro F K hK
 simp only [ap] at hK ⊢
 have hf1 : few c 1 := by unfold few at *; omega
 have hf2 : few c 2 := by unfold few at *; omega
 have hf3 := hf1
 unfold few at hf3
 have h8 := hc.n8
 have htl := Yf hc hr
 have hca : decide (s.call = 13) = false := by rw [h]; rfl
 have hcb : decide (s.call = 14) = false := by rw [h]; rfl
 have hcc : decide (s.call = 15) = true := by rw [h]; rfl
 have hcd : decide (s.call = 16) = false := by rw [h]; rfl
 obtain ⟨c0, hc0⟩ : ∃ c0 : CM, c0 = Xa C { c with obs := { c.obs with flags := JS c.obs.flags s.a true } } k 15 (YT c.obs.flags s.a) 0 := ⟨_, rfl⟩
 have hr0 : ∀ e, Xl C c0 { w with ev := e } := fun e => by rw [hc0]; exact Xy (Qr hr)
 have hf4 : few c0 20 := by unfold few at *; rw [hc0]; simp only [Xa, List.length_append, List.length_cons, List.length_nil]; omega
 obtain ⟨R, hR⟩ : ∃ R, R = J7 C s.a 20 c0 := ⟨_, rfl⟩
 have hsm : XG C c k s = R := by
  rw [hR]
  unfold XG
  rw [if_neg (by rw [h]; decide), if_neg (by rw [h]; decide), if_pos h, hc0]
 rw [hsm] at hK
 refine S.I fun u => ?_
 have hX := I5 @Wb.eq_def hca hcb hcc hcd; repeat' (first | refine S.x ?_ | (refine G.call 71 ?_; refine S.c ?_ (h := Xn ?_)) | (refine G.call 213 ?_; refine S.c ?_ (h := xhB)) | rintro _ _ ⟨rfl, rfl⟩ | rintro _ _ ⟨_, rfl, rfl⟩ | (refine G.prop ?_; assumption) | intro hb | fail)
 rename_i sv
 refine Tr.imp (l' := blk hb (.cells (En.enc s).toArray 86 (0, 0)) :: Xf r C c0 { w with ev := sv } ++ F) ?_ ?_
 ·subst hc0
  clear h hca hcb hcc hcd
  simp only [ap]
  have hX := @Xa.eq_def
  show Xd [] _ _
  exact S.E
 have hrs := hr0 sv
 obtain ⟨w9, hw9⟩ : ∃ w9 : RW, w9 = { w with ev := sv } := ⟨_, rfl⟩
 rw [← hw9] at hrs ⊢
 clear hw9 hc0 hr0 hsm hr htl hf hf1 hf3
 simp only [ap]
 refine Tr.loopE (α := Nat × CM × RW) [8] [0, 1, 5, 13] (fun x => [.int .i64 x.1]) (fun x => Xf r C x.2.1 x.2.2) (fun x => x.1 ≤ 20 ∧ J7 C s.a (20 - x.1) x.2.1 = R ∧ few x.2.1 (20 - x.1) ∧ Xl C x.2.1 x.2.2) (fun x => 20 - x.1) (0, c0, w9) S.T rfl ⟨by simp only; omega, hR.symm, hf4, hrs⟩ fun x u hx => ?_
 obtain ⟨n, c1, w1⟩ := x
 obtain ⟨hn, he, hf1, hr1⟩ := hx
 simp only at hn he hf1 hr1 ⊢
 simp only [ap]
 have htl := Yf hc hr1
 clear hrs hf4 hR
 by_cases hn9 : n < 20
 ·have hw := Xo (k := n) S.o
  by_cases h0 : c1.tb.best (One.waits 17 s.a) < 0
  ·rw [xcP h0] at he
   rw [← he] at hK
   have hX := And.intro @Wb.eq_def hw; repeat' (first | refine S.x ?_ | (refine G.call 128 ?_; refine S.c ?_ (h := X5 ‹_›)) | rintro _ _ ⟨rfl, rfl⟩ | fail)
   all_goals
    refine Tr.fin hK ⟨w1, hr1, rfl, rfl⟩ ?_
    clear h hca hcb hcc hcd
    exact S.E
  ·obtain ⟨n9, hn9'⟩ : ∃ n9, 20 - n = n9 + 1 := ⟨19 - n, by omega⟩
   have hpk : XB c1 17 s.a = c1.tb.best (One.waits 17 s.a) := rfl
   rw [hn9'] at he
   unfold J7 at he
   rw [hpk, if_neg h0] at he
   obtain ⟨kw, hkk⟩ : ∃ kw, kw = c1.tb.best (One.waits 17 s.a) := ⟨_, rfl⟩
   have hpk' : c1.tb.best (One.waits 17 s.a) = kw := hkk.symm
   rw [← hkk] at he h0
   clear hkk hpk
   obtain ⟨c3, hc3⟩ : ∃ c3 : CM, c3 = Zc C c1 kw 17 0 0 := ⟨_, rfl⟩
   rw [← hc3] at he
   have he3 : J7 C s.a (20 - (n + 1)) c3 = R := by rw [show 20 - (n + 1) = n9 by omega]; exact he
   have hf2 : few c1 1 := by unfold few at *; omega
   have hf3 : few c3 (20 - (n + 1)) := by
    have hev3 : c3.evs.length = c1.evs.length + 1 := by rw [hc3]; simp [Zc, Xa, XW]
    unfold few at *
    rw [hev3]; omega
   have hco := QN (r := r) (k := kw) (call := 17) (code := 0) (value := 0) hc hr1 hf2
   rw [← hc3] at hco
   clear hr1 hc3
   have hX := I3 @Wb.eq_def hw @hpk'; repeat' (first | rintro _ _ ⟨rfl, rfl⟩ | rintro _ _ ⟨w3, hr3, rfl, rfl⟩ | (refine G.call 75 ?_; refine S.c ?_ (h := hco)) | refine S.x ?_ | (refine G.call 128 ?_; refine S.c ?_ (h := X5 ‹_›)) | fail)
   all_goals
    clear h hpk' hca hcb hcc hcd
    exact S.R ((n + 1, c3, w3) : Nat × CM × RW)
 ·have e0 : 20 - n = 0 := by omega
  rw [e0] at he
  have he' : c1 = R := he
  rw [← he'] at hK
  have hX := @Wb.eq_def; repeat' (first | refine S.x ?_ | fail)
  all_goals
   refine Tr.fin hK ⟨w1, hr1, rfl, rfl⟩ ?_
   clear h hca hcb hcc hcd
   exact S.E
theorem xkm (hc : okC C) (hr : Xl C c w) (hk : inR C.progs k) (hf : few c 22) (hs : s.ok) (h0 : 13 ≤ s.call) (h1 : s.call ≤ 17) :
  Xb prog 138 #[ptr r, .int .i64 k, .agg (En.enc s).toArray] (Xf r C c w)
  fun v l' => ∃ w2, Xl C (XG C c k s) w2 ∧ v = .tuple #[] ∧ l' = Xf r C (XG C c k s) w2 := by
 by_cases e9 : s.call = 13
 ·exact xva hc hr hk hf hs e9
 ·by_cases e10 : s.call = 14
  ·exact xvg hc hr hk hf hs e10
  ·by_cases e11 : s.call = 15
   ·exact xvc hc hr hk hf hs e11
   ·by_cases e12 : s.call = 16
    ·exact xuV hc hr hk hf hs e12
    ·exact xvm hc hr hk hf hs S.o
