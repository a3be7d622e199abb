import Derived.Test.YtacmaamllpiloaaGreatHR
namespace Go.Proofs.YtacmaamllpiloaaGreat
open Go Go.Wk Tryz
set_option maxHeartbeats 3200000
set_option maxRecDepth 100000
section
attribute [local irreducible] BrK Xq Xt Xv XI FnK XZ Xw XC XV opX opK Yq Yk eqR Yj Yo Ys WL WD W X3 XO Tr drewK Ya X4 Yw Yv X1 YB mp blk rob sl sep ex fact old
section
attribute [local irreducible] Yr XT robjX rslkO Yg
def ZQ (C : CC) (c : CM) (k : Int) (s : XE) : CM := if s.call = 23 then Yx C (Xa C c k 23 0 s.a) k 3 else if s.call = 24 ∨ s.call = 25 then Ze C c k s else if s.call = 26 then Xa C c k 26 0 c.mode else Vb C c k s
section
variable {r : Nat} {C : CC} {c : CM} {w : RW} {k : Int} {s : XE}
theorem xuE (hc : okC C) (hr : Xl C c w) (hk : inR C.progs k) (hf : few c 22) (hs : s.ok) (h : s.call = 23) :
  Xb prog 141 #[ptr r, .int .i64 k, .agg (En.enc s).toArray] (Xf r C c w)
  fun v l' => ∃ w2, Xl C (ZQ C c k s) w2 ∧ v = .tuple #[] ∧ l' = Xf r C (ZQ C c k s) w2 := by
 intro F K hK
 simp only [ap] at hK ⊢
 have hf1 : few c 1 := by unfold few at *; omega
 have hf2 : few c 2 := by unfold few at *; omega
 have hf3 := hf1
 unfold few at hf3
 have h8 := hc.n8
 have htl := Yf hc hr
 have hca : decide (s.call = 23) = true := by rw [h]; rfl
 have hcb : decide (s.call = 24) = false := by rw [h]; rfl
 have hcc : decide (s.call = 25) = false := by rw [h]; rfl
 have hcd : decide (s.call = 26) = false := by rw [h]; rfl
 have hz := hs.1
 obtain ⟨c1, hc1⟩ : ∃ c1 : CM, c1 = Xa C c k 23 0 s.a := ⟨_, rfl⟩
 have hr1 : ∀ e, Xl C c1 { w with ev := e } := fun e => by rw [hc1]; exact Xy hr
 have hf4 : few c1 1 := by unfold few at *; rw [hc1]; simp only [Xa, List.length_append, List.length_cons, List.length_nil]; omega
 have hsm : ZQ C c k s = Yx C c1 k 3 := by unfold ZQ; rw [if_pos h, hc1]
 rw [hsm] at hK
 have hcy := fun e => Qc (r := r) (kind := 3) hc (hr1 e) hk hf4 (by decide) (by decide)
 refine S.I fun u => ?_
 have hX := I5 @VW.eq_def hca hcb hcc hcd; repeat' (first | refine S.x ?_ | (refine G.call 71 ?_; refine S.c ?_ (h := Xn ?_)) | rintro _ _ ⟨_, rfl, rfl⟩ | (refine G.prop ?_; assumption) | intro hb | fail)
 rename_i sv
 have hcx := hcy sv
 refine Tr.imp (l' := Xf r C c1 { w with ev := sv } ++ F) ?_ ?_
 ·subst hc1
  clear h hca hcb hcc hcd
  simp only [ap]
  have hX := @Xa.eq_def
  show Xd [] _ _
  exact S.E
 clear hc1 hr1 hr hsm
 simp only [ap]
 have hX := @VW.eq_def; repeat' (first | rintro _ _ ⟨w3, hr3, rfl, rfl⟩ | (refine G.call 72 ?_; refine S.c ?_ (h := hcx)) | refine S.x ?_ | fail)
 all_goals exact Tr.fin hK ⟨w3, hr3, rfl, rfl⟩ S.E
theorem xuQ (hc : okC C) (hr : Xl C c w) (hk : inR C.progs k) (hf : few c 22) (hs : s.ok) (h : s.call = 24) :
  Xb prog 141 #[ptr r, .int .i64 k, .agg (En.enc s).toArray] (Xf r C c w)
  fun v l' => ∃ w2, Xl C (ZQ C c k s) w2 ∧ v = .tuple #[] ∧ l' = Xf r C (ZQ C c k s) w2 := by
 intro F K hK
 simp only [ap] at hK ⊢
 have hf1 : few c 1 := by unfold few at *; omega
 have hf2 : few c 2 := by unfold few at *; omega
 have hf3 := hf1
 unfold few at hf3
 have h8 := hc.n8
 have htl := Yf hc hr
 have hca : decide (s.call = 23) = false := by rw [h]; rfl
 have hcb : decide (s.call = 24) = true := by rw [h]; rfl
 have hcc : decide (s.call = 25) = false := by rw [h]; rfl
 have hcd : decide (s.call = 26) = false := by rw [h]; rfl
 have hz := hs.1
 have hsm : ZQ C c k s = if ldO c.mem s.a 4 = true then Xa C c k 24 0 (wdB c.mem s.a) else JV C c k s := by
  unfold ZQ Ze
  rw [if_neg (by rw [h]; decide), if_pos (.inl h), if_neg (by rw [h]; decide)]
 rw [hsm] at hK
 refine S.I fun u => ?_
 cases hst : ldO c.mem s.a 4 with
 | true =>
  rw [hst, if_pos rfl] at hK
  have hrn := fun e => Xy (k := k) (call := 24) (code := 0) (value := wdB c.mem s.a) (e := e) hr
  have hX := I6 @VW.eq_def hca hcb hcc hcd hst; repeat' (first | refine S.x ?_ | (refine G.call 71 ?_; refine S.c ?_ (h := Xn ?_)) | (refine G.call 220 ?_; refine S.c ?_ (h := xh8 ‹_›)) | rintro _ _ ⟨rfl, rfl⟩ | rintro _ _ ⟨_, rfl, rfl⟩ | (refine G.prop ?_; assumption) | intro hb | fail)
  all_goals
   rename_i sv
   refine Tr.fin hK ⟨{ w with ev := sv }, hrn sv, rfl, rfl⟩ ?_
   have hX := @Xa.eq_def
   clear h hca hcb hcc hcd
   simp only [ap]
   exact S.E
 | false =>
  rw [hst, if_neg (by decide)] at hK
  have hcx := xdb (r := r) (s := s) hc hr hk hf2
  have hX := I6 @VW.eq_def hca hcb hcc hcd hst; repeat' (first | rintro _ _ ⟨rfl, rfl⟩ | rintro _ _ ⟨w3, hr3, rfl, rfl⟩ | (refine G.call 221 ?_; refine S.c ?_ (h := hcx)) | refine S.x ?_ | (refine G.call 220 ?_; refine S.c ?_ (h := xh8 ‹_›)) | intro hb | fail)
  all_goals exact Tr.fin hK ⟨w3, hr3, rfl, rfl⟩ S.E
theorem xu9 (hc : okC C) (hr : Xl C c w) (hk : inR C.progs k) (hf : few c 22) (hs : s.ok) (h : s.call = 25) :
  Xb prog 141 #[ptr r, .int .i64 k, .agg (En.enc s).toArray] (Xf r C c w)
  fun v l' => ∃ w2, Xl C (ZQ C c k s) w2 ∧ v = .tuple #[] ∧ l' = Xf r C (ZQ C c k s) w2 := by
 intro F K hK
 simp only [ap] at hK ⊢
 have hf1 : few c 1 := by unfold few at *; omega
 have hf2 : few c 2 := by unfold few at *; omega
 have hf3 := hf1
 unfold few at hf3
 have h8 := hc.n8
 have htl := Yf hc hr
 have hca : decide (s.call = 23) = false := by rw [h]; rfl
 have hcb : decide (s.call = 24) = false := by rw [h]; rfl
 have hcc : decide (s.call = 25) = true := by rw [h]; rfl
 have hcd : decide (s.call = 26) = false := by rw [h]; rfl
 have hz := hs.1
 obtain ⟨c1, hc1⟩ : ∃ c1 : CM, c1 = { c with mem := stB c.mem s.a (b4 s.b) } := ⟨_, rfl⟩
 have hr1 : Xl C c1 w := by rw [hc1]; exact xkx hr
 have hf4 : few c1 2 := by rw [hc1]; exact hf2
 have hsm : ZQ C c k s = if stO c.mem s.a 4 = true then Xa C c1 k 25 0 0 else JV C c1 k s := by
  unfold ZQ Ze
  rw [if_neg (by rw [h]; decide), if_pos (.inr h), if_pos h, hc1]
 rw [hsm] at hK
 refine S.I fun u => ?_
 cases hst : stO c.mem s.a 4 with
 | true =>
  rw [hst, if_pos rfl] at hK
  have hrn := fun e => Xy (k := k) (call := 25) (code := 0) (value := 0) (e := e) hr1
  have hX := I6 @VW.eq_def hca hcb hcc hcd hst; repeat' (first | refine S.x ?_ | (refine G.call 71 ?_; refine S.c ?_ (h := Xn ?_)) | (refine G.call 222 ?_; refine S.c ?_ (h := xlj ‹_›)) | rintro _ _ ⟨rfl, rfl⟩ | rintro _ _ ⟨_, rfl, rfl⟩ | (refine G.prop ?_; assumption) | intro hb | fail)
  all_goals
   rename_i sv
   refine Tr.fin hK ⟨{ w with ev := sv }, hrn sv, rfl, rfl⟩ ?_
   have hX := @Xa.eq_def
   subst hc1
   clear h hca hcb hcc hcd
   simp only [ap]
   exact S.E
 | false =>
  rw [hst, if_neg (by decide)] at hK
  have hcx := xdb (r := r) (s := s) hc hr1 hk hf4
  have hX := I6 @VW.eq_def hca hcb hcc hcd hst; repeat' (first | refine S.x ?_ | (refine G.call 222 ?_; refine S.c ?_ (h := xlj ‹_›)) | rintro _ _ ⟨rfl, rfl⟩ | intro hb | fail)
  refine Tr.imp (l' := Xf r C c1 w ++ F) ?_ ?_
  ·subst hc1
   clear h hca hcb hcc hcd
   simp only [ap]
   have hX := @Xa.eq_def
   show Xd [] _ _
   exact S.E
  clear hc1 hr1 hr hsm
  simp only [ap]
  have hX := @VW.eq_def; repeat' (first | rintro _ _ ⟨w3, hr3, rfl, rfl⟩ | (refine G.call 221 ?_; refine S.c ?_ (h := hcx)) | refine S.x ?_ | fail)
  all_goals exact Tr.fin hK ⟨w3, hr3, rfl, rfl⟩ S.E
theorem xuY (hc : okC C) (hr : Xl C c w) (_hk : inR C.progs k) (hf : few c 22) (hs : s.ok) (h : s.call = 26) :
  Xb prog 141 #[ptr r, .int .i64 k, .agg (En.enc s).toArray] (Xf r C c w)
  fun v l' => ∃ w2, Xl C (ZQ C c k s) w2 ∧ v = .tuple #[] ∧ l' = Xf r C (ZQ C c k s) w2 := by
 intro F K hK
 simp only [ap] at hK ⊢
 have hf1 : few c 1 := by unfold few at *; omega
 have hf2 : few c 2 := by unfold few at *; omega
 have hf3 := hf1
 unfold few at hf3
 have h8 := hc.n8
 have htl := Yf hc hr
 have hca : decide (s.call = 23) = false := by rw [h]; rfl
 have hcb : decide (s.call = 24) = false := by rw [h]; rfl
 have hcc : decide (s.call = 25) = false := by rw [h]; rfl
 have hcd : decide (s.call = 26) = true := by rw [h]; rfl
 have hz := hs.1
 have hsm : ZQ C c k s = Xa C c k 26 0 c.mode := by unfold ZQ; rw [if_neg (by rw [h]; decide), if_neg (by rw [h]; decide), if_pos h]
 rw [hsm] at hK
 have hrn := fun e => Xy (k := k) (call := 26) (code := 0) (value := c.mode) (e := e) hr
 refine S.I fun u => ?_
 have hX := I5 @VW.eq_def hca hcb hcc hcd; repeat' (first | refine S.x ?_ | (refine G.call 71 ?_; refine S.c ?_ (h := Xn ?_)) | rintro _ _ ⟨_, rfl, rfl⟩ | (refine G.prop ?_; assumption) | intro hb | fail)
 all_goals
  rename_i sv
  refine Tr.fin hK ⟨{ w with ev := sv }, hrn sv, rfl, rfl⟩ ?_
  have hX := @Xa.eq_def
  clear h hca hcb hcc hcd
  simp only [ap]
  exact S.E
theorem xuA (hc : okC C) (hr : Xl C c w) (_hk : inR C.progs k) (hf : few c 22) (hs : s.ok) (h : s.call = 27) :
  Xb prog 141 #[ptr r, .int .i64 k, .agg (En.enc s).toArray] (Xf r C c w)
  fun v l' => ∃ w2, Xl C (ZQ C c k s) w2 ∧ v = .tuple #[] ∧ l' = Xf r C (ZQ C c k s) w2 := by
 intro F K hK
 simp only [ap] at hK ⊢
 have hf1 : few c 1 := by unfold few at *; omega
 have hf2 : few c 2 := by unfold few at *; omega
 have hf3 := hf1
 unfold few at hf3
 have h8 := hc.n8
 have htl := Yf hc hr
 have hca : decide (s.call = 23) = false := by rw [h]; rfl
 have hcb : decide (s.call = 24) = false := by rw [h]; rfl
 have hcc : decide (s.call = 25) = false := by rw [h]; rfl
 have hcd : decide (s.call = 26) = false := by rw [h]; rfl
 have hz := hs.1
 obtain ⟨c1, hc1⟩ : ∃ c1 : CM, c1 = Xa C c k 27 0 0 := ⟨_, rfl⟩
 have hr1 : ∀ e, Xl C c1 { w with ev := e } := fun e => by rw [hc1]; exact Xy hr
 have hsm : ZQ C c k s = if s.a = 0 then WU C c1 else if s.a = 1 ∨ s.a = 2 then Qi C c1 (decide (s.a = 1)) else if s.a = 3 then Xa C c k 27 6 0 else Xa C c k 27 2 0 := by
  unfold ZQ Vb
  rw [if_neg (by rw [h]; decide), if_neg (by rw [h]; decide), if_neg (by rw [h]; decide), hc1]
 rw [hsm] at hK
 refine S.I fun u => ?_
 by_cases h0 : s.a = 0
 ·rw [if_pos h0] at hK
  have hcy := fun e => xhQ (r := r) hc (hr1 e)
  have hX := I5 @VW.eq_def hca hcb hcc hcd; repeat' (first | refine S.x ?_ | (refine G.call 71 ?_; refine S.c ?_ (h := Xn ?_)) | rintro _ _ ⟨_, rfl, rfl⟩ | (refine G.prop ?_; assumption) | intro hb | fail)
  rename_i sv
  have hcx := hcy sv
  refine Tr.imp (l' := Xf r C c1 { w with ev := sv } ++ F) ?_ ?_
  ·subst hc1
   clear h hca hcb hcc hcd
   simp only [ap]
   have hX := @Xa.eq_def
   show Xd [] _ _
   exact S.E
  clear hc1 hr1 hr hsm
  simp only [ap]
  have hX := @VW.eq_def; repeat' (first | rintro _ _ ⟨hr3, rfl, rfl⟩ | (refine G.call 127 ?_; refine S.c ?_ (h := hcx)) | refine S.x ?_ | fail)
  all_goals exact Tr.fin hK ⟨_, hr3, rfl, rfl⟩ S.E
 ·rw [if_neg h0] at hK
  by_cases h12 : s.a = 1 ∨ s.a = 2
  ·rw [if_pos h12] at hK
   have hcy := fun e cold => xhO (r := r) (cold := cold) hc (hr1 e)
   have hX := I5 @VW.eq_def hca hcb hcc hcd; repeat' (first | refine S.x ?_ | refine S.y ?_ ?_ | (refine G.call 71 ?_; refine S.c ?_ (h := Xn ?_)) | rintro _ _ ⟨_, rfl, rfl⟩ | (refine G.prop ?_; assumption) | intro hb | fail)
   all_goals
    rename_i sv
    have hcx := hcy sv
    refine Tr.imp (l' := Xf r C c1 { w with ev := sv } ++ F) ?_ ?_
    ·subst hc1
     clear h hca hcb hcc hcd
     simp only [ap]
     have hX := @Xa.eq_def
     show Xd [] _ _
     exact S.E
    clear hc1 hr1 hr hsm
    simp only [ap]
    have hX := @VW.eq_def; repeat' (first | rintro _ _ ⟨w3, hr3, rfl, rfl⟩ | (refine G.call 126 ?_; refine S.c ?_ (h := hcx _)) | refine S.x ?_ | fail)
    all_goals exact Tr.fin hK ⟨w3, hr3, rfl, rfl⟩ S.E
  ·rw [if_neg h12] at hK
   by_cases h3 : s.a = 3
   ·rw [if_pos h3] at hK
    have hrn := fun e => Xy (k := k) (call := 27) (code := 6) (value := 0) (e := e) hr
    have hX := I5 @VW.eq_def hca hcb hcc hcd; repeat' (first | refine S.x ?_ | (refine G.call 71 ?_; refine S.c ?_ (h := Xn ?_)) | rintro _ _ ⟨_, rfl, rfl⟩ | (refine G.prop ?_; assumption) | intro hb | fail)
    all_goals
     rename_i sv
     refine Tr.fin hK ⟨{ w with ev := sv }, hrn sv, rfl, rfl⟩ ?_
     have hX := @Xa.eq_def
     clear h hca hcb hcc hcd
     simp only [ap]
     exact S.E
   ·rw [if_neg h3] at hK
    have hrn := fun e => Xy (k := k) (call := 27) (code := 2) (value := 0) (e := e) hr
    have hX := I5 @VW.eq_def hca hcb hcc hcd; repeat' (first | refine S.x ?_ | (refine G.call 71 ?_; refine S.c ?_ (h := Xn ?_)) | rintro _ _ ⟨_, rfl, rfl⟩ | (refine G.prop ?_; assumption) | intro hb | fail)
    all_goals
     rename_i sv
     refine Tr.fin hK ⟨{ w with ev := sv }, hrn sv, rfl, rfl⟩ ?_
     have hX := @Xa.eq_def
     clear h hca hcb hcc hcd
     simp only [ap]
     exact S.E
theorem xqQ (hc : okC C) (hr : Xl C c w) (hk : inR C.progs k) (hf : few c 22) (hs : s.ok) (h0 : 23 ≤ s.call) (h1 : s.call ≤ 27) :
  Xb prog 141 #[ptr r, .int .i64 k, .agg (En.enc s).toArray] (Xf r C c w)
  fun v l' => ∃ w2, Xl C (ZQ C c k s) w2 ∧ v = .tuple #[] ∧ l' = Xf r C (ZQ C c k s) w2 := by
 by_cases e9 : s.call = 23
 ·exact xuE hc hr hk hf hs e9
 ·by_cases e10 : s.call = 24
  ·exact xuQ hc hr hk hf hs e10
  ·by_cases e11 : s.call = 25
   ·exact xu9 hc hr hk hf hs e11
   ·by_cases e12 : s.call = 26
    ·exact xuY hc hr hk hf hs e12
    ·exact xuA hc hr hk hf hs S.o
end
section
variable {r : Nat} {C : CC} {c : CM} {w : RW} {k : Int} {s : XE}
theorem xoh (hc : okC C) (hr : Xl C c w) (hk : inR C.progs k) (hf : few c 22) (hs : s.ok) (hsl : c.slk.isSome = true) (hp : okP C c) :
  Xb prog 86 #[ptr r, .int .i64 k, .agg (En.enc s).toArray] (Xf r C c w)
  fun v l' => ∃ w2, Xl C (XR C c k s) w2 ∧ v = .tuple #[] ∧ l' = Xf r C (XR C c k s) w2 := by
 intro F K hK
 simp only [ap] at hK ⊢
 have hf1 : few c 1 := by unfold few at *; omega
 have hf3 := hf1
 unfold few at hf3
 have hpz := xgQ hc hp
 have hoz := xgj hc s.a
 have hlz := xit hc s.a
 by_cases hg : 1 ≤ s.call ∧ s.call ≤ 3
 ·obtain ⟨a1, a2⟩ := hg
  have hsm : XR C c k s = XY C c k s := by
   unfold XR
   rw [if_pos ⟨a1, a2⟩]
  rw [hsm] at hK
  have hcp := xnP (r := r) hc hr hk hf hs hsl a1 a2
  refine S.I fun u => ?_
  repeat' (first | rintro _ _ ⟨w3, hr3, rfl, rfl⟩ | (refine G.call 135 ?_; refine S.c ?_ (h := hcp)) | refine S.x ?_ | intro hb | fail)
  all_goals exact Tr.fin hK ⟨w3, hr3, rfl, rfl⟩ S.E
 ·by_cases hg : 4 ≤ s.call ∧ s.call ≤ 7
  ·obtain ⟨a1, a2⟩ := hg
   have hsm : XR C c k s = Xk C c k s := by
    unfold XR
    rw [if_neg S.o, if_pos ⟨a1, a2⟩]
   rw [hsm] at hK
   have hcp := xkD (r := r) hc hr hk hf hs a1 a2
   refine S.I fun u => ?_
   repeat' (first | rintro _ _ ⟨w3, hr3, rfl, rfl⟩ | (refine G.call 136 ?_; refine S.c ?_ (h := hcp)) | refine S.x ?_ | intro hb | fail)
   all_goals exact Tr.fin hK ⟨w3, hr3, rfl, rfl⟩ S.E
  ·by_cases hg : 9 ≤ s.call ∧ s.call ≤ 12
   ·obtain ⟨a1, a2⟩ := hg
    have hsm : XR C c k s = Yt C c k s := by
     unfold XR
     rw [if_neg S.o, if_neg S.o, if_neg S.o, if_pos ⟨a1, a2⟩]
    rw [hsm] at hK
    have hcp := xp6 (r := r) hc hr hk hf hs (hpz _) a1 a2
    refine S.I fun u => ?_
    repeat' (first | rintro _ _ ⟨w3, hr3, rfl, rfl⟩ | (refine G.call 137 ?_; refine S.c ?_ (h := hcp)) | refine S.x ?_ | intro hb | fail)
    all_goals exact Tr.fin hK ⟨w3, hr3, rfl, rfl⟩ S.E
   ·by_cases hg : 13 ≤ s.call ∧ s.call ≤ 17
    ·obtain ⟨a1, a2⟩ := hg
     have hsm : XR C c k s = XG C c k s := by
      unfold XR
      rw [if_neg S.o, if_neg S.o, if_neg S.o, if_neg S.o, if_pos ⟨a1, a2⟩]
     rw [hsm] at hK
     have hcp := xkm (r := r) hc hr hk hf hs a1 a2
     refine S.I fun u => ?_
     repeat' (first | rintro _ _ ⟨w3, hr3, rfl, rfl⟩ | (refine G.call 138 ?_; refine S.c ?_ (h := hcp)) | refine S.x ?_ | intro hb | fail)
     all_goals exact Tr.fin hK ⟨w3, hr3, rfl, rfl⟩ S.E
    ·by_cases hg : 18 ≤ s.call ∧ s.call ≤ 19
     ·obtain ⟨a1, a2⟩ := hg
      have hsm : XR C c k s = Yn C c k s := by
       unfold XR
       rw [if_neg S.o, if_neg S.o, if_neg S.o, if_neg S.o, if_neg S.o, if_pos S.o]
      rw [hsm] at hK
      have hcp := xnY (r := r) hc hr hk hf hs hoz a1 a2
      refine S.I fun u => ?_
      repeat' (first | rintro _ _ ⟨w3, hr3, rfl, rfl⟩ | (refine G.call 139 ?_; refine S.c ?_ (h := hcp)) | refine S.x ?_ | refine S.y ?_ ?_ | intro hb | fail)
      all_goals exact Tr.fin hK ⟨w3, hr3, rfl, rfl⟩ S.E
     ·by_cases hg : 20 ≤ s.call ∧ s.call ≤ 22
      ·obtain ⟨a1, a2⟩ := hg
       have hsm : XR C c k s = XN C c k s := by
        unfold XR
        rw [if_neg S.o, if_neg S.o, if_neg S.o, if_neg S.o, if_neg S.o, if_neg S.o, if_pos ⟨a1, a2⟩]
       rw [hsm] at hK
       have hcp := xnN (r := r) hc hr hk hf hs hlz a1 a2
       refine S.I fun u => ?_
       repeat' (first | rintro _ _ ⟨w3, hr3, rfl, rfl⟩ | (refine G.call 140 ?_; refine S.c ?_ (h := hcp)) | refine S.x ?_ | intro hb | fail)
       all_goals exact Tr.fin hK ⟨w3, hr3, rfl, rfl⟩ S.E
      ·by_cases hg : 23 ≤ s.call ∧ s.call ≤ 27
       ·obtain ⟨a1, a2⟩ := hg
        have hsm : XR C c k s = ZQ C c k s := by
         unfold XR
         rw [if_neg S.o, if_neg S.o, if_neg S.o, if_neg S.o, if_neg S.o, if_neg S.o, if_neg S.o]
         unfold ZQ
         split
         ·rfl
         ·split
          ·rfl
          ·split
           ·rfl
           ·rw [if_pos S.o]
        rw [hsm] at hK
        have hcp := xqQ (r := r) hc hr hk hf hs a1 a2
        refine S.I fun u => ?_
        repeat' (first | rintro _ _ ⟨w3, hr3, rfl, rfl⟩ | (refine G.call 141 ?_; refine S.c ?_ (h := hcp)) | refine S.x ?_ | intro hb | fail)
        all_goals exact Tr.fin hK ⟨w3, hr3, rfl, rfl⟩ S.E
       ·by_cases hg : s.call = 8
        ·have hsm : XR C c k s = Xa C c k 8 0 c.win := by
          unfold XR
          rw [if_neg S.o, if_neg S.o, if_pos hg]
         rw [hsm] at hK
         have hrn := fun e => Xy (k := k) (call := 8) (code := 0) (value := c.win) (e := e) hr
         refine S.I fun u => ?_
         repeat' (first | refine S.x ?_ | (refine G.call 71 ?_; refine S.c ?_ (h := Xn ?_)) | rintro _ _ ⟨_, rfl, rfl⟩ | (refine G.prop ?_; assumption) | intro hb | fail)
         all_goals
          rename_i sv
          refine Tr.fin hK ⟨{ w with ev := sv }, hrn sv, rfl, rfl⟩ ?_
          have hX := @Xa.eq_def
          clear hg
          simp only [ap]
          exact S.E
        ·obtain ⟨c1, hc1⟩ : ∃ c1 : CM, c1 = Xa C c k s.call 7 0 := ⟨_, rfl⟩
         have hr1 : ∀ e, Xl C c1 { w with ev := e } := fun e => by rw [hc1]; exact Xy hr
         have hf4 : few c1 1 := by unfold few at *; rw [hc1]; simp only [Xa, List.length_append, List.length_cons, List.length_nil]; omega
         have hsm : XR C c k s = Yx C c1 k 1 := by
          unfold XR
          rw [if_neg S.o, if_neg S.o, if_neg S.o, if_neg S.o, if_neg S.o, if_neg S.o, if_neg S.o, if_neg S.o, if_neg S.o, if_neg S.o, if_neg S.o, hc1]
         rw [hsm] at hK
         have hcy := fun e => Qc (r := r) (kind := 1) hc (hr1 e) hk hf4 (by decide) (by decide)
         refine S.I fun u => ?_
         repeat' (first | refine S.x ?_ | refine S.y ?_ ?_ | (refine G.call 71 ?_; refine S.c ?_ (h := Xn ?_)) | rintro _ _ ⟨_, rfl, rfl⟩ | (refine G.prop ?_; assumption) | intro hb | fail)
         all_goals
          rename_i sv
          have hcx := hcy sv
          refine Tr.imp (l' := Xf r C c1 { w with ev := sv } ++ F) ?_ ?_
          ·subst hc1
           simp only [ap]
           have hX := @Xa.eq_def
           show Xd [] _ _
           exact S.E
          clear hc1 hr1 hr hsm
          simp only [ap]
          repeat' (first | rintro _ _ ⟨w3, hr3, rfl, rfl⟩ | (refine G.call 72 ?_; refine S.c ?_ (h := hcx)) | refine S.x ?_ | fail)
          all_goals exact Tr.fin hK ⟨w3, hr3, rfl, rfl⟩ S.E
end
end
section
def xd7 (c : CM) : Bool := match c.slk with
 | some m => decide (¬ Yl c < 0) && decide (spM m.room m.ms (Yl c) 1 = 1)
 | none => false
def Q0 (C : CC) (c : CM) : CM := match c.slk with
 | some m => if Yl c < 0 then c else if spM m.room m.ms (Yl c) 1 = 1 then xan C c (Yl c) 1 else { c with slk := some (X8 m (Yl c) 1) }
 | none => c
section
variable {C : CC} {c : CM} {w : RW} {k n : Int} {m : SlM}
theorem xgn (h : Yl c < 0) : Q0 C c = c ∧ xd7 c = false := by
 unfold Q0 xd7
 split
 ·rename_i m hm
  rw [if_pos h, decide_eq_false S.o]
  exact ⟨rfl, rfl⟩
 ·rename_i hm
  exact ⟨rfl, rfl⟩
theorem xgl (h : ¬ Yl c < 0) (hm : c.slk = some m) (hs : ¬ spM m.room m.ms (Yl c) 1 = 1) : Q0 C c = { c with slk := some (X8 m (Yl c) 1) } ∧ xd7 c = false := by
 unfold Q0 xd7
 rw [hm]
 simp only
 rw [if_neg h, if_neg hs, decide_eq_false hs, Bool.and_false]
 exact ⟨rfl, rfl⟩
theorem xga (h : ¬ Yl c < 0) (hm : c.slk = some m) (hs : spM m.room m.ms (Yl c) 1 = 1) : Q0 C c = xan C c (Yl c) 1 ∧ xd7 c = true := by
 unfold Q0 xd7
 rw [hm]
 simp only
 rw [if_neg h, if_pos hs, decide_eq_true hs, decide_eq_true h]
 exact ⟨rfl, rfl⟩
theorem xff (h : okM C c) : okM C (Yc c m k n) := ⟨h.tb, h.pos, by simpa [Yc] using h.rest, h.addr, h.data, h.done, h.pi, h.ad, h.dl⟩
theorem xqd {o : Option Nat} {s : SV} (ho : o.isSome = true) (h : Xl C c w) : Xl C (Yc c m k n) { w with slk := o, re := s } := ⟨xff h.ok, h.hp, h.hd, ho⟩
theorem xdY : (VJ m.room m.ms k n).length = m.ms.length := by
 unfold VJ
 split
 ·split
  ·rfl
  ·exact List.length_set
 ·rfl
theorem xe5 (hS : okS C c) (hm : c.slk = some m) : okS C (Yc c m k n) := fun m' hm' => by
 have : some (X8 m k n) = some m' := hm'
 cases this
 show (VJ m.room m.ms k n).length = _
 rw [xdY]; exact hS m hm
end
attribute [local irreducible] Yr XT robjX rslkX Yg
attribute [local irreducible] Yy YJ XA Vn Zb XM xbb
section
variable {r : Nat} {C : CC} {c : CM} {w : RW}
theorem xnF (hc : okC C) (hr : Xl C c w) (hf : few c 130) (hS : okS C c) (hp : okP C c) (hrs : xoC c) : Xb prog 28 #[ptr r] (Xf r C c w)
  fun v l' => ∃ w2, Xl C (Q0 C c) w2 ∧ v = .bool (xd7 c) ∧ l' = Xf r C (Q0 C c) w2 := by
 intro F K hK
 simp only [ap] at hK ⊢
 have h8 := hc.n8
 have hnx := xgf (r := r) hc hr
 by_cases h0 : Yl c < 0
 ·obtain ⟨e1, e2⟩ := xgn (C := C) h0
  rw [e1, e2] at hK
  refine S.I fun u => ?_
  have hX := @xj2.eq_def; repeat' (first | rintro _ _ ⟨rfl, rfl⟩ | (refine G.call 82 ?_; refine S.c ?_ (h := hnx)) | refine S.x ?_ | fail)
  all_goals exact Tr.fin hK ⟨w, hr, rfl, rfl⟩ S.E
 ·obtain ⟨m, hm, h3, hwp⟩ := J2 h0
  have hk : inR C.progs (Yl c) := by rw [hwp]; exact xgC hr (by rw [hwp] at h0; exact h0)
  obtain ⟨sb, hsb⟩ := VS hr hm
  have hsp : slP w.slk = .pointer (some ⟨sb, 0, none⟩) := by rw [hsb]; rfl
  have hsl : rslkO w.slk c.slk = rslkX sb m := by rw [hsb, hm]; rfl
  by_cases hs1 : spM m.room m.ms (Yl c) 1 = 1
  ·obtain ⟨e1, e2⟩ := xga (C := C) h0 hm hs1
   rw [e1, e2] at hK
   have hsu := fun k => xfd (r := sb) (m := m) (k := k) (n := 1)
   generalize Yl c = k at *
   have hkr : inR c.rest k := by unfold inR at *; rw [hr.ok.rest]; exact hk
   have hkp : inR c.pos k := by unfold inR at *; rw [hr.ok.pos]; exact hk
   have hkx : inR w.px k := by unfold inR at *; rw [JK hr]; exact hk
   have hrb := hrs _ (List.mem_of_getElem? (Yi hkr.1 hkr.2))
   have hwr : IntKind.i64.wrap (ix c.rest k - 1) = ix c.rest k - 1 := Ye S.o S.o
   have hl2 : c.rest.length ≤ 1000000 := by rw [hr.ok.rest]; omega
   have hii := fun s => xbH (s := s) (n := ix c.rest k - 1) (xs := c.rest) hkr hl2
   have hix : ix (c.rest.set k.toNat (ix c.rest k - 1)) k = ix c.rest k - 1 := by rw [YY hkr hkr.1, if_pos rfl]
   have hlr : (c.rest.set k.toNat (ix c.rest k - 1)).length = c.rest.length := List.length_set
   have hpk := xl8 hr hk
   obtain ⟨c1, hc1⟩ : ∃ c1, c1 = Yc c m k 1 := ⟨_, rfl⟩
   have hrm : xan C c k 1 = if ix c.rest k - 1 = 0 then XM C 100 (XR C (toM C c1 k (ix c.pos k + 1)) k (ix (ix C.progs k) (ix c.pos k))) else XM C 100 c1 := by
    rw [hc1]; unfold xan Yc; rw [hm]; rfl
   rw [hrm] at hK
   have hr1 : ∀ s, Xl C c1 { w with re := s } := fun s => by
    rw [hc1]
    have := xqd (m := m) (k := k) (n := 1) (o := some sb) (s := s) rfl hr
    rw [← hsb] at this
    exact this
   have hS1 : okS C c1 := by rw [hc1]; exact xe5 hS hm
   have hsi : c1.slk.isSome = true := by rw [hc1]; rfl
   have hp1 : okP C c1 := by rw [hc1]; exact hp
   have hf1 : few c1 130 := by rw [hc1]; exact hf
   have hs9 : rslkO w.slk c1.slk = rslkX sb (X8 m k 1) := by rw [hsb, hc1]; rfl
   obtain ⟨g0, g9⟩ := hkr
   obtain ⟨p0, p9⟩ := hkp
   obtain ⟨x0, x9⟩ := hkx
   have hpi : 0 ≤ ix c.pos k ∧ ix c.pos k < (ix C.progs k).length := by
    rcases hr.ok.pi k with h | h
    ·exact h
    ·exact absurd hk h
   have hpl := W7 hc hk
   have hwp2 : IntKind.i64.wrap (ix c.pos k + 1) = ix c.pos k + 1 := Ye S.o S.o
   simp only [hsl]
   by_cases he : ix c.rest k - 1 = 0
   ·rw [if_pos he] at hK
    have hsok : (ix (ix C.progs k) (ix c.pos k)).ok := (hc.pr _ (xac hk)).2.2 _ (List.mem_of_getElem? (Yi hpi.1 hpi.2))
    obtain ⟨c2, hc2⟩ : ∃ c2, c2 = toM C c1 k (ix c.pos k + 1) := ⟨_, rfl⟩
    have hR2 : Rch C 0 c1 c2 := by rw [hc2]; exact .to c1 k _ hk S.o S.o
    have hto := fun s => xpA (r := r) (i := ix c.pos k + 1) hc (hr1 s) hk S.o S.o
    rw [← hc2] at hK hto
    have hR3 := Rch.trans hR2 (xeH (c := c2) hc hk hsok (hR2.okP hp1))
    generalize hsc : ix (ix C.progs k) (ix c.pos k) = sc at *
    have hscx : ix (ix w.px k).d (ix c.pos k) = sc := by rw [hpk]; exact hsc
    have hpn : (ix w.px k).d.length = (ix C.progs k).length := by rw [hpk]
    obtain ⟨j0, j1⟩ := hpi
    obtain ⟨c3, hc3⟩ : ∃ c3, c3 = XR C c2 k sc := ⟨_, rfl⟩
    have hcc := fun w (h : Xl C c2 w) => xoh (r := r) hc h hk (hR2.few (k := 22) (by unfold few at *; omega)) hsok (by rw [hR2.sk]; exact hsi) (hR2.okP hp1)
    rw [← hc3] at hcc hK hR3
    have hcs := fun w (h : Xl C c3 w) => xal (r := r) hc h (hR3.few (k := 100) (by unfold few at *; omega)) (hR3.oS hS1) (by rw [hR3.sk]; exact hsi)
    obtain ⟨cR, hcR⟩ : ∃ cR, cR = XM C 100 c3 := ⟨_, rfl⟩
    rw [← hcR] at hcs hK
    clear hpk hpl hS hS1 hp hp1 hsi hR2 hR3 hc3 hcR hrm
    refine S.I fun u => ?_
    have hX := I5 @xj2.eq_def hsp hwr hix hs1; repeat' (first | rintro _ _ ⟨rfl, rfl⟩ | rintro _ _ ⟨sr, rfl, rfl⟩ | (refine G.call 82 ?_; refine S.c ?_ (h := hnx)) | (refine G.call 83 ?_; refine S.c ?_ (h := hsu _)) | (refine G.call 84 ?_; refine S.c ?_ (h := hii _)) | intro (bx : Nat) | refine S.x ?_ | intro hb | fail)
    rw [hscx]
    refine Tr.imp (l' := blk bx (.cells (En.enc sc).toArray 86 (0, 0)) :: (Xf r C c1 { w with re := sr } ++ F)) ?_ ?_
    ·subst hc1
     clear he hto hcc hcs
     simp only [ap, hs9]
     have hX := @Yc.eq_def
     show Xd [] _ _
     exact S.E
    clear hc1 hc2 hs9 hsl hr hr1 hscx hsc
    have htx := hto sr
    simp only [ap]
    have hX := And.intro @xj2.eq_def hwp2; repeat' (first | rintro _ _ ⟨w4, hr4, rfl, rfl⟩ | (refine G.call 86 ?_; refine S.c ?_ (h := hcc _ hr3)) | (refine G.call 76 ?_; refine S.c ?_ (h := hcs _ hr4)) | (refine G.call 85 ?_; refine S.c ?_ (h := htx); rintro _ _ ⟨w3, hr3, rfl, rfl⟩) | refine S.x ?_ | fail)
    all_goals exact Tr.fin hK ⟨w4, hr4, rfl, rfl⟩ S.E
   ·rw [if_neg he] at hK
    have hcs := fun s => xal (r := r) hc (hr1 s) (by unfold few at *; omega) hS1 hsi
    clear hpk hpl hS hS1 hp hp1 hsi hrm
    refine S.I fun u => ?_
    have hX := I5 @xj2.eq_def hsp hwr hix hs1; repeat' (first | rintro _ _ ⟨rfl, rfl⟩ | rintro _ _ ⟨sr, rfl, rfl⟩ | (refine G.call 82 ?_; refine S.c ?_ (h := hnx)) | (refine G.call 83 ?_; refine S.c ?_ (h := hsu _)) | (refine G.call 84 ?_; refine S.c ?_ (h := hii _)) | refine S.x ?_ | intro hb | fail)
    refine Tr.imp (l' := Xf r C c1 { w with re := sr } ++ F) ?_ ?_
    ·subst hc1
     clear he hcs
     simp only [ap, hs9]
     have hX := @Yc.eq_def
     show Xd [] _ _
     exact S.E
    have hcx := hcs sr
    obtain ⟨cR, hcR⟩ : ∃ cR, cR = XM C 100 c1 := ⟨_, rfl⟩
    rw [← hcR] at hcx hK
    clear hc1 hs9 hsl hr hr1 hcR hcs
    simp only [ap]
    have hX := @xj2.eq_def; repeat' (first | rintro _ _ ⟨w4, hr4, rfl, rfl⟩ | (refine G.call 76 ?_; refine S.c ?_ (h := hcx)) | refine S.x ?_ | fail)
    all_goals exact Tr.fin hK ⟨w4, hr4, rfl, rfl⟩ S.E
  ·obtain ⟨e1, e2⟩ := xgl (C := C) h0 hm hs1
   rw [e1, e2] at hK
   have hsu := fun k => xfd (r := sb) (m := m) (k := k) (n := 1)
   have hrz : Xl C { c with slk := some (X8 m (Yl c) 1) } w := ⟨⟨hr.ok.tb, hr.ok.pos, hr.ok.rest, hr.ok.addr, hr.ok.data, hr.ok.done, hr.ok.pi, hr.ok.ad, hr.ok.dl⟩, hr.hp, hr.hd, by rw [hsb]; rfl⟩
   have hsz : rslkO w.slk (some (X8 m (Yl c) 1)) = rslkX sb (X8 m (Yl c) 1) := by rw [hsb]; rfl
   generalize Yl c = k at *
   simp only [hsl]
   refine S.I fun u => ?_
   have hX := I3 @xj2.eq_def hsp hs1; repeat' (first | rintro _ _ ⟨rfl, rfl⟩ | (refine G.call 82 ?_; refine S.c ?_ (h := hnx)) | (refine G.call 83 ?_; refine S.c ?_ (h := hsu _)) | refine S.x ?_ | fail)
   all_goals
    refine Tr.fin hK ⟨w, hrz, rfl, rfl⟩ ?_
    simp only [hsz, ap]
    exact S.E
