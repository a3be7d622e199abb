import Derived.Test.YtacmaamllpiloaaGreatZ37
namespace Go.Proofs.YtacmaamllpiloaaGreat
open Go Go.Wk Tryz
set_option maxHeartbeats 3200000
set_option maxRecDepth 100000
section
attribute [local irreducible] BrK Xq Xt Xv XI FnK XZ Xw XC XV opX opK Yq Yk eqR Yj Yo Ys WL WD W X3 XO Tr drewK Ya X4 Yw Yv X1 YB mp blk rob sl sep ex fact old
section
attribute [local irreducible] Yr XT robjX rslkO Yg
section
variable {r : Nat} {C : CC} {c : CM} {w : RW} {k : Int} {s : XE}
theorem xwn (hc : okC C) (hr : Xl C c w) (hk : inR C.progs k) (hf : few c 22) (_hs : s.ok) (hsl : c.slk.isSome = true) (h : s.call = 1) :
  Xb prog 135 #[ptr r, .int .i64 k, .agg (En.enc s).toArray] (Xf r C c w)
  fun v l' => ∃ w2, Xl C (XY C c k s) w2 ∧ v = .tuple #[] ∧ l' = Xf r C (XY C c k s) w2 := by
 intro F K hK
 simp only [ap] at hK ⊢
 have hf1 : few c 1 := by unfold few at *; omega
 have hf2 : few c 2 := by unfold few at *; omega
 have hf3 := hf1
 unfold few at hf3
 have h8 := hc.n8
 have htl := Yf hc hr
 have hca : decide (s.call = 1) = true := by rw [h]; rfl
 have hcb : decide (s.call = 2) = false := by rw [h]; rfl
 have hcd : decide (s.call = 3) = false := by rw [h]; rfl
 obtain ⟨m, hm⟩ := Option.isSome_iff_exists.1 hsl
 have hpk : inR C.conf.procs.d k := by unfold inR at *; rw [hc.np]; exact hk
 obtain ⟨p0, p1⟩ := hpk
 refine S.I fun u => ?_
 by_cases hp : 0 < (ix C.conf.procs.d k).period
 ·obtain ⟨c1, hc1⟩ : ∃ c1 : CM, c1 = XW c k 4 := ⟨_, rfl⟩
  have hr1 : Xl C c1 w := by rw [hc1]; exact xaU hr Zf
  have hm1 : c1.slk = some m := by rw [hc1]; exact hm
  have hsm : XY C c k s = YX c1 k := by unfold XY; rw [if_pos h, if_pos hp, hc1]
  rw [hsm] at hK
  have hcr := xci (r := r) hc hr1 hk hm1
  have hX := I4 @xaR.eq_def hca hcb hcd; repeat' (first | refine S.x ?_ | (refine G.call 125 ?_; refine S.c ?_ (h := Ju ?_)) | rintro _ _ ⟨rfl, rfl⟩ | (refine G.prop ?_; assumption) | intro hb | fail)
  refine Tr.imp (l' := Xf r C c1 w ++ F) ?_ ?_
  ·subst hc1
   clear h hca hcb hcd
   simp only [ap]
   have hX := @XW.eq_def
   show Xd [] _ _
   exact S.E
  clear hc1 hr1 hr hsm
  simp only [ap]
  have hX := @xaR.eq_def; repeat' (first | rintro _ _ ⟨w3, hr3, rfl, rfl⟩ | (refine G.call 133 ?_; refine S.c ?_ (h := hcr)) | refine S.x ?_ | fail)
  all_goals exact Tr.fin hK ⟨w3, hr3, rfl, rfl⟩ S.E
 ·have hsm : XY C c k s = Xa C c k s.call 4 0 := by unfold XY; rw [if_pos h, if_neg hp, h]
  rw [hsm] at hK
  have hrn := fun e => Xy (k := k) (call := s.call) (code := 4) (value := 0) (e := e) hr
  have hX := I4 @xaR.eq_def hca hcb hcd; repeat' (first | refine S.x ?_ | (refine G.call 71 ?_; refine S.c ?_ (h := Xn ?_)) | rintro _ _ ⟨_, rfl, rfl⟩ | (refine G.prop ?_; assumption) | intro hb | fail)
  all_goals
   rename_i sv
   refine Tr.fin hK ⟨{ w with ev := sv }, hrn sv, rfl, rfl⟩ ?_
   have hX := @Xa.eq_def
   clear h hca hcb hcd
   simp only [ap]
   exact S.E
theorem xwX (hc : okC C) (hr : Xl C c w) (hk : inR C.progs k) (hf : few c 22) (_hs : s.ok) (hsl : c.slk.isSome = true) (h : s.call = 3) :
  Xb prog 135 #[ptr r, .int .i64 k, .agg (En.enc s).toArray] (Xf r C c w)
  fun v l' => ∃ w2, Xl C (XY C c k s) w2 ∧ v = .tuple #[] ∧ l' = Xf r C (XY C c k s) w2 := by
 intro F K hK
 simp only [ap] at hK ⊢
 have hf1 : few c 1 := by unfold few at *; omega
 have hf2 : few c 2 := by unfold few at *; omega
 have hf3 := hf1
 unfold few at hf3
 have h8 := hc.n8
 have htl := Yf hc hr
 have hca : decide (s.call = 1) = false := by rw [h]; rfl
 have hcb : decide (s.call = 2) = false := by rw [h]; rfl
 have hcd : decide (s.call = 3) = true := by rw [h]; rfl
 obtain ⟨m, hm⟩ := Option.isSome_iff_exists.1 hsl
 have hpk : inR C.conf.procs.d k := by unfold inR at *; rw [hc.np]; exact hk
 obtain ⟨p0, p1⟩ := hpk
 refine S.I fun u => ?_
 by_cases hp : 0 < (ix C.conf.procs.d k).period
 ·have hsm : XY C c k s = Xa C c k s.call 4 0 := by unfold XY; rw [if_neg (by rw [h]; decide), if_pos h, if_pos hp, h]
  rw [hsm] at hK
  have hrn := fun e => Xy (k := k) (call := s.call) (code := 4) (value := 0) (e := e) hr
  have hX := I4 @xaR.eq_def hca hcb hcd; repeat' (first | refine S.x ?_ | (refine G.call 71 ?_; refine S.c ?_ (h := Xn ?_)) | rintro _ _ ⟨_, rfl, rfl⟩ | (refine G.prop ?_; assumption) | intro hb | fail)
  all_goals
   rename_i sv
   refine Tr.fin hK ⟨{ w with ev := sv }, hrn sv, rfl, rfl⟩ ?_
   have hX := @Xa.eq_def
   clear h hca hcb hcd
   simp only [ap]
   exact S.E
 ·have hsm : XY C c k s = XW (Xa C c k 3 0 0) k 3 := by unfold XY; rw [if_neg (by rw [h]; decide), if_pos h, if_neg hp]
  rw [hsm] at hK
  have hrn := fun e => xaU (Xy (k := k) (call := 3) (code := 0) (value := 0) (e := e) hr) (t := c.tb.set k 3) Zf
  have hX := I4 @xaR.eq_def hca hcb hcd; repeat' (first | refine S.x ?_ | (refine G.call 125 ?_; refine S.c ?_ (h := Ju ?_)) | (refine G.call 71 ?_; refine S.c ?_ (h := Xn ?_)) | rintro _ _ ⟨rfl, rfl⟩ | rintro _ _ ⟨_, rfl, rfl⟩ | (refine G.prop ?_; assumption) | intro hb | fail)
  all_goals
   rename_i sv
   refine Tr.fin hK ⟨{ w with ev := sv }, hrn sv, rfl, rfl⟩ ?_
   have hX := And.intro @Xa.eq_def @XW.eq_def
   clear h hca hcb hcd
   simp only [ap]
   exact S.E
theorem xwm (hc : okC C) (hr : Xl C c w) (hk : inR C.progs k) (hf : few c 22) (_hs : s.ok) (hsl : c.slk.isSome = true) (h : s.call = 2) :
  Xb prog 135 #[ptr r, .int .i64 k, .agg (En.enc s).toArray] (Xf r C c w)
  fun v l' => ∃ w2, Xl C (XY C c k s) w2 ∧ v = .tuple #[] ∧ l' = Xf r C (XY C c k s) w2 := by
 intro F K hK
 simp only [ap] at hK ⊢
 have hf1 : few c 1 := by unfold few at *; omega
 have hf2 : few c 2 := by unfold few at *; omega
 have hf3 := hf1
 unfold few at hf3
 have h8 := hc.n8
 have htl := Yf hc hr
 have hca : decide (s.call = 1) = false := by rw [h]; rfl
 have hcb : decide (s.call = 2) = true := by rw [h]; rfl
 have hcd : decide (s.call = 3) = false := by rw [h]; rfl
 obtain ⟨m, hm⟩ := Option.isSome_iff_exists.1 hsl
 have hpk : inR C.conf.procs.d k := by unfold inR at *; rw [hc.np]; exact hk
 obtain ⟨p0, p1⟩ := hpk
 refine S.I fun u => ?_
 by_cases ha : 1 ≤ s.a ∧ s.a ≤ 1000
 ·obtain ⟨a1, a2⟩ := ha
  obtain ⟨c1, hc1⟩ : ∃ c1 : CM, c1 = { c with tb := c.tb.wait k 2 0 (IntKind.i64.wrap (c.win + s.a)) } := ⟨_, rfl⟩
  have hr1 : Xl C c1 w := by rw [hc1]; exact xaU hr xdL
  have hm1 : c1.slk = some m := by rw [hc1]; exact hm
  have hsm : XY C c k s = YX c1 k := by unfold XY; rw [if_neg (by rw [h]; decide), if_neg (by rw [h]; decide), if_pos ⟨a1, a2⟩, hc1]
  rw [hsm] at hK
  have hcr := xci (r := r) hc hr1 hk hm1
  have hX := I4 @xaR.eq_def hca hcb hcd; repeat' (first | refine S.x ?_ | (refine G.call 202 ?_; refine S.c ?_ (h := xb7 ?_)) | rintro _ _ ⟨rfl, rfl⟩ | (refine G.prop ?_; assumption) | intro hb | fail)
  refine Tr.imp (l' := Xf r C c1 w ++ F) ?_ ?_
  ·subst hc1
   clear h hca hcb hcd
   simp only [ap]
   have hX := @XW.eq_def
   show Xd [] _ _
   exact S.E
  clear hc1 hr1 hr hsm
  simp only [ap]
  have hX := @xaR.eq_def; repeat' (first | rintro _ _ ⟨w3, hr3, rfl, rfl⟩ | (refine G.call 133 ?_; refine S.c ?_ (h := hcr)) | refine S.x ?_ | fail)
  all_goals exact Tr.fin hK ⟨w3, hr3, rfl, rfl⟩ S.E
 ·have hsm : XY C c k s = Xa C c k 2 2 0 := by unfold XY; rw [if_neg (by rw [h]; decide), if_neg (by rw [h]; decide), if_neg ha]
  rw [hsm] at hK
  have hrn := fun e => Xy (k := k) (call := 2) (code := 2) (value := 0) (e := e) hr
  by_cases h4 : s.a < 1
  ·have hX := I4 @xaR.eq_def hca hcb hcd; repeat' (first | refine S.x ?_ | (refine G.call 71 ?_; refine S.c ?_ (h := Xn ?_)) | rintro _ _ ⟨_, rfl, rfl⟩ | (refine G.prop ?_; assumption) | intro hb | fail)
   all_goals
    rename_i sv
    refine Tr.fin hK ⟨{ w with ev := sv }, hrn sv, rfl, rfl⟩ ?_
    have hX := @Xa.eq_def
    clear h hca hcb hcd
    simp only [ap]
    exact S.E
  ·have h5 : 1000 < s.a := by omega
   have hX := I4 @xaR.eq_def hca hcb hcd; repeat' (first | refine S.x ?_ | (refine G.call 71 ?_; refine S.c ?_ (h := Xn ?_)) | rintro _ _ ⟨_, rfl, rfl⟩ | (refine G.prop ?_; assumption) | intro hb | fail)
   all_goals
    rename_i sv
    refine Tr.fin hK ⟨{ w with ev := sv }, hrn sv, rfl, rfl⟩ ?_
    have hX := @Xa.eq_def
    clear h hca hcb hcd
    simp only [ap]
    exact S.E
theorem xnP (hc : okC C) (hr : Xl C c w) (hk : inR C.progs k) (hf : few c 22) (hs : s.ok) (hsl : c.slk.isSome = true) (h0 : 1 ≤ s.call) (h1 : s.call ≤ 3) :
  Xb prog 135 #[ptr r, .int .i64 k, .agg (En.enc s).toArray] (Xf r C c w)
  fun v l' => ∃ w2, Xl C (XY C c k s) w2 ∧ v = .tuple #[] ∧ l' = Xf r C (XY C c k s) w2 := by
 by_cases e1 : s.call = 1
 ·exact xwn hc hr hk hf hs hsl e1
 ·by_cases e3 : s.call = 3
  ·exact xwX hc hr hk hf hs hsl e3
  ·exact xwm hc hr hk hf hs hsl S.o
