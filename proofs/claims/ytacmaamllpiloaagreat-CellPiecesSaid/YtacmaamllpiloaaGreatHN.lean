import Derived.Test.YtacmaamllpiloaaGreatHM
namespace Go.Proofs.YtacmaamllpiloaaGreat
open Go Go.Wk Tryz
set_option maxHeartbeats 3200000
set_option maxRecDepth 100000
section
attribute [local irreducible] BrK Xq Xt Xv XI FnK XZ Xw XC XV opX opK Yq Yk eqR Yj Yo Ys WL WD W X3 XO Tr drewK Ya X4 Yw Yv X1 YB mp blk rob sl sep ex fact old
section
attribute [local irreducible] Yr XT robjX rslkO Yg
section
variable {r : Nat} {C : CC} {c : CM} {w : RW} {k : Int} {s : XE}
theorem YI {mode win : Int} {px : List (SL XE)} (hl : px.length = C.progs.length) : Xb prog 203 #[ptr r, .int .i64 k] [Vy r C mode win w, sl false w.pg.v px]
  fun v l' => v = .bool (decide (0 ≤ k) && decide (k < C.progs.length)) ∧ l' = [Vy r C mode win w, sl false w.pg.v px] := by
 intro F K hK
 simp only [ap]
 refine S.I fun u => ?_
 have hX := hl; repeat' (first | refine S.x ?_ | refine S.y ?_ ?_ | intro hb | fail)
 all_goals exact S.L
theorem xw3 (hc : okC C) (hr : Xl C c w) (_hk : inR C.progs k) (hf : few c 22) (_hs : s.ok) (h : s.call = 4) :
  Xb prog 136 #[ptr r, .int .i64 k, .agg (En.enc s).toArray] (Xf r C c w)
  fun v l' => ∃ w2, Xl C (Xk C c k s) w2 ∧ v = .tuple #[] ∧ l' = Xf r C (Xk C c k s) w2 := by
 intro F K hK
 simp only [ap] at hK ⊢
 have hf1 : few c 1 := by unfold few at *; omega
 have hf2 : few c 2 := by unfold few at *; omega
 have hf3 := hf1
 unfold few at hf3
 have h8 := hc.n8
 have htl := Yf hc hr
 have hc4 : decide (s.call = 4) = true := by rw [h]; rfl
 have hc5 : decide (s.call = 5) = false := by rw [h]; rfl
 have hc6 : decide (s.call = 6) = false := by rw [h]; rfl
 have hc7 : decide (s.call = 7) = false := by rw [h]; rfl
 have hpx := JK hr
 by_cases hin : 0 ≤ s.a ∧ s.a < (C.progs.length : Int)
 ·have hia : inR C.progs s.a := hin
  obtain ⟨i0, i1⟩ := xeK hr hia
  have hih : (decide (0 ≤ s.a) && decide (s.a < (C.progs.length : Int))) = true := by rw [decide_eq_true hin.1, decide_eq_true hin.2]; rfl
  have hld : (c.tb.d.map Y9.mk).length = c.tb.d.length := List.length_map _
  have hcl : (ix (c.tb.d.map Y9.mk) s.a).o.state = (c.tb.at s.a).state := by rw [Jt, V8 i0]
  by_cases hak : s.a = k
  ·have hsm : Xk C c k s = Xa C c k s.call 2 0 := by
    unfold Xk; rw [if_pos (.inr (.inl ⟨h, hak⟩))]
   rw [hsm] at hK
   have hrn := fun e => Xy (k := k) (call := s.call) (code := 2) (value := 0) (e := e) hr
   refine Tr.refO (a := w.tb) (t := c.tb) S.K fun sr => ?_
   refine S.I fun u => ?_
   have hX := I7 @Jv.eq_def hc4 hc5 hc6 hc7 hih hcl; repeat' (first | refine S.x ?_ | (refine G.call 203 ?_; refine S.c ?_ (h := YI ‹_›)) | (refine G.call 71 ?_; refine S.c ?_ (h := Xn ?_)) | rintro _ _ ⟨rfl, rfl⟩ | rintro _ _ ⟨_, rfl, rfl⟩ | (refine G.prop ?_; assumption) | intro hb | fail)
   all_goals
    rename_i sv
    clear hcl hld
    refine Tr.refF (a := w.tb) (t := c.tb) (s := sr) S.K S.K ?_
    refine Tr.fin hK ⟨{ w with ev := sv }, hrn sv, rfl, rfl⟩ ?_
    have hX := @Xa.eq_def
    clear h hih hc4 hc5 hc6 hc7
    simp only [ap]
    exact S.E
  ·have hbd : ¬ (¬ (0 ≤ s.a ∧ s.a < (C.progs.length : Int)) ∨ (s.call = 4 ∧ s.a = k) ∨ (s.call = 7 ∧ (s.b < 0 ∨ 63 < s.b))) := by omega
   by_cases hst : (c.tb.at s.a).state = 3
   ·have hsm : Xk C c k s = Xa C (XW c s.a 1) k s.call 0 0 := by unfold Xk; rw [if_neg hbd, if_neg (by rw [h]; decide), if_pos ⟨h, hst⟩]
    rw [hsm] at hK
    refine Tr.refO (a := w.tb) (t := c.tb) S.K fun sr => ?_
    refine S.I fun u => ?_
    have hX := I7 @Jv.eq_def hc4 hc5 hc6 hc7 hih hcl; repeat' (first | refine S.x ?_ | (refine G.call 203 ?_; refine S.c ?_ (h := YI ‹_›)) | rintro _ _ ⟨rfl, rfl⟩ | intro hb | fail)
    clear hcl hld
    refine Tr.refF (a := w.tb) (t := c.tb) (s := sr) S.K S.K ?_
    have hX := I6 @Jv.eq_def hc4 hc5 hc6 hc7 hih; repeat' (first | refine S.x ?_ | (refine G.call 125 ?_; refine S.c ?_ (h := Ju ?_)) | (refine G.call 71 ?_; refine S.c ?_ (h := Xn ?_)) | rintro _ _ ⟨rfl, rfl⟩ | rintro _ _ ⟨_, rfl, rfl⟩ | (refine G.prop ?_; assumption) | fail)
    all_goals
     rename_i sv
     refine Tr.fin hK ⟨{ w with ev := sv }, Xy (e := sv) ( xaU hr (t := c.tb.set s.a 1) Zf), rfl, rfl⟩ ?_
     have hX := And.intro @Xa.eq_def @XW.eq_def
     clear h hih hc4 hc5 hc6 hc7
     simp only [ap]
     exact S.E
   ·have hsm : Xk C c k s = Xa C c k s.call 6 0 := by
     unfold Xk; rw [if_neg hbd, if_neg (by rw [h]; decide), if_neg (fun hh => hst hh.2), if_neg (fun hh => absurd (h.symm.trans hh.1) (by decide)), if_neg (fun hh => absurd (h.symm.trans hh.1) (by decide))]
    rw [hsm] at hK
    have hrn := fun e => Xy (k := k) (call := s.call) (code := 6) (value := 0) (e := e) hr
    refine Tr.refO (a := w.tb) (t := c.tb) S.K fun sr => ?_
    refine S.I fun u => ?_
    have hX := I7 @Jv.eq_def hc4 hc5 hc6 hc7 hih hcl; repeat' (first | refine S.x ?_ | (refine G.call 203 ?_; refine S.c ?_ (h := YI ‹_›)) | (refine G.call 71 ?_; refine S.c ?_ (h := Xn ?_)) | rintro _ _ ⟨rfl, rfl⟩ | rintro _ _ ⟨_, rfl, rfl⟩ | (refine G.prop ?_; assumption) | intro hb | fail)
    all_goals
     rename_i sv
     clear hcl hld
     refine Tr.refF (a := w.tb) (t := c.tb) (s := sr) S.K S.K ?_
     refine Tr.fin hK ⟨{ w with ev := sv }, hrn sv, rfl, rfl⟩ ?_
     have hX := @Xa.eq_def
     clear h hih hc4 hc5 hc6 hc7
     simp only [ap]
     exact S.E
 ·have hsm : Xk C c k s = Xa C c k s.call 2 0 := by unfold Xk; rw [if_pos (.inl hin)]
  rw [hsm] at hK
  have hih : (decide (0 ≤ s.a) && decide (s.a < (C.progs.length : Int))) = false := by
   rw [Bool.and_eq_false_iff, decide_eq_false_iff_not, decide_eq_false_iff_not]
   omega
  have hrn := fun e => Xy (k := k) (call := s.call) (code := 2) (value := 0) (e := e) hr
  refine S.I fun u => ?_
  have hX := I6 @Jv.eq_def hc4 hc5 hc6 hc7 hih; repeat' (first | refine S.x ?_ | (refine G.call 203 ?_; refine S.c ?_ (h := YI ‹_›)) | (refine G.call 71 ?_; refine S.c ?_ (h := Xn ?_)) | rintro _ _ ⟨rfl, rfl⟩ | rintro _ _ ⟨_, rfl, rfl⟩ | (refine G.prop ?_; assumption) | intro hb | fail)
  all_goals
   rename_i sv
   refine Tr.fin hK ⟨{ w with ev := sv }, hrn sv, rfl, rfl⟩ ?_
   have hX := @Xa.eq_def
   clear h hih hc4 hc5 hc6 hc7
   simp only [ap]
   exact S.E
theorem xwt (hc : okC C) (hr : Xl C c w) (_hk : inR C.progs k) (hf : few c 22) (_hs : s.ok) (h : s.call = 6) :
  Xb prog 136 #[ptr r, .int .i64 k, .agg (En.enc s).toArray] (Xf r C c w)
  fun v l' => ∃ w2, Xl C (Xk C c k s) w2 ∧ v = .tuple #[] ∧ l' = Xf r C (Xk C c k s) w2 := by
 intro F K hK
 simp only [ap] at hK ⊢
 have hf1 : few c 1 := by unfold few at *; omega
 have hf2 : few c 2 := by unfold few at *; omega
 have hf3 := hf1
 unfold few at hf3
 have h8 := hc.n8
 have htl := Yf hc hr
 have hc4 : decide (s.call = 4) = false := by rw [h]; rfl
 have hc5 : decide (s.call = 5) = false := by rw [h]; rfl
 have hc6 : decide (s.call = 6) = true := by rw [h]; rfl
 have hc7 : decide (s.call = 7) = false := by rw [h]; rfl
 have hpx := JK hr
 by_cases hin : 0 ≤ s.a ∧ s.a < (C.progs.length : Int)
 ·have hia : inR C.progs s.a := hin
  obtain ⟨i0, i1⟩ := xeK hr hia
  have hih : (decide (0 ≤ s.a) && decide (s.a < (C.progs.length : Int))) = true := by rw [decide_eq_true hin.1, decide_eq_true hin.2]; rfl
  have hld : (c.tb.d.map Y9.mk).length = c.tb.d.length := List.length_map _
  have hcl : (ix (c.tb.d.map Y9.mk) s.a).o.state = (c.tb.at s.a).state := by rw [Jt, V8 i0]
  have hbd : ¬ (¬ (0 ≤ s.a ∧ s.a < (C.progs.length : Int)) ∨ (s.call = 4 ∧ s.a = k) ∨ (s.call = 7 ∧ (s.b < 0 ∨ 63 < s.b))) := by omega
  by_cases hst : (c.tb.at s.a).state = 0
  ·have hsm : Xk C c k s = Xa C c k s.call 6 0 := by
    unfold Xk; rw [if_neg hbd, if_neg (by rw [h]; decide), if_neg (fun hh => absurd (h.symm.trans hh.1) (by decide)), if_neg (fun hh => absurd (h.symm.trans hh.1) (by decide)), if_neg (fun hh => hh.2 hst)]
   rw [hsm] at hK
   have hrn := fun e => Xy (k := k) (call := s.call) (code := 6) (value := 0) (e := e) hr
   refine Tr.refO (a := w.tb) (t := c.tb) S.K fun sr => ?_
   refine S.I fun u => ?_
   have hX := I7 @Jv.eq_def hc4 hc5 hc6 hc7 hih hcl; repeat' (first | refine S.x ?_ | (refine G.call 203 ?_; refine S.c ?_ (h := YI ‹_›)) | (refine G.call 71 ?_; refine S.c ?_ (h := Xn ?_)) | rintro _ _ ⟨rfl, rfl⟩ | rintro _ _ ⟨_, rfl, rfl⟩ | (refine G.prop ?_; assumption) | intro hb | fail)
   all_goals
    rename_i sv
    clear hcl hld
    refine Tr.refF (a := w.tb) (t := c.tb) (s := sr) S.K S.K ?_
    refine Tr.fin hK ⟨{ w with ev := sv }, hrn sv, rfl, rfl⟩ ?_
    have hX := @Xa.eq_def
    clear h hih hc4 hc5 hc6 hc7
    simp only [ap]
    exact S.E
  ·have hsm : Xk C c k s = Xa C (XW c s.a 0) k s.call 0 0 := by unfold Xk; rw [if_neg hbd, if_neg (by rw [h]; decide), if_neg (fun hh => absurd (h.symm.trans hh.1) (by decide)), if_neg (fun hh => absurd (h.symm.trans hh.1) (by decide)), if_pos ⟨h, hst⟩]
   rw [hsm] at hK
   refine Tr.refO (a := w.tb) (t := c.tb) S.K fun sr => ?_
   refine S.I fun u => ?_
   have hX := I7 @Jv.eq_def hc4 hc5 hc6 hc7 hih hcl; repeat' (first | refine S.x ?_ | (refine G.call 203 ?_; refine S.c ?_ (h := YI ‹_›)) | rintro _ _ ⟨rfl, rfl⟩ | intro hb | fail)
   clear hcl hld
   refine Tr.refF (a := w.tb) (t := c.tb) (s := sr) S.K S.K ?_
   have hX := I6 @Jv.eq_def hc4 hc5 hc6 hc7 hih; repeat' (first | refine S.x ?_ | (refine G.call 125 ?_; refine S.c ?_ (h := Ju ?_)) | (refine G.call 71 ?_; refine S.c ?_ (h := Xn ?_)) | rintro _ _ ⟨rfl, rfl⟩ | rintro _ _ ⟨_, rfl, rfl⟩ | (refine G.prop ?_; assumption) | fail)
   all_goals
    rename_i sv
    refine Tr.fin hK ⟨{ w with ev := sv }, Xy (e := sv) (xaU hr (t := c.tb.set s.a 0) Zf), rfl, rfl⟩ ?_
    have hX := And.intro @Xa.eq_def @XW.eq_def
    clear h hih hc4 hc5 hc6 hc7
    simp only [ap]
    exact S.E
 ·have hsm : Xk C c k s = Xa C c k s.call 2 0 := by unfold Xk; rw [if_pos (.inl hin)]
  rw [hsm] at hK
  have hih : (decide (0 ≤ s.a) && decide (s.a < (C.progs.length : Int))) = false := by
   rw [Bool.and_eq_false_iff, decide_eq_false_iff_not, decide_eq_false_iff_not]
   omega
  have hrn := fun e => Xy (k := k) (call := s.call) (code := 2) (value := 0) (e := e) hr
  refine S.I fun u => ?_
  have hX := I6 @Jv.eq_def hc4 hc5 hc6 hc7 hih; repeat' (first | refine S.x ?_ | (refine G.call 203 ?_; refine S.c ?_ (h := YI ‹_›)) | (refine G.call 71 ?_; refine S.c ?_ (h := Xn ?_)) | rintro _ _ ⟨rfl, rfl⟩ | rintro _ _ ⟨_, rfl, rfl⟩ | (refine G.prop ?_; assumption) | intro hb | fail)
  all_goals
   rename_i sv
   refine Tr.fin hK ⟨{ w with ev := sv }, hrn sv, rfl, rfl⟩ ?_
   have hX := @Xa.eq_def
   clear h hih hc4 hc5 hc6 hc7
   simp only [ap]
   exact S.E
theorem xwP (hc : okC C) (hr : Xl C c w) (_hk : inR C.progs k) (hf : few c 22) (_hs : s.ok) (h : s.call = 7) :
  Xb prog 136 #[ptr r, .int .i64 k, .agg (En.enc s).toArray] (Xf r C c w)
  fun v l' => ∃ w2, Xl C (Xk C c k s) w2 ∧ v = .tuple #[] ∧ l' = Xf r C (Xk C c k s) w2 := by
 intro F K hK
 simp only [ap] at hK ⊢
 have hf1 : few c 1 := by unfold few at *; omega
 have hf2 : few c 2 := by unfold few at *; omega
 have hf3 := hf1
 unfold few at hf3
 have h8 := hc.n8
 have htl := Yf hc hr
 have hc4 : decide (s.call = 4) = false := by rw [h]; rfl
 have hc5 : decide (s.call = 5) = false := by rw [h]; rfl
 have hc6 : decide (s.call = 6) = false := by rw [h]; rfl
 have hc7 : decide (s.call = 7) = true := by rw [h]; rfl
 have hpx := JK hr
 by_cases hin : 0 ≤ s.a ∧ s.a < (C.progs.length : Int)
 ·have hia : inR C.progs s.a := hin
  obtain ⟨i0, i1⟩ := xeK hr hia
  have hih : (decide (0 ≤ s.a) && decide (s.a < (C.progs.length : Int))) = true := by rw [decide_eq_true hin.1, decide_eq_true hin.2]; rfl
  have hld : (c.tb.d.map Y9.mk).length = c.tb.d.length := List.length_map _
  have hcl : (ix (c.tb.d.map Y9.mk) s.a).o.state = (c.tb.at s.a).state := by rw [Jt, V8 i0]
  by_cases hb1 : s.b < 0
  ·have hsm : Xk C c k s = Xa C c k s.call 2 0 := by
    unfold Xk; rw [if_pos (.inr (.inr ⟨h, .inl hb1⟩))]
   rw [hsm] at hK
   have hrn := fun e => Xy (k := k) (call := s.call) (code := 2) (value := 0) (e := e) hr
   refine Tr.refO (a := w.tb) (t := c.tb) S.K fun sr => ?_
   refine S.I fun u => ?_
   have hX := I7 @Jv.eq_def hc4 hc5 hc6 hc7 hih hcl; repeat' (first | refine S.x ?_ | (refine G.call 203 ?_; refine S.c ?_ (h := YI ‹_›)) | (refine G.call 71 ?_; refine S.c ?_ (h := Xn ?_)) | rintro _ _ ⟨rfl, rfl⟩ | rintro _ _ ⟨_, rfl, rfl⟩ | (refine G.prop ?_; assumption) | intro hb | fail)
   all_goals
    rename_i sv
    clear hcl hld
    refine Tr.refF (a := w.tb) (t := c.tb) (s := sr) S.K S.K ?_
    refine Tr.fin hK ⟨{ w with ev := sv }, hrn sv, rfl, rfl⟩ ?_
    have hX := @Xa.eq_def
    clear h hih hc4 hc5 hc6 hc7
    simp only [ap]
    exact S.E
  ·by_cases hb2 : 63 < s.b
   ·have hsm : Xk C c k s = Xa C c k s.call 2 0 := by
     unfold Xk; rw [if_pos (.inr (.inr ⟨h, .inr hb2⟩))]
    rw [hsm] at hK
    have hrn := fun e => Xy (k := k) (call := s.call) (code := 2) (value := 0) (e := e) hr
    refine Tr.refO (a := w.tb) (t := c.tb) S.K fun sr => ?_
    refine S.I fun u => ?_
    have hX := I7 @Jv.eq_def hc4 hc5 hc6 hc7 hih hcl; repeat' (first | refine S.x ?_ | (refine G.call 203 ?_; refine S.c ?_ (h := YI ‹_›)) | (refine G.call 71 ?_; refine S.c ?_ (h := Xn ?_)) | rintro _ _ ⟨rfl, rfl⟩ | rintro _ _ ⟨_, rfl, rfl⟩ | (refine G.prop ?_; assumption) | intro hb | fail)
    all_goals
     rename_i sv
     clear hcl hld
     refine Tr.refF (a := w.tb) (t := c.tb) (s := sr) S.K S.K ?_
     refine Tr.fin hK ⟨{ w with ev := sv }, hrn sv, rfl, rfl⟩ ?_
     have hX := @Xa.eq_def
     clear h hih hc4 hc5 hc6 hc7
     simp only [ap]
     exact S.E
   ·have hbd : ¬ (¬ (0 ≤ s.a ∧ s.a < (C.progs.length : Int)) ∨ (s.call = 4 ∧ s.a = k) ∨ (s.call = 7 ∧ (s.b < 0 ∨ 63 < s.b))) := by omega
    by_cases hst : (c.tb.at s.a).state = 0
    ·have hsm : Xk C c k s = Xa C c k s.call 4 0 := by
      unfold Xk; rw [if_neg hbd, if_pos h, if_pos hst]
     rw [hsm] at hK
     have hrn := fun e => Xy (k := k) (call := s.call) (code := 4) (value := 0) (e := e) hr
     refine Tr.refO (a := w.tb) (t := c.tb) S.K fun sr => ?_
     refine S.I fun u => ?_
     have hX := I7 @Jv.eq_def hc4 hc5 hc6 hc7 hih hcl; repeat' (first | refine S.x ?_ | (refine G.call 203 ?_; refine S.c ?_ (h := YI ‹_›)) | (refine G.call 71 ?_; refine S.c ?_ (h := Xn ?_)) | rintro _ _ ⟨rfl, rfl⟩ | rintro _ _ ⟨_, rfl, rfl⟩ | (refine G.prop ?_; assumption) | intro hb | fail)
     all_goals
      rename_i sv
      clear hcl hld
      refine Tr.refF (a := w.tb) (t := c.tb) (s := sr) S.K S.K ?_
      refine Tr.fin hK ⟨{ w with ev := sv }, hrn sv, rfl, rfl⟩ ?_
      have hX := @Xa.eq_def
      clear h hih hc4 hc5 hc6 hc7
      simp only [ap]
      exact S.E
    ·have hsm : Xk C c k s = Xa C { c with tb := c.tb.rank s.a s.b } k s.call 0 0 := by unfold Xk; rw [if_neg hbd, if_pos h, if_neg hst]
     rw [hsm] at hK
     refine Tr.refO (a := w.tb) (t := c.tb) S.K fun sr => ?_
     refine S.I fun u => ?_
     have hX := I7 @Jv.eq_def hc4 hc5 hc6 hc7 hih hcl; repeat' (first | refine S.x ?_ | (refine G.call 203 ?_; refine S.c ?_ (h := YI ‹_›)) | rintro _ _ ⟨rfl, rfl⟩ | intro hb | fail)
     clear hcl hld
     refine Tr.refF (a := w.tb) (t := c.tb) (s := sr) S.K S.K ?_
     have hX := I6 @Jv.eq_def hc4 hc5 hc6 hc7 hih; repeat' (first | refine S.x ?_ | (refine G.call 204 ?_; refine S.c ?_ (h := xq4 ?_)) | (refine G.call 71 ?_; refine S.c ?_ (h := Xn ?_)) | rintro _ _ ⟨rfl, rfl⟩ | rintro _ _ ⟨_, rfl, rfl⟩ | (refine G.prop ?_; assumption) | fail)
     all_goals
      rename_i sv
      refine Tr.fin hK ⟨{ w with ev := sv }, Xy (e := sv) (xaU hr (t := c.tb.rank s.a s.b) xhS), rfl, rfl⟩ ?_
      have hX := And.intro @Xa.eq_def @XW.eq_def
      clear h hih hc4 hc5 hc6 hc7
      simp only [ap]
      exact S.E
 ·have hsm : Xk C c k s = Xa C c k s.call 2 0 := by unfold Xk; rw [if_pos (.inl hin)]
  rw [hsm] at hK
  have hih : (decide (0 ≤ s.a) && decide (s.a < (C.progs.length : Int))) = false := by
   rw [Bool.and_eq_false_iff, decide_eq_false_iff_not, decide_eq_false_iff_not]
   omega
  have hrn := fun e => Xy (k := k) (call := s.call) (code := 2) (value := 0) (e := e) hr
  refine S.I fun u => ?_
  have hX := I6 @Jv.eq_def hc4 hc5 hc6 hc7 hih; repeat' (first | refine S.x ?_ | (refine G.call 203 ?_; refine S.c ?_ (h := YI ‹_›)) | (refine G.call 71 ?_; refine S.c ?_ (h := Xn ?_)) | rintro _ _ ⟨rfl, rfl⟩ | rintro _ _ ⟨_, rfl, rfl⟩ | (refine G.prop ?_; assumption) | intro hb | fail)
  all_goals
   rename_i sv
   refine Tr.fin hK ⟨{ w with ev := sv }, hrn sv, rfl, rfl⟩ ?_
   have hX := @Xa.eq_def
   clear h hih hc4 hc5 hc6 hc7
   simp only [ap]
   exact S.E
theorem xwv (hc : okC C) (hr : Xl C c w) (_hk : inR C.progs k) (hf : few c 22) (_hs : s.ok) (h : s.call = 5) :
  Xb prog 136 #[ptr r, .int .i64 k, .agg (En.enc s).toArray] (Xf r C c w)
  fun v l' => ∃ w2, Xl C (Xk C c k s) w2 ∧ v = .tuple #[] ∧ l' = Xf r C (Xk C c k s) w2 := by
 intro F K hK
 simp only [ap] at hK ⊢
 have hf1 : few c 1 := by unfold few at *; omega
 have hf2 : few c 2 := by unfold few at *; omega
 have hf3 := hf1
 unfold few at hf3
 have h8 := hc.n8
 have htl := Yf hc hr
 have hc4 : decide (s.call = 4) = false := by rw [h]; rfl
 have hc5 : decide (s.call = 5) = true := by rw [h]; rfl
 have hc6 : decide (s.call = 6) = false := by rw [h]; rfl
 have hc7 : decide (s.call = 7) = false := by rw [h]; rfl
 have hpx := JK hr
 by_cases hin : 0 ≤ s.a ∧ s.a < (C.progs.length : Int)
 ·have hia : inR C.progs s.a := hin
  obtain ⟨i0, i1⟩ := xeK hr hia
  have hih : (decide (0 ≤ s.a) && decide (s.a < (C.progs.length : Int))) = true := by rw [decide_eq_true hin.1, decide_eq_true hin.2]; rfl
  have hld : (c.tb.d.map Y9.mk).length = c.tb.d.length := List.length_map _
  have hcl : (ix (c.tb.d.map Y9.mk) s.a).o.state = (c.tb.at s.a).state := by rw [Jt, V8 i0]
  have hbd : ¬ (¬ (0 ≤ s.a ∧ s.a < (C.progs.length : Int)) ∨ (s.call = 4 ∧ s.a = k) ∨ (s.call = 7 ∧ (s.b < 0 ∨ 63 < s.b))) := by omega
  by_cases hst : (c.tb.at s.a).state = 0
  ·obtain ⟨c1, hc1'⟩ : ∃ c1 : CM, c1 = Yd C c s.a c.win := ⟨_, rfl⟩
   have hsm : Xk C c k s = Xa C c1 k s.call 0 0 := by unfold Xk; rw [if_neg hbd, if_neg (by rw [h]; decide), if_neg (fun hh => absurd (h.symm.trans hh.1) (by decide)), if_pos ⟨h, hst⟩, hc1']
   rw [hsm] at hK
   have hcs := WC (r := r) (win := c.win) hc hr hia
   have hev : c1.evs = c.evs := by rw [hc1']; unfold Yd; simp only; split <;> rfl
   rw [← hc1'] at hcs
   have hf4 : c1.evs.length + 1 ≤ 1000000000000 := by rw [hev]; exact hf3
   clear hc1' hsm hev
   refine Tr.refO (a := w.tb) (t := c.tb) S.K fun sr => ?_
   refine S.I fun u => ?_
   have hX := I7 @Jv.eq_def hc4 hc5 hc6 hc7 hih hcl; repeat' (first | refine S.x ?_ | (refine G.call 203 ?_; refine S.c ?_ (h := YI ‹_›)) | rintro _ _ ⟨rfl, rfl⟩ | intro hb | fail)
   clear hcl hld
   refine Tr.refF (a := w.tb) (t := c.tb) (s := sr) S.K S.K ?_
   have hX := I6 @Jv.eq_def hc4 hc5 hc6 hc7 hih; repeat' (first | rintro _ _ ⟨_, rfl, rfl⟩ | rintro _ _ ⟨w3, hr3, rfl, rfl⟩ | (refine G.call 64 ?_; refine S.c ?_ (h := hcs)) | refine S.x ?_ | (refine G.call 71 ?_; refine S.c ?_ (h := Xn ?_)) | (refine G.prop ?_; assumption) | fail)
   all_goals
    rename_i sv
    refine Tr.fin hK ⟨_, Xy (e := sv) hr3, rfl, rfl⟩ ?_
    have hX := @Xa.eq_def
    clear h hih hc4 hc5 hc6 hc7
    simp only [ap]
    exact S.E
  ·have hsm : Xk C c k s = Xa C c k s.call 6 0 := by
    unfold Xk; rw [if_neg hbd, if_neg (by rw [h]; decide), if_neg (fun hh => absurd (h.symm.trans hh.1) (by decide)), if_neg (fun hh => hst hh.2), if_neg (fun hh => absurd (h.symm.trans hh.1) (by decide))]
   rw [hsm] at hK
   have hrn := fun e => Xy (k := k) (call := s.call) (code := 6) (value := 0) (e := e) hr
   refine Tr.refO (a := w.tb) (t := c.tb) S.K fun sr => ?_
   refine S.I fun u => ?_
   have hX := I7 @Jv.eq_def hc4 hc5 hc6 hc7 hih hcl; repeat' (first | refine S.x ?_ | (refine G.call 203 ?_; refine S.c ?_ (h := YI ‹_›)) | (refine G.call 71 ?_; refine S.c ?_ (h := Xn ?_)) | rintro _ _ ⟨rfl, rfl⟩ | rintro _ _ ⟨_, rfl, rfl⟩ | (refine G.prop ?_; assumption) | intro hb | fail)
   all_goals
    rename_i sv
    clear hcl hld
    refine Tr.refF (a := w.tb) (t := c.tb) (s := sr) S.K S.K ?_
    refine Tr.fin hK ⟨{ w with ev := sv }, hrn sv, rfl, rfl⟩ ?_
    have hX := @Xa.eq_def
    clear h hih hc4 hc5 hc6 hc7
    simp only [ap]
    exact S.E
 ·have hsm : Xk C c k s = Xa C c k s.call 2 0 := by unfold Xk; rw [if_pos (.inl hin)]
  rw [hsm] at hK
  have hih : (decide (0 ≤ s.a) && decide (s.a < (C.progs.length : Int))) = false := by
   rw [Bool.and_eq_false_iff, decide_eq_false_iff_not, decide_eq_false_iff_not]
   omega
  have hrn := fun e => Xy (k := k) (call := s.call) (code := 2) (value := 0) (e := e) hr
  refine S.I fun u => ?_
  have hX := I6 @Jv.eq_def hc4 hc5 hc6 hc7 hih; repeat' (first | refine S.x ?_ | (refine G.call 203 ?_; refine S.c ?_ (h := YI ‹_›)) | (refine G.call 71 ?_; refine S.c ?_ (h := Xn ?_)) | rintro _ _ ⟨rfl, rfl⟩ | rintro _ _ ⟨_, rfl, rfl⟩ | (refine G.prop ?_; assumption) | intro hb | fail)
  all_goals
   rename_i sv
   refine Tr.fin hK ⟨{ w with ev := sv }, hrn sv, rfl, rfl⟩ ?_
   have hX := @Xa.eq_def
   clear h hih hc4 hc5 hc6 hc7
   simp only [ap]
   exact S.E
theorem xkD (hc : okC C) (hr : Xl C c w) (hk : inR C.progs k) (hf : few c 22) (hs : s.ok) (h0 : 4 ≤ s.call) (h1 : s.call ≤ 7) :
  Xb prog 136 #[ptr r, .int .i64 k, .agg (En.enc s).toArray] (Xf r C c w)
  fun v l' => ∃ w2, Xl C (Xk C c k s) w2 ∧ v = .tuple #[] ∧ l' = Xf r C (Xk C c k s) w2 := by
 by_cases e4 : s.call = 4
 ·exact xw3 hc hr hk hf hs e4
 ·by_cases e5 : s.call = 5
  ·exact xwv hc hr hk hf hs e5
  ·by_cases e6 : s.call = 6
   ·exact xwt hc hr hk hf hs e6
   ·exact xwP hc hr hk hf hs S.o
