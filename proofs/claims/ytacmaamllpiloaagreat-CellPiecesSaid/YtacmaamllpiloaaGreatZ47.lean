import Derived.Test.YtacmaamllpiloaaGreatZ46
namespace Go.Proofs.YtacmaamllpiloaaGreat
open Go Go.Wk Tryz
set_option maxHeartbeats 3200000
set_option maxRecDepth 100000
theorem Tr.rmemO {r : Nat} {ms : List XH} {l F : List Xc} {X : WP} (ht : Xm l (Yr r ms) F) (h : ∀ (s1 s2 : SV) (xs : List Msg), xs.map SL.d = ms.map XH.d → (ms.length ≤ 1000000 ∧ ∀ m ∈ ms, okR m) → Tr (rmL r s1 s2 ms xs ++ F) X) : Tr l X :=
 Tr.imp ht (Tr.pk fun g hg => h g.1 g.2.1 g.2.2 hg.1 hg.2)
theorem Tr.rmemF {r : Nat} {ms : List XH} {s1 s2 : SV} {xs : List Msg} {l F : List Xc} {X : WP} (h1 : xs.map SL.d = ms.map XH.d) (h2 : ms.length ≤ 1000000 ∧ ∀ m ∈ ms, okR m) (ht : YK l (rmL r s1 s2 ms xs) F) (h : Tr (Yr r ms :: F) X) : Tr l X :=
 Tr.imp ht (Tr.imp (Imp.pk (f := fun g : SV × SV × List Msg => rmL r g.1 g.2.1 ms g.2.2) (p := fun g => g.2.2.map SL.d = ms.map XH.d ∧ ms.length ≤ 1000000 ∧ ∀ m ∈ ms, okR m) (s1, s2, xs) ⟨h1, h2⟩) h)
section
attribute [local irreducible] BrK Xq Xt Xv XI FnK XZ Xw XC XV opX opK Yq Yk eqR Yj Yo Ys WL WD W X3 XO Tr drewK Ya X4 Yw Yv X1 YB mp blk rob sl sep ex fact old
section
attribute [local irreducible] Y1 X2 objX Zw Zg Yr XT robjX rslkO Yg
section
variable {b r : Nat} {C : CC} {c : CM} {w : CW} {gs : List Xe} {w2 : RW}
theorem xcq (hc : okC C) (hr : Rel C c w gs) (hr2 : Xl C c w2) (hS : okS C c) (he : c.evs.length ≤ 1000000000) : Xb prog 27 #[ptr b, ptr r] (Xh b C c w gs ++ Xf r C c w2)
  fun v l' => v = .bool true ∧ l' = Xh b C c w gs ++ Xf r C c w2 := by
 intro F K hK
 simp only [ap] at hK ⊢
 have h1 := xao (b := b) hc hr
 have h2 := xpl (r := r) hc hr2 hS
 have h3 := xp4 (b := b) hc hr
 have h4 := xjO (r := r) hc hr2
 refine S.I fun u => ?_
 have hX := @xnR.eq_def; repeat' (first | rintro _ _ ⟨rfl, rfl⟩ | rintro _ _ ⟨_, rfl, rfl⟩ | (refine G.call 9 ?_; refine S.c ?_ (h := h1)) | (refine G.call 77 ?_; refine S.c ?_ (h := h2)) | (refine G.call 10 ?_; refine S.c ?_ (h := h3)) | (refine G.call 78 ?_; refine S.c ?_ (h := h4)) | refine S.x ?_ | (refine G.call 12 ?_; refine S.c ?_ (h := xdF ‹_›)) | (refine G.call 25 ?_; refine S.c ?_ (h := xfV ‹_›)) | (refine G.call 16 ?_; refine S.c ?_ (h := xpm)) | (refine G.call 15 ?_; refine S.c ?_ (h := xsy)) | fail)
 clear h1 h2 h3 h4
 refine Tr.rmemO (r := w2.mem) (ms := c.mem) S.K fun m1 m2 mx hmx hmo => ?_
 simp only [rmL, ap]
 have hlm : mx.length = c.mem.length := by simpa using congrArg List.length hmx
 refine Tr.loopE (α := Nat) [4, 5] [0, 1] (fun k => [.bool false, .int .i64 k]) (fun _ => []) (fun k => k ≤ c.mem.length) (fun k => c.mem.length - k) 0 S.T rfl (Nat.zero_le _) fun k u hk => ?_
 simp only [List.nil_append]
 by_cases hin : k < c.mem.length
 ·have hw := Xo (k := k) S.o
  have hkm : (ix c.mem (k : Int)).d = (ix mx (k : Int)).d := by
   have e : ix (mx.map SL.d) (k : Int) = ix (c.mem.map XH.d) (k : Int) := by rw [hmx]
   rw [Xp (f := SL.d) S.o S.o, Xp (f := XH.d) S.o S.o] at e
   exact e.symm
  have hxb := xnC (p := w.mem) (ms := c.mem) (k := (k : Int)) S.o S.o
  have hX := I3 @xnR.eq_def hw hkm; repeat' (first | (refine G.call 79 ?_; refine S.c ?_ (h := hxb)) | refine S.x ?_ | (refine G.call 14 ?_; refine S.c ?_ (h := xi4)) | rintro _ _ ⟨rfl, rfl⟩ | rintro _ _ ⟨_, rfl, rfl⟩ | intro hb | fail)
  all_goals exact S.R (k + 1)
 ·have hX := @xnR.eq_def; repeat' (first | refine S.x ?_ | fail)
  refine Tr.rmemF (r := w2.mem) (ms := c.mem) (s1 := m1) (s2 := m2) (xs := mx) hmx hmo S.T ?_
  clear hlm hmx hmo
  refine Tr.rportO (r := w2.pts) (ps := c.pts) S.K fun p1 p2 p3 p4 px hpx hpo => ?_
  simp only [JR, ap]
  have hlp := xbe hpx
  have hlc : (c.pts.map AP.c).length = c.pts.length := List.length_map _
  have hll : (c.pts.map AP.lost).length = c.pts.length := List.length_map _
  have hp8 := hpo.1
  refine Tr.loopE (α := Nat) [4, 6] [0, 1] (fun k => [.bool false, .int .i64 k]) (fun _ => []) (fun k => k ≤ c.pts.length) (fun k => c.pts.length - k) 0 S.T rfl (Nat.zero_le _) fun k u hk => ?_
  simp only [List.nil_append]
  by_cases hin : k < c.pts.length
  ·have hw := Xo (k := k) S.o
   have hr : inR c.pts (k : Int) := ⟨by omega, by omega⟩
   have e1 : ((ix px (k : Int)).d.length : Int) = xiz c.pts (k : Int) := by
    unfold xiz
    rw [if_pos hr, xaI hpx S.o S.o]
   have e2 : ix (c.pts.map AP.lost) (k : Int) = xev c.pts (k : Int) := by
    unfold xev
    rw [if_pos hr, ixR hr]
   have hX := I4 @xnR.eq_def hw @e1 @e2; repeat' (first | rintro _ _ ⟨rfl, rfl⟩ | (refine G.call 80 ?_; refine S.c ?_ (h := xsT)) | (refine G.call 81 ?_; refine S.c ?_ (h := xrh)) | refine S.x ?_ | (refine G.call 13 ?_; refine S.c ?_ (h := WW)) | intro hb | fail)
   all_goals exact S.R (k + 1)
  ·have hX := @xnR.eq_def; repeat' (first | refine S.x ?_ | fail)
   refine Tr.rportF (r := w2.pts) (ps := c.pts) (a := p1) (b := p2) (c := p3) (d := p4) (xs := px) hpx hpo S.T ?_
   exact S.L
end
end
def xn3 : SV := ⟨none, 0, 0⟩
def xvT (s2 s7 : SV) : YF := ⟨⟨xn3, []⟩, ⟨s2, [⟨0, 0, 5⟩]⟩, ⟨xn3, []⟩, ⟨xn3, []⟩, 0, ⟨xn3, []⟩, ⟨xn3, []⟩, 20, 0, 0, ⟨s7, [0, 0, 0, 0, 0]⟩⟩
def Vv (s2 s7 : SV) : CC := ⟨xvT s2 s7, 3, [[⟨4, 8, 0, 0, 0, 0⟩]]⟩
def WB (s2 s7 : SV) : CM := ZL (Vv s2 s7) (Qn (Vv s2 s7))
def xb3 (s2 s7 : SV) : CM := xaO (Vv s2 s7) (WB s2 s7) 9
def xje (s2 s7 : SV) : CM := xaO (Vv s2 s7) (xb3 s2 s7) 9
section
variable {s2 s7 : SV}
theorem xpu : okC (Vv s2 s7) := by
 refine ⟨by show 1 ≤ 1; decide, by show 1 ≤ 8; decide, rfl, fun p hp => ?_, by show (20 : Int) ≤ 1000000000000; decide, fun x hx => ?_, fun x hx => (by cases hx), fun x hx => (by cases hx), fun x hx => (by cases hx), fun x hx => (by cases hx), fun x hx => (by cases hx), fun x hx => (by cases hx)⟩
 ·have e : p = [⟨4, 8, 0, 0, 0, 0⟩] := List.mem_singleton.1 hp
  subst e
  refine ⟨by simp, by show 1 ≤ 1000000; decide, fun s hs => ?_⟩
  have e : s = ⟨4, 8, 0, 0, 0, 0⟩ := List.mem_singleton.1 hs
  subst e
  exact ⟨by decide, by decide, by decide, by decide⟩
 ·have e : x = ⟨0, 0, 5⟩ := List.mem_singleton.1 hx
  subst e
  decide
theorem xuM {t : SV} : (Vv s2 s7).progs = J1 [⟨t, [⟨4, 8, 0, 0, 0, 0⟩]⟩] (Vv s2 s7).progs.length := rfl
theorem xum : X0 (WB s2 s7) = 4 := by kernel_rfl
theorem xvb : xcH (WB s2 s7) 9 = 4 := by kernel_rfl
theorem xvd : xcH (xb3 s2 s7) 9 = 1 := by kernel_rfl
theorem xuB : X0 (xje s2 s7) = 0 := by kernel_rfl
theorem xvh : (xje s2 s7).evs = [⟨3, 0, 0, 8, 0, 0⟩, ⟨3, 0, 0, -1, 0, 0⟩] := by kernel_rfl
end
end
instance xvO : ElT 24 WZ := ⟨⟩
instance xw0 {l : List Xc} {a b c : Int} : De l (.agg #[.int .i64 a, .int .i64 b, .int .i64 c]) (WZ.mk a b c) := ⟨rfl⟩
instance (priority := 900) xu7 {l : List Xc} : J8 l [XE.mk 4 8 0 0 0 0] := Va fun w R U _ _ _ y hy => by
 rw [List.mem_singleton.1 hy]
 exact sepI ⟨by decide, by decide⟩ (sepI ⟨by decide, by decide⟩ (sepI ⟨by decide, by decide⟩ (sepI ⟨by decide, by decide⟩ (sepI ⟨by decide, by decide⟩ (sepI ⟨by decide, by decide⟩ trivial)))))
section
attribute [local irreducible] BrK Xq Xt Xv XI FnK XZ Xw XC XV opX opK Yq Yk eqR Yj Yo Ys WL WD W X3 XO Tr drewK Ya X4 Yw Yv X1 YB mp blk rob sl sep ex fact old
section
attribute [local irreducible] Y1 X2 objX Zw Zg Yr XT robjX rslkO Yg WB xb3 xje Qn
section
theorem xjz : Xb prog 48 #[] []
  fun v l' => ∃ s2 s7 : SV, v = .agg #[.slice none 0 0, s2.v, .slice none 0 0, .slice none 0 0, .int .i64 0, .slice none 0 0, .slice none 0 0, .int .i64 20, .int .i64 0, .int .i64 0, s7.v] ∧ l' = [sl true s2.v [WZ.mk 0 0 5], sl true s7.v [(0 : Int), 0, 0, 0, 0]] := by
 intro F K hK
 simp only [List.nil_append] at hK ⊢
 refine S.I fun u => ?_
 repeat' (first | intro (sv : SV) | refine S.x ?_ | intro hb | fail)
 all_goals
  rename_i sa
  refine Tr.freezeAt (v := sa.v) (xs := [WZ.mk 0 0 5]) S.K ?_
  refine Tr.freezeAt (v := sv.v) (xs := [(0 : Int), 0, 0, 0, 0]) S.K ?_
  exact Tr.fin hK ⟨sa, sv, rfl, rfl⟩ S.E
theorem xt2 {l : xcJ} : Xb prog 18 #[.agg (En.enc l).toArray] (xtU l)
  fun v l' => ∃ b : Bool, (b = true → xg5 l) ∧ v = .bool b ∧ l' = [] := by
 intro F K hK
 simp only [ap] at hK ⊢
 obtain ⟨conf, progs, wins⟩ := l
 simp only at hK ⊢
 have hpc := xnD (u0 := .agg (En.enc conf).toArray) (c := conf) (hd := ⟨rfl⟩)
 refine S.I fun u => ?_
 repeat' (first | rintro _ _ ⟨np, hpart, rfl, rfl⟩ | (refine G.call 49 ?_; refine S.c ?_ (h := hpc)) | refine S.x ?_ | refine S.y ?_ ?_ | (refine G.call 50 ?_; refine S.c ?_ (h := xjN)) | intro hb | fail)
 all_goals try exact Tr.fin hK ⟨false, (fun h => by cases h), rfl, rfl⟩ S.E
 rename_i hp1 hz hcap hcap2
 have hP := hp1 hz
 have hS := hpart hb
 clear hp1 hz hcap2 hpart hb hpc
 refine Tr.loopE (α := Nat) [2, 3] [1] (fun k => [.bool false, .int .i64 k]) (fun _ => []) (fun k => k ≤ wins.d.length ∧ k ≤ 12 ∧ ∀ j : Nat, j < k → (ix wins.d (j : Int)).msgs.d.length ≤ 20 ∧ ∀ x ∈ (ix wins.d (j : Int)).msgs.d, x.d.length ≤ 64) (fun k => 12 - k) 0 S.T rfl ⟨Nat.zero_le _, Nat.zero_le _, fun j hj => absurd hj (Nat.not_lt_zero _)⟩ fun k u hk => ?_
 obtain ⟨hk, hk2, hall⟩ := hk
 simp only [List.nil_append]
 by_cases hin : k < wins.d.length ∧ k < 12
 ·obtain ⟨hin, hin2⟩ := hin
  have hw := Xo (k := k) S.o
  by_cases h20 : (ix wins.d (k : Int)).msgs.d.length ≤ 20
  ·have hX := hw; repeat' (first | refine S.x ?_ | intro hb | fail)
   refine Tr.loopE (α := Nat) [2, 4] [1, 3] (fun k => [.bool false, .int .i64 k]) (fun _ => []) (fun j => j ≤ (ix wins.d (k : Int)).msgs.d.length ∧ ∀ i : Nat, i < j → (ix (ix wins.d (k : Int)).msgs.d (i : Int)).d.length ≤ 64) (fun j => (ix wins.d (k : Int)).msgs.d.length - j) 0 S.T rfl ⟨Nat.zero_le _, fun j hj => absurd hj (Nat.not_lt_zero _)⟩ fun j u2 hj => ?_
   obtain ⟨hj, hal2⟩ := hj
   simp only [List.nil_append]
   by_cases hjn : j < (ix wins.d (k : Int)).msgs.d.length
   ·have hw2 := Xo (k := j) S.o
    by_cases h64 : (ix (ix wins.d (k : Int)).msgs.d (j : Int)).d.length ≤ 64
    ·have hal3 := JT (p := fun j : Nat => (ix (ix wins.d (k : Int)).msgs.d (j : Int)).d.length ≤ 64) hal2 h64
     have hX := hw2; repeat' (first | refine S.x ?_ | intro hb | fail)
     all_goals exact S.R (j + 1)
    ·have hX := hw2; repeat' (first | refine S.x ?_ | intro hb | fail)
     all_goals exact Tr.fin hK ⟨false, (fun h => by cases h), rfl, rfl⟩ S.E
   ·have hal3 := xba (p := fun x : SL UInt8 => x.d.length ≤ 64) S.o hal2
    have hal4 := JT (p := fun j : Nat => (ix wins.d (j : Int)).msgs.d.length ≤ 20 ∧ ∀ x ∈ (ix wins.d (j : Int)).msgs.d, x.d.length ≤ 64) hall ⟨h20, hal3⟩
    have hX := hw; repeat' (first | refine S.x ?_ | intro hb | fail)
    all_goals exact S.R (k + 1)
  ·have hX := hw; repeat' (first | refine S.x ?_ | intro hb | fail)
   all_goals exact Tr.fin hK ⟨false, (fun h => by cases h), rfl, rfl⟩ S.E
 ·have hok : xg5 ⟨conf, progs, wins⟩ := ⟨hP, hcap, hS, fun j h1 h2 => hall j (by simp only at h1; omega)⟩
  by_cases hkl : k < wins.d.length
  ·have hk12 : k = 12 := by omega
   subst hk12
   repeat' (first | refine S.x ?_ | fail)
   all_goals exact Tr.fin hK ⟨true, (fun _ => hok), rfl, rfl⟩ S.E
  ·repeat' (first | refine S.x ?_ | fail)
   all_goals exact Tr.fin hK ⟨true, (fun _ => hok), rfl, rfl⟩ S.E
theorem xko {a b : SV} {xs ys : List EvC} (he : xs = ys) (hl : xs.length ≤ 1000000000) : Xb prog 25 #[a.v, b.v] [sl false a.v xs, sl false b.v ys]
  fun v l' => v = .bool true ∧ l' = [sl false a.v xs, sl false b.v ys] := by
 subst he
 exact xfV hl
theorem xrL {s2 s7 s9 t : SV} : Xb prog 19 #[.agg #[.slice none 0 0, s2.v, .slice none 0 0, .slice none 0 0, .int .i64 0, .slice none 0 0, .slice none 0 0, .int .i64 20, .int .i64 0, .int .i64 0, s7.v], .int .i64 3, s9.v]
  [sl true (.slice none 0 0) ([] : List xaL), sl true s2.v [WZ.mk 0 0 5], sl true (.slice none 0 0) ([] : List Zd), sl true (.slice none 0 0) ([] : List JO), sl true (.slice none 0 0) ([] : List JC), sl true (.slice none 0 0) ([] : List Int), sl true s7.v [(0 : Int), 0, 0, 0, 0], sl true s9.v [SL.mk t [XE.mk 4 8 0 0 0 0]], fzl [SL.mk t [XE.mk 4 8 0 0 0 0]]]
  fun v l' => ∃ b w gs, Rel (Vv s2 s7) (Qn (Vv s2 s7)) w gs ∧ v = ptr b ∧ l' = Xh b (Vv s2 s7) (Qn (Vv s2 s7)) w gs :=
 xla (C := Vv s2 s7) (hu := ⟨rfl⟩) xpu xuM
theorem xpU (s2 s7 : SV) : ∃ C cN cB cD cE, C = Vv s2 s7 ∧ cN = Qn (Vv s2 s7) ∧ okC C ∧ few cN 500 ∧ ZL C cN = cB ∧ few cB 40 ∧ dP cB ∧ okP C cB ∧ xoC cB ∧ xaO C cB 9 = cD ∧ few cD 40 ∧ dP cD ∧ okP C cD ∧ xoC cD ∧ xaO C cD 9 = cE ∧
  X0 cB = 4 ∧ xcH cB 9 = 4 ∧ xcH cD 9 = 1 ∧ X0 cE = 0 ∧ cE.evs = [⟨3, 0, 0, 8, 0, 0⟩, ⟨3, 0, 0, -1, 0, 0⟩] := by
 have hc : okC (Vv s2 s7) := xpu
 obtain ⟨i1, i2, i3⟩ := xmr hc
 obtain ⟨b1, b2, b3, _, _⟩ := xfq hc i1 i2
 obtain ⟨_, _, _, _, _, d1, d2, d3⟩ := xiN hc b1 b2 (cyc := 9)
 rw [i3] at b3
 have b4 : (ZL (Vv s2 s7) (Qn (Vv s2 s7))).evs.length ≤ 444 := by simpa using b3
 exact ⟨_, _, WB s2 s7, xb3 s2 s7, xje s2 s7, rfl, rfl, hc, by unfold few; rw [i3]; decide, by rw [WB.eq_def], by rw [WB.eq_def]; unfold few; omega, by rw [WB.eq_def]; exact b1.dp, by rw [WB.eq_def]; exact b1.p, by rw [WB.eq_def]; exact b2.le,
  by rw [xb3.eq_def], by rw [xb3.eq_def, WB.eq_def]; unfold few; omega, by rw [xb3.eq_def, WB.eq_def]; exact d1.dp, by rw [xb3.eq_def, WB.eq_def]; exact d1.p, by rw [xb3.eq_def, WB.eq_def]; exact d2.le, by rw [xje.eq_def], xum, xvb, xvd, xuB, xvh⟩
theorem xdS : Xb prog 17 #[] []
  fun v l' => v = .bool true ∧ l' = [] := by
 intro F K hK
 simp only [List.nil_append] at hK ⊢
 refine S.I fun u => ?_
 repeat' (first | rintro _ _ ⟨s2, s7, rfl, rfl⟩ | (refine G.call 48 ?_; refine S.c ?_ (h := xjz)) | intro (sv : SV) | refine S.x ?_ | fail)
 refine Tr.freezeAt (v := sv.v) (xs := [XE.mk 4 8 0 0 0 0]) S.K ?_
 repeat' (first | intro (s9 : SV) | refine S.x ?_ | fail)
 refine Tr.freezeAt (v := s9.v) (xs := [SL.mk sv [XE.mk 4 8 0 0 0 0]]) S.K ?_
 refine Tr.nilSl (α := xaL) (Tr.freezeSl ?_)
 refine Tr.nilSl (α := Zd) (Tr.freezeSl ?_)
 refine Tr.nilSl (α := JO) (Tr.freezeSl ?_)
 refine Tr.nilSl (α := JC) (Tr.freezeSl ?_)
 refine Tr.nilSl (α := Int) (Tr.freezeSl ?_)
 have hn := xrL (s2 := s2) (s7 := s7) (s9 := s9) (t := sv)
 obtain ⟨C, cN, cB, cD, cE, hC, hN, hc, f1, e1, f2, p1, p2, p3, e2, f3, p4, p5, p6, e3, v1, v2, v3, v4, v5⟩ := xpU s2 s7
 rw [← hN, ← hC] at hn
 have hb := fun b w gs (h : Rel C cN w gs) => xfz (b := b) hc h f1
 rw [e1] at hb
 have hw := fun b w gs (h : Rel C cB w gs) => xao (b := b) hc h
 rw [v1] at hw
 have hr1 := fun b w gs (h : Rel C cB w gs) => xgP (b := b) (cyc := 9) hc h f2 p1 p2 p3
 rw [e2, v2] at hr1
 have hr2 := fun b w gs (h : Rel C cD w gs) => xgP (b := b) (cyc := 9) hc h f3 p4 p5 p6
 rw [e3, v3] at hr2
 have hw2 := fun b w gs (h : Rel C cE w gs) => xao (b := b) hc h
 rw [v4] at hw2
 have hle : cE.evs.length ≤ 1000000000 := by rw [v5]; decide
 have hsm := fun a b => xko (a := a) (b := b) v5 hle
 clear hC hN f1 e1 f2 p1 p2 p3 e2 f3 p4 p5 p6 e3 v1 v2 v3 v4
 repeat' (first | rintro _ _ ⟨rfl, rfl⟩ | rintro _ _ ⟨_, rfl, rfl⟩ | rintro _ _ ⟨w3, gs3, hr3, rfl, rfl⟩ | rintro _ _ ⟨b, w, gs, hr, rfl, rfl⟩ | (refine G.call 19 ?_; refine S.c ?_ (h := hn)) | (refine G.call 8 ?_; refine S.c ?_ (h := hb _ _ _ hr)) | (refine G.call 11 ?_; refine S.c ?_ (h := hr1 _ _ _ hr3); rintro _ _ ⟨w4, gs4, hr4, rfl, rfl⟩) | (refine G.call 11 ?_; refine S.c ?_ (h := hr2 _ _ _ hr4); rintro _ _ ⟨w5, gs5, hr5, rfl, rfl⟩) | (refine G.call 9 ?_; refine S.c ?_ (h := hw _ _ _ hr3)) | (refine G.call 9 ?_; refine S.c ?_ (h := hw2 _ _ _ hr5)) | (refine G.call 25 ?_; refine S.c ?_ (h := hsm _ _)) | refine S.x ?_ | (refine G.call 12 ?_; refine S.c ?_ (h := xdF ‹_›)) | (refine G.call 13 ?_; refine S.c ?_ (h := WW)) | (refine G.call 14 ?_; refine S.c ?_ (h := xi4)) | intro hb | fail)
 all_goals exact Tr.fin hK ⟨rfl, rfl⟩ S.E
end
end
section
attribute [local irreducible] Yr XT robjX rslkX Yg
attribute [local irreducible] Yy YJ XA Vn Zb XM xbb ZL VE
section
variable {r : Nat} {C : CC} {c : CM} {w : RW}
theorem xBQ (hc : okC C) (hr : Xl C c w) (hi : Inv C c) (h1 : JB c) (hf : c.evs.length ≤ 900000000000) (h0 : 1 ≤ C.conf.cap) (h9 : C.conf.cap ≤ 400) : Xb prog 30 #[ptr r] (Xf r C c w)
  fun v l' => ∃ w2, ∃ t : Nat, (∀ j : Nat, j < t → xd7 (VE C (ZL C c) j) = true) ∧ xd7 (VE C (ZL C c) t) = false ∧ Xl C (VE C (ZL C c) t) w2 ∧ v = .tuple #[] ∧ l' = Xf r C (VE C (ZL C c) t) w2 := by
 intro F K hK
 simp only [ap] at hK ⊢
 obtain ⟨i1, i2, i3, i4, _⟩ := xfq hc hi h1
 have hbe := xnt (r := r) hc hr (by unfold few; omega)
 have hrm : (Z9 C.conf).room = C.conf.cap := by unfold Z9; simp only; rw [if_pos S.o]
 rw [hrm] at i4
 obtain ⟨cb, hcb⟩ : ∃ cb, cb = ZL C c := ⟨_, rfl⟩
 rw [← hcb] at i1 i2 i3 i4 hbe hK
 have hin := VO hc i1 i2
 have hev : ∀ j : Nat, (∀ i : Nat, i < j → xd7 (VE C cb i) = true) → (VE C cb j).evs.length ≤ cb.evs.length + 122 * j ∧ xb1 (VE C cb j) = C.conf.cap - j := fun j hj => by
  induction j with
  | zero => rw [VE.eq_1]; exact ⟨Nat.le_refl _, by rw [i4]; simp⟩
  | succ j ih =>
   obtain ⟨a1, a2⟩ := ih fun i hi => hj i S.o
   obtain ⟨b1, b2⟩ := hin j
   have b3 := (xls hc b1 b2).2.2
   have b4 := (xB4 hc b1 b2 (hj j S.o)).1
   rw [VE.eq_2]
   exact ⟨by omega, by omega⟩
 have hcs : ∀ j, xd7 (VE C cb j) = false → Q0 C (VE C cb j) = VE C cb j := fun j hj => xq9 (hin j).1 (hin j).2 fun h => by
  rw [xdR (hin j).1 (hin j).2, decide_eq_true h] at hj
  cases hj
 obtain ⟨f, hfe⟩ : ∃ f, f = VE C cb := ⟨_, rfl⟩
 have hf0 : f 0 = cb := by rw [hfe]; exact VE.eq_1 _ _
 have hf1 : ∀ j, Q0 C (f j) = f (j + 1) := fun j => by rw [hfe]; exact (VE.eq_2 _ _ _).symm
 rw [← hfe] at hin hev hK hcs
 clear hi h1 i1 i2 i4 hr hcb hfe
 subst hf0
 refine S.I fun u => ?_
 repeat' (first | rintro _ _ ⟨w1, hr1, rfl, rfl⟩ | (refine G.call 26 ?_; refine S.c ?_ (h := hbe)) | refine S.x ?_ | fail)
 clear hbe
 refine Tr.loopE (α := Nat × RW) [2] [0] (fun x => [.int .i64 x.1]) (fun x => Xf r C (f x.1) x.2) (fun x => x.1 ≤ 402 ∧ (x.1 : Int) ≤ C.conf.cap + 1 ∧ Xl C (f x.1) x.2 ∧ ∀ j : Nat, j < x.1 → xd7 (f j) = true) (fun x => 402 - x.1) (0, w1) S.T rfl ⟨by simp only; omega, by simp only; omega, hr1, fun j hj => absurd hj (Nat.not_lt_zero _)⟩ fun x u hx => ?_
 obtain ⟨n, w2⟩ := x
 obtain ⟨hn, hn2, hr2, hv⟩ := hx
 simp only at hn hn2 hr2 hv ⊢
 simp only [ap]
 obtain ⟨b1, b2⟩ := hin n
 obtain ⟨e1, e2⟩ := hev n hv
 have hrn := xBU b1
 rw [e2] at hrn
 have hw := Xo (k := n) S.o
 have hfn : few (f n) 130 := by unfold few; omega
 have hcy := xnF (r := r) hc hr2 hfn b1.S b1.p b2.le
 clear b1 b2 hin hev e1 e2 hfn hr1
 by_cases hvn : xd7 (f n) = true
 ·rw [hf1, hvn] at hcy
  have hv2 : ∀ j : Nat, j < n + 1 → xd7 (f j) = true := JT (p := fun j : Nat => xd7 (f j) = true) hv hvn
  clear hr2 hcs hv hvn hf1
  have hX := hw; repeat' (first | rintro _ _ ⟨w3, hr3, rfl, rfl⟩ | (refine G.call 28 ?_; refine S.c ?_ (h := hcy)) | refine S.x ?_ | fail)
  all_goals exact S.R ((n + 1, w3) : Nat × RW)
 ·have hvf : xd7 (f n) = false := by simpa using hvn
  rw [hcs n hvf, hvf] at hcy
  clear hr2 hcs hf1 hvn
  have hX := hw; repeat' (first | rintro _ _ ⟨w3, hr3, rfl, rfl⟩ | (refine G.call 28 ?_; refine S.c ?_ (h := hcy)) | refine S.x ?_ | fail)
  all_goals exact Tr.fin hK ⟨w3, n, hv, hvf, hr3, rfl, rfl⟩ S.E
end
end
end
instance (priority := 900) xvB {l : List Xc} : J8 l Y7 := Va fun w R U _ _ _ y hy => by
 rw [List.mem_singleton.1 hy]
 exact sepI ⟨by decide, by decide⟩ (sepI ⟨by decide, by decide⟩ (sepI ⟨by decide, by decide⟩ (sepI ⟨by decide, by decide⟩ (sepI ⟨by decide, by decide⟩ (sepI ⟨by decide, by decide⟩ trivial)))))
theorem Tr.fzSteps {xs : List (SL XE)} {l : List Xc} {X : WP} [hf : J8 l xs] (h : (∀ x ∈ xs, ∀ s ∈ x.d, s.ok) → Tr l X) : Tr l X := fun w hw => by
 obtain ⟨R, h1, h3⟩ := hw
 refine h (fun x hx s hs => ?_) w ⟨R, h1, h3⟩
 have h5 := xfe (Vh hf h1 (fun _ h => h) h3 x hx) s hs
 exact ⟨xfO (VB (VB h5)), xfO (VB (VB (VB h5))), xfO (VB (VB (VB (VB h5)))), xfO (VB (VB (VB (VB (VB h5)))))⟩
theorem xrP {C : CC} {w : RW} (hc : okC C) (hp : w.px.map SL.d = C.progs) (hd : w.dx.map SL.d = List.replicate C.progs.length []) (hs : w.slk = none) : Xl C (V4 C) w := ⟨xeC hc, hp, hd, by rw [hs]; rfl⟩
section
attribute [local irreducible] BrK Xq Xt Xv XI FnK XZ Xw XC XV opX opK Yq Yk eqR Yj Yo Ys WL WD W X3 XO Tr drewK Ya X4 Yw Yv X1 YB mp blk rob sl sep ex fact old
section
attribute [local irreducible] Yr XT robjX rslkO
section
variable {C : CC} {xs : List (SL XE)} {s2 : SV} {u0 : Value}
theorem xpx [hu : DeA u0 C.conf] (hc : okC C) (hp : C.progs = J1 xs C.progs.length) : Xb prog 20 #[u0, .int .i64 C.part, s2.v]
  [sl true C.conf.regions.s.v C.conf.regions.d, sl true C.conf.procs.s.v C.conf.procs.d, sl true C.conf.ports.s.v C.conf.ports.d, sl true C.conf.sems.s.v C.conf.sems.d, sl true C.conf.pools.s.v C.conf.pools.d, sl true C.conf.slates.s.v C.conf.slates.d, sl true C.conf.acts.s.v C.conf.acts.d, sl true s2.v xs, fzl xs]
  fun v l' => ∃ r w, Xl C (Qn C) w ∧ v = ptr r ∧ l' = Xf r C (Qn C) w := by
 intro F K hK
 simp only [ap] at hK ⊢
 obtain rfl := hu.h
 have h8 := hc.n8
 have hrz := hc.rz
 have hod := hc.od
 refine S.I fun u => ?_
 have hX := @xc5.eq_def; repeat' (first | rintro _ _ ⟨_, rfl, rfl⟩ | (refine G.call 63 ?_; refine S.c ?_ (h := xo0 (c := C.conf) (hu := ⟨rfl⟩) hc.dep)) | refine S.x ?_ | (refine G.call 60 ?_; refine S.c ?_ (h := xf6 _ _)) | (refine G.call 61 ?_; refine S.c ?_ (h := xhq ‹_›)) | (refine G.call 62 ?_; refine S.c ?_ (h := xhV ‹_›)) | intro hb | fail)
 rename_i a1 a2 a3 a4
 revert hb
 intro rbk
 obtain ⟨w0, hw0⟩ : ∃ w0 : RW, w0 = ⟨⟨none, 0, 0⟩, ⟨none, 0, 0⟩, ⟨none, 0, 0⟩, ⟨none, 0, 0⟩, ⟨none, 0, 0⟩, ⟨none, 0, 0⟩, a1, a2, a3, a4, none, ⟨none, 0, 0⟩, [], []⟩ := ⟨_, rfl⟩
 have hen : ((((((((ZM [Value.slice none 0 0, Value.slice none 0 0, Value.slice none 0 0, Value.slice none 0 0, Value.int IntKind.i64 0, Value.slice none 0 0, Value.slice none 0 0, Value.int IntKind.i64 0, Value.int IntKind.i64 0, Value.int IntKind.i64 0, Value.slice none 0 0, Value.int IntKind.i64 0, Value.int IntKind.i64 0, Value.int IntKind.i64 0, Value.slice none 0 0, Value.slice none 0 0, Value.slice none 0 0, Value.slice none 0 0, Value.slice none 0 0, Value.slice none 0 0, Value.pointer none, Value.pointer none, Value.pointer none, Value.pointer none, Value.pointer none, Value.slice none 0 0]
  0 (En.enc C.conf)).set 11 (Value.int IntKind.i64 C.part)).set 12 (Value.int IntKind.i64 3)).set 13 (Value.int IntKind.i64 (-1))).set 20 (ptr a1)).set 21 (ptr a2)).set 22 (ptr a3)).set 23 (ptr a4)) = [C.conf.regions.s.v, C.conf.procs.s.v, C.conf.ports.s.v, C.conf.sems.s.v, .int .i64 C.conf.flags, C.conf.pools.s.v, C.conf.slates.s.v, .int .i64 C.conf.cap, .int .i64 C.conf.budget, .int .i64 C.conf.ladder, C.conf.acts.s.v,
 .int .i64 C.part, .int .i64 3, .int .i64 (-1), w0.pg.v, w0.pa.v, w0.re.v, w0.ad.v, w0.da.v, w0.dn.v, ptr w0.tb, ptr w0.mem, ptr w0.pts, ptr w0.obs, slP w0.slk, w0.ev.v] := by rw [hw0]; rfl
 rw [hen]
 clear hen
 have htn : (Tb.new C.conf.procs.d).d.length = C.progs.length := by
  show ((C.conf.procs.d.take 8).map One.new).length = _
  rw [List.length_map, List.length_take, hc.np]
  exact Nat.min_eq_right h8
 have hw1 : w0.pg = ⟨none, 0, 0⟩ ∧ w0.tb = a1 ∧ w0.mem = a2 ∧ w0.pts = a3 ∧ w0.obs = a4 ∧ w0.slk = none ∧ w0.ev = ⟨none, 0, 0⟩ ∧ w0.px = [] ∧ w0.dx = [] := by rw [hw0]; exact ⟨rfl, rfl, rfl, rfl, rfl, rfl, rfl, rfl, rfl⟩
 clear hw0
 obtain ⟨t1, t2, t3, t4, t5, t6, t7, t8, t9⟩ := hw1
 obtain ⟨tb, htb⟩ : ∃ tb, tb = Tb.new C.conf.procs.d := ⟨_, rfl⟩
 rw [← htb] at htn ⊢
 refine Tr.refO (a := a1) (t := tb) S.K fun sr => ?_
 have hld : (tb.d.map Y9.mk).length = C.progs.length := by rw [List.length_map]; exact htn
 have hX := And.intro @xc5.eq_def hld; repeat' (first | refine S.x ?_ | fail)
 refine Tr.refF (a := a1) (t := tb) (s := sr) S.K S.K ?_
 clear hld
 refine Tr.loopE (α := Nat × SV × List (SL XE)) [9] [2, 6, 7, 8] (fun x => [.int .i64 x.1]) (fun x => [Vy rbk C 3 (-1) { w0 with pg := x.2.1 }, sl false x.2.1.v x.2.2, fzl x.2.2]) (fun x => x.1 ≤ C.progs.length ∧ x.2.2.length = x.1 ∧ x.2.2.map SL.d = C.progs.take x.1) (fun x => C.progs.length - x.1) (0, w0.pg, []) (by rw [t1]; exact S.T) rfl ⟨Nat.zero_le _, rfl, rfl⟩ fun x u hx => ?_
 obtain ⟨k, pg, px⟩ := x
 obtain ⟨hk, hl, hm⟩ := hx
 simp only at hk hl hm ⊢
 simp only [ap]
 by_cases hin : k < C.progs.length
 ·have hw := Xo (k := k) S.o
  have hpk : ix C.progs (k : Int) = Vq xs k := by
   rw [hp]; unfold J1
   rw [Xp S.o (by simp; exact_mod_cast hin)]
   congr 1
   simp [ix, hin]
  by_cases hq : k < xs.length
  ·by_cases he : (ix xs (k : Int)).d = []
   ·have hd0 : (ix xs (k : Int)).d.length = 0 := by rw [he]; rfl
    have he' := he
    clear he
    have hX := I3 @xc5.eq_def hw hd0; repeat' (first | intro (sv : SV) | refine S.x ?_ | intro hb | fail)
    refine Tr.freezeAt (v := sv.v) (xs := Y7) S.K ?_
    have hX := And.intro @xc5.eq_def hw; repeat' (first | intro (sw : SV) | refine S.x ?_ | fail)
    all_goals
     have hpk' : Vq xs k = Y7 := by unfold Vq; rw [if_neg (fun h => h.2 he')]
     have hm' : (px ++ [SL.mk sv Y7]).map SL.d = C.progs.take (k + 1) := by rw [Yz hin, List.map_append, hm, hpk, hpk']; rfl
     have hln : (px ++ [SL.mk sv Y7]).length = k + 1 := by rw [List.length_append, hl]; rfl
     clear hm hl
     exact S.R ((k + 1, sw, px ++ [SL.mk sv Y7]) : Nat × SV × List (SL XE))
   ·have hd0 : 0 < (ix xs (k : Int)).d.length := List.length_pos_iff.2 he
    have he' := he
    clear he
    have hX := And.intro @xc5.eq_def hw; repeat' (first | intro (sv : SV) | refine S.x ?_ | intro hb | fail)
    all_goals
     have hpk' : Vq xs k = (ix xs (k : Int)).d := by unfold Vq; rw [if_pos ⟨hq, he'⟩]
     have hm' : (px ++ [SL.mk (ix xs (k : Int)).s (ix xs (k : Int)).d]).map SL.d = C.progs.take (k + 1) := by rw [Yz hin, List.map_append, hm, hpk, hpk']; rfl
     have hln : (px ++ [SL.mk (ix xs (k : Int)).s (ix xs (k : Int)).d]).length = k + 1 := by rw [List.length_append, hl]; rfl
     clear hm hl
     exact S.R ((k + 1, sv, px ++ [SL.mk (ix xs (k : Int)).s (ix xs (k : Int)).d]) : Nat × SV × List (SL XE))
  ·have hX := And.intro @xc5.eq_def hw; repeat' (first | intro (sv : SV) | refine S.x ?_ | fail)
   refine Tr.freezeAt (v := sv.v) (xs := Y7) S.K ?_
   have hX := And.intro @xc5.eq_def hw; repeat' (first | intro (sw : SV) | refine S.x ?_ | fail)
   all_goals
    have hpk' : Vq xs k = Y7 := by unfold Vq; rw [if_neg (fun h => hq h.1)]
    have hm' : (px ++ [SL.mk sv Y7]).map SL.d = C.progs.take (k + 1) := by rw [Yz hin, List.map_append, hm, hpk, hpk']; rfl
    have hln : (px ++ [SL.mk sv Y7]).length = k + 1 := by rw [List.length_append, hl]; rfl
    clear hm hl
    exact S.R ((k + 1, sw, px ++ [SL.mk sv Y7]) : Nat × SV × List (SL XE))
 ·have hke : k = C.progs.length := by omega
  rw [hke, List.take_length] at hm
  subst t2 t3 t4 t5
  have hso : rslkO none none = fact True := by rw [rslkO.eq_def]
  refine Tr.nilSl (α := EvC) ?_
  have hX := @xc5.eq_def; repeat' (first | refine S.x ?_ | intro hb | fail)
  rename_i q1 q2 q3 q4
  obtain ⟨q5, hq5⟩ : ∃ q5, q5 = hb := ⟨_, rfl⟩
  subst hq5
  obtain ⟨w1, hw1⟩ : ∃ w1 : RW, w1 = { w0 with pg := pg, pa := q1, re := q2, ad := q3, da := q4, dn := q5, px := px, dx := List.replicate C.progs.length default } := ⟨_, rfl⟩
  have hrb : Xl C (V4 C) w1 := by rw [hw1]; exact xrP hc hm (by rw [List.map_replicate]; rfl) t6
  obtain ⟨cb, hcb⟩ : ∃ cb, cb = V4 C := ⟨_, rfl⟩
  refine Tr.imp (l' := Xf rbk C cb w1 ++ F) ?_ ?_
  ·subst hcb hw1 htb
   simp only [ap, Int.toNat_natCast, t6, t7]
   have hX := And.intro hso @V4.eq_def
   clear hm hp hrb hin hke
   show Xd [] _ _
   exact S.E
  rw [← hcb] at hrb
  have hN : Qn C = XS C cb 0 C.progs.length := by rw [hcb]; rfl
  rw [hN] at hK
  clear hcb hN hp hm hl htb htn t1 t6 t7 t8 t9 hso hw1
  simp only [ap]
  have hX := @xc5.eq_def; repeat' (first | refine S.x ?_ | refine S.y ?_ ?_ | (refine G.call 60 ?_; first | refine S.c ?_ (h := xf6 _ _) | refine S.c ?_ (h := xf6)) | (refine G.call 61 ?_; first | refine S.c ?_ (h := xhq ‹_›) | refine S.c ?_ (h := xhZ)) | (refine G.call 62 ?_; first | refine S.c ?_ (h := xhV ‹_›) | refine S.c ?_ (h := xed)) | (refine G.call 63 ?_; refine S.c ?_ (h := xcB)) | rintro _ _ ⟨_, rfl, rfl⟩ | rintro _ _ ⟨_, _, _, _, _, rfl, rfl⟩ | rintro _ _ ⟨_, _, _, _, _, _, hxs, rfl, rfl⟩ | (refine G.prop ?_; assumption) | intro hb | ((fail_if_success refine G.tr ?_); exact G.prop S.p) | fail)
  refine Tr.loopE (α := Nat × RW) [11] [6, 7, 8] (fun x => [.int .i64 x.1]) (fun x => Xf rbk C (XS C cb 0 x.1) x.2) (fun x => x.1 ≤ C.progs.length ∧ Xl C (XS C cb 0 x.1) x.2) (fun x => C.progs.length - x.1) (0, w1) S.T rfl ⟨Nat.zero_le _, hrb⟩ fun y u2 hy => ?_
  obtain ⟨j, w3⟩ := y
  obtain ⟨hj, hrj⟩ := hy
  simp only at hj hrj ⊢
  simp only [ap]
  by_cases hjn : j < C.progs.length
  ·have hw := Xo (k := j) S.o
   have hkj : inR C.progs (j : Int) := ⟨by omega, by omega⟩
   have hst : Yd C (XS C cb 0 j) (j : Int) 0 = XS C cb 0 (j + 1) := rfl
   have hsk := WC (r := rbk) (win := 0) hc hrj hkj
   rw [hst] at hsk
   clear hrj
   have hX := And.intro @xc5.eq_def hw; repeat' (first | rintro _ _ ⟨w5, hr5, rfl, rfl⟩ | (refine G.call 64 ?_; refine S.c ?_ (h := hsk)) | refine S.x ?_ | fail)
   all_goals
    have hX := hst
    exact S.R ((j + 1, w5) : Nat × RW)
  ·have hje : j = C.progs.length := by omega
   subst hje
   have hX := @xc5.eq_def; repeat' (first | refine S.x ?_ | fail)
   all_goals exact Tr.fin hK ⟨rbk, w3, hrj, rfl, rfl⟩ S.E
