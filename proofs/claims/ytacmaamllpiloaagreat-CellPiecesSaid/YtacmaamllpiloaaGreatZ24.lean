import Derived.Test.YtacmaamllpiloaaGreatZ23
namespace Go.Proofs.YtacmaamllpiloaaGreat
open Go Go.Wk Tryz
set_option maxHeartbeats 3200000
set_option maxRecDepth 100000
section
section
variable {b : Nat} {C : CC} {c : CM} {w : CW} {gs : List Xe} {k : Int}
theorem xp9 {m : Int} (h : Rel C c w gs) : Rel C { c with mode := m } w gs :=
 ⟨⟨h.ok.tb, h.ok.pos, h.ok.rest, h.ok.addr, h.ok.data, h.ok.done, h.ok.pi, h.ok.ad, h.ok.dl⟩, h.hp, h.hi, h.hr, h.ha, h.hd, h.hw, h.hs⟩
end
end
section
attribute [local irreducible] BrK Xq Xt Xv XI FnK XZ Xw XC XV opX opK Yq Yk eqR Yj Yo Ys WL WD W X3 XO Tr drewK Ya X4 Yw Yv X1 YB mp blk rob sl sep ex fact old
section
attribute [local irreducible] Y1 X2 objX Zw
section
variable {b : Nat} {C : CC} {c : CM} {w : CW} {gs : List Xe} {k : Int}
theorem xef (hc : okC C) (hr : Rel C c w gs) : Xb prog 146 #[ptr b] (Xh b C c w gs)
  fun v l' => ∃ gs2, Rel C (WU C c) w gs2 ∧ v = .tuple #[] ∧ l' = Xh b C (WU C c) w gs2 := by
 intro F K hK
 simp only [ap] at hK ⊢
 have h8 := hc.n8
 have hlg := JU hr
 have hlm : (gs.map Xe.pt).length = C.progs.length := by rw [List.length_map]; exact hlg
 have hr0 := xp9 (m := 0) hr
 refine S.I fun u => ?_
 repeat' (first | refine S.x ?_ | fail)
 refine Tr.loopE (α := Nat × List Xe) [11] [0, 10] (fun x => [.int .i64 x.1]) (fun x => Xh b C (X7 { c with mode := 0 } x.1) w x.2) (fun x => x.1 ≤ C.progs.length ∧ Rel C (X7 { c with mode := 0 } x.1) w x.2) (fun x => C.progs.length - x.1) (0, gs) S.T rfl ⟨Nat.zero_le _, hr0⟩ fun x u hx => ?_
 obtain ⟨i, g2⟩ := x
 obtain ⟨hi, hri⟩ := hx
 simp only at hi hri ⊢
 simp only [ap]
 by_cases hin : i < C.progs.length
 ·have hw := Xo (k := i) S.o
  have hk : inR C.progs (i : Int) := ⟨by omega, by omega⟩
  have hst : XW (X7 { c with mode := 0 } i) (i : Int) 0 = X7 { c with mode := 0 } (i + 1) := rfl
  have hX := And.intro hw hlm; repeat' (first | rintro _ _ ⟨g3, hr3, rfl, rfl⟩ | (refine G.call 144 ?_; refine S.c ?_ (h := WV hri hk)) | refine S.x ?_ | fail)
  all_goals
   rw [hst] at hr3
   have hX := hst
   clear hri
   exact S.R ((i + 1, g3) : Nat × List Xe)
 ·have hie : i = C.progs.length := by omega
  subst hie
  have hX := hlm; repeat' (first | refine S.x ?_ | fail)
  all_goals
   refine Tr.fin hK ⟨g2, hri, rfl, rfl⟩ ?_
   simp only [ap]
   have hX := @WU.eq_def
   exact S.E
end
end
section
section
variable {b : Nat} {C : CC} {c : CM} {w : CW} {gs : List Xe} {k win : Int} {cold : Bool}
theorem QA : ∀ n, (X7 c n).tb.d.length = c.tb.d.length
 | 0 => rfl
 | n + 1 => Zf.trans (QA n)
theorem xd9 : ∀ n : Nat, n ≤ c.tb.d.length → ∀ j : Int, 0 ≤ j → j < n → ¬ JM ((X7 c n).tb.at j)
 | 0, _, j, h0, h1 => by omega
 | n + 1, hn, j, h0, h1 => by
  by_cases e : j = (n : Int)
  ·subst e
   refine xdq ?_ (by decide) (by decide) (by decide)
   unfold inR
   rw [QA]
   omega
  ·intro h
   exact xd9 n S.o j h0 S.o (VQ (t := (X7 c n).tb) j h)
theorem xg3 : JY c.tb (Yd C c k win).tb := by
 unfold Yd
 simp only
 split
 ·exact WG (Wy (t := c.tb)) xbf
 ·exact Wy (t := c.tb)
theorem WS : ∀ n, JY c.tb (XS C c win n).tb
 | 0 => V0
 | n + 1 => WG (WS n) xg3
theorem xmR (h : Rel C c w gs) : Rel C (QZ C c cold) w gs :=
 ⟨⟨h.ok.tb, h.ok.pos, h.ok.rest, h.ok.addr, h.ok.data, h.ok.done, h.ok.pi, h.ok.ad, h.ok.dl⟩, h.hp, h.hi, h.hr, h.ha, h.hd, h.hw, h.hs⟩
theorem xa5 : ∀ n, (X7 c n).win = c.win
 | 0 => rfl
 | n + 1 => xa5 n
theorem xjL : (Yd C c k win).win = c.win := by
 unfold Yd
 simp only
 split <;> rfl
theorem xab : ∀ n, (XS C c win n).win = c.win
 | 0 => rfl
 | n + 1 => xjL.trans (xab n)
end
attribute [local irreducible] Y1 X2 objX Zw
section
variable {b : Nat} {C : CC} {c : CM} {w : CW} {gs : List Xe} {k : Int}
theorem Q4 {cold : Bool} (hc : okC C) (hr : Rel C c w gs) : Xb prog 145 #[ptr b, .bool cold] (Xh b C c w gs)
  fun v l' => ∃ gs2, Rel C (Qi C c cold) w gs2 ∧ v = .tuple #[] ∧ l' = Xh b C (Qi C c cold) w gs2 := by
 intro F K hK
 simp only [ap] at hK ⊢
 have h8 := hc.n8
 have hlg := JU hr
 have hlm : ∀ g2 : List Xe, g2.length = C.progs.length → (g2.map Xe.pt).length = C.progs.length := fun g2 h => by rw [List.length_map]; exact h
 have hlm0 := hlm gs hlg
 have hr0 := xmR (cold := cold) hr
 obtain ⟨c0, hc0⟩ : ∃ c0, c0 = QZ C c cold := ⟨_, rfl⟩
 have han : Qi C c cold = XS C (X7 c0 C.progs.length) c0.win C.progs.length := by rw [hc0]; rfl
 rw [han] at hK
 rw [← hc0] at hr0
 clear han
 refine S.I fun u => ?_
 cases cold
 all_goals
  repeat' (first | rintro _ _ ⟨rfl, rfl⟩ | (refine G.call 224 ?_; refine S.c ?_ (h := xnv)) | (refine G.call 115 ?_; refine S.c ?_ (h := xjQ hc.dep)) | (refine G.call 225 ?_; refine S.c ?_ (h := xjG)) | refine S.x ?_ | fail)
  refine Tr.imp (l' := Xh b C c0 w gs ++ F) ?_ ?_
  ·subst hc0
   simp only [ap]
   have hX := @QZ.eq_def
   show Xd [] _ _
   exact S.E
  clear hc0
  simp only [ap]
  refine Tr.loopE (α := Nat × List Xe) [27] [0, 26] (fun x => [.int .i64 x.1]) (fun x => Xh b C (X7 c0 x.1) w x.2) (fun x => x.1 ≤ C.progs.length ∧ Rel C (X7 c0 x.1) w x.2) (fun x => C.progs.length - x.1) (0, gs) S.T rfl ⟨Nat.zero_le _, hr0⟩ fun x u hx => ?_
  obtain ⟨i, g2⟩ := x
  obtain ⟨hi, hri⟩ := hx
  simp only at hi hri ⊢
  simp only [ap]
  by_cases hin : i < C.progs.length
  ·have hw := Xo (k := i) S.o
   have hk : inR C.progs (i : Int) := ⟨by omega, by omega⟩
   have hst : XW (X7 c0 i) (i : Int) 0 = X7 c0 (i + 1) := rfl
   have hX := And.intro hw hlm0; repeat' (first | rintro _ _ ⟨g3, hr3, rfl, rfl⟩ | (refine G.call 144 ?_; refine S.c ?_ (h := WV hri hk)) | refine S.x ?_ | fail)
   all_goals
    rw [hst] at hr3
    have hX := hst
    clear hri
    exact S.R ((i + 1, g3) : Nat × List Xe)
  ·have hie : i = C.progs.length := by omega
   subst hie
   have hno : ∀ j : Int, inR C.progs j → ¬ JM ((X7 c0 C.progs.length).tb.at j) := fun j hj => xd9 _ (by rw [hr0.ok.tb]; exact Nat.le_refl _) j hj.1 hj.2
   have hwn : (X7 c0 C.progs.length).win = c0.win := xa5 _
   have hl2 := hlm g2 (JU hri)
   rw [← hwn] at hK
   clear hwn
   generalize X7 c0 C.progs.length = c1 at *
   have hX := And.intro hlm0 hl2; repeat' (first | refine S.x ?_ | fail)
   refine Tr.loopE (α := Nat × List Xe) [39] [0, 38] (fun x => [.int .i64 x.1]) (fun x => Xh b C (XS C c1 c1.win x.1) w x.2) (fun x => x.1 ≤ C.progs.length ∧ Rel C (XS C c1 c1.win x.1) w x.2) (fun x => C.progs.length - x.1) (0, g2) S.T rfl ⟨Nat.zero_le _, hri⟩ fun y u2 hy => ?_
   obtain ⟨j, g4⟩ := y
   obtain ⟨hj, hrj⟩ := hy
   simp only at hj hrj ⊢
   simp only [ap]
   by_cases hjn : j < C.progs.length
   ·have hw := Xo (k := j) S.o
    have hk : inR C.progs (j : Int) := ⟨by omega, by omega⟩
    have hwj : (XS C c1 c1.win j).win = c1.win := xab j
    have hnj : ¬ JM ((XS C c1 c1.win j).tb.at (j : Int)) := fun h => hno _ hk (WS j _ h)
    have hst : Yd C (XS C c1 c1.win j) (j : Int) (XS C c1 c1.win j).win = XS C c1 c1.win (j + 1) := by rw [hwj]; rfl
    clear hno
    have hX := And.intro hw hl2; repeat' (first | rintro _ _ ⟨g5, hr5, rfl, rfl⟩ | (refine G.call 59 ?_; refine S.c ?_ (h := W3 hc hrj hk hnj)) | refine S.x ?_ | fail)
    all_goals
     rw [hst] at hr5
     have hX := hst
     clear hrj
     exact S.R ((j + 1, g5) : Nat × List Xe)
   ·have hje : j = C.progs.length := by omega
    subst hje
    have hX := hl2; repeat' (first | refine S.x ?_ | fail)
    all_goals exact Tr.fin hK ⟨g4, hrj, rfl, rfl⟩ S.E
end
section
variable {b : Nat} {C : CC} {c : CM} {w : CW} {gs : List Xe} {k kind : Int}
theorem VN (hc : okC C) (hr : Rel C c w gs) (hk : inR C.progs k) (hf : few c 1) (h0 : 0 ≤ kind) (h4 : kind ≤ 4) : Xb prog 91 #[ptr b, .int .i64 kind, .int .i64 k] (Xh b C c w gs)
  fun v l' => ∃ w2 gs2, Rel C (Yx C c k kind) w2 gs2 ∧ v = .tuple #[] ∧ l' = Xh b C (Yx C c k kind) w2 gs2 := by
 intro F K hK
 simp only [ap] at hK ⊢
 unfold few at hf
 have hwk : IntKind.i64.wrap (-1 - kind) = -1 - kind := Ye S.o S.o
 obtain ⟨act, hact⟩ : ∃ act, act = Zk C.conf.acts.d kind := ⟨_, rfl⟩
 obtain ⟨c1, hc1⟩ : ∃ c1, c1 = Xa C c k (-1 - kind) act 0 := ⟨_, rfl⟩
 have hfm : Yx C c k kind = (if act = 1 then XW c1 k 0 else if act = 2 then Yd C (XW c1 k 0) k c1.win else if act = 3 then Qi C c1 true else if act = 4 then WU C c1 else c1) := by rw [hc1, hact]; rfl
 have hr1 : ∀ s, Rel C c1 { w with ev := s } gs := fun s => by rw [hc1]; exact Xs hr
 have hev : c1.evs = c.evs ++ [⟨C.part, c.win, k, -1 - kind, act, 0⟩] := by rw [hc1]; rfl
 have hfl : c1.mode = c.mode ∧ c1.win = c.win ∧ c1.tb = c.tb ∧ c1.mem = c.mem ∧ c1.pts = c.pts ∧ c1.obs = c.obs ∧ c1.slk = c.slk := by rw [hc1]; exact ⟨rfl, rfl, rfl, rfl, rfl, rfl, rfl⟩
 rw [hfm] at hK
 refine S.I fun u => ?_
 have hX := And.intro hwk @hact.symm; repeat' (first | rintro _ _ ⟨rfl, rfl⟩ | rintro _ _ ⟨sv, rfl, rfl⟩ | (refine G.call 90 ?_; refine S.c ?_ (h := Zq hf)) | refine S.x ?_ | refine S.y ?_ ?_ | (refine G.call 143 ?_; refine S.c ?_ (h := xi3 ?_ ?_)) | (refine G.prop ?_; assumption) | intro hb | fail)
 all_goals
  have hrs := hr1 sv
  refine Tr.imp (l' := Xh b C c1 { w with ev := sv } gs ++ F) ?_ ?_
  ·clear hev hfl hfm hr1 hrs hK
   subst hc1
   simp only [ap]
   have hX := @Xa.eq_def
   show Xd [] _ _
   exact S.E
  clear hev hfl hc1 hfm hr1
  simp only [ap]
 ·rw [if_pos hb] at hK
  repeat' (first | rintro _ _ ⟨g3, hr3, rfl, rfl⟩ | (refine G.call 144 ?_; refine S.c ?_ (h := WV hrs hk)) | refine S.x ?_ | fail)
  all_goals exact Tr.fin hK ⟨_, g3, hr3, rfl, rfl⟩ S.E
 ·rw [if_neg S.o, if_pos hb] at hK
  have hnw : ¬ JM ((XW c1 k 0).tb.at k) := xdq (t := c1.tb) (xkM hrs hk) (by decide) (by decide) (by decide)
  have hwn : (XW c1 k 0).win = c1.win := rfl
  repeat' (first | rintro _ _ ⟨g3, hr3, rfl, rfl⟩ | (refine G.call 144 ?_; refine S.c ?_ (h := WV hrs hk)) | (refine G.call 59 ?_; refine S.c ?_ (h := W3 hc hr3 hk hnw)) | refine S.x ?_ | fail)
  all_goals exact Tr.fin hK ⟨_, g3, hr3, rfl, rfl⟩ S.E
 ·rw [if_neg S.o, if_neg S.o, if_pos hb] at hK
  repeat' (first | rintro _ _ ⟨g3, hr3, rfl, rfl⟩ | (refine G.call 145 ?_; refine S.c ?_ (h := Q4 hc hrs)) | refine S.x ?_ | fail)
  all_goals exact Tr.fin hK ⟨_, g3, hr3, rfl, rfl⟩ S.E
 ·rw [if_neg S.o, if_neg S.o, if_neg S.o, if_pos hb] at hK
  repeat' (first | rintro _ _ ⟨g3, hr3, rfl, rfl⟩ | (refine G.call 146 ?_; refine S.c ?_ (h := xef hc hrs)) | refine S.x ?_ | fail)
  all_goals exact Tr.fin hK ⟨_, g3, hr3, rfl, rfl⟩ S.E
 ·rw [if_neg S.o, if_neg S.o, if_neg S.o, if_neg S.o] at hK
  repeat' (first | refine S.x ?_ | refine S.y ?_ ?_ | (refine G.call 143 ?_; refine S.c ?_ (h := xi3 ?_ ?_)) | (refine G.call 90 ?_; refine S.c ?_ (h := Zq ?_)) | (refine G.call 144 ?_; refine S.c ?_ (h := WV ‹_› ‹_›)) | (refine G.call 59 ?_; refine S.c ?_ (h := W3 ‹_› ‹_› ‹_› ‹_›)) | (refine G.call 145 ?_; refine S.c ?_ (h := Q4 ‹_› ‹_›)) | (refine G.call 146 ?_; refine S.c ?_ (h := xef ‹_› ‹_›)) | rintro _ _ ⟨rfl, rfl⟩ | rintro _ _ ⟨_, rfl, rfl⟩ | rintro _ _ ⟨_, hrel, rfl, rfl⟩ | (refine G.prop ?_; assumption) | intro hb | ((fail_if_success refine G.tr ?_); exact G.prop S.p) | fail)
  all_goals exact Tr.fin hK ⟨_, gs, hrs, rfl, rfl⟩ S.E
end
end
section
variable {t : Tb} {q : One → Bool} {k : Int} {o : One}
theorem xdr (h : 0 ≤ t.best q) : inR t.d (t.best q) := ⟨h, (W5 t q t.d.length).2⟩
theorem xep : ∀ n, 0 ≤ t.bestTo q n → q (t.at (t.bestTo q n)) = true
 | 0, h => by simp [Tb.bestTo] at h
 | n + 1, h => by
  have ih := xep n
  unfold Tb.bestTo at h ⊢
  split
  ·rename_i hb
   simp only [Bool.and_eq_true] at hb
   exact hb.1
  ·rename_i hb
   rw [if_neg hb] at h
   exact ih h
theorem xex (h : 0 ≤ t.best q) : q (t.at (t.best q)) = true := xep _ h
def cnt (q : One → Bool) (t : Tb) : Nat := t.d.countP q
theorem xgJ : cnt q t ≤ t.d.length := List.countP_le_length
theorem xu8 (hk : inR t.d k) : t.d[k.toNat]'(by have := hk.1; have := hk.2; omega) = t.at k := by
 have h1 : k.toNat < t.d.length := by have := hk.1; have := hk.2; omega
 unfold Tb.at
 rw [if_pos hk.1, List.getD_eq_getElem?_getD, List.getElem?_eq_getElem h1]; rfl
theorem xsp {n : Int} (hk : inR t.d k) (h1 : q (t.at k) = true) (h2 : q o = false) : cnt q (Tb.mk (t.d.set k.toNat o) n) + 1 = cnt q t := by
 have hl : k.toNat < t.d.length := by have := hk.1; have := hk.2; omega
 have h3 : q (t.d[k.toNat]'hl) = true := by rw [xu8 hk]; exact h1
 have h4 : 0 < t.d.countP q := List.countP_pos_iff.2 ⟨_, List.getElem_mem hl, h3⟩
 unfold cnt
 simp only
 rw [List.countP_set hl, if_pos h3, if_neg (by rw [h2]; decide)]
 omega
theorem xoK {call what : Int} {d : One} (h : One.waits call what d = true) : d.state = 2 ∧ d.call = call ∧ d.what = what := by
 unfold One.waits at h
 simp only [Bool.and_eq_true, decide_eq_true_eq] at h
 exact ⟨h.1.1, h.1.2, h.2⟩
theorem xuD {call what : Int} (h : 0 ≤ t.best (One.waits call what)) : cnt (One.waits call what) (t.set (t.best (One.waits call what)) 1) + 1 = cnt (One.waits call what) t := by
 have hin := xdr h
 have hs := xex h
 unfold Tb.set
 rw [if_pos (by unfold Tb.setB; simp only [Bool.and_eq_true]; exact ⟨Vw.2 hin, by decide⟩)]
 refine xsp hin hs ?_
 unfold One.waits
 rw [xcG.1]
 rfl
end
section
variable {C : CC} {c : CM} {p : Int}
theorem xf9 {k call code value : Int} : (Zc C c k call code value).tb = c.tb.set k 1 := rfl
theorem xhA {k call : Int} {b : List UInt8} : (Zy C c k call b).tb = c.tb.set k 1 := rfl
theorem xcW (h : XB c 11 p < 0) : ∀ n, Yy C p n c = c
 | 0 => rfl
 | n + 1 => by unfold Yy; rw [if_pos h]
theorem Wt (h : XB c 12 p < 0) : ∀ n, YJ C p n c = c
 | 0 => rfl
 | n + 1 => by unfold YJ; rw [if_pos h]
theorem xcP (h : XB c 17 p < 0) : ∀ n, J7 C p n c = c
 | 0 => rfl
 | n + 1 => by unfold J7; rw [if_pos h]
theorem xbY {b : List UInt8} (h : XB c 21 p < 0) : ∀ n, Z5 C p b n c = c
 | 0 => rfl
 | n + 1 => by unfold Z5; rw [if_pos h]
end
section
section
variable {b : Nat} {C : CC} {c : CM} {w : CW} {gs : List Xe} {k call p : Int}
theorem Ww {ps : List AP} (h : Rel C c w gs) : Rel C { c with pts := ps } w gs :=
 ⟨⟨h.ok.tb, h.ok.pos, h.ok.rest, h.ok.addr, h.ok.data, h.ok.done, h.ok.pi, h.ok.ad, h.ok.dl⟩, h.hp, h.hi, h.hr, h.ha, h.hd, h.hw, h.hs⟩
theorem xmi (h : Rel C c w gs) (hk : inR C.progs k) : (ix c.data k).length ≤ 300 := by
 have hd : inR c.data k := by unfold inR at *; rw [h.ok.data]; exact hk
 exact h.ok.dl _ (List.mem_of_getElem? (Yi hd.1 hd.2))
theorem xlC (h : Rel C c w gs) (hk : inR c.tb.d k) : inR C.progs k := by unfold inR at *; rw [← h.ok.tb]; exact hk
theorem ZW (h : Rel C c w gs) (h0 : ¬ XB c call p < 0) : inR C.progs (XB c call p) := xlC h (xdr (q := One.waits call p) (by unfold XB at h0; omega))
theorem xmB (h : Rel C c w gs) (hcall : call = 11 ∨ call = 18) (h0 : ¬ XB c call p < 0) : (ix gs (XB c call p)).dd = ix c.data (XB c call p) := by
 have hs := xoK (xex (t := c.tb) (q := One.waits call p) (by unfold XB at h0; omega))
 refine h.hw _ (ZO h (ZW h h0)) ⟨hs.1, ?_⟩
 unfold XB
 rw [hs.2.1]; exact hcall
theorem xdx {c2 : CM} {code value : Int} (h0 : ¬ XB c call p < 0) (ht : c2.tb = c.tb) : cnt (One.waits call p) (Zc C c2 (XB c call p) call code value).tb + 1 = cnt (One.waits call p) c.tb := by
 rw [xf9, ht]
 exact xuD (by unfold XB at h0; omega)
end
attribute [local irreducible] Y1 X2 objX Zw
section
variable {b : Nat} {C : CC} {c : CM} {w : CW} {gs : List Xe} {k p : Int}
theorem xiZ (hc : okC C) (hr : Rel C c w gs) (hf : few c 8) : Xb prog 35 #[ptr b, .int .i64 p] (Xh b C c w gs)
  fun v l' => ∃ w2 gs2, Rel C (Yy C p 20 c) w2 gs2 ∧ v = .tuple #[] ∧ l' = Xh b C (Yy C p 20 c) w2 gs2 := by
 intro F K hK
 simp only [ap] at hK ⊢
 have h8 := hc.n8
 have htb := hr.ok.tb
 have hcn : cnt (One.waits 11 p) c.tb ≤ 8 := Nat.le_trans xgJ S.o
 have hf0 : few c (cnt (One.waits 11 p) c.tb) := by unfold few at *; omega
 obtain ⟨R, hR⟩ : ∃ R, R = Yy C p 20 c := ⟨_, rfl⟩
 rw [← hR] at hK
 refine S.I fun u => ?_
 have hX := @xmK.eq_def; repeat' (first | refine S.x ?_ | (refine G.call 92 ?_; refine S.c ?_ (h := YV _ _ _ _ ?_)) | rintro _ _ ⟨rfl, rfl⟩ | ((fail_if_success refine G.tr ?_); exact G.prop S.p) | fail)
 refine Tr.loopE (α := CM × Nat × CW × List Xe) [4] [0, 1] (fun x => [.int .i64 (XB x.1 11 p)]) (fun x => Xh b C x.1 x.2.2.1 x.2.2.2) (fun x => Yy C p x.2.1 x.1 = R ∧ cnt (One.waits 11 p) x.1.tb < x.2.1 ∧ few x.1 (cnt (One.waits 11 p) x.1.tb) ∧ Rel C x.1 x.2.2.1 x.2.2.2) (fun x => x.2.1) (c, 20, w, gs) S.T rfl ⟨hR.symm, by simp only; omega, hf0, hr⟩ fun x u hx => ?_
 obtain ⟨c1, n, w1, g1⟩ := x
 obtain ⟨he, hn, hf1, hr1⟩ := hx
 simp only at he hn hf1 hr1 ⊢
 simp only [ap]
 have htb1 := hr1.ok.tb
 clear hr hf hf0 htb hcn hR
 by_cases h0 : XB c1 11 p < 0
 ·rw [xcW h0] at he
  rw [← he] at hK
  have hX := @xmK.eq_def; repeat' (first | refine S.x ?_ | fail)
  all_goals exact Tr.fin hK ⟨w1, g1, hr1, rfl, rfl⟩ S.E
 ·obtain ⟨m, rfl⟩ : ∃ m, n = m + 1 := ⟨n - 1, by omega⟩
  have hk := ZW hr1 h0
  have hdd := xmB hr1 (.inl rfl) h0
  have hle := xmi hr1 hk
  obtain ⟨g0, g9⟩ := ZO hr1 hk
  have hmp := Xp (f := Xe.pt) (xs := g1) (k := XB c1 11 p) g0 g9
  have hlm : (g1.map Xe.pt).length = g1.length := List.length_map _
  obtain ⟨c2, hc2⟩ : ∃ c2 : CM, c2 = { c1 with pts := Yh c1.pts p true (ix c1.data (XB c1 11 p)) } := ⟨_, rfl⟩
  have hrp : Rel C c2 w1 g1 := by rw [hc2]; exact Ww hr1
  have hce := xdx (C := C) (c2 := c2) (code := 0) (value := 0) h0 (by rw [hc2])
  have hev : c2.evs = c1.evs := by rw [hc2]
  unfold Yy at he
  rw [if_neg h0] at he
  simp only at he
  rw [← hc2] at he
  generalize XB c1 11 p = k at *
  obtain ⟨c3, hc3⟩ : ∃ c3 : CM, c3 = Zc C c2 k 11 0 0 := ⟨_, rfl⟩
  have hl3 : c3.tb.d.length ≤ 1000000 := by rw [hc3, xf9, Zf, hrp.ok.tb]; omega
  have hf2 : few c2 1 := by unfold few at *; rw [hev]; omega
  have hf3 : few c3 (cnt (One.waits 11 p) c3.tb) := by
   rw [← hc3] at hce
   unfold few at *
   rw [hc3]
   simp only [Zc, Xa, XW, List.length_append, List.length_cons, List.length_nil]
   rw [hc3] at hce
   simp only [Zc, Xa, XW] at hce
   rw [hev]; omega
  rw [← hc3] at hce he
  refine Tr.famAt (xs := g1) k S.K S.o S.o (Y5 ?_)
  rw [hdd]
  by_cases hcode : YU c1.pts p true (ix c1.data k).length = 0
  ·rw [if_pos hcode] at he
   have hX := I3 @xmK.eq_def hmp @Xe.pt.eq_def; repeat' (first | refine S.x ?_ | (refine G.call 93 ?_; refine S.c ?_ (h := xbN ‹_›)) | rintro _ _ ⟨rfl, rfl⟩ | intro hb | fail)
   refine Tr.imp (l' := Xh b C c2 w1 g1 ++ F) ?_ ?_
   ·subst hc2
    simp only [ap]
    have hX := And.intro hdd @Zg.eq_def
    show Xd [] _ _
    exact S.E
   simp only [ap]
   have hco := ZE (b := b) (call := 11) (code := 0) (value := 0) hrp hk hf2
   rw [← hc3] at hco
   clear hrp hr1 hc2 hc3 hev
   have hX := @xmK.eq_def; repeat' (first | rintro _ _ ⟨rfl, rfl⟩ | rintro _ _ ⟨w2, gs2, hrel, rfl, rfl⟩ | (refine G.call 94 ?_; refine S.c ?_ (h := hco)) | refine S.x ?_ | (refine G.call 92 ?_; refine S.c ?_ (h := YV _ _ _ _ ?_)) | (refine G.prop ?_; assumption) | fail)
   all_goals exact S.R ((c3, m, w2, gs2) : CM × Nat × CW × List Xe)
  ·rw [if_neg hcode] at he
   rw [← he] at hK
   have hX := I3 @xmK.eq_def hmp @Xe.pt.eq_def; repeat' (first | refine S.x ?_ | (refine G.call 93 ?_; refine S.c ?_ (h := xbN ‹_›)) | rintro _ _ ⟨rfl, rfl⟩ | intro hb | fail)
   all_goals
    refine Tr.fin hK ⟨w1, g1, hrp, rfl, rfl⟩ ?_
    subst hc2
    simp only [ap]
    have hX := And.intro hdd @Zg.eq_def
    exact S.E
end
section
variable {b : Nat} {C : CC} {c : CM} {w : CW} {gs : List Xe} {k p : Int}
theorem xeY (hc : okC C) (hr : Rel C c w gs) (hf : few c 8) : Xb prog 36 #[ptr b, .int .i64 p] (Xh b C c w gs)
  fun v l' => ∃ w2 gs2, Rel C (YJ C p 20 c) w2 gs2 ∧ v = .tuple #[] ∧ l' = Xh b C (YJ C p 20 c) w2 gs2 := by
 intro F K hK
 simp only [ap] at hK ⊢
 have h8 := hc.n8
 have htb := hr.ok.tb
 have hcn : cnt (One.waits 12 p) c.tb ≤ 8 := Nat.le_trans xgJ S.o
 have hf0 : few c (cnt (One.waits 12 p) c.tb) := by unfold few at *; omega
 obtain ⟨R, hR⟩ : ∃ R, R = YJ C p 20 c := ⟨_, rfl⟩
 rw [← hR] at hK
 refine S.I fun u => ?_
 repeat' (first | refine S.x ?_ | (refine G.call 92 ?_; refine S.c ?_ (h := YV _ _ _ _ ?_)) | rintro _ _ ⟨rfl, rfl⟩ | ((fail_if_success refine G.tr ?_); exact G.prop S.p) | fail)
 refine Tr.loopE (α := CM × Nat × CW × List Xe) [4] [0, 1] (fun x => [.int .i64 (XB x.1 12 p)]) (fun x => Xh b C x.1 x.2.2.1 x.2.2.2) (fun x => YJ C p x.2.1 x.1 = R ∧ cnt (One.waits 12 p) x.1.tb < x.2.1 ∧ few x.1 (cnt (One.waits 12 p) x.1.tb) ∧ Rel C x.1 x.2.2.1 x.2.2.2) (fun x => x.2.1) (c, 20, w, gs) S.T rfl ⟨hR.symm, by simp only; omega, hf0, hr⟩ fun x u hx => ?_
 obtain ⟨c1, n, w1, g1⟩ := x
 obtain ⟨he, hn, hf1, hr1⟩ := hx
 simp only at he hn hf1 hr1 ⊢
 simp only [ap]
 have htb1 := hr1.ok.tb
 clear hr hf hf0 htb hcn hR
 by_cases h0 : XB c1 12 p < 0
 ·rw [Wt h0] at he
  rw [← he] at hK
  repeat' (first | refine S.x ?_ | fail)
  all_goals exact Tr.fin hK ⟨w1, g1, hr1, rfl, rfl⟩ S.E
 ·obtain ⟨m, rfl⟩ : ∃ m, n = m + 1 := ⟨n - 1, by omega⟩
  have hk := ZW hr1 h0
  obtain ⟨c2, hc2⟩ : ∃ c2 : CM, c2 = { c1 with pts := Z1 c1.pts p true } := ⟨_, rfl⟩
  have hrp : Rel C c2 w1 g1 := by rw [hc2]; exact Ww hr1
  obtain ⟨bs, hbs⟩ : ∃ bs, bs = YS c1.pts p true := ⟨_, rfl⟩
  have hce : cnt (One.waits 12 p) (Zy C c2 (XB c1 12 p) 12 bs).tb + 1 = cnt (One.waits 12 p) c1.tb := xdx (c2 := { c2 with mem := stB c2.mem (ix c2.addr (XB c1 12 p)) bs }) h0 (by rw [hc2])
  have hev : c2.evs = c1.evs := by rw [hc2]
  unfold YJ at he
  rw [if_neg h0] at he
  simp only at he
  rw [← hc2, ← hbs] at he
  generalize XB c1 12 p = k at *
  obtain ⟨c3, hc3⟩ : ∃ c3 : CM, c3 = Zy C c2 k 12 bs := ⟨_, rfl⟩
  have hl3 : c3.tb.d.length ≤ 1000000 := by rw [hc3, xhA, Zf, hrp.ok.tb]; omega
  have hf2 : few c2 1 := by unfold few at *; rw [hev]; omega
  have hf3 : few c3 (cnt (One.waits 12 p) c3.tb) := by
   rw [← hc3] at hce
   unfold few at *
   have : c3.evs.length = c2.evs.length + 1 := by rw [hc3]; simp [Zy, Zc, Xa, XW]
   rw [this, hev]; omega
  rw [← hc3] at hce he
  by_cases hcode : Y3 c1.pts p true = 0
  ·rw [if_pos hcode] at he
   repeat' (first | refine S.x ?_ | (refine G.call 95 ?_; refine S.c ?_ (h := xej)) | rintro _ _ ⟨_, rfl, rfl⟩ | fail)
   rename_i s3
   refine Tr.imp (l' := sl true s3.v bs :: Xh b C c2 w1 g1 ++ F) ?_ ?_
   ·subst hc2 hbs
    simp only [ap]
    show Xd [] _ _
    exact S.E
   simp only [ap]
   have hco := xbc (b := b) (call := 12) (bs := bs) (s3 := s3) hrp hk hf2
   rw [← hc3] at hco
   clear hrp hr1 hc2 hc3 hev hbs
   repeat' (first | rintro _ _ ⟨rfl, rfl⟩ | rintro _ _ ⟨w2, gs2, hrel, rfl, rfl⟩ | (refine G.call 96 ?_; refine S.c ?_ (h := hco)) | refine S.x ?_ | (refine G.call 92 ?_; refine S.c ?_ (h := YV _ _ _ _ ?_)) | (refine G.prop ?_; assumption) | fail)
   all_goals exact S.R ((c3, m, w2, gs2) : CM × Nat × CW × List Xe)
  ·rw [if_neg hcode] at he
   rw [← he] at hK
   repeat' (first | refine S.x ?_ | (refine G.call 95 ?_; refine S.c ?_ (h := xej)) | rintro _ _ ⟨_, rfl, rfl⟩ | fail)
   all_goals
    refine Tr.fin hK ⟨w1, g1, hrp, rfl, rfl⟩ ?_
    subst hc2
    simp only [ap]
    exact S.E
end
end
def VY (t t' : Tb) : Prop := t'.d.length = t.d.length ∧ ∀ j, (t.at j).parked = true → (t'.at j).parked = true
section
variable {t t' : Tb} {k j : Int} {o : One} {st : Int}
theorem Js : VY t t := ⟨rfl, fun _ h => h⟩
theorem xcK {t1 t2 t3 : Tb} (h1 : VY t1 t2) (h2 : VY t2 t3) : VY t1 t3 := ⟨h2.1.trans h1.1, fun j h => h2.2 j (h1.2 j h)⟩
theorem xat {n : Int} (hl : inR t.d k) (h : (t.at k).parked = true → o.parked = true) : VY t (Tb.mk (t.d.set k.toNat o) n) := ⟨List.length_set, fun j hj => by
 rw [xa6 hl]
 by_cases e : j = k
 ·rw [if_pos e]; rw [e] at hj; exact h hj
 ·rw [if_neg e]; exact hj⟩
theorem xax (hl : inR t.d k) (h : (t.at k).parked = true → o.parked = true) : VY t (t.put k o st) := xat (t := t) (n := t.putT st) hl fun hp => by
 rw [xcG.2]; exact h hp
theorem xo8 : VY t (t.set k st) := by
 unfold Tb.set
 split
 ·rename_i h; exact xax (xlK h).1 fun h => h
 ·exact Js
theorem xf3 : VY t (t.park k) := by
 unfold Tb.park
 split
 ·rename_i h
  exact xat (t := t) (n := t.turns) (Vw.1 h) fun _ => rfl
 ·exact Js
theorem xjF {win : Int} : VY t (t.start k win) := by
 unfold Tb.start
 split
 ·rename_i h
  unfold Tb.startB at h
  simp only [Bool.and_eq_true] at h
  exact xax (Vw.1 h.1) fun h => h
 ·exact Js
theorem xnJ {p : Int} : VY t (t.rank k p) := by
 unfold Tb.rank
 split
 ·rename_i h
  unfold Tb.rankB at h
  simp only [Bool.and_eq_true] at h
  exact xat (t := t) (n := t.turns) (Vw.1 h.1) fun h => h
 ·exact Js
theorem xaw {c wh wk : Int} : VY t (t.wait k c wh wk) := by
 unfold Tb.wait
 split
 ·rename_i h; exact xax (Vw.1 h) fun h => h
 ·exact Js
theorem xsF (hl : inR t.d k) : ((t.park k).at k).parked = true := by
 rw [xl6, if_pos ⟨rfl, Vw.2 hl⟩]
end
inductive Rch (C : CC) : Nat → CM → CM → Prop
 | refl (c : CM) : Rch C 0 c c
 | trans {n m : Nat} {c1 c2 c3 : CM} : Rch C n c1 c2 → Rch C m c2 c3 → Rch C (n + m) c1 c3
 | note (c : CM) (k call code value : Int) : Rch C 1 c (Xa C c k call code value)
 | tb (c : CM) (t' : Tb) : VY c.tb t' → Rch C 0 c { c with tb := t' }
 | to (c : CM) (k i : Int) : inR C.progs k → 0 ≤ i → i ≤ (ix C.progs k).length → Rch C 0 c (toM C c k i)
 | rest (c : CM) (k : Int) : inR C.progs k → Rch C 0 c (YX c k)
 | mem (c : CM) (ms : List XH) : Rch C 0 c { c with mem := ms }
 | pts (c : CM) (ps : List AP) : ps.map AP.c = c.pts.map AP.c → Rch C 0 c { c with pts := ps }
 | obs (c : CM) (o : ObM) : Rch C 0 c { c with obs := o }
 | mode (c : CM) : Rch C 0 c { c with mode := 0 }
 | le {n m : Nat} {c1 c2 : CM} : Rch C n c1 c2 → n ≤ m → Rch C m c1 c2
 | wait (c : CM) (k a : Int) (d : List UInt8) : inR C.progs k → okZ a → d.length ≤ 300 → Rch C 0 c { c with addr := c.addr.set k.toNat a, data := c.data.set k.toNat d }
def dP (c : CM) : Prop := ∀ k : Int, 0 ≤ k → ix c.done k = true → (c.tb.at k).parked = true
section
variable {C : CC} {n m : Nat} {c c' c1 c2 c3 : CM} {k call code value win : Int}
theorem Rch.ev (h : Rch C n c c') : c'.evs.length ≤ c.evs.length + n := by
 induction h with
 | refl => exact Nat.le_refl _
 | trans _ _ h1 h2 => omega
 | note => simp [Xa]
 | le _ h1 h2 => omega
 | _ => exact Nat.le_refl _
theorem Rch.few {k : Nat} (h : Rch C n c c') (hf : few c (n + k)) : Go.Proofs.YtacmaamllpiloaaGreat.few c' k := by
 have := h.ev
 unfold Go.Proofs.YtacmaamllpiloaaGreat.few at *
 omega
theorem Rch.sk (h : Rch C n c c') : c'.slk.isSome = c.slk.isSome := by
 induction h with
 | trans _ _ h1 h2 => exact h2.trans h1
 | le _ _ h1 => exact h1
 | rest c k => show (c.slk.map _).isSome = _; rw [Option.isSome_map]
 | _ => rfl
theorem Rch.ok (hc : okC C) (h : Rch C n c c') (ho : okM C c) : okM C c' := by
 induction h with
 | refl => exact ho
 | trans _ _ h1 h2 => exact h2 (h1 ho)
 | le _ _ h1 => exact h1 ho
 | tb c t' ht => exact xdN ho ht.1
 | to c k i hk h0 h1 => exact xj4 hc ho hk h0 h1
 | rest c k hk => exact ⟨xdT.trans ho.tb, ho.pos, ho.rest, ho.addr, ho.data, by simpa [YX] using ho.done, ho.pi, ho.ad, ho.dl⟩
 | wait c k a d hk ha hd => exact ⟨ho.tb, ho.pos, ho.rest, by simpa using ho.addr, by simpa using ho.data, ho.done, ho.pi, fun x hx => by
   rcases List.mem_or_eq_of_mem_set hx with h' | rfl
   ·exact ho.ad x h'
   ·exact ha, fun x hx => by
   rcases List.mem_or_eq_of_mem_set hx with h' | rfl
   ·exact ho.dl x h'
   ·exact hd⟩
 | _ => exact ⟨ho.tb, ho.pos, ho.rest, ho.addr, ho.data, ho.done, ho.pi, ho.ad, ho.dl⟩
theorem Rch.dP (hc : okC C) (h : Rch C n c c') (ho : okM C c) (hd : dP c) : Go.Proofs.YtacmaamllpiloaaGreat.dP c' := by
 induction h with
 | refl => exact hd
 | trans a _ h1 h2 => exact h2 (a.ok hc ho) (h1 ho hd)
 | le _ _ h1 => exact h1 ho hd
 | tb c t' ht => exact fun k h0 hk => ht.2 k (hd k h0 hk)
 | rest c k hk =>
  intro j h0 hj
  show ((c.tb.park k).at j).parked = true
  by_cases e : j = k
  ·subst e
   refine xsF ?_
   unfold inR at *
   rw [ho.tb]; exact hk
  ·refine xf3.2 j (hd j h0 ?_)
   have hj' : ix (c.done.set k.toNat true) j = true := hj
   rw [YY (by unfold inR at *; rw [ho.done]; exact hk) h0, if_neg e] at hj'
   exact hj'
 | _ => exact hd
theorem Rch.one (h1 : Rch C n c1 c2) (h : Rch C 0 c2 c3) : Rch C n c1 c3 := .trans h1 h
