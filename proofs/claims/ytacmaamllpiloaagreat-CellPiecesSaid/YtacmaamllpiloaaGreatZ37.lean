import Derived.Test.YtacmaamllpiloaaGreatZ36
namespace Go.Proofs.YtacmaamllpiloaaGreat
open Go Go.Wk Tryz
set_option maxHeartbeats 3200000
set_option maxRecDepth 100000
section
section
variable {C : CC} {c : CM} {w : RW} {k : Int}
theorem xkN (h : okM C c) : okM C (QU C c) := ⟨(Jr _ _).trans h.tb, h.pos, h.rest, h.addr, h.data, by simp [QU], h.pi, h.ad, h.dl⟩
theorem xpK {s : Option Nat} {d : SV} (hs : s.isSome = true) (h : Xl C c w) : Xl C (QU C c) { w with slk := s, dn := d } := ⟨xkN h.ok, h.hp, h.hd, hs⟩
theorem xmn (hc : okC C) : okS C (QU C c) := fun m hm => by
 have hm' : some (Z9 C.conf) = some m := hm
 cases hm'
 show (C.conf.procs.d.map Jj).length = _
 rw [List.length_map, hc.np]
end
theorem Tr.refO {a : Nat} {t : Tb} {l F : List Xc} {X : WP} (ht : Xm l (Yg a t) F) (h : ∀ s : SV, Tr (Zi a s t.turns :: Zj s t.d :: F) X) : Tr l X :=
 Tr.imp ht (Tr.ex_iff.2 fun s => Tr.sep_iff.2 (h s))
theorem Tr.refF {a : Nat} {t : Tb} {s : SV} {l l1 l2 : List Xc} {X : WP} (h1 : Xm l (Zi a s t.turns) l1) (h2 : Xm l1 (Zj s t.d) l2) (h : Tr (Yg a t :: l2) X) : Tr l X :=
 Tr.imp (Imp.trans h1 (Imp.trans (Imp.cons h2) (Imp.trans Imp.sepI (Imp.exI (f := fun s : SV => sep (Zi a s t.turns) (Zj s t.d)) s)))) h
end
section
attribute [local irreducible] BrK Xq Xt Xv XI FnK XZ Xw XC XV opX opK Yq Yk eqR Yj Yo Ys WL WD W X3 XO Tr drewK Ya X4 Yw Yv X1 YB mp blk rob sl sep ex fact old
section
attribute [local irreducible] Yr XT robjX rslkX Yg
attribute [local irreducible] Yy YJ XA Vn Zb XM xbb
section
variable {r : Nat} {C : CC} {c : CM} {w : RW} {p : Int}
theorem xnt (hc : okC C) (hr : Xl C c w) (hf : few c 500) : Xb prog 26 #[ptr r] (Xf r C c w)
  fun v l' => ∃ w2, Xl C (ZL C c) w2 ∧ v = .tuple #[] ∧ l' = Xf r C (ZL C c) w2 := by
 intro F K hK
 simp only [ap] at hK ⊢
 have h8 := hc.n8
 have htl := Yf hc hr
 have hpx := JK hr
 have h3 : C.conf.procs.d.length ≤ 100000 := by rw [hc.np]; omega
 have htf : c.tb.free.d.length ≤ 1000000 := by rw [show c.tb.free.d.length = c.tb.d.length from Jr _ _]; exact htl
 have hrp : List.replicate ((C.progs.length : Int).toNat) (default : Bool) = List.replicate C.progs.length false := by rw [Int.toNat_natCast]; rfl
 obtain ⟨cw, hcw⟩ : ∃ cw, cw = QU C c := ⟨_, rfl⟩
 have hbm : ZL C c = if cw.mode = 3 then XM C 100 (Zb C (XA C (Vn C cw) 8)) else cw := by
  rw [hcw, ← xcA]; rfl
 rw [hbm] at hK
 have hmd : c.mode = cw.mode := by rw [hcw]; rfl
 refine S.I fun u => ?_
 have hX := And.intro @xbU.eq_def hpx; repeat' (first | rintro _ _ ⟨rfl, rfl⟩ | rintro _ _ ⟨sb, rfl, rfl⟩ | rintro _ _ ⟨_, _, rfl, rfl⟩ | (refine G.call 22 ?_; refine S.c ?_ (h := xoa (c := C.conf) (hd := ⟨rfl⟩) hc.cap hc.cost h3)) | intro (sv : SV) | refine S.x ?_ | refine S.y ?_ ?_ | (refine G.call 69 ?_; refine S.c ?_ (h := xqf ?_)) | (refine G.call 70 ?_; refine S.c ?_ (h := xs1 ?_)) | (refine G.prop ?_; assumption) | intro hb | fail)
 ·have hr0 : Xl C cw { w with slk := some sb, dn := sv } := by rw [hcw]; exact xpK rfl hr
  rw [if_neg (by rw [← hmd]; exact hb)] at hK
  refine Tr.fin hK ⟨_, hr0, rfl, rfl⟩ ?_
  subst hcw
  clear hmd hbm
  simp only [ap]
  have hX := I4 hrp @QU.eq_def @rslkO.eq_def @slP.eq_def
  exact S.E
 ·rename_i s1 s2
  have hr0 : Xl C cw { w with slk := some sb, dn := sv } := by rw [hcw]; exact xpK rfl hr
  have hS0 : okS C cw := by rw [hcw]; exact xmn hc
  have hs0 : cw.slk.isSome = true := by rw [hcw]; rfl
  have hf0 : few cw 500 := by rw [hcw]; exact hf
  rw [if_pos (by rw [← hmd]; exact hb)] at hK
  obtain ⟨q, hq⟩ : ∃ q, q = cw.tb.relTo cw.win cw.tb.d.length := ⟨_, rfl⟩
  obtain ⟨w0, hw0⟩ : ∃ w0 : RW, w0 = { w with slk := some sb, dn := sv } := ⟨_, rfl⟩
  obtain ⟨c0, hc0⟩ : ∃ c0 : CM, c0 = { cw with tb := q.t } := ⟨_, rfl⟩
  refine Tr.imp (l' := sl false s1.v q.rel :: sl false s2.v q.mis :: Xf r C c0 w0 ++ F) ?_ ?_
  ·subst hc0 hq hcw hw0
   clear hmd hbm hb
   simp only [ap]
   have hX := I4 hrp @QU.eq_def @rslkO.eq_def @slP.eq_def
   show Xd [] _ _
   exact S.E
  rw [← hw0] at hr0
  have hlen := VM cw.tb cw.win cw.tb.d.length
  have hkp := Wq (t := cw.tb) (win := cw.win) cw.tb.d.length (Nat.le_refl _)
  have hmi := fun i hi => xj5 (i := i) hr0.ok hi
  have hrm : Vn C cw = YN C (W4 C c0 q.rel q.rel.length) q.mis q.mis.length := by rw [hc0, hq, Vn.eq_1]
  rw [← hq] at hlen hkp hmi
  obtain ⟨l1, l2, l3⟩ := hlen
  have htbw := hr0.ok.tb
  have l2 : q.rel.length ≤ 8 := by omega
  have l3 : q.mis.length ≤ 8 := by omega
  have hr1 : Xl C c0 w0 := by rw [hc0]; exact xaU hr0 hkp.2.1
  have hf1 : few c0 500 := by rw [hc0]; exact hf0
  have hR1 := xeM hc hr0.ok
  obtain ⟨c1, hc1⟩ : ∃ c1, c1 = Vn C cw := ⟨_, rfl⟩
  have hR2 : ∀ i, Rch C (16 + 40 * i) cw (XA C c1 i) := fun i => by rw [hc1]; exact .trans hR1 (xau i)
  have hR3 := Rch.trans (hR2 8) (xcu hc ((hR2 8).ok hc hr0.ok))
  have hS3 := hR3.oS hS0
  have hs3 : (Zb C (XA C c1 8)).slk.isSome = true := by rw [hR3.sk]; exact hs0
  have hf3 : few (Zb C (XA C c1 8)) 100 := hR3.few (by unfold few at *; omega)
  have hfw : few (XA C c1 8) 8 := (hR2 8).few (by unfold few at *; omega)
  have hfp : ∀ j, j < 8 → few (XA C c1 j) 40 := fun j hj => (hR2 j).few (by unfold few at *; omega)
  have hdi := fun i hi => xpD (i := i) ((hR2 8).ok hc hr0.ok) hi
  rw [← hc1] at hK hrm
  clear hc0 hq hcw hw0 hr0 hbm hmd hb hr hf hf0 hS0 hs0 hR1 hR2 hR3 hc1 hkp htbw htf hrp l1
  clear htl hpx
  simp only [ap]
  refine Tr.loopE (α := Nat × RW) [4] [0, 2, 3] (fun x => [.int .i64 x.1]) (fun x => Xf r C (W4 C c0 q.rel x.1) x.2) (fun x => x.1 ≤ q.rel.length ∧ Xl C (W4 C c0 q.rel x.1) x.2) (fun x => q.rel.length - x.1) (0, w0) S.T rfl ⟨Nat.zero_le _, hr1⟩ fun x u hx => ?_
  obtain ⟨i, w1⟩ := x
  obtain ⟨hi, hri⟩ := hx
  simp only at hi hri ⊢
  simp only [ap]
  by_cases hin : i < q.rel.length
  ·have hw := Xo (k := i) S.o
   have hfi : few (W4 C c0 q.rel i) 1 := (xaz (l := q.rel) i).few (by unfold few at *; omega)
   unfold few at hfi
   have hX := And.intro @xbU.eq_def hw; repeat' (first | rintro _ _ ⟨sv, rfl, rfl⟩ | (refine G.call 71 ?_; refine S.c ?_ (h := Xn hfi)) | refine S.x ?_ | intro hb | fail)
   all_goals
    have hrs : Xl C (W4 C c0 q.rel (i + 1)) { w1 with ev := sv } := Xy hri
    clear hri
    have hX := And.intro @W4.eq_2 @Xa.eq_def
    exact S.R ((i + 1, { w1 with ev := sv }) : Nat × RW)
  ·have hie : i = q.rel.length := by omega
   subst hie
   have hX := @xbU.eq_def; repeat' (first | refine S.x ?_ | fail)
   obtain ⟨cn, hcn⟩ : ∃ cn, cn = W4 C c0 q.rel q.rel.length := ⟨_, rfl⟩
   have hfn : few cn 8 := by rw [hcn]; exact (xaz (l := q.rel) q.rel.length).few (by unfold few at *; omega)
   rw [← hcn] at hrm hri ⊢
   clear hcn
   refine Tr.loopE (α := Nat × RW) [5] [0, 3] (fun x => [.int .i64 x.1]) (fun x => Xf r C (YN C cn q.mis x.1) x.2) (fun x => x.1 ≤ q.mis.length ∧ Xl C (YN C cn q.mis x.1) x.2) (fun x => q.mis.length - x.1) (0, w1) S.T rfl ⟨Nat.zero_le _, hri⟩ fun y u2 hy => ?_
   obtain ⟨j, w2⟩ := y
   obtain ⟨hj, hrj⟩ := hy
   simp only at hj hrj ⊢
   simp only [ap]
   by_cases hjn : j < q.mis.length
   ·have hw := Xo (k := j) S.o
    have hst : YN C cn q.mis (j + 1) = if (YN C cn q.mis j).mode = 3 then Yx C (YN C cn q.mis j) (ix q.mis (j : Int)) 4 else YN C cn q.mis j := rfl
    have hk := hmi j hjn
    have hfj : few (YN C cn q.mis j) 1 := xdW hmi j S.o (by unfold few at *; omega)
    by_cases hm : (YN C cn q.mis j).mode = 3
    ·rw [if_pos hm] at hst
     have hX := And.intro @xbU.eq_def hw; repeat' (first | rintro _ _ ⟨w3, hr3, rfl, rfl⟩ | (refine G.call 72 ?_; refine S.c ?_ (h := Qc hc hrj hk hfj (by decide) (by decide))) | refine S.x ?_ | intro hb | fail)
     all_goals
      rw [← hst] at hr3
      have hX := hst
      clear hrj hrm
      exact S.R ((j + 1, w3) : Nat × RW)
    ·rw [if_neg hm] at hst
     rw [← hst] at hrj
     have hX := And.intro @xbU.eq_def hw; repeat' (first | refine S.x ?_ | fail)
     all_goals
      have hX := hst
      clear hst hrm
      exact S.R ((j + 1, w2) : Nat × RW)
   ·have hje : j = q.mis.length := by omega
    subst hje
    rw [← hrm] at hrj ⊢
    have hX := @xbU.eq_def; repeat' (first | refine S.x ?_ | fail)
    have hp0 : XA C c1 0 = c1 := XA.eq_1 _ _
    clear hrm
    rw [← hp0] at hrj ⊢
    clear hp0
    refine Tr.loopE (α := Nat × RW) [6] [0] (fun x => [.int .i64 x.1]) (fun x => Xf r C (XA C c1 x.1) x.2) (fun x => x.1 ≤ 8 ∧ Xl C (XA C c1 x.1) x.2) (fun x => 8 - x.1) (0, w2) S.T rfl ⟨Nat.zero_le _, hrj⟩ fun z u3 hz => ?_
    obtain ⟨m, w4⟩ := z
    obtain ⟨hm8, hrm⟩ := hz
    simp only at hm8 hrm ⊢
    simp only [ap]
    by_cases hmn : m < 8
    ·have hw := Xo (k := m) S.o
     have hA := xhk (r := r) (p := (m : Int)) hc hrm (hfp m hmn)
     rw [← XA.eq_2] at hA
     clear hrj hrm
     generalize hnj : XA C c1 (m + 1) = nj at *
     generalize hcj : XA C c1 m = cj at *
     have hX := And.intro @xbU.eq_def hw; repeat' (first | rintro _ _ ⟨w3, hr3, rfl, rfl⟩ | (refine G.call 73 ?_; refine S.c ?_ (h := hA)) | refine S.x ?_ | fail)
     all_goals
      subst hnj
      clear hcj hA
      exact S.R ((m + 1, w3) : Nat × RW)
    ·have hme : m = 8 := by omega
     subst hme
     have hwk : Zb C (XA C c1 8) = JA C (XA C c1 8) ((XA C c1 8).tb.dueTo (XA C c1 8).win (XA C c1 8).tb.d.length) ((XA C c1 8).tb.dueTo (XA C c1 8).win (XA C c1 8).tb.d.length).length := Zb.eq_1 _ _
     have hlen := WX (XA C c1 8).tb (XA C c1 8).win (XA C c1 8).tb.d.length
     have htl := Yf hc hrm
     have htb8 := hrm.ok.tb
     have hB := fun w (h : Xl C (Zb C (XA C c1 8)) w) => xal (r := r) hc h hf3 hS3 hs3
     clear hfp hrj hf3 hS3 hs3 hr1 hri
     generalize XM C 100 (Zb C (XA C c1 8)) = cx at *
     rw [hwk] at hB
     clear hwk
     generalize XA C c1 8 = c8 at *
     obtain ⟨l, hl⟩ : ∃ l, l = c8.tb.dueTo c8.win c8.tb.d.length := ⟨_, rfl⟩
     rw [← hl] at hdi hlen hB
     have hl8 : l.length ≤ 8 := by omega
     have hX := @xbU.eq_def; repeat' (first | refine S.x ?_ | (refine G.call 74 ?_; refine S.c ?_ (h := xrK ?_)) | rintro _ _ ⟨_, rfl, rfl⟩ | (refine G.prop ?_; assumption) | fail)
     rename_i sd
     rw [← hl]
     clear hl hlen htl
     refine Tr.loopE (α := Nat × RW) [8] [0, 7] (fun x => [.int .i64 x.1]) (fun x => Xf r C (JA C c8 l x.1) x.2) (fun x => x.1 ≤ l.length ∧ Xl C (JA C c8 l x.1) x.2) (fun x => l.length - x.1) (0, w4) S.T rfl ⟨Nat.zero_le _, hrm⟩ fun z u4 hz => ?_
     obtain ⟨d, w5⟩ := z
     obtain ⟨hd, hrd⟩ := hz
     simp only at hd hrd ⊢
     simp only [ap]
     by_cases hdn : d < l.length
     ·have hw := Xo (k := d) S.o
      have hst : JA C c8 l (d + 1) = Zc C (JA C c8 l d) (ix l (d : Int)) ((JA C c8 l d).tb.at (ix l (d : Int))).call (if ((JA C c8 l d).tb.at (ix l (d : Int))).call = 2 then 0 else 5) 0 := rfl
      have hk := hdi d hdn
      obtain ⟨g0, g1⟩ := xeK hrd hk
      have hfj : few (JA C c8 l d) 1 := (xdw (l := l) d).few (by unfold few at *; omega)
      have hat := V8 (t := (JA C c8 l d).tb) g0
      refine Tr.refO (a := w5.tb) (t := (JA C c8 l d).tb) S.K fun sr => ?_
      have hld : ((JA C c8 l d).tb.d.map Y9.mk).length = (JA C c8 l d).tb.d.length := List.length_map _
      have hcl : (ix ((JA C c8 l d).tb.d.map Y9.mk) (ix l (d : Int))).o.call = ((JA C c8 l d).tb.at (ix l (d : Int))).call := by rw [Jt, hat]
      by_cases hm : ((JA C c8 l d).tb.at (ix l (d : Int))).call = 2
      ·rw [if_pos hm] at hst
       clear hat
       have hX := I3 @xbU.eq_def hw hcl; repeat' (first | refine S.x ?_ | intro hb | fail)
       refine Tr.refF (a := w5.tb) (t := (JA C c8 l d).tb) (s := sr) S.K S.K ?_
       clear hcl hld
       have hX := And.intro @xbU.eq_def hw; repeat' (first | rintro _ _ ⟨w6, hr6, rfl, rfl⟩ | (refine G.call 75 ?_; refine S.c ?_ (h := QN hc hrd hfj)) | refine S.x ?_ | fail)
       all_goals
        rw [← hst] at hr6
        have hX := hst
        clear hrd
        exact S.R ((d + 1, w6) : Nat × RW)
      ·rw [if_neg hm] at hst
       clear hat
       have hX := I3 @xbU.eq_def hw hcl; repeat' (first | refine S.x ?_ | intro hb | fail)
       refine Tr.refF (a := w5.tb) (t := (JA C c8 l d).tb) (s := sr) S.K S.K ?_
       clear hcl hld
       have hX := And.intro @xbU.eq_def hw; repeat' (first | rintro _ _ ⟨w6, hr6, rfl, rfl⟩ | (refine G.call 75 ?_; refine S.c ?_ (h := QN hc hrd hfj)) | refine S.x ?_ | fail)
       all_goals
        rw [← hst] at hr6
        have hX := hst
        clear hrd
        exact S.R ((d + 1, w6) : Nat × RW)
     ·have hde : d = l.length := by omega
      subst hde
      have hX := @xbU.eq_def; repeat' (first | rintro _ _ ⟨w3, hr3, rfl, rfl⟩ | (refine G.call 76 ?_; refine S.c ?_ (h := hB _ hrd)) | refine S.x ?_ | fail)
      all_goals exact Tr.fin hK ⟨w3, hr3, rfl, rfl⟩ S.E
end
end
section
section
variable {C : CC} {c : CM} {w : RW} {k wk : Int} {s : XE} {s3 s4 s5 : SV} {bs : List UInt8}
theorem xsj (hc : okC C) (h : Xl C c w) (hk : inR C.progs k) (hs : s.ok) (hb : bs.length ≤ 300) :
  Xl C { c with addr := c.addr.set k.toNat s.b, data := c.data.set k.toNat bs, tb := c.tb.wait k s.call s.a wk } { w with ad := s4, da := s5, dx := w.dx.set k.toNat ⟨s3, bs⟩ } := by
 have hR : Rch C 0 c { c with addr := c.addr.set k.toNat s.b, data := c.data.set k.toNat bs } := .wait c k s.b bs hk hs.2.1 hb
 have hR2 : Rch C 0 c { c with addr := c.addr.set k.toNat s.b, data := c.data.set k.toNat bs, tb := c.tb.wait k s.call s.a wk } := hR.one (.tb _ (c.tb.wait k s.call s.a wk) xaw)
 refine ⟨hR2.ok hc h.ok, h.hp, ?_, h.hs⟩
 show (w.dx.set k.toNat ⟨s3, bs⟩).map SL.d = c.data.set k.toNat bs
 rw [List.map_set, h.hd]
end
attribute [local irreducible] Yr XT robjX rslkO Yg
section
variable {r : Nat} {C : CC} {c : CM} {w : RW} {k p size : Int} {s : XE} {s3 : SV} {bs : List UInt8}
theorem J6 (hc : okC C) (hr : Xl C c w) (hk : inR C.progs k) (hf : few c 1) (hs : s.ok) (hb : bs.length ≤ 300) :
  Xb prog 208 #[ptr r, .int .i64 k, .agg (En.enc s).toArray, s3.v] (sl true s3.v bs :: Xf r C c w)
  fun v l' => ∃ w2, Xl C (YP C c k s bs) w2 ∧ v = .tuple #[] ∧ l' = Xf r C (YP C c k s bs) w2 := by
 intro F K hK
 simp only [ap] at hK ⊢
 unfold few at hf
 have h8 := hc.n8
 have htl := Yf hc hr
 have hka : inR c.addr k := by unfold inR at *; rw [hr.ok.addr]; exact hk
 have hla : c.addr.length ≤ 1000000 := by rw [hr.ok.addr]; omega
 have hdl : w.dx.length = C.progs.length := by have := hr.hd; rw [← hr.ok.data, ← this, List.length_map]
 by_cases hd : s.d = 0
 ·have hwm : YP C c k s bs = Xa C c k s.call 1 0 := by unfold YP; rw [if_pos hd]
  rw [hwm] at hK
  refine S.I fun u => ?_
  have hX := @xiV.eq_def; repeat' (first | refine S.x ?_ | (refine G.call 71 ?_; refine S.c ?_ (h := Xn ?_)) | rintro _ _ ⟨_, rfl, rfl⟩ | (refine G.prop ?_; assumption) | intro hb | fail)
  all_goals
   rename_i sv
   refine Tr.fin hK ⟨{ w with ev := sv }, Xy hr, rfl, rfl⟩ ?_
   simp only [ap]
   have hX := @Xa.eq_def
   exact S.E
 ·obtain ⟨wk, hwk⟩ : ∃ wk, wk = (if 1000 < s.d then IntKind.i64.wrap (c.win + 1000) else if 0 < s.d then IntKind.i64.wrap (c.win + s.d) else -1) := ⟨_, rfl⟩
  have hwm : YP C c k s bs = { c with addr := c.addr.set k.toNat s.b, data := c.data.set k.toNat bs, tb := c.tb.wait k s.call s.a wk } := by unfold YP; rw [if_neg hd, hwk]
  rw [hwm] at hK
  have hrel := fun s4 s5 => xsj (s3 := s3) (s4 := s4) (s5 := s5) (wk := wk) hc hr hk hs hb
  have hi2 := xbH (s := w.ad) (n := s.b) (xs := c.addr) hka hla
  obtain ⟨g0, g1⟩ := id hk
  refine S.I fun u => ?_
  by_cases h2 : 1000 < s.d
  ·rw [if_pos h2] at hwk
   have hwk' := hwk.symm
   clear hwk
   have hX := And.intro @xiV.eq_def @hwk'; repeat' (first | rintro _ _ ⟨rfl, rfl⟩ | rintro _ _ ⟨_, rfl, rfl⟩ | (refine G.call 84 ?_; refine S.c ?_ (h := hi2)) | intro (sv : SV) | refine S.x ?_ | (refine G.call 202 ?_; refine S.c ?_ (h := xb7 ?_)) | (refine G.prop ?_; assumption) | intro hb | fail)
   all_goals
    rename_i s1 s2
    refine Tr.fin hK ⟨{ w with ad := s1, da := sv, dx := w.dx.set k.toNat ⟨s3, bs⟩ }, hrel _ _, rfl, rfl⟩ ?_
    simp only [ap]
    exact S.E
  ·rw [if_neg h2] at hwk
   by_cases h3 : 0 < s.d
   ·rw [if_pos h3] at hwk
    have hwk' := hwk.symm
    clear hwk
    have hX := And.intro @xiV.eq_def @hwk'; repeat' (first | rintro _ _ ⟨rfl, rfl⟩ | rintro _ _ ⟨_, rfl, rfl⟩ | (refine G.call 84 ?_; refine S.c ?_ (h := hi2)) | intro (sv : SV) | refine S.x ?_ | (refine G.call 202 ?_; refine S.c ?_ (h := xb7 ?_)) | (refine G.prop ?_; assumption) | intro hb | fail)
    all_goals
     rename_i s1 s2
     refine Tr.fin hK ⟨{ w with ad := s1, da := sv, dx := w.dx.set k.toNat ⟨s3, bs⟩ }, hrel _ _, rfl, rfl⟩ ?_
     simp only [ap]
     exact S.E
   ·rw [if_neg h3] at hwk
    subst hwk
    have hX := @xiV.eq_def; repeat' (first | rintro _ _ ⟨rfl, rfl⟩ | rintro _ _ ⟨_, rfl, rfl⟩ | (refine G.call 84 ?_; refine S.c ?_ (h := hi2)) | intro (sv : SV) | refine S.x ?_ | (refine G.call 202 ?_; refine S.c ?_ (h := xb7 ?_)) | (refine G.prop ?_; assumption) | intro hb | fail)
    all_goals
     rename_i s1 s2
     refine Tr.fin hK ⟨{ w with ad := s1, da := sv, dx := w.dx.set k.toNat ⟨s3, bs⟩ }, hrel _ _, rfl, rfl⟩ ?_
     simp only [ap]
     exact S.E
theorem xdb (hc : okC C) (hr : Xl C c w) (hk : inR C.progs k) (hf : few c 2) :
  Xb prog 221 #[ptr r, .int .i64 k, .agg (En.enc s).toArray] (Xf r C c w)
  fun v l' => ∃ w2, Xl C (JV C c k s) w2 ∧ v = .tuple #[] ∧ l' = Xf r C (JV C c k s) w2 := by
 intro F K hK
 simp only [ap] at hK ⊢
 have hf1 : few c 1 := by unfold few at *; omega
 unfold few at hf1
 obtain ⟨c1, hc1⟩ : ∃ c1, c1 = Xa C c k s.call 8 0 := ⟨_, rfl⟩
 have hf2 : few c1 1 := by unfold few at *; rw [hc1]; simp only [Xa, List.length_append, List.length_cons, List.length_nil]; omega
 have hr1 : ∀ s, Xl C c1 { w with ev := s } := fun s => by rw [hc1]; exact Xy hr
 have hbm : JV C c k s = Yx C c1 k 2 := by rw [hc1]; rfl
 rw [hbm] at hK
 refine S.I fun u => ?_
 repeat' (first | refine S.x ?_ | (refine G.call 71 ?_; refine S.c ?_ (h := Xn ?_)) | rintro _ _ ⟨_, rfl, rfl⟩ | (refine G.prop ?_; assumption) | intro hb | fail)
 rename_i sv
 refine Tr.imp (l' := Xf r C c1 { w with ev := sv } ++ F) ?_ ?_
 ·subst hc1
  simp only [ap]
  have hX := @Xa.eq_def
  show Xd [] _ _
  exact S.E
 have hcf := Qc (r := r) (kind := 2) hc (hr1 sv) hk hf2 (by decide) (by decide)
 clear hc1 hr1 hbm
 simp only [ap]
 repeat' (first | rintro _ _ ⟨w3, hr3, rfl, rfl⟩ | (refine G.call 72 ?_; refine S.c ?_ (h := hcf)) | refine S.x ?_ | fail)
 all_goals exact Tr.fin hK ⟨w3, hr3, rfl, rfl⟩ S.E
end
end
section
theorem xw6 {ms : List XH} {a n : Int} {wr : Bool} (h : (fI ms a n wr).isSome = true) : 0 ≤ frK ms a n wr := by
 obtain ⟨k, hk⟩ := Option.isSome_iff_exists.1 h
 unfold frK
 rw [hk]
 exact Int.natCast_nonneg k
theorem xxa {ms : List XH} {a n : Int} {wr : Bool} (h : (fI ms a n wr).isSome = false) : frK ms a n wr = -1 := by
 cases hk : fI ms a n wr with
 | none => unfold frK; rw [hk]
 | some k => rw [hk] at h; cases h
attribute [local irreducible] Yr XT robjX rslkO Yg
section
variable {r : Nat} {C : CC} {c : CM} {w : RW} {k p size code : Int} {s : XE} {s3 : SV} {bs : List UInt8}
theorem xdj (hs : s.ok) (h : ZR c s size = true) :
  Xb prog 205 #[ptr r, .int .i64 k, .agg (En.enc s).toArray, .int .i64 size] (Xf r C c w)
  fun v l' => v = .bool true ∧ l' = Xf r C c w := by
 intro F K hK
 simp only [ap] at hK ⊢
 have hz := hs.2.1
 unfold ZR at h
 have hk := xw6 h
 refine S.I fun u => ?_
 have hX := @xn5.eq_def; repeat' (first | refine S.x ?_ | (refine G.call 239 ?_; refine S.c ?_ (h := xji ‹_›)) | rintro _ _ ⟨rfl, rfl⟩ | intro hb | fail)
 all_goals exact Tr.fin hK ⟨rfl, rfl⟩ S.E
theorem xde (hc : okC C) (hr : Xl C c w) (hk : inR C.progs k) (hf : few c 2) (hs : s.ok) (h : ZR c s size = false) :
  Xb prog 205 #[ptr r, .int .i64 k, .agg (En.enc s).toArray, .int .i64 size] (Xf r C c w)
  fun v l' => ∃ w2, Xl C (JV C c k s) w2 ∧ v = .bool false ∧ l' = Xf r C (JV C c k s) w2 := by
 intro F K hK
 simp only [ap] at hK ⊢
 have hz := hs.2.1
 unfold ZR at h
 have hkk := xxa h
 have hcb := xdb (r := r) (s := s) hc hr hk hf
 refine S.I fun u => ?_
 have hX := And.intro @xn5.eq_def hkk; repeat' (first | rintro _ _ ⟨rfl, rfl⟩ | rintro _ _ ⟨w3, hr3, rfl, rfl⟩ | (refine G.call 221 ?_; refine S.c ?_ (h := hcb)) | refine S.x ?_ | (refine G.call 239 ?_; refine S.c ?_ (h := xji ‹_›)) | intro hb | fail)
 all_goals exact Tr.fin hK ⟨w3, hr3, rfl, rfl⟩ S.E
theorem xgZ (hs : s.ok) (h : Zx c s size = true) :
  Xb prog 209 #[ptr r, .int .i64 k, .agg (En.enc s).toArray, .int .i64 size] (Xf r C c w)
  fun v l' => ∃ s4 : SV, v = .tuple #[s4.v, .bool true] ∧ l' = sl true s4.v (ldB c.mem s.b s.c) :: Xf r C c w := by
 intro F K hK
 simp only [ap] at hK ⊢
 have hz := hs.2.1
 unfold Zx at h
 simp only [Bool.and_eq_true, decide_eq_true_eq] at h
 obtain ⟨⟨h1, h2⟩, h3⟩ := h
 refine S.I fun u => ?_
 have hX := And.intro @xhT.eq_def h3; repeat' (first | refine S.x ?_ | (refine G.call 240 ?_; refine S.c ?_ (h := xil ‹_›)) | rintro _ _ ⟨_, rfl, rfl⟩ | intro hb | fail)
 all_goals
  rename_i s4
  exact Tr.fin hK ⟨s4, rfl, rfl⟩ S.E
theorem xgv (hc : okC C) (hr : Xl C c w) (hk : inR C.progs k) (hf : few c 2) (hs : s.ok) (h : Zx c s size = false) :
  Xb prog 209 #[ptr r, .int .i64 k, .agg (En.enc s).toArray, .int .i64 size] (Xf r C c w)
  fun v l' => ∃ (s4 : SV) (w2 : RW), Xl C (Jb C c k s size) w2 ∧ v = .tuple #[s4.v, .bool false] ∧ l' = Xf r C (Jb C c k s size) w2 := by
 intro F K hK
 simp only [ap] at hK ⊢
 have hz := hs.2.1
 have hf1 : few c 1 := by unfold few at *; omega
 unfold few at hf1
 by_cases h1 : 1 ≤ s.c ∧ s.c ≤ size
 ·have h3 : ldO c.mem s.b s.c = false := by
   unfold Zx at h
   rw [decide_eq_true h1.1, decide_eq_true h1.2] at h
   exact h
  obtain ⟨h4, h5⟩ := h1
  have hfm : Jb C c k s size = JV C c k s := by unfold Jb; rw [if_pos ⟨h4, h5⟩]
  rw [hfm] at hK
  have hcb := xdb (r := r) (s := s) hc hr hk hf
  refine S.I fun u => ?_
  have hX := And.intro @xhT.eq_def h3; repeat' (first | rintro _ _ ⟨_, rfl, rfl⟩ | rintro _ _ ⟨w3, hr3, rfl, rfl⟩ | (refine G.call 221 ?_; refine S.c ?_ (h := hcb)) | refine S.x ?_ | (refine G.call 240 ?_; refine S.c ?_ (h := xil ‹_›)) | intro hb | fail)
  all_goals exact Tr.fin hK ⟨_, w3, hr3, rfl, rfl⟩ S.E
 ·have hfm : Jb C c k s size = Xa C c k s.call 2 0 := by unfold Jb; rw [if_neg h1]
  rw [hfm] at hK
  have hrn := fun e => Xy (k := k) (call := s.call) (code := 2) (value := 0) (e := e) hr
  refine S.I fun u => ?_
  by_cases h4 : s.c < 1
  ·have hX := @xhT.eq_def; repeat' (first | refine S.x ?_ | (refine G.call 71 ?_; refine S.c ?_ (h := Xn ?_)) | rintro _ _ ⟨_, rfl, rfl⟩ | (refine G.prop ?_; assumption) | intro hb | fail)
   all_goals
    rename_i sv
    refine Tr.fin hK ⟨⟨none, 0, 0⟩, { w with ev := sv }, hrn sv, rfl, rfl⟩ ?_
    have hX := @Xa.eq_def
    simp only [ap]
    exact S.E
  ·have h5 : size < s.c := by omega
   have hX := @xhT.eq_def; repeat' (first | refine S.x ?_ | (refine G.call 71 ?_; refine S.c ?_ (h := Xn ?_)) | rintro _ _ ⟨_, rfl, rfl⟩ | (refine G.prop ?_; assumption) | intro hb | fail)
   all_goals
    rename_i sv
    refine Tr.fin hK ⟨⟨none, 0, 0⟩, { w with ev := sv }, hrn sv, rfl, rfl⟩ ?_
    have hX := @Xa.eq_def
    simp only [ap]
    exact S.E
theorem xdh (hr : Xl C c w) (hf : few c 1) (hs : s.ok) :
  Xb prog 207 #[ptr r, .int .i64 k, .agg (En.enc s).toArray, s3.v] (sl true s3.v bs :: Xf r C c w)
  fun v l' => ∃ w2, Xl C (WY C c k s bs) w2 ∧ v = .tuple #[] ∧ l' = Xf r C (WY C c k s bs) w2 := by
 intro F K hK
 simp only [ap] at hK ⊢
 have hz := hs.2.1
 unfold few at hf
 have hrn := fun e => Xy (k := k) (call := s.call) (code := 0) (value := (bs.length : Int)) (e := e) (xkx (ms := stB c.mem s.b bs) hr)
 refine S.I fun u => ?_
 have hX := @xtM.eq_def; repeat' (first | refine S.x ?_ | (refine G.call 200 ?_; refine S.c ?_ (h := xe8 ‹_›)) | (refine G.call 71 ?_; refine S.c ?_ (h := Xn ?_)) | rintro _ _ ⟨rfl, rfl⟩ | rintro _ _ ⟨_, rfl, rfl⟩ | (refine G.prop ?_; assumption) | intro hb | fail)
 all_goals
  rename_i sv
  refine Tr.fin hK ⟨{ w with ev := sv }, hrn sv, rfl, rfl⟩ ?_
  have hX := And.intro @WY.eq_def @Xa.eq_def
  simp only [ap]
  exact S.E
