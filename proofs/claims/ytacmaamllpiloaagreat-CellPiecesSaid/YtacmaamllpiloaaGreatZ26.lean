import Derived.Test.YtacmaamllpiloaaGreatZ25
namespace Go.Proofs.YtacmaamllpiloaaGreat
open Go Go.Wk Tryz
set_option maxHeartbeats 3200000
set_option maxRecDepth 100000
section
section
variable {C : CC} {c : CM} {w : CW} {gs : List Xe} {k kind win : Int} {t : Tb}
def One.fr (o : One) : One := { o with parked := false }
theorem xfj : ∀ n, n ≤ t.d.length → ∀ j : Int, (t.freeTo n).at j = if 0 ≤ j ∧ j < n then (t.at j).fr else t.at j
 | 0, _, j => by rw [if_neg S.o]; rfl
 | n + 1, h, j => by
  have ih := fun j => xfj n (Nat.le_of_succ_le h) j
  have hl : inR (t.freeTo n).d (n : Int) := by unfold inR; rw [Jr]; omega
  have e := xa6 (t := t.freeTo n) (j := j) (o := ((t.freeTo n).at n).fr) hl (n := (t.freeTo n).turns)
  refine e.trans ?_
  rw [ih n, if_neg (show ¬ (0 ≤ (n : Int) ∧ (n : Int) < n) by omega), ih j]
  by_cases hj : j = n
  ·rw [if_pos hj, if_pos S.o, hj]
  ·rw [if_neg hj]
   by_cases h2 : 0 ≤ j ∧ j < n
   ·rw [if_pos h2, if_pos S.o]
   ·rw [if_neg h2, if_neg S.o]
theorem xjJ : JY t t.free := fun j hj => by
 unfold Tb.free at hj
 rw [xfj _ (Nat.le_refl _)] at hj
 split at hj
 ·exact hj
 ·exact hj
def Xe.nd (g : Xe) : Xe := { g with done := false }
theorem xtb {s : Option Nat} (hs : s.isSome = true) (h : Rel C c w gs) : Rel C (QU C c) { w with slk := s } (gs.map Xe.nd) := by
 have hl := JU h
 refine ⟨⟨(Jr _ _).trans h.ok.tb, h.ok.pos, h.ok.rest, h.ok.addr, h.ok.data, by simp [QU], h.ok.pi, h.ok.ad, h.ok.dl⟩, ?_, ?_, ?_, ?_, ?_, fun k hk hw => ?_, hs⟩
 ·rw [← h.hp, List.map_map]; rfl
 ·show _ = c.pos; rw [← h.hi, List.map_map]; rfl
 ·show _ = c.rest; rw [← h.hr, List.map_map]; rfl
 ·show _ = c.addr; rw [← h.ha, List.map_map]; rfl
 ·rw [List.map_map]
  show _ = List.replicate _ _
  rw [← hl]
  exact List.map_const' ..
 ·have hk2 : inR gs k := by unfold inR at *; simpa using hk
  rw [Xp (f := Xe.nd) hk2.1 hk2.2]
  exact h.hw k hk2 (xjJ k hw)
theorem xq6 : dP (QU C c) := fun k h0 hk => by
 have h1 : ix (List.replicate C.progs.length false) k = true := hk
 have h2 : ix (List.replicate C.progs.length false) k = false := by
  unfold ix
  rw [List.getD_eq_getElem?_getD, List.getElem?_replicate]
  split <;> rfl
 rw [h1] at h2
 cases h2
end
end
section
attribute [local irreducible] BrK Xq Xt Xv XI FnK XZ Xw XC XV opX opK Yq Yk eqR Yj Yo Ys WL WD W X3 XO Tr drewK Ya X4 Yw Yv X1 YB mp blk rob sl sep ex fact old
section
attribute [local irreducible] Y1 X2 objX slkX
attribute [local irreducible] Yy YJ XA Vn Zb XM xbb
section
variable {b : Nat} {C : CC} {c : CM} {w : CW} {gs : List Xe} {k p mode win : Int}
theorem JF : Xb prog 31 #[ptr b] [ZA b C mode win w]
  fun v l' => v = .bool false ∧ l' = [ZA b C mode win w] := by
 intro F K hK
 simp only [ap]
 refine S.I fun u => ?_
 repeat' (first | refine S.x ?_ | fail)
 all_goals exact S.L
theorem xfz (hc : okC C) (hr : Rel C c w gs) (hf : few c 500) : Xb prog 8 #[ptr b] (Xh b C c w gs)
  fun v l' => ∃ w2 gs2, Rel C (ZL C c) w2 gs2 ∧ v = .tuple #[] ∧ l' = Xh b C (ZL C c) w2 gs2 := by
 intro F K hK
 simp only [ap] at hK ⊢
 have h8 := hc.n8
 have htl : c.tb.d.length ≤ 1000000 := by rw [hr.ok.tb]; omega
 have hlg := JU hr
 have hlm : (gs.map Xe.pt).length = C.progs.length := by rw [List.length_map]; exact hlg
 have h3 : C.conf.procs.d.length ≤ 100000 := by rw [hc.np]; omega
 refine S.I fun u => ?_
 have hX := hlm; repeat' (first | rintro _ _ ⟨rfl, rfl⟩ | rintro _ _ ⟨sb, rfl, rfl⟩ | (refine G.call 32 ?_; refine S.c ?_ (h := xqI (c := C.conf) (hd := ⟨rfl⟩) hc.cap hc.cost h3)) | refine S.x ?_ | (refine G.call 31 ?_; refine S.c ?_ (h := JF)) | (refine G.call 33 ?_; refine S.c ?_ (h := xso _ _ ?_)) | (refine G.prop ?_; assumption) | fail)
 obtain ⟨cw, hcw⟩ : ∃ cw, cw = QU C c := ⟨_, rfl⟩
 have hr0 : Rel C cw { w with slk := some sb } (gs.map Xe.nd) := by rw [hcw]; exact xtb rfl hr
 have hd0 : dP cw := by rw [hcw]; exact xq6
 have hs0 : cw.slk.isSome = true := by rw [hcw]; rfl
 have hf0 : few cw 500 := by rw [hcw]; exact hf
 have hbm : ZL C c = if cw.mode = 3 then XM C 100 (Zb C (XA C (Vn C cw) 8)) else cw := by
  rw [hcw, ← xcA]; rfl
 rw [hbm] at hK
 refine Tr.imp (l' := Xh b C cw { w with slk := some sb } gs ++ F) ?_ ?_
 ·subst hcw
  have hX := I3 @QU.eq_def @Zw.eq_def @slP.eq_def
  simp only [Xh, ap]
  show Xd [] _ _
  exact S.E
 clear hcw hbm hf hr htl
 obtain ⟨w0, hw0⟩ : ∃ w0 : CW, w0 = { w with slk := some sb } := ⟨_, rfl⟩
 have hwt : w0.ts = w.ts := by rw [hw0]
 rw [← hw0] at hr0 ⊢
 clear hw0
 rw [← hwt]
 clear hwt
 simp only [ap]
 refine Tr.loopE (α := Nat) [32] [0, 30, 31] (fun x => [.int .i64 x]) (fun x => [ZA b C cw.mode cw.win w0, sl false w0.ts.v (gs.map Xe.pt), fam Zg (xaJ Xe.nd gs x)]) (fun x => x ≤ gs.length) (fun x => gs.length - x) 0 S.T rfl (Nat.zero_le _) fun k u hk => ?_
 simp only [ap]
 by_cases hin : k < gs.length
 ·have hw := Xo (k := k) S.o
  have hm := Xp (f := Xe.pt) (xs := gs) (k := (k : Int)) S.o S.o
  have hul := xb2 (f := Xe.nd) (xs := gs) (k := k)
  have hui := xgq (f := Xe.nd) (xs := gs) (k := k) hin
  have hus := xeo (f := Xe.nd) (xs := gs) (k := k) hin
  refine Tr.famAt (xs := xaJ Xe.nd gs k) (k : Int) S.K S.o S.o (Y5 ?_)
  rw [hui]
  have hX := I3 hw hm @Xe.pt.eq_def; repeat' (first | refine S.x ?_ | intro hb | fail)
  all_goals
   have hX := I3 hus.symm @Zg.eq_def @Xe.nd.eq_def
   clear hus
   exact S.R (k + 1)
 ·have hke : k = gs.length := by omega
  subst hke
  rw [xeI]
  have hpt : (gs.map Xe.nd).map Xe.pt = gs.map Xe.pt := by rw [List.map_map]; rfl
  rw [← hpt]
  generalize gs.map Xe.nd = g0 at *
  clear hpt hlm hin
  by_cases hm : cw.mode = 3
  ·rw [if_pos hm] at hK
   obtain ⟨c1, hc1⟩ : ∃ c1, c1 = Vn C cw := ⟨_, rfl⟩
   have hR1 := xeM hc hr0.ok
   have hf1 : few cw 16 := by unfold few at *; omega
   have hco := xgg (b := b) hc hr0 hf1
   have hf2 : few c1 484 := by rw [hc1]; exact hR1.few hf0
   have hR2 : ∀ i, Rch C (16 + 40 * i) cw (XA C c1 i) := fun i => by rw [hc1]; exact .trans hR1 (xau i)
   have hR3 := Rch.trans (hR2 8) (xcu hc ((hR2 8).ok hc hr0.ok))
   have hd3 := hR3.dP hc hr0.ok hd0
   have hs3 : (Zb C (XA C c1 8)).slk.isSome = true := by rw [hR3.sk]; exact hs0
   have hf3 : few (Zb C (XA C c1 8)) 8 := hR3.few (by unfold few at *; omega)
   have hfw : few (XA C c1 8) 8 := (hR2 8).few (by unfold few at *; omega)
   rw [← hc1] at hK hco
   repeat' (first | rintro _ _ ⟨w1, g1, hr1, rfl, rfl⟩ | (refine G.call 34 ?_; refine S.c ?_ (h := hco)) | refine S.x ?_ | fail)
   clear hc1 hco hr0 hR1 hR3
   have hp0 : XA C c1 0 = c1 := XA.eq_1 _ _
   rw [← hp0] at hr1 ⊢
   clear hp0
   refine Tr.loopE (α := Nat × CW × List Xe) [47] [0] (fun x => [.int .i64 x.1]) (fun x => Xh b C (XA C c1 x.1) x.2.1 x.2.2) (fun x => x.1 ≤ 8 ∧ Rel C (XA C c1 x.1) x.2.1 x.2.2) (fun x => 8 - x.1) (0, w1, g1) S.T rfl ⟨Nat.zero_le _, hr1⟩ fun y u2 hy => ?_
   obtain ⟨j, w2, g2⟩ := y
   obtain ⟨hj, hrj⟩ := hy
   simp only at hj hrj ⊢
   simp only [ap]
   by_cases hjn : j < 8
   ·have hw := Xo (k := j) S.o
    have hfj : few (XA C c1 j) 8 := (hR2 j).few (by unfold few at *; omega)
    have hfj2 : few (Yy C (j : Int) 20 (XA C c1 j)) 8 := (Rch.trans (hR2 j) (xbF 20 _)).few (by unfold few at *; omega)
    have hst : XA C c1 (j + 1) = YJ C (j : Int) 20 (Yy C (j : Int) 20 (XA C c1 j)) := XA.eq_2 _ _ _
    have hA := xiZ (b := b) (p := (j : Int)) hc hrj hfj
    have hB := fun w g (h : Rel C (Yy C (j : Int) 20 (XA C c1 j)) w g) => xeY (b := b) (p := (j : Int)) hc h hfj2
    rw [← hst] at hB
    clear hst hfj hfj2
    generalize hnj : XA C c1 (j + 1) = nj at *
    generalize hsj : Yy C (j : Int) 20 (XA C c1 j) = sj at *
    generalize hcj : XA C c1 j = cj at *
    have hX := hw; repeat' (first | rintro _ _ ⟨w3, g3, hr3, rfl, rfl⟩ | (refine G.call 35 ?_; refine S.c ?_ (h := hA)) | (refine G.call 36 ?_; refine S.c ?_ (h := hB _ _ hr3)) | refine S.x ?_ | fail)
    all_goals
     subst hnj
     clear hrj hcj hsj hA hB
     exact S.R ((j + 1, w3, g3) : Nat × CW × List Xe)
   ·have hje : j = 8 := by omega
    subst hje
    have hA := xnH (b := b) hc hrj hfw
    have hB := fun w g (h : Rel C (Zb C (XA C c1 8)) w g) => xbl (b := b) hc h hf3 hd3 hs3
    clear hR2
    generalize XM C 100 (Zb C (XA C c1 8)) = cx at *
    generalize Zb C (XA C c1 8) = c9 at *
    generalize XA C c1 8 = c8 at *
    repeat' (first | rintro _ _ ⟨w3, g3, hr3, rfl, rfl⟩ | (refine G.call 37 ?_; refine S.c ?_ (h := hA)) | (refine G.call 38 ?_; refine S.c ?_ (h := hB _ _ hr3)) | refine S.x ?_ | fail)
    all_goals exact Tr.fin hK ⟨w3, g3, hr3, rfl, rfl⟩ S.E
  ·rw [if_neg hm] at hK
   repeat' (first | refine S.x ?_ | fail)
   all_goals exact Tr.fin hK ⟨w0, g0, hr0, rfl, rfl⟩ S.E
end
end
section
theorem xrl {C : CC} {c : CM} {w : CW} {gs : List Xe} (h : Rel C c w gs) (hm : c.slk = none) : w.slk = none := by
 have := h.hs
 rw [hm] at this
 cases hw : w.slk with
 | none => rfl
 | some s => rw [hw] at this; cases this
attribute [local irreducible] Y1 X2 objX slkX
section
variable {b : Nat} {C : CC} {c : CM} {w : CW} {gs : List Xe} {k p : Int}
theorem xdZ (hc : okC C) (hr : Rel C c w gs) : Xb prog 39 #[ptr b] [ZA b C c.mode c.win w, YG w.tb c.tb]
  fun v l' => v = .int .i64 (Yl c) ∧ l' = [ZA b C c.mode c.win w, YG w.tb c.tb] := by
 intro F K hK
 simp only [ap] at hK ⊢
 have h8 := hc.n8
 have htl : c.tb.d.length ≤ 1000000 := by rw [hr.ok.tb]; omega
 rcases Option.eq_none_or_eq_some c.slk with hm | ⟨m, hm⟩
 ·have hsp : slP w.slk = .pointer none := by rw [xrl hr hm]; rfl
  have hwm : Yl c = -1 := by unfold Yl; rw [hm]
  rw [hwm] at hK
  refine S.I fun u => ?_
  have hX := hsp; repeat' (first | refine S.x ?_ | (refine G.call 31 ?_; refine S.c ?_ (h := JF)) | rintro _ _ ⟨rfl, rfl⟩ | fail)
  all_goals exact Tr.fin hK ⟨rfl, rfl⟩ S.E
 ·obtain ⟨sb, hsb⟩ := Qe hr hm
  have hsp : slP w.slk = .pointer (some ⟨sb, 0, none⟩) := by rw [hsb]; rfl
  have hwm : Yl c = if c.mode = 3 then c.tb.best One.ready else -1 := by unfold Yl; rw [hm]; rfl
  rw [hwm] at hK
  refine S.I fun u => ?_
  by_cases hmd : c.mode = 3
  ·rw [if_pos hmd] at hK
   have hX := hsp; repeat' (first | refine S.x ?_ | (refine G.call 31 ?_; refine S.c ?_ (h := JF)) | (refine G.call 99 ?_; refine S.c ?_ (h := xdB _ _ ?_)) | rintro _ _ ⟨rfl, rfl⟩ | (refine G.prop ?_; assumption) | fail)
   all_goals exact Tr.fin hK ⟨rfl, rfl⟩ S.E
  ·rw [if_neg hmd] at hK
   have hX := hsp; repeat' (first | refine S.x ?_ | (refine G.call 31 ?_; refine S.c ?_ (h := JF)) | rintro _ _ ⟨rfl, rfl⟩ | fail)
   all_goals exact Tr.fin hK ⟨rfl, rfl⟩ S.E
theorem xao (hc : okC C) (hr : Rel C c w gs) : Xb prog 9 #[ptr b] (Xh b C c w gs)
  fun v l' => v = .int .i64 (X0 c) ∧ l' = Xh b C c w gs := by
 intro F K hK
 simp only [ap] at hK ⊢
 have h8 := hc.n8
 have hlm : (gs.map Xe.pt).length = gs.length := List.length_map _
 have hnx := xdZ (b := b) hc hr
 by_cases h0 : Yl c < 0
 ·have hwm : X0 c = 0 := by
   unfold X0
   unfold Yl at h0
   split
   ·rename_i m hm
    rw [hm] at h0
    simp only at h0
    split
    ·rename_i h3
     rw [if_pos h3] at h0
     rw [if_pos h0]
    ·rfl
   ·rfl
  rw [hwm] at hK
  refine S.I fun u => ?_
  have hX := @pl9.eq_def; repeat' (first | rintro _ _ ⟨rfl, rfl⟩ | (refine G.call 39 ?_; refine S.c ?_ (h := hnx)) | refine S.x ?_ | fail)
  all_goals exact Tr.fin hK ⟨rfl, rfl⟩ S.E
 ·obtain ⟨m, hm, h3, hp⟩ : ∃ m, c.slk = some m ∧ c.mode = 3 ∧ Yl c = XJ c := by
   unfold Yl at h0 ⊢
   split at h0
   ·rename_i m hm
    split at h0
    ·rename_i h3
     exact ⟨m, hm, h3, by rw [if_pos h3]⟩
    ·omega
   ·omega
  rw [hp] at h0 hnx
  have hk := xaH hr h0
  obtain ⟨g0, g9⟩ := ZO hr hk
  have hmp := Xp (f := Xe.pt) (xs := gs) (k := XJ c) g0 g9
  have hre : (ix gs (XJ c)).rest = ix c.rest (XJ c) := by rw [← hr.hr, Xp (f := Xe.rest) g0 g9]
  obtain ⟨sb, hsb⟩ := Qe hr hm
  have hsp : slP w.slk = .pointer (some ⟨sb, 0, none⟩) := by rw [hsb]; rfl
  have hsl : Zw w.slk c.slk = slkX sb m := by rw [hsb, hm]; rfl
  have hwm : X0 c = Zn (ix c.rest (XJ c)) (ofM m (XJ c)) m.room := by unfold X0; rw [hm]; simp only; rw [if_pos h3, if_neg h0]
  rw [hwm] at hK
  simp only [hsl]
  generalize XJ c = k at *
  refine S.I fun u => ?_
  refine Tr.famAt (xs := gs) k S.K S.o S.o (Y5 ?_)
  have hmn : ∀ P ty T K, Xq P (Builtin.min_ #[T, T, T] ty #[.int .i64 (ix c.rest k), .int .i64 (ofM m k), .int .i64 m.room]) K = K (.int .i64 (Zn (ix c.rest k) (ofM m k) m.room)) := fun P ty T K => xhc
  have hX := I6 @pl9.eq_def hsp hmp @Xe.pt.eq_def hre hmn; repeat' (first | rintro _ _ ⟨rfl, rfl⟩ | (refine G.call 39 ?_; refine S.c ?_ (h := hnx)) | refine S.x ?_ | (refine G.call 40 ?_; first | refine S.c ?_ (h := xkl)) | (refine G.call 41 ?_; first | refine S.c ?_ (h := xq0)) | intro hb | fail)
  all_goals
   refine Tr.fin hK ⟨rfl, rfl⟩ ?_
   simp only [hsl, ap]
   have hX := And.intro hre @Zg.eq_def
   exact S.E
theorem xp4 (hc : okC C) (hr : Rel C c w gs) : Xb prog 10 #[ptr b] (Xh b C c w gs)
  fun v l' => v = .int .i64 (JZ c) ∧ l' = Xh b C c w gs := by
 intro F K hK
 simp only [ap] at hK ⊢
 have hnx := xdZ (b := b) hc hr
 by_cases h0 : Yl c < 0
 ·have hwm : JZ c = 0 := by
   unfold JZ
   split
   ·rw [if_pos h0]
   ·rfl
  rw [hwm] at hK
  refine S.I fun u => ?_
  repeat' (first | rintro _ _ ⟨rfl, rfl⟩ | (refine G.call 39 ?_; refine S.c ?_ (h := hnx)) | refine S.x ?_ | fail)
  all_goals exact Tr.fin hK ⟨rfl, rfl⟩ S.E
 ·obtain ⟨m, hm⟩ : ∃ m, c.slk = some m := by
   rcases Option.eq_none_or_eq_some c.slk with hm | hm
   ·unfold Yl at h0; rw [hm] at h0; exact absurd (show (-1 : Int) < 0 by decide) h0
   ·exact hm
  obtain ⟨sb, hsb⟩ := Qe hr hm
  have hsp : slP w.slk = .pointer (some ⟨sb, 0, none⟩) := by rw [hsb]; rfl
  have hsl : Zw w.slk c.slk = slkX sb m := by rw [hsb, hm]; rfl
  have hwm : JZ c = Wr m.room m.ms := by unfold JZ; rw [hm]; simp only; rw [if_neg h0]
  rw [hwm] at hK
  simp only [hsl]
  refine S.I fun u => ?_
  have hX := hsp; repeat' (first | rintro _ _ ⟨rfl, rfl⟩ | (refine G.call 39 ?_; refine S.c ?_ (h := hnx)) | refine S.x ?_ | (refine G.call 42 ?_; first | refine S.c ?_ (h := xop)) | fail)
  all_goals
   refine Tr.fin hK ⟨rfl, rfl⟩ ?_
   simp only [hsl, ap]
   exact S.E
end
end
section
section
variable {b : Nat} {C : CC} {c : CM} {w : CW} {gs : List Xe} {k p wk : Int} {s : XE} {s3 : SV} {bs : List UInt8}
theorem xoZ (h : Rel C c w gs) (hk : inR C.progs k) (hs : s.ok) (hb : bs.length ≤ 300) :
  Rel C { c with addr := c.addr.set k.toNat s.b, data := c.data.set k.toNat bs, tb := c.tb.wait k s.call s.a wk } w (gs.set k.toNat { ix gs k with addr := s.b, ds := s3, dd := bs }) := by
 have hg := ZO h hk
 have hd : inR c.data k := by unfold inR at *; rw [h.ok.data]; exact hk
 have hR : Rch C 0 c { c with addr := c.addr.set k.toNat s.b, data := c.data.set k.toNat bs } := .wait c k s.b bs hk hs.2.1 hb
 have hR2 : Rch C 0 c { c with addr := c.addr.set k.toNat s.b, data := c.data.set k.toNat bs, tb := c.tb.wait k s.call s.a wk } := hR.one (.tb _ (c.tb.wait k s.call s.a wk) xaw)
 have hok : okM C { c with addr := c.addr.set k.toNat s.b, data := c.data.set k.toNat bs, tb := c.tb.wait k s.call s.a wk } := by
  refine ⟨xdL.trans h.ok.tb, h.ok.pos, h.ok.rest, by simpa using h.ok.addr, by simpa using h.ok.data, h.ok.done, h.ok.pi, fun x hx => ?_, fun x hx => ?_⟩
  ·rcases List.mem_or_eq_of_mem_set hx with h' | rfl
   ·exact h.ok.ad x h'
   ·exact hs.2.1
  ·rcases List.mem_or_eq_of_mem_set hx with h' | rfl
   ·exact h.ok.dl x h'
   ·exact hb
 refine ⟨hok, (X6 (f := Xe.prog) hg (by rfl)).trans h.hp, (X6 (f := Xe.pos) hg (by rfl)).trans h.hi, (X6 (f := Xe.rest) hg (by rfl)).trans h.hr, ?_, (X6 (f := Xe.done) hg (by rfl)).trans h.hd, fun j hj hw => ?_, h.hs⟩
 ·rw [List.map_set, h.ha]
 ·have hj' : inR gs j := by unfold inR at *; simpa using hj
  rw [YY hg hj'.1]
  show _ = ix (c.data.set k.toNat bs) j
  rw [YY hd hj'.1]
  by_cases e : j = k
  ·rw [if_pos e, if_pos e]
  ·rw [if_neg e, if_neg e]
   have hw' : JM ((c.tb.wait k s.call s.a wk).at j) := hw
   rw [xk0 (xkM h hk), if_neg e] at hw'
   exact h.hw j hj' hw'
end
attribute [local irreducible] Y1 X2 objX Zw
section
variable {b : Nat} {C : CC} {c : CM} {w : CW} {gs : List Xe} {k p size : Int} {s : XE} {s3 : SV} {bs : List UInt8}
theorem xb6 (hr : Rel C c w gs) (hk : inR C.progs k) (hf : few c 1) (hs : s.ok) (hb : bs.length ≤ 300) :
  Xb prog 169 #[ptr b, .int .i64 k, .agg (En.enc s).toArray, s3.v] (sl true s3.v bs :: Xh b C c w gs)
  fun v l' => ∃ w2 gs2, Rel C (YP C c k s bs) w2 gs2 ∧ v = .tuple #[] ∧ l' = Xh b C (YP C c k s bs) w2 gs2 := by
 intro F K hK
 simp only [ap] at hK ⊢
 unfold few at hf
 obtain ⟨h0, h1⟩ := ZO hr hk
 have hmp := Xp (f := Xe.pt) (xs := gs) (k := k) h0 h1
 have hlm : (gs.map Xe.pt).length = gs.length := List.length_map _
 have hpt : (gs.set k.toNat { ix gs k with addr := s.b, ds := s3, dd := bs }).map Xe.pt = gs.map Xe.pt := X6 ⟨h0, h1⟩ (by rfl)
 by_cases hd : s.d = 0
 ·have hwm : YP C c k s bs = Xa C c k s.call 1 0 := by unfold YP; rw [if_pos hd]
  rw [hwm] at hK
  refine S.I fun u => ?_
  have hX := @xhh.eq_def; repeat' (first | refine S.x ?_ | (refine G.call 159 ?_; refine S.c ?_ (h := Xx ?_)) | rintro _ _ ⟨_, rfl, rfl⟩ | (refine G.prop ?_; assumption) | intro hb | fail)
  all_goals
   rename_i sv
   refine Tr.fin hK ⟨{ w with ev := sv }, gs, Xs hr, rfl, rfl⟩ ?_
   simp only [ap]
   have hX := @Xa.eq_def
   exact S.E
 ·obtain ⟨wk, hwk⟩ : ∃ wk, wk = (if 1000 < s.d then IntKind.i64.wrap (c.win + 1000) else if 0 < s.d then IntKind.i64.wrap (c.win + s.d) else -1) := ⟨_, rfl⟩
  have hwm : YP C c k s bs = { c with addr := c.addr.set k.toNat s.b, data := c.data.set k.toNat bs, tb := c.tb.wait k s.call s.a wk } := by unfold YP; rw [if_neg hd, hwk]
  rw [hwm] at hK
  have hrel := xoZ (s3 := s3) (wk := wk) hr hk hs hb
  refine S.I fun u => ?_
  refine Tr.famAt (xs := gs) k S.K S.o S.o (Y5 ?_)
  by_cases h2 : 1000 < s.d
  ·have hmi : (if (1000 : Int) < s.d then (1000 : Int) else s.d) = 1000 := if_pos h2
   rw [if_pos h2] at hwk
   have hwk' := hwk.symm
   clear hwk
   have hX := I5 @xhh.eq_def hmp @Xe.pt.eq_def hmi @hwk'; repeat' (first | refine S.x ?_ | (refine G.call 229 ?_; refine S.c ?_ (h := xdu _ _ _ _ _ _)) | rintro _ _ ⟨rfl, rfl⟩ | intro hb | fail)
   all_goals
    refine Tr.fin hK ⟨w, _, hrel, rfl, rfl⟩ ?_
    simp only [ap]
    rw [hpt]
    have hX := @Zg.eq_def
    exact S.E
  ·have hmi : (if (1000 : Int) < s.d then (1000 : Int) else s.d) = s.d := if_neg h2
   rw [if_neg h2] at hwk
   by_cases h3 : 0 < s.d
   ·rw [if_pos h3] at hwk
    have hwk' := hwk.symm
    clear hwk
    have hX := I5 @xhh.eq_def hmp @Xe.pt.eq_def hmi @hwk'; repeat' (first | refine S.x ?_ | (refine G.call 229 ?_; refine S.c ?_ (h := xdu _ _ _ _ _ _)) | rintro _ _ ⟨rfl, rfl⟩ | intro hb | fail)
    all_goals
     refine Tr.fin hK ⟨w, _, hrel, rfl, rfl⟩ ?_
     simp only [ap]
     rw [hpt]
     have hX := @Zg.eq_def
     exact S.E
   ·rw [if_neg h3] at hwk
    subst hwk
    have hX := I4 @xhh.eq_def hmp @Xe.pt.eq_def hmi; repeat' (first | refine S.x ?_ | (refine G.call 229 ?_; refine S.c ?_ (h := xdu _ _ _ _ _ _)) | rintro _ _ ⟨rfl, rfl⟩ | intro hb | fail)
    all_goals
     refine Tr.fin hK ⟨w, _, hrel, rfl, rfl⟩ ?_
     simp only [ap]
     rw [hpt]
     have hX := @Zg.eq_def
     exact S.E
theorem xdt (hc : okC C) (hr : Rel C c w gs) (hk : inR C.progs k) (hf : few c 2) :
  Xb prog 185 #[ptr b, .int .i64 k, .agg (En.enc s).toArray] (Xh b C c w gs)
  fun v l' => ∃ w2 gs2, Rel C (JV C c k s) w2 gs2 ∧ v = .tuple #[] ∧ l' = Xh b C (JV C c k s) w2 gs2 := by
 intro F K hK
 simp only [ap] at hK ⊢
 have hf1 : few c 1 := by unfold few at *; omega
 unfold few at hf1
 obtain ⟨c1, hc1⟩ : ∃ c1, c1 = Xa C c k s.call 8 0 := ⟨_, rfl⟩
 have hf2 : few c1 1 := by unfold few at *; rw [hc1]; simp only [Xa, List.length_append, List.length_cons, List.length_nil]; omega
 have hr1 : ∀ s, Rel C c1 { w with ev := s } gs := fun s => by rw [hc1]; exact Xs hr
 have hbm : JV C c k s = Yx C c1 k 2 := by rw [hc1]; rfl
 rw [hbm] at hK
 refine S.I fun u => ?_
 repeat' (first | refine S.x ?_ | (refine G.call 159 ?_; refine S.c ?_ (h := Xx ?_)) | rintro _ _ ⟨_, rfl, rfl⟩ | (refine G.prop ?_; assumption) | intro hb | fail)
 rename_i sv
 refine Tr.imp (l' := Xh b C c1 { w with ev := sv } gs ++ F) ?_ ?_
 ·subst hc1
  simp only [ap]
  have hX := @Xa.eq_def
  show Xd [] _ _
  exact S.E
 have hcf := VN (b := b) (kind := 2) hc (hr1 sv) hk hf2 (by decide) (by decide)
 clear hc1 hr1 hbm
 simp only [ap]
 repeat' (first | rintro _ _ ⟨w3, g3, hr3, rfl, rfl⟩ | (refine G.call 91 ?_; refine S.c ?_ (h := hcf)) | refine S.x ?_ | fail)
 all_goals exact Tr.fin hK ⟨w3, g3, hr3, rfl, rfl⟩ S.E
