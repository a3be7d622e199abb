import Derived.Test.YtacmaamllpiloaaGreatZ34
namespace Go.Proofs.YtacmaamllpiloaaGreat
open Go Go.Wk Tryz
set_option maxHeartbeats 3200000
set_option maxRecDepth 100000
section
section
variable {C : CC} {c : CM} {w : RW} {k win kind call code value : Int} {t : Tb} {cold : Bool} {b : List UInt8} {e : SV}
theorem xaa : ∀ n, (X7 c n).data = c.data ∧ (X7 c n).slk = c.slk
 | 0 => ⟨rfl, rfl⟩
 | n + 1 => xaa n
theorem xrF (h : Xl C c w) {m : Int} : Xl C { c with mode := m } w := xas h ⟨h.ok.tb, h.ok.pos, h.ok.rest, h.ok.addr, h.ok.data, h.ok.done, h.ok.pi, h.ok.ad, h.ok.dl⟩ rfl rfl
theorem xpS (h : Xl C c w) : Xl C (QZ C c cold) w := xas h ⟨h.ok.tb, h.ok.pos, h.ok.rest, h.ok.addr, h.ok.data, h.ok.done, h.ok.pi, h.ok.ad, h.ok.dl⟩ rfl rfl
theorem xkx (h : Xl C c w) {ms : List XH} : Xl C { c with mem := ms } w := xas h ⟨h.ok.tb, h.ok.pos, h.ok.rest, h.ok.addr, h.ok.data, h.ok.done, h.ok.pi, h.ok.ad, h.ok.dl⟩ rfl rfl
theorem WN (h : Xl C c w) {ps : List AP} : Xl C { c with pts := ps } w := xas h ⟨h.ok.tb, h.ok.pos, h.ok.rest, h.ok.addr, h.ok.data, h.ok.done, h.ok.pi, h.ok.ad, h.ok.dl⟩ rfl rfl
theorem Qr (h : Xl C c w) {o : ObM} : Xl C { c with obs := o } w := xas h ⟨h.ok.tb, h.ok.pos, h.ok.rest, h.ok.addr, h.ok.data, h.ok.done, h.ok.pi, h.ok.ad, h.ok.dl⟩ rfl rfl
theorem Xy (h : Xl C c w) : Xl C (Xa C c k call code value) { w with ev := e } := xhG (xas (c' := Xa C c k call code value) h ⟨h.ok.tb, h.ok.pos, h.ok.rest, h.ok.addr, h.ok.data, h.ok.done, h.ok.pi, h.ok.ad, h.ok.dl⟩ rfl rfl) rfl rfl rfl
theorem xt7 (h : Xl C c w) : Xl C (Zc C c k call code value) { w with ev := e } := xaU (Xy h) Zf
theorem xly (h : Xl C c w) (n : Nat) : Xl C (X7 c n) w := xas h (xdN (t := (X7 c n).tb) h.ok (QA n) |> fun o => by
 have e : X7 c n = { c with tb := (X7 c n).tb } := by
  induction n with
  | zero => rfl
  | succ n ih =>
   show XW (X7 c n) n 0 = _
   conv => lhs; rw [ih (xdN (t := (X7 c n).tb) h.ok (QA n))]
   rfl
 rw [e]; exact o) (xaa n).1 (by rw [(xaa n).2])
end
end
section
attribute [local irreducible] BrK Xq Xt Xv XI FnK XZ Xw XC XV opX opK Yq Yk eqR Yj Yo Ys WL WD W X3 XO Tr drewK Ya X4 Yw Yv X1 YB mp blk rob sl sep ex fact old
section
attribute [local irreducible] Yr XT robjX rslkO Yg
section
variable {r : Nat} {C : CC} {c : CM} {w : RW} {k i win kind call code value : Int}
theorem xhQ (hc : okC C) (hr : Xl C c w) : Xb prog 127 #[ptr r] (Xf r C c w)
  fun v l' => Xl C (WU C c) w ∧ v = .tuple #[] ∧ l' = Xf r C (WU C c) w := by
 intro F K hK
 simp only [ap] at hK ⊢
 have h8 := hc.n8
 have hpx := JK hr
 obtain ⟨c0, hc0⟩ : ∃ c0 : CM, c0 = { c with mode := 0 } := ⟨_, rfl⟩
 have hr0 : Xl C c0 w := by rw [hc0]; exact xrF hr
 have him : WU C c = X7 c0 C.progs.length := by rw [hc0]; rfl
 rw [him] at hK
 refine S.I fun u => ?_
 repeat' (first | refine S.x ?_ | fail)
 refine Tr.imp (l' := Xf r C c0 w ++ F) ?_ ?_
 ·subst hc0
  simp only [ap]
  show Xd [] _ _
  exact S.E
 clear hc0 him
 simp only [ap]
 refine Tr.loopE (α := Nat) [2] [0] (fun x => [.int .i64 x]) (fun x => Xf r C (X7 c0 x) w) (fun x => x ≤ C.progs.length) (fun x => C.progs.length - x) 0 S.T rfl (Nat.zero_le _) fun i u hi => ?_
 simp only [ap]
 have hri := xly hr0 i
 have htl := Yf hc hri
 by_cases hin : i < C.progs.length
 ·have hw := Xo (k := i) S.o
  have hst : XW (X7 c0 i) (i : Int) 0 = X7 c0 (i + 1) := rfl
  have hX := And.intro hw hpx; repeat' (first | refine S.x ?_ | (refine G.call 125 ?_; refine S.c ?_ (h := Ju ?_)) | rintro _ _ ⟨rfl, rfl⟩ | (refine G.prop ?_; assumption) | fail)
  all_goals
   have hX := And.intro hst.symm @XW.eq_def
   clear hst hri
   exact S.R (i + 1)
 ·have hie : i = C.progs.length := by omega
  subst hie
  have hX := hpx; repeat' (first | refine S.x ?_ | fail)
  all_goals exact Tr.fin hK ⟨hri, rfl, rfl⟩ S.E
end
section
variable {r : Nat} {C : CC} {c : CM} {w : RW} {k i win kind call code value : Int} {cold : Bool}
theorem xhO (hc : okC C) (hr : Xl C c w) : Xb prog 126 #[ptr r, .bool cold] (Xf r C c w)
  fun v l' => ∃ w2, Xl C (Qi C c cold) w2 ∧ v = .tuple #[] ∧ l' = Xf r C (Qi C c cold) w2 := by
 intro F K hK
 simp only [ap] at hK ⊢
 have h8 := hc.n8
 have hr0 := xpS (cold := cold) hr
 obtain ⟨c0, hc0⟩ : ∃ c0, c0 = QZ C c cold := ⟨_, rfl⟩
 have han : Qi C c cold = XS C (X7 c0 C.progs.length) c0.win C.progs.length := by rw [hc0]; rfl
 rw [han] at hK
 rw [← hc0] at hr0
 clear han
 refine S.I fun u => ?_
 cases cold
 all_goals
  repeat' (first | rintro _ _ ⟨rfl, rfl⟩ | (refine G.call 195 ?_; refine S.c ?_ (h := xmZ)) | (refine G.call 196 ?_; refine S.c ?_ (h := xj8 hc.dep)) | (refine G.call 197 ?_; refine S.c ?_ (h := xjv)) | refine S.x ?_ | fail)
  refine Tr.imp (l' := Xf r C c0 w ++ F) ?_ ?_
  ·subst hc0
   simp only [ap]
   have hX := @QZ.eq_def
   show Xd [] _ _
   exact S.E
  clear hc0
  simp only [ap]
  refine Tr.loopE (α := Nat) [4] [0] (fun x => [.int .i64 x]) (fun x => Xf r C (X7 c0 x) w) (fun x => x ≤ C.progs.length) (fun x => C.progs.length - x) 0 S.T rfl (Nat.zero_le _) fun i u hi => ?_
  simp only [ap]
  have hri := xly hr0 i
  have htl := Yf hc hri
  have hpx := JK hr0
  by_cases hin : i < C.progs.length
  ·have hw := Xo (k := i) S.o
   have hst : XW (X7 c0 i) (i : Int) 0 = X7 c0 (i + 1) := rfl
   have hX := And.intro hw hpx; repeat' (first | refine S.x ?_ | (refine G.call 125 ?_; refine S.c ?_ (h := Ju ?_)) | rintro _ _ ⟨rfl, rfl⟩ | (refine G.prop ?_; assumption) | fail)
   all_goals
    have hX := And.intro hst.symm @XW.eq_def
    clear hst hri
    exact S.R (i + 1)
  ·have hie : i = C.progs.length := by omega
   subst hie
   have hwn : (X7 c0 C.progs.length).win = c0.win := xa5 _
   rw [← hwn] at hK
   clear hwn hr0 hr
   generalize X7 c0 C.progs.length = c1 at *
   have hX := hpx; repeat' (first | refine S.x ?_ | fail)
   refine Tr.loopE (α := Nat × RW) [5] [0] (fun x => [.int .i64 x.1]) (fun x => Xf r C (XS C c1 c1.win x.1) x.2) (fun x => x.1 ≤ C.progs.length ∧ Xl C (XS C c1 c1.win x.1) x.2) (fun x => C.progs.length - x.1) (0, w) S.T rfl ⟨Nat.zero_le _, hri⟩ fun y u2 hy => ?_
   obtain ⟨j, w4⟩ := y
   obtain ⟨hj, hrj⟩ := hy
   simp only at hj hrj ⊢
   simp only [ap]
   have hpx2 := JK hrj
   by_cases hjn : j < C.progs.length
   ·have hw := Xo (k := j) S.o
    have hk : inR C.progs (j : Int) := ⟨by omega, by omega⟩
    have hwj : (XS C c1 c1.win j).win = c1.win := xab j
    have hst : Yd C (XS C c1 c1.win j) (j : Int) (XS C c1 c1.win j).win = XS C c1 c1.win (j + 1) := by rw [hwj]; rfl
    have hs := WC (r := r) (win := (XS C c1 c1.win j).win) hc hrj hk
    rw [hst] at hs
    clear hst hwj hrj hri
    have hX := And.intro hw hpx2; repeat' (first | rintro _ _ ⟨w5, hr5, rfl, rfl⟩ | (refine G.call 64 ?_; refine S.c ?_ (h := hs)) | refine S.x ?_ | fail)
    all_goals exact S.R ((j + 1, w5) : Nat × RW)
   ·have hje : j = C.progs.length := by omega
    subst hje
    have hX := hpx2; repeat' (first | refine S.x ?_ | fail)
    all_goals exact Tr.fin hK ⟨w4, hrj, rfl, rfl⟩ S.E
end
section
variable {r : Nat} {C : CC} {c : CM} {w : RW} {k i win kind call code value : Int} {s : XE} {s3 : SV} {bs : List UInt8}
theorem Qc (hc : okC C) (hr : Xl C c w) (hk : inR C.progs k) (hf : few c 1) (h0 : 0 ≤ kind) (h4 : kind ≤ 4) : Xb prog 72 #[ptr r, .int .i64 kind, .int .i64 k] (Xf r C c w)
  fun v l' => ∃ w2, Xl C (Yx C c k kind) w2 ∧ v = .tuple #[] ∧ l' = Xf r C (Yx C c k kind) w2 := by
 intro F K hK
 simp only [ap] at hK ⊢
 unfold few at hf
 have hwk : IntKind.i64.wrap (-1 - kind) = -1 - kind := Ye S.o S.o
 obtain ⟨act, hact⟩ : ∃ act, act = Zk C.conf.acts.d kind := ⟨_, rfl⟩
 obtain ⟨c1, hc1⟩ : ∃ c1, c1 = Xa C c k (-1 - kind) act 0 := ⟨_, rfl⟩
 have hfm : Yx C c k kind = (if act = 1 then XW c1 k 0 else if act = 2 then Yd C (XW c1 k 0) k c1.win else if act = 3 then Qi C c1 true else if act = 4 then WU C c1 else c1) := by rw [hc1, hact]; rfl
 have hr1 : ∀ s, Xl C c1 { w with ev := s } := fun s => by rw [hc1]; exact Xy hr
 have htl := Yf hc hr
 have htl1 : c1.tb.d.length ≤ 1000000 := by rw [hc1]; exact htl
 rw [hfm] at hK
 refine S.I fun u => ?_
 have hX := And.intro hwk @hact.symm; repeat' (first | rintro _ _ ⟨rfl, rfl⟩ | rintro _ _ ⟨sv, rfl, rfl⟩ | (refine G.call 124 ?_; refine S.c ?_ (h := xug (ro := true) h0 h4)) | (refine G.call 71 ?_; refine S.c ?_ (h := Xn hf)) | refine S.x ?_ | refine S.y ?_ ?_ | (refine G.call 125 ?_; refine S.c ?_ (h := Ju ?_)) | (refine G.prop ?_; assumption) | intro hb | fail)
 ·rw [if_pos hb] at hK
  refine Tr.fin hK ⟨{ w with ev := sv }, xaU (hr1 sv) Zf, rfl, rfl⟩ ?_
  subst hc1
  clear hfm hact hr1
  simp only [ap]
  have hX := And.intro @XW.eq_def @Xa.eq_def
  exact S.E
 ·rw [if_neg S.o, if_pos hb] at hK
  have hwn : c.win = c1.win := by rw [hc1]; rfl
  have hcx := WC (r := r) (win := c1.win) hc (xaU (hr1 sv) Zf : Xl C (XW c1 k 0) { w with ev := sv }) hk
  rw [hwn]
  clear hwn
  refine Tr.imp (l' := Xf r C (XW c1 k 0) { w with ev := sv } ++ F) ?_ ?_
  ·subst hc1
   clear hfm hK hact hr1
   simp only [ap]
   have hX := And.intro @XW.eq_def @Xa.eq_def
   show Xd [] _ _
   exact S.E
  clear hc1 hfm hr1 hr
  simp only [ap]
  repeat' (first | rintro _ _ ⟨w3, hr3, rfl, rfl⟩ | (refine G.call 64 ?_; refine S.c ?_ (h := hcx)) | refine S.x ?_ | fail)
  all_goals exact Tr.fin hK ⟨w3, hr3, rfl, rfl⟩ S.E
 ·rw [if_neg S.o, if_neg S.o, if_pos hb] at hK
  have hcx := xhO (r := r) (cold := true) hc (hr1 sv)
  refine Tr.imp (l' := Xf r C c1 { w with ev := sv } ++ F) ?_ ?_
  ·subst hc1
   clear hfm hK hact hr1
   simp only [ap]
   have hX := And.intro @XW.eq_def @Xa.eq_def
   show Xd [] _ _
   exact S.E
  clear hc1 hfm hr1 hr
  simp only [ap]
  repeat' (first | rintro _ _ ⟨w3, hr3, rfl, rfl⟩ | (refine G.call 126 ?_; refine S.c ?_ (h := hcx)) | refine S.x ?_ | fail)
  all_goals exact Tr.fin hK ⟨w3, hr3, rfl, rfl⟩ S.E
 ·rw [if_neg S.o, if_neg S.o, if_neg S.o, if_pos hb] at hK
  have hcx := xhQ (r := r) hc (hr1 sv)
  refine Tr.imp (l' := Xf r C c1 { w with ev := sv } ++ F) ?_ ?_
  ·subst hc1
   clear hfm hK hact hr1
   simp only [ap]
   have hX := And.intro @XW.eq_def @Xa.eq_def
   show Xd [] _ _
   exact S.E
  clear hc1 hfm hr1 hr
  simp only [ap]
  repeat' (first | rintro _ _ ⟨hr3, rfl, rfl⟩ | (refine G.call 127 ?_; refine S.c ?_ (h := hcx)) | refine S.x ?_ | fail)
  all_goals exact Tr.fin hK ⟨_, hr3, rfl, rfl⟩ S.E
 ·rw [if_neg S.o, if_neg S.o, if_neg S.o, if_neg S.o] at hK
  refine Tr.fin hK ⟨{ w with ev := sv }, hr1 sv, rfl, rfl⟩ ?_
  subst hc1
  clear hfm hact hr1
  simp only [ap]
  have hX := And.intro @XW.eq_def @Xa.eq_def
  exact S.E
theorem QN (hc : okC C) (hr : Xl C c w) (hf : few c 1) : Xb prog 75 #[ptr r, .int .i64 k, .int .i64 call, .int .i64 code, .int .i64 value] (Xf r C c w)
  fun v l' => ∃ w2, Xl C (Zc C c k call code value) w2 ∧ v = .tuple #[] ∧ l' = Xf r C (Zc C c k call code value) w2 := by
 intro F K hK
 simp only [ap] at hK ⊢
 unfold few at hf
 have htl := Yf hc hr
 have hrel := fun e => xt7 (e := e) (k := k) (call := call) (code := code) (value := value) hr
 refine S.I fun u => ?_
 repeat' (first | refine S.x ?_ | (refine G.call 71 ?_; refine S.c ?_ (h := Xn ?_)) | (refine G.call 125 ?_; refine S.c ?_ (h := Ju ?_)) | rintro _ _ ⟨rfl, rfl⟩ | rintro _ _ ⟨_, rfl, rfl⟩ | (refine G.prop ?_; assumption) | fail)
 all_goals
  rename_i ev
  refine Tr.fin hK ⟨{ w with ev := ev }, hrel ev, rfl, rfl⟩ ?_
  simp only [ap]
  have hX := I3 @Zc.eq_def @XW.eq_def @Xa.eq_def
  exact S.E
theorem xs7 (h : Xl C c w) (hk : inR C.progs k) : okZ (ix c.addr k) := by
 have ha : inR c.addr k := by unfold inR at *; rw [h.ok.addr]; exact hk
 exact h.ok.ad _ (List.mem_of_getElem? (Yi ha.1 ha.2))
theorem xar (hc : okC C) (hr : Xl C c w) (hk : inR C.progs k) (hf : few c 1) : Xb prog 131 #[ptr r, .int .i64 k, .int .i64 call, s3.v] (sl true s3.v bs :: Xf r C c w)
  fun v l' => ∃ w2, Xl C (Zy C c k call bs) w2 ∧ v = .tuple #[] ∧ l' = Xf r C (Zy C c k call bs) w2 := by
 intro F K hK
 simp only [ap] at hK ⊢
 have hz := xs7 hr hk
 have hka : inR c.addr k := by unfold inR at *; rw [hr.ok.addr]; exact hk
 obtain ⟨g0, g1⟩ := hka
 obtain ⟨c1, hc1⟩ : ∃ c1 : CM, c1 = { c with mem := stB c.mem (ix c.addr k) bs } := ⟨_, rfl⟩
 have hr1 : Xl C c1 w := by rw [hc1]; exact xkx hr
 have hf1 : few c1 1 := by rw [hc1]; exact hf
 have hgm : Zy C c k call bs = Zc C c1 k call 0 bs.length := by rw [hc1]; rfl
 rw [hgm] at hK
 have hcx := QN (r := r) (k := k) (call := call) (code := 0) (value := (bs.length : Int)) hc hr1 hf1
 refine S.I fun u => ?_
 have hX := @xqP.eq_def; repeat' (first | refine S.x ?_ | (refine G.call 200 ?_; refine S.c ?_ (h := xe8 ‹_›)) | rintro _ _ ⟨rfl, rfl⟩ | intro hb | fail)
 refine Tr.imp (l' := Xf r C c1 w ++ F) ?_ ?_
 ·subst hc1
  simp only [ap]
  show Xd [] _ _
  exact S.E
 clear hc1 hr1 hr hgm
 simp only [ap]
 have hX := @xqP.eq_def; repeat' (first | rintro _ _ ⟨w3, hr3, rfl, rfl⟩ | (refine G.call 75 ?_; refine S.c ?_ (h := hcx)) | refine S.x ?_ | fail)
 all_goals exact Tr.fin hK ⟨w3, hr3, rfl, rfl⟩ S.E
end
end
end
section
def okS (C : CC) (c : CM) : Prop := ∀ m, c.slk = some m → m.ms.length = C.progs.length
section
variable {C : CC} {c c' : CM} {w : RW} {k call p : Int} {m : SlM} {n : Nat}
theorem xqq {ms : List (Int × Bool)} {b : Bool} : (Qm ms k b).length = ms.length := by
 unfold Qm
 split
 ·exact List.length_set
 ·rfl
theorem Rch.oS (h : Rch C n c c') (hs : okS C c) : okS C c' := by
 induction h with
 | trans _ _ h1 h2 => exact h2 (h1 hs)
 | le _ _ h1 => exact h1 hs
 | rest c k hk =>
  intro m hm
  have hm' : c.slk.map (fun m => QT m k) = some m := hm
  rcases Option.eq_none_or_eq_some c.slk with h | ⟨m0, h⟩
  ·rw [h] at hm'; cases hm'
  ·rw [h] at hm'
   have := hs m0 h
   cases hm'
   show (Qm m0.ms k true).length = _
   rw [xqq]; exact this
 | _ => exact hs
theorem xtK (hs : okS C c) (hm : c.slk = some m) (hk : inR C.progs k) : ofC c k = (ix m.ms k).1 ∧ ix (Jc m.ms) k = ofC c k ∧ inR (Jc m.ms) k := by
 have hr : inR m.ms k := by unfold inR at *; rw [hs m hm]; exact hk
 have e : ofC c k = (ix m.ms k).1 := by unfold ofC ofM; rw [hm]; simp only; rw [if_pos hr]
 refine ⟨e, ?_, ?_⟩
 ·rw [e]; unfold Jc; exact ixR hr
 ·unfold Jc; rw [Z6]; exact hr
theorem xeK (h : Xl C c w) (hk : inR C.progs k) : inR c.tb.d k := by unfold inR at *; rw [h.ok.tb]; exact hk
theorem xgC (h : Xl C c w) (h0 : ¬ c.tb.best One.ready < 0) : inR C.progs (c.tb.best One.ready) := V3 h.ok h0
end
abbrev Q7 (r : Nat) (C : CC) (c : CM) (w : RW) : List Xc := [Vy r C c.mode c.win w, sl false w.pg.v w.px, fzl w.px, sl false w.pa.v c.pos, sl false w.re.v c.rest, sl false w.ad.v c.addr, sl false w.da.v w.dx, fzl w.dx, sl false w.dn.v c.done, Yg w.tb c.tb, Yr w.mem c.mem, XT w.pts c.pts, robjX w.obs C.conf c.obs, sl false w.ev.v c.evs, sl true C.conf.procs.s.v C.conf.procs.d, sl true C.conf.acts.s.v C.conf.acts.d]
theorem Xd.trans2 {d l l' l2 : List Xc} (h1 : Xd d l l') (h2 : Xd [] l' l2) : Xd d l l2 := Imp.trans h1 h2
theorem Tr.rslkO {b : Nat} {m : SlM} {l F : List Xc} {X : WP} (ht : Xm l (rslkX b m) F) (h : ∀ s1 s2 : SV, Vz m → Tr (xbJ b m.room s1 s2 :: sl false s1.v (Jc m.ms) :: sl false s2.v (Zp m.ms) :: F) X) : Tr l X :=
 Tr.imp ht (Tr.pk fun g hg => by
  simp only [Vu, ap]
  exact h g.1 g.2 hg)
end
section
attribute [local irreducible] BrK Xq Xt Xv XI FnK XZ Xw XC XV opX opK Yq Yk eqR Yj Yo Ys WL WD W X3 XO Tr drewK Ya X4 Yw Yv X1 YB mp blk rob sl sep ex fact old
section
attribute [local irreducible] Yr XT robjX rslkX Yg
section
variable {r : Nat} {C : CC} {c : CM} {w : RW} {k i win : Int} {m : SlM}
theorem xal (hc : okC C) (hr : Xl C c w) (hf : few c 100) (hS : okS C c) (hs : c.slk.isSome = true) : Xb prog 76 #[ptr r] (Xf r C c w)
  fun v l' => ∃ w2, Xl C (XM C 100 c) w2 ∧ v = .tuple #[] ∧ l' = Xf r C (XM C 100 c) w2 := by
 intro F K hK
 simp only [ap] at hK ⊢
 have h8 := hc.n8
 obtain ⟨R, hR⟩ : ∃ R, R = XM C 100 c := ⟨_, rfl⟩
 rw [← hR] at hK
 refine S.I fun u => ?_
 repeat' (first | refine S.x ?_ | fail)
 refine Tr.loopE (α := Nat × CM × RW) [2] [0] (fun x => [.int .i64 x.1]) (fun x => Xf r C x.2.1 x.2.2) (fun x => x.1 ≤ 100 ∧ XM C (100 - x.1) x.2.1 = R ∧ few x.2.1 (100 - x.1) ∧ Xl C x.2.1 x.2.2 ∧ okS C x.2.1 ∧ x.2.1.slk.isSome = true) (fun x => 100 - x.1) (0, c, w) S.T rfl ⟨by simp only; omega, hR.symm, hf, hr, hS, hs⟩ fun x u hx => ?_
 obtain ⟨n, c1, w1⟩ := x
 obtain ⟨hn, he, hf1, hr1, hS1, hs1⟩ := hx
 simp only at hn he hf1 hr1 hS1 hs1 ⊢
 simp only [ap]
 have htl := Yf hc hr1
 clear hr hf hR hS hs
 obtain ⟨m1, hm1⟩ := Option.isSome_iff_exists.1 hs1
 obtain ⟨sb, hsb⟩ := VS hr1 hm1
 have hsl : rslkO w1.slk c1.slk = rslkX sb m1 := by rw [hsb, hm1]; rfl
 have hsp : slP w1.slk = .pointer (some ⟨sb, 0, none⟩) := by rw [hsb]; rfl
 by_cases hn9 : n < 100
 ·have hw := Xo (k := n) S.o
  by_cases hmd : c1.mode = 3
  ·by_cases h0 : c1.tb.best One.ready < 0
   ·rw [ZU (.inr (.inl h0))] at he
    rw [← he] at hK
    have hX := hw; repeat' (first | refine S.x ?_ | (refine G.call 132 ?_; refine S.c ?_ (h := xbq ‹_›)) | rintro _ _ ⟨rfl, rfl⟩ | fail)
    all_goals exact Tr.fin hK ⟨w1, hr1, rfl, rfl⟩ S.E
   ·have hk := xgC hr1 h0
    obtain ⟨o1, o2, o3⟩ := xtK hS1 hm1 hk
    obtain ⟨q0, q1⟩ := o3
    have hpk : XJ c1 = c1.tb.best One.ready := rfl
    refine Tr.imp (l' := rslkX sb m1 :: (Q7 r C c1 w1 ++ (fzl w.px :: fzl w.dx :: sl true C.conf.procs.s.v C.conf.procs.d :: sl true C.conf.acts.s.v C.conf.acts.d :: F))) ?_ ?_
    ·rw [← hsl]
     simp only [ap]
     show Xd [] _ _
     exact S.E
    simp only [ap]
    refine Tr.rslkO (b := sb) (m := m1) S.K fun s1 s2 hok => ?_
    by_cases h1 : 0 < ofC c1 (c1.tb.best One.ready)
    ·rw [ZU (.inr (.inr h1))] at he
     rw [← he] at hK
     have hX := And.intro hsp @o2; repeat' (first | refine S.x ?_ | (refine G.call 132 ?_; refine S.c ?_ (h := xbq ‹_›)) | rintro _ _ ⟨rfl, rfl⟩ | intro hb | fail)
     all_goals
      refine Tr.fin hK ⟨w1, hr1, rfl, rfl⟩ ?_
      refine Xd.trans2 (l' := rslkX sb m1 :: (Q7 r C c1 w1 ++ (fzl w.px :: fzl w.dx :: sl true C.conf.procs.s.v C.conf.procs.d :: sl true C.conf.acts.s.v C.conf.acts.d :: F))) (Xd.rslkX (s1 := s1) (s2 := s2) hok ?_) ?_
      ·simp only [Vu, ap]
       exact S.E
      ·rw [← hsl]
       simp only [ap]
       exact S.E
    ·obtain ⟨n9, hn9'⟩ : ∃ n9, 100 - n = n9 + 1 := ⟨99 - n, by omega⟩
     rw [hn9'] at he
     unfold XM at he
     rw [if_pos hmd, hpk, if_neg h0, if_neg h1] at he
     obtain ⟨k, hkk⟩ : ∃ k, k = c1.tb.best One.ready := ⟨_, rfl⟩
     have hpk' : c1.tb.best One.ready = k := hkk.symm
     rw [← hkk] at he hk h0 h1 o1 o2 q0 q1
     clear hkk hpk
     have hf2 : few (YX c1 k) 1 := by unfold few at *; show c1.evs.length + 1 ≤ _; omega
     have hrch : Rch C 1 c1 (Yx C (YX c1 k) k 0) := .le (.trans (.rest c1 k hk) (J3 hk)) S.o
     obtain ⟨c3, hc3⟩ : ∃ c3 : CM, c3 = Yx C (YX c1 k) k 0 := ⟨_, rfl⟩
     rw [← hc3] at hrch he
     have hS3 := hrch.oS hS1
     have hs3 : c3.slk.isSome = true := by rw [hrch.sk]; exact hs1
     have he3 : XM C (100 - (n + 1)) c3 = R := by rw [show 100 - (n + 1) = n9 by omega]; exact he
     have hf3 : few c3 (100 - (n + 1)) := hrch.few (by rw [show 1 + (100 - (n + 1)) = 100 - n by omega]; exact hf1)
     have hco := xci (r := r) hc hr1 hk hm1
     have hcf := fun w2 (h : Xl C (YX c1 k) w2) => Qc (r := r) (kind := 0) hc h hk hf2 (by decide) (by decide)
     rw [← hc3] at hcf
     have hX := I3 hsp @o2 @hpk'; repeat' (first | refine S.x ?_ | (refine G.call 132 ?_; refine S.c ?_ (h := xbq ‹_›)) | rintro _ _ ⟨rfl, rfl⟩ | intro hb | fail)
     refine Tr.imp (l' := rslkO w1.slk c1.slk :: (Q7 r C c1 w1 ++ (fzl w.px :: fzl w.dx :: sl true C.conf.procs.s.v C.conf.procs.d :: sl true C.conf.acts.s.v C.conf.acts.d :: F))) ?_ ?_
     ·rw [hsl]
      refine Xd.rslkX (s1 := s1) (s2 := s2) (d := []) hok ?_
      simp only [Vu, ap]
      exact S.E
     clear hsl hsp o2 hrch hc3 hr1 hm1 he
     simp only [ap]
     have hX := hw; repeat' (first | rintro _ _ ⟨w3, hr3, rfl, rfl⟩ | (refine G.call 133 ?_; refine S.c ?_ (h := hco)) | (refine G.call 72 ?_; refine S.c ?_ (h := hcf _ hr3)) | refine S.x ?_ | fail)
     all_goals exact S.R ((n + 1, c3, w3) : Nat × CM × RW)
  ·rw [ZU (.inl hmd)] at he
   rw [← he] at hK
   have hX := hw; repeat' (first | refine S.x ?_ | fail)
   all_goals exact Tr.fin hK ⟨w1, hr1, rfl, rfl⟩ S.E
 ·have e0 : 100 - n = 0 := by omega
  rw [e0] at he
  have he' : c1 = R := he
  rw [← he'] at hK
  repeat' (first | refine S.x ?_ | fail)
  all_goals exact Tr.fin hK ⟨w1, hr1, rfl, rfl⟩ S.E
