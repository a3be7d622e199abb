import Derived.Test.YtmebccjndhlpoaaGreatZ40
namespace Go.Proofs.YtmebccjndhlpoaaGreat
open Go Go.Wk Tryz
set_option maxHeartbeats 6400000
set_option maxRecDepth 100000
section
variable {g : PG} {Gs : List PG} {ps : List AP} {p : Nat} {l : List Xc} {X : WP} {n : Nat}
theorem xJq (h1 : g.ab = ps) (h2 : wfP g.gs) : Imp (xBT g :: l) (X2 g.p ps :: l) :=
 Imp.trans (Imp.trans Imp.sep (Imp.cons Imp.sep)) (ZJ (p := g.p) (s := g.s) (gs := g.gs) h1 h2)
theorem xIR (h : ∀ g : PG, g.p = p → g.ab = ps → wfP g.gs → Tr (xBT g :: l) X) : Tr (X2 p ps :: l) X :=
 Tr.pk fun x hx => Tr.imp (Imp.trans (Imp.cons Imp.sepI) Imp.sepI) (h ⟨p, x.1, x.2⟩ rfl hx.1 hx.2)
def nmO (g : Xg) : Xg := if g.q = true then g else { g with ms := [] }
theorem xF9 {g : Xg} (h : g.q = true) : nmO g = g := if_pos h
theorem xFR {g : Xg} (h : ¬ g.q = true) : nmO g = { g with ms := [] } := if_neg h
theorem xJ7 {g : Xg} : Ym (nmO g) = Ym g := by
 by_cases h : g.q = true
 ·rw [xF9 h]
 ·rw [xFR h, xuk (g := g) (by simpa using h), xuk (by simpa using h)]
theorem xLJ {g : Xg} : (nmO g).pt = g.pt := by
 by_cases h : g.q = true
 ·rw [xF9 h]
 ·rw [xFR h]; rfl
theorem xKO {g : Xg} : (nmO g).abs = g.abs := by
 by_cases h : g.q = true
 ·rw [xF9 h]
 ·rw [xFR h]
  unfold Xg.abs
  simp [h, Xg.conf]
theorem xFo {α : Type} {A : α → Xc} {f : α → α} (h : ∀ x, A (f x) = A x) : ∀ {xs : List α}, fam A (xs.map f) = fam A xs
 | [] => rfl
 | x :: xs => by
  show sep (A (f x)) (fam A (xs.map f)) = sep (A x) (fam A xs)
  rw [h x, xFo h]
def nmP (g : PG) : PG := { g with gs := g.gs.map nmO }
theorem xIc {g : PG} : xBT (nmP g) = xBT g := by
 show sep (poB g.p g.s) (sep (fam Ym (g.gs.map nmO)) (sl false g.s.v ((g.gs.map nmO).map Xg.pt))) = _
 rw [xFo fun x => xJ7, List.map_map, show (Xg.pt ∘ nmO) = Xg.pt from funext fun x => xLJ]
 rfl
theorem xLp {g : PG} : (nmP g).ab = g.ab := by
 show (g.gs.map nmO).map Xg.abs = g.gs.map Xg.abs
 rw [List.map_map, show (Xg.abs ∘ nmO) = Xg.abs from funext fun x => xKO]
theorem xLH {gs : List Xg} (h : okA (gs.map Xg.abs)) (hi : xb0 gs n) : wfP (gs.map nmO) := by
 have hall : ∀ g ∈ gs, g.depth ≤ 16 ∧ (g.q = true → g.ms.length ≤ 16) := fun g hg => by
  obtain ⟨h1, h2⟩ := h.2 g.abs (List.mem_map.2 ⟨g, hg, rfl⟩)
  refine ⟨h1, fun hq => ?_⟩
  have : (g.ms.map SL.d).length ≤ 16 := by
   have e : g.abs.ms = g.ms.map SL.d := by unfold Xg.abs; simp [hq]
   rw [← e]; exact h2
  simpa using this
 refine ⟨⟨by rw [List.length_map]; exact hi.1, fun x hx => ?_⟩, fun x hx => ?_⟩
 ·obtain ⟨g, hg, rfl⟩ := List.mem_map.1 hx
  obtain ⟨w1, w2, _⟩ := hi.2 g hg
  by_cases h : g.q = true
  ·rw [xF9 h]; exact ⟨w1, w2, (hall g hg).2 h⟩
  ·rw [xFR h]; exact ⟨w1, w2, Nat.zero_le _⟩
 ·obtain ⟨g, hg, rfl⟩ := List.mem_map.1 hx
  by_cases h : g.q = true
  ·rw [xF9 h]; exact (hall g hg).1
  ·rw [xFR h]; exact (hall g hg).1
theorem xGr {gs : List Xg} (h : wfP gs) : okA (gs.map Xg.abs) := by
 refine ⟨by rw [List.length_map]; exact h.1.1, fun a ha => ?_⟩
 obtain ⟨g, hg, rfl⟩ := List.mem_map.1 ha
 obtain ⟨_, _, w3⟩ := h.1.2 g hg
 refine ⟨h.2 g hg, ?_⟩
 unfold Xg.abs
 simp only
 split
 ·rw [List.length_map]; exact w3
 ·split <;> simp
theorem xLu {k : Int} {m : List UInt8} (h : mD ps) (hm : m.length ≤ 300) : mD (J0 ps k m) := by
 unfold J0
 split
 ·rename_i hc
  exact xDi h (xFi h (JG hc)).1 fun d hd => by rw [List.mem_singleton.1 hd]; exact hm
 ·split
  ·rename_i hc
   obtain ⟨h1, h2⟩ := xFi h (JG hc)
   split
   ·exact xDi h h1 h2
   ·refine xDi h h1 fun d hd => ?_
    rcases List.mem_append.1 hd with h3 | h3
    ·exact h2 d h3
    ·rw [List.mem_singleton.1 h3]; exact hm
  ·exact h
theorem xJA {k : Int} (h : mD ps) : mD (YQ ps k) := by
 unfold YQ
 split
 ·rename_i hc
  exact xDi h (xFi h (JG hc)).1 fun d hd => by cases hd
 ·split
  ·rename_i hc
   obtain ⟨h1, h2⟩ := xFi h (JG hc)
   split
   ·exact xDi h h1 h2
   ·exact h
  ·exact h
theorem xKT (h : mD ps) : xGx ps := fun x hx => (h x hx).2
structure StI (st : St) : Prop where
 a : ∀ x ∈ st, okA x
 m : ∀ x ∈ st, mD x
theorem StI.set {st : St} {k : Nat} {x : List AP} (h : StI st) (h1 : okA x) (h2 : mD x) : StI (st.set k x) := ⟨fun y hy => by
 rcases List.mem_or_eq_of_mem_set hy with h' | rfl
 ·exact h.a y h'
 ·exact h1, fun y hy => by
 rcases List.mem_or_eq_of_mem_set hy with h' | rfl
 ·exact h.m y h'
 ·exact h2⟩
theorem StI.ix {st : St} {k : Int} (h : StI st) (h0 : 0 ≤ k) (h1 : k < st.length) : okA (Go.Wk.ix st k) ∧ mD (Go.Wk.ix st k) := ⟨h.a _ (List.mem_of_getElem? (Yi h0 h1)), h.m _ (List.mem_of_getElem? (Yi h0 h1))⟩
theorem StI.deliv {st : St} {chs : List xBK} {ch : Int} {d : List UInt8} (h : StI st) (hd : d.length ≤ 300) : StI (xCe chs ch d st) := by
 unfold xCe
 split
 ·rename_i ho
  obtain ⟨h1, h2⟩ := h.ix ho.2.1 ho.2.2
  exact h.set (xrs h1) (xLu h2 hd)
 ·exact h
theorem xEb {chs : List xBK} : ∀ {l : List Int} {ab : List AP}, okA ab → mD ab → okA (xCl ab chs l) ∧ mD (xCl ab chs l)
 | [], _, h1, h2 => ⟨h1, h2⟩
 | k :: l, ab, h1, h2 => xEb (l := l) (ab := YQ ab (ix chs k).fo) (xnm h1) (xJA h2)
theorem StI.delivs {chs : List xBK} : ∀ {ms : List (Int × Int × List UInt8)} {st : St}, StI st → (∀ m ∈ ms, m.2.2.length ≤ 300) → StI (xCk chs ms st)
 | [], _, h, _ => h
 | m :: ms, st, h, hm => StI.delivs (ms := ms) (st := xCe chs m.1 m.2.2 st) (h.deliv (hm m (by simp))) fun x hx => hm x (by simp [hx])
theorem StI.flush {st : St} {chs : List xBK} {part win : Int} (h : StI st) : StI (xB5 chs part win st) := by
 unfold xB5
 split
 ·rename_i hi
  obtain ⟨h1, h2⟩ := h.ix hi.1 hi.2
  obtain ⟨d1, d2⟩ := xEb (chs := chs) (l := xCE chs part) h1 h2
  exact StI.delivs (h.set d1 d2) fun m hm => xG7 (xKT h2) m (List.mem_of_mem_take hm)
 ·exact h
theorem xGk {st : St} {chs : List xBK} {ch : Int} {d : List UInt8} : (xCe chs ch d st).length = st.length := by
 unfold xCe
 split
 ·exact List.length_set
 ·rfl
theorem xDN {chs : List xBK} : ∀ {ms : List (Int × Int × List UInt8)} {st : St}, (xCk chs ms st).length = st.length
 | [], _ => rfl
 | m :: ms, st => (xDN (ms := ms) (st := xCe chs m.1 m.2.2 st)).trans xGk
theorem xF6 {st : St} {chs : List xBK} {part win : Int} : (xB5 chs part win st).length = st.length := by
 unfold xB5
 split
 ·rw [xDN, List.length_set]
 ·rfl
theorem xEr {st : St} {chs : List xBK} {part win : Int} : (xCF chs part win st).length ≤ 4096 := by
 unfold xCF xDH
 split
 ·rw [List.length_take]; omega
 ·exact Nat.zero_le _
theorem xH5 {st : St} {chs : List xBK} {ch : Int} {d : List UInt8} : (xCe chs ch d st).map (List.map AP.c) = st.map (List.map AP.c) := by
 unfold xCe
 split
 ·rename_i ho
  rw [List.map_set, xvZ]
  have h : (ix chs ch).tp.toNat < st.length := by have := ho.2.1; have := ho.2.2; omega
  have e0 : ix st (ix chs ch).tp = st[(ix chs ch).tp.toNat] := Option.some.inj ((Yi ho.2.1 ho.2.2).symm.trans (List.getElem?_eq_getElem h))
  have e : (ix st (ix chs ch).tp).map AP.c = (st.map (List.map AP.c))[(ix chs ch).tp.toNat]'(by simpa using h) := by rw [List.getElem_map, e0]
  rw [e]; exact List.set_getElem_self _
 ·rfl
theorem xEg {chs : List xBK} : ∀ {ms : List (Int × Int × List UInt8)} {st : St}, (xCk chs ms st).map (List.map AP.c) = st.map (List.map AP.c)
 | [], _ => rfl
 | m :: ms, st => (xEg (ms := ms) (st := xCe chs m.1 m.2.2 st)).trans xH5
theorem xEG {chs : List xBK} : ∀ {l : List Int} {ab : List AP}, (xCl ab chs l).map AP.c = ab.map AP.c
 | [], _ => rfl
 | k :: l, ab => (xEG (l := l) (ab := YQ ab (ix chs k).fo)).trans xs6
theorem xGm {st : St} {chs : List xBK} {part win : Int} : (xB5 chs part win st).map (List.map AP.c) = st.map (List.map AP.c) := by
 unfold xB5
 split
 ·rename_i hi
  rw [xEg, List.map_set, xEG]
  have h : part.toNat < st.length := by have := hi.1; have := hi.2; omega
  have e : (ix st part).map AP.c = (st.map (List.map AP.c))[part.toNat]'(by simpa using h) := by simp [ix, h]
  rw [e]; exact List.set_getElem_self _
 ·rfl
end
structure xBM where
 b : Nat
 C : CC
 c : CM
 w : CW
 gs : List Xe
instance xNg : Inhabited CC := ⟨⟨default, 0, [], 0⟩⟩
instance xMM : Inhabited xBM := ⟨⟨0, default, V4 default, ⟨⟨none, 0, 0⟩, 0, 0, 0, 0, 0, none, ⟨none, 0, 0⟩⟩, []⟩⟩
def xBM.pt (x : xBM) : Pt := ⟨some x.b⟩
abbrev xLS (x : xBM) : List Xc := [ZA x.b x.C x.c.mode x.c.win x.w, sl false x.w.ts.v (x.gs.map Xe.pt), fam Zg x.gs, YG x.w.tb x.c.tb, Y1 x.w.mem x.c.mem, objX x.w.obs x.C.conf x.c.obs, xsI x.w.mon x.C.conf.acts.d, Zw x.w.slk x.c.slk, sl false x.w.ev.v x.c.evs, sl true x.C.conf.procs.s.v x.C.conf.procs.d]
def xCN (x : xBM) : Xc := sepL (xLS x)
section
variable {x : xBM} {g : PG} {Gs : List PG} {xs : List xBM} {l l1 l2 : List Xc} {X : WP} {p k : Nat} {ps : List AP}
theorem xH6 (h : Tr (xLS x ++ l) X) : Tr (xCN x :: l) X := Tr.imp Imp.sepO h
theorem xGW (x : xBM) (ht : YK l (xLS x) l1) (h : Tr (xCN x :: l1) X) : Tr l X := Tr.imp (Imp.trans ht Imp.sepC) h
theorem xIz (hp : g.p = p) (h1 : g.ab = ps) (h2 : wfP g.gs) (ht : Xm l (xBT g) l1) (h : Tr (X2 p ps :: l1) X) : Tr l X := by
 subst hp
 exact Tr.imp (Imp.trans ht (xJq h1 h2)) h
theorem xFb (ht : Xm l (X2 p ps) l1) (h : ∀ g : PG, g.p = p → g.ab = ps → wfP g.gs → Tr (xBT g :: l1) X) : Tr l X := Tr.imp ht (xIR h)
theorem xFJ (hk : k < Gs.length) (h1 : Xm l (xBT g) l1) (h2 : Xm l1 (fam xBT (Gs.eraseIdx k)) l2) (h : Tr (fam xBT (Gs.set k g) :: l2) X) : Tr l X :=
 Tr.imp (Imp.trans h1 (Imp.trans (Imp.cons h2) (xgz hk))) h
theorem xF5 (hk : k < xs.length) (h1 : Xm l (xCN x) l1) (h2 : Xm l1 (fam xCN (xs.eraseIdx k)) l2) (h : Tr (fam xCN (xs.set k x) :: l2) X) : Tr l X :=
 Tr.imp (Imp.trans h1 (Imp.trans (Imp.cons h2) (xgz hk))) h
structure xGd (x : xBM) (g : PG) (cyc : Int) : Prop where
 c : okC x.C
 r : Rel x.C x.c x.w x.gs
 i : xDt x.C x.c cyc
 p : g.p = x.C.pp
 a : g.ab = x.c.pts
 w : wfP g.gs
theorem xLA : ∀ {Gs : List PG}, fam xBT (Gs.map nmP) = fam xBT Gs := xFo fun _ => xIc
theorem xMO : (Gs.map nmP).map PG.pt = Gs.map PG.pt := by rw [List.map_map]; rfl
theorem xMJ : (Gs.map nmP).map PG.ab = Gs.map PG.ab := by rw [List.map_map, show (PG.ab ∘ nmP) = PG.ab from funext fun x => xLp]
theorem xMv {n : Nat} (h : xDS Gs n) (hs : StI (Gs.map PG.ab)) : ∀ g ∈ Gs.map nmP, wfP g.gs := fun g hg => by
 obtain ⟨g0, h0, rfl⟩ := List.mem_map.1 hg
 exact xLH (hs.a g0.ab (List.mem_map.2 ⟨g0, h0, rfl⟩)) (h g0 h0)
end
structure xMy (C : CC) (ls : List xBI) (bud q : Int) (N : Nat) (mb : CM) (cy0 : Int) (n : Nat) (m : CM) (w : CW) (gs : List Xe) (cy : Int) : Prop where
 r : Rel C m w gs
 i : xDt C m cy
 l : (JZ m).toNat < n
 e : xCt C ls bud q N mb cy0 = xCt C ls bud q n m cy
 v : m.evs.length + n * 122 ≤ mb.evs.length + N * 122
section
attribute [local irreducible] BrK Xq Xt Xv XI FnK XZ Xw XC XV opX opK Yq Yk eqR Yj Yo Ys WL WD W X3 XO Tr drewK Ya X4 Yw Yv X1 YB mp blk rob sl sep ex fact old
section
attribute [local irreducible] xBG inB xBZ xB7 xBJ xB8 Zg Zw Y1 X2 objX xCx xBT xCN xCW xB5 xCF
section
variable {p : Nat} {c : xs2} {y : SyW} {k q : Int} {pw : xDJ} {ls : List xBI} {ac : List xBL} {s : SV} {xs : List xBM} {Gs : List PG} {seen : List Int} {evs : List EvC} {ms : List xBH}
theorem xGI (hG : Gs.length = xs.length) (hA : ac.length = xs.length) (hS : seen.length = xs.length) (h0 : 0 ≤ k) (h1 : k < xs.length) (hI : xGd (ix xs k) (ix Gs k) (ix ac k).cyc) (hse : ix seen k = ((ix xs k).c.evs.length : Int)) (hWf : ∀ g ∈ Gs, wfP g.gs) (hSt : StI (Gs.map PG.ab)) (hn : xw9 (ix xs k).C ≤ 1000) (he : (ix xs k).c.evs.length ≤ 300000000) (hev : evs.length ≤ 500000000) (hms : ms.length ≤ 500000000) (hl : ls.length ≤ 1000000000) (ht : okT ls) :
  Xb prog 47 #[.pointer (some ⟨p, 0, none⟩), .int .i64 k] [xGl p c y, sl true y.cs.v (xs.map xBM.pt), sl true y.ps.v (Gs.map PG.pt), sl false y.sn.v seen, sl false y.ev.v evs, sl false y.ms.v ms, fzl ms, xEy y.bk s, sl false s.v (ac.map xBL.pt), fam (xCx q pw) ac, fam xCN xs, fam xBT Gs, sl true pw.levels.v ls, sl true c.chans.s.v c.chans.d]
  fun v l' => ∃ (se sm : SV) (x2 : xBM) (m2 : List xBH) (Gs2 : List PG) (R : CM × Int), R = xCW (ix xs k).C ls (ix ac k).bud q (ix xs k).c (ix ac k).cyc ∧ x2.b = (ix xs k).b ∧ x2.C = (ix xs k).C ∧ x2.c = R.1 ∧ Rel x2.C x2.c x2.w x2.gs ∧ xDt x2.C x2.c R.2 ∧ okA R.1.pts ∧
   Gs2.map PG.pt = Gs.map PG.pt ∧ Gs2.map PG.ab = xB5 c.chans.d k R.1.win ((Gs.map PG.ab).set k.toNat R.1.pts) ∧ (∀ g ∈ Gs2, wfP g.gs) ∧ m2.map xBH.ab = xCF c.chans.d k R.1.win ((Gs.map PG.ab).set k.toNat R.1.pts) ∧ v = .tuple #[] ∧
   l' = [xGl p c { y with ev := se, ms := sm }, sl false y.sn.v (seen.set k.toNat (R.1.evs.length : Int)), sl false se.v (evs ++ R.1.evs.drop (ix xs k).c.evs.length), sl false sm.v (ms ++ m2), fzl (ms ++ m2), xEy y.bk s, sl false s.v (ac.map xBL.pt), fam (xCx q pw) (ac.set k.toNat { ix ac k with cyc := R.2 }), fam xCN (xs.set k.toNat x2), fam xBT Gs2] := by
 intro F K hK
 simp only [ap]
 have hpp : (ix Gs k).p = (ix xs k).w.pts := hI.p.trans hI.r.hq.symm
 have hb := Xp (f := xBM.pt) (xs := xs) h0 h1
 have hbx : ix (xs.map xBM.pt) k = ⟨some (ix xs k).b⟩ := hb
 have hlc : (xs.map xBM.pt).length = xs.length := List.length_map _
 have h2 : ac.length = (xs.map xBM.pt).length := by rw [hlc]; exact hA
 refine Tr.famAt (A := xCN) (xs := xs) k S.K h0 h1 (xH6 ?_)
 simp only [ap]
 refine Tr.famAt (A := xBT) (xs := Gs) k S.K h0 S.o ?_
 refine xIz (g := ix Gs k) (p := (ix xs k).w.pts) hpp hI.a hI.w S.K ?_
 obtain ⟨hc, hr, hw, _, _, _⟩ := hI
 generalize hxk : ix xs k = x0 at *
 obtain ⟨b, C, m, w, gs⟩ := x0
 simp only at hpp hb hbx hc hr hw hse hn he ⊢
 have hf : few m 1000000 := by unfold few; omega
 obtain ⟨w1, w2, w3, w4⟩ := hw.begin hc
 have hbg := xfz (b := b) hc hr (by unfold few at *; omega)
 refine S.I fun u => ?_
 have hX := I3 @xGD.eq_def hb h2; repeat' (first | rintro _ _ ⟨wb, gb, hrb, rfl, rfl⟩ | (refine G.call 82 ?_; refine S.c ?_ (h := hbg)) | refine S.x ?_ | intro hb | fail)
 obtain ⟨N, hN⟩ : ∃ N : Nat, N = (xw9 C).toNat + 1 := ⟨_, rfl⟩
 obtain ⟨mb, hmb⟩ : ∃ mb, mb = ZL C m := ⟨_, rfl⟩
 rw [← hmb] at w1 w2 w3 w4 hrb ⊢
 obtain ⟨bud, hbud⟩ : ∃ bud, bud = (ix ac k).bud := ⟨_, rfl⟩
 obtain ⟨cy0, hcy0⟩ : ∃ cy0, cy0 = (ix ac k).cyc := ⟨_, rfl⟩
 obtain ⟨f, hfd⟩ : ∃ f : Int → List xBL, f = fun e => ac.set k.toNat { ix ac k with cyc := e } := ⟨_, rfl⟩
 have f0 : f cy0 = ac := by rw [hfd, hcy0]; exact xGZ h0 S.o
 have fl : ∀ e, (f e).length = ac.length := fun e => by rw [hfd]; exact List.length_set
 have fx : ∀ e, ix (f e) k = { ix ac k with cyc := e } := fun e => by
  rw [hfd]
  show ix (ac.set k.toNat _) k = _
  rw [YY ⟨h0, by omega⟩ h0, if_pos rfl]
 have fs : ∀ e e2, (f e).set k.toNat { ix ac k with cyc := e2 } = f e2 := fun e e2 => by rw [hfd]; exact List.set_set ..
 rw [← hcy0] at w1
 have fE : ∀ e, f e = ac.set k.toNat { ix ac k with cyc := e } := fun e => by rw [hfd]
 have fp : ∀ e, (f e).map xBL.pt = ac.map xBL.pt := fun e => by rw [fE]; exact xC7 h0 S.o rfl
 clear hfd
 rw [← f0]
 refine Tr.loopE (α := Nat × CM × CW × List Xe × Int) [] [0, 1, 4] (fun _ => []) (fun x => Xh b C x.2.1 x.2.2.1 x.2.2.2.1 ++ xEj y.bk s q pw (f x.2.2.2.2)) (fun x => xMy C ls bud q N mb cy0 x.1 x.2.1 x.2.2.1 x.2.2.2.1 x.2.2.2.2) (fun x => x.1) (N, mb, wb, gb, cy0) S.T rfl ⟨hrb, w1, by show (JZ mb).toNat < N; omega, rfl, Nat.le_refl _⟩ fun x u hx => ?_
 obtain ⟨n, m1, v1, g1, cy⟩ := x
 obtain ⟨x1, x2, x3, x4, x5⟩ := hx
 simp only at x1 x2 x3 x4 x5 ⊢
 simp only [ap]
 have hc0 := x2.c0
 have hc1 := x2.c1
 have hwt := xao (b := b) hc x1
 have hpi := xHX (p := y.bk) (s := s) (q := q) (pw := pw) (gs := f cy) (n := X0 m1) h0 (by rw [fl]; omega) hl ht (by rw [fx]; show cy ≤ _; omega)
 rw [fx] at hpi
 simp only at hpi
 rw [← hbud] at hpi
 by_cases hp1 : xBO ls bud q cy (X0 m1) < 1
 ·have hend : xCt C ls bud q N mb cy0 = (m1, cy) := by
   rw [x4]
   cases n with
   | zero => omega
   | succ n => unfold xCt; rw [if_pos hp1]
  have hX := @xGD.eq_def; repeat' (first | rintro _ _ ⟨rfl, rfl⟩ | (refine G.call 84 ?_; refine S.c ?_ (h := hwt)) | (refine G.call 83 ?_; refine S.c ?_ (h := hpi)) | refine S.x ?_ | fail)
  have hwin : xCW C ls (ix ac k).bud q m (ix ac k).cyc = (m1, cy) := by
   rw [← hbud, ← hcy0]
   unfold xCW
   rw [← hN, ← hmb]; exact hend
  have hup := (xEP hc (ls := ls) (bud := bud) (q := q) N w1).2.1
  rw [hend] at hup
  simp only at hup
  refine xFb (p := v1.pts) (ps := m1.pts) S.K fun g hg1 hg2 hg3 => ?_
  refine xFJ (Gs := Gs) (k := k.toNat) (g := g) S.o S.K S.K ?_
  have hcol := xGc (p := p) (c := c) (y := y) (b := b) (C := C) (w := v1) (m := m1) (k := k) (cells := xs.map xBM.pt) (seen := seen) (evs := evs) h0 (by rw [hlc]; exact h1) (by rw [hlc]; exact hS) hbx (by rw [hse]; omega) (by rw [hse]; omega) S.o S.o
  have hX := @xGD.eq_def; repeat' (first | rintro _ _ ⟨rfl, rfl⟩ | rintro _ _ ⟨se, rfl, rfl⟩ | (refine G.call 87 ?_; refine S.c ?_ (h := hcol)) | refine S.x ?_ | (refine G.call 89 ?_; refine S.c ?_ (h := xsy)) | fail)
  have hce : List.take 13 (List.drop 12 [se.v, y.ms.v, y.bd.v, Value.slice none 0 0, Value.int IntKind.i64 0, Value.int IntKind.i64 0, Value.int IntKind.i64 0, Value.int IntKind.i64 0, y.sh.v, y.md.v, y.cr.v, Value.int IntKind.i64 0, c.parts.s.v, c.chans.s.v, c.modes.s.v, c.levels.s.v, c.naps.s.v, Value.int IntKind.i64 c.sw, Value.int IntKind.i64 c.idle, Value.int IntKind.i64 c.change, Value.int IntKind.i64 c.quantum, Value.int IntKind.i64 c.slow, Value.int IntKind.i64 c.ppm, c.down.s.v, c.up.s.v, y.cs.v, y.ps.v, y.sn.v, Value.pointer (some { block := y.bk, off := 0 })]) = En.enc c := rfl
  rw [hce]
  have hGp : (Gs.set k.toNat g).map PG.pt = Gs.map PG.pt := xC7 h0 S.o (by show PG.pt g = _; unfold PG.pt; rw [hg1, hpp, hr.hq, x1.hq])
  have hGa : (Gs.set k.toNat g).map PG.ab = (Gs.map PG.ab).set k.toNat m1.pts := by rw [List.map_set, hg2]
  have hSt2 : StI ((Gs.map PG.ab).set k.toNat m1.pts) := hSt.set (by rw [← hg2]; exact xGr hg3) x2.m
  have hvL : xDS (Gs.set k.toNat g) 16 := fun z hz => by
   rcases List.mem_or_eq_of_mem_set hz with h' | rfl
   ·exact (hWf z h').1
   ·exact hg3.1
  have hfl := xJt (u0 := .agg (En.enc c).toArray) (c := c.c) (hd := ⟨rfl⟩) (chs := c.chans.d) (part := k) (win := m1.win) (all := y.ps) (Gs := Gs.set k.toNat g) (n := 16) hvL (by decide) (by rw [hGa]; exact xKT (hSt2.ix h0 (by rw [List.length_set, List.length_map]; omega)).2)
  rw [hGp] at hfl
  have hX := @xGD.eq_def; repeat' (first | rintro _ _ ⟨Gs2, s2, m2, e1, e2, e3, e4, rfl, rfl⟩ | (refine G.call 88 ?_; refine S.c ?_ (h := hfl)) | refine S.x ?_ | fail)
  have hm2 : m2.length ≤ 4096 := by
   have := congrArg List.length e1
   rw [List.length_map] at this
   rw [this]; exact xEr
  have hX := @xGD.eq_def; repeat' (first | intro (sm : SV) | refine S.x ?_ | fail)
  all_goals
   rw [hGa] at e1 e4
   rw [fp, fE, hse, Int.toNat_natCast, show fam xBT Gs2 = fam xBT (Gs2.map nmP) from xLA.symm]
   have hw2 : ∀ z ∈ Gs2.map nmP, wfP z.gs := xMv e2 (by rw [e4]; exact hSt2.flush)
   refine xGW ⟨b, C, m1, v1, g1⟩ S.T ?_
   refine xF5 (xs := xs) (k := k.toNat) S.o S.K S.K ?_
   refine Tr.fin hK ⟨se, sm, ⟨b, C, m1, v1, g1⟩, m2, Gs2.map nmP, (m1, cy), hwin.symm, rfl, rfl, rfl, x1, x2, hg2 ▸ xGr hg3, xMO.trans e3, xMJ.trans e4, hw2, e1, rfl, rfl⟩ ?_
   exact S.E
 ·cases n with
  | zero => omega
  | succ n =>
   obtain ⟨y1, y2⟩ := xHM hc x2.i x2.r x3 hp1
   have hst : xCt C ls bud q N mb cy0 = xCt C ls bud q n (xaO C m1 (xBO ls bud q cy (X0 m1))) (xCb ls cy (xcH m1 (xBO ls bud q cy (X0 m1)))) := by
    rw [x4]
    show (if _ then _ else _) = _
    rw [if_neg hp1]
   have hI := x2.ran (ls := ls) hc (k := xBO ls bud q cy (X0 m1)) (j := xcH m1 (xBO ls bud q cy (X0 m1)))
   obtain ⟨_, z2, z3⟩ := xGg hc x2.i x2.r x2.m (k := xBO ls bud q cy (X0 m1))
   have hran := xgP (b := b) (cyc := xBO ls bud q cy (X0 m1)) hc x1 (by unfold few at *; omega) x2.i.dp x2.i.p x2.r.le
   have hsp := xHI (p := y.bk) (s := s) (q := q) (pw := pw) (gs := f cy) (n := xcH m1 (xBO ls bud q cy (X0 m1))) h0 (by rw [fl]; omega) hl ht (by rw [fx]; exact hc0) (by rw [fx]; exact hc1)
   rw [fx, fs] at hsp
   simp only at hsp
   rw [y2] at hst hI hsp hran
   have hX := @xGD.eq_def; repeat' (first | rintro _ _ ⟨rfl, rfl⟩ | rintro _ _ ⟨er, rfl, rfl⟩ | rintro _ _ ⟨v2, g2, x6, rfl, rfl⟩ | (refine G.call 84 ?_; refine S.c ?_ (h := hwt)) | (refine G.call 83 ?_; refine S.c ?_ (h := hpi)) | (refine G.call 86 ?_; refine S.c ?_ (h := hran)) | (refine G.call 85 ?_; refine S.c ?_ (h := hsp)) | refine S.x ?_ | fail)
   all_goals
    have hXI : xMy C ls bud q N mb cy0 n (xaO C m1 (xBO ls bud q cy (X0 m1))) v2 g2 (xCb ls cy (xBO ls bud q cy (X0 m1))) := ⟨x6, hI, y1, hst, by omega⟩
    exact S.R ((n, xaO C m1 (xBO ls bud q cy (X0 m1)), v2, g2, xCb ls cy (xBO ls bud q cy (X0 m1))) : Nat × CM × CW × List Xe × Int)
end
end
def xCh (xs : List xBM) (Gs : List PG) : List xBM := List.zipWith (fun x g => { x with c := { x.c with pts := g.ab } }) xs Gs
theorem xE1 : ∀ {xs : List xBM} {Gs : List PG}, Gs.length = xs.length → fam xCN (xCh xs Gs) = fam xCN xs
 | [], [], _ => rfl
 | x :: xs, g :: Gs, h => by
  show sep (xCN _) (fam xCN (xCh xs Gs)) = sep (xCN x) (fam xCN xs)
  rw [xE1 (by simpa using h)]
  rfl
 | [], _ :: _, h => by simp at h
 | _ :: _, [], h => by simp at h
theorem xD0 {xs : List xBM} {Gs : List PG} (h : Gs.length = xs.length) : (xCh xs Gs).length = xs.length := by
 unfold xCh
 rw [List.length_zipWith]; omega
theorem xDY {xs : List xBM} {Gs : List PG} (h : Gs.length = xs.length) {k : Int} (h0 : 0 ≤ k) (h1 : k < xs.length) : ix (xCh xs Gs) k = { ix xs k with c := { (ix xs k).c with pts := (ix Gs k).ab } } := by
 have e1 := Yi (xs := xs) h0 h1
 have e2 := Yi (xs := Gs) h0 S.o
 have e3 := Yi (xs := xCh xs Gs) h0 (by rw [xD0 h]; exact h1)
 unfold xCh at e3
 rw [List.getElem?_zipWith, e1, e2] at e3
 exact (Option.some.inj e3).symm
structure xFy (xs : List xBM) (Gs : List PG) (ac : List xBL) (seen : List Int) (E : Nat) : Prop where
 lG : Gs.length = xs.length
 lA : ac.length = xs.length
 lS : seen.length = xs.length
 i : ∀ k : Int, 0 ≤ k → k < xs.length → xGd (ix xs k) (ix Gs k) (ix ac k).cyc
 s : ∀ k : Int, 0 ≤ k → k < xs.length → ix seen k = ((ix xs k).c.evs.length : Int)
 e : ∀ k : Int, 0 ≤ k → k < xs.length → (ix xs k).c.evs.length ≤ E
 st : StI (Gs.map PG.ab)
 w : ∀ g ∈ Gs, wfP g.gs
 n : ∀ k : Int, 0 ≤ k → k < xs.length → xw9 (ix xs k).C ≤ 1000
section
variable {x : xBM} {g g2 : PG} {cyc : Int}
theorem xGd.of (h1 : okC x.C) (h2 : Rel x.C x.c x.w x.gs) (h3 : xDt x.C x.c cyc) (hp : g2.p = x.C.pp) (hc : g2.ab.map AP.c = x.c.pts.map AP.c) (hm : mD g2.ab) (hw : wfP g2.gs) : xGd { x with c := { x.c with pts := g2.ab } } g2 cyc := by
 obtain ⟨a1, a2⟩ := xlR h1 h3.i h3.r hc
 exact ⟨h1, Ww h2, ⟨a1, a2, hm, h3.c0, h3.c1⟩, hp, rfl, hw⟩
theorem xC9 {α : Type} [Inhabited α] {xs : List α} {k j : Int} {y : α} (h0 : 0 ≤ k) (h1 : k < xs.length) (hj : 0 ≤ j) : ix (xs.set k.toNat y) j = if j = k then y else ix xs j := YY ⟨h0, h1⟩ hj
theorem xFy.win {xs : List xBM} {Gs Gs2 : List PG} {ac : List xBL} {seen : List Int} {E : Nat} {k win : Int} {chs : List xBK} {x2 : xBM} {R : CM × Int} (h : xFy xs Gs ac seen E) (h0 : 0 ≤ k) (h1 : k < xs.length) (hC : x2.C = (ix xs k).C) (hc : x2.c = R.1) (hr : Rel x2.C x2.c x2.w x2.gs) (hi : xDt x2.C x2.c R.2)
  (hpt : Gs2.map PG.pt = Gs.map PG.pt) (hab : Gs2.map PG.ab = xB5 chs k win ((Gs.map PG.ab).set k.toNat R.1.pts)) (hw : ∀ g ∈ Gs2, wfP g.gs) (hE : R.1.evs.length ≤ (ix xs k).c.evs.length + 200000) (hokA : okA R.1.pts) :
  xFy (xCh (xs.set k.toNat x2) Gs2) Gs2 (ac.set k.toNat { ix ac k with cyc := R.2 }) (seen.set k.toNat (R.1.evs.length : Int)) (E + 200000) := by
 have hl2 : Gs2.length = Gs.length := by have := congrArg List.length hpt; simpa using this
 have hls : (xs.set k.toNat x2).length = xs.length := List.length_set
 have hG2 : Gs2.length = (xs.set k.toNat x2).length := by rw [hls, hl2]; exact h.lG
 have hlw := xD0 hG2
 have hI := h.i k h0 h1
 have hkG : k < (Gs.map PG.ab).length := by rw [List.length_map, h.lG]; exact h1
 have hst1 : StI ((Gs.map PG.ab).set k.toNat R.1.pts) := by
  refine h.st.set ?_ ?_
  ·exact hokA
  ·rw [← hc]; exact hi.m
 have hst2 : StI (Gs2.map PG.ab) := by rw [hab]; exact hst1.flush
 have hcs := congrArg (List.map (List.map AP.c)) hab
 rw [xGm, List.map_set] at hcs
 have hy : ∀ j : Int, 0 ≤ j → j < xs.length → (ix Gs2 j).p = (ix Gs j).p ∧ (ix Gs2 j).ab.map AP.c = (if j = k then R.1.pts else (ix Gs j).ab).map AP.c ∧ mD (ix Gs2 j).ab ∧ wfP (ix Gs2 j).gs := fun j hj0 hj1 => by
  have hjG : j < Gs.length := by rw [h.lG]; exact hj1
  have hjG2 : j < Gs2.length := by rw [hl2]; exact hjG
  refine ⟨?_, ?_, ?_, ?_⟩
  ·have e : ix (Gs2.map PG.pt) j = ix (Gs.map PG.pt) j := by rw [hpt]
   rw [Xp hj0 hjG2, Xp hj0 hjG] at e
   have := congrArg Pt.a e
   exact Option.some.inj this
  ·have e : ix ((Gs2.map PG.ab).map (List.map AP.c)) j = ix (((Gs.map PG.ab).map (List.map AP.c)).set k.toNat (R.1.pts.map AP.c)) j := by rw [hcs]
   rw [xC9 h0 (by rw [List.length_map]; exact hkG) hj0, Xp (f := List.map AP.c) hj0 (by rw [List.length_map]; exact hjG2), Xp (f := PG.ab) hj0 hjG2, Xp (f := List.map AP.c) hj0 (by rw [List.length_map]; exact hjG), Xp (f := PG.ab) hj0 hjG] at e
   rw [e]
   split <;> rfl
  ·have := hst2.m (ix Gs2 j).ab (List.mem_map.2 ⟨_, List.mem_of_getElem? (Yi hj0 hjG2), rfl⟩)
   exact this
  ·exact hw _ (List.mem_of_getElem? (Yi hj0 hjG2))
 refine ⟨by rw [hlw]; exact hG2, by rw [List.length_set, hlw, hls]; exact h.lA, by rw [List.length_set, hlw, hls]; exact h.lS, fun j hj0 hj1 => ?_, fun j hj0 hj1 => ?_, fun j hj0 hj1 => ?_, hst2, hw, fun j hj0 hj1 => ?_⟩
 ·rw [hlw, hls] at hj1
  obtain ⟨y1, y2, y3, y4⟩ := hy j hj0 hj1
  rw [xDY hG2 hj0 (by rw [hls]; exact hj1), xC9 h0 h1 hj0, xC9 h0 (by rw [h.lA]; exact h1) hj0]
  by_cases e : j = k
  ·subst e
   rw [if_pos rfl] at y2
   rw [if_pos rfl, if_pos rfl]
   exact xGd.of (by rw [hC]; exact hI.c) hr hi (by rw [hC, y1]; exact hI.p) (by rw [hc]; exact y2) y3 y4
  ·rw [if_neg e] at y2
   rw [if_neg e, if_neg e]
   have hj := h.i j hj0 hj1
   exact xGd.of hj.c hj.r hj.i (y1.trans hj.p) (by rw [y2, hj.a]) y3 y4
 ·rw [hlw, hls] at hj1
  rw [xDY hG2 hj0 (by rw [hls]; exact hj1), xC9 h0 h1 hj0, xC9 h0 (by rw [h.lS]; exact h1) hj0]
  by_cases e : j = k
  ·rw [if_pos e, if_pos e, hc]
  ·rw [if_neg e, if_neg e]; exact h.s j hj0 hj1
 ·rw [hlw, hls] at hj1
  rw [xDY hG2 hj0 (by rw [hls]; exact hj1), xC9 h0 h1 hj0]
  have he := h.e j hj0 hj1
  by_cases e : j = k
  ·rw [if_pos e, hc]
   subst e
   show R.1.evs.length ≤ _
   omega
  ·rw [if_neg e]
   show (ix xs j).c.evs.length ≤ _
   omega
 ·rw [hlw, hls] at hj1
  rw [xDY hG2 hj0 (by rw [hls]; exact hj1), xC9 h0 h1 hj0]
  by_cases e : j = k
  ·rw [if_pos e, hC]; exact h.n k h0 h1
  ·rw [if_neg e]; exact h.n j hj0 hj1
end
theorem xKu {C : CC} {ls : List xBI} {bud q cyc : Int} {c : CM} (hc : okC C) (h : xDt C c cyc) (hn : xw9 C ≤ 1000) : xDt C (xCW C ls bud q c cyc).1 (xCW C ls bud q c cyc).2 ∧ c.evs.length ≤ (xCW C ls bud q c cyc).1.evs.length ∧ (xCW C ls bud q c cyc).1.evs.length ≤ c.evs.length + 200000 := by
 obtain ⟨w1, w2, w3, _⟩ := h.begin hc
 obtain ⟨r1, r2, r3⟩ := xEP hc (ls := ls) (bud := bud) (q := q) ((xw9 C).toNat + 1) w1
 refine ⟨r1, ?_, ?_⟩
 ·show c.evs.length ≤ (xCt C ls bud q ((xw9 C).toNat + 1) (ZL C c) cyc).1.evs.length
  omega
 ·show (xCt C ls bud q ((xw9 C).toNat + 1) (ZL C c) cyc).1.evs.length ≤ _
  omega
instance xNa : Inhabited CM := ⟨V4 default⟩
structure PlM where
 cs : List CM
 cyc : List Int
 evs : List EvC
 ms : List (Int × Int × List UInt8)
 sheds : List Int
 modes : List Int
 creds : List (List Int)
def xDZ (Cs : List CC) (buds : List Int) (ls : List xBI) (q : Int) (chs : List xBK) (k : Int) (t : PlM) : PlM :=
 { t with
  cs := List.zipWith (fun c p => { c with pts := p }) (t.cs.set k.toNat (xCW (ix Cs k) ls (ix buds k) q (ix t.cs k) (ix t.cyc k)).1) (xB5 chs k (xCW (ix Cs k) ls (ix buds k) q (ix t.cs k) (ix t.cyc k)).1.win ((t.cs.map CM.pts).set k.toNat (xCW (ix Cs k) ls (ix buds k) q (ix t.cs k) (ix t.cyc k)).1.pts))
  cyc := t.cyc.set k.toNat (xCW (ix Cs k) ls (ix buds k) q (ix t.cs k) (ix t.cyc k)).2
  evs := t.evs ++ (xCW (ix Cs k) ls (ix buds k) q (ix t.cs k) (ix t.cyc k)).1.evs.drop (ix t.cs k).evs.length
  ms := t.ms ++ xCF chs k (xCW (ix Cs k) ls (ix buds k) q (ix t.cs k) (ix t.cyc k)).1.win ((t.cs.map CM.pts).set k.toNat (xCW (ix Cs k) ls (ix buds k) q (ix t.cs k) (ix t.cyc k)).1.pts) }
def xC6 (c : xs2) (Cs : List CC) (buds : List Int) (level : Int) : List xB9 → PlM → PlM
 | [], t => t
 | w :: ws, t => xC6 c Cs buds level ws (if isM (ix c.parts.d w.part).ladder level = true then t else xDZ Cs buds c.levels.d (qM c.quantum) c.chans.d w.part t)
def xCi (c : xs2) (Cs : List CC) (buds : List Int) (g : xBR) (t : PlM) : PlM :=
 let t1 := xC6 c Cs buds g.level (xB3 c g) { t with cyc := t.cyc.map fun _ => 0 }
 { t1 with sheds := t1.sheds ++ [g.level], modes := t1.modes ++ [g.mode], creds := t1.creds ++ [t1.cyc.map fun n => (xBJ c.levels.d n).1] }
