import Derived.Test.YtmebccjndhlpoaaGreatZ42
namespace Go.Proofs.YtmebccjndhlpoaaGreat
open Go Go.Wk Tryz
set_option maxHeartbeats 3200000
set_option maxRecDepth 100000
def xCA (c : xs2) (pp : List xB0) (k : Int) : CC := ⟨ix c.parts.d k, k, J1 (xCw pp k).d (ix c.parts.d k).procs.d.length, 0⟩
structure xG1 (pp : List xB0) : Prop where
 l : ∀ p ∈ pp, ∀ x ∈ p.d, x.d.length ≤ 64
 s : ∀ p ∈ pp, ∀ x ∈ p.d, ∀ s ∈ x.d, s.ok
theorem xHN {xs : List (SL XE)} {n : Nat} (hl : ∀ x ∈ xs, x.d.length ≤ 1000000) (hs : ∀ x ∈ xs, ∀ s ∈ x.d, s.ok) : ∀ p ∈ J1 xs n, p ≠ [] ∧ p.length ≤ 1000000 ∧ ∀ s ∈ p, s.ok := fun p hp => by
 obtain ⟨k, hk, rfl⟩ := List.mem_map.1 hp
 unfold Vq
 split
 ·rename_i hk
  have hm : ix xs (k : Int) ∈ xs := List.mem_of_getElem? (Yi S.o S.o)
  exact ⟨hk.2, hl _ hm, hs _ hm⟩
 ·refine ⟨by simp [Y7], by decide, fun s hs => ?_⟩
  rw [List.mem_singleton.1 hs]
  exact ⟨by decide, by decide, by decide, by decide⟩
theorem xFV {c : xs2} {pp : List xB0} {k : Int} (h : xkj (ix c.parts.d k)) (hs : xG1 pp) : okC (xCA c pp k) := by
 have hl : (xCA c pp k).progs.length = (ix c.parts.d k).procs.d.length := xeG
 refine ⟨by rw [hl]; exact h.n1, by rw [hl]; exact h.n8, hl.symm, ?_, by have := h.c9; show (ix c.parts.d k).cap ≤ _; omega, fun x hx => by have := h.p x hx; omega, fun x hx => (h.b.1 x hx).2, fun x hx => by have := (h.b.1 x hx).1; omega, fun x hx => by have := h.b.2 x hx; omega, fun x hx => by have := (h.o x hx).1; omega, fun x hx => (h.o x hx).2, h.r⟩
 refine xHN (fun x hx => ?_) (fun x hx => ?_) <;> unfold xCw at hx <;> split at hx
 ·rename_i hk
  have := hs.l _ (List.mem_of_getElem? (Yi hk.1 hk.2)) x hx
  omega
 ·cases hx
 ·rename_i hk
  exact hs.s _ (List.mem_of_getElem? (Yi hk.1 hk.2)) x hx
 ·cases hx
theorem xEo {C : CC} {p : Nat} (h : okC C) : okC (C.loc p) := ⟨h.n0, h.n8, h.np, h.pr, h.cap, h.cost, h.dep, h.pz, h.lz, h.oz, h.od, h.rz⟩
theorem xJx {C : CC} (hc : okC C) (h : C.conf.cap ≤ 300) : xw9 C ≤ 300 := by
 unfold xw9
 rw [xiS (xfg hc)]
 have : (Z9 C.conf).room ≤ 300 := by unfold Z9; simp only; split <;> omega
 split <;> omega
theorem xIJ {C : CC} (hc : okC C) : mD (Qn C).pts := by
 have hr : Rch C 0 (V4 C) (Qn C) := xaj _ (Nat.le_refl _)
 refine hr.md ?_
 intro p hp
 obtain ⟨x, hx, rfl⟩ := List.mem_map.1 (show p ∈ Wm C.conf.ports.d from hp)
 exact ⟨hc.oz x (List.mem_of_mem_take hx), fun d hd => by cases hd⟩
structure xKt (C0 : CC) (x : xBM) (g : PG) : Prop where
 C : x.C = C0.loc x.w.pts
 c : x.c = Qn x.C
 r : Rel x.C x.c x.w x.gs
 p : g.p = x.w.pts
 a : g.ab = x.c.pts
 w : wfP g.gs
theorem xKt.i {C0 : CC} {x : xBM} {g : PG} (hc : okC C0) (h : xKt C0 x g) : xGd x g 0 := by
 have hC : okC x.C := by rw [h.C]; exact xEo hc
 obtain ⟨n1, n2, _⟩ := xmr hC
 exact ⟨hC, h.r, by rw [h.c]; exact ⟨n1, n2, xIJ hC, by omega, by omega⟩, by rw [h.p]; exact h.r.hq, h.a, h.w⟩
abbrev t0 (Cs : List CC) : PlM := ⟨Cs.map Qn, Cs.map fun _ => 0, [], [], [], [], []⟩
structure xDP (c : xs2) (pp : List xB0) (n : Nat) (xs : List xBM) (Gs : List PG) : Prop where
 lx : xs.length = n
 lg : Gs.length = n
 i : ∀ k : Int, 0 ≤ k → k < n → xKt (xCA c pp k) (ix xs k) (ix Gs k)
theorem xDP.snoc {c : xs2} {pp : List xB0} {n : Nat} {xs : List xBM} {Gs : List PG} {x : xBM} {g : PG} (h : xDP c pp n xs Gs) (hx : xKt (xCA c pp (n : Int)) x g) : xDP c pp (n + 1) (xs ++ [x]) (Gs ++ [g]) := by
 refine ⟨by rw [List.length_append, h.lx]; rfl, by rw [List.length_append, h.lg]; rfl, fun k h0 h1 => ?_⟩
 by_cases hk : k = n
 ·subst hk
  have e1 : ix (xs ++ [x]) (n : Int) = x := by unfold ix; rw [Int.toNat_natCast, ← h.lx]; simp
  have e2 : ix (Gs ++ [g]) (n : Int) = g := by unfold ix; rw [Int.toNat_natCast, ← h.lg]; simp
  rw [e1, e2]; exact hx
 ·have hkn : k < n := by omega
  have e1 : ix (xs ++ [x]) k = ix xs k := by unfold ix; rw [List.getD_eq_getElem?_getD, List.getD_eq_getElem?_getD, List.getElem?_append_left (by rw [h.lx]; omega)]
  have e2 : ix (Gs ++ [g]) k = ix Gs k := by unfold ix; rw [List.getD_eq_getElem?_getD, List.getD_eq_getElem?_getD, List.getElem?_append_left (by rw [h.lg]; omega)]
  rw [e1, e2]; exact h.i k h0 hkn
theorem xDP.sys {c : xs2} {pp : List xB0} {xs : List xBM} {Gs : List PG} {ac : List xBL} {ev ms : SV} (h : xDP c pp c.parts.d.length xs Gs) (hco : xDC c) (hs : xG1 pp) (hcap : ∀ k : Int, 0 ≤ k → k < c.parts.d.length → (ix c.parts.d k).cap ≤ 300) (hb : ac.map xBL.bud = c.parts.d.map YF.budget) (hz : ∀ g ∈ ac, g.cyc = 0) :
  SyI c (xs.map xBM.C) (xs.map xBM.pt) (Gs.map PG.pt) (ac.map xBL.pt) 0 ⟨ev, ms, xs, Gs, ac, List.replicate c.parts.d.length 0, [], t0 (xs.map xBM.C)⟩ := by
 have hla : ac.length = c.parts.d.length := by have := congrArg List.length hb; simpa using this
 have hok : ∀ k : Int, 0 ≤ k → k < c.parts.d.length → okC (xCA c pp k) := fun k h0 h1 => xFV (xFl (hco.p k h0 h1)) hs
 have hev : ∀ k : Int, 0 ≤ k → k < c.parts.d.length → (ix xs k).c.evs = [] := fun k h0 h1 => by
  have hN := h.i k h0 h1
  rw [hN.c]
  exact (xmr (by rw [hN.C]; exact xEo (hok k h0 h1))).2.2
 have hcx : xs.map xBM.c = (xs.map xBM.C).map Qn := by
  refine List.ext_getElem (by simp) fun i h1 h2 => ?_
  have hx : i < xs.length := by simpa using h1
  have e := (h.i (i : Int) S.o (by rw [← h.lx]; omega)).c
  have e1 : ix xs (i : Int) = xs[i] := by simp [ix, hx]
  rw [e1] at e
  simpa using e
 have hcy : ac.map xBL.cyc = (xs.map xBM.C).map fun _ => 0 := by
  refine List.ext_getElem (by simp [hla, h.lx]) fun i h1 h2 => ?_
  simp only [List.getElem_map]
  exact hz _ (List.getElem_mem _)
 have hst : StI (Gs.map PG.ab) := by
  refine ⟨fun x hx => ?_, fun x hx => ?_⟩ <;> obtain ⟨g, hg, rfl⟩ := List.mem_map.1 hx <;> obtain ⟨j, hj, e⟩ := List.mem_iff_getElem.1 hg
  all_goals
   have hN := h.i (j : Int) S.o (by rw [← h.lg]; omega)
   have e2 : ix Gs (j : Int) = g := by simp [ix, hj, e]
   rw [e2] at hN
  ·exact xGr hN.w
  ·show mD g.ab
   rw [hN.a, hN.c]
   exact xIJ (by rw [hN.C]; exact xEo (hok _ S.o (by rw [← h.lg]; omega)))
 refine ⟨⟨by show Gs.length = xs.length; rw [h.lx, h.lg], by show ac.length = xs.length; rw [hla, h.lx], by show (List.replicate _ _).length = xs.length; rw [List.length_replicate, h.lx], fun k h0 h1 => ?_, fun k h0 h1 => ?_, fun k h0 h1 => ?_, hst, fun g hg => ?_, fun k h0 h1 => ?_⟩, ⟨rfl, hcx, hcy⟩, h.lx, hb, Nat.le_refl _, Nat.le_refl _, rfl, rfl, rfl, rfl⟩
 ·rw [h.lx] at h1
  have hz0 : (ix ac k).cyc = 0 := hz _ (List.mem_of_getElem? (Yi h0 (by rw [hla]; exact h1)))
  show xGd (ix xs k) (ix Gs k) (ix ac k).cyc
  rw [hz0]
  exact (h.i k h0 h1).i (hok k h0 h1)
 ·rw [h.lx] at h1
  show ix (List.replicate _ _) k = ((ix xs k).c.evs.length : Int)
  rw [hev k h0 h1]
  unfold ix
  rw [List.getD_eq_getElem?_getD, List.getElem?_replicate]
  split <;> rfl
 ·rw [h.lx] at h1
  show (ix xs k).c.evs.length ≤ 0
  rw [hev k h0 h1]
  exact Nat.le_refl _
 ·have hg : g ∈ Gs := hg
  obtain ⟨j, hj, e⟩ := List.mem_iff_getElem.1 hg
  have hN := h.i (j : Int) S.o (by rw [← h.lg]; omega)
  have e2 : ix Gs (j : Int) = g := by simp [ix, hj, e]
  rw [e2] at hN
  exact hN.w
 ·rw [h.lx] at h1
  have hN := h.i k h0 h1
  show xw9 (ix xs k).C ≤ 1000
  have := xJx (C := (ix xs k).C) (by rw [hN.C]; exact xEo (hok k h0 h1)) (by rw [hN.C]; exact hcap k h0 h1)
  omega
theorem Tr.fzSteps3 {xs : List xB0} {l : List Xc} {X : WP} [hf : J8 l xs] (h : (∀ p ∈ xs, ∀ x ∈ p.d, ∀ s ∈ x.d, s.ok) → Tr l X) : Tr l X := fun w hw => by
 obtain ⟨R, h1, h3⟩ := hw
 refine h (fun p hp x hx s hs => ?_) w ⟨R, h1, h3⟩
 have h5 := xfe (xfe (Vh hf h1 (fun _ h => h) h3 p hp) x hx) s hs
 exact ⟨xfO (VB (VB h5)), xfO (VB (VB (VB h5))), xfO (VB (VB (VB (VB h5)))), xfO (VB (VB (VB (VB (VB h5)))))⟩
abbrev xn3 : SV := ⟨none, 0, 0⟩
theorem xLZ {b : Nat} {c : xs2} {pb : Nat} {sv : SV} {l : List Xc} {X : WP} (h : Tr (xGl b c ⟨xn3, xn3, xn3, xn3, xn3, xn3, xn3, xn3, sv, pb⟩ :: l) X) :
  Tr (blk b (.cells (((ZM [.slice none 0 0, .slice none 0 0, .slice none 0 0, .slice none 0 0, .int .i64 0, .int .i64 0, .int .i64 0, .int .i64 0, .slice none 0 0, .slice none 0 0, .slice none 0 0, .int .i64 0, .slice none 0 0, .slice none 0 0, .slice none 0 0, .slice none 0 0, .slice none 0 0, .int .i64 0, .int .i64 0, .int .i64 0, .int .i64 0, .int .i64 0, .int .i64 0, .slice none 0 0, .slice none 0 0, .slice none 0 0, .slice none 0 0, .slice none 0 0, .pointer none] 12 (En.enc c)).set 28 (.pointer (some ⟨pb, 0, none⟩))).set 27 sv.v).toArray 96 (0, 0)) :: l) X := h
instance xK1 {l : List Xc} {pp : List xB0} {k : Int} [hx : J8 l pp] : xaM l (xCw pp k) := ⟨fun w R U h1 h2 h3 => ⟨fun _ => False, by
 unfold xCw
 split
 ·rename_i h
  exact Vh hx h1 h2 h3 _ (List.mem_of_getElem? (Yi h.1 h.2))
 ·exact FzD.h (α := xB0) R w⟩⟩
section
attribute [local irreducible] BrK Xq Xt Xv XI FnK XZ Xw XC XV opX opK Yq Yk eqR Yj Yo Ys WL WD W X3 XO Tr drewK Ya X4 Yw Yv X1 YB mp blk rob sl sep ex fact old
section
attribute [local irreducible] xBG inB xBZ xB7 xBJ xB8 Zg Zw Y1 X2 objX xCx xBT xCN Qn
section
variable {c : xs2} {pp : List xB0} {ps fv : SV}
theorem xI3 (hs : shC c) (hco : xDC c) (hsc : xG1 pp) : Xb prog 25 #[.agg (En.enc c).toArray, .agg #[ps.v, fv.v]] [sl true c.parts.s.v c.parts.d, fzl c.parts.d, sl true ps.v pp, fzl pp]
  fun v l' => ∃ (p : Nat) (y : SyW) (s : SV) (xs : List xBM) (Gs : List PG) (ac : List xBL), xDP c pp c.parts.d.length xs Gs ∧ ac.map xBL.bud = c.parts.d.map YF.budget ∧ (∀ g ∈ ac, g.cyc = 0) ∧ v = .pointer (some ⟨p, 0, none⟩) ∧
   l' = xJf p c y s (ac.map xBL.pt) ⟨⟨none, 0, 0⟩, ⟨none, 0, 0⟩, xs, Gs, ac, List.replicate c.parts.d.length 0, [], t0 (xs.map xBM.C)⟩ ++ [sl true y.cs.v (xs.map xBM.pt), sl true y.ps.v (Gs.map PG.pt), sl false y.sh.v ([] : List Int), sl false y.md.v ([] : List Int), sl false y.cr.v ([] : List (SL Int)), fzl ([] : List (SL Int))] := by
 intro F K hK
 simp only [ap] at hK ⊢
 have hln := xKQ (c := c) hs
 have hpl := hs.p
 refine S.I fun u => ?_
 have hX := @xL7; repeat' (first | rintro _ _ ⟨pb, sb, ac, hb, hz, rfl, rfl⟩ | (refine G.call 40 ?_; refine S.c ?_ (h := hln)) | intro (nb : Nat) | intro (sv : SV) | refine S.x ?_ | refine S.y ?_ ?_ | fail)
 all_goals
  rename_i cb psb
  rw [show List.replicate ((c.parts.d.length : Nat) : Int).toNat (default : Int) = List.replicate c.parts.d.length 0 by rw [Int.toNat_natCast]; rfl]
  refine xLZ ?_
  refine Tr.nilSl (α := Pt) ?_
  refine Tr.nilSl (α := Pt) ?_
  refine Tr.loopE (α := Nat × SV × SV × List xBM × List PG) [21] [3, 4, 5, 19, 20] (fun z => [.int .i64 z.1]) (fun z => [xGl nb c ⟨xn3, xn3, xn3, xn3, xn3, xn3, z.2.1, z.2.2.1, sv, pb⟩, sl false z.2.1.v (z.2.2.2.1.map xBM.pt), sl false z.2.2.1.v (z.2.2.2.2.map PG.pt), fam xCN z.2.2.2.1, fam xBT z.2.2.2.2, cfB cb c, blk psb (.cells #[ps.v, fv.v] 37 (0, 0))]) (fun z => z.1 ≤ c.parts.d.length ∧ xDP c pp z.1 z.2.2.2.1 z.2.2.2.2) (fun z => c.parts.d.length - z.1) (0, xn3, xn3, [], []) S.T rfl ⟨Nat.zero_le _, ⟨rfl, rfl, fun k h0 h1 => by simp only at h1; omega⟩⟩ fun z u hz => ?_
  obtain ⟨k, s1, s2, xs, Gs⟩ := z
  obtain ⟨hk, hM⟩ := hz
  simp only at hk hM ⊢
  simp only [ap]
  have hlx : (xs.map xBM.pt).length = k := by rw [List.length_map]; exact hM.lx
  have hlg : (Gs.map PG.pt).length = k := by rw [List.length_map]; exact hM.lg
  have hlx2 := hM.lx
  have hlg2 := hM.lg
  have hn8 := hco.n8
  clear hln
  by_cases hin : k < c.parts.d.length
  ·have hw := Xo (k := k) S.o
   have hkn : (k : Int) < c.parts.d.length := by omega
   have hok : okC (xCA c pp (k : Int)) := xFV (xFl (hco.p (k : Int) S.o hkn)) hsc
   have hnc := xla (C := xCA c pp (k : Int)) (u0 := .agg (En.enc (ix c.parts.d (k : Int))).toArray) (s2 := (xCw pp (k : Int)).s) (xs := (xCw pp (k : Int)).d) (hu := ⟨rfl⟩) hok (by show J1 _ _ = J1 _ (J1 _ _).length; rw [xeG])
   have hpr := xFU (ps := ps) (fv := fv) (pp := pp) (k := (k : Int))
   rw [show (xCA c pp (k : Int)).conf = ix c.parts.d (k : Int) from rfl, show (xCA c pp (k : Int)).part = (k : Int) from rfl] at hnc
   obtain ⟨C0, hC0⟩ : ∃ C0, C0 = xCA c pp (k : Int) := ⟨_, rfl⟩
   rw [← hC0] at hnc
   have hX := I4 @xL7 hw hlx hlg; repeat' (first | rintro _ _ ⟨rfl, rfl⟩ | rintro _ _ ⟨b, w, gs, hr, rfl, rfl⟩ | (refine G.call 21 ?_; refine S.c ?_ (h := hpr)) | (refine G.call 41 ?_; refine S.c ?_ (h := hnc)) | (refine G.call 42 ?_; refine S.c ?_ (h := WW)) | intro (nk : Nat) | intro (sx : SV) | refine S.x ?_ | intro hb | fail)
   rename_i q1 q2 q3
   refine xFb (p := w.pts) (ps := (Qn (C0.loc w.pts)).pts) S.K fun g hg1 hg2 hg3 => ?_
   refine xGW ⟨b, C0.loc w.pts, Qn (C0.loc w.pts), w, gs⟩ S.T ?_
   have hM2 := hM.snoc (x := ⟨b, C0.loc w.pts, Qn (C0.loc w.pts), w, gs⟩) (g := g) ⟨by rw [hC0], rfl, hr, hg1, hg2, hg3⟩
   have e1 : (xs ++ [(⟨b, C0.loc w.pts, Qn (C0.loc w.pts), w, gs⟩ : xBM)]).map xBM.pt = xs.map xBM.pt ++ [⟨some b⟩] := by rw [List.map_append]; rfl
   have e2 : (Gs ++ [g]).map PG.pt = Gs.map PG.pt ++ [⟨some w.pts⟩] := by rw [List.map_append]; show _ ++ [g.pt] = _; unfold PG.pt; rw [hg1]
   have hX := And.intro e1 e2
   clear hnc hpr hok hC0 hM
   exact S.R ((k + 1, q2, sx, xs ++ [⟨b, C0.loc w.pts, Qn (C0.loc w.pts), w, gs⟩], Gs ++ [g]) : Nat × SV × SV × List xBM × List PG)
  ·have hke : k = c.parts.d.length := by omega
   subst hke
   have hX := I3 @xL7 hlx hlg; repeat' (first | refine S.x ?_ | fail)
   refine Tr.freezeAt (v := s1.v) (xs := xs.map xBM.pt) S.K ?_
   refine Tr.freezeAt (v := s2.v) (xs := Gs.map PG.pt) S.K ?_
   refine Tr.fin hK ⟨nb, ⟨xn3, xn3, xn3, xn3, xn3, xn3, s1, s2, sv, pb⟩, sb, xs, Gs, ac, hM, hb, hz, rfl, rfl⟩ ?_
   exact S.E
end
end
section
theorem xJE {x c : Int} (_hx : 0 ≤ x) (hc : 1 ≤ c) : (x + (c - 1)) / c = x / c + (if 0 < x % c then 1 else 0) := by
 have h1 := Int.emod_nonneg x (show c ≠ 0 by omega)
 have h2 := Int.emod_lt_of_pos x (show 0 < c by omega)
 have h3 := Int.mul_ediv_add_emod x c
 by_cases h : 0 < x % c
 ·rw [if_pos h]
  have e : x + (c - 1) = (x % c - 1) + c * (x / c + 1) := by rw [Int.mul_add, Int.mul_one]; omega
  rw [e, Int.add_mul_ediv_left _ _ S.o, Int.ediv_eq_zero_of_lt S.o S.o]
  omega
 ·rw [if_neg h]
  have e : x + (c - 1) = (c - 1) + c * (x / c) := by omega
  rw [e, Int.add_mul_ediv_left _ _ S.o, Int.ediv_eq_zero_of_lt S.o S.o]
  omega
structure xFO (ls : List xBI) : Prop where
 f1 : 1 ≤ (xBQ ls).freq
 f9 : (xBQ ls).freq ≤ 10000
 p0 : 0 ≤ (xBQ ls).power
 p9 : (xBQ ls).power ≤ 1000000
theorem xFO.t {ls : List xBI} (h : xFO ls) : okT ls := ⟨by have := h.f9; omega, by have := h.p9; omega⟩
theorem xET {ls : List xBI} {n : Int} (h : xFO ls) (h0 : 0 ≤ n) (h1 : n ≤ 1000000000) : xBJ ls n = (mdV n (1000 * (xBQ ls).power) (xBQ ls).freq true, 0) ∧ mdV n (1000 * (xBQ ls).power) (xBQ ls).freq true ≤ 1000000000000000000 := by
 obtain ⟨f1, f9, p0, p9⟩ := h
 have e1 : xBU 1000 (xBQ ls).power 1 false = (1000 * (xBQ ls).power, 0) := by
  have e : mdV 1000 (xBQ ls).power 1 false = 1000 * (xBQ ls).power := by unfold mdV; rw [if_neg (by decide), Int.ediv_one]; omega
  unfold xBU
  rw [if_neg S.o, e, if_neg S.o]
 have hm : mdV n (1000 * (xBQ ls).power) (xBQ ls).freq true ≤ 1000000000000000000 := by
  unfold mdV
  rw [if_pos rfl]
  have a1 : n * (1000 * (xBQ ls).power) ≤ 1000000000 * (1000 * (xBQ ls).power) := Int.mul_le_mul_of_nonneg_right h1 S.o
  refine Int.le_of_lt_add_one (Int.ediv_lt_of_lt_mul S.o ?_)
  have a2 : (1000000000000000000 : Int) * (xBQ ls).freq ≤ (1000000000000000000 + 1) * (xBQ ls).freq - (xBQ ls).freq := by omega
  omega
 refine ⟨?_, hm⟩
 unfold xBJ
 rw [if_neg S.o, e1]
 simp only
 rw [if_pos trivial]
 unfold xBU
 rw [if_neg S.o, if_neg S.o]
theorem xHc : ∀ (l : List xBI) (a : xBI) (i : Int), 0 ≤ i → (0 ≤ a.freq ∧ a.freq ≤ 10000) → ¬ 0 ≤ xBG xCj a l i → ∀ x ∈ l, 1 ≤ x.freq ∧ x.freq ≤ 10000 ∧ 0 ≤ x.power ∧ x.power ≤ 1000000
 | [], _, _, _, _, _, x, hx => by cases hx
 | y :: ys, a, i, h0, ha, hn, x, hx => by
  unfold xBG at hn
  cases hy : xCj y a with
  | false =>
   rw [hy] at hn
   simp only [Bool.false_eq_true, if_false] at hn
   exact absurd h0 hn
  | true =>
   rw [hy] at hn
   simp only [if_true] at hn
   have hy2 := hy
   unfold xCj at hy2
   simp only [Bool.and_eq_true] at hy2
   have a1 := xB4 hy2.1
   have a2 := xB4 hy2.2.1
   have haf : 1 ≤ y.freq := by
    have := Ye (n := a.freq + 1) S.o S.o
    omega
   rcases List.mem_cons.1 hx with rfl | hx
   ·exact ⟨haf, a1.2, a2.1, a2.2⟩
   ·exact xHc ys y (i + 1) S.o ⟨by omega, a1.2⟩ hn x hx
theorem xEQ {c : xs2} (h : xDC c) : xFO c.levels.d ∧ 1 ≤ c.quantum ∧ c.quantum ≤ 1000000000 := by
 have hp := h.pw
 unfold xCy at hp
 obtain ⟨h1, hp⟩ := xCz (fun _ => by decide) hp
 obtain ⟨h2, hp⟩ := xCz (fun _ => show (27 : Int) ≠ 0 by decide) hp
 obtain ⟨h3, _⟩ := xCz (fun _ => show (27 : Int) ≠ 0 by decide) hp
 simp only [Bool.not_eq_false] at h1 h3
 have hl := xB4 h1
 have hne : ¬ c.levels.d.length = 0 := by omega
 have hm : xBQ c.levels.d ∈ c.levels.d := by
  unfold xBQ
  rw [if_neg hne]
  exact List.mem_of_getElem? (Yi S.o S.o)
 obtain ⟨q1, q2, q3, q4⟩ := xHc _ default 0 (Int.le_refl _) ⟨by decide, by decide⟩ h2 _ hm
 unfold xI8 at h3
 simp only [Bool.and_eq_true] at h3
 have hqu := xB4 h3.2.2.2.2.1
 exact ⟨⟨q1, q2, q3, q4⟩, hqu⟩
attribute [local irreducible] xBG inB xBZ xB7 xBJ xB8
section
variable {a b c : Int} {ls : List xBI} {u0 : Value} {p : xDJ}
theorem xIK (ha : 0 ≤ a) (hb : 0 ≤ b) (hc : 1 ≤ c) (hc9 : c ≤ 1000000000) (hm : a * b ≤ 1000000000000000000) (up : Bool) : Xb prog 30 #[.int .i64 a, .int .i64 b, .int .i64 c, .bool up] [] fun v l' => v = .tuple #[.int .i64 (mdV a b c up), .int .i64 0] ∧ l' = [] := by
 intro F K hK
 simp only [List.nil_append] at hK ⊢
 have hab : 0 ≤ a * b := Int.mul_nonneg ha hb
 have hw1 : IntKind.i64.wrap (a * b) = a * b := Ye S.o S.o
 have hq0 : 0 ≤ a * b / c := Int.ediv_nonneg hab S.o
 have hq9 : a * b / c ≤ a * b := Int.ediv_le_self _ hab
 have hq1 : (a * b).tdiv c = a * b / c := Int.tdiv_eq_ediv_of_nonneg hab
 have hr1 : (a * b).tmod c = a * b % c := Int.tmod_eq_emod_of_nonneg hab
 have hr0 := Int.emod_nonneg (a * b) (show c ≠ 0 by omega)
 have hr9 := Int.emod_lt_of_pos (a * b) (show 0 < c by omega)
 have hw2 : IntKind.i64.wrap (a * b / c) = a * b / c := Ye S.o S.o
 have hw3 : IntKind.i64.wrap (a * b / c + 1) = a * b / c + 1 := Ye S.o S.o
 have hw4 : IntKind.i64.wrap (a * b % c) = a * b % c := Ye S.o S.o
 have hmd : mdV a b c up = a * b / c + (if up = true then (if 0 < a * b % c then 1 else 0) else 0) := by
  unfold mdV
  cases up with
  | true => rw [if_pos rfl, if_pos rfl]; exact xJE hab hc
  | false => rw [if_neg (by decide), if_neg (by decide), Int.add_zero, Int.add_zero]
 rw [hmd] at hK
 generalize hx : a * b = x at *
 generalize hz : x / c = z at *
 generalize hy : x % c = y at *
 clear hmd
 obtain ⟨gg, hg1, hg2⟩ : ∃ gg : Int, (¬ a = 0 → IntKind.i64.wrap ((9223372036854775807 : Int).tdiv a) = gg) ∧ (¬ a = 0 → b ≤ gg) := by
  refine ⟨9223372036854775807 / a, fun h => ?_, fun h => Int.le_ediv_of_mul_le S.o (by rw [Int.mul_comm]; omega)⟩
  rw [Int.tdiv_eq_ediv_of_nonneg (by decide)]
  have := Int.ediv_nonneg (show (0 : Int) ≤ 9223372036854775807 by decide) ha
  have := Int.ediv_le_self a (show (0 : Int) ≤ 9223372036854775807 by decide)
  exact Ye S.o S.o
 have hcase : (a = 0 ∨ ¬ a = 0) ∧ (0 < y ∨ ¬ 0 < y) := ⟨Decidable.em _, Decidable.em _⟩
 obtain ⟨h0, hy0⟩ := hcase
 cases up with
 | true =>
  rw [if_pos rfl] at hK
  rcases hy0 with hy0 | hy0
  ·rw [if_pos hy0] at hK
   rcases h0 with h0 | h0
   ·refine S.I fun u => ?_
    have hX := I9 hx hw1 hq1 hz hr1 hy hw2 hw3 hw4; repeat' (first | refine S.x ?_ | fail)
    all_goals exact S.L
   ·have hg3 := hg1 h0
    have hg4 := hg2 h0
    clear hg1 hg2
    refine S.I fun u => ?_
    have hX := I9 hx hw1 hq1 hz hr1 hy hw2 hw3 (And.intro hw4 hg3); repeat' (first | refine S.x ?_ | fail)
    all_goals exact S.L
  ·rw [if_neg hy0, Int.add_zero] at hK
   rcases h0 with h0 | h0
   ·refine S.I fun u => ?_
    have hX := I9 hx hw1 hq1 hz hr1 hy hw2 hw3 hw4; repeat' (first | refine S.x ?_ | fail)
    all_goals exact S.L
   ·have hg3 := hg1 h0
    have hg4 := hg2 h0
    clear hg1 hg2
    refine S.I fun u => ?_
    have hX := I9 hx hw1 hq1 hz hr1 hy hw2 hw3 (And.intro hw4 hg3); repeat' (first | refine S.x ?_ | fail)
    all_goals exact S.L
 | false =>
  rw [if_neg (by decide), Int.add_zero] at hK
  rcases h0 with h0 | h0
  ·refine S.I fun u => ?_
   have hX := I9 hx hw1 hq1 hz hr1 hy hw2 hw3 hw4; repeat' (first | refine S.x ?_ | fail)
   all_goals exact S.L
  ·have hg3 := hg1 h0
   have hg4 := hg2 h0
   clear hg1 hg2
   refine S.I fun u => ?_
   have hX := I9 hx hw1 hq1 hz hr1 hy hw2 hw3 (And.intro hw4 hg3); repeat' (first | refine S.x ?_ | fail)
   all_goals exact S.L
theorem xJ0 [hd : DeA u0 p] (hl : ls.length ≤ 1000000000) : Xb prog 29 #[u0] [sl true p.levels.v ls]
  fun v l' => v = .agg #[.int .i64 (xBQ ls).freq, .int .i64 (xBQ ls).power] ∧ l' = [] := by
 obtain rfl := hd.h
 intro F K hK
 simp only [ap]
 obtain ⟨p1, p2, p3, p4, p5, p6, p7, p8⟩ := p
 by_cases h0 : ls.length = 0
 ·rw [show xBQ ls = ⟨0, 0⟩ from if_pos h0] at hK
  refine S.I fun u => ?_
  repeat' (first | refine S.x ?_ | intro hb | fail)
  all_goals exact Tr.fin hK ⟨rfl, rfl⟩ S.E
 ·rw [show xBQ ls = ix ls ((ls.length - 1 : Nat) : Int) from if_neg h0] at hK
  have hw : IntKind.i64.wrap ((ls.length : Int) - 1) = ((ls.length - 1 : Nat) : Int) := by rw [Ye S.o S.o]; omega
  refine S.I fun u => ?_
  have hX := hw; repeat' (first | refine S.x ?_ | intro hb | fail)
  all_goals exact Tr.fin hK ⟨rfl, rfl⟩ S.E
theorem xJr [hd : DeA u0 p] {n : Int} (hl : ls.length ≤ 1000000000) (ht : xFO ls) (h0 : 0 ≤ n) (h9 : n ≤ 1000000000) : Xb prog 9 #[u0, .int .i64 n] [sl true p.levels.v ls]
  fun v l' => v = .tuple #[.int .i64 (xBJ ls n).1, .int .i64 0] ∧ l' = [] := by
 intro F K hK
 simp only [ap]
 obtain ⟨e1, e2⟩ := xET ht h0 h9
 obtain ⟨f1, f9, p0, p9⟩ := ht
 have hto := xJ0 (u0 := u0) (p := p) hl
 have hm1 := xIK (a := 1000) (b := (xBQ ls).power) (c := 1) (by decide) p0 (by decide) (by decide) S.o false
 rw [show mdV 1000 (xBQ ls).power 1 false = 1000 * (xBQ ls).power by unfold mdV; rw [if_neg (by decide), Int.ediv_one]; omega] at hm1
 have hmul : n * (1000 * (xBQ ls).power) ≤ 1000000000000000000 := by
  have a1 : n * (1000 * (xBQ ls).power) ≤ 1000000000 * (1000 * (xBQ ls).power) := Int.mul_le_mul_of_nonneg_right h9 S.o
  omega
 have hm2 := xIK (a := n) (b := 1000 * (xBQ ls).power) (c := (xBQ ls).freq) h0 S.o f1 S.o hmul true
 rw [e1] at hK
 simp only at hK
 obtain ⟨w, hw⟩ : ∃ w, w = 1000 * (xBQ ls).power := ⟨_, rfl⟩
 rw [← hw] at hm1 hm2 hK
 obtain rfl := hd.h
 obtain ⟨p1, p2, p3, p4, p5, p6, p7, p8⟩ := p
 clear e1 e2 hmul hw
 refine S.I fun u => ?_
 repeat' (first | rintro _ _ ⟨rfl, rfl⟩ | (refine G.call 29 ?_; refine S.c ?_ (h := hto)) | (refine G.call 30 ?_; refine S.c ?_ (h := hm1)) | (refine G.call 30 ?_; refine S.c ?_ (h := hm2)) | refine S.x ?_ | intro hb | fail)
 all_goals exact Tr.fin hK ⟨rfl, rfl⟩ S.E
