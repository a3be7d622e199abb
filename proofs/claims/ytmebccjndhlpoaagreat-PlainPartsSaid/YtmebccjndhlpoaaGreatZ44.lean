import Derived.Test.YtmebccjndhlpoaaGreatZ43
namespace Go.Proofs.YtmebccjndhlpoaaGreat
open Go Go.Wk Tryz
set_option maxHeartbeats 3200000
set_option maxRecDepth 100000
theorem xF8 {pp : List xB0} : ∀ n k, n + k = pp.length → xDT pp n k < 0 → ∀ j : Nat, k ≤ j → j < pp.length → ∀ x ∈ (ix pp (j : Int)).d, x.d.length ≤ 64
 | 0, k, hn, _, j, h1, h2 => by omega
 | n + 1, k, hn, h, j, h1, h2 => by
  unfold xDT at h
  split at h
  ·omega
  ·rename_i ha
   by_cases hj : j = k
   ·subst hj
    intro x hx
    have : ¬ xDe x = true := fun hb => ha (List.any_eq_true.2 ⟨x, hx, hb⟩)
    unfold xDe at this
    simp only [decide_eq_true_eq] at this
    omega
   ·exact xF8 n (k + 1) S.o h j S.o h2
theorem xE9 {c : xs2} {pp : List xB0} {fs : List xBS} (h : (xCn c pp fs).1 = 0) : (xB8 c).1 = 0 ∧ fs.length ≤ 64 ∧ ∀ p ∈ pp, ∀ x ∈ p.d, x.d.length ≤ 64 := by
 unfold xCn at h
 obtain ⟨h1, h⟩ := xCz id h
 obtain ⟨h2, h⟩ := xCz (fun _ => by decide) h
 refine ⟨Classical.not_not.1 h1, by omega, fun p hp => ?_⟩
 split at h
 ·rename_i h3
  obtain ⟨j, hj, rfl⟩ := List.mem_iff_getElem.1 hp
  have := xF8 pp.length 0 S.o h3 j (Nat.zero_le _) hj
  have e : ix pp (j : Int) = pp[j] := by simp [ix, hj]
  rw [e] at this
  exact this
 ·exact absurd h (show ¬ (3 : Int) = 0 by decide)
theorem xFg {c : xs2} : ∀ {fs : List xBS} {p : xBR}, ∀ g ∈ xBP c p fs, xIb c g
 | [], p, g, hg => by rw [xBP] at hg; cases hg
 | f :: fs, p, g, hg => by
  cases h : xDd c p f with
  | none => rw [xDl h] at hg; cases hg
  | some x =>
   rw [xDn h] at hg
   rcases List.mem_cons.1 hg with rfl | hg
   ·exact xFN h
   ·exact xFg g hg
def xBW (c : xs2) (Cs : List CC) (ps : List xBR) (t : PlM) : PlM := ps.foldl (fun t g => xCi c Cs (c.parts.d.map YF.budget) g t) t
theorem xH2 {c : xs2} {Cs : List CC} {bs : List Int} {g : xBR} {t : PlM} : (xCi c Cs bs g t).sheds.length = t.sheds.length + 1 ∧ (xCi c Cs bs g t).modes.length = t.modes.length + 1 ∧ (xCi c Cs bs g t).creds.length = t.creds.length + 1 := by
 obtain ⟨h1, h2, h3⟩ := xEF (c := c) (Cs := Cs) (buds := bs) (level := g.level) (ws := xB3 c g) (t := { t with cyc := t.cyc.map fun _ => 0 })
 unfold xCi
 refine ⟨?_, ?_, ?_⟩
 ·show (_ ++ [_]).length = _
  rw [List.length_append, h1]; rfl
 ·show (_ ++ [_]).length = _
  rw [List.length_append, h2]; rfl
 ·show (_ ++ [_]).length = _
  rw [List.length_append, h3]; rfl
theorem xFC {c : xs2} {Cs : List CC} {ps : List xBR} {g : xBR} {t : PlM} : xBW c Cs (ps ++ [g]) t = xCi c Cs (c.parts.d.map YF.budget) g (xBW c Cs ps t) := by
 unfold xBW
 rw [List.foldl_append]
 rfl
theorem xDF {c : xs2} {Cs : List CC} : ∀ (ps : List xBR) (t : PlM), (xBW c Cs ps t).sheds.length = t.sheds.length + ps.length ∧ (xBW c Cs ps t).modes.length = t.modes.length + ps.length ∧ (xBW c Cs ps t).creds.length = t.creds.length + ps.length
 | [], t => ⟨rfl, rfl, rfl⟩
 | g :: ps, t => by
  obtain ⟨h1, h2, h3⟩ := xDF ps (xCi c Cs (c.parts.d.map YF.budget) g t)
  obtain ⟨k1, k2, k3⟩ := xH2 (c := c) (Cs := Cs) (bs := c.parts.d.map YF.budget) (g := g) (t := t)
  show (xBW c Cs ps _).sheds.length = _ ∧ (xBW c Cs ps _).modes.length = _ ∧ (xBW c Cs ps _).creds.length = _
  rw [h1, h2, h3, k1, k2, k3, List.length_cons]
  exact ⟨by omega, by omega, by omega⟩
structure xII (c : xs2) (pp : List xB0) (Cs : List CC) : Prop where
 l : Cs.length = c.parts.d.length
 i : ∀ k : Int, 0 ≤ k → k < Cs.length → ∃ p, ix Cs k = (xCA c pp k).loc p
theorem xDP.cs {c : xs2} {pp : List xB0} {xs : List xBM} {Gs : List PG} (h : xDP c pp c.parts.d.length xs Gs) : xII c pp (xs.map xBM.C) := by
 refine ⟨by rw [List.length_map]; exact h.lx, fun k h0 h1 => ?_⟩
 rw [List.length_map] at h1
 rw [Xp (f := xBM.C) h0 h1]
 exact ⟨_, (h.i k h0 (by rw [← h.lx]; exact h1)).C⟩
section
attribute [local irreducible] BrK Xq Xt Xv XI FnK XZ Xw XC XV opX opK Yq Yk eqR Yj Yo Ys WL WD W X3 XO Tr drewK Ya X4 Yw Yv X1 YB mp blk rob sl sep ex fact old
section
attribute [local irreducible] xBG inB xBZ xB7 xBJ xB8 Zg Zw Y1 X2 objX xCx xBT xCN Qn xCn xCi xBW xBP
section
variable {c : xs2} {pp : List xB0} {ps fv : SV} {fs : List xBS}
theorem xJg (hs : shC c) (hpl : pp.length ≤ 1000000000) (hps : ∀ p ∈ pp, p.d.length ≤ 1000000000) (h : ¬ (xCn c pp fs).1 = 0) : Xb prog 8 #[.agg (En.enc c).toArray, .agg #[ps.v, fv.v]]
  [sl true c.parts.s.v c.parts.d, fzl c.parts.d, sl true c.chans.s.v c.chans.d, sl true c.modes.s.v c.modes.d, fzl c.modes.d, sl true c.levels.s.v c.levels.d, sl true c.naps.s.v c.naps.d, sl true c.down.s.v c.down.d, sl true c.up.s.v c.up.d, sl true ps.v pp, fzl pp, sl true fv.v fs]
  fun v l' => v = .tuple #[.agg #[.slice none 0 0, .slice none 0 0, .slice none 0 0, .slice none 0 0, .int .i64 0, .int .i64 0, .int .i64 0, .int .i64 0, .slice none 0 0, .slice none 0 0, .slice none 0 0, .int .i64 0], .int .i64 (xCn c pp fs).1] ∧ l' = [] := by
 intro F K hK
 simp only [ap]
 have hc := xFh (ps := ps) (fv := fv) (pp := pp) (c := c) (fs := fs) hs hpl hps
 generalize xCn c pp fs = w at *
 refine S.I fun u => ?_
 repeat' (first | rintro _ _ ⟨rfl, rfl⟩ | (refine G.call 24 ?_; refine S.c ?_ (h := hc)) | refine S.x ?_ | intro hb | fail)
 all_goals exact Tr.fin hK ⟨rfl, rfl⟩ S.E
theorem xGN (hs : shC c) (hpl : pp.length ≤ 1000000000) (hps : ∀ p ∈ pp, p.d.length ≤ 1000000000) (hcap : ∀ p ∈ c.parts.d, p.cap ≤ 300) (h : (xCn c pp fs).1 = 0) : Xb prog 8 #[.agg (En.enc c).toArray, .agg #[ps.v, fv.v]]
  [sl true c.parts.s.v c.parts.d, fzl c.parts.d, sl true c.chans.s.v c.chans.d, sl true c.modes.s.v c.modes.d, fzl c.modes.d, sl true c.levels.s.v c.levels.d, sl true c.naps.s.v c.naps.d, sl true c.down.s.v c.down.d, sl true c.up.s.v c.up.d, sl true ps.v pp, fzl pp, sl true fv.v fs]
  fun v l' => ∃ (ev ms bd sh md cr : SV) (m : List xBH) (crl : List (SL Int)) (Cs : List CC), xII c pp Cs ∧ m.map xBH.ab = (xBW c Cs (xBP c p0 fs) (t0 Cs)).ms ∧ crl.map SL.d = (xBW c Cs (xBP c p0 fs) (t0 Cs)).creds ∧ (xBW c Cs (xBP c p0 fs) (t0 Cs)).evs.length ≤ 300000000 ∧ m.length ≤ 300000000 ∧
   v = .tuple #[.agg #[ev.v, ms.v, bd.v, .slice none 0 0, .int .i64 0, .int .i64 0, .int .i64 0, .int .i64 0, sh.v, md.v, cr.v, .int .i64 0], .int .i64 0] ∧
   l' = [sl false ev.v (xBW c Cs (xBP c p0 fs) (t0 Cs)).evs, sl false ms.v m, fzl m, sl false bd.v (xFr c fs), sl false sh.v (xBW c Cs (xBP c p0 fs) (t0 Cs)).sheds, sl false md.v (xBW c Cs (xBP c p0 fs) (t0 Cs)).modes, sl false cr.v crl, fzl crl] := by
 intro F K hK
 simp only [ap]
 have hc := xFh (ps := ps) (fv := fv) (pp := pp) (c := c) (fs := fs) hs hpl hps
 obtain ⟨h1, h2, h3⟩ := xE9 h
 have hco := xHp h1
 refine Tr.fzSteps3 (xs := pp) fun hst => ?_
 have hsc : xG1 pp := ⟨h3, hst⟩
 have hmd := xI3 (ps := ps) (fv := fv) hs hco hsc
 have hpg := xHV (c := c) (sf := fv) (fs := fs) hs S.o
 have hbo := xGw (c := c) (sf := fv) (fs := fs) hs S.o (xHh hco)
 rw [h] at hc
 have hty := (xEQ hco).1.t
 refine S.I fun u => ?_
 repeat' (first | rintro _ _ ⟨rfl, rfl⟩ | rintro _ _ ⟨sp, rfl, rfl⟩ | rintro _ _ ⟨p, y, s, xs, Gs, ac, hM, hb, hz, rfl, rfl⟩ | (refine G.call 24 ?_; refine S.c ?_ (h := hc)) | (refine G.call 25 ?_; refine S.c ?_ (h := hmd)) | (refine G.call 26 ?_; refine S.c ?_ (h := hpg)) | refine S.x ?_ | intro hb | fail)
 rename_i bc bs rb
 have hC := hM.cs
 have hI0 := hM.sys (ev := xn3) (ms := xn3) (ac := ac) hco hsc (fun k k0 k1 => hcap _ (List.mem_of_getElem? (Yi k0 k1))) hb hz
 obtain ⟨Cs, hCs⟩ : ∃ Cs, Cs = xs.map xBM.C := ⟨_, rfl⟩
 rw [← hCs] at hC hI0
 obtain ⟨px, hpx⟩ : ∃ px, px = xs.map xBM.pt := ⟨_, rfl⟩
 obtain ⟨pq, hpq⟩ : ∃ pq, pq = Gs.map PG.pt := ⟨_, rfl⟩
 obtain ⟨pa, hpa⟩ : ∃ pa, pa = ac.map xBL.pt := ⟨_, rfl⟩
 rw [← hpx, ← hpq, ← hpa] at hI0 ⊢
 have hpm := xFg (c := c) (fs := fs) (p := p0)
 have hpn := xCG (c := c) (fs := fs) (p := p0)
 obtain ⟨gs, hgs⟩ : ∃ gs, gs = xBP c p0 fs := ⟨_, rfl⟩
 rw [← hgs] at hpm hpn hK ⊢
 have hgl : gs.length ≤ 64 := by omega
 refine Tr.loopE (α := Nat × (SV × SV × SV) × SyG × List (SL Int)) [29] [2, 3, 4, 5, 8, 27, 28] (fun z => [.int .i64 z.1]) (fun z => xJf p c { y with sh := z.2.1.1, md := z.2.1.2.1, cr := z.2.1.2.2 } s pa z.2.2.1 ++ [sl false z.2.1.1.v z.2.2.1.t.sheds, sl false z.2.1.2.1.v z.2.2.1.t.modes, sl false z.2.1.2.2.v z.2.2.2, fzl z.2.2.2]) (fun z => z.1 ≤ gs.length ∧ SyI c Cs px pq pa (z.1 * 3200000) z.2.2.1 ∧ z.2.2.1.t = xBW c Cs (gs.take z.1) (t0 Cs) ∧ z.2.2.2.map SL.d = z.2.2.1.t.creds) (fun z => gs.length - z.1) (0, (y.sh, y.md, y.cr), ⟨xn3, xn3, xs, Gs, ac, List.replicate c.parts.d.length 0, [], t0 Cs⟩, []) S.T rfl ⟨Nat.zero_le _, by simp only [Nat.zero_mul]; exact hI0, by unfold xBW; rfl, rfl⟩ fun z u hzz => ?_
 clear hI0 hM hb hz hmd hpg hc hCs
 obtain ⟨k, ⟨s1, s2, s3⟩, x, cr⟩ := z
 obtain ⟨hk, hI, hT, hcr⟩ := hzz
 simp only at hk hI hT hcr ⊢
 simp only [ap]
 obtain ⟨l1, l2, l3⟩ := xDF (c := c) (Cs := Cs) (gs.take k) (t0 Cs)
 rw [← hT, List.length_take] at l1 l2 l3
 have l4 := congrArg List.length hcr
 rw [List.length_map] at l4
 have l5 : (t0 Cs).sheds.length = 0 ∧ (t0 Cs).modes.length = 0 ∧ (t0 Cs).creds.length = 0 := ⟨rfl, rfl, rfl⟩
 by_cases hin : k < gs.length
 ·have hw := Xo (k := k) S.o
  have hg : xIb c (ix gs (k : Int)) := hpm _ (List.mem_of_getElem? (Yi S.o S.o))
  have hfr := xId (p := p) (y := { y with sh := s1, md := s2, cr := s3 }) (s := s) (cr := cr) hs hco hty hI hcr hg S.o S.o S.o S.o
  have hst : xBW c Cs (gs.take (k + 1)) (t0 Cs) = xCi c Cs (c.parts.d.map YF.budget) (ix gs (k : Int)) x.t := by rw [Yz hin, xFC, ← hT]
  simp only [ap] at hfr
  clear hI hT
  have hX := hw; repeat' (first | rintro _ _ ⟨⟨y1, y2, y3, y4, y5, y6, y7, y8, y9, y10⟩, x2, cr2, e1, e2, e3, e4, e5, e6, hI2, hcr2, rfl, rfl⟩ | (refine G.call 27 ?_; refine S.c ?_ (h := hfr)) | refine S.x ?_ | intro hb | fail)
  all_goals
   simp only at e1 e2 e3 e4 e5
   subst e1 e2 e3 e4 e5
   have hT2 := e6.trans hst.symm
   have hI3 : SyI c Cs px pq pa ((k + 1) * 3200000) x2 := hI2.up S.o
   clear hfr hst e6 hI2
   exact S.R ((k + 1, (y4, y5, y6), x2, cr2) : Nat × (SV × SV × SV) × SyG × List (SL Int))
 ·have hke : k = gs.length := by omega
  subst hke
  rw [List.take_length] at hT
  repeat' (first | rintro _ _ ⟨sb, rfl, rfl⟩ | (refine G.call 28 ?_; refine S.c ?_ (h := hbo)) | refine S.x ?_ | fail)
  all_goals
   refine Tr.fin hK ⟨x.ev, x.ms, sb, s1, s2, s3, x.m, cr, Cs, hC, by rw [← hT]; exact hI.ma, by rw [← hT]; exact hcr, by rw [← hT]; have := hI.ev; omega, by have := hI.ml; omega, rfl, rfl⟩ ?_
   rw [← hT]
   exact S.E
end
end
def xDI (l : List EvC) (part : Int) : List EvC := l.filter fun e => decide (e.part = part)
theorem xE4 {l : List EvC} {part : Int} {e : EvC} : xDI (l ++ [e]) part = xDI l part ++ (if e.part = part then [e] else []) := by
 unfold xDI
 rw [List.filter_append]
 congr 1
 by_cases h : e.part = part <;> simp [h]
theorem xEu {l : List EvC} {part : Int} : (xDI l part).length ≤ l.length := List.length_filter_le _ _
def xD2 (chs : List xBK) (part : Int) (m : Int × Int × List UInt8) : Bool := decide (xDg chs m.1) && decide ((ix chs m.1).fp = part)
def frA (chs : List xBK) (part : Int) (l : List (Int × Int × List UInt8)) : List (Int × Int × List UInt8) := l.filter (xD2 chs part)
theorem xDU {chs : List xBK} {part : Int} {l : List (Int × Int × List UInt8)} {m : Int × Int × List UInt8} : frA chs part (l ++ [m]) = frA chs part l ++ (if xD2 chs part m = true then [m] else []) := by
 unfold frA
 rw [List.filter_append]; congr 1
 cases h : xD2 chs part m <;> simp [h]
theorem xHn {chs : List xBK} {part k : Int} : k ∈ xCE chs part ↔ xDg chs k ∧ (ix chs k).fp = part := by
 unfold xCE xC3 xDg
 rw [List.mem_map]
 constructor
 ·rintro ⟨j, hj, rfl⟩
  rw [List.mem_filter, List.mem_range] at hj
  exact ⟨⟨by omega, by omega⟩, by simpa using hj.2⟩
 ·rintro ⟨⟨h0, h1⟩, h2⟩
  refine ⟨k.toNat, ?_, by omega⟩
  rw [List.mem_filter, List.mem_range]
  refine ⟨by omega, ?_⟩
  rw [show ((k.toNat : Nat) : Int) = k by omega]
  simpa using h2
section
variable {s : SV} {l : List EvC} {part : Int} {c : xs2} {ms : List xBH}
theorem xL0 (hl : l.length ≤ 1000000000) : Xb prog 16 #[s.v, .int .i64 part] [sl true s.v l]
  fun v l' => ∃ s2 : SV, v = s2.v ∧ l' = [sl false s2.v (xDI l part)] := by
 intro F K hK
 simp only [ap]
 refine S.I fun u => ?_
 repeat' (first | refine S.x ?_ | fail)
 refine Tr.nilSl (α := EvC) ?_
 refine Tr.loopE (α := Nat × SV) [5, 10] [1, 4, 8, 9] (fun x => [x.2.v, .int .i64 x.1]) (fun x => [sl false x.2.v (xDI (l.take x.1) part)]) (fun x => x.1 ≤ l.length) (fun x => l.length - x.1) (0, ⟨none, 0, 0⟩) S.T rfl (Nat.zero_le _) fun x u hk => ?_
 obtain ⟨k, s2⟩ := x
 simp only at hk ⊢
 simp only [ap]
 by_cases hin : k < l.length
 ·have hw := Xo (k := k) S.o
  have hln := xEu (l := l.take k) (part := part)
  rw [List.length_take] at hln
  have hst : xDI (l.take (k + 1)) part = xDI (l.take k) part ++ (if (ix l (k : Int)).part = part then [ix l (k : Int)] else []) := by rw [Yz hin, xE4]
  by_cases hp : (ix l (k : Int)).part = part
  ·rw [if_pos hp] at hst
   have hX := hw; repeat' (first | intro (sv : SV) | refine S.x ?_ | intro hb | fail)
   all_goals
    have hX := hst
    exact S.R ((k + 1, sv) : Nat × SV)
  ·rw [if_neg hp, List.append_nil] at hst
   have hX := hw; repeat' (first | refine S.x ?_ | intro hb | fail)
   all_goals
    have hX := hst
    exact S.R ((k + 1, s2) : Nat × SV)
 ·have hke : k = l.length := by omega
  subst hke
  rw [List.take_length]
  repeat' (first | refine S.x ?_ | fail)
  all_goals exact Tr.fin hK ⟨s2, rfl, rfl⟩ S.E
theorem xLk (hl : l.length ≤ 1000000000) : Xb prog 17 #[s.v, .int .i64 part] [sl true s.v l]
  fun v l' => ∃ s2 : SV, v = s2.v ∧ l' = [sl false s2.v (xDI l part)] := by
 intro F K hK
 simp only [ap]
 refine S.I fun u => ?_
 repeat' (first | refine S.x ?_ | fail)
 refine Tr.nilSl (α := EvC) ?_
 refine Tr.loopE (α := Nat × SV) [5, 6] [0, 1, 4] (fun x => [x.2.v, .int .i64 x.1]) (fun x => [sl false x.2.v (xDI (l.take x.1) part)]) (fun x => x.1 ≤ l.length) (fun x => l.length - x.1) (0, ⟨none, 0, 0⟩) S.T rfl (Nat.zero_le _) fun x u hk => ?_
 obtain ⟨k, s2⟩ := x
 simp only at hk ⊢
 simp only [ap]
 by_cases hin : k < l.length
 ·have hw := Xo (k := k) S.o
  have hln := xEu (l := l.take k) (part := part)
  rw [List.length_take] at hln
  have hst : xDI (l.take (k + 1)) part = xDI (l.take k) part ++ (if (ix l (k : Int)).part = part then [ix l (k : Int)] else []) := by rw [Yz hin, xE4]
  by_cases hp : (ix l (k : Int)).part = part
  ·rw [if_pos hp] at hst
   have hX := hw; repeat' (first | intro (sv : SV) | refine S.x ?_ | intro hb | fail)
   all_goals
    have hX := hst
    exact S.R ((k + 1, sv) : Nat × SV)
  ·rw [if_neg hp, List.append_nil] at hst
   have hX := hw; repeat' (first | refine S.x ?_ | intro hb | fail)
   all_goals
    have hX := hst
    exact S.R ((k + 1, s2) : Nat × SV)
 ·have hke : k = l.length := by omega
  subst hke
  rw [List.take_length]
  repeat' (first | refine S.x ?_ | fail)
  all_goals exact Tr.fin hK ⟨s2, rfl, rfl⟩ S.E
end
section
attribute [local irreducible] xCE
section
variable {ro : Bool} {s : SV} {xs : List Int} {x : Int}
theorem xIt {ro : Bool} {s : SV} {xs : List Int} {x : Int} : Xb prog 59 #[s.v, .int .i64 x] [sl ro s.v xs]
  fun v l' => ∃ n : Int, (x ∈ xs ↔ 0 ≤ n) ∧ v = .int .i64 n ∧ l' = [sl ro s.v xs] := by
 intro F K hK
 simp only [ap]
 refine S.I fun u => ?_
 refine Tr.bound (ro := ro) (v := s.v) (xs := xs) (by (repeat (first | exact Has.here | fail)); done) fun hbd => ?_
 repeat' (first | refine S.x ?_ | fail)
 refine Tr.loopE (α := Nat) [4, 8] [0, 1, 7] (fun k => [.int .i64 0, .int .i64 k]) (fun _ => [sl ro s.v xs]) (fun k => k ≤ xs.length ∧ ∀ j : Nat, j < k → ix xs (j : Int) ≠ x) (fun k => xs.length - k) 0 S.T rfl ⟨by omega, fun j hj => by omega⟩ fun k u hx => ?_
 obtain ⟨hk, hn⟩ := hx
 by_cases hin : k < xs.length
 ·have hw := Xo (k := k) S.o
  by_cases he : ix xs (k : Int) = x
  ·have hx : x ∈ xs := by
    have := Yi (xs := xs) (k := (k : Int)) S.o S.o
    rw [he] at this
    exact List.mem_of_getElem? this
   have he' : x = ix xs (k : Int) := he.symm
   repeat' (first | refine S.x ?_ | intro hb | fail)
   all_goals
    apply Tr.fin hK ⟨_, ⟨fun _ => by omega, fun _ => hx⟩, rfl, rfl⟩
    exact S.E
  ·have he' : ¬ x = ix xs (k : Int) := fun h => he h.symm
   have hn' : ∀ j : Nat, j < k + 1 → ix xs (j : Int) ≠ x := fun j hj => by
    by_cases hjk : j < k
    ·exact hn j hjk
    ·have : j = k := by omega
     subst this; exact he
   have hX := hw; repeat' (first | refine S.x ?_ | intro hb | fail)
   all_goals (exact S.R (k + 1))
 ·have hke : k = xs.length := by omega
  subst hke
  have hx : ¬ x ∈ xs := fun h => by
   obtain ⟨j, hj⟩ := List.getElem?_of_mem h
   have hjl : j < xs.length := (List.getElem?_eq_some_iff.1 hj).1
   have := Yi (xs := xs) (k := (j : Int)) S.o S.o
   rw [Int.toNat_natCast, hj] at this
   exact hn j hjl (Option.some.inj this).symm
  repeat' (first | refine S.x ?_ | fail)
  all_goals
   apply Tr.fin hK ⟨-1, ⟨fun h => absurd h hx, fun h => by omega⟩, rfl, rfl⟩
   exact S.E
theorem xFY {ro : Bool} {s : SV} {xs : List Int} {x : Int} : Xb prog 34 #[s.v, .int .i64 x] [sl ro s.v xs] fun v l' => v = .bool (decide (x ∈ xs)) ∧ l' = [sl ro s.v xs] := by
 intro F K hK
 simp only [ap]
 refine S.I fun u => ?_
 repeat' (first | refine S.x ?_ | (refine G.call 59 ?_; refine S.c ?_ (h := xIt)) | rintro _ _ ⟨_, hidx, rfl, rfl⟩ | fail)
 all_goals
  refine Tr.fin hK ⟨by simp only [hidx], rfl⟩ ?_
  exact S.E
end
section
variable {s : SV} {part : Int} {c : xs2} {ms : List xBH}
theorem xJG (hn : ms.length ≤ 10000) (hbl : ∀ k : Nat, k < ms.length → (ix ms (k : Int)).d.d.length ≤ 1000) : Xb prog 19 #[.agg (En.enc c).toArray, s.v, .int .i64 part] [sl true c.chans.s.v c.chans.d, sl true s.v ms, fzl ms]
  fun v l' => ∃ (s2 : SV) (m2 : List xBH), m2.map xBH.ab = frA c.chans.d part (ms.map xBH.ab) ∧ v = s2.v ∧ l' = [sl false s2.v m2, fzl m2] := by
 intro F K hK
 simp only [ap]
 have hou := xGT (u0 := .agg (En.enc c).toArray) (c := c.c) (hd := ⟨rfl⟩) (chs := c.chans.d) (part := part)
 refine S.I fun u => ?_
 repeat' (first | rintro _ _ ⟨so, rfl, rfl⟩ | (refine G.call 33 ?_; refine S.c ?_ (h := hou)) | refine S.x ?_ | intro hb | fail)
 refine Tr.nilSl (α := xBH) ?_
 refine Tr.loopE (α := Nat × SV × List xBH) [8, 16] [6, 7, 14, 15] (fun x => [x.2.1.v, .int .i64 x.1]) (fun x => [sl false so.v (xCE c.chans.d part), sl false x.2.1.v x.2.2, fzl x.2.2]) (fun x => x.1 ≤ ms.length ∧ x.2.2.length ≤ x.1 ∧ x.2.2.map xBH.ab = frA c.chans.d part ((ms.take x.1).map xBH.ab)) (fun x => ms.length - x.1) (0, ⟨none, 0, 0⟩, []) S.T rfl ⟨Nat.zero_le _, Nat.le_refl _, rfl⟩ fun x u hx => ?_
 obtain ⟨k, t, m2⟩ := x
 simp only at hx ⊢
 obtain ⟨hk, hl2, hm2⟩ := hx
 simp only [ap]
 have hw := Xo (k := k) S.o
 by_cases hin : k < ms.length
 ·have hbk := hbl k hin
  have hco := xFY (ro := false) (s := so) (xs := xCE c.chans.d part) (x := (ix ms (k : Int)).ch)
  have htk : (ms.take (k + 1)).map xBH.ab = (ms.take k).map xBH.ab ++ [(ix ms (k : Int)).ab] := by rw [Yz hin, List.map_append]; rfl
  by_cases hp : (ix ms (k : Int)).ch ∈ xCE c.chans.d part
  ·have hok : xD2 c.chans.d part (ix ms (k : Int)).ab = true := by
    obtain ⟨h1, h2⟩ := xHn.1 hp
    simp [xD2, xBH.ab, h1, h2]
   have hnx : ∀ t2 : SV, (m2 ++ [(⟨(ix ms (k : Int)).ch, (ix ms (k : Int)).win, ⟨t2, (ix ms (k : Int)).d.d⟩⟩ : xBH)]).map xBH.ab = frA c.chans.d part ((ms.take (k + 1)).map xBH.ab) := fun t2 => by
    rw [htk, xDU, if_pos hok, List.map_append, hm2]; rfl
   have hl3 : ∀ x : xBH, (m2 ++ [x]).length ≤ k + 1 := fun x => by simp; omega
   rw [decide_eq_true hp] at hco
   have hX := And.intro hw @xFS; repeat' (first | rintro _ _ ⟨rfl, rfl⟩ | rintro _ _ ⟨_, rfl, rfl⟩ | (refine G.call 34 ?_; refine S.c ?_ (h := hco)) | refine S.x ?_ | (refine G.call 35 ?_; refine S.c ?_ (h := We S.o)) | intro hb | fail)
   all_goals (apply Tr.againE ((k + 1, _, _)); (focus (simp only [WKb, ↓reduceIte, Nat.reduceEqDiff])); (focus ((try simp only [WKb, ↓reduceIte, Nat.reduceEqDiff]); (all_goals ((repeat (refine Jl (by first | rfl | fail) ?_)); rfl)); done)); rotate_left 2; (focus (exact S.E)); (focus (first | ((try simp only []); (repeat' (first | omega | apply hnx | apply hl3 | refine And.intro ?_ ?_)); done))); (focus (first | omega | fail)))
  ·have hok : xD2 c.chans.d part (ix ms (k : Int)).ab = false := by
    cases h : xD2 c.chans.d part (ix ms (k : Int)).ab with
    | false => rfl
    | true => simp only [xD2, xBH.ab, Bool.and_eq_true] at h; exact absurd (xHn.2 ⟨of_decide_eq_true h.1, of_decide_eq_true h.2⟩) hp
   have hnx : m2.map xBH.ab = frA c.chans.d part ((ms.take (k + 1)).map xBH.ab) := by
    rw [htk, xDU, hok, hm2]; simp
   have hlx : m2.length ≤ k + 1 := by omega
   rw [decide_eq_false hp] at hco
   have hX := And.intro hw @xFS; repeat' (first | rintro _ _ ⟨rfl, rfl⟩ | (refine G.call 34 ?_; refine S.c ?_ (h := hco)) | refine S.x ?_ | intro hb | fail)
   all_goals exact S.R ((k + 1, t, m2) : Nat × SV × List xBH)
 ·have hk' : k = ms.length := by omega
  subst hk'
  have hfin : m2.map xBH.ab = frA c.chans.d part (ms.map xBH.ab) := by rw [hm2, List.take_length]
  repeat' (first | refine S.x ?_ | fail)
  all_goals exact Tr.fin hK ⟨t, m2, hfin, rfl, rfl⟩ S.E
theorem xJD (hn : ms.length ≤ 10000) : Xb prog 20 #[.agg (En.enc c).toArray, s.v, .int .i64 part] [sl true c.chans.s.v c.chans.d, sl true s.v ms, fzl ms]
  fun v l' => ∃ (s2 : SV) (m2 : List xBH), m2.map xBH.ab = frA c.chans.d part (ms.map xBH.ab) ∧ v = s2.v ∧ l' = [sl false s2.v m2, fzl m2] := by
 intro F K hK
 simp only [ap]
 obtain ⟨c1, c2, c3, c4, c5, c6, c7, c8, c9, c10, c11, c12, c13⟩ := c
 simp only at hK ⊢
 refine S.I fun u => ?_
 repeat' (first | refine S.x ?_ | intro hb | fail)
 refine Tr.nilSl (α := xBH) ?_
 refine Tr.loopE (α := Nat × SV × List xBH) [7, 8] [1, 2, 3, 6] (fun x => [x.2.1.v, .int .i64 x.1]) (fun x => [sl false x.2.1.v x.2.2, fzl x.2.2]) (fun x => x.1 ≤ ms.length ∧ x.2.2.length ≤ x.1 ∧ x.2.2.map xBH.ab = frA c2.d part ((ms.take x.1).map xBH.ab)) (fun x => ms.length - x.1) (0, ⟨none, 0, 0⟩, []) S.T rfl ⟨Nat.zero_le _, Nat.le_refl _, rfl⟩ fun x u hx => ?_
 obtain ⟨k, t, m2⟩ := x
 simp only at hx ⊢
 obtain ⟨hk, hl2, hm2⟩ := hx
 simp only [ap]
 have hw := Xo (k := k) S.o
 by_cases hin : k < ms.length
 ·have htk : (ms.take (k + 1)).map xBH.ab = (ms.take k).map xBH.ab ++ [(ix ms (k : Int)).ab] := by rw [Yz hin, List.map_append]; rfl
  by_cases hp : xDg c2.d (ix ms (k : Int)).ch ∧ (ix c2.d (ix ms (k : Int)).ch).fp = part
  ·obtain ⟨⟨hp0, hp1⟩, hp2⟩ := hp
   have hok : xD2 c2.d part (ix ms (k : Int)).ab = true := by
    have hin0 : xDg c2.d (ix ms (k : Int)).ch := ⟨hp0, hp1⟩
    simp [xD2, xBH.ab, hin0, hp2]
   have hnx : (m2 ++ [ix ms (k : Int)]).map xBH.ab = frA c2.d part ((ms.take (k + 1)).map xBH.ab) := by
    rw [htk, xDU, if_pos hok, List.map_append, hm2]; rfl
   have hl3 : (m2 ++ [ix ms (k : Int)]).length ≤ k + 1 := by simp; omega
   have hX := And.intro hw @Nat.add_zero; repeat' (first | refine S.x ?_ | intro hb | fail)
   all_goals (apply Tr.againE ((k + 1, _, _)); (focus (simp only [WKb, ↓reduceIte, Nat.reduceEqDiff])); (focus ((try simp only [WKb, ↓reduceIte, Nat.reduceEqDiff]); (all_goals ((repeat (refine Jl (by first | rfl | fail) ?_)); rfl)); done)); rotate_left 2; (focus (exact S.E)); (focus (first | ((try simp only []); (repeat' (first | omega | refine And.intro ?_ ?_)); done))); (focus (first | omega | fail)))
  ·have hok : xD2 c2.d part (ix ms (k : Int)).ab = false := by
    cases h : xD2 c2.d part (ix ms (k : Int)).ab with
    | false => rfl
    | true => simp only [xD2, xBH.ab, Bool.and_eq_true] at h; exact absurd ⟨of_decide_eq_true h.1, of_decide_eq_true h.2⟩ hp
   have hnx : m2.map xBH.ab = frA c2.d part ((ms.take (k + 1)).map xBH.ab) := by
    rw [htk, xDU, hok, hm2]; simp
   have hlx : m2.length ≤ k + 1 := by omega
   by_cases hp1 : xDg c2.d (ix ms (k : Int)).ch
   ·have hp2 : ¬ (ix c2.d (ix ms (k : Int)).ch).fp = part := fun h => hp ⟨hp1, h⟩
    obtain ⟨hp0, hp1⟩ := hp1
    have hX := And.intro hw @Nat.add_zero; repeat' (first | refine S.x ?_ | intro hb | fail)
    all_goals exact S.R ((k + 1, t, m2) : Nat × SV × List xBH)
   ·unfold xDg at hp1
    have hX := And.intro hw @Nat.add_zero; repeat' (first | refine S.x ?_ | refine S.y ?_ ?_ | intro hb | fail)
    all_goals exact S.R ((k + 1, t, m2) : Nat × SV × List xBH)
 ·have hk' : k = ms.length := by omega
  subst hk'
  have hfin : m2.map xBH.ab = frA c2.d part (ms.map xBH.ab) := by rw [hm2, List.take_length]
  repeat' (first | refine S.x ?_ | fail)
  all_goals exact Tr.fin hK ⟨t, m2, hfin, rfl, rfl⟩ S.E
end
end
end
instance xMh : ElT 53 xaL := ⟨⟩
instance xLI : ElT 54 WZ := ⟨⟩
instance xMi : ElT 105 xCC := ⟨⟩
instance xLn : ElT 24 xCp := ⟨⟩
instance xMW {l : List Xc} {a b : Int} {c : Bool} : De l (.agg #[.int .i64 a, .int .i64 b, .bool c]) (xaL.mk a b c) := ⟨rfl⟩
instance xMn {l : List Xc} {a b c : Int} : De l (.agg #[.int .i64 a, .int .i64 b, .int .i64 c]) (WZ.mk a b c) := ⟨rfl⟩
instance xMS {l : List Xc} {a b c : Int} : De l (.agg #[.int .i64 a, .int .i64 b, .int .i64 c]) (xCC.mk a b c) := ⟨rfl⟩
instance xMU {l : List Xc} {a b : Int} : De l (.agg #[.int .i64 a, .int .i64 b]) (xBI.mk a b) := ⟨rfl⟩
instance xMA {l : List Xc} {a : Int} {s : SV} {w : List xCC} [ZV l s.v true xCC inferInstance w] : De l (.agg #[.int .i64 a, s.v]) (xCp.mk a ⟨s, w⟩) := ⟨rfl⟩
instance xMF {l : List Xc} {i j k n : Int} {s1 s2 s7 : SV} {r : List xaL} {p : List WZ} {a : List Int} [ZV l s1.v true xaL inferInstance r] [ZV l s2.v true WZ inferInstance p] [ZV l s7.v true Int inferInstance a] :
  De l (.agg #[s1.v, s2.v, .slice none 0 0, .slice none 0 0, .int .i64 i, .slice none 0 0, .slice none 0 0, .int .i64 j, .int .i64 k, .int .i64 n, s7.v]) (YF.mk ⟨s1, r⟩ ⟨s2, p⟩ default default i default default j k n ⟨s7, a⟩) := ⟨rfl⟩
abbrev xEf (s1 s2 s7 : SV) : YF := ⟨⟨s1, [⟨0, 32, true⟩]⟩, ⟨s2, [⟨1, 1, 20⟩]⟩, default, default, 0, default, default, 20, 1099511627776, 0, ⟨s7, [0, 0, 0, 0, 0]⟩⟩
abbrev xEa (s : SV) : xCp := ⟨10000, ⟨s, [⟨0, 1000, 5000⟩]⟩⟩
abbrev xvT (s1 s2 s7 sp sw sm sl : SV) : xs2 := ⟨⟨sp, [xEf s1 s2 s7]⟩, default, ⟨sm, [xEa sw]⟩, ⟨sl, [⟨5, 10⟩, ⟨10, 40⟩]⟩, default, 0, 0, 1, 8, 32768, 100, default, default⟩
theorem zI {n : Int} {R : Jd} {w : World} (h : decide (-9223372036854775808 ≤ n ∧ n ≤ 9223372036854775807) = true) : (Fz.fz n).h R (fun _ => False) w := (of_decide_eq_true h : -9223372036854775808 ≤ n ∧ n ≤ 9223372036854775807)
instance (priority := 900) xLW {l : List Xc} {s1 s2 s7 : SV} [h1 : ZV l s1.v true xaL inferInstance [xaL.mk 0 32 true]] [h2 : ZV l s2.v true WZ inferInstance [WZ.mk 1 1 20]] [h7 : ZV l s7.v true Int inferInstance [0, 0, 0, 0, 0]] : xaM l (xEf s1 s2 s7) := ⟨fun w R U g1 g2 g3 => ⟨fun _ => False, by
 obtain ⟨_, k1⟩ := h1.h w R U g1 g2 g3
 obtain ⟨_, k2⟩ := h2.h w R U g1 g2 g3
 obtain ⟨_, k7⟩ := h7.h w R U g1 g2 g3
 refine sepI (sepI (xek _ _ k1) fun y hy => ?_) (sepI (sepI (xek _ _ k2) fun y hy => ?_) (sepI (FzD.h R w) (sepI (FzD.h R w) (sepI (zI (n := 0) rfl) (sepI (FzD.h R w) (sepI (FzD.h R w) (sepI (zI (n := 20) rfl) (sepI (zI (n := 1099511627776) rfl) (sepI (zI (n := 0) rfl) (sepI (sepI (xek _ _ k7) fun y hy => ?_) trivial))))))))))
 ·rw [List.mem_singleton.1 hy]; exact sepI (zI (n := 0) rfl) (sepI (zI (n := 32) rfl) (sepI trivial trivial))
 ·rw [List.mem_singleton.1 hy]; exact sepI (zI (n := 1) rfl) (sepI (zI (n := 1) rfl) (sepI (zI (n := 20) rfl) trivial))
 ·have hy2 : y ∈ [(0 : Int), 0, 0, 0, 0] := hy
  have : y = 0 := by simpa using hy2
  rw [this]; exact zI (n := 0) rfl⟩⟩
instance (priority := 900) xLh {l : List Xc} {s : SV} [h1 : ZV l s.v true xCC inferInstance [xCC.mk 0 1000 5000]] : xaM l (xEa s) := ⟨fun w R U g1 g2 g3 => ⟨fun _ => False, by
 obtain ⟨_, k1⟩ := h1.h w R U g1 g2 g3
 refine sepI (zI (n := 10000) rfl) (sepI (sepI (xek _ _ k1) fun y hy => ?_) trivial)
 rw [List.mem_singleton.1 hy]; exact sepI (zI (n := 0) rfl) (sepI (zI (n := 1000) rfl) (sepI (zI (n := 5000) rfl) trivial))⟩⟩
section
attribute [local irreducible] BrK Xq Xt Xv XI FnK XZ Xw XC XV opX opK Yq Yk eqR Yj Yo Ys WL WD W X3 XO Tr drewK Ya X4 Yw Yv X1 YB mp blk rob sl sep ex fact old
section
attribute [local irreducible] xBG inB xBZ xB7 xBJ xB8
section
theorem xGi : Xb prog 23 #[] []
  fun v l' => ∃ s1 s2 s7 sp sw sm s3 : SV, v = .agg (En.enc (xvT s1 s2 s7 sp sw sm s3)).toArray ∧ l' = [sl true sp.v [xEf s1 s2 s7], fzl [xEf s1 s2 s7], sl true sm.v [xEa sw], fzl [xEa sw], sl true s3.v [xBI.mk 5 10, xBI.mk 10 40]] := by
 intro F K hK
 simp only [List.nil_append] at hK ⊢
 refine S.I fun u => ?_
 repeat' (first | intro (sv : SV) | refine S.x ?_ | intro hb | fail)
 rename_i s1 s2
 refine Tr.freezeAt (v := s1.v) (xs := [xaL.mk 0 32 true]) S.K ?_
 refine Tr.freezeAt (v := s2.v) (xs := [WZ.mk 1 1 20]) S.K ?_
 refine Tr.freezeAt (v := sv.v) (xs := [(0 : Int), 0, 0, 0, 0]) S.K ?_
 repeat' (first | intro (s3 : SV) | refine S.x ?_ | fail)
 rename_i sp
 refine Tr.freezeAt (v := s3.v) (xs := [xCC.mk 0 1000 5000]) S.K ?_
 repeat' (first | intro (s4 : SV) | refine S.x ?_ | fail)
 rename_i sm
 refine Tr.freezeAt (v := sp.v) (xs := [xEf s1 s2 sv]) S.K ?_
 refine Tr.freezeAt (v := sm.v) (xs := [xEa s3]) S.K ?_
 refine Tr.freezeAt (v := s4.v) (xs := [xBI.mk 5 10, xBI.mk 10 40]) S.K ?_
 refine Tr.bringF [xEf s1 s2 sv] ?_
 refine Tr.bringF [xEa s3] ?_
 trace_state
 refine Tr.fin hK ⟨s1, s2, sv, sp, s3, sm, s4, rfl, rfl⟩ ?_
 exact S.E
