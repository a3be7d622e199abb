import Derived.Test.YtmebccjndhlpoaaGreatZ44
namespace Go.Proofs.YtmebccjndhlpoaaGreat
open Go Go.Wk Tryz
set_option maxHeartbeats 3200000
set_option maxRecDepth 100000
section
abbrev xHo : XE := ⟨5, 1, 0, 0, 0, 0⟩
abbrev ppW (t1 t2 : SV) : List xB0 := [⟨t1, [⟨t2, [xHo]⟩]⟩]
abbrev fsW : List xBS := [⟨0, 0, 0, 0⟩, ⟨0, 0, 0, 0⟩]
section
variable {s1 s2 s7 sp sw sm s3 t1 t2 : SV} {p : Nat}
theorem xHu : (xCn (xvT s1 s2 s7 sp sw sm s3) (ppW t1 t2) fsW).1 = 0 := by kernel_rfl
theorem xKz : (xBW (xvT s1 s2 s7 sp sw sm s3) [(xCA (xvT s1 s2 s7 sp sw sm s3) (ppW t1 t2) 0).loc p] (xBP (xvT s1 s2 s7 sp sw sm s3) p0 fsW) (t0 [(xCA (xvT s1 s2 s7 sp sw sm s3) (ppW t1 t2) 0).loc p])).evs = [⟨0, 1, 0, 1, 0, 0⟩] := by kernel_rfl
theorem xH1 : (xBW (xvT s1 s2 s7 sp sw sm s3) [(xCA (xvT s1 s2 s7 sp sw sm s3) (ppW t1 t2) 0).loc p] (xBP (xvT s1 s2 s7 sp sw sm s3) p0 fsW) (t0 [(xCA (xvT s1 s2 s7 sp sw sm s3) (ppW t1 t2) 0).loc p])).creds.length = 2 := by kernel_rfl
theorem xGz : (xFr (xvT s1 s2 s7 sp sw sm s3) fsW).length = 4 := by kernel_rfl
theorem xLg {α : Type} [Inhabited α] {l : List α} {x : α} (h : l.length = 1) (h0 : ix l 0 = x) : l = [x] := by
 cases l with
 | nil => cases h
 | cons a l =>
  cases l with
  | nil => rw [← h0]; rfl
  | cons b l => simp at h
theorem xLb {Cs : List CC} (h : xII (xvT s1 s2 s7 sp sw sm s3) (ppW t1 t2) Cs) : ∃ p, Cs = [(xCA (xvT s1 s2 s7 sp sw sm s3) (ppW t1 t2) 0).loc p] := by
 have hl : Cs.length = 1 := h.l
 obtain ⟨p, hp⟩ := h.i 0 (Int.le_refl 0) S.o
 exact ⟨p, xLg hl hp⟩
theorem xCg {α : Type} {l : List α} (h : l.length < 3) : l.length ≤ 1000000000 := by omega
theorem xLj : shC (xvT s1 s2 s7 sp sw sm s3) := by
 have l0 : ([] : List Int).length < 3 := by decide
 refine ⟨xCg (by show 1 < 3; decide), xCg (by show 0 < 3; decide), xCg (by show 1 < 3; decide), xCg (by show 2 < 3; decide), xCg (by show 0 < 3; decide), xCg (by show 0 < 3; decide), xCg (by show 0 < 3; decide), fun p hp => ?_, fun m hm => ?_⟩
 ·rw [List.mem_singleton.1 hp]
  exact ⟨xCg (by show 1 < 3; decide), xCg (by show 1 < 3; decide), xCg (by show 0 < 3; decide), xCg (by show 0 < 3; decide), xCg (by show 0 < 3; decide), xCg (by show 0 < 3; decide), by show 5 ≤ 1000000000; omega⟩
 ·rw [List.mem_singleton.1 hm]
  exact xCg (by show 1 < 3; decide)
theorem xKS {fv ps : SV} : Xb prog 8 #[.agg (En.enc (xvT s1 s2 s7 sp sw sm s3)).toArray, .agg #[ps.v, fv.v]]
  [sl true sp.v [xEf s1 s2 s7], fzl [xEf s1 s2 s7], sl true (.slice none 0 0) ([] : List xBK), sl true sm.v [xEa sw], fzl [xEa sw], sl true s3.v [xBI.mk 5 10, xBI.mk 10 40], sl true (.slice none 0 0) ([] : List xCH), sl true (.slice none 0 0) ([] : List Int), sl true (.slice none 0 0) ([] : List Int), sl true ps.v (ppW t1 t2), fzl (ppW t1 t2), sl true fv.v fsW]
  fun v l' => ∃ (ev ms bd sh md cr : SV) (m : List xBH) (crl : List (SL Int)) (bo : List xC8) (z1 z2 : List Int), crl.length = 2 ∧ bo.length = 4 ∧
   v = .tuple #[.agg #[ev.v, ms.v, bd.v, .slice none 0 0, .int .i64 0, .int .i64 0, .int .i64 0, .int .i64 0, sh.v, md.v, cr.v, .int .i64 0], .int .i64 0] ∧
   l' = [sl false ev.v [EvC.mk 0 1 0 1 0 0], sl false ms.v m, fzl m, sl false bd.v bo, sl false sh.v z1, sl false md.v z2, sl false cr.v crl, fzl crl] := by
 have h := xGN (c := xvT s1 s2 s7 sp sw sm s3) (pp := ppW t1 t2) (ps := ps) (fv := fv) (fs := fsW) xLj (xCg (by show 1 < 3; decide)) (fun p hp => by rw [List.mem_singleton.1 hp]; exact xCg (by show 1 < 3; decide)) (fun p hp => by rw [List.mem_singleton.1 hp]; show (20 : Int) ≤ 300; decide) xHu
 refine h.mono fun v l' hv => ?_
 obtain ⟨ev, ms, bd, sh, md, cr, m, crl, Cs, hC, hm, hcr, _, _, rfl, rfl⟩ := hv
 obtain ⟨p, rfl⟩ := xLb hC
 have hl := congrArg List.length hcr
 rw [List.length_map, xH1] at hl
 rw [xKz]
 exact ⟨ev, ms, bd, sh, md, cr, m, crl, _, _, _, hl, xGz, rfl, rfl⟩
end
instance xM3 {l : List Xc} {a b c d e f : Int} : De l (.agg #[.int .i64 a, .int .i64 b, .int .i64 c, .int .i64 d, .int .i64 e, .int .i64 f]) (EvC.mk a b c d e f) := ⟨rfl⟩
instance xM2 {l : List Xc} {a b c d e f : Int} : De l (.agg #[.int .i64 a, .int .i64 b, .int .i64 c, .int .i64 d, .int .i64 e, .int .i64 f]) (XE.mk a b c d e f) := ⟨rfl⟩
instance xMp : ElT 40 EvC := ⟨⟩
instance xMX : ElT 81 XE := ⟨⟩
instance (priority := 900) xu7 {l : List Xc} : J8 l [xHo] := Va fun w R U _ _ _ y hy => by
 rw [List.mem_singleton.1 hy]
 exact sepI (zI (n := 5) rfl) (sepI (zI (n := 1) rfl) (sepI (zI (n := 0) rfl) (sepI (zI (n := 0) rfl) (sepI (zI (n := 0) rfl) (sepI (zI (n := 0) rfl) trivial)))))
end
section
attribute [local irreducible] BrK Xq Xt Xv XI FnK XZ Xw XC XV opX opK Yq Yk eqR Yj Yo Ys WL WD W X3 XO Tr drewK Ya X4 Yw Yv X1 YB mp blk rob sl sep ex fact old
section
attribute [local irreducible] xBG inB xBZ xB7 xBJ xB8 xCn
section
theorem xCf : Xb prog 7 #[] [] fun v l' => v = .bool true ∧ l' = [] := by
 intro F K hK
 simp only [List.nil_append] at hK ⊢
 refine S.I fun u => ?_
 repeat' (first | rintro _ _ ⟨s1, s2, s7, sp, sw, sm, s3, rfl, rfl⟩ | (refine G.call 23 ?_; refine S.c ?_ (h := xGi)) | intro (sv : SV) | refine S.x ?_ | intro hb | fail)
 have hrn := fun (a b c : SV) => xKS (s1 := s1) (s2 := s2) (s7 := s7) (sp := sp) (sw := sw) (sm := sm) (s3 := s3) (t1 := a) (t2 := sv) (ps := b) (fv := c)
 refine Tr.freezeAt (v := sv.v) (xs := [xHo]) S.K ?_
 repeat' (first | intro (t1 : SV) | refine S.x ?_ | fail)
 refine Tr.freezeAt (v := t1.v) (xs := [SL.mk sv [xHo]]) S.K ?_
 repeat' (first | intro (ps : SV) | refine S.x ?_ | intro hb | fail)
 rename_i q1
 refine Tr.freezeAt (v := q1.v) (xs := ppW t1 sv) S.K ?_
 rw [show List.replicate (Int.toNat 2) (default : xBS) = fsW from rfl]
 refine Tr.freezeAt (v := ps.v) (xs := fsW) S.K ?_
 have hsm := fun (a b : SV) => xfV (a := a) (b := b) (xs := [EvC.mk 0 1 0 1 0 0]) (xCg (by show 1 < 3; decide))
 repeat' (first | rintro _ _ ⟨rfl, rfl⟩ | rintro _ _ ⟨ev, ms, bd, sh, md, cr, m, crl, bo, z1, z2, hl1, hl2, rfl, rfl⟩ | (refine G.call 8 ?_; refine S.c ?_ (h := hrn _ _ _)) | (refine G.call 15 ?_; refine S.c ?_ (h := hsm _ _)) | intro (sx : SV) | refine S.x ?_ | intro hb | fail)
 all_goals
  rw [hl1]
  exact Tr.fin hK ⟨rfl, rfl⟩ S.E
end
end
section
theorem xIC {c : xs2} {pp : List xB0} {fs : List xBS} {Cs : List CC} (hco : xDC c) (hC : xII c pp Cs) : ∀ cr ∈ (xBW c Cs (xBP c p0 fs) (t0 Cs)).creds, cr.length = c.parts.d.length ∧ ∀ k : Int, 0 ≤ k → k < c.parts.d.length → 0 ≤ ix cr k ∧ ix cr k ≤ (ix c.parts.d k).budget + (xBJ c.levels.d c.quantum).1 := by
 obtain ⟨ht, q1, q9⟩ := xEQ hco
 have eq : qM c.quantum = c.quantum := by unfold qM; split <;> omega
 have hcq := (xET ht (n := c.quantum) S.o q9).1
 have hb : ∀ k : Int, 0 ≤ ix (c.parts.d.map YF.budget) k := fun k => by
  rcases ZH (c.parts.d.map YF.budget) k with h | h
  ·obtain ⟨x, hx, e⟩ := List.mem_map.1 h
   rw [← e]
   obtain ⟨j, hj, rfl⟩ := List.mem_iff_getElem.1 hx
   have := hco.p (j : Int) S.o S.o
   have e2 : ix c.parts.d (j : Int) = c.parts.d[j] := by simp [ix, hj]
   rw [e2] at this
   have ht := (xFA this).t
   unfold xDK at ht
   simp only [Bool.and_eq_true] at ht
   exact (xB4 ht.2.1).1
  ·rw [h]; decide
 have h0 : xEW c.levels.d (qM c.quantum) (c.parts.d.map YF.budget) (t0 Cs) := by
  refine ⟨by show (Cs.map _).length = _; rw [List.length_map, List.length_map]; exact hC.l, fun k => ?_, fun cr hcr => by cases hcr⟩
  have e : ix (Cs.map fun _ => (0 : Int)) k = 0 := by
   unfold ix
   rw [List.getD_eq_getElem?_getD, List.getElem?_map]
   cases Cs[k.toNat]? <;> rfl
  show okY _ _ _ (ix (Cs.map fun _ => (0 : Int)) k)
  rw [e]
  refine ⟨Int.le_refl _, ?_⟩
  rw [xFj]
  have := hb k
  have := xDL (ls := c.levels.d) (n := qM c.quantum)
  omega
 have hr := xHg (c := c) (Cs := Cs) (buds := c.parts.d.map YF.budget) (by rw [eq, hcq]) hb (ps := xBP c p0 fs) h0
 intro cr hcr
 obtain ⟨l, hk⟩ := hr.r cr hcr
 rw [List.length_map] at l hk
 refine ⟨l, fun k k0 k1 => ?_⟩
 have := hk k k0 k1
 rw [Xp (f := YF.budget) k0 k1, eq] at this
 exact this
attribute [local irreducible] xBG inB xBZ xB7 xBJ xB8 xCn xCi xBW xBP
section
variable {c : xs2} {ps fv : SV} {pp : List xB0} {fs : List xBS}
abbrev xJw (c : xs2) : List Xc := [sl true c.parts.s.v c.parts.d, fzl c.parts.d, sl true c.chans.s.v c.chans.d, sl true c.modes.s.v c.modes.d, fzl c.modes.d, sl true c.levels.s.v c.levels.d, sl true c.naps.s.v c.naps.d, sl true c.down.s.v c.down.d, sl true c.up.s.v c.up.d]
theorem xKb : Xb prog 6 #[.agg (En.enc c).toArray, .agg #[ps.v, fv.v]]
  (xJw c ++ [sl true ps.v pp, fzl pp, sl true fv.v fs])
  fun v l' => ∃ b : Bool, (b = true → shC c ∧ xJc c pp fs) ∧ v = .bool b ∧ l' = [] := by
 intro F K hK
 simp only [ap]
 have h1 := xHe (c := c)
 have h2 := xJu (c := c) (ps := ps) (fv := fv) (pp := pp) (fs := fs)
 refine S.I fun u => ?_
 repeat' (first | (refine G.call 14 ?_; refine S.c ?_ (h := h1); rintro _ _ ⟨b1, hb1, rfl, rfl⟩) | (refine G.call 22 ?_; refine S.c ?_ (h := h2); rintro _ _ ⟨b2, hb2, rfl, rfl⟩) | refine S.x ?_ | refine S.y ?_ ?_ | intro hb | fail)
 ·exact Tr.fin hK ⟨b2, (fun h => ⟨hb1 ‹_›, hb2 h⟩), rfl, rfl⟩ S.E
 ·exact Tr.fin hK ⟨false, (fun h => by cases h), rfl, rfl⟩ S.E
theorem xKN : Xb prog 3 #[.agg (En.enc c).toArray, .agg #[ps.v, fv.v]]
  (xJw c ++ [sl true ps.v pp, fzl pp, sl true fv.v fs]) fun v l' => v = .bool true ∧ l' = [] := by
 intro F K hK
 simp only [ap]
 have hfl := xKb (c := c) (ps := ps) (fv := fv) (pp := pp) (fs := fs)
 simp only [ap] at hfl
 refine S.I fun u => ?_
 have hX := @pl3.eq_def; repeat' (first | (refine G.call 6 ?_; refine S.c ?_ (h := hfl); rintro _ _ ⟨b1, hb1, rfl, rfl⟩) | (refine G.call 7 ?_; refine S.c ?_ (h := xCf); rintro _ _ ⟨rfl, rfl⟩) | refine S.x ?_ | refine S.y ?_ ?_ | intro hb | fail)
 ·exact S.L
 rename_i bc bs
 obtain ⟨hs, hfw⟩ := hb1 ‹_›
 have hpl : pp.length ≤ 1000000000 := by have := hfw.p; omega
 have hps : ∀ p ∈ pp, p.d.length ≤ 1000000000 := fun p hp => by have := (hfw.s p hp).1; omega
 by_cases hch : (xCn c pp fs).1 = 0
 ·have hrn := xGN (ps := ps) (fv := fv) hs hpl hps hfw.c hch
  obtain ⟨hc1, _, _⟩ := xE9 hch
  have hco := xHp hc1
  obtain ⟨ht, q1, q9⟩ := xEQ hco
  have hrc := xJr (u0 := .agg (En.enc c.pow).toArray) (p := c.pow) (hd := ⟨rfl⟩) (n := c.quantum) (ls := c.levels.d) hs.l ht S.o q9
  have hbu := fun Cs (hC : xII c pp Cs) => xIC (fs := fs) hco hC
  have hct := (xET ht (n := c.quantum) S.o q9)
  rw [show c.pow.levels = c.levels.s from rfl] at hrc
  have hX := @pl3.eq_def; repeat' (first | (refine G.call 8 ?_; refine S.c ?_ (h := hrn); rintro _ _ ⟨ev, ms, bd, sh, md, cr, m, crl, Cs, hC, hm, hcr, hev, hml, rfl, rfl⟩) | refine S.x ?_ | intro hb | fail)
  rw [show List.take 8 (List.drop 3 (En.enc c)) = En.enc c.pow from rfl]
  have hall : ∀ x ∈ crl, x.d.length = c.parts.d.length ∧ ∀ k : Int, 0 ≤ k → k < c.parts.d.length → 0 ≤ ix x.d k ∧ ix x.d k ≤ (ix c.parts.d k).budget + (xBJ c.levels.d c.quantum).1 := fun x hx => hbu Cs hC x.d (by rw [← hcr]; exact List.mem_map.2 ⟨x, hx, rfl⟩)
  have hbd : ∀ k : Int, 0 ≤ k → k < c.parts.d.length → 0 ≤ (ix c.parts.d k).budget ∧ (ix c.parts.d k).budget ≤ 1125899906842624 := fun k k0 k1 => by
   have ht := (xFA (hco.p k k0 k1)).t
   unfold xDK at ht
   simp only [Bool.and_eq_true] at ht
   exact xB4 ht.2.1
  have hn8 := hco.n8
  have ho9 : 0 ≤ (xBJ c.levels.d c.quantum).1 ∧ (xBJ c.levels.d c.quantum).1 ≤ 1000000000000000000 := ⟨xDL, by rw [hct.1]; exact hct.2⟩
  generalize (xBJ c.levels.d c.quantum).1 = one at *
  have hcl : crl.length ≤ 1000000000 := by
   have := congrArg List.length hcr
   rw [List.length_map] at this
   obtain ⟨_, _, l3⟩ := xDF (c := c) (Cs := Cs) (xBP c p0 fs) (t0 Cs)
   have hpn := xCG (c := c) (fs := fs) (p := p0)
   have := hfw.f
   have : (t0 Cs).creds.length = 0 := rfl
   omega
  clear hbu hct hcr hm hC hev hml hrn hch hco hc1 ht hfl
  have hX := @pl3.eq_def; repeat' (first | (refine G.call 9 ?_; refine S.c ?_ (h := hrc); rintro _ _ ⟨rfl, rfl⟩) | refine S.x ?_ | fail)
  obtain ⟨rb, rfl⟩ : ∃ rb, rb = hb := ⟨_, rfl⟩
  refine Tr.loopE (α := Nat) [4, 9] [2, 5, 7] (fun k => [.bool false, .int .i64 k]) (fun _ => [blk rb (.cells #[ev.v, ms.v, bd.v, .slice none 0 0, .int .i64 0, .int .i64 0, .int .i64 0, .int .i64 0, sh.v, md.v, cr.v, .int .i64 0] 47 (0, 0)), sl false cr.v crl, cfB bc c]) (fun k => k ≤ crl.length) (fun k => crl.length - k) 0 S.T rfl (Nat.zero_le _) fun k u hk => ?_
  simp only [ap]
  by_cases hin : k < crl.length
  ·have hw := Xo (k := k) S.o
   obtain ⟨x1, x2⟩ := hall _ (xB6 hin)
   have hX := And.intro @pl3.eq_def hw; repeat' (first | refine S.x ?_ | intro hb | fail)
   refine Tr.loopE (α := Nat) [4, 10] [2, 5, 7, 9] (fun j => [.bool false, .int .i64 j]) (fun _ => [blk rb (.cells #[ev.v, ms.v, bd.v, .slice none 0 0, .int .i64 0, .int .i64 0, .int .i64 0, .int .i64 0, sh.v, md.v, cr.v, .int .i64 0] 47 (0, 0)), sl false cr.v crl, cfB bc c]) (fun j => j ≤ c.parts.d.length) (fun j => c.parts.d.length - j) 0 S.T rfl (Nat.zero_le _) fun j u2 hj => ?_
   simp only [ap]
   by_cases hjn : j < c.parts.d.length
   ·have hw2 := Xo (k := j) S.o
    obtain ⟨y1, y2⟩ := x2 (j : Int) S.o S.o
    obtain ⟨z1, z2⟩ := hbd (j : Int) S.o S.o
    have hw3 : IntKind.i64.wrap ((ix c.parts.d (j : Int)).budget + one) = (ix c.parts.d (j : Int)).budget + one := Ye S.o S.o
    have hX := I3 @pl3.eq_def hw2 hw3; repeat' (first | refine S.x ?_ | intro hb | fail)
    all_goals exact S.R (j + 1)
   ·have hX := And.intro @pl3.eq_def hw; repeat' (first | refine S.x ?_ | fail)
    all_goals exact S.R (k + 1)
  ·have hX := @pl3.eq_def; repeat' (first | (refine G.call 7 ?_; refine S.c ?_ (h := xCf); rintro _ _ ⟨rfl, rfl⟩) | refine S.x ?_ | fail)
   all_goals exact S.L
 ·have hrn := xJg (ps := ps) (fv := fv) hs hpl hps hch
  have hX := @pl3.eq_def; repeat' (first | (refine G.call 8 ?_; refine S.c ?_ (h := hrn); rintro _ _ ⟨rfl, rfl⟩) | (refine G.call 7 ?_; refine S.c ?_ (h := xCf); rintro _ _ ⟨rfl, rfl⟩) | refine S.x ?_ | intro hb | fail)
  all_goals exact S.L
end
end
section
abbrev ppQ (t : SV) : List xB0 := [default, ⟨t, [default, default]⟩]
theorem xLX {t : SV} {part : Int} : (part = 1 ∧ xCw (ppQ t) part = ⟨t, [⟨⟨none, 0, 0⟩, []⟩, ⟨⟨none, 0, 0⟩, []⟩]⟩) ∨ (¬ part = 1 ∧ xCw (ppQ t) part = ⟨⟨none, 0, 0⟩, []⟩) := by
 unfold xCw
 by_cases h : 0 ≤ part ∧ part < (ppQ t).length
 ·rw [if_pos h]
  have h2 : part < 2 := h.2
  rcases (show part = 0 ∨ part = 1 by omega) with rfl | rfl
  ·exact .inr ⟨by decide, rfl⟩
  ·exact .inl ⟨rfl, rfl⟩
 ·rw [if_neg h]
  refine .inr ⟨fun h1 => ?_, rfl⟩
  subst h1
  exact absurd (show (0 : Int) ≤ 1 ∧ (1 : Int) < (ppQ t).length from ⟨by decide, show (1 : Int) < 2 by decide⟩) h
attribute [local irreducible] xBG inB xBZ xB7 xBJ xB8 xDI frA
section
variable {c : xs2} {ev ms bd rn sh md cr : SV} {i1 i2 i3 i4 i5 part : Int} {evs : List EvC} {msgs : List xBH}
theorem xMm : Xb prog 5 #[.agg (En.enc c).toArray, .agg #[ev.v, ms.v, bd.v, rn.v, .int .i64 i1, .int .i64 i2, .int .i64 i3, .int .i64 i4, sh.v, md.v, cr.v, .int .i64 i5], .int .i64 part]
  (xJw c ++ [sl true ev.v evs, sl true ms.v msgs, fzl msgs])
  fun v l' => v = .bool true ∧ l' = [] := by
 intro F K hK
 simp only [ap]
 have h1 := xHe (c := c)
 by_cases hl : evs.length ≤ 300 ∧ msgs.length ≤ 300
 ·obtain ⟨hl1, hl2⟩ := hl
  refine S.I fun u => ?_
  have hX := @pl5.eq_def; repeat' (first | rintro _ _ ⟨rfl, rfl⟩ | rintro _ _ ⟨b, hb, rfl, rfl⟩ | (refine G.call 14 ?_; refine S.c ?_ (h := h1)) | (refine G.call 7 ?_; refine S.c ?_ (h := xCf)) | refine S.x ?_ | refine S.y ?_ ?_ | intro hb | fail)
  ·exact S.L
  rename_i bc br _
  refine Tr.loopE (α := Nat) [6, 7] [2, 3, 4] (fun k => [.bool false, .int .i64 k]) (fun _ => [blk br (.cells #[ev.v, ms.v, bd.v, rn.v, .int .i64 i1, .int .i64 i2, .int .i64 i3, .int .i64 i4, sh.v, md.v, cr.v, .int .i64 i5] 47 (0, 0))]) (fun k => k ≤ msgs.length ∧ ∀ j : Nat, j < k → (ix msgs (j : Int)).d.d.length ≤ 100) (fun k => msgs.length - k) 0 S.T rfl ⟨Nat.zero_le _, fun j hj => absurd hj (Nat.not_lt_zero _)⟩ fun k u hk => ?_
  obtain ⟨hk, hall⟩ := hk
  simp only [ap]
  by_cases hin : k < msgs.length
  ·have hw := Xo (k := k) S.o
   by_cases hp : (ix msgs (k : Int)).d.d.length ≤ 100
   ·have hall2 := JT (p := fun j : Nat => (ix msgs (j : Int)).d.d.length ≤ 100) hall hp
    have hX := And.intro @pl5.eq_def hw; repeat' (first | refine S.x ?_ | intro hb | fail)
    all_goals exact S.R (k + 1)
   ·have hX := And.intro @pl5.eq_def hw; repeat' (first | rintro _ _ ⟨rfl, rfl⟩ | (refine G.call 7 ?_; refine S.c ?_ (h := xCf)) | refine S.x ?_ | intro hb | fail)
    all_goals exact S.L
  ·have hke : k = msgs.length := by omega
   subst hke
   have hsm := fun (a b : SV) => xfV (a := a) (b := b) (xs := xDI evs part) (by have := xEu (l := evs) (part := part); omega)
   have hof := xL0 (s := ev) (l := evs) (part := part) S.o
   have hro := xLk (s := ev) (l := evs) (part := part) S.o
   have hfr := xJG (s := ms) (part := part) (c := c) (ms := msgs) S.o (fun j hj => by have := hall j hj; omega)
   have hrf := xJD (s := ms) (part := part) (c := c) (ms := msgs) S.o
   have hX := @pl5.eq_def; repeat' (first | intro (sv : SV) | refine S.x ?_ | intro hb | fail)
   rename_i q1 _
   refine Tr.freezeAt (v := sv.v) (xs := [(⟨⟨none, 0, 0⟩, []⟩ : SL XE), ⟨⟨none, 0, 0⟩, []⟩]) S.K ?_
   refine G.store ?_
   refine A.stE (i := 1) (x := (⟨sv, [⟨⟨none, 0, 0⟩, []⟩, ⟨⟨none, 0, 0⟩, []⟩]⟩ : xB0)) (α := xB0) rfl (by decide) (by show (1 : Int) < 2; decide) ?_
   rw [show (List.replicate (Int.toNat 2) (default : xB0)).set (Int.toNat 1) ⟨sv, [⟨⟨none, 0, 0⟩, []⟩, ⟨⟨none, 0, 0⟩, []⟩]⟩ = ppQ sv from rfl]
   refine Tr.freezeAt (v := q1.v) (xs := ppQ sv) S.K ?_
   have hpr := xFU (ps := q1) (fv := ⟨none, 0, 0⟩) (pp := ppQ sv) (k := part)
   have hX := @pl5.eq_def; repeat' (first | (refine G.call 16 ?_; refine S.c ?_ (h := hof); rintro _ _ ⟨s1, rfl, rfl⟩) | (refine G.call 17 ?_; refine S.c ?_ (h := hro); rintro _ _ ⟨s2, rfl, rfl⟩) | (refine G.call 15 ?_; refine S.c ?_ (h := hsm _ _); rintro _ _ ⟨rfl, rfl⟩) | (refine G.call 19 ?_; refine S.c ?_ (h := hfr); rintro _ _ ⟨s3, m3, e3, rfl, rfl⟩) | (refine G.call 20 ?_; refine S.c ?_ (h := hrf); rintro _ _ ⟨s4, m4, e4, rfl, rfl⟩) | refine S.x ?_ | fail)
   all_goals
    refine Tr.freezeAt (v := s3.v) (xs := m3) S.K ?_
    refine Tr.freezeAt (v := s4.v) (xs := m4) S.K ?_
    have hs19 := xGv (s := s3) (t := s4) (e3.trans e4.symm)
    rcases xLX (t := sv) (part := part) with ⟨h1, e⟩ | ⟨h1, e⟩
    ·rw [e] at hpr
     subst h1
     have hX := @pl5.eq_def; repeat' (first | (refine G.call 18 ?_; refine S.c ?_ (h := hs19); rintro _ _ ⟨rfl, rfl⟩) | (refine G.call 21 ?_; refine S.c ?_ (h := hpr); rintro _ _ ⟨rfl, rfl⟩) | (refine G.call 7 ?_; refine S.c ?_ (h := xCf); rintro _ _ ⟨rfl, rfl⟩) | refine S.x ?_ | fail)
     trace_state
     all_goals exact Tr.fin hK ⟨S.v, rfl⟩ S.E
    ·rw [e] at hpr
     rw [show (⟨⟨none, 0, 0⟩, []⟩ : xB0).s.v = .slice none 0 0 from rfl] at hpr
     refine Tr.nilSl (α := SL XE) ?_
     have hd1 : decide (part = 1) = false := decide_eq_false h1
     have hX := And.intro @pl5.eq_def hd1; repeat' (first | (refine G.call 18 ?_; refine S.c ?_ (h := hs19); rintro _ _ ⟨rfl, rfl⟩) | (refine G.call 21 ?_; refine S.c ?_ (h := hpr); rintro _ _ ⟨rfl, rfl⟩) | (refine G.call 7 ?_; refine S.c ?_ (h := xCf); rintro _ _ ⟨rfl, rfl⟩) | refine S.x ?_ | fail)
     all_goals exact Tr.fin hK ⟨S.v, rfl⟩ S.E
 ·refine S.I fun u => ?_
  have hX := @pl5.eq_def; repeat' (first | rintro _ _ ⟨rfl, rfl⟩ | rintro _ _ ⟨b, hb, rfl, rfl⟩ | (refine G.call 14 ?_; refine S.c ?_ (h := h1)) | (refine G.call 7 ?_; refine S.c ?_ (h := xCf)) | refine S.x ?_ | refine S.y ?_ ?_ | intro hb | fail)
  all_goals exact S.L
