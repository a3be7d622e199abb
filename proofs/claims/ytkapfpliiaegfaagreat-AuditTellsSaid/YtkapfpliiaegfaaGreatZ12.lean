import Derived.Test.YtkapfpliiaegfaaGreatZ11
namespace Go.Proofs.YtkapfpliiaegfaaGreat
open Go Go.Wk Tryz
set_option maxHeartbeats 3200000
set_option maxRecDepth 100000
def xDW (c : xs2) (p : xBK) : List Int := ((ix c.modes.d p.mode).wins.d.filter fun w => !isM (ix c.parts.d w.part).ladder p.level).map xDL.part
def xCx (c : xs2) (ps : List xBK) : List Int := ps.flatMap (xDW c)
def xDU (ws : List Int) (who : Int) : List Int := ws.set who.toNat (ix ws who + 1)
def xCR : List Int → List Int → List (Int × Int)
 | [], _ => []
 | who :: r, ws => (who, ix ws who) :: xCR r (xDU ws who)
def xBW : List Int → List Int → List Int
 | [], ws => ws
 | who :: r, ws => xBW r (xDU ws who)
theorem xDj {ws : List Int} {who : Int} : (xDU ws who).length = ws.length := by unfold xDU; rw [List.length_set]
theorem xDi : ∀ {l ws : List Int}, (xBW l ws).length = ws.length
 | [], _ => rfl
 | who :: r, ws => by rw [xBW, xDi, xDj]
theorem xDP {ws : List Int} {who p : Int} (h0 : 0 ≤ who) (h1 : who < ws.length) (p0 : 0 ≤ p) : ix (xDU ws who) p = if p = who then ix ws who + 1 else ix ws p := by
 unfold xDU ix
 rw [List.getD_eq_getElem?_getD, List.getElem?_set]
 by_cases h : p = who
 ·subst h; rw [if_pos rfl, if_pos S.o, if_pos rfl]; rfl
 ·rw [if_neg S.o, if_neg h, List.getD_eq_getElem?_getD]
theorem xHc : ∀ {l ws : List Int} {p : Int}, (∀ w ∈ l, 0 ≤ w ∧ w < (ws.length : Int)) → 0 ≤ p → ix ws p ≤ ix (xBW l ws) p
 | [], _, _, _, _ => Int.le_refl _
 | who :: r, ws, p, hl, p0 => by
  have hw := hl who (List.mem_cons_self ..)
  have := xHc (l := r) (ws := xDU ws who) (p := p) (fun w hw => by rw [xDj]; exact hl w (List.mem_cons_of_mem _ hw)) p0
  rw [xDP hw.1 hw.2 p0] at this
  rw [xBW]
  split at this <;> rename_i h
  ·subst h; omega
  ·exact this
theorem xF9 : ∀ {l ws : List Int} {p w : Int}, (∀ w ∈ l, 0 ≤ w ∧ w < (ws.length : Int)) → ((p, w) ∈ xCR l ws ↔ 0 ≤ p ∧ p < ws.length ∧ ix ws p ≤ w ∧ w < ix (xBW l ws) p)
 | [], ws, p, w, _ => by
  rw [xCR, xBW]
  constructor
  ·intro h; cases h
  ·intro h; omega
 | who :: r, ws, p, w, hl => by
  have hw := hl who (List.mem_cons_self ..)
  have hl2 : ∀ w ∈ r, 0 ≤ w ∧ w < ((xDU ws who).length : Int) := fun w hw => by rw [xDj]; exact hl w (List.mem_cons_of_mem _ hw)
  have ih := xF9 (p := p) (w := w) hl2
  rw [xCR, xBW, List.mem_cons, ih, xDj]
  constructor
  ·rintro (h | ⟨h1, h2, h3, h4⟩)
   ·cases h
    have := xHc (p := who) hl2 hw.1
    rw [xDP hw.1 hw.2 hw.1, if_pos rfl] at this
    exact ⟨hw.1, hw.2, Int.le_refl _, by omega⟩
   ·rw [xDP hw.1 hw.2 h1] at h3
    split at h3 <;> rename_i h
    ·subst h; exact ⟨h1, h2, by omega, h4⟩
    ·exact ⟨h1, h2, h3, h4⟩
  ·rintro ⟨h1, h2, h3, h4⟩
   rw [xDP hw.1 hw.2 h1]
   by_cases h : p = who
   ·subst h
    by_cases e : w = ix ws p
    ·subst e; exact .inl rfl
    ·rw [if_pos rfl]; exact .inr ⟨h1, h2, by omega, h4⟩
   ·rw [if_neg h]; exact .inr ⟨h1, h2, h3, h4⟩
theorem xIn {n : Nat} {p : Int} : ix (List.replicate n (0 : Int)) p = 0 := by
 unfold ix
 rw [List.getD_eq_getElem?_getD, List.getElem?_replicate]
 split <;> rfl
theorem xDy : ∀ {l ws : List Int} {who : Int}, xBW (l ++ [who]) ws = xDU (xBW l ws) who
 | [], _, _ => rfl
 | x :: xs, ws, who => by rw [List.cons_append, xBW, xBW, xDy]
theorem xEd : ∀ {l ws : List Int} {who : Int}, xCR (l ++ [who]) ws = xCR l ws ++ [(who, ix (xBW l ws) who)]
 | [], _, _ => rfl
 | x :: xs, ws, who => by rw [List.cons_append, xCR, xCR, xBW, xEd, List.cons_append]
theorem xF7 : ∀ {l ws : List Int} {b : Int}, (∀ x ∈ ws, 0 ≤ x ∧ x ≤ b) → ∀ x ∈ xBW l ws, 0 ≤ x ∧ x ≤ b + l.length
 | [], ws, b, h, x, hx => by have := h x hx; simp only [List.length_nil]; omega
 | who :: r, ws, b, h, x, hx => by
  have hb : 0 ≤ ix ws who ∧ (ix ws who ≤ b ∨ ws = []) := by
   unfold ix
   rw [List.getD_eq_getElem?_getD]
   cases e : ws[who.toNat]? with
   | none =>
    refine ⟨by decide, ?_⟩
    cases ws with
    | nil => exact .inr rfl
    | cons y ys => have := h y (List.mem_cons_self ..); exact .inl (by show (0 : Int) ≤ b; omega)
   | some y => have := h y (List.mem_of_getElem? e); exact ⟨this.1, .inl this.2⟩
  have := xF7 (l := r) (ws := xDU ws who) (b := b + 1) (fun y hy => by
   unfold xDU at hy
   rcases List.mem_or_eq_of_mem_set hy with h2 | h2
   ·have := h y h2; omega
   ·rcases hb.2 with h3 | h3
    ·omega
    ·subst h3; simp at hy) x hx
  rw [List.length_cons]; omega
theorem xDw {c : xs2} {ps : List xBK} {p : xBK} : xCx c (ps ++ [p]) = xCx c ps ++ xDW c p := by unfold xCx; simp
def xCh (c : xs2) (p : xBK) (k : Nat) : List Int := (((ix c.modes.d p.mode).wins.d.take k).filter fun w => !isM (ix c.parts.d w.part).ladder p.level).map xDL.part
theorem xJJ {c : xs2} {p : xBK} : xCh c p 0 = [] := rfl
theorem xDT {c : xs2} {p : xBK} {k : Nat} (h : (ix c.modes.d p.mode).wins.d.length ≤ k) : xCh c p k = xDW c p := by unfold xCh xDW; rw [List.take_of_length_le h]
theorem xGI {c : xs2} {p : xBK} {k : Nat} (hk : k < (ix c.modes.d p.mode).wins.d.length) (h : isM (ix c.parts.d (ix (ix c.modes.d p.mode).wins.d (k : Int)).part).ladder p.level = true) : xCh c p (k + 1) = xCh c p k := by
 unfold xCh
 rw [Yz hk, List.filter_append, List.filter_cons, h]
 simp
theorem xGp {c : xs2} {p : xBK} {k : Nat} (hk : k < (ix c.modes.d p.mode).wins.d.length) (h : isM (ix c.parts.d (ix (ix c.modes.d p.mode).wins.d (k : Int)).part).ladder p.level = false) : xCh c p (k + 1) = xCh c p k ++ [(ix (ix c.modes.d p.mode).wins.d (k : Int)).part] := by
 unfold xCh
 rw [Yz hk, List.filter_append, List.filter_cons, h, List.map_append]
 simp
theorem xF5 {c : xs2} {p : xBK} {k : Nat} : (xCh c p k).length ≤ k := by
 unfold xCh
 rw [List.length_map]
 refine Nat.le_trans (List.length_filter_le _ _) ?_
 rw [List.length_take]; omega
def xDd (c : xs2) : Bool := c.modes.d.all fun m => m.wins.d.all fun w => decide (0 ≤ w.part) && decide (w.part < c.parts.d.length)
theorem xJb {c : xs2} (h : xDd c = true) {p : xBK} (hp : xGb c p) : ∀ w ∈ xDW c p, 0 ≤ w ∧ w < (c.parts.d.length : Int) := fun w hw => by
 unfold xDW at hw
 obtain ⟨x, hx, rfl⟩ := List.mem_map.1 hw
 have h1 := List.all_eq_true.1 h _ (List.mem_of_getElem? (Yi hp.1 hp.2))
 have h2 := List.all_eq_true.1 h1 x (List.mem_filter.1 hx).1
 rw [Bool.and_eq_true] at h2
 exact ⟨of_decide_eq_true h2.1, of_decide_eq_true h2.2⟩
theorem xCi {c : xs2} : ∀ {fs : List xBL} {p : xBK}, ∀ x ∈ xBH c p fs, xGb c x
 | [], p, x, hx => by rw [xBH] at hx; cases hx
 | f :: fs, p, x, hx => by
  cases h : xCq c p f with
  | none => rw [xCF h] at hx; cases hx
  | some y =>
   rw [xCG h] at hx
   rcases List.mem_cons.1 hx with rfl | hx
   ·exact xD4 h
   ·exact xCi x hx
instance xKy : ElT 114 xBK := ⟨⟩
structure rpI (c : xs2) (fs : List xBL) (k : Nat) (p : xBK) (ps : List xBK) : Prop where
 kk : k ≤ fs.length
 e : ps ++ xBH c p (fs.drop k) = xBH c p0 fs
 m : 0 ≤ p.mode
 l0 : 0 ≤ p.level
 l9 : p.level ≤ k
theorem rpI.none {c : xs2} {fs : List xBL} {k : Nat} {p : xBK} {ps : List xBK} (h : rpI c fs k p ps) (hk : k < fs.length) (hn : xCq c p (ix fs (k : Int)) = none) : ps = xBH c p0 fs := by
 have hd : fs.drop k = ix fs (k : Int) :: fs.drop (k + 1) := by rw [List.drop_eq_getElem_cons hk]; simp [ix, hk]
 have := h.e
 rw [hd, xCF hn, List.append_nil] at this
 exact this
theorem rpI.fin {c : xs2} {fs : List xBL} {p : xBK} {ps : List xBK} (h : rpI c fs fs.length p ps) : ps = xBH c p0 fs := by
 have := h.e
 rw [List.drop_length, xBH, List.append_nil] at this
 exact this
theorem rpI.step {c : xs2} {fs : List xBL} {k : Nat} {p x : xBK} {ps : List xBK} (h : rpI c fs k p ps) (hk : k < fs.length) (hf : fs.length ≤ 1000000) (hn : xCq c p (ix fs (k : Int)) = some x) : rpI c fs (k + 1) x (ps ++ [x]) := by
 have hd : fs.drop k = ix fs (k : Int) :: fs.drop (k + 1) := by rw [List.drop_eq_getElem_cons hk]; simp [ix, hk]
 have he := h.e
 have l0 := h.l0
 have l9 := h.l9
 rw [hd, xCG hn] at he
 have hx := xD4 hn
 have hs := xIZ (down := c.down.d) (up := c.up.d) (level := p.level) (r := (ix fs (k : Int)).reading) h.l0 S.o
 have hl : x.level = xCW c.down.d c.up.d p.level (ix fs (k : Int)).reading := by
  unfold xCq at hn
  split at hn
  ·cases hn
  split at hn
  ·cases hn
  cases hn; rfl
 exact ⟨hk, by rw [List.append_assoc]; exact he, hx.1, by omega, by omega⟩
theorem rpI.init {c : xs2} {fs : List xBL} : rpI c fs 0 p0 [] := ⟨Nat.zero_le _, rfl, Int.le_refl 0, Int.le_refl 0, Int.le_refl 0⟩
theorem rpI.len {c : xs2} {fs : List xBL} {k : Nat} {p : xBK} {ps : List xBK} (h : rpI c fs k p ps) : ps.length ≤ (xBH c p0 fs).length := by
 have := congrArg List.length h.e
 rw [List.length_append] at this
 omega
theorem xIu {c : xs2} {p : xBK} {f : xBL} (_h0 : 0 ≤ p.mode) (h : (c.modes.d.length : Int) ≤ xCn c.modes.d.length p.mode f.mode ∨ (ix c.modes.d (xCn c.modes.d.length p.mode f.mode)).frame < 1 ∨ IntKind.i64.wrap (1152921504606846976 - p.stop) < (ix c.modes.d (xCn c.modes.d.length p.mode f.mode)).frame) : xCq c p f = none := by
 unfold xCq xEn
 rcases h with h | h | h
 ·rw [if_pos (.inr h)]
 ·split
  ·rfl
  ·rw [if_pos (.inl h)]
 ·split
  ·rfl
  ·rw [if_pos (.inr h)]
theorem xGK {c : xs2} {p : xBK} {f : xBL} (h0 : 0 ≤ p.mode) (h1 : xCn c.modes.d.length p.mode f.mode < (c.modes.d.length : Int)) (h2 : ¬ (ix c.modes.d (xCn c.modes.d.length p.mode f.mode)).frame < 1) (h3 : ¬ IntKind.i64.wrap (1152921504606846976 - p.stop) < (ix c.modes.d (xCn c.modes.d.length p.mode f.mode)).frame) :
  xCq c p f = some ⟨p.stop, IntKind.i64.wrap (p.stop + (ix c.modes.d (xCn c.modes.d.length p.mode f.mode)).frame), xCn c.modes.d.length p.mode f.mode, xCW c.down.d c.up.d p.level f.reading⟩ := by
 have hm : ¬ xCn c.modes.d.length p.mode f.mode < 0 := by
  unfold xCn
  split <;> omega
 unfold xCq xEn
 rw [if_neg (fun h => by rcases h with h | h <;> omega), if_neg (fun h => by rcases h with h | h <;> contradiction)]
section
attribute [local irreducible] BrK Xq Xt Xv XI FnK XZ Xw XC XV opX opK Yq Yk eqR Yj Yo Ys WL WD W X3 XO Tr drewK Ya X4 Yw Yv X1 YB mp blk rob sl sep ex fact old
section
attribute [local irreducible] xB2
section
variable {c : xs2} {fv : SV} {fs : List xBL}
theorem xBM (hs : shC c) (hf : fs.length ≤ 1000000) : Xb prog 48 #[.agg (En.enc c).toArray, fv.v] [sl true fv.v fs, sl true c.modes.s.v c.modes.d, sl true c.down.s.v c.down.d, sl true c.up.s.v c.up.d]
  fun v l' => ∃ s : SV, v = s.v ∧ l' = [sl false s.v (xBH c p0 fs)] := by
 intro F K hK
 simp only [ap]
 have hsm := hs.m
 have hsd := hs.d
 have hsu := hs.u
 refine S.I fun u => ?_
 have hX := @xEa.eq_def; repeat' (first | refine S.x ?_ | refine S.y ?_ ?_ | (refine G.call 94 ?_; refine S.c ?_ (h := xCg ‹_› ‹_› S.o S.o)) | rintro _ _ ⟨rfl, rfl⟩ | (refine G.prop ?_; assumption) | intro hb | ((fail_if_success refine G.tr ?_); exact G.prop S.p) | fail)
 obtain ⟨cb, rfl⟩ : ∃ cb, cb = hb := ⟨_, rfl⟩
 refine Tr.nilSl (α := xBK) ?_
 refine Tr.loopE (α := Nat × xBK × SV × List xBK) [4, 5, 6, 7, 8, 9] [1, 2] (fun x => [.slice none 0 0, x.2.2.1.v, .int .i64 x.2.1.stop, .int .i64 x.2.1.mode, .int .i64 x.2.1.level, .int .i64 x.1]) (fun x => [sl false x.2.2.1.v x.2.2.2, cfB cb c]) (fun x => rpI c fs x.1 x.2.1 x.2.2.2) (fun x => fs.length - x.1) (0, p0, ⟨none, 0, 0⟩, []) S.T rfl rpI.init fun x u hI => ?_
 obtain ⟨k, p, s2, ps⟩ := x
 simp only at hI ⊢
 simp only [ap]
 have hk := hI.kk
 have l0 := hI.l0
 have l9 := hI.l9
 have m0 := hI.m
 by_cases hin : k < fs.length
 ·have hw := Xo (k := k) S.o
  have hpl := hI.len
  have hp9 := xB0 (c := c) (fs := fs) (p := p0)
  obtain ⟨md, hmd⟩ : ∃ md, md = xCn c.modes.d.length p.mode (ix fs (k : Int)).mode := ⟨_, rfl⟩
  have hB := xIu (c := c) (p := p) (f := ix fs (k : Int)) m0
  have hG := xGK (c := c) (p := p) (f := ix fs (k : Int)) m0
  rw [← hmd] at hB hG
  by_cases hwm : 0 ≤ (ix fs (k : Int)).mode ∧ (ix fs (k : Int)).mode < c.modes.d.length
  ·obtain rfl : md = (ix fs (k : Int)).mode := by rw [hmd]; exact if_pos hwm
   obtain ⟨w1, w2⟩ := hwm
   by_cases hb1 : (ix c.modes.d (ix fs (k : Int)).mode).frame < 1
   ·have e := hI.none hin (hB (.inr (.inl hb1)))
    subst e
    clear hB hG hI hmd
    have hX := And.intro @xEa.eq_def hw; repeat' (first | refine S.x ?_ | refine S.y ?_ ?_ | (refine G.call 94 ?_; refine S.c ?_ (h := xCg ‹_› ‹_› S.o S.o)) | rintro _ _ ⟨rfl, rfl⟩ | (refine G.prop ?_; assumption) | intro hb | ((fail_if_success refine G.tr ?_); exact G.prop S.p) | fail)
    all_goals exact Tr.fin hK ⟨s2, rfl, rfl⟩ S.E
   ·by_cases hb2 : IntKind.i64.wrap (1152921504606846976 - p.stop) < (ix c.modes.d (ix fs (k : Int)).mode).frame
    ·have e := hI.none hin (hB (.inr (.inr hb2)))
     subst e
     clear hB hG hI hmd
     have hX := And.intro @xEa.eq_def hw; repeat' (first | refine S.x ?_ | refine S.y ?_ ?_ | (refine G.call 94 ?_; refine S.c ?_ (h := xCg ‹_› ‹_› S.o S.o)) | rintro _ _ ⟨rfl, rfl⟩ | (refine G.prop ?_; assumption) | intro hb | ((fail_if_success refine G.tr ?_); exact G.prop S.p) | fail)
     all_goals exact Tr.fin hK ⟨s2, rfl, rfl⟩ S.E
    ·have e := hI.step hin hf (hG S.o hb1 hb2)
     clear hB hG hI hmd
     obtain ⟨q, hq⟩ : ∃ q, IntKind.i64.wrap (p.stop + (ix c.modes.d (ix fs (k : Int)).mode).frame) = q := ⟨_, rfl⟩
     obtain ⟨z, hz⟩ : ∃ z, xCW c.down.d c.up.d p.level (ix fs (k : Int)).reading = z := ⟨_, rfl⟩
     rw [hq, hz] at e
     have hX := I4 @xEa.eq_def hw hq hz; repeat' (first | intro (sv : SV) | refine S.x ?_ | refine S.y ?_ ?_ | (refine G.call 94 ?_; refine S.c ?_ (h := xCg ‹_› ‹_› S.o S.o)) | rintro _ _ ⟨rfl, rfl⟩ | (refine G.prop ?_; assumption) | intro hb | ((fail_if_success refine G.tr ?_); exact G.prop S.p) | fail)
     all_goals exact S.R ((k + 1, ⟨p.stop, q, (ix fs (k : Int)).mode, z⟩, sv, ps ++ [⟨p.stop, q, (ix fs (k : Int)).mode, z⟩]) : Nat × xBK × SV × List xBK)
  ·obtain rfl : md = p.mode := by rw [hmd]; exact if_neg hwm
   by_cases hb0 : (c.modes.d.length : Int) ≤ p.mode
   ·have e := hI.none hin (hB (.inl hb0))
    subst e
    clear hB hG hI hmd
    have hX := And.intro @xEa.eq_def hw; repeat' (first | refine S.x ?_ | refine S.y ?_ ?_ | (refine G.call 94 ?_; refine S.c ?_ (h := xCg ‹_› ‹_› S.o S.o)) | rintro _ _ ⟨rfl, rfl⟩ | (refine G.prop ?_; assumption) | intro hb | ((fail_if_success refine G.tr ?_); exact G.prop S.p) | fail)
    all_goals exact Tr.fin hK ⟨s2, rfl, rfl⟩ S.E
   ·by_cases hb1 : (ix c.modes.d p.mode).frame < 1
    ·have e := hI.none hin (hB (.inr (.inl hb1)))
     subst e
     clear hB hG hI hmd
     have hX := And.intro @xEa.eq_def hw; repeat' (first | refine S.x ?_ | refine S.y ?_ ?_ | (refine G.call 94 ?_; refine S.c ?_ (h := xCg ‹_› ‹_› S.o S.o)) | rintro _ _ ⟨rfl, rfl⟩ | (refine G.prop ?_; assumption) | intro hb | ((fail_if_success refine G.tr ?_); exact G.prop S.p) | fail)
     all_goals exact Tr.fin hK ⟨s2, rfl, rfl⟩ S.E
    ·by_cases hb2 : IntKind.i64.wrap (1152921504606846976 - p.stop) < (ix c.modes.d p.mode).frame
     ·have e := hI.none hin (hB (.inr (.inr hb2)))
      subst e
      clear hB hG hI hmd
      have hX := And.intro @xEa.eq_def hw; repeat' (first | refine S.x ?_ | refine S.y ?_ ?_ | (refine G.call 94 ?_; refine S.c ?_ (h := xCg ‹_› ‹_› S.o S.o)) | rintro _ _ ⟨rfl, rfl⟩ | (refine G.prop ?_; assumption) | intro hb | ((fail_if_success refine G.tr ?_); exact G.prop S.p) | fail)
      all_goals exact Tr.fin hK ⟨s2, rfl, rfl⟩ S.E
     ·have e := hI.step hin hf (hG S.o hb1 hb2)
      clear hB hG hI hmd
      obtain ⟨q, hq⟩ : ∃ q, IntKind.i64.wrap (p.stop + (ix c.modes.d p.mode).frame) = q := ⟨_, rfl⟩
      obtain ⟨z, hz⟩ : ∃ z, xCW c.down.d c.up.d p.level (ix fs (k : Int)).reading = z := ⟨_, rfl⟩
      rw [hq, hz] at e
      have hX := I4 @xEa.eq_def hw hq hz; repeat' (first | intro (sv : SV) | refine S.x ?_ | refine S.y ?_ ?_ | (refine G.call 94 ?_; refine S.c ?_ (h := xCg ‹_› ‹_› S.o S.o)) | rintro _ _ ⟨rfl, rfl⟩ | (refine G.prop ?_; assumption) | intro hb | ((fail_if_success refine G.tr ?_); exact G.prop S.p) | fail)
      all_goals exact S.R ((k + 1, ⟨p.stop, q, p.mode, z⟩, sv, ps ++ [⟨p.stop, q, p.mode, z⟩]) : Nat × xBK × SV × List xBK)
 ·obtain rfl : k = fs.length := by omega
  have e := hI.fin
  subst e
  clear hI
  have hX := @xEa.eq_def; repeat' (first | refine S.x ?_ | refine S.y ?_ ?_ | (refine G.call 94 ?_; refine S.c ?_ (h := xCg ‹_› ‹_› S.o S.o)) | rintro _ _ ⟨rfl, rfl⟩ | (refine G.prop ?_; assumption) | intro hb | ((fail_if_success refine G.tr ?_); exact G.prop S.p) | fail)
  all_goals exact Tr.fin hK ⟨s2, rfl, rfl⟩ S.E
theorem xCZ (hfw : xDe c) : ∀ {ps : List xBK}, (∀ p ∈ ps, xGb c p) → (xBY c ps).length ≤ 1000 * ps.length
 | [], _ => Nat.le_refl _
 | p :: ps, h => by
  have h1 := xD0 hfw (h p (List.mem_cons_self ..))
  have h2 := xCZ hfw (ps := ps) fun q hq => h q (List.mem_cons_of_mem _ hq)
  unfold xBY at h2 ⊢
  rw [List.flatMap_cons, List.length_append, List.length_cons]
  omega
theorem xB1 (hs : shC c) (hf : fs.length ≤ 1000000) (hfw : xDe c) : Xb prog 44 #[.agg (En.enc c).toArray, fv.v] [sl true fv.v fs, sl true c.modes.s.v c.modes.d, fzl c.modes.d, sl true c.down.s.v c.down.d, sl true c.up.s.v c.up.d]
  fun v l' => ∃ s : SV, v = s.v ∧ l' = [sl false s.v (xB5 c fs)] := by
 intro F K hK
 simp only [ap]
 have hsm := hs.m
 have hp9 := xB0 (c := c) (fs := fs) (p := p0)
 have hpa := xCi (c := c) (fs := fs) (p := p0)
 have hpg := xBM (c := c) (fv := fv) (fs := fs) hs hf
 refine S.I fun u => ?_
 have hX := @xvR.eq_def; repeat' (first | (refine G.call 48 ?_; refine S.c ?_ (h := hpg); rintro _ _ ⟨sp, rfl, rfl⟩) | refine S.x ?_ | refine S.y ?_ ?_ | (refine G.call 48 ?_; refine S.c ?_ (h := xBM ‹_› S.o)) | rintro _ _ ⟨s2, rfl, rfl⟩ | (refine G.prop ?_; assumption) | intro hb | ((fail_if_success refine G.tr ?_); exact G.prop S.p) | fail)
 obtain ⟨cb, rfl⟩ : ∃ cb, cb = hb := ⟨_, rfl⟩
 clear hpg
 unfold xB5 at hK
 generalize xBH c p0 fs = pg at *
 refine Tr.nilSl (α := xB8) ?_
 refine Tr.loopE (α := Nat × SV) [5, 7] [2, 4, 6] (fun x => [x.2.v, .int .i64 x.1]) (fun x => [sl false x.2.v (xCl (xBY c (pg.take x.1))), sl false sp.v pg, cfB cb c]) (fun x => x.1 ≤ pg.length) (fun x => pg.length - x.1) (0, ⟨none, 0, 0⟩) S.T rfl (Nat.zero_le _) fun x u hk => ?_
 obtain ⟨k, s2⟩ := x
 simp only at hk ⊢
 simp only [ap]
 by_cases hin : k < pg.length
 ·have hw := Xo (k := k) S.o
  have hx := hpa _ (xCm hin)
  have hx1 := hx.1
  have hx2 := hx.2
  have hwl : (ix c.modes.d (ix pg (k : Int)).mode).wins.d.length ≤ 1000 := hfw.w _ (List.mem_of_getElem? (Yi hx1 hx2))
  have htk : pg.take (k + 1) = pg.take k ++ [ix pg (k : Int)] := Yz hin
  have hln := xCZ hfw (ps := pg.take k) fun q hq => hpa q (List.mem_of_mem_take hq)
  rw [List.length_take] at hln
  obtain ⟨ss, hss⟩ : ∃ ss, ss = xBY c (pg.take k) := ⟨_, rfl⟩
  have hsn : xBY c (pg.take (k + 1)) = ss ++ xBT c (ix pg (k : Int)) := by rw [htk, xC5, hss]
  rw [← hss] at hln ⊢
  clear hss htk
  have hX := And.intro @xvR.eq_def hw; repeat' (first | refine S.x ?_ | refine S.y ?_ ?_ | (refine G.call 48 ?_; refine S.c ?_ (h := xBM ‹_› S.o)) | rintro _ _ ⟨s2, rfl, rfl⟩ | (refine G.prop ?_; assumption) | intro hb | ((fail_if_success refine G.tr ?_); exact G.prop S.p) | fail)
  refine Tr.loopE (α := Nat × SV) [5, 9] [2, 4, 6, 7, 8] (fun x => [x.2.v, .int .i64 x.1]) (fun x => [sl false x.2.v (xCl (ss ++ (xBT c (ix pg (k : Int))).take x.1)), sl false sp.v pg, cfB cb c]) (fun x => x.1 ≤ (ix c.modes.d (ix pg (k : Int)).mode).wins.d.length) (fun x => (ix c.modes.d (ix pg (k : Int)).mode).wins.d.length - x.1) (0, s2) (by rw [List.take_zero, List.append_nil]; exact S.T) rfl (Nat.zero_le _) fun x u hj => ?_
  obtain ⟨j, s3⟩ := x
  simp only at hj ⊢
  simp only [ap]
  have hbl := xCy (ss := ss ++ (xBT c (ix pg (k : Int))).take j)
  rw [List.length_append, List.length_take] at hbl
  by_cases hjn : j < (ix c.modes.d (ix pg (k : Int)).mode).wins.d.length
  ·have hw2 := Xo (k := j) S.o
   have hst : xCl (ss ++ (xBT c (ix pg (k : Int))).take (j + 1)) = xCl (ss ++ (xBT c (ix pg (k : Int))).take j) ++ [⟨(xC8 (ix pg (k : Int)).at_ (ix (ix c.modes.d (ix pg (k : Int)).mode).wins.d (j : Int))).frm, (xC8 (ix pg (k : Int)).at_ (ix (ix c.modes.d (ix pg (k : Int)).mode).wins.d (j : Int))).frm, (xC8 (ix pg (k : Int)).at_ (ix (ix c.modes.d (ix pg (k : Int)).mode).wins.d (j : Int))).part⟩, ⟨(xC8 (ix pg (k : Int)).at_ (ix (ix c.modes.d (ix pg (k : Int)).mode).wins.d (j : Int))).to, (xC8 (ix pg (k : Int)).at_ (ix (ix c.modes.d (ix pg (k : Int)).mode).wins.d (j : Int))).to, -1⟩] := by
    have : (xBT c (ix pg (k : Int))).take (j + 1) = (xBT c (ix pg (k : Int))).take j ++ [xC8 (ix pg (k : Int)).at_ (ix (ix c.modes.d (ix pg (k : Int)).mode).wins.d (j : Int))] := by
     unfold xBT xCA
     rw [← List.map_take, ← List.map_take, Yz hjn, List.map_append]; rfl
    rw [this, ← List.append_assoc, xDm]
   have hX := And.intro @xvR.eq_def hw2; repeat' (first | intro (sv : SV) | refine S.x ?_ | refine S.y ?_ ?_ | (refine G.call 48 ?_; refine S.c ?_ (h := xBM ‹_› S.o)) | rintro _ _ ⟨s2, rfl, rfl⟩ | (refine G.prop ?_; assumption) | intro hb | ((fail_if_success refine G.tr ?_); exact G.prop S.p) | fail)
   all_goals
    have hX := I3 hst (@xC8.eq_def) (@List.append_assoc.{0})
    exact S.R ((j + 1, sv) : Nat × SV)
  ·obtain rfl : j = (ix c.modes.d (ix pg (k : Int)).mode).wins.d.length := by omega
   have hta : (xBT c (ix pg (k : Int))).take (ix c.modes.d (ix pg (k : Int)).mode).wins.d.length = xBT c (ix pg (k : Int)) := List.take_of_length_le (by unfold xBT xCA; rw [List.length_map]; exact Nat.le_refl _)
   rw [hta]
   have hX := And.intro @xvR.eq_def hw; repeat' (first | refine S.x ?_ | refine S.y ?_ ?_ | (refine G.call 48 ?_; refine S.c ?_ (h := xBM ‹_› S.o)) | rintro _ _ ⟨s2, rfl, rfl⟩ | (refine G.prop ?_; assumption) | intro hb | ((fail_if_success refine G.tr ?_); exact G.prop S.p) | fail)
   all_goals
    have hX := hsn
    exact S.R ((k + 1, s3) : Nat × SV)
 ·obtain rfl : k = pg.length := by omega
  rw [List.take_length]
  have hX := @xvR.eq_def; repeat' (first | refine S.x ?_ | refine S.y ?_ ?_ | (refine G.call 48 ?_; refine S.c ?_ (h := xBM ‹_› S.o)) | rintro _ _ ⟨s2, rfl, rfl⟩ | (refine G.prop ?_; assumption) | intro hb | ((fail_if_success refine G.tr ?_); exact G.prop S.p) | fail)
  all_goals exact Tr.fin hK ⟨s2, rfl, rfl⟩ S.E
