import Derived.Test.YtkapfpliiaegfaaGreatZ09
namespace Go.Proofs.YtkapfpliiaegfaaGreat
open Go Go.Wk Tryz
set_option maxHeartbeats 3200000
set_option maxRecDepth 100000
instance xKy : ElT 114 xBK := ⟨⟩
structure rpI (c : xs2) (fs : List xBL) (k : Nat) (p : xBK) (ps : List xBK) : Prop where
 kk : k ≤ fs.length
 e : ps ++ xBH c p (fs.drop k) = xBH c p0 fs
 m : 0 ≤ p.mode
 l0 : 0 ≤ p.level
 l9 : p.level ≤ k
theorem rpI.none {c : xs2} {fs : List xBL} {k : Nat} {p : xBK} {ps : List xBK} (h : rpI c fs k p ps) (hk : k < fs.length) (hn : xCq c p (ix fs (k : Int)) = none) : ps = xBH c p0 fs := by
 have hd : fs.drop k = ix fs (k : Int) :: fs.drop (k + 1) := by rw [List.drop_eq_getElem_cons hk]; simp [ix, hk]
 have := h.e
 rw [hd, xCF hn, List.append_nil] at this
 exact this
theorem rpI.fin {c : xs2} {fs : List xBL} {p : xBK} {ps : List xBK} (h : rpI c fs fs.length p ps) : ps = xBH c p0 fs := by
 have := h.e
 rw [List.drop_length, xBH, List.append_nil] at this
 exact this
theorem rpI.step {c : xs2} {fs : List xBL} {k : Nat} {p x : xBK} {ps : List xBK} (h : rpI c fs k p ps) (hk : k < fs.length) (hf : fs.length ≤ 1000000) (hn : xCq c p (ix fs (k : Int)) = some x) : rpI c fs (k + 1) x (ps ++ [x]) := by
 have hd : fs.drop k = ix fs (k : Int) :: fs.drop (k + 1) := by rw [List.drop_eq_getElem_cons hk]; simp [ix, hk]
 have he := h.e
 have l0 := h.l0
 have l9 := h.l9
 rw [hd, xCG hn] at he
 have hx := xD4 hn
 have hs := xIZ (down := c.down.d) (up := c.up.d) (level := p.level) (r := (ix fs (k : Int)).reading) h.l0 S.o
 have hl : x.level = xCW c.down.d c.up.d p.level (ix fs (k : Int)).reading := by
  unfold xCq at hn
  split at hn
  ·cases hn
  split at hn
  ·cases hn
  cases hn; rfl
 exact ⟨hk, by rw [List.append_assoc]; exact he, hx.1, by omega, by omega⟩
theorem rpI.init {c : xs2} {fs : List xBL} : rpI c fs 0 p0 [] := ⟨Nat.zero_le _, rfl, Int.le_refl 0, Int.le_refl 0, Int.le_refl 0⟩
theorem rpI.len {c : xs2} {fs : List xBL} {k : Nat} {p : xBK} {ps : List xBK} (h : rpI c fs k p ps) : ps.length ≤ (xBH c p0 fs).length := by
 have := congrArg List.length h.e
 rw [List.length_append] at this
 omega
theorem xIu {c : xs2} {p : xBK} {f : xBL} (_h0 : 0 ≤ p.mode) (h : (c.modes.d.length : Int) ≤ xCn c.modes.d.length p.mode f.mode ∨ (ix c.modes.d (xCn c.modes.d.length p.mode f.mode)).frame < 1 ∨ IntKind.i64.wrap (1152921504606846976 - p.stop) < (ix c.modes.d (xCn c.modes.d.length p.mode f.mode)).frame) : xCq c p f = none := by
 unfold xCq xEn
 rcases h with h | h | h
 ·rw [if_pos (.inr h)]
 ·split
  ·rfl
  ·rw [if_pos (.inl h)]
 ·split
  ·rfl
  ·rw [if_pos (.inr h)]
theorem xGK {c : xs2} {p : xBK} {f : xBL} (h0 : 0 ≤ p.mode) (h1 : xCn c.modes.d.length p.mode f.mode < (c.modes.d.length : Int)) (h2 : ¬ (ix c.modes.d (xCn c.modes.d.length p.mode f.mode)).frame < 1) (h3 : ¬ IntKind.i64.wrap (1152921504606846976 - p.stop) < (ix c.modes.d (xCn c.modes.d.length p.mode f.mode)).frame) :
  xCq c p f = some ⟨p.stop, IntKind.i64.wrap (p.stop + (ix c.modes.d (xCn c.modes.d.length p.mode f.mode)).frame), xCn c.modes.d.length p.mode f.mode, xCW c.down.d c.up.d p.level f.reading⟩ := by
 have hm : ¬ xCn c.modes.d.length p.mode f.mode < 0 := by
  unfold xCn
  split <;> omega
 unfold xCq xEn
 rw [if_neg (fun h => by rcases h with h | h <;> omega), if_neg (fun h => by rcases h with h | h <;> contradiction)]
section
attribute [local irreducible] BrK Xq Xt Xv XI FnK XZ Xw XC XV opX opK Yq Yk eqR Yj Yo Ys WL WD W X3 XO Tr drewK Ya X4 Yw Yv X1 YB mp blk rob sl sep ex fact old
section
attribute [local irreducible] xRZ
section
variable {c : xs2} {fv : SV} {fs : List xBL}
theorem xBM (hs : shC c) (hf : fs.length ≤ 1000000) : Xb prog 48 #[.agg (En.enc c).toArray, fv.v] [sl true fv.v fs, sl true c.modes.s.v c.modes.d, sl true c.down.s.v c.down.d, sl true c.up.s.v c.up.d]
  fun v l' => ∃ s : SV, v = s.v ∧ l' = [sl false s.v (xBH c p0 fs)] := by
 intro F K hK
 simp only [ap]
 have hsm := hs.m
 have hsd := hs.d
 have hsu := hs.u
 refine S.I fun u => ?_
 have hX := @xEa.eq_def; repeat' (first | refine S.x ?_ | refine S.y ?_ ?_ | (refine G.call 94 ?_; refine S.c ?_ (h := xCg ‹_› ‹_› S.o S.o)) | rintro _ _ ⟨rfl, rfl⟩ | (refine G.prop ?_; assumption) | intro hb | ((fail_if_success refine G.tr ?_); exact G.prop S.p) | fail)
 obtain ⟨cb, rfl⟩ : ∃ cb, cb = hb := ⟨_, rfl⟩
 refine Tr.nilSl (α := xBK) ?_
 refine Tr.loopE (α := Nat × xBK × SV × List xBK) [4, 5, 6, 7, 8, 9] [1, 2] (fun x => [.slice none 0 0, x.2.2.1.v, .int .i64 x.2.1.stop, .int .i64 x.2.1.mode, .int .i64 x.2.1.level, .int .i64 x.1]) (fun x => [sl false x.2.2.1.v x.2.2.2, cfB cb c]) (fun x => rpI c fs x.1 x.2.1 x.2.2.2) (fun x => fs.length - x.1) (0, p0, ⟨none, 0, 0⟩, []) S.T rfl rpI.init fun x u hI => ?_
 obtain ⟨k, p, s2, ps⟩ := x
 simp only at hI ⊢
 simp only [ap]
 have hk := hI.kk
 have l0 := hI.l0
 have l9 := hI.l9
 have m0 := hI.m
 by_cases hin : k < fs.length
 ·have hw := Xo (k := k) S.o
  have hpl := hI.len
  have hp9 := xB0 (c := c) (fs := fs) (p := p0)
  obtain ⟨md, hmd⟩ : ∃ md, md = xCn c.modes.d.length p.mode (ix fs (k : Int)).mode := ⟨_, rfl⟩
  have hB := xIu (c := c) (p := p) (f := ix fs (k : Int)) m0
  have hG := xGK (c := c) (p := p) (f := ix fs (k : Int)) m0
  rw [← hmd] at hB hG
  by_cases hwm : 0 ≤ (ix fs (k : Int)).mode ∧ (ix fs (k : Int)).mode < c.modes.d.length
  ·obtain rfl : md = (ix fs (k : Int)).mode := by rw [hmd]; exact if_pos hwm
   obtain ⟨w1, w2⟩ := hwm
   by_cases hb1 : (ix c.modes.d (ix fs (k : Int)).mode).frame < 1
   ·have e := hI.none hin (hB (.inr (.inl hb1)))
    subst e
    clear hB hG hI hmd
    have hX := And.intro @xEa.eq_def hw; repeat' (first | refine S.x ?_ | refine S.y ?_ ?_ | (refine G.call 94 ?_; refine S.c ?_ (h := xCg ‹_› ‹_› S.o S.o)) | rintro _ _ ⟨rfl, rfl⟩ | (refine G.prop ?_; assumption) | intro hb | ((fail_if_success refine G.tr ?_); exact G.prop S.p) | fail)
    all_goals exact Tr.fin hK ⟨s2, rfl, rfl⟩ S.E
   ·by_cases hb2 : IntKind.i64.wrap (1152921504606846976 - p.stop) < (ix c.modes.d (ix fs (k : Int)).mode).frame
    ·have e := hI.none hin (hB (.inr (.inr hb2)))
     subst e
     clear hB hG hI hmd
     have hX := And.intro @xEa.eq_def hw; repeat' (first | refine S.x ?_ | refine S.y ?_ ?_ | (refine G.call 94 ?_; refine S.c ?_ (h := xCg ‹_› ‹_› S.o S.o)) | rintro _ _ ⟨rfl, rfl⟩ | (refine G.prop ?_; assumption) | intro hb | ((fail_if_success refine G.tr ?_); exact G.prop S.p) | fail)
     all_goals exact Tr.fin hK ⟨s2, rfl, rfl⟩ S.E
    ·have e := hI.step hin hf (hG S.o hb1 hb2)
     clear hB hG hI hmd
     obtain ⟨q, hq⟩ : ∃ q, IntKind.i64.wrap (p.stop + (ix c.modes.d (ix fs (k : Int)).mode).frame) = q := ⟨_, rfl⟩
     obtain ⟨z, hz⟩ : ∃ z, xCW c.down.d c.up.d p.level (ix fs (k : Int)).reading = z := ⟨_, rfl⟩
     rw [hq, hz] at e
     have hX := I4 @xEa.eq_def hw hq hz; repeat' (first | intro (sv : SV) | refine S.x ?_ | refine S.y ?_ ?_ | (refine G.call 94 ?_; refine S.c ?_ (h := xCg ‹_› ‹_› S.o S.o)) | rintro _ _ ⟨rfl, rfl⟩ | (refine G.prop ?_; assumption) | intro hb | ((fail_if_success refine G.tr ?_); exact G.prop S.p) | fail)
     all_goals exact S.R ((k + 1, ⟨p.stop, q, (ix fs (k : Int)).mode, z⟩, sv, ps ++ [⟨p.stop, q, (ix fs (k : Int)).mode, z⟩]) : Nat × xBK × SV × List xBK)
  ·obtain rfl : md = p.mode := by rw [hmd]; exact if_neg hwm
   by_cases hb0 : (c.modes.d.length : Int) ≤ p.mode
   ·have e := hI.none hin (hB (.inl hb0))
    subst e
    clear hB hG hI hmd
    have hX := And.intro @xEa.eq_def hw; repeat' (first | refine S.x ?_ | refine S.y ?_ ?_ | (refine G.call 94 ?_; refine S.c ?_ (h := xCg ‹_› ‹_› S.o S.o)) | rintro _ _ ⟨rfl, rfl⟩ | (refine G.prop ?_; assumption) | intro hb | ((fail_if_success refine G.tr ?_); exact G.prop S.p) | fail)
    all_goals exact Tr.fin hK ⟨s2, rfl, rfl⟩ S.E
   ·by_cases hb1 : (ix c.modes.d p.mode).frame < 1
    ·have e := hI.none hin (hB (.inr (.inl hb1)))
     subst e
     clear hB hG hI hmd
     have hX := And.intro @xEa.eq_def hw; repeat' (first | refine S.x ?_ | refine S.y ?_ ?_ | (refine G.call 94 ?_; refine S.c ?_ (h := xCg ‹_› ‹_› S.o S.o)) | rintro _ _ ⟨rfl, rfl⟩ | (refine G.prop ?_; assumption) | intro hb | ((fail_if_success refine G.tr ?_); exact G.prop S.p) | fail)
     all_goals exact Tr.fin hK ⟨s2, rfl, rfl⟩ S.E
    ·by_cases hb2 : IntKind.i64.wrap (1152921504606846976 - p.stop) < (ix c.modes.d p.mode).frame
     ·have e := hI.none hin (hB (.inr (.inr hb2)))
      subst e
      clear hB hG hI hmd
      have hX := And.intro @xEa.eq_def hw; repeat' (first | refine S.x ?_ | refine S.y ?_ ?_ | (refine G.call 94 ?_; refine S.c ?_ (h := xCg ‹_› ‹_› S.o S.o)) | rintro _ _ ⟨rfl, rfl⟩ | (refine G.prop ?_; assumption) | intro hb | ((fail_if_success refine G.tr ?_); exact G.prop S.p) | fail)
      all_goals exact Tr.fin hK ⟨s2, rfl, rfl⟩ S.E
     ·have e := hI.step hin hf (hG S.o hb1 hb2)
      clear hB hG hI hmd
      obtain ⟨q, hq⟩ : ∃ q, IntKind.i64.wrap (p.stop + (ix c.modes.d p.mode).frame) = q := ⟨_, rfl⟩
      obtain ⟨z, hz⟩ : ∃ z, xCW c.down.d c.up.d p.level (ix fs (k : Int)).reading = z := ⟨_, rfl⟩
      rw [hq, hz] at e
      have hX := I4 @xEa.eq_def hw hq hz; repeat' (first | intro (sv : SV) | refine S.x ?_ | refine S.y ?_ ?_ | (refine G.call 94 ?_; refine S.c ?_ (h := xCg ‹_› ‹_› S.o S.o)) | rintro _ _ ⟨rfl, rfl⟩ | (refine G.prop ?_; assumption) | intro hb | ((fail_if_success refine G.tr ?_); exact G.prop S.p) | fail)
      all_goals exact S.R ((k + 1, ⟨p.stop, q, p.mode, z⟩, sv, ps ++ [⟨p.stop, q, p.mode, z⟩]) : Nat × xBK × SV × List xBK)
 ·obtain rfl : k = fs.length := by omega
  have e := hI.fin
  subst e
  clear hI
  have hX := @xEa.eq_def; repeat' (first | refine S.x ?_ | refine S.y ?_ ?_ | (refine G.call 94 ?_; refine S.c ?_ (h := xCg ‹_› ‹_› S.o S.o)) | rintro _ _ ⟨rfl, rfl⟩ | (refine G.prop ?_; assumption) | intro hb | ((fail_if_success refine G.tr ?_); exact G.prop S.p) | fail)
  all_goals exact Tr.fin hK ⟨s2, rfl, rfl⟩ S.E
end
end
end
structure xCT where
 ev : SV
 ms : SV
 bd : SV
 rn : SV
 idle : Int
 sleep : Int
 change : Int
 meter : Int
 sh : SV
 md : SV
 cr : SV
 late : Int
instance xLK : En xCT := ⟨fun d => [d.ev.v, d.ms.v, d.bd.v, d.rn.v, .int .i64 d.idle, .int .i64 d.sleep, .int .i64 d.change, .int .i64 d.meter, d.sh.v, d.md.v, d.cr.v, .int .i64 d.late], 12, fun _ => rfl, fun _ => rfl, by decide⟩
abbrev rsB (b : Nat) (r : xCT) : Xc := blk b (.cells (En.enc r).toArray 45 (0, 0))
theorem Tr.sepOp {Ls F : List Xc} {X : WP} (h : Tr (Ls ++ F) X) : Tr (xCp Ls :: F) X := Tr.imp Imp.sepO h
theorem Tr.sepCl {Ls l F : List Xc} {X : WP} (ht : YK l Ls F) (h : Tr (xCp Ls :: F) X) : Tr l X := Tr.imp (Imp.trans ht Imp.sepC) h
def bdL (x : xB8) : List Int := [x.due, x.at_, x.part]
section
attribute [local irreducible] BrK Xq Xt Xv XI FnK XZ Xw XC XV opX opK Yq Yk eqR Yj Yo Ys WL WD W X3 XO Tr drewK Ya X4 Yw Yv X1 YB mp blk rob sl sep ex fact old
section
def xDK (c : xs2) (w : xDL) : Prop := 0 ≤ w.part ∧ w.part < (c.parts.d.length : Int)
def xIA (c : xs2) (m : xCE) : Prop := ∀ i : Nat, i < m.wins.d.length → xDK c (ix m.wins.d (i : Int))
theorem xJa {c : xs2} (h : ∀ j : Nat, j < c.modes.d.length → xIA c (ix c.modes.d (j : Int))) : xDd c = true := by
 unfold xDd
 refine List.all_eq_true.2 fun m hm => List.all_eq_true.2 fun w hw => ?_
 have h1 := ofF (p := xIA c) rfl h m hm
 have h2 := ofF (p := xDK c) rfl h1 w hw
 rw [decide_eq_true h2.1, decide_eq_true h2.2]; rfl
theorem xJD {c : xs2} {j i : Nat} (hj : j < c.modes.d.length) (hi : i < (ix c.modes.d (j : Int)).wins.d.length) (h : ¬ xDK c (ix (ix c.modes.d (j : Int)).wins.d (i : Int))) : xDd c = false := by
 cases e : xDd c with
 | false => rfl
 | true =>
  unfold xDd at e
  have h1 := List.all_eq_true.1 e _ (xCm hj)
  have h2 := List.all_eq_true.1 h1 _ (xCm hi)
  rw [Bool.and_eq_true] at h2
  exact absurd ⟨of_decide_eq_true h2.1, of_decide_eq_true h2.2⟩ h
def zer (c : xs2) : List Int := List.replicate c.parts.d.length 0
theorem xDo {c : xs2} : (zer c).length = c.parts.d.length := List.length_replicate
theorem xCU {c : xs2} (hfw : xDe c) : ∀ {ps : List xBK}, (∀ p ∈ ps, xGb c p) → (xCx c ps).length ≤ 1000 * ps.length
 | [], _ => Nat.le_refl _
 | p :: ps, h => by
  have h2 := xCU hfw (ps := ps) fun q hq => h q (List.mem_cons_of_mem _ hq)
  have hp := h p (List.mem_cons_self ..)
  have h1 : (xDW c p).length ≤ 1000 := by
   unfold xDW
   rw [List.length_map]
   exact Nat.le_trans (List.length_filter_le _ _) (hfw.w _ (List.mem_of_getElem? (Yi hp.1 hp.2)))
  unfold xCx at h2 ⊢
  rw [List.flatMap_cons, List.length_append, List.length_cons]
  omega
theorem xHs {c : xs2} {l : List Int} {w : Int} (hl : l.length ≤ 1000000000) : 0 ≤ ix (xBW l (zer c)) w ∧ ix (xBW l (zer c)) w ≤ 1000000000 := by
 have h := xF7 (l := l) (ws := zer c) (b := 0) fun x hx => by
  have := List.eq_of_mem_replicate hx
  omega
 rcases Decidable.em (w.toNat < (xBW l (zer c)).length) with h1 | h1
 ·have : ix (xBW l (zer c)) w ∈ xBW l (zer c) := by
   unfold ix
   rw [List.getD_eq_getElem?_getD, List.getElem?_eq_getElem h1]
   exact List.getElem_mem h1
  have := h _ this
  omega
 ·have : ix (xBW l (zer c)) w = 0 := by
   unfold ix
   rw [List.getD_eq_getElem?_getD, List.getElem?_eq_none S.o]
   rfl
  rw [this]; exact ⟨by decide, by decide⟩
theorem xHx {c : xs2} (h : xDd c = true) {p : xBK} (hp : xGb c p) {j : Nat} (hj : j < (ix c.modes.d p.mode).wins.d.length) : xDK c (ix (ix c.modes.d p.mode).wins.d (j : Int)) := by
 have h1 := List.all_eq_true.1 h _ (List.mem_of_getElem? (Yi hp.1 hp.2))
 have h2 := List.all_eq_true.1 h1 _ (xCm hj)
 rw [Bool.and_eq_true] at h2
 exact ⟨of_decide_eq_true h2.1, of_decide_eq_true h2.2⟩
attribute [local irreducible] xRZ
end
structure xJ9 where
 run : SV
 idle : Int
 sleep : Int
 change : Int
end
structure EvA where
 part : Int
 win : Int
 proc : Int
 call : Int
 code : Int
 value : Int
structure xCP where
 part : Int
 win : Int
 frame : Int
instance xLp : Inhabited xCP := ⟨⟨0, 0, 0⟩⟩
instance xLO : En xCP := ⟨fun s => [.int .i64 s.part, .int .i64 s.win, .int .i64 s.frame], 3, fun _ => rfl, fun _ => rfl, by decide⟩
instance {l : List Xc} {a b c : Int} : De l (.agg #[.int .i64 a, .int .i64 b, .int .i64 c]) (xCP.mk a b c) := ⟨rfl⟩
instance xLx : ElT 85 xCP := ⟨⟩
theorem xD3 : ∀ {l ws : List Int}, (xCR l ws).length = l.length
 | [], _ => rfl
 | x :: xs, ws => by rw [xCR, List.length_cons, List.length_cons, xD3]
def xCP.pw (b : xCP) : Int × Int := (b.part, b.win)
section
attribute [local irreducible] BrK Xq Xt Xv XI FnK XZ Xw XC XV opX opK Yq Yk eqR Yj Yo Ys WL WD W X3 XO Tr drewK Ya X4 Yw Yv X1 YB mp blk rob sl sep ex fact old
section
attribute [local irreducible] xRZ
section
variable {c : xs2} {fv : SV} {fs : List xBL} {r : xCT} {evs : List EvA}
theorem xIv {part : Int} (hs : shC c) (hfw : xDe c) : Xb prog 37 #[.agg (En.enc c).toArray, .int .i64 part] [sl true c.parts.s.v c.parts.d, sl true c.modes.s.v c.modes.d, fzl c.modes.d]
  fun v l' => v = .bool (xDd c && (decide (0 ≤ part) && decide (part < (c.parts.d.length : Int)))) ∧ l' = [] := by
 intro F K hK
 simp only [ap]
 have hsm := hs.m
 refine S.I fun u => ?_
 have hX := @xog.eq_def; repeat' (first | intro (cb : Nat) | refine S.x ?_ | refine S.y ?_ ?_ | (refine G.prop ?_; assumption) | intro hb | ((fail_if_success refine G.tr ?_); exact G.prop S.p) | fail)
 refine Tr.loopE (α := Nat) [4, 5] [1, 2] (fun k => [.bool false, .int .i64 k]) (fun _ => [cfB cb c]) (fun k => k ≤ c.modes.d.length ∧ ∀ j : Nat, j < k → xIA c (ix c.modes.d (j : Int))) (fun k => c.modes.d.length - k) 0 S.T rfl ⟨Nat.zero_le _, fun j hj => absurd hj (Nat.not_lt_zero _)⟩ fun k u hk => ?_
 obtain ⟨hk, hm⟩ := hk
 simp only [ap]
 by_cases hin : k < c.modes.d.length
 ·have hw := Xo (k := k) S.o
  have hwl1 : (ix c.modes.d (k : Int)).wins.d.length ≤ 1000 := hfw.w _ (xCm hin)
  have hX := @xog.eq_def; repeat' (first | refine S.x ?_ | refine S.y ?_ ?_ | (refine G.prop ?_; assumption) | intro hb | ((fail_if_success refine G.tr ?_); exact G.prop S.p) | fail)
  refine Tr.loopE (α := Nat) [4, 6] [1, 2, 5] (fun i => [.bool false, .int .i64 i]) (fun _ => [cfB cb c]) (fun i => i ≤ (ix c.modes.d (k : Int)).wins.d.length ∧ ∀ j : Nat, j < i → xDK c (ix (ix c.modes.d (k : Int)).wins.d (j : Int))) (fun i => (ix c.modes.d (k : Int)).wins.d.length - i) 0 S.T rfl ⟨Nat.zero_le _, fun j hj => absurd hj (Nat.not_lt_zero _)⟩ fun i u hi => ?_
  obtain ⟨hi, hmi⟩ := hi
  simp only [ap]
  by_cases hii : i < (ix c.modes.d (k : Int)).wins.d.length
  ·have hwi := Xo (k := i) S.o
   by_cases g1 : xDK c (ix (ix c.modes.d (k : Int)).wins.d (i : Int))
   ·have hm2 := xCS (p := fun j : Nat => xDK c (ix (ix c.modes.d (k : Int)).wins.d (j : Int))) hmi g1
    obtain ⟨g2, g3⟩ := g1
    have hX := And.intro @xog.eq_def hwi; repeat' (first | refine S.x ?_ | refine S.y ?_ ?_ | (refine G.prop ?_; assumption) | intro hb | ((fail_if_success refine G.tr ?_); exact G.prop S.p) | fail)
    all_goals exact S.R (i + 1)
   ·have hmf := xJD hin hii g1
    rw [hmf, Bool.false_and] at hK
    unfold xDK at g1
    have hX := @xog.eq_def; repeat' (first | refine S.x ?_ | refine S.y ?_ ?_ | (refine G.prop ?_; assumption) | intro hb | ((fail_if_success refine G.tr ?_); exact G.prop S.p) | fail)
    all_goals exact Tr.fin hK ⟨rfl, rfl⟩ S.E
  ·obtain rfl : i = (ix c.modes.d (k : Int)).wins.d.length := by omega
   have hm2 := xCS (p := fun j : Nat => xIA c (ix c.modes.d (j : Int))) hm hmi
   have hX := And.intro @xog.eq_def hw; repeat' (first | refine S.x ?_ | refine S.y ?_ ?_ | (refine G.prop ?_; assumption) | intro hb | ((fail_if_success refine G.tr ?_); exact G.prop S.p) | fail)
   all_goals exact S.R (k + 1)
 ·obtain rfl : k = c.modes.d.length := by omega
  have hmt := xJa hm
  rw [hmt, Bool.true_and] at hK
  by_cases g1 : 0 ≤ part
  ·have hX := @xog.eq_def; repeat' (first | refine S.x ?_ | refine S.y ?_ ?_ | (refine G.prop ?_; assumption) | intro hb | ((fail_if_success refine G.tr ?_); exact G.prop S.p) | fail)
   all_goals exact Tr.fin hK ⟨S.v, rfl⟩ S.E
  ·rw [decide_eq_false g1, Bool.false_and] at hK
   have hX := @xog.eq_def; repeat' (first | refine S.x ?_ | refine S.y ?_ ?_ | (refine G.prop ?_; assumption) | intro hb | ((fail_if_success refine G.tr ?_); exact G.prop S.p) | fail)
   all_goals exact Tr.fin hK ⟨S.v, rfl⟩ S.E
theorem xB3 (hs : shC c) (hf : fs.length ≤ 1000000) (hfw : xDe c) (hmt : xDd c = true) : Xb prog 38 #[.agg (En.enc c).toArray, fv.v]
  [sl true fv.v fs, sl true c.parts.s.v c.parts.d, sl true c.modes.s.v c.modes.d, fzl c.modes.d, sl true c.down.s.v c.down.d, sl true c.up.s.v c.up.d]
  fun v l' => ∃ (s : SV) (bs : List xCP), bs.map xCP.pw = xCR (xCx c (xBH c p0 fs)) (zer c) ∧ v = s.v ∧ l' = [sl false s.v bs] := by
 intro F K hK
 simp only [ap]
 have hsm := hs.m
 have hsp := hs.p
 have hp9 := xB0 (c := c) (fs := fs) (p := p0)
 have hpa := xCi (c := c) (fs := fs) (p := p0)
 have hpg := xBM (c := c) (fv := fv) (fs := fs) hs hf
 have hzl := xDo (c := c)
 have hze : List.replicate ((c.parts.d.length : Int).toNat) (default : Int) = zer c := by unfold zer; rw [Int.toNat_natCast]; rfl
 have hfr : ∀ {l : List Int} {w : Int}, l.length ≤ 1000000000 → 0 ≤ ix (xBW l (zer c)) w ∧ ix (xBW l (zer c)) w ≤ 1000000000 := fun h => xHs h
 have hwl := xCU hfw (ps := xBH c p0 fs) hpa
 generalize xBH c p0 fs = pg at *
 generalize zer c = zs at *
 refine S.I fun u => ?_
 have hX := @xGy.eq_def; repeat' (first | (refine G.call 48 ?_; refine S.c ?_ (h := hpg); rintro _ _ ⟨sp, rfl, rfl⟩) | intro (so : SV) | refine S.x ?_ | refine S.y ?_ ?_ | (refine G.call 48 ?_; refine S.c ?_ (h := xBM ‹_› S.o)) | (refine G.call 86 ?_; refine S.c ?_ (h := xCX)) | rintro _ _ ⟨rfl, rfl⟩ | rintro _ _ ⟨_, rfl, rfl⟩ | (refine G.prop ?_; assumption) | intro hb | ((fail_if_success refine G.tr ?_); exact G.prop S.p) | fail)
 obtain ⟨cb, rfl⟩ : ∃ cb, cb = hb := ⟨_, rfl⟩
 rw [hze]
 clear hze
 refine Tr.nilSl (α := xCP) ?_
 have h0 : xBW (xCx c (pg.take 0)) zs = zs := rfl
 rw [← h0]
 refine Tr.loopE (α := Nat × SV × List xCP) [5, 8] [2, 4, 6, 7] (fun x => [x.2.1.v, .int .i64 x.1]) (fun x => [sl false x.2.1.v x.2.2, sl false sp.v pg, sl false so.v (xBW (xCx c (pg.take x.1)) zs), cfB cb c]) (fun x => x.1 ≤ pg.length ∧ x.2.2.map xCP.pw = xCR (xCx c (pg.take x.1)) zs) (fun x => pg.length - x.1) (0, ⟨none, 0, 0⟩, []) S.T rfl ⟨Nat.zero_le _, rfl⟩ fun x u hI => ?_
 obtain ⟨k, s1, bs⟩ := x
 obtain ⟨hk, hbs⟩ := hI
 simp only at hk hbs ⊢
 clear h0
 simp only [ap]
 by_cases hin : k < pg.length
 ·have hw := Xo (k := k) S.o
  have hx := hpa _ (xCm hin)
  have hx1 := hx.1
  have hx2 := hx.2
  have hwl1 : (ix c.modes.d (ix pg (k : Int)).mode).wins.d.length ≤ 1000 := hfw.w _ (List.mem_of_getElem? (Yi hx1 hx2))
  have htk : pg.take (k + 1) = pg.take k ++ [ix pg (k : Int)] := Yz hin
  have hwk := xCU hfw (ps := pg.take k) fun q hq => hpa q (List.mem_of_mem_take hq)
  rw [List.length_take] at hwk
  have hn : xBW (xCx c (pg.take (k + 1))) zs = xBW (xCx c (pg.take k) ++ xDW c (ix pg (k : Int))) zs := by rw [htk, xDw]
  have hn2 : xCR (xCx c (pg.take (k + 1))) zs = xCR (xCx c (pg.take k) ++ xDW c (ix pg (k : Int))) zs := by rw [htk, xDw]
  clear htk
  generalize xCx c (pg.take k) = wl at *
  have hX := And.intro @xGy.eq_def hw; repeat' (first | refine S.x ?_ | refine S.y ?_ ?_ | (refine G.call 48 ?_; refine S.c ?_ (h := xBM ‹_› S.o)) | (refine G.call 86 ?_; refine S.c ?_ (h := xCX)) | rintro _ _ ⟨rfl, rfl⟩ | rintro _ _ ⟨_, rfl, rfl⟩ | (refine G.prop ?_; assumption) | intro hb | ((fail_if_success refine G.tr ?_); exact G.prop S.p) | fail)
  have h0 : wl = wl ++ xCh c (ix pg (k : Int)) 0 := by rw [xJJ, List.append_nil]
  rw [h0]
  refine Tr.loopE (α := Nat × SV × List xCP) [5, 10] [2, 4, 6, 7, 8, 9] (fun x => [x.2.1.v, .int .i64 x.1]) (fun x => [sl false x.2.1.v x.2.2, sl false sp.v pg, sl false so.v (xBW (wl ++ xCh c (ix pg (k : Int)) x.1) zs), cfB cb c]) (fun x => x.1 ≤ (ix c.modes.d (ix pg (k : Int)).mode).wins.d.length ∧ x.2.2.map xCP.pw = xCR (wl ++ xCh c (ix pg (k : Int)) x.1) zs) (fun x => (ix c.modes.d (ix pg (k : Int)).mode).wins.d.length - x.1) (0, s1, bs) S.T rfl ⟨Nat.zero_le _, by rw [← h0]; exact hbs⟩ fun x u hI => ?_
  obtain ⟨j, s2, b2⟩ := x
  obtain ⟨hj, hb2⟩ := hI
  simp only at hj hb2 ⊢
  clear h0 hbs
  simp only [ap]
  by_cases hjn : j < (ix c.modes.d (ix pg (k : Int)).mode).wins.d.length
  ·have hwj := Xo (k := j) S.o
   obtain ⟨p1, p2⟩ := xHx hmt hx hjn
   have hlk := xF5 (c := c) (p := ix pg (k : Int)) (k := j)
   have hbl : b2.length ≤ 1000000000 := by
    have := congrArg List.length hb2
    rw [List.length_map, xD3, List.length_append] at this
    omega
   obtain ⟨r0, r9⟩ := hfr (l := wl ++ xCh c (ix pg (k : Int)) j) (w := (ix (ix c.modes.d (ix pg (k : Int)).mode).wins.d (j : Int)).part) (by rw [List.length_append]; omega)
   have hsl : (xBW (wl ++ xCh c (ix pg (k : Int)) j) zs).length = c.parts.d.length := by rw [xDi, hzl]
   cases hI : isM (ix c.parts.d (ix (ix c.modes.d (ix pg (k : Int)).mode).wins.d (j : Int)).part).ladder (ix pg (k : Int)).level with
   | true =>
    have hst : xBW (wl ++ xCh c (ix pg (k : Int)) (j + 1)) zs = xBW (wl ++ xCh c (ix pg (k : Int)) j) zs := by rw [xGI hjn hI]
    have hst2 : b2.map xCP.pw = xCR (wl ++ xCh c (ix pg (k : Int)) (j + 1)) zs := by rw [xGI hjn hI]; exact hb2
    generalize xBW (wl ++ xCh c (ix pg (k : Int)) j) zs = ws at *
    clear hb2
    have hX := I3 @xGy.eq_def hwj hI; repeat' (first | refine S.x ?_ | refine S.y ?_ ?_ | (refine G.call 48 ?_; refine S.c ?_ (h := xBM ‹_› S.o)) | (refine G.call 86 ?_; refine S.c ?_ (h := xCX)) | rintro _ _ ⟨rfl, rfl⟩ | rintro _ _ ⟨_, rfl, rfl⟩ | (refine G.prop ?_; assumption) | intro hb | ((fail_if_success refine G.tr ?_); exact G.prop S.p) | fail)
    all_goals
     have hX := hst
     exact S.R ((j + 1, s2, b2) : Nat × SV × List xCP)
   | false =>
    have hst : xBW (wl ++ xCh c (ix pg (k : Int)) (j + 1)) zs = (xBW (wl ++ xCh c (ix pg (k : Int)) j) zs).set (ix (ix c.modes.d (ix pg (k : Int)).mode).wins.d (j : Int)).part.toNat (ix (xBW (wl ++ xCh c (ix pg (k : Int)) j) zs) (ix (ix c.modes.d (ix pg (k : Int)).mode).wins.d (j : Int)).part + 1) := by rw [xGp hjn hI, ← List.append_assoc, xDy]; rfl
    have hst2 : (b2 ++ [(⟨(ix (ix c.modes.d (ix pg (k : Int)).mode).wins.d (j : Int)).part, ix (xBW (wl ++ xCh c (ix pg (k : Int)) j) zs) (ix (ix c.modes.d (ix pg (k : Int)).mode).wins.d (j : Int)).part, (k : Int)⟩ : xCP)]).map xCP.pw = xCR (wl ++ xCh c (ix pg (k : Int)) (j + 1)) zs := by
     rw [xGp hjn hI, ← List.append_assoc, xEd, List.map_append, hb2]; rfl
    generalize xBW (wl ++ xCh c (ix pg (k : Int)) j) zs = ws at *
    have hwb := Ye (n := ix ws (ix (ix c.modes.d (ix pg (k : Int)).mode).wins.d (j : Int)).part + 1) S.o S.o
    clear hb2
    have hX := I5 @xGy.eq_def hwj hI hwb hsl; repeat' (first | intro (sv : SV) | refine S.x ?_ | refine S.y ?_ ?_ | (refine G.call 48 ?_; refine S.c ?_ (h := xBM ‹_› S.o)) | (refine G.call 86 ?_; refine S.c ?_ (h := xCX)) | rintro _ _ ⟨rfl, rfl⟩ | rintro _ _ ⟨_, rfl, rfl⟩ | (refine G.prop ?_; assumption) | intro hb | ((fail_if_success refine G.tr ?_); exact G.prop S.p) | fail)
    all_goals
     have hX := hst
     exact S.R ((j + 1, sv, b2 ++ [(⟨(ix (ix c.modes.d (ix pg (k : Int)).mode).wins.d (j : Int)).part, ix ws (ix (ix c.modes.d (ix pg (k : Int)).mode).wins.d (j : Int)).part, (k : Int)⟩ : xCP)]) : Nat × SV × List xCP)
  ·obtain rfl : j = (ix c.modes.d (ix pg (k : Int)).mode).wins.d.length := by omega
   have hb3 := hb2
   rw [xDT (Nat.le_refl _), ← hn2] at hb3
   rw [xDT (Nat.le_refl _)]
   clear hb2
   have hX := And.intro @xGy.eq_def hw; repeat' (first | refine S.x ?_ | refine S.y ?_ ?_ | (refine G.call 48 ?_; refine S.c ?_ (h := xBM ‹_› S.o)) | (refine G.call 86 ?_; refine S.c ?_ (h := xCX)) | rintro _ _ ⟨rfl, rfl⟩ | rintro _ _ ⟨_, rfl, rfl⟩ | (refine G.prop ?_; assumption) | intro hb | ((fail_if_success refine G.tr ?_); exact G.prop S.p) | fail)
   all_goals
    have hX := hn
    exact S.R ((k + 1, s2, b2) : Nat × SV × List xCP)
 ·obtain rfl : k = pg.length := by omega
  rw [List.take_length] at hbs
  rw [List.take_length]
  have hX := @xGy.eq_def; repeat' (first | refine S.x ?_ | refine S.y ?_ ?_ | (refine G.call 48 ?_; refine S.c ?_ (h := xBM ‹_› S.o)) | (refine G.call 86 ?_; refine S.c ?_ (h := xCX)) | rintro _ _ ⟨rfl, rfl⟩ | rintro _ _ ⟨_, rfl, rfl⟩ | (refine G.prop ?_; assumption) | intro hb | ((fail_if_success refine G.tr ?_); exact G.prop S.p) | fail)
  all_goals exact Tr.fin hK ⟨s1, bs, hbs, rfl, rfl⟩ S.E
