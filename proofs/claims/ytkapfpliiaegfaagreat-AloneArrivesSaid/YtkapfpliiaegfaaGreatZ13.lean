import Derived.Test.YtkapfpliiaegfaaGreatLO
namespace Go.Proofs.YtkapfpliiaegfaaGreat
open Go Go.Wk Tryz
set_option maxHeartbeats 3200000
set_option maxRecDepth 100000
structure xSs (c : xs2) (part : Int) (ms : List xRY) (bs : List xCP) (k : Nat) (rows : List Row) (al : List xRY) : Prop where
 kk : k ≤ bs.length
 r : xR8 rows = (xSu c.chans.d (ms.map xRY.ab) part ((bs.take k).map xCP.pw)).1
 a : al.map xRY.ab = (xSu c.chans.d (ms.map xRY.ab) part ((bs.take k).map xCP.pw)).2
theorem xSs.len {c : xs2} {part : Int} {ms : List xRY} {bs : List xCP} {k : Nat} {rows : List Row} {al : List xRY} (h : xSs c part ms bs k rows al) : rows.length ≤ bs.length ∧ al.length ≤ ms.length * bs.length := by
 have := xSi (chs := c.chans.d) (mine := ms.map xRY.ab) (part := part) (l := (bs.take k).map xCP.pw) (x := ([], []))
 have h1 := congrArg List.length h.r
 have h2 := congrArg List.length h.a
 have hk := h.kk
 unfold xR8 at h1
 unfold xSu at h1 h2
 rw [List.length_map] at h1 h2 this
 rw [List.length_map, List.length_take] at this
 simp only [List.length_nil, Nat.zero_add] at this
 have : ms.length * min k bs.length ≤ ms.length * bs.length := Nat.mul_le_mul_left _ (Nat.min_le_right _ _)
 omega
theorem xSs.t {c : xs2} {part : Int} {ms : List xRY} {bs : List xCP} {k : Nat} {rows : List Row} {al m3 : List xRY} {sa : SV} (h : xSs c part ms bs k rows al) (hk : k < bs.length) (hw : (ix bs (k : Int)).part = part) (hm : m3.map xRY.ab = ([] : List xRY).map xRY.ab ++ xR2 c.chans.d (ms.map xRY.ab) (ix bs (k : Int)).part (ix bs (k : Int)).win) : xSs c part ms bs (k + 1) (rows ++ [⟨sa, al⟩]) m3 := by
 have e : (bs.take (k + 1)).map xCP.pw = (bs.take k).map xCP.pw ++ [((ix bs (k : Int)).part, (ix bs (k : Int)).win)] := by rw [Yz hk, List.map_append]; rfl
 refine ⟨hk, ?_, ?_⟩
 ·rw [e, xR1]
  unfold xSb
  rw [if_pos hw, ← h.r, ← h.a]
  unfold xR8
  rw [List.map_append]; rfl
 ·rw [e, xR1]
  unfold xSb
  rw [if_pos hw, hm]; rfl
theorem xSs.f {c : xs2} {part : Int} {ms : List xRY} {bs : List xCP} {k : Nat} {rows : List Row} {al m3 : List xRY} (h : xSs c part ms bs k rows al) (hk : k < bs.length) (hw : ¬ (ix bs (k : Int)).part = part) (hm : m3.map xRY.ab = al.map xRY.ab ++ xR2 c.chans.d (ms.map xRY.ab) (ix bs (k : Int)).part (ix bs (k : Int)).win) : xSs c part ms bs (k + 1) rows m3 := by
 have e : (bs.take (k + 1)).map xCP.pw = (bs.take k).map xCP.pw ++ [((ix bs (k : Int)).part, (ix bs (k : Int)).win)] := by rw [Yz hk, List.map_append]; rfl
 refine ⟨hk, ?_, ?_⟩
 ·rw [e, xR1]
  unfold xSb
  rw [if_neg hw, ← h.r]
 ·rw [e, xR1]
  unfold xSb
  rw [if_neg hw, hm, h.a]
theorem xSV {chs : List xD7} {part : Int} {l : List xR3} {m2 : List xRY} (h : m2.map xRY.ab = xR4 chs part l) {j : Nat} (hj : j < m2.length) : 0 ≤ (ix m2 (j : Int)).ch ∧ (ix m2 (j : Int)).ch < (chs.length : Int) := by
 have hm : (ix m2 (j : Int)).ab ∈ xR4 chs part l := by rw [← h]; exact List.mem_map_of_mem (xCm hj)
 have h2 := (List.mem_filter.1 hm).2
 unfold xR5 at h2
 rw [Bool.and_eq_true] at h2
 have h3 := of_decide_eq_true h2.1
 have h4 : 0 ≤ (ix m2 (j : Int)).ch ∧ (ix m2 (j : Int)).ch < ((min chs.length 16 : Nat) : Int) := h3
 exact ⟨h4.1, by omega⟩
section
attribute [local irreducible] BrK Xq Xt Xv XI FnK XZ Xw XC XV opX opK Yq Yk eqR Yj Yo Ys WL WD W X3 XO Tr drewK Ya X4 Yw Yv X1 YB mp blk rob sl sep ex fact old
section
attribute [local irreducible] xRZ
section
variable {c : xs2} {ps sf s : SV} {ms : List xRY} {fs : List xBL} {part : Int}
theorem xTu (hs : shC c) (hf : fs.length ≤ 100) (hfw : xDe c) (hn : ms.length ≤ 300) : Xb prog 9 #[.agg (En.enc c).toArray, .agg #[ps.v, sf.v], s.v, .int .i64 part]
  [sl true sf.v fs, sl true c.parts.s.v c.parts.d, sl true c.chans.s.v c.chans.d, sl true c.modes.s.v c.modes.d, fzl c.modes.d, sl true c.down.s.v c.down.d, sl true c.up.s.v c.up.d, sl true s.v ms, fzl ms]
  fun v l' => ∃ (s2 : SV) (rows : List Row), xR8 rows = xQR c fs (xR4 c.chans.d part (ms.map xRY.ab)) part ∧ v = s2.v ∧ l' = [sl false s2.v rows, fzl rows] := by
 intro F K hK
 simp only [ap]
 have hsp := hs.p
 have hsc := hs.c
 have hmy := xIv (c := c) (part := part) hs hfw
 have hiz : Xb prog 39 #[.agg (En.enc c).toArray, .int .i64 part, s.v] [sl true c.chans.s.v c.chans.d, sl true s.v ms, fzl ms] _ := xR0 (u0 := .agg (En.enc c).toArray) (c := c.c) (hd := ⟨rfl⟩) (chs := c.chans.d) (part := part) (s := s) (ms := ms) S.o
 unfold xQR at hK
 generalize hmm : (xDd c && (decide (0 ≤ part) && decide (part < (c.parts.d.length : Int)))) = mm at *
 cases mm with
 | false =>
  rw [if_neg (by decide)] at hK
  refine S.I fun u => ?_
  have hX := @pl9.eq_def; repeat' (first | (refine G.call 37 ?_; refine S.c ?_ (h := hmy); rintro _ _ ⟨rfl, rfl⟩) | refine S.x ?_ | refine S.y ?_ ?_ | (refine G.call 38 ?_; refine S.c ?_ (h := xB3 ‹_› S.o ‹_› ‹_›)) | (refine G.call 39 ?_; refine S.c ?_ (h := xR0 ?_)) | rintro _ _ ⟨so, bs, hbs, rfl, rfl⟩ | rintro _ _ ⟨_, _, hrins, rfl, rfl⟩ | (refine G.prop ?_; assumption) | intro hb | ((fail_if_success refine G.tr ?_); exact G.prop S.p) | fail)
  all_goals
   refine Tr.nilSl (α := Row) ?_
   exact Tr.fin hK ⟨⟨none, 0, 0⟩, [], rfl, rfl, rfl⟩ S.E
 | true =>
  rw [if_pos rfl] at hK
  have hmm2 := hmm
  rw [Bool.and_eq_true] at hmm2
  have hmt := hmm2.1
  have hal := xB3 (c := c) (fv := sf) (fs := fs) hs S.o hfw hmt
  have hln : (xCR (xCx c (xBH c p0 fs)) (zer c)).length ≤ 100000 := by
   rw [xD3]
   have := xCU hfw (ps := xBH c p0 fs) xCi
   have := xB0 (c := c) (fs := fs) (p := p0)
   omega
  generalize xCR (xCx c (xBH c p0 fs)) (zer c) = nl at *
  refine S.I fun u => ?_
  have hX := @pl9.eq_def; repeat' (first | intro (cb : Nat) | (refine G.call 37 ?_; refine S.c ?_ (h := hmy); rintro _ _ ⟨rfl, rfl⟩) | (refine G.call 38 ?_; refine S.c ?_ (h := hal); rintro _ _ ⟨sb, bs, hbs, rfl, rfl⟩) | (refine G.call 39 ?_; refine S.c ?_ (h := hiz); rintro _ _ ⟨sm, m2, hm2, rfl, rfl⟩) | refine S.x ?_ | refine S.y ?_ ?_ | (refine G.call 38 ?_; refine S.c ?_ (h := xB3 ‹_› S.o ‹_› ‹_›)) | (refine G.call 39 ?_; refine S.c ?_ (h := xR0 ?_)) | rintro _ _ ⟨so, bs, hbs, rfl, rfl⟩ | rintro _ _ ⟨_, _, hrins, rfl, rfl⟩ | (refine G.prop ?_; assumption) | intro hb | ((fail_if_success refine G.tr ?_); exact G.prop S.p) | fail)
  have hbl : bs.length ≤ 100000 := by
   have := congrArg List.length hbs
   rw [List.length_map] at this
   omega
  have hml : m2.length ≤ 300 := by
   have h1 := congrArg List.length hm2
   have h2 : (xR4 c.chans.d part (ms.map xRY.ab)).length ≤ (ms.map xRY.ab).length := List.length_filter_le _ _
   rw [List.length_map] at h1 h2
   omega
  rw [← hbs, ← hm2] at hK
  rename_i cc
  refine Tr.nilSl (α := Row) ?_
  refine Tr.nilSl (α := xRY) ?_
  refine Tr.loopE (α := Nat × SV × List Row × SV × List xRY) [9, 12, 13] [3, 4, 8, 10, 11] (fun x => [x.2.1.v, x.2.2.2.1.v, .int .i64 x.1]) (fun x => [cfB cc c, sl false sb.v bs, sl false sm.v m2, fzl m2, sl false x.2.1.v x.2.2.1, fzl x.2.2.1, sl false x.2.2.2.1.v x.2.2.2.2, fzl x.2.2.2.2]) (fun x => xSs c part m2 bs x.1 x.2.2.1 x.2.2.2.2) (fun x => bs.length - x.1) (0, ⟨none, 0, 0⟩, [], ⟨none, 0, 0⟩, []) S.T rfl ⟨Nat.zero_le _, rfl, rfl⟩ fun x u hI => ?_
  obtain ⟨k, so, rows, sa, al⟩ := x
  simp only at hI ⊢
  have hk := hI.kk
  have hlen := hI.len
  have hal9 : al.length ≤ 30000000 := by
   have : m2.length * bs.length ≤ 300 * 100000 := Nat.mul_le_mul hml hbl
   omega
  simp only [ap]
  by_cases hin : k < bs.length
  ·have hw := Xo (k := k) S.o
   by_cases hwho : (ix bs (k : Int)).part = part
   ·have hnx : ∀ m3 : List xRY, m3.map xRY.ab = ([] : List xRY).map xRY.ab ++ xR2 c.chans.d (m2.map xRY.ab) (ix bs (k : Int)).part (ix bs (k : Int)).win → xSs c part m2 bs (k + 1) (rows ++ [⟨sa, al⟩]) m3 := fun m3 h => hI.t hin hwho h
    refine Tr.freezeAt (v := sa.v) (xs := al) S.K ?_
    clear hI
    have hX := And.intro @pl9.eq_def hw; repeat' (first | intro (so2 : SV) | refine S.x ?_ | refine S.y ?_ ?_ | (refine G.call 38 ?_; refine S.c ?_ (h := xB3 ‹_› S.o ‹_› ‹_›)) | (refine G.call 39 ?_; refine S.c ?_ (h := xR0 ?_)) | rintro _ _ ⟨so, bs, hbs, rfl, rfl⟩ | rintro _ _ ⟨_, _, hrins, rfl, rfl⟩ | (refine G.prop ?_; assumption) | intro hb | ((fail_if_success refine G.tr ?_); exact G.prop S.p) | fail)
    refine Tr.nilSl (α := xRY) ?_
    refine Tr.loopE (α := Nat × SV × List xRY) [12, 14] [3, 4, 8, 9, 10, 11, 13] (fun x => [x.2.1.v, .int .i64 x.1]) (fun x => [sl false x.2.1.v x.2.2, fzl x.2.2, sl false sm.v m2, fzl m2, sl false sb.v bs, cfB cc c]) (fun x => x.1 ≤ m2.length ∧ x.2.2.length ≤ 0 + x.1 ∧ x.2.2.map xRY.ab = ([] : List xRY).map xRY.ab ++ xR2 c.chans.d ((m2.take x.1).map xRY.ab) (ix bs (k : Int)).part (ix bs (k : Int)).win) (fun x => m2.length - x.1) (0, ⟨none, 0, 0⟩, []) S.T rfl ⟨Nat.zero_le _, Nat.le_refl _, by rw [List.take_zero]; exact (List.append_nil _).symm⟩ fun x u hJ => ?_
    obtain ⟨j, s3, m3⟩ := x
    obtain ⟨hj, hl3, hm3⟩ := hJ
    simp only at hj hl3 hm3 ⊢
    simp only [ap]
    by_cases hjn : j < m2.length
    ·have hwj := Xo (k := j) S.o
     obtain ⟨g4, g5⟩ := xSV hm2 hjn
     have htk : (m2.take (j + 1)).map xRY.ab = (m2.take j).map xRY.ab ++ [(ix m2 (j : Int)).ab] := by rw [Yz hjn, List.map_append]; rfl
     have hstep := xSf (chs := c.chans.d) (l := (m2.take j).map xRY.ab) (m := (ix m2 (j : Int)).ab) (who := (ix bs (k : Int)).part) (win := (ix bs (k : Int)).win)
     rw [← htk] at hstep
     have hok0 : xSl c.chans.d (ix bs (k : Int)).part (ix bs (k : Int)).win (ix m2 (j : Int)).ab = (decide ((ix m2 (j : Int)).win = (ix bs (k : Int)).win) && (decide (0 ≤ (ix m2 (j : Int)).ch ∧ (ix m2 (j : Int)).ch < (c.chans.d.length : Int)) && decide ((ix c.chans.d (ix m2 (j : Int)).ch).fp = (ix bs (k : Int)).part))) := rfl
     rw [hok0, decide_eq_true (show 0 ≤ (ix m2 (j : Int)).ch ∧ (ix m2 (j : Int)).ch < (c.chans.d.length : Int) from ⟨g4, g5⟩), Bool.true_and] at hstep
     clear hok0 htk hm2 hbs
     by_cases g1 : (ix m2 (j : Int)).win = (ix bs (k : Int)).win
     ·by_cases g3 : (ix c.chans.d (ix m2 (j : Int)).ch).fp = (ix bs (k : Int)).part
      ·rw [decide_eq_true g1, decide_eq_true g3, Bool.true_and, if_pos rfl] at hstep
       have hnj : (m3 ++ [ix m2 (j : Int)]).map xRY.ab = ([] : List xRY).map xRY.ab ++ xR2 c.chans.d ((m2.take (j + 1)).map xRY.ab) (ix bs (k : Int)).part (ix bs (k : Int)).win := by rw [hstep, List.map_append, hm3, List.append_assoc]; rfl
       have hl4 : (m3 ++ [ix m2 (j : Int)]).length ≤ 0 + (j + 1) := by rw [List.length_append]; simp only [List.length_cons, List.length_nil]; omega
       clear hstep hnx hm3
       have hX := I3 @pl9.eq_def hwj @Nat.add_zero; repeat' (first | intro (sv : SV) | refine S.x ?_ | refine S.y ?_ ?_ | (refine G.call 38 ?_; refine S.c ?_ (h := xB3 ‹_› S.o ‹_› ‹_›)) | (refine G.call 39 ?_; refine S.c ?_ (h := xR0 ?_)) | rintro _ _ ⟨so, bs, hbs, rfl, rfl⟩ | rintro _ _ ⟨_, _, hrins, rfl, rfl⟩ | (refine G.prop ?_; assumption) | intro hb | ((fail_if_success refine G.tr ?_); exact G.prop S.p) | fail)
       all_goals exact S.R ((j + 1, sv, m3 ++ [ix m2 (j : Int)]) : Nat × SV × List xRY)
      ·rw [decide_eq_false g3, Bool.and_false, if_neg (by decide), List.append_nil] at hstep
       rw [← hstep] at hm3
       have hl4 : m3.length ≤ 0 + (j + 1) := by omega
       clear hstep hnx
       have hX := I3 @pl9.eq_def hwj @Nat.add_zero; repeat' (first | refine S.x ?_ | refine S.y ?_ ?_ | (refine G.call 38 ?_; refine S.c ?_ (h := xB3 ‹_› S.o ‹_› ‹_›)) | (refine G.call 39 ?_; refine S.c ?_ (h := xR0 ?_)) | rintro _ _ ⟨so, bs, hbs, rfl, rfl⟩ | rintro _ _ ⟨_, _, hrins, rfl, rfl⟩ | (refine G.prop ?_; assumption) | intro hb | ((fail_if_success refine G.tr ?_); exact G.prop S.p) | fail)
       all_goals exact S.R ((j + 1, s3, m3) : Nat × SV × List xRY)
     ·rw [decide_eq_false g1, Bool.false_and, if_neg (by decide), List.append_nil] at hstep
      rw [← hstep] at hm3
      have hl4 : m3.length ≤ 0 + (j + 1) := by omega
      clear hstep hnx
      have hX := I3 @pl9.eq_def hwj @Nat.add_zero; repeat' (first | refine S.x ?_ | refine S.y ?_ ?_ | (refine G.call 38 ?_; refine S.c ?_ (h := xB3 ‹_› S.o ‹_› ‹_›)) | (refine G.call 39 ?_; refine S.c ?_ (h := xR0 ?_)) | rintro _ _ ⟨so, bs, hbs, rfl, rfl⟩ | rintro _ _ ⟨_, _, hrins, rfl, rfl⟩ | (refine G.prop ?_; assumption) | intro hb | ((fail_if_success refine G.tr ?_); exact G.prop S.p) | fail)
      all_goals exact S.R ((j + 1, s3, m3) : Nat × SV × List xRY)
    ·obtain rfl : j = m2.length := by omega
     rw [List.take_length] at hm3
     have hI2 := hnx m3 hm3
     clear hm3 hnx
     have hX := And.intro @pl9.eq_def hw; repeat' (first | refine S.x ?_ | refine S.y ?_ ?_ | (refine G.call 38 ?_; refine S.c ?_ (h := xB3 ‹_› S.o ‹_› ‹_›)) | (refine G.call 39 ?_; refine S.c ?_ (h := xR0 ?_)) | rintro _ _ ⟨so, bs, hbs, rfl, rfl⟩ | rintro _ _ ⟨_, _, hrins, rfl, rfl⟩ | (refine G.prop ?_; assumption) | intro hb | ((fail_if_success refine G.tr ?_); exact G.prop S.p) | fail)
     all_goals exact S.R ((k + 1, so2, rows ++ [⟨sa, al⟩], s3, m3) : Nat × SV × List Row × SV × List xRY)
   ·have hnx : ∀ m3 : List xRY, m3.map xRY.ab = al.map xRY.ab ++ xR2 c.chans.d (m2.map xRY.ab) (ix bs (k : Int)).part (ix bs (k : Int)).win → xSs c part m2 bs (k + 1) rows m3 := fun m3 h => hI.f hin hwho h
    clear hI
    have hX := And.intro @pl9.eq_def hw; repeat' (first | intro (so2 : SV) | refine S.x ?_ | refine S.y ?_ ?_ | (refine G.call 38 ?_; refine S.c ?_ (h := xB3 ‹_› S.o ‹_› ‹_›)) | (refine G.call 39 ?_; refine S.c ?_ (h := xR0 ?_)) | rintro _ _ ⟨so, bs, hbs, rfl, rfl⟩ | rintro _ _ ⟨_, _, hrins, rfl, rfl⟩ | (refine G.prop ?_; assumption) | intro hb | ((fail_if_success refine G.tr ?_); exact G.prop S.p) | fail)
    refine Tr.loopE (α := Nat × SV × List xRY) [12, 14] [3, 4, 8, 9, 10, 11, 13] (fun x => [x.2.1.v, .int .i64 x.1]) (fun x => [sl false x.2.1.v x.2.2, fzl x.2.2, sl false sm.v m2, fzl m2, sl false sb.v bs, cfB cc c]) (fun x => x.1 ≤ m2.length ∧ x.2.2.length ≤ al.length + x.1 ∧ x.2.2.map xRY.ab = al.map xRY.ab ++ xR2 c.chans.d ((m2.take x.1).map xRY.ab) (ix bs (k : Int)).part (ix bs (k : Int)).win) (fun x => m2.length - x.1) (0, sa, al) S.T rfl ⟨Nat.zero_le _, Nat.le_refl _, by rw [List.take_zero]; exact (List.append_nil _).symm⟩ fun x u hJ => ?_
    obtain ⟨j, s3, m3⟩ := x
    obtain ⟨hj, hl3, hm3⟩ := hJ
    simp only at hj hl3 hm3 ⊢
    simp only [ap]
    by_cases hjn : j < m2.length
    ·have hwj := Xo (k := j) S.o
     obtain ⟨g4, g5⟩ := xSV hm2 hjn
     have htk : (m2.take (j + 1)).map xRY.ab = (m2.take j).map xRY.ab ++ [(ix m2 (j : Int)).ab] := by rw [Yz hjn, List.map_append]; rfl
     have hstep := xSf (chs := c.chans.d) (l := (m2.take j).map xRY.ab) (m := (ix m2 (j : Int)).ab) (who := (ix bs (k : Int)).part) (win := (ix bs (k : Int)).win)
     rw [← htk] at hstep
     have hok0 : xSl c.chans.d (ix bs (k : Int)).part (ix bs (k : Int)).win (ix m2 (j : Int)).ab = (decide ((ix m2 (j : Int)).win = (ix bs (k : Int)).win) && (decide (0 ≤ (ix m2 (j : Int)).ch ∧ (ix m2 (j : Int)).ch < (c.chans.d.length : Int)) && decide ((ix c.chans.d (ix m2 (j : Int)).ch).fp = (ix bs (k : Int)).part))) := rfl
     rw [hok0, decide_eq_true (show 0 ≤ (ix m2 (j : Int)).ch ∧ (ix m2 (j : Int)).ch < (c.chans.d.length : Int) from ⟨g4, g5⟩), Bool.true_and] at hstep
     clear hok0 htk hm2 hbs
     by_cases g1 : (ix m2 (j : Int)).win = (ix bs (k : Int)).win
     ·by_cases g3 : (ix c.chans.d (ix m2 (j : Int)).ch).fp = (ix bs (k : Int)).part
      ·rw [decide_eq_true g1, decide_eq_true g3, Bool.true_and, if_pos rfl] at hstep
       have hnj : (m3 ++ [ix m2 (j : Int)]).map xRY.ab = al.map xRY.ab ++ xR2 c.chans.d ((m2.take (j + 1)).map xRY.ab) (ix bs (k : Int)).part (ix bs (k : Int)).win := by rw [hstep, List.map_append, hm3, List.append_assoc]; rfl
       have hl4 : (m3 ++ [ix m2 (j : Int)]).length ≤ al.length + (j + 1) := by rw [List.length_append]; simp only [List.length_cons, List.length_nil]; omega
       clear hstep hnx hm3
       have hX := I3 @pl9.eq_def hwj @Nat.add_zero; repeat' (first | intro (sv : SV) | refine S.x ?_ | refine S.y ?_ ?_ | (refine G.call 38 ?_; refine S.c ?_ (h := xB3 ‹_› S.o ‹_› ‹_›)) | (refine G.call 39 ?_; refine S.c ?_ (h := xR0 ?_)) | rintro _ _ ⟨so, bs, hbs, rfl, rfl⟩ | rintro _ _ ⟨_, _, hrins, rfl, rfl⟩ | (refine G.prop ?_; assumption) | intro hb | ((fail_if_success refine G.tr ?_); exact G.prop S.p) | fail)
       all_goals exact S.R ((j + 1, sv, m3 ++ [ix m2 (j : Int)]) : Nat × SV × List xRY)
      ·rw [decide_eq_false g3, Bool.and_false, if_neg (by decide), List.append_nil] at hstep
       rw [← hstep] at hm3
       have hl4 : m3.length ≤ al.length + (j + 1) := by omega
       clear hstep hnx
       have hX := I3 @pl9.eq_def hwj @Nat.add_zero; repeat' (first | refine S.x ?_ | refine S.y ?_ ?_ | (refine G.call 38 ?_; refine S.c ?_ (h := xB3 ‹_› S.o ‹_› ‹_›)) | (refine G.call 39 ?_; refine S.c ?_ (h := xR0 ?_)) | rintro _ _ ⟨so, bs, hbs, rfl, rfl⟩ | rintro _ _ ⟨_, _, hrins, rfl, rfl⟩ | (refine G.prop ?_; assumption) | intro hb | ((fail_if_success refine G.tr ?_); exact G.prop S.p) | fail)
       all_goals exact S.R ((j + 1, s3, m3) : Nat × SV × List xRY)
     ·rw [decide_eq_false g1, Bool.false_and, if_neg (by decide), List.append_nil] at hstep
      rw [← hstep] at hm3
      have hl4 : m3.length ≤ al.length + (j + 1) := by omega
      clear hstep hnx
      have hX := I3 @pl9.eq_def hwj @Nat.add_zero; repeat' (first | refine S.x ?_ | refine S.y ?_ ?_ | (refine G.call 38 ?_; refine S.c ?_ (h := xB3 ‹_› S.o ‹_› ‹_›)) | (refine G.call 39 ?_; refine S.c ?_ (h := xR0 ?_)) | rintro _ _ ⟨so, bs, hbs, rfl, rfl⟩ | rintro _ _ ⟨_, _, hrins, rfl, rfl⟩ | (refine G.prop ?_; assumption) | intro hb | ((fail_if_success refine G.tr ?_); exact G.prop S.p) | fail)
      all_goals exact S.R ((j + 1, s3, m3) : Nat × SV × List xRY)
    ·obtain rfl : j = m2.length := by omega
     rw [List.take_length] at hm3
     have hI2 := hnx m3 hm3
     clear hm3 hnx
     have hX := And.intro @pl9.eq_def hw; repeat' (first | refine S.x ?_ | refine S.y ?_ ?_ | (refine G.call 38 ?_; refine S.c ?_ (h := xB3 ‹_› S.o ‹_› ‹_›)) | (refine G.call 39 ?_; refine S.c ?_ (h := xR0 ?_)) | rintro _ _ ⟨so, bs, hbs, rfl, rfl⟩ | rintro _ _ ⟨_, _, hrins, rfl, rfl⟩ | (refine G.prop ?_; assumption) | intro hb | ((fail_if_success refine G.tr ?_); exact G.prop S.p) | fail)
     all_goals exact S.R ((k + 1, so, rows, s3, m3) : Nat × SV × List Row × SV × List xRY)
  ·obtain rfl : k = bs.length := by omega
   have hr := hI.r
   rw [List.take_length] at hr
   clear hI
   have hX := @pl9.eq_def; repeat' (first | refine S.x ?_ | refine S.y ?_ ?_ | (refine G.call 38 ?_; refine S.c ?_ (h := xB3 ‹_› S.o ‹_› ‹_›)) | (refine G.call 39 ?_; refine S.c ?_ (h := xR0 ?_)) | rintro _ _ ⟨so, bs, hbs, rfl, rfl⟩ | rintro _ _ ⟨_, _, hrins, rfl, rfl⟩ | (refine G.prop ?_; assumption) | intro hb | ((fail_if_success refine G.tr ?_); exact G.prop S.p) | fail)
   all_goals exact Tr.fin hK ⟨so, rows, hr, rfl, rfl⟩ S.E
end
end
end
structure XE where
 cycles : Int
 call : Int
 a : Int
 b : Int
 c : Int
 d : Int
instance xvN : En XE := ⟨fun s => [.int .i64 s.cycles, .int .i64 s.call, .int .i64 s.a, .int .i64 s.b, .int .i64 s.c, .int .i64 s.d], 6, fun _ => rfl, fun _ => rfl, by decide⟩
instance : Fz XE := ⟨fun p => sep (Fz.fz p.cycles) (sep (Fz.fz p.call) (sep (Fz.fz p.a) (sep (Fz.fz p.b) (sep (Fz.fz p.c) (sep (Fz.fz p.d) (fact True)))))), fun _ => XX (Fz.dup _) (XX (Fz.dup _) (XX (Fz.dup _) (XX (Fz.dup _) (XX (Fz.dup _) (XX (Fz.dup _) (xBP _))))))⟩
abbrev xSW := SL (SL XE)
structure xS8 (c : xs2) (pp : List xSW) (fs : List xBL) : Prop where
 f : fs.length ≤ 70
 p : pp.length ≤ 20
 c : ∀ p ∈ c.parts.d, p.cap ≤ 300
 s : ∀ p ∈ pp, p.d.length ≤ 20 ∧ ∀ x ∈ p.d, x.d.length ≤ 100
section
attribute [local irreducible] BrK Xq Xt Xv XI FnK XZ Xw XC XV opX opK Yq Yk eqR Yj Yo Ys WL WD W X3 XO Tr drewK Ya X4 Yw Yv X1 YB mp blk rob sl sep ex fact old
section
variable {c : xs2} {ps fv s : SV} {pp : List xSW} {fs : List xBL}
theorem xjN {ps : List (SL XE)} : Xb prog 63 #[s.v] [sl true s.v ps, fzl ps]
  fun v l' => ∃ b : Bool, (b = true → ps.length ≤ 20 ∧ ∀ x ∈ ps, x.d.length ≤ 100) ∧ v = .bool b ∧ l' = [] := by
 intro F K hK
 simp only [ap] at hK ⊢
 refine S.I fun u => ?_
 by_cases h20 : ps.length ≤ 20
 ·repeat' (first | refine S.x ?_ | refine S.y ?_ ?_ | (refine G.prop ?_; assumption) | intro hb | ((fail_if_success refine G.tr ?_); exact G.prop S.p) | fail)
  refine Tr.loopE (α := Nat) [2, 3] [0] (fun k => [.bool false, .int .i64 k]) (fun _ => []) (fun k => k ≤ ps.length ∧ ∀ j : Nat, j < k → (ix ps (j : Int)).d.length ≤ 100) (fun k => ps.length - k) 0 S.T rfl ⟨Nat.zero_le _, fun j hj => absurd hj (Nat.not_lt_zero _)⟩ fun k u hk => ?_
  obtain ⟨hk, hall⟩ := hk
  simp only [List.nil_append]
  by_cases hin : k < ps.length
  ·have hw := Xo (k := k) S.o
   by_cases h1 : (ix ps (k : Int)).d.length ≤ 100
   ·have hall2 := xCS (p := fun j : Nat => (ix ps (j : Int)).d.length ≤ 100) hall h1
    have hX := hw; repeat' (first | refine S.x ?_ | refine S.y ?_ ?_ | (refine G.prop ?_; assumption) | intro hb | ((fail_if_success refine G.tr ?_); exact G.prop S.p) | fail)
    all_goals exact S.R (k + 1)
   ·have hX := hw; repeat' (first | refine S.x ?_ | refine S.y ?_ ?_ | (refine G.prop ?_; assumption) | intro hb | ((fail_if_success refine G.tr ?_); exact G.prop S.p) | fail)
    all_goals exact Tr.fin hK ⟨false, (fun h => by cases h), rfl, rfl⟩ S.E
  ·have hall3 := ofF (p := fun x : SL XE => x.d.length ≤ 100) S.o hall
   repeat' (first | refine S.x ?_ | refine S.y ?_ ?_ | (refine G.prop ?_; assumption) | intro hb | ((fail_if_success refine G.tr ?_); exact G.prop S.p) | fail)
   all_goals exact Tr.fin hK ⟨true, (fun _ => ⟨h20, hall3⟩), rfl, rfl⟩ S.E
 ·repeat' (first | refine S.x ?_ | refine S.y ?_ ?_ | (refine G.prop ?_; assumption) | intro hb | ((fail_if_success refine G.tr ?_); exact G.prop S.p) | fail)
  all_goals exact Tr.fin hK ⟨false, (fun h => by cases h), rfl, rfl⟩ S.E
theorem xS2 : Xb prog 26 #[.agg (En.enc c).toArray, .agg #[ps.v, fv.v]]
    [sl true c.parts.s.v c.parts.d, fzl c.parts.d, sl true ps.v pp, fzl pp, sl true fv.v fs]
    fun v l' => ∃ b : Bool, (b = true → xS8 c pp fs) ∧ v = .bool b ∧ l' = [] := by
  intro F K hK
  simp only [ap]
  refine S.I fun u => ?_
  by_cases h1 : fs.length ≤ 70 ∧ pp.length ≤ 20 ∧ c.parts.d.length ≤ 100
  · obtain ⟨h1, h2, h3⟩ := h1
    repeat' (first | refine S.x ?_ | refine S.y ?_ ?_ | (refine G.prop ?_; assumption) | intro hb | ((fail_if_success refine G.tr ?_); exact G.prop S.p) | fail)
    refine Tr.loopE (α := Nat) [4, 5] [2, 3] (fun k => [.bool false, .int .i64 k]) (fun _ => []) (fun k => k ≤ c.parts.d.length ∧ ∀ j : Nat, j < k → (ix c.parts.d (j : Int)).cap ≤ 300) (fun k => c.parts.d.length - k) 0 S.T rfl ⟨Nat.zero_le _, fun j hj => absurd hj (Nat.not_lt_zero _)⟩ fun k u hk => ?_
    obtain ⟨hk, hall⟩ := hk
    simp only [List.nil_append]
    by_cases hin : k < c.parts.d.length
    · have hw := Xo (k := k) S.o
      by_cases hp : (ix c.parts.d (k : Int)).cap ≤ 300
      · have hall2 := xCS (p := fun j : Nat => (ix c.parts.d (j : Int)).cap ≤ 300) hall hp
        have hX := hw; repeat' (first | refine S.x ?_ | refine S.y ?_ ?_ | (refine G.prop ?_; assumption) | intro hb | ((fail_if_success refine G.tr ?_); exact G.prop S.p) | fail)
        all_goals exact S.R (k + 1)
      · have hX := hw; repeat' (first | refine S.x ?_ | refine S.y ?_ ?_ | (refine G.prop ?_; assumption) | intro hb | ((fail_if_success refine G.tr ?_); exact G.prop S.p) | fail)
        all_goals exact Tr.fin hK ⟨false, (fun h => by cases h), rfl, rfl⟩ S.E
    · have hall3 := ofF (p := fun p : YF => p.cap ≤ 300) S.o hall
      repeat' (first | refine S.x ?_ | refine S.y ?_ ?_ | (refine G.prop ?_; assumption) | intro hb | ((fail_if_success refine G.tr ?_); exact G.prop S.p) | fail)
      refine Tr.loopE (α := Nat) [4, 6] [3] (fun k => [.bool false, .int .i64 k]) (fun _ => []) (fun k => k ≤ pp.length ∧ ∀ j : Nat, j < k → (ix pp (j : Int)).d.length ≤ 20 ∧ ∀ x ∈ (ix pp (j : Int)).d, x.d.length ≤ 100) (fun k => pp.length - k) 0 S.T rfl ⟨Nat.zero_le _, fun j hj => absurd hj (Nat.not_lt_zero _)⟩ fun k u hk => ?_
      obtain ⟨hk, halm⟩ := hk
      simp only [List.nil_append]
      by_cases hin : k < pp.length
      · have hw := Xo (k := k) S.o
        have hsh := xjN (s := (ix pp (k : Int)).s) (ps := (ix pp (k : Int)).d)
        have hX := hw; repeat' (first | rintro _ _ ⟨rfl, rfl⟩ | rintro _ _ ⟨bs, hbs, rfl, rfl⟩ | (refine G.call 63 ?_; refine S.c ?_ (h := hsh)) | refine S.x ?_ | refine S.y ?_ ?_ | (refine G.prop ?_; assumption) | intro hb | ((fail_if_success refine G.tr ?_); exact G.prop S.p) | fail)
        all_goals first
          | exact Tr.fin hK ⟨false, (fun h => by cases h), rfl, rfl⟩ S.E
          | (have hall2 := xCS (p := fun j : Nat => (ix pp (j : Int)).d.length ≤ 20 ∧ ∀ x ∈ (ix pp (j : Int)).d, x.d.length ≤ 100) halm (hbs rfl)
             exact S.R (k + 1))
          | (have hall2 := xCS (p := fun j : Nat => (ix pp (j : Int)).d.length ≤ 20 ∧ ∀ x ∈ (ix pp (j : Int)).d, x.d.length ≤ 100) halm (hbs ‹_›)
             exact S.R (k + 1))
      · have halm3 := ofF (p := fun p : xSW => p.d.length ≤ 20 ∧ ∀ x ∈ p.d, x.d.length ≤ 100) S.o halm
        repeat' (first | refine S.x ?_ | refine S.y ?_ ?_ | (refine G.prop ?_; assumption) | intro hb | ((fail_if_success refine G.tr ?_); exact G.prop S.p) | fail)
        all_goals exact Tr.fin hK ⟨true, (fun _ => ⟨h1, h2, hall3, halm3⟩), rfl, rfl⟩ S.E
  · repeat' (first | refine S.x ?_ | refine S.y ?_ ?_ | (refine G.prop ?_; assumption) | intro hb | ((fail_if_success refine G.tr ?_); exact G.prop S.p) | fail)
    all_goals first
      | exact Tr.fin hK ⟨false, (fun h => by cases h), rfl, rfl⟩ S.E
      | (exfalso; omega)
theorem xTm : Xb prog 5 #[.agg (En.enc c).toArray, .agg #[ps.v, fv.v]]
  [sl true c.parts.s.v c.parts.d, fzl c.parts.d, sl true c.chans.s.v c.chans.d, sl true c.modes.s.v c.modes.d, fzl c.modes.d, sl true c.levels.s.v c.levels.d, sl true c.naps.s.v c.naps.d, sl true c.down.s.v c.down.d, sl true c.up.s.v c.up.d, sl true ps.v pp, fzl pp, sl true fv.v fs]
  fun v l' => ∃ b : Bool, (b = true → shC c ∧ xDe c ∧ xS8 c pp fs) ∧ v = .bool b ∧ l' = [] := by
 intro F K hK
 simp only [ap]
 have h1 := xKY (c := c)
 have h2 := xS2 (c := c) (ps := ps) (fv := fv) (pp := pp) (fs := fs)
 refine S.I fun u => ?_
 repeat' (first | (refine G.call 10 ?_; refine S.c ?_ (h := h1); rintro _ _ ⟨y1, hy1, rfl, rfl⟩; cases y1) | (refine G.call 26 ?_; refine S.c ?_ (h := h2); rintro _ _ ⟨y2, hy2, rfl, rfl⟩) | refine S.x ?_ | refine S.y ?_ ?_ | (refine G.prop ?_; assumption) | intro hb | ((fail_if_success refine G.tr ?_); exact G.prop S.p) | fail)
 ·exact Tr.fin hK ⟨false, (fun h => by cases h), rfl, rfl⟩ S.E
 ·exact Tr.fin hK ⟨y2, (fun h => ⟨(hy1 rfl).1, (hy1 rfl).2, hy2 h⟩), rfl, rfl⟩ S.E
