import Derived.Test.YtkapfpliiaegfaaGreatZ11
namespace Go.Proofs.YtkapfpliiaegfaaGreat
open Go Go.Wk Tryz
set_option maxHeartbeats 3200000
set_option maxRecDepth 100000
section
def xSb (chs : List xD7) (mine : List xR3) (part : Int) (x : List (List xR3) × List xR3) (b : Int × Int) : List (List xR3) × List xR3 :=
 if b.1 = part then (x.1 ++ [x.2], xR2 chs mine b.1 b.2) else (x.1, x.2 ++ xR2 chs mine b.1 b.2)
def xSu (chs : List xD7) (mine : List xR3) (part : Int) (l : List (Int × Int)) : List (List xR3) × List xR3 := l.foldl (xSb chs mine part) ([], [])
theorem xR1 {chs : List xD7} {mine : List xR3} {part : Int} {l : List (Int × Int)} {b : Int × Int} : xSu chs mine part (l ++ [b]) = xSb chs mine part (xSu chs mine part l) b := by unfold xSu; rw [List.foldl_append]; rfl
theorem xSi {chs : List xD7} {mine : List xR3} {part : Int} : ∀ {l : List (Int × Int)} {x : List (List xR3) × List xR3}, (l.foldl (xSb chs mine part) x).1.length ≤ x.1.length + l.length ∧ (l.foldl (xSb chs mine part) x).2.length ≤ x.2.length + mine.length * l.length
 | [], x => ⟨Nat.le_refl _, by simp⟩
 | b :: r, x => by
  have ih := xSi (chs := chs) (mine := mine) (part := part) (l := r) (x := xSb chs mine part x b)
  have h := xSx (chs := chs) (l := mine) (who := b.1) (win := b.2)
  have hx : (xSb chs mine part x b).1.length ≤ x.1.length + 1 ∧ (xSb chs mine part x b).2.length ≤ x.2.length + mine.length := by
   unfold xSb
   split
   ·simp only [List.length_append, List.length_cons, List.length_nil]; omega
   ·simp only [List.length_append]; omega
  rw [List.foldl_cons, List.length_cons, Nat.mul_succ]
  omega
def xQR (c : xs2) (fs : List xBL) (mine : List xR3) (part : Int) : List (List xR3) := if (xDd c && (decide (0 ≤ part) && decide (part < (c.parts.d.length : Int)))) = true then (xSu c.chans.d mine part (xCR (xCx c (xBH c p0 fs)) (zer c))).1 else []
abbrev Row := SL xRY
def xR8 (rows : List Row) : List (List xR3) := rows.map fun r => r.d.map xRY.ab
noncomputable def xTO : Code := match Tryz.f8.body with
 | some c => c
 | none => .skip
theorem xSZ : Tryz.f8.body = some xTO := by kernel_rfl
noncomputable def xS7 : Nat → Xj
 | 12 => .r 0 8 (.e 8 [0] (.e 9 [] (.e 10 [] .fin)))
 | _ => .fin
theorem xTT : type_of% (@xS7.eq_def) := @xS7.eq_def
theorem xTx : xaP Tryz.f8.ntmps xS7 xTO = true := by kernel_rfl
instance xTV : ElT 52 Row := ⟨⟩
abbrev xSE (cb bp bw bm bo ba : Nat) (c : xs2) (part : Int) (_zs : List Int) (sw sm so sa : SV) (ms : List xRY) (ws : List Int) (rows : List Row) (al : List xRY) : List Xc :=
 [blk bw (.cells #[sw.v] 29 (0, 0)), sl false sw.v ws, blk bo (.cells #[so.v] 52 (0, 0)), sl false so.v rows, fzl rows, blk ba (.cells #[sa.v] 39 (0, 0)), sl false sa.v al, fzl al, blk bm (.cells #[sm.v] 39 (0, 0)), sl true sm.v ms, fzl ms, cfB cb c, blk bp (.cells #[.int .i64 part] 3 (0, 0)), sl true c.chans.s.v c.chans.d]
structure xSd (c : xs2) (part : Int) (zs : List Int) (ms : List xRY) (pre : List Int) (ws : List Int) (rows : List Row) (al : List xRY) : Prop where
 w : ws = xBW pre zs
 r : xR8 rows = (xSu c.chans.d (ms.map xRY.ab) part (xCR pre zs)).1
 a : al.map xRY.ab = (xSu c.chans.d (ms.map xRY.ab) part (xCR pre zs)).2
theorem xSA {chs : List xD7} {m3 ms : List xRY} {who win : Int} (h : m3.map xRY.ab = xR2 chs (ms.map xRY.ab) who win) : m3.length ≤ ms.length := by
 have h1 := congrArg List.length h
 have h2 := xSx (chs := chs) (l := ms.map xRY.ab) (who := who) (win := win)
 rw [List.length_map] at h1 h2
 omega
theorem xSd.t {c : xs2} {part : Int} {zs : List Int} {ms : List xRY} {pre ws : List Int} {rows : List Row} {al m3 : List xRY} {sa : SV} (h : xSd c part zs ms pre ws rows al) (hm : m3.map xRY.ab = xR2 c.chans.d (ms.map xRY.ab) part (ix ws part)) : xSd c part zs ms (pre ++ [part]) (ws.set part.toNat (ix ws part + 1)) (rows ++ [⟨sa, al⟩]) m3 := by
 obtain ⟨rfl, hr, ha⟩ := h
 refine ⟨by rw [xDy]; rfl, ?_, ?_⟩
 ·rw [xEd, xR1]
  unfold xSb
  rw [if_pos rfl, ← hr, ← ha]
  unfold xR8
  rw [List.map_append]; rfl
 ·rw [xEd, xR1]
  unfold xSb
  rw [if_pos rfl, hm]
theorem xSd.f {c : xs2} {part who : Int} {zs : List Int} {ms : List xRY} {pre ws : List Int} {rows : List Row} {al m3 : List xRY} (h : xSd c part zs ms pre ws rows al) (hw : ¬ who = part) (hm : m3.map xRY.ab = xR2 c.chans.d (ms.map xRY.ab) who (ix ws who)) : xSd c part zs ms (pre ++ [who]) (ws.set who.toNat (ix ws who + 1)) rows (al ++ m3) := by
 obtain ⟨rfl, hr, ha⟩ := h
 refine ⟨by rw [xDy]; rfl, ?_, ?_⟩
 ·rw [xEd, xR1]
  unfold xSb
  rw [if_neg hw, ← hr]
 ·rw [xEd, xR1]
  unfold xSb
  rw [if_neg hw, List.map_append, ha, hm]
theorem xSd.len {c : xs2} {part : Int} {zs : List Int} {ms : List xRY} {pre ws : List Int} {rows : List Row} {al : List xRY} (h : xSd c part zs ms pre ws rows al) : rows.length ≤ pre.length ∧ al.length ≤ ms.length * pre.length := by
 have := xSi (chs := c.chans.d) (mine := ms.map xRY.ab) (part := part) (l := xCR pre zs) (x := ([], []))
 have h1 := congrArg List.length h.r
 have h2 := congrArg List.length h.a
 unfold xR8 at h1
 unfold xSu at h1 h2
 rw [List.length_map] at h1 h2 this
 rw [xD3] at this
 simp only [List.length_nil, Nat.zero_add] at this
 omega
def iA (cb bp bw bm bo ba : Nat) (c : xs2) (part : Int) (zs : List Int) (sw sm : SV) (ms : List xRY) (pre : List (Int × Bool)) : Xc :=
 ex fun so : SV => ex fun sa : SV => ex fun ws : List Int => ex fun rows : List Row => ex fun al : List xRY => sep (fact (xSd c part zs ms (pre.map Prod.fst) ws rows al)) (xCp (xSE cb bp bw bm bo ba c part zs sw sm so sa ms ws rows al))
section
variable {cb bp bw bm bo ba : Nat} {c : xs2} {part : Int} {zs : List Int} {sw sm : SV} {ms : List xRY} {pre : List (Int × Bool)}
theorem xTf {so sa : SV} {ws : List Int} {rows : List Row} {al : List xRY} {l F : List Xc} {X : WP} (h0 : xSd c part zs ms (pre.map Prod.fst) ws rows al) (ht : YK l (xSE cb bp bw bm bo ba c part zs sw sm so sa ms ws rows al) F) (h : Tr (iA cb bp bw bm bo ba c part zs sw sm ms pre :: F) X) : Tr l X :=
 Tr.imp (Imp.trans ht (Imp.trans Imp.sepC (Imp.trans (Imp.factI h0) (Imp.trans Imp.sepI (Imp.trans (Imp.exI (f := fun al : List xRY => sep (fact (xSd c part zs ms (pre.map Prod.fst) ws rows al)) (xCp (xSE cb bp bw bm bo ba c part zs sw sm so sa ms ws rows al))) al) (Imp.trans (Imp.exI (f := fun rows : List Row => ex fun al : List xRY => sep (fact (xSd c part zs ms (pre.map Prod.fst) ws rows al)) (xCp (xSE cb bp bw bm bo ba c part zs sw sm so sa ms ws rows al))) rows) (Imp.trans (Imp.exI (f := fun ws : List Int => ex fun rows : List Row => ex fun al : List xRY => sep (fact (xSd c part zs ms (pre.map Prod.fst) ws rows al)) (xCp (xSE cb bp bw bm bo ba c part zs sw sm so sa ms ws rows al))) ws) (Imp.trans (Imp.exI (f := fun sa : SV => ex fun ws : List Int => ex fun rows : List Row => ex fun al : List xRY => sep (fact (xSd c part zs ms (pre.map Prod.fst) ws rows al)) (xCp (xSE cb bp bw bm bo ba c part zs sw sm so sa ms ws rows al))) sa) (Imp.exI (f := fun so : SV => ex fun sa : SV => ex fun ws : List Int => ex fun rows : List Row => ex fun al : List xRY => sep (fact (xSd c part zs ms (pre.map Prod.fst) ws rows al)) (xCp (xSE cb bp bw bm bo ba c part zs sw sm so sa ms ws rows al))) so))))))))) h
theorem xSY {l : List Xc} {X : WP} (h : ∀ (so sa : SV) (ws : List Int) (rows : List Row) (al : List xRY), xSd c part zs ms (pre.map Prod.fst) ws rows al → Tr (xSE cb bp bw bm bo ba c part zs sw sm so sa ms ws rows al ++ l) X) : Tr (iA cb bp bw bm bo ba c part zs sw sm ms pre :: l) X :=
 Tr.ex_iff.2 fun so => Tr.ex_iff.2 fun sa => Tr.ex_iff.2 fun ws => Tr.ex_iff.2 fun rows => Tr.ex_iff.2 fun al => Tr.sep_iff.2 (Tr.fact_iff.2 fun h0 => Tr.imp Imp.sepO (h so sa ws rows al h0))
end
end
section
attribute [local irreducible] BrK Xq Xt Xv XI FnK XZ Xw XC XV opX opK Yq Yk eqR Yj Yo Ys WL WD W X3 XO Tr drewK Ya X4 Yw Yv X1 YB mp blk rob sl sep ex fact old
section
attribute [local irreducible] xRZ WM xgA
section
variable {c : xs2} {ps sf s : SV} {ms : List xRY} {fs : List xBL} {part : Int}
theorem xSD (hs : shC c) (hf : fs.length ≤ 100) (hfw : xDe c) (hn : ms.length ≤ 300) (hd : ∀ k : Nat, k < ms.length → (ix ms (k : Int)).d.d.length ≤ 1000) : Xb prog 8 #[.agg (En.enc c).toArray, .agg #[ps.v, sf.v], s.v, .int .i64 part]
  [sl true sf.v fs, sl true c.parts.s.v c.parts.d, sl true c.chans.s.v c.chans.d, sl true c.modes.s.v c.modes.d, fzl c.modes.d, sl true c.down.s.v c.down.d, sl true c.up.s.v c.up.d, sl true s.v ms, fzl ms]
  fun v l' => ∃ (s2 : SV) (rows : List Row), xR8 rows = xQR c fs (xR4 c.chans.d part (ms.map xRY.ab)) part ∧ v = s2.v ∧ l' = [sl false s2.v rows, fzl rows] := by
 intro F K hK
 simp only [ap]
 have hsp := hs.p
 have hsc := hs.c
 have hmy := xt2 (c := c) (part := part) hs hfw
 have hiz : Xb prog 34 #[.agg (En.enc c).toArray, .int .i64 part, s.v] [sl true c.chans.s.v c.chans.d, sl true s.v ms, fzl ms] _ := xSe (u0 := .agg (En.enc c).toArray) (c := c.c) (hd := ⟨rfl⟩) (chs := c.chans.d) (part := part) (s := s) (ms := ms) S.o hd
 unfold xQR at hK
 generalize hmm : (xDd c && (decide (0 ≤ part) && decide (part < (c.parts.d.length : Int)))) = mm at *
 refine Tr.enterM (T := xS7) (rs := [.tmp 8]) mixed Tryz.func8 xSZ xTx rfl (by simp) fun u => ?_
 simp only [xTO, Tryz.f8]
 cases mm with
 | false =>
  rw [if_neg (by decide)] at hK
  have hX := I9 @xBR @xj0 @xeO @xqD @xck @xjX @xge @xuW (And.intro @xvk @xkr); repeat' (first | intro (ob : Nat) | (refine G.call 33 ?_; refine S.c ?_ (h := hmy); rintro _ _ ⟨rfl, rfl⟩) | refine S.x ?_ | refine S.y ?_ ?_ | (refine G.call 33 ?_; refine S.c ?_ (h := xt2 ‹_› ‹_›)) | (refine G.call 34 ?_; refine S.c ?_ (h := xSe ?_ ?_)) | (refine G.call 35 ?_; refine S.c ?_ (h := xR7)) | rintro _ _ ⟨rfl, rfl⟩ | rintro _ _ ⟨_, _, rfl, rfl⟩ | rintro _ _ ⟨_, _, hins, rfl, rfl⟩ | (refine G.prop ?_; assumption) | intro hb | ((fail_if_success refine G.tr ?_); exact G.prop S.p) | fail)
  all_goals
   refine Tr.nilSl (α := Row) ?_
   exact Tr.fin hK ⟨⟨none, 0, 0⟩, [], rfl, rfl, rfl⟩ S.E
 | true =>
  rw [if_pos rfl] at hK
  have hX := I9 @xBR @xj0 @xeO @xqD @xck @xjX @xge @xuW (And.intro @xvk @xkr); repeat' (first | intro (ob : Nat) | (refine G.call 33 ?_; refine S.c ?_ (h := hmy); rintro _ _ ⟨rfl, rfl⟩) | (refine G.call 34 ?_; refine S.c ?_ (h := hiz); rintro _ _ ⟨sm, m2, hm2, rfl, rfl⟩) | intro (sv : SV) | refine S.x ?_ | refine S.y ?_ ?_ | (refine G.call 33 ?_; refine S.c ?_ (h := xt2 ‹_› ‹_›)) | (refine G.call 34 ?_; refine S.c ?_ (h := xSe ?_ ?_)) | (refine G.call 35 ?_; refine S.c ?_ (h := xR7)) | rintro _ _ ⟨rfl, rfl⟩ | rintro _ _ ⟨_, _, rfl, rfl⟩ | rintro _ _ ⟨_, _, hins, rfl, rfl⟩ | (refine G.prop ?_; assumption) | intro hb | ((fail_if_success refine G.tr ?_); exact G.prop S.p) | fail)
  rename_i cb sb bp bw bm bo w1 w2
  obtain ⟨ba, rfl⟩ : ∃ ba, ba = ob := ⟨_, rfl⟩
  rw [Bool.and_eq_true, Bool.and_eq_true] at hmm
  have hmt := hmm.1
  have hp0 := of_decide_eq_true hmm.2.1
  have hp9 := of_decide_eq_true hmm.2.2
  have hml : m2.length ≤ 300 := by
   have h1 := congrArg List.length hm2
   have h2 : (xR4 c.chans.d part (ms.map xRY.ab)).length ≤ (ms.map xRY.ab).length := List.length_filter_le _ _
   rw [List.length_map] at h1 h2
   omega
  have hze : List.replicate ((c.parts.d.length : Int).toNat) (default : Int) = zer c := by unfold zer; rw [Int.toNat_natCast]; rfl
  rw [hze]
  clear hze
  refine Tr.freezeAt (v := sm.v) (xs := m2) S.K ?_
  refine Tr.nilSl (α := Row) ?_
  refine Tr.nilSl (α := xRY) ?_
  refine xTf (cb := cb) (bp := bp) (bw := bw) (bm := bm) (bo := bo) (ba := ba) (c := c) (part := part) (zs := zer c) (sw := sv) (sm := sm) (ms := m2) (pre := []) (so := ⟨none, 0, 0⟩) (sa := ⟨none, 0, 0⟩) (ws := zer c) (rows := []) (al := []) ⟨rfl, rfl, rfl⟩ S.T ?_
  refine Tr.rangeA (T := xS7) (I := iA cb bp bw bm bo ba c part (zer c) sv sm m2) (Ix := noA) mixed (xS1 (bc := w1) (bf := w2) (sf := sf) (fs := fs) hs S.o hfw hmt) rfl (by kernel_rfl) S.T (fun x => rfl) (by decide) (by kernel_rfl) (by kernel_rfl) (by kernel_rfl) (by kernel_rfl) ?hbody ?hdone ?hstop
  case hbody =>
   intro pre x Gl Gm B R hN hx hB h1 h2
   obtain ⟨x1, x2⟩ := x
   obtain ⟨x0, x9⟩ := hx
   simp only at x0 x9
   refine xSY fun so sa ws rows al hF => ?_
   have hlen := hF.len
   rw [List.length_map] at hlen
   have hal : al.length ≤ 100000000 := by
    have : m2.length * pre.length ≤ 300 * 100000 := Nat.mul_le_mul hml S.o
    omega
   have hwl : ws.length = c.parts.d.length := by rw [hF.w, xDi, xDo]
   have hwr : 0 ≤ ix ws x1 ∧ ix ws x1 ≤ 1000000000 := by rw [hF.w]; exact xHs (by rw [List.length_map]; omega)
   have hwb := Ye (n := ix ws x1 + 1) S.o S.o
   have hse := xTv (c := c) (s := sm) (ms := m2) (who := x1) (win := ix ws x1) S.o hsc
   have hpm : (pre ++ [(x1, x2)]).map Prod.fst = pre.map Prod.fst ++ [x1] := by rw [List.map_append]; rfl
   simp only [ap]
   show Tr _ (W _ _ _ _ (upd (upd _ 30 (.int .i64 x1)) 31 (.bool x2)))
   have hX := @xBR; repeat' (first | refine S.x ?_ | refine S.y ?_ ?_ | (refine G.call 33 ?_; refine S.c ?_ (h := xt2 ‹_› ‹_›)) | (refine G.call 34 ?_; refine S.c ?_ (h := xSe ?_ ?_)) | (refine G.call 35 ?_; refine S.c ?_ (h := xR7)) | rintro _ _ ⟨rfl, rfl⟩ | rintro _ _ ⟨_, _, rfl, rfl⟩ | rintro _ _ ⟨_, _, hins, rfl, rfl⟩ | (refine G.prop ?_; assumption) | intro hb | ((fail_if_success refine G.tr ?_); exact G.prop S.p) | fail)
   refine hB [_, _, _, _, _, _, _, _, _, _, _, _, _, _] _ ?_
   simp only [ap]
   by_cases hwho : x1 = part
   ·subst hwho
    refine Tr.freezeAt (v := sa.v) (xs := al) S.K ?_
    have hX := I4 @xBR @xTT hwb hwl; repeat' (first | intro (sv2 : SV) | (refine G.call 36 ?_; refine S.c ?_ (h := hse); rintro _ _ ⟨s3, m3, hm3, rfl, rfl⟩; have hl3 := xSA hm3) | refine S.x ?_ | refine S.y ?_ ?_ | (refine G.call 33 ?_; refine S.c ?_ (h := xt2 ‹_› ‹_›)) | (refine G.call 34 ?_; refine S.c ?_ (h := xSe ?_ ?_)) | (refine G.call 35 ?_; refine S.c ?_ (h := xR7)) | rintro _ _ ⟨rfl, rfl⟩ | rintro _ _ ⟨_, _, rfl, rfl⟩ | rintro _ _ ⟨_, _, hins, rfl, rfl⟩ | (refine G.prop ?_; assumption) | intro hb | ((fail_if_success refine G.tr ?_); exact G.prop S.p) | fail)
    all_goals
     rename_i so2 hg1 hg2
     have hF2 := hF.t (sa := sa) hm3
     rw [← hpm] at hF2
     refine xTf (cb := cb) (bp := bp) (bw := bw) (bm := bm) (bo := bo) (ba := ba) (pre := pre ++ [(x1, x2)]) (so := so2) (sa := sv2) (sw := sv) (sm := sm) hF2 S.T ?_
     refine Tr.ent2 ?_ (h1 _)
     exact S.E
   ·have hX := I4 @xBR @xTT hwb hwl; repeat' (first | intro (sv2 : SV) | (refine G.call 36 ?_; refine S.c ?_ (h := hse); rintro _ _ ⟨s3, m3, hm3, rfl, rfl⟩; have hl3 := xSA hm3) | refine S.x ?_ | refine S.y ?_ ?_ | (refine G.call 33 ?_; refine S.c ?_ (h := xt2 ‹_› ‹_›)) | (refine G.call 34 ?_; refine S.c ?_ (h := xSe ?_ ?_)) | (refine G.call 35 ?_; refine S.c ?_ (h := xR7)) | rintro _ _ ⟨rfl, rfl⟩ | rintro _ _ ⟨_, _, rfl, rfl⟩ | rintro _ _ ⟨_, _, hins, rfl, rfl⟩ | (refine G.prop ?_; assumption) | intro hb | ((fail_if_success refine G.tr ?_); exact G.prop S.p) | fail)
    all_goals
     have hF2 := hF.f hwho hm3
     rw [← hpm] at hF2
     refine xTf (cb := cb) (bp := bp) (bw := bw) (bm := bm) (bo := bo) (ba := ba) (pre := pre ++ [(x1, x2)]) (so := so) (sa := sv2) (sw := sv) (sm := sm) hF2 S.T ?_
     refine Tr.ent2 ?_ (h1 _)
     exact S.E
  case hdone =>
   intro D xs hS
   refine xSY fun so sa ws rows al hF => ?_
   have hr := hF.r
   rw [hS, hm2] at hr
   simp only [ap]
   have hX := I8 @xBR @xj0 @xeO @xqD @xck @xjX @xuW @xvk; repeat' (first | refine S.x ?_ | refine S.y ?_ ?_ | (refine G.call 33 ?_; refine S.c ?_ (h := xt2 ‹_› ‹_›)) | (refine G.call 34 ?_; refine S.c ?_ (h := xSe ?_ ?_)) | (refine G.call 35 ?_; refine S.c ?_ (h := xR7)) | rintro _ _ ⟨rfl, rfl⟩ | rintro _ _ ⟨_, _, rfl, rfl⟩ | rintro _ _ ⟨_, _, hins, rfl, rfl⟩ | (refine G.prop ?_; assumption) | intro hb | ((fail_if_success refine G.tr ?_); exact G.prop S.p) | fail)
   all_goals
    refine Tr.mark S.K ?_
    rw [xkr]
    exact Tr.fin hK ⟨so, rows, hr, rfl, rfl⟩ S.E
  case hstop =>
   intro D pre hS
   exact xF8
