import Derived.Test.YtkapfpliiaegfaaGreatZ16
namespace Go.Proofs.YtkapfpliiaegfaaGreat
open Go Go.Wk Tryz
set_option maxHeartbeats 3200000
set_option maxRecDepth 100000
structure EvA where
 part : Int
 win : Int
 proc : Int
 call : Int
 code : Int
 value : Int
instance xLH : Inhabited EvA := ⟨⟨0, 0, 0, 0, 0, 0⟩⟩
instance xL5 : En EvA := ⟨fun s => [.int .i64 s.part, .int .i64 s.win, .int .i64 s.proc, .int .i64 s.call, .int .i64 s.code, .int .i64 s.value], 6, fun _ => rfl, fun _ => rfl, by decide⟩
structure xCP where
 part : Int
 win : Int
 frame : Int
instance xLp : Inhabited xCP := ⟨⟨0, 0, 0⟩⟩
instance xLO : En xCP := ⟨fun s => [.int .i64 s.part, .int .i64 s.win, .int .i64 s.frame], 3, fun _ => rfl, fun _ => rfl, by decide⟩
instance {l : List Xc} {a b c : Int} : De l (.agg #[.int .i64 a, .int .i64 b, .int .i64 c]) (xCP.mk a b c) := ⟨rfl⟩
instance xLx : ElT 85 xCP := ⟨⟩
theorem xD3 : ∀ {l ws : List Int}, (xCR l ws).length = l.length
 | [], _ => rfl
 | x :: xs, ws => by rw [xCR, List.length_cons, List.length_cons, xD3]
def xCP.pw (b : xCP) : Int × Int := (b.part, b.win)
def xCu (c : xs2) (fs : List xBL) (evs : List EvA) (k : Nat) : Bool := !(xDd c && decide (0 ≤ (ix evs (k : Int)).part ∧ (ix evs (k : Int)).part < (c.parts.d.length : Int) ∧ 0 ≤ (ix evs (k : Int)).win ∧ (ix evs (k : Int)).win < ix (xD1 c fs) (ix evs (k : Int)).part))
abbrev xFt (rb ib mb : Nat) (r : xCT) (sm : SV) (is : Bool) (xs : List Int) (evs : List EvA) : List Xc := [rsB rb r, blk ib (.cells #[.bool is] 4 (0, 0)), blk mb (.cells #[sm.v] 29 (0, 0)), sl false sm.v xs, sl true r.ev.v evs]
section
attribute [local irreducible] BrK Xq Xt Xv XI FnK XZ Xw XC XV opX opK Yq Yk eqR Yj Yo Ys WL WD W X3 XO Tr drewK Ya X4 Yw Yv X1 YB mp blk rob sl sep ex fact old
section
attribute [local irreducible] xB2
section
variable {c : xs2} {fv : SV} {fs : List xBL} {r : xCT} {evs : List EvA}
theorem xJN {rb ib mb k : Nat} {sm : SV} {xs : List Int} {is : Bool} (hx : is = true → xs.length = c.parts.d.length) (h1 : k < evs.length) : Xb prog 57 #[.int .i64 (k : Int), .pointer (some ⟨rb, 0, none⟩), .pointer (some ⟨ib, 0, none⟩), .pointer (some ⟨mb, 0, none⟩)]
    [xCp (xFt rb ib mb r sm is xs evs)]
    fun v l' => v = .bool (!(is && decide (0 ≤ (ix evs (k : Int)).part ∧ (ix evs (k : Int)).part < (c.parts.d.length : Int) ∧ 0 ≤ (ix evs (k : Int)).win ∧ (ix evs (k : Int)).win < ix xs (ix evs (k : Int)).part))) ∧ l' = [xCp (xFt rb ib mb r sm is xs evs)] := by
  intro F K hK
  refine Tr.sepOp ?_
  simp only [ap]
  cases is with
  | false =>
    refine S.I fun u => ?_
    have hX := @xIB.eq_def; repeat' (first | intro (eb : Nat) | refine S.x ?_ | refine S.y ?_ ?_ | (refine G.prop ?_; assumption) | intro hb | ((fail_if_success refine G.tr ?_); exact G.prop S.p) | fail)
    all_goals
      refine Tr.sepCl (Ls := xFt rb ib mb r sm false xs evs) S.T ?_
      exact Tr.fin hK ⟨rfl, rfl⟩ (by simp only [ap, List.append_eq]; exact S.E)
  | true =>
    have hxl := hx rfl
    clear hx
    rw [Bool.true_and, ← hxl] at hK
    by_cases g1 : 0 ≤ (ix evs (k : Int)).part ∧ (ix evs (k : Int)).part < (xs.length : Int)
    · obtain ⟨g2, g3⟩ := g1
      by_cases g4 : 0 ≤ (ix evs (k : Int)).win
      · by_cases g5 : (ix evs (k : Int)).win < ix xs (ix evs (k : Int)).part
        · rw [decide_eq_true ⟨g2, g3, g4, g5⟩] at hK
          refine S.I fun u => ?_
          have hX := @xIB.eq_def; repeat' (first | intro (eb : Nat) | refine S.x ?_ | refine S.y ?_ ?_ | (refine G.prop ?_; assumption) | intro hb | ((fail_if_success refine G.tr ?_); exact G.prop S.p) | fail)
          all_goals
            refine Tr.sepCl (Ls := xFt rb ib mb r sm true xs evs) S.T ?_
            exact Tr.fin hK ⟨S.v, rfl⟩ (by simp only [ap, List.append_eq]; exact S.E)
        · rw [decide_eq_false fun h => g5 h.2.2.2] at hK
          have g6 := Int.not_lt.1 g5
          refine S.I fun u => ?_
          have hX := @xIB.eq_def; repeat' (first | intro (eb : Nat) | refine S.x ?_ | refine S.y ?_ ?_ | (refine G.prop ?_; assumption) | intro hb | ((fail_if_success refine G.tr ?_); exact G.prop S.p) | fail)
          all_goals
            refine Tr.sepCl (Ls := xFt rb ib mb r sm true xs evs) S.T ?_
            exact Tr.fin hK ⟨S.v, rfl⟩ (by simp only [ap, List.append_eq]; exact S.E)
      · rw [decide_eq_false fun h => g4 h.2.2.1] at hK
        have g6 := Int.not_le.1 g4
        refine S.I fun u => ?_
        have hX := @xIB.eq_def; repeat' (first | intro (eb : Nat) | refine S.x ?_ | refine S.y ?_ ?_ | (refine G.prop ?_; assumption) | intro hb | ((fail_if_success refine G.tr ?_); exact G.prop S.p) | fail)
        all_goals
          refine Tr.sepCl (Ls := xFt rb ib mb r sm true xs evs) S.T ?_
          exact Tr.fin hK ⟨S.v, rfl⟩ (by simp only [ap, List.append_eq]; exact S.E)
    · rw [decide_eq_false fun h => g1 ⟨h.1, h.2.1⟩] at hK
      refine S.I fun u => ?_
      have hX := @xIB.eq_def; repeat' (first | intro (eb : Nat) | refine S.x ?_ | refine S.y ?_ ?_ | (refine G.prop ?_; assumption) | intro hb | ((fail_if_success refine G.tr ?_); exact G.prop S.p) | fail)
      all_goals first
        | (exfalso; omega)
        | (refine Tr.sepCl (Ls := xFt rb ib mb r sm true xs evs) S.T ?_
           exact Tr.fin hK ⟨S.v, rfl⟩ (by simp only [ap, List.append_eq]; exact S.E))
theorem xDG (hs : shC c) (hf : fs.length ≤ 1000000) (hfw : xDe c) (he : evs.length ≤ 1000000000) : Xb prog 21 #[.agg (En.enc c).toArray, fv.v, .agg (En.enc r).toArray]
  [sl true fv.v fs, sl true c.parts.s.v c.parts.d, sl true c.modes.s.v c.modes.d, fzl c.modes.d, sl true c.down.s.v c.down.d, sl true c.up.s.v c.up.d, sl true r.ev.v evs]
  fun v l' => ∃ n : Int, Fst (max evs.length evs.length) (xBX evs.length evs.length (xCu c fs evs)) n ∧ v = .int .i64 n ∧ l' = [] := by
 intro F K hK
 simp only [ap]
 have hbg := xDA (c := c) (fv := fv) (fs := fs) hs hf hfw
 have hml := xIK (c := c) (fs := fs)
 unfold xCu at hK
 generalize xD1 c fs = mn at *
 generalize xDd c = mm at *
 refine S.I fun u => ?_
 repeat' (first | (refine G.call 56 ?_; refine S.c ?_ (h := hbg); rintro _ _ ⟨so, xs, hxs, rfl, rfl⟩) | intro (wb : Nat) | refine S.x ?_ | refine S.y ?_ ?_ | (refine G.call 56 ?_; refine S.c ?_ (h := xDA ‹_› S.o ‹_›)) | rintro _ _ ⟨so, xs, hxs, rfl, rfl⟩ | (refine G.prop ?_; assumption) | intro hb | ((fail_if_success refine G.tr ?_); exact G.prop S.p) | fail)
 rename_i cb rb mb
 have hu := xCV (a := evs.length) (b := evs.length) (g := 57) (cap := [.pointer (some ⟨rb, 0, none⟩), .pointer (some ⟨wb, 0, none⟩), .pointer (some ⟨mb, 0, none⟩)]) (Z := xCp (xFt rb wb mb r so mm xs evs)) (p := fun k => !(mm && decide (0 ≤ (ix evs (k : Int)).part ∧ (ix evs (k : Int)).part < (c.parts.d.length : Int) ∧ 0 ≤ (ix evs (k : Int)).win ∧ (ix evs (k : Int)).win < ix mn (ix evs (k : Int)).part))) S.o S.o fun k h1 h2 => by
  have h := xJN (rb := rb) (ib := wb) (mb := mb) (sm := so) (xs := xs) (is := mm) (r := r) (c := c) (fun h => by rw [hxs h]; exact hml) h1
  cases mm with
  | false => exact h
  | true => rw [hxs rfl] at h ⊢; exact h
 refine Tr.sepCl (Ls := xFt rb wb mb r so mm xs evs) S.T ?_
 repeat' (first | (refine G.call 42 ?_; refine S.c ?_ (h := hu); rintro _ _ ⟨n, hn, rfl, rfl⟩) | refine S.x ?_ | refine S.y ?_ ?_ | (refine G.call 56 ?_; refine S.c ?_ (h := xDA ‹_› S.o ‹_›)) | rintro _ _ ⟨so, xs, hxs, rfl, rfl⟩ | (refine G.prop ?_; assumption) | intro hb | ((fail_if_success refine G.tr ?_); exact G.prop S.p) | fail)
 all_goals exact Tr.fin hK ⟨n, hn, rfl, rfl⟩ S.E
theorem xIv {part : Int} (hs : shC c) (hfw : xDe c) : Xb prog 37 #[.agg (En.enc c).toArray, .int .i64 part] [sl true c.parts.s.v c.parts.d, sl true c.modes.s.v c.modes.d, fzl c.modes.d]
  fun v l' => v = .bool (xDd c && (decide (0 ≤ part) && decide (part < (c.parts.d.length : Int)))) ∧ l' = [] := by
 intro F K hK
 simp only [ap]
 have hsm := hs.m
 refine S.I fun u => ?_
 have hX := @xog.eq_def; repeat' (first | intro (cb : Nat) | refine S.x ?_ | refine S.y ?_ ?_ | (refine G.prop ?_; assumption) | intro hb | ((fail_if_success refine G.tr ?_); exact G.prop S.p) | fail)
 refine Tr.loopE (α := Nat) [4, 5] [1, 2] (fun k => [.bool false, .int .i64 k]) (fun _ => [cfB cb c]) (fun k => k ≤ c.modes.d.length ∧ ∀ j : Nat, j < k → xIA c (ix c.modes.d (j : Int))) (fun k => c.modes.d.length - k) 0 S.T rfl ⟨Nat.zero_le _, fun j hj => absurd hj (Nat.not_lt_zero _)⟩ fun k u hk => ?_
 obtain ⟨hk, hm⟩ := hk
 simp only [ap]
 by_cases hin : k < c.modes.d.length
 ·have hw := Xo (k := k) S.o
  have hwl1 : (ix c.modes.d (k : Int)).wins.d.length ≤ 1000 := hfw.w _ (xCm hin)
  have hX := @xog.eq_def; repeat' (first | refine S.x ?_ | refine S.y ?_ ?_ | (refine G.prop ?_; assumption) | intro hb | ((fail_if_success refine G.tr ?_); exact G.prop S.p) | fail)
  refine Tr.loopE (α := Nat) [4, 6] [1, 2, 5] (fun i => [.bool false, .int .i64 i]) (fun _ => [cfB cb c]) (fun i => i ≤ (ix c.modes.d (k : Int)).wins.d.length ∧ ∀ j : Nat, j < i → xDK c (ix (ix c.modes.d (k : Int)).wins.d (j : Int))) (fun i => (ix c.modes.d (k : Int)).wins.d.length - i) 0 S.T rfl ⟨Nat.zero_le _, fun j hj => absurd hj (Nat.not_lt_zero _)⟩ fun i u hi => ?_
  obtain ⟨hi, hmi⟩ := hi
  simp only [ap]
  by_cases hii : i < (ix c.modes.d (k : Int)).wins.d.length
  ·have hwi := Xo (k := i) S.o
   by_cases g1 : xDK c (ix (ix c.modes.d (k : Int)).wins.d (i : Int))
   ·have hm2 := xCS (p := fun j : Nat => xDK c (ix (ix c.modes.d (k : Int)).wins.d (j : Int))) hmi g1
    obtain ⟨g2, g3⟩ := g1
    have hX := And.intro @xog.eq_def hwi; repeat' (first | refine S.x ?_ | refine S.y ?_ ?_ | (refine G.prop ?_; assumption) | intro hb | ((fail_if_success refine G.tr ?_); exact G.prop S.p) | fail)
    all_goals exact S.R (i + 1)
   ·have hmf := xJD hin hii g1
    rw [hmf, Bool.false_and] at hK
    unfold xDK at g1
    have hX := @xog.eq_def; repeat' (first | refine S.x ?_ | refine S.y ?_ ?_ | (refine G.prop ?_; assumption) | intro hb | ((fail_if_success refine G.tr ?_); exact G.prop S.p) | fail)
    all_goals exact Tr.fin hK ⟨rfl, rfl⟩ S.E
  ·obtain rfl : i = (ix c.modes.d (k : Int)).wins.d.length := by omega
   have hm2 := xCS (p := fun j : Nat => xIA c (ix c.modes.d (j : Int))) hm hmi
   have hX := And.intro @xog.eq_def hw; repeat' (first | refine S.x ?_ | refine S.y ?_ ?_ | (refine G.prop ?_; assumption) | intro hb | ((fail_if_success refine G.tr ?_); exact G.prop S.p) | fail)
   all_goals exact S.R (k + 1)
 ·obtain rfl : k = c.modes.d.length := by omega
  have hmt := xJa hm
  rw [hmt, Bool.true_and] at hK
  by_cases g1 : 0 ≤ part
  ·have hX := @xog.eq_def; repeat' (first | refine S.x ?_ | refine S.y ?_ ?_ | (refine G.prop ?_; assumption) | intro hb | ((fail_if_success refine G.tr ?_); exact G.prop S.p) | fail)
   all_goals exact Tr.fin hK ⟨S.v, rfl⟩ S.E
  ·rw [decide_eq_false g1, Bool.false_and] at hK
   have hX := @xog.eq_def; repeat' (first | refine S.x ?_ | refine S.y ?_ ?_ | (refine G.prop ?_; assumption) | intro hb | ((fail_if_success refine G.tr ?_); exact G.prop S.p) | fail)
   all_goals exact Tr.fin hK ⟨S.v, rfl⟩ S.E
theorem xB3 (hs : shC c) (hf : fs.length ≤ 1000000) (hfw : xDe c) (hmt : xDd c = true) : Xb prog 38 #[.agg (En.enc c).toArray, fv.v]
  [sl true fv.v fs, sl true c.parts.s.v c.parts.d, sl true c.modes.s.v c.modes.d, fzl c.modes.d, sl true c.down.s.v c.down.d, sl true c.up.s.v c.up.d]
  fun v l' => ∃ (s : SV) (bs : List xCP), bs.map xCP.pw = xCR (xCx c (xBH c p0 fs)) (zer c) ∧ v = s.v ∧ l' = [sl false s.v bs] := by
 intro F K hK
 simp only [ap]
 have hsm := hs.m
 have hsp := hs.p
 have hp9 := xB0 (c := c) (fs := fs) (p := p0)
 have hpa := xCi (c := c) (fs := fs) (p := p0)
 have hpg := xBM (c := c) (fv := fv) (fs := fs) hs hf
 have hzl := xDo (c := c)
 have hze : List.replicate ((c.parts.d.length : Int).toNat) (default : Int) = zer c := by unfold zer; rw [Int.toNat_natCast]; rfl
 have hfr : ∀ {l : List Int} {w : Int}, l.length ≤ 1000000000 → 0 ≤ ix (xBW l (zer c)) w ∧ ix (xBW l (zer c)) w ≤ 1000000000 := fun h => xHs h
 have hwl := xCU hfw (ps := xBH c p0 fs) hpa
 generalize xBH c p0 fs = pg at *
 generalize zer c = zs at *
 refine S.I fun u => ?_
 have hX := @xGy.eq_def; repeat' (first | (refine G.call 48 ?_; refine S.c ?_ (h := hpg); rintro _ _ ⟨sp, rfl, rfl⟩) | intro (so : SV) | refine S.x ?_ | refine S.y ?_ ?_ | (refine G.call 48 ?_; refine S.c ?_ (h := xBM ‹_› S.o)) | (refine G.call 86 ?_; refine S.c ?_ (h := xCX)) | rintro _ _ ⟨rfl, rfl⟩ | rintro _ _ ⟨_, rfl, rfl⟩ | (refine G.prop ?_; assumption) | intro hb | ((fail_if_success refine G.tr ?_); exact G.prop S.p) | fail)
 obtain ⟨cb, rfl⟩ : ∃ cb, cb = hb := ⟨_, rfl⟩
 rw [hze]
 clear hze
 refine Tr.nilSl (α := xCP) ?_
 have h0 : xBW (xCx c (pg.take 0)) zs = zs := rfl
 rw [← h0]
 refine Tr.loopE (α := Nat × SV × List xCP) [5, 8] [2, 4, 6, 7] (fun x => [x.2.1.v, .int .i64 x.1]) (fun x => [sl false x.2.1.v x.2.2, sl false sp.v pg, sl false so.v (xBW (xCx c (pg.take x.1)) zs), cfB cb c]) (fun x => x.1 ≤ pg.length ∧ x.2.2.map xCP.pw = xCR (xCx c (pg.take x.1)) zs) (fun x => pg.length - x.1) (0, ⟨none, 0, 0⟩, []) S.T rfl ⟨Nat.zero_le _, rfl⟩ fun x u hI => ?_
 obtain ⟨k, s1, bs⟩ := x
 obtain ⟨hk, hbs⟩ := hI
 simp only at hk hbs ⊢
 clear h0
 simp only [ap]
 by_cases hin : k < pg.length
 ·have hw := Xo (k := k) S.o
  have hx := hpa _ (xCm hin)
  have hx1 := hx.1
  have hx2 := hx.2
  have hwl1 : (ix c.modes.d (ix pg (k : Int)).mode).wins.d.length ≤ 1000 := hfw.w _ (List.mem_of_getElem? (Yi hx1 hx2))
  have htk : pg.take (k + 1) = pg.take k ++ [ix pg (k : Int)] := Yz hin
  have hwk := xCU hfw (ps := pg.take k) fun q hq => hpa q (List.mem_of_mem_take hq)
  rw [List.length_take] at hwk
  have hn : xBW (xCx c (pg.take (k + 1))) zs = xBW (xCx c (pg.take k) ++ xDW c (ix pg (k : Int))) zs := by rw [htk, xDw]
  have hn2 : xCR (xCx c (pg.take (k + 1))) zs = xCR (xCx c (pg.take k) ++ xDW c (ix pg (k : Int))) zs := by rw [htk, xDw]
  clear htk
  generalize xCx c (pg.take k) = wl at *
  have hX := And.intro @xGy.eq_def hw; repeat' (first | refine S.x ?_ | refine S.y ?_ ?_ | (refine G.call 48 ?_; refine S.c ?_ (h := xBM ‹_› S.o)) | (refine G.call 86 ?_; refine S.c ?_ (h := xCX)) | rintro _ _ ⟨rfl, rfl⟩ | rintro _ _ ⟨_, rfl, rfl⟩ | (refine G.prop ?_; assumption) | intro hb | ((fail_if_success refine G.tr ?_); exact G.prop S.p) | fail)
  have h0 : wl = wl ++ xCh c (ix pg (k : Int)) 0 := by rw [xJJ, List.append_nil]
  rw [h0]
  refine Tr.loopE (α := Nat × SV × List xCP) [5, 10] [2, 4, 6, 7, 8, 9] (fun x => [x.2.1.v, .int .i64 x.1]) (fun x => [sl false x.2.1.v x.2.2, sl false sp.v pg, sl false so.v (xBW (wl ++ xCh c (ix pg (k : Int)) x.1) zs), cfB cb c]) (fun x => x.1 ≤ (ix c.modes.d (ix pg (k : Int)).mode).wins.d.length ∧ x.2.2.map xCP.pw = xCR (wl ++ xCh c (ix pg (k : Int)) x.1) zs) (fun x => (ix c.modes.d (ix pg (k : Int)).mode).wins.d.length - x.1) (0, s1, bs) S.T rfl ⟨Nat.zero_le _, by rw [← h0]; exact hbs⟩ fun x u hI => ?_
  obtain ⟨j, s2, b2⟩ := x
  obtain ⟨hj, hb2⟩ := hI
  simp only at hj hb2 ⊢
  clear h0 hbs
  simp only [ap]
  by_cases hjn : j < (ix c.modes.d (ix pg (k : Int)).mode).wins.d.length
  ·have hwj := Xo (k := j) S.o
   obtain ⟨p1, p2⟩ := xHx hmt hx hjn
   have hlk := xF5 (c := c) (p := ix pg (k : Int)) (k := j)
   have hbl : b2.length ≤ 1000000000 := by
    have := congrArg List.length hb2
    rw [List.length_map, xD3, List.length_append] at this
    omega
   obtain ⟨r0, r9⟩ := hfr (l := wl ++ xCh c (ix pg (k : Int)) j) (w := (ix (ix c.modes.d (ix pg (k : Int)).mode).wins.d (j : Int)).part) (by rw [List.length_append]; omega)
   have hsl : (xBW (wl ++ xCh c (ix pg (k : Int)) j) zs).length = c.parts.d.length := by rw [xDi, hzl]
   cases hI : isM (ix c.parts.d (ix (ix c.modes.d (ix pg (k : Int)).mode).wins.d (j : Int)).part).ladder (ix pg (k : Int)).level with
   | true =>
    have hst : xBW (wl ++ xCh c (ix pg (k : Int)) (j + 1)) zs = xBW (wl ++ xCh c (ix pg (k : Int)) j) zs := by rw [xGI hjn hI]
    have hst2 : b2.map xCP.pw = xCR (wl ++ xCh c (ix pg (k : Int)) (j + 1)) zs := by rw [xGI hjn hI]; exact hb2
    generalize xBW (wl ++ xCh c (ix pg (k : Int)) j) zs = ws at *
    clear hb2
    have hX := I3 @xGy.eq_def hwj hI; repeat' (first | refine S.x ?_ | refine S.y ?_ ?_ | (refine G.call 48 ?_; refine S.c ?_ (h := xBM ‹_› S.o)) | (refine G.call 86 ?_; refine S.c ?_ (h := xCX)) | rintro _ _ ⟨rfl, rfl⟩ | rintro _ _ ⟨_, rfl, rfl⟩ | (refine G.prop ?_; assumption) | intro hb | ((fail_if_success refine G.tr ?_); exact G.prop S.p) | fail)
    all_goals
     have hX := hst
     exact S.R ((j + 1, s2, b2) : Nat × SV × List xCP)
   | false =>
    have hst : xBW (wl ++ xCh c (ix pg (k : Int)) (j + 1)) zs = (xBW (wl ++ xCh c (ix pg (k : Int)) j) zs).set (ix (ix c.modes.d (ix pg (k : Int)).mode).wins.d (j : Int)).part.toNat (ix (xBW (wl ++ xCh c (ix pg (k : Int)) j) zs) (ix (ix c.modes.d (ix pg (k : Int)).mode).wins.d (j : Int)).part + 1) := by rw [xGp hjn hI, ← List.append_assoc, xDy]; rfl
    have hst2 : (b2 ++ [(⟨(ix (ix c.modes.d (ix pg (k : Int)).mode).wins.d (j : Int)).part, ix (xBW (wl ++ xCh c (ix pg (k : Int)) j) zs) (ix (ix c.modes.d (ix pg (k : Int)).mode).wins.d (j : Int)).part, (k : Int)⟩ : xCP)]).map xCP.pw = xCR (wl ++ xCh c (ix pg (k : Int)) (j + 1)) zs := by
     rw [xGp hjn hI, ← List.append_assoc, xEd, List.map_append, hb2]; rfl
    generalize xBW (wl ++ xCh c (ix pg (k : Int)) j) zs = ws at *
    have hwb := Ye (n := ix ws (ix (ix c.modes.d (ix pg (k : Int)).mode).wins.d (j : Int)).part + 1) S.o S.o
    clear hb2
    have hX := I5 @xGy.eq_def hwj hI hwb hsl; repeat' (first | intro (sv : SV) | refine S.x ?_ | refine S.y ?_ ?_ | (refine G.call 48 ?_; refine S.c ?_ (h := xBM ‹_› S.o)) | (refine G.call 86 ?_; refine S.c ?_ (h := xCX)) | rintro _ _ ⟨rfl, rfl⟩ | rintro _ _ ⟨_, rfl, rfl⟩ | (refine G.prop ?_; assumption) | intro hb | ((fail_if_success refine G.tr ?_); exact G.prop S.p) | fail)
    all_goals
     have hX := hst
     exact S.R ((j + 1, sv, b2 ++ [(⟨(ix (ix c.modes.d (ix pg (k : Int)).mode).wins.d (j : Int)).part, ix ws (ix (ix c.modes.d (ix pg (k : Int)).mode).wins.d (j : Int)).part, (k : Int)⟩ : xCP)]) : Nat × SV × List xCP)
  ·obtain rfl : j = (ix c.modes.d (ix pg (k : Int)).mode).wins.d.length := by omega
   have hb3 := hb2
   rw [xDT (Nat.le_refl _), ← hn2] at hb3
   rw [xDT (Nat.le_refl _)]
   clear hb2
   have hX := And.intro @xGy.eq_def hw; repeat' (first | refine S.x ?_ | refine S.y ?_ ?_ | (refine G.call 48 ?_; refine S.c ?_ (h := xBM ‹_› S.o)) | (refine G.call 86 ?_; refine S.c ?_ (h := xCX)) | rintro _ _ ⟨rfl, rfl⟩ | rintro _ _ ⟨_, rfl, rfl⟩ | (refine G.prop ?_; assumption) | intro hb | ((fail_if_success refine G.tr ?_); exact G.prop S.p) | fail)
   all_goals
    have hX := hn
    exact S.R ((k + 1, s2, b2) : Nat × SV × List xCP)
 ·obtain rfl : k = pg.length := by omega
  rw [List.take_length] at hbs
  rw [List.take_length]
  have hX := @xGy.eq_def; repeat' (first | refine S.x ?_ | refine S.y ?_ ?_ | (refine G.call 48 ?_; refine S.c ?_ (h := xBM ‹_› S.o)) | (refine G.call 86 ?_; refine S.c ?_ (h := xCX)) | rintro _ _ ⟨rfl, rfl⟩ | rintro _ _ ⟨_, rfl, rfl⟩ | (refine G.prop ?_; assumption) | intro hb | ((fail_if_success refine G.tr ?_); exact G.prop S.p) | fail)
  all_goals exact Tr.fin hK ⟨s1, bs, hbs, rfl, rfl⟩ S.E
