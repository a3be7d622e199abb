import Derived.Test.YtkapfpliiaegfaaGreatExF
import Derived.Test.YtkapfpliiaegfaaGreatZ13
namespace Go.Proofs.YtkapfpliiaegfaaGreat
open Go Go.Wk Tryz
set_option maxRecDepth 100000
set_option maxHeartbeats 3200000
noncomputable def xTb : List Nat := [6, 27, 28, 64, 103, 149, 150, 151, 152, 201, 264, 265, 202, 266, 267, 203, 204, 268, 206, 273]
theorem xTA : xTb.all (xML prog (aut prog)) = true := by kernel_rfl
noncomputable def xTd : List Nat := [343, 274, 345, 207, 275, 276, 208, 153, 209, 210, 211, 277, 154, 155, 215, 216, 283, 282, 284, 285]
theorem xTK : xTd.all (xML prog (aut prog)) = true := by kernel_rfl
noncomputable def xS5 : List Nat := [348, 371, 95, 372, 389, 373, 97, 144, 197, 145, 146, 199, 101, 156, 104, 157, 105, 65, 106, 107]
theorem xTE : xS5.all (xML prog (aut prog)) = true := by kernel_rfl
noncomputable def xS6 : List Nat := [108, 109, 159, 217, 219, 221, 223, 110, 160, 111, 112, 113, 114, 161, 178, 225, 162, 226, 227, 66]
theorem xTL : xS6.all (xML prog (aut prog)) = true := by kernel_rfl
noncomputable def xTi : List Nat := [67, 115, 35, 83, 45, 93, 141, 142, 195, 196, 262, 340, 341, 84, 85, 68, 116, 69, 118, 165]
theorem xTD : xTi.all (xML prog (aut prog)) = true := by kernel_rfl
noncomputable def xTo : List Nat := [166, 167, 229, 168, 232, 290, 291, 169, 170, 237, 171, 239, 296, 175, 241, 120, 174, 176, 119, 172]
theorem xTC : xTo.all (xML prog (aut prog)) = true := by kernel_rfl
noncomputable def xTa : List Nat := [173, 194, 49, 96, 122, 177, 179, 230, 121, 242, 298, 293, 240, 163, 297, 332, 367, 385, 98, 124]
theorem xTP : xTa.all (xML prog (aut prog)) = true := by kernel_rfl
noncomputable def xS4 : List Nat := [123, 180, 181, 129, 184, 250, 70, 125, 29, 71, 8, 33, 77, 127, 78, 79, 128, 80, 34, 36]
theorem xTz : xS4.all (xML prog (aut prog)) = true := by kernel_rfl
noncomputable def xTe : List Nat := [30, 31, 72, 73, 74, 75]
theorem xTJ : xTe.all (xML prog (aut prog)) = true := by kernel_rfl
noncomputable def xSv (f : Nat) : Bool := xNg f xTb || xNg f xTd || xNg f xS5 || xNg f xS6 || xNg f xTi || xNg f xTo || xNg f xTa || xNg f xS4 || xNg f xTe
theorem xSU : ∀ f, xSv f = true → xML prog (aut prog) f = true := fun f h => by
 unfold xSv at h
 simp only [Bool.or_eq_true] at h
 rcases h with (((((((h | h) | h) | h) | h) | h) | h) | h) | h
 ·exact xMu h xTA
 ·exact xMu h xTK
 ·exact xMu h xTE
 ·exact xMu h xTL
 ·exact xMu h xTD
 ·exact xMu h xTC
 ·exact xMu h xTP
 ·exact xMu h xTz
 ·exact xMu h xTJ
noncomputable def xSH : Nat × CB := (7, .cells [.i .i64 5, .i .i64 10, .i .i64 10, .i .i64 40] 138 true)
noncomputable def xSF : Nat × CB := (4, .cells [.sl 1 0 1 1, .sl 2 0 1 1, .sn, .sn, .i .i64 0, .sn, .sn, .i .i64 20, .i .i64 1099511627776, .i .i64 0, .sl 3 0 5 5] 99 true)
noncomputable def xST : Nat × CB := (5, .cells [.i .i64 0, .i .i64 1000, .i .i64 5000] 136 true)
noncomputable def xSR : Nat × CB := (329, .cells [.i .i64 0, .i .i64 0, .i .i64 0, .i .i64 8, .i .i64 0, .i .i64 0] 76 false)
noncomputable def xSP : Nat × CB := (1, .cells [.i .i64 0, .i .i64 32, .b true] 132 true)
noncomputable def xSO : Nat × CB := (6, .cells [.i .i64 10000, .sl 5 0 1 1] 102 true)
noncomputable def xSQ : Nat × CB := (3, .cells [.i .i64 0, .i .i64 0, .i .i64 0, .i .i64 0, .i .i64 0] 3 true)
noncomputable def xSK : Nat × CB := (2, .cells [.i .i64 1, .i .i64 1, .i .i64 20] 134 true)
noncomputable def xSz : EnC := let p := [xSP, xSK, xSQ, xSF, xST, xSO, xSH, (9, .cells [.i .i64 5, .i .i64 8, .i .i64 0, .i .i64 0, .i .i64 0, .i .i64 0, .i .i64 5, .i .i64 1, .i .i64 0, .i .i64 0, .i .i64 0, .i .i64 0] 68 true), (10, .cells [.sl 9 0 2 2] 69 true), (11, .cells [.i .i64 0, .i .i64 0, .i .i64 0, .i .i64 0] 155 true)]; ⟨28, [.ag [.sl 4 0 1 1, .sn, .sl 6 0 1 1, .sl 7 0 2 2, .sn, .i .i64 0, .i .i64 0, .i .i64 1, .i .i64 8, .i .i64 32768, .i .i64 100, .sn, .sn], .i .i64 0, .sl 10 0 1 1, .ag [.sl 11 0 1 1, .sn]], 12, p, .tp [.sl 329 0 1 1, .sn, .i .i64 0], 330, xMq p [xSR]⟩
noncomputable def xTN : List EnC := []
theorem xTF : ∀ en ∈ xTN, xMn prog en := fun en h => by cases h
theorem xSM : xMn prog xSz := xMk (pl := aut prog) (fl := 100000) (d := 200) (ok := xSv) mixed xSU xTF (by kernel_rfl)
noncomputable def xSN : EnC := let p := [xSP, xSK, xSQ, xSF, xST, xSO, xSH, (9, .cells [.i .i64 5, .i .i64 8, .i .i64 0, .i .i64 0, .i .i64 0, .i .i64 0, .i .i64 5, .i .i64 1, .i .i64 0, .i .i64 0, .i .i64 0, .i .i64 0] 68 true), (10, .cells [.i .i64 0, .i .i64 0, .i .i64 0, .i .i64 0] 155 true), (11, .cells [.sl 9 0 2 2] 69 true)]; ⟨28, [.ag [.sl 4 0 1 1, .sn, .sl 6 0 1 1, .sl 7 0 2 2, .sn, .i .i64 0, .i .i64 0, .i .i64 1, .i .i64 8, .i .i64 32768, .i .i64 100, .sn, .sn], .i .i64 0, .sl 11 0 1 1, .ag [.sl 10 0 1 1, .sn]], 12, p, .tp [.sl 329 0 1 1, .sn, .i .i64 0], 330, xMq p [xSR]⟩
noncomputable def xTh : List EnC := [xSz]
theorem xTM : ∀ en ∈ xTh, xMn prog en := fun en h => by
 simp only [xTh, List.mem_cons, List.not_mem_nil, or_false] at h
 rcases h with rfl
 ·exact xSM
theorem xTk : xMn prog xSN := xMk (pl := aut prog) (fl := 100000) (d := 200) (ok := xSv) mixed xSU xTM (by kernel_rfl)
noncomputable def xS9 : EnC := let p := [xSP, xSK, xSQ, xSF, xST, xSO, xSH, (9, .cells [.i .i64 0, .i .i64 0, .i .i64 0, .i .i64 0] 155 true), (10, .cells [.i .i64 5, .i .i64 8, .i .i64 0, .i .i64 0, .i .i64 0, .i .i64 0, .i .i64 5, .i .i64 1, .i .i64 0, .i .i64 0, .i .i64 0, .i .i64 0] 68 true), (11, .cells [.sl 10 0 2 2] 69 true)]; ⟨28, [.ag [.sl 4 0 1 1, .sn, .sl 6 0 1 1, .sl 7 0 2 2, .sn, .i .i64 0, .i .i64 0, .i .i64 1, .i .i64 8, .i .i64 32768, .i .i64 100, .sn, .sn], .i .i64 0, .sl 11 0 1 1, .ag [.sl 9 0 1 1, .sn]], 12, p, .tp [.sl 329 0 1 1, .sn, .i .i64 0], 330, xMq p [xSR]⟩
noncomputable def xS3 : List EnC := [xSz, xSN]
theorem xTI : ∀ en ∈ xS3, xMn prog en := fun en h => by
 simp only [xS3, List.mem_cons, List.not_mem_nil, or_false] at h
 rcases h with rfl | rfl
 ·exact xSM
 ·exact xTk
theorem xTG : xMn prog xS9 := xMk (pl := aut prog) (fl := 100000) (d := 200) (ok := xSv) mixed xSU xTI (by kernel_rfl)
noncomputable def xTn : List EnC := [xSz, xSN, xS9]
theorem xTH : ∀ en ∈ xTn, xMn prog en := fun en h => by
 simp only [xTn, List.mem_cons, List.not_mem_nil, or_false] at h
 rcases h with rfl | rfl | rfl
 ·exact xSM
 ·exact xTk
 ·exact xTG
theorem xSq : Xb prog 6 #[] [] fun v l => v = .bool true ∧ l = [] := xOi (P := prog) (ok := xSv) (pl := aut prog) (fl := 100000) (n := 200) mixed xSU (by kernel_rfl) (show CV.grs [] = some [] from rfl) xTH (by kernel_rfl)
theorem xSn {rows : List Row} : (xR8 rows).length = rows.length := by unfold xR8; rw [List.length_map]
theorem xTc {c : xs2} {fs : List xBL} {mine : List xR3} {part : Int} (hfw : xDe c) (hf : fs.length ≤ 100) : (xQR c fs mine part).length ≤ 100000 := by
 unfold xQR
 split
 ·have := (xSi (chs := c.chans.d) (mine := mine) (part := part) (l := xCR (xCx c (xBH c p0 fs)) (zer c)) (x := ([], []))).1
  unfold xSu
  rw [xD3] at this
  have := xCU hfw (ps := xBH c p0 fs) xCi
  have := xB0 (c := c) (fs := fs) (p := p0)
  simp only [List.length_nil, Nat.zero_add] at *
  omega
 ·exact Nat.zero_le _
section
attribute [local irreducible] BrK Xq Xt Xv XI FnK XZ Xw XC XV opX opK Yq Yk eqR Yj Yo Ys WL WD W X3 XO Tr drewK Ya X4 Yw Yv X1 YB mp blk rob sl sep ex fact old
section
attribute [local irreducible] xRZ
section
variable {c : xs2} {ps fv s t : SV} {ms : List xRY} {fs : List xBL} {pp : List xSW} {r : xCT} {xs ys : List Row}
theorem xSI (h : xR8 xs = xR8 ys) (hl : xs.length ≤ 1000000) : Xb prog 7 #[s.v, t.v] [sl false s.v xs, fzl xs, sl false t.v ys, fzl ys] fun v l' => v = .bool true ∧ l' = [] := by
 intro F K hK
 simp only [ap]
 have hly : xs.length = ys.length := by rw [← xSn, h, xSn]
 refine S.I fun u => ?_
 have hX := @pl7.eq_def; repeat' (first | refine S.x ?_ | refine S.y ?_ ?_ | (refine G.prop ?_; assumption) | intro hb | ((fail_if_success refine G.tr ?_); exact G.prop S.p) | fail)
 refine Tr.loopE (α := Nat) [4, 5] [0, 1] (fun k => [.bool false, .int .i64 k]) (fun _ => [sl false s.v xs, sl false t.v ys]) (fun k => k ≤ xs.length) (fun k => xs.length - k) 0 S.T rfl (Nat.zero_le _) fun k u hk => ?_
 simp only [ap]
 by_cases hin : k < xs.length
 ·have hw := Xo (k := k) S.o
  have he : (ix xs (k : Int)).d.map xRY.ab = (ix ys (k : Int)).d.map xRY.ab := by
   have h1 := Xp (f := fun r : Row => r.d.map xRY.ab) (xs := xs) (k := (k : Int)) S.o S.o
   have h2 := Xp (f := fun r : Row => r.d.map xRY.ab) (xs := ys) (k := (k : Int)) S.o S.o
   rw [← h1, ← h2]
   exact congrArg (fun l => ix l (k : Int)) h
  have hsa := xSS (s := (ix xs (k : Int)).s) (t := (ix ys (k : Int)).s) he
  clear h he
  have hX := And.intro @pl7.eq_def hw; repeat' (first | (refine G.call 32 ?_; refine S.c ?_ (h := hsa); rintro _ _ ⟨rfl, rfl⟩) | refine S.x ?_ | refine S.y ?_ ?_ | (refine G.prop ?_; assumption) | intro hb | ((fail_if_success refine G.tr ?_); exact G.prop S.p) | fail)
  all_goals exact S.R (k + 1)
 ·obtain rfl : k = xs.length := by omega
  have hX := @pl7.eq_def; repeat' (first | refine S.x ?_ | refine S.y ?_ ?_ | (refine G.prop ?_; assumption) | intro hb | ((fail_if_success refine G.tr ?_); exact G.prop S.p) | fail)
  all_goals exact Tr.fin hK ⟨rfl, rfl⟩ S.E
theorem xTq : Xb prog 3 #[.agg (En.enc c).toArray, .agg #[ps.v, fv.v], .agg (En.enc r).toArray]
  [sl true c.parts.s.v c.parts.d, fzl c.parts.d, sl true c.chans.s.v c.chans.d, sl true c.modes.s.v c.modes.d, fzl c.modes.d, sl true c.levels.s.v c.levels.d, sl true c.naps.s.v c.naps.d, sl true c.down.s.v c.down.d, sl true c.up.s.v c.up.d, sl true ps.v pp, fzl pp, sl true fv.v fs, sl true r.ms.v ms, fzl ms]
  fun v l' => v = .bool true ∧ l' = [] := by
 intro F K hK
 simp only [ap]
 have hfl := xTm (c := c) (ps := ps) (fv := fv) (pp := pp) (fs := fs)
 refine S.I fun u => ?_
 by_cases hn : ms.length ≤ 300
 ·have hX := @pl3.eq_def; repeat' (first | intro (xb : Nat) | (refine G.call 5 ?_; refine S.c ?_ (h := hfl); rintro _ _ ⟨y1, hy1, rfl, rfl⟩; cases y1) | (refine G.call 6 ?_; refine S.c ?_ (h := xSq); rintro _ _ ⟨rfl, rfl⟩) | refine S.x ?_ | refine S.y ?_ ?_ | (refine G.prop ?_; assumption) | intro hb | ((fail_if_success refine G.tr ?_); exact G.prop S.p) | fail)
  ·exact S.L
  rename_i cb sb
  obtain ⟨rb, rfl⟩ : ∃ rb, rb = xb := ⟨_, rfl⟩
  obtain ⟨hs, hfw, hfp⟩ := hy1 rfl
  have hf : fs.length ≤ 100 := by have := hfp.f; omega
  have hsp := hs.p
  clear hy1 hfl
  refine Tr.loopE (α := Nat) [6, 7] [3, 4, 5] (fun k => [.bool false, .int .i64 k]) (fun _ => [cfB cb c, blk sb (.cells #[ps.v, fv.v] 37 (0, 0)), rsB rb r]) (fun k => k ≤ ms.length ∧ ∀ j : Nat, j < k → (ix ms (j : Int)).d.d.length ≤ 1000) (fun k => ms.length - k) 0 S.T rfl ⟨Nat.zero_le _, fun j hj => absurd hj (Nat.not_lt_zero _)⟩ fun k u hk => ?_
  obtain ⟨hk, hm⟩ := hk
  simp only [ap]
  by_cases hin : k < ms.length
  ·have hw := Xo (k := k) S.o
   by_cases hdl : (ix ms (k : Int)).d.d.length ≤ 100
   ·have hm2 := xCS (p := fun j : Nat => (ix ms (j : Int)).d.d.length ≤ 1000) hm S.o
    have hX := And.intro @pl3.eq_def hw; repeat' (first | refine S.x ?_ | refine S.y ?_ ?_ | (refine G.prop ?_; assumption) | intro hb | ((fail_if_success refine G.tr ?_); exact G.prop S.p) | fail)
    all_goals exact S.R (k + 1)
   ·have hX := And.intro @pl3.eq_def hw; repeat' (first | (refine G.call 6 ?_; refine S.c ?_ (h := xSq); rintro _ _ ⟨rfl, rfl⟩) | refine S.x ?_ | refine S.y ?_ ?_ | (refine G.prop ?_; assumption) | intro hb | ((fail_if_success refine G.tr ?_); exact G.prop S.p) | fail)
    all_goals exact S.L
  ·obtain rfl : k = ms.length := by omega
   have hX := @pl3.eq_def; repeat' (first | refine S.x ?_ | refine S.y ?_ ?_ | (refine G.prop ?_; assumption) | intro hb | ((fail_if_success refine G.tr ?_); exact G.prop S.p) | fail)
   refine Tr.loopE (α := Nat) [6, 8] [3, 4, 5] (fun x => [.bool false, .int .i64 ((x : Int) - 1)]) (fun _ => [cfB cb c, blk sb (.cells #[ps.v, fv.v] 37 (0, 0)), rsB rb r]) (fun x => x ≤ c.parts.d.length + 2) (fun x => c.parts.d.length + 2 - x) 0 S.T rfl (Nat.zero_le _) fun x u hx => ?_
   simp only [ap]
   by_cases hix : x < c.parts.d.length + 2
   ·have hw : IntKind.i64.wrap ((x : Int) - 1 + 1) = ((x + 1 : Nat) : Int) - 1 := by rw [Ye S.o S.o]; omega
    have ha := xSD (c := c) (ps := ps) (sf := fv) (s := r.ms) (ms := ms) (fs := fs) (part := (x : Int) - 1) hs hf hfw hn hm
    have hb2 := xTu (c := c) (ps := ps) (sf := fv) (s := r.ms) (ms := ms) (fs := fs) (part := (x : Int) - 1) hs hf hfw hn
    have hal := xTc (c := c) (fs := fs) (mine := xR4 c.chans.d ((x : Int) - 1) (ms.map xRY.ab)) (part := (x : Int) - 1) hfw hf
    generalize xQR c fs (xR4 c.chans.d ((x : Int) - 1) (ms.map xRY.ab)) ((x : Int) - 1) = ar at *
    have hX := And.intro @pl3.eq_def hw; repeat' (first | (refine G.call 8 ?_; refine S.c ?_ (h := ha); rintro _ _ ⟨s1, r1, hr1, rfl, rfl⟩) | (refine G.call 9 ?_; refine S.c ?_ (h := hb2); rintro _ _ ⟨s2, r2, hr2, rfl, rfl⟩) | (refine G.call 7 ?_; refine S.c ?_ (h := xSI (s := s1) (t := s2) (xs := r1) (ys := r2) (hr1.trans hr2.symm) (by rw [← xSn, hr1]; omega)); rintro _ _ ⟨rfl, rfl⟩) | refine S.x ?_ | refine S.y ?_ ?_ | (refine G.prop ?_; assumption) | intro hb | ((fail_if_success refine G.tr ?_); exact G.prop S.p) | fail)
    all_goals
     clear hr1 hr2 ha hb2
     exact S.R (x + 1)
   ·have hX := @pl3.eq_def; repeat' (first | (refine G.call 6 ?_; refine S.c ?_ (h := xSq); rintro _ _ ⟨rfl, rfl⟩) | refine S.x ?_ | refine S.y ?_ ?_ | (refine G.prop ?_; assumption) | intro hb | ((fail_if_success refine G.tr ?_); exact G.prop S.p) | fail)
    all_goals exact S.L
 ·have hX := @pl3.eq_def; repeat' (first | intro (xb : Nat) | (refine G.call 5 ?_; refine S.c ?_ (h := hfl); rintro _ _ ⟨y1, hy1, rfl, rfl⟩; cases y1) | (refine G.call 6 ?_; refine S.c ?_ (h := xSq); rintro _ _ ⟨rfl, rfl⟩) | refine S.x ?_ | refine S.y ?_ ?_ | (refine G.prop ?_; assumption) | intro hb | ((fail_if_success refine G.tr ?_); exact G.prop S.p) | fail)
  all_goals exact S.L
