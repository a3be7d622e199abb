import Derived.Test.YtkapfpliiaegfaaGreatFG
import Derived.Test.YtkapfpliiaegfaaGreatFB
namespace Go.Proofs.YtkapfpliiaegfaaGreat
open Go Go.Wk Tryz
set_option maxHeartbeats 3200000
set_option maxRecDepth 100000
def xDv (a b : Int) : Int := if 9223372036854775807 < a + b then 9223372036854775807 else if a + b < -9223372036854775808 then -9223372036854775808 else a + b
theorem xKQ {n : Int} (h0 : 9223372036854775807 < n) (h1 : n ≤ 18446744073709551614) : IntKind.i64.wrap n = n - 18446744073709551616 := by
 rw [IntKind.wrap_i64]
 omega
theorem xKW {n : Int} (h0 : n < -9223372036854775808) (h1 : -18446744073709551616 ≤ n) : IntKind.i64.wrap n = n + 18446744073709551616 := by
 rw [IntKind.wrap_i64]
 omega
theorem xIw {a b c : Int} {up : Bool} : 0 ≤ (xBZ a b c up).1 := by
 unfold xBZ
 split
 ·exact Int.le_refl 0
 ·rename_i h
  split
  ·exact Int.le_refl 0
  ·show 0 ≤ mdV a b c up
   unfold mdV
   have := Int.mul_nonneg (show 0 ≤ a by omega) (show 0 ≤ b by omega)
   cases up <;> simp only [Bool.false_eq_true, if_false, if_true] <;> exact Int.ediv_nonneg S.o S.o
theorem xEe {ls : List xCo} {n : Int} : -9223372036854775808 ≤ (xB2 ls n).1 ∧ (xB2 ls n).1 ≤ 9223372036854775807 := by
 unfold xB2
 split
 ·exact ⟨by decide, by decide⟩
 ·split
  ·have h1 := xIw (a := n) (b := (xBZ 1000 (xCj ls).power 1 false).1) (c := (xCj ls).freq) (up := true)
   exact ⟨by omega, xDB⟩
  ·exact ⟨(by decide : (-9223372036854775808 : Int) ≤ 0), (by decide : (0 : Int) ≤ 9223372036854775807)⟩
noncomputable def xDr (ps : List YF) (cr : List Int) (one : Int) : Bool := @decide (¬ cr.length = ps.length ∨ ∃ j : Nat, j < cr.length ∧ (ix cr (j : Int) < 0 ∨ xDv (ix ps (j : Int)).budget one < ix cr (j : Int))) (Classical.propDecidable _)
theorem xEh {ps : List YF} {cr : List Int} {one : Int} (h : ¬ cr.length = ps.length) : xDr ps cr one = true := @decide_eq_true _ (Classical.propDecidable _) (.inl h)
theorem xDk {ps : List YF} {cr : List Int} {one : Int} {j : Nat} (hj : j < cr.length) (h : ix cr (j : Int) < 0 ∨ xDv (ix ps (j : Int)).budget one < ix cr (j : Int)) : xDr ps cr one = true := @decide_eq_true _ (Classical.propDecidable _) (.inr ⟨j, hj, h⟩)
theorem xGa {ps : List YF} {cr : List Int} {one : Int} (hl : cr.length = ps.length) (h : ∀ j : Nat, j < cr.length → ¬ (ix cr (j : Int) < 0 ∨ xDv (ix ps (j : Int)).budget one < ix cr (j : Int))) : xDr ps cr one = false := @decide_eq_false _ (Classical.propDecidable _) (by
 rintro (h1 | ⟨j, hj, h2⟩)
 ·exact h1 hl
 ·exact h j hj h2)
structure xKF (ps : List YF) : Prop where
 h : ∀ p ∈ ps, -9223372036854775808 ≤ p.budget ∧ p.budget ≤ 9223372036854775807
section
attribute [local irreducible] BrK Xq Xt Xv XI FnK XZ Xw XC XV opX opK Yq Yk eqR Yj Yo Ys WL WD W X3 XO Tr drewK Ya X4 Yw Yv X1 YB mp blk rob sl sep ex fact old
section
attribute [local irreducible] xB2
section
variable {a b one : Int} {c : xs2} {s : SV} {cr : List Int} {creds : List (SL Int)} {r : xCT} {u0 : Value} {p : xJF} {ls : List xCo}
theorem xKe (a0 : -9223372036854775808 ≤ a) (a9 : a ≤ 9223372036854775807) (b0 : -9223372036854775808 ≤ b) (b9 : b ≤ 9223372036854775807) : Xb prog 98 #[.int .i64 a, .int .i64 b] [] fun v l' => v = .int .i64 (xDv a b) ∧ l' = [] := by
 intro F K hK
 simp only [List.nil_append] at hK ⊢
 unfold xDv at hK
 by_cases g1 : 9223372036854775807 < a + b
 ·rw [if_pos g1] at hK
  have hw := xKQ g1 S.o
  refine S.I fun u => ?_
  have hX := hw; repeat' (first | refine S.x ?_ | refine S.y ?_ ?_ | (refine G.prop ?_; assumption) | intro hb | ((fail_if_success refine G.tr ?_); exact G.prop S.p) | fail)
  all_goals first
   | exact Tr.fin hK ⟨rfl, rfl⟩ S.E
   | (exfalso; omega)
 ·rw [if_neg g1] at hK
  by_cases g2 : a + b < -9223372036854775808
  ·rw [if_pos g2] at hK
   have hw := xKW g2 S.o
   refine S.I fun u => ?_
   have hX := hw; repeat' (first | refine S.x ?_ | refine S.y ?_ ?_ | (refine G.prop ?_; assumption) | intro hb | ((fail_if_success refine G.tr ?_); exact G.prop S.p) | fail)
   all_goals first
    | exact Tr.fin hK ⟨rfl, rfl⟩ S.E
    | (exfalso; omega)
  ·rw [if_neg g2] at hK
   have hw := Ye (n := a + b) S.o S.o
   refine S.I fun u => ?_
   have hX := hw; repeat' (first | refine S.x ?_ | refine S.y ?_ ?_ | (refine G.prop ?_; assumption) | intro hb | ((fail_if_success refine G.tr ?_); exact G.prop S.p) | fail)
   all_goals first
    | exact Tr.fin hK ⟨rfl, rfl⟩ S.E
    | (exfalso; omega)
theorem xJY (a0 : -9223372036854775808 ≤ a) (a9 : a ≤ 9223372036854775807) (b0 : -9223372036854775808 ≤ b) (b9 : b ≤ 9223372036854775807) : Xb prog 53 #[.int .i64 a, .int .i64 b] [] fun v l' => v = .int .i64 (xDv a b) ∧ l' = [] := by
 intro F K hK
 simp only [List.nil_append] at hK ⊢
 unfold xDv at hK
 by_cases g0 : 0 < b
 ·have hw1 : IntKind.i64.wrap (9223372036854775807 - b) = 9223372036854775807 - b := Ye S.o S.o
  by_cases g1 : 9223372036854775807 < a + b
  ·rw [if_pos g1] at hK
   refine S.I fun u => ?_
   have hX := hw1; repeat' (first | refine S.x ?_ | refine S.y ?_ ?_ | (refine G.prop ?_; assumption) | intro hb | ((fail_if_success refine G.tr ?_); exact G.prop S.p) | fail)
   all_goals exact Tr.fin hK ⟨rfl, rfl⟩ S.E
  ·rw [if_neg g1, if_neg S.o] at hK
   have hw := Ye (n := a + b) S.o S.o
   refine S.I fun u => ?_
   have hX := And.intro hw1 hw; repeat' (first | refine S.x ?_ | refine S.y ?_ ?_ | (refine G.prop ?_; assumption) | intro hb | ((fail_if_success refine G.tr ?_); exact G.prop S.p) | fail)
   all_goals exact Tr.fin hK ⟨rfl, rfl⟩ S.E
 ·rw [if_neg S.o] at hK
  by_cases g3 : b < 0
  ·have hw1 : IntKind.i64.wrap (-9223372036854775808 - b) = -9223372036854775808 - b := Ye S.o S.o
   by_cases g1 : a + b < -9223372036854775808
   ·rw [if_pos g1] at hK
    refine S.I fun u => ?_
    have hX := hw1; repeat' (first | refine S.x ?_ | refine S.y ?_ ?_ | (refine G.prop ?_; assumption) | intro hb | ((fail_if_success refine G.tr ?_); exact G.prop S.p) | fail)
    all_goals exact Tr.fin hK ⟨rfl, rfl⟩ S.E
   ·rw [if_neg g1] at hK
    have hw := Ye (n := a + b) S.o S.o
    refine S.I fun u => ?_
    have hX := And.intro hw1 hw; repeat' (first | refine S.x ?_ | refine S.y ?_ ?_ | (refine G.prop ?_; assumption) | intro hb | ((fail_if_success refine G.tr ?_); exact G.prop S.p) | fail)
    all_goals exact Tr.fin hK ⟨rfl, rfl⟩ S.E
  ·rw [if_neg S.o] at hK
   have hw := Ye (n := a + b) S.o S.o
   refine S.I fun u => ?_
   have hX := hw; repeat' (first | refine S.x ?_ | refine S.y ?_ ?_ | (refine G.prop ?_; assumption) | intro hb | ((fail_if_success refine G.tr ?_); exact G.prop S.p) | fail)
   all_goals exact Tr.fin hK ⟨rfl, rfl⟩ S.E
theorem xJi (hs : shC c) (hb : xKF c.parts.d) (o0 : -9223372036854775808 ≤ one) (o9 : one ≤ 9223372036854775807) : Xb prog 51 #[.agg (En.enc c).toArray, s.v, .int .i64 one] [sl true c.parts.s.v c.parts.d, sl true s.v cr]
  fun v l' => v = .bool (xDr c.parts.d cr one) ∧ l' = [] := by
 intro F K hK
 simp only [ap]
 have hsp := hs.p
 refine S.I fun u => ?_
 by_cases hln : cr.length = c.parts.d.length
 ·repeat' (first | refine S.x ?_ | refine S.y ?_ ?_ | (refine G.prop ?_; assumption) | intro hb | ((fail_if_success refine G.tr ?_); exact G.prop S.p) | fail)
  obtain ⟨cb, rfl⟩ : ∃ cb, cb = hb := ⟨_, rfl⟩
  refine Tr.loopE (α := Nat) [6, 17] [2, 3, 15, 16] (fun k => [.bool false, .int .i64 k]) (fun _ => [cfB cb c]) (fun k => k ≤ cr.length ∧ ∀ j : Nat, j < k → ¬ (ix cr (j : Int) < 0 ∨ xDv (ix c.parts.d (j : Int)).budget one < ix cr (j : Int))) (fun k => cr.length - k) 0 S.T rfl ⟨Nat.zero_le _, fun j hj => absurd hj (Nat.not_lt_zero _)⟩ fun k u hk => ?_
  obtain ⟨hk, hm⟩ := hk
  simp only [ap]
  by_cases hin : k < cr.length
  ·have hw := Xo (k := k) S.o
   have hbk := hb.h _ (xCm (xs := c.parts.d) (k := k) S.o)
   have hsa := xKe hbk.1 hbk.2 o0 o9
   by_cases g1 : ix cr (k : Int) < 0
   ·rw [xDk hin (.inl g1)] at hK
    repeat' (first | refine S.x ?_ | refine S.y ?_ ?_ | (refine G.prop ?_; assumption) | intro hb | ((fail_if_success refine G.tr ?_); exact G.prop S.p) | fail)
    all_goals exact Tr.fin hK ⟨rfl, rfl⟩ S.E
   ·by_cases g2 : xDv (ix c.parts.d (k : Int)).budget one < ix cr (k : Int)
    ·rw [xDk hin (.inr g2)] at hK
     repeat' (first | rintro _ _ ⟨rfl, rfl⟩ | (refine G.call 98 ?_; refine S.c ?_ (h := hsa)) | refine S.x ?_ | refine S.y ?_ ?_ | (refine G.prop ?_; assumption) | intro hb | ((fail_if_success refine G.tr ?_); exact G.prop S.p) | fail)
     all_goals exact Tr.fin hK ⟨rfl, rfl⟩ S.E
    ·have hm2 := xCS (p := fun j : Nat => ¬ (ix cr (j : Int) < 0 ∨ xDv (ix c.parts.d (j : Int)).budget one < ix cr (j : Int))) hm (fun h => h.elim g1 g2)
     have hX := hw; repeat' (first | rintro _ _ ⟨rfl, rfl⟩ | (refine G.call 98 ?_; refine S.c ?_ (h := hsa)) | refine S.x ?_ | refine S.y ?_ ?_ | (refine G.prop ?_; assumption) | intro hb | ((fail_if_success refine G.tr ?_); exact G.prop S.p) | fail)
     all_goals exact S.R (k + 1)
  ·obtain rfl : k = cr.length := by omega
   rw [xGa hln hm] at hK
   repeat' (first | refine S.x ?_ | refine S.y ?_ ?_ | (refine G.prop ?_; assumption) | intro hb | ((fail_if_success refine G.tr ?_); exact G.prop S.p) | fail)
   all_goals exact Tr.fin hK ⟨rfl, rfl⟩ S.E
 ·rw [xEh hln] at hK
  repeat' (first | refine S.x ?_ | refine S.y ?_ ?_ | (refine G.prop ?_; assumption) | intro hb | ((fail_if_success refine G.tr ?_); exact G.prop S.p) | fail)
  all_goals exact Tr.fin hK ⟨rfl, rfl⟩ S.E
theorem xJG [hd : DeA u0 p] (hl : ls.length ≤ 1000000000) : Xb prog 99 #[u0] [sl true p.levels.v ls]
  fun v l' => v = .agg #[.int .i64 (xCj ls).freq, .int .i64 (xCj ls).power] ∧ l' = [] := by
 obtain rfl := hd.h
 intro F K hK
 simp only [ap]
 obtain ⟨p1, p2, p3, p4, p5, p6, p7, p8⟩ := p
 by_cases h0 : ls.length = 0
 ·rw [show xCj ls = ⟨0, 0⟩ from if_pos h0] at hK
  refine S.I fun u => ?_
  repeat' (first | refine S.x ?_ | refine S.y ?_ ?_ | (refine G.prop ?_; assumption) | intro hb | ((fail_if_success refine G.tr ?_); exact G.prop S.p) | fail)
  all_goals exact Tr.fin hK ⟨rfl, rfl⟩ S.E
 ·rw [show xCj ls = ix ls ((ls.length - 1 : Nat) : Int) from if_neg h0] at hK
  have hw : IntKind.i64.wrap ((ls.length : Int) - 1) = ((ls.length - 1 : Nat) : Int) := by rw [Ye S.o S.o]; omega
  refine S.I fun u => ?_
  have hX := hw; repeat' (first | refine S.x ?_ | refine S.y ?_ ?_ | (refine G.prop ?_; assumption) | intro hb | ((fail_if_success refine G.tr ?_); exact G.prop S.p) | fail)
  all_goals exact Tr.fin hK ⟨rfl, rfl⟩ S.E
theorem xID [hd : DeA u0 p] {n : Int} (hl : ls.length ≤ 1000000000) (ht : okT ls) (hn : n ≤ 9223372036854775807) : Xb prog 52 #[u0, .int .i64 n] [sl true p.levels.v ls]
  fun v l' => v = .tuple #[.int .i64 (xB2 ls n).1, .int .i64 (xB2 ls n).2] ∧ l' = [] := by
 have hto := xJG (u0 := u0) (p := p) hl
 obtain rfl := hd.h
 intro F K hK
 simp only [ap]
 obtain ⟨h1, h2⟩ := ht
 obtain ⟨p1, p2, p3, p4, p5, p6, p7, p8⟩ := p
 unfold xB2 at hK
 by_cases h0 : n < 0 ∨ (xCj ls).freq < 1 ∨ (xCj ls).power < 0
 ·rw [if_pos h0] at hK
  refine S.I fun u => ?_
  repeat' (first | rintro _ _ ⟨rfl, rfl⟩ | (refine G.call 99 ?_; refine S.c ?_ (h := hto)) | refine S.x ?_ | refine S.y ?_ ?_ | (refine G.prop ?_; assumption) | intro hb | ((fail_if_success refine G.tr ?_); exact G.prop S.p) | fail)
  all_goals exact Tr.fin hK ⟨rfl, rfl⟩ S.E
 ·rw [if_neg h0] at hK
  have hm := xH2 (a := 1000) (b := (xCj ls).power) (c := 1) (up := false) (by decide) h2 (by decide)
  have hq := xH2 (a := n) (b := (xBZ 1000 (xCj ls).power 1 false).1) (c := (xCj ls).freq) (up := true) hn xDB h1
  generalize xBZ 1000 (xCj ls).power 1 false = w at *
  by_cases h3 : w.2 = 0
  ·rw [if_pos h3] at hK
   generalize xBZ n w.1 (xCj ls).freq true = z at *
   refine S.I fun u => ?_
   have hX := h3; repeat' (first | rintro _ _ ⟨rfl, rfl⟩ | (refine G.call 99 ?_; refine S.c ?_ (h := hto)) | (refine G.call 100 ?_; refine S.c ?_ (h := hm)) | (refine G.call 100 ?_; refine S.c ?_ (h := hq)) | refine S.x ?_ | refine S.y ?_ ?_ | (refine G.prop ?_; assumption) | intro hb | ((fail_if_success refine G.tr ?_); exact G.prop S.p) | fail)
   all_goals exact Tr.fin hK ⟨rfl, rfl⟩ S.E
  ·rw [if_neg h3] at hK
   refine S.I fun u => ?_
   repeat' (first | rintro _ _ ⟨rfl, rfl⟩ | (refine G.call 99 ?_; refine S.c ?_ (h := hto)) | (refine G.call 100 ?_; refine S.c ?_ (h := hm)) | refine S.x ?_ | refine S.y ?_ ?_ | (refine G.prop ?_; assumption) | intro hb | ((fail_if_success refine G.tr ?_); exact G.prop S.p) | fail)
   all_goals exact Tr.fin hK ⟨rfl, rfl⟩ S.E
end
end
section
noncomputable def xDg (c : xs2) (creds : List (SL Int)) (k : Nat) : Bool := !decide ((xB2 c.levels.d c.quantum).2 = 0) || xDr c.parts.d (ix creds (k : Int)).d (xB2 c.levels.d c.quantum).1
structure xGe (c : xs2) : Prop where
 t : okT c.levels.d
 q : c.quantum ≤ 9223372036854775807
 b : xKF c.parts.d
abbrev xJL (eb cb rb ob : Nat) (c : xs2) (r : xCT) (z : Int × Int) (creds : List (SL Int)) : List Xc := [blk eb (.cells #[.int .i64 z.2] 64 (0, 0)), cfB cb c, rsB rb r, blk ob (.cells #[.int .i64 z.1] 3 (0, 0)), sl true c.parts.s.v c.parts.d, sl true r.cr.v creds, fzl creds]
attribute [local irreducible] xB2 xDr
section
variable {c : xs2} {creds : List (SL Int)} {r : xCT} {z : Int × Int}
theorem xJC {eb cb rb ob k : Nat} (hs : shC c) (hb : xKF c.parts.d) (o0 : -9223372036854775808 ≤ z.1) (o9 : z.1 ≤ 9223372036854775807) (h1 : k < creds.length) : Xb prog 50 #[.int .i64 (k : Int), .pointer (some ⟨eb, 0, none⟩), .pointer (some ⟨cb, 0, none⟩), .pointer (some ⟨rb, 0, none⟩), .pointer (some ⟨ob, 0, none⟩)]
  [xCp (xJL eb cb rb ob c r z creds)]
  fun v l' => v = .bool (!decide (z.2 = 0) || xDr c.parts.d (ix creds (k : Int)).d z.1) ∧ l' = [xCp (xJL eb cb rb ob c r z creds)] := by
 intro F K hK
 refine Tr.sepOp ?_
 simp only [ap]
 obtain ⟨z1, z2⟩ := z
 simp only at hK o0 o9 ⊢
 have hov := xJi (c := c) (s := (ix creds (k : Int)).s) (cr := (ix creds (k : Int)).d) hs hb o0 o9
 refine S.I fun u => ?_
 by_cases hz : z2 = 0
 ·subst hz
  have hX := @xKU.eq_def; repeat' (first | rintro _ _ ⟨rfl, rfl⟩ | (refine G.call 51 ?_; refine S.c ?_ (h := hov)) | refine S.x ?_ | refine S.y ?_ ?_ | (refine G.prop ?_; assumption) | intro hb | ((fail_if_success refine G.tr ?_); exact G.prop S.p) | fail)
  all_goals
   refine Tr.sepCl (Ls := xJL eb cb rb ob c r (z1, 0) creds) S.T ?_
   exact Tr.fin hK ⟨S.v, rfl⟩ (by simp only [ap, List.append_eq]; exact S.E)
 ·have hX := @xKU.eq_def; repeat' (first | rintro _ _ ⟨rfl, rfl⟩ | (refine G.call 51 ?_; refine S.c ?_ (h := hov)) | refine S.x ?_ | refine S.y ?_ ?_ | (refine G.prop ?_; assumption) | intro hb | ((fail_if_success refine G.tr ?_); exact G.prop S.p) | fail)
  all_goals
   refine Tr.sepCl (Ls := xJL eb cb rb ob c r (z1, z2) creds) S.T ?_
   exact Tr.fin hK ⟨S.v, rfl⟩ (by simp only [ap, List.append_eq]; exact S.E)
theorem xDD (hs : shC c) (ha : xGe c) (hc : creds.length ≤ 1000000000) : Xb prog 17 #[.agg (En.enc c).toArray, .agg (En.enc r).toArray]
  [sl true c.parts.s.v c.parts.d, sl true c.levels.s.v c.levels.d, sl true r.cr.v creds, fzl creds]
  fun v l' => ∃ n : Int, Fst (max creds.length creds.length) (xBX creds.length creds.length (xDg c creds)) n ∧ v = .int .i64 n ∧ l' = [] := by
 intro F K hK
 simp only [ap]
 have hpw := xFT (u0 := .agg (En.enc (xJF.mk c.levels.s c.naps.s c.sw c.idle c.change c.quantum c.slow c.ppm)).toArray) (p := ⟨c.levels.s, c.naps.s, c.sw, c.idle, c.change, c.quantum, c.slow, c.ppm⟩) (hd := ⟨rfl⟩) (ls := c.levels.d) hs.l ha.t ha.q
 have hrg := xEe (ls := c.levels.d) (n := c.quantum)
 unfold xDg at hK
 generalize xB2 c.levels.d c.quantum = z at *
 refine S.I fun u => ?_
 repeat' (first | rintro _ _ ⟨rfl, rfl⟩ | rintro _ _ ⟨rfl, rfl⟩ | (refine G.call 49 ?_; refine S.c ?_ (h := hpw)) | intro (wb : Nat) | refine S.x ?_ | refine S.y ?_ ?_ | (refine G.call 49 ?_; refine S.c ?_ (h := xFT ‹_› ‹_› ‹_›)) | (refine G.prop ?_; assumption) | intro hb | ((fail_if_success refine G.tr ?_); exact G.prop S.p) | fail)
 rename_i cb rb ob
 have hu := xCV (a := creds.length) (b := creds.length) (g := 50) (cap := [.pointer (some ⟨wb, 0, none⟩), .pointer (some ⟨cb, 0, none⟩), .pointer (some ⟨rb, 0, none⟩), .pointer (some ⟨ob, 0, none⟩)]) (p := fun k => !decide (z.2 = 0) || xDr c.parts.d (ix creds (k : Int)).d z.1) S.o S.o fun k h1 h2 => xJC (eb := wb) (cb := cb) (rb := rb) (ob := ob) (c := c) (r := r) (z := z) hs ha.b hrg.1 hrg.2 h1
 refine Tr.sepCl (Ls := xJL wb cb rb ob c r z creds) S.T ?_
 repeat' (first | (refine G.call 42 ?_; refine S.c ?_ (h := hu); rintro _ _ ⟨n, hn, rfl, rfl⟩) | refine S.x ?_ | refine S.y ?_ ?_ | (refine G.call 49 ?_; refine S.c ?_ (h := xFT ‹_› ‹_› ‹_›)) | rintro _ _ ⟨rfl, rfl⟩ | (refine G.prop ?_; assumption) | intro hb | ((fail_if_success refine G.tr ?_); exact G.prop S.p) | fail)
 all_goals exact Tr.fin hK ⟨n, hn, rfl, rfl⟩ S.E
theorem xDa (hs : shC c) (ha : xGe c) (hc : creds.length ≤ 1000000000) : Xb prog 18 #[.agg (En.enc c).toArray, .agg (En.enc r).toArray]
  [sl true c.parts.s.v c.parts.d, sl true c.levels.s.v c.levels.d, sl true r.cr.v creds, fzl creds]
  fun v l' => ∃ n : Int, Fst (max creds.length creds.length) (xBX creds.length creds.length (xDg c creds)) n ∧ v = .int .i64 n ∧ l' = [] := by
 intro F K hK
 simp only [ap]
 have hsp := hs.p
 have hpw := xID (u0 := .agg (En.enc (xJF.mk c.levels.s c.naps.s c.sw c.idle c.change c.quantum c.slow c.ppm)).toArray) (p := ⟨c.levels.s, c.naps.s, c.sw, c.idle, c.change, c.quantum, c.slow, c.ppm⟩) (hd := ⟨rfl⟩) (ls := c.levels.d) hs.l ha.t ha.q
 have hrg := xEe (ls := c.levels.d) (n := c.quantum)
 have hkp : ∀ n : Int, Fst creds.length (fun k => xDg c creds k = true) n → Tr ([] ++ F) (K (.int .i64 n)) := fun n hn => hK (.int .i64 n) [] ⟨n, by
  rcases hn with ⟨e, a⟩ | ⟨k, hk, e, b, a⟩
  ·refine .inl ⟨e, fun j hj hb => ?_⟩
   rcases hb with hb | hb | hb
   ·omega
   ·omega
   ·exact a j S.o hb
  ·refine .inr ⟨k, by omega, e, .inr (.inr b), fun j hj hb => ?_⟩
   rcases hb with hb | hb | hb
   ·omega
   ·omega
   ·exact a j hj hb, rfl, rfl⟩
 clear hK
 have hq0 : ∀ k : Nat, xDg c creds k = (!decide ((xB2 c.levels.d c.quantum).2 = 0) || xDr c.parts.d (ix creds (k : Int)).d (xB2 c.levels.d c.quantum).1) := fun k => rfl
 generalize xDg c creds = q at hkp hq0
 generalize xB2 c.levels.d c.quantum = z at *
 obtain ⟨z1, z2⟩ := z
 simp only at hrg hpw hq0
 refine S.I fun u => ?_
 have hX := @xEb.eq_def; repeat' (first | rintro _ _ ⟨rfl, rfl⟩ | (refine G.call 52 ?_; refine S.c ?_ (h := hpw)) | intro (rb : Nat) | refine S.x ?_ | refine S.y ?_ ?_ | (refine G.prop ?_; assumption) | intro hb | ((fail_if_success refine G.tr ?_); exact G.prop S.p) | fail)
 rename_i cb
 refine Tr.loopE (α := Nat) [4, 7] [2, 3, 5, 6] (fun k => [.int .i64 0, .int .i64 k]) (fun _ => [cfB cb c, rsB rb r]) (fun k => k ≤ creds.length ∧ ∀ j : Nat, j < k → ¬ q j = true) (fun k => creds.length - k) 0 S.T rfl ⟨Nat.zero_le _, fun j hj => absurd hj (Nat.not_lt_zero _)⟩ fun k u hk => ?_
 obtain ⟨hk, hm⟩ := hk
 simp only [ap]
 by_cases hin : k < creds.length
 ·have hw := Xo (k := k) S.o
  by_cases g1 : z2 = 0
  ·by_cases g2 : (ix creds (k : Int)).d.length = c.parts.d.length
   ·have hX := And.intro @xEb.eq_def hw; repeat' (first | refine S.x ?_ | refine S.y ?_ ?_ | (refine G.prop ?_; assumption) | intro hb | ((fail_if_success refine G.tr ?_); exact G.prop S.p) | fail)
    refine Tr.loopE (α := Nat) [4, 8] [2, 3, 5, 6, 7] (fun i => [.int .i64 0, .int .i64 i]) (fun _ => [cfB cb c, rsB rb r]) (fun i => i ≤ c.parts.d.length ∧ ∀ j : Nat, j < i → ¬ (ix (ix creds (k : Int)).d (j : Int) < 0 ∨ xDv (ix c.parts.d (j : Int)).budget z1 < ix (ix creds (k : Int)).d (j : Int))) (fun i => c.parts.d.length - i) 0 S.T rfl ⟨Nat.zero_le _, fun j hj => absurd hj (Nat.not_lt_zero _)⟩ fun i u hi => ?_
    obtain ⟨hi, hmi⟩ := hi
    simp only [ap]
    by_cases hii : i < c.parts.d.length
    ·have hwi := Xo (k := i) S.o
     have hbk := ha.b.h _ (xCm hii)
     have hsa := xJY hbk.1 hbk.2 hrg.1 hrg.2
     by_cases g3 : ix (ix creds (k : Int)).d (i : Int) < 0
     ·have hfi := hkp k (.inr ⟨k, hin, rfl, by show q k = true; rw [hq0, xDk (show i < (ix creds (k : Int)).d.length by omega) (.inl g3), Bool.or_true], hm⟩)
      have hX := @xEb.eq_def; repeat' (first | refine S.x ?_ | refine S.y ?_ ?_ | (refine G.prop ?_; assumption) | intro hb | ((fail_if_success refine G.tr ?_); exact G.prop S.p) | fail)
      all_goals exact Tr.ent2 S.E hfi
     ·by_cases g4 : xDv (ix c.parts.d (i : Int)).budget z1 < ix (ix creds (k : Int)).d (i : Int)
      ·have hfi := hkp k (.inr ⟨k, hin, rfl, by show q k = true; rw [hq0, xDk (show i < (ix creds (k : Int)).d.length by omega) (.inr g4), Bool.or_true], hm⟩)
       have hX := @xEb.eq_def; repeat' (first | rintro _ _ ⟨rfl, rfl⟩ | (refine G.call 53 ?_; refine S.c ?_ (h := hsa)) | refine S.x ?_ | refine S.y ?_ ?_ | (refine G.prop ?_; assumption) | intro hb | ((fail_if_success refine G.tr ?_); exact G.prop S.p) | fail)
       all_goals exact Tr.ent2 S.E hfi
      ·have hm2 := xCS (p := fun j : Nat => ¬ (ix (ix creds (k : Int)).d (j : Int) < 0 ∨ xDv (ix c.parts.d (j : Int)).budget z1 < ix (ix creds (k : Int)).d (j : Int))) hmi (fun h => h.elim g3 g4)
       have hX := And.intro @xEb.eq_def hwi; repeat' (first | rintro _ _ ⟨rfl, rfl⟩ | (refine G.call 53 ?_; refine S.c ?_ (h := hsa)) | refine S.x ?_ | refine S.y ?_ ?_ | (refine G.prop ?_; assumption) | intro hb | ((fail_if_success refine G.tr ?_); exact G.prop S.p) | fail)
       all_goals exact S.R (i + 1)
    ·obtain rfl : i = c.parts.d.length := by omega
     have hm2 := xCS (p := fun j : Nat => ¬ q j = true) hm (by rw [hq0, xGa g2 (fun j hj => hmi j S.o), decide_eq_true g1]; decide)
     clear hq0
     have hX := And.intro @xEb.eq_def hw; repeat' (first | refine S.x ?_ | refine S.y ?_ ?_ | (refine G.prop ?_; assumption) | intro hb | ((fail_if_success refine G.tr ?_); exact G.prop S.p) | fail)
     all_goals exact S.R (k + 1)
   ·have hfi := hkp k (.inr ⟨k, hin, rfl, by show q k = true; rw [hq0, xEh g2, Bool.or_true], hm⟩)
    have hX := @xEb.eq_def; repeat' (first | refine S.x ?_ | refine S.y ?_ ?_ | (refine G.prop ?_; assumption) | intro hb | ((fail_if_success refine G.tr ?_); exact G.prop S.p) | fail)
    all_goals exact Tr.ent2 S.E hfi
  ·have hfi := hkp k (.inr ⟨k, hin, rfl, by show q k = true; rw [hq0, decide_eq_false g1]; rfl, hm⟩)
   have hX := @xEb.eq_def; repeat' (first | refine S.x ?_ | refine S.y ?_ ?_ | (refine G.prop ?_; assumption) | intro hb | ((fail_if_success refine G.tr ?_); exact G.prop S.p) | fail)
   all_goals exact Tr.ent2 S.E hfi
 ·obtain rfl : k = creds.length := by omega
  have hfi := hkp (-1) (.inl ⟨rfl, hm⟩)
  have hX := @xEb.eq_def; repeat' (first | refine S.x ?_ | refine S.y ?_ ?_ | (refine G.prop ?_; assumption) | intro hb | ((fail_if_success refine G.tr ?_); exact G.prop S.p) | fail)
  all_goals exact Tr.ent2 S.E hfi
