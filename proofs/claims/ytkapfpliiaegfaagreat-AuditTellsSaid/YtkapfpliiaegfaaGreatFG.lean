import Derived.Test.YtkapfpliiaegfaaGreatZ13
namespace Go.Proofs.YtkapfpliiaegfaaGreat
open Go Go.Wk Tryz
set_option maxHeartbeats 3200000
set_option maxRecDepth 100000
structure xJ9 where
 run : SV
 idle : Int
 sleep : Int
 change : Int
instance xLI : En xJ9 := ⟨fun d => [d.run.v, .int .i64 d.idle, .int .i64 d.sleep, .int .i64 d.change], 4, fun _ => rfl, fun _ => rfl, by decide⟩
section
attribute [local irreducible] BrK Xq Xt Xv XI FnK XZ Xw XC XV opX opK Yq Yk eqR Yj Yo Ys WL WD W X3 XO Tr drewK Ya X4 Yw Yv X1 YB mp blk rob sl sep ex fact old
section
variable {u0 : Value} {g : xJ9} {rn : List Int} {ro : Bool} {s : SV} {l : List Int} {r : xCT}
theorem xGV [hd : DeA u0 g] (hl : rn.length ≤ 1000000) : Xb prog 54 #[u0] [sl true g.run.v rn]
  fun v l' => v = .tuple #[.int .i64 (xDl ([g.idle, g.sleep, g.change] ++ rn)).1, .int .i64 (xDl ([g.idle, g.sleep, g.change] ++ rn)).2] ∧ l' = [] := by
 obtain rfl := hd.h
 intro F K hK
 simp only [ap] at hK ⊢
 obtain ⟨p1, p2, p3, p4⟩ := g
 simp only at hK ⊢
 have hs : ∀ s : SV, Xb prog 101 #[s.v] [sl false s.v (p2 :: p3 :: p4 :: rn)] _ := fun s => xJp (ro := false) (s := s) (l := p2 :: p3 :: p4 :: rn) (by simp only [List.length_cons]; omega)
 refine S.I fun u => ?_
 have hX := And.intro @List.cons_append.{0} @List.nil_append.{0}; repeat' (first | rintro _ _ ⟨rfl, rfl⟩ | rintro _ _ ⟨rfl, rfl⟩ | (refine G.call 101 ?_; refine S.c ?_ (h := hs _)) | intro (sv : SV) | refine S.x ?_ | refine S.y ?_ ?_ | (refine G.call 101 ?_; refine S.c ?_ (h := xJp ‹_›)) | (refine G.prop ?_; assumption) | intro hb | ((fail_if_success refine G.tr ?_); exact G.prop S.p) | fail)
 all_goals exact Tr.fin hK ⟨rfl, rfl⟩ S.E
theorem xHg (hl : l.length ≤ 1000000000) : Xb prog 102 #[s.v] [sl ro s.v l]
  fun v l' => v = .tuple #[.int .i64 (xDl l).1, .int .i64 (xDl l).2] ∧ l' = [sl ro s.v l] := by
 intro F K hK
 simp only [ap]
 refine S.I fun u => ?_
 repeat' (first | refine S.x ?_ | refine S.y ?_ ?_ | (refine G.prop ?_; assumption) | intro hb | ((fail_if_success refine G.tr ?_); exact G.prop S.p) | fail)
 refine Tr.loopE (α := Nat × Bool × Int) [2, 3, 4, 5, 6] [0] (fun x => [.int .i64 0, .int .i64 0, .int .i64 x.2.2, .bool x.2.1, .int .i64 x.1]) (fun _ => [sl ro s.v l])
  (fun x => x.1 ≤ l.length ∧ xGh l x.1 x.2.1 x.2.2) (fun x => l.length - x.1) (0, false, 0) S.T rfl ⟨Nat.zero_le _, fun _ h => by simp at h, rfl, Int.le_refl 0, by decide, fun _ => rfl⟩ fun x u2 hx => ?_
 obtain ⟨k, ov, n⟩ := x
 obtain ⟨hk, hnn, hov, hn0, hn1, hns⟩ := hx
 simp only at hk hnn hov hn0 hn1 hns ⊢
 simp only [ap]
 by_cases hin : k < l.length
 ·have hw := Xo (k := k) S.o
  have htk : l.take (k + 1) = l.take k ++ [ix l (k : Int)] := Yz hin
  have hmem : ix l (k : Int) ∈ l := xCm hin
  obtain ⟨x, hx⟩ : ∃ x, x = ix l (k : Int) := ⟨_, rfl⟩
  rw [← hx] at htk hmem
  have hxx := hx.symm
  clear hx
  by_cases hneg : x < 0
  ·rw [xGc hmem hneg] at hK
   have hX := hxx; repeat' (first | refine S.x ?_ | refine S.y ?_ ?_ | (refine G.prop ?_; assumption) | intro hb | ((fail_if_success refine G.tr ?_); exact G.prop S.p) | fail)
   all_goals exact Tr.fin hK ⟨rfl, rfl⟩ S.E
  ·have hws : IntKind.i64.wrap (9223372036854775807 - n) = 9223372036854775807 - n := Ye S.o S.o
   have hsm : xCK (l.take (k + 1)) = xCK (l.take k) + x := by rw [htk, xEc]
   have hnn2 : ∀ y ∈ l.take (k + 1), 0 ≤ y := fun y hy => by
    rw [htk] at hy
    rcases List.mem_append.1 hy with h | h
    ·exact hnn y h
    ·rw [List.mem_singleton.1 h]; omega
   cases ov with
   | true =>
    have hb := of_decide_eq_true hov
    have hov2 : decide (9223372036854775807 < xCK (l.take (k + 1))) = true := decide_eq_true S.o
    have hI2 : xGh l (k + 1) true n := ⟨hnn2, hov2, hn0, hn1, fun h => by cases h⟩
    clear hns hov hov2 hnn2
    have hX := And.intro hw hxx; repeat' (first | refine S.x ?_ | refine S.y ?_ ?_ | (refine G.prop ?_; assumption) | intro hb | ((fail_if_success refine G.tr ?_); exact G.prop S.p) | fail)
    all_goals
     clear htk hsm hnn
     exact S.R ((k + 1, true, n) : Nat × Bool × Int)
   | false =>
    have hb := of_decide_eq_false hov
    have hns1 := hns rfl
    clear hns
    by_cases hgt : 9223372036854775807 - n < x
    ·have hov2 : decide (9223372036854775807 < xCK (l.take (k + 1))) = true := decide_eq_true S.o
     have hI2 : xGh l (k + 1) true n := ⟨hnn2, hov2, hn0, hn1, fun h => by cases h⟩
     clear hov hov2 hnn2 hns1
     have hX := I3 hw hws hxx; repeat' (first | refine S.x ?_ | refine S.y ?_ ?_ | (refine G.prop ?_; assumption) | intro hb | ((fail_if_success refine G.tr ?_); exact G.prop S.p) | fail)
     all_goals
      clear htk hsm hnn
      exact S.R ((k + 1, true, n) : Nat × Bool × Int)
    ·have hov2 : decide (9223372036854775807 < xCK (l.take (k + 1))) = false := decide_eq_false S.o
     have hwa : IntKind.i64.wrap (n + x) = n + x := Ye S.o S.o
     have hI2 : xGh l (k + 1) false (n + x) := ⟨hnn2, hov2, by omega, by omega, fun _ => by omega⟩
     clear hov hov2 hnn2 hns1
     have hX := I4 hw hws hwa hxx; repeat' (first | refine S.x ?_ | refine S.y ?_ ?_ | (refine G.prop ?_; assumption) | intro hb | ((fail_if_success refine G.tr ?_); exact G.prop S.p) | fail)
     all_goals
      clear htk hsm hnn
      exact S.R ((k + 1, false, n + x) : Nat × Bool × Int)
 ·have hke : k = l.length := by omega
  subst hke
  rw [List.take_length] at hov hnn hns
  rw [xHU hnn] at hK
  cases ov with
  | true =>
   rw [if_pos (of_decide_eq_true hov)] at hK
   repeat' (first | refine S.x ?_ | refine S.y ?_ ?_ | (refine G.prop ?_; assumption) | intro hb | ((fail_if_success refine G.tr ?_); exact G.prop S.p) | fail)
   all_goals exact Tr.fin hK ⟨rfl, rfl⟩ S.E
  | false =>
   rw [if_neg (of_decide_eq_false hov), ← hns rfl] at hK
   repeat' (first | refine S.x ?_ | refine S.y ?_ ?_ | (refine G.prop ?_; assumption) | intro hb | ((fail_if_success refine G.tr ?_); exact G.prop S.p) | fail)
   all_goals exact Tr.fin hK ⟨rfl, rfl⟩ S.E
theorem xIC [hd : DeA u0 g] (hl : rn.length ≤ 1000000) : Xb prog 55 #[u0] [sl true g.run.v rn]
  fun v l' => v = .tuple #[.int .i64 (xDl ([g.idle, g.sleep, g.change] ++ rn)).1, .int .i64 (xDl ([g.idle, g.sleep, g.change] ++ rn)).2] ∧ l' = [] := by
 obtain rfl := hd.h
 intro F K hK
 simp only [ap] at hK ⊢
 obtain ⟨p1, p2, p3, p4⟩ := g
 simp only at hK ⊢
 have hs : ∀ s : SV, Xb prog 102 #[s.v] [sl false s.v (p2 :: p3 :: p4 :: rn)] _ := fun s => xHg (ro := false) (s := s) (l := p2 :: p3 :: p4 :: rn) (by simp only [List.length_cons]; omega)
 refine S.I fun u => ?_
 have hX := And.intro @List.cons_append.{0} @List.nil_append.{0}; repeat' (first | rintro _ _ ⟨rfl, rfl⟩ | rintro _ _ ⟨rfl, rfl⟩ | (refine G.call 102 ?_; refine S.c ?_ (h := hs _)) | intro (sv : SV) | refine S.x ?_ | refine S.y ?_ ?_ | (refine G.call 102 ?_; refine S.c ?_ (h := xHg ‹_›)) | (refine G.prop ?_; assumption) | intro hb | ((fail_if_success refine G.tr ?_); exact G.prop S.p) | fail)
 all_goals exact Tr.fin hK ⟨rfl, rfl⟩ S.E
def xC0 (r : xCT) (rn : List Int) : Bool := decide ((xDl ([r.idle, r.sleep, r.change] ++ rn)).2 = 0) && decide ((xDl ([r.idle, r.sleep, r.change] ++ rn)).1 = r.meter)
theorem xGg (hl : rn.length ≤ 1000000) : Xb prog 19 #[.agg (En.enc r).toArray] [sl true r.rn.v rn] fun v l' => v = .bool (xC0 r rn) ∧ l' = [] := by
 intro F K hK
 simp only [ap] at hK ⊢
 have hs := xGV (u0 := .agg (En.enc (xJ9.mk r.rn r.idle r.sleep r.change)).toArray) (g := ⟨r.rn, r.idle, r.sleep, r.change⟩) (hd := ⟨rfl⟩) hl
 unfold xC0 at hK
 simp only at hs
 generalize xDl ([r.idle, r.sleep, r.change] ++ rn) = z at *
 refine S.I fun u => ?_
 repeat' (first | rintro _ _ ⟨rfl, rfl⟩ | rintro _ _ ⟨rfl, rfl⟩ | (refine G.call 54 ?_; refine S.c ?_ (h := hs)) | refine S.x ?_ | refine S.y ?_ ?_ | (refine G.call 54 ?_; refine S.c ?_ (h := xGV ‹_›)) | (refine G.prop ?_; assumption) | intro hb | ((fail_if_success refine G.tr ?_); exact G.prop S.p) | fail)
 all_goals exact Tr.fin hK ⟨S.v, rfl⟩ S.E
theorem xD9 (hl : rn.length ≤ 1000000) : Xb prog 20 #[.agg (En.enc r).toArray] [sl true r.rn.v rn] fun v l' => v = .bool (xC0 r rn) ∧ l' = [] := by
 intro F K hK
 simp only [ap] at hK ⊢
 have hs := xIC (u0 := .agg (En.enc (xJ9.mk r.rn r.idle r.sleep r.change)).toArray) (g := ⟨r.rn, r.idle, r.sleep, r.change⟩) (hd := ⟨rfl⟩) hl
 unfold xC0 at hK
 simp only at hs
 generalize xDl ([r.idle, r.sleep, r.change] ++ rn) = z at *
 refine S.I fun u => ?_
 repeat' (first | rintro _ _ ⟨rfl, rfl⟩ | (refine G.call 55 ?_; refine S.c ?_ (h := hs)) | refine S.x ?_ | refine S.y ?_ ?_ | (refine G.prop ?_; assumption) | intro hb | ((fail_if_success refine G.tr ?_); exact G.prop S.p) | fail)
 all_goals exact Tr.fin hK ⟨S.v, rfl⟩ S.E
