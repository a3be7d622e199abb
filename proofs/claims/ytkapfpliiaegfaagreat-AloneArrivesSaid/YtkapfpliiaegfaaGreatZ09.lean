import Derived.Test.YtkapfpliiaegfaaGreatZ08
namespace Go.Proofs.YtkapfpliiaegfaaGreat
open Go Go.Wk Tryz
set_option maxHeartbeats 3200000
set_option maxRecDepth 100000
abbrev Msg := SL UInt8
instance xTS : ElT 48 UInt8 := ⟨⟩
structure xRY where
 ch : Int
 win : Int
 d : Msg
instance : Inhabited xRY := ⟨⟨0, 0, default⟩⟩
instance : En xRY := ⟨fun d => [.int .i64 d.ch, .int .i64 d.win, d.d.s.v], 3, fun _ => rfl, fun _ => rfl, by decide⟩
instance : Fz xRY := ⟨fun p => Fz.fz p.d, fun p => Fz.dup p.d⟩
instance : FzD xRY := ⟨fun R w => FzD.h (α := Msg) R w⟩
instance (priority := 800) xTR {l : List Xc} {a b : Int} {x : Msg} [hz : xaM l x] : xaM l (xRY.mk a b x) := ⟨hz.h⟩
instance (priority := 700) xTQ {l : List Xc} {x : xRY} [hz : xaM l x] : xaM l (xRY.d x) := ⟨hz.h⟩
def xRY.ab (m : xRY) : Int × Int × List UInt8 := (m.ch, m.win, m.d.d)
instance {l : List Xc} {a b : Int} {s : SV} {d : List UInt8} [_hs : ZV l s.v true UInt8 inferInstance d] : De l (.agg #[.int .i64 a, .int .i64 b, s.v]) (xRY.mk a b ⟨s, d⟩) := ⟨rfl⟩
instance : ElT 39 xRY := ⟨⟩
theorem xTB {chs : List xD7} : (chs.take 16).length = min chs.length 16 := by rw [List.length_take]; omega
theorem xS0 {chs : List xD7} {k : Nat} (h : k < min chs.length 16) : ix (chs.take 16) (k : Int) = ix chs (k : Int) := by unfold ix; simp only [List.getD_eq_getElem?_getD, List.getElem?_take, Int.toNat_natCast]; rw [if_pos S.o]
def xSa (chs : List xD7) (k : Int) : Prop := 0 ≤ k ∧ k < (min chs.length 16 : Nat)
instance (chs : List xD7) (k : Int) : Decidable (xSa chs k) := by unfold xSa; infer_instance
def xSo (chs : List xD7) (k : Int) : xD7 := if xSa chs k then ix chs k else default
section
attribute [local irreducible] BrK Xq Xt Xv XI FnK XZ Xw XC XV opX opK Yq Yk eqR Yj Yo Ys WL WD W X3 XO Tr drewK Ya X4 Yw Yv X1 YB mp blk rob sl sep ex fact old
theorem We {s : SV} {xs : List UInt8} (hn : xs.length ≤ 1000000000) : Xb prog 82 #[s.v] [sl true s.v xs]
  fun v l' => ∃ s' : SV, v = s'.v ∧ l' = [sl true s'.v xs] := by
 intro F K hK
 simp only [ap]
 refine S.I fun u => ?_
 repeat' (first | refine S.x ?_ | refine S.y ?_ ?_ | (refine G.prop ?_; assumption) | intro hb | ((fail_if_success refine G.tr ?_); exact G.prop S.p) | fail)
 ·refine Tr.slNil (ro := true) (xs := xs) hb fun hx => ?_
  subst hx
  refine Tr.nilSl (α := UInt8) ?_
  refine Tr.freezeAt S.K ?_
  refine Tr.fin hK ⟨⟨none, 0, 0⟩, rfl, rfl⟩ ?_
  exact S.E
 ·refine Tr.freezeAt S.K ?_
  apply Tr.fin hK ⟨_, rfl, rfl⟩
  exact S.E
theorem xSp {u0 : Value} {c : xSy} [hd : DeA u0 c] {chs : List xD7} : Xb prog 129 #[u0] [sl true c.chans.v chs]
  fun v l' => ∃ s : SV, v = s.v ∧ l' = [sl true s.v (chs.take 16)] := by
 obtain rfl := hd.h
 intro F K hK
 simp only [ap]
 obtain ⟨c1, c2, c3, c4, c5, c6, c7, c8, c9, c10, c11, c12, c13⟩ := c
 have hm : (if (16 : Int) < (chs.length : Int) then (16 : Int) else (chs.length : Int)) = ((min chs.length 16 : Nat) : Int) := by split <;> omega
 have ht : chs.take ((min chs.length 16 : Nat) : Int).toNat = chs.take 16 := by rw [Int.toNat_natCast, Nat.min_comm]; exact List.take_eq_take_min.symm
 have ht2 : chs.take (min chs.length 16) = chs.take 16 := by rw [Nat.min_comm]; exact List.take_eq_take_min.symm
 refine S.I fun u => ?_
 have hX := hm; repeat' (first | refine S.x ?_ | refine S.y ?_ ?_ | (refine G.prop ?_; assumption) | intro hb | ((fail_if_success refine G.tr ?_); exact G.prop S.p) | fail)
 all_goals
  apply Tr.fin hK ⟨_, rfl, rfl⟩
  (have hX := And.intro ht ht2; exact S.E)
theorem xR6 {u0 : Value} {c : xSy} [hd : DeA u0 c] {chs : List xD7} {k : Int} : Xb prog 81 #[u0, .int .i64 k] [sl true c.chans.v chs]
  fun v l' => v = .tuple #[.agg #[.int .i64 (xSo chs k).fp, .int .i64 (xSo chs k).fo, .int .i64 (xSo chs k).tp, .int .i64 (xSo chs k).to], .bool (decide (xSa chs k))] ∧ l' = [] := by
 obtain rfl := hd.h
 intro F K hK
 simp only [ap]
 obtain ⟨c1, c2, c3, c4, c5, c6, c7, c8, c9, c10, c11, c12, c13⟩ := c
 have h16 := xTB (chs := chs)
 refine S.I fun u => ?_
 by_cases h : xSa chs k
 ·have ⟨h0, h1⟩ := h
  have hf : xSo chs k = ix chs k := if_pos h
  have hxc : ix (chs.take 16) k = ix chs k := by have := xS0 (chs := chs) (k := k.toNat) S.o; rwa [Int.toNat_of_nonneg h0] at this
  have hX := hxc; repeat' (first | refine S.x ?_ | refine S.y ?_ ?_ | (refine G.call 129 ?_; refine S.c ?_ (h := xSp)) | rintro _ _ ⟨_, rfl, rfl⟩ | (refine G.prop ?_; assumption) | intro hb | ((fail_if_success refine G.tr ?_); exact G.prop S.p) | fail)
  all_goals
   refine Tr.fin hK ⟨(by first | (simp [*]; done) | (simp only [WKe, *]; done) | (simp only [WKe, *]; rfl)), rfl⟩ ?_
   exact S.E
 ·have hf : xSo chs k = default := if_neg h
  have hz : (default : xD7) = ⟨0, 0, 0, 0⟩ := rfl
  have h' := h
  unfold xSa at h'
  repeat' (first | refine S.x ?_ | refine S.y ?_ ?_ | (refine G.call 129 ?_; refine S.c ?_ (h := xSp)) | rintro _ _ ⟨_, rfl, rfl⟩ | (refine G.prop ?_; assumption) | intro hb | ((fail_if_success refine G.tr ?_); exact G.prop S.p) | fail)
  all_goals
   refine Tr.fin hK ⟨(by first | (simp [*]; done) | (simp only [WKe, ↓reduceIte, reduceCtorEq, Int.reduceEq, eq_self, *, hf, h, hz]; done) | (simp only [WKe, ↓reduceIte, reduceCtorEq, Int.reduceEq, *, hf, h, hz]; rfl)), rfl⟩ ?_
   exact S.E
def xR5 (chs : List xD7) (part : Int) (m : Int × Int × List UInt8) : Bool := decide (xSa chs m.1) && decide ((ix chs m.1).tp = part)
def xR4 (chs : List xD7) (part : Int) (l : List (Int × Int × List UInt8)) : List (Int × Int × List UInt8) := l.filter (xR5 chs part)
theorem xR9 {chs : List xD7} {part : Int} {l : List (Int × Int × List UInt8)} {m : Int × Int × List UInt8} : xR4 chs part (l ++ [m]) = xR4 chs part l ++ (if xR5 chs part m = true then [m] else []) := by
 unfold xR4
 rw [List.filter_append]; congr 1
 cases h : xR5 chs part m <;> simp [h]
theorem xSt {m : xRY} {v : Value} : (En.enc m).set 2 v = [.int .i64 m.ch, .int .i64 m.win, v] := rfl
theorem xSe {u0 : Value} {c : xSy} [hd : DeA u0 c] {chs : List xD7} {part : Int} {s : SV} {ms : List xRY} (hn : ms.length ≤ 10000) (hbnd : ∀ k : Nat, k < ms.length → (ix ms (k : Int)).d.d.length ≤ 1000) :
  Xb prog 34 #[u0, .int .i64 part, s.v] [sl true c.chans.v chs, sl true s.v ms, fzl ms]
  fun v l' => ∃ (s2 : SV) (m2 : List xRY), m2.map xRY.ab = xR4 chs part (ms.map xRY.ab) ∧ v = s2.v ∧ l' = [sl false s2.v m2, fzl m2] := by
 obtain rfl := hd.h
 intro F K hK
 simp only [ap]
 obtain ⟨c1, c2, c3, c4, c5, c6, c7, c8, c9, c10, c11, c12, c13⟩ := c
 refine S.I fun u => ?_
 repeat' (first | refine S.x ?_ | refine S.y ?_ ?_ | (refine G.call 81 ?_; refine S.c ?_ (h := xR6)) | (refine G.call 82 ?_; refine S.c ?_ (h := We S.o)) | rintro _ _ ⟨rfl, rfl⟩ | rintro _ _ ⟨_, rfl, rfl⟩ | (refine G.prop ?_; assumption) | intro hb | ((fail_if_success refine G.tr ?_); exact G.prop S.p) | fail)
 refine Tr.nilSl (α := xRY) ?_
 refine Tr.loopE (α := Nat × SV × List xRY) [7, 14] [1, 3, 6, 12, 13] (fun x => [x.2.1.v, .int .i64 x.1]) (fun x => [sl false x.2.1.v x.2.2, fzl x.2.2]) (fun x => x.1 ≤ ms.length ∧ x.2.2.length ≤ x.1 ∧ x.2.2.map xRY.ab = xR4 chs part ((ms.take x.1).map xRY.ab)) (fun x => ms.length - x.1) (0, ⟨none, 0, 0⟩, []) S.T rfl (by simp [xR4]) fun x u hx => ?_
 obtain ⟨k, t, m2⟩ := x
 simp only at hx ⊢
 obtain ⟨hk, hl2, hm2⟩ := hx
 have hw := Xo (k := k) S.o
 by_cases hin : k < ms.length
 ·have hbk := hbnd k hin
  have htk : (ms.take (k + 1)).map xRY.ab = (ms.take k).map xRY.ab ++ [(ix ms (k : Int)).ab] := by rw [Yz hin, List.map_append]; rfl
  by_cases hp : xSa chs (ix ms (k : Int)).ch ∧ (ix chs (ix ms (k : Int)).ch).tp = part
  ·obtain ⟨hp1, hp2⟩ := hp
   have hf : xSo chs (ix ms (k : Int)).ch = ix chs (ix ms (k : Int)).ch := if_pos hp1
   have hd1 : decide (xSa chs (ix ms (k : Int)).ch) = true := by simpa using hp1
   have hok : xR5 chs part (ix ms (k : Int)).ab = true := by simp [xR5, xRY.ab, hp1, hp2]
   have hnx : ∀ t2 : SV, (m2 ++ [(⟨(ix ms (k : Int)).ch, (ix ms (k : Int)).win, ⟨t2, (ix ms (k : Int)).d.d⟩⟩ : xRY)]).map xRY.ab = xR4 chs part ((ms.take (k + 1)).map xRY.ab) := fun t2 => by
    rw [htk, xR9, if_pos hok, List.map_append, hm2]; rfl
   have hl3 : ∀ x : xRY, (m2 ++ [x]).length ≤ k + 1 := fun x => by simp; omega
   have hX := I4 hw hf hd1 @xSt; repeat' (first | refine S.x ?_ | refine S.y ?_ ?_ | (refine G.call 81 ?_; refine S.c ?_ (h := xR6)) | (refine G.call 82 ?_; refine S.c ?_ (h := We S.o)) | rintro _ _ ⟨rfl, rfl⟩ | rintro _ _ ⟨_, rfl, rfl⟩ | (refine G.prop ?_; assumption) | intro hb | ((fail_if_success refine G.tr ?_); exact G.prop S.p) | fail)
   all_goals (apply Tr.againE ((k + 1, _, _)); (focus (simp only [WKb, ↓reduceIte, Nat.reduceEqDiff])); (focus ((try simp only [WKb, ↓reduceIte, Nat.reduceEqDiff]); (all_goals ((repeat (refine Jl (by first | rfl | (simp [*]; done)) ?_)); rfl)); done)); rotate_left 2; (focus (exact S.E)); (focus (first | omega | assumption | (simp only []; omega) | (refine ⟨by omega, by assumption⟩) | (simp only []; refine ⟨by omega, by assumption⟩) | ((try simp only []); (repeat' (first | omega | assumption | apply hnx | apply hl3 | refine And.intro ?_ ?_)); done))); (focus (first | omega | (simp only []; omega))))
  ·have hok : xR5 chs part (ix ms (k : Int)).ab = false := by
    cases h : xR5 chs part (ix ms (k : Int)).ab with
    | false => rfl
    | true => simp only [xR5, xRY.ab, Bool.and_eq_true] at h; exact absurd ⟨of_decide_eq_true h.1, of_decide_eq_true h.2⟩ hp
   have hnx : m2.map xRY.ab = xR4 chs part ((ms.take (k + 1)).map xRY.ab) := by
    rw [htk, xR9, hok, hm2]; simp
   have hlx : m2.length ≤ k + 1 := by omega
   by_cases hp1 : xSa chs (ix ms (k : Int)).ch
   ·have hp2 : ¬ (ix chs (ix ms (k : Int)).ch).tp = part := fun h => hp ⟨hp1, h⟩
    have hf : xSo chs (ix ms (k : Int)).ch = ix chs (ix ms (k : Int)).ch := if_pos hp1
    have hd1 : decide (xSa chs (ix ms (k : Int)).ch) = true := by simpa using hp1
    have hX := I4 hw hf hd1 @xSt; repeat' (first | refine S.x ?_ | refine S.y ?_ ?_ | (refine G.call 81 ?_; refine S.c ?_ (h := xR6)) | (refine G.call 82 ?_; refine S.c ?_ (h := We S.o)) | rintro _ _ ⟨rfl, rfl⟩ | rintro _ _ ⟨_, rfl, rfl⟩ | (refine G.prop ?_; assumption) | intro hb | ((fail_if_success refine G.tr ?_); exact G.prop S.p) | fail)
    all_goals (exact S.R ((k + 1, _, _)))
   ·have hd1 : decide (xSa chs (ix ms (k : Int)).ch) = false := by simpa using hp1
    have hX := I3 hw hd1 @xSt; repeat' (first | refine S.x ?_ | refine S.y ?_ ?_ | (refine G.call 81 ?_; refine S.c ?_ (h := xR6)) | (refine G.call 82 ?_; refine S.c ?_ (h := We S.o)) | rintro _ _ ⟨rfl, rfl⟩ | rintro _ _ ⟨_, rfl, rfl⟩ | (refine G.prop ?_; assumption) | intro hb | ((fail_if_success refine G.tr ?_); exact G.prop S.p) | fail)
    all_goals (exact S.R ((k + 1, _, _)))
 ·have hk' : k = ms.length := by omega
  subst hk'
  have hfin : m2.map xRY.ab = xR4 chs part (ms.map xRY.ab) := by rw [hm2, List.take_length]
  repeat' (first | refine S.x ?_ | refine S.y ?_ ?_ | (refine G.call 81 ?_; refine S.c ?_ (h := xR6)) | (refine G.call 82 ?_; refine S.c ?_ (h := We S.o)) | rintro _ _ ⟨rfl, rfl⟩ | rintro _ _ ⟨_, rfl, rfl⟩ | (refine G.prop ?_; assumption) | intro hb | ((fail_if_success refine G.tr ?_); exact G.prop S.p) | fail)
  all_goals
   apply Tr.fin hK ⟨_, _, hfin, rfl, rfl⟩
   exact S.E
theorem xR0 {u0 : Value} {c : xSy} [hd : DeA u0 c] {chs : List xD7} {part : Int} {s : SV} {ms : List xRY} (hn : ms.length ≤ 10000) :
  Xb prog 39 #[u0, .int .i64 part, s.v] [sl true c.chans.v chs, sl true s.v ms, fzl ms]
  fun v l' => ∃ (s2 : SV) (m2 : List xRY), m2.map xRY.ab = xR4 chs part (ms.map xRY.ab) ∧ v = s2.v ∧ l' = [sl false s2.v m2, fzl m2] := by
 obtain rfl := hd.h
 intro F K hK
 simp only [ap]
 obtain ⟨c1, c2, c3, c4, c5, c6, c7, c8, c9, c10, c11, c12, c13⟩ := c
 refine S.I fun u => ?_
 repeat' (first | refine S.x ?_ | refine S.y ?_ ?_ | (refine G.prop ?_; assumption) | intro hb | ((fail_if_success refine G.tr ?_); exact G.prop S.p) | fail)
 refine Tr.nilSl (α := xRY) ?_
 refine Tr.loopE (α := Nat × SV × List xRY) [7, 8] [1, 2, 3, 6] (fun x => [x.2.1.v, .int .i64 x.1]) (fun x => [sl false x.2.1.v x.2.2, fzl x.2.2]) (fun x => x.1 ≤ ms.length ∧ x.2.2.length ≤ x.1 ∧ x.2.2.map xRY.ab = xR4 chs part ((ms.take x.1).map xRY.ab)) (fun x => ms.length - x.1) (0, ⟨none, 0, 0⟩, []) S.T rfl (by simp [xR4]) fun x u hx => ?_
 obtain ⟨k, t, m2⟩ := x
 simp only at hx ⊢
 obtain ⟨hk, hl2, hm2⟩ := hx
 have hw := Xo (k := k) S.o
 by_cases hin : k < ms.length
 ·have htk : (ms.take (k + 1)).map xRY.ab = (ms.take k).map xRY.ab ++ [(ix ms (k : Int)).ab] := by rw [Yz hin, List.map_append]; rfl
  by_cases hp : xSa chs (ix ms (k : Int)).ch ∧ (ix chs (ix ms (k : Int)).ch).tp = part
  ·obtain ⟨⟨hp0, hp1⟩, hp2⟩ := hp
   have hok : xR5 chs part (ix ms (k : Int)).ab = true := by
    have hin0 : xSa chs (ix ms (k : Int)).ch := ⟨hp0, hp1⟩
    simp [xR5, xRY.ab, hin0, hp2]
   have hnx : (m2 ++ [ix ms (k : Int)]).map xRY.ab = xR4 chs part ((ms.take (k + 1)).map xRY.ab) := by
    rw [htk, xR9, if_pos hok, List.map_append, hm2]; rfl
   have hl3 : (m2 ++ [ix ms (k : Int)]).length ≤ k + 1 := by simp; omega
   have hX := And.intro hw @Nat.add_zero; repeat' (first | refine S.x ?_ | refine S.y ?_ ?_ | (refine G.prop ?_; assumption) | intro hb | ((fail_if_success refine G.tr ?_); exact G.prop S.p) | fail)
   all_goals (apply Tr.againE ((k + 1, _, _)); (focus (simp only [WKb, ↓reduceIte, Nat.reduceEqDiff])); (focus ((try simp only [WKb, ↓reduceIte, Nat.reduceEqDiff]); (all_goals ((repeat (refine Jl (by first | rfl | (simp [*]; done)) ?_)); rfl)); done)); rotate_left 2; (focus (exact S.E)); (focus (first | omega | assumption | (simp only []; omega) | (refine ⟨by omega, by assumption⟩) | (simp only []; refine ⟨by omega, by assumption⟩) | ((try simp only []); (repeat' (first | omega | assumption | apply hnx | apply hl3 | refine And.intro ?_ ?_)); done))); (focus (first | omega | (simp only []; omega))))
  ·have hok : xR5 chs part (ix ms (k : Int)).ab = false := by
    cases h : xR5 chs part (ix ms (k : Int)).ab with
    | false => rfl
    | true => simp only [xR5, xRY.ab, Bool.and_eq_true] at h; exact absurd ⟨of_decide_eq_true h.1, of_decide_eq_true h.2⟩ hp
   have hnx : m2.map xRY.ab = xR4 chs part ((ms.take (k + 1)).map xRY.ab) := by
    rw [htk, xR9, hok, hm2]; simp
   have hlx : m2.length ≤ k + 1 := by omega
   by_cases hp1 : xSa chs (ix ms (k : Int)).ch
   ·have hp2 : ¬ (ix chs (ix ms (k : Int)).ch).tp = part := fun h => hp ⟨hp1, h⟩
    obtain ⟨hp0, hp1⟩ := hp1
    have hX := And.intro hw @Nat.add_zero; repeat' (first | refine S.x ?_ | refine S.y ?_ ?_ | (refine G.prop ?_; assumption) | intro hb | ((fail_if_success refine G.tr ?_); exact G.prop S.p) | fail)
    all_goals (apply Tr.againE ((k + 1, _, _)); (focus (simp only [WKb, ↓reduceIte, Nat.reduceEqDiff])); (focus ((try simp only [WKb, ↓reduceIte, Nat.reduceEqDiff]); (all_goals ((repeat (refine Jl (by first | rfl | (simp [*]; done)) ?_)); rfl)); done)); rotate_left 2; (focus (exact S.E)); (focus (first | omega | assumption | (simp only []; omega) | (refine ⟨by omega, by assumption⟩) | (simp only []; refine ⟨by omega, by assumption⟩) | ((try simp only []); (repeat' (first | omega | assumption | apply hnx | apply hlx | refine And.intro ?_ ?_)); done))); (focus (first | omega | (simp only []; omega))))
   ·unfold xSa at hp1
    have hX := And.intro hw @Nat.add_zero; repeat' (first | refine S.x ?_ | refine S.y ?_ ?_ | (refine G.prop ?_; assumption) | intro hb | ((fail_if_success refine G.tr ?_); exact G.prop S.p) | fail)
    all_goals (apply Tr.againE ((k + 1, _, _)); (focus (simp only [WKb, ↓reduceIte, Nat.reduceEqDiff])); (focus ((try simp only [WKb, ↓reduceIte, Nat.reduceEqDiff]); (all_goals ((repeat (refine Jl (by first | rfl | (simp [*]; done)) ?_)); rfl)); done)); rotate_left 2; (focus (exact S.E)); (focus (first | omega | assumption | (simp only []; omega) | (refine ⟨by omega, by assumption⟩) | (simp only []; refine ⟨by omega, by assumption⟩) | ((try simp only []); (repeat' (first | omega | assumption | apply hnx | apply hlx | refine And.intro ?_ ?_)); done))); (focus (first | omega | (simp only []; omega))))
 ·have hk' : k = ms.length := by omega
  subst hk'
  have hfin : m2.map xRY.ab = xR4 chs part (ms.map xRY.ab) := by rw [hm2, List.take_length]
  repeat' (first | refine S.x ?_ | refine S.y ?_ ?_ | (refine G.prop ?_; assumption) | intro hb | ((fail_if_success refine G.tr ?_); exact G.prop S.p) | fail)
  all_goals
   apply Tr.fin hK ⟨_, _, hfin, rfl, rfl⟩
   exact S.E
theorem xSS {s t : SV} {xs ys : List xRY} (h : xs.map xRY.ab = ys.map xRY.ab) : Xb prog 32 #[s.v, t.v] [sl true s.v xs, fzl xs, sl true t.v ys, fzl ys] fun v l' => v = .bool true ∧ l' = [] := by
 intro F K hK
 simp only [ap]
 have hl : xs.length = ys.length := by simpa using congrArg List.length h
 refine Tr.bound (xs := xs) Has.here fun hbx => ?_
 refine S.I fun u => ?_
 have hX := @xrN.eq_def; repeat' (first | refine S.x ?_ | refine S.y ?_ ?_ | (refine G.prop ?_; assumption) | intro hb | ((fail_if_success refine G.tr ?_); exact G.prop S.p) | fail)
 refine Tr.loopE (α := Nat) [4, 5] [0, 1] (fun k => [.bool false, .int .i64 k]) (fun _ => []) (fun k => k ≤ xs.length) (fun k => xs.length - k) 0 S.T rfl S.o fun k u hk => ?_
 by_cases hin : k < xs.length
 ·have hw := Xo (k := k) S.o
  have he : (ix xs (k : Int)).ab = (ix ys (k : Int)).ab := by rw [← Xp (f := xRY.ab) S.o S.o, h, Xp (f := xRY.ab) S.o S.o]
  simp only [xRY.ab, Prod.mk.injEq] at he
  obtain ⟨e1, e2, e3⟩ := he
  have hX := I5 @xrN.eq_def hw @e1 @e2 @e3; repeat' (first | refine S.x ?_ | refine S.y ?_ ?_ | (refine G.prop ?_; assumption) | intro hb | ((fail_if_success refine G.tr ?_); exact G.prop S.p) | fail)
  all_goals (exact S.R (k + 1))
 ·have hX := @xrN.eq_def; repeat' (first | refine S.x ?_ | refine S.y ?_ ?_ | (refine G.prop ?_; assumption) | intro hb | ((fail_if_success refine G.tr ?_); exact G.prop S.p) | fail)
  all_goals
   refine Tr.fin hK ⟨rfl, rfl⟩ ?_
   exact S.E
def xDW (c : xs2) (p : xBK) : List Int := ((ix c.modes.d p.mode).wins.d.filter fun w => !isM (ix c.parts.d w.part).ladder p.level).map xDL.part
def xCx (c : xs2) (ps : List xBK) : List Int := ps.flatMap (xDW c)
def xDU (ws : List Int) (who : Int) : List Int := ws.set who.toNat (ix ws who + 1)
def xCR : List Int → List Int → List (Int × Int)
 | [], _ => []
 | who :: r, ws => (who, ix ws who) :: xCR r (xDU ws who)
def xBW : List Int → List Int → List Int
 | [], ws => ws
 | who :: r, ws => xBW r (xDU ws who)
theorem xDj {ws : List Int} {who : Int} : (xDU ws who).length = ws.length := by unfold xDU; rw [List.length_set]
theorem xDi : ∀ {l ws : List Int}, (xBW l ws).length = ws.length
 | [], _ => rfl
 | who :: r, ws => by rw [xBW, xDi, xDj]
theorem xDy : ∀ {l ws : List Int} {who : Int}, xBW (l ++ [who]) ws = xDU (xBW l ws) who
 | [], _, _ => rfl
 | x :: xs, ws, who => by rw [List.cons_append, xBW, xBW, xDy]
theorem xEd : ∀ {l ws : List Int} {who : Int}, xCR (l ++ [who]) ws = xCR l ws ++ [(who, ix (xBW l ws) who)]
 | [], _, _ => rfl
 | x :: xs, ws, who => by rw [List.cons_append, xCR, xCR, xBW, xEd, List.cons_append]
theorem xF7 : ∀ {l ws : List Int} {b : Int}, (∀ x ∈ ws, 0 ≤ x ∧ x ≤ b) → ∀ x ∈ xBW l ws, 0 ≤ x ∧ x ≤ b + l.length
 | [], ws, b, h, x, hx => by have := h x hx; simp only [List.length_nil]; omega
 | who :: r, ws, b, h, x, hx => by
  have hb : 0 ≤ ix ws who ∧ (ix ws who ≤ b ∨ ws = []) := by
   unfold ix
   rw [List.getD_eq_getElem?_getD]
   cases e : ws[who.toNat]? with
   | none =>
    refine ⟨by decide, ?_⟩
    cases ws with
    | nil => exact .inr rfl
    | cons y ys => have := h y (List.mem_cons_self ..); exact .inl (by show (0 : Int) ≤ b; omega)
   | some y => have := h y (List.mem_of_getElem? e); exact ⟨this.1, .inl this.2⟩
  have := xF7 (l := r) (ws := xDU ws who) (b := b + 1) (fun y hy => by
   unfold xDU at hy
   rcases List.mem_or_eq_of_mem_set hy with h2 | h2
   ·have := h y h2; omega
   ·rcases hb.2 with h3 | h3
    ·omega
    ·subst h3; simp at hy) x hx
  rw [List.length_cons]; omega
theorem xDw {c : xs2} {ps : List xBK} {p : xBK} : xCx c (ps ++ [p]) = xCx c ps ++ xDW c p := by unfold xCx; simp
def xCh (c : xs2) (p : xBK) (k : Nat) : List Int := (((ix c.modes.d p.mode).wins.d.take k).filter fun w => !isM (ix c.parts.d w.part).ladder p.level).map xDL.part
theorem xJJ {c : xs2} {p : xBK} : xCh c p 0 = [] := rfl
theorem xDT {c : xs2} {p : xBK} {k : Nat} (h : (ix c.modes.d p.mode).wins.d.length ≤ k) : xCh c p k = xDW c p := by unfold xCh xDW; rw [List.take_of_length_le h]
theorem xGI {c : xs2} {p : xBK} {k : Nat} (hk : k < (ix c.modes.d p.mode).wins.d.length) (h : isM (ix c.parts.d (ix (ix c.modes.d p.mode).wins.d (k : Int)).part).ladder p.level = true) : xCh c p (k + 1) = xCh c p k := by
 unfold xCh
 rw [Yz hk, List.filter_append, List.filter_cons, h]
 simp
theorem xGp {c : xs2} {p : xBK} {k : Nat} (hk : k < (ix c.modes.d p.mode).wins.d.length) (h : isM (ix c.parts.d (ix (ix c.modes.d p.mode).wins.d (k : Int)).part).ladder p.level = false) : xCh c p (k + 1) = xCh c p k ++ [(ix (ix c.modes.d p.mode).wins.d (k : Int)).part] := by
 unfold xCh
 rw [Yz hk, List.filter_append, List.filter_cons, h, List.map_append]
 simp
theorem xF5 {c : xs2} {p : xBK} {k : Nat} : (xCh c p k).length ≤ k := by
 unfold xCh
 rw [List.length_map]
 refine Nat.le_trans (List.length_filter_le _ _) ?_
 rw [List.length_take]; omega
def xDd (c : xs2) : Bool := c.modes.d.all fun m => m.wins.d.all fun w => decide (0 ≤ w.part) && decide (w.part < c.parts.d.length)
theorem xCi {c : xs2} : ∀ {fs : List xBL} {p : xBK}, ∀ x ∈ xBH c p fs, xGb c x
 | [], p, x, hx => by rw [xBH] at hx; cases hx
 | f :: fs, p, x, hx => by
  cases h : xCq c p f with
  | none => rw [xCF h] at hx; cases hx
  | some y =>
   rw [xCG h] at hx
   rcases List.mem_cons.1 hx with rfl | hx
   ·exact xD4 h
   ·exact xCi x hx
