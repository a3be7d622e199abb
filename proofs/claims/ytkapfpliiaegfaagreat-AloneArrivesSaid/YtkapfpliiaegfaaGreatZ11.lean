import Derived.Test.YtkapfpliiaegfaaGreatZ10
namespace Go.Proofs.YtkapfpliiaegfaaGreat
open Go Go.Wk Tryz
set_option maxHeartbeats 3200000
set_option maxRecDepth 100000
section
attribute [local irreducible] BrK Xq Xt Xv XI FnK XZ Xw XC XV opX opK Yq Yk eqR Yj Yo Ys WL WD W X3 XO Tr drewK Ya X4 Yw Yv X1 YB mp blk rob sl sep ex fact old
section
attribute [local irreducible] xRZ
theorem xTw {p : xCE → Bool} {g : Nat} {cap : List Value} {Z : Xc} {ro : Bool} {s : SV} {l : List xCE} [hg : xqo prog g] (hl : l.length ≤ 1000000000) (hf : ∀ x : xCE, x ∈ l → Xb prog g (.agg (En.enc x).toArray :: cap).toArray [Z] fun v l' => v = .bool (p x) ∧ l' = [Z]) :
  Xb prog 127 #[s.v, .func (.func g) #[] cap.toArray] [sl ro s.v l, Z] fun v l' => v = .int .i64 (xRZ (fun x _ => !p x) default l 0) ∧ l' = [sl ro s.v l, Z] := by
 intro F K hK
 simp only [ap]
 refine S.I fun u => ?_
 repeat' (first | refine S.x ?_ | refine S.y ?_ ?_ | (refine G.prop ?_; assumption) | intro hb | ((fail_if_success refine G.tr ?_); exact G.prop S.p) | fail)
 refine Tr.loopE (α := Nat) [4, 8] [0, 1, 7] (fun x => [.int .i64 0, .int .i64 x]) (fun x => [sl ro s.v l, Z]) (fun x => x ≤ l.length ∧ xRZ (fun x _ => !p x) default l 0 = xRZ (fun x _ => !p x) (ahd l x) (l.drop x) x) (fun x => l.length - x) 0 S.T rfl ⟨Nat.zero_le _, rfl⟩ fun k u hk => ?_
 obtain ⟨hk, hm⟩ := hk
 simp only [ap]
 by_cases hin : k < l.length
 ·have hw := Xo (k := k) S.o
  have hfk := hf (ix l (k : Int)) (xCm hin)
  rw [xSr hin] at hm
  cases ha : p (ix l (k : Int)) with
  | false =>
   rw [ha, Bool.not_false, if_pos rfl] at hm
   have hX := And.intro hw ha; repeat' (first | rintro _ _ ⟨rfl, rfl⟩ | (refine G.call g ?_; refine S.c ?_ (h := hfk)) | refine S.x ?_ | refine S.y ?_ ?_ | (refine G.prop ?_; assumption) | intro hb | ((fail_if_success refine G.tr ?_); exact G.prop S.p) | fail)
   all_goals exact S.R (k + 1)
  | true =>
   rw [ha, Bool.not_true, if_neg (by decide)] at hm
   rw [hm] at hK
   clear hm
   have hX := ha; repeat' (first | rintro _ _ ⟨rfl, rfl⟩ | (refine G.call g ?_; refine S.c ?_ (h := hfk)) | refine S.x ?_ | refine S.y ?_ ?_ | (refine G.prop ?_; assumption) | intro hb | ((fail_if_success refine G.tr ?_); exact G.prop S.p) | fail)
   all_goals exact Tr.fin hK ⟨rfl, rfl⟩ S.E
 ·have hke : k = l.length := by omega
  subst hke
  rw [List.drop_length] at hm
  rw [hm] at hK
  unfold xRZ at hK
  clear hm
  repeat' (first | refine S.x ?_ | refine S.y ?_ ?_ | (refine G.prop ?_; assumption) | intro hb | ((fail_if_success refine G.tr ?_); exact G.prop S.p) | fail)
  all_goals exact Tr.fin hK ⟨rfl, rfl⟩ S.E
theorem xTr {p : xCE → Bool} {g : Nat} {cap : List Value} {Z : Xc} {ro : Bool} {s : SV} {l : List xCE} [hg : xqo prog g] (hl : l.length ≤ 1000000000) (hf : ∀ x : xCE, x ∈ l → Xb prog g (.agg (En.enc x).toArray :: cap).toArray [Z] fun v l' => v = .bool (p x) ∧ l' = [Z]) :
  Xb prog 77 #[s.v, .func (.func g) #[] cap.toArray] [sl ro s.v l, Z] fun v l' => v = .bool (l.any p) ∧ l' = [sl ro s.v l, Z] := by
 intro F K hK
 simp only [ap]
 rw [← xSm (p := p) (a := default) (l := l) (i := 0) (Int.le_refl 0)] at hK
 have hi := xTw (ro := ro) (s := s) hl hf
 refine S.I fun u => ?_
 repeat' (first | rintro _ _ ⟨rfl, rfl⟩ | (refine G.call 127 ?_; refine S.c ?_ (h := hi)) | refine S.x ?_ | refine S.y ?_ ?_ | (refine G.prop ?_; assumption) | intro hb | ((fail_if_success refine G.tr ?_); exact G.prop S.p) | fail)
 all_goals exact Tr.fin hK ⟨rfl, rfl⟩ S.E
theorem xTt {p : xDL → Bool} {g : Nat} {cap : List Value} {Z : Xc} {ro : Bool} {s : SV} {l : List xDL} [hg : xqo prog g] (hl : l.length ≤ 1000000000) (hf : ∀ x : xDL, x ∈ l → Xb prog g (.agg (En.enc x).toArray :: cap).toArray [Z] fun v l' => v = .bool (p x) ∧ l' = [Z]) :
  Xb prog 128 #[s.v, .func (.func g) #[] cap.toArray] [sl ro s.v l, Z] fun v l' => v = .int .i64 (xRZ (fun x _ => !p x) default l 0) ∧ l' = [sl ro s.v l, Z] := by
 intro F K hK
 simp only [ap]
 refine S.I fun u => ?_
 repeat' (first | refine S.x ?_ | refine S.y ?_ ?_ | (refine G.prop ?_; assumption) | intro hb | ((fail_if_success refine G.tr ?_); exact G.prop S.p) | fail)
 refine Tr.loopE (α := Nat) [4, 8] [0, 1, 7] (fun x => [.int .i64 0, .int .i64 x]) (fun x => [sl ro s.v l, Z]) (fun x => x ≤ l.length ∧ xRZ (fun x _ => !p x) default l 0 = xRZ (fun x _ => !p x) (ahd l x) (l.drop x) x) (fun x => l.length - x) 0 S.T rfl ⟨Nat.zero_le _, rfl⟩ fun k u hk => ?_
 obtain ⟨hk, hm⟩ := hk
 simp only [ap]
 by_cases hin : k < l.length
 ·have hw := Xo (k := k) S.o
  have hfk := hf (ix l (k : Int)) (xCm hin)
  rw [xSr hin] at hm
  cases ha : p (ix l (k : Int)) with
  | false =>
   rw [ha, Bool.not_false, if_pos rfl] at hm
   have hX := And.intro hw ha; repeat' (first | rintro _ _ ⟨rfl, rfl⟩ | (refine G.call g ?_; refine S.c ?_ (h := hfk)) | refine S.x ?_ | refine S.y ?_ ?_ | (refine G.prop ?_; assumption) | intro hb | ((fail_if_success refine G.tr ?_); exact G.prop S.p) | fail)
   all_goals exact S.R (k + 1)
  | true =>
   rw [ha, Bool.not_true, if_neg (by decide)] at hm
   rw [hm] at hK
   clear hm
   have hX := ha; repeat' (first | rintro _ _ ⟨rfl, rfl⟩ | (refine G.call g ?_; refine S.c ?_ (h := hfk)) | refine S.x ?_ | refine S.y ?_ ?_ | (refine G.prop ?_; assumption) | intro hb | ((fail_if_success refine G.tr ?_); exact G.prop S.p) | fail)
   all_goals exact Tr.fin hK ⟨rfl, rfl⟩ S.E
 ·have hke : k = l.length := by omega
  subst hke
  rw [List.drop_length] at hm
  rw [hm] at hK
  unfold xRZ at hK
  clear hm
  repeat' (first | refine S.x ?_ | refine S.y ?_ ?_ | (refine G.prop ?_; assumption) | intro hb | ((fail_if_success refine G.tr ?_); exact G.prop S.p) | fail)
  all_goals exact Tr.fin hK ⟨rfl, rfl⟩ S.E
theorem xTp {p : xDL → Bool} {g : Nat} {cap : List Value} {Z : Xc} {ro : Bool} {s : SV} {l : List xDL} [hg : xqo prog g] (hl : l.length ≤ 1000000000) (hf : ∀ x : xDL, x ∈ l → Xb prog g (.agg (En.enc x).toArray :: cap).toArray [Z] fun v l' => v = .bool (p x) ∧ l' = [Z]) :
  Xb prog 79 #[s.v, .func (.func g) #[] cap.toArray] [sl ro s.v l, Z] fun v l' => v = .bool (l.any p) ∧ l' = [sl ro s.v l, Z] := by
 intro F K hK
 simp only [ap]
 rw [← xSm (p := p) (a := default) (l := l) (i := 0) (Int.le_refl 0)] at hK
 have hi := xTt (ro := ro) (s := s) hl hf
 refine S.I fun u => ?_
 repeat' (first | rintro _ _ ⟨rfl, rfl⟩ | (refine G.call 128 ?_; refine S.c ?_ (h := hi)) | refine S.x ?_ | refine S.y ?_ ?_ | (refine G.prop ?_; assumption) | intro hb | ((fail_if_success refine G.tr ?_); exact G.prop S.p) | fail)
 all_goals exact Tr.fin hK ⟨rfl, rfl⟩ S.E
def xSJ (c : xs2) (w : xDL) : Bool := decide (w.part < 0) || decide ((c.parts.d.length : Int) ≤ w.part)
theorem xTl {c : xs2} : (!(c.modes.d.any fun m => m.wins.d.any (xSJ c))) = xDd c := by
 unfold xDd
 rw [List.not_any_eq_all_not]
 congr 1
 funext m
 rw [List.not_any_eq_all_not]
 congr 1
 funext w
 unfold xSJ
 by_cases h1 : w.part < 0
 ·rw [decide_eq_true h1, decide_eq_false (show ¬ 0 ≤ w.part by omega)]; rfl
 ·rw [decide_eq_false h1, decide_eq_true (show 0 ≤ w.part by omega)]
  by_cases h2 : (c.parts.d.length : Int) ≤ w.part
  ·rw [decide_eq_true h2, decide_eq_false (show ¬ w.part < (c.parts.d.length : Int) by omega)]; rfl
  ·rw [decide_eq_false h2, decide_eq_true (show w.part < (c.parts.d.length : Int) by omega)]; rfl
abbrev xSw (cb : Nat) (c : xs2) : List Xc := [cfB cb c, sl true c.parts.s.v c.parts.d]
abbrev xSC (cb : Nat) (c : xs2) : List Xc := [cfB cb c, sl true c.parts.s.v c.parts.d, fzl c.modes.d]
section
variable {c : xs2} {cb : Nat} {w : xDL} {m : xCE} {part : Int}
theorem xTg : Xb prog 80 #[.agg (En.enc w).toArray, .pointer (some ⟨cb, 0, none⟩)] [xCp (xSw cb c)] fun v l' => v = .bool (xSJ c w) ∧ l' = [xCp (xSw cb c)] := by
 intro F K hK
 refine Tr.sepOp ?_
 simp only [ap]
 unfold xSJ at hK
 by_cases g1 : w.part < 0
 ·rw [decide_eq_true g1, Bool.true_or] at hK
  refine S.I fun u => ?_
  repeat' (first | refine S.x ?_ | refine S.y ?_ ?_ | (refine G.prop ?_; assumption) | intro hb | ((fail_if_success refine G.tr ?_); exact G.prop S.p) | fail)
  all_goals
   refine Tr.sepCl (Ls := xSw cb c) S.T ?_
   exact Tr.fin hK ⟨S.v, rfl⟩ (by simp only [ap, List.append_eq]; exact S.E)
 ·rw [decide_eq_false g1, Bool.false_or] at hK
  refine S.I fun u => ?_
  repeat' (first | refine S.x ?_ | refine S.y ?_ ?_ | (refine G.prop ?_; assumption) | intro hb | ((fail_if_success refine G.tr ?_); exact G.prop S.p) | fail)
  all_goals
   refine Tr.sepCl (Ls := xSw cb c) S.T ?_
   exact Tr.fin hK ⟨S.v, rfl⟩ (by simp only [ap, List.append_eq]; exact S.E)
theorem xTs (hm : m ∈ c.modes.d) (hl : m.wins.d.length ≤ 1000000000) : Xb prog 78 #[.agg (En.enc m).toArray, .pointer (some ⟨cb, 0, none⟩)] [xCp (xSC cb c)] fun v l' => v = .bool (m.wins.d.any (xSJ c)) ∧ l' = [xCp (xSC cb c)] := by
 intro F K hK
 refine Tr.sepOp ?_
 simp only [ap]
 obtain ⟨j, hj⟩ := List.getElem?_of_mem hm
 refine Tr.fzAt (xs := c.modes.d) (i := j) (x := m) (by (repeat (first | exact Has.here | apply Has.next)); done) hj ?_
 have hco := xTp (p := xSJ c) (g := 80) (cap := [.pointer (some ⟨cb, 0, none⟩)]) (Z := xCp (xSw cb c)) (ro := true) (s := m.wins.s) (l := m.wins.d) hl fun x _ => xTg (w := x)
 refine S.I fun u => ?_
 repeat' (first | intro (mb : Nat) | refine S.x ?_ | refine S.y ?_ ?_ | (refine G.prop ?_; assumption) | intro hb | ((fail_if_success refine G.tr ?_); exact G.prop S.p) | fail)
 refine Tr.sepCl (Ls := xSw cb c) S.T ?_
 repeat' (first | (refine G.call 79 ?_; refine S.c ?_ (h := hco); rintro _ _ ⟨rfl, rfl⟩) | refine S.x ?_ | refine S.y ?_ ?_ | (refine G.prop ?_; assumption) | intro hb | ((fail_if_success refine G.tr ?_); exact G.prop S.p) | fail)
 all_goals
  refine Tr.perm (List.Perm.swap _ _ _) ?_
  refine Tr.sepOp ?_
  simp only [ap, List.append_eq]
  refine Tr.sepCl (Ls := xSC cb c) S.T ?_
  exact Tr.fin hK ⟨rfl, rfl⟩ (by simp only [ap]; exact S.E)
theorem xt2 (hs : shC c) (hfw : xDe c) : Xb prog 33 #[.agg (En.enc c).toArray, .int .i64 part] [sl true c.parts.s.v c.parts.d, sl true c.modes.s.v c.modes.d, fzl c.modes.d]
  fun v l' => v = .bool (xDd c && (decide (0 ≤ part) && decide (part < (c.parts.d.length : Int)))) ∧ l' = [] := by
 intro F K hK
 simp only [ap]
 by_cases g1 : 0 ≤ part
 ·by_cases g2 : part < (c.parts.d.length : Int)
  ·rw [decide_eq_true g1, decide_eq_true g2, Bool.and_true, Bool.and_true, ← xTl] at hK
   refine S.I fun u => ?_
   repeat' (first | intro (cb : Nat) | refine S.x ?_ | refine S.y ?_ ?_ | (refine G.prop ?_; assumption) | intro hb | ((fail_if_success refine G.tr ?_); exact G.prop S.p) | fail)
   have hco := xTr (p := fun m => m.wins.d.any (xSJ c)) (g := 78) (cap := [.pointer (some ⟨cb, 0, none⟩)]) (Z := xCp (xSC cb c)) (ro := true) (s := c.modes.s) (l := c.modes.d) hs.m fun x hx => xTs (cb := cb) hx (Nat.le_trans (hfw.w x hx) (by decide))
   refine Tr.sepCl (Ls := xSC cb c) S.T ?_
   repeat' (first | (refine G.call 77 ?_; refine S.c ?_ (h := hco); rintro _ _ ⟨rfl, rfl⟩) | refine S.x ?_ | refine S.y ?_ ?_ | (refine G.prop ?_; assumption) | intro hb | ((fail_if_success refine G.tr ?_); exact G.prop S.p) | fail)
   all_goals exact Tr.fin hK ⟨S.v, rfl⟩ S.E
  ·rw [decide_eq_false g2, Bool.and_false, Bool.and_false] at hK
   refine S.I fun u => ?_
   repeat' (first | intro (cb : Nat) | refine S.x ?_ | refine S.y ?_ ?_ | (refine G.prop ?_; assumption) | intro hb | ((fail_if_success refine G.tr ?_); exact G.prop S.p) | fail)
   all_goals exact Tr.fin hK ⟨S.v, rfl⟩ S.E
 ·rw [decide_eq_false g1, Bool.false_and, Bool.and_false] at hK
  refine S.I fun u => ?_
  repeat' (first | intro (cb : Nat) | refine S.x ?_ | refine S.y ?_ ?_ | (refine G.prop ?_; assumption) | intro hb | ((fail_if_success refine G.tr ?_); exact G.prop S.p) | fail)
  all_goals exact Tr.fin hK ⟨S.v, rfl⟩ S.E
end
end
section
abbrev xR3 := Int × Int × List UInt8
def xSl (chs : List xD7) (who win : Int) (m : xR3) : Bool := decide (m.2.1 = win) && (decide (0 ≤ m.1 ∧ m.1 < (chs.length : Int)) && decide ((ix chs m.1).fp = who))
def xR2 (chs : List xD7) (mine : List xR3) (who win : Int) : List xR3 := mine.filter (xSl chs who win)
theorem xSf {chs : List xD7} {l : List xR3} {m : xR3} {who win : Int} : xR2 chs (l ++ [m]) who win = xR2 chs l who win ++ (if xSl chs who win m = true then [m] else []) := by
 unfold xR2
 rw [List.filter_append]; congr 1
 cases h : xSl chs who win m <;> simp [h]
theorem xSx {chs : List xD7} {l : List xR3} {who win : Int} : (xR2 chs l who win).length ≤ l.length := List.length_filter_le _ _
def xTX (x : Int × Bool) : Array Value := #[.int .i64 x.1, .bool x.2]
def xTy (c : xs2) (x : Int × Bool) : Prop := 0 ≤ x.1 ∧ x.1 < (c.parts.d.length : Int)
theorem xTj {c : xs2} {p : xBK} {j : Nat} (h : j < (ix c.modes.d p.mode).wins.d.length) : (ix (xBT c p) (j : Int)).part = (ix (ix c.modes.d p.mode).wins.d (j : Int)).part := by
 unfold xBT xCA
 rw [Xp (f := xC8 p.at_) S.o S.o]; rfl
theorem xSB {c : xs2} {p : xBK} : (xBT c p).length = (ix c.modes.d p.mode).wins.d.length := by unfold xBT xCA; rw [List.length_map]
attribute [local irreducible] xRZ
section
variable {c : xs2} {s sf : SV} {ms : List xRY} {fs : List xBL} {who win : Int} {bc bf : Nat}
theorem xTv (hn : ms.length ≤ 1000000) (_hc : c.chans.d.length ≤ 1000000000) : Xb prog 36 #[.agg (En.enc c).toArray, s.v, .int .i64 who, .int .i64 win] [sl true c.chans.s.v c.chans.d, sl true s.v ms, fzl ms]
  fun v l' => ∃ (s2 : SV) (m2 : List xRY), m2.map xRY.ab = xR2 c.chans.d (ms.map xRY.ab) who win ∧ v = s2.v ∧ l' = [sl false s2.v m2, fzl m2] := by
 intro F K hK
 simp only [ap]
 refine S.I fun u => ?_
 have hX := @xBR; repeat' (first | intro (cb : Nat) | refine S.x ?_ | refine S.y ?_ ?_ | (refine G.prop ?_; assumption) | intro hb | ((fail_if_success refine G.tr ?_); exact G.prop S.p) | fail)
 refine Tr.nilSl (α := xRY) ?_
 refine Tr.loopE (α := Nat × SV × List xRY) [9, 14] [2, 3, 4, 8, 12, 13] (fun x => [x.2.1.v, .int .i64 x.1]) (fun x => [cfB cb c, sl false x.2.1.v x.2.2, fzl x.2.2]) (fun x => x.1 ≤ ms.length ∧ x.2.2.length ≤ x.1 ∧ x.2.2.map xRY.ab = xR2 c.chans.d ((ms.take x.1).map xRY.ab) who win) (fun x => ms.length - x.1) (0, ⟨none, 0, 0⟩, []) S.T rfl ⟨Nat.zero_le _, Nat.le_refl _, rfl⟩ fun x u hx => ?_
 obtain ⟨k, t, m2⟩ := x
 simp only at hx ⊢
 obtain ⟨hk, hl2, hm2⟩ := hx
 simp only [ap]
 have hw := Xo (k := k) S.o
 by_cases hin : k < ms.length
 ·have htk : (ms.take (k + 1)).map xRY.ab = (ms.take k).map xRY.ab ++ [(ix ms (k : Int)).ab] := by rw [Yz hin, List.map_append]; rfl
  have hstep := xSf (chs := c.chans.d) (l := (ms.take k).map xRY.ab) (m := (ix ms (k : Int)).ab) (who := who) (win := win)
  rw [← htk, ← hm2] at hstep
  clear htk hm2
  have hok0 : xSl c.chans.d who win (ix ms (k : Int)).ab = (decide ((ix ms (k : Int)).win = win) && (decide (0 ≤ (ix ms (k : Int)).ch ∧ (ix ms (k : Int)).ch < (c.chans.d.length : Int)) && decide ((ix c.chans.d (ix ms (k : Int)).ch).fp = who))) := rfl
  rw [hok0] at hstep
  clear hok0
  by_cases g1 : (ix ms (k : Int)).win = win
  ·by_cases g2 : 0 ≤ (ix ms (k : Int)).ch ∧ (ix ms (k : Int)).ch < (c.chans.d.length : Int)
   ·by_cases g3 : (ix c.chans.d (ix ms (k : Int)).ch).fp = who
    ·rw [decide_eq_true g1, decide_eq_true g2, decide_eq_true g3, Bool.true_and, Bool.true_and, if_pos rfl] at hstep
     have hnx : (m2 ++ [ix ms (k : Int)]).map xRY.ab = xR2 c.chans.d ((ms.take (k + 1)).map xRY.ab) who win := by rw [hstep, List.map_append]; rfl
     have hl3 : (m2 ++ [ix ms (k : Int)]).length ≤ k + 1 := by simp; omega
     obtain ⟨g4, g5⟩ := g2
     clear hstep
     have hX := I3 @xBR hw @Nat.add_zero; repeat' (first | intro (mb : Nat) | intro (sv : SV) | refine S.x ?_ | refine S.y ?_ ?_ | (refine G.prop ?_; assumption) | intro hb | ((fail_if_success refine G.tr ?_); exact G.prop S.p) | fail)
     all_goals exact S.R ((k + 1, sv, m2 ++ [ix ms (k : Int)]) : Nat × SV × List xRY)
    ·rw [decide_eq_false g3, Bool.and_false, Bool.and_false, if_neg (by decide), List.append_nil] at hstep
     have hnx := hstep.symm
     have hl3 : m2.length ≤ k + 1 := by omega
     obtain ⟨g4, g5⟩ := g2
     clear hstep
     have hX := I3 @xBR hw @Nat.add_zero; repeat' (first | intro (mb : Nat) | refine S.x ?_ | refine S.y ?_ ?_ | (refine G.prop ?_; assumption) | intro hb | ((fail_if_success refine G.tr ?_); exact G.prop S.p) | fail)
     all_goals exact S.R ((k + 1, t, m2) : Nat × SV × List xRY)
   ·rw [decide_eq_false g2, Bool.false_and, Bool.and_false, if_neg (by decide), List.append_nil] at hstep
    have hnx := hstep.symm
    have hl3 : m2.length ≤ k + 1 := by omega
    clear hstep
    have hX := I3 @xBR hw @Nat.add_zero; repeat' (first | intro (mb : Nat) | refine S.x ?_ | refine S.y ?_ ?_ | (refine G.prop ?_; assumption) | intro hb | ((fail_if_success refine G.tr ?_); exact G.prop S.p) | fail)
    all_goals first
     | exact S.R ((k + 1, t, m2) : Nat × SV × List xRY)
     | (exfalso; exact g2 ⟨by omega, by omega⟩)
  ·rw [decide_eq_false g1, Bool.false_and, if_neg (by decide), List.append_nil] at hstep
   have hnx := hstep.symm
   have hl3 : m2.length ≤ k + 1 := by omega
   clear hstep
   have hX := I3 @xBR hw @Nat.add_zero; repeat' (first | intro (mb : Nat) | refine S.x ?_ | refine S.y ?_ ?_ | (refine G.prop ?_; assumption) | intro hb | ((fail_if_success refine G.tr ?_); exact G.prop S.p) | fail)
   all_goals exact S.R ((k + 1, t, m2) : Nat × SV × List xRY)
 ·obtain rfl : k = ms.length := by omega
  rw [List.take_length] at hm2
  have hX := @xBR; repeat' (first | refine S.x ?_ | refine S.y ?_ ?_ | (refine G.prop ?_; assumption) | intro hb | ((fail_if_success refine G.tr ?_); exact G.prop S.p) | fail)
  all_goals exact Tr.fin hK ⟨t, m2, hm2, rfl, rfl⟩ S.E
theorem xR7 : Xb prog 35 #[.agg (En.enc c).toArray, sf.v] [] fun v l' => ∃ b1 b2, v = .func (.func 83) #[] #[.pointer (some ⟨b1, 0, none⟩), .pointer (some ⟨b2, 0, none⟩)] ∧ l' = [cfB b1 c, fsB b2 sf] := by
 intro F K hK
 simp only [List.nil_append]
 refine S.I fun u => ?_
 have hX := @xBR; repeat' (first | refine S.x ?_ | refine S.y ?_ ?_ | (refine G.prop ?_; assumption) | intro hb | ((fail_if_success refine G.tr ?_); exact G.prop S.p) | fail)
 all_goals exact Tr.fin hK ⟨_, _, rfl, rfl⟩ S.E
theorem xS1 (hs : shC c) (hf : fs.length ≤ 1000000) (hfw : xDe c) (hmt : xDd c = true) : xtw prog 83 [.pointer (some ⟨bc, 0, none⟩), .pointer (some ⟨bf, 0, none⟩)] xTX (xTy c) [cfB bc c, fsB bf sf, sl true sf.v fs, sl true c.parts.s.v c.parts.d, sl true c.modes.s.v c.modes.d, fzl c.modes.d, sl true c.down.s.v c.down.d, sl true c.up.s.v c.up.d]
  (fun xs => xs.map Prod.fst = xCx c (xBH c p0 fs)) (fun _ => True) (1000 * fs.length) := by
 intro L J Jx hR F K hdone hstop
 simp only [ap] at hdone hstop ⊢
 have hp9 := xB0 (c := c) (fs := fs) (p := p0)
 have hpa := xCi (c := c) (fs := fs) (p := p0)
 have hpg := xB4 (c := c) (sf := sf) (fs := fs) hs hf
 have hwl9 := xCU hfw (ps := xBH c p0 fs) hpa
 generalize xBH c p0 fs = pg at *
 refine S.I fun u => ?_
 have hX := I3 @xBR @xSL.eq_def @xKg; repeat' (first | (refine G.call 45 ?_; refine S.c ?_ (h := hpg); rintro _ _ ⟨sp, rfl, rfl⟩) | refine S.x ?_ | refine S.y ?_ ?_ | (refine G.call 45 ?_; refine S.c ?_ (h := xB4 ‹_› S.o)) | (refine G.call 84 ?_; refine S.c ?_ (h := xCt ‹_›)) | (refine G.call 85 ?_; refine S.c ?_ (h := xCr)) | rintro _ _ ⟨rfl, rfl⟩ | rintro _ _ ⟨_, rfl, rfl⟩ | (refine G.prop ?_; assumption) | intro hb | ((fail_if_success refine G.tr ?_); exact G.prop S.p) | fail)
 refine Tr.loopE (α := Nat × Bool × List (Int × Bool)) [4, 13] [0, 1, 2, 11, 12] (fun x => [.bool x.2.1, .int .i64 x.1]) (fun x => [J x.2.2, sl false sp.v pg, cfB bc c, fsB bf sf]) (fun x => x.1 ≤ pg.length ∧ x.2.2.map Prod.fst = xCx c (pg.take x.1)) (fun x => pg.length - x.1) (0, false, []) S.T rfl ⟨Nat.zero_le _, rfl⟩ fun x u hI => ?_
 obtain ⟨k, fi, pre⟩ := x
 obtain ⟨hk, hpre⟩ := hI
 simp only at hk hpre ⊢
 simp only [ap]
 by_cases hin : k < pg.length
 ·have hw := Xo (k := k) S.o
  have hx := hpa _ (xCm hin)
  have hx1 := hx.1
  have hx2 := hx.2
  have hwl1 : (ix c.modes.d (ix pg (k : Int)).mode).wins.d.length ≤ 1000 := hfw.w _ (List.mem_of_getElem? (Yi hx1 hx2))
  have hwl2 : (ix c.modes.d (ix pg (k : Int)).mode).wins.d.length ≤ 1000000000 := by omega
  have htk : pg.take (k + 1) = pg.take k ++ [ix pg (k : Int)] := Yz hin
  have hn : xCx c (pg.take (k + 1)) = xCx c (pg.take k) ++ xDW c (ix pg (k : Int)) := by rw [htk, xDw]
  have hwk := xCU hfw (ps := pg.take k) fun q hq => hpa q (List.mem_of_mem_take hq)
  rw [List.length_take] at hwk
  have hsl2 := xSB (c := c) (p := ix pg (k : Int))
  have hsp : xCA (ix c.modes.d (ix pg (k : Int)).mode).wins.d (ix pg (k : Int)).at_ = xBT c (ix pg (k : Int)) := rfl
  have hixs : ∀ j : Nat, j < (ix c.modes.d (ix pg (k : Int)).mode).wins.d.length → (ix (xBT c (ix pg (k : Int))) (j : Int)).part = (ix (ix c.modes.d (ix pg (k : Int)).mode).wins.d (j : Int)).part := fun j hj => xTj hj
  clear htk
  generalize xCx c (pg.take k) = wl at *
  have hsc := xCt (m := ix c.modes.d (ix pg (k : Int)).mode) (t := (ix pg (k : Int)).at_) hwl2
  rw [hsp] at hsc
  clear hsp
  have hX := I3 @xBR @xSL.eq_def hw; repeat' (first | intro (pb : Nat) | (refine G.call 84 ?_; refine S.c ?_ (h := hsc); rintro _ _ ⟨ss, rfl, rfl⟩) | refine S.x ?_ | refine S.y ?_ ?_ | (refine G.call 45 ?_; refine S.c ?_ (h := xB4 ‹_› S.o)) | (refine G.call 84 ?_; refine S.c ?_ (h := xCt ‹_›)) | (refine G.call 85 ?_; refine S.c ?_ (h := xCr)) | rintro _ _ ⟨rfl, rfl⟩ | rintro _ _ ⟨_, rfl, rfl⟩ | (refine G.prop ?_; assumption) | intro hb | ((fail_if_success refine G.tr ?_); exact G.prop S.p) | fail)
  refine Tr.loopE (α := Nat × Bool × List (Int × Bool)) [4, 27] [0, 1, 2, 6, 11, 12, 13, 25, 26] (fun x => [.bool x.2.1, .int .i64 x.1]) (fun x => [J x.2.2, sl false ss.v (xBT c (ix pg (k : Int))), blk pb (.cells (En.enc (ix pg (k : Int))).toArray 113 (0, 0)), cfB bc c]) (fun x => x.1 ≤ (xBT c (ix pg (k : Int))).length ∧ x.2.2.map Prod.fst = wl ++ xCh c (ix pg (k : Int)) x.1) (fun x => (xBT c (ix pg (k : Int))).length - x.1) (0, true, pre) S.T rfl ⟨Nat.zero_le _, by rw [xJJ, List.append_nil]; exact hpre⟩ fun x u hI => ?_
  obtain ⟨j, fj, p2⟩ := x
  obtain ⟨hj, hp2⟩ := hI
  simp only at hj hp2 ⊢
  clear hpre
  simp only [ap]
  by_cases hjn : j < (xBT c (ix pg (k : Int))).length
  ·have hwj := Xo (k := j) S.o
   have hjw : j < (ix c.modes.d (ix pg (k : Int)).mode).wins.d.length := by omega
   have hpart := hixs j hjw
   have hwn := xHx hmt hx hjw
   unfold xDK at hwn
   rw [← hpart] at hwn
   obtain ⟨p1, p9⟩ := hwn
   have hlk := xF5 (c := c) (p := ix pg (k : Int)) (k := j)
   have hpl : p2.length < 1000 * fs.length := by
    have := congrArg List.length hp2
    rw [List.length_map, List.length_append] at this
    omega
   cases hI : isM (ix c.parts.d (ix (xBT c (ix pg (k : Int))) (j : Int)).part).ladder (ix pg (k : Int)).level with
   | true =>
    have hst : p2.map Prod.fst = wl ++ xCh c (ix pg (k : Int)) (j + 1) := by rw [xGI hjw (by rw [← hpart]; exact hI)]; exact hp2
    clear hp2 hpart
    have hX := I4 @xBR @xSL.eq_def hwj hI; repeat' (first | intro (sb : Nat) | refine S.x ?_ | refine S.y ?_ ?_ | (refine G.call 45 ?_; refine S.c ?_ (h := xB4 ‹_› S.o)) | (refine G.call 84 ?_; refine S.c ?_ (h := xCt ‹_›)) | (refine G.call 85 ?_; refine S.c ?_ (h := xCr)) | rintro _ _ ⟨rfl, rfl⟩ | rintro _ _ ⟨_, rfl, rfl⟩ | (refine G.prop ?_; assumption) | intro hb | ((fail_if_success refine G.tr ?_); exact G.prop S.p) | fail)
    all_goals exact S.R ((j + 1, fj, p2) : Nat × Bool × List (Int × Bool))
   | false =>
    have hst : (p2 ++ [((ix (xBT c (ix pg (k : Int))) (j : Int)).part, fj)]).map Prod.fst = wl ++ xCh c (ix pg (k : Int)) (j + 1) := by
     rw [xGp hjw (by rw [← hpart]; exact hI), ← List.append_assoc, List.map_append, hp2, ← hpart]; rfl
    have hokw : xTy c ((ix (xBT c (ix pg (k : Int))) (j : Int)).part, fj) := ⟨p1, p9⟩
    clear hp2 hpart
    have hX := I4 @xBR @xSL.eq_def hwj hI; repeat' (first | intro (sb : Nat) | (refine Tr.yield hR (((ix (xBT c (ix pg (k : Int))) (j : Int)).part, fj) : Int × Bool) rfl hpl hokw S.K ?_ ?_) | refine S.x ?_ | refine S.y ?_ ?_ | (refine G.call 45 ?_; refine S.c ?_ (h := xB4 ‹_› S.o)) | (refine G.call 84 ?_; refine S.c ?_ (h := xCt ‹_›)) | (refine G.call 85 ?_; refine S.c ?_ (h := xCr)) | rintro _ _ ⟨rfl, rfl⟩ | rintro _ _ ⟨_, rfl, rfl⟩ | (refine G.prop ?_; assumption) | intro hb | ((fail_if_success refine G.tr ?_); exact G.prop S.p) | fail)
    ·exact S.R ((j + 1, false, p2 ++ [((ix (xBT c (ix pg (k : Int))) (j : Int)).part, fj)]) : Nat × Bool × List (Int × Bool))
    ·refine Tr.ent2 ?_ (hstop _ (p2 ++ [((ix (xBT c (ix pg (k : Int))) (j : Int)).part, fj)]) trivial)
     exact S.E
  ·obtain rfl : j = (xBT c (ix pg (k : Int))).length := by omega
   have hp3 : p2.map Prod.fst = xCx c (pg.take (k + 1)) := by rw [hn, hp2, xDT S.o]
   clear hp2
   have hX := I3 @xBR @xSL.eq_def hw; repeat' (first | refine S.x ?_ | refine S.y ?_ ?_ | (refine G.call 45 ?_; refine S.c ?_ (h := xB4 ‹_› S.o)) | (refine G.call 84 ?_; refine S.c ?_ (h := xCt ‹_›)) | (refine G.call 85 ?_; refine S.c ?_ (h := xCr)) | rintro _ _ ⟨rfl, rfl⟩ | rintro _ _ ⟨_, rfl, rfl⟩ | (refine G.prop ?_; assumption) | intro hb | ((fail_if_success refine G.tr ?_); exact G.prop S.p) | fail)
   all_goals exact S.R ((k + 1, fj, p2) : Nat × Bool × List (Int × Bool))
 ·obtain rfl : k = pg.length := by omega
  rw [List.take_length] at hpre
  have hX := And.intro @xBR @xSL.eq_def; repeat' (first | refine S.x ?_ | refine S.y ?_ ?_ | (refine G.call 45 ?_; refine S.c ?_ (h := xB4 ‹_› S.o)) | (refine G.call 84 ?_; refine S.c ?_ (h := xCt ‹_›)) | (refine G.call 85 ?_; refine S.c ?_ (h := xCr)) | rintro _ _ ⟨rfl, rfl⟩ | rintro _ _ ⟨_, rfl, rfl⟩ | (refine G.prop ?_; assumption) | intro hb | ((fail_if_success refine G.tr ?_); exact G.prop S.p) | fail)
  all_goals
   refine Tr.ent2 ?_ (hdone _ _ hpre)
   exact S.E
