import Derived.Test.YtkapfpliiaegfaaGreatZ10
namespace Go.Proofs.YtkapfpliiaegfaaGreat
open Go Go.Wk Tryz
set_option maxHeartbeats 3200000
set_option maxRecDepth 100000
theorem xB0 {c : xs2} : ∀ {fs : List xBL} {p : xBK}, (xBH c p fs).length ≤ fs.length
 | [], p => by rw [xBH]; exact Nat.le_refl _
 | f :: fs, p => by
  cases h : xCq c p f with
  | none => rw [xCF h]; exact Nat.zero_le _
  | some x => rw [xCG h, List.length_cons, List.length_cons]; exact Nat.succ_le_succ xB0
noncomputable def xK0 : Code := match Tryz.f45.body with
 | some c => c
 | none => .skip
theorem xIz : Tryz.f45.body = some xK0 := by kernel_rfl
def plN : Nat → Xj := fun _ => .fin
theorem xJV : xaP Tryz.f45.ntmps plN xK0 = true := by kernel_rfl
def iL {α : Type} [En α] (T : Nat) (b : Nat) (xs : List α) : Xc := ex fun s : SV => sep (blk b (.cells #[s.v] T (0, 0))) (sl false s.v xs)
theorem xHe {α : Type} [En α] {T b : Nat} {xs : List α} {s : SV} {l l1 l2 : List Xc} {X : WP} (h1 : Xm l (blk b (.cells #[s.v] T (0, 0))) l1) (h2 : Xm l1 (sl false s.v xs) l2) (h : Tr (iL T b xs :: l2) X) : Tr l X :=
 Tr.ent2 (Xd.ex s (Xd.sep (Xd.take h1 (Xd.take h2 Xd.done)))) h
theorem xDO {α : Type} [En α] {T b : Nat} {xs : List α} {l : List Xc} {X : WP} (h : ∀ s : SV, Tr (blk b (.cells #[s.v] T (0, 0)) :: sl false s.v xs :: l) X) : Tr (iL T b xs :: l) X :=
 Tr.ex_iff.2 fun s => Tr.sep_iff.2 (h s)
def noA {α : Type} : List α → Xc := fun _ => fact False
theorem xF8 {α : Type} {xs : List α} {l : List Xc} {X : WP} : Tr (noA xs :: l) X := Tr.fact_iff.2 fun h => h.elim
section
attribute [local irreducible] BrK Xq Xt Xv XI FnK XZ Xw XC XV opX opK Yq Yk eqR Yj Yo Ys WL WD W X3 XO Tr drewK Ya X4 Yw Yv X1 YB mp blk rob sl sep ex fact old
section
attribute [local irreducible] xB2 WM xgA
section
variable {c : xs2} {sf : SV} {fs : List xBL} {b1 b2 : Nat}
theorem xB4 (hs : shC c) (hf : fs.length ≤ 1000000) : Xb prog 45 #[.agg (En.enc c).toArray, sf.v] [sl true sf.v fs, sl true c.modes.s.v c.modes.d, sl true c.down.s.v c.down.d, sl true c.up.s.v c.up.d]
  fun v l' => ∃ s : SV, v = s.v ∧ l' = [sl false s.v (xBH c p0 fs)] := by
 intro F K hK
 simp only [ap]
 refine Tr.enterM (T := plN) (rs := [.tmp 4]) mixed Tryz.func45 xIz xJV rfl (by simp) fun u => ?_
 simp only [xK0, Tryz.f45]
 have hX := I6 @xBR @xj0 @xeO @xqD @xck @xjX; repeat' (first | intro (ob : Nat) | refine S.x ?_ | refine S.y ?_ ?_ | (refine G.call 93 ?_; refine S.c ?_ (h := xCf)) | rintro _ _ ⟨_, _, rfl, rfl⟩ | (refine G.prop ?_; assumption) | intro hb | ((fail_if_success refine G.tr ?_); exact G.prop S.p) | fail)
 rename_i w1 w2
 refine Tr.nilSl (α := xBK) ?_
 refine xHe (α := xBK) (xs := []) (b := ob) (s := ⟨none, 0, 0⟩) S.K S.K ?_
 refine Tr.rangeA (T := plN) (I := iL 110 ob) (Ix := noA) mixed (xD6 (b1 := w1) (b2 := w2) (sf := sf) (fs := fs) hs S.o) rfl (by kernel_rfl) S.T (fun x => rfl) (by decide) (by kernel_rfl) (by kernel_rfl) (by kernel_rfl) (by kernel_rfl) ?hbody ?hdone ?hstop
 case hbody =>
  intro pre x Gl Gm B R hN hx hB h1 h2
  have hpl := xB0 (c := c) (fs := fs) (p := p0)
  refine xDO fun s => ?_
  show Tr _ (W _ _ _ _ (upd _ 10 (.agg (En.enc x).toArray)))
  have hX := @xBR; repeat' (first | intro (xb : Nat) | refine S.x ?_ | refine S.y ?_ ?_ | (refine G.call 93 ?_; refine S.c ?_ (h := xCf)) | rintro _ _ ⟨_, _, rfl, rfl⟩ | (refine G.prop ?_; assumption) | intro hb | ((fail_if_success refine G.tr ?_); exact G.prop S.p) | fail)
  refine hB [_, _, _] _ ?_
  simp only [ap]
  have hX := @xBR; repeat' (first | intro (sv : SV) | refine S.x ?_ | refine S.y ?_ ?_ | (refine G.call 93 ?_; refine S.c ?_ (h := xCf)) | rintro _ _ ⟨_, _, rfl, rfl⟩ | (refine G.prop ?_; assumption) | intro hb | ((fail_if_success refine G.tr ?_); exact G.prop S.p) | fail)
  all_goals
   refine xHe (b := ob) (xs := pre ++ [x]) (s := sv) S.K S.K ?_
   refine Tr.ent2 ?_ (h1 _)
   exact S.E
 case hdone =>
  intro D xs hS
  subst hS
  refine xDO fun s => ?_
  have hX := I8 @xBR @xj0 @xeO @xqD @xck @xjX @xuW @xvk; repeat' (first | refine S.x ?_ | refine S.y ?_ ?_ | (refine G.call 93 ?_; refine S.c ?_ (h := xCf)) | rintro _ _ ⟨_, _, rfl, rfl⟩ | (refine G.prop ?_; assumption) | intro hb | ((fail_if_success refine G.tr ?_); exact G.prop S.p) | fail)
  all_goals
   refine Tr.mark S.K ?_
   rw [xkr]
   exact Tr.fin hK ⟨s, rfl, rfl⟩ S.E
 case hstop =>
  intro D pre hS
  exact xF8
end
end
end
def xLX (x : xCk) : Array Value := #[.agg (En.enc x).toArray]
def xBT (c : xs2) (p : xBK) : List xCk := xCA (ix c.modes.d p.mode).wins.d p.at_
def xBY (c : xs2) (ps : List xBK) : List xCk := ps.flatMap (xBT c)
structure xDe (c : xs2) : Prop where
 w : ∀ m ∈ c.modes.d, m.wins.d.length ≤ 1000
theorem xD0 {c : xs2} (hw : xDe c) {p : xBK} (hp : xGb c p) : (xBT c p).length ≤ 1000 := by
 unfold xBT xCA
 rw [List.length_map]
 exact hw.w _ (List.mem_of_getElem? (Yi hp.1 hp.2))
theorem xC5 {c : xs2} {ps : List xBK} {p : xBK} : xBY c (ps ++ [p]) = xBY c ps ++ xBT c p := by unfold xBY; simp
noncomputable def xKJ : Code := match Tryz.f140.body with
 | some c => c
 | none => .skip
theorem xIP : Tryz.f140.body = some xKJ := by kernel_rfl
noncomputable def plS : Nat → Xj
 | 3 => .r 0 8 (.r 10 1 (.e 8 [] (.r 9 1 .fin)))
 | _ => .fin
theorem peS : type_of% (@plS.eq_def) := @plS.eq_def
theorem xKp : xaP Tryz.f140.ntmps plS xKJ = true := by kernel_rfl
abbrev yB (b L : Nat) : Xc := blk b (.cells #[.func (.yield L) #[] #[]] 257 (0, 0))
def iS (J : List xCk → Xc) (bc yb L : Nat) (c : xs2) (pre : List xBK) : Xc := sep (fact ((xBY c pre).length ≤ 1000 * pre.length)) (xCp [J (xBY c pre), cfB bc c, yB yb L, sl true c.modes.s.v c.modes.d, fzl c.modes.d])
def iQ (Jx : List xCk → Xc) (bc yb L : Nat) (c : xs2) (_ : List xBK) : Xc := ex fun q : List xCk => xCp [Jx q, cfB bc c, yB yb L, sl true c.modes.s.v c.modes.d, fzl c.modes.d]
theorem xKs {J : List xCk → Xc} {bc yb L : Nat} {c : xs2} {pre : List xBK} {l F : List Xc} {X : WP} (h0 : (xBY c pre).length ≤ 1000 * pre.length) (ht : YK l [J (xBY c pre), cfB bc c, yB yb L, sl true c.modes.s.v c.modes.d, fzl c.modes.d] F) (h : Tr (iS J bc yb L c pre :: F) X) : Tr l X :=
 Tr.imp (Imp.trans ht (Imp.trans Imp.sepC (Imp.trans (Imp.factI h0) Imp.sepI))) h
theorem xLy {Jx : List xCk → Xc} {bc yb L : Nat} {c : xs2} {pre : List xBK} (q : List xCk) {l F : List Xc} {X : WP} (ht : YK l [Jx q, cfB bc c, yB yb L, sl true c.modes.s.v c.modes.d, fzl c.modes.d] F) (h : Tr (iQ Jx bc yb L c pre :: F) X) : Tr l X :=
 Tr.imp (Imp.trans ht (Imp.trans Imp.sepC (Imp.exI (f := fun q : List xCk => xCp [Jx q, cfB bc c, yB yb L, sl true c.modes.s.v c.modes.d, fzl c.modes.d]) q))) h
theorem xH1 {J : List xCk → Xc} {bc yb L : Nat} {c : xs2} {pre : List xBK} {l : List Xc} {X : WP} (h : (xBY c pre).length ≤ 1000 * pre.length → Tr (J (xBY c pre) :: cfB bc c :: yB yb L :: sl true c.modes.s.v c.modes.d :: fzl c.modes.d :: l) X) : Tr (iS J bc yb L c pre :: l) X :=
 Tr.sep_iff.2 (Tr.fact_iff.2 fun h0 => Tr.imp Imp.sepO (h h0))
theorem xKn {Jx : List xCk → Xc} {bc yb L : Nat} {c : xs2} {pre : List xBK} {l : List Xc} {X : WP} (h : ∀ q, Tr (Jx q :: cfB bc c :: yB yb L :: sl true c.modes.s.v c.modes.d :: fzl c.modes.d :: l) X) : Tr (iQ Jx bc yb L c pre :: l) X :=
 Tr.ex_iff.2 fun q => Tr.imp Imp.sepO (h q)
section
attribute [local irreducible] BrK Xq Xt Xv XI FnK XZ Xw XC XV opX opK Yq Yk eqR Yj Yo Ys WL WD W X3 XO Tr drewK Ya X4 Yw Yv X1 YB mp blk rob sl sep ex fact old
section
attribute [local irreducible] xB2 WM xgA
section
variable {c : xs2} {sf : SV} {fs : List xBL} {bc bf : Nat}
theorem xCY : Xb prog 92 #[.agg (En.enc c).toArray, sf.v] [] fun v l' => ∃ b1 b2, v = .func (.func 140) #[] #[.pointer (some ⟨b1, 0, none⟩), .pointer (some ⟨b2, 0, none⟩)] ∧ l' = [cfB b1 c, fsB b2 sf] := by
 intro F K hK
 simp only [List.nil_append]
 refine S.I fun u => ?_
 have hX := @xBR; repeat' (first | refine S.x ?_ | refine S.y ?_ ?_ | (refine G.prop ?_; assumption) | intro hb | ((fail_if_success refine G.tr ?_); exact G.prop S.p) | fail)
 all_goals exact Tr.fin hK ⟨_, _, rfl, rfl⟩ S.E
theorem xGD (hs : shC c) (hf : fs.length ≤ 1000000) (hfw : xDe c) : xtw prog 140 [.pointer (some ⟨bc, 0, none⟩), .pointer (some ⟨bf, 0, none⟩)] xLX (fun _ => True) [cfB bc c, fsB bf sf, sl true sf.v fs, sl true c.modes.s.v c.modes.d, fzl c.modes.d, sl true c.down.s.v c.down.d, sl true c.up.s.v c.up.d]
  (fun xs => xs = xBY c (xBH c p0 fs)) (fun _ => True) (1000 * fs.length) := by
 intro L J Jx hR F K hdone hstop
 simp only [ap] at hdone hstop ⊢
 refine Tr.enterM (T := plS) (rs := []) mixed Tryz.func140 xIP xKp rfl (by simp) fun u => ?_
 simp only [xKJ, Tryz.f140]
 have hX := I6 @xBR @xj0 @xeO @xqD @xck @xjX; repeat' (first | intro (yb : Nat) | refine S.x ?_ | refine S.y ?_ ?_ | (refine G.call 93 ?_; refine S.c ?_ (h := xCf)) | (refine G.call 84 ?_; refine S.c ?_ (h := xCt ‹_›)) | rintro _ _ ⟨_, rfl, rfl⟩ | rintro _ _ ⟨_, _, rfl, rfl⟩ | (refine G.prop ?_; assumption) | intro hb | ((fail_if_success refine G.tr ?_); exact G.prop S.p) | fail)
 rename_i w1 w2
 refine xKs (J := J) (pre := []) (bc := bc) (yb := yb) (c := c) (L := L) (Nat.zero_le _) S.T ?_
 refine Tr.rangeA (T := plS) (I := iS J bc yb L c) (Ix := iQ Jx bc yb L c) mixed (xD6 (b1 := w1) (b2 := w2) (sf := sf) (fs := fs) hs S.o) rfl (by kernel_rfl) S.T (fun x => rfl) (by decide) (by kernel_rfl) (by kernel_rfl) (by kernel_rfl) (by kernel_rfl) ?hbody ?hdone ?hstop
 case hbody =>
  intro pre x Gl Gm B R hN hx hB h1 h2
  have hpl := xB0 (c := c) (fs := fs) (p := p0)
  have hx1 := hx.1
  have hx2 := hx.2
  have hsl := xD0 hfw hx
  have hwl : (ix c.modes.d x.mode).wins.d.length ≤ 1000000000 := Nat.le_trans (hfw.w _ (List.mem_of_getElem? (Yi hx1 hx2))) (by decide)
  refine xH1 fun hln => ?_
  show Tr _ (W _ _ _ _ (upd _ 10 (.agg (En.enc x).toArray)))
  have hX := @xBR; repeat' (first | intro (xb : Nat) | refine S.x ?_ | refine S.y ?_ ?_ | (refine G.call 93 ?_; refine S.c ?_ (h := xCf)) | (refine G.call 84 ?_; refine S.c ?_ (h := xCt ‹_›)) | rintro _ _ ⟨_, rfl, rfl⟩ | rintro _ _ ⟨_, _, rfl, rfl⟩ | (refine G.prop ?_; assumption) | intro hb | ((fail_if_success refine G.tr ?_); exact G.prop S.p) | fail)
  refine hB [_, _, _, _, _, _] _ ?_
  simp only [ap]
  have hsp : xCA (ix c.modes.d x.mode).wins.d x.at_ = xBT c x := rfl
  have hX := I3 @xBR @peS hsp; repeat' (first | refine S.x ?_ | refine S.y ?_ ?_ | (refine G.call 93 ?_; refine S.c ?_ (h := xCf)) | (refine G.call 84 ?_; refine S.c ?_ (h := xCt ‹_›)) | rintro _ _ ⟨_, rfl, rfl⟩ | rintro _ _ ⟨_, _, rfl, rfl⟩ | (refine G.prop ?_; assumption) | intro hb | ((fail_if_success refine G.tr ?_); exact G.prop S.p) | fail)
  rename_i s2
  rw [show xBY c pre = xBY c pre ++ (xBT c x).take 0 by rw [List.take_zero, List.append_nil]]
  refine Tr.loopE (α := Nat) [21] [3, 19, 20] (fun k => [.int .i64 k]) (fun k => [J (xBY c pre ++ (xBT c x).take k), sl false s2.v (xBT c x), yB yb L]) (fun k => k ≤ (xBT c x).length) (fun k => (xBT c x).length - k) 0 S.T rfl (Nat.zero_le _) fun k u hk => ?_
  simp only [ap]
  by_cases hin : k < (xBT c x).length
  ·have hw := Xo (k := k) S.o
   have hN2 : (xBY c pre ++ (xBT c x).take k).length < 1000 * fs.length := by rw [List.length_append, List.length_take]; omega
   have hst : xBY c pre ++ (xBT c x).take k ++ [ix (xBT c x) (k : Int)] = xBY c pre ++ (xBT c x).take (k + 1) := by rw [List.append_assoc, Yz hin]
   have hX := I3 @xBR hw hst; repeat' (first | (refine Tr.yield hR _ rfl ‹_› trivial S.K ?_ ?_) | refine S.x ?_ | refine S.y ?_ ?_ | (refine G.call 93 ?_; refine S.c ?_ (h := xCf)) | (refine G.call 84 ?_; refine S.c ?_ (h := xCt ‹_›)) | rintro _ _ ⟨_, rfl, rfl⟩ | rintro _ _ ⟨_, _, rfl, rfl⟩ | (refine G.prop ?_; assumption) | intro hb | ((fail_if_success refine G.tr ?_); exact G.prop S.p) | fail)
   ·exact S.R (k + 1)
   ·refine xLy (Jx := Jx) (bc := bc) (yb := yb) (L := L) (c := c) (pre := pre ++ [x]) (xBY c pre ++ (xBT c x).take (k + 1)) S.T ?_
    refine Tr.ent2 ?_ (h2 _)
    exact S.E
  ·have hke : k = (xBT c x).length := by omega
   subst hke
   rw [List.take_length, ← xC5]
   have hX := @xBR; repeat' (first | refine S.x ?_ | refine S.y ?_ ?_ | (refine G.call 93 ?_; refine S.c ?_ (h := xCf)) | (refine G.call 84 ?_; refine S.c ?_ (h := xCt ‹_›)) | rintro _ _ ⟨_, rfl, rfl⟩ | rintro _ _ ⟨_, _, rfl, rfl⟩ | (refine G.prop ?_; assumption) | intro hb | ((fail_if_success refine G.tr ?_); exact G.prop S.p) | fail)
   all_goals
    refine xKs (J := J) (bc := bc) (yb := yb) (L := L) (c := c) (pre := pre ++ [x]) (by rw [xC5, List.length_append, List.length_append, List.length_singleton]; omega) S.T ?_
    refine Tr.ent2 ?_ (h1 _)
    exact S.E
 case hdone =>
  intro D xs hS
  subst hS
  refine xH1 fun _ => ?_
  have hX := I8 @xBR @xj0 @xeO @xqD @xck @xjX @xuW @xvk; repeat' (first | refine S.x ?_ | refine S.y ?_ ?_ | (refine G.call 93 ?_; refine S.c ?_ (h := xCf)) | (refine G.call 84 ?_; refine S.c ?_ (h := xCt ‹_›)) | rintro _ _ ⟨_, rfl, rfl⟩ | rintro _ _ ⟨_, _, rfl, rfl⟩ | (refine G.prop ?_; assumption) | intro hb | ((fail_if_success refine G.tr ?_); exact G.prop S.p) | fail)
  all_goals
   refine Tr.mark S.K ?_
   rw [xkr]
   refine Tr.ent2 ?_ (hdone _ _ rfl)
   exact S.E
 case hstop =>
  intro D pre hS
  refine xKn fun q => ?_
  have hX := I8 @xBR @xj0 @xeO @xqD @xck @xjX @xuW @xvk; repeat' (first | refine S.x ?_ | refine S.y ?_ ?_ | (refine G.call 93 ?_; refine S.c ?_ (h := xCf)) | (refine G.call 84 ?_; refine S.c ?_ (h := xCt ‹_›)) | rintro _ _ ⟨_, rfl, rfl⟩ | rintro _ _ ⟨_, _, rfl, rfl⟩ | (refine G.prop ?_; assumption) | intro hb | ((fail_if_success refine G.tr ?_); exact G.prop S.p) | fail)
  all_goals
   refine Tr.mark S.K ?_
   rw [xkr]
   refine Tr.ent2 ?_ (hstop _ q trivial)
   exact S.E
end
end
end
structure xB8 where
 due : Int
 at_ : Int
 part : Int
instance : Inhabited xB8 := ⟨⟨0, 0, 0⟩⟩
instance : En xB8 := ⟨fun d => [.int .i64 d.due, .int .i64 d.at_, .int .i64 d.part], 3, fun _ => rfl, fun _ => rfl, by decide⟩
instance {l : List Xc} {a b c : Int} : De l (.agg #[.int .i64 a, .int .i64 b, .int .i64 c]) (xB8.mk a b c) := ⟨rfl⟩
instance xKX : ElT 40 xB8 := ⟨⟩
def xCl (ss : List xCk) : List xB8 := ss.flatMap fun s => [⟨s.frm, s.frm, s.part⟩, ⟨s.to, s.to, -1⟩]
theorem xDm {ss : List xCk} {s : xCk} : xCl (ss ++ [s]) = xCl ss ++ [⟨s.frm, s.frm, s.part⟩, ⟨s.to, s.to, -1⟩] := by unfold xCl; simp
theorem xCy : ∀ {ss : List xCk}, (xCl ss).length = 2 * ss.length
 | [] => rfl
 | s :: ss => by
  have := xCy (ss := ss)
  unfold xCl at this ⊢
  rw [List.flatMap_cons, List.length_append, this, List.length_cons]
  simp only [List.length_cons, List.length_nil]
  omega
noncomputable def xKE : Code := match Tryz.f41.body with
 | some c => c
 | none => .skip
theorem xIN : Tryz.f41.body = some xKE := by kernel_rfl
theorem xJZ : xaP Tryz.f41.ntmps plN xKE = true := by kernel_rfl
def xB5 (c : xs2) (fs : List xBL) : List xB8 := xCl (xBY c (xBH c p0 fs))
section
attribute [local irreducible] BrK Xq Xt Xv XI FnK XZ Xw XC XV opX opK Yq Yk eqR Yj Yo Ys WL WD W X3 XO Tr drewK Ya X4 Yw Yv X1 YB mp blk rob sl sep ex fact old
section
attribute [local irreducible] xB2 WM xgA
section
variable {c : xs2} {sf : SV} {fs : List xBL}
theorem xGO (hs : shC c) (hf : fs.length ≤ 1000000) (hfw : xDe c) : Xb prog 41 #[.agg (En.enc c).toArray, sf.v] [sl true sf.v fs, sl true c.modes.s.v c.modes.d, fzl c.modes.d, sl true c.down.s.v c.down.d, sl true c.up.s.v c.up.d]
  fun v l' => ∃ s : SV, v = s.v ∧ l' = [sl false s.v (xB5 c fs)] := by
 intro F K hK
 simp only [ap]
 refine Tr.enterM (T := plN) (rs := [.tmp 4]) mixed Tryz.func41 xIN xJZ rfl (by simp) fun u => ?_
 simp only [xKE, Tryz.f41]
 have hX := I6 @xBR @xj0 @xeO @xqD @xck @xjX; repeat' (first | intro (ob : Nat) | refine S.x ?_ | refine S.y ?_ ?_ | (refine G.call 92 ?_; refine S.c ?_ (h := xCY)) | rintro _ _ ⟨_, _, rfl, rfl⟩ | (refine G.prop ?_; assumption) | intro hb | ((fail_if_success refine G.tr ?_); exact G.prop S.p) | fail)
 rename_i w1 w2
 refine Tr.nilSl (α := xB8) ?_
 refine xHe (α := xB8) (xs := xCl []) (b := ob) (s := ⟨none, 0, 0⟩) S.K S.K ?_
 refine Tr.rangeA (T := plN) (I := fun pre => iL 40 ob (xCl pre)) (Ix := noA) mixed (xGD (bc := w1) (bf := w2) (sf := sf) (fs := fs) hs hf hfw) rfl (by kernel_rfl) S.T (fun x => rfl) (by decide) (by kernel_rfl) (by kernel_rfl) (by kernel_rfl) (by kernel_rfl) ?hbody ?hdone ?hstop
 case hbody =>
  intro pre x Gl Gm B R hN hx hB h1 h2
  have hbl := xCy (ss := pre)
  refine xDO fun s => ?_
  show Tr _ (W _ _ _ _ (upd _ 10 (.agg (En.enc x).toArray)))
  have hX := @xBR; repeat' (first | intro (xb : Nat) | refine S.x ?_ | refine S.y ?_ ?_ | (refine G.call 92 ?_; refine S.c ?_ (h := xCY)) | rintro _ _ ⟨_, _, rfl, rfl⟩ | (refine G.prop ?_; assumption) | intro hb | ((fail_if_success refine G.tr ?_); exact G.prop S.p) | fail)
  refine hB [_, _, _] _ ?_
  simp only [ap]
  have hX := @xBR; repeat' (first | intro (sv : SV) | refine S.x ?_ | refine S.y ?_ ?_ | (refine G.call 92 ?_; refine S.c ?_ (h := xCY)) | rintro _ _ ⟨_, _, rfl, rfl⟩ | (refine G.prop ?_; assumption) | intro hb | ((fail_if_success refine G.tr ?_); exact G.prop S.p) | fail)
  all_goals
   rw [← xDm]
   refine xHe (b := ob) (xs := xCl (pre ++ [x])) (s := sv) S.K S.K ?_
   refine Tr.ent2 ?_ (h1 _)
   exact S.E
 case hdone =>
  intro D xs hS
  subst hS
  refine xDO fun s => ?_
  have hX := I8 @xBR @xj0 @xeO @xqD @xck @xjX @xuW @xvk; repeat' (first | refine S.x ?_ | refine S.y ?_ ?_ | (refine G.call 92 ?_; refine S.c ?_ (h := xCY)) | rintro _ _ ⟨_, _, rfl, rfl⟩ | (refine G.prop ?_; assumption) | intro hb | ((fail_if_success refine G.tr ?_); exact G.prop S.p) | fail)
  all_goals
   refine Tr.mark S.K ?_
   rw [xkr]
   exact Tr.fin hK ⟨s, rfl, rfl⟩ S.E
 case hstop =>
  intro D pre hS
  exact xF8
end
end
theorem ofF {α : Type} [Inhabited α] {p : α → Prop} {xs : List α} {n : Nat} (hn : n = xs.length) (h : ∀ j : Nat, j < n → p (ix xs (j : Int))) : ∀ x ∈ xs, p x := fun x hx => by
 obtain ⟨j, hj, e⟩ := List.mem_iff_getElem.1 hx
 have := h j S.o
 unfold ix at this
 rw [Int.toNat_natCast, List.getD_eq_getElem?_getD, List.getElem?_eq_getElem hj, e] at this
 exact this
theorem xCS {p : Nat → Prop} {k : Nat} (h : ∀ j : Nat, j < k → p j) (hk : p k) : ∀ j : Nat, j < k + 1 → p j := fun j hj => by
 by_cases e : j = k
 ·rw [e]; exact hk
 ·exact h j S.o
section
variable {c : xs2} {sd su : SV} {down up : List Int} {level r ladder : Int}
theorem xKY : Xb prog 10 #[.agg (En.enc c).toArray]
  [sl true c.parts.s.v c.parts.d, fzl c.parts.d, sl true c.chans.s.v c.chans.d, sl true c.modes.s.v c.modes.d, fzl c.modes.d, sl true c.levels.s.v c.levels.d, sl true c.naps.s.v c.naps.d, sl true c.down.s.v c.down.d, sl true c.up.s.v c.up.d]
  fun v l' => ∃ b : Bool, (b = true → shC c ∧ xDe c) ∧ v = .bool b ∧ l' = [] := by
 intro F K hK
 simp only [ap]
 refine S.I fun u => ?_
 by_cases h1 : c.parts.d.length ≤ 100 ∧ c.chans.d.length ≤ 100 ∧ c.modes.d.length ≤ 100 ∧ c.levels.d.length ≤ 100 ∧ c.naps.d.length ≤ 100 ∧ c.down.d.length ≤ 100 ∧ c.up.d.length ≤ 100
 ·obtain ⟨h1, h2, h3, h4, h5, h6, h7⟩ := h1
  repeat' (first | refine S.x ?_ | refine S.y ?_ ?_ | (refine G.prop ?_; assumption) | intro hb | ((fail_if_success refine G.tr ?_); exact G.prop S.p) | fail)
  refine Tr.loopE (α := Nat) [2, 3] [1] (fun k => [.bool false, .int .i64 k]) (fun _ => []) (fun k => k ≤ c.parts.d.length ∧ ∀ j : Nat, j < k → shP (ix c.parts.d (j : Int))) (fun k => c.parts.d.length - k) 0 S.T rfl ⟨Nat.zero_le _, fun j hj => absurd hj (Nat.not_lt_zero _)⟩ fun k u hk => ?_
  obtain ⟨hk, hall⟩ := hk
  simp only [List.nil_append]
  by_cases hin : k < c.parts.d.length
  ·have hw := Xo (k := k) S.o
   by_cases hp : (ix c.parts.d (k : Int)).regions.d.length ≤ 100 ∧ (ix c.parts.d (k : Int)).procs.d.length ≤ 100 ∧ (ix c.parts.d (k : Int)).ports.d.length ≤ 100 ∧ (ix c.parts.d (k : Int)).sems.d.length ≤ 100 ∧ (ix c.parts.d (k : Int)).pools.d.length ≤ 100 ∧ (ix c.parts.d (k : Int)).slates.d.length ≤ 100 ∧ (ix c.parts.d (k : Int)).acts.d.length ≤ 100
   ·obtain ⟨p1, p2, p3, p4, p5, p6, p7⟩ := hp
    have hall2 := xCS (p := fun j : Nat => shP (ix c.parts.d (j : Int))) hall ⟨by omega, by omega, by omega, by omega, by omega, by omega, by omega⟩
    have hX := hw; repeat' (first | refine S.x ?_ | refine S.y ?_ ?_ | (refine G.prop ?_; assumption) | intro hb | ((fail_if_success refine G.tr ?_); exact G.prop S.p) | fail)
    all_goals exact S.R (k + 1)
   ·have hX := hw; repeat' (first | refine S.x ?_ | refine S.y ?_ ?_ | (refine G.prop ?_; assumption) | intro hb | ((fail_if_success refine G.tr ?_); exact G.prop S.p) | fail)
    all_goals first
     | exact Tr.fin hK ⟨false, (fun h => by cases h), rfl, rfl⟩ S.E
     | (exfalso; omega)
  ·have hall3 := ofF (p := shP) S.o hall
   repeat' (first | refine S.x ?_ | refine S.y ?_ ?_ | (refine G.prop ?_; assumption) | intro hb | ((fail_if_success refine G.tr ?_); exact G.prop S.p) | fail)
   refine Tr.loopE (α := Nat) [2, 5] [1] (fun k => [.bool false, .int .i64 k]) (fun _ => []) (fun k => k ≤ c.modes.d.length ∧ ∀ j : Nat, j < k → (ix c.modes.d (j : Int)).wins.d.length ≤ 1000) (fun k => c.modes.d.length - k) 0 S.T rfl ⟨Nat.zero_le _, fun j hj => absurd hj (Nat.not_lt_zero _)⟩ fun k u hk => ?_
   obtain ⟨hk, halm⟩ := hk
   simp only [List.nil_append]
   by_cases hin : k < c.modes.d.length
   ·have hw := Xo (k := k) S.o
    by_cases hp : (ix c.modes.d (k : Int)).wins.d.length ≤ 100
    ·have hall2 := xCS (p := fun j : Nat => (ix c.modes.d (j : Int)).wins.d.length ≤ 1000) halm S.o
     have hX := hw; repeat' (first | refine S.x ?_ | refine S.y ?_ ?_ | (refine G.prop ?_; assumption) | intro hb | ((fail_if_success refine G.tr ?_); exact G.prop S.p) | fail)
     all_goals exact S.R (k + 1)
    ·have hX := hw; repeat' (first | refine S.x ?_ | refine S.y ?_ ?_ | (refine G.prop ?_; assumption) | intro hb | ((fail_if_success refine G.tr ?_); exact G.prop S.p) | fail)
     all_goals exact Tr.fin hK ⟨false, (fun h => by cases h), rfl, rfl⟩ S.E
   ·have halm3 := ofF (p := fun m : xCE => m.wins.d.length ≤ 1000) S.o halm
    repeat' (first | refine S.x ?_ | refine S.y ?_ ?_ | (refine G.prop ?_; assumption) | intro hb | ((fail_if_success refine G.tr ?_); exact G.prop S.p) | fail)
    all_goals exact Tr.fin hK ⟨true, (fun _ => ⟨⟨by omega, by omega, by omega, by omega, by omega, by omega, by omega, hall3, fun m hm => Nat.le_trans (halm3 m hm) (by decide)⟩, ⟨halm3⟩⟩), rfl, rfl⟩ S.E
 ·repeat' (first | refine S.x ?_ | refine S.y ?_ ?_ | (refine G.prop ?_; assumption) | intro hb | ((fail_if_success refine G.tr ?_); exact G.prop S.p) | fail)
  all_goals first
   | exact Tr.fin hK ⟨false, (fun h => by cases h), rfl, rfl⟩ S.E
   | (exfalso; omega)
theorem xCX : Xb prog 86 #[.int .i64 ladder, .int .i64 level] [] fun v l' => v = .bool (isM ladder level) ∧ l' = [] := by
 intro F K hK
 simp only [List.nil_append]
 refine S.I fun u => ?_
 repeat' (first | refine S.x ?_ | refine S.y ?_ ?_ | (refine G.prop ?_; assumption) | intro hb | ((fail_if_success refine G.tr ?_); exact G.prop S.p) | fail)
 all_goals
  refine Tr.fin hK ⟨?_, rfl⟩ S.E
  (simp_all [isM]) <;> omega
theorem xCg (_hd : down.length ≤ 1000000000) (_hu : up.length ≤ 1000000000) (h0 : 0 ≤ level) (h9 : level ≤ 2000000000) : Xb prog 94 #[.agg #[sd.v, su.v], .int .i64 level, .int .i64 r] [sl true sd.v down, sl true su.v up]
  fun v l' => v = .int .i64 (xCW down up level r) ∧ l' = [] := by
 intro F K hK
 simp only [ap]
 have hw1 := Ye (n := level - 1) S.o S.o
 have hw2 := Ye (n := level + 1) S.o S.o
 unfold xCW at hK
 rw [hw1, hw2] at hK
 by_cases c1 : level < down.length ∧ r < ix down level
 ·rw [if_pos ⟨h0, c1.1, c1.2⟩] at hK
  obtain ⟨c2, c3⟩ := c1
  refine S.I fun u => ?_
  have hX := And.intro hw1 hw2; repeat' (first | refine S.x ?_ | refine S.y ?_ ?_ | (refine G.prop ?_; assumption) | intro hb | ((fail_if_success refine G.tr ?_); exact G.prop S.p) | fail)
  all_goals exact Tr.fin hK ⟨rfl, rfl⟩ S.E
 ·rw [if_neg (fun h => c1 ⟨h.2.1, h.2.2⟩)] at hK
  by_cases c2 : 1 ≤ level ∧ level ≤ up.length ∧ ix up (level - 1) ≤ r
  ·rw [if_pos c2] at hK
   obtain ⟨c3, c4, c5⟩ := c2
   refine S.I fun u => ?_
   have hX := And.intro hw1 hw2; repeat' (first | refine S.x ?_ | refine S.y ?_ ?_ | (refine G.prop ?_; assumption) | intro hb | ((fail_if_success refine G.tr ?_); exact G.prop S.p) | fail)
   all_goals first
    | exact Tr.fin hK ⟨rfl, rfl⟩ S.E
    | exact absurd ⟨by assumption, by assumption⟩ c1
    | (exfalso; omega)
  ·rw [if_neg c2] at hK
   refine S.I fun u => ?_
   have hX := And.intro hw1 hw2; repeat' (first | refine S.x ?_ | refine S.y ?_ ?_ | (refine G.prop ?_; assumption) | intro hb | ((fail_if_success refine G.tr ?_); exact G.prop S.p) | fail)
   all_goals first
    | exact Tr.fin hK ⟨rfl, rfl⟩ S.E
    | exact absurd ⟨by assumption, by assumption⟩ c1
    | exact absurd ⟨by omega, by omega, by assumption⟩ c2
    | (exfalso; omega)
theorem xIZ (h0 : 0 ≤ level) (h9 : level ≤ 2000000000) : 0 ≤ xCW down up level r ∧ xCW down up level r ≤ level + 1 := by
 have hw1 := Ye (n := level - 1) S.o S.o
 have hw2 := Ye (n := level + 1) S.o S.o
 unfold xCW
 rw [hw1, hw2]
 split
 ·omega
 ·split <;> omega
