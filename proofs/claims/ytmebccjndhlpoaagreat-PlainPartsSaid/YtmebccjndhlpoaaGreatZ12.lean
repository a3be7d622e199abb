import Derived.Test.YtmebccjndhlpoaaGreatZ11
namespace Go.Proofs.YtmebccjndhlpoaaGreat
open Go Go.Wk Tryz
set_option maxHeartbeats 3200000
set_option maxRecDepth 100000
section
section
variable {α : Type} {P : Program} {T : Nat → Xj} {n : Nat} {l F : List Xc} {Q : List Nat → Jh} {ms : List Nat} {e : Env}
theorem Tr.rangeA {gf N : Nat} {lb : List Value} {g : Operand} {ps : Array Tmp} {assign body : Code} {encs : α → Array Value} {ok : α → Prop} {DL : List Xc} {S Sp : List α → Prop} {I Ix : List α → Xc} (hm : P.follows .mixedOrders = true)
  (hit : xtw P gf lb encs ok DL S Sp N) (hg : ev e g = .func (.func gf) #[] lb.toArray) (hf : xa1 P gf = true) (ht : YK l (I [] :: DL) F)
  (hsz : ∀ x, (encs x).size = ps.size) (hps : ∀ p ∈ ps.toList, p < n) (hok : Za n T assign = true) (hok' : Y8 T assign = true) (hob : Za n T body = true) (hob' : Y8 T body = true)
  (hbody : ∀ pre x G G' (B : Env → WP) (R : Jh), pre.length < N → ok x → (∀ L e1, Tr (L ++ G') (W P T body R e1) → Tr (L ++ G) (B e1)) → (∀ u, Tr (I (pre ++ [x]) :: G') (R .normal u)) → (∀ u, Tr (Ix (pre ++ [x]) :: G') (R .ret u)) → Tr (I pre :: G) (W P T assign (Yj B xxF) (xd0 e (ps.toList.zip (encs x).toList))))
  (hdone : ∀ D xs, S xs → Tr (I xs :: blk D (.deferred (some [])) :: (DL ++ F)) (Q (D :: ms) .normal e))
  (hstop : ∀ D pre, Sp pre → Tr (Ix pre :: blk D (.deferred (some [])) :: (DL ++ F)) (Q (D :: ms) .ret e)) : Tr l (xgA P n g ps assign body Q ms e) := fun w hw0 => by
 have hw : Sat w (I [] :: (DL ++ F)) := ht.sat hw0
 refine ⟨gf, lb.toArray, hg, hf, fun r hr1 hr2 hr3 hr4 hr5 hr6 hr7 => ?_⟩
 have h1 := hw.alloc (.deferred (some []))
 have h2 := h1.alloc (.loop r)
 have hL : (w.alloc (.deferred (some []))).heap.size = w.heap.size + 1 := by simp
 rw [hL] at h2
 have hrr : ({ r with state := .ready, pending := none } : Loop) = r := by rw [← hr1, ← hr2]
 have hround : xkt P (w.heap.size + 1) encs ok (fun pre => sep (blk (w.heap.size + 1) (.loop r)) (I pre)) (fun pre => sep (blk (w.heap.size + 1) (.loop { r with state := .done, pending := some .ret })) (Ix pre)) N := by
  intro pre x G K hN hx hK1 hK2
  refine Tr.sep_iff.2 fun w1 hw1 => ?_
  have hl := hw1.get
  refine xoM (n := n) (T := T) (e := e) hm hl (by rw [hsz, hr3]) hr7 hr6 (by rw [hr3]; exact hps) (by rw [hr4]; exact hok) (by rw [hr4]; exact hok') (by rw [hr5]; exact hob) (by rw [hr5]; exact hob') ?_
  rw [hr3, hr4]
  subst hr5
  refine hbody pre x (blk (w.heap.size + 1) (.loop r) :: G) (blk (w.heap.size + 1) (.loop { r with state := .busy }) :: G) (fun e1 w1 => ∃ w2, (Instr.beginRound (w.heap.size + 1)).run P w1 = .ok () w2 ∧ W P T r.body (xuo P (w.heap.size + 1) K) e1 w2) (xuo P (w.heap.size + 1) K) hN hx (fun L e1 h w3 hw3 => ?_) (fun u w3 hw3 => ?_) (fun u w3 hw3 => ?_) _ (Q5 hw1)
  ·have h3 : Sat w3 (blk (w.heap.size + 1) (.loop r) :: (L ++ G)) := hw3.perm List.perm_middle
   refine ⟨_, run_beginRound h3.get hr1, h _ ?_⟩
   have h4 : Sat (w3.putObj (w.heap.size + 1) (.loop { r with state := .busy })) (blk (w.heap.size + 1) (.loop { r with state := .busy }) :: (L ++ G)) := h3.put rfl ⟨rfl, rfl, rfl⟩
   exact h4.perm List.perm_middle.symm
  ·have hw3 := Q5 hw3
   have hl3 := hw3.get
   refine ⟨_, _, run_endRound none hl3, ?_⟩
   refine hK1 _ (Imp.sepI.sat ?_)
   have : Sat (w3.putObj (w.heap.size + 1) (.loop { r with state := .ready, pending := none })) (blk (w.heap.size + 1) (.loop { r with state := .ready, pending := none }) :: I (pre ++ [x]) :: G) := hw3.put rfl ⟨rfl, rfl, rfl⟩
   rw [hrr] at this
   show Sat (w3.putObj (w.heap.size + 1) (.loop { r with state := .ready, pending := none })) _
   rw [hrr]; exact this
  ·have hw3 := Q5 hw3
   have hl3 := hw3.get
   refine ⟨_, _, run_endRound (some .ret) hl3, ?_⟩
   refine hK2 _ (Imp.sepI.sat ?_)
   exact hw3.put rfl ⟨rfl, rfl, rfl⟩
 have hshuf : ∀ {A B C : Xc} {L1 L2 : List Xc}, List.Perm (A :: B :: C :: (L1 ++ L2)) (A :: C :: (L1 ++ B :: L2)) := fun {A B C L1 L2} => by
  refine List.Perm.cons A ((List.Perm.swap C B _).trans (List.Perm.cons C ?_))
  exact (List.perm_middle (l₁ := L1) (l₂ := L2) (a := B)).symm
 have hst : Sat _ (sep (blk (w.heap.size + 1) (.loop r)) (I []) :: (DL ++ (blk w.heap.size (.deferred (some [])) :: F))) := Imp.sepI.sat (h2.perm hshuf)
 have happ : (#[.func (.yield (w.heap.size + 1)) #[] #[]] ++ lb.toArray : Array Value) = (.func (.yield (w.heap.size + 1)) #[] #[] :: lb).toArray := by simp
 rw [happ]
 refine hit (w.heap.size + 1) _ _ hround (blk w.heap.size (.deferred (some [])) :: F) _ (fun v xs hS => Tr.sep_iff.2 fun w3 hw3 => ?_) (fun v pre hS => Tr.sep_iff.2 fun w3 hw3 => ?_) _ hst
 ·have hl3 := hw3.get
  refine ⟨none, .ready, by simp, by rw [hrr]; exact hl3, ?_⟩
  have hp : Sat (w3.putObj (w.heap.size + 1) (.loop { r with state := .exhausted, pending := none })) (blk (w.heap.size + 1) (.loop { r with state := .exhausted, pending := none }) :: I xs :: (DL ++ blk w.heap.size (.deferred (some [])) :: F)) := hw3.put rfl ⟨rfl, rfl, rfl⟩
  exact hdone _ xs hS _ (Q5 (hp.perm hshuf.symm).tail)
 ·have hl3 := hw3.get
  refine ⟨some .ret, .done, by simp, hl3, ?_⟩
  have hp : Sat (w3.putObj (w.heap.size + 1) (.loop { r with state := .exhausted, pending := some .ret })) (blk (w.heap.size + 1) (.loop { r with state := .exhausted, pending := some .ret }) :: Ix pre :: (DL ++ blk w.heap.size (.deferred (some [])) :: F)) := hw3.put rfl ⟨rfl, rfl, rfl⟩
  exact hstop _ pre hS _ (Q5 (hp.perm hshuf.symm).tail)
end
theorem xBV {P : Program} {l : Nat} {args : List Value} {K : Value → WP} {o : WP} : XZ P (.func (.yield l) #[] #[]) args.toArray K o = xcx P l args.toArray K := by
 rw [xry]; simp
abbrev fsB (b : Nat) (sf : SV) : Xc := blk b (.cells #[sf.v] 35 (0, 0))
def xM6 (x : xBR) : Array Value := #[.agg (En.enc x).toArray]
def xIb (c : xs2) (x : xBR) : Prop := 0 ≤ x.mode ∧ x.mode < c.modes.d.length
theorem xFN {c : xs2} {p x : xBR} {f : xBS} (h : xDd c p f = some x) : xIb c x := by
 unfold xDd at h
 split at h
 ·cases h
 rename_i h1
 split at h
 ·cases h
 cases h
 exact ⟨by show 0 ≤ xDx _ _ _; omega, by show xDx _ _ _ < _; omega⟩
theorem xDl {c : xs2} {p : xBR} {f : xBS} {r : List xBS} (h : xDd c p f = none) : xBP c p (f :: r) = [] := by
 rw [xBP, h]
theorem xDn {c : xs2} {p x : xBR} {f : xBS} {r : List xBS} (h : xDd c p f = some x) : xBP c p (f :: r) = x :: xBP c x r := by
 rw [xBP, h]
abbrev p0 : xBR := ⟨0, 0, 0, 0⟩
end
section
attribute [local irreducible] BrK Xq Xt Xv XI FnK XZ Xw XC XV opX opK Yq Yk eqR Yj Yo Ys WL WD W X3 XO Tr drewK Ya X4 Yw Yv X1 YB mp blk rob sl sep ex fact old
section
attribute [local irreducible] xBG inB xBZ xB7 xBJ
section
variable {c : xs2} {sf : SV} {fs : List xBS} {b1 b2 : Nat}
theorem xE7 : Xb prog 43 #[.agg (En.enc c).toArray, sf.v] [] fun v l' => ∃ b1 b2, v = .func (.func 79) #[] #[.pointer (some ⟨b1, 0, none⟩), .pointer (some ⟨b2, 0, none⟩)] ∧ l' = [fsB b1 sf, cfB b2 c] := by
 intro F K hK
 simp only [List.nil_append]
 refine S.I fun u => ?_
 have hX := @xBV; repeat' (first | refine S.x ?_ | intro hb | fail)
 all_goals exact Tr.fin hK ⟨_, _, rfl, rfl⟩ S.E
structure pgI (c : xs2) (fs : List xBS) (x : Nat × List xBR × xBR) : Prop where
 k : x.1 ≤ fs.length
 e : x.2.1 ++ xBP c x.2.2 (fs.drop x.1) = xBP c p0 fs
theorem xEH (hs : shC c) (hf : fs.length ≤ 1000000000) : xtw prog 79 [.pointer (some ⟨b1, 0, none⟩), .pointer (some ⟨b2, 0, none⟩)] xM6 (xIb c) [fsB b1 sf, cfB b2 c, sl true sf.v fs, sl true c.modes.s.v c.modes.d, sl true c.down.s.v c.down.d, sl true c.up.s.v c.up.d]
  (fun xs => xs = xBP c p0 fs) (fun pre => pre <+: xBP c p0 fs) (xBP c p0 fs).length := by
 intro L J Jx hR F K hdone hstop
 simp only [ap] at hdone hstop ⊢
 refine S.I fun u => ?_
 have hX := And.intro @xBV @xKf; repeat' (first | intro (pb : Nat) | refine S.x ?_ | fail)
 refine Tr.loopE (α := Nat × List xBR × xBR) [11] [0, 1, 2, 4, 9, 10] (fun x => [.int .i64 x.1]) (fun x => [J x.2.1, blk pb (.cells (En.enc x.2.2).toArray 89 (0, 0)), fsB b1 sf, cfB b2 c]) (pgI c fs) (fun x => fs.length - x.1) (0, [], p0) S.T rfl ⟨Nat.zero_le _, rfl⟩ fun x u hI => ?_
 obtain ⟨k, pre, p⟩ := x
 obtain ⟨hk, he⟩ := hI
 simp only at hk he ⊢
 simp only [ap]
 by_cases hin : k < fs.length
 ·have hw := Xo (k := k) S.o
  have hd : fs.drop k = ix fs (k : Int) :: fs.drop (k + 1) := by rw [List.drop_eq_getElem_cons hin]; simp [ix, hin]
  rw [hd] at he
  have hnx := xI5 (p := p) (f := ix fs (k : Int)) hs
  cases hp : xDd c p (ix fs (k : Int)) with
  | none =>
   rw [xDl hp, List.append_nil] at he
   rw [hp] at hnx
   simp only [Option.getD_none, Option.isSome_none] at hnx
   have hX := I3 @xBV hw @xI2; repeat' (first | rintro _ _ ⟨rfl, rfl⟩ | (refine G.call 80 ?_; refine S.c ?_ (h := hnx)) | refine S.x ?_ | intro hb | fail)
   all_goals
    refine Tr.ent2 ?_ (hdone _ _ he)
    exact S.E
  | some x =>
   rw [xDn hp] at he
   rw [hp] at hnx
   simp only [Option.getD_some, Option.isSome_some] at hnx
   have he2 : (pre ++ [x]) ++ xBP c x (fs.drop (k + 1)) = xBP c p0 fs := by rw [List.append_assoc]; exact he
   have hpl : pre.length < (xBP c p0 fs).length := by rw [← he]; simp
   have hpx : pre ++ [x] <+: xBP c p0 fs := ⟨_, he2⟩
   have hok := xFN hp
   have hX := I3 @xBV hw @xI2; repeat' (first | rintro _ _ ⟨rfl, rfl⟩ | (refine G.call 80 ?_; refine S.c ?_ (h := hnx)) | (refine Tr.yield hR _ rfl ‹_› (by first | assumption | fail) S.K ?_ ?_) | refine S.x ?_ | intro hb | fail)
   ·have hI : pgI c fs (k + 1, pre ++ [x], x) := ⟨hin, he2⟩
    exact S.R ((k + 1, pre ++ [x], x) : Nat × List xBR × xBR)
   ·refine Tr.ent2 ?_ (hstop _ _ hpx)
    exact S.E
 ·have hke : k = fs.length := by omega
  rw [hke, List.drop_length] at he
  have hX := I3 @xBV hke @xI2; repeat' (first | refine S.x ?_ | fail)
  all_goals
   refine Tr.ent2 ?_ (hdone _ pre ?_)
   ·exact S.E
   ·rw [← he]; exact (List.append_nil _).symm
end
end
end
theorem xCG {c : xs2} : ∀ {fs : List xBS} {p : xBR}, (xBP c p fs).length ≤ fs.length
 | [], p => by rw [xBP]; exact Nat.le_refl _
 | f :: fs, p => by
  cases h : xDd c p f with
  | none => rw [xDl h]; exact Nat.zero_le _
  | some x => rw [xDn h, List.length_cons, List.length_cons]; exact Nat.succ_le_succ xCG
noncomputable def xLx : Code := match Tryz.f26.body with
 | some c => c
 | none => .skip
theorem xHG : Tryz.f26.body = some xLx := by kernel_rfl
def plN : Nat → Xj := fun _ => .fin
theorem xKj : xaP Tryz.f26.ntmps plN xLx = true := by kernel_rfl
def iL {α : Type} [En α] (T : Nat) (b : Nat) (xs : List α) : Xc := ex fun s : SV => sep (blk b (.cells #[s.v] T (0, 0))) (sl false s.v xs)
theorem xG8 {α : Type} [En α] {T b : Nat} {xs : List α} {s : SV} {l l1 l2 : List Xc} {X : WP} (h1 : Xm l (blk b (.cells #[s.v] T (0, 0))) l1) (h2 : Xm l1 (sl false s.v xs) l2) (h : Tr (iL T b xs :: l2) X) : Tr l X :=
 Tr.ent2 (Xd.ex s (Xd.sep (Xd.take h1 (Xd.take h2 Xd.done)))) h
theorem xEn {α : Type} [En α] {T b : Nat} {xs : List α} {l : List Xc} {X : WP} (h : ∀ s : SV, Tr (blk b (.cells #[s.v] T (0, 0)) :: sl false s.v xs :: l) X) : Tr (iL T b xs :: l) X :=
 Tr.ex_iff.2 fun s => Tr.sep_iff.2 (h s)
def noA {α : Type} : List α → Xc := fun _ => fact False
theorem xF4 {α : Type} {xs : List α} {l : List Xc} {X : WP} : Tr (noA xs :: l) X := Tr.fact_iff.2 fun h => h.elim
section
attribute [local irreducible] BrK Xq Xt Xv XI FnK XZ Xw XC XV opX opK Yq Yk eqR Yj Yo Ys WL WD W X3 XO Tr drewK Ya X4 Yw Yv X1 YB mp blk rob sl sep ex fact old
section
attribute [local irreducible] xBG inB xBZ xB7 xBJ WM xgA
section
variable {c : xs2} {sf : SV} {fs : List xBS} {b1 b2 : Nat}
theorem xHV (hs : shC c) (hf : fs.length ≤ 1000000) : Xb prog 26 #[.agg (En.enc c).toArray, sf.v] [sl true sf.v fs, sl true c.modes.s.v c.modes.d, sl true c.down.s.v c.down.d, sl true c.up.s.v c.up.d]
  fun v l' => ∃ s : SV, v = s.v ∧ l' = [sl false s.v (xBP c p0 fs)] := by
 intro F K hK
 simp only [ap]
 refine Tr.enterM (T := plN) (rs := [.tmp 4]) mixed Tryz.func26 xHG xKj rfl (by simp) fun u => ?_
 simp only [xLx, Tryz.f26]
 have hX := I6 @xBV @xj0 @xeO @xqD @xck @xjX; repeat' (first | intro (ob : Nat) | refine S.x ?_ | (refine G.call 43 ?_; refine S.c ?_ (h := xE7)) | rintro _ _ ⟨_, _, rfl, rfl⟩ | fail)
 rename_i w1 w2
 refine Tr.nilSl (α := xBR) ?_
 refine xG8 (α := xBR) (xs := []) (b := ob) (s := ⟨none, 0, 0⟩) S.K S.K ?_
 refine Tr.rangeA (T := plN) (I := iL 86 ob) (Ix := noA) mixed (xEH (b1 := w1) (b2 := w2) (sf := sf) (fs := fs) hs S.o) rfl (by kernel_rfl) S.T (fun x => rfl) (by decide) (by kernel_rfl) (by kernel_rfl) (by kernel_rfl) (by kernel_rfl) ?hbody ?hdone ?hstop
 case hbody =>
  intro pre x Gl Gm B R hN hx hB h1 h2
  have hpl := xCG (c := c) (fs := fs) (p := p0)
  refine xEn fun s => ?_
  show Tr _ (W _ _ _ _ (upd _ 10 (.agg (En.enc x).toArray)))
  have hX := @xBV; repeat' (first | intro (xb : Nat) | refine S.x ?_ | fail)
  refine hB [_, _, _] _ ?_
  simp only [ap]
  have hX := @xBV; repeat' (first | intro (sv : SV) | refine S.x ?_ | fail)
  all_goals
   refine xG8 (b := ob) (xs := pre ++ [x]) (s := sv) S.K S.K ?_
   refine Tr.ent2 ?_ (h1 _)
   exact S.E
 case hdone =>
  intro D xs hS
  subst hS
  refine xEn fun s => ?_
  have hX := I8 @xBV @xj0 @xeO @xqD @xck @xjX @xuW @xvk; repeat' (first | refine S.x ?_ | fail)
  all_goals
   refine Tr.mark S.K ?_
   rw [xkr]
   exact Tr.fin hK ⟨s, rfl, rfl⟩ S.E
 case hstop =>
  intro D pre hS
  exact xF4
end
end
end
def xNb (x : xB9) : Array Value := #[.agg (En.enc x).toArray]
def xB3 (c : xs2) (p : xBR) : List xB9 := xCI (ix c.modes.d p.mode).wins.d p.at_
def xCc (c : xs2) (ps : List xBR) : List xB9 := ps.flatMap (xB3 c)
structure xJ3 (c : xs2) : Prop where
 w : ∀ m ∈ c.modes.d, m.wins.d.length ≤ 16
theorem xEJ {c : xs2} (hw : xJ3 c) {p : xBR} (hp : xIb c p) : (xB3 c p).length ≤ 16 := by
 unfold xB3 xCI
 rw [List.length_map]
 exact hw.w _ (List.mem_of_getElem? (Yi hp.1 hp.2))
theorem xD8 {c : xs2} {ps : List xBR} {p : xBR} : xCc c (ps ++ [p]) = xCc c ps ++ xB3 c p := by unfold xCc; simp
noncomputable def xLL : Code := match Tryz.f91.body with
 | some c => c
 | none => .skip
theorem xHQ : Tryz.f91.body = some xLL := by kernel_rfl
noncomputable def plS : Nat → Xj
 | 3 => .r 0 8 (.r 10 1 (.e 8 [] (.r 9 1 .fin)))
 | _ => .fin
theorem peS : type_of% (@plS.eq_def) := @plS.eq_def
theorem xKH : xaP Tryz.f91.ntmps plS xLL = true := by kernel_rfl
abbrev yB (b L : Nat) : Xc := blk b (.cells #[.func (.yield L) #[] #[]] 196 (0, 0))
def iS (J : List xB9 → Xc) (bc yb L : Nat) (c : xs2) (pre : List xBR) : Xc := sep (fact ((xCc c pre).length ≤ 16 * pre.length)) (sepL [J (xCc c pre), cfB bc c, yB yb L, sl true c.modes.s.v c.modes.d, fzl c.modes.d])
def iQ (Jx : List xB9 → Xc) (bc yb L : Nat) (c : xs2) (_ : List xBR) : Xc := ex fun q : List xB9 => sepL [Jx q, cfB bc c, yB yb L, sl true c.modes.s.v c.modes.d, fzl c.modes.d]
theorem xKX {J : List xB9 → Xc} {bc yb L : Nat} {c : xs2} {pre : List xBR} {l F : List Xc} {X : WP} (h0 : (xCc c pre).length ≤ 16 * pre.length) (ht : YK l [J (xCc c pre), cfB bc c, yB yb L, sl true c.modes.s.v c.modes.d, fzl c.modes.d] F) (h : Tr (iS J bc yb L c pre :: F) X) : Tr l X :=
 Tr.imp (Imp.trans ht (Imp.trans Imp.sepC (Imp.trans (Imp.factI h0) Imp.sepI))) h
theorem xMD {Jx : List xB9 → Xc} {bc yb L : Nat} {c : xs2} {pre : List xBR} (q : List xB9) {l F : List Xc} {X : WP} (ht : YK l [Jx q, cfB bc c, yB yb L, sl true c.modes.s.v c.modes.d, fzl c.modes.d] F) (h : Tr (iQ Jx bc yb L c pre :: F) X) : Tr l X :=
 Tr.imp (Imp.trans ht (Imp.trans Imp.sepC (Imp.exI (f := fun q : List xB9 => sepL [Jx q, cfB bc c, yB yb L, sl true c.modes.s.v c.modes.d, fzl c.modes.d]) q))) h
theorem xG0 {J : List xB9 → Xc} {bc yb L : Nat} {c : xs2} {pre : List xBR} {l : List Xc} {X : WP} (h : (xCc c pre).length ≤ 16 * pre.length → Tr (J (xCc c pre) :: cfB bc c :: yB yb L :: sl true c.modes.s.v c.modes.d :: fzl c.modes.d :: l) X) : Tr (iS J bc yb L c pre :: l) X :=
 Tr.sep_iff.2 (Tr.fact_iff.2 fun h0 => Tr.imp Imp.sepO (h h0))
theorem xJW {Jx : List xB9 → Xc} {bc yb L : Nat} {c : xs2} {pre : List xBR} {l : List Xc} {X : WP} (h : ∀ q, Tr (Jx q :: cfB bc c :: yB yb L :: sl true c.modes.s.v c.modes.d :: fzl c.modes.d :: l) X) : Tr (iQ Jx bc yb L c pre :: l) X :=
 Tr.ex_iff.2 fun q => Tr.imp Imp.sepO (h q)
section
attribute [local irreducible] BrK Xq Xt Xv XI FnK XZ Xw XC XV opX opK Yq Yk eqR Yj Yo Ys WL WD W X3 XO Tr drewK Ya X4 Yw Yv X1 YB mp blk rob sl sep ex fact old
section
attribute [local irreducible] xBG inB xBZ xB7 xBJ WM xgA
section
variable {c : xs2} {sf : SV} {fs : List xBS} {bc bf : Nat}
theorem xGy : Xb prog 49 #[.agg (En.enc c).toArray, sf.v] [] fun v l' => ∃ b1 b2, v = .func (.func 91) #[] #[.pointer (some ⟨b1, 0, none⟩), .pointer (some ⟨b2, 0, none⟩)] ∧ l' = [cfB b1 c, fsB b2 sf] := by
 intro F K hK
 simp only [List.nil_append]
 refine S.I fun u => ?_
 have hX := @xBV; repeat' (first | refine S.x ?_ | intro hb | fail)
 all_goals exact Tr.fin hK ⟨_, _, rfl, rfl⟩ S.E
theorem xGB (hs : shC c) (hf : fs.length ≤ 1000000) (hfw : xJ3 c) : xtw prog 91 [.pointer (some ⟨bc, 0, none⟩), .pointer (some ⟨bf, 0, none⟩)] xNb (fun _ => True) [cfB bc c, fsB bf sf, sl true sf.v fs, sl true c.modes.s.v c.modes.d, fzl c.modes.d, sl true c.down.s.v c.down.d, sl true c.up.s.v c.up.d]
  (fun xs => xs = xCc c (xBP c p0 fs)) (fun _ => True) (16 * fs.length) := by
 intro L J Jx hR F K hdone hstop
 simp only [ap] at hdone hstop ⊢
 refine Tr.enterM (T := plS) (rs := []) mixed Tryz.func91 xHQ xKH rfl (by simp) fun u => ?_
 simp only [xLL, Tryz.f91]
 have hX := I6 @xBV @xj0 @xeO @xqD @xck @xjX; repeat' (first | intro (yb : Nat) | refine S.x ?_ | (refine G.call 43 ?_; refine S.c ?_ (h := xE7)) | rintro _ _ ⟨_, _, rfl, rfl⟩ | fail)
 rename_i w1 w2
 refine xKX (J := J) (pre := []) (bc := bc) (yb := yb) (c := c) (L := L) (Nat.zero_le _) S.T ?_
 refine Tr.rangeA (T := plS) (I := iS J bc yb L c) (Ix := iQ Jx bc yb L c) mixed (xEH (b1 := w1) (b2 := w2) (sf := sf) (fs := fs) hs S.o) rfl (by kernel_rfl) S.T (fun x => rfl) (by decide) (by kernel_rfl) (by kernel_rfl) (by kernel_rfl) (by kernel_rfl) ?hbody ?hdone ?hstop
 case hbody =>
  intro pre x Gl Gm B R hN hx hB h1 h2
  have hpl := xCG (c := c) (fs := fs) (p := p0)
  have hx1 := hx.1
  have hx2 := hx.2
  have hsl := xEJ hfw hx
  have hwl : (ix c.modes.d x.mode).wins.d.length ≤ 1000000000 := Nat.le_trans (hfw.w _ (List.mem_of_getElem? (Yi hx1 hx2))) (by decide)
  refine xG0 fun hln => ?_
  show Tr _ (W _ _ _ _ (upd _ 10 (.agg (En.enc x).toArray)))
  have hX := @xBV; repeat' (first | intro (xb : Nat) | refine S.x ?_ | fail)
  refine hB [_, _, _, _, _, _] _ ?_
  simp only [ap]
  have hsp : xCI (ix c.modes.d x.mode).wins.d x.at_ = xB3 c x := rfl
  have hX := I3 @xBV @peS hsp; repeat' (first | refine S.x ?_ | (refine G.call 45 ?_; refine S.c ?_ (h := xEX ‹_›)) | rintro _ _ ⟨_, rfl, rfl⟩ | intro hb | fail)
  rename_i s2
  rw [show xCc c pre = xCc c pre ++ (xB3 c x).take 0 by rw [List.take_zero, List.append_nil]]
  refine Tr.loopE (α := Nat) [21] [3, 19, 20] (fun k => [.int .i64 k]) (fun k => [J (xCc c pre ++ (xB3 c x).take k), sl false s2.v (xB3 c x), yB yb L]) (fun k => k ≤ (xB3 c x).length) (fun k => (xB3 c x).length - k) 0 S.T rfl (Nat.zero_le _) fun k u hk => ?_
  simp only [ap]
  by_cases hin : k < (xB3 c x).length
  ·have hw := Xo (k := k) S.o
   have hN2 : (xCc c pre ++ (xB3 c x).take k).length < 16 * fs.length := by rw [List.length_append, List.length_take]; omega
   have hst : xCc c pre ++ (xB3 c x).take k ++ [ix (xB3 c x) (k : Int)] = xCc c pre ++ (xB3 c x).take (k + 1) := by rw [List.append_assoc, Yz hin]
   have hX := I3 @xBV hw hst; repeat' (first | (refine Tr.yield hR _ rfl ‹_› trivial S.K ?_ ?_) | refine S.x ?_ | intro hb | fail)
   ·exact S.R (k + 1)
   ·refine xMD (Jx := Jx) (bc := bc) (yb := yb) (L := L) (c := c) (pre := pre ++ [x]) (xCc c pre ++ (xB3 c x).take (k + 1)) S.T ?_
    refine Tr.ent2 ?_ (h2 _)
    exact S.E
  ·have hke : k = (xB3 c x).length := by omega
   subst hke
   rw [List.take_length, ← xD8]
   have hX := @xBV; repeat' (first | refine S.x ?_ | fail)
   all_goals
    refine xKX (J := J) (bc := bc) (yb := yb) (L := L) (c := c) (pre := pre ++ [x]) (by rw [xD8, List.length_append, List.length_append, List.length_singleton]; omega) S.T ?_
    refine Tr.ent2 ?_ (h1 _)
    exact S.E
 case hdone =>
  intro D xs hS
  subst hS
  refine xG0 fun _ => ?_
  have hX := I8 @xBV @xj0 @xeO @xqD @xck @xjX @xuW @xvk; repeat' (first | refine S.x ?_ | fail)
  all_goals
   refine Tr.mark S.K ?_
   rw [xkr]
   refine Tr.ent2 ?_ (hdone _ _ rfl)
   exact S.E
 case hstop =>
  intro D pre hS
  refine xJW fun q => ?_
  have hX := I8 @xBV @xj0 @xeO @xqD @xck @xjX @xuW @xvk; repeat' (first | refine S.x ?_ | fail)
  all_goals
   refine Tr.mark S.K ?_
   rw [xkr]
   refine Tr.ent2 ?_ (hstop _ q trivial)
   exact S.E
end
end
end
structure xC8 where
 due : Int
 at_ : Int
 part : Int
instance : Inhabited xC8 := ⟨⟨0, 0, 0⟩⟩
instance : En xC8 := ⟨fun d => [.int .i64 d.due, .int .i64 d.at_, .int .i64 d.part], 3, fun _ => rfl, fun _ => rfl, by decide⟩
instance {l : List Xc} {a b c : Int} : De l (.agg #[.int .i64 a, .int .i64 b, .int .i64 c]) (xC8.mk a b c) := ⟨rfl⟩
instance xLf : ElT 42 xC8 := ⟨⟩
def xCB (ss : List xB9) : List xC8 := ss.flatMap fun s => [⟨s.frm, s.frm, s.part⟩, ⟨s.to, s.to, -1⟩]
theorem xFB {ss : List xB9} {s : xB9} : xCB (ss ++ [s]) = xCB ss ++ [⟨s.frm, s.frm, s.part⟩, ⟨s.to, s.to, -1⟩] := by unfold xCB; simp
theorem xEh : ∀ {ss : List xB9}, (xCB ss).length = 2 * ss.length
 | [] => rfl
 | s :: ss => by
  have := xEh (ss := ss)
  unfold xCB at this ⊢
  rw [List.flatMap_cons, List.length_append, this, List.length_cons]
  simp only [List.length_cons, List.length_nil]
  omega
noncomputable def xLc : Code := match Tryz.f28.body with
 | some c => c
 | none => .skip
theorem xHY : Tryz.f28.body = some xLc := by kernel_rfl
theorem xKM : xaP Tryz.f28.ntmps plN xLc = true := by kernel_rfl
def xFr (c : xs2) (fs : List xBS) : List xC8 := xCB (xCc c (xBP c p0 fs))
section
attribute [local irreducible] BrK Xq Xt Xv XI FnK XZ Xw XC XV opX opK Yq Yk eqR Yj Yo Ys WL WD W X3 XO Tr drewK Ya X4 Yw Yv X1 YB mp blk rob sl sep ex fact old
section
attribute [local irreducible] xBG inB xBZ xB7 xBJ WM xgA
section
variable {c : xs2} {sf : SV} {fs : List xBS}
theorem xGw (hs : shC c) (hf : fs.length ≤ 1000000) (hfw : xJ3 c) : Xb prog 28 #[.agg (En.enc c).toArray, sf.v] [sl true sf.v fs, sl true c.modes.s.v c.modes.d, fzl c.modes.d, sl true c.down.s.v c.down.d, sl true c.up.s.v c.up.d]
  fun v l' => ∃ s : SV, v = s.v ∧ l' = [sl false s.v (xFr c fs)] := by
 intro F K hK
 simp only [ap]
 refine Tr.enterM (T := plN) (rs := [.tmp 4]) mixed Tryz.func28 xHY xKM rfl (by simp) fun u => ?_
 simp only [xLc, Tryz.f28]
 have hX := I6 @xBV @xj0 @xeO @xqD @xck @xjX; repeat' (first | intro (ob : Nat) | refine S.x ?_ | (refine G.call 49 ?_; refine S.c ?_ (h := xGy)) | rintro _ _ ⟨_, _, rfl, rfl⟩ | fail)
 rename_i w1 w2
 refine Tr.nilSl (α := xC8) ?_
 refine xG8 (α := xC8) (xs := xCB []) (b := ob) (s := ⟨none, 0, 0⟩) S.K S.K ?_
 refine Tr.rangeA (T := plN) (I := fun pre => iL 42 ob (xCB pre)) (Ix := noA) mixed (xGB (bc := w1) (bf := w2) (sf := sf) (fs := fs) hs hf hfw) rfl (by kernel_rfl) S.T (fun x => rfl) (by decide) (by kernel_rfl) (by kernel_rfl) (by kernel_rfl) (by kernel_rfl) ?hbody ?hdone ?hstop
 case hbody =>
  intro pre x Gl Gm B R hN hx hB h1 h2
  have hbl := xEh (ss := pre)
  refine xEn fun s => ?_
  show Tr _ (W _ _ _ _ (upd _ 10 (.agg (En.enc x).toArray)))
  have hX := @xBV; repeat' (first | intro (xb : Nat) | refine S.x ?_ | fail)
  refine hB [_, _, _] _ ?_
  simp only [ap]
  have hX := @xBV; repeat' (first | intro (sv : SV) | refine S.x ?_ | fail)
  all_goals
   rw [← xFB]
   refine xG8 (b := ob) (xs := xCB (pre ++ [x])) (s := sv) S.K S.K ?_
   refine Tr.ent2 ?_ (h1 _)
   exact S.E
 case hdone =>
  intro D xs hS
  subst hS
  refine xEn fun s => ?_
  have hX := I8 @xBV @xj0 @xeO @xqD @xck @xjX @xuW @xvk; repeat' (first | refine S.x ?_ | fail)
  all_goals
   refine Tr.mark S.K ?_
   rw [xkr]
   exact Tr.fin hK ⟨s, rfl, rfl⟩ S.E
 case hstop =>
  intro D pre hS
  exact xF4
