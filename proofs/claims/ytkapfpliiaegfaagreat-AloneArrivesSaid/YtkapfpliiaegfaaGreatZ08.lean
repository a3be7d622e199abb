import Derived.Test.YtkapfpliiaegfaaGreatZ07
import Derived.Test.YtkapfpliiaegfaaGreatZ03
namespace Go.Proofs.YtkapfpliiaegfaaGreat
open Go Go.Wk Tryz
set_option maxHeartbeats 3200000
set_option maxRecDepth 100000
structure xBL where
 reading : Int
 mode : Int
 drift : Int
 choice : Int
instance : Inhabited xBL := ⟨⟨0, 0, 0, 0⟩⟩
instance : En xBL := ⟨fun d => [.int .i64 d.reading, .int .i64 d.mode, .int .i64 d.drift, .int .i64 d.choice], 4, fun _ => rfl, fun _ => rfl, by decide⟩
structure xCk where
 part : Int
 frm : Int
 to : Int
instance : Inhabited xCk := ⟨⟨0, 0, 0⟩⟩
instance : En xCk := ⟨fun d => [.int .i64 d.part, .int .i64 d.frm, .int .i64 d.to], 3, fun _ => rfl, fun _ => rfl, by decide⟩
instance {l : List Xc} {a b c : Int} : De l (.agg #[.int .i64 a, .int .i64 b, .int .i64 c]) (xCk.mk a b c) := ⟨rfl⟩
instance xLi : ElT 168 xCk := ⟨⟩
structure xBK where
 at_ : Int
 stop : Int
 mode : Int
 level : Int
instance : Inhabited xBK := ⟨⟨0, 0, 0, 0⟩⟩
instance : En xBK := ⟨fun d => [.int .i64 d.at_, .int .i64 d.stop, .int .i64 d.mode, .int .i64 d.level], 4, fun _ => rfl, fun _ => rfl, by decide⟩
instance {l : List Xc} {a b c d : Int} : De l (.agg #[.int .i64 a, .int .i64 b, .int .i64 c, .int .i64 d]) (xBK.mk a b c d) := ⟨rfl⟩
instance xLh : ElT 110 xBK := ⟨⟩
def xC8 (t : Int) (w : xDL) : xCk := ⟨w.part, IntKind.i64.wrap (t + w.start), IntKind.i64.wrap (IntKind.i64.wrap (t + w.start) + w.len)⟩
def xCA (ws : List xDL) (t : Int) : List xCk := ws.map (xC8 t)
def xCn (n : Nat) (mode want : Int) : Int := if 0 ≤ want ∧ want < n then want else mode
def xEn : Int := 1152921504606846976
def xCq (c : xs2) (p : xBK) (f : xBL) : Option xBK :=
 if xCn c.modes.d.length p.mode f.mode < 0 ∨ (c.modes.d.length : Int) ≤ xCn c.modes.d.length p.mode f.mode then none
 else if (ix c.modes.d (xCn c.modes.d.length p.mode f.mode)).frame < 1 ∨ IntKind.i64.wrap (xEn - p.stop) < (ix c.modes.d (xCn c.modes.d.length p.mode f.mode)).frame then none
 else some ⟨p.stop, IntKind.i64.wrap (p.stop + (ix c.modes.d (xCn c.modes.d.length p.mode f.mode)).frame), xCn c.modes.d.length p.mode f.mode, xCW c.down.d c.up.d p.level f.reading⟩
def xBH (c : xs2) : xBK → List xBL → List xBK
 | _, [] => []
 | p, f :: fs => match xCq c p f with
  | none => []
  | some x => x :: xBH c x fs
section
attribute [local irreducible] BrK Xq Xt Xv XI FnK XZ Xw XC XV opX opK Yq Yk eqR Yj Yo Ys WL WD W X3 XO Tr drewK Ya X4 Yw Yv X1 YB mp blk rob sl sep ex fact old
section
attribute [local irreducible] xRZ
section
variable {c : xs2} {m : xCE} {t mode want : Int} {p : xBK} {f : xBL}
theorem xCt (hl : m.wins.d.length ≤ 1000000000) : Xb prog 84 #[.agg (En.enc m).toArray, .int .i64 t] [sl true m.wins.s.v m.wins.d]
  fun v l' => ∃ s : SV, v = s.v ∧ l' = [sl false s.v (xCA m.wins.d t)] := by
 intro F K hK
 simp only [ap]
 refine S.I fun u => ?_
 repeat' (first | refine S.x ?_ | refine S.y ?_ ?_ | (refine G.prop ?_; assumption) | intro hb | ((fail_if_success refine G.tr ?_); exact G.prop S.p) | fail)
 refine Tr.nilSl (α := xCk) ?_
 refine Tr.loopE (α := Nat × SV) [5, 11] [1, 4, 9, 10] (fun x => [x.2.v, .int .i64 x.1]) (fun x => [sl false x.2.v (xCA (m.wins.d.take x.1) t)]) (fun x => x.1 ≤ m.wins.d.length) (fun x => m.wins.d.length - x.1) (0, ⟨none, 0, 0⟩) S.T rfl (Nat.zero_le _) fun x u hk => ?_
 obtain ⟨k, s2⟩ := x
 simp only at hk ⊢
 simp only [ap]
 by_cases hin : k < m.wins.d.length
 ·have hw := Xo (k := k) S.o
  have hst : xCA (m.wins.d.take (k + 1)) t = xCA (m.wins.d.take k) t ++ [xC8 t (ix m.wins.d (k : Int))] := by unfold xCA; rw [Yz hin, List.map_append]; rfl
  have hln : (xCA (m.wins.d.take k) t).length = k := by unfold xCA; rw [List.length_map, List.length_take]; omega
  have hX := And.intro hw hln; repeat' (first | intro (sv : SV) | refine S.x ?_ | refine S.y ?_ ?_ | (refine G.prop ?_; assumption) | intro hb | ((fail_if_success refine G.tr ?_); exact G.prop S.p) | fail)
  all_goals
   have hX := And.intro hst (@xC8.eq_def)
   exact S.R ((k + 1, sv) : Nat × SV)
 ·have hke : k = m.wins.d.length := by omega
  subst hke
  rw [List.take_length]
  repeat' (first | refine S.x ?_ | refine S.y ?_ ?_ | (refine G.prop ?_; assumption) | intro hb | ((fail_if_success refine G.tr ?_); exact G.prop S.p) | fail)
  all_goals exact Tr.fin hK ⟨s2, rfl, rfl⟩ S.E
theorem xJB : Xb prog 195 #[.agg (En.enc c).toArray, .int .i64 mode, .int .i64 want] [sl true c.modes.s.v c.modes.d] fun v l' => v = .int .i64 (xCn c.modes.d.length mode want) ∧ l' = [] := by
 intro F K hK
 simp only [ap]
 unfold xCn at hK
 refine S.I fun u => ?_
 repeat' (first | refine S.x ?_ | refine S.y ?_ ?_ | (refine G.prop ?_; assumption) | intro hb | ((fail_if_success refine G.tr ?_); exact G.prop S.p) | fail)
 all_goals exact Tr.fin hK ⟨S.v, rfl⟩ S.E
theorem xC2 (hs : shC c) : Xb prog 142 #[.agg (En.enc p).toArray, .agg (En.enc c).toArray, .agg (En.enc f).toArray] [sl true c.modes.s.v c.modes.d, sl true c.down.s.v c.down.d, sl true c.up.s.v c.up.d]
    fun v l' => v = .tuple #[.agg (En.enc ((xCq c p f).getD ⟨0, 0, 0, 0⟩)).toArray, .bool (xCq c p f).isSome] ∧ l' = [] := by
  intro F K hK
  simp only [ap]
  have h1 := hs.d
  have h2 := hs.u
  have h3 := hs.m
  obtain ⟨o, ho⟩ : ∃ o, o = xCq c p f := ⟨_, rfl⟩
  rw [← ho] at hK
  unfold xCq xEn at ho
  refine S.I fun u => ?_
  have hX := @xLw; repeat' (first | refine S.x ?_ | refine S.y ?_ ?_ | (refine G.call 195 ?_; refine S.c ?_ (h := xJB)) | (refine G.call 196 ?_; refine S.c ?_ (h := xIx ‹_› ‹_›)) | rintro _ _ ⟨rfl, rfl⟩ | (refine G.prop ?_; assumption) | intro hb | ((fail_if_success refine G.tr ?_); exact G.prop S.p) | fail)
  all_goals first
    | (have e : o = none := by (rw [ho, if_pos S.o])
       rw [e] at hK
       exact Tr.fin hK ⟨rfl, rfl⟩ S.E)
    | (have e : o = none := by (rw [ho, if_neg S.o, if_pos (by first | exact .inl S.o | exact .inr ‹_›)])
       rw [e] at hK
       exact Tr.fin hK ⟨rfl, rfl⟩ S.E)
    | (have e := ho
       rw [if_neg S.o, if_neg (fun h => by rcases h with h | h <;> first | contradiction | omega)] at e
       rw [e] at hK
       exact Tr.fin hK ⟨rfl, rfl⟩ S.E)
end
end
end
section
section
variable {α : Type} {P : Program} {T : Nat → Xj} {n : Nat} {l F : List Xc} {Q : List Nat → Jh} {ms : List Nat} {e : Env}
theorem Tr.rangeA {gf N : Nat} {lb : List Value} {g : Operand} {ps : Array Tmp} {assign body : Code} {encs : α → Array Value} {ok : α → Prop} {DL : List Xc} {S Sp : List α → Prop} {I Ix : List α → Xc} (hm : P.follows .mixedOrders = true)
  (hit : xtw P gf lb encs ok DL S Sp N) (hg : ev e g = .func (.func gf) #[] lb.toArray) (hf : xa1 P gf = true) (ht : YK l (I [] :: DL) F)
  (hsz : ∀ x, (encs x).size = ps.size) (hps : ∀ p ∈ ps.toList, p < n) (hok : Za n T assign = true) (hok' : Y8 T assign = true) (hob : Za n T body = true) (hob' : Y8 T body = true)
  (hbody : ∀ pre x G G' (B : Env → WP) (R : Jh), pre.length < N → ok x → (∀ L e1, Tr (L ++ G') (W P T body R e1) → Tr (L ++ G) (B e1)) → (∀ u, Tr (I (pre ++ [x]) :: G') (R .normal u)) → (∀ u, Tr (Ix (pre ++ [x]) :: G') (R .ret u)) → Tr (I pre :: G) (W P T assign (Yj B xxF) (xd0 e (ps.toList.zip (encs x).toList))))
  (hdone : ∀ D xs, S xs → Tr (I xs :: blk D (.deferred (some [])) :: (DL ++ F)) (Q (D :: ms) .normal e))
  (hstop : ∀ D pre, Sp pre → Tr (Ix pre :: blk D (.deferred (some [])) :: (DL ++ F)) (Q (D :: ms) .ret e)) : Tr l (xgA P n g ps assign body Q ms e) := fun w hw0 => by
 have hw : Sat w (I [] :: (DL ++ F)) := ht.sat hw0
 refine ⟨gf, lb.toArray, hg, hf, fun r hr1 hr2 hr3 hr4 hr5 hr6 hr7 => ?_⟩
 have h1 := hw.alloc (.deferred (some []))
 have h2 := h1.alloc (.loop r)
 have hL : (w.alloc (.deferred (some []))).heap.size = w.heap.size + 1 := by simp
 rw [hL] at h2
 have hrr : ({ r with state := .ready, pending := none } : Loop) = r := by rw [← hr1, ← hr2]
 have hround : xkt P (w.heap.size + 1) encs ok (fun pre => sep (blk (w.heap.size + 1) (.loop r)) (I pre)) (fun pre => sep (blk (w.heap.size + 1) (.loop { r with state := .done, pending := some .ret })) (Ix pre)) N := by
  intro pre x G K hN hx hK1 hK2
  refine Tr.sep_iff.2 fun w1 hw1 => ?_
  have hl := hw1.get
  refine xoM (n := n) (T := T) (e := e) hm hl (by rw [hsz, hr3]) hr7 hr6 (by rw [hr3]; exact hps) (by rw [hr4]; exact hok) (by rw [hr4]; exact hok') (by rw [hr5]; exact hob) (by rw [hr5]; exact hob') ?_
  rw [hr3, hr4]
  subst hr5
  refine hbody pre x (blk (w.heap.size + 1) (.loop r) :: G) (blk (w.heap.size + 1) (.loop { r with state := .busy }) :: G) (fun e1 w1 => ∃ w2, (Instr.beginRound (w.heap.size + 1)).run P w1 = .ok () w2 ∧ W P T r.body (xuo P (w.heap.size + 1) K) e1 w2) (xuo P (w.heap.size + 1) K) hN hx (fun L e1 h w3 hw3 => ?_) (fun u w3 hw3 => ?_) (fun u w3 hw3 => ?_) _ (Q5 hw1)
  ·have h3 : Sat w3 (blk (w.heap.size + 1) (.loop r) :: (L ++ G)) := hw3.perm List.perm_middle
   refine ⟨_, run_beginRound h3.get hr1, h _ ?_⟩
   have h4 : Sat (w3.putObj (w.heap.size + 1) (.loop { r with state := .busy })) (blk (w.heap.size + 1) (.loop { r with state := .busy }) :: (L ++ G)) := h3.put rfl ⟨rfl, rfl, rfl⟩
   exact h4.perm List.perm_middle.symm
  ·have hw3 := Q5 hw3
   have hl3 := hw3.get
   refine ⟨_, _, run_endRound none hl3, ?_⟩
   refine hK1 _ (Imp.sepI.sat ?_)
   have : Sat (w3.putObj (w.heap.size + 1) (.loop { r with state := .ready, pending := none })) (blk (w.heap.size + 1) (.loop { r with state := .ready, pending := none }) :: I (pre ++ [x]) :: G) := hw3.put rfl ⟨rfl, rfl, rfl⟩
   rw [hrr] at this
   show Sat (w3.putObj (w.heap.size + 1) (.loop { r with state := .ready, pending := none })) _
   rw [hrr]; exact this
  ·have hw3 := Q5 hw3
   have hl3 := hw3.get
   refine ⟨_, _, run_endRound (some .ret) hl3, ?_⟩
   refine hK2 _ (Imp.sepI.sat ?_)
   exact hw3.put rfl ⟨rfl, rfl, rfl⟩
 have hshuf : ∀ {A B C : Xc} {L1 L2 : List Xc}, List.Perm (A :: B :: C :: (L1 ++ L2)) (A :: C :: (L1 ++ B :: L2)) := fun {A B C L1 L2} => by
  refine List.Perm.cons A ((List.Perm.swap C B _).trans (List.Perm.cons C ?_))
  exact (List.perm_middle (l₁ := L1) (l₂ := L2) (a := B)).symm
 have hst : Sat _ (sep (blk (w.heap.size + 1) (.loop r)) (I []) :: (DL ++ (blk w.heap.size (.deferred (some [])) :: F))) := Imp.sepI.sat (h2.perm hshuf)
 have happ : (#[.func (.yield (w.heap.size + 1)) #[] #[]] ++ lb.toArray : Array Value) = (.func (.yield (w.heap.size + 1)) #[] #[] :: lb).toArray := by simp
 rw [happ]
 refine hit (w.heap.size + 1) _ _ hround (blk w.heap.size (.deferred (some [])) :: F) _ (fun v xs hS => Tr.sep_iff.2 fun w3 hw3 => ?_) (fun v pre hS => Tr.sep_iff.2 fun w3 hw3 => ?_) _ hst
 ·have hl3 := hw3.get
  refine ⟨none, .ready, by simp, by rw [hrr]; exact hl3, ?_⟩
  have hp : Sat (w3.putObj (w.heap.size + 1) (.loop { r with state := .exhausted, pending := none })) (blk (w.heap.size + 1) (.loop { r with state := .exhausted, pending := none }) :: I xs :: (DL ++ blk w.heap.size (.deferred (some [])) :: F)) := hw3.put rfl ⟨rfl, rfl, rfl⟩
  exact hdone _ xs hS _ (Q5 (hp.perm hshuf.symm).tail)
 ·have hl3 := hw3.get
  refine ⟨some .ret, .done, by simp, hl3, ?_⟩
  have hp : Sat (w3.putObj (w.heap.size + 1) (.loop { r with state := .exhausted, pending := some .ret })) (blk (w.heap.size + 1) (.loop { r with state := .exhausted, pending := some .ret }) :: Ix pre :: (DL ++ blk w.heap.size (.deferred (some [])) :: F)) := hw3.put rfl ⟨rfl, rfl, rfl⟩
  exact hstop _ pre hS _ (Q5 (hp.perm hshuf.symm).tail)
end
theorem xBR {P : Program} {l : Nat} {args : List Value} {K : Value → WP} {o : WP} : XZ P (.func (.yield l) #[] #[]) args.toArray K o = xcx P l args.toArray K := by
 rw [xry]; simp
abbrev fsB (b : Nat) (sf : SV) : Xc := blk b (.cells #[sf.v] 35 (0, 0))
def xL2 (x : xBK) : Array Value := #[.agg (En.enc x).toArray]
def xGb (c : xs2) (x : xBK) : Prop := 0 ≤ x.mode ∧ x.mode < c.modes.d.length
theorem xD4 {c : xs2} {p x : xBK} {f : xBL} (h : xCq c p f = some x) : xGb c x := by
 unfold xCq at h
 split at h
 ·cases h
 rename_i h1
 split at h
 ·cases h
 cases h
 exact ⟨by show 0 ≤ xCn _ _ _; omega, by show xCn _ _ _ < _; omega⟩
theorem xCF {c : xs2} {p : xBK} {f : xBL} {r : List xBL} (h : xCq c p f = none) : xBH c p (f :: r) = [] := by
 rw [xBH, h]
theorem xCG {c : xs2} {p x : xBK} {f : xBL} {r : List xBL} (h : xCq c p f = some x) : xBH c p (f :: r) = x :: xBH c x r := by
 rw [xBH, h]
abbrev p0 : xBK := ⟨0, 0, 0, 0⟩
end
section
attribute [local irreducible] BrK Xq Xt Xv XI FnK XZ Xw XC XV opX opK Yq Yk eqR Yj Yo Ys WL WD W X3 XO Tr drewK Ya X4 Yw Yv X1 YB mp blk rob sl sep ex fact old
section
attribute [local irreducible] xRZ
section
variable {c : xs2} {sf : SV} {fs : List xBL} {b1 b2 : Nat}
theorem xCf : Xb prog 93 #[.agg (En.enc c).toArray, sf.v] [] fun v l' => ∃ b1 b2, v = .func (.func 141) #[] #[.pointer (some ⟨b1, 0, none⟩), .pointer (some ⟨b2, 0, none⟩)] ∧ l' = [fsB b1 sf, cfB b2 c] := by
 intro F K hK
 simp only [List.nil_append]
 refine S.I fun u => ?_
 have hX := @xBR; repeat' (first | refine S.x ?_ | refine S.y ?_ ?_ | (refine G.prop ?_; assumption) | intro hb | ((fail_if_success refine G.tr ?_); exact G.prop S.p) | fail)
 all_goals exact Tr.fin hK ⟨_, _, rfl, rfl⟩ S.E
structure pgI (c : xs2) (fs : List xBL) (x : Nat × List xBK × xBK) : Prop where
 k : x.1 ≤ fs.length
 e : x.2.1 ++ xBH c x.2.2 (fs.drop x.1) = xBH c p0 fs
theorem xD6 (hs : shC c) (hf : fs.length ≤ 1000000000) : xtw prog 141 [.pointer (some ⟨b1, 0, none⟩), .pointer (some ⟨b2, 0, none⟩)] xL2 (xGb c) [fsB b1 sf, cfB b2 c, sl true sf.v fs, sl true c.modes.s.v c.modes.d, sl true c.down.s.v c.down.d, sl true c.up.s.v c.up.d]
  (fun xs => xs = xBH c p0 fs) (fun pre => pre <+: xBH c p0 fs) (xBH c p0 fs).length := by
 intro L J Jx hR F K hdone hstop
 simp only [ap] at hdone hstop ⊢
 refine S.I fun u => ?_
 have hX := And.intro @xBR @xKg; repeat' (first | intro (pb : Nat) | refine S.x ?_ | refine S.y ?_ ?_ | (refine G.call 142 ?_; refine S.c ?_ (h := xC2 hs)) | rintro _ _ ⟨rfl, rfl⟩ | (refine G.prop ?_; assumption) | intro hb | ((fail_if_success refine G.tr ?_); exact G.prop S.p) | fail)
 refine Tr.loopE (α := Nat × List xBK × xBK) [11] [0, 1, 2, 4, 9, 10] (fun x => [.int .i64 x.1]) (fun x => [J x.2.1, blk pb (.cells (En.enc x.2.2).toArray 113 (0, 0)), fsB b1 sf, cfB b2 c]) (pgI c fs) (fun x => fs.length - x.1) (0, [], p0) S.T rfl ⟨Nat.zero_le _, rfl⟩ fun x u hI => ?_
 obtain ⟨k, pre, p⟩ := x
 obtain ⟨hk, he⟩ := hI
 simp only at hk he ⊢
 simp only [ap]
 by_cases hin : k < fs.length
 ·have hw := Xo (k := k) S.o
  have hd : fs.drop k = ix fs (k : Int) :: fs.drop (k + 1) := by rw [List.drop_eq_getElem_cons hin]; simp [ix, hin]
  rw [hd] at he
  have hnx := xC2 (p := p) (f := ix fs (k : Int)) hs
  cases hp : xCq c p (ix fs (k : Int)) with
  | none =>
   rw [xCF hp, List.append_nil] at he
   rw [hp] at hnx
   simp only [Option.getD_none, Option.isSome_none] at hnx
   have hX := I3 @xBR hw @xJM; repeat' (first | rintro _ _ ⟨rfl, rfl⟩ | rintro _ _ ⟨rfl, rfl⟩ | (refine G.call 142 ?_; refine S.c ?_ (h := hnx)) | (refine Tr.yield hR _ rfl ‹_› (by first | assumption | decide) S.K ?_ ?_) | refine S.x ?_ | refine S.y ?_ ?_ | (refine G.call 142 ?_; refine S.c ?_ (h := xC2 hs)) | (refine G.prop ?_; assumption) | intro hb | ((fail_if_success refine G.tr ?_); exact G.prop S.p) | fail)
   all_goals
    refine Tr.ent2 ?_ (hdone _ _ he)
    exact S.E
  | some x =>
   rw [xCG hp] at he
   rw [hp] at hnx
   simp only [Option.getD_some, Option.isSome_some] at hnx
   have he2 : (pre ++ [x]) ++ xBH c x (fs.drop (k + 1)) = xBH c p0 fs := by rw [List.append_assoc]; exact he
   have hpl : pre.length < (xBH c p0 fs).length := by rw [← he]; simp
   have hpx : pre ++ [x] <+: xBH c p0 fs := ⟨_, he2⟩
   have hok := xD4 hp
   have hX := I3 @xBR hw @xJM; repeat' (first | rintro _ _ ⟨rfl, rfl⟩ | rintro _ _ ⟨rfl, rfl⟩ | (refine G.call 142 ?_; refine S.c ?_ (h := hnx)) | (refine Tr.yield hR _ rfl ‹_› (by first | assumption | decide) S.K ?_ ?_) | refine S.x ?_ | refine S.y ?_ ?_ | (refine G.call 142 ?_; refine S.c ?_ (h := xC2 hs)) | (refine G.prop ?_; assumption) | intro hb | ((fail_if_success refine G.tr ?_); exact G.prop S.p) | fail)
   ·have hI : pgI c fs (k + 1, pre ++ [x], x) := ⟨hin, he2⟩
    exact S.R ((k + 1, pre ++ [x], x) : Nat × List xBK × xBK)
   ·refine Tr.ent2 ?_ (hstop _ _ hpx)
    exact S.E
 ·have hke : k = fs.length := by omega
  rw [hke, List.drop_length] at he
  have hX := I3 @xBR hke @xJM; repeat' (first | refine S.x ?_ | refine S.y ?_ ?_ | (refine G.call 142 ?_; refine S.c ?_ (h := xC2 hs)) | rintro _ _ ⟨rfl, rfl⟩ | (refine G.prop ?_; assumption) | intro hb | ((fail_if_success refine G.tr ?_); exact G.prop S.p) | fail)
  all_goals
   refine Tr.ent2 ?_ (hdone _ pre ?_)
   ·exact S.E
   ·rw [← he]; exact (List.append_nil _).symm
end
end
end
theorem xB0 {c : xs2} : ∀ {fs : List xBL} {p : xBK}, (xBH c p fs).length ≤ fs.length
 | [], p => by rw [xBH]; exact Nat.le_refl _
 | f :: fs, p => by
  cases h : xCq c p f with
  | none => rw [xCF h]; exact Nat.zero_le _
  | some x => rw [xCG h, List.length_cons, List.length_cons]; exact Nat.succ_le_succ xB0
noncomputable def xK0 : Code := match Tryz.f45.body with
 | some c => c
 | none => .skip
theorem xIz : Tryz.f45.body = some xK0 := by kernel_rfl
def plN : Nat → Xj := fun _ => .fin
theorem xJV : xaP Tryz.f45.ntmps plN xK0 = true := by kernel_rfl
def iL {α : Type} [En α] (T : Nat) (b : Nat) (xs : List α) : Xc := ex fun s : SV => sep (blk b (.cells #[s.v] T (0, 0))) (sl false s.v xs)
theorem xHe {α : Type} [En α] {T b : Nat} {xs : List α} {s : SV} {l l1 l2 : List Xc} {X : WP} (h1 : Xm l (blk b (.cells #[s.v] T (0, 0))) l1) (h2 : Xm l1 (sl false s.v xs) l2) (h : Tr (iL T b xs :: l2) X) : Tr l X :=
 Tr.ent2 (Xd.ex s (Xd.sep (Xd.take h1 (Xd.take h2 Xd.done)))) h
theorem xDO {α : Type} [En α] {T b : Nat} {xs : List α} {l : List Xc} {X : WP} (h : ∀ s : SV, Tr (blk b (.cells #[s.v] T (0, 0)) :: sl false s.v xs :: l) X) : Tr (iL T b xs :: l) X :=
 Tr.ex_iff.2 fun s => Tr.sep_iff.2 (h s)
def noA {α : Type} : List α → Xc := fun _ => fact False
theorem xF8 {α : Type} {xs : List α} {l : List Xc} {X : WP} : Tr (noA xs :: l) X := Tr.fact_iff.2 fun h => h.elim
section
attribute [local irreducible] BrK Xq Xt Xv XI FnK XZ Xw XC XV opX opK Yq Yk eqR Yj Yo Ys WL WD W X3 XO Tr drewK Ya X4 Yw Yv X1 YB mp blk rob sl sep ex fact old
section
attribute [local irreducible] xRZ WM xgA
section
variable {c : xs2} {sf : SV} {fs : List xBL} {b1 b2 : Nat}
theorem xB4 (hs : shC c) (hf : fs.length ≤ 1000000) : Xb prog 45 #[.agg (En.enc c).toArray, sf.v] [sl true sf.v fs, sl true c.modes.s.v c.modes.d, sl true c.down.s.v c.down.d, sl true c.up.s.v c.up.d]
  fun v l' => ∃ s : SV, v = s.v ∧ l' = [sl false s.v (xBH c p0 fs)] := by
 intro F K hK
 simp only [ap]
 refine Tr.enterM (T := plN) (rs := [.tmp 4]) mixed Tryz.func45 xIz xJV rfl (by simp) fun u => ?_
 simp only [xK0, Tryz.f45]
 have hX := I6 @xBR @xj0 @xeO @xqD @xck @xjX; repeat' (first | intro (ob : Nat) | refine S.x ?_ | refine S.y ?_ ?_ | (refine G.call 93 ?_; refine S.c ?_ (h := xCf)) | rintro _ _ ⟨_, _, rfl, rfl⟩ | (refine G.prop ?_; assumption) | intro hb | ((fail_if_success refine G.tr ?_); exact G.prop S.p) | fail)
 rename_i w1 w2
 refine Tr.nilSl (α := xBK) ?_
 refine xHe (α := xBK) (xs := []) (b := ob) (s := ⟨none, 0, 0⟩) S.K S.K ?_
 refine Tr.rangeA (T := plN) (I := iL 110 ob) (Ix := noA) mixed (xD6 (b1 := w1) (b2 := w2) (sf := sf) (fs := fs) hs S.o) rfl (by kernel_rfl) S.T (fun x => rfl) (by decide) (by kernel_rfl) (by kernel_rfl) (by kernel_rfl) (by kernel_rfl) ?hbody ?hdone ?hstop
 case hbody =>
  intro pre x Gl Gm B R hN hx hB h1 h2
  have hpl := xB0 (c := c) (fs := fs) (p := p0)
  refine xDO fun s => ?_
  show Tr _ (W _ _ _ _ (upd _ 10 (.agg (En.enc x).toArray)))
  have hX := @xBR; repeat' (first | intro (xb : Nat) | refine S.x ?_ | refine S.y ?_ ?_ | (refine G.call 93 ?_; refine S.c ?_ (h := xCf)) | rintro _ _ ⟨_, _, rfl, rfl⟩ | (refine G.prop ?_; assumption) | intro hb | ((fail_if_success refine G.tr ?_); exact G.prop S.p) | fail)
  refine hB [_, _, _] _ ?_
  simp only [ap]
  have hX := @xBR; repeat' (first | intro (sv : SV) | refine S.x ?_ | refine S.y ?_ ?_ | (refine G.call 93 ?_; refine S.c ?_ (h := xCf)) | rintro _ _ ⟨_, _, rfl, rfl⟩ | (refine G.prop ?_; assumption) | intro hb | ((fail_if_success refine G.tr ?_); exact G.prop S.p) | fail)
  all_goals
   refine xHe (b := ob) (xs := pre ++ [x]) (s := sv) S.K S.K ?_
   refine Tr.ent2 ?_ (h1 _)
   exact S.E
 case hdone =>
  intro D xs hS
  subst hS
  refine xDO fun s => ?_
  have hX := I8 @xBR @xj0 @xeO @xqD @xck @xjX @xuW @xvk; repeat' (first | refine S.x ?_ | refine S.y ?_ ?_ | (refine G.call 93 ?_; refine S.c ?_ (h := xCf)) | rintro _ _ ⟨_, _, rfl, rfl⟩ | (refine G.prop ?_; assumption) | intro hb | ((fail_if_success refine G.tr ?_); exact G.prop S.p) | fail)
  all_goals
   refine Tr.mark S.K ?_
   rw [xkr]
   exact Tr.fin hK ⟨s, rfl, rfl⟩ S.E
 case hstop =>
  intro D pre hS
  exact xF8
end
end
section
def xBT (c : xs2) (p : xBK) : List xCk := xCA (ix c.modes.d p.mode).wins.d p.at_
structure xDe (c : xs2) : Prop where
 w : ∀ m ∈ c.modes.d, m.wins.d.length ≤ 1000
attribute [local irreducible] xRZ WM xgA
end
end
structure xB8 where
 due : Int
 at_ : Int
 part : Int
instance : Inhabited xB8 := ⟨⟨0, 0, 0⟩⟩
instance : En xB8 := ⟨fun d => [.int .i64 d.due, .int .i64 d.at_, .int .i64 d.part], 3, fun _ => rfl, fun _ => rfl, by decide⟩
instance {l : List Xc} {a b c : Int} : De l (.agg #[.int .i64 a, .int .i64 b, .int .i64 c]) (xB8.mk a b c) := ⟨rfl⟩
section
attribute [local irreducible] BrK Xq Xt Xv XI FnK XZ Xw XC XV opX opK Yq Yk eqR Yj Yo Ys WL WD W X3 XO Tr drewK Ya X4 Yw Yv X1 YB mp blk rob sl sep ex fact old
section
attribute [local irreducible] xRZ WM xgA
end
theorem ofF {α : Type} [Inhabited α] {p : α → Prop} {xs : List α} {n : Nat} (hn : n = xs.length) (h : ∀ j : Nat, j < n → p (ix xs (j : Int))) : ∀ x ∈ xs, p x := fun x hx => by
 obtain ⟨j, hj, e⟩ := List.mem_iff_getElem.1 hx
 have := h j S.o
 unfold ix at this
 rw [Int.toNat_natCast, List.getD_eq_getElem?_getD, List.getElem?_eq_getElem hj, e] at this
 exact this
theorem xCS {p : Nat → Prop} {k : Nat} (h : ∀ j : Nat, j < k → p j) (hk : p k) : ∀ j : Nat, j < k + 1 → p j := fun j hj => by
 by_cases e : j = k
 ·rw [e]; exact hk
 ·exact h j S.o
section
variable {c : xs2} {sd su : SV} {down up : List Int} {level r ladder : Int}
theorem xKY : Xb prog 10 #[.agg (En.enc c).toArray]
  [sl true c.parts.s.v c.parts.d, fzl c.parts.d, sl true c.chans.s.v c.chans.d, sl true c.modes.s.v c.modes.d, fzl c.modes.d, sl true c.levels.s.v c.levels.d, sl true c.naps.s.v c.naps.d, sl true c.down.s.v c.down.d, sl true c.up.s.v c.up.d]
  fun v l' => ∃ b : Bool, (b = true → shC c ∧ xDe c) ∧ v = .bool b ∧ l' = [] := by
 intro F K hK
 simp only [ap]
 refine S.I fun u => ?_
 by_cases h1 : c.parts.d.length ≤ 100 ∧ c.chans.d.length ≤ 100 ∧ c.modes.d.length ≤ 100 ∧ c.levels.d.length ≤ 100 ∧ c.naps.d.length ≤ 100 ∧ c.down.d.length ≤ 100 ∧ c.up.d.length ≤ 100
 ·obtain ⟨h1, h2, h3, h4, h5, h6, h7⟩ := h1
  repeat' (first | refine S.x ?_ | refine S.y ?_ ?_ | (refine G.prop ?_; assumption) | intro hb | ((fail_if_success refine G.tr ?_); exact G.prop S.p) | fail)
  refine Tr.loopE (α := Nat) [2, 3] [1] (fun k => [.bool false, .int .i64 k]) (fun _ => []) (fun k => k ≤ c.parts.d.length ∧ ∀ j : Nat, j < k → shP (ix c.parts.d (j : Int))) (fun k => c.parts.d.length - k) 0 S.T rfl ⟨Nat.zero_le _, fun j hj => absurd hj (Nat.not_lt_zero _)⟩ fun k u hk => ?_
  obtain ⟨hk, hall⟩ := hk
  simp only [List.nil_append]
  by_cases hin : k < c.parts.d.length
  ·have hw := Xo (k := k) S.o
   by_cases hp : (ix c.parts.d (k : Int)).regions.d.length ≤ 100 ∧ (ix c.parts.d (k : Int)).procs.d.length ≤ 100 ∧ (ix c.parts.d (k : Int)).ports.d.length ≤ 100 ∧ (ix c.parts.d (k : Int)).sems.d.length ≤ 100 ∧ (ix c.parts.d (k : Int)).pools.d.length ≤ 100 ∧ (ix c.parts.d (k : Int)).slates.d.length ≤ 100 ∧ (ix c.parts.d (k : Int)).acts.d.length ≤ 100
   ·obtain ⟨p1, p2, p3, p4, p5, p6, p7⟩ := hp
    have hall2 := xCS (p := fun j : Nat => shP (ix c.parts.d (j : Int))) hall ⟨by omega, by omega, by omega, by omega, by omega, by omega, by omega⟩
    have hX := hw; repeat' (first | refine S.x ?_ | refine S.y ?_ ?_ | (refine G.prop ?_; assumption) | intro hb | ((fail_if_success refine G.tr ?_); exact G.prop S.p) | fail)
    all_goals exact S.R (k + 1)
   ·have hX := hw; repeat' (first | refine S.x ?_ | refine S.y ?_ ?_ | (refine G.prop ?_; assumption) | intro hb | ((fail_if_success refine G.tr ?_); exact G.prop S.p) | fail)
    all_goals first
     | exact Tr.fin hK ⟨false, (fun h => by cases h), rfl, rfl⟩ S.E
     | (exfalso; omega)
  ·have hall3 := ofF (p := shP) S.o hall
   repeat' (first | refine S.x ?_ | refine S.y ?_ ?_ | (refine G.prop ?_; assumption) | intro hb | ((fail_if_success refine G.tr ?_); exact G.prop S.p) | fail)
   refine Tr.loopE (α := Nat) [2, 5] [1] (fun k => [.bool false, .int .i64 k]) (fun _ => []) (fun k => k ≤ c.modes.d.length ∧ ∀ j : Nat, j < k → (ix c.modes.d (j : Int)).wins.d.length ≤ 1000) (fun k => c.modes.d.length - k) 0 S.T rfl ⟨Nat.zero_le _, fun j hj => absurd hj (Nat.not_lt_zero _)⟩ fun k u hk => ?_
   obtain ⟨hk, halm⟩ := hk
   simp only [List.nil_append]
   by_cases hin : k < c.modes.d.length
   ·have hw := Xo (k := k) S.o
    by_cases hp : (ix c.modes.d (k : Int)).wins.d.length ≤ 100
    ·have hall2 := xCS (p := fun j : Nat => (ix c.modes.d (j : Int)).wins.d.length ≤ 1000) halm S.o
     have hX := hw; repeat' (first | refine S.x ?_ | refine S.y ?_ ?_ | (refine G.prop ?_; assumption) | intro hb | ((fail_if_success refine G.tr ?_); exact G.prop S.p) | fail)
     all_goals exact S.R (k + 1)
    ·have hX := hw; repeat' (first | refine S.x ?_ | refine S.y ?_ ?_ | (refine G.prop ?_; assumption) | intro hb | ((fail_if_success refine G.tr ?_); exact G.prop S.p) | fail)
     all_goals exact Tr.fin hK ⟨false, (fun h => by cases h), rfl, rfl⟩ S.E
   ·have halm3 := ofF (p := fun m : xCE => m.wins.d.length ≤ 1000) S.o halm
    repeat' (first | refine S.x ?_ | refine S.y ?_ ?_ | (refine G.prop ?_; assumption) | intro hb | ((fail_if_success refine G.tr ?_); exact G.prop S.p) | fail)
    all_goals exact Tr.fin hK ⟨true, (fun _ => ⟨⟨by omega, by omega, by omega, by omega, by omega, by omega, by omega, hall3, fun m hm => Nat.le_trans (halm3 m hm) (by decide)⟩, ⟨halm3⟩⟩), rfl, rfl⟩ S.E
 ·repeat' (first | refine S.x ?_ | refine S.y ?_ ?_ | (refine G.prop ?_; assumption) | intro hb | ((fail_if_success refine G.tr ?_); exact G.prop S.p) | fail)
  all_goals first
   | exact Tr.fin hK ⟨false, (fun h => by cases h), rfl, rfl⟩ S.E
   | (exfalso; omega)
theorem xCX : Xb prog 86 #[.int .i64 ladder, .int .i64 level] [] fun v l' => v = .bool (isM ladder level) ∧ l' = [] := by
 intro F K hK
 simp only [List.nil_append]
 refine S.I fun u => ?_
 repeat' (first | refine S.x ?_ | refine S.y ?_ ?_ | (refine G.prop ?_; assumption) | intro hb | ((fail_if_success refine G.tr ?_); exact G.prop S.p) | fail)
 all_goals
  refine Tr.fin hK ⟨?_, rfl⟩ S.E
  (simp_all [isM]) <;> omega
theorem xCg (_hd : down.length ≤ 1000000000) (_hu : up.length ≤ 1000000000) (h0 : 0 ≤ level) (h9 : level ≤ 2000000000) : Xb prog 94 #[.agg #[sd.v, su.v], .int .i64 level, .int .i64 r] [sl true sd.v down, sl true su.v up]
  fun v l' => v = .int .i64 (xCW down up level r) ∧ l' = [] := by
 intro F K hK
 simp only [ap]
 have hw1 := Ye (n := level - 1) S.o S.o
 have hw2 := Ye (n := level + 1) S.o S.o
 unfold xCW at hK
 rw [hw1, hw2] at hK
 by_cases c1 : level < down.length ∧ r < ix down level
 ·rw [if_pos ⟨h0, c1.1, c1.2⟩] at hK
  obtain ⟨c2, c3⟩ := c1
  refine S.I fun u => ?_
  have hX := And.intro hw1 hw2; repeat' (first | refine S.x ?_ | refine S.y ?_ ?_ | (refine G.prop ?_; assumption) | intro hb | ((fail_if_success refine G.tr ?_); exact G.prop S.p) | fail)
  all_goals exact Tr.fin hK ⟨rfl, rfl⟩ S.E
 ·rw [if_neg (fun h => c1 ⟨h.2.1, h.2.2⟩)] at hK
  by_cases c2 : 1 ≤ level ∧ level ≤ up.length ∧ ix up (level - 1) ≤ r
  ·rw [if_pos c2] at hK
   obtain ⟨c3, c4, c5⟩ := c2
   refine S.I fun u => ?_
   have hX := And.intro hw1 hw2; repeat' (first | refine S.x ?_ | refine S.y ?_ ?_ | (refine G.prop ?_; assumption) | intro hb | ((fail_if_success refine G.tr ?_); exact G.prop S.p) | fail)
   all_goals first
    | exact Tr.fin hK ⟨rfl, rfl⟩ S.E
    | exact absurd ⟨by assumption, by assumption⟩ c1
    | (exfalso; omega)
  ·rw [if_neg c2] at hK
   refine S.I fun u => ?_
   have hX := And.intro hw1 hw2; repeat' (first | refine S.x ?_ | refine S.y ?_ ?_ | (refine G.prop ?_; assumption) | intro hb | ((fail_if_success refine G.tr ?_); exact G.prop S.p) | fail)
   all_goals first
    | exact Tr.fin hK ⟨rfl, rfl⟩ S.E
    | exact absurd ⟨by assumption, by assumption⟩ c1
    | exact absurd ⟨by omega, by omega, by assumption⟩ c2
    | (exfalso; omega)
theorem xIZ (h0 : 0 ≤ level) (h9 : level ≤ 2000000000) : 0 ≤ xCW down up level r ∧ xCW down up level r ≤ level + 1 := by
 have hw1 := Ye (n := level - 1) S.o S.o
 have hw2 := Ye (n := level + 1) S.o S.o
 unfold xCW
 rw [hw1, hw2]
 split
 ·omega
 ·split <;> omega
