import Derived.Test.YtkapfpliiaegfaaGreatZ12
namespace Go.Proofs.YtkapfpliiaegfaaGreat
open Go Go.Wk Tryz
set_option maxHeartbeats 3200000
set_option maxRecDepth 100000
def Fst (n : Nat) (bad : Nat → Prop) (r : Int) : Prop := (r = -1 ∧ ∀ j, j < n → ¬ bad j) ∨ ∃ k : Nat, k < n ∧ r = (k : Int) ∧ bad k ∧ ∀ j, j < k → ¬ bad j
theorem Fst.uniq {n m : Nat} {p q : Nat → Prop} {r s : Int} (h1 : Fst n p r) (h2 : Fst m q s) (hn : n = m) (h : ∀ k, k < n → (p k ↔ q k)) : r = s := by
 subst hn
 rcases h1 with ⟨e1, a1⟩ | ⟨k, hk, e1, b1, c1⟩ <;> rcases h2 with ⟨e2, a2⟩ | ⟨j, hj, e2, b2, c2⟩
 ·rw [e1, e2]
 ·exact absurd ((h j hj).2 b2) (a1 j hj)
 ·exact absurd ((h k hk).1 b1) (a2 k hk)
 ·rcases Nat.lt_trichotomy k j with h3 | h3 | h3
  ·exact absurd ((h k hk).1 b1) (c2 k h3)
  ·rw [e1, e2, h3]
  ·exact absurd ((h j hj).2 b2) (c1 j h3)
def xBX (a b : Nat) (p : Nat → Bool) (k : Nat) : Prop := a ≤ k ∨ b ≤ k ∨ p k = true
structure xCT where
 ev : SV
 ms : SV
 bd : SV
 rn : SV
 idle : Int
 sleep : Int
 change : Int
 meter : Int
 sh : SV
 md : SV
 cr : SV
 late : Int
instance xLK : En xCT := ⟨fun d => [d.ev.v, d.ms.v, d.bd.v, d.rn.v, .int .i64 d.idle, .int .i64 d.sleep, .int .i64 d.change, .int .i64 d.meter, d.sh.v, d.md.v, d.cr.v, .int .i64 d.late], 12, fun _ => rfl, fun _ => rfl, by decide⟩
abbrev rsB (b : Nat) (r : xCT) : Xc := blk b (.cells (En.enc r).toArray 45 (0, 0))
theorem Tr.sepOp {Ls F : List Xc} {X : WP} (h : Tr (Ls ++ F) X) : Tr (xCp Ls :: F) X := Tr.imp Imp.sepO h
theorem Tr.sepCl {Ls l F : List Xc} {X : WP} (ht : YK l Ls F) (h : Tr (xCp Ls :: F) X) : Tr l X := Tr.imp (Imp.trans ht Imp.sepC) h
theorem xGJ {P : Program} {K : Value → WP} {T n : Nat} [hT : xKr P T n] {x y : Operand} {k : IntKind} {xs ys : List Int} (h1 : xs.length = n) (h2 : ys.length = n) : XO P .neq T x y (.agg (xs.map (Value.int k)).toArray) (.agg (ys.map (Value.int k)).toArray) K = K (.bool (!decide (xs = ys))) := by
 obtain ⟨fs, hu, hn, hf, hs, hg⟩ := xGF hT.h
 refine Zm (fun w => ?_) K
 have hgd : (eqGuard .neq T x y (.agg (xs.map (Value.int k)).toArray) (.agg (ys.map (Value.int k)).toArray)).run P w = .ok () w := by
  have hp : (program).run P w = .ok P w := by simp [program, Sem.run]
  simp [eqGuard, hp, hg]
 have hfo : P.fieldsOf T = fs := by simp [Program.fieldsOf, hu]
 have he : (Op.equal T (.agg (xs.map (Value.int k)).toArray) (.agg (ys.map (Value.int k)).toArray)).run P w = .ok (decide (xs = ys)) w := by
  show (Op.equalIn (9998 + 1 + 1) T _ _).run P w = _
  rw [run_equalIn_struct w (9998 + 1) T _ _ (by rw [hfo]; exact hu) hs, hfo]
  have := xC9 (P := P) (k := k) (d := 9998) (w := w) fs.toList [] xs ys [] (by simp [hn, h1]) S.o rfl fun i fd hfi => by
   rw [Array.getElem?_toList] at hfi
   have hi : i < n := by rw [← hn]; exact (Array.getElem?_eq_some_iff.1 hfi).1
   obtain ⟨fd', kk, a, b, c, e⟩ := hf i hi
   rw [hfi] at a
   obtain rfl := Option.some.inj a
   exact ⟨b, by simpa using c, kk, e⟩
  simpa using this
 simp only [Sem.run_bind, hgd, Result.andThen_ok, binOp, he, Sem.run_pure]
def bdL (x : xB8) : List Int := [x.due, x.at_, x.part]
instance : xKr prog 106 3 := ⟨by kernel_rfl⟩
theorem xEN {x y : Operand} {s t : xB8} {K : Value → WP} : XO prog .neq 106 x y (.agg (En.enc s).toArray) (.agg (En.enc t).toArray) K = K (.bool (!decide (bdL s = bdL t))) := xGJ (xs := bdL s) (ys := bdL t) rfl rfl
section
attribute [local irreducible] BrK Xq Xt Xv XI FnK XZ Xw XC XV opX opK Yq Yk eqR Yj Yo Ys WL WD W X3 XO Tr drewK Ya X4 Yw Yv X1 YB mp blk rob sl sep ex fact old
section
variable {c : xs2} {fv : SV} {fs : List xBL} {r : xCT} {bds : List xB8} {sheds modes : List Int} {creds : List (SL Int)}
theorem xCV {p : Nat → Bool} {g : Nat} {cap : List Value} {Z : Xc} {a b : Nat} [hg : xqo prog g] (ha : a ≤ 1000000000000000000) (hb : b ≤ 1000000000000000000) (hf : ∀ k : Nat, k < a → k < b → Xb prog g (.int .i64 (k : Int) :: cap).toArray [Z] fun v l' => v = .bool (p k) ∧ l' = [Z]) :
  Xb prog 42 #[.int .i64 (a : Int), .int .i64 (b : Int), .func (.func g) #[] cap.toArray] [Z] fun v l' => ∃ r : Int, Fst (max a b) (xBX a b p) r ∧ v = .int .i64 r ∧ l' = [Z] := by
 intro F K hK
 simp only [ap]
 obtain ⟨n, hn⟩ : ∃ n, n = max a b := ⟨_, rfl⟩
 rw [← hn] at hK
 have hmx : max (a : Int) (b : Int) = (n : Int) := by omega
 refine S.I fun u => ?_
 have hX := hmx; repeat' (first | refine S.x ?_ | refine S.y ?_ ?_ | (refine G.prop ?_; assumption) | intro hb | ((fail_if_success refine G.tr ?_); exact G.prop S.p) | fail)
 refine Tr.loopE (α := Nat) [6, 11] [0, 1, 2, 10] (fun x => [.int .i64 0, .int .i64 x]) (fun _ => [Z]) (fun x => x ≤ n ∧ ∀ j : Nat, j < x → ¬ xBX a b p j) (fun x => n - x) 0 S.T rfl ⟨Nat.zero_le _, fun j hj => absurd hj (Nat.not_lt_zero _)⟩ fun k u hk => ?_
 obtain ⟨hk, hm⟩ := hk
 simp only [ap]
 by_cases hin : k < n
 ·have hw := Xo (k := k) S.o
  by_cases h1 : a ≤ k
  ·have hfi : Fst n (xBX a b p) (k : Int) := .inr ⟨k, hin, rfl, .inl h1, hm⟩
   repeat' (first | refine S.x ?_ | refine S.y ?_ ?_ | (refine G.prop ?_; assumption) | intro hb | ((fail_if_success refine G.tr ?_); exact G.prop S.p) | fail)
   all_goals exact Tr.fin hK ⟨_, hfi, rfl, rfl⟩ S.E
  ·by_cases h2 : b ≤ k
   ·have hfi : Fst n (xBX a b p) (k : Int) := .inr ⟨k, hin, rfl, .inr (.inl h2), hm⟩
    repeat' (first | refine S.x ?_ | refine S.y ?_ ?_ | (refine G.prop ?_; assumption) | intro hb | ((fail_if_success refine G.tr ?_); exact G.prop S.p) | fail)
    all_goals exact Tr.fin hK ⟨_, hfi, rfl, rfl⟩ S.E
   ·have hfk := hf k S.o S.o
    cases hp : p k with
    | true =>
     have hfi : Fst n (xBX a b p) (k : Int) := .inr ⟨k, hin, rfl, .inr (.inr hp), hm⟩
     rw [hp] at hfk
     repeat' (first | rintro _ _ ⟨rfl, rfl⟩ | (refine G.call g ?_; refine S.c ?_ (h := hfk)) | refine S.x ?_ | refine S.y ?_ ?_ | (refine G.prop ?_; assumption) | intro hb | ((fail_if_success refine G.tr ?_); exact G.prop S.p) | fail)
     all_goals exact Tr.fin hK ⟨_, hfi, rfl, rfl⟩ S.E
    | false =>
     have hm2 : ∀ j : Nat, j < k + 1 → ¬ xBX a b p j := xCS hm (by rintro (h | h | h) <;> first | contradiction | (rw [hp] at h; cases h))
     rw [hp] at hfk
     have hX := hw; repeat' (first | rintro _ _ ⟨rfl, rfl⟩ | (refine G.call g ?_; refine S.c ?_ (h := hfk)) | refine S.x ?_ | refine S.y ?_ ?_ | (refine G.prop ?_; assumption) | intro hb | ((fail_if_success refine G.tr ?_); exact G.prop S.p) | fail)
     all_goals exact S.R (k + 1)
 ·obtain rfl : k = n := by omega
  have hfi : Fst k (xBX a b p) (-1) := .inl ⟨rfl, hm⟩
  repeat' (first | refine S.x ?_ | refine S.y ?_ ?_ | (refine G.prop ?_; assumption) | intro hb | ((fail_if_success refine G.tr ?_); exact G.prop S.p) | fail)
  all_goals exact Tr.fin hK ⟨_, hfi, rfl, rfl⟩ S.E
theorem xKD {wb rb k : Nat} {sw : SV} {want : List xB8} (h1 : k < want.length) (h2 : k < bds.length) : Xb prog 43 #[.int .i64 (k : Int), .pointer (some ⟨wb, 0, none⟩), .pointer (some ⟨rb, 0, none⟩)]
  [xCp [blk wb (.cells #[sw.v] 40 (0, 0)), rsB rb r, sl false sw.v want, sl true r.bd.v bds]]
  fun v l' => v = .bool (!decide (bdL (ix want (k : Int)) = bdL (ix bds (k : Int)))) ∧ l' = [xCp [blk wb (.cells #[sw.v] 40 (0, 0)), rsB rb r, sl false sw.v want, sl true r.bd.v bds]] := by
 intro F K hK
 refine Tr.sepOp ?_
 simp only [ap]
 refine S.I fun u => ?_
 have hX := And.intro @xEN @xsY.eq_def; repeat' (first | refine S.x ?_ | refine S.y ?_ ?_ | (refine G.prop ?_; assumption) | intro hb | ((fail_if_success refine G.tr ?_); exact G.prop S.p) | fail)
 all_goals
  refine Tr.sepCl (Ls := [blk wb (.cells #[sw.v] 40 (0, 0)), rsB rb r, sl false sw.v want, sl true r.bd.v bds]) S.T ?_
  exact Tr.fin hK ⟨rfl, rfl⟩ (by simp only [ap, List.append_eq]; exact S.E)
theorem xDX (hs : shC c) (hf : fs.length ≤ 1000000) (hfw : xDe c) (hb : bds.length ≤ 1000000000) : Xb prog 13 #[.agg (En.enc c).toArray, fv.v, .agg (En.enc r).toArray]
  [sl true fv.v fs, sl true c.modes.s.v c.modes.d, fzl c.modes.d, sl true c.down.s.v c.down.d, sl true c.up.s.v c.up.d, sl true r.bd.v bds]
  fun v l' => ∃ n : Int, Fst (max (xB5 c fs).length bds.length) (xBX (xB5 c fs).length bds.length fun k => !decide (bdL (ix (xB5 c fs) (k : Int)) = bdL (ix bds (k : Int)))) n ∧ v = .int .i64 n ∧ l' = [] := by
 intro F K hK
 simp only [ap]
 have hbo := xGO (c := c) (sf := fv) (fs := fs) hs hf hfw
 have hbl : (xB5 c fs).length ≤ 1000000000000000000 := by
  have h1 := xCy (ss := xBY c (xBH c p0 fs))
  have h2 := xCZ hfw (ps := xBH c p0 fs) (xCi (c := c))
  have h3 := xB0 (c := c) (fs := fs) (p := p0)
  unfold xB5
  omega
 generalize xB5 c fs = want at *
 refine S.I fun u => ?_
 have hX := @xEN; repeat' (first | (refine G.call 41 ?_; refine S.c ?_ (h := hbo); rintro _ _ ⟨sw, rfl, rfl⟩) | intro (wb : Nat) | refine S.x ?_ | refine S.y ?_ ?_ | (refine G.prop ?_; assumption) | intro hb | ((fail_if_success refine G.tr ?_); exact G.prop S.p) | fail)
 rename_i cb rb
 have hu := xCV (a := want.length) (b := bds.length) (g := 43) (cap := [.pointer (some ⟨wb, 0, none⟩), .pointer (some ⟨rb, 0, none⟩)]) hbl S.o fun k h1 h2 => xKD (wb := wb) (rb := rb) (sw := sw) (r := r) h1 h2
 refine Tr.sepCl (Ls := [blk wb (.cells #[sw.v] 40 (0, 0)), rsB rb r, sl false sw.v want, sl true r.bd.v bds]) S.T ?_
 have hX := @xEN; repeat' (first | (refine G.call 42 ?_; refine S.c ?_ (h := hu); rintro _ _ ⟨n, hn, rfl, rfl⟩) | refine S.x ?_ | refine S.y ?_ ?_ | (refine G.prop ?_; assumption) | intro hb | ((fail_if_success refine G.tr ?_); exact G.prop S.p) | fail)
 all_goals exact Tr.fin hK ⟨n, hn, rfl, rfl⟩ S.E
end
theorem Fst.both {P N M : Nat} {p q : Nat → Bool} {r1 r2 : Int} (h1 : Fst (max P N) (xBX P N p) r1) (h2 : Fst (max P M) (xBX P M q) r2) :
  Fst (max (max P N) M) (fun k => xBX P N p k ∨ xBX P M q k) (if r1 < 0 then r2 else if r2 < 0 then r1 else min r1 r2) := by
 have hlt : ∀ {B : Nat} {f : Nat → Bool} {j : Nat}, ¬ xBX P B f j → j < P ∧ j < B := fun h => ⟨Nat.lt_of_not_le fun e => h (.inl e), Nat.lt_of_not_le fun e => h (.inr (.inl e))⟩
 rcases h1 with ⟨e1, a1⟩ | ⟨k, hk, e1, b1, c1⟩ <;> rcases h2 with ⟨e2, a2⟩ | ⟨j, hj, e2, b2, c2⟩
 ·subst e1 e2
  refine .inl ⟨by decide, fun i hi hb => ?_⟩
  have hPS : P = N := by
   rcases Nat.lt_trichotomy P N with h | h | h
   ·exact absurd (.inl (Nat.le_refl _)) (a1 P S.o)
   ·exact h
   ·exact absurd (.inr (.inl (Nat.le_refl _))) (a1 N S.o)
  rcases hb with hb | hb
  ·by_cases hi2 : i < max P N
   ·exact a1 i hi2 hb
   ·exact absurd (.inl S.o) (a2 i S.o)
  ·by_cases hi2 : i < max P M
   ·exact a2 i hi2 hb
   ·exact absurd (.inl S.o) (a1 i S.o)
 ·subst e1 e2
  rw [if_pos (by decide)]
  refine .inr ⟨j, by omega, rfl, .inr b2, fun i hi hb => ?_⟩
  have := hlt (c2 i hi)
  rcases hb with hb | hb
  ·exact a1 i S.o hb
  ·exact c2 i hi hb
 ·subst e1 e2
  rw [if_neg S.o, if_pos (by decide)]
  refine .inr ⟨k, by omega, rfl, .inl b1, fun i hi hb => ?_⟩
  have := hlt (c1 i hi)
  rcases hb with hb | hb
  ·exact c1 i hi hb
  ·exact a2 i S.o hb
 ·subst e1 e2
  rw [if_neg S.o, if_neg S.o]
  by_cases hkj : k ≤ j
  ·refine .inr ⟨k, by omega, by omega, .inl b1, fun i hi hb => ?_⟩
   rcases hb with hb | hb
   ·exact c1 i hi hb
   ·exact c2 i S.o hb
  ·refine .inr ⟨j, by omega, by omega, .inr b2, fun i hi hb => ?_⟩
   rcases hb with hb | hb
   ·exact c1 i S.o hb
   ·exact c2 i hi hb
section
variable {c : xs2} {fv : SV} {fs : List xBL} {r : xCT} {sheds modes : List Int}
theorem xK1 {pb rb k : Nat} {sp : SV} {pg : List xBK} (h1 : k < pg.length) (h2 : k < sheds.length) : Xb prog 46 #[.int .i64 (k : Int), .pointer (some ⟨pb, 0, none⟩), .pointer (some ⟨rb, 0, none⟩)]
  [xCp [blk pb (.cells #[sp.v] 110 (0, 0)), rsB rb r, sl false sp.v pg, sl true r.sh.v sheds]]
  fun v l' => v = .bool (!decide ((ix pg (k : Int)).level = ix sheds (k : Int))) ∧ l' = [xCp [blk pb (.cells #[sp.v] 110 (0, 0)), rsB rb r, sl false sp.v pg, sl true r.sh.v sheds]] := by
 intro F K hK
 refine Tr.sepOp ?_
 simp only [ap]
 refine S.I fun u => ?_
 have hX := @xbB.eq_def; repeat' (first | refine S.x ?_ | refine S.y ?_ ?_ | (refine G.prop ?_; assumption) | intro hb | ((fail_if_success refine G.tr ?_); exact G.prop S.p) | fail)
 all_goals
  refine Tr.sepCl (Ls := [blk pb (.cells #[sp.v] 110 (0, 0)), rsB rb r, sl false sp.v pg, sl true r.sh.v sheds]) S.T ?_
  exact Tr.fin hK ⟨S.v, rfl⟩ (by simp only [ap, List.append_eq]; exact S.E)
theorem xLd {pb rb k : Nat} {sp : SV} {pg : List xBK} (h1 : k < pg.length) (h2 : k < modes.length) : Xb prog 47 #[.int .i64 (k : Int), .pointer (some ⟨pb, 0, none⟩), .pointer (some ⟨rb, 0, none⟩)]
  [xCp [blk pb (.cells #[sp.v] 110 (0, 0)), rsB rb r, sl false sp.v pg, sl true r.md.v modes]]
  fun v l' => v = .bool (!decide ((ix pg (k : Int)).mode = ix modes (k : Int))) ∧ l' = [xCp [blk pb (.cells #[sp.v] 110 (0, 0)), rsB rb r, sl false sp.v pg, sl true r.md.v modes]] := by
 intro F K hK
 refine Tr.sepOp ?_
 simp only [ap]
 refine S.I fun u => ?_
 have hX := @xLF.eq_def; repeat' (first | refine S.x ?_ | refine S.y ?_ ?_ | (refine G.prop ?_; assumption) | intro hb | ((fail_if_success refine G.tr ?_); exact G.prop S.p) | fail)
 all_goals
  refine Tr.sepCl (Ls := [blk pb (.cells #[sp.v] 110 (0, 0)), rsB rb r, sl false sp.v pg, sl true r.md.v modes]) S.T ?_
  exact Tr.fin hK ⟨S.v, rfl⟩ (by simp only [ap, List.append_eq]; exact S.E)
theorem xDY (hs : shC c) (hf : fs.length ≤ 1000000) (h1 : sheds.length ≤ 1000000000) (h2 : modes.length ≤ 1000000000) : Xb prog 15 #[.agg (En.enc c).toArray, fv.v, .agg (En.enc r).toArray]
  [sl true fv.v fs, sl true c.modes.s.v c.modes.d, sl true c.down.s.v c.down.d, sl true c.up.s.v c.up.d, sl true r.sh.v sheds, sl true r.md.v modes]
  fun v l' => ∃ n : Int, Fst (max (max (xBH c p0 fs).length sheds.length) modes.length) (fun k => xBX (xBH c p0 fs).length sheds.length (fun k => !decide ((ix (xBH c p0 fs) (k : Int)).level = ix sheds (k : Int))) k ∨ xBX (xBH c p0 fs).length modes.length (fun k => !decide ((ix (xBH c p0 fs) (k : Int)).mode = ix modes (k : Int))) k) n ∧ v = .int .i64 n ∧ l' = [] := by
 intro F K hK
 simp only [ap]
 have hpg := xB4 (c := c) (sf := fv) (fs := fs) hs hf
 have h3 := xB0 (c := c) (fs := fs) (p := p0)
 generalize xBH c p0 fs = pg at *
 refine S.I fun u => ?_
 repeat' (first | (refine G.call 45 ?_; refine S.c ?_ (h := hpg); rintro _ _ ⟨sp, rfl, rfl⟩) | intro (pb : Nat) | refine S.x ?_ | refine S.y ?_ ?_ | (refine G.call 45 ?_; refine S.c ?_ (h := xB4 ‹_› S.o)) | rintro _ _ ⟨_, rfl, rfl⟩ | (refine G.prop ?_; assumption) | intro hb | ((fail_if_success refine G.tr ?_); exact G.prop S.p) | fail)
 rename_i cb rb
 have hu1 := xCV (a := pg.length) (b := sheds.length) (g := 46) (cap := [.pointer (some ⟨pb, 0, none⟩), .pointer (some ⟨rb, 0, none⟩)]) S.o S.o fun k h1 h2 => xK1 (pb := pb) (rb := rb) (sp := sp) (r := r) h1 h2
 have hu2 := xCV (a := pg.length) (b := modes.length) (g := 47) (cap := [.pointer (some ⟨pb, 0, none⟩), .pointer (some ⟨rb, 0, none⟩)]) S.o S.o fun k h1 h2 => xLd (pb := pb) (rb := rb) (sp := sp) (r := r) h1 h2
 refine Tr.sepCl (Ls := [blk pb (.cells #[sp.v] 110 (0, 0)), rsB rb r, sl false sp.v pg, sl true r.sh.v sheds]) S.T ?_
 refine G.call 42 ?_
 refine S.c ?_ (h := hu1)
 rintro _ _ ⟨n1, hn1, rfl, rfl⟩
 refine Tr.sepOp ?_
 simp only [ap, List.append_eq]
 repeat' (first | (refine Tr.sepCl (Ls := [blk pb (.cells #[sp.v] 110 (0, 0)), rsB rb r, sl false sp.v pg, sl true r.md.v modes]) S.T ?_; refine G.call 42 ?_; refine S.c ?_ (h := hu2); rintro _ _ ⟨n2, hn2, rfl, rfl⟩) | refine S.x ?_ | refine S.y ?_ ?_ | (refine G.call 45 ?_; refine S.c ?_ (h := xB4 ‹_› S.o)) | rintro _ _ ⟨_, rfl, rfl⟩ | (refine G.prop ?_; assumption) | intro hb | ((fail_if_success refine G.tr ?_); exact G.prop S.p) | fail)
 all_goals
  have hb := Fst.both hn1 hn2
  clear hu1 hu2 hpg
  first
   | (rw [if_pos S.o] at hb; exact Tr.fin hK ⟨_, hb, rfl, rfl⟩ S.E)
   | (rw [if_neg S.o, if_pos S.o] at hb; exact Tr.fin hK ⟨_, hb, rfl, rfl⟩ S.E)
   | (rw [if_neg S.o, if_neg S.o, show min n1 n2 = if n2 < n1 then n2 else n1 by split <;> omega] at hb; exact Tr.fin hK ⟨_, hb, rfl, rfl⟩ S.E)
end
section
def xDK (c : xs2) (w : xDL) : Prop := 0 ≤ w.part ∧ w.part < (c.parts.d.length : Int)
def xIA (c : xs2) (m : xCE) : Prop := ∀ i : Nat, i < m.wins.d.length → xDK c (ix m.wins.d (i : Int))
theorem xJa {c : xs2} (h : ∀ j : Nat, j < c.modes.d.length → xIA c (ix c.modes.d (j : Int))) : xDd c = true := by
 unfold xDd
 refine List.all_eq_true.2 fun m hm => List.all_eq_true.2 fun w hw => ?_
 have h1 := ofF (p := xIA c) rfl h m hm
 have h2 := ofF (p := xDK c) rfl h1 w hw
 rw [decide_eq_true h2.1, decide_eq_true h2.2]; rfl
theorem xJD {c : xs2} {j i : Nat} (hj : j < c.modes.d.length) (hi : i < (ix c.modes.d (j : Int)).wins.d.length) (h : ¬ xDK c (ix (ix c.modes.d (j : Int)).wins.d (i : Int))) : xDd c = false := by
 cases e : xDd c with
 | false => rfl
 | true =>
  unfold xDd at e
  have h1 := List.all_eq_true.1 e _ (xCm hj)
  have h2 := List.all_eq_true.1 h1 _ (xCm hi)
  rw [Bool.and_eq_true] at h2
  exact absurd ⟨of_decide_eq_true h2.1, of_decide_eq_true h2.2⟩ h
def zer (c : xs2) : List Int := List.replicate c.parts.d.length 0
theorem xDo {c : xs2} : (zer c).length = c.parts.d.length := List.length_replicate
def xD1 (c : xs2) (fs : List xBL) : List Int := xBW (xCx c (xBH c p0 fs)) (zer c)
theorem xIK {c : xs2} {fs : List xBL} : (xD1 c fs).length = c.parts.d.length := by unfold xD1; rw [xDi, xDo]
theorem xCU {c : xs2} (hfw : xDe c) : ∀ {ps : List xBK}, (∀ p ∈ ps, xGb c p) → (xCx c ps).length ≤ 1000 * ps.length
 | [], _ => Nat.le_refl _
 | p :: ps, h => by
  have h2 := xCU hfw (ps := ps) fun q hq => h q (List.mem_cons_of_mem _ hq)
  have hp := h p (List.mem_cons_self ..)
  have h1 : (xDW c p).length ≤ 1000 := by
   unfold xDW
   rw [List.length_map]
   exact Nat.le_trans (List.length_filter_le _ _) (hfw.w _ (List.mem_of_getElem? (Yi hp.1 hp.2)))
  unfold xCx at h2 ⊢
  rw [List.flatMap_cons, List.length_append, List.length_cons]
  omega
theorem xHs {c : xs2} {l : List Int} {w : Int} (hl : l.length ≤ 1000000000) : 0 ≤ ix (xBW l (zer c)) w ∧ ix (xBW l (zer c)) w ≤ 1000000000 := by
 have h := xF7 (l := l) (ws := zer c) (b := 0) fun x hx => by
  have := List.eq_of_mem_replicate hx
  omega
 rcases Decidable.em (w.toNat < (xBW l (zer c)).length) with h1 | h1
 ·have : ix (xBW l (zer c)) w ∈ xBW l (zer c) := by
   unfold ix
   rw [List.getD_eq_getElem?_getD, List.getElem?_eq_getElem h1]
   exact List.getElem_mem h1
  have := h _ this
  omega
 ·have : ix (xBW l (zer c)) w = 0 := by
   unfold ix
   rw [List.getD_eq_getElem?_getD, List.getElem?_eq_none S.o]
   rfl
  rw [this]; exact ⟨by decide, by decide⟩
theorem xHx {c : xs2} (h : xDd c = true) {p : xBK} (hp : xGb c p) {j : Nat} (hj : j < (ix c.modes.d p.mode).wins.d.length) : xDK c (ix (ix c.modes.d p.mode).wins.d (j : Int)) := by
 have h1 := List.all_eq_true.1 h _ (List.mem_of_getElem? (Yi hp.1 hp.2))
 have h2 := List.all_eq_true.1 h1 _ (xCm hj)
 rw [Bool.and_eq_true] at h2
 exact ⟨of_decide_eq_true h2.1, of_decide_eq_true h2.2⟩
attribute [local irreducible] xB2
section
variable {c : xs2} {fv : SV} {fs : List xBL}
theorem xDA (hs : shC c) (hf : fs.length ≤ 1000000) (hfw : xDe c) : Xb prog 56 #[.agg (En.enc c).toArray, fv.v]
  [sl true fv.v fs, sl true c.parts.s.v c.parts.d, sl true c.modes.s.v c.modes.d, fzl c.modes.d, sl true c.down.s.v c.down.d, sl true c.up.s.v c.up.d]
  fun v l' => ∃ (s : SV) (xs : List Int), (xDd c = true → xs = xD1 c fs) ∧ v = .tuple #[s.v, .bool (xDd c)] ∧ l' = [sl false s.v xs] := by
 intro F K hK
 simp only [ap]
 have hsm := hs.m
 have hsp := hs.p
 have hp9 := xB0 (c := c) (fs := fs) (p := p0)
 have hpa := xCi (c := c) (fs := fs) (p := p0)
 have hpg := xB4 (c := c) (sf := fv) (fs := fs) hs hf
 have hzl := xDo (c := c)
 have hze : List.replicate ((c.parts.d.length : Int).toNat) (default : Int) = zer c := by unfold zer; rw [Int.toNat_natCast]; rfl
 unfold xD1 at hK
 have hfr : ∀ {l : List Int} {w : Int}, l.length ≤ 1000000000 → 0 ≤ ix (xBW l (zer c)) w ∧ ix (xBW l (zer c)) w ≤ 1000000000 := fun h => xHs h
 have hwl := xCU hfw (ps := xBH c p0 fs) hpa
 generalize xBH c p0 fs = pg at *
 generalize zer c = zs at *
 refine S.I fun u => ?_
 have hX := @xDM.eq_def; repeat' (first | intro (so : SV) | refine S.x ?_ | refine S.y ?_ ?_ | (refine G.call 45 ?_; refine S.c ?_ (h := xB4 ‹_› S.o)) | (refine G.call 85 ?_; refine S.c ?_ (h := xCr)) | rintro _ _ ⟨rfl, rfl⟩ | rintro _ _ ⟨_, rfl, rfl⟩ | (refine G.prop ?_; assumption) | intro hb | ((fail_if_success refine G.tr ?_); exact G.prop S.p) | fail)
 obtain ⟨cb, rfl⟩ : ∃ cb, cb = hb := ⟨_, rfl⟩
 rw [hze]
 clear hze
 refine Tr.loopE (α := Nat) [4, 5, 22] [1, 2, 6, 20, 21] (fun k => [.slice none 0 0, .bool false, .int .i64 k]) (fun _ => [sl false so.v zs, cfB cb c]) (fun k => k ≤ c.modes.d.length ∧ ∀ j : Nat, j < k → xIA c (ix c.modes.d (j : Int))) (fun k => c.modes.d.length - k) 0 S.T rfl ⟨Nat.zero_le _, fun j hj => absurd hj (Nat.not_lt_zero _)⟩ fun k u hk => ?_
 obtain ⟨hk, hm⟩ := hk
 simp only [ap]
 by_cases hin : k < c.modes.d.length
 ·have hw := Xo (k := k) S.o
  have hwl1 : (ix c.modes.d (k : Int)).wins.d.length ≤ 1000 := hfw.w _ (xCm hin)
  have hX := @xDM.eq_def; repeat' (first | intro (mb : Nat) | refine S.x ?_ | refine S.y ?_ ?_ | (refine G.call 45 ?_; refine S.c ?_ (h := xB4 ‹_› S.o)) | (refine G.call 85 ?_; refine S.c ?_ (h := xCr)) | rintro _ _ ⟨rfl, rfl⟩ | rintro _ _ ⟨_, rfl, rfl⟩ | (refine G.prop ?_; assumption) | intro hb | ((fail_if_success refine G.tr ?_); exact G.prop S.p) | fail)
  refine Tr.loopE (α := Nat) [4, 5, 29] [1, 2, 6, 20, 21, 22, 27, 28] (fun i => [.slice none 0 0, .bool false, .int .i64 i]) (fun _ => [sl false so.v zs, cfB cb c]) (fun i => i ≤ (ix c.modes.d (k : Int)).wins.d.length ∧ ∀ j : Nat, j < i → xDK c (ix (ix c.modes.d (k : Int)).wins.d (j : Int))) (fun i => (ix c.modes.d (k : Int)).wins.d.length - i) 0 S.T rfl ⟨Nat.zero_le _, fun j hj => absurd hj (Nat.not_lt_zero _)⟩ fun i u hi => ?_
  obtain ⟨hi, hmi⟩ := hi
  simp only [ap]
  by_cases hii : i < (ix c.modes.d (k : Int)).wins.d.length
  ·have hwi := Xo (k := i) S.o
   by_cases g1 : xDK c (ix (ix c.modes.d (k : Int)).wins.d (i : Int))
   ·have hm2 := xCS (p := fun j : Nat => xDK c (ix (ix c.modes.d (k : Int)).wins.d (j : Int))) hmi g1
    obtain ⟨g2, g3⟩ := g1
    have hX := I3 @xDM.eq_def hwi hzl; repeat' (first | intro (mb : Nat) | refine S.x ?_ | refine S.y ?_ ?_ | (refine G.call 45 ?_; refine S.c ?_ (h := xB4 ‹_› S.o)) | (refine G.call 85 ?_; refine S.c ?_ (h := xCr)) | rintro _ _ ⟨rfl, rfl⟩ | rintro _ _ ⟨_, rfl, rfl⟩ | (refine G.prop ?_; assumption) | intro hb | ((fail_if_success refine G.tr ?_); exact G.prop S.p) | fail)
    all_goals exact S.R (i + 1)
   ·have hmf := xJD hin hii g1
    rw [hmf] at hK
    have hfi := hK (.tuple #[.slice none 0 0, .bool false]) [sl false (⟨none, 0, 0⟩ : SV).v ([] : List Int)] ⟨⟨none, 0, 0⟩, [], (fun h => by cases h), rfl, rfl⟩
    unfold xDK at g1
    have hX := And.intro @xDM.eq_def hzl; repeat' (first | intro (mb : Nat) | refine S.x ?_ | refine S.y ?_ ?_ | (refine G.call 45 ?_; refine S.c ?_ (h := xB4 ‹_› S.o)) | (refine G.call 85 ?_; refine S.c ?_ (h := xCr)) | rintro _ _ ⟨rfl, rfl⟩ | rintro _ _ ⟨_, rfl, rfl⟩ | (refine G.prop ?_; assumption) | intro hb | ((fail_if_success refine G.tr ?_); exact G.prop S.p) | fail)
    all_goals
     refine Tr.nilSl (α := Int) ?_
     exact Tr.ent2 S.E hfi
  ·obtain rfl : i = (ix c.modes.d (k : Int)).wins.d.length := by omega
   have hm2 := xCS (p := fun j : Nat => xIA c (ix c.modes.d (j : Int))) hm hmi
   have hX := And.intro @xDM.eq_def hw; repeat' (first | refine S.x ?_ | refine S.y ?_ ?_ | (refine G.call 45 ?_; refine S.c ?_ (h := xB4 ‹_› S.o)) | (refine G.call 85 ?_; refine S.c ?_ (h := xCr)) | rintro _ _ ⟨rfl, rfl⟩ | rintro _ _ ⟨_, rfl, rfl⟩ | (refine G.prop ?_; assumption) | intro hb | ((fail_if_success refine G.tr ?_); exact G.prop S.p) | fail)
   all_goals exact S.R (k + 1)
 ·obtain rfl : k = c.modes.d.length := by omega
  have hmt := xJa hm
  rw [hmt] at hK
  have hX := @xDM.eq_def; repeat' (first | (refine G.call 45 ?_; refine S.c ?_ (h := hpg); rintro _ _ ⟨sp, rfl, rfl⟩) | refine S.x ?_ | refine S.y ?_ ?_ | (refine G.call 45 ?_; refine S.c ?_ (h := xB4 ‹_› S.o)) | (refine G.call 85 ?_; refine S.c ?_ (h := xCr)) | rintro _ _ ⟨rfl, rfl⟩ | rintro _ _ ⟨_, rfl, rfl⟩ | (refine G.prop ?_; assumption) | intro hb | ((fail_if_success refine G.tr ?_); exact G.prop S.p) | fail)
  have h0 : xBW (xCx c (pg.take 0)) zs = zs := rfl
  rw [← h0]
  refine Tr.loopE (α := Nat) [49] [2, 4, 5, 6, 47, 48] (fun k => [.int .i64 k]) (fun k => [sl false so.v (xBW (xCx c (pg.take k)) zs), sl false sp.v pg, cfB cb c]) (fun k => k ≤ pg.length) (fun k => pg.length - k) 0 S.T rfl (Nat.zero_le _) fun k u hk => ?_
  clear h0
  simp only [ap]
  by_cases hin : k < pg.length
  ·have hw := Xo (k := k) S.o
   have hx := hpa _ (xCm hin)
   have hx1 := hx.1
   have hx2 := hx.2
   have hwl1 : (ix c.modes.d (ix pg (k : Int)).mode).wins.d.length ≤ 1000 := hfw.w _ (List.mem_of_getElem? (Yi hx1 hx2))
   have htk : pg.take (k + 1) = pg.take k ++ [ix pg (k : Int)] := Yz hin
   have hwk := xCU hfw (ps := pg.take k) fun q hq => hpa q (List.mem_of_mem_take hq)
   rw [List.length_take] at hwk
   have hn : xBW (xCx c (pg.take (k + 1))) zs = xBW (xCx c (pg.take k) ++ xDW c (ix pg (k : Int))) zs := by rw [htk, xDw]
   clear htk
   generalize xCx c (pg.take k) = wl at *
   have hX := And.intro @xDM.eq_def hw; repeat' (first | intro (pb : Nat) | refine S.x ?_ | refine S.y ?_ ?_ | (refine G.call 45 ?_; refine S.c ?_ (h := xB4 ‹_› S.o)) | (refine G.call 85 ?_; refine S.c ?_ (h := xCr)) | rintro _ _ ⟨rfl, rfl⟩ | rintro _ _ ⟨_, rfl, rfl⟩ | (refine G.prop ?_; assumption) | intro hb | ((fail_if_success refine G.tr ?_); exact G.prop S.p) | fail)
   have h0 : wl = wl ++ xCh c (ix pg (k : Int)) 0 := by rw [xJJ, List.append_nil]
   rw [h0]
   refine Tr.loopE (α := Nat) [61] [2, 4, 5, 6, 12, 47, 48, 49, 59, 60] (fun j => [.int .i64 j]) (fun j => [sl false so.v (xBW (wl ++ xCh c (ix pg (k : Int)) j) zs), sl false sp.v pg, cfB cb c, blk pb (.cells (En.enc (ix pg (k : Int))).toArray 113 (0, 0))]) (fun j => j ≤ (ix c.modes.d (ix pg (k : Int)).mode).wins.d.length) (fun j => (ix c.modes.d (ix pg (k : Int)).mode).wins.d.length - j) 0 S.T rfl (Nat.zero_le _) fun j u hj => ?_
   clear h0
   simp only [ap]
   by_cases hjn : j < (ix c.modes.d (ix pg (k : Int)).mode).wins.d.length
   ·have hwj := Xo (k := j) S.o
    obtain ⟨p1, p2⟩ := xHx hmt hx hjn
    have hlk := xF5 (c := c) (p := ix pg (k : Int)) (k := j)
    obtain ⟨r0, r9⟩ := hfr (l := wl ++ xCh c (ix pg (k : Int)) j) (w := (ix (ix c.modes.d (ix pg (k : Int)).mode).wins.d (j : Int)).part) (by rw [List.length_append]; omega)
    have hsl : (xBW (wl ++ xCh c (ix pg (k : Int)) j) zs).length = c.parts.d.length := by rw [xDi, hzl]
    cases hI : isM (ix c.parts.d (ix (ix c.modes.d (ix pg (k : Int)).mode).wins.d (j : Int)).part).ladder (ix pg (k : Int)).level with
    | true =>
     have hst : xBW (wl ++ xCh c (ix pg (k : Int)) (j + 1)) zs = xBW (wl ++ xCh c (ix pg (k : Int)) j) zs := by rw [xGI hjn hI]
     generalize xBW (wl ++ xCh c (ix pg (k : Int)) j) zs = ws at *
     have hX := I3 @xDM.eq_def hwj hI; repeat' (first | intro (mb : Nat) | refine S.x ?_ | refine S.y ?_ ?_ | (refine G.call 45 ?_; refine S.c ?_ (h := xB4 ‹_› S.o)) | (refine G.call 85 ?_; refine S.c ?_ (h := xCr)) | rintro _ _ ⟨rfl, rfl⟩ | rintro _ _ ⟨_, rfl, rfl⟩ | (refine G.prop ?_; assumption) | intro hb | ((fail_if_success refine G.tr ?_); exact G.prop S.p) | fail)
     all_goals
      have hX := hst
      exact S.R (j + 1)
    | false =>
     have hst : xBW (wl ++ xCh c (ix pg (k : Int)) (j + 1)) zs = (xBW (wl ++ xCh c (ix pg (k : Int)) j) zs).set (ix (ix c.modes.d (ix pg (k : Int)).mode).wins.d (j : Int)).part.toNat (ix (xBW (wl ++ xCh c (ix pg (k : Int)) j) zs) (ix (ix c.modes.d (ix pg (k : Int)).mode).wins.d (j : Int)).part + 1) := by rw [xGp hjn hI, ← List.append_assoc, xDy]; rfl
     generalize xBW (wl ++ xCh c (ix pg (k : Int)) j) zs = ws at *
     have hwb := Ye (n := ix ws (ix (ix c.modes.d (ix pg (k : Int)).mode).wins.d (j : Int)).part + 1) S.o S.o
     have hX := I5 @xDM.eq_def hwj hI hwb hsl; repeat' (first | intro (mb : Nat) | refine S.x ?_ | refine S.y ?_ ?_ | (refine G.call 45 ?_; refine S.c ?_ (h := xB4 ‹_› S.o)) | (refine G.call 85 ?_; refine S.c ?_ (h := xCr)) | rintro _ _ ⟨rfl, rfl⟩ | rintro _ _ ⟨_, rfl, rfl⟩ | (refine G.prop ?_; assumption) | intro hb | ((fail_if_success refine G.tr ?_); exact G.prop S.p) | fail)
     all_goals
      have hX := hst
      exact S.R (j + 1)
   ·obtain rfl : j = (ix c.modes.d (ix pg (k : Int)).mode).wins.d.length := by omega
    rw [xDT (Nat.le_refl _)]
    have hX := And.intro @xDM.eq_def hw; repeat' (first | refine S.x ?_ | refine S.y ?_ ?_ | (refine G.call 45 ?_; refine S.c ?_ (h := xB4 ‹_› S.o)) | (refine G.call 85 ?_; refine S.c ?_ (h := xCr)) | rintro _ _ ⟨rfl, rfl⟩ | rintro _ _ ⟨_, rfl, rfl⟩ | (refine G.prop ?_; assumption) | intro hb | ((fail_if_success refine G.tr ?_); exact G.prop S.p) | fail)
    all_goals
     have hX := hn
     exact S.R (k + 1)
  ·obtain rfl : k = pg.length := by omega
   rw [List.take_length]
   have hX := @xDM.eq_def; repeat' (first | refine S.x ?_ | refine S.y ?_ ?_ | (refine G.call 45 ?_; refine S.c ?_ (h := xB4 ‹_› S.o)) | (refine G.call 85 ?_; refine S.c ?_ (h := xCr)) | rintro _ _ ⟨rfl, rfl⟩ | rintro _ _ ⟨_, rfl, rfl⟩ | (refine G.prop ?_; assumption) | intro hb | ((fail_if_success refine G.tr ?_); exact G.prop S.p) | fail)
   all_goals exact Tr.fin hK ⟨so, _, (fun _ => rfl), rfl, rfl⟩ S.E
