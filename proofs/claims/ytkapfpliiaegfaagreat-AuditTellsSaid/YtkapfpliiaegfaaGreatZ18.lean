import Derived.Test.YtkapfpliiaegfaaGreatFK
namespace Go.Proofs.YtkapfpliiaegfaaGreat
open Go Go.Wk Tryz
set_option maxHeartbeats 3200000
set_option maxRecDepth 100000
theorem xGv {c : xs2} {fs : List xBL} {evs : List EvA} {k : Nat} (h : xDd c = true) : xCu c fs evs k = true ↔ ¬ ((ix evs (k : Int)).part, (ix evs (k : Int)).win) ∈ xCR (xCx c (xBH c p0 fs)) (zer c) := by
 have hw : ∀ w ∈ xCx c (xBH c p0 fs), 0 ≤ w ∧ w < ((zer c).length : Int) := fun w hw => by
  rw [xDo]
  unfold xCx at hw
  obtain ⟨p, hp, hw⟩ := List.mem_flatMap.1 hw
  exact xJb h (xCi p hp) w hw
 rw [xF9 hw]
 unfold xCu xD1
 rw [h, Bool.true_and, xDo, show ix (zer c) (ix evs (k : Int)).part = 0 from xIn, Bool.not_eq_true', decide_eq_false_iff_not]
theorem Fst.two {n : Nat} {q : Nat → Bool} {r : Int} (h : Fst n (fun k => q k = true) r) : Fst (max n n) (xBX n n q) r := by
 rcases h with ⟨e, a⟩ | ⟨k, hk, e, b, a⟩
 ·refine .inl ⟨e, fun j hj hb => ?_⟩
  rcases hb with hb | hb | hb
  ·omega
  ·omega
  ·exact a j S.o hb
 ·refine .inr ⟨k, by omega, e, .inr (.inr b), fun j hj hb => ?_⟩
  rcases hb with hb | hb | hb
  ·omega
  ·omega
  ·exact a j hj hb
section
attribute [local irreducible] BrK Xq Xt Xv XI FnK XZ Xw XC XV opX opK Yq Yk eqR Yj Yo Ys WL WD W X3 XO Tr drewK Ya X4 Yw Yv X1 YB mp blk rob sl sep ex fact old
section
attribute [local irreducible] xB2
section
variable {c : xs2} {fv : SV} {fs : List xBL} {r : xCT} {evs : List EvA} {bds : List xB8} {sheds modes : List Int}
theorem xDb (hs : shC c) (hf : fs.length ≤ 1000000) (hfw : xDe c) (he : evs.length ≤ 1000000000) : Xb prog 22 #[.agg (En.enc c).toArray, fv.v, .agg (En.enc r).toArray]
  [sl true fv.v fs, sl true c.parts.s.v c.parts.d, sl true c.modes.s.v c.modes.d, fzl c.modes.d, sl true c.down.s.v c.down.d, sl true c.up.s.v c.up.d, sl true r.ev.v evs]
  fun v l' => ∃ n : Int, Fst (max evs.length evs.length) (xBX evs.length evs.length (xCu c fs evs)) n ∧ v = .int .i64 n ∧ l' = [] := by
 intro F K hK
 simp only [ap]
 have hkp : ∀ n : Int, Fst evs.length (fun k => xCu c fs evs k = true) n → Tr ([] ++ F) (K (.int .i64 n)) := fun n hn => hK (.int .i64 n) [] ⟨n, hn.two, rfl, rfl⟩
 clear hK
 have hmy := xIv (c := c) (part := 0) hs hfw
 by_cases g0 : evs.length = 0
 ·have hfi := hkp (-1) (.inl ⟨rfl, fun j hj => by omega⟩)
  refine S.I fun u => ?_
  have hX := @xDz.eq_def; repeat' (first | refine S.x ?_ | refine S.y ?_ ?_ | (refine G.call 38 ?_; refine S.c ?_ (h := xB3 ‹_› S.o ‹_› ‹_›)) | rintro _ _ ⟨so, bs, hbs, rfl, rfl⟩ | (refine G.prop ?_; assumption) | intro hb | ((fail_if_success refine G.tr ?_); exact G.prop S.p) | fail)
  all_goals exact Tr.ent2 S.E hfi
 ·by_cases g1 : c.parts.d.length = 0
  ·have hfi := hkp (0 : Nat) (.inr ⟨0, by omega, rfl, by
    show xCu c fs evs 0 = true
    unfold xCu
    rw [decide_eq_false (fun h => by omega), Bool.and_false]; rfl, fun j hj => by omega⟩)
   refine S.I fun u => ?_
   have hX := @xDz.eq_def; repeat' (first | refine S.x ?_ | refine S.y ?_ ?_ | (refine G.call 38 ?_; refine S.c ?_ (h := xB3 ‹_› S.o ‹_› ‹_›)) | rintro _ _ ⟨so, bs, hbs, rfl, rfl⟩ | (refine G.prop ?_; assumption) | intro hb | ((fail_if_success refine G.tr ?_); exact G.prop S.p) | fail)
   all_goals exact Tr.ent2 S.E hfi
  ·rw [decide_eq_true (Int.le_refl 0), decide_eq_true (show (0 : Int) < c.parts.d.length by omega), Bool.and_true, Bool.and_true] at hmy
   cases hmt : xDd c with
   | false =>
    have hfi := hkp (0 : Nat) (.inr ⟨0, by omega, rfl, by show xCu c fs evs 0 = true; unfold xCu; rw [hmt, Bool.false_and]; rfl, fun j hj => by omega⟩)
    rw [hmt] at hmy
    refine S.I fun u => ?_
    have hX := @xDz.eq_def; repeat' (first | rintro _ _ ⟨rfl, rfl⟩ | rintro _ _ ⟨so, bs, hbs, rfl, rfl⟩ | (refine G.call 37 ?_; refine S.c ?_ (h := hmy)) | refine S.x ?_ | refine S.y ?_ ?_ | (refine G.call 38 ?_; refine S.c ?_ (h := xB3 ‹_› S.o ‹_› ‹_›)) | (refine G.prop ?_; assumption) | intro hb | ((fail_if_success refine G.tr ?_); exact G.prop S.p) | fail)
    all_goals exact Tr.ent2 S.E hfi
   | true =>
    rw [hmt] at hmy
    have hal := xB3 (c := c) (fv := fv) (fs := fs) hs hf hfw hmt
    have hbad : ∀ k : Nat, xCu c fs evs k = true ↔ ¬ ((ix evs (k : Int)).part, (ix evs (k : Int)).win) ∈ xCR (xCx c (xBH c p0 fs)) (zer c) := fun k => xGv hmt
    have hln : (xCR (xCx c (xBH c p0 fs)) (zer c)).length ≤ 1000000000 := by
     rw [xD3]
     have := xCU hfw (ps := xBH c p0 fs) xCi
     have := xB0 (c := c) (fs := fs) (p := p0)
     omega
    generalize xCu c fs evs = q at *
    generalize xCR (xCx c (xBH c p0 fs)) (zer c) = nl at *
    refine S.I fun u => ?_
    have hX := @xDz.eq_def; repeat' (first | rintro _ _ ⟨rfl, rfl⟩ | rintro _ _ ⟨so, bs, hbs, rfl, rfl⟩ | (refine G.call 37 ?_; refine S.c ?_ (h := hmy)) | (refine G.call 38 ?_; refine S.c ?_ (h := hal); rintro _ _ ⟨so, bs, hbs, rfl, rfl⟩) | intro (rb : Nat) | refine S.x ?_ | refine S.y ?_ ?_ | (refine G.call 38 ?_; refine S.c ?_ (h := xB3 ‹_› S.o ‹_› ‹_›)) | (refine G.prop ?_; assumption) | intro hb | ((fail_if_success refine G.tr ?_); exact G.prop S.p) | fail)
    have hbl : bs.length ≤ 1000000000 := by
     have := congrArg List.length hbs
     rw [List.length_map] at this
     omega
    refine Tr.loopE (α := Nat) [6, 8] [5, 7] (fun k => [.int .i64 0, .int .i64 k]) (fun _ => [rsB rb r, sl false so.v bs]) (fun k => k ≤ evs.length ∧ ∀ j : Nat, j < k → ¬ q j = true) (fun k => evs.length - k) 0 S.T rfl ⟨Nat.zero_le _, fun j hj => absurd hj (Nat.not_lt_zero _)⟩ fun k u hk => ?_
    obtain ⟨hk, hm⟩ := hk
    simp only [ap]
    by_cases hin : k < evs.length
    ·have hw := Xo (k := k) S.o
     have hX := And.intro @xDz.eq_def hw; repeat' (first | intro (eb : Nat) | refine S.x ?_ | refine S.y ?_ ?_ | (refine G.call 38 ?_; refine S.c ?_ (h := xB3 ‹_› S.o ‹_› ‹_›)) | rintro _ _ ⟨so, bs, hbs, rfl, rfl⟩ | (refine G.prop ?_; assumption) | intro hb | ((fail_if_success refine G.tr ?_); exact G.prop S.p) | fail)
     refine Tr.loopE (α := Nat × Bool) [10, 11] [5, 6, 7, 8, 9] (fun x => [.bool x.2, .int .i64 x.1]) (fun _ => [rsB rb r, sl false so.v bs, blk eb (.cells (En.enc (ix evs (k : Int))).toArray 76 (0, 0))]) (fun x => x.1 ≤ bs.length ∧ (x.2 = true ↔ ∃ i : Nat, i < x.1 ∧ (ix bs (i : Int)).pw = ((ix evs (k : Int)).part, (ix evs (k : Int)).win))) (fun x => bs.length - x.1) (0, false) S.T rfl ⟨Nat.zero_le _, by simp⟩ fun x u hI => ?_
     obtain ⟨j, is⟩ := x
     obtain ⟨hj, his⟩ := hI
     simp only at hj his ⊢
     simp only [ap]
     by_cases hjn : j < bs.length
     ·have hwj := Xo (k := j) S.o
      have hsame : (ix bs (j : Int)).pw = ((ix evs (k : Int)).part, (ix evs (k : Int)).win) ↔ (ix bs (j : Int)).part = (ix evs (k : Int)).part ∧ (ix bs (j : Int)).win = (ix evs (k : Int)).win := by unfold xCP.pw; rw [Prod.mk.injEq]
      have hold : (∃ i : Nat, i < j + 1 ∧ (ix bs (i : Int)).pw = ((ix evs (k : Int)).part, (ix evs (k : Int)).win)) ↔ (is = true ∨ ((ix bs (j : Int)).part = (ix evs (k : Int)).part ∧ (ix bs (j : Int)).win = (ix evs (k : Int)).win)) := by
       rw [his, ← hsame]
       constructor
       ·rintro ⟨i, hi, e⟩
        by_cases hij : i = j
        ·subst hij; exact .inr e
        ·exact .inl ⟨i, by omega, e⟩
       ·rintro (⟨i, hi, e⟩ | e)
        ·exact ⟨i, by omega, e⟩
        ·exact ⟨j, by omega, e⟩
      clear his hsame
      cases is with
      | true =>
       have his2 : true = true ↔ ∃ i : Nat, i < j + 1 ∧ (ix bs (i : Int)).pw = ((ix evs (k : Int)).part, (ix evs (k : Int)).win) := by
        exact ⟨fun _ => hold.2 (.inl rfl), fun _ => rfl⟩
       clear hold
       have hX := And.intro @xDz.eq_def hwj; repeat' (first | refine S.x ?_ | refine S.y ?_ ?_ | (refine G.call 38 ?_; refine S.c ?_ (h := xB3 ‹_› S.o ‹_› ‹_›)) | rintro _ _ ⟨so, bs, hbs, rfl, rfl⟩ | (refine G.prop ?_; assumption) | intro hb | ((fail_if_success refine G.tr ?_); exact G.prop S.p) | fail)
       all_goals exact S.R ((j + 1, true) : Nat × Bool)
      | false =>
       by_cases g2 : (ix bs (j : Int)).part = (ix evs (k : Int)).part
       ·by_cases g3 : (ix bs (j : Int)).win = (ix evs (k : Int)).win
        ·have his2 : true = true ↔ ∃ i : Nat, i < j + 1 ∧ (ix bs (i : Int)).pw = ((ix evs (k : Int)).part, (ix evs (k : Int)).win) := by
          exact ⟨fun _ => hold.2 (.inr ⟨g2, g3⟩), fun _ => rfl⟩
         clear hold
         have hX := And.intro @xDz.eq_def hwj; repeat' (first | refine S.x ?_ | refine S.y ?_ ?_ | (refine G.call 38 ?_; refine S.c ?_ (h := xB3 ‹_› S.o ‹_› ‹_›)) | rintro _ _ ⟨so, bs, hbs, rfl, rfl⟩ | (refine G.prop ?_; assumption) | intro hb | ((fail_if_success refine G.tr ?_); exact G.prop S.p) | fail)
         all_goals exact S.R ((j + 1, true) : Nat × Bool)
        ·have his2 : false = true ↔ ∃ i : Nat, i < j + 1 ∧ (ix bs (i : Int)).pw = ((ix evs (k : Int)).part, (ix evs (k : Int)).win) := by
          exact ⟨(fun h => by cases h), fun h => absurd (hold.1 h) (fun h => h.elim (fun h => by cases h) fun h => g3 h.2)⟩
         clear hold
         have hX := And.intro @xDz.eq_def hwj; repeat' (first | refine S.x ?_ | refine S.y ?_ ?_ | (refine G.call 38 ?_; refine S.c ?_ (h := xB3 ‹_› S.o ‹_› ‹_›)) | rintro _ _ ⟨so, bs, hbs, rfl, rfl⟩ | (refine G.prop ?_; assumption) | intro hb | ((fail_if_success refine G.tr ?_); exact G.prop S.p) | fail)
         all_goals exact S.R ((j + 1, false) : Nat × Bool)
       ·have his2 : false = true ↔ ∃ i : Nat, i < j + 1 ∧ (ix bs (i : Int)).pw = ((ix evs (k : Int)).part, (ix evs (k : Int)).win) := by
         exact ⟨(fun h => by cases h), fun h => absurd (hold.1 h) (fun h => h.elim (fun h => by cases h) fun h => g2 h.1)⟩
        clear hold
        have hX := And.intro @xDz.eq_def hwj; repeat' (first | refine S.x ?_ | refine S.y ?_ ?_ | (refine G.call 38 ?_; refine S.c ?_ (h := xB3 ‹_› S.o ‹_› ‹_›)) | rintro _ _ ⟨so, bs, hbs, rfl, rfl⟩ | (refine G.prop ?_; assumption) | intro hb | ((fail_if_success refine G.tr ?_); exact G.prop S.p) | fail)
        all_goals exact S.R ((j + 1, false) : Nat × Bool)
     ·obtain rfl : j = bs.length := by omega
      have hmem : is = true ↔ ((ix evs (k : Int)).part, (ix evs (k : Int)).win) ∈ nl := by
       rw [his, ← hbs, List.mem_map]
       constructor
       ·rintro ⟨i, hi, e⟩
        exact ⟨_, xCm hi, e⟩
       ·rintro ⟨b, hb, e⟩
        obtain ⟨i, hi, rfl⟩ := List.mem_iff_getElem.1 hb
        exact ⟨i, hi, by rw [← e]; simp [ix, hi]⟩
      clear his
      cases is with
      | true =>
       have hm2 := xCS (p := fun j : Nat => ¬ q j = true) hm (fun h => (hbad k).1 h (hmem.1 rfl))
       clear hmem
       have hX := And.intro @xDz.eq_def hw; repeat' (first | refine S.x ?_ | refine S.y ?_ ?_ | (refine G.call 38 ?_; refine S.c ?_ (h := xB3 ‹_› S.o ‹_› ‹_›)) | rintro _ _ ⟨so, bs, hbs, rfl, rfl⟩ | (refine G.prop ?_; assumption) | intro hb | ((fail_if_success refine G.tr ?_); exact G.prop S.p) | fail)
       all_goals exact S.R (k + 1)
      | false =>
       have hfi := hkp k (.inr ⟨k, hin, rfl, (hbad k).2 (fun h => by have := hmem.2 h; cases this), hm⟩)
       clear hmem
       have hX := @xDz.eq_def; repeat' (first | refine S.x ?_ | refine S.y ?_ ?_ | (refine G.call 38 ?_; refine S.c ?_ (h := xB3 ‹_› S.o ‹_› ‹_›)) | rintro _ _ ⟨so, bs, hbs, rfl, rfl⟩ | (refine G.prop ?_; assumption) | intro hb | ((fail_if_success refine G.tr ?_); exact G.prop S.p) | fail)
       all_goals exact Tr.ent2 S.E hfi
    ·obtain rfl : k = evs.length := by omega
     have hfi := hkp (-1) (.inl ⟨rfl, hm⟩)
     have hX := @xDz.eq_def; repeat' (first | refine S.x ?_ | refine S.y ?_ ?_ | (refine G.call 38 ?_; refine S.c ?_ (h := xB3 ‹_› S.o ‹_› ‹_›)) | rintro _ _ ⟨so, bs, hbs, rfl, rfl⟩ | (refine G.prop ?_; assumption) | intro hb | ((fail_if_success refine G.tr ?_); exact G.prop S.p) | fail)
     all_goals exact Tr.ent2 S.E hfi
end
end
section
theorem xDN {x y : xB8} : bdL x = bdL y ↔ x.due = y.due ∧ x.at_ = y.at_ ∧ x.part = y.part := by
 unfold bdL
 simp only [List.cons.injEq, and_true]
theorem xJk {a b k : Nat} {q : Nat → Bool} (h1 : k < a) (h2 : k < b) (h : q k = false) : ¬ xBX a b q k := by
 rintro (h3 | h3 | h3)
 ·omega
 ·omega
 ·rw [h] at h3; cases h3
attribute [local irreducible] xB2
section
variable {c : xs2} {fv : SV} {fs : List xBL} {r : xCT} {bds : List xB8} {sheds modes : List Int}
theorem xDq (hs : shC c) (hf : fs.length ≤ 1000000) (hfw : xDe c) (hb : bds.length ≤ 1000000000) : Xb prog 14 #[.agg (En.enc c).toArray, fv.v, .agg (En.enc r).toArray]
  [sl true fv.v fs, sl true c.modes.s.v c.modes.d, fzl c.modes.d, sl true c.down.s.v c.down.d, sl true c.up.s.v c.up.d, sl true r.bd.v bds]
  fun v l' => ∃ n : Int, Fst (max (xB5 c fs).length bds.length) (xBX (xB5 c fs).length bds.length fun k => !decide (bdL (ix (xB5 c fs) (k : Int)) = bdL (ix bds (k : Int)))) n ∧ v = .int .i64 n ∧ l' = [] := by
 intro F K hK
 simp only [ap]
 have hbo := xB1 (c := c) (fv := fv) (fs := fs) hs hf hfw
 have hbl : (xB5 c fs).length ≤ 1000000000000000000 := by
  have h1 := xCy (ss := xBY c (xBH c p0 fs))
  have h2 := xCZ hfw (ps := xBH c p0 fs) (xCi (c := c))
  have h3 := xB0 (c := c) (fs := fs) (p := p0)
  unfold xB5
  omega
 generalize xB5 c fs = want at *
 obtain ⟨q, hq⟩ : ∃ q : Nat → Bool, q = fun k : Nat => !decide (bdL (ix want (k : Int)) = bdL (ix bds (k : Int))) := ⟨_, rfl⟩
 rw [← hq] at hK
 have hqk : ∀ k : Nat, q k = !decide (bdL (ix want (k : Int)) = bdL (ix bds (k : Int))) := fun k => by rw [hq]
 clear hq
 have hkp : ∀ n : Int, Fst (max want.length bds.length) (xBX want.length bds.length q) n → Tr ([] ++ F) (K (.int .i64 n)) := fun n hn => hK (.int .i64 n) [] ⟨n, hn, rfl, rfl⟩
 clear hK
 refine S.I fun u => ?_
 have hX := @xGf; repeat' (first | (refine G.call 44 ?_; refine S.c ?_ (h := hbo); rintro _ _ ⟨sw, rfl, rfl⟩) | intro (rb : Nat) | refine S.x ?_ | refine S.y ?_ ?_ | (refine G.call 44 ?_; refine S.c ?_ (h := xB1 ‹_› S.o ‹_›)) | rintro _ _ ⟨s2, rfl, rfl⟩ | (refine G.prop ?_; assumption) | intro hb | ((fail_if_success refine G.tr ?_); exact G.prop S.p) | fail)
 refine Tr.loopE (α := Nat) [6, 8] [5, 7] (fun k => [.int .i64 0, .int .i64 k]) (fun _ => [rsB rb r, sl false sw.v want]) (fun k => k ≤ max want.length bds.length ∧ ∀ j : Nat, j < k → ¬ xBX want.length bds.length q j) (fun k => max want.length bds.length - k) 0 S.T rfl ⟨Nat.zero_le _, fun j hj => absurd hj (Nat.not_lt_zero _)⟩ fun k u hk => ?_
 obtain ⟨hk, hm⟩ := hk
 simp only [ap]
 by_cases h1 : k < want.length
 ·by_cases h2 : k < bds.length
  ·have hw := Xo (k := k) S.o
   by_cases g1 : (ix want (k : Int)).due = (ix bds (k : Int)).due
   ·by_cases g2 : (ix want (k : Int)).at_ = (ix bds (k : Int)).at_
    ·by_cases g3 : (ix want (k : Int)).part = (ix bds (k : Int)).part
     ·have hm2 := xCS (p := fun j : Nat => ¬ xBX want.length bds.length q j) hm (xJk h1 h2 (by rw [hqk, decide_eq_true (xDN.2 ⟨g1, g2, g3⟩)]; rfl))
      have hk1 : k + 1 ≤ max want.length bds.length := by omega
      clear hqk
      have hX := And.intro @xGf hw; repeat' (first | intro (xb : Nat) | refine S.x ?_ | refine S.y ?_ ?_ | (refine G.call 44 ?_; refine S.c ?_ (h := xB1 ‹_› S.o ‹_›)) | rintro _ _ ⟨s2, rfl, rfl⟩ | (refine G.prop ?_; assumption) | intro hb | ((fail_if_success refine G.tr ?_); exact G.prop S.p) | fail)
      all_goals exact S.R (k + 1)
     ·have hfi := hkp k (.inr ⟨k, by omega, rfl, .inr (.inr (by rw [hqk, decide_eq_false fun h => g3 (xDN.1 h).2.2]; rfl)), hm⟩)
      clear hqk
      have hX := @xGf; repeat' (first | intro (xb : Nat) | refine S.x ?_ | refine S.y ?_ ?_ | (refine G.call 44 ?_; refine S.c ?_ (h := xB1 ‹_› S.o ‹_›)) | rintro _ _ ⟨s2, rfl, rfl⟩ | (refine G.prop ?_; assumption) | intro hb | ((fail_if_success refine G.tr ?_); exact G.prop S.p) | fail)
      all_goals exact Tr.ent2 S.E hfi
    ·have hfi := hkp k (.inr ⟨k, by omega, rfl, .inr (.inr (by rw [hqk, decide_eq_false fun h => g2 (xDN.1 h).2.1]; rfl)), hm⟩)
     clear hqk
     have hX := @xGf; repeat' (first | intro (xb : Nat) | refine S.x ?_ | refine S.y ?_ ?_ | (refine G.call 44 ?_; refine S.c ?_ (h := xB1 ‹_› S.o ‹_›)) | rintro _ _ ⟨s2, rfl, rfl⟩ | (refine G.prop ?_; assumption) | intro hb | ((fail_if_success refine G.tr ?_); exact G.prop S.p) | fail)
     all_goals exact Tr.ent2 S.E hfi
   ·have hfi := hkp k (.inr ⟨k, by omega, rfl, .inr (.inr (by rw [hqk, decide_eq_false fun h => g1 (xDN.1 h).1]; rfl)), hm⟩)
    clear hqk
    have hX := @xGf; repeat' (first | intro (xb : Nat) | refine S.x ?_ | refine S.y ?_ ?_ | (refine G.call 44 ?_; refine S.c ?_ (h := xB1 ‹_› S.o ‹_›)) | rintro _ _ ⟨s2, rfl, rfl⟩ | (refine G.prop ?_; assumption) | intro hb | ((fail_if_success refine G.tr ?_); exact G.prop S.p) | fail)
    all_goals exact Tr.ent2 S.E hfi
  ·have hfi := hkp k (.inr ⟨k, by omega, rfl, .inr (.inl S.o), hm⟩)
   clear hqk
   have hX := @xGf; repeat' (first | refine S.x ?_ | refine S.y ?_ ?_ | (refine G.call 44 ?_; refine S.c ?_ (h := xB1 ‹_› S.o ‹_›)) | rintro _ _ ⟨s2, rfl, rfl⟩ | (refine G.prop ?_; assumption) | intro hb | ((fail_if_success refine G.tr ?_); exact G.prop S.p) | fail)
   all_goals exact Tr.ent2 S.E hfi
 ·by_cases h2 : k < bds.length
  ·have hfi := hkp k (.inr ⟨k, by omega, rfl, .inl S.o, hm⟩)
   clear hqk
   have hX := @xGf; repeat' (first | refine S.x ?_ | refine S.y ?_ ?_ | (refine G.call 44 ?_; refine S.c ?_ (h := xB1 ‹_› S.o ‹_›)) | rintro _ _ ⟨s2, rfl, rfl⟩ | (refine G.prop ?_; assumption) | intro hb | ((fail_if_success refine G.tr ?_); exact G.prop S.p) | fail)
   all_goals exact Tr.ent2 S.E hfi
  ·obtain rfl : k = max want.length bds.length := by omega
   have hfi := hkp (-1) (.inl ⟨rfl, hm⟩)
   clear hqk
   have hX := @xGf; repeat' (first | refine S.x ?_ | refine S.y ?_ ?_ | (refine G.call 44 ?_; refine S.c ?_ (h := xB1 ‹_› S.o ‹_›)) | rintro _ _ ⟨s2, rfl, rfl⟩ | (refine G.prop ?_; assumption) | intro hb | ((fail_if_success refine G.tr ?_); exact G.prop S.p) | fail)
   all_goals exact Tr.ent2 S.E hfi
theorem xDp (hs : shC c) (hf : fs.length ≤ 1000000) (h1 : sheds.length ≤ 1000000000) (_h2 : modes.length ≤ 1000000000) : Xb prog 16 #[.agg (En.enc c).toArray, fv.v, .agg (En.enc r).toArray]
  [sl true fv.v fs, sl true c.modes.s.v c.modes.d, sl true c.down.s.v c.down.d, sl true c.up.s.v c.up.d, sl true r.sh.v sheds, sl true r.md.v modes]
  fun v l' => ∃ n : Int, Fst (max (max (xBH c p0 fs).length sheds.length) modes.length) (fun k => xBX (xBH c p0 fs).length sheds.length (fun k => !decide ((ix (xBH c p0 fs) (k : Int)).level = ix sheds (k : Int))) k ∨ xBX (xBH c p0 fs).length modes.length (fun k => !decide ((ix (xBH c p0 fs) (k : Int)).mode = ix modes (k : Int))) k) n ∧ v = .int .i64 n ∧ l' = [] := by
 intro F K hK
 simp only [ap]
 have hpg := xBM (c := c) (fv := fv) (fs := fs) hs hf
 have h3 := xB0 (c := c) (fs := fs) (p := p0)
 generalize xBH c p0 fs = pg at *
 obtain ⟨q, hq⟩ : ∃ q : Nat → Bool, q = fun k : Nat => !decide ((ix pg (k : Int)).level = ix sheds (k : Int)) := ⟨_, rfl⟩
 obtain ⟨y, hy⟩ : ∃ y : Nat → Bool, y = fun k : Nat => !decide ((ix pg (k : Int)).mode = ix modes (k : Int)) := ⟨_, rfl⟩
 rw [← hq, ← hy] at hK
 have hqk : ∀ k : Nat, q k = !decide ((ix pg (k : Int)).level = ix sheds (k : Int)) := fun k => by rw [hq]
 have hyk : ∀ k : Nat, y k = !decide ((ix pg (k : Int)).mode = ix modes (k : Int)) := fun k => by rw [hy]
 clear hq hy
 obtain ⟨bb, hbb⟩ : ∃ bb : Nat → Prop, bb = fun k => xBX pg.length sheds.length q k ∨ xBX pg.length modes.length y k := ⟨_, rfl⟩
 rw [← hbb] at hK
 have hkp : ∀ n : Int, Fst (max (max pg.length sheds.length) modes.length) bb n → Tr ([] ++ F) (K (.int .i64 n)) := fun n hn => hK (.int .i64 n) [] ⟨n, hn, rfl, rfl⟩
 clear hK
 refine S.I fun u => ?_
 have hX := @xGx.eq_def; repeat' (first | (refine G.call 48 ?_; refine S.c ?_ (h := hpg); rintro _ _ ⟨sp, rfl, rfl⟩) | intro (rb : Nat) | refine S.x ?_ | refine S.y ?_ ?_ | (refine G.call 48 ?_; refine S.c ?_ (h := xBM ‹_› S.o)) | rintro _ _ ⟨_, rfl, rfl⟩ | (refine G.prop ?_; assumption) | intro hb | ((fail_if_success refine G.tr ?_); exact G.prop S.p) | fail)
 refine Tr.loopE (α := Nat) [6, 8] [5, 7] (fun k => [.int .i64 0, .int .i64 k]) (fun _ => [rsB rb r, sl false sp.v pg]) (fun k => k ≤ max (max pg.length sheds.length) modes.length ∧ ∀ j : Nat, j < k → ¬ bb j) (fun k => max (max pg.length sheds.length) modes.length - k) 0 S.T rfl ⟨Nat.zero_le _, fun j hj => absurd hj (Nat.not_lt_zero _)⟩ fun k u hk => ?_
 obtain ⟨hk, hm⟩ := hk
 simp only [ap]
 by_cases h1 : k < pg.length ∧ k < sheds.length ∧ k < modes.length
 ·obtain ⟨h1, h2, h4⟩ := h1
  have hw := Xo (k := k) S.o
  by_cases g1 : (ix pg (k : Int)).level = ix sheds (k : Int)
  ·by_cases g2 : (ix pg (k : Int)).mode = ix modes (k : Int)
   ·have hm2 := xCS (p := fun j : Nat => ¬ bb j) hm (by
     rw [hbb]
     rintro (h | h)
     ·exact xJk h1 h2 (by rw [hqk, decide_eq_true g1]; rfl) h
     ·exact xJk h1 h4 (by rw [hyk, decide_eq_true g2]; rfl) h)
    have hk1 : k + 1 ≤ max (max pg.length sheds.length) modes.length := by omega
    clear hqk hyk hbb
    have hX := And.intro @xGx.eq_def hw; repeat' (first | refine S.x ?_ | refine S.y ?_ ?_ | (refine G.call 48 ?_; refine S.c ?_ (h := xBM ‹_› S.o)) | rintro _ _ ⟨_, rfl, rfl⟩ | (refine G.prop ?_; assumption) | intro hb | ((fail_if_success refine G.tr ?_); exact G.prop S.p) | fail)
    all_goals exact S.R (k + 1)
   ·have hfi := hkp k (.inr ⟨k, by omega, rfl, by rw [hbb]; exact .inr (.inr (.inr (by rw [hyk, decide_eq_false g2]; rfl))), hm⟩)
    clear hqk hyk hbb
    have hX := @xGx.eq_def; repeat' (first | refine S.x ?_ | refine S.y ?_ ?_ | (refine G.call 48 ?_; refine S.c ?_ (h := xBM ‹_› S.o)) | rintro _ _ ⟨_, rfl, rfl⟩ | (refine G.prop ?_; assumption) | intro hb | ((fail_if_success refine G.tr ?_); exact G.prop S.p) | fail)
    all_goals exact Tr.ent2 S.E hfi
  ·have hfi := hkp k (.inr ⟨k, by omega, rfl, by rw [hbb]; exact .inl (.inr (.inr (by rw [hqk, decide_eq_false g1]; rfl))), hm⟩)
   clear hqk hyk hbb
   have hX := @xGx.eq_def; repeat' (first | refine S.x ?_ | refine S.y ?_ ?_ | (refine G.call 48 ?_; refine S.c ?_ (h := xBM ‹_› S.o)) | rintro _ _ ⟨_, rfl, rfl⟩ | (refine G.prop ?_; assumption) | intro hb | ((fail_if_success refine G.tr ?_); exact G.prop S.p) | fail)
   all_goals exact Tr.ent2 S.E hfi
 ·by_cases h2 : k < max (max pg.length sheds.length) modes.length
  ·have hfi := hkp k (.inr ⟨k, by omega, rfl, by
    rw [hbb]
    rcases Nat.lt_or_ge k pg.length with h | h
    ·rcases Nat.lt_or_ge k sheds.length with h5 | h5
     ·exact .inr (.inr (.inl S.o))
     ·exact .inl (.inr (.inl h5))
    ·exact .inl (.inl h), hm⟩)
   clear hqk hyk hbb
   have hX := @xGx.eq_def; repeat' (first | refine S.x ?_ | refine S.y ?_ ?_ | (refine G.call 48 ?_; refine S.c ?_ (h := xBM ‹_› S.o)) | rintro _ _ ⟨_, rfl, rfl⟩ | (refine G.prop ?_; assumption) | intro hb | ((fail_if_success refine G.tr ?_); exact G.prop S.p) | fail)
   all_goals first
    | exact Tr.ent2 S.E hfi
    | (exfalso; omega)
  ·obtain rfl : k = max (max pg.length sheds.length) modes.length := by omega
   have hfi := hkp (-1) (.inl ⟨rfl, hm⟩)
   clear hqk hyk hbb
   have hX := @xGx.eq_def; repeat' (first | refine S.x ?_ | refine S.y ?_ ?_ | (refine G.call 48 ?_; refine S.c ?_ (h := xBM ‹_› S.o)) | rintro _ _ ⟨_, rfl, rfl⟩ | (refine G.prop ?_; assumption) | intro hb | ((fail_if_success refine G.tr ?_); exact G.prop S.p) | fail)
   all_goals first
    | exact Tr.ent2 S.E hfi
    | (exfalso; omega)
end
end
section
noncomputable def exB (n : Nat) (p : Nat → Prop) : Bool := @decide (∃ k, k < n ∧ p k) (Classical.propDecidable _)
theorem Fst.ge {n : Nat} {p : Nat → Prop} {r : Int} (h : Fst n p r) : exB n p = decide (0 ≤ r) := by
 rcases h with ⟨rfl, a⟩ | ⟨k, hk, rfl, b, a⟩
 ·exact (@decide_eq_false _ (Classical.propDecidable _) (by rintro ⟨k, hk, h⟩; exact a k hk h)).trans (decide_eq_false (by decide)).symm
 ·exact (@decide_eq_true _ (Classical.propDecidable _) ⟨k, hk, b⟩).trans (decide_eq_true S.o).symm
theorem Fst.ne {n : Nat} {p : Nat → Prop} {r : Int} (h : Fst n p r) : exB n p = !decide (r = -1) := by
 rw [h.ge]
 rcases h with ⟨rfl, a⟩ | ⟨k, hk, rfl, b, a⟩
 ·rfl
 ·rw [decide_eq_true S.o, decide_eq_false S.o]; rfl
structure xDt where
 evs : List EvA
 bds : List xB8
 rn : List Int
 sheds : List Int
 modes : List Int
 creds : List (SL Int)
abbrev xJv (r : xCT) (q : xDt) : List Xc := [sl true r.ev.v q.evs, sl true r.bd.v q.bds, sl true r.rn.v q.rn, sl true r.sh.v q.sheds, sl true r.md.v q.modes, sl true r.cr.v q.creds, fzl q.creds]
abbrev xLt (c : xs2) (fv : SV) (fs : List xBL) : List Xc := [sl true fv.v fs, sl true c.parts.s.v c.parts.d, sl true c.modes.s.v c.modes.d, fzl c.modes.d, sl true c.levels.s.v c.levels.d, sl true c.down.s.v c.down.d, sl true c.up.s.v c.up.d]
structure xGj (c : xs2) (fs : List xBL) (q : xDt) : Prop where
 s : shC c
 w : xDe c
 a : xGe c
 f : fs.length ≤ 1000000
 e : q.evs.length ≤ 1000000000
 b : q.bds.length ≤ 1000000000
 n : q.rn.length ≤ 1000000
 h : q.sheds.length ≤ 1000000000
 m : q.modes.length ≤ 1000000000
 c : q.creds.length ≤ 1000000000
noncomputable def xFN (c : xs2) (fs : List xBL) (q : xDt) : Bool := exB (max (xB5 c fs).length q.bds.length) (xBX (xB5 c fs).length q.bds.length fun k => !decide (bdL (ix (xB5 c fs) (k : Int)) = bdL (ix q.bds (k : Int))))
noncomputable def xFK (c : xs2) (fs : List xBL) (q : xDt) : Bool := exB (max (max (xBH c p0 fs).length q.sheds.length) q.modes.length) (fun k => xBX (xBH c p0 fs).length q.sheds.length (fun k => !decide ((ix (xBH c p0 fs) (k : Int)).level = ix q.sheds (k : Int))) k ∨ xBX (xBH c p0 fs).length q.modes.length (fun k => !decide ((ix (xBH c p0 fs) (k : Int)).mode = ix q.modes (k : Int))) k)
noncomputable def xFG (c : xs2) (q : xDt) : Bool := exB (max q.creds.length q.creds.length) (xBX q.creds.length q.creds.length (xDg c q.creds))
noncomputable def xFX (c : xs2) (fs : List xBL) (q : xDt) : Bool := exB (max q.evs.length q.evs.length) (xBX q.evs.length q.evs.length (xCu c fs q.evs))
def nmS (b : Bool) (s : ByteArray) : List ByteArray := if b = true then [s] else []
def nm1 : ByteArray := ⟨#[98, 111, 117, 110, 100, 115]⟩
def nm2 : ByteArray := ⟨#[108, 101, 118, 101, 108, 115]⟩
def nm3 : ByteArray := ⟨#[98, 117, 100, 103, 101, 116, 115]⟩
def nm4 : ByteArray := ⟨#[115, 117, 109, 115]⟩
def nm5 : ByteArray := ⟨#[119, 105, 110, 100, 111, 119, 115]⟩
def xDf (b1 b2 b3 b4 b5 : Bool) : List ByteArray := nmS b1 nm1 ++ nmS b2 nm2 ++ nmS b3 nm3 ++ nmS b4 nm4 ++ nmS b5 nm5
instance xLA : ElT 60 ByteArray := ⟨⟩
attribute [local irreducible] xB2
section
variable {c : xs2} {fv : SV} {fs : List xBL} {r : xCT} {q : xDt}
theorem xIO (h : xGj c fs q) : Xb prog 25 #[.agg (En.enc c).toArray, fv.v, .agg (En.enc r).toArray] (xLt c fv fs ++ xJv r q)
    fun v l' => ∃ s : SV, v = s.v ∧ l' = [sl false s.v (xDf (xFN c fs q) (xFK c fs q) (xFG c q) (!xC0 r q.rn) (xFX c fs q))] := by
  intro F K hK
  simp only [ap]
  have k1 := xDq (c := c) (fv := fv) (fs := fs) (r := r) (bds := q.bds) h.s h.f h.w h.b
  have k2 := xDp (c := c) (fv := fv) (fs := fs) (r := r) (sheds := q.sheds) (modes := q.modes) h.s h.f h.h h.m
  have k3 := xDa (c := c) (r := r) (creds := q.creds) h.s h.a h.c
  have k4 := xD9 (r := r) (rn := q.rn) h.n
  have k5 := xDb (c := c) (fv := fv) (fs := fs) (r := r) (evs := q.evs) h.s h.f h.w h.e
  have e1 : ∀ n, Fst _ _ n → xFN c fs q = !decide (n = -1) := fun n hn => Fst.ne hn
  have e2 : ∀ n, Fst _ _ n → xFK c fs q = !decide (n = -1) := fun n hn => Fst.ne hn
  have e3 : ∀ n, Fst _ _ n → xFG c q = !decide (n = -1) := fun n hn => Fst.ne hn
  have e5 : ∀ n, Fst _ _ n → xFX c fs q = !decide (n = -1) := fun n hn => Fst.ne hn
  generalize xFN c fs q = b1 at *
  generalize xFK c fs q = b2 at *
  generalize xFG c q = b3 at *
  generalize xFX c fs q = b5 at *
  generalize xC0 r q.rn = b4 at *
  refine S.I fun u => ?_
  repeat' (first | (refine G.call 14 ?_; refine S.c ?_ (h := k1); rintro _ _ ⟨n1, hn1, rfl, rfl⟩; replace hn1 := e1 n1 hn1; clear e1 k1; rcases Decidable.em (n1 = -1) with g1 | g1 <;> (first | rw [decide_eq_true g1] at hn1 | rw [decide_eq_false g1] at hn1) <;> subst hn1) | (refine G.call 16 ?_; refine S.c ?_ (h := k2); rintro _ _ ⟨n2, hn2, rfl, rfl⟩; replace hn2 := e2 n2 hn2; clear e2 k2; rcases Decidable.em (n2 = -1) with g2 | g2 <;> (first | rw [decide_eq_true g2] at hn2 | rw [decide_eq_false g2] at hn2) <;> subst hn2) | (refine G.call 18 ?_; refine S.c ?_ (h := k3); rintro _ _ ⟨n3, hn3, rfl, rfl⟩; replace hn3 := e3 n3 hn3; clear e3 k3; rcases Decidable.em (n3 = -1) with g3 | g3 <;> (first | rw [decide_eq_true g3] at hn3 | rw [decide_eq_false g3] at hn3) <;> subst hn3) | (refine G.call 22 ?_; refine S.c ?_ (h := k5); rintro _ _ ⟨n5, hn5, rfl, rfl⟩; replace hn5 := e5 n5 hn5; clear e5 k5; rcases Decidable.em (n5 = -1) with g5 | g5 <;> (first | rw [decide_eq_true g5] at hn5 | rw [decide_eq_false g5] at hn5) <;> subst hn5) | (refine G.call 20 ?_; refine S.c ?_ (h := k4); rintro _ _ ⟨rfl, rfl⟩; cases b4) | intro (sv : SV) | refine S.x ?_ | refine S.y ?_ ?_ | (refine G.prop ?_; assumption) | intro hb | ((fail_if_success refine G.tr ?_); exact G.prop S.p) | fail)
  all_goals
    simp only [xDf, nmS, nm1, nm2, nm3, nm4, nm5, Bool.not_true, Bool.not_false, Bool.false_eq_true, ↓reduceIte, ap, List.append_nil] at hK
    first
      | exact Tr.fin hK ⟨_, rfl, rfl⟩ S.E
      | (refine Tr.nilSl (α := ByteArray) ?_
         exact Tr.fin hK ⟨⟨none, 0, 0⟩, rfl, rfl⟩ S.E)
