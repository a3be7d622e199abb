import Derived.Test.YtmebccjndhlpoaaGreatZ39
namespace Go.Proofs.YtmebccjndhlpoaaGreat
open Go Go.Wk Tryz
set_option maxHeartbeats 3200000
set_option maxRecDepth 100000
abbrev xB0 := SL (SL XE)
instance xLB : ElT 34 xB0 := ⟨⟩
instance xL5 : ElT 64 (SL XE) := ⟨⟩
def xCw (pp : List xB0) (k : Int) : xB0 := if 0 ≤ k ∧ k < pp.length then ix pp k else ⟨⟨none, 0, 0⟩, []⟩
def xDe (x : SL XE) : Bool := decide (64 < (x.d.length : Int))
def xDT (pp : List xB0) : Nat → Nat → Int
 | 0, _ => -1
 | n + 1, k => if (ix pp (k : Int)).d.any xDe = true then (k : Int) else xDT pp n (k + 1)
def xCn (c : xs2) (pp : List xB0) (fs : List xBS) : Int × Int :=
 if ¬ (xB8 c).1 = 0 then xB8 c else if 64 < (fs.length : Int) then (3, 0) else if xDT pp pp.length 0 < 0 then (0, 0) else (3, xDT pp pp.length 0)
section
attribute [local irreducible] BrK Xq Xt Xv XI FnK XZ Xw XC XV opX opK Yq Yk eqR Yj Yo Ys WL WD W X3 XO Tr drewK Ya X4 Yw Yv X1 YB mp blk rob sl sep ex fact old
section
attribute [local irreducible] xBG inB xBZ xB7 xBJ xB8
section
variable {ps fv s : SV} {pp : List xB0} {k : Int} {x : SL XE} {xs : List (SL XE)}
theorem xFU : Xb prog 21 #[.agg #[ps.v, fv.v], .int .i64 k] [sl true ps.v pp] fun v l' => v = (xCw pp k).s.v ∧ l' = [] := by
 intro F K hK
 simp only [ap]
 by_cases h : 0 ≤ k ∧ k < pp.length
 ·rw [show xCw pp k = ix pp k from if_pos h] at hK
  obtain ⟨h0, h1⟩ := h
  refine S.I fun u => ?_
  repeat' (first | refine S.x ?_ | intro hb | fail)
  all_goals exact Tr.fin hK ⟨rfl, rfl⟩ S.E
 ·rw [show xCw pp k = ⟨⟨none, 0, 0⟩, []⟩ from if_neg h] at hK
  refine S.I fun u => ?_
  repeat' (first | refine S.x ?_ | refine S.y ?_ ?_ | intro hb | fail)
  all_goals exact Tr.fin hK ⟨rfl, rfl⟩ S.E
theorem xJB : Xb prog 39 #[x.s.v] [sl true x.s.v x.d] fun v l' => v = .bool (xDe x) ∧ l' = [] := by
 intro F K hK
 simp only [ap]
 unfold xDe at hK
 refine S.I fun u => ?_
 repeat' (first | refine S.x ?_ | fail)
 all_goals exact Tr.fin hK ⟨rfl, rfl⟩ S.E
theorem xKa (hl : xs.length ≤ 1000000000) : Xb prog 68 #[s.v, .func (.func 39) #[] #[]] [sl true s.v xs, fzl xs]
  fun v l' => v = .int .i64 (xBG (fun x _ => !xDe x) default xs 0) ∧ l' = [] := by
 intro F K hK
 simp only [ap]
 refine S.I fun u => ?_
 repeat' (first | refine S.x ?_ | fail)
 refine Tr.loopE (α := Nat) [4, 8] [0, 1, 7] (fun x => [.int .i64 0, .int .i64 x]) (fun _ => []) (fun x => x ≤ xs.length ∧ xBG (fun x _ => !xDe x) default xs 0 = xBG (fun x _ => !xDe x) (ahd xs x) (xs.drop x) x) (fun x => xs.length - x) 0 S.T rfl ⟨Nat.zero_le _, rfl⟩ fun k u hk => ?_
 obtain ⟨hk, hm⟩ := hk
 simp only [List.nil_append]
 by_cases hin : k < xs.length
 ·have hw := Xo (k := k) S.o
  rw [xB2 hin] at hm
  have hfk := xJB (x := ix xs (k : Int))
  cases ha : xDe (ix xs (k : Int)) with
  | false =>
   rw [ha, Bool.not_false, if_pos rfl] at hm
   have hX := And.intro hw ha; repeat' (first | rintro _ _ ⟨rfl, rfl⟩ | (refine G.call 39 ?_; refine S.c ?_ (h := hfk)) | refine S.x ?_ | intro hb | fail)
   all_goals exact S.R (k + 1)
  | true =>
   rw [ha, Bool.not_true, if_neg (by decide)] at hm
   rw [hm] at hK
   clear hm
   have hX := ha; repeat' (first | rintro _ _ ⟨rfl, rfl⟩ | (refine G.call 39 ?_; refine S.c ?_ (h := hfk)) | refine S.x ?_ | intro hb | fail)
   all_goals exact Tr.fin hK ⟨rfl, rfl⟩ S.E
 ·have hke : k = xs.length := by omega
  subst hke
  rw [List.drop_length] at hm
  rw [hm] at hK
  unfold xBG at hK
  clear hm
  repeat' (first | refine S.x ?_ | fail)
  all_goals exact Tr.fin hK ⟨rfl, rfl⟩ S.E
theorem xKo (hl : xs.length ≤ 1000000000) : Xb prog 38 #[s.v, .func (.func 39) #[] #[]] [sl true s.v xs, fzl xs]
  fun v l' => v = .bool (xs.any xDe) ∧ l' = [] := by
 intro F K hK
 simp only [ap]
 rw [← xD6 (p := xDe) (a := default) (l := xs) (i := 0) (Int.le_refl 0)] at hK
 have hi := xKa (s := s) hl
 refine S.I fun u => ?_
 repeat' (first | rintro _ _ ⟨rfl, rfl⟩ | (refine G.call 68 ?_; refine S.c ?_ (h := hi)) | refine S.x ?_ | fail)
 all_goals exact Tr.fin hK ⟨rfl, rfl⟩ S.E
variable {c : xs2} {fs : List xBS}
theorem xFh (hs : shC c) (hpl : pp.length ≤ 1000000000) (hps : ∀ p ∈ pp, p.d.length ≤ 1000000000) : Xb prog 24 #[.agg (En.enc c).toArray, .agg #[ps.v, fv.v]]
  [sl true c.parts.s.v c.parts.d, fzl c.parts.d, sl true c.chans.s.v c.chans.d, sl true c.modes.s.v c.modes.d, fzl c.modes.d, sl true c.levels.s.v c.levels.d, sl true c.naps.s.v c.naps.d, sl true c.down.s.v c.down.d, sl true c.up.s.v c.up.d, sl true ps.v pp, fzl pp, sl true fv.v fs]
  fun v l' => v = .tuple #[.int .i64 (xCn c pp fs).1, .int .i64 (xCn c pp fs).2] ∧ l' = [] := by
 intro F K hK
 simp only [ap]
 have hv := xHv hs
 unfold xCn at hK
 generalize xB8 c = w at *
 by_cases h0 : w.1 = 0
 ·rw [if_neg (fun h => h h0)] at hK
  by_cases h1 : 64 < (fs.length : Int)
  ·rw [if_pos h1] at hK
   refine S.I fun u => ?_
   have hX := h0; repeat' (first | rintro _ _ ⟨rfl, rfl⟩ | (refine G.call 37 ?_; refine S.c ?_ (h := hv)) | refine S.x ?_ | intro hb | fail)
   all_goals exact Tr.fin hK ⟨rfl, rfl⟩ S.E
  ·rw [if_neg h1] at hK
   refine S.I fun u => ?_
   have hX := h0; repeat' (first | rintro _ _ ⟨rfl, rfl⟩ | (refine G.call 37 ?_; refine S.c ?_ (h := hv)) | refine S.x ?_ | intro hb | fail)
   obtain ⟨m, hm⟩ : ∃ m, m = xDT pp pp.length 0 := ⟨_, rfl⟩
   rw [← hm] at hK
   refine Tr.loopE (α := Nat) [4, 5, 26] [24, 25] (fun x => [.int .i64 0, .int .i64 0, .int .i64 x]) (fun _ => []) (fun x => x ≤ pp.length ∧ m = xDT pp (pp.length - x) x) (fun x => pp.length - x) 0 S.T rfl ⟨Nat.zero_le _, hm⟩ fun k u hk => ?_
   obtain ⟨hk, hm2⟩ := hk
   simp only [List.nil_append]
   by_cases hin : k < pp.length
   ·have hw := Xo (k := k) S.o
    have hlk := hps _ (xB6 hin)
    have hcl := xKo (s := (ix pp (k : Int)).s) hlk
    rw [show pp.length - k = (pp.length - (k + 1)) + 1 by omega] at hm2
    unfold xDT at hm2
    cases ha : (ix pp (k : Int)).d.any xDe with
    | false =>
     rw [ha, if_neg (by decide)] at hm2
     rw [ha] at hcl
     have hX := hw; repeat' (first | rintro _ _ ⟨rfl, rfl⟩ | (refine G.call 38 ?_; refine S.c ?_ (h := hcl)) | refine S.x ?_ | intro hb | fail)
     all_goals exact S.R (k + 1)
    | true =>
     rw [ha, if_pos rfl] at hm2
     rw [ha] at hcl
     rw [hm2, if_neg S.o] at hK
     clear hm hm2
     have hX := hw; repeat' (first | rintro _ _ ⟨rfl, rfl⟩ | (refine G.call 38 ?_; refine S.c ?_ (h := hcl)) | refine S.x ?_ | intro hb | fail)
     all_goals exact Tr.fin hK ⟨rfl, rfl⟩ S.E
   ·have hke : k = pp.length := by omega
    subst hke
    rw [Nat.sub_self] at hm2
    unfold xDT at hm2
    rw [hm2, if_pos (by decide)] at hK
    clear hm hm2
    repeat' (first | refine S.x ?_ | fail)
    all_goals exact Tr.fin hK ⟨rfl, rfl⟩ S.E
 ·rw [if_pos h0] at hK
  refine S.I fun u => ?_
  have hX := h0; repeat' (first | rintro _ _ ⟨rfl, rfl⟩ | (refine G.call 37 ?_; refine S.c ?_ (h := hv)) | refine S.x ?_ | intro hb | fail)
  all_goals exact Tr.fin hK ⟨rfl, rfl⟩ S.E
end
end
structure xJc (c : xs2) (pp : List xB0) (fs : List xBS) : Prop where
 f : fs.length ≤ 70
 p : pp.length ≤ 20
 c : ∀ p ∈ c.parts.d, p.cap ≤ 300
 s : ∀ p ∈ pp, p.d.length ≤ 20 ∧ ∀ x ∈ p.d, x.d.length ≤ 100
section
variable {c : xs2} {ps fv : SV} {pp : List xB0} {fs : List xBS}
theorem xHe : Xb prog 14 #[.agg (En.enc c).toArray]
  [sl true c.parts.s.v c.parts.d, fzl c.parts.d, sl true c.chans.s.v c.chans.d, sl true c.modes.s.v c.modes.d, fzl c.modes.d, sl true c.levels.s.v c.levels.d, sl true c.naps.s.v c.naps.d, sl true c.down.s.v c.down.d, sl true c.up.s.v c.up.d]
  fun v l' => ∃ b : Bool, (b = true → shC c) ∧ v = .bool b ∧ l' = [] := by
 intro F K hK
 simp only [ap]
 refine S.I fun u => ?_
 by_cases h1 : c.parts.d.length ≤ 100 ∧ c.chans.d.length ≤ 100 ∧ c.modes.d.length ≤ 100 ∧ c.levels.d.length ≤ 100 ∧ c.naps.d.length ≤ 100 ∧ c.down.d.length ≤ 100 ∧ c.up.d.length ≤ 100
 ·obtain ⟨h1, h2, h3, h4, h5, h6, h7⟩ := h1
  repeat' (first | refine S.x ?_ | intro hb | fail)
  refine Tr.loopE (α := Nat) [2, 3] [1] (fun k => [.bool false, .int .i64 k]) (fun _ => []) (fun k => k ≤ c.parts.d.length ∧ ∀ j : Nat, j < k → shP (ix c.parts.d (j : Int))) (fun k => c.parts.d.length - k) 0 S.T rfl ⟨Nat.zero_le _, fun j hj => absurd hj (Nat.not_lt_zero _)⟩ fun k u hk => ?_
  obtain ⟨hk, hall⟩ := hk
  simp only [List.nil_append]
  by_cases hin : k < c.parts.d.length
  ·have hw := Xo (k := k) S.o
   by_cases hp : (ix c.parts.d (k : Int)).regions.d.length ≤ 100 ∧ (ix c.parts.d (k : Int)).procs.d.length ≤ 100 ∧ (ix c.parts.d (k : Int)).ports.d.length ≤ 100 ∧ (ix c.parts.d (k : Int)).sems.d.length ≤ 100 ∧ (ix c.parts.d (k : Int)).pools.d.length ≤ 100 ∧ (ix c.parts.d (k : Int)).slates.d.length ≤ 100 ∧ (ix c.parts.d (k : Int)).acts.d.length ≤ 100
   ·obtain ⟨p1, p2, p3, p4, p5, p6, p7⟩ := hp
    have hall2 := JT (p := fun j : Nat => shP (ix c.parts.d (j : Int))) hall ⟨by omega, by omega, by omega, by omega, by omega, by omega, by omega⟩
    have hX := hw; repeat' (first | refine S.x ?_ | intro hb | fail)
    all_goals exact S.R (k + 1)
   ·have hX := hw; repeat' (first | refine S.x ?_ | refine S.y ?_ ?_ | intro hb | fail)
    all_goals first
     | exact Tr.fin hK ⟨false, (fun h => by cases h), rfl, rfl⟩ S.E
     | (exfalso; omega)
  ·have hall3 := xba (p := shP) S.o hall
   repeat' (first | refine S.x ?_ | fail)
   refine Tr.loopE (α := Nat) [2, 5] [1] (fun k => [.bool false, .int .i64 k]) (fun _ => []) (fun k => k ≤ c.modes.d.length ∧ ∀ j : Nat, j < k → (ix c.modes.d (j : Int)).wins.d.length ≤ 1000000000) (fun k => c.modes.d.length - k) 0 S.T rfl ⟨Nat.zero_le _, fun j hj => absurd hj (Nat.not_lt_zero _)⟩ fun k u hk => ?_
   obtain ⟨hk, halm⟩ := hk
   simp only [List.nil_append]
   by_cases hin : k < c.modes.d.length
   ·have hw := Xo (k := k) S.o
    by_cases hp : (ix c.modes.d (k : Int)).wins.d.length ≤ 100
    ·have hall2 := JT (p := fun j : Nat => (ix c.modes.d (j : Int)).wins.d.length ≤ 1000000000) halm S.o
     have hX := hw; repeat' (first | refine S.x ?_ | intro hb | fail)
     all_goals exact S.R (k + 1)
    ·have hX := hw; repeat' (first | refine S.x ?_ | intro hb | fail)
     all_goals exact Tr.fin hK ⟨false, (fun h => by cases h), rfl, rfl⟩ S.E
   ·have halm3 := xba (p := fun m : xCp => m.wins.d.length ≤ 1000000000) S.o halm
    repeat' (first | refine S.x ?_ | fail)
    all_goals exact Tr.fin hK ⟨true, (fun _ => ⟨by omega, by omega, by omega, by omega, by omega, by omega, by omega, hall3, halm3⟩), rfl, rfl⟩ S.E
 ·repeat' (first | refine S.x ?_ | refine S.y ?_ ?_ | intro hb | fail)
  all_goals first
   | exact Tr.fin hK ⟨false, (fun h => by cases h), rfl, rfl⟩ S.E
   | (exfalso; omega)
theorem xJu : Xb prog 22 #[.agg (En.enc c).toArray, .agg #[ps.v, fv.v]]
    [sl true c.parts.s.v c.parts.d, fzl c.parts.d, sl true ps.v pp, fzl pp, sl true fv.v fs]
    fun v l' => ∃ b : Bool, (b = true → xJc c pp fs) ∧ v = .bool b ∧ l' = [] := by
  intro F K hK
  simp only [ap]
  refine S.I fun u => ?_
  by_cases h1 : fs.length ≤ 70 ∧ pp.length ≤ 20 ∧ c.parts.d.length ≤ 100
  · obtain ⟨h1, h2, h3⟩ := h1
    repeat' (first | refine S.x ?_ | intro hb | fail)
    refine Tr.loopE (α := Nat) [4, 5] [2, 3] (fun k => [.bool false, .int .i64 k]) (fun _ => []) (fun k => k ≤ c.parts.d.length ∧ ∀ j : Nat, j < k → (ix c.parts.d (j : Int)).cap ≤ 300) (fun k => c.parts.d.length - k) 0 S.T rfl ⟨Nat.zero_le _, fun j hj => absurd hj (Nat.not_lt_zero _)⟩ fun k u hk => ?_
    obtain ⟨hk, hall⟩ := hk
    simp only [List.nil_append]
    by_cases hin : k < c.parts.d.length
    · have hw := Xo (k := k) S.o
      by_cases hp : (ix c.parts.d (k : Int)).cap ≤ 300
      · have hall2 := JT (p := fun j : Nat => (ix c.parts.d (j : Int)).cap ≤ 300) hall hp
        have hX := hw; repeat' (first | refine S.x ?_ | intro hb | fail)
        all_goals exact S.R (k + 1)
      · have hX := hw; repeat' (first | refine S.x ?_ | intro hb | fail)
        all_goals exact Tr.fin hK ⟨false, (fun h => by cases h), rfl, rfl⟩ S.E
    · have hall3 := xba (p := fun p : YF => p.cap ≤ 300) S.o hall
      repeat' (first | refine S.x ?_ | fail)
      refine Tr.loopE (α := Nat) [4, 6] [3] (fun k => [.bool false, .int .i64 k]) (fun _ => []) (fun k => k ≤ pp.length ∧ ∀ j : Nat, j < k → (ix pp (j : Int)).d.length ≤ 20 ∧ ∀ x ∈ (ix pp (j : Int)).d, x.d.length ≤ 100) (fun k => pp.length - k) 0 S.T rfl ⟨Nat.zero_le _, fun j hj => absurd hj (Nat.not_lt_zero _)⟩ fun k u hk => ?_
      obtain ⟨hk, halm⟩ := hk
      simp only [List.nil_append]
      by_cases hin : k < pp.length
      · have hw := Xo (k := k) S.o
        have hsh := xjN (s := (ix pp (k : Int)).s) (ps := (ix pp (k : Int)).d)
        have hX := hw; repeat' (first | rintro _ _ ⟨bs, hbs, rfl, rfl⟩ | (refine G.call 36 ?_; refine S.c ?_ (h := hsh)) | refine S.x ?_ | refine S.y ?_ ?_ | intro hb | fail)
        all_goals first
          | exact Tr.fin hK ⟨false, (fun h => by cases h), rfl, rfl⟩ S.E
          | (have hall2 := JT (p := fun j : Nat => (ix pp (j : Int)).d.length ≤ 20 ∧ ∀ x ∈ (ix pp (j : Int)).d, x.d.length ≤ 100) halm (hbs rfl)
             exact S.R (k + 1))
          | (have hall2 := JT (p := fun j : Nat => (ix pp (j : Int)).d.length ≤ 20 ∧ ∀ x ∈ (ix pp (j : Int)).d, x.d.length ≤ 100) halm (hbs ‹_›)
             exact S.R (k + 1))
      · have halm3 := xba (p := fun p : xB0 => p.d.length ≤ 20 ∧ ∀ x ∈ p.d, x.d.length ≤ 100) S.o halm
        repeat' (first | refine S.x ?_ | fail)
        all_goals exact Tr.fin hK ⟨true, (fun _ => ⟨h1, h2, hall3, halm3⟩), rfl, rfl⟩ S.E
  · repeat' (first | refine S.x ?_ | refine S.y ?_ ?_ | intro hb | fail)
    all_goals first
      | exact Tr.fin hK ⟨false, (fun h => by cases h), rfl, rfl⟩ S.E
      | (exfalso; omega)
end
def xw9 (C : CC) : Int := Wr (Z9 C.conf).room (Z9 C.conf).ms
section
variable {C : CC} {c : CM} {k p : Int} {b : List UInt8} {ps : List AP}
theorem xnr {xs : List WZ} {k : Int} : (ix (xs.map Jj) k).2 = false := by
 rcases ZH (xs.map Jj) k with h | h
 ·obtain ⟨x, _, e⟩ := List.mem_map.1 h
  rw [← e]; rfl
 ·rw [h]; rfl
theorem xfg (hc : okC C) : Vz (Z9 C.conf) := xdJ hc.cap hc.cost (by rw [hc.np]; have := hc.n8; omega)
theorem xkZ (hc : okC C) (hi : Inv C c) : Inv C (QU C c) := ⟨xkN hi.ok, xq6, hi.p, xmn hc, fun m hm => by
 have : some (Z9 C.conf) = some m := hm
 cases this
 exact xfg hc, fun m hm k _ hd => by
 have : some (Z9 C.conf) = some m := hm
 cases this
 rw [show (ix (Z9 C.conf).ms k).2 = false from xnr] at hd
 cases hd⟩
theorem xnk (hc : okC C) (hi : Inv C c) : Rch C 444 (QU C c) (ZL C c) := by
 unfold ZL
 split
 ·exact xkq hc (xkZ hc hi).ok
 ·exact .le (.refl _) S.o
theorem xfq (hc : okC C) (hi : Inv C c) (h1 : JB c) : Inv C (ZL C c) ∧ JB (ZL C c) ∧ (ZL C c).evs.length ≤ c.evs.length + 444 ∧ xb1 (ZL C c) = (Z9 C.conf).room ∧ JZ (ZL C c) ≤ xw9 C := by
 have hr := xnk hc hi
 have hw := xkZ hc hi
 refine ⟨hr.inv hc hw, hr.r1 (show JB (QU C c) from h1), hr.ev, hr.room, ?_⟩
 refine Int.le_trans (xqF (hr.inv hc hw).sl).2.1 (Int.le_trans (hr.lef hc hw.ok hw.S hw.sl) (Int.le_of_eq ?_))
 show (if (Z9 C.conf).room < VT (Z9 C.conf).ms then (Z9 C.conf).room else VT (Z9 C.conf).ms) = xw9 C
 exact (xiS (xfg hc)).symm
theorem xvZ : (J0 ps k b).map AP.c = ps.map AP.c := by
 unfold J0
 split
 ·rename_i h
  exact xcS (JG h) rfl
 ·split
  ·rename_i h
   split
   ·exact xcS (JG h) rfl
   ·exact xcS (JG h) rfl
  ·rfl
theorem xs6 : (YQ ps k).map AP.c = ps.map AP.c := by
 unfold YQ
 split
 ·rename_i h
  exact xcS (JG h) rfl
 ·split
  ·rename_i h
   split
   ·exact xcS (JG h) rfl
   ·rfl
  ·rfl
theorem xlR (_ : okC C) (hi : Inv C c) (h1 : JB c) (h : ps.map AP.c = c.pts.map AP.c) : Inv C { c with pts := ps } ∧ JB { c with pts := ps } := ⟨⟨⟨hi.ok.tb, hi.ok.pos, hi.ok.rest, hi.ok.addr, hi.ok.data, hi.ok.done, hi.ok.pi, hi.ok.ad, hi.ok.dl⟩, hi.dp, h.trans hi.p, hi.S, hi.sl, hi.sd⟩, h1⟩
theorem xpO (hc : okC C) : Inv C (V4 C) := by
 have hn : ∀ m : SlM, (V4 C).slk = some m → False := fun m hm => by cases (show (none : Option SlM) = some m from hm)
 refine ⟨xeC hc, fun k h0 hk => ?_, ?_, fun m hm => (hn m hm).elim, fun m hm => (hn m hm).elim, fun m hm => (hn m hm).elim⟩
 ·have h1 : ix (List.replicate C.progs.length false) k = true := hk
  have h2 : ix (List.replicate C.progs.length false) k = false := by
   unfold ix
   rw [List.getD_eq_getElem?_getD, List.getElem?_replicate]
   split <;> rfl
  rw [h1] at h2
  cases h2
 ·show (Wm C.conf.ports.d).map AP.c = _
  unfold Wm
  rw [List.map_map]
  exact List.map_id _
theorem xkz {win : Int} : (Yd C c k win).rest = (toM C c k 0).rest := by
 unfold Yd
 simp only
 split <;> rfl
theorem xjh (n : Nat) (hn : n ≤ c.rest.length) {win : Int} : (XS C c win n).rest.length = c.rest.length ∧ ∀ j : Nat, j < n → 1 ≤ ix (XS C c win n).rest (j : Int) ∧ ix (XS C c win n).rest (j : Int) ≤ 1073741824 := by
 induction n with
 | zero => exact ⟨rfl, fun j hj => absurd hj (Nat.not_lt_zero _)⟩
 | succ n ih =>
  obtain ⟨h1, h2⟩ := ih S.o
  have e : (XS C c win (n + 1)).rest = (XS C c win n).rest.set (n : Int).toNat (WQ (ix (ix C.progs (n : Int)) (atM (ix C.progs (n : Int)) 0)).cycles) := by
   show (Yd C (XS C c win n) (n : Int) win).rest = _
   rw [xkz]
   rfl
  rw [e]
  refine ⟨by rw [List.length_set]; exact h1, fun j hj => ?_⟩
  have hr : inR (XS C c win n).rest (n : Int) := ⟨by omega, by omega⟩
  rw [YY hr S.o]
  split
  ·exact xct
  ·exact h2 j S.o
theorem xmr (hc : okC C) : Inv C (Qn C) ∧ JB (Qn C) ∧ (Qn C).evs = [] := by
 have hr : Rch C 0 (V4 C) (Qn C) := xaj _ (Nat.le_refl _)
 have hl : (V4 C).rest.length = C.progs.length := List.length_replicate
 obtain ⟨h1, h2⟩ := xjh (C := C) (c := V4 C) (win := 0) C.progs.length S.o
 refine ⟨hr.inv hc (xpO hc), fun x hx => ?_, ?_⟩
 ·obtain ⟨j, hj, e⟩ := List.mem_iff_getElem.1 hx
  have h3 := h2 j (by rw [← hl, ← h1]; exact hj)
  have h4 : ix (Qn C).rest (j : Int) = x := by
   unfold ix
   rw [Int.toNat_natCast, List.getD_eq_getElem?_getD, List.getElem?_eq_getElem hj, e]
   rfl
  rw [← h4]; exact h3
 ·have := hr.ev
  exact List.length_eq_zero_iff.1 (Nat.le_zero.1 this)
end
section
variable {C : CC} {c c' : CM} {n m : Nat} {ls : List xBI} {bud q cyc : Int}
theorem Rch.up (h : Rch C n c c') : c.evs.length ≤ c'.evs.length := by
 induction h with
 | trans _ _ h1 h2 => omega
 | note => simp [Xa]
 | le _ _ h1 => exact h1
 | _ => exact Nat.le_refl _
def xCt (C : CC) (ls : List xBI) (bud q : Int) : Nat → CM → Int → CM × Int
 | 0, c, cyc => (c, cyc)
 | n + 1, c, cyc => if xBO ls bud q cyc (X0 c) < 1 then (c, cyc) else xCt C ls bud q n (xaO C c (xBO ls bud q cyc (X0 c))) (xCb ls cyc (xcH c (xBO ls bud q cyc (X0 c))))
def xCW (C : CC) (ls : List xBI) (bud q : Int) (c : CM) (cyc : Int) : CM × Int := xCt C ls bud q ((xw9 C).toNat + 1) (ZL C c) cyc
theorem xFQ {want : Int} (h : ¬ xBO ls bud q cyc want < 1) : xBO ls bud q cyc want ≤ want ∧ 1 ≤ xBO ls bud q cyc want ∧ xBO ls bud q cyc want ≤ max q want ∧ ¬ bud ≤ (xBJ ls cyc).1 := by
 unfold xBO at *
 split at h
 ·exact absurd (by decide) h
 ·rename_i hn
  rw [if_neg hn]
  simp only [not_or] at hn
  split at h
  ·rename_i hq
   rw [if_pos hq]
   omega
  ·rename_i hq
   rw [if_neg hq]
   omega
theorem xKk {want : Int} (h : ¬ xBO ls bud q cyc want < 1) : xBO ls bud q cyc want ≤ q := by
 unfold xBO at *
 split at h
 ·exact absurd (by decide) h
 ·rename_i hn
  rw [if_neg hn]
  split at h
  ·rename_i hq
   rw [if_pos hq]
   omega
  ·rename_i hq
   rw [if_neg hq]
   omega
theorem xIP {k : Int} (h1 : 1 ≤ k) (h2 : k ≤ X0 c) : xcH c k = k := by
 unfold xcH xc8
 by_cases h : X0 c < k
 ·omega
 ·rw [if_neg h, if_neg S.o]
theorem xHM (hc : okC C) (hi : Inv C c) (h1 : JB c) (hm : (JZ c).toNat < m + 1) (hp : ¬ xBO ls bud q cyc (X0 c) < 1) :
  (JZ (xaO C c (xBO ls bud q cyc (X0 c)))).toNat < m ∧ xcH c (xBO ls bud q cyc (X0 c)) = xBO ls bud q cyc (X0 c) := by
 obtain ⟨a1, a2, _, _⟩ := xFQ hp
 have e := xIP a2 a1
 obtain ⟨b1, b2⟩ := xHS (cyc := xBO ls bud q cyc (X0 c)) hc hi h1
 rw [e] at b1 b2
 exact ⟨by omega, e⟩
structure xDt (C : CC) (c : CM) (cyc : Int) : Prop where
 i : Inv C c
 r : JB c
 m : mD c.pts
 c0 : 0 ≤ cyc
 c1 : cyc ≤ 1099511627776
theorem xIM {k : Int} (h0 : 0 ≤ cyc) (h1 : cyc ≤ 1099511627776) : 0 ≤ xCb ls cyc k ∧ xCb ls cyc k ≤ 1099511627776 := by
 unfold xCb
 split
 ·exact ⟨h0, h1⟩
 ·split
  ·exact ⟨h0, h1⟩
  ·split
   ·omega
   ·exact ⟨h0, h1⟩
theorem xGg (hc : okC C) (hi : Inv C c) (h1 : JB c) {k : Int} (hm : mD c.pts) : mD (xaO C c k).pts ∧ c.evs.length ≤ (xaO C c k).evs.length ∧ (xaO C c k).evs.length ≤ c.evs.length + 122 := by
 unfold xaO
 by_cases h : xc8 c k < 1
 ·rw [if_pos h]; exact ⟨hm, Nat.le_refl _, by omega⟩
 ·rw [if_neg h]
  have hn : xc8 c k ≤ X0 c := by unfold xc8; split <;> omega
  obtain ⟨m, hr⟩ := xdp hi S.o
  obtain ⟨a, _⟩ := xlZ hc hr hi h1 S.o hn
  exact ⟨a.md hm, a.up, a.ev⟩
theorem xDt.ran (hc : okC C) (h : xDt C c cyc) {k j : Int} : xDt C (xaO C c k) (xCb ls cyc j) := by
 obtain ⟨t, t1, t2, t3, t4, t5, t6, t7⟩ := xiN hc h.i h.r (cyc := k)
 obtain ⟨s0, s1⟩ := xIM (ls := ls) (k := j) h.c0 h.c1
 exact ⟨t5, t6, (xGg hc h.i h.r h.m).1, s0, s1⟩
theorem xDt.begin (hc : okC C) (h : xDt C c cyc) : xDt C (ZL C c) cyc ∧ c.evs.length ≤ (ZL C c).evs.length ∧ (ZL C c).evs.length ≤ c.evs.length + 444 ∧ JZ (ZL C c) ≤ xw9 C := by
 obtain ⟨b1, b2, b3, _, b5⟩ := xfq hc h.i h.r
 have hr := xnk hc h.i
 exact ⟨⟨b1, b2, hr.md h.m, h.c0, h.c1⟩, hr.up, b3, b5⟩
theorem xEP (hc : okC C) : ∀ (n : Nat) {c : CM} {cyc : Int}, xDt C c cyc → xDt C (xCt C ls bud q n c cyc).1 (xCt C ls bud q n c cyc).2 ∧ c.evs.length ≤ (xCt C ls bud q n c cyc).1.evs.length ∧ (xCt C ls bud q n c cyc).1.evs.length ≤ c.evs.length + n * 122
 | 0, c, cyc, h => ⟨h, Nat.le_refl _, by show c.evs.length ≤ _; omega⟩
 | n + 1, c, cyc, h => by
  unfold xCt
  split
  ·exact ⟨h, Nat.le_refl _, by show c.evs.length ≤ _; omega⟩
  ·obtain ⟨_, r2, r3⟩ := xGg hc h.i h.r h.m (k := xBO ls bud q cyc (X0 c))
   obtain ⟨x1, x2, x3⟩ := xEP hc n (h.ran (ls := ls) hc (k := xBO ls bud q cyc (X0 c)) (j := xcH c (xBO ls bud q cyc (X0 c))))
   exact ⟨x1, by omega, by omega⟩
end
section
structure SyW where
 ev : SV
 ms : SV
 bd : SV
 sh : SV
 md : SV
 cr : SV
 cs : SV
 ps : SV
 sn : SV
 bk : Nat
instance xMg : ElT 92 Pt := ⟨⟩
instance xLr : ElT 93 Pt := ⟨⟩
abbrev xGl (p : Nat) (c : xs2) (y : SyW) : Xc := blk p (.cells #[y.ev.v, y.ms.v, y.bd.v, .slice none 0 0, .int .i64 0, .int .i64 0, .int .i64 0, .int .i64 0, y.sh.v, y.md.v, y.cr.v, .int .i64 0,
 c.parts.s.v, c.chans.s.v, c.modes.s.v, c.levels.s.v, c.naps.s.v, .int .i64 c.sw, .int .i64 c.idle, .int .i64 c.change, .int .i64 c.quantum, .int .i64 c.slow, .int .i64 c.ppm, c.down.s.v, c.up.s.v,
 y.cs.v, y.ps.v, y.sn.v, .pointer (some ⟨y.bk, 0, none⟩)] 96 (0, 0))
attribute [local irreducible] xBG inB xBZ xB7 xBJ xB8
section
variable {p b : Nat} {c : xs2} {y : SyW} {C : CC} {w : CW} {m : CM} {k : Int} {cells : List Pt} {seen : List Int} {evs : List EvC}
theorem xGc (h0 : 0 ≤ k) (h1 : k < cells.length) (h2 : seen.length = cells.length) (hb : ix cells k = ⟨some b⟩) (hs0 : 0 ≤ ix seen k) (hs1 : ix seen k ≤ m.evs.length) (he : m.evs.length ≤ 500000000) (hev : evs.length ≤ 500000000) :
  Xb prog 87 #[.pointer (some ⟨p, 0, none⟩), .int .i64 k] [xGl p c y, sl true y.cs.v cells, sl false y.sn.v seen, sl false y.ev.v evs, ZA b C m.mode m.win w, sl false w.ev.v m.evs]
  fun v l' => ∃ s : SV, v = .tuple #[] ∧ l' = [xGl p c { y with ev := s }, sl false y.sn.v (seen.set k.toNat (m.evs.length : Int)), sl false s.v (evs ++ m.evs.drop (ix seen k).toNat), ZA b C m.mode m.win w, sl false w.ev.v m.evs] := by
 intro F K hK
 simp only [ap]
 have hml : m.evs.length ≤ 1000000000 := by omega
 have hce := xdF (b := b) (C := C) (mode := m.mode) (win := m.win) (w := w) hml
 refine S.I fun u => ?_
 have hX := I3 @xLV.eq_def hb h2; repeat' (first | rintro _ _ ⟨se, rfl, rfl⟩ | (refine G.call 136 ?_; refine S.c ?_ (h := hce)) | refine S.x ?_ | intro hb | fail)
 refine Tr.freezeAt (v := se.v) (xs := m.evs) S.K ?_
 refine S.d ?_
 have hX := I3 @xLV.eq_def hb h2; repeat' (first | intro (sv : SV) | refine S.x ?_ | intro hb | fail)
 all_goals exact Tr.fin hK ⟨sv, rfl, rfl⟩ S.E
