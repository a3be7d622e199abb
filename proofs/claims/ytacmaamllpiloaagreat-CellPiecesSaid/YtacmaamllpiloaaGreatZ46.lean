import Derived.Test.YtacmaamllpiloaaGreatGA
namespace Go.Proofs.YtacmaamllpiloaaGreat
open Go Go.Wk Tryz
set_option maxHeartbeats 3200000
set_option maxRecDepth 100000
def xtr (c : YF) : Prop := (∀ x ∈ c.pools.d, x.size ≤ 64 ∧ x.depth ≤ 16) ∧ ∀ x ∈ c.slates.d, x ≤ 64
structure xkj (c : YF) : Prop where
 r : ∀ x ∈ c.regions.d, 0 ≤ x.base ∧ x.base ≤ 1048576
 n1 : 1 ≤ c.procs.d.length
 n8 : c.procs.d.length ≤ 8
 p : ∀ x ∈ c.procs.d, x.cost ≤ 1000000000
 o : ∀ x ∈ c.ports.d, x.size ≤ 64 ∧ x.depth ≤ 16
 b : xtr c
 c1 : 1 ≤ c.cap
 c9 : c.cap ≤ 1000000000
section
attribute [local irreducible] BrK Xq Xt Xv XI FnK XZ Xw XC XV opX opK Yq Yk eqR Yj Yo Ys WL WD W X3 XO Tr drewK Ya X4 Yw Yv X1 YB mp blk rob sl sep ex fact old
section
variable {a b s : SV} {xs : List EvC}
theorem xfV (hl : xs.length ≤ 1000000000) : Xb prog 25 #[a.v, b.v] [sl false a.v xs, sl false b.v xs]
  fun v l' => v = .bool true ∧ l' = [sl false a.v xs, sl false b.v xs] := by
 intro F K hK
 simp only [ap] at hK ⊢
 refine S.I fun u => ?_
 have hX := @xrH.eq_def; repeat' (first | refine S.x ?_ | fail)
 refine Tr.loopE (α := Nat) [4, 5] [0, 1] (fun k => [.bool false, .int .i64 k]) (fun k => [sl false a.v xs, sl false b.v xs]) (fun k => k ≤ xs.length) (fun k => xs.length - k) 0 S.T rfl (Nat.zero_le _) fun k u hk => ?_
 simp only [ap]
 by_cases hin : k < xs.length
 ·have hw := Xo (k := k) S.o
  have hX := And.intro @xrH.eq_def hw; repeat' (first | refine S.x ?_ | intro hb | fail)
  all_goals exact S.R (k + 1)
 ·have hX := @xrH.eq_def; repeat' (first | refine S.x ?_ | fail)
  all_goals exact S.L
theorem xjN {ps : List (SL XE)} : Xb prog 50 #[s.v] [sl true s.v ps, fzl ps]
  fun v l' => ∃ b : Bool, (b = true → ps.length ≤ 20 ∧ ∀ x ∈ ps, x.d.length ≤ 100) ∧ v = .bool b ∧ l' = [] := by
 intro F K hK
 simp only [ap] at hK ⊢
 refine S.I fun u => ?_
 by_cases h20 : ps.length ≤ 20
 ·repeat' (first | refine S.x ?_ | fail)
  refine Tr.loopE (α := Nat) [2, 3] [0] (fun k => [.bool false, .int .i64 k]) (fun _ => []) (fun k => k ≤ ps.length ∧ ∀ j : Nat, j < k → (ix ps (j : Int)).d.length ≤ 100) (fun k => ps.length - k) 0 S.T rfl ⟨Nat.zero_le _, fun j hj => absurd hj (Nat.not_lt_zero _)⟩ fun k u hk => ?_
  obtain ⟨hk, hall⟩ := hk
  simp only [List.nil_append]
  by_cases hin : k < ps.length
  ·have hw := Xo (k := k) S.o
   by_cases h1 : (ix ps (k : Int)).d.length ≤ 100
   ·have hall2 := JT (p := fun j : Nat => (ix ps (j : Int)).d.length ≤ 100) hall h1
    have hX := hw; repeat' (first | refine S.x ?_ | intro hb | fail)
    all_goals exact S.R (k + 1)
   ·have hX := hw; repeat' (first | refine S.x ?_ | intro hb | fail)
    all_goals exact Tr.fin hK ⟨false, (fun h => by cases h), rfl, rfl⟩ S.E
  ·have hall3 := xba (p := fun x : SL XE => x.d.length ≤ 100) S.o hall
   repeat' (first | refine S.x ?_ | fail)
   all_goals exact Tr.fin hK ⟨true, (fun _ => ⟨h20, hall3⟩), rfl, rfl⟩ S.E
 ·repeat' (first | refine S.x ?_ | fail)
  all_goals exact Tr.fin hK ⟨false, (fun h => by cases h), rfl, rfl⟩ S.E
theorem YA {n x y : Int} : Xb prog 112 #[.int .i64 n, .int .i64 x, .int .i64 y] []
  fun v l' => v = .bool (decide (n < x ∨ y < n)) ∧ l' = [] := by
 intro F K hK
 simp only [List.nil_append] at hK ⊢
 refine S.I fun u => ?_
 by_cases h1 : n < x
 ·have e : decide (n < x ∨ y < n) = true := decide_eq_true (.inl h1)
  rw [e] at hK
  repeat' (first | refine S.x ?_ | fail)
  all_goals exact S.L
 ·by_cases h2 : y < n
  ·have e : decide (n < x ∨ y < n) = true := decide_eq_true (.inr h2)
   rw [e] at hK
   repeat' (first | refine S.x ?_ | fail)
   all_goals exact S.L
  ·have e : decide (n < x ∨ y < n) = false := decide_eq_false S.o
   rw [e] at hK
   repeat' (first | refine S.x ?_ | fail)
   all_goals exact S.L
theorem xgu {u0 : Value} {c : YF} [hd : DeA u0 c] : Xb prog 113 #[u0] [sl true c.sems.s.v c.sems.d, sl true c.pools.s.v c.pools.d, sl true c.slates.s.v c.slates.d]
  fun v l' => ∃ b : Bool, (b = true → xtr c) ∧ v = .bool b ∧ l' = [] := by
 obtain rfl := hd.h
 intro F K hK
 simp only [ap] at hK ⊢
 obtain ⟨c1, c2, c3, c4, c5, c6, c7, c8, c9, c10, c11⟩ := c
 simp only at hK ⊢
 refine S.I fun u => ?_
 by_cases h4 : c4.d.length ≤ 4
 ·by_cases h6 : c6.d.length ≤ 4
  ·by_cases h7 : c7.d.length ≤ 4
   ·by_cases h5 : 0 ≤ c5 ∧ c5 ≤ 8
    ·have e5 : decide (c5 < 0 ∨ 8 < c5) = false := decide_eq_false S.o
     clear h5
     have hX := And.intro @V5.eq_def @e5; repeat' (first | refine S.x ?_ | (refine G.call 112 ?_; refine S.c ?_ (h := YA)) | rintro _ _ ⟨rfl, rfl⟩ | intro hb | fail)
     refine Tr.loopE (α := Nat) [2, 3] [1] (fun k => [.bool false, .int .i64 k]) (fun _ => []) (fun k => k ≤ c4.d.length) (fun k => c4.d.length - k) 0 S.T rfl (Nat.zero_le _) fun k u hk => ?_
     simp only [List.nil_append]
     by_cases hin : k < c4.d.length
     ·have hw := Xo (k := k) S.o
      have hX := And.intro @V5.eq_def hw; repeat' (first | refine S.x ?_ | refine S.y ?_ ?_ | (refine G.call 112 ?_; refine S.c ?_ (h := YA)) | rintro _ _ ⟨rfl, rfl⟩ | intro hb | fail)
      all_goals first
       | exact S.R (k + 1)
       | exact Tr.fin hK ⟨false, (fun h => by cases h), rfl, rfl⟩ S.E
     ·have hX := @V5.eq_def; repeat' (first | refine S.x ?_ | fail)
      refine Tr.loopE (α := Nat) [2, 4] [1] (fun k => [.bool false, .int .i64 k]) (fun _ => []) (fun k => k ≤ c6.d.length ∧ ∀ j : Nat, j < k → (ix c6.d (j : Int)).size ≤ 64 ∧ (ix c6.d (j : Int)).depth ≤ 16) (fun k => c6.d.length - k) 0 S.T rfl ⟨Nat.zero_le _, fun j hj => absurd hj (Nat.not_lt_zero _)⟩ fun k2 u2 hk2 => ?_
      obtain ⟨hk2, hall⟩ := hk2
      simp only [List.nil_append]
      by_cases hin2 : k2 < c6.d.length
      ·have hw := Xo (k := k2) S.o
       by_cases q1 : 1 ≤ (ix c6.d (k2 : Int)).size ∧ (ix c6.d (k2 : Int)).size ≤ 64
       ·have e1 : decide ((ix c6.d (k2 : Int)).size < 1 ∨ 64 < (ix c6.d (k2 : Int)).size) = false := decide_eq_false S.o
        by_cases q2 : 1 ≤ (ix c6.d (k2 : Int)).depth ∧ (ix c6.d (k2 : Int)).depth ≤ 16
        ·have e2 : decide ((ix c6.d (k2 : Int)).depth < 1 ∨ 16 < (ix c6.d (k2 : Int)).depth) = false := decide_eq_false S.o
         have hall2 := JT (p := fun j : Nat => (ix c6.d (j : Int)).size ≤ 64 ∧ (ix c6.d (j : Int)).depth ≤ 16) hall ⟨q1.2, q2.2⟩
         clear q1 q2
         have hX := I4 @V5.eq_def hw @e1 @e2; repeat' (first | refine S.x ?_ | (refine G.call 112 ?_; refine S.c ?_ (h := YA)) | rintro _ _ ⟨rfl, rfl⟩ | intro hb | fail)
         all_goals exact S.R (k2 + 1)
        ·have e2 : decide ((ix c6.d (k2 : Int)).depth < 1 ∨ 16 < (ix c6.d (k2 : Int)).depth) = true := decide_eq_true S.o
         clear q1 q2
         have hX := I4 @V5.eq_def hw @e1 @e2; repeat' (first | refine S.x ?_ | (refine G.call 112 ?_; refine S.c ?_ (h := YA)) | rintro _ _ ⟨rfl, rfl⟩ | intro hb | fail)
         all_goals exact Tr.fin hK ⟨false, (fun h => by cases h), rfl, rfl⟩ S.E
       ·have e1 : decide ((ix c6.d (k2 : Int)).size < 1 ∨ 64 < (ix c6.d (k2 : Int)).size) = true := decide_eq_true S.o
        clear q1
        have hX := I3 @V5.eq_def hw @e1; repeat' (first | refine S.x ?_ | (refine G.call 112 ?_; refine S.c ?_ (h := YA)) | rintro _ _ ⟨rfl, rfl⟩ | intro hb | fail)
        all_goals exact Tr.fin hK ⟨false, (fun h => by cases h), rfl, rfl⟩ S.E
      ·have hp := xba (p := fun x : JC => x.size ≤ 64 ∧ x.depth ≤ 16) S.o hall
       have hX := @V5.eq_def; repeat' (first | refine S.x ?_ | fail)
       refine Tr.loopE (α := Nat) [2, 5] [1] (fun k => [.bool false, .int .i64 k]) (fun _ => []) (fun k => k ≤ c7.d.length ∧ ∀ j : Nat, j < k → ix c7.d (j : Int) ≤ 64) (fun k => c7.d.length - k) 0 S.T rfl ⟨Nat.zero_le _, fun j hj => absurd hj (Nat.not_lt_zero _)⟩ fun k3 u3 hk3 => ?_
       obtain ⟨hk3, hall3⟩ := hk3
       simp only [List.nil_append]
       by_cases hin3 : k3 < c7.d.length
       ·have hw := Xo (k := k3) S.o
        by_cases q1 : 1 ≤ ix c7.d (k3 : Int) ∧ ix c7.d (k3 : Int) ≤ 64
        ·have e1 : decide (ix c7.d (k3 : Int) < 1 ∨ 64 < ix c7.d (k3 : Int)) = false := decide_eq_false S.o
         have hall4 := JT (p := fun j : Nat => ix c7.d (j : Int) ≤ 64) hall3 q1.2
         clear q1
         have hX := I3 @V5.eq_def hw @e1; repeat' (first | refine S.x ?_ | (refine G.call 112 ?_; refine S.c ?_ (h := YA)) | rintro _ _ ⟨rfl, rfl⟩ | intro hb | fail)
         all_goals exact S.R (k3 + 1)
        ·have e1 : decide (ix c7.d (k3 : Int) < 1 ∨ 64 < ix c7.d (k3 : Int)) = true := decide_eq_true S.o
         clear q1
         have hX := I3 @V5.eq_def hw @e1; repeat' (first | refine S.x ?_ | (refine G.call 112 ?_; refine S.c ?_ (h := YA)) | rintro _ _ ⟨rfl, rfl⟩ | intro hb | fail)
         all_goals exact Tr.fin hK ⟨false, (fun h => by cases h), rfl, rfl⟩ S.E
       ·have hs := xba (p := fun x : Int => x ≤ 64) S.o hall3
        have hX := @V5.eq_def; repeat' (first | refine S.x ?_ | fail)
        all_goals exact Tr.fin hK ⟨true, (fun _ => ⟨hp, hs⟩), rfl, rfl⟩ S.E
    ·have e5 : decide (c5 < 0 ∨ 8 < c5) = true := decide_eq_true S.o
     have hX := And.intro @V5.eq_def @e5; repeat' (first | refine S.x ?_ | (refine G.call 112 ?_; refine S.c ?_ (h := YA)) | rintro _ _ ⟨rfl, rfl⟩ | intro hb | fail)
     all_goals exact Tr.fin hK ⟨false, (fun h => by cases h), rfl, rfl⟩ S.E
   ·have hX := @V5.eq_def; repeat' (first | refine S.x ?_ | intro hb | fail)
    all_goals exact Tr.fin hK ⟨false, (fun h => by cases h), rfl, rfl⟩ S.E
  ·have hX := @V5.eq_def; repeat' (first | refine S.x ?_ | intro hb | fail)
   all_goals exact Tr.fin hK ⟨false, (fun h => by cases h), rfl, rfl⟩ S.E
 ·have hX := @V5.eq_def; repeat' (first | refine S.x ?_ | intro hb | fail)
  all_goals exact Tr.fin hK ⟨false, (fun h => by cases h), rfl, rfl⟩ S.E
theorem xnD {u0 : Value} {c : YF} [hd : DeA u0 c] : Xb prog 49 #[u0] [sl true c.regions.s.v c.regions.d, sl true c.procs.s.v c.procs.d, sl true c.ports.s.v c.ports.d, sl true c.sems.s.v c.sems.d, sl true c.pools.s.v c.pools.d, sl true c.slates.s.v c.slates.d, sl true c.acts.s.v c.acts.d]
  fun v l' => ∃ n : Int, (n = 0 → xkj c) ∧ v = .int .i64 n ∧ l' = [] := by
 obtain rfl := hd.h
 intro F K hK
 simp only [ap] at hK ⊢
 refine S.I fun u => ?_
 by_cases h1 : c.regions.d.length ≤ 4
 ·repeat' (first | refine S.x ?_ | intro hb | fail)
  refine Tr.loopE (α := Nat × Int) [2, 3, 4] [1] (fun x => [.int .i64 0, .int .i64 x.2, .int .i64 x.1]) (fun _ => []) (fun x => x.1 ≤ c.regions.d.length ∧ 0 ≤ x.2 ∧ x.2 ≤ 1048576 ∧ ∀ j : Nat, j < x.1 → 0 ≤ (ix c.regions.d (j : Int)).base ∧ (ix c.regions.d (j : Int)).base ≤ 1048576) (fun x => c.regions.d.length - x.1) (0, 0) S.T rfl ⟨Nat.zero_le _, by decide, by decide, fun j hj => absurd hj (Nat.not_lt_zero _)⟩ fun x u hx => ?_
  obtain ⟨k, e⟩ := x
  obtain ⟨hk, he0, he9, hall⟩ := hx
  simp only at hk he0 he9 hall ⊢
  simp only [List.nil_append]
  by_cases hin : k < c.regions.d.length
  ·have hw := Xo (k := k) S.o
   by_cases q1 : e ≤ (ix c.regions.d (k : Int)).base ∧ (ix c.regions.d (k : Int)).base ≤ 1048576
   ·have e1 : decide ((ix c.regions.d (k : Int)).base < e ∨ 1048576 < (ix c.regions.d (k : Int)).base) = false := decide_eq_false S.o
    by_cases q2 : 1 ≤ (ix c.regions.d (k : Int)).size ∧ (ix c.regions.d (k : Int)).size ≤ 256
    ·have e2 : decide ((ix c.regions.d (k : Int)).size < 1 ∨ 256 < (ix c.regions.d (k : Int)).size) = false := decide_eq_false S.o
     have w1 : IntKind.i64.wrap (1048576 - (ix c.regions.d (k : Int)).size) = 1048576 - (ix c.regions.d (k : Int)).size := Ye S.o S.o
     by_cases q3 : (ix c.regions.d (k : Int)).base ≤ 1048576 - (ix c.regions.d (k : Int)).size
     ·have w2 : IntKind.i64.wrap ((ix c.regions.d (k : Int)).base + (ix c.regions.d (k : Int)).size) = (ix c.regions.d (k : Int)).base + (ix c.regions.d (k : Int)).size := Ye S.o S.o
      have hall2 := JT (p := fun j : Nat => 0 ≤ (ix c.regions.d (j : Int)).base ∧ (ix c.regions.d (j : Int)).base ≤ 1048576) hall ⟨by omega, q1.2⟩
      obtain ⟨q4, q5⟩ := q1
      obtain ⟨q6, q7⟩ := q2
      have hX := I5 hw @e1 @e2 @w1 @w2; repeat' (first | refine S.x ?_ | (refine G.call 112 ?_; refine S.c ?_ (h := YA)) | rintro _ _ ⟨rfl, rfl⟩ | intro hb | fail)
      all_goals exact S.R ((k + 1, (ix c.regions.d (k : Int)).base + (ix c.regions.d (k : Int)).size) : Nat × Int)
     ·have hX := I4 hw @e1 @e2 @w1; repeat' (first | refine S.x ?_ | (refine G.call 112 ?_; refine S.c ?_ (h := YA)) | rintro _ _ ⟨rfl, rfl⟩ | intro hb | fail)
      all_goals exact Tr.fin hK ⟨21, (fun h => absurd h (by decide)), rfl, rfl⟩ S.E
    ·have e2 : decide ((ix c.regions.d (k : Int)).size < 1 ∨ 256 < (ix c.regions.d (k : Int)).size) = true := decide_eq_true S.o
     have hX := I3 hw @e1 @e2; repeat' (first | refine S.x ?_ | (refine G.call 112 ?_; refine S.c ?_ (h := YA)) | rintro _ _ ⟨rfl, rfl⟩ | intro hb | fail)
     all_goals exact Tr.fin hK ⟨21, (fun h => absurd h (by decide)), rfl, rfl⟩ S.E
   ·have e1 : decide ((ix c.regions.d (k : Int)).base < e ∨ 1048576 < (ix c.regions.d (k : Int)).base) = true := decide_eq_true S.o
    have hX := And.intro hw @e1; repeat' (first | refine S.x ?_ | (refine G.call 112 ?_; refine S.c ?_ (h := YA)) | rintro _ _ ⟨rfl, rfl⟩ | intro hb | fail)
    all_goals exact Tr.fin hK ⟨21, (fun h => absurd h (by decide)), rfl, rfl⟩ S.E
  ·have hp1 := xba (p := fun x : xaL => 0 ≤ x.base ∧ x.base ≤ 1048576) S.o hall
   clear hall
   by_cases h2 : 1 ≤ (c.procs.d.length : Int) ∧ (c.procs.d.length : Int) ≤ 8
   ·have e2 : decide ((c.procs.d.length : Int) < 1 ∨ 8 < (c.procs.d.length : Int)) = false := decide_eq_false S.o
    have hX := @e2; repeat' (first | refine S.x ?_ | (refine G.call 112 ?_; refine S.c ?_ (h := YA)) | rintro _ _ ⟨rfl, rfl⟩ | fail)
    refine Tr.loopE (α := Nat) [2, 6] [1] (fun k => [.int .i64 0, .int .i64 k]) (fun _ => []) (fun k => k ≤ c.procs.d.length ∧ ∀ j : Nat, j < k → (ix c.procs.d (j : Int)).cost ≤ 1000000000) (fun k => c.procs.d.length - k) 0 S.T rfl ⟨Nat.zero_le _, fun j hj => absurd hj (Nat.not_lt_zero _)⟩ fun k2 u2 hk2 => ?_
    obtain ⟨hk2, hall⟩ := hk2
    simp only [List.nil_append]
    by_cases hin2 : k2 < c.procs.d.length
    ·have hw := Xo (k := k2) S.o
     by_cases q1 : 1 ≤ (ix c.procs.d (k2 : Int)).cost ∧ (ix c.procs.d (k2 : Int)).cost ≤ 1000000000
     ·have e1 : decide ((ix c.procs.d (k2 : Int)).cost < 1 ∨ 1000000000 < (ix c.procs.d (k2 : Int)).cost) = false := decide_eq_false S.o
      have hall2 := JT (p := fun j : Nat => (ix c.procs.d (j : Int)).cost ≤ 1000000000) hall q1.2
      clear q1
      have hX := And.intro hw @e1; repeat' (first | refine S.x ?_ | refine S.y ?_ ?_ | (refine G.call 112 ?_; refine S.c ?_ (h := YA)) | rintro _ _ ⟨rfl, rfl⟩ | intro hb | fail)
      all_goals first
       | exact S.R (k2 + 1)
       | exact Tr.fin hK ⟨22, (fun h => absurd h (by decide)), rfl, rfl⟩ S.E
     ·have e1 : decide ((ix c.procs.d (k2 : Int)).cost < 1 ∨ 1000000000 < (ix c.procs.d (k2 : Int)).cost) = true := decide_eq_true S.o
      clear q1
      have hX := And.intro hw @e1; repeat' (first | refine S.x ?_ | refine S.y ?_ ?_ | (refine G.call 112 ?_; refine S.c ?_ (h := YA)) | rintro _ _ ⟨rfl, rfl⟩ | intro hb | fail)
      all_goals exact Tr.fin hK ⟨22, (fun h => absurd h (by decide)), rfl, rfl⟩ S.E
    ·have hp2 := xba (p := fun x : WZ => x.cost ≤ 1000000000) S.o hall
     clear hall
     by_cases h3 : c.ports.d.length ≤ 8
     ·repeat' (first | refine S.x ?_ | fail)
      refine Tr.loopE (α := Nat) [2, 8] [1] (fun k => [.int .i64 0, .int .i64 k]) (fun _ => []) (fun k => k ≤ c.ports.d.length ∧ ∀ j : Nat, j < k → (ix c.ports.d (j : Int)).size ≤ 64 ∧ (ix c.ports.d (j : Int)).depth ≤ 16) (fun k => c.ports.d.length - k) 0 S.T rfl ⟨Nat.zero_le _, fun j hj => absurd hj (Nat.not_lt_zero _)⟩ fun k3 u3 hk3 => ?_
      obtain ⟨hk3, hall⟩ := hk3
      simp only [List.nil_append]
      by_cases hin3 : k3 < c.ports.d.length
      ·have hw := Xo (k := k3) S.o
       by_cases q1 : 1 ≤ (ix c.ports.d (k3 : Int)).size ∧ (ix c.ports.d (k3 : Int)).size ≤ 64
       ·have e1 : decide ((ix c.ports.d (k3 : Int)).size < 1 ∨ 64 < (ix c.ports.d (k3 : Int)).size) = false := decide_eq_false S.o
        cases hq : (ix c.ports.d (k3 : Int)).q with
        | true =>
         by_cases q2 : 1 ≤ (ix c.ports.d (k3 : Int)).depth ∧ (ix c.ports.d (k3 : Int)).depth ≤ 16
         ·have e2 : decide ((ix c.ports.d (k3 : Int)).depth < 1 ∨ 16 < (ix c.ports.d (k3 : Int)).depth) = false := decide_eq_false S.o
          have hall2 := JT (p := fun j : Nat => (ix c.ports.d (j : Int)).size ≤ 64 ∧ (ix c.ports.d (j : Int)).depth ≤ 16) hall ⟨q1.2, q2.2⟩
          clear q1 q2
          have hX := I4 hw @e1 @e2 hq; repeat' (first | refine S.x ?_ | (refine G.call 112 ?_; refine S.c ?_ (h := YA)) | rintro _ _ ⟨rfl, rfl⟩ | intro hb | fail)
          all_goals exact S.R (k3 + 1)
         ·have e2 : decide ((ix c.ports.d (k3 : Int)).depth < 1 ∨ 16 < (ix c.ports.d (k3 : Int)).depth) = true := decide_eq_true S.o
          clear q1 q2
          have hX := I4 hw @e1 @e2 hq; repeat' (first | refine S.x ?_ | (refine G.call 112 ?_; refine S.c ?_ (h := YA)) | rintro _ _ ⟨rfl, rfl⟩ | intro hb | fail)
          all_goals exact Tr.fin hK ⟨23, (fun h => absurd h (by decide)), rfl, rfl⟩ S.E
        | false =>
         by_cases q2 : (ix c.ports.d (k3 : Int)).depth = 0
         ·have hall2 := JT (p := fun j : Nat => (ix c.ports.d (j : Int)).size ≤ 64 ∧ (ix c.ports.d (j : Int)).depth ≤ 16) hall ⟨q1.2, by omega⟩
          clear q1
          have hX := I3 hw @e1 hq; repeat' (first | refine S.x ?_ | (refine G.call 112 ?_; refine S.c ?_ (h := YA)) | rintro _ _ ⟨rfl, rfl⟩ | intro hb | fail)
          all_goals exact S.R (k3 + 1)
         ·clear q1
          have hX := I3 hw @e1 hq; repeat' (first | refine S.x ?_ | (refine G.call 112 ?_; refine S.c ?_ (h := YA)) | rintro _ _ ⟨rfl, rfl⟩ | intro hb | fail)
          all_goals exact Tr.fin hK ⟨23, (fun h => absurd h (by decide)), rfl, rfl⟩ S.E
       ·have e1 : decide ((ix c.ports.d (k3 : Int)).size < 1 ∨ 64 < (ix c.ports.d (k3 : Int)).size) = true := decide_eq_true S.o
        clear q1
        have hX := And.intro hw @e1; repeat' (first | refine S.x ?_ | (refine G.call 112 ?_; refine S.c ?_ (h := YA)) | rintro _ _ ⟨rfl, rfl⟩ | intro hb | fail)
        all_goals exact Tr.fin hK ⟨23, (fun h => absurd h (by decide)), rfl, rfl⟩ S.E
      ·have hp3 := xba (p := fun x : Zd => x.size ≤ 64 ∧ x.depth ≤ 16) S.o hall
       clear hall
       have hob := xgu (u0 := .agg (En.enc c).toArray) (c := c) (hd := ⟨rfl⟩)
       repeat' (first | rintro _ _ ⟨rfl, rfl⟩ | rintro _ _ ⟨b, hobs, rfl, rfl⟩ | (refine G.call 113 ?_; refine S.c ?_ (h := hob)) | refine S.x ?_ | refine S.y ?_ ?_ | (refine G.call 112 ?_; refine S.c ?_ (h := YA)) | intro hb | fail)
       all_goals try exact Tr.fin hK ⟨24, (fun h => absurd h (by decide)), rfl, rfl⟩ S.E
       all_goals try exact Tr.fin hK ⟨20, (fun h => absurd h (by decide)), rfl, rfl⟩ S.E
       rename_i hb1 hb2 hb3 hb4
       have hok : xkj c := ⟨hp1, by omega, by omega, hp2, hp3, hobs hb1, by omega, by omega⟩
       clear hp1 hp2 hp3 hobs hob
       refine Tr.loopE (α := Nat) [2, 10] [1] (fun k => [.int .i64 0, .int .i64 k]) (fun _ => []) (fun k => k ≤ 5) (fun k => 5 - k) 0 S.T rfl (Nat.zero_le _) fun k4 u4 hk4 => ?_
       simp only [List.nil_append]
       by_cases hin4 : k4 < 5
       ·have hw := Xo (k := k4) S.o
        have hX := hw; repeat' (first | refine S.x ?_ | refine S.y ?_ ?_ | (refine G.call 112 ?_; refine S.c ?_ (h := YA)) | rintro _ _ ⟨rfl, rfl⟩ | intro hb | fail)
        all_goals first
         | exact S.R (k4 + 1)
         | exact Tr.fin hK ⟨20, (fun h => absurd h (by decide)), rfl, rfl⟩ S.E
       ·repeat' (first | refine S.x ?_ | fail)
        all_goals exact Tr.fin hK ⟨0, (fun _ => hok), rfl, rfl⟩ S.E
     ·repeat' (first | refine S.x ?_ | fail)
      all_goals exact Tr.fin hK ⟨23, (fun h => absurd h (by decide)), rfl, rfl⟩ S.E
   ·have e2 : decide ((c.procs.d.length : Int) < 1 ∨ 8 < (c.procs.d.length : Int)) = true := decide_eq_true S.o
    have hX := @e2; repeat' (first | refine S.x ?_ | (refine G.call 112 ?_; refine S.c ?_ (h := YA)) | rintro _ _ ⟨rfl, rfl⟩ | fail)
    all_goals exact Tr.fin hK ⟨22, (fun h => absurd h (by decide)), rfl, rfl⟩ S.E
 ·repeat' (first | refine S.x ?_ | intro hb | fail)
  all_goals exact Tr.fin hK ⟨21, (fun h => absurd h (by decide)), rfl, rfl⟩ S.E
end
def xw9 (C : CC) : Int := Wr (Z9 C.conf).room (Z9 C.conf).ms
section
variable {C : CC} {c : CM} {k p : Int} {b : List UInt8} {ps : List AP}
theorem xnr {xs : List WZ} {k : Int} : (ix (xs.map Jj) k).2 = false := by
 rcases ZH (xs.map Jj) k with h | h
 ·obtain ⟨x, _, e⟩ := List.mem_map.1 h
  rw [← e]; rfl
 ·rw [h]; rfl
theorem xfg (hc : okC C) : Vz (Z9 C.conf) := xdJ hc.cap hc.cost (by rw [hc.np]; have := hc.n8; omega)
theorem xkZ (hc : okC C) (hi : Inv C c) : Inv C (QU C c) := ⟨xkN hi.ok, xq6, hi.p, xmn hc, fun m hm => by
 have : some (Z9 C.conf) = some m := hm
 cases this
 exact xfg hc, fun m hm k _ hd => by
 have : some (Z9 C.conf) = some m := hm
 cases this
 rw [show (ix (Z9 C.conf).ms k).2 = false from xnr] at hd
 cases hd⟩
theorem xnk (hc : okC C) (hi : Inv C c) : Rch C 444 (QU C c) (ZL C c) := by
 unfold ZL
 split
 ·exact xkq hc (xkZ hc hi).ok
 ·exact .le (.refl _) S.o
theorem xfq (hc : okC C) (hi : Inv C c) (h1 : JB c) : Inv C (ZL C c) ∧ JB (ZL C c) ∧ (ZL C c).evs.length ≤ c.evs.length + 444 ∧ xb1 (ZL C c) = (Z9 C.conf).room ∧ JZ (ZL C c) ≤ xw9 C := by
 have hr := xnk hc hi
 have hw := xkZ hc hi
 refine ⟨hr.inv hc hw, hr.r1 (show JB (QU C c) from h1), hr.ev, hr.room, ?_⟩
 refine Int.le_trans (xqF (hr.inv hc hw).sl).2.1 (Int.le_trans (hr.lef hc hw.ok hw.S hw.sl) (Int.le_of_eq ?_))
 show (if (Z9 C.conf).room < VT (Z9 C.conf).ms then (Z9 C.conf).room else VT (Z9 C.conf).ms) = xw9 C
 exact (xiS (xfg hc)).symm
theorem xvZ : (J0 ps k b).map AP.c = ps.map AP.c := by
 unfold J0
 split
 ·rename_i h
  exact xcS (JG h) rfl
 ·split
  ·rename_i h
   split
   ·exact xcS (JG h) rfl
   ·exact xcS (JG h) rfl
  ·rfl
theorem xs6 : (YQ ps k).map AP.c = ps.map AP.c := by
 unfold YQ
 split
 ·rename_i h
  exact xcS (JG h) rfl
 ·split
  ·rename_i h
   split
   ·exact xcS (JG h) rfl
   ·rfl
  ·rfl
theorem xlR (hc : okC C) (hi : Inv C c) (h1 : JB c) (h : ps.map AP.c = c.pts.map AP.c) : Inv C { c with pts := ps } ∧ JB { c with pts := ps } := ⟨(Rch.pts c ps h).inv hc hi, h1⟩
theorem xpO (hc : okC C) : Inv C (V4 C) := by
 have hn : ∀ m : SlM, (V4 C).slk = some m → False := fun m hm => by cases (show (none : Option SlM) = some m from hm)
 refine ⟨xeC hc, fun k h0 hk => ?_, ?_, fun m hm => (hn m hm).elim, fun m hm => (hn m hm).elim, fun m hm => (hn m hm).elim⟩
 ·have h1 : ix (List.replicate C.progs.length false) k = true := hk
  have h2 : ix (List.replicate C.progs.length false) k = false := by
   unfold ix
   rw [List.getD_eq_getElem?_getD, List.getElem?_replicate]
   split <;> rfl
  rw [h1] at h2
  cases h2
 ·show (Wm C.conf.ports.d).map AP.c = _
  unfold Wm
  rw [List.map_map]
  exact List.map_id _
theorem xkz {win : Int} : (Yd C c k win).rest = (toM C c k 0).rest := by
 unfold Yd
 simp only
 split <;> rfl
theorem xjh (n : Nat) (hn : n ≤ c.rest.length) {win : Int} : (XS C c win n).rest.length = c.rest.length ∧ ∀ j : Nat, j < n → 1 ≤ ix (XS C c win n).rest (j : Int) ∧ ix (XS C c win n).rest (j : Int) ≤ 1073741824 := by
 induction n with
 | zero => exact ⟨rfl, fun j hj => absurd hj (Nat.not_lt_zero _)⟩
 | succ n ih =>
  obtain ⟨h1, h2⟩ := ih S.o
  have e : (XS C c win (n + 1)).rest = (XS C c win n).rest.set (n : Int).toNat (WQ (ix (ix C.progs (n : Int)) (atM (ix C.progs (n : Int)) 0)).cycles) := by
   show (Yd C (XS C c win n) (n : Int) win).rest = _
   rw [xkz]
   rfl
  rw [e]
  refine ⟨by rw [List.length_set]; exact h1, fun j hj => ?_⟩
  have hr : inR (XS C c win n).rest (n : Int) := ⟨by omega, by omega⟩
  rw [YY hr S.o]
  split
  ·exact xct
  ·exact h2 j S.o
theorem xmr (hc : okC C) : Inv C (Qn C) ∧ JB (Qn C) ∧ (Qn C).evs = [] := by
 have hr : Rch C 0 (V4 C) (Qn C) := xaj _ (Nat.le_refl _)
 have hl : (V4 C).rest.length = C.progs.length := List.length_replicate
 obtain ⟨h1, h2⟩ := xjh (C := C) (c := V4 C) (win := 0) C.progs.length S.o
 refine ⟨hr.inv hc (xpO hc), fun x hx => ?_, ?_⟩
 ·obtain ⟨j, hj, e⟩ := List.mem_iff_getElem.1 hx
  have h3 := h2 j (by rw [← hl, ← h1]; exact hj)
  have h4 : ix (Qn C).rest (j : Int) = x := by
   unfold ix
   rw [Int.toNat_natCast, List.getD_eq_getElem?_getD, List.getElem?_eq_getElem hj, e]
   rfl
  rw [← h4]; exact h3
 ·have := hr.ev
  exact List.length_eq_zero_iff.1 (Nat.le_zero.1 this)
end
section
def xbM (ps : List AP) (p : Int) (xs : List (SL UInt8)) : Nat → List AP
 | 0 => ps
 | n + 1 => J0 (xbM ps p xs n) p (ix xs (n : Int)).d
theorem xxp {α : Type} [Inhabited α] {p : α → Prop} {xs : List α} {k : Int} (h : ∀ x ∈ xs, p x) (hk : inR xs k) : p (ix xs k) := h _ (List.mem_of_getElem? (Yi hk.1 hk.2))
structure xg5 (l : xcJ) : Prop where
 p : xkj l.conf
 c : l.conf.cap ≤ 400
 s : l.progs.d.length ≤ 20 ∧ ∀ x ∈ l.progs.d, x.d.length ≤ 100
 w : ∀ j : Nat, j < l.wins.d.length → j < 12 → (ix l.wins.d (j : Int)).msgs.d.length ≤ 20 ∧ ∀ x ∈ (ix l.wins.d (j : Int)).msgs.d, x.d.length ≤ 64
def xc1 (l : xcJ) (part : Int) : CC := ⟨l.conf, part, J1 l.progs.d l.conf.procs.d.length⟩
abbrev xtU (l : xcJ) : List Xc := [sl true l.conf.regions.s.v l.conf.regions.d, sl true l.conf.procs.s.v l.conf.procs.d, sl true l.conf.ports.s.v l.conf.ports.d, sl true l.conf.sems.s.v l.conf.sems.d, sl true l.conf.pools.s.v l.conf.pools.d, sl true l.conf.slates.s.v l.conf.slates.d, sl true l.conf.acts.s.v l.conf.acts.d, sl true l.progs.s.v l.progs.d, fzl l.progs.d, sl true l.wins.s.v l.wins.d, fzl l.wins.d]
def xcl (c : CM) (x : xeZ) : CM := { c with pts := xbM c.pts x.port x.msgs.d x.msgs.d.length }
def drM (c : CM) (o : Int) : CM := { c with pts := YQ c.pts o }
section
variable {l : xcJ} {part : Int} {C : CC} {c : CM} {w : CW} {gs : List Xe} {w2 : RW} {x : xeZ} {o : Int}
theorem xup : (xc1 l part).progs = J1 l.progs.d (xc1 l part).progs.length := by
 show J1 _ _ = J1 _ (J1 _ _).length
 rw [xeG]
theorem xuR (h : xg5 l) (hs : ∀ x ∈ l.progs.d, ∀ s ∈ x.d, s.ok) : okC (xc1 l part) := by
 have hl : (xc1 l part).progs.length = l.conf.procs.d.length := xeG
 refine ⟨by rw [hl]; exact h.p.n1, by rw [hl]; exact h.p.n8, hl.symm, fun p hp => ?_, by have := h.c; show l.conf.cap ≤ _; omega, fun x hx => by have := h.p.p x hx; omega, fun x hx => (h.p.b.1 x hx).2, fun x hx => by have := (h.p.b.1 x hx).1; omega, fun x hx => by have := h.p.b.2 x hx; omega, fun x hx => by have := (h.p.o x hx).1; omega, fun x hx => (h.p.o x hx).2, h.p.r⟩
 obtain ⟨k, hk, rfl⟩ := List.mem_map.1 hp
 unfold Vq
 split
 ·rename_i hk
  have hm : ix l.progs.d (k : Int) ∈ l.progs.d := List.mem_of_getElem? (Yi S.o S.o)
  have h1 := h.s.2 _ hm
  exact ⟨hk.2, by omega, hs _ hm⟩
 ·refine ⟨by simp [Y7], by decide, fun s hs => ?_⟩
  rw [List.mem_singleton.1 hs]
  exact ⟨by decide, by decide, by decide, by decide⟩
theorem xlv {ps : List AP} {p : Int} {xs : List (SL UInt8)} : ∀ n, (xbM ps p xs n).map AP.c = ps.map AP.c
 | 0 => rfl
 | n + 1 => by
  unfold xbM
  rw [xvZ, xlv n]
theorem xr7 (hc : okC C) (hi : Inv C c) (h1 : JB c) : Inv C (xcl c x) ∧ JB (xcl c x) := xlR hc hi h1 (xlv _)
theorem xoJ (hc : okC C) (hi : Inv C c) (h1 : JB c) : Inv C (drM c o) ∧ JB (drM c o) := xlR hc hi h1 xs6
theorem xs8 (h : Rel C c w gs) : Rel C (xcl c x) w gs := Ww h
theorem xoc (h : Rel C c w gs) : Rel C (drM c o) w gs := Ww h
theorem xuT (h : Xl C c w2) : Xl C (xcl c x) w2 := WN h
theorem xtv (h : Xl C c w2) : Xl C (drM c o) w2 := WN h
end
attribute [local irreducible] X2 XT
section
variable {b r : Nat} {C C2 : CC} {mode win mode2 win2 : Int} {w : CW} {w2 : RW} {ps ps2 : List AP} {x : xeZ} {c c2 : CM} {gs : List Xe}
theorem xkk (hl : x.msgs.d.length ≤ 20) (hm : ∀ y ∈ x.msgs.d, y.d.length ≤ 64) : Xb prog 21 #[ptr b, ptr r, .agg (En.enc x).toArray] [ZA b C mode win w, X2 w.pts ps, Vy r C2 mode2 win2 w2, XT w2.pts ps2, sl true x.msgs.s.v x.msgs.d, fzl x.msgs.d]
  fun v l' => v = .tuple #[] ∧ l' = [ZA b C mode win w, X2 w.pts (xbM ps x.port x.msgs.d x.msgs.d.length), Vy r C2 mode2 win2 w2, XT w2.pts (xbM ps2 x.port x.msgs.d x.msgs.d.length)] := by
 intro F K hK
 simp only [ap] at hK ⊢
 obtain ⟨p, msgs, o⟩ := x
 simp only at hl hm hK ⊢
 refine S.I fun u => ?_
 have hX := @xsX.eq_def; repeat' (first | refine S.x ?_ | intro hb | fail)
 refine Tr.loopE (α := Nat) [6] [0, 1, 5] (fun k => [.int .i64 k]) (fun k => [ZA b C mode win w, X2 w.pts (xbM ps p msgs.d k), Vy r C2 mode2 win2 w2, XT w2.pts (xbM ps2 p msgs.d k)]) (fun k => k ≤ msgs.d.length) (fun k => msgs.d.length - k) 0 S.T rfl (Nat.zero_le _) fun k u hk => ?_
 simp only [ap]
 by_cases hin : k < msgs.d.length
 ·have hw := Xo (k := k) S.o
  have hle : (ix msgs.d (k : Int)).d.length ≤ 300 := by
   have := xxp (p := fun y : SL UInt8 => y.d.length ≤ 64) hm ⟨by omega, by omega⟩ (k := (k : Int))
   omega
  have hX := @xbM.eq_2
  have hX := And.intro @xsX.eq_def hw; repeat' (first | rintro _ _ ⟨rfl, rfl⟩ | (refine G.call 65 ?_; refine S.c ?_ (h := xs5 hle)) | (refine G.call 66 ?_; refine S.c ?_ (h := xrV)) | refine S.x ?_ | (refine G.call 13 ?_; refine S.c ?_ (h := WW)) | intro hb | fail)
  all_goals exact S.R (k + 1)
 ·have hke : k = msgs.d.length := by omega
  subst hke
  have hX := @xsX.eq_def; repeat' (first | refine S.x ?_ | fail)
  all_goals exact S.L
theorem xna (hl : x.msgs.d.length ≤ 20) (hm : ∀ y ∈ x.msgs.d, y.d.length ≤ 64) : Xb prog 21 #[ptr b, ptr r, .agg (En.enc x).toArray] (Xh b C c w gs ++ Xf r C2 c2 w2 ++ [sl true x.msgs.s.v x.msgs.d, fzl x.msgs.d])
  fun v l' => v = .tuple #[] ∧ l' = Xh b C (xcl c x) w gs ++ Xf r C2 (xcl c2 x) w2 := by
 intro F K hK
 simp only [ap] at hK ⊢
 refine S.c ?_ (h := xkk hl hm)
 rintro _ _ ⟨rfl, rfl⟩
 refine Tr.fin hK ⟨rfl, rfl⟩ ?_
 have hX := @xcl.eq_def
 simp only [ap]
 exact S.E
