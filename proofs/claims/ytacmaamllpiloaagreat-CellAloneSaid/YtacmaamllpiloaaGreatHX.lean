import Derived.Test.YtacmaamllpiloaaGreatGA
import Derived.Test.YtacmaamllpiloaaGreatZ42
namespace Go.Proofs.YtacmaamllpiloaaGreat
open Go Go.Wk
set_option maxHeartbeats 3200000
set_option maxRecDepth 100000
def okObs (c : PartD) : Prop := (∀ x ∈ c.pools.d, x.size ≤ 64 ∧ x.depth ≤ 16) ∧ ∀ x ∈ c.slates.d, x ≤ 64
structure okPart (c : PartD) : Prop where
 r : ∀ x ∈ c.regions.d, 0 ≤ x.base ∧ x.base ≤ 1048576
 n1 : 1 ≤ c.procs.d.length
 n8 : c.procs.d.length ≤ 8
 p : ∀ x ∈ c.procs.d, x.cost ≤ 1000000000
 o : ∀ x ∈ c.ports.d, x.size ≤ 64 ∧ x.depth ≤ 16
 b : okObs c
 c1 : 1 ≤ c.cap
 c9 : c.cap ≤ 1000000000
attribute [local irreducible] BrK GenK EGenK EUnitK CallK FnK CallV GuardO GuardC CondW opX opK opKc chkR eqR seqK blkK endL WL WD W LoopW BinK Tr drewK resL PickK NotK NilK ExtrK getK Instr.storeAt Instr.loadAt Instr.fieldAt Instr.indexAt Instr.lookup Instr.mapUpdate Instr.box Instr.alloc Instr.build Instr.buildSlice Instr.makeSlice Instr.makeMap Instr.sliceAt Instr.field Instr.index Instr.makeInterface Instr.typeAssert Builtin.len_ Builtin.append_ Builtin.cap_ Builtin.min_ Builtin.max_ Builtin.copy_ Builtin.clear_ convert binOp mp blk rob sl sep ex fact old
section
variable {a b s : SV} {xs : List EvC}
theorem same24_ok (hl : xs.length ≤ 1000000000) : Trip Tryz.prog 25 [a.v, b.v].toArray [sl false a.v xs, sl false b.v xs]
  fun v l' => v = .bool true ∧ l' = [sl false a.v xs, sl false b.v xs] := by
 intro F K hK
 simp only [List.cons_append, List.nil_append] at hK ⊢
 (refine Tr.enter (rs := [.tmp 4]) mixed fn25 rfl (by simp +arith [Tryz.ntmps25]) fun u => ?_; simp only [cd25, Tryz.f25])
 have hX := @pl25.eq_def; repeat' (first | refine S.x ?_ | fail)
 refine Tr.loopE (α := Nat) [4, 5] [0, 1] (fun k => [.bool false, .int .i64 k]) (fun k => [sl false a.v xs, sl false b.v xs]) (fun k => k ≤ xs.length) (fun k => xs.length - k) 0 S.T rfl (Nat.zero_le _) fun k u hk => ?_
 simp only [List.cons_append, List.nil_append]
 by_cases hin : k < xs.length
 ·have hw := wrapSucc (k := k) (by omega)
  have hX := And.intro @pl25.eq_def hw; repeat' (first | refine S.x ?_ | intro hb | fail)
  all_goals exact S.R (k + 1)
 ·have hX := @pl25.eq_def; repeat' (first | refine S.x ?_ | fail)
  all_goals exact S.L
theorem short24_ok {ps : List (SL StepC)} : Trip Tryz.prog 50 [s.v].toArray [sl true s.v ps, fzl ps]
  fun v l' => ∃ b : Bool, (b = true → ps.length ≤ 20 ∧ ∀ x ∈ ps, x.d.length ≤ 100) ∧ v = .bool b ∧ l' = [] := by
 intro F K hK
 simp only [List.cons_append, List.nil_append] at hK ⊢
 (refine Tr.enter (rs := [.tmp 2]) mixed fn50 rfl (by simp +arith [Tryz.ntmps50]) fun u => ?_; simp only [cd50, Tryz.f50])
 by_cases h20 : ps.length ≤ 20
 ·have hX := @pl50.eq_def; repeat' (first | refine S.x ?_ | fail)
  refine Tr.loopE (α := Nat) [2, 3] [0] (fun k => [.bool false, .int .i64 k]) (fun _ => []) (fun k => k ≤ ps.length ∧ ∀ j : Nat, j < k → (ix ps (j : Int)).d.length ≤ 100) (fun k => ps.length - k) 0 S.T rfl ⟨Nat.zero_le _, fun j hj => absurd hj (Nat.not_lt_zero _)⟩ fun k u hk => ?_
  obtain ⟨hk, hall⟩ := hk
  simp only [List.nil_append]
  by_cases hin : k < ps.length
  ·have hw := wrapSucc (k := k) (by omega)
   by_cases h1 : (ix ps (k : Int)).d.length ≤ 100
   ·have hall2 := all_succ (p := fun j : Nat => (ix ps (j : Int)).d.length ≤ 100) hall h1
    have hX := And.intro @pl50.eq_def hw; repeat' (first | refine S.x ?_ | intro hb | fail)
    all_goals exact S.R (k + 1)
   ·have hX := And.intro @pl50.eq_def hw; repeat' (first | refine S.x ?_ | intro hb | fail)
    all_goals exact Tr.fin hK ⟨false, (fun h => by cases h), rfl, rfl⟩ S.E
  ·have hall3 := all_of (p := fun x : SL StepC => x.d.length ≤ 100) (by omega) hall
   have hX := @pl50.eq_def; repeat' (first | refine S.x ?_ | fail)
   all_goals exact Tr.fin hK ⟨true, (fun _ => ⟨h20, hall3⟩), rfl, rfl⟩ S.E
 ·have hX := @pl50.eq_def; repeat' (first | refine S.x ?_ | fail)
  all_goals exact Tr.fin hK ⟨false, (fun h => by cases h), rfl, rfl⟩ S.E
theorem outn_ok {n x y : Int} : Trip Tryz.prog 112 [.int .i64 n, .int .i64 x, .int .i64 y].toArray []
  fun v l' => v = .bool (decide (n < x ∨ y < n)) ∧ l' = [] := by
 intro F K hK
 simp only [List.nil_append] at hK ⊢
 (refine Tr.enter (rs := [.tmp 6]) mixed fn112 rfl (by simp +arith [Tryz.ntmps112]) fun u => ?_; simp only [cd112, Tryz.f112])
 by_cases h1 : n < x
 ·have e : decide (n < x ∨ y < n) = true := decide_eq_true (.inl h1)
  rw [e] at hK
  have hX := @pl112.eq_def; repeat' (first | refine S.x ?_ | fail)
  all_goals exact S.L
 ·by_cases h2 : y < n
  ·have e : decide (n < x ∨ y < n) = true := decide_eq_true (.inr h2)
   rw [e] at hK
   have hX := @pl112.eq_def; repeat' (first | refine S.x ?_ | fail)
   all_goals exact S.L
  ·have e : decide (n < x ∨ y < n) = false := decide_eq_false (by omega)
   rw [e] at hK
   have hX := @pl112.eq_def; repeat' (first | refine S.x ?_ | fail)
   all_goals exact S.L
theorem objects10_ok {u0 : Value} {c : PartD} [hd : DeA u0 c] : Trip Tryz.prog 113 [u0].toArray [sl true c.sems.s.v c.sems.d, sl true c.pools.s.v c.pools.d, sl true c.slates.s.v c.slates.d]
  fun v l' => ∃ b : Bool, (b = true → okObs c) ∧ v = .bool b ∧ l' = [] := by
 obtain rfl := hd.h
 intro F K hK
 simp only [List.cons_append, List.nil_append] at hK ⊢
 obtain ⟨c1, c2, c3, c4, c5, c6, c7, c8, c9, c10, c11⟩ := c
 simp only at hK ⊢
 (refine Tr.enter (rs := [.tmp 2]) mixed fn113 rfl (by simp +arith [Tryz.ntmps113]) fun u => ?_; simp only [cd113, Tryz.f113])
 by_cases h4 : c4.d.length ≤ 4
 ·by_cases h6 : c6.d.length ≤ 4
  ·by_cases h7 : c7.d.length ≤ 4
   ·by_cases h5 : 0 ≤ c5 ∧ c5 ≤ 8
    ·have e5 : decide (c5 < 0 ∨ 8 < c5) = false := decide_eq_false (by omega)
     clear h5
     have hX := And.intro @pl113.eq_def @e5; repeat' (first | refine S.x ?_ | (refine G.call 112 ?_; refine S.c ?_ (h := outn_ok)) | rintro _ _ ⟨rfl, rfl⟩ | intro hb | fail)
     refine Tr.loopE (α := Nat) [2, 3] [1] (fun k => [.bool false, .int .i64 k]) (fun _ => []) (fun k => k ≤ c4.d.length) (fun k => c4.d.length - k) 0 S.T rfl (Nat.zero_le _) fun k u hk => ?_
     simp only [List.nil_append]
     by_cases hin : k < c4.d.length
     ·have hw := wrapSucc (k := k) (by omega)
      have hX := And.intro @pl113.eq_def hw; repeat' (first | refine S.x ?_ | refine S.y ?_ ?_ | (refine G.call 112 ?_; refine S.c ?_ (h := outn_ok)) | rintro _ _ ⟨rfl, rfl⟩ | intro hb | fail)
      all_goals first
       | exact S.R (k + 1)
       | exact Tr.fin hK ⟨false, (fun h => by cases h), rfl, rfl⟩ S.E
     ·have hX := @pl113.eq_def; repeat' (first | refine S.x ?_ | fail)
      refine Tr.loopE (α := Nat) [2, 4] [1] (fun k => [.bool false, .int .i64 k]) (fun _ => []) (fun k => k ≤ c6.d.length ∧ ∀ j : Nat, j < k → (ix c6.d (j : Int)).size ≤ 64 ∧ (ix c6.d (j : Int)).depth ≤ 16) (fun k => c6.d.length - k) 0 S.T rfl ⟨Nat.zero_le _, fun j hj => absurd hj (Nat.not_lt_zero _)⟩ fun k2 u2 hk2 => ?_
      obtain ⟨hk2, hall⟩ := hk2
      simp only [List.nil_append]
      by_cases hin2 : k2 < c6.d.length
      ·have hw := wrapSucc (k := k2) (by omega)
       by_cases q1 : 1 ≤ (ix c6.d (k2 : Int)).size ∧ (ix c6.d (k2 : Int)).size ≤ 64
       ·have e1 : decide ((ix c6.d (k2 : Int)).size < 1 ∨ 64 < (ix c6.d (k2 : Int)).size) = false := decide_eq_false (by omega)
        by_cases q2 : 1 ≤ (ix c6.d (k2 : Int)).depth ∧ (ix c6.d (k2 : Int)).depth ≤ 16
        ·have e2 : decide ((ix c6.d (k2 : Int)).depth < 1 ∨ 16 < (ix c6.d (k2 : Int)).depth) = false := decide_eq_false (by omega)
         have hall2 := all_succ (p := fun j : Nat => (ix c6.d (j : Int)).size ≤ 64 ∧ (ix c6.d (j : Int)).depth ≤ 16) hall ⟨q1.2, q2.2⟩
         clear q1 q2
         have hX := And.intro @pl113.eq_def (And.intro hw (And.intro @e1 @e2)); repeat' (first | refine S.x ?_ | (refine G.call 112 ?_; refine S.c ?_ (h := outn_ok)) | rintro _ _ ⟨rfl, rfl⟩ | intro hb | fail)
         all_goals exact S.R (k2 + 1)
        ·have e2 : decide ((ix c6.d (k2 : Int)).depth < 1 ∨ 16 < (ix c6.d (k2 : Int)).depth) = true := decide_eq_true (by omega)
         clear q1 q2
         have hX := And.intro @pl113.eq_def (And.intro hw (And.intro @e1 @e2)); repeat' (first | refine S.x ?_ | (refine G.call 112 ?_; refine S.c ?_ (h := outn_ok)) | rintro _ _ ⟨rfl, rfl⟩ | intro hb | fail)
         all_goals exact Tr.fin hK ⟨false, (fun h => by cases h), rfl, rfl⟩ S.E
       ·have e1 : decide ((ix c6.d (k2 : Int)).size < 1 ∨ 64 < (ix c6.d (k2 : Int)).size) = true := decide_eq_true (by omega)
        clear q1
        have hX := And.intro @pl113.eq_def (And.intro hw @e1); repeat' (first | refine S.x ?_ | (refine G.call 112 ?_; refine S.c ?_ (h := outn_ok)) | rintro _ _ ⟨rfl, rfl⟩ | intro hb | fail)
        all_goals exact Tr.fin hK ⟨false, (fun h => by cases h), rfl, rfl⟩ S.E
      ·have hp := all_of (p := fun x : PoolC => x.size ≤ 64 ∧ x.depth ≤ 16) (by omega) hall
       have hX := @pl113.eq_def; repeat' (first | refine S.x ?_ | fail)
       refine Tr.loopE (α := Nat) [2, 5] [1] (fun k => [.bool false, .int .i64 k]) (fun _ => []) (fun k => k ≤ c7.d.length ∧ ∀ j : Nat, j < k → ix c7.d (j : Int) ≤ 64) (fun k => c7.d.length - k) 0 S.T rfl ⟨Nat.zero_le _, fun j hj => absurd hj (Nat.not_lt_zero _)⟩ fun k3 u3 hk3 => ?_
       obtain ⟨hk3, hall3⟩ := hk3
       simp only [List.nil_append]
       by_cases hin3 : k3 < c7.d.length
       ·have hw := wrapSucc (k := k3) (by omega)
        by_cases q1 : 1 ≤ ix c7.d (k3 : Int) ∧ ix c7.d (k3 : Int) ≤ 64
        ·have e1 : decide (ix c7.d (k3 : Int) < 1 ∨ 64 < ix c7.d (k3 : Int)) = false := decide_eq_false (by omega)
         have hall4 := all_succ (p := fun j : Nat => ix c7.d (j : Int) ≤ 64) hall3 q1.2
         clear q1
         have hX := And.intro @pl113.eq_def (And.intro hw @e1); repeat' (first | refine S.x ?_ | (refine G.call 112 ?_; refine S.c ?_ (h := outn_ok)) | rintro _ _ ⟨rfl, rfl⟩ | intro hb | fail)
         all_goals exact S.R (k3 + 1)
        ·have e1 : decide (ix c7.d (k3 : Int) < 1 ∨ 64 < ix c7.d (k3 : Int)) = true := decide_eq_true (by omega)
         clear q1
         have hX := And.intro @pl113.eq_def (And.intro hw @e1); repeat' (first | refine S.x ?_ | (refine G.call 112 ?_; refine S.c ?_ (h := outn_ok)) | rintro _ _ ⟨rfl, rfl⟩ | intro hb | fail)
         all_goals exact Tr.fin hK ⟨false, (fun h => by cases h), rfl, rfl⟩ S.E
       ·have hs := all_of (p := fun x : Int => x ≤ 64) (by omega) hall3
        have hX := @pl113.eq_def; repeat' (first | refine S.x ?_ | fail)
        all_goals exact Tr.fin hK ⟨true, (fun _ => ⟨hp, hs⟩), rfl, rfl⟩ S.E
    ·have e5 : decide (c5 < 0 ∨ 8 < c5) = true := decide_eq_true (by omega)
     have hX := And.intro @pl113.eq_def @e5; repeat' (first | refine S.x ?_ | (refine G.call 112 ?_; refine S.c ?_ (h := outn_ok)) | rintro _ _ ⟨rfl, rfl⟩ | intro hb | fail)
     all_goals exact Tr.fin hK ⟨false, (fun h => by cases h), rfl, rfl⟩ S.E
   ·have hX := @pl113.eq_def; repeat' (first | refine S.x ?_ | intro hb | fail)
    all_goals exact Tr.fin hK ⟨false, (fun h => by cases h), rfl, rfl⟩ S.E
  ·have hX := @pl113.eq_def; repeat' (first | refine S.x ?_ | intro hb | fail)
   all_goals exact Tr.fin hK ⟨false, (fun h => by cases h), rfl, rfl⟩ S.E
 ·have hX := @pl113.eq_def; repeat' (first | refine S.x ?_ | intro hb | fail)
  all_goals exact Tr.fin hK ⟨false, (fun h => by cases h), rfl, rfl⟩ S.E
theorem part10_ok {u0 : Value} {c : PartD} [hd : DeA u0 c] : Trip Tryz.prog 49 [u0].toArray [sl true c.regions.s.v c.regions.d, sl true c.procs.s.v c.procs.d, sl true c.ports.s.v c.ports.d, sl true c.sems.s.v c.sems.d, sl true c.pools.s.v c.pools.d, sl true c.slates.s.v c.slates.d, sl true c.acts.s.v c.acts.d]
  fun v l' => ∃ n : Int, (n = 0 → okPart c) ∧ v = .int .i64 n ∧ l' = [] := by
 obtain rfl := hd.h
 intro F K hK
 simp only [List.cons_append, List.nil_append] at hK ⊢
 (refine Tr.enter (rs := [.tmp 2]) mixed fn49 rfl (by simp +arith [Tryz.ntmps49]) fun u => ?_; simp only [cd49, Tryz.f49])
 by_cases h1 : c.regions.d.length ≤ 4
 ·have hX := @pl49.eq_def; repeat' (first | refine S.x ?_ | intro hb | fail)
  refine Tr.loopE (α := Nat × Int) [2, 3, 4] [1] (fun x => [.int .i64 0, .int .i64 x.2, .int .i64 x.1]) (fun _ => []) (fun x => x.1 ≤ c.regions.d.length ∧ 0 ≤ x.2 ∧ x.2 ≤ 1048576 ∧ ∀ j : Nat, j < x.1 → 0 ≤ (ix c.regions.d (j : Int)).base ∧ (ix c.regions.d (j : Int)).base ≤ 1048576) (fun x => c.regions.d.length - x.1) (0, 0) S.T rfl ⟨Nat.zero_le _, by decide, by decide, fun j hj => absurd hj (Nat.not_lt_zero _)⟩ fun x u hx => ?_
  obtain ⟨k, e⟩ := x
  obtain ⟨hk, he0, he9, hall⟩ := hx
  simp only at hk he0 he9 hall ⊢
  simp only [List.nil_append]
  by_cases hin : k < c.regions.d.length
  ·have hw := wrapSucc (k := k) (by omega)
   by_cases q1 : e ≤ (ix c.regions.d (k : Int)).base ∧ (ix c.regions.d (k : Int)).base ≤ 1048576
   ·have e1 : decide ((ix c.regions.d (k : Int)).base < e ∨ 1048576 < (ix c.regions.d (k : Int)).base) = false := decide_eq_false (by omega)
    by_cases q2 : 1 ≤ (ix c.regions.d (k : Int)).size ∧ (ix c.regions.d (k : Int)).size ≤ 256
    ·have e2 : decide ((ix c.regions.d (k : Int)).size < 1 ∨ 256 < (ix c.regions.d (k : Int)).size) = false := decide_eq_false (by omega)
     have w1 : IntKind.i64.wrap (1048576 - (ix c.regions.d (k : Int)).size) = 1048576 - (ix c.regions.d (k : Int)).size := wrapId (by omega) (by omega)
     by_cases q3 : (ix c.regions.d (k : Int)).base ≤ 1048576 - (ix c.regions.d (k : Int)).size
     ·have w2 : IntKind.i64.wrap ((ix c.regions.d (k : Int)).base + (ix c.regions.d (k : Int)).size) = (ix c.regions.d (k : Int)).base + (ix c.regions.d (k : Int)).size := wrapId (by omega) (by omega)
      have hall2 := all_succ (p := fun j : Nat => 0 ≤ (ix c.regions.d (j : Int)).base ∧ (ix c.regions.d (j : Int)).base ≤ 1048576) hall ⟨by omega, q1.2⟩
      obtain ⟨q4, q5⟩ := q1
      obtain ⟨q6, q7⟩ := q2
      have hX := And.intro @pl49.eq_def (And.intro hw (And.intro @e1 (And.intro @e2 (And.intro @w1 @w2)))); repeat' (first | refine S.x ?_ | (refine G.call 112 ?_; refine S.c ?_ (h := outn_ok)) | rintro _ _ ⟨rfl, rfl⟩ | intro hb | fail)
      all_goals exact S.R ((k + 1, (ix c.regions.d (k : Int)).base + (ix c.regions.d (k : Int)).size) : Nat × Int)
     ·have hX := And.intro @pl49.eq_def (And.intro hw (And.intro @e1 (And.intro @e2 @w1))); repeat' (first | refine S.x ?_ | (refine G.call 112 ?_; refine S.c ?_ (h := outn_ok)) | rintro _ _ ⟨rfl, rfl⟩ | intro hb | fail)
      all_goals exact Tr.fin hK ⟨21, (fun h => absurd h (by decide)), rfl, rfl⟩ S.E
    ·have e2 : decide ((ix c.regions.d (k : Int)).size < 1 ∨ 256 < (ix c.regions.d (k : Int)).size) = true := decide_eq_true (by omega)
     have hX := And.intro @pl49.eq_def (And.intro hw (And.intro @e1 @e2)); repeat' (first | refine S.x ?_ | (refine G.call 112 ?_; refine S.c ?_ (h := outn_ok)) | rintro _ _ ⟨rfl, rfl⟩ | intro hb | fail)
     all_goals exact Tr.fin hK ⟨21, (fun h => absurd h (by decide)), rfl, rfl⟩ S.E
   ·have e1 : decide ((ix c.regions.d (k : Int)).base < e ∨ 1048576 < (ix c.regions.d (k : Int)).base) = true := decide_eq_true (by omega)
    have hX := And.intro @pl49.eq_def (And.intro hw @e1); repeat' (first | refine S.x ?_ | (refine G.call 112 ?_; refine S.c ?_ (h := outn_ok)) | rintro _ _ ⟨rfl, rfl⟩ | intro hb | fail)
    all_goals exact Tr.fin hK ⟨21, (fun h => absurd h (by decide)), rfl, rfl⟩ S.E
  ·have hp1 := all_of (p := fun x : RegC => 0 ≤ x.base ∧ x.base ≤ 1048576) (by omega) hall
   clear hall
   by_cases h2 : 1 ≤ (c.procs.d.length : Int) ∧ (c.procs.d.length : Int) ≤ 8
   ·have e2 : decide ((c.procs.d.length : Int) < 1 ∨ 8 < (c.procs.d.length : Int)) = false := decide_eq_false (by omega)
    have hX := And.intro @pl49.eq_def @e2; repeat' (first | refine S.x ?_ | (refine G.call 112 ?_; refine S.c ?_ (h := outn_ok)) | rintro _ _ ⟨rfl, rfl⟩ | fail)
    refine Tr.loopE (α := Nat) [2, 6] [1] (fun k => [.int .i64 0, .int .i64 k]) (fun _ => []) (fun k => k ≤ c.procs.d.length ∧ ∀ j : Nat, j < k → (ix c.procs.d (j : Int)).cost ≤ 1000000000) (fun k => c.procs.d.length - k) 0 S.T rfl ⟨Nat.zero_le _, fun j hj => absurd hj (Nat.not_lt_zero _)⟩ fun k2 u2 hk2 => ?_
    obtain ⟨hk2, hall⟩ := hk2
    simp only [List.nil_append]
    by_cases hin2 : k2 < c.procs.d.length
    ·have hw := wrapSucc (k := k2) (by omega)
     by_cases q1 : 1 ≤ (ix c.procs.d (k2 : Int)).cost ∧ (ix c.procs.d (k2 : Int)).cost ≤ 1000000000
     ·have e1 : decide ((ix c.procs.d (k2 : Int)).cost < 1 ∨ 1000000000 < (ix c.procs.d (k2 : Int)).cost) = false := decide_eq_false (by omega)
      have hall2 := all_succ (p := fun j : Nat => (ix c.procs.d (j : Int)).cost ≤ 1000000000) hall q1.2
      clear q1
      have hX := And.intro @pl49.eq_def (And.intro hw @e1); repeat' (first | refine S.x ?_ | refine S.y ?_ ?_ | (refine G.call 112 ?_; refine S.c ?_ (h := outn_ok)) | rintro _ _ ⟨rfl, rfl⟩ | intro hb | fail)
      all_goals first
       | exact S.R (k2 + 1)
       | exact Tr.fin hK ⟨22, (fun h => absurd h (by decide)), rfl, rfl⟩ S.E
     ·have e1 : decide ((ix c.procs.d (k2 : Int)).cost < 1 ∨ 1000000000 < (ix c.procs.d (k2 : Int)).cost) = true := decide_eq_true (by omega)
      clear q1
      have hX := And.intro @pl49.eq_def (And.intro hw @e1); repeat' (first | refine S.x ?_ | refine S.y ?_ ?_ | (refine G.call 112 ?_; refine S.c ?_ (h := outn_ok)) | rintro _ _ ⟨rfl, rfl⟩ | intro hb | fail)
      all_goals exact Tr.fin hK ⟨22, (fun h => absurd h (by decide)), rfl, rfl⟩ S.E
    ·have hp2 := all_of (p := fun x : ProcC => x.cost ≤ 1000000000) (by omega) hall
     clear hall
     by_cases h3 : c.ports.d.length ≤ 8
     ·have hX := @pl49.eq_def; repeat' (first | refine S.x ?_ | fail)
      refine Tr.loopE (α := Nat) [2, 8] [1] (fun k => [.int .i64 0, .int .i64 k]) (fun _ => []) (fun k => k ≤ c.ports.d.length ∧ ∀ j : Nat, j < k → (ix c.ports.d (j : Int)).size ≤ 64 ∧ (ix c.ports.d (j : Int)).depth ≤ 16) (fun k => c.ports.d.length - k) 0 S.T rfl ⟨Nat.zero_le _, fun j hj => absurd hj (Nat.not_lt_zero _)⟩ fun k3 u3 hk3 => ?_
      obtain ⟨hk3, hall⟩ := hk3
      simp only [List.nil_append]
      by_cases hin3 : k3 < c.ports.d.length
      ·have hw := wrapSucc (k := k3) (by omega)
       by_cases q1 : 1 ≤ (ix c.ports.d (k3 : Int)).size ∧ (ix c.ports.d (k3 : Int)).size ≤ 64
       ·have e1 : decide ((ix c.ports.d (k3 : Int)).size < 1 ∨ 64 < (ix c.ports.d (k3 : Int)).size) = false := decide_eq_false (by omega)
        cases hq : (ix c.ports.d (k3 : Int)).q with
        | true =>
         by_cases q2 : 1 ≤ (ix c.ports.d (k3 : Int)).depth ∧ (ix c.ports.d (k3 : Int)).depth ≤ 16
         ·have e2 : decide ((ix c.ports.d (k3 : Int)).depth < 1 ∨ 16 < (ix c.ports.d (k3 : Int)).depth) = false := decide_eq_false (by omega)
          have hall2 := all_succ (p := fun j : Nat => (ix c.ports.d (j : Int)).size ≤ 64 ∧ (ix c.ports.d (j : Int)).depth ≤ 16) hall ⟨q1.2, q2.2⟩
          clear q1 q2
          have hX := And.intro @pl49.eq_def (And.intro hw (And.intro @e1 (And.intro @e2 hq))); repeat' (first | refine S.x ?_ | (refine G.call 112 ?_; refine S.c ?_ (h := outn_ok)) | rintro _ _ ⟨rfl, rfl⟩ | intro hb | fail)
          all_goals exact S.R (k3 + 1)
         ·have e2 : decide ((ix c.ports.d (k3 : Int)).depth < 1 ∨ 16 < (ix c.ports.d (k3 : Int)).depth) = true := decide_eq_true (by omega)
          clear q1 q2
          have hX := And.intro @pl49.eq_def (And.intro hw (And.intro @e1 (And.intro @e2 hq))); repeat' (first | refine S.x ?_ | (refine G.call 112 ?_; refine S.c ?_ (h := outn_ok)) | rintro _ _ ⟨rfl, rfl⟩ | intro hb | fail)
          all_goals exact Tr.fin hK ⟨23, (fun h => absurd h (by decide)), rfl, rfl⟩ S.E
        | false =>
         by_cases q2 : (ix c.ports.d (k3 : Int)).depth = 0
         ·have hall2 := all_succ (p := fun j : Nat => (ix c.ports.d (j : Int)).size ≤ 64 ∧ (ix c.ports.d (j : Int)).depth ≤ 16) hall ⟨q1.2, by omega⟩
          clear q1
          have hX := And.intro @pl49.eq_def (And.intro hw (And.intro @e1 hq)); repeat' (first | refine S.x ?_ | (refine G.call 112 ?_; refine S.c ?_ (h := outn_ok)) | rintro _ _ ⟨rfl, rfl⟩ | intro hb | fail)
          all_goals exact S.R (k3 + 1)
         ·clear q1
          have hX := And.intro @pl49.eq_def (And.intro hw (And.intro @e1 hq)); repeat' (first | refine S.x ?_ | (refine G.call 112 ?_; refine S.c ?_ (h := outn_ok)) | rintro _ _ ⟨rfl, rfl⟩ | intro hb | fail)
          all_goals exact Tr.fin hK ⟨23, (fun h => absurd h (by decide)), rfl, rfl⟩ S.E
       ·have e1 : decide ((ix c.ports.d (k3 : Int)).size < 1 ∨ 64 < (ix c.ports.d (k3 : Int)).size) = true := decide_eq_true (by omega)
        clear q1
        have hX := And.intro @pl49.eq_def (And.intro hw @e1); repeat' (first | refine S.x ?_ | (refine G.call 112 ?_; refine S.c ?_ (h := outn_ok)) | rintro _ _ ⟨rfl, rfl⟩ | intro hb | fail)
        all_goals exact Tr.fin hK ⟨23, (fun h => absurd h (by decide)), rfl, rfl⟩ S.E
      ·have hp3 := all_of (p := fun x : PortC => x.size ≤ 64 ∧ x.depth ≤ 16) (by omega) hall
       clear hall
       have hob := objects10_ok (u0 := .agg (En.enc c).toArray) (c := c) (hd := ⟨rfl⟩)
       have hX := @pl49.eq_def; repeat' (first | rintro _ _ ⟨rfl, rfl⟩ | rintro _ _ ⟨b, hobs, rfl, rfl⟩ | (refine G.call 113 ?_; refine S.c ?_ (h := hob)) | refine S.x ?_ | refine S.y ?_ ?_ | (refine G.call 112 ?_; refine S.c ?_ (h := outn_ok)) | intro hb | fail)
       all_goals try exact Tr.fin hK ⟨24, (fun h => absurd h (by decide)), rfl, rfl⟩ S.E
       all_goals try exact Tr.fin hK ⟨20, (fun h => absurd h (by decide)), rfl, rfl⟩ S.E
       rename_i hb1 hb2 hb3 hb4
       have hok : okPart c := ⟨hp1, by omega, by omega, hp2, hp3, hobs hb1, by omega, by omega⟩
       clear hp1 hp2 hp3 hobs hob
       refine Tr.loopE (α := Nat) [2, 10] [1] (fun k => [.int .i64 0, .int .i64 k]) (fun _ => []) (fun k => k ≤ 5) (fun k => 5 - k) 0 S.T rfl (Nat.zero_le _) fun k4 u4 hk4 => ?_
       simp only [List.nil_append]
       by_cases hin4 : k4 < 5
       ·have hw := wrapSucc (k := k4) (by omega)
        have hX := And.intro @pl49.eq_def hw; repeat' (first | refine S.x ?_ | refine S.y ?_ ?_ | (refine G.call 112 ?_; refine S.c ?_ (h := outn_ok)) | rintro _ _ ⟨rfl, rfl⟩ | intro hb | fail)
        all_goals first
         | exact S.R (k4 + 1)
         | exact Tr.fin hK ⟨20, (fun h => absurd h (by decide)), rfl, rfl⟩ S.E
       ·have hX := @pl49.eq_def; repeat' (first | refine S.x ?_ | fail)
        all_goals exact Tr.fin hK ⟨0, (fun _ => hok), rfl, rfl⟩ S.E
     ·have hX := @pl49.eq_def; repeat' (first | refine S.x ?_ | fail)
      all_goals exact Tr.fin hK ⟨23, (fun h => absurd h (by decide)), rfl, rfl⟩ S.E
   ·have e2 : decide ((c.procs.d.length : Int) < 1 ∨ 8 < (c.procs.d.length : Int)) = true := decide_eq_true (by omega)
    have hX := And.intro @pl49.eq_def @e2; repeat' (first | refine S.x ?_ | (refine G.call 112 ?_; refine S.c ?_ (h := outn_ok)) | rintro _ _ ⟨rfl, rfl⟩ | fail)
    all_goals exact Tr.fin hK ⟨22, (fun h => absurd h (by decide)), rfl, rfl⟩ S.E
 ·have hX := @pl49.eq_def; repeat' (first | refine S.x ?_ | intro hb | fail)
  all_goals exact Tr.fin hK ⟨21, (fun h => absurd h (by decide)), rfl, rfl⟩ S.E
end
end Go.Proofs.YtacmaamllpiloaaGreat
