import Derived.Test.YtkapfpliiaegfaaGreatZ08
import Derived.Laws.Externs
namespace Go.Proofs.YtkapfpliiaegfaaGreat
open Go Go.Wk Tryz
set_option maxHeartbeats 3200000
set_option maxRecDepth 100000
def mdV (a b c : Int) (up : Bool) : Int := (a * b + if up = true then c - 1 else 0) / c
def xBZ (a b c : Int) (up : Bool) : Int × Int := if a < 0 ∨ b < 0 ∨ c < 1 then (0, 2) else if 9223372036854775807 < mdV a b c up then (0, 6) else (mdV a b c up, 0)
def xCK : List Int → Int
 | [] => 0
 | x :: xs => x + xCK xs
def xDl (l : List Int) : Int × Int := if l.any (fun x => decide (x < 0)) = true then (0, 2) else if 9223372036854775807 < xCK l then (0, 6) else (xCK l, 0)
def xLo (args : Array Value) : Sem Value := do
 let (x, y, c) ← Extern.MathBitsCarry.three "Add64" args
 pure (Extern.MathBitsCarry.pair ((x + y + c) % Extern.MathBitsCarry.m64) ((x + y + c) / Extern.MathBitsCarry.m64))
theorem xGP : Extern.find Tryz.f198 = some xLo := by kernel_rfl
theorem xGH : Extern.findNext Tryz.f198 = none := by kernel_rfl
theorem xIJ {a b : Nat} (w : World) : (callFunc 198 #[.int .u64 (a : Int), .int .u64 (b : Int), .int .u64 0]).run prog w = .ok (.value (.tuple #[.int .u64 (((a + b) % 18446744073709551616 : Nat) : Int), .int .u64 (((a + b) / 18446744073709551616 : Nat) : Int)])) w := by
 rw [run_callFunc_extern Tryz.func198 (by kernel_rfl) (by kernel_rfl) xGH xGP]
 have h : (xLo #[.int .u64 (a : Int), .int .u64 (b : Int), .int .u64 0]).run prog w = .ok (.tuple #[.int .u64 (((a + b) % 18446744073709551616 : Nat) : Int), .int .u64 (((a + b) / 18446744073709551616 : Nat) : Int)]) w := by
  rfl
 rw [h]; rfl
section
attribute [local irreducible] BrK Xq Xt Xv XI FnK XZ Xw XC XV opX opK Yq Yk eqR Yj Yo Ys WL WD W X3 XO Tr drewK Ya X4 Yw Yv X1 YB mp blk rob sl sep ex fact old
theorem xJf {a b : Nat} (ha : a < 9223372036854775808) (hb : b < 9223372036854775808) : Xb prog 144 #[.int .i64 (a : Int), .int .i64 (b : Int)] []
  fun v l' => v = .agg #[.int .u64 ((a * b / 18446744073709551616 : Nat) : Int), .int .u64 ((a * b % 18446744073709551616 : Nat) : Int)] ∧ l' = [] := by
 intro F K hK
 simp only [List.nil_append]
 have h1 : IntKind.u64.wrap ((a : Nat) : Int) = ((a : Nat) : Int) := uw S.o S.o
 have h2 : IntKind.u64.wrap ((b : Nat) : Int) = ((b : Nat) : Int) := uw S.o S.o
 have hm := xGd (x := a) (y := b) S.o S.o
 refine S.I fun u => ?_
 have hX := And.intro h1 h2; repeat' (first | rintro _ _ ⟨rfl, rfl⟩ | rintro _ _ ⟨rfl, rfl⟩ | (refine G.call 197 ?_; refine S.c ?_ (h := hm)) | refine S.x ?_ | refine S.y ?_ ?_ | (refine G.call 197 ?_; refine S.c ?_ (h := xGd ‹_› ‹_›)) | (refine G.prop ?_; assumption) | intro hb | ((fail_if_success refine G.tr ?_); exact G.prop S.p) | fail)
 all_goals exact Tr.fin hK ⟨rfl, rfl⟩ S.E
theorem xJ7 {X n : Nat} (hX : X + n < 340282366920938463463374607431768211456) (_hn : n < 9223372036854775808) : Xb prog 145 #[.agg #[.int .u64 ((X / 18446744073709551616 : Nat) : Int), .int .u64 ((X % 18446744073709551616 : Nat) : Int)], .int .u64 (n : Int)] []
  fun v l' => v = .agg #[.int .u64 (((X + n) / 18446744073709551616 : Nat) : Int), .int .u64 (((X + n) % 18446744073709551616 : Nat) : Int)] ∧ l' = [] := by
 intro F K hK
 simp only [List.nil_append]
 obtain ⟨h, lo, e1, e2, e3⟩ : ∃ h lo : Nat, X / 18446744073709551616 = h ∧ X % 18446744073709551616 = lo ∧ X = h * 18446744073709551616 + lo := ⟨_, _, rfl, rfl, by omega⟩
 have hl : lo < 18446744073709551616 := by omega
 have e4 : (X + n) / 18446744073709551616 = h + (lo + n) / 18446744073709551616 := by omega
 have e5 : (X + n) % 18446744073709551616 = (lo + n) % 18446744073709551616 := by omega
 have hs := xD2 (a := h) (b := (lo + n) / 18446744073709551616) S.o
 rw [e4, e5] at hK
 rw [e1, e2]
 have ha := fun K l (h : Tr l (K (.tuple #[.int .u64 (((lo + n) % 18446744073709551616 : Nat) : Int), .int .u64 (((lo + n) / 18446744073709551616 : Nat) : Int)]))) => Tr.row (P := prog) (f := 198) (K := K) (l := l) (xIJ (a := lo) (b := n)) h
 refine S.I fun u => ?_
 have hX := hs; repeat' (first | (refine ha _ _ ?_) | refine S.x ?_ | refine S.y ?_ ?_ | (refine G.prop ?_; assumption) | intro hb | ((fail_if_success refine G.tr ?_); exact G.prop S.p) | fail)
 all_goals exact Tr.fin hK ⟨rfl, rfl⟩ S.E
theorem xLv {X c : Nat} (_hX : X < 340282366920938463463374607431768211456) (h0 : 0 < c) (hc : c < 9223372036854775808) : Xb prog 146 #[.agg #[.int .u64 ((X / 18446744073709551616 : Nat) : Int), .int .u64 ((X % 18446744073709551616 : Nat) : Int)], .int .u64 (c : Int)] []
  fun v l' => v = .tuple #[.int .u64 ((if c ≤ X / 18446744073709551616 then 0 else X / c : Nat) : Int), .bool (!decide (c ≤ X / 18446744073709551616) && decide (X / c ≤ 9223372036854775807))] ∧ l' = [] := by
 intro F K hK
 simp only [List.nil_append]
 obtain ⟨h, lo, e1, e2, e3⟩ : ∃ h lo : Nat, X / 18446744073709551616 = h ∧ X % 18446744073709551616 = lo ∧ X = h * 18446744073709551616 + lo := ⟨_, _, rfl, rfl, by omega⟩
 have hl : lo < 18446744073709551616 := by omega
 rw [e1, e2]
 rw [e1] at hK
 by_cases hb : c ≤ h
 ·have hd : decide ((c : Int) ≤ (h : Int)) = true := decide_eq_true S.o
  rw [if_pos hb, decide_eq_true hb] at hK
  clear e1 e2 e3
  refine S.I fun u => ?_
  have hX := hd; repeat' (first | refine S.x ?_ | refine S.y ?_ ?_ | (refine G.call 199 ?_; refine S.c ?_ (h := xCs ‹_› ‹_› ‹_›)) | rintro _ _ ⟨_, rfl, rfl⟩ | (refine G.prop ?_; assumption) | intro hb | ((fail_if_success refine G.tr ?_); exact G.prop S.p) | fail)
  all_goals exact Tr.fin hK ⟨rfl, rfl⟩ S.E
 ·have hd : decide ((c : Int) ≤ (h : Int)) = false := decide_eq_false S.o
  have hdv := xCs (hi := h) (lo := lo) (c := c) S.o hl S.o
  rw [← e3] at hdv
  rw [if_neg hb, decide_eq_false hb] at hK
  obtain ⟨q, hq⟩ : ∃ q, q = X / c := ⟨_, rfl⟩
  rw [← hq] at hdv hK
  have h9 : decide ((q : Int) ≤ 9223372036854775807) = decide (q ≤ 9223372036854775807) := decide_eq_decide.2 S.o
  clear e1 e2 e3 hq
  refine S.I fun u => ?_
  have hX := And.intro hd h9; repeat' (first | rintro _ _ ⟨rfl, rfl⟩ | rintro _ _ ⟨_, rfl, rfl⟩ | rintro _ _ ⟨_, rfl, rfl⟩ | (refine G.call 199 ?_; refine S.c ?_ (h := hdv)) | refine S.x ?_ | refine S.y ?_ ?_ | (refine G.call 199 ?_; refine S.c ?_ (h := xCs ‹_› ‹_› ‹_›)) | (refine G.prop ?_; assumption) | intro hb | ((fail_if_success refine G.tr ?_); exact G.prop S.p) | fail)
  all_goals exact Tr.fin hK ⟨rfl, rfl⟩ S.E
theorem xK3 {X c : Nat} (hX : X < 340282366920938463463374607431768211456) (h0 : 0 < c) (hc : c < 9223372036854775808) : ∃ (q : Nat) (t : Bool), Xb prog 146 #[.agg #[.int .u64 ((X / 18446744073709551616 : Nat) : Int), .int .u64 ((X % 18446744073709551616 : Nat) : Int)], .int .u64 (c : Int)] []
  (fun v l' => v = .tuple #[.int .u64 (q : Int), .bool t] ∧ l' = []) ∧ (t = true ∧ X / c = q ∧ q ≤ 9223372036854775807 ∨ t = false ∧ 9223372036854775807 < X / c) := by
 refine ⟨_, _, xLv hX h0 hc, ?_⟩
 by_cases hb : c ≤ X / 18446744073709551616
 ·right
  refine ⟨by rw [decide_eq_true hb]; rfl, ?_⟩
  have h1 : c * 18446744073709551616 ≤ X := Nat.le_trans (Nat.mul_le_mul_right _ hb) (Nat.div_mul_le_self _ _)
  have h2 : 18446744073709551616 ≤ X / c := (Nat.le_div_iff_mul_le h0).2 (by rw [Nat.mul_comm]; exact h1)
  omega
 ·rw [if_neg hb, decide_eq_false hb]
  by_cases h1 : X / c ≤ 9223372036854775807
  ·exact .inl ⟨by rw [decide_eq_true h1]; rfl, rfl, h1⟩
  ·exact .inr ⟨by rw [decide_eq_false h1]; rfl, by omega⟩
theorem xKd {a b c : Nat} {up : Bool} (hc : 1 ≤ c) : mdV a b c up = (((a * b + if up = true then c - 1 else 0) / c : Nat) : Int) := by
 unfold mdV
 cases up with
 | true => rw [if_pos rfl, if_pos rfl]; simp only [Int.natCast_ediv, Int.natCast_add, Int.natCast_mul]; congr 2; omega
 | false => rw [if_neg (by decide), if_neg (by decide)]; simp
theorem xBS {a b c : Int} {up : Bool} (ha : a ≤ 9223372036854775807) (hb : b ≤ 9223372036854775807) (hc : c ≤ 9223372036854775807) : Xb prog 97 #[.int .i64 a, .int .i64 b, .int .i64 c, .bool up] []
  fun v l' => v = .tuple #[.int .i64 (xBZ a b c up).1, .int .i64 (xBZ a b c up).2] ∧ l' = [] := by
 intro F K hK
 simp only [List.nil_append]
 by_cases h0 : a < 0 ∨ b < 0 ∨ c < 1
 ·rw [show xBZ a b c up = (0, 2) from if_pos h0] at hK
  refine Tr.enterG (T := np) (rs := [.cell 8 3, .cell 9 64]) mixed Tryz.func97 (c := bd Tryz.f97) rfl (by kernel_rfl) rfl (by simp) fun u => ?_
  simp only [bd, Tryz.f97]
  have hX := I9 @xCI @xCQ @xCv @xCw @xCH @xC6.eq_def @xCO @xCM (And.intro @xCL @xCN); repeat' (first | refine S.x ?_ | refine S.y ?_ ?_ | (refine G.call 199 ?_; refine S.c ?_ (h := xCs ‹_› ‹_› ‹_›)) | rintro _ _ ⟨_, rfl, rfl⟩ | (refine G.prop ?_; assumption) | intro hb | ((fail_if_success refine G.tr ?_); exact G.prop S.p) | fail)
  all_goals
   refine Tr.dfr (g := 143) (hr := rfl) (h := fun u => ?_)
   simp only [bd, Tryz.f143]
   have hX := @xDx; repeat' (first | refine S.x ?_ | refine S.y ?_ ?_ | (refine G.call 199 ?_; refine S.c ?_ (h := xCs ‹_› ‹_› ‹_›)) | rintro _ _ ⟨_, rfl, rfl⟩ | (refine G.prop ?_; assumption) | intro hb | ((fail_if_success refine G.tr ?_); exact G.prop S.p) | fail)
   all_goals exact Tr.fin hK ⟨rfl, rfl⟩ S.E
 ·obtain ⟨a, rfl⟩ : ∃ n : Nat, a = n := ⟨a.toNat, by omega⟩
  obtain ⟨b, rfl⟩ : ∃ n : Nat, b = n := ⟨b.toNat, by omega⟩
  obtain ⟨c, rfl⟩ : ∃ n : Nat, c = n := ⟨c.toNat, by omega⟩
  have ha' : a < 9223372036854775808 := by omega
  have hb' : b < 9223372036854775808 := by omega
  have hc' : c < 9223372036854775808 := by omega
  have hc1 : 1 ≤ c := by omega
  have hab : a * b ≤ 9223372036854775807 * 9223372036854775807 := Nat.mul_le_mul S.o S.o
  have ht := xJf ha' hb'
  have hw : IntKind.u64.wrap ((c : Nat) : Int) = ((c : Nat) : Int) := uw S.o S.o
  have hm := xKd (a := a) (b := b) (up := up) hc1
  have hmd : xBZ a b c up = if 9223372036854775807 < mdV a b c up then (0, 6) else (mdV a b c up, 0) := if_neg h0
  rw [hm] at hmd
  rw [hmd] at hK
  clear hmd hm
  obtain ⟨X, hX⟩ : ∃ X, X = a * b + (if up = true then c - 1 else 0) := ⟨_, rfl⟩
  have hXl : X < 340282366920938463463374607431768211456 := by rw [hX]; split <;> omega
  obtain ⟨q, t, hby, hqt⟩ := xK3 hXl hc1 hc'
  have hmo := xJ7 (X := a * b) (n := c - 1) S.o S.o
  have hw2 : IntKind.u64.wrap ((c : Int) - 1) = ((c - 1 : Nat) : Int) := by rw [uw S.o S.o]; omega
  have hXu : up = true → a * b + (c - 1) = X := fun h => by rw [hX, if_pos h]
  have hXd : up = false → a * b = X := fun h => by rw [hX, h]; rfl
  rw [← hX] at hK
  clear hX hab
  rcases hqt with ⟨rfl, h1, h2⟩ | ⟨rfl, h1⟩
  ·rw [if_neg S.o, h1] at hK
   have hwq : IntKind.i64.wrap ((q : Nat) : Int) = (q : Int) := Ye S.o S.o
   cases up
   all_goals
    first
    | rw [hXu rfl] at hmo
    | rw [hXd rfl] at ht
    clear hXu hXd h1 hXl
    refine Tr.enterG (T := np) (rs := [.cell 8 3, .cell 9 64]) mixed Tryz.func97 (c := bd Tryz.f97) rfl (by kernel_rfl) rfl (by simp) fun u => ?_
    simp only [bd, Tryz.f97]
    have hX := I9 @xCI @xCQ @xCv @xCw @xCH @xC6.eq_def @xCO @xCM (I5 @xCL @xCN hw hw2 hwq); repeat' (first | rintro _ _ ⟨rfl, rfl⟩ | rintro _ _ ⟨_, rfl, rfl⟩ | (refine G.call 144 ?_; refine S.c ?_ (h := ht)) | (refine G.call 145 ?_; refine S.c ?_ (h := hmo)) | (refine G.call 146 ?_; refine S.c ?_ (h := hby)) | refine S.x ?_ | refine S.y ?_ ?_ | (refine G.call 199 ?_; refine S.c ?_ (h := xCs ‹_› ‹_› ‹_›)) | (refine G.prop ?_; assumption) | intro hb | ((fail_if_success refine G.tr ?_); exact G.prop S.p) | fail)
    all_goals
     refine Tr.dfr (g := 143) (hr := rfl) (h := fun u => ?_)
     simp only [bd, Tryz.f143]
     have hX := @xDx; repeat' (first | refine S.x ?_ | refine S.y ?_ ?_ | (refine G.call 199 ?_; refine S.c ?_ (h := xCs ‹_› ‹_› ‹_›)) | rintro _ _ ⟨_, rfl, rfl⟩ | (refine G.prop ?_; assumption) | intro hb | ((fail_if_success refine G.tr ?_); exact G.prop S.p) | fail)
     all_goals exact Tr.fin hK ⟨rfl, rfl⟩ S.E
  ·rw [if_pos S.o] at hK
   have hwq := hw
   cases up
   all_goals
    first
    | rw [hXu rfl] at hmo
    | rw [hXd rfl] at ht
    clear hXu hXd h1 hXl
    refine Tr.enterG (T := np) (rs := [.cell 8 3, .cell 9 64]) mixed Tryz.func97 (c := bd Tryz.f97) rfl (by kernel_rfl) rfl (by simp) fun u => ?_
    simp only [bd, Tryz.f97]
    have hX := I9 @xCI @xCQ @xCv @xCw @xCH @xC6.eq_def @xCO @xCM (I5 @xCL @xCN hw hw2 hwq); repeat' (first | rintro _ _ ⟨rfl, rfl⟩ | rintro _ _ ⟨_, rfl, rfl⟩ | (refine G.call 144 ?_; refine S.c ?_ (h := ht)) | (refine G.call 145 ?_; refine S.c ?_ (h := hmo)) | (refine G.call 146 ?_; refine S.c ?_ (h := hby)) | refine S.x ?_ | refine S.y ?_ ?_ | (refine G.call 199 ?_; refine S.c ?_ (h := xCs ‹_› ‹_› ‹_›)) | (refine G.prop ?_; assumption) | intro hb | ((fail_if_success refine G.tr ?_); exact G.prop S.p) | fail)
    all_goals
     refine Tr.dfr (g := 143) (hr := rfl) (h := fun u => ?_)
     simp only [bd, Tryz.f143]
     have hX := @xDx; repeat' (first | refine S.x ?_ | refine S.y ?_ ?_ | (refine G.call 199 ?_; refine S.c ?_ (h := xCs ‹_› ‹_› ‹_›)) | rintro _ _ ⟨_, rfl, rfl⟩ | (refine G.prop ?_; assumption) | intro hb | ((fail_if_success refine G.tr ?_); exact G.prop S.p) | fail)
     all_goals exact Tr.fin hK ⟨rfl, rfl⟩ S.E
instance xLg : ElT 29 Int := ⟨⟩
theorem xCm {α : Type} [Inhabited α] {xs : List α} {k : Nat} (h : k < xs.length) : ix xs (k : Int) ∈ xs := List.mem_of_getElem? (Yi S.o S.o)
theorem xEc {l : List Int} {x : Int} : xCK (l ++ [x]) = xCK l + x := by
 induction l with
 | nil => simp [xCK]
 | cons y ys ih => simp only [List.cons_append, xCK, ih]; omega
theorem xGc {l : List Int} {x : Int} (hx : x ∈ l) (h : x < 0) : xDl l = (0, 2) := if_pos (List.any_eq_true.2 ⟨x, hx, decide_eq_true h⟩)
theorem xHU {l : List Int} (h : ∀ x ∈ l, 0 ≤ x) : xDl l = if 9223372036854775807 < xCK l then (0, 6) else (xCK l, 0) := if_neg fun h1 => by
 obtain ⟨x, hx, h2⟩ := List.any_eq_true.1 h1
 have := h x hx
 have := of_decide_eq_true h2
 omega
structure xGh (l : List Int) (k : Nat) (o : Bool) (n : Int) : Prop where
 nn : ∀ y ∈ l.take k, 0 ≤ y
 ov : decide (9223372036854775807 < xCK (l.take k)) = o
 n0 : 0 ≤ n
 n1 : n ≤ 9223372036854775807
 ns : o = false → n = xCK (l.take k)
theorem xFf {a b : Int} (ha : a ≤ 9223372036854775807) (hb : b ≤ 9223372036854775807) : Xb prog 96 #[.int .i64 a, .int .i64 b] []
  fun v l' => v = .tuple #[.int .i64 (xBZ a b 1 false).1, .int .i64 (xBZ a b 1 false).2] ∧ l' = [] := by
 intro F K hK
 simp only [List.nil_append]
 have hm := xBS (c := 1) (up := false) ha hb (by decide)
 refine S.I fun u => ?_
 repeat' (first | rintro _ _ ⟨rfl, rfl⟩ | rintro _ _ ⟨rfl, rfl⟩ | (refine G.call 97 ?_; refine S.c ?_ (h := hm)) | refine S.x ?_ | refine S.y ?_ ?_ | (refine G.call 97 ?_; refine S.c ?_ (h := xBS ‹_› ‹_› ‹_›)) | (refine G.prop ?_; assumption) | intro hb | ((fail_if_success refine G.tr ?_); exact G.prop S.p) | fail)
 all_goals exact Tr.fin hK ⟨rfl, rfl⟩ S.E
theorem xJp {ro : Bool} {s : SV} {l : List Int} (hl : l.length ≤ 1000000000) : Xb prog 101 #[s.v] [sl ro s.v l]
  fun v l' => v = .tuple #[.int .i64 (xDl l).1, .int .i64 (xDl l).2] ∧ l' = [sl ro s.v l] := by
 intro F K hK
 simp only [ap]
 refine Tr.enterG (T := np) (rs := [.cell 2 3, .cell 3 64]) mixed Tryz.func101 (c := bd Tryz.f101) rfl (by kernel_rfl) rfl (by simp) fun u => ?_
 simp only [bd, Tryz.f101]
 have hX := I9 @xCI @xCQ @xCv @xCw @xCD @xCH @xC6.eq_def @xCO (I3 @xCM @xCL @xCN); repeat' (first | intro (pe : Nat) | refine S.x ?_ | refine S.y ?_ ?_ | (refine G.call 97 ?_; refine S.c ?_ (h := xBS ‹_› ‹_› ‹_›)) | rintro _ _ ⟨rfl, rfl⟩ | (refine G.prop ?_; assumption) | intro hb | ((fail_if_success refine G.tr ?_); exact G.prop S.p) | fail)
 rename_i pn
 refine Tr.loopE (α := Nat × Bool × Int) [4, 9] [2, 3, 7, 8] (fun x => [.bool x.2.1, .int .i64 x.1]) (fun x => [blk pe (.cells #[.int .i64 0] 64 (0, 0)), blk pn (.cells #[.int .i64 x.2.2] 3 (0, 0)), sl ro s.v l])
  (fun x => x.1 ≤ l.length ∧ xGh l x.1 x.2.1 x.2.2) (fun x => l.length - x.1) (0, false, 0) S.T rfl ⟨Nat.zero_le _, fun _ h => by simp at h, rfl, Int.le_refl 0, by decide, fun _ => rfl⟩ fun x u2 hx => ?_
 obtain ⟨k, ov, n⟩ := x
 obtain ⟨hk, hnn, hov, hn0, hn1, hns⟩ := hx
 simp only at hk hnn hov hn0 hn1 hns ⊢
 simp only [ap]
 by_cases hin : k < l.length
 ·have hw := Xo (k := k) S.o
  have htk : l.take (k + 1) = l.take k ++ [ix l (k : Int)] := Yz hin
  have hmem : ix l (k : Int) ∈ l := xCm hin
  obtain ⟨x, hx⟩ : ∃ x, x = ix l (k : Int) := ⟨_, rfl⟩
  rw [← hx] at htk hmem
  have hxx := hx.symm
  clear hx
  by_cases hneg : x < 0
  ·rw [xGc hmem hneg] at hK
   have hX := I9 hxx @xCI @xCQ @xCv @xCw @xCD @xCH @xC6.eq_def (I4 @xCO @xCM @xCL @xCN); repeat' (first | refine S.x ?_ | refine S.y ?_ ?_ | (refine G.call 97 ?_; refine S.c ?_ (h := xBS ‹_› ‹_› ‹_›)) | rintro _ _ ⟨rfl, rfl⟩ | (refine G.prop ?_; assumption) | intro hb | ((fail_if_success refine G.tr ?_); exact G.prop S.p) | fail)
   all_goals
    refine Tr.dfr (g := 143) (hr := rfl) (h := fun u => ?_)
    simp only [bd, Tryz.f143]
    have hX := @xDx; repeat' (first | refine S.x ?_ | refine S.y ?_ ?_ | (refine G.call 97 ?_; refine S.c ?_ (h := xBS ‹_› ‹_› ‹_›)) | rintro _ _ ⟨rfl, rfl⟩ | (refine G.prop ?_; assumption) | intro hb | ((fail_if_success refine G.tr ?_); exact G.prop S.p) | fail)
    all_goals exact Tr.fin hK ⟨rfl, rfl⟩ S.E
  ·have hws : IntKind.i64.wrap (9223372036854775807 - n) = 9223372036854775807 - n := Ye S.o S.o
   have hsm : xCK (l.take (k + 1)) = xCK (l.take k) + x := by rw [htk, xEc]
   have hnn2 : ∀ y ∈ l.take (k + 1), 0 ≤ y := fun y hy => by
    rw [htk] at hy
    rcases List.mem_append.1 hy with h | h
    ·exact hnn y h
    ·rw [List.mem_singleton.1 h]; omega
   cases ov with
   | true =>
    have hb := of_decide_eq_true hov
    have hov2 : decide (9223372036854775807 < xCK (l.take (k + 1))) = true := decide_eq_true S.o
    have hI2 : xGh l (k + 1) true n := ⟨hnn2, hov2, hn0, hn1, fun h => by cases h⟩
    clear hns hov hov2 hnn2
    have hX := I9 hw hxx @xCI @xCQ @xCv @xCw @xCD @xCH (I5 @xC6.eq_def @xCO @xCM @xCL @xCN); repeat' (first | refine S.x ?_ | refine S.y ?_ ?_ | (refine G.call 97 ?_; refine S.c ?_ (h := xBS ‹_› ‹_› ‹_›)) | rintro _ _ ⟨rfl, rfl⟩ | (refine G.prop ?_; assumption) | intro hb | ((fail_if_success refine G.tr ?_); exact G.prop S.p) | fail)
    all_goals
     clear htk hsm hnn
     exact S.R ((k + 1, true, n) : Nat × Bool × Int)
   | false =>
    have hb := of_decide_eq_false hov
    have hns1 := hns rfl
    clear hns
    by_cases hgt : 9223372036854775807 - n < x
    ·have hov2 : decide (9223372036854775807 < xCK (l.take (k + 1))) = true := decide_eq_true S.o
     have hI2 : xGh l (k + 1) true n := ⟨hnn2, hov2, hn0, hn1, fun h => by cases h⟩
     clear hov hov2 hnn2 hns1
     have hX := I9 hw hws hxx @xCI @xCQ @xCv @xCw @xCD (I6 @xCH @xC6.eq_def @xCO @xCM @xCL @xCN); repeat' (first | refine S.x ?_ | refine S.y ?_ ?_ | (refine G.call 97 ?_; refine S.c ?_ (h := xBS ‹_› ‹_› ‹_›)) | rintro _ _ ⟨rfl, rfl⟩ | (refine G.prop ?_; assumption) | intro hb | ((fail_if_success refine G.tr ?_); exact G.prop S.p) | fail)
     all_goals
      clear htk hsm hnn
      exact S.R ((k + 1, true, n) : Nat × Bool × Int)
    ·have hov2 : decide (9223372036854775807 < xCK (l.take (k + 1))) = false := decide_eq_false S.o
     have hwa : IntKind.i64.wrap (n + x) = n + x := Ye S.o S.o
     have hI2 : xGh l (k + 1) false (n + x) := ⟨hnn2, hov2, by omega, by omega, fun _ => by omega⟩
     clear hov hov2 hnn2 hns1
     have hX := I9 hw hws hwa hxx @xCI @xCQ @xCv @xCw (I7 @xCD @xCH @xC6.eq_def @xCO @xCM @xCL @xCN); repeat' (first | refine S.x ?_ | refine S.y ?_ ?_ | (refine G.call 97 ?_; refine S.c ?_ (h := xBS ‹_› ‹_› ‹_›)) | rintro _ _ ⟨rfl, rfl⟩ | (refine G.prop ?_; assumption) | intro hb | ((fail_if_success refine G.tr ?_); exact G.prop S.p) | fail)
     all_goals
      clear htk hsm hnn
      exact S.R ((k + 1, false, n + x) : Nat × Bool × Int)
 ·have hke : k = l.length := by omega
  subst hke
  rw [List.take_length] at hov hnn hns
  rw [xHU hnn] at hK
  cases ov with
  | true =>
   rw [if_pos (of_decide_eq_true hov)] at hK
   have hX := I9 @xCI @xCQ @xCv @xCw @xCD @xCH @xC6.eq_def @xCO (I3 @xCM @xCL @xCN); repeat' (first | refine S.x ?_ | refine S.y ?_ ?_ | (refine G.call 97 ?_; refine S.c ?_ (h := xBS ‹_› ‹_› ‹_›)) | rintro _ _ ⟨rfl, rfl⟩ | (refine G.prop ?_; assumption) | intro hb | ((fail_if_success refine G.tr ?_); exact G.prop S.p) | fail)
   all_goals
    refine Tr.dfr (g := 143) (hr := rfl) (h := fun u => ?_)
    simp only [bd, Tryz.f143]
    have hX := @xDx; repeat' (first | refine S.x ?_ | refine S.y ?_ ?_ | (refine G.call 97 ?_; refine S.c ?_ (h := xBS ‹_› ‹_› ‹_›)) | rintro _ _ ⟨rfl, rfl⟩ | (refine G.prop ?_; assumption) | intro hb | ((fail_if_success refine G.tr ?_); exact G.prop S.p) | fail)
    all_goals exact Tr.fin hK ⟨rfl, rfl⟩ S.E
  | false =>
   rw [if_neg (of_decide_eq_false hov), ← hns rfl] at hK
   have hX := I9 @xCI @xCQ @xCv @xCw @xCD @xCH @xC6.eq_def @xCO (I3 @xCM @xCL @xCN); repeat' (first | refine S.x ?_ | refine S.y ?_ ?_ | (refine G.call 97 ?_; refine S.c ?_ (h := xBS ‹_› ‹_› ‹_›)) | rintro _ _ ⟨rfl, rfl⟩ | (refine G.prop ?_; assumption) | intro hb | ((fail_if_success refine G.tr ?_); exact G.prop S.p) | fail)
   all_goals
    refine Tr.dfr (g := 143) (hr := rfl) (h := fun u => ?_)
    simp only [bd, Tryz.f143]
    have hX := @xDx; repeat' (first | refine S.x ?_ | refine S.y ?_ ?_ | (refine G.call 97 ?_; refine S.c ?_ (h := xBS ‹_› ‹_› ‹_›)) | rintro _ _ ⟨rfl, rfl⟩ | (refine G.prop ?_; assumption) | intro hb | ((fail_if_success refine G.tr ?_); exact G.prop S.p) | fail)
    all_goals exact Tr.fin hK ⟨rfl, rfl⟩ S.E
end
instance : Fz xaL := ⟨fun p => sep (Fz.fz p.base) (sep (Fz.fz p.size) (sep (Fz.fz p.w) (fact True))), fun _ => XX (Fz.dup _) (XX (Fz.dup _) (XX (Fz.dup _) (xBP _)))⟩
instance : Fz WZ := ⟨fun p => sep (Fz.fz p.prio) (sep (Fz.fz p.period) (sep (Fz.fz p.cost) (fact True))), fun _ => XX (Fz.dup _) (XX (Fz.dup _) (XX (Fz.dup _) (xBP _)))⟩
instance : Fz Zd := ⟨fun p => sep (Fz.fz p.q) (sep (Fz.fz p.i) (sep (Fz.fz p.size) (sep (Fz.fz p.depth) (fact True)))), fun _ => XX (Fz.dup _) (XX (Fz.dup _) (XX (Fz.dup _) (XX (Fz.dup _) (xBP _))))⟩
instance : Fz JO := ⟨fun p => sep (Fz.fz p.first) (sep (Fz.fz p.most) (fact True)), fun _ => XX (Fz.dup _) (XX (Fz.dup _) (xBP _))⟩
instance : Fz JC := ⟨fun p => sep (Fz.fz p.size) (sep (Fz.fz p.depth) (fact True)), fun _ => XX (Fz.dup _) (XX (Fz.dup _) (xBP _))⟩
instance : Fz xD7 := ⟨fun p => sep (Fz.fz p.fp) (sep (Fz.fz p.fo) (sep (Fz.fz p.tp) (sep (Fz.fz p.to) (fact True)))), fun _ => XX (Fz.dup _) (XX (Fz.dup _) (XX (Fz.dup _) (XX (Fz.dup _) (xBP _))))⟩
instance : Fz xDL := ⟨fun p => sep (Fz.fz p.part) (sep (Fz.fz p.start) (sep (Fz.fz p.len) (fact True))), fun _ => XX (Fz.dup _) (XX (Fz.dup _) (XX (Fz.dup _) (xBP _)))⟩
instance : Fz xCo := ⟨fun p => sep (Fz.fz p.freq) (sep (Fz.fz p.power) (fact True)), fun _ => XX (Fz.dup _) (XX (Fz.dup _) (xBP _))⟩
instance : Fz xGB := ⟨fun p => sep (Fz.fz p.power) (sep (Fz.fz p.enter) (sep (Fz.fz p.wake) (fact True))), fun _ => XX (Fz.dup _) (XX (Fz.dup _) (XX (Fz.dup _) (xBP _)))⟩
instance : Fz YF := ⟨fun p => sep (Fz.fz p.regions) (sep (Fz.fz p.procs) (sep (Fz.fz p.ports) (sep (Fz.fz p.sems) (sep (Fz.fz p.flags) (sep (Fz.fz p.pools) (sep (Fz.fz p.slates) (sep (Fz.fz p.cap) (sep (Fz.fz p.budget) (sep (Fz.fz p.ladder) (sep (Fz.fz p.acts) (fact True))))))))))), fun _ => XX (Fz.dup _) (XX (Fz.dup _) (XX (Fz.dup _) (XX (Fz.dup _) (XX (Fz.dup _) (XX (Fz.dup _) (XX (Fz.dup _) (XX (Fz.dup _) (XX (Fz.dup _) (XX (Fz.dup _) (XX (Fz.dup _) (xBP _)))))))))))⟩
instance : FzD YF := ⟨fun R w => sepI (FzD.h R w) (sepI (FzD.h R w) (sepI (FzD.h R w) (sepI (FzD.h R w) (sepI (FzD.h R w) (sepI (FzD.h R w) (sepI (FzD.h R w) (sepI (FzD.h R w) (sepI (FzD.h R w) (sepI (FzD.h R w) (sepI (FzD.h R w) (trivial)))))))))))⟩
instance (priority := 700) xGL {l : List Xc} {x : YF} [hz : xaM l x] : xaM l (YF.regions x) := ⟨hz.h.imp fun h => ⟨fun _ => False, xfO (Fz.dup x h)⟩⟩
instance (priority := 700) xIH {l : List Xc} {x : YF} [hz : xaM l x] : xaM l (YF.procs x) := ⟨hz.h.imp fun h => ⟨fun _ => False, xfO (VB (Fz.dup x h))⟩⟩
instance (priority := 700) xIF {l : List Xc} {x : YF} [hz : xaM l x] : xaM l (YF.ports x) := ⟨hz.h.imp fun h => ⟨fun _ => False, xfO (VB (VB (Fz.dup x h)))⟩⟩
instance (priority := 700) xIR {l : List Xc} {x : YF} [hz : xaM l x] : xaM l (YF.sems x) := ⟨hz.h.imp fun h => ⟨fun _ => False, xfO (VB (VB (VB (Fz.dup x h))))⟩⟩
instance (priority := 700) xII {l : List Xc} {x : YF} [hz : xaM l x] : xaM l (YF.pools x) := ⟨hz.h.imp fun h => ⟨fun _ => False, xfO (VB (VB (VB (VB (VB (Fz.dup x h))))))⟩⟩
instance (priority := 700) xG9 {l : List Xc} {x : YF} [hz : xaM l x] : xaM l (YF.slates x) := ⟨hz.h.imp fun h => ⟨fun _ => False, xfO (VB (VB (VB (VB (VB (VB (Fz.dup x h)))))))⟩⟩
instance (priority := 700) xIS {l : List Xc} {x : YF} [hz : xaM l x] : xaM l (YF.acts x) := ⟨hz.h.imp fun h => ⟨fun _ => False, xfO (VB (VB (VB (VB (VB (VB (VB (VB (VB (VB (Fz.dup x h)))))))))))⟩⟩
instance : Fz xCE := ⟨fun p => sep (Fz.fz p.frame) (sep (Fz.fz p.wins) (fact True)), fun _ => XX (Fz.dup _) (XX (Fz.dup _) (xBP _))⟩
instance : FzD xCE := ⟨fun R w => sepI (FzD.h R w) (sepI (FzD.h R w) (trivial))⟩
instance (priority := 700) xIQ {l : List Xc} {x : xCE} [hz : xaM l x] : xaM l (xCE.wins x) := ⟨hz.h.imp fun h => ⟨fun _ => False, xfO (VB (Fz.dup x h))⟩⟩
structure xs2 where
 parts : SL YF
 chans : SL xD7
 modes : SL xCE
 levels : SL xCo
 naps : SL xGB
 sw : Int
 idle : Int
 change : Int
 quantum : Int
 slow : Int
 ppm : Int
 down : SL Int
 up : SL Int
instance : En xs2 := ⟨fun d => [d.parts.s.v, d.chans.s.v, d.modes.s.v, d.levels.s.v, d.naps.s.v, .int .i64 d.sw, .int .i64 d.idle, .int .i64 d.change, .int .i64 d.quantum, .int .i64 d.slow, .int .i64 d.ppm, d.down.s.v, d.up.s.v], 13, fun _ => rfl, fun _ => rfl, by decide⟩
instance : Fz xs2 := ⟨fun p => sep (Fz.fz p.parts) (sep (Fz.fz p.chans) (sep (Fz.fz p.modes) (sep (Fz.fz p.levels) (sep (Fz.fz p.naps) (sep (Fz.fz p.sw) (sep (Fz.fz p.idle) (sep (Fz.fz p.change) (sep (Fz.fz p.quantum) (sep (Fz.fz p.slow) (sep (Fz.fz p.ppm) (sep (Fz.fz p.down) (sep (Fz.fz p.up) (fact True))))))))))))), fun _ => XX (Fz.dup _) (XX (Fz.dup _) (XX (Fz.dup _) (XX (Fz.dup _) (XX (Fz.dup _) (XX (Fz.dup _) (XX (Fz.dup _) (XX (Fz.dup _) (XX (Fz.dup _) (XX (Fz.dup _) (XX (Fz.dup _) (XX (Fz.dup _) (XX (Fz.dup _) (xBP _)))))))))))))⟩
