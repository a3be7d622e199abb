import Derived.Test.YtkapfpliiaegfaaGreatZ07
import Derived.Test.YtkapfpliiaegfaaGreatZ03
namespace Go.Proofs.YtkapfpliiaegfaaGreat
open Go Go.Wk Tryz
set_option maxHeartbeats 3200000
set_option maxRecDepth 100000
theorem uw {n : Int} (h0 : 0 ≤ n) (h1 : n < 18446744073709551616) : IntKind.u64.wrap n = n := by rw [IntKind.wrap_u64]; omega
theorem xEg {a b : Nat} (h : a * b < 18446744073709551616) : IntKind.u64.wrap ((a : Int) * (b : Int)) = ((a * b : Nat) : Int) := by
 rw [← Int.natCast_mul]; exact uw S.o S.o
theorem xFm {a b : Nat} : IntKind.u64.wrap ((a : Int) * (b : Int)) = ((a * b % 18446744073709551616 : Nat) : Int) := by
 rw [← Int.natCast_mul, IntKind.wrap_u64]; omega
theorem xD2 {a b : Nat} (h : a + b < 18446744073709551616) : IntKind.u64.wrap ((a : Int) + (b : Int)) = ((a + b : Nat) : Int) := by
 rw [uw S.o S.o]; omega
theorem xCC {P : Program} {m : Sem Value} {v : Value} {K : Value → WP} (h : m = pure v) : Xq P m K = K v := by
 subst h
 funext w
 simp [Xq]
theorem xKt {P : Program} {t : TypeId} {x y : Operand} {n : Nat} {K : Value → WP} : XO P .and t x y (.int .u64 (n : Int)) (.int .u64 4294967295) K = K (.int .u64 ((n % 4294967296 : Nat) : Int)) := by
 simp only [XO, Je, VF, if_true]
 refine (xCC (intBits_and .u64 (n : Int) 4294967295)).trans ?_
 congr 2
 show IntKind.u64.wrap ((BitVec.ofInt 64 (n : Int) &&& BitVec.ofInt 64 4294967295).toNat : Int) = _
 rw [BitVec.toNat_and, BitVec.ofInt_natCast, BitVec.toNat_ofNat, show (BitVec.ofInt 64 4294967295).toNat = 2 ^ 32 - 1 by decide, Nat.and_two_pow_sub_one_eq_mod]
 rw [uw S.o S.o]
 omega
theorem xIe {P : Program} {t : TypeId} {x y : Operand} {n s : Nat} {K : Value → WP} (h : s ≤ 64) : XO P .shr t x y (.int .u64 (n : Int)) (.int .u64 (s : Int)) K = K (.int .u64 ((n / 2 ^ s : Nat) : Int)) := by
 simp only [XO, Je, VF, if_true]
 refine (xCC (shift_shr .u64 .u64 (n : Int) (s : Int) S.o (by show (s : Int) ≤ 64; omega))).trans ?_
 rw [Int.toNat_natCast]
 congr 2
theorem xFy {P : Program} {t : TypeId} {x y : Operand} {n : Nat} {K : Value → WP} : XO P .shr t x y (.int .u64 (n : Int)) (.int .u64 32) K = K (.int .u64 ((n / 4294967296 : Nat) : Int)) := xIe (s := 32) (by decide)
theorem xJ6 {P : Program} {t : TypeId} {x y : Operand} {n : Nat} {K : Value → WP} : XO P .shr t x y (.int .u64 (n : Int)) (.int .u64 16) K = K (.int .u64 ((n / 65536 : Nat) : Int)) := xIe (s := 16) (by decide)
theorem xLb {P : Program} {t : TypeId} {x y : Operand} {n : Nat} {K : Value → WP} : XO P .shr t x y (.int .u64 (n : Int)) (.int .u64 8) K = K (.int .u64 ((n / 256 : Nat) : Int)) := xIe (s := 8) (by decide)
theorem xI9 {P : Program} {t : TypeId} {x y : Operand} {n s : Nat} {K : Value → WP} (h : s ≤ 64) : XO P .shl t x y (.int .u64 (n : Int)) (.int .u64 (s : Int)) K = K (.int .u64 ((n * 2 ^ s % 18446744073709551616 : Nat) : Int)) := by
 simp only [XO, Je, VF, if_true]
 refine (xCC (shift_shl .u64 .u64 (n : Int) (s : Int) S.o (by show (s : Int) ≤ 64; omega))).trans ?_
 rw [Int.toNat_natCast]
 congr 2
theorem xDR {x : Nat} (hx : x < 18446744073709551616) : ∃ x1 x0 : Nat, x0 < 4294967296 ∧ x1 < 4294967296 ∧ x / 4294967296 = x1 ∧ x % 4294967296 = x0 ∧ x = x1 * 4294967296 + x0 := ⟨_, _, Nat.mod_lt _ (by decide), by omega, rfl, rfl, by omega⟩
def xCJ (x : Nat) : Nat := if x = 0 then 0 else Nat.log2 x + 1
abbrev xE1 : ByteArray := ⟨((([0, 1, 2, 2, 3, 3, 3, 3, 4, 4, 4, 4, 4, 4, 4, 4, 5, 5, 5, 5, 5, 5, 5, 5, 5, 5, 5, 5, 5, 5, 5, 5, 6, 6, 6, 6, 6, 6, 6, 6, 6, 6, 6, 6, 6, 6, 6, 6, 6, 6, 6, 6, 6, 6, 6, 6, 6, 6, 6, 6, 6, 6, 6, 6] : List UInt8).append [7, 7, 7, 7, 7, 7, 7, 7, 7, 7, 7, 7, 7, 7, 7, 7, 7, 7, 7, 7, 7, 7, 7, 7, 7, 7, 7, 7, 7, 7, 7, 7, 7, 7, 7, 7, 7, 7, 7, 7, 7, 7, 7, 7, 7, 7, 7, 7, 7, 7, 7, 7, 7, 7, 7, 7, 7, 7, 7, 7, 7, 7, 7, 7]).append (([8, 8, 8, 8, 8, 8, 8, 8, 8, 8, 8, 8, 8, 8, 8, 8, 8, 8, 8, 8, 8, 8, 8, 8, 8, 8, 8, 8, 8, 8, 8, 8, 8, 8, 8, 8, 8, 8, 8, 8, 8, 8, 8, 8, 8, 8, 8, 8, 8, 8, 8, 8, 8, 8, 8, 8, 8, 8, 8, 8, 8, 8, 8, 8] : List UInt8).append [8, 8, 8, 8, 8, 8, 8, 8, 8, 8, 8, 8, 8, 8, 8, 8, 8, 8, 8, 8, 8, 8, 8, 8, 8, 8, 8, 8, 8, 8, 8, 8, 8, 8, 8, 8, 8, 8, 8, 8, 8, 8, 8, 8, 8, 8, 8, 8, 8, 8, 8, 8, 8, 8, 8, 8, 8, 8, 8, 8, 8, 8, 8, 8])).toArray⟩
theorem xKc : ∀ n : Nat, n < 256 → (xE1.get! n).toNat = xCJ n := by decide +kernel
theorem xJn {x s : Nat} (h : 1 ≤ x / 2 ^ s) : s + xCJ (x / 2 ^ s) = xCJ x := by
 have hx : x ≠ 0 := fun h0 => by subst h0; simp at h
 unfold xCJ
 rw [if_neg hx, if_neg S.o]
 have h1 : 2 ^ s * 2 ^ (x / 2 ^ s).log2 ≤ x := Nat.le_trans (Nat.mul_le_mul_left _ (Nat.log2_self_le S.o)) (by rw [Nat.mul_comm]; exact Nat.div_mul_le_self _ _)
 have h2 : x < 2 ^ s * 2 ^ ((x / 2 ^ s).log2 + 1) := by
  have := Nat.lt_log2_self (n := x / 2 ^ s)
  rw [Nat.mul_comm]
  exact (Nat.div_lt_iff_lt_mul (Nat.two_pow_pos s)).1 this
 rw [← Nat.pow_add] at h1 h2
 have h3 : s + (x / 2 ^ s).log2 ≤ x.log2 := (Nat.le_log2 hx).2 h1
 have h4 : x.log2 < s + ((x / 2 ^ s).log2 + 1) := (Nat.log2_lt hx).2 h2
 omega
theorem xFL {x : Nat} (h : x < 18446744073709551616) : xCJ x ≤ 64 := by
 unfold xCJ
 split
 ·exact Nat.zero_le _
 ·rename_i hx
  exact (Nat.log2_lt hx).2 (show x < 2 ^ 64 from h)
theorem xIt {c : Nat} (h0 : c ≠ 0) (h : c < 18446744073709551616) : 9223372036854775808 ≤ c * 2 ^ (64 - xCJ c) ∧ c * 2 ^ (64 - xCJ c) < 18446744073709551616 ∧ 64 - xCJ c ≤ 63 := by
 have hl := xFL h
 have e : xCJ c = c.log2 + 1 := if_neg h0
 have h1 : 2 ^ c.log2 ≤ c := Nat.log2_self_le h0
 have h2 : c < 2 ^ (c.log2 + 1) := Nat.lt_log2_self
 rw [e] at hl ⊢
 refine ⟨?_, ?_, by omega⟩
 ·have := Nat.mul_le_mul_right (2 ^ (64 - (c.log2 + 1))) h1
  rw [← Nat.pow_add, show c.log2 + (64 - (c.log2 + 1)) = 63 by omega] at this
  exact this
 ·have := Nat.mul_lt_mul_of_pos_right h2 (Nat.two_pow_pos (64 - (c.log2 + 1)))
  rw [← Nat.pow_add, show c.log2 + 1 + (64 - (c.log2 + 1)) = 64 by omega] at this
  exact this
theorem xCz {x s y : Nat} (hy : y = x / 2 ^ s) (hlt : y < 256) (h1 : s = 0 ∨ 1 ≤ y) (hs : s ≤ 56) : IntKind.i64.wrap ((s : Int) + IntKind.i64.wrap ((xCJ (y % 256) : Nat) : Int)) = ((xCJ x : Nat) : Int) := by
 rw [Nat.mod_eq_of_lt hlt]
 have h2 := xFL (x := y) S.o
 have h3 : s + xCJ y = xCJ x := by
  subst hy
  rcases h1 with rfl | h1
  ·rw [Nat.pow_zero, Nat.div_one, Nat.zero_add]
  ·exact xJn h1
 rw [Ye (n := ((xCJ y : Nat) : Int)) S.o S.o, Ye S.o S.o, ← h3]
 omega
theorem u8w {n : Nat} : IntKind.u8.wrap (n : Int) = ((n % 256 : Nat) : Int) := by rw [IntKind.wrap_u8]; omega
theorem xJj {P : Program} {T : Nat} [h : xjE P T] {n : Nat} {K : Value → WP} : Xq P (Instr.index T (.string xE1) (.int .u8 ((n % 256 : Nat) : Int))) K = K (.int .u8 ((xCJ (n % 256) : Nat) : Int)) := by
 have hn : n % 256 < 256 := Nat.mod_lt _ (by decide)
 generalize n % 256 = m at *
 refine Zm (fun w => ?_) K
 have hlt : m < xE1.size := hn
 have hg : xE1[m]? = some (xE1.get! m) := by
  rw [getElem?_pos xE1 m hlt]
  congr 1
  show xE1.data[m] = xE1.data[m]!
  exact (getElem!_pos xE1.data m hlt).symm
 have h2 := xKc m hn
 simp [Instr.index, asIntOf, run_underlying h.h, hg, h2]
section
attribute [local irreducible] BrK Xq Xt Xv XI FnK XZ Xw XC XV opX opK Yq Yk eqR Yj Yo Ys WL WD W X3 XO Tr drewK Ya X4 Yw Yv X1 YB mp blk rob sl sep ex fact old
theorem xGd {x y : Nat} (hx : x < 18446744073709551616) (hy : y < 18446744073709551616) : Xb prog 197 #[.int .u64 (x : Int), .int .u64 (y : Int)] []
  fun v l' => v = .tuple #[.int .u64 ((x * y / 18446744073709551616 : Nat) : Int), .int .u64 ((x * y % 18446744073709551616 : Nat) : Int)] ∧ l' = [] := by
 intro F K hK
 simp only [List.nil_append]
 have hlo := xFm (a := x) (b := y)
 obtain ⟨x1, x0, l0, l1, hx1, hx0, hxe⟩ := xDR hx
 obtain ⟨y1, y0, l2, l3, hy1, hy0, hye⟩ := xDR hy
 have p0 : x0 * y0 ≤ 4294967295 * 4294967295 := Nat.mul_le_mul S.o S.o
 have p1 : x1 * y0 ≤ 4294967295 * 4294967295 := Nat.mul_le_mul S.o S.o
 have p2 : x0 * y1 ≤ 4294967295 * 4294967295 := Nat.mul_le_mul S.o S.o
 have p3 : x1 * y1 ≤ 4294967295 * 4294967295 := Nat.mul_le_mul S.o S.o
 have hm : x * y = (x1 * 4294967296 + x0) * (y1 * 4294967296 + y0) := by rw [← hxe, ← hye]
 have hh := xKH (A := x1 * y1) (B := x1 * y0) (C := x0 * y1) (D := x0 * y0) rfl rfl rfl rfl rfl
 rw [← hm] at hh
 have w0 := xEg (a := x0) (b := y0) S.o
 have w1 := xEg (a := x1) (b := y0) S.o
 have w2 := xEg (a := x0) (b := y1) S.o
 have w3 := xEg (a := x1) (b := y1) S.o
 rw [← hh] at hK
 clear hh hm hxe hye
 generalize x0 * y0 = D at *
 generalize x1 * y0 = B at *
 generalize x0 * y1 = C at *
 generalize x1 * y1 = A at *
 have a1 := xD2 (a := B) (b := D / 4294967296) S.o
 have a2 := xD2 (a := (B + D / 4294967296) % 4294967296) (b := C) S.o
 have a3 := xD2 (a := A) (b := (B + D / 4294967296) / 4294967296) S.o
 have a4 := xD2 (a := A + (B + D / 4294967296) / 4294967296) (b := ((B + D / 4294967296) % 4294967296 + C) / 4294967296) S.o
 refine S.I fun u => ?_
 have hX := I9 @xKt @xFy hx0 hx1 hy0 hy1 hlo @w0 (I7 @w1 @w2 @w3 @a1 @a2 @a3 @a4); repeat' (first | refine S.x ?_ | refine S.y ?_ ?_ | (refine G.prop ?_; assumption) | intro hb | ((fail_if_success refine G.tr ?_); exact G.prop S.p) | fail)
 all_goals
  refine Tr.fin hK ⟨?_, rfl⟩ S.E
  with_reducible rfl
theorem xI2 {x : Nat} (hx : x < 18446744073709551616) : Xb prog 342 #[.int .u64 (x : Int)] [] fun v l' => v = .int .i64 ((xCJ x : Nat) : Int) ∧ l' = [] := by
 intro F K hK
 simp only [List.nil_append]
 refine S.I fun u => ?_
 have hX := I3 @xFy @xJ6 @xLb
 refine S.x ?_
 refine S.y ?_ ?_ <;> intros <;> refine S.y ?_ ?_ <;> intros <;> refine S.y ?_ ?_ <;> intros
 all_goals
  simp only [WKb, WKh, u8w, xJj, ↓reduceIte, Nat.reduceEqDiff]
  refine Tr.fin hK ⟨?_, rfl⟩ S.E
  congr 1
 ·exact xCz (s := 56) S.o S.o S.o (by decide)
 ·exact xCz (s := 48) S.o S.o S.o (by decide)
 ·exact xCz (s := 40) S.o S.o S.o (by decide)
 ·exact xCz (s := 32) S.o S.o S.o (by decide)
 ·exact xCz (s := 24) S.o S.o S.o (by decide)
 ·exact xCz (s := 16) S.o S.o S.o (by decide)
 ·exact xCz (s := 8) S.o S.o S.o (by decide)
 ·exact xCz (s := 0) S.o S.o S.o (by decide)
theorem xCB {x : Nat} (hx : x < 18446744073709551616) : Xb prog 263 #[.int .u64 (x : Int)] [] fun v l' => v = .int .i64 ((64 - xCJ x : Nat) : Int) ∧ l' = [] := by
 intro F K hK
 simp only [List.nil_append]
 have hl := xFL hx
 have hw : IntKind.i64.wrap (64 - ((xCJ x : Nat) : Int)) = ((64 - xCJ x : Nat) : Int) := by rw [Ye S.o S.o]; omega
 refine S.I fun u => ?_
 have hX := hw; repeat' (first | refine S.x ?_ | refine S.y ?_ ?_ | (refine G.call 342 ?_; refine S.c ?_ (h := xI2 ‹_›)) | rintro _ _ ⟨rfl, rfl⟩ | (refine G.prop ?_; assumption) | intro hb | ((fail_if_success refine G.tr ?_); exact G.prop S.p) | fail)
 all_goals exact S.L
theorem xKw {a b : Nat} (h : a < 18446744073709551616) : IntKind.u64.wrap ((a : Int).tdiv (b : Int)) = ((a / b : Nat) : Int) := by
 have h1 := Nat.div_le_self a b
 rw [Int.tdiv_eq_ediv_of_nonneg S.o, ← Int.natCast_ediv]
 generalize a / b = q at *
 exact uw S.o S.o
theorem xLq {a b r : Nat} (h : a = b + r) (ha : a < 18446744073709551616) : IntKind.u64.wrap ((a : Int) - (b : Int)) = ((r : Nat) : Int) := by
 rw [uw S.o S.o]; omega
theorem xK6 {a b r : Nat} (h : a = b + r) (hr : r < 18446744073709551616) : IntKind.u64.wrap (((a % 18446744073709551616 : Nat) : Int) - ((b % 18446744073709551616 : Nat) : Int)) = ((r : Nat) : Int) := by
 rw [IntKind.wrap_u64]; omega
theorem xGN {a b : Nat} : IntKind.u64.wrap (((a % 18446744073709551616 : Nat) : Int) + (b : Int)) = (((a + b) % 18446744073709551616 : Nat) : Int) := by
 rw [IntKind.wrap_u64]; omega
theorem xGG {a : Nat} : IntKind.u64.wrap ((a : Int) * 4294967296) = ((a * 4294967296 % 18446744073709551616 : Nat) : Int) := xFm (b := 4294967296)
theorem xK9 {a : Nat} (h : a < 4294967296) : IntKind.u64.wrap (4294967296 * (a : Int)) = ((a * 4294967296 : Nat) : Int) := by
 rw [uw S.o S.o]; omega
theorem xL0 {P : Program} {t : TypeId} {x y : Operand} {a i b : Nat} {K : Value → WP} (h : b < 2 ^ i) (hs : a * 2 ^ i + b < 18446744073709551616) : XO P .or t x y (.int .u64 ((a * 2 ^ i : Nat) : Int)) (.int .u64 (b : Int)) K = K (.int .u64 ((a * 2 ^ i + b : Nat) : Int)) := by
 simp only [XO, Je, VF, if_true]
 refine (xCC (intBits_or .u64 _ _)).trans ?_
 congr 2
 have hx : a * 2 ^ i ||| b = a * 2 ^ i + b := by rw [Nat.mul_comm a, ← Nat.two_pow_add_eq_or_of_lt h]
 have h1 : (BitVec.ofInt 64 (b : Int)).toNat = b := by
  rw [BitVec.ofInt_natCast, BitVec.toNat_ofNat]; exact Nat.mod_eq_of_lt S.o
 have h2 : (BitVec.ofInt 64 ((a * 2 ^ i : Nat) : Int)).toNat = a * 2 ^ i := by
  rw [BitVec.ofInt_natCast, BitVec.toNat_ofNat]; exact Nat.mod_eq_of_lt S.o
 show IntKind.u64.wrap ((BitVec.ofInt 64 ((a * 2 ^ i : Nat) : Int) ||| BitVec.ofInt 64 (b : Int)).toNat : Int) = _
 rw [BitVec.toNat_or, h1, h2, hx]
 exact uw S.o S.o
theorem xKZ {P : Program} {t : TypeId} {x y : Operand} {n : Int} {s : Nat} {K : Value → WP} (h : s ≤ 64) : XO P .shr t x y (.int .u64 (IntKind.u64.wrap n)) (.int .u64 (s : Int)) K = K (.int .u64 (IntKind.u64.wrap n / 2 ^ s)) := by
 simp only [XO, Je, VF, if_true]
 refine (xCC (shift_shr .u64 .u64 _ (s : Int) S.o (by show (s : Int) ≤ 64; omega))).trans ?_
 rw [Int.toNat_natCast]
theorem xJ3 {hi lo s : Nat} (h : s ≤ 64) : (hi * 2 ^ s + lo / 2 ^ (64 - s)) * 18446744073709551616 + lo * 2 ^ s % 18446744073709551616 = (hi * 18446744073709551616 + lo) * 2 ^ s := by
 have e : (18446744073709551616 : Nat) = 2 ^ s * 2 ^ (64 - s) := by rw [← Nat.pow_add, show s + (64 - s) = 64 by omega]
 have h1 : lo * 2 ^ s / 18446744073709551616 = lo / 2 ^ (64 - s) := by rw [e, Nat.mul_comm lo, Nat.mul_div_mul_left _ _ (Nat.two_pow_pos s)]
 have h2 := Nat.div_add_mod (lo * 2 ^ s) 18446744073709551616
 rw [h1] at h2
 rw [Nat.add_mul, Nat.add_assoc, Nat.mul_comm (lo / 2 ^ (64 - s)), h2, Nat.add_mul, Nat.mul_right_comm]
theorem brk {q v u r d1 d0 a : Nat} (hI : xDV u v q r d1 d0 a) (hv : 0 < v) (h0 : d0 < 4294967296) (hq : q ≤ 4294967296) (hr : 4294967296 ≤ r) : q = (u * 4294967296 + a) / v ∧ u * 4294967296 + a - q * v = (u * 4294967296 + a) % v ∧ q * v ≤ u * 4294967296 + a :=
 xHM hI hv (Nat.le_trans (Nat.mul_le_mul hq (Nat.le_of_lt h0)) (Nat.le_trans (Nat.mul_le_mul_right _ hr) (Nat.le_add_right _ _)))
theorem xIU {u v d1 d0 a : Nat} (hv : v = d1 * 4294967296 + d0) (h1 : 2147483648 ≤ d1) (h0 : d0 < 4294967296) (hl : d1 < 4294967296) (hu : u < v) (ha : a < 4294967296) (hM : v < 18446744073709551616) :
  ∃ q r z : Nat, (IntKind.u64.wrap ((u : Int).tdiv (d1 : Int)) = (q : Int) ∧ IntKind.u64.wrap ((q : Int) * (d1 : Int)) = (z : Int) ∧ IntKind.u64.wrap ((u : Int) - (z : Int)) = (r : Int)) ∧ xDV u v q r d1 d0 a ∧ r < 4294967296 := by
 have hdm := Nat.div_add_mod u d1
 rw [Nat.mul_comm] at hdm
 exact ⟨u / d1, u % d1, u / d1 * d1, ⟨xKw S.o, xEg S.o, xLq hdm.symm S.o⟩, xJE hv h1 h0 hu ha, Nat.lt_trans (Nat.mod_lt _ S.o) hl⟩
theorem xKG {u v a Q : Nat} (hQ : Q = (u * 4294967296 + a) / v) (hv : 0 < v) (hM : v < 18446744073709551616) :
  ∃ Y Z W : Nat, IntKind.u64.wrap ((u : Int) * 4294967296) = (Y : Int) ∧ IntKind.u64.wrap ((Y : Int) + (a : Int)) = (Z : Int) ∧ IntKind.u64.wrap ((Q : Int) * (v : Int)) = (W : Int) ∧ IntKind.u64.wrap ((Z : Int) - (W : Int)) = (((u * 4294967296 + a) % v : Nat) : Int) := by
 have h := Nat.div_add_mod (u * 4294967296 + a) v
 rw [Nat.mul_comm, ← hQ] at h
 exact ⟨_, _, _, xGG, xGN, xFm, xK6 h.symm (Nat.lt_trans (Nat.mod_lt _ hv) hM)⟩
theorem xLj {u v a1 a0 Q1 Q2 U D : Nat} (h1 : Q1 = (u * 4294967296 + a1) / v) (h2 : Q2 = ((u * 4294967296 + a1) % v * 4294967296 + a0) / v) (hv : 0 < v) (hU : U = a1 * 4294967296 + a0) (hD : (u * 18446744073709551616 + U) / v = D) (hl : D < 18446744073709551616) :
  ∃ Y : Nat, IntKind.u64.wrap ((Q1 : Int) * 4294967296) = (Y : Int) ∧ IntKind.u64.wrap ((Y : Int) + (Q2 : Int)) = (D : Int) := by
 refine ⟨_, xGG, ?_⟩
 have h := xKl (X := u * 4294967296 + a1) (a0 := a0) hv
 rw [← h1, ← h2] at h
 have e : (u * 4294967296 + a1) * 4294967296 + a0 = u * 18446744073709551616 + U := by
  rw [hU, Nat.add_mul, Nat.mul_assoc]; exact Nat.add_assoc _ _ _
 rw [e, hD] at h
 rw [xGN, h, Nat.mod_eq_of_lt hl]
theorem xJT {u v q r d1 d0 a : Nat} (hI : xDV u v q r d1 d0 a) (hu : u < v) (hr : r < 4294967296) (ha : a < 4294967296) (hv : 0 < v) (h0 : d0 < 4294967296) (hl : d1 < 4294967296) :
  ∃ m rb cc : Nat, (IntKind.u64.wrap ((q : Int) * (d0 : Int)) = (m : Int) ∧ IntKind.u64.wrap (4294967296 * (r : Int)) = (rb : Int) ∧ IntKind.u64.wrap ((rb : Int) + (a : Int)) = (cc : Int) ∧ IntKind.u64.wrap ((r : Int) + (d1 : Int)) = ((r + d1 : Nat) : Int)) ∧
  ((xDV u v (q - 1) (r + d1) d1 d0 a ∧ r + d1 < 4294967296 ∧ q - 1 < q ∧ IntKind.u64.wrap ((q : Int) - 1) = ((q - 1 : Nat) : Int) ∧ decide ((4294967296 : Int) ≤ ((r + d1 : Nat) : Int)) = false ∧ decide ((4294967296 : Int) ≤ (q : Int)) = true) ∨
  (xDV u v (q - 1) (r + d1) d1 d0 a ∧ r + d1 < 4294967296 ∧ q - 1 < q ∧ IntKind.u64.wrap ((q : Int) - 1) = ((q - 1 : Nat) : Int) ∧ decide ((4294967296 : Int) ≤ ((r + d1 : Nat) : Int)) = false ∧ decide ((4294967296 : Int) ≤ (q : Int)) = false ∧ decide ((m : Int) > (cc : Int)) = true ∧ decide ((cc : Int) < (m : Int)) = true) ∨
  (q = (u * 4294967296 + a) / v ∧ decide ((4294967296 : Int) ≤ (q : Int)) = false ∧ decide ((cc : Int) < (m : Int)) = false) ∨
  (q - 1 = (u * 4294967296 + a) / v ∧ IntKind.u64.wrap ((q : Int) - 1) = (((u * 4294967296 + a) / v : Nat) : Int) ∧ decide ((4294967296 : Int) ≤ ((r + d1 : Nat) : Int)) = true ∧ decide ((4294967296 : Int) ≤ (q : Int)) = true) ∨
  (q - 1 = (u * 4294967296 + a) / v ∧ IntKind.u64.wrap ((q : Int) - 1) = (((u * 4294967296 + a) / v : Nat) : Int) ∧ decide ((4294967296 : Int) ≤ ((r + d1 : Nat) : Int)) = true ∧ decide ((4294967296 : Int) ≤ (q : Int)) = false ∧ decide ((cc : Int) < (m : Int)) = true)) := by
 have hqd : q * d0 ≤ 4294967297 * 4294967295 := Nat.mul_le_mul hI.hq S.o
 refine ⟨q * d0, r * 4294967296, r * 4294967296 + a, ⟨xEg S.o, xK9 hr, xD2 S.o, xD2 S.o⟩, ?_⟩
 have hdd := xJW hI hu ha
 have hen := fun h => (xHM hI hv h).1
 have hbr := fun hq => brk (hdd hq).2.1 hv h0 (hdd hq).2.2
 have hq9 := hI.hq
 obtain ⟨m, hm⟩ : ∃ m, m = q * d0 := ⟨_, rfl⟩
 obtain ⟨c, hc⟩ : ∃ c, c = r * 4294967296 + a := ⟨_, rfl⟩
 obtain ⟨Q, hQ⟩ : ∃ Q, Q = (u * 4294967296 + a) / v := ⟨_, rfl⟩
 rw [← hm, ← hc] at hdd hen hbr ⊢
 rw [← hQ] at hen ⊢
 have hbr := fun h1 h2 => (hbr h1 h2).1
 rw [← hQ] at hbr
 clear hm hc hQ hI hqd
 have dt : ∀ {x y : Int}, x ≤ y → decide (x ≤ y) = true := fun h => decide_eq_true h
 have hw : 1 ≤ q → IntKind.u64.wrap ((q : Int) - 1) = ((q - 1 : Nat) : Int) := fun h => by rw [uw S.o S.o]; omega
 rcases Nat.lt_or_ge q 4294967296 with h1 | h1
 ·have e1 : decide ((4294967296 : Int) ≤ (q : Int)) = false := decide_eq_false S.o
  rcases Nat.lt_or_ge c m with h2 | h2
  ·have e2 : decide ((c : Int) < (m : Int)) = true := decide_eq_true S.o
   obtain ⟨p1, p2, p3⟩ := hdd (.inr h2)
   rcases Nat.lt_or_ge (r + d1) 4294967296 with h3 | h3
   ·exact .inr (.inl ⟨p2, h3, by omega, hw p1, decide_eq_false S.o, e1, e2, e2⟩)
   ·have hq := hbr (.inr h2) h3
    exact .inr (.inr (.inr (.inr ⟨hq, by rw [hw p1, hq], decide_eq_true S.o, e1, e2⟩)))
  ·have hq := hen h2
   exact .inr (.inr (.inl ⟨hq, e1, decide_eq_false S.o⟩))
 ·have e1 : decide ((4294967296 : Int) ≤ (q : Int)) = true := decide_eq_true S.o
  obtain ⟨p1, p2, p3⟩ := hdd (.inl h1)
  rcases Nat.lt_or_ge (r + d1) 4294967296 with h3 | h3
  ·exact .inl ⟨p2, h3, by omega, hw p1, decide_eq_false S.o, e1⟩
  ·have hq := hbr (.inl h1) h3
   exact .inr (.inr (.inr (.inl ⟨hq, by rw [hw p1, hq], decide_eq_true S.o, e1⟩)))
theorem xCs {hi lo c : Nat} (hhi : hi < c) (hlo : lo < 18446744073709551616) (hc : c < 18446744073709551616) : Xb prog 199 #[.int .u64 (hi : Int), .int .u64 (lo : Int), .int .u64 (c : Int)] []
  fun v l' => ∃ r, v = .tuple #[.int .u64 (((hi * 18446744073709551616 + lo) / c : Nat) : Int), .int .u64 r] ∧ l' = [] := by
 intro F K hK
 simp only [List.nil_append]
 by_cases h0 : hi = 0
 ·subst h0
  have hq := xKw (b := c) hlo
  rw [Nat.zero_mul, Nat.zero_add] at hK
  refine S.I fun u => ?_
  have hX := And.intro @xoO.eq_def hq; repeat' (first | refine S.x ?_ | refine S.y ?_ ?_ | (refine G.call 263 ?_; refine S.c ?_ (h := xCB ‹_›)) | rintro _ _ ⟨rfl, rfl⟩ | (refine G.prop ?_; assumption) | intro hb | ((fail_if_success refine G.tr ?_); exact G.prop S.p) | fail)
  all_goals exact Tr.fin hK ⟨_, rfl, rfl⟩ S.E
 ·obtain ⟨n1, n2, n3⟩ := xIt (c := c) S.o hc
  obtain ⟨s, hs⟩ : ∃ s, s = 64 - xCJ c := ⟨_, rfl⟩
  rw [← hs] at n1 n2 n3
  obtain ⟨v, hv⟩ : ∃ v, v = c * 2 ^ s := ⟨_, rfl⟩
  rw [← hv] at n1 n2
  have hH : hi * 2 ^ s < v := by rw [hv]; exact Nat.mul_lt_mul_of_pos_right hhi (Nat.two_pow_pos s)
  have hE : lo / 2 ^ (64 - s) < 2 ^ s := by
   rw [Nat.div_lt_iff_lt_mul (Nat.two_pow_pos _), ← Nat.pow_add, show s + (64 - s) = 64 by omega]; exact hlo
  have hHE : hi * 2 ^ s + lo / 2 ^ (64 - s) < v := by
   have : (hi + 1) * 2 ^ s ≤ v := by rw [hv]; exact Nat.mul_le_mul_right _ hhi
   rw [Nat.add_mul, Nat.one_mul] at this; omega
  have hD := xJ3 (hi := hi) (lo := lo) (s := s) S.o
  have hQ : ((hi * 2 ^ s + lo / 2 ^ (64 - s)) * 18446744073709551616 + lo * 2 ^ s % 18446744073709551616) / v = (hi * 18446744073709551616 + lo) / c := by
   rw [hD, hv]; exact Nat.mul_div_mul_right _ _ (Nat.two_pow_pos s)
  have f1 := fun (P : Program) (t : TypeId) (x y : Operand) (K : Value → WP) => xI9 (P := P) (t := t) (x := x) (y := y) (n := c) (s := s) (K := K) S.o
  rw [← hv, Nat.mod_eq_of_lt n2] at f1
  have f2 := fun (P : Program) (t : TypeId) (x y : Operand) (K : Value → WP) => xI9 (P := P) (t := t) (x := x) (y := y) (n := hi) (s := s) (K := K) S.o
  rw [Nat.mod_eq_of_lt (Nat.lt_trans hH n2)] at f2
  have f3 := fun (P : Program) (t : TypeId) (x y : Operand) (K : Value → WP) => xIe (P := P) (t := t) (x := x) (y := y) (n := lo) (s := 64 - s) (K := K) S.o
  have f4 := fun (P : Program) (t : TypeId) (x y : Operand) (K : Value → WP) => xL0 (P := P) (t := t) (x := x) (y := y) (a := hi) (i := s) (b := lo / 2 ^ (64 - s)) (K := K) hE S.o
  have f5 := fun (P : Program) (t : TypeId) (x y : Operand) (K : Value → WP) => xI9 (P := P) (t := t) (x := x) (y := y) (n := lo) (s := s) (K := K) S.o
  have f6 : IntKind.u64.wrap ((s : Nat) : Int) = ((s : Nat) : Int) := uw S.o S.o
  have f7 : IntKind.u64.wrap (64 - ((s : Nat) : Int)) = ((64 - s : Nat) : Int) := by rw [uw S.o S.o]; omega
  have f8 := fun (P : Program) (t : TypeId) (x y : Operand) (n : Int) (K : Value → WP) => xKZ (P := P) (t := t) (x := x) (y := y) (n := n) (s := s) (K := K) S.o
  have hlz := xCB hc
  rw [← hs] at hlz
  generalize hU : lo * 2 ^ s % 18446744073709551616 = U at f5 hQ hD
  have hUl : U < 18446744073709551616 := by rw [← hU]; exact Nat.mod_lt _ (by decide)
  generalize hi * 2 ^ s = H at *
  generalize lo / 2 ^ (64 - s) = E at *
  generalize H + E = un at *
  obtain ⟨d1, d0, l0, l1, hd1, hd0, hvd⟩ := xDR n2
  obtain ⟨a1, a0, l2, l3, ha1, ha0, hUa⟩ := xDR hUl
  have hdl : 2147483648 ≤ d1 := by omega
  have hv0 : 0 < v := by omega
  obtain ⟨q0, r0, z0, i0, hI, hml⟩ := xIU (a := a1) hvd hdl l0 l1 hHE l3 n2
  have hDl : (hi * 18446744073709551616 + lo) / c < 18446744073709551616 := by
   rw [Nat.div_lt_iff_lt_mul S.o]
   have := Nat.mul_le_mul_left 18446744073709551616 hhi
   rw [Nat.mul_succ] at this
   rw [Nat.mul_comm hi]
   omega
  obtain ⟨D, hDD⟩ : ∃ D, D = (hi * 18446744073709551616 + lo) / c := ⟨_, rfl⟩
  rw [← hDD] at hK hQ hDl
  have hZ : Hd (U = a1 * 4294967296 + a0 ∧ (un * 18446744073709551616 + U) / v = D ∧ D < 18446744073709551616 ∧ v = d1 * 4294967296 + d0) := ⟨hUa, hQ, hDl, hvd⟩
  clear hDD hQ hUa hDl hv hD hvd hs
  refine S.I fun u => ?_
  have hX := I9 @xoO.eq_def @f1 @f2 @f3 @f4 @f5 @f6 @f7 (I8 hU hd1 hd0 ha1 ha0 @xKt @xFy @i0); repeat' (first | rintro _ _ ⟨rfl, rfl⟩ | rintro _ _ ⟨rfl, rfl⟩ | (refine G.call 263 ?_; refine S.c ?_ (h := hlz)) | refine S.x ?_ | refine S.y ?_ ?_ | (refine G.call 263 ?_; refine S.c ?_ (h := xCB ‹_›)) | (refine G.prop ?_; assumption) | intro hb | ((fail_if_success refine G.tr ?_); exact G.prop S.p) | fail)
  clear hX hhi h0 hlo hc hH hE f1 f2 f3 f4 f5 f7 i0 hU hd1 hd0 ha1 ha0 hlz hUl
  refine Tr.loopE (α := Nat × Nat) [15, 16] [2, 6, 7, 8, 9, 10, 11, 13, 14] (fun x => [.int .u64 x.1, .int .u64 x.2]) (fun _ => []) (fun x => xDV un v x.1 x.2 d1 d0 a1 ∧ x.2 < 4294967296) (fun x => x.1) (q0, r0) S.T rfl ⟨hI, hml⟩ fun x u2 hx => ?_
  clear hI hml
  obtain ⟨q, r⟩ := x
  obtain ⟨hI, hr⟩ := hx
  simp only at hI hr ⊢
  simp only [List.nil_append]
  obtain ⟨m, rb, cc, g, hg⟩ := xJT hI hHE hr l3 hv0 l0 l1
  clear hI hr
  rcases hg with ⟨hI2, hr2, hqq, hh⟩ | ⟨hI2, hr2, hqq, hh⟩ | ⟨hp, hh⟩ | ⟨hp, hh⟩ | ⟨hp, hh⟩
  ·have hX := I3 @xoO.eq_def g hh; repeat' (first | refine S.x ?_ | refine S.y ?_ ?_ | (refine G.call 263 ?_; refine S.c ?_ (h := xCB ‹_›)) | rintro _ _ ⟨rfl, rfl⟩ | (refine G.prop ?_; assumption) | intro hb | ((fail_if_success refine G.tr ?_); exact G.prop S.p) | fail)
   all_goals exact S.R ((q - 1, r + d1) : Nat × Nat)
  ·have hX := I3 @xoO.eq_def g hh; repeat' (first | refine S.x ?_ | refine S.y ?_ ?_ | (refine G.call 263 ?_; refine S.c ?_ (h := xCB ‹_›)) | rintro _ _ ⟨rfl, rfl⟩ | (refine G.prop ?_; assumption) | intro hb | ((fail_if_success refine G.tr ?_); exact G.prop S.p) | fail)
   all_goals exact S.R ((q - 1, r + d1) : Nat × Nat)
  all_goals
   obtain ⟨Y, Z, W, hT⟩ := xKG rfl hv0 n2
   have hRv : (un * 4294967296 + a1) % v < v := Nat.mod_lt _ hv0
   obtain ⟨h9, h8⟩ := hZ.h.2.2
   obtain ⟨q1, r1, z1, i1, hI1, hm1⟩ := xIU (a := a0) h8 hdl l0 l1 hRv l2 n2
   obtain ⟨Q1, hQ1⟩ : ∃ Q1, Q1 = (un * 4294967296 + a1) / v := ⟨_, rfl⟩
   obtain ⟨R1, hR1⟩ : ∃ R1, R1 = (un * 4294967296 + a1) % v := ⟨_, rfl⟩
   rw [← hQ1] at hT
   rw [← hR1] at hT hRv i1 hI1
   first
   | rw [← hQ1] at hh
   | obtain rfl : Q1 = q := hQ1.trans hp.symm
   have hQR : Hd (Q1 = (un * 4294967296 + a1) / v ∧ R1 = (un * 4294967296 + a1) % v) := ⟨hQ1, hR1⟩
   clear h8 h9 hp hQ1 hR1
   have hX := I5 @xoO.eq_def g hh hT @i1; repeat' (first | refine S.x ?_ | refine S.y ?_ ?_ | (refine G.call 263 ?_; refine S.c ?_ (h := xCB ‹_›)) | rintro _ _ ⟨rfl, rfl⟩ | (refine G.prop ?_; assumption) | intro hb | ((fail_if_success refine G.tr ?_); exact G.prop S.p) | fail)
   clear hX g hh hT i1
   refine Tr.loopE (α := Nat × Nat) [16, 18] [2, 6, 7, 8, 9, 10, 14, 15, 17] (fun x => [.int .u64 x.2, .int .u64 x.1]) (fun _ => []) (fun x => xDV R1 v x.1 x.2 d1 d0 a0 ∧ x.2 < 4294967296) (fun x => x.1) (q1, r1) S.T rfl ⟨hI1, hm1⟩ fun x u3 hx => ?_
   clear hI1 hm1
   obtain ⟨x, y⟩ := x
   obtain ⟨hI, hr⟩ := hx
   simp only at hI hr ⊢
   simp only [List.nil_append]
   obtain ⟨m, rb, cc, g, hg⟩ := xJT hI hRv hr l2 hv0 l0 l1
   clear hI hr
   rcases hg with ⟨hI2, hr2, hqq, hh⟩ | ⟨hI2, hr2, hqq, hh⟩ | ⟨hp, hh⟩ | ⟨hp, hh⟩ | ⟨hp, hh⟩
   ·have hX := I3 @xoO.eq_def g hh; repeat' (first | refine S.x ?_ | refine S.y ?_ ?_ | (refine G.call 263 ?_; refine S.c ?_ (h := xCB ‹_›)) | rintro _ _ ⟨rfl, rfl⟩ | (refine G.prop ?_; assumption) | intro hb | ((fail_if_success refine G.tr ?_); exact G.prop S.p) | fail)
    all_goals exact S.R ((x - 1, y + d1) : Nat × Nat)
   ·have hX := I3 @xoO.eq_def g hh; repeat' (first | refine S.x ?_ | refine S.y ?_ ?_ | (refine G.call 263 ?_; refine S.c ?_ (h := xCB ‹_›)) | rintro _ _ ⟨rfl, rfl⟩ | (refine G.prop ?_; assumption) | intro hb | ((fail_if_success refine G.tr ?_); exact G.prop S.p) | fail)
    all_goals exact S.R ((x - 1, y + d1) : Nat × Nat)
   all_goals
    obtain ⟨h1, h2, h3, h4⟩ := hZ.h
    obtain ⟨Q2, hQ2⟩ : ∃ Q2, Q2 = (R1 * 4294967296 + a0) / v := ⟨_, rfl⟩
    obtain ⟨Y2, hE⟩ := xLj hQR.h.1 (hQR.h.2 ▸ hQ2) hv0 h1 h2 h3
    first
    | rw [← hQ2] at hh
    | obtain rfl : Q2 = x := hQ2.trans hp.symm
    clear h1 h2 h3 h4 hp hQ2
    have hX := I8 @xoO.eq_def g hh hE @xGG @xGN @xFm @f8; repeat' (first | refine S.x ?_ | refine S.y ?_ ?_ | (refine G.call 263 ?_; refine S.c ?_ (h := xCB ‹_›)) | rintro _ _ ⟨rfl, rfl⟩ | (refine G.prop ?_; assumption) | intro hb | ((fail_if_success refine G.tr ?_); exact G.prop S.p) | fail)
    all_goals exact Tr.fin hK ⟨_, rfl, rfl⟩ S.E
