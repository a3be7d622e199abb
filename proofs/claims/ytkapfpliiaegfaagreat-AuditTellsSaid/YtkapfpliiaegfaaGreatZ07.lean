import Derived.Test.YtkapfpliiaegfaaGreatZ02
import Derived.Test.YtkapfpliiaegfaaGreatProg
namespace Go.Proofs.YtkapfpliiaegfaaGreat
open Go Go.Wk Tryz
structure JO where
 first : Int
 most : Int
instance : En JO := ⟨fun d => [.int .i64 d.first, .int .i64 d.most], 2, fun _ => rfl, fun _ => rfl, by decide⟩
instance {l : List Xc} {a b : Int} : De l (.agg #[.int .i64 a, .int .i64 b]) (JO.mk a b) := ⟨rfl⟩
structure JC where
 size : Int
 depth : Int
instance : En JC := ⟨fun d => [.int .i64 d.size, .int .i64 d.depth], 2, fun _ => rfl, fun _ => rfl, by decide⟩
instance {l : List Xc} {a b : Int} : De l (.agg #[.int .i64 a, .int .i64 b]) (JC.mk a b) := ⟨rfl⟩
structure Zd where
 q : Bool
 i : Bool
 size : Int
 depth : Int
instance : En Zd := ⟨fun d => [.bool d.q, .bool d.i, .int .i64 d.size, .int .i64 d.depth], 4, fun _ => rfl, fun _ => rfl, by decide⟩
instance {l : List Xc} {q i : Bool} {a b : Int} : De l (.agg #[.bool q, .bool i, .int .i64 a, .int .i64 b]) (Zd.mk q i a b) := ⟨rfl⟩
structure xaL where
 base : Int
 size : Int
 w : Bool
instance : En xaL := ⟨fun d => [.int .i64 d.base, .int .i64 d.size, .bool d.w], 3, fun _ => rfl, fun _ => rfl, by decide⟩
structure WZ where
 prio : Int
 period : Int
 cost : Int
instance : En WZ := ⟨fun d => [.int .i64 d.prio, .int .i64 d.period, .int .i64 d.cost], 3, fun _ => rfl, fun _ => rfl, by decide⟩
structure YF where
 regions : SL xaL
 procs : SL WZ
 ports : SL Zd
 sems : SL JO
 flags : Int
 pools : SL JC
 slates : SL Int
 cap : Int
 budget : Int
 ladder : Int
 acts : SL Int
instance : Inhabited YF := ⟨⟨default, default, default, default, 0, default, default, 0, 0, 0, default⟩⟩
instance : En YF := ⟨fun d => [d.regions.s.v, d.procs.s.v, d.ports.s.v, d.sems.s.v, .int .i64 d.flags, d.pools.s.v, d.slates.s.v, .int .i64 d.cap, .int .i64 d.budget, .int .i64 d.ladder, d.acts.s.v], 11, fun _ => rfl, fun _ => rfl, by decide⟩
structure xD7 where
 fp : Int
 fo : Int
 tp : Int
 to : Int
instance : En xD7 := ⟨fun d => [.int .i64 d.fp, .int .i64 d.fo, .int .i64 d.tp, .int .i64 d.to], 4, fun _ => rfl, fun _ => rfl, by decide⟩
structure xDL where
 part : Int
 start : Int
 len : Int
instance : Inhabited xDL := ⟨⟨0, 0, 0⟩⟩
instance : En xDL := ⟨fun d => [.int .i64 d.part, .int .i64 d.start, .int .i64 d.len], 3, fun _ => rfl, fun _ => rfl, by decide⟩
structure xCE where
 frame : Int
 wins : SL xDL
instance : Inhabited xCE := ⟨⟨0, default⟩⟩
instance : En xCE := ⟨fun d => [.int .i64 d.frame, d.wins.s.v], 2, fun _ => rfl, fun _ => rfl, by decide⟩
structure xCo where
 freq : Int
 power : Int
instance : Inhabited xCo := ⟨⟨0, 0⟩⟩
instance : En xCo := ⟨fun d => [.int .i64 d.freq, .int .i64 d.power], 2, fun _ => rfl, fun _ => rfl, by decide⟩
structure xGB where
 power : Int
 enter : Int
 wake : Int
instance : En xGB := ⟨fun d => [.int .i64 d.power, .int .i64 d.enter, .int .i64 d.wake], 3, fun _ => rfl, fun _ => rfl, by decide⟩
theorem xKH {x0 x1 y0 y1 t A B C D : Nat} (hA : A = x1 * y1) (hB : B = x1 * y0) (hC : C = x0 * y1) (hD : D = x0 * y0) (ht : t = B + D / 4294967296) :
  A + t / 4294967296 + (t % 4294967296 + C) / 4294967296 = ((x1 * 4294967296 + x0) * (y1 * 4294967296 + y0)) / 18446744073709551616 := by
 have e : (x1 * 4294967296 + x0) * (y1 * 4294967296 + y0) = A * 18446744073709551616 + (B + C) * 4294967296 + D := by
  rw [hA, hB, hC, hD, Nat.add_mul, Nat.mul_add, Nat.mul_add]
  rw [show x1 * 4294967296 * (y1 * 4294967296) = x1 * y1 * 18446744073709551616 by rw [Nat.mul_mul_mul_comm], show x1 * 4294967296 * y0 = x1 * y0 * 4294967296 by rw [Nat.mul_right_comm], show x0 * (y1 * 4294967296) = x0 * y1 * 4294967296 by rw [Nat.mul_assoc]]
  omega
 rw [e]
 omega
structure xDV (u v q r d1 d0 a0 : Nat) : Prop where
 hr : u = q * d1 + r
 hq : q ≤ 4294967297
 up : ∀ z, z * v ≤ u * 4294967296 + a0 → z ≤ q
 dv : v = d1 * 4294967296 + d0
theorem xJE {u v d1 d0 a0 : Nat} (hv : v = d1 * 4294967296 + d0) (h1 : 2147483648 ≤ d1) (h0 : d0 < 4294967296) (hu : u < v) (ha : a0 < 4294967296) : xDV u v (u / d1) (u % d1) d1 d0 a0 := by
 refine ⟨?_, ?_, fun z hz => ?_, hv⟩
 ·have := Nat.div_add_mod u d1; rw [Nat.mul_comm]; omega
 ·have : u / d1 < 4294967298 := by
   rw [Nat.div_lt_iff_lt_mul S.o]
   rw [hv] at hu
   omega
  omega
 ·refine (Nat.le_div_iff_mul_le S.o).2 ?_
  have h2 : z * v = z * d1 * 4294967296 + z * d0 := by rw [hv, Nat.mul_add, ← Nat.mul_assoc]
  generalize z * d1 = p at *
  generalize z * d0 = p2 at *
  omega
theorem xKO {u v a : Nat} (hu : u < v) (ha : a < 4294967296) : u * 4294967296 + a < v * 4294967296 := by omega
theorem xJX {u a r M p1 p0 : Nat} (e : u = p1 + r) (h : r * 4294967296 + a < p0) (h2 : M = p1 * 4294967296 + p0) : u * 4294967296 + a < M := by
 rw [e, h2, Nat.add_mul, Nat.add_assoc]; exact Nat.add_lt_add_left h _
theorem xJW {u v q r d1 d0 a0 : Nat} (h : xDV u v q r d1 d0 a0) (hu : u < v) (ha : a0 < 4294967296) (hc : 4294967296 ≤ q ∨ r * 4294967296 + a0 < q * d0) : 1 ≤ q ∧ xDV u v (q - 1) (r + d1) d1 d0 a0 ∧ q - 1 ≤ 4294967296 := by
 obtain ⟨e, hq, up, dv⟩ := h
 have hq1 : 1 ≤ q := by
  rcases Nat.eq_zero_or_pos q with h0 | h0
  ·subst h0; rcases hc with h | h <;> omega
  ·exact h0
 obtain ⟨p, rfl⟩ : ∃ p, q = p + 1 := ⟨q - 1, by omega⟩
 have hlt : u * 4294967296 + a0 < (p + 1) * v := by
  rcases hc with h | h
  ·have h2 : 4294967296 * v ≤ (p + 1) * v := Nat.mul_le_mul_right _ h
   refine Nat.lt_of_lt_of_le ?_ h2
   rw [Nat.mul_comm 4294967296 v]
   exact xKO hu ha
  ·have h2 : (p + 1) * v = (p + 1) * d1 * 4294967296 + (p + 1) * d0 := by rw [dv, Nat.mul_add, ← Nat.mul_assoc]
   exact xJX e h h2
 refine ⟨hq1, ⟨?_, by omega, fun z hz => ?_, dv⟩, by omega⟩
 ·rw [Nat.add_sub_cancel]; rw [Nat.add_mul, Nat.one_mul] at e; omega
 ·have := up z hz
  rcases Nat.lt_or_ge z (p + 1) with h | h
  ·omega
  ·have : z = p + 1 := by omega
   subst this
   omega
theorem xHM {u v q r d1 d0 a0 : Nat} (h : xDV u v q r d1 d0 a0) (hv : 0 < v) (hc : q * d0 ≤ r * 4294967296 + a0) : q = (u * 4294967296 + a0) / v ∧ u * 4294967296 + a0 - q * v = (u * 4294967296 + a0) % v ∧ q * v ≤ u * 4294967296 + a0 := by
 obtain ⟨e, hq, up, dv⟩ := h
 have hle : q * v ≤ u * 4294967296 + a0 := by
  have h2 : q * v = q * d1 * 4294967296 + q * d0 := by rw [dv, Nat.mul_add, ← Nat.mul_assoc]
  omega
 have hq : q = (u * 4294967296 + a0) / v := Nat.le_antisymm ((Nat.le_div_iff_mul_le hv).2 hle) (up _ (Nat.div_mul_le_self _ _))
 refine ⟨hq, ?_, hle⟩
 have := Nat.div_add_mod (u * 4294967296 + a0) v
 rw [Nat.mul_comm, ← hq] at this
 omega
theorem xKl {X a0 v : Nat} (hv : 0 < v) : X / v * 4294967296 + (X % v * 4294967296 + a0) / v = (X * 4294967296 + a0) / v := by
 have h := Nat.div_add_mod X v
 obtain ⟨q, hq⟩ : ∃ q, q = X / v := ⟨_, rfl⟩
 obtain ⟨r, hr⟩ : ∃ r, r = X % v := ⟨_, rfl⟩
 rw [← hq, ← hr] at h ⊢
 have e : X * 4294967296 + a0 = (r * 4294967296 + a0) + q * 4294967296 * v := by
  have h1 : q * 4294967296 * v = v * q * 4294967296 := by rw [Nat.mul_right_comm, Nat.mul_comm q v]
  rw [h1, ← h, Nat.add_mul]; omega
 rw [e, Nat.add_mul_div_right _ _ hv, Nat.add_comm]
instance xMg : xqo prog 8 := ⟨by kernel_rfl⟩
instance xBw : FnI prog 10 Tryz.f10 np := .k Tryz.func10
instance xAt : FnI prog 11 Tryz.f11 np := .k Tryz.func11
noncomputable def xH5 : Xj := .e 11 [4, 5, 7, 8] (.e 12 [] .fin)
noncomputable def xKT : Nat → Xj
 | 7 => .r 0 9 (.br (.e 9 [2, 3, 4, 5, 7, 8] (.e 10 [2, 3, 4, 5, 7, 8] xH5)) (.e 10 [2, 3, 4, 5, 7, 8] (.e 9 [2, 3, 4, 5, 7, 8] xH5)))
 | _ => .fin
theorem xGf : type_of% (And.intro @xKT.eq_def @xH5.eq_def) := And.intro @xKT.eq_def @xH5.eq_def
instance xAy : FnI prog 14 Tryz.f14 xKT := .k Tryz.func14
noncomputable def xGy : Nat → Xj
 | 7 => .r 0 11 .fin
 | 11 => .r 0 15 (.e 15 [] (.r 16 1 .fin))
 | 12 => .r 0 16 (.e 16 [] (.e 17 [] (.r 18 1 .fin)))
 | _ => .fin
instance xAA : FnI prog 38 Tryz.f38 xGy := .k Tryz.func38
noncomputable def xbB : Nat → Xj
 | 1 => .r 0 12 .fin
 | _ => .fin
instance xBe : FnI prog 46 Tryz.f46 xbB := .k Tryz.func46
noncomputable def xKU : Nat → Xj
 | 1 => .r 0 10 (.e 10 [] (.r 11 2 .fin))
 | _ => .fin
instance xAL : FnI prog 50 Tryz.f50 xKU := .k Tryz.func50
noncomputable def xDM : Nat → Xj
 | 18 => .r 0 9 (.e 9 [] (.r 10 1 .fin))
 | _ => .fin
instance xBf : FnI prog 56 Tryz.f56 xDM := .k Tryz.func56
instance xA9 : FnI prog 62 Tryz.f62 np := .k Tryz.func62
instance xBx : FnI prog 92 Tryz.f92 np := .k Tryz.func92
instance xAX : FnI prog 94 Tryz.f94 np := .k Tryz.func94
instance xAS : FnI prog 97 Tryz.f97 np := .k Tryz.func97
instance xBs : FnI prog 99 Tryz.f99 np := .k Tryz.func99
instance xzW : FnI prog 101 Tryz.f101 np := .k Tryz.func101
instance xL1 : xqo prog 140 := ⟨by kernel_rfl⟩
instance xx5 : FnI prog 143 Tryz.f143 np := .k Tryz.func143
instance xyq : FnI prog 146 Tryz.f146 np := .k Tryz.func146
instance xy2 : FnI prog 197 Tryz.f197 np := .k Tryz.func197
instance xL8 : FnI prog 342 Tryz.f342 np := .k Tryz.func342
noncomputable def pl4 : Nat → Xj
 | 3 => .r 0 3 (.r 4 3 (.e 3 [4, 6] (.e 7 [] (.r 8 5 (.r 14 3 (.e 13 [14, 16] (.e 17 [] (.r 18 5 (.r 24 2 (.e 23 [24, 25] (.e 26 [] (.r 27 4 (.r 32 1 (.e 31 [32] (.e 33 [] (.r 34 6 (.r 41 3 (.e 40 [41, 43] (.e 44 [] (.r 45 2 .fin))))))))))))))))))))
 | 5 => .r 0 3 (.r 4 3 (.e 3 [4, 6] (.e 7 [] (.e 8 [] (.r 9 1 (.e 10 [] (.r 11 2 .fin)))))))
 | _ => .fin
instance fn4 : FnI prog 4 Tryz.f4 pl4 := .k Tryz.func4
instance xA6 : FnI prog 13 Tryz.f13 np := .k Tryz.func13
noncomputable def xGx : Nat → Xj
 | 7 => .r 0 24 .fin
 | _ => .fin
instance xBp : FnI prog 16 Tryz.f16 xGx := .k Tryz.func16
instance xBC : FnI prog 20 Tryz.f20 np := .k Tryz.func20
noncomputable def xDz : Nat → Xj
 | 14 => .r 0 22 .fin
 | _ => .fin
instance xBh : FnI prog 22 Tryz.f22 xDz := .k Tryz.func22
noncomputable def xrN : Nat → Xj
 | 6 => .r 0 39 .fin
 | _ => .fin
noncomputable def xog : Nat → Xj
 | 7 => .r 0 27 .fin
 | _ => .fin
instance xAO : FnI prog 37 Tryz.f37 xog := .k Tryz.func37
instance xMf : xqo prog 41 := ⟨by kernel_rfl⟩
noncomputable def xsY : Nat → Xj
 | 1 => .r 0 11 .fin
 | _ => .fin
instance xA2 : FnI prog 43 Tryz.f43 xsY := .k Tryz.func43
noncomputable def xEa : Nat → Xj
 | 8 => .r 0 8 (.e 8 [] (.r 9 1 .fin))
 | 9 => .r 0 17 .fin
 | _ => .fin
instance xBd : FnI prog 48 Tryz.f48 xEa := .k Tryz.func48
instance xAB : FnI prog 54 Tryz.f54 np := .k Tryz.func54
instance xAl : FnI prog 58 Tryz.f58 np := .k Tryz.func58
instance xAh : FnI prog 60 Tryz.f60 np := .k Tryz.func60
instance xAI : FnI prog 84 Tryz.f84 np := .k Tryz.func84
instance xyb : FnI prog 102 Tryz.f102 np := .k Tryz.func102
instance xzD : FnI prog 141 Tryz.f141 np := .k Tryz.func141
instance xyd : FnI prog 145 Tryz.f145 np := .k Tryz.func145
instance xyK : FnI prog 148 Tryz.f148 np := .k Tryz.func148
instance xyt : FnI prog 195 Tryz.f195 np := .k Tryz.func195
noncomputable def xoO : Nat → Xj
 | 6 => .r 0 8 .fin
 | _ => .fin
instance xxW : FnI prog 199 Tryz.f199 xoO := .k Tryz.func199
noncomputable def xJx : Nat → Xj
 | 1 => .r 0 35 .fin
 | _ => .fin
instance xMb : FnI prog 341 Tryz.f341 xJx := .k Tryz.func341
instance xA3 : FnI prog 12 Tryz.f12 np := .k Tryz.func12
instance xAG : FnI prog 15 Tryz.f15 np := .k Tryz.func15
instance xBv : FnI prog 17 Tryz.f17 np := .k Tryz.func17
instance xAD : FnI prog 19 Tryz.f19 np := .k Tryz.func19
instance xAn : FnI prog 21 Tryz.f21 np := .k Tryz.func21
instance xAY : FnI prog 24 Tryz.f24 np := .k Tryz.func24
instance xBa : FnI prog 25 Tryz.f25 np := .k Tryz.func25
noncomputable def xvU : Nat → Xj
 | 1 => .r 0 2 (.r 3 5 (.e 2 [3, 4, 5, 6] (.e 8 [] (.r 9 1 (.e 10 [] .fin)))))
 | _ => .fin
instance xMh : FnI prog 42 Tryz.f42 np := .k Tryz.func42
instance xMd : xqo prog 45 := ⟨by kernel_rfl⟩
noncomputable def xLF : Nat → Xj
 | 1 => .r 0 12 .fin
 | _ => .fin
instance xAN : FnI prog 47 Tryz.f47 xLF := .k Tryz.func47
instance xBA : FnI prog 51 Tryz.f51 np := .k Tryz.func51
instance xAZ : FnI prog 53 Tryz.f53 np := .k Tryz.func53
noncomputable def xIB : Nat → Xj
 | 2 => .r 0 30 .fin
 | _ => .fin
instance xAP : FnI prog 57 Tryz.f57 xIB := .k Tryz.func57
instance xAo : FnI prog 85 Tryz.f85 np := .k Tryz.func85
instance xyJ : FnI prog 144 Tryz.f144 np := .k Tryz.func144
noncomputable def xtG : Nat → Xj
 | 13 => .r 0 16 .fin
 | _ => .fin
instance xxJ : FnI prog 147 Tryz.f147 xtG := .k Tryz.func147
instance xzM : FnI prog 196 Tryz.f196 np := .k Tryz.func196
instance xy6 : FnI prog 200 Tryz.f200 np := .k Tryz.func200
instance xMe : FnI prog 262 Tryz.f262 np := .k Tryz.func262
instance xL7 : xqo prog 332 := ⟨by kernel_rfl⟩
noncomputable def xKz : Nat → Xj
 | 1 => .r 0 34 .fin
 | _ => .fin
instance xMa : FnI prog 340 Tryz.f340 xKz := .k Tryz.func340
instance xLQ : xqo prog 364 := ⟨by kernel_rfl⟩
noncomputable def xEb : Nat → Xj
 | 5 => .r 0 14 .fin
 | _ => .fin
instance xAq : FnI prog 18 Tryz.f18 xEb := .k Tryz.func18
noncomputable def xKb : Nat → Xj
 | 6 => .r 0 9 .fin
 | _ => .fin
instance xBl : FnI prog 23 Tryz.f23 xKb := .k Tryz.func23
instance xL9 : xqo prog 28 := ⟨by kernel_rfl⟩
noncomputable def xvR : Nat → Xj
 | 6 => .r 0 11 .fin
 | 10 => .r 0 12 .fin
 | _ => .fin
instance xAg : FnI prog 44 Tryz.f44 xvR := .k Tryz.func44
instance xAJ : FnI prog 49 Tryz.f49 np := .k Tryz.func49
instance xAp : FnI prog 52 Tryz.f52 np := .k Tryz.func52
instance xAC : FnI prog 55 Tryz.f55 np := .k Tryz.func55
instance xAr : FnI prog 59 Tryz.f59 np := .k Tryz.func59
instance xAk : FnI prog 61 Tryz.f61 np := .k Tryz.func61
noncomputable def xMj : Nat → Xj
 | 1 => .r 0 4 (.r 5 2 (.r 8 2 (.r 11 1 (.r 13 2 (.e 4 [0, 5, 6, 8, 9, 11, 13, 14] (.e 7 [0, 8, 9, 11, 13, 14] (.e 10 [0, 11, 13, 14] (.e 12 [0, 13, 14] (.e 15 [0] (.r 16 1 (.e 17 [] (.r 18 1 .fin))))))))))))
 | _ => .fin
instance xBn : FnI prog 86 Tryz.f86 np := .k Tryz.func86
instance xBr : FnI prog 93 Tryz.f93 np := .k Tryz.func93
instance xBF : FnI prog 95 Tryz.f95 np := .k Tryz.func95
instance xBq : FnI prog 96 Tryz.f96 np := .k Tryz.func96
instance xAM : FnI prog 98 Tryz.f98 np := .k Tryz.func98
instance xz0 : FnI prog 100 Tryz.f100 np := .k Tryz.func100
noncomputable def xFC : Xj := .e 14 [0, 1] (.r 15 1 (.e 17 [] .fin))
noncomputable def xl2 : Nat → Xj
 | 1 => .r 0 7 (.r 8 6 (.br (.e 7 [0, 1, 8, 9, 10, 11, 12, 13] (.br (.e 14 [0, 1] (.r 15 1 (.e 16 [0, 1, 2, 3, 4, 5, 6, 8, 9, 10, 11, 12, 13, 15] (.e 17 [] .fin)))) (.e 16 [0, 1, 2, 3, 4, 5, 6, 8, 9, 10, 11, 12, 13] xFC))) (.e 16 [0, 1, 2, 3, 4, 5, 6, 8, 9, 10, 11, 12, 13] (.e 7 [0, 1, 8, 9, 10, 11, 12, 13] xFC))))
 | _ => .fin
theorem xLw : type_of% (And.intro @xl2.eq_def @xFC.eq_def) := And.intro @xl2.eq_def @xFC.eq_def
instance xya : FnI prog 142 Tryz.f142 xl2 := .k Tryz.func142
instance xMc : FnI prog 263 Tryz.f263 np := .k Tryz.func263
theorem mixed : prog.follows .mixedOrders = true := by kernel_rfl
instance : Agg prog 33 13 := .k
instance : Agg prog 45 12 := .k
instance : Fld prog 33 0 0 := .k
instance : YO prog 22 := .k
instance : Slc prog 22 11 := .k
instance : Slc prog 35 4 := .k
instance : xoe prog 4 := ⟨Tryz.underlying4⟩
instance : Slc prog 38 6 := .k
instance : YO prog 3 := .k
instance : Slc prog 29 1 := .k
instance : ZY prog 29 3 8 1 [.int .i64 0] := .k
instance : Zer prog 29 (.slice none 0 0) := .k
instance : YO prog 29 := .k
instance : Siz prog 29 1 := .k
instance : YO prog 35 := .k
instance : Siz prog 3 1 := .k
instance : Slc prog 85 3 := .k
instance : ZY prog 85 88 24 3 [.int .i64 0, .int .i64 0, .int .i64 0] := .k
instance : Fld prog 88 0 0 := .k
instance : Fld prog 88 1 1 := .k
instance : Fld prog 33 1 1 := .k
instance : YO prog 23 := .k
instance : Slc prog 23 4 := .k
instance : Fld prog 33 2 2 := .k
instance : YO prog 24 := .k
instance : Slc prog 24 2 := .k
instance : Fld prog 33 3 3 := .k
instance : Fld prog 28 0 0 := .k
instance : YO prog 25 := .k
instance : Slc prog 25 2 := .k
instance : Fld prog 28 1 1 := .k
instance : YO prog 26 := .k
instance : Slc prog 26 3 := .k
instance : Fld prog 33 4 11 := .k
instance : Fld prog 31 0 0 := .k
instance : Fld prog 31 1 1 := .k
instance : Agg prog 99 11 := .k
instance : Zer prog 99 (.agg #[.slice none 0 0, .slice none 0 0, .slice none 0 0, .slice none 0 0, .int .i64 0, .slice none 0 0, .slice none 0 0, .int .i64 0, .int .i64 0, .int .i64 0, .slice none 0 0]) := .k
instance : Siz prog 99 11 := .k
instance : Fld prog 99 0 0 := .k
instance : YO prog 93 := .k
instance : Slc prog 93 3 := .k
instance : Fld prog 99 1 1 := .k
instance : YO prog 94 := .k
instance : Slc prog 94 3 := .k
instance : Fld prog 99 2 2 := .k
instance : YO prog 95 := .k
instance : Slc prog 95 4 := .k
instance : Fld prog 99 3 3 := .k
instance : YO prog 96 := .k
instance : Slc prog 96 2 := .k
instance : Fld prog 99 5 5 := .k
instance : YO prog 97 := .k
instance : Slc prog 97 2 := .k
instance : Fld prog 99 6 6 := .k
instance : Fld prog 99 10 10 := .k
instance : Fld prog 102 1 1 := .k
instance : YO prog 100 := .k
instance : Slc prog 100 3 := .k
instance : Fld prog 45 0 0 := .k
instance : YO prog 38 := .k
instance : Fld prog 45 2 2 := .k
instance : YO prog 40 := .k
instance : Slc prog 40 3 := .k
instance : ZY prog 40 106 24 3 [.int .i64 0, .int .i64 0, .int .i64 0] := .k
instance : Fld prog 45 5 8 := .k
instance : Fld prog 45 6 9 := .k
instance : Fld prog 45 7 10 := .k
instance : YO prog 43 := .k
instance : Slc prog 43 1 := .k
instance : Fld prog 45 3 3 := .k
instance : Fld prog 42 0 0 := .k
instance : Slc prog 60 1 := .k
instance : ZY prog 60 9 16 1 [.string ⟨#[]⟩] := .k
instance : Fld prog 45 4 7 := .k
instance : Fld prog 106 1 1 := .k
instance : YO prog 9 := .k
instance : Zer prog 40 (.slice none 0 0) := .k
instance : Siz prog 40 1 := .k
instance : Agg prog 106 3 := .k
instance : Zer prog 106 (.agg #[.int .i64 0, .int .i64 0, .int .i64 0]) := .k
instance : Siz prog 106 3 := .k
instance : Fld prog 106 0 0 := .k
instance : Fld prog 106 2 2 := .k
instance : Zer prog 110 (.slice none 0 0) := .k
instance : YO prog 110 := .k
instance : Siz prog 110 1 := .k
instance : Slc prog 110 4 := .k
instance : ZY prog 110 113 32 4 [.int .i64 0, .int .i64 0, .int .i64 0, .int .i64 0] := .k
instance : Slc prog 114 4 := .k
instance : ZY prog 114 116 32 4 [.int .i64 0, .int .i64 0, .int .i64 0, .int .i64 0] := .k
instance : Fld prog 116 3 3 := .k
instance : Fld prog 116 2 2 := .k
instance : Agg prog 28 8 := .k
instance : Fld prog 28 5 5 := .k
instance : Zer prog 3 (.int .i64 0) := .k
instance : Zer prog 64 (.int .i64 0) := .k
instance : YO prog 64 := .k
instance : Siz prog 64 1 := .k
instance : Fld prog 99 8 8 := .k
instance : Agg prog 42 4 := .k
instance : Zer prog 4 (.bool false) := .k
instance : YO prog 4 := .k
instance : Siz prog 4 1 := .k
instance : Agg prog 76 6 := .k
instance : Zer prog 76 (.agg #[.int .i64 0, .int .i64 0, .int .i64 0, .int .i64 0, .int .i64 0, .int .i64 0]) := .k
instance : Siz prog 76 6 := .k
instance : Fld prog 76 0 0 := .k
instance : Fld prog 76 1 1 := .k
instance : Yp prog 128 [(0, 1), (1, 1)] [.string ⟨#[]⟩, .nilFunc] := .k
instance : Slc prog 129 2 := .k
instance : ZY prog 129 128 24 2 [.string ⟨#[]⟩, .nilFunc] := .k
instance : Agg prog 128 2 := .k
instance : Zer prog 128 (.agg #[.string ⟨#[]⟩, .nilFunc]) := .k
instance : Siz prog 128 2 := .k
instance : Fld prog 128 1 1 := .k
instance : YO prog 47 := .k
instance : Fld prog 128 0 0 := .k
instance : Yp prog 138 [(0, 1), (1, 1)] [.int .i64 0, .int .i64 0] := .k
instance : Fld prog 136 0 0 := .k
instance : Fld prog 99 9 9 := .k
instance : Yp prog 88 [(0, 1), (1, 1), (2, 1)] [.int .i64 0, .int .i64 0, .int .i64 0] := .k
instance : Agg prog 113 4 := .k
instance : Zer prog 113 (.agg #[.int .i64 0, .int .i64 0, .int .i64 0, .int .i64 0]) := .k
instance : Siz prog 113 4 := .k
instance : Agg prog 155 4 := .k
instance : Zer prog 171 (.agg #[.int .i64 0, .int .i64 0, .int .i64 0]) := .k
instance : Agg prog 171 3 := .k
instance : Siz prog 171 3 := .k
instance : Fld prog 171 1 1 := .k
instance : Fld prog 171 0 0 := .k
instance : Yp prog 106 [(0, 1), (1, 1), (2, 1)] [.int .i64 0, .int .i64 0, .int .i64 0] := .k
instance : Fld prog 171 2 2 := .k
instance : Fld prog 116 0 0 := .k
instance : Fld prog 136 1 1 := .k
instance : Fld prog 136 2 2 := .k
instance : Fld prog 113 3 3 := .k
instance : Fld prog 113 2 2 := .k
instance : Agg prog 31 2 := .k
instance : Fld prog 155 0 0 := .k
instance : Fld prog 155 1 1 := .k
instance : Fld prog 102 0 0 := .k
instance : Yp prog 116 [(0, 1), (1, 1), (2, 1), (3, 1)] [.int .i64 0, .int .i64 0, .int .i64 0, .int .i64 0] := .k
instance : Zer prog 138 (.agg #[.int .i64 0, .int .i64 0]) := .k
instance : Agg prog 138 2 := .k
instance : Siz prog 138 2 := .k
instance : Fld prog 138 0 0 := .k
instance : Fld prog 138 1 1 := .k
instance : Fld prog 42 1 1 := .k
instance : Fld prog 42 2 2 := .k
instance : Fld prog 42 3 3 := .k
instance : Agg prog 102 2 := .k
instance : Zer prog 102 (.agg #[.int .i64 0, .slice none 0 0]) := .k
instance : Siz prog 102 2 := .k
instance : Agg prog 136 3 := .k
instance : Zer prog 136 (.agg #[.int .i64 0, .int .i64 0, .int .i64 0]) := .k
instance : Siz prog 136 3 := .k
instance : Fld prog 113 0 0 := .k
instance : Slc prog 168 3 := .k
instance : ZY prog 168 171 24 3 [.int .i64 0, .int .i64 0, .int .i64 0] := .k
instance : Yp prog 171 [(0, 1), (1, 1), (2, 1)] [.int .i64 0, .int .i64 0, .int .i64 0] := .k
instance : Fld prog 113 1 1 := .k
instance : Zer prog 266 (.agg #[.int .u64 0, .int .u64 0]) := .k
instance : Agg prog 266 2 := .k
instance : Siz prog 266 2 := .k
instance : YO prog 257 := .k
instance : Zer prog 155 (.agg #[.int .i64 0, .int .i64 0, .int .i64 0, .int .i64 0]) := .k
instance : Siz prog 155 4 := .k
instance : Yp prog 113 [(0, 1), (1, 1), (2, 1), (3, 1)] [.int .i64 0, .int .i64 0, .int .i64 0, .int .i64 0] := .k
instance : Yp prog 266 [(0, 1), (1, 1)] [.int .u64 0, .int .u64 0] := .k
instance : Fld prog 266 1 1 := .k
instance : YO prog 264 := .k
instance : Fld prog 266 0 0 := .k
instance : Yp prog 430 [(0, 2), (2, 1)] [.slice none 0 0, .slice none 0 0, .int .i64 0] := .k
instance : Fld prog 430 1 2 := .k
instance : Fld prog 430 0 0 := .k
instance : xqk prog 3 .i64 := ⟨Tryz.underlying3⟩
instance : xqk prog 5 .u8 := ⟨Tryz.underlying5⟩
instance : xjE prog 9 := ⟨Tryz.underlying9⟩
instance : xqk prog 264 .u64 := ⟨Tryz.underlying264⟩
instance : xqk prog 431 .u64 := ⟨Tryz.underlying431⟩
