import Derived.Test.YtkapfpliiaegfaaGreatZ02
import Derived.Test.YtkapfpliiaegfaaGreatProg
import Derived.Laws.Externs
namespace Go.Proofs.YtkapfpliiaegfaaGreat
open Go Go.Wk Tryz
set_option maxHeartbeats 3200000
set_option maxRecDepth 100000
structure JO where
 first : Int
 most : Int
instance : En JO := ⟨fun d => [.int .i64 d.first, .int .i64 d.most], 2, fun _ => rfl, fun _ => rfl, by decide⟩
instance {l : List Xc} {a b : Int} : De l (.agg #[.int .i64 a, .int .i64 b]) (JO.mk a b) := ⟨rfl⟩
structure JC where
 size : Int
 depth : Int
instance : En JC := ⟨fun d => [.int .i64 d.size, .int .i64 d.depth], 2, fun _ => rfl, fun _ => rfl, by decide⟩
instance {l : List Xc} {a b : Int} : De l (.agg #[.int .i64 a, .int .i64 b]) (JC.mk a b) := ⟨rfl⟩
structure Zd where
 q : Bool
 i : Bool
 size : Int
 depth : Int
instance : En Zd := ⟨fun d => [.bool d.q, .bool d.i, .int .i64 d.size, .int .i64 d.depth], 4, fun _ => rfl, fun _ => rfl, by decide⟩
instance {l : List Xc} {q i : Bool} {a b : Int} : De l (.agg #[.bool q, .bool i, .int .i64 a, .int .i64 b]) (Zd.mk q i a b) := ⟨rfl⟩
structure xaL where
 base : Int
 size : Int
 w : Bool
instance : En xaL := ⟨fun d => [.int .i64 d.base, .int .i64 d.size, .bool d.w], 3, fun _ => rfl, fun _ => rfl, by decide⟩
structure WZ where
 prio : Int
 period : Int
 cost : Int
instance : En WZ := ⟨fun d => [.int .i64 d.prio, .int .i64 d.period, .int .i64 d.cost], 3, fun _ => rfl, fun _ => rfl, by decide⟩
structure YF where
 regions : SL xaL
 procs : SL WZ
 ports : SL Zd
 sems : SL JO
 flags : Int
 pools : SL JC
 slates : SL Int
 cap : Int
 budget : Int
 ladder : Int
 acts : SL Int
instance : Inhabited YF := ⟨⟨default, default, default, default, 0, default, default, 0, 0, 0, default⟩⟩
instance : En YF := ⟨fun d => [d.regions.s.v, d.procs.s.v, d.ports.s.v, d.sems.s.v, .int .i64 d.flags, d.pools.s.v, d.slates.s.v, .int .i64 d.cap, .int .i64 d.budget, .int .i64 d.ladder, d.acts.s.v], 11, fun _ => rfl, fun _ => rfl, by decide⟩
structure xD7 where
 fp : Int
 fo : Int
 tp : Int
 to : Int
instance : Inhabited xD7 := ⟨⟨0, 0, 0, 0⟩⟩
instance : En xD7 := ⟨fun d => [.int .i64 d.fp, .int .i64 d.fo, .int .i64 d.tp, .int .i64 d.to], 4, fun _ => rfl, fun _ => rfl, by decide⟩
structure xDL where
 part : Int
 start : Int
 len : Int
instance : Inhabited xDL := ⟨⟨0, 0, 0⟩⟩
instance : En xDL := ⟨fun d => [.int .i64 d.part, .int .i64 d.start, .int .i64 d.len], 3, fun _ => rfl, fun _ => rfl, by decide⟩
structure xCE where
 frame : Int
 wins : SL xDL
instance : Inhabited xCE := ⟨⟨0, default⟩⟩
instance : En xCE := ⟨fun d => [.int .i64 d.frame, d.wins.s.v], 2, fun _ => rfl, fun _ => rfl, by decide⟩
structure xCo where
 freq : Int
 power : Int
instance : En xCo := ⟨fun d => [.int .i64 d.freq, .int .i64 d.power], 2, fun _ => rfl, fun _ => rfl, by decide⟩
structure xGB where
 power : Int
 enter : Int
 wake : Int
instance : En xGB := ⟨fun d => [.int .i64 d.power, .int .i64 d.enter, .int .i64 d.wake], 3, fun _ => rfl, fun _ => rfl, by decide⟩
structure xSy where
 parts : SV
 chans : SV
 modes : SV
 levels : SV
 naps : SV
 sw : Int
 idle : Int
 change : Int
 quantum : Int
 slow : Int
 ppm : Int
 down : SV
 up : SV
instance : En xSy := ⟨fun d => [d.parts.v, d.chans.v, d.modes.v, d.levels.v, d.naps.v, .int .i64 d.sw, .int .i64 d.idle, .int .i64 d.change, .int .i64 d.quantum, .int .i64 d.slow, .int .i64 d.ppm, d.down.v, d.up.v], 13, fun _ => rfl, fun _ => rfl, by decide⟩
noncomputable def pl3 : Nat → Xj
 | 11 => .r 0 5 (.r 6 5 (.e 5 [6, 7, 8, 9] (.e 11 [] (.e 12 [] (.r 13 1 .fin)))))
 | _ => .fin
instance fn3 : FnI prog 3 Tryz.f3 pl3 := .k Tryz.func3
instance xMg : xqo prog 8 := ⟨by kernel_rfl⟩
instance xBw : FnI prog 10 Tryz.f10 np := .k Tryz.func10
instance xBo : FnI prog 26 Tryz.f26 np := .k Tryz.func26
instance xAv : FnI prog 34 Tryz.f34 np := .k Tryz.func34
noncomputable def xGy : Nat → Xj
 | 7 => .r 0 11 .fin
 | 11 => .r 0 15 (.e 15 [] (.r 16 1 .fin))
 | 12 => .r 0 16 (.e 16 [] (.e 17 [] (.r 18 1 .fin)))
 | _ => .fin
instance xAA : FnI prog 38 Tryz.f38 xGy := .k Tryz.func38
instance xAf : FnI prog 80 Tryz.f80 np := .k Tryz.func80
noncomputable def xSL : Nat → Xj
 | 5 => .r 0 8 (.r 10 1 (.e 8 [] (.r 9 1 .fin)))
 | 8 => .r 0 9 (.e 9 [] .fin)
 | _ => .fin
instance xAi : FnI prog 83 Tryz.f83 xSL := .k Tryz.func83
instance xAX : FnI prog 94 Tryz.f94 np := .k Tryz.func94
instance xy7 : FnI prog 129 Tryz.f129 np := .k Tryz.func129
instance xL1 : xqo prog 140 := ⟨by kernel_rfl⟩
noncomputable def xGx : Nat → Xj
 | 7 => .r 0 24 .fin
 | _ => .fin
noncomputable def xrN : Nat → Xj
 | 6 => .r 0 39 .fin
 | _ => .fin
instance xAj : FnI prog 32 Tryz.f32 xrN := .k Tryz.func32
noncomputable def xog : Nat → Xj
 | 7 => .r 0 27 .fin
 | _ => .fin
instance xAO : FnI prog 37 Tryz.f37 xog := .k Tryz.func37
instance xMf : xqo prog 41 := ⟨by kernel_rfl⟩
noncomputable def xsY : Nat → Xj
 | 1 => .r 0 11 .fin
 | _ => .fin
noncomputable def xEa : Nat → Xj
 | 8 => .r 0 8 (.e 8 [] (.r 9 1 .fin))
 | 9 => .r 0 17 .fin
 | _ => .fin
instance xBd : FnI prog 48 Tryz.f48 xEa := .k Tryz.func48
instance xAQ : FnI prog 78 Tryz.f78 np := .k Tryz.func78
instance xBg : FnI prog 81 Tryz.f81 np := .k Tryz.func81
instance xAI : FnI prog 84 Tryz.f84 np := .k Tryz.func84
instance xzD : FnI prog 141 Tryz.f141 np := .k Tryz.func141
instance xyt : FnI prog 195 Tryz.f195 np := .k Tryz.func195
noncomputable def xJx : Nat → Xj
 | 1 => .r 0 35 .fin
 | _ => .fin
instance xMb : FnI prog 341 Tryz.f341 xJx := .k Tryz.func341
instance fn5 : FnI prog 5 Tryz.f5 np := .k Tryz.func5
noncomputable def pl7 : Nat → Xj
 | 6 => .r 0 8 (.e 8 [] (.r 9 1 .fin))
 | _ => .fin
instance fn7 : FnI prog 7 Tryz.f7 pl7 := .k Tryz.func7
noncomputable def pl9 : Nat → Xj
 | 16 => .r 0 30 .fin
 | _ => .fin
instance fn9 : FnI prog 9 Tryz.f9 pl9 := .k Tryz.func9
noncomputable def xvU : Nat → Xj
 | 1 => .r 0 2 (.r 3 5 (.e 2 [3, 4, 5, 6] (.e 8 [] (.r 9 1 (.e 10 [] .fin)))))
 | _ => .fin
instance xA1 : FnI prog 35 Tryz.f35 np := .k Tryz.func35
instance xBB : FnI prog 39 Tryz.f39 np := .k Tryz.func39
instance xMd : xqo prog 45 := ⟨by kernel_rfl⟩
instance xAF : FnI prog 63 Tryz.f63 np := .k Tryz.func63
instance xBE : FnI prog 79 Tryz.f79 np := .k Tryz.func79
instance xAo : FnI prog 85 Tryz.f85 np := .k Tryz.func85
instance xyg : FnI prog 127 Tryz.f127 np := .k Tryz.func127
instance xzM : FnI prog 196 Tryz.f196 np := .k Tryz.func196
instance xMe : FnI prog 262 Tryz.f262 np := .k Tryz.func262
instance xL7 : xqo prog 332 := ⟨by kernel_rfl⟩
noncomputable def xKz : Nat → Xj
 | 1 => .r 0 34 .fin
 | _ => .fin
instance xMa : FnI prog 340 Tryz.f340 xKz := .k Tryz.func340
instance xLQ : xqo prog 364 := ⟨by kernel_rfl⟩
noncomputable def xTU : Xj := .e 4 [0, 6] (.e 7 [] (.r 8 7 .fin))
noncomputable def pl6 : Nat → Xj
 | 2 => .r 0 3 (.br (.e 3 [0] (.br (.e 4 [0] (.e 5 [0, 1, 2] (.r 6 1 (.e 7 [] (.r 8 7 .fin))))) (.e 5 [0, 1, 2] (.r 6 1 xTU)))) (.e 5 [0, 1, 2] (.r 6 1 (.e 3 [0, 6] xTU))))
 | 3 => .r 0 1 (.r 3 1 (.br (.e 1 [0, 3] (.r 2 1 (.br (.e 4 [] (.e 5 [0, 3, 2] (.e 6 [] .fin))) (.e 5 [0, 3, 2] (.e 4 [] (.e 6 [] .fin)))))) (.e 5 [0, 3] (.e 1 [0, 3] (.r 2 1 (.e 4 [] (.e 6 [] .fin)))))))
 | _ => .fin
instance fn6 : FnI prog 6 Tryz.f6 pl6 := .k Tryz.func6
instance xL9 : xqo prog 28 := ⟨by kernel_rfl⟩
instance xBD : FnI prog 33 Tryz.f33 np := .k Tryz.func33
instance xAE : FnI prog 36 Tryz.f36 np := .k Tryz.func36
noncomputable def xMj : Nat → Xj
 | 1 => .r 0 4 (.r 5 2 (.r 8 2 (.r 11 1 (.r 13 2 (.e 4 [0, 5, 6, 8, 9, 11, 13, 14] (.e 7 [0, 8, 9, 11, 13, 14] (.e 10 [0, 11, 13, 14] (.e 12 [0, 13, 14] (.e 15 [0] (.r 16 1 (.e 17 [] (.r 18 1 .fin))))))))))))
 | _ => .fin
instance xA7 : FnI prog 77 Tryz.f77 np := .k Tryz.func77
instance xAw : FnI prog 82 Tryz.f82 np := .k Tryz.func82
instance xBn : FnI prog 86 Tryz.f86 np := .k Tryz.func86
instance xBr : FnI prog 93 Tryz.f93 np := .k Tryz.func93
instance xzk : FnI prog 128 Tryz.f128 np := .k Tryz.func128
noncomputable def xFC : Xj := .e 14 [0, 1] (.r 15 1 (.e 17 [] .fin))
noncomputable def xl2 : Nat → Xj
 | 1 => .r 0 7 (.r 8 6 (.br (.e 7 [0, 1, 8, 9, 10, 11, 12, 13] (.br (.e 14 [0, 1] (.r 15 1 (.e 16 [0, 1, 2, 3, 4, 5, 6, 8, 9, 10, 11, 12, 13, 15] (.e 17 [] .fin)))) (.e 16 [0, 1, 2, 3, 4, 5, 6, 8, 9, 10, 11, 12, 13] xFC))) (.e 16 [0, 1, 2, 3, 4, 5, 6, 8, 9, 10, 11, 12, 13] (.e 7 [0, 1, 8, 9, 10, 11, 12, 13] xFC))))
 | _ => .fin
theorem xLw : type_of% (And.intro @xl2.eq_def @xFC.eq_def) := And.intro @xl2.eq_def @xFC.eq_def
instance xya : FnI prog 142 Tryz.f142 xl2 := .k Tryz.func142
theorem mixed : prog.follows .mixedOrders = true := by kernel_rfl
instance : Agg prog 33 13 := .k
instance : Agg prog 37 2 := .k
instance : Fld prog 45 1 1 := .k
instance : YO prog 39 := .k
instance : Slc prog 39 3 := .k
instance : ZY prog 39 50 40 3 [.int .i64 0, .int .i64 0, .slice none 0 0] := .k
instance : Fld prog 50 2 2 := .k
instance : YO prog 48 := .k
instance : Slc prog 48 1 := .k
instance : ZY prog 48 5 1 1 [.int .u8 0] := .k
instance : Fld prog 33 0 0 := .k
instance : YO prog 22 := .k
instance : Slc prog 22 11 := .k
instance : Slc prog 35 4 := .k
instance : Slc prog 69 6 := .k
instance : Slc prog 70 1 := .k
instance : YO prog 52 := .k
instance : Slc prog 52 1 := .k
instance : ZY prog 52 39 24 1 [.slice none 0 0] := .k
instance : YO prog 3 := .k
instance : Slc prog 29 1 := .k
instance : ZY prog 29 3 8 1 [.int .i64 0] := .k
instance : Zer prog 29 (.slice none 0 0) := .k
instance : YO prog 29 := .k
instance : Siz prog 29 1 := .k
instance : Zer prog 39 (.slice none 0 0) := .k
instance : Siz prog 39 1 := .k
instance : Zer prog 52 (.slice none 0 0) := .k
instance : Fld prog 37 1 1 := .k
instance : YO prog 35 := .k
instance : Siz prog 52 1 := .k
instance : Siz prog 3 1 := .k
instance : Slc prog 85 3 := .k
instance : ZY prog 85 88 24 3 [.int .i64 0, .int .i64 0, .int .i64 0] := .k
instance : Fld prog 88 0 0 := .k
instance : Fld prog 50 1 1 := .k
instance : Fld prog 88 1 1 := .k
instance : Fld prog 33 1 1 := .k
instance : YO prog 23 := .k
instance : Fld prog 50 0 0 := .k
instance : Slc prog 23 4 := .k
instance : Fld prog 92 0 0 := .k
instance : Fld prog 90 0 0 := .k
instance : Agg prog 50 3 := .k
instance : Fld prog 33 2 2 := .k
instance : YO prog 24 := .k
instance : Slc prog 24 2 := .k
instance : Fld prog 33 3 3 := .k
instance : Fld prog 28 0 0 := .k
instance : YO prog 25 := .k
instance : Slc prog 25 2 := .k
instance : Fld prog 28 1 1 := .k
instance : YO prog 26 := .k
instance : Slc prog 26 3 := .k
instance : Fld prog 33 4 11 := .k
instance : Fld prog 31 0 0 := .k
instance : Fld prog 31 1 1 := .k
instance : Agg prog 99 11 := .k
instance : Zer prog 99 (.agg #[.slice none 0 0, .slice none 0 0, .slice none 0 0, .slice none 0 0, .int .i64 0, .slice none 0 0, .slice none 0 0, .int .i64 0, .int .i64 0, .int .i64 0, .slice none 0 0]) := .k
instance : Siz prog 99 11 := .k
instance : Fld prog 99 0 0 := .k
instance : YO prog 93 := .k
instance : Slc prog 93 3 := .k
instance : Fld prog 99 1 1 := .k
instance : YO prog 94 := .k
instance : Slc prog 94 3 := .k
instance : Fld prog 99 2 2 := .k
instance : YO prog 95 := .k
instance : Slc prog 95 4 := .k
instance : Fld prog 99 3 3 := .k
instance : YO prog 96 := .k
instance : Slc prog 96 2 := .k
instance : Fld prog 99 5 5 := .k
instance : YO prog 97 := .k
instance : Slc prog 97 2 := .k
instance : Fld prog 99 6 6 := .k
instance : Fld prog 99 10 10 := .k
instance : Fld prog 102 1 1 := .k
instance : YO prog 100 := .k
instance : Slc prog 100 3 := .k
instance : Zer prog 110 (.slice none 0 0) := .k
instance : YO prog 110 := .k
instance : Siz prog 110 1 := .k
instance : Slc prog 110 4 := .k
instance : ZY prog 110 113 32 4 [.int .i64 0, .int .i64 0, .int .i64 0, .int .i64 0] := .k
instance : Slc prog 114 4 := .k
instance : ZY prog 114 116 32 4 [.int .i64 0, .int .i64 0, .int .i64 0, .int .i64 0] := .k
instance : Fld prog 116 3 3 := .k
instance : Fld prog 116 2 2 := .k
instance : Fld prog 37 0 0 := .k
instance : YO prog 34 := .k
instance : Slc prog 34 1 := .k
instance : Fld prog 99 7 7 := .k
instance : YO prog 70 := .k
instance : Zer prog 50 (.agg #[.int .i64 0, .int .i64 0, .slice none 0 0]) := .k
instance : Siz prog 50 3 := .k
instance : Zer prog 92 (.agg #[.int .i64 0, .int .i64 0, .int .i64 0, .int .i64 0]) := .k
instance : Agg prog 92 4 := .k
instance : Siz prog 92 4 := .k
instance : Fld prog 92 1 2 := .k
instance : Siz prog 48 1 := .k
instance : Fld prog 136 0 0 := .k
instance : Fld prog 99 9 9 := .k
instance : Yp prog 88 [(0, 1), (1, 1), (2, 1)] [.int .i64 0, .int .i64 0, .int .i64 0] := .k
instance : Agg prog 113 4 := .k
instance : Zer prog 113 (.agg #[.int .i64 0, .int .i64 0, .int .i64 0, .int .i64 0]) := .k
instance : Siz prog 113 4 := .k
instance : Agg prog 155 4 := .k
instance : Zer prog 171 (.agg #[.int .i64 0, .int .i64 0, .int .i64 0]) := .k
instance : Agg prog 171 3 := .k
instance : Siz prog 171 3 := .k
instance : Fld prog 171 0 0 := .k
instance : Fld prog 136 1 1 := .k
instance : Fld prog 136 2 2 := .k
instance : Fld prog 113 3 3 := .k
instance : Fld prog 113 2 2 := .k
instance : Agg prog 31 2 := .k
instance : Fld prog 155 0 0 := .k
instance : Fld prog 155 1 1 := .k
instance : Fld prog 102 0 0 := .k
instance : Yp prog 116 [(0, 1), (1, 1), (2, 1), (3, 1)] [.int .i64 0, .int .i64 0, .int .i64 0, .int .i64 0] := .k
instance : Agg prog 102 2 := .k
instance : Agg prog 136 3 := .k
instance : Zer prog 136 (.agg #[.int .i64 0, .int .i64 0, .int .i64 0]) := .k
instance : Siz prog 136 3 := .k
instance : YO prog 69 := .k
instance : Yp prog 92 [(0, 2), (2, 2)] [.int .i64 0, .int .i64 0, .int .i64 0, .int .i64 0] := .k
instance : Fld prog 113 0 0 := .k
instance : Slc prog 168 3 := .k
instance : ZY prog 168 171 24 3 [.int .i64 0, .int .i64 0, .int .i64 0] := .k
instance : Yp prog 171 [(0, 1), (1, 1), (2, 1)] [.int .i64 0, .int .i64 0, .int .i64 0] := .k
instance : Fld prog 113 1 1 := .k
instance : Zer prog 155 (.agg #[.int .i64 0, .int .i64 0, .int .i64 0, .int .i64 0]) := .k
instance : Siz prog 155 4 := .k
instance : Yp prog 113 [(0, 1), (1, 1), (2, 1), (3, 1)] [.int .i64 0, .int .i64 0, .int .i64 0, .int .i64 0] := .k
instance : Yp prog 430 [(0, 2), (2, 1)] [.slice none 0 0, .slice none 0 0, .int .i64 0] := .k
instance : Fld prog 430 1 2 := .k
instance : Fld prog 430 0 0 := .k
instance : xjE prog 9 := ⟨Tryz.underlying9⟩
instance xTW : xo6 prog 48 := xnp (by kernel_rfl)
instance xLg : ElT 29 Int := ⟨⟩
theorem xCm {α : Type} [Inhabited α] {xs : List α} {k : Nat} (h : k < xs.length) : ix xs (k : Int) ∈ xs := List.mem_of_getElem? (Yi S.o S.o)
section
attribute [local irreducible] BrK Xq Xt Xv XI FnK XZ Xw XC XV opX opK Yq Yk eqR Yj Yo Ys WL WD W X3 XO Tr drewK Ya X4 Yw Yv X1 YB mp blk rob sl sep ex fact old
end
instance : Fz xaL := ⟨fun p => sep (Fz.fz p.base) (sep (Fz.fz p.size) (sep (Fz.fz p.w) (fact True))), fun _ => XX (Fz.dup _) (XX (Fz.dup _) (XX (Fz.dup _) (xBP _)))⟩
instance : Fz WZ := ⟨fun p => sep (Fz.fz p.prio) (sep (Fz.fz p.period) (sep (Fz.fz p.cost) (fact True))), fun _ => XX (Fz.dup _) (XX (Fz.dup _) (XX (Fz.dup _) (xBP _)))⟩
instance : Fz Zd := ⟨fun p => sep (Fz.fz p.q) (sep (Fz.fz p.i) (sep (Fz.fz p.size) (sep (Fz.fz p.depth) (fact True)))), fun _ => XX (Fz.dup _) (XX (Fz.dup _) (XX (Fz.dup _) (XX (Fz.dup _) (xBP _))))⟩
instance : Fz JO := ⟨fun p => sep (Fz.fz p.first) (sep (Fz.fz p.most) (fact True)), fun _ => XX (Fz.dup _) (XX (Fz.dup _) (xBP _))⟩
instance : Fz JC := ⟨fun p => sep (Fz.fz p.size) (sep (Fz.fz p.depth) (fact True)), fun _ => XX (Fz.dup _) (XX (Fz.dup _) (xBP _))⟩
instance : Fz xD7 := ⟨fun p => sep (Fz.fz p.fp) (sep (Fz.fz p.fo) (sep (Fz.fz p.tp) (sep (Fz.fz p.to) (fact True)))), fun _ => XX (Fz.dup _) (XX (Fz.dup _) (XX (Fz.dup _) (XX (Fz.dup _) (xBP _))))⟩
instance : Fz xDL := ⟨fun p => sep (Fz.fz p.part) (sep (Fz.fz p.start) (sep (Fz.fz p.len) (fact True))), fun _ => XX (Fz.dup _) (XX (Fz.dup _) (XX (Fz.dup _) (xBP _)))⟩
instance : Fz xCo := ⟨fun p => sep (Fz.fz p.freq) (sep (Fz.fz p.power) (fact True)), fun _ => XX (Fz.dup _) (XX (Fz.dup _) (xBP _))⟩
instance : Fz xGB := ⟨fun p => sep (Fz.fz p.power) (sep (Fz.fz p.enter) (sep (Fz.fz p.wake) (fact True))), fun _ => XX (Fz.dup _) (XX (Fz.dup _) (XX (Fz.dup _) (xBP _)))⟩
instance : Fz YF := ⟨fun p => sep (Fz.fz p.regions) (sep (Fz.fz p.procs) (sep (Fz.fz p.ports) (sep (Fz.fz p.sems) (sep (Fz.fz p.flags) (sep (Fz.fz p.pools) (sep (Fz.fz p.slates) (sep (Fz.fz p.cap) (sep (Fz.fz p.budget) (sep (Fz.fz p.ladder) (sep (Fz.fz p.acts) (fact True))))))))))), fun _ => XX (Fz.dup _) (XX (Fz.dup _) (XX (Fz.dup _) (XX (Fz.dup _) (XX (Fz.dup _) (XX (Fz.dup _) (XX (Fz.dup _) (XX (Fz.dup _) (XX (Fz.dup _) (XX (Fz.dup _) (XX (Fz.dup _) (xBP _)))))))))))⟩
instance : FzD YF := ⟨fun R w => sepI (FzD.h R w) (sepI (FzD.h R w) (sepI (FzD.h R w) (sepI (FzD.h R w) (sepI (FzD.h R w) (sepI (FzD.h R w) (sepI (FzD.h R w) (sepI (FzD.h R w) (sepI (FzD.h R w) (sepI (FzD.h R w) (sepI (FzD.h R w) (trivial)))))))))))⟩
instance (priority := 700) xGL {l : List Xc} {x : YF} [hz : xaM l x] : xaM l (YF.regions x) := ⟨hz.h.imp fun h => ⟨fun _ => False, xfO (Fz.dup x h)⟩⟩
instance (priority := 700) xIH {l : List Xc} {x : YF} [hz : xaM l x] : xaM l (YF.procs x) := ⟨hz.h.imp fun h => ⟨fun _ => False, xfO (VB (Fz.dup x h))⟩⟩
instance (priority := 700) xIF {l : List Xc} {x : YF} [hz : xaM l x] : xaM l (YF.ports x) := ⟨hz.h.imp fun h => ⟨fun _ => False, xfO (VB (VB (Fz.dup x h)))⟩⟩
instance (priority := 700) xIR {l : List Xc} {x : YF} [hz : xaM l x] : xaM l (YF.sems x) := ⟨hz.h.imp fun h => ⟨fun _ => False, xfO (VB (VB (VB (Fz.dup x h))))⟩⟩
instance (priority := 700) xII {l : List Xc} {x : YF} [hz : xaM l x] : xaM l (YF.pools x) := ⟨hz.h.imp fun h => ⟨fun _ => False, xfO (VB (VB (VB (VB (VB (Fz.dup x h))))))⟩⟩
instance (priority := 700) xG9 {l : List Xc} {x : YF} [hz : xaM l x] : xaM l (YF.slates x) := ⟨hz.h.imp fun h => ⟨fun _ => False, xfO (VB (VB (VB (VB (VB (VB (Fz.dup x h)))))))⟩⟩
instance (priority := 700) xIS {l : List Xc} {x : YF} [hz : xaM l x] : xaM l (YF.acts x) := ⟨hz.h.imp fun h => ⟨fun _ => False, xfO (VB (VB (VB (VB (VB (VB (VB (VB (VB (VB (Fz.dup x h)))))))))))⟩⟩
instance : Fz xCE := ⟨fun p => sep (Fz.fz p.frame) (sep (Fz.fz p.wins) (fact True)), fun _ => XX (Fz.dup _) (XX (Fz.dup _) (xBP _))⟩
instance : FzD xCE := ⟨fun R w => sepI (FzD.h R w) (sepI (FzD.h R w) (trivial))⟩
instance (priority := 700) xIQ {l : List Xc} {x : xCE} [hz : xaM l x] : xaM l (xCE.wins x) := ⟨hz.h.imp fun h => ⟨fun _ => False, xfO (VB (Fz.dup x h))⟩⟩
structure xs2 where
 parts : SL YF
 chans : SL xD7
 modes : SL xCE
 levels : SL xCo
 naps : SL xGB
 sw : Int
 idle : Int
 change : Int
 quantum : Int
 slow : Int
 ppm : Int
 down : SL Int
 up : SL Int
def xs2.c (d : xs2) : xSy := ⟨d.parts.s, d.chans.s, d.modes.s, d.levels.s, d.naps.s, d.sw, d.idle, d.change, d.quantum, d.slow, d.ppm, d.down.s, d.up.s⟩
instance : En xs2 := ⟨fun d => [d.parts.s.v, d.chans.s.v, d.modes.s.v, d.levels.s.v, d.naps.s.v, .int .i64 d.sw, .int .i64 d.idle, .int .i64 d.change, .int .i64 d.quantum, .int .i64 d.slow, .int .i64 d.ppm, d.down.s.v, d.up.s.v], 13, fun _ => rfl, fun _ => rfl, by decide⟩
instance : Fz xs2 := ⟨fun p => sep (Fz.fz p.parts) (sep (Fz.fz p.chans) (sep (Fz.fz p.modes) (sep (Fz.fz p.levels) (sep (Fz.fz p.naps) (sep (Fz.fz p.sw) (sep (Fz.fz p.idle) (sep (Fz.fz p.change) (sep (Fz.fz p.quantum) (sep (Fz.fz p.slow) (sep (Fz.fz p.ppm) (sep (Fz.fz p.down) (sep (Fz.fz p.up) (fact True))))))))))))), fun _ => XX (Fz.dup _) (XX (Fz.dup _) (XX (Fz.dup _) (XX (Fz.dup _) (XX (Fz.dup _) (XX (Fz.dup _) (XX (Fz.dup _) (XX (Fz.dup _) (XX (Fz.dup _) (XX (Fz.dup _) (XX (Fz.dup _) (XX (Fz.dup _) (XX (Fz.dup _) (xBP _)))))))))))))⟩
structure xJF where
 levels : SV
 naps : SV
 sw : Int
 idle : Int
 change : Int
 quantum : Int
 slow : Int
 ppm : Int
section
attribute [local irreducible] BrK Xq Xt Xv XI FnK XZ Xw XC XV opX opK Yq Yk eqR Yj Yo Ys WL WD W X3 XO Tr drewK Ya X4 Yw Yv X1 YB mp blk rob sl sep ex fact old
section
def xRZ {α : Type} (may : α → α → Bool) : α → List α → Int → Int
 | _, [], _ => -1
 | a, x :: xs, i => if may x a = true then xRZ may x xs (i + 1) else i
def ahd {α : Type} [Inhabited α] (l : List α) : Nat → α
 | 0 => default
 | k + 1 => ix l (k : Int)
theorem xSr {α : Type} [Inhabited α] {may : α → α → Bool} {l : List α} {k : Nat} (h : k < l.length) : xRZ may (ahd l k) (l.drop k) k = if may (ix l (k : Int)) (ahd l k) = true then xRZ may (ahd l (k + 1)) (l.drop (k + 1)) ((k + 1 : Nat) : Int) else (k : Int) := by
 rw [List.drop_eq_getElem_cons h]
 have e : l[k] = ix l (k : Int) := by simp [ix, h]
 rw [e]; rfl
attribute [local irreducible] xRZ
end
section
structure shP (x : YF) : Prop where
 r : x.regions.d.length ≤ 1000000000
 p : x.procs.d.length ≤ 1000000000
 o : x.ports.d.length ≤ 1000000000
 s : x.sems.d.length ≤ 1000000000
 l : x.pools.d.length ≤ 1000000000
 t : x.slates.d.length ≤ 1000000000
 a : x.acts.d.length ≤ 1000000000
attribute [local irreducible] xRZ
end
end
def xCp : List Xc → Xc
 | [] => fact True
 | a :: r => sep a (xCp r)
theorem Imp.sepO : ∀ {Zs l : List Xc}, Imp (xCp Zs :: l) (Zs ++ l)
 | [], _ => Imp.tail
 | _ :: _, _ => Imp.trans Imp.sep (Imp.cons Imp.sepO)
theorem Imp.sepC : ∀ {Zs l : List Xc}, Imp (Zs ++ l) (xCp Zs :: l)
 | [], _ => Imp.factI trivial
 | _ :: _, _ => Imp.trans (Imp.cons Imp.sepC) Imp.sepI
section
attribute [local irreducible] BrK Xq Xt Xv XI FnK XZ Xw XC XV opX opK Yq Yk eqR Yj Yo Ys WL WD W X3 XO Tr drewK Ya X4 Yw Yv X1 YB mp blk rob sl sep ex fact old
section
attribute [local irreducible] xRZ
end
section
theorem xSm {α : Type} {p : α → Bool} {a : α} : ∀ {l : List α} {i : Int}, 0 ≤ i → decide (0 ≤ xRZ (fun x _ => !p x) a l i) = l.any p
 | [], _, _ => rfl
 | x :: xs, i, h => by
  unfold xRZ
  cases hp : p x with
  | false => rw [Bool.not_false, if_pos rfl, xSm S.o, List.any_cons, hp, Bool.false_or]
  | true => rw [Bool.not_true, if_neg (by decide), List.any_cons, hp, Bool.true_or]; exact decide_eq_true h
structure shC (x : xs2) : Prop where
 p : x.parts.d.length ≤ 1000000000
 c : x.chans.d.length ≤ 1000000000
 m : x.modes.d.length ≤ 1000000000
 l : x.levels.d.length ≤ 1000000000
 n : x.naps.d.length ≤ 1000000000
 d : x.down.d.length ≤ 1000000000
 u : x.up.d.length ≤ 1000000000
 ps : ∀ p ∈ x.parts.d, shP p
 ms : ∀ m ∈ x.modes.d, m.wins.d.length ≤ 1000000000
attribute [local irreducible] xRZ
end
section
abbrev cfB (b : Nat) (c : xs2) : Xc := blk b (.cells (En.enc c).toArray 33 (0, 0))
attribute [local irreducible] xRZ
end
section
structure xMi where
 b : Nat
 bud : Int
 cyc : Int
attribute [local irreducible] xRZ
end
section
def isM (ladder level : Int) : Bool := decide (0 < ladder) && decide (ladder ≤ level)
def xCW (down up : List Int) (level r : Int) : Int :=
 if 0 ≤ level ∧ level < down.length ∧ r < ix down level then IntKind.i64.wrap (level + 1)
 else if 1 ≤ level ∧ level ≤ up.length ∧ ix up (level - 1) ≤ r then IntKind.i64.wrap (level - 1) else level
attribute [local irreducible] xRZ
section
variable {c : xs2}
variable {m : Nat} {sd su : SV} {down up : List Int} {level r ladder : Int}
theorem xCr : Xb prog 85 #[.int .i64 ladder, .int .i64 level] [] fun v l' => v = .bool (isM ladder level) ∧ l' = [] := by
 intro F K hK
 simp only [List.nil_append]
 refine S.I fun u => ?_
 repeat' (first | refine S.x ?_ | refine S.y ?_ ?_ | (refine G.prop ?_; assumption) | intro hb | ((fail_if_success refine G.tr ?_); exact G.prop S.p) | fail)
 all_goals
  refine Tr.fin hK ⟨?_, rfl⟩ S.E
  (simp_all [isM]) <;> omega
theorem xGq (_hl : down.length ≤ 1000000000) : Xb prog 340 #[.pointer (some ⟨m, 0, none⟩), .int .i64 r] [blk m (.cells #[sd.v, su.v, .int .i64 level] 430 (0, 0)), sl true sd.v down]
  fun v l' => v = .bool (decide (0 ≤ level ∧ level < down.length ∧ r < ix down level)) ∧ l' = [blk m (.cells #[sd.v, su.v, .int .i64 level] 430 (0, 0))] := by
 intro F K hK
 simp only [ap]
 refine S.I fun u => ?_
 have hX := @xKz.eq_def; repeat' (first | refine S.x ?_ | refine S.y ?_ ?_ | (refine G.prop ?_; assumption) | intro hb | ((fail_if_success refine G.tr ?_); exact G.prop S.p) | fail)
 all_goals
  refine Tr.fin hK ⟨?_, rfl⟩ S.E
  simp_all <;> omega
theorem xGu (hl : up.length ≤ 1000000000) : Xb prog 341 #[.pointer (some ⟨m, 0, none⟩), .int .i64 r] [blk m (.cells #[sd.v, su.v, .int .i64 level] 430 (0, 0)), sl true su.v up]
  fun v l' => v = .bool (decide (1 ≤ level ∧ level ≤ up.length ∧ ix up (level - 1) ≤ r)) ∧ l' = [blk m (.cells #[sd.v, su.v, .int .i64 level] 430 (0, 0))] := by
 intro F K hK
 simp only [ap]
 by_cases h1 : 1 ≤ level ∧ level ≤ up.length
 ·have hw := Ye (n := level - 1) S.o S.o
  refine S.I fun u => ?_
  have hX := And.intro @xJx.eq_def hw; repeat' (first | refine S.x ?_ | refine S.y ?_ ?_ | (refine G.prop ?_; assumption) | intro hb | ((fail_if_success refine G.tr ?_); exact G.prop S.p) | fail)
  all_goals
   refine Tr.fin hK ⟨?_, rfl⟩ S.E
   simp_all <;> omega
 ·refine S.I fun u => ?_
  have hX := @xJx.eq_def; repeat' (first | refine S.x ?_ | refine S.y ?_ ?_ | (refine G.prop ?_; assumption) | intro hb | ((fail_if_success refine G.tr ?_); exact G.prop S.p) | fail)
  all_goals
   refine Tr.fin hK ⟨?_, rfl⟩ S.E
   simp_all <;> omega
theorem xIE (hd : down.length ≤ 1000000000) (hu : up.length ≤ 1000000000) : Xb prog 262 #[.pointer (some ⟨m, 0, none⟩), .int .i64 r] [blk m (.cells #[sd.v, su.v, .int .i64 level] 430 (0, 0)), sl true sd.v down, sl true su.v up]
  fun v l' => v = .int .i64 (xCW down up level r) ∧ l' = [] := by
 intro F K hK
 simp only [ap]
 unfold xCW at hK
 refine S.I fun u => ?_
 repeat' (first | refine S.x ?_ | refine S.y ?_ ?_ | (refine G.call 340 ?_; refine S.c ?_ (h := xGq ‹_›)) | (refine G.call 341 ?_; refine S.c ?_ (h := xGu ‹_›)) | rintro _ _ ⟨rfl, rfl⟩ | (refine G.prop ?_; assumption) | intro hb | ((fail_if_success refine G.tr ?_); exact G.prop S.p) | fail)
 all_goals exact Tr.fin hK ⟨S.v, rfl⟩ S.E
theorem xIx (hd : down.length ≤ 1000000000) (hu : up.length ≤ 1000000000) : Xb prog 196 #[.agg #[sd.v, su.v], .int .i64 level, .int .i64 r] [sl true sd.v down, sl true su.v up]
  fun v l' => v = .int .i64 (xCW down up level r) ∧ l' = [] := by
 intro F K hK
 simp only [ap]
 refine S.I fun u => ?_
 repeat' (first | refine S.x ?_ | refine S.y ?_ ?_ | (refine G.call 262 ?_; refine S.c ?_ (h := xIE ‹_› ‹_›)) | rintro _ _ ⟨rfl, rfl⟩ | (refine G.prop ?_; assumption) | intro hb | ((fail_if_success refine G.tr ?_); exact G.prop S.p) | fail)
 all_goals exact Tr.fin hK ⟨rfl, rfl⟩ S.E
