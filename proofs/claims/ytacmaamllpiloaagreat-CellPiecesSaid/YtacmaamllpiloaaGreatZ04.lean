import Derived.Test.YtacmaamllpiloaaGreatZ02
import Derived.Test.YtacmaamllpiloaaGreatProg
namespace Go.Proofs.YtacmaamllpiloaaGreat
open Go Go.Wk Tryz
structure JO where
 first : Int
 most : Int
instance : Inhabited JO := ⟨⟨0, 0⟩⟩
instance : En JO := ⟨fun d => [.int .i64 d.first, .int .i64 d.most], 2, fun _ => rfl, fun _ => rfl, by decide⟩
instance {l : List Xc} {a b : Int} : De l (.agg #[.int .i64 a, .int .i64 b]) (JO.mk a b) := ⟨rfl⟩
structure JC where
 size : Int
 depth : Int
instance : Inhabited JC := ⟨⟨0, 0⟩⟩
instance : En JC := ⟨fun d => [.int .i64 d.size, .int .i64 d.depth], 2, fun _ => rfl, fun _ => rfl, by decide⟩
instance {l : List Xc} {a b : Int} : De l (.agg #[.int .i64 a, .int .i64 b]) (JC.mk a b) := ⟨rfl⟩
structure xcR where
 regions : SV
 procs : SV
 ports : SV
 sems : SV
 flags : Int
 pools : SV
 slates : SV
 cap : Int
 budget : Int
 ladder : Int
 acts : SV
instance : En xcR := ⟨fun d => [d.regions.v, d.procs.v, d.ports.v, d.sems.v, .int .i64 d.flags, d.pools.v, d.slates.v, .int .i64 d.cap, .int .i64 d.budget, .int .i64 d.ladder, d.acts.v], 11, fun _ => rfl, fun _ => rfl, by decide⟩
structure Zd where
 q : Bool
 i : Bool
 size : Int
 depth : Int
instance : Inhabited Zd := ⟨⟨false, false, 0, 0⟩⟩
instance : En Zd := ⟨fun d => [.bool d.q, .bool d.i, .int .i64 d.size, .int .i64 d.depth], 4, fun _ => rfl, fun _ => rfl, by decide⟩
instance {l : List Xc} {q i : Bool} {a b : Int} : De l (.agg #[.bool q, .bool i, .int .i64 a, .int .i64 b]) (Zd.mk q i a b) := ⟨rfl⟩
structure xaL where
 base : Int
 size : Int
 w : Bool
instance : Inhabited xaL := ⟨⟨0, 0, false⟩⟩
instance : En xaL := ⟨fun d => [.int .i64 d.base, .int .i64 d.size, .bool d.w], 3, fun _ => rfl, fun _ => rfl, by decide⟩
structure WZ where
 prio : Int
 period : Int
 cost : Int
instance : Inhabited WZ := ⟨⟨0, 0, 0⟩⟩
instance : En WZ := ⟨fun d => [.int .i64 d.prio, .int .i64 d.period, .int .i64 d.cost], 3, fun _ => rfl, fun _ => rfl, by decide⟩
structure YF where
 regions : SL xaL
 procs : SL WZ
 ports : SL Zd
 sems : SL JO
 flags : Int
 pools : SL JC
 slates : SL Int
 cap : Int
 budget : Int
 ladder : Int
 acts : SL Int
instance : En YF := ⟨fun d => [d.regions.s.v, d.procs.s.v, d.ports.s.v, d.sems.s.v, .int .i64 d.flags, d.pools.s.v, d.slates.s.v, .int .i64 d.cap, .int .i64 d.budget, .int .i64 d.ladder, d.acts.s.v], 11, fun _ => rfl, fun _ => rfl, by decide⟩
def YF.c (d : YF) : xcR := ⟨d.regions.s, d.procs.s, d.ports.s, d.sems.s, d.flags, d.pools.s, d.slates.s, d.cap, d.budget, d.ladder, d.acts.s⟩
noncomputable def pl3 : Nat → Xj
 | 7 => .r 0 4 (.r 5 4 (.r 11 5 (.r 18 4 (.e 4 [7, 8, 13, 14, 20, 21] (.e 9 [13, 14, 20, 21] (.r 10 1 (.e 16 [20, 21, 10] (.r 17 1 (.e 22 [10, 17] (.r 23 8 (.e 31 [] (.r 32 7 (.e 39 [] (.r 40 7 (.e 47 [] (.r 48 7 (.e 55 [] (.r 56 2 .fin))))))))))))))))))
 | _ => .fin
instance xAt : FnI prog 11 Tryz.f11 np := .k Tryz.func11
instance xA6 : FnI prog 13 Tryz.f13 np := .k Tryz.func13
instance xAy : FnI prog 14 Tryz.f14 np := .k Tryz.func14
noncomputable def xho : Nat → Xj
 | 1 => .r 0 4 (.r 5 2 (.r 8 2 (.r 11 1 (.r 13 2 (.e 4 [0, 5, 6, 8, 9, 11, 13, 14] (.e 7 [0, 8, 9, 11, 13, 14] (.e 10 [0, 11, 13, 14] (.e 12 [0, 13, 14] (.e 15 [0] (.r 16 1 (.e 17 [] (.r 18 1 .fin))))))))))))
 | _ => .fin
instance xAD : FnI prog 19 Tryz.f19 xho := .k Tryz.func19
noncomputable def xnR : Nat → Xj
 | 1 => .r 0 1 (.r 2 4 (.e 1 [3, 4, 5] (.e 6 [] (.r 7 3 (.r 11 4 (.e 10 [12, 13, 14] (.r 15 4 (.r 20 4 (.e 19 [21, 22, 23] (.r 24 4 (.r 29 1 (.e 28 [] (.e 30 [] (.r 31 4 (.r 36 1 (.e 35 [] (.e 37 [] (.r 38 2 .fin))))))))))))))))))
 | 6 => .r 0 1 (.r 2 1 (.r 5 11 (.e 1 [6, 7, 8, 9, 10, 11, 13, 14, 15] (.e 3 [6, 7, 8, 9, 10, 11, 13, 14, 15] (.r 4 1 (.r 16 1 .fin))))))
 | 11 => .r 0 1 (.r 2 1 (.r 4 11 (.e 1 [5, 6, 7, 8, 9, 10, 12, 13, 14] (.e 3 [5, 6, 7, 8, 9, 10, 12, 13, 14] (.r 15 3 (.r 19 1 (.r 21 10 (.e 18 [22, 23, 24, 25, 26, 27, 29, 30] (.e 20 [22, 23, 24, 25, 26, 27, 29, 30] (.r 31 2 .fin))))))))))
 | _ => .fin
instance xBj : FnI prog 27 Tryz.f27 xnR := .k Tryz.func27
instance xBz : FnI prog 41 Tryz.f41 np := .k Tryz.func41
noncomputable def xbB : Nat → Xj
 | 13 => .r 0 8 (.e 8 [] .fin)
 | 39 => .r 0 8 (.e 8 [] .fin)
 | _ => .fin
instance xBe : FnI prog 46 Tryz.f46 xbB := .k Tryz.func46
noncomputable def xwu : Nat → Xj
 | 5 => .r 0 9 (.e 9 [] .fin)
 | _ => .fin
instance xBA : FnI prog 51 Tryz.f51 xwu := .k Tryz.func51
instance xAP : FnI prog 57 Tryz.f57 np := .k Tryz.func57
instance xAr : FnI prog 59 Tryz.f59 np := .k Tryz.func59
noncomputable def VU : Xj := .r 11 1 (.e 12 [] (.r 13 1 .fin))
noncomputable def xln : Xj := .br (.e 8 [3] (.e 10 [3] VU)) (.e 10 [3] (.e 8 [3] VU))
noncomputable def xlp : Xj := .br (.e 6 [3] (.e 10 [3] VU)) (.e 10 [3] (.e 6 [3] VU))
noncomputable def xkU : Xj := .br (.e 6 [3] (.e 8 [3] VU)) (.e 8 [3] (.e 6 [3] VU))
noncomputable def xjr : Xj := .br (.e 4 [] (.e 10 [3] VU)) (.e 10 [3] (.e 4 [] VU))
noncomputable def xiv : Xj := .br (.e 4 [] (.e 8 [3] VU)) (.e 8 [3] (.e 4 [] VU))
noncomputable def xlz : Xj := .br (.e 4 [] xln) (.br (.e 8 [3] xjr) (.e 10 [3] xiv))
noncomputable def xht : Xj := .br (.e 4 [] (.e 6 [3] VU)) (.e 6 [3] (.e 4 [] VU))
noncomputable def xlh : Xj := .br (.e 4 [] xlp) (.br (.e 6 [3] xjr) (.e 10 [3] xht))
noncomputable def xmH : Xj := .br (.e 4 [] xkU) (.br (.e 6 [3] xiv) (.e 8 [3] xht))
noncomputable def xd2 : Xj := .e 0 [3] (.e 4 [] VU)
noncomputable def xg4 : Xj := .br (.e 0 [3] xjr) (.e 10 [3] xd2)
noncomputable def xgN : Xj := .br (.e 0 [3] xiv) (.e 8 [3] xd2)
noncomputable def xgM : Xj := .br (.e 0 [3] xht) (.e 6 [3] xd2)
noncomputable def xvq : Nat → Xj
 | 4 => .r 1 3 (.r 5 1 (.r 7 1 (.r 9 1 (.br (.e 0 [3] (.br (.e 4 [] (.br (.e 6 [3] xln) (.br (.e 8 [3] xlp) (.e 10 [3] xkU)))) (.br (.e 6 [3] xlz) (.br (.e 8 [3] xlh) (.e 10 [3] xmH))))) (.br (.e 6 [3] (.br (.e 0 [3] xlz) (.br (.e 8 [3] xg4) (.e 10 [3] xgN)))) (.br (.e 8 [3] (.br (.e 0 [3] xlh) (.br (.e 6 [3] xg4) (.e 10 [3] xgM)))) (.e 10 [3] (.br (.e 0 [3] xmH) (.br (.e 6 [3] xgN) (.e 8 [3] xgM))))))))))
 | _ => .fin
theorem xwN : type_of% (I9 @xvq.eq_def @VU.eq_def @xln.eq_def @xlp.eq_def @xkU.eq_def @xjr.eq_def @xiv.eq_def @xlz.eq_def (I7 @xht.eq_def @xlh.eq_def @xmH.eq_def @xd2.eq_def @xg4.eq_def @xgN.eq_def @xgM.eq_def)) := I9 @xvq.eq_def @VU.eq_def @xln.eq_def @xlp.eq_def @xkU.eq_def @xjr.eq_def @xiv.eq_def @xlz.eq_def (I7 @xht.eq_def @xlh.eq_def @xmH.eq_def @xd2.eq_def @xg4.eq_def @xgN.eq_def @xgM.eq_def)
instance xA9 : FnI prog 62 Tryz.f62 xvq := .k Tryz.func62
instance xzv : FnI prog 112 Tryz.f112 np := .k Tryz.func112
instance xza : FnI prog 114 Tryz.f114 np := .k Tryz.func114
instance xxZ : FnI prog 117 Tryz.f117 np := .k Tryz.func117
instance xyU : FnI prog 120 Tryz.f120 np := .k Tryz.func120
instance xx2 : FnI prog 123 Tryz.f123 np := .k Tryz.func123
noncomputable def xo7 : Nat → Xj
 | 6 => .r 0 27 (.e 27 [] (.r 28 2 .fin))
 | _ => .fin
instance xzk : FnI prog 128 Tryz.f128 xo7 := .k Tryz.func128
instance xx1 : FnI prog 133 Tryz.f133 np := .k Tryz.func133
noncomputable def xaR : Nat → Xj
 | 7 => .r 0 12 (.e 12 [] .fin)
 | _ => .fin
instance xyP : FnI prog 135 Tryz.f135 xaR := .k Tryz.func135
noncomputable def ZX : Nat → Xj
 | 1 => .r 0 16 .fin
 | 3 => .r 0 11 .fin
 | 6 => .r 0 6 (.e 6 [] (.r 7 5 .fin))
 | 10 => .r 0 6 (.e 6 [] (.r 7 1 .fin))
 | 12 => .r 0 13 (.e 13 [] (.r 14 1 .fin))
 | 16 => .r 0 6 (.e 6 [] (.r 7 1 .fin))
 | 20 => .r 0 7 (.e 7 [] (.r 8 1 .fin))
 | _ => .fin
instance xxX : FnI prog 139 Tryz.f139 ZX := .k Tryz.func139
noncomputable def xty : Nat → Xj
 | 3 => .r 0 12 (.e 12 [] .fin)
 | _ => .fin
instance xx5 : FnI prog 143 Tryz.f143 xty := .k Tryz.func143
instance xyK : FnI prog 148 Tryz.f148 np := .k Tryz.func148
instance xy8 : FnI prog 151 Tryz.f151 np := .k Tryz.func151
instance xzm : FnI prog 154 Tryz.f154 np := .k Tryz.func154
noncomputable def xaT : Nat → Xj
 | 2 => .r 0 14 (.e 14 [] .fin)
 | _ => .fin
instance xxP : FnI prog 157 Tryz.f157 xaT := .k Tryz.func157
noncomputable def xpX : Nat → Xj
 | 1 => .r 0 7 (.e 7 [] .fin)
 | _ => .fin
instance xzP : FnI prog 164 Tryz.f164 xpX := .k Tryz.func164
noncomputable def xhh : Nat → Xj
 | 5 => .r 0 9 .fin
 | 6 => .r 0 19 (.e 19 [] (.r 20 2 (.e 22 [] .fin)))
 | 7 => .r 0 10 (.e 10 [] .fin)
 | _ => .fin
instance xz2 : FnI prog 169 Tryz.f169 xhh := .k Tryz.func169
instance xyC : FnI prog 176 Tryz.f176 np := .k Tryz.func176
instance xzb : FnI prog 180 Tryz.f180 np := .k Tryz.func180
instance xyG : FnI prog 182 Tryz.f182 np := .k Tryz.func182
instance xyQ : FnI prog 185 Tryz.f185 np := .k Tryz.func185
instance xyc : FnI prog 189 Tryz.f189 np := .k Tryz.func189
instance xyO : FnI prog 191 Tryz.f191 np := .k Tryz.func191
instance xzs : FnI prog 194 Tryz.f194 np := .k Tryz.func194
instance xy2 : FnI prog 197 Tryz.f197 np := .k Tryz.func197
noncomputable def xf5 : Xj := .e 13 [15, 16, 17, 19, 20] (.e 21 [] .fin)
noncomputable def xgw : Xj := .e 10 [15, 16, 17, 19, 20] xf5
noncomputable def xoO : Nat → Xj
 | 8 => .r 0 17 .fin
 | 10 => .r 0 2 (.r 3 7 (.r 11 1 (.r 14 7 (.br (.e 2 [4, 5, 6, 8, 9, 15, 16, 17, 19, 20] (.br (.e 10 [15, 16, 17, 19, 20] (.e 12 [4, 5, 6, 8, 9, 15, 16, 17, 19, 20] xf5)) (.e 12 [4, 5, 6, 8, 9, 15, 16, 17, 19, 20] xgw))) (.e 12 [4, 5, 6, 8, 9, 15, 16, 17, 19, 20] (.e 2 [4, 5, 6, 8, 9, 15, 16, 17, 19, 20] xgw))))))
 | _ => .fin
theorem xjo : type_of% (I3 @xoO.eq_def @xf5.eq_def @xgw.eq_def) := I3 @xoO.eq_def @xf5.eq_def @xgw.eq_def
instance xxW : FnI prog 199 Tryz.f199 xoO := .k Tryz.func199
instance xzB : FnI prog 218 Tryz.f218 np := .k Tryz.func218
noncomputable def xmD : Nat → Xj
 | 4 => .r 0 24 .fin
 | _ => .fin
instance xyh : FnI prog 220 Tryz.f220 xmD := .k Tryz.func220
instance xz5 : FnI prog 223 Tryz.f223 np := .k Tryz.func223
instance xxO : FnI prog 226 Tryz.f226 np := .k Tryz.func226
instance xy1 : FnI prog 229 Tryz.f229 np := .k Tryz.func229
instance xx8 : FnI prog 231 Tryz.f231 np := .k Tryz.func231
instance xyo : FnI prog 235 Tryz.f235 np := .k Tryz.func235
instance xyX : FnI prog 239 Tryz.f239 np := .k Tryz.func239
instance xAc : FnI prog 242 Tryz.f242 np := .k Tryz.func242
noncomputable def xli : Nat → Xj
 | 1 => .r 0 54 .fin
 | _ => .fin
instance xyL : FnI prog 245 Tryz.f245 xli := .k Tryz.func245
instance xxR : FnI prog 250 Tryz.f250 np := .k Tryz.func250
instance xz8 : FnI prog 270 Tryz.f270 np := .k Tryz.func270
noncomputable def pl7 : Nat → Xj
 | 3 => .r 0 4 (.r 5 4 (.e 4 [5, 6, 7, 8] (.e 9 [] (.r 10 2 .fin))))
 | 23 => .r 0 1 (.r 2 6 (.e 1 [2, 3, 5, 6, 7] (.e 8 [] .fin)))
 | 24 => .r 0 10 (.e 10 [] .fin)
 | _ => .fin
instance fn7 : FnI prog 7 Tryz.f7 pl7 := .k Tryz.func7
instance xBp : FnI prog 16 Tryz.f16 np := .k Tryz.func16
noncomputable def xc5 : Nat → Xj
 | 1 => .r 0 4 (.r 5 2 (.r 8 2 (.r 11 1 (.e 4 [0, 5, 6, 8, 9, 11] (.e 7 [0, 8, 9, 11] (.e 10 [0, 11] (.e 12 [0] (.r 13 1 (.e 14 [] (.r 15 1 .fin))))))))))
 | _ => .fin
instance xBC : FnI prog 20 Tryz.f20 xc5 := .k Tryz.func20
noncomputable def xbU : Nat → Xj
 | 5 => .r 0 8 (.e 8 [] (.r 9 5 .fin))
 | 19 => .r 0 8 (.e 8 [] (.r 9 1 .fin))
 | 23 => .r 0 15 .fin
 | _ => .fin
instance xBo : FnI prog 26 Tryz.f26 xbU := .k Tryz.func26
instance xCk : FnI prog 30 Tryz.f30 np := .k Tryz.func30
noncomputable def xv2 : Nat → Xj
 | 5 => .r 0 6 (.e 6 [] .fin)
 | _ => .fin
instance xBD : FnI prog 33 Tryz.f33 xv2 := .k Tryz.func33
noncomputable def xmK : Nat → Xj
 | 3 => .r 0 15 (.e 15 [] (.r 16 1 .fin))
 | _ => .fin
instance xA1 : FnI prog 35 Tryz.f35 xmK := .k Tryz.func35
instance xBB : FnI prog 39 Tryz.f39 np := .k Tryz.func39
noncomputable def xsY : Nat → Xj
 | 4 => .r 0 11 .fin
 | _ => .fin
instance xA2 : FnI prog 43 Tryz.f43 xsY := .k Tryz.func43
instance xAN : FnI prog 47 Tryz.f47 np := .k Tryz.func47
noncomputable def xsG : Nat → Xj
 | 5 => .r 0 10 (.e 10 [2, 3, 4, 5] (.r 11 1 (.e 12 [2, 3, 4] (.e 13 [2, 3, 4] (.e 14 [] (.r 15 2 (.e 17 [] .fin)))))))
 | _ => .fin
instance xAp : FnI prog 52 Tryz.f52 xsG := .k Tryz.func52
noncomputable def xwq : Nat → Xj
 | 5 => .r 0 15 (.e 15 [2, 3, 4] (.e 16 [] (.r 17 2 (.e 19 [] .fin))))
 | _ => .fin
instance xAh : FnI prog 60 Tryz.f60 xwq := .k Tryz.func60
instance xBc : FnI prog 64 Tryz.f64 np := .k Tryz.func64
noncomputable def xlb : Xj := .e 13 [15, 16, 17, 19, 20] (.e 21 [] .fin)
noncomputable def xmp : Xj := .e 10 [15, 16, 17, 19, 20] xlb
noncomputable def xu5 : Nat → Xj
 | 6 => .r 0 17 .fin
 | 7 => .r 0 17 (.e 17 [] .fin)
 | 9 => .r 0 2 (.r 3 7 (.r 11 1 (.r 14 7 (.br (.e 2 [4, 5, 6, 8, 9, 15, 16, 17, 19, 20] (.br (.e 10 [15, 16, 17, 19, 20] (.e 12 [4, 5, 6, 8, 9, 15, 16, 17, 19, 20] xlb)) (.e 12 [4, 5, 6, 8, 9, 15, 16, 17, 19, 20] xmp))) (.e 12 [4, 5, 6, 8, 9, 15, 16, 17, 19, 20] (.e 2 [4, 5, 6, 8, 9, 15, 16, 17, 19, 20] xmp))))))
 | _ => .fin
theorem xvW : type_of% (I3 @xu5.eq_def @xlb.eq_def @xmp.eq_def) := I3 @xu5.eq_def @xlb.eq_def @xmp.eq_def
instance xAH : FnI prog 66 Tryz.f66 xu5 := .k Tryz.func66
instance xAw : FnI prog 82 Tryz.f82 np := .k Tryz.func82
instance xAo : FnI prog 85 Tryz.f85 np := .k Tryz.func85
instance xAx : FnI prog 88 Tryz.f88 np := .k Tryz.func88
instance xBi : FnI prog 91 Tryz.f91 np := .k Tryz.func91
instance xBx : FnI prog 92 Tryz.f92 np := .k Tryz.func92
instance xAX : FnI prog 94 Tryz.f94 np := .k Tryz.func94
instance xAS : FnI prog 97 Tryz.f97 np := .k Tryz.func97
instance xBs : FnI prog 99 Tryz.f99 np := .k Tryz.func99
instance xyb : FnI prog 102 Tryz.f102 np := .k Tryz.func102
noncomputable def JQ : Nat → Xj
 | 8 => .r 0 6 (.e 6 [] (.r 7 1 .fin))
 | 13 => .r 0 8 (.e 8 [] .fin)
 | 16 => .r 0 6 (.e 6 [] .fin)
 | 19 => .r 0 7 (.e 7 [] .fin)
 | _ => .fin
instance xzg : FnI prog 105 Tryz.f105 JQ := .k Tryz.func105
noncomputable def Qf : Nat → Xj
 | 1 => .r 0 6 (.e 6 [] (.r 7 1 .fin))
 | 2 => .r 0 9 (.e 9 [] (.r 10 1 .fin))
 | 6 => .r 0 6 (.e 6 [] (.r 7 5 .fin))
 | 11 => .r 0 6 (.e 6 [] (.r 7 1 .fin))
 | 15 => .r 0 7 (.e 7 [] (.r 8 1 .fin))
 | _ => .fin
instance xyW : FnI prog 108 Tryz.f108 Qf := .k Tryz.func108
instance xxS : FnI prog 111 Tryz.f111 np := .k Tryz.func111
noncomputable def V5 : Nat → Xj
 | 6 => .r 0 6 (.e 6 [] (.r 7 13 (.e 20 [] (.r 21 1 .fin))))
 | _ => .fin
instance xx7 : FnI prog 113 Tryz.f113 V5 := .k Tryz.func113
instance xxM : FnI prog 121 Tryz.f121 np := .k Tryz.func121
instance xAb : FnI prog 124 Tryz.f124 np := .k Tryz.func124
instance xyg : FnI prog 127 Tryz.f127 np := .k Tryz.func127
noncomputable def xqP : Nat → Xj
 | 0 => .r 0 12 (.e 12 [] .fin)
 | _ => .fin
instance xze : FnI prog 131 Tryz.f131 xqP := .k Tryz.func131
instance xzO : FnI prog 134 Tryz.f134 np := .k Tryz.func134
noncomputable def Wb : Nat → Xj
 | 7 => .r 0 6 (.e 6 [] (.r 7 1 .fin))
 | 12 => .r 0 6 (.e 6 [] (.r 7 1 .fin))
 | 16 => .r 0 8 (.e 8 [] (.e 9 [] .fin))
 | 18 => .r 0 8 (.e 8 [] (.e 9 [] .fin))
 | 22 => .r 0 6 (.e 6 [] (.r 7 1 .fin))
 | 26 => .r 0 8 (.e 8 [] (.e 9 [] .fin))
 | 2 => .r 0 6 (.e 6 [] (.r 7 5 .fin))
 | _ => .fin
instance xyw : FnI prog 138 Tryz.f138 Wb := .k Tryz.func138
noncomputable def xl2 : Nat → Xj
 | 7 => .r 0 6 (.e 6 [] .fin)
 | _ => .fin
instance xya : FnI prog 142 Tryz.f142 xl2 := .k Tryz.func142
instance xyd : FnI prog 145 Tryz.f145 np := .k Tryz.func145
instance xzf : FnI prog 149 Tryz.f149 np := .k Tryz.func149
noncomputable def xk2 : Nat → Xj
 | 4 => .r 0 13 (.e 13 [] .fin)
 | _ => .fin
instance xz7 : FnI prog 152 Tryz.f152 xk2 := .k Tryz.func152
instance xyA : FnI prog 158 Tryz.f158 np := .k Tryz.func158
noncomputable def xtq : Nat → Xj
 | 5 => .r 0 6 (.e 6 [] .fin)
 | _ => .fin
instance xzp : FnI prog 161 Tryz.f161 xtq := .k Tryz.func161
noncomputable def xiJ : Nat → Xj
 | 4 => .r 0 8 (.e 8 [] (.r 9 5 .fin))
 | _ => .fin
instance xxK : FnI prog 167 Tryz.f167 xiJ := .k Tryz.func167
instance xzl : FnI prog 172 Tryz.f172 np := .k Tryz.func172
instance xxQ : FnI prog 175 Tryz.f175 np := .k Tryz.func175
noncomputable def xi1 : Nat → Xj
 | 1 => .r 0 18 (.e 18 [] (.r 19 2 .fin))
 | _ => .fin
instance xyS : FnI prog 178 Tryz.f178 xi1 := .k Tryz.func178
instance xz6 : FnI prog 184 Tryz.f184 np := .k Tryz.func184
noncomputable def xtA : Nat → Xj
 | 5 => .r 0 4 (.e 4 [0, 1] (.e 5 [0, 1] (.e 6 [] (.r 7 1 (.e 8 [] .fin)))))
 | _ => .fin
instance xym : FnI prog 188 Tryz.f188 xtA := .k Tryz.func188
noncomputable def xtT : Nat → Xj
 | 5 => .r 0 4 (.e 4 [0, 1] (.e 5 [0, 1] (.e 6 [] (.r 7 1 (.e 8 [] .fin)))))
 | _ => .fin
instance xAd : FnI prog 192 Tryz.f192 xtT := .k Tryz.func192
instance xy6 : FnI prog 200 Tryz.f200 np := .k Tryz.func200
instance xyj : FnI prog 203 Tryz.f203 np := .k Tryz.func203
instance xzE : FnI prog 206 Tryz.f206 np := .k Tryz.func206
noncomputable def xiV : Nat → Xj
 | 7 => .r 0 8 .fin
 | 8 => .r 0 8 (.e 8 [] (.r 9 2 (.e 11 [] .fin)))
 | 12 => .r 0 10 (.e 10 [] .fin)
 | _ => .fin
instance xzH : FnI prog 208 Tryz.f208 xiV := .k Tryz.func208
instance xx3 : FnI prog 213 Tryz.f213 np := .k Tryz.func213
instance xyz : FnI prog 214 Tryz.f214 np := .k Tryz.func214
instance xyi : FnI prog 217 Tryz.f217 np := .k Tryz.func217
instance xAe : FnI prog 219 Tryz.f219 np := .k Tryz.func219
instance xzI : FnI prog 221 Tryz.f221 np := .k Tryz.func221
instance xzS : FnI prog 224 Tryz.f224 np := .k Tryz.func224
noncomputable def xo2 : Nat → Xj
 | 7 => .r 0 4 (.r 5 4 (.e 4 [6, 7, 8] (.r 9 2 .fin)))
 | _ => .fin
instance xy4 : FnI prog 227 Tryz.f227 xo2 := .k Tryz.func227
instance xyE : FnI prog 232 Tryz.f232 np := .k Tryz.func232
noncomputable def xts : Nat → Xj
 | 5 => .r 0 6 (.e 6 [] (.r 7 1 .fin))
 | _ => .fin
instance xzh : FnI prog 236 Tryz.f236 xts := .k Tryz.func236
instance xyB : FnI prog 243 Tryz.f243 np := .k Tryz.func243
instance xzK : FnI prog 246 Tryz.f246 np := .k Tryz.func246
instance xxN : FnI prog 248 Tryz.f248 np := .k Tryz.func248
instance xx0 : FnI prog 268 Tryz.f268 np := .k Tryz.func268
instance xx9 : FnI prog 271 Tryz.f271 np := .k Tryz.func271
noncomputable def pl9 : Nat → Xj
 | 4 => .r 0 15 (.r 16 4 (.e 15 [1, 2, 3, 5, 6, 7, 8, 9, 17, 18, 19] (.e 20 [1, 2, 3, 5, 6, 7, 8, 9] (.r 21 2 .fin))))
 | _ => .fin
instance fn9 : FnI prog 9 Tryz.f9 pl9 := .k Tryz.func9
instance xBv : FnI prog 17 Tryz.f17 np := .k Tryz.func17
noncomputable def xsX : Nat → Xj
 | 4 => .r 0 1 (.r 2 7 (.e 1 [2, 3, 4, 5, 7, 8] (.e 9 [] .fin)))
 | 5 => .r 0 11 (.e 11 [] .fin)
 | _ => .fin
instance xAn : FnI prog 21 Tryz.f21 xsX := .k Tryz.func21
instance xAY : FnI prog 24 Tryz.f24 np := .k Tryz.func24
noncomputable def xj2 : Nat → Xj
 | 4 => .r 0 14 (.e 14 [] (.r 15 2 (.e 17 [] .fin)))
 | 6 => .r 0 16 (.e 16 [1, 2, 3, 5, 6, 8, 9, 10, 12, 13, 14, 15] (.e 17 [] .fin))
 | _ => .fin
instance xA0 : FnI prog 28 Tryz.f28 xj2 := .k Tryz.func28
noncomputable def xrN : Nat → Xj
 | 5 => .r 0 9 (.e 9 [2, 3, 4] (.e 10 [2, 3, 4] (.e 11 [] (.r 12 2 (.e 14 [] .fin)))))
 | _ => .fin
instance xAj : FnI prog 32 Tryz.f32 xrN := .k Tryz.func32
instance xAE : FnI prog 36 Tryz.f36 np := .k Tryz.func36
instance xAA : FnI prog 38 Tryz.f38 np := .k Tryz.func38
instance xAR : FnI prog 40 Tryz.f40 np := .k Tryz.func40
noncomputable def xvR : Nat → Xj
 | 1 => .r 0 10 (.e 10 [] .fin)
 | _ => .fin
instance xAg : FnI prog 44 Tryz.f44 xvR := .k Tryz.func44
instance xAJ : FnI prog 49 Tryz.f49 np := .k Tryz.func49
instance xAZ : FnI prog 53 Tryz.f53 np := .k Tryz.func53
noncomputable def xch : Nat → Xj
 | 6 => .r 0 10 (.e 10 [] .fin)
 | _ => .fin
instance xAC : FnI prog 55 Tryz.f55 xch := .k Tryz.func55
noncomputable def xnz : Nat → Xj
 | 10 => .r 0 9 (.e 9 [2, 3, 4] (.e 10 [] (.r 11 2 (.e 13 [] .fin))))
 | 11 => .r 0 6 (.e 6 [2, 3, 4] (.e 7 [2, 3, 4] (.e 8 [] (.r 9 2 (.e 11 [] .fin)))))
 | _ => .fin
instance xAk : FnI prog 61 Tryz.f61 xnz := .k Tryz.func61
instance xBb : FnI prog 65 Tryz.f65 np := .k Tryz.func65
instance xAK : FnI prog 68 Tryz.f68 np := .k Tryz.func68
instance xA8 : FnI prog 70 Tryz.f70 np := .k Tryz.func70
instance xAV : FnI prog 72 Tryz.f72 np := .k Tryz.func72
noncomputable def Wp : Nat → Xj
 | 4 => .r 0 15 (.e 15 [] (.r 16 2 .fin))
 | _ => .fin
instance xBt : FnI prog 73 Tryz.f73 Wp := .k Tryz.func73
instance xBm : FnI prog 76 Tryz.f76 np := .k Tryz.func76
instance xAQ : FnI prog 78 Tryz.f78 np := .k Tryz.func78
instance xAf : FnI prog 80 Tryz.f80 np := .k Tryz.func80
instance xAi : FnI prog 83 Tryz.f83 np := .k Tryz.func83
instance xBn : FnI prog 86 Tryz.f86 np := .k Tryz.func86
noncomputable def xv9 : Nat → Xj
 | 8 => .r 0 6 (.e 6 [] .fin)
 | _ => .fin
instance xAu : FnI prog 89 Tryz.f89 xv9 := .k Tryz.func89
instance xBr : FnI prog 93 Tryz.f93 np := .k Tryz.func93
noncomputable def xui : Nat → Xj
 | 0 => .r 0 15 (.e 15 [] .fin)
 | _ => .fin
instance xBq : FnI prog 96 Tryz.f96 xui := .k Tryz.func96
instance xz0 : FnI prog 100 Tryz.f100 np := .k Tryz.func100
instance xyI : FnI prog 103 Tryz.f103 np := .k Tryz.func103
noncomputable def Vk : Nat → Xj
 | 3 => .r 0 6 (.e 6 [] (.r 7 1 .fin))
 | 4 => .r 0 8 (.e 8 [] (.r 9 1 .fin))
 | 8 => .r 0 6 (.e 6 [] (.r 7 5 .fin))
 | 10 => .r 0 6 (.e 6 [] (.r 7 5 .fin))
 | 16 => .r 0 10 (.e 10 [2] (.e 11 [] .fin))
 | 17 => .r 0 7 (.e 7 [] (.r 8 2 .fin))
 | _ => .fin
instance xy5 : FnI prog 106 Tryz.f106 Vk := .k Tryz.func106
noncomputable def QW : Nat → Xj
 | 2 => .r 0 9 (.e 9 [] (.r 10 1 .fin))
 | 4 => .r 0 6 (.e 6 [] (.r 7 1 .fin))
 | 14 => .r 0 9 (.e 9 [2] (.e 10 [] .fin))
 | 17 => .r 0 6 (.e 6 [] (.r 7 5 .fin))
 | 8 => .r 0 10 (.e 10 [2] (.e 11 [] .fin))
 | 9 => .r 0 6 (.e 6 [] (.r 7 1 .fin))
 | 11 => .r 0 6 (.e 6 [] (.r 7 1 .fin))
 | _ => .fin
instance xzQ : FnI prog 109 Tryz.f109 QW := .k Tryz.func109
instance xyl : FnI prog 116 Tryz.f116 np := .k Tryz.func116
instance xzx : FnI prog 119 Tryz.f119 np := .k Tryz.func119
instance xy0 : FnI prog 122 Tryz.f122 np := .k Tryz.func122
instance xyN : FnI prog 126 Tryz.f126 np := .k Tryz.func126
noncomputable def xtk : Nat → Xj
 | 6 => .r 0 2 (.r 3 8 (.r 12 7 (.e 2 [4, 5, 6, 8, 9, 10, 13, 14, 15, 17, 18] (.e 11 [13, 14, 15, 17, 18] (.e 19 [] .fin)))))
 | _ => .fin
instance xz1 : FnI prog 130 Tryz.f130 xtk := .k Tryz.func130
noncomputable def YL : Nat → Xj
 | 3 => .r 0 8 (.e 8 [] (.r 9 1 .fin))
 | 5 => .r 0 13 .fin
 | 11 => .r 0 6 (.e 6 [] (.r 7 5 .fin))
 | 12 => .r 0 6 (.e 6 [] (.r 7 5 .fin))
 | 21 => .r 0 11 (.e 11 [2, 3] (.e 12 [] .fin))
 | 22 => .r 0 7 (.e 7 [] (.r 8 1 .fin))
 | _ => .fin
instance xy9 : FnI prog 137 Tryz.f137 YL := .k Tryz.func137
noncomputable def VW : Nat → Xj
 | 6 => .r 0 6 (.e 6 [] (.r 7 5 .fin))
 | 11 => .r 0 8 (.e 8 [] .fin)
 | _ => .fin
instance xzD : FnI prog 141 Tryz.f141 VW := .k Tryz.func141
instance xyJ : FnI prog 144 Tryz.f144 np := .k Tryz.func144
noncomputable def xtG : Nat → Xj
 | 6 => .r 0 7 (.e 7 [] (.r 8 17 (.e 25 [] (.r 26 2 .fin))))
 | _ => .fin
instance xxJ : FnI prog 147 Tryz.f147 xtG := .k Tryz.func147
instance xzY : FnI prog 155 Tryz.f155 np := .k Tryz.func155
instance xzR : FnI prog 159 Tryz.f159 np := .k Tryz.func159
instance xAa : FnI prog 162 Tryz.f162 np := .k Tryz.func162
instance xyY : FnI prog 165 Tryz.f165 np := .k Tryz.func165
instance xz3 : FnI prog 168 Tryz.f168 np := .k Tryz.func168
instance xzz : FnI prog 170 Tryz.f170 np := .k Tryz.func170
noncomputable def xqU : Nat → Xj
 | 4 => .r 0 11 .fin
 | _ => .fin
instance xyv : FnI prog 173 Tryz.f173 xqU := .k Tryz.func173
noncomputable def xpN : Nat → Xj
 | 6 => .r 0 12 .fin
 | 8 => .r 0 6 (.e 6 [2, 3, 4] (.e 7 [2, 3, 4] (.e 8 [] (.r 9 2 (.e 11 [] .fin)))))
 | _ => .fin
instance xzc : FnI prog 179 Tryz.f179 xpN := .k Tryz.func179
instance xyn : FnI prog 187 Tryz.f187 np := .k Tryz.func187
noncomputable def xto : Nat → Xj
 | 5 => .r 0 4 (.e 4 [0, 1] (.e 5 [0, 1] (.e 6 [] (.r 7 1 (.e 8 [] .fin)))))
 | _ => .fin
instance xzy : FnI prog 190 Tryz.f190 xto := .k Tryz.func190
instance xzM : FnI prog 196 Tryz.f196 np := .k Tryz.func196
instance xx6 : FnI prog 198 Tryz.f198 np := .k Tryz.func198
instance xz9 : FnI prog 201 Tryz.f201 np := .k Tryz.func201
instance xxH : FnI prog 204 Tryz.f204 np := .k Tryz.func204
noncomputable def xtM : Nat → Xj
 | 1 => .r 0 7 (.e 7 [] .fin)
 | _ => .fin
instance xyu : FnI prog 207 Tryz.f207 xtM := .k Tryz.func207
instance xye : FnI prog 210 Tryz.f210 np := .k Tryz.func210
noncomputable def xk4 : Nat → Xj
 | 6 => .r 0 14 (.e 14 [] .fin)
 | _ => .fin
instance xyD : FnI prog 211 Tryz.f211 xk4 := .k Tryz.func211
noncomputable def xtQ : Nat → Xj
 | 7 => .r 0 5 (.r 6 8 (.e 5 [1, 2, 3, 7, 8, 9, 11, 12, 13] (.e 14 [1, 2, 3] (.r 15 1 (.e 16 [] .fin)))))
 | _ => .fin
instance xzF : FnI prog 215 Tryz.f215 xtQ := .k Tryz.func215
instance xzi : FnI prog 222 Tryz.f222 np := .k Tryz.func222
instance xzC : FnI prog 225 Tryz.f225 np := .k Tryz.func225
instance xz4 : FnI prog 228 Tryz.f228 np := .k Tryz.func228
instance xzj : FnI prog 230 Tryz.f230 np := .k Tryz.func230
instance xyZ : FnI prog 233 Tryz.f233 np := .k Tryz.func233
instance xzX : FnI prog 237 Tryz.f237 np := .k Tryz.func237
instance xzU : FnI prog 240 Tryz.f240 np := .k Tryz.func240
instance xxU : FnI prog 244 Tryz.f244 np := .k Tryz.func244
instance xxT : FnI prog 247 Tryz.f247 np := .k Tryz.func247
instance xzu : FnI prog 249 Tryz.f249 np := .k Tryz.func249
noncomputable def xoq : Nat → Xj
 | 1 => .r 0 10 .fin
 | 3 => .r 0 6 (.e 6 [2, 3, 4] (.e 7 [2, 3, 4] (.e 8 [] (.r 9 2 (.e 11 [] .fin)))))
 | _ => .fin
instance xxI : FnI prog 269 Tryz.f269 xoq := .k Tryz.func269
instance fn8 : FnI prog 8 Tryz.f8 np := .k Tryz.func8
instance xBw : FnI prog 10 Tryz.f10 np := .k Tryz.func10
instance xA3 : FnI prog 12 Tryz.f12 np := .k Tryz.func12
instance xAG : FnI prog 15 Tryz.f15 np := .k Tryz.func15
instance xAq : FnI prog 18 Tryz.f18 np := .k Tryz.func18
instance xBh : FnI prog 22 Tryz.f22 np := .k Tryz.func22
instance xBl : FnI prog 23 Tryz.f23 np := .k Tryz.func23
noncomputable def xrH : Nat → Xj
 | 6 => .r 0 76 .fin
 | _ => .fin
instance xBa : FnI prog 25 Tryz.f25 xrH := .k Tryz.func25
noncomputable def xvU : Nat → Xj
 | 6 => .r 0 16 (.e 16 [] .fin)
 | _ => .fin
instance xAz : FnI prog 29 Tryz.f29 xvU := .k Tryz.func29
instance xAT : FnI prog 31 Tryz.f31 np := .k Tryz.func31
noncomputable def xiO : Nat → Xj
 | 0 => .r 0 8 (.e 8 [] (.r 9 5 .fin))
 | _ => .fin
instance xAv : FnI prog 34 Tryz.f34 xiO := .k Tryz.func34
noncomputable def xog : Nat → Xj
 | 0 => .r 0 8 (.r 10 1 (.e 8 [] (.r 9 1 .fin)))
 | _ => .fin
instance xAO : FnI prog 37 Tryz.f37 xog := .k Tryz.func37
instance xyk : xqo prog 42 := ⟨by kernel_rfl⟩
instance xAU : FnI prog 45 Tryz.f45 np := .k Tryz.func45
instance xBd : FnI prog 48 Tryz.f48 np := .k Tryz.func48
instance xAL : FnI prog 50 Tryz.f50 np := .k Tryz.func50
instance xAB : FnI prog 54 Tryz.f54 np := .k Tryz.func54
instance xBf : FnI prog 56 Tryz.f56 np := .k Tryz.func56
instance xAl : FnI prog 58 Tryz.f58 np := .k Tryz.func58
noncomputable def xwH : Nat → Xj
 | 5 => .r 0 11 (.e 11 [2, 3, 4] (.e 12 [] (.r 13 2 (.e 15 [] .fin))))
 | _ => .fin
instance xAF : FnI prog 63 Tryz.f63 xwH := .k Tryz.func63
instance xA4 : FnI prog 67 Tryz.f67 np := .k Tryz.func67
instance xAm : FnI prog 69 Tryz.f69 np := .k Tryz.func69
noncomputable def xvL : Nat → Xj
 | 0 => .r 0 18 (.e 18 [2, 3, 4] (.e 19 [] (.r 20 2 (.e 22 [] .fin))))
 | _ => .fin
instance xBy : FnI prog 71 Tryz.f71 xvL := .k Tryz.func71
instance xBu : FnI prog 74 Tryz.f74 np := .k Tryz.func74
instance xA5 : FnI prog 75 Tryz.f75 np := .k Tryz.func75
instance xA7 : FnI prog 77 Tryz.f77 np := .k Tryz.func77
instance xBE : FnI prog 79 Tryz.f79 np := .k Tryz.func79
instance xBg : FnI prog 81 Tryz.f81 np := .k Tryz.func81
instance xAI : FnI prog 84 Tryz.f84 np := .k Tryz.func84
instance xAs : FnI prog 87 Tryz.f87 np := .k Tryz.func87
noncomputable def xv8 : Nat → Xj
 | 0 => .r 0 18 (.e 18 [2, 3, 4] (.e 19 [] (.r 20 2 (.e 22 [] .fin))))
 | _ => .fin
instance xBk : FnI prog 90 Tryz.f90 xv8 := .k Tryz.func90
instance xBF : FnI prog 95 Tryz.f95 np := .k Tryz.func95
noncomputable def xwj : Nat → Xj
 | 2 => .r 0 12 .fin
 | _ => .fin
instance xAM : FnI prog 98 Tryz.f98 xwj := .k Tryz.func98
instance xzW : FnI prog 101 Tryz.f101 np := .k Tryz.func101
instance xxL : FnI prog 104 Tryz.f104 np := .k Tryz.func104
noncomputable def WT : Nat → Xj
 | 1 => .r 0 6 (.e 6 [] (.r 7 5 .fin))
 | 7 => .r 0 9 (.e 9 [2] (.e 10 [] .fin))
 | 9 => .r 0 6 (.e 6 [] (.r 7 1 .fin))
 | 13 => .r 0 9 (.e 9 [2] (.e 10 [] .fin))
 | 15 => .r 0 9 (.e 9 [2] (.e 10 [] .fin))
 | 16 => .r 0 6 (.e 6 [] (.r 7 1 .fin))
 | 18 => .r 0 6 (.e 6 [] (.r 7 1 .fin))
 | 21 => .r 0 9 (.e 9 [2] (.e 10 [] .fin))
 | _ => .fin
instance xzG : FnI prog 107 Tryz.f107 WT := .k Tryz.func107
noncomputable def xfQ : Nat → Xj
 | 1 => .r 0 6 (.e 6 [] (.r 7 5 .fin))
 | 3 => .r 0 8 (.e 8 [] (.r 9 2 .fin))
 | _ => .fin
instance xzr : FnI prog 110 Tryz.f110 xfQ := .k Tryz.func110
instance xzd : FnI prog 115 Tryz.f115 np := .k Tryz.func115
noncomputable def xtO : Nat → Xj
 | 5 => .r 0 6 (.e 6 [] .fin)
 | _ => .fin
instance xzq : FnI prog 118 Tryz.f118 xtO := .k Tryz.func118
instance xzt : FnI prog 125 Tryz.f125 np := .k Tryz.func125
instance xy7 : FnI prog 129 Tryz.f129 np := .k Tryz.func129
noncomputable def xqp : Nat → Xj
 | 5 => .r 0 38 (.e 38 [] (.r 39 2 .fin))
 | _ => .fin
instance xyy : FnI prog 132 Tryz.f132 xqp := .k Tryz.func132
noncomputable def Jv : Nat → Xj
 | 4 => .r 0 19 .fin
 | 5 => .r 0 6 (.e 6 [] .fin)
 | 7 => .r 0 19 .fin
 | 8 => .r 0 7 (.e 7 [] .fin)
 | 10 => .r 0 19 .fin
 | 11 => .r 0 6 (.e 6 [] .fin)
 | 13 => .r 0 19 .fin
 | 16 => .r 0 8 (.e 8 [] .fin)
 | _ => .fin
instance xyH : FnI prog 136 Tryz.f136 Jv := .k Tryz.func136
noncomputable def Ja : Nat → Xj
 | 1 => .r 0 16 .fin
 | 3 => .r 0 10 .fin
 | 9 => .r 0 9 (.e 9 [] (.e 10 [] .fin))
 | 13 => .r 0 6 (.e 6 [] (.r 7 1 .fin))
 | 18 => .r 0 6 (.e 6 [] (.r 7 5 .fin))
 | 5 => .r 0 8 (.e 8 [] (.e 9 [] .fin))
 | _ => .fin
instance xyV : FnI prog 140 Tryz.f140 Ja := .k Tryz.func140
instance xyq : FnI prog 146 Tryz.f146 np := .k Tryz.func146
instance xzo : FnI prog 150 Tryz.f150 np := .k Tryz.func150
instance xyf : FnI prog 153 Tryz.f153 np := .k Tryz.func153
instance xyp : FnI prog 156 Tryz.f156 np := .k Tryz.func156
instance xzA : FnI prog 160 Tryz.f160 np := .k Tryz.func160
instance xys : FnI prog 163 Tryz.f163 np := .k Tryz.func163
noncomputable def xlE : Nat → Xj
 | 3 => .r 0 7 (.e 7 [] .fin)
 | _ => .fin
instance xyr : FnI prog 166 Tryz.f166 xlE := .k Tryz.func166
instance xzV : FnI prog 171 Tryz.f171 np := .k Tryz.func171
instance xyx : FnI prog 174 Tryz.f174 np := .k Tryz.func174
instance xyR : FnI prog 177 Tryz.f177 np := .k Tryz.func177
instance xzL : FnI prog 181 Tryz.f181 np := .k Tryz.func181
instance xzn : FnI prog 183 Tryz.f183 np := .k Tryz.func183
noncomputable def xtl : Nat → Xj
 | 5 => .r 0 4 (.e 4 [0, 1] (.e 5 [0, 1] (.e 6 [] (.r 7 1 (.e 8 [] .fin)))))
 | _ => .fin
instance xzw : FnI prog 186 Tryz.f186 xtl := .k Tryz.func186
instance xx4 : FnI prog 193 Tryz.f193 np := .k Tryz.func193
noncomputable def xhr : Nat → Xj
 | 3 => .r 0 13 (.e 13 [1, 2, 3] (.r 14 1 (.e 15 [] .fin)))
 | _ => .fin
instance xyt : FnI prog 195 Tryz.f195 xhr := .k Tryz.func195
instance xxY : FnI prog 202 Tryz.f202 np := .k Tryz.func202
noncomputable def xn5 : Nat → Xj
 | 1 => .r 0 7 (.e 7 [] (.r 8 5 .fin))
 | _ => .fin
instance xzN : FnI prog 205 Tryz.f205 xn5 := .k Tryz.func205
noncomputable def xhT : Nat → Xj
 | 4 => .r 0 8 (.e 8 [] (.r 9 5 .fin))
 | _ => .fin
instance xyF : FnI prog 209 Tryz.f209 xhT := .k Tryz.func209
noncomputable def xld : Nat → Xj
 | 3 => .r 0 17 .fin
 | 6 => .r 0 14 (.e 14 [] .fin)
 | _ => .fin
instance xyT : FnI prog 212 Tryz.f212 xld := .k Tryz.func212
noncomputable def xdQ : Xj := .e 16 [1, 2, 3] (.r 17 1 (.e 18 [] .fin))
noncomputable def xqR : Nat → Xj
 | 5 => .r 0 18 .fin
 | 8 => .r 0 5 (.r 6 7 (.r 14 1 (.br (.e 5 [1, 2, 3, 7, 8, 9, 11, 12] (.br (.e 13 [1, 2, 3] (.e 15 [1, 2, 3, 7, 8, 9, 11, 12] xdQ)) (.e 15 [1, 2, 3, 7, 8, 9, 11, 12] (.e 13 [1, 2, 3] xdQ)))) (.e 15 [1, 2, 3, 7, 8, 9, 11, 12] (.e 5 [1, 2, 3, 7, 8, 9, 11, 12] (.e 13 [1, 2, 3] xdQ))))))
 | _ => .fin
theorem xtD : type_of% (And.intro @xqR.eq_def @xdQ.eq_def) := And.intro @xqR.eq_def @xdQ.eq_def
instance xzZ : FnI prog 216 Tryz.f216 xqR := .k Tryz.func216
instance xzT : FnI prog 234 Tryz.f234 np := .k Tryz.func234
instance xxV : FnI prog 238 Tryz.f238 np := .k Tryz.func238
noncomputable def xps : Xj := .e 27 [1, 2, 3] (.r 28 1 (.e 29 [] (.r 30 1 .fin)))
noncomputable def xjT : Xj := .e 21 [1, 2, 3, 24, 25, 26] xps
noncomputable def xpL : Xj := .br (.e 21 [1, 2, 3, 24, 25, 26] (.e 22 [1, 2, 3, 6, 7, 8, 12, 13, 14, 18, 19, 20, 24, 25, 26] xps)) (.e 22 [1, 2, 3, 6, 7, 8, 12, 13, 14, 18, 19, 20, 24, 25, 26] xjT)
noncomputable def xqL : Xj := .e 16 [1, 2, 3, 6, 7, 8, 12, 13, 14, 18, 19, 20, 24, 25, 26] xjT
noncomputable def xg1 : Xj := .e 15 [1, 2, 3, 18, 19, 20, 24, 25, 26] xjT
noncomputable def xjR : Xj := .br (.e 15 [1, 2, 3, 18, 19, 20, 24, 25, 26] xpL) (.e 22 [1, 2, 3, 6, 7, 8, 12, 13, 14, 18, 19, 20, 24, 25, 26] xg1)
noncomputable def xkA : Xj := .br (.e 15 [1, 2, 3, 18, 19, 20, 24, 25, 26] xqL) (.e 16 [1, 2, 3, 6, 7, 8, 12, 13, 14, 18, 19, 20, 24, 25, 26] xg1)
noncomputable def xot : Xj := .br (.e 15 [1, 2, 3, 18, 19, 20, 24, 25, 26] (.br (.e 16 [1, 2, 3, 6, 7, 8, 12, 13, 14, 18, 19, 20, 24, 25, 26] xpL) (.e 22 [1, 2, 3, 6, 7, 8, 12, 13, 14, 18, 19, 20, 24, 25, 26] xqL))) (.br (.e 16 [1, 2, 3, 6, 7, 8, 12, 13, 14, 18, 19, 20, 24, 25, 26] xjR) (.e 22 [1, 2, 3, 6, 7, 8, 12, 13, 14, 18, 19, 20, 24, 25, 26] xkA))
noncomputable def xj9 : Xj := .e 10 [1, 2, 3, 6, 7, 8, 12, 13, 14, 18, 19, 20, 24, 25, 26] xg1
noncomputable def xq2 : Xj := .br (.e 10 [1, 2, 3, 6, 7, 8, 12, 13, 14, 18, 19, 20, 24, 25, 26] xjR) (.e 22 [1, 2, 3, 6, 7, 8, 12, 13, 14, 18, 19, 20, 24, 25, 26] xj9)
noncomputable def xlM : Xj := .br (.e 10 [1, 2, 3, 6, 7, 8, 12, 13, 14, 18, 19, 20, 24, 25, 26] xkA) (.e 16 [1, 2, 3, 6, 7, 8, 12, 13, 14, 18, 19, 20, 24, 25, 26] xj9)
noncomputable def xdn : Xj := .e 9 [1, 2, 3, 12, 13, 14, 18, 19, 20, 24, 25, 26] xg1
noncomputable def xgO : Xj := .br (.e 9 [1, 2, 3, 12, 13, 14, 18, 19, 20, 24, 25, 26] xjR) (.e 22 [1, 2, 3, 6, 7, 8, 12, 13, 14, 18, 19, 20, 24, 25, 26] xdn)
noncomputable def xgL : Xj := .br (.e 9 [1, 2, 3, 12, 13, 14, 18, 19, 20, 24, 25, 26] xkA) (.e 16 [1, 2, 3, 6, 7, 8, 12, 13, 14, 18, 19, 20, 24, 25, 26] xdn)
noncomputable def xml : Xj := .br (.e 9 [1, 2, 3, 12, 13, 14, 18, 19, 20, 24, 25, 26] xot) (.br (.e 16 [1, 2, 3, 6, 7, 8, 12, 13, 14, 18, 19, 20, 24, 25, 26] xgO) (.e 22 [1, 2, 3, 6, 7, 8, 12, 13, 14, 18, 19, 20, 24, 25, 26] xgL))
noncomputable def xgX : Xj := .br (.e 9 [1, 2, 3, 12, 13, 14, 18, 19, 20, 24, 25, 26] xj9) (.e 10 [1, 2, 3, 6, 7, 8, 12, 13, 14, 18, 19, 20, 24, 25, 26] xdn)
noncomputable def xlq : Xj := .br (.e 9 [1, 2, 3, 12, 13, 14, 18, 19, 20, 24, 25, 26] xq2) (.br (.e 10 [1, 2, 3, 6, 7, 8, 12, 13, 14, 18, 19, 20, 24, 25, 26] xgO) (.e 22 [1, 2, 3, 6, 7, 8, 12, 13, 14, 18, 19, 20, 24, 25, 26] xgX))
noncomputable def xmc : Xj := .br (.e 9 [1, 2, 3, 12, 13, 14, 18, 19, 20, 24, 25, 26] xlM) (.br (.e 10 [1, 2, 3, 6, 7, 8, 12, 13, 14, 18, 19, 20, 24, 25, 26] xgL) (.e 16 [1, 2, 3, 6, 7, 8, 12, 13, 14, 18, 19, 20, 24, 25, 26] xgX))
noncomputable def xgW : Xj := .e 4 [1, 2, 3, 6, 7, 8, 12, 13, 14, 18, 19, 20, 24, 25, 26] xdn
noncomputable def xlH : Xj := .br (.e 4 [1, 2, 3, 6, 7, 8, 12, 13, 14, 18, 19, 20, 24, 25, 26] xgO) (.e 22 [1, 2, 3, 6, 7, 8, 12, 13, 14, 18, 19, 20, 24, 25, 26] xgW)
noncomputable def xmt : Xj := .br (.e 4 [1, 2, 3, 6, 7, 8, 12, 13, 14, 18, 19, 20, 24, 25, 26] xgL) (.e 16 [1, 2, 3, 6, 7, 8, 12, 13, 14, 18, 19, 20, 24, 25, 26] xgW)
noncomputable def xmA : Xj := .br (.e 4 [1, 2, 3, 6, 7, 8, 12, 13, 14, 18, 19, 20, 24, 25, 26] xgX) (.e 10 [1, 2, 3, 6, 7, 8, 12, 13, 14, 18, 19, 20, 24, 25, 26] xgW)
noncomputable def xv6 : Nat → Xj
 | 1 => .r 0 4 (.r 5 4 (.r 11 4 (.r 17 4 (.r 23 4 (.br (.e 4 [1, 2, 3, 6, 7, 8, 12, 13, 14, 18, 19, 20, 24, 25, 26] (.br (.e 9 [1, 2, 3, 12, 13, 14, 18, 19, 20, 24, 25, 26] (.br (.e 10 [1, 2, 3, 6, 7, 8, 12, 13, 14, 18, 19, 20, 24, 25, 26] xot) (.br (.e 16 [1, 2, 3, 6, 7, 8, 12, 13, 14, 18, 19, 20, 24, 25, 26] xq2) (.e 22 [1, 2, 3, 6, 7, 8, 12, 13, 14, 18, 19, 20, 24, 25, 26] xlM)))) (.br (.e 10 [1, 2, 3, 6, 7, 8, 12, 13, 14, 18, 19, 20, 24, 25, 26] xml) (.br (.e 16 [1, 2, 3, 6, 7, 8, 12, 13, 14, 18, 19, 20, 24, 25, 26] xlq) (.e 22 [1, 2, 3, 6, 7, 8, 12, 13, 14, 18, 19, 20, 24, 25, 26] xmc))))) (.br (.e 10 [1, 2, 3, 6, 7, 8, 12, 13, 14, 18, 19, 20, 24, 25, 26] (.br (.e 4 [1, 2, 3, 6, 7, 8, 12, 13, 14, 18, 19, 20, 24, 25, 26] xml) (.br (.e 16 [1, 2, 3, 6, 7, 8, 12, 13, 14, 18, 19, 20, 24, 25, 26] xlH) (.e 22 [1, 2, 3, 6, 7, 8, 12, 13, 14, 18, 19, 20, 24, 25, 26] xmt)))) (.br (.e 16 [1, 2, 3, 6, 7, 8, 12, 13, 14, 18, 19, 20, 24, 25, 26] (.br (.e 4 [1, 2, 3, 6, 7, 8, 12, 13, 14, 18, 19, 20, 24, 25, 26] xlq) (.br (.e 10 [1, 2, 3, 6, 7, 8, 12, 13, 14, 18, 19, 20, 24, 25, 26] xlH) (.e 22 [1, 2, 3, 6, 7, 8, 12, 13, 14, 18, 19, 20, 24, 25, 26] xmA)))) (.e 22 [1, 2, 3, 6, 7, 8, 12, 13, 14, 18, 19, 20, 24, 25, 26] (.br (.e 4 [1, 2, 3, 6, 7, 8, 12, 13, 14, 18, 19, 20, 24, 25, 26] xmc) (.br (.e 10 [1, 2, 3, 6, 7, 8, 12, 13, 14, 18, 19, 20, 24, 25, 26] xmt) (.e 16 [1, 2, 3, 6, 7, 8, 12, 13, 14, 18, 19, 20, 24, 25, 26] xmA)))))))))))
 | _ => .fin
instance xy3 : FnI prog 241 Tryz.f241 xv6 := .k Tryz.func241
theorem mixed : prog.follows .mixedOrders = true := by kernel_rfl
instance : Yp prog 40 [(0, 11), (11, 1), (12, 1), (13, 1), (14, 1), (15, 1), (16, 1), (17, 1), (18, 1), (19, 1), (20, 1), (21, 1)] [.slice none 0 0, .slice none 0 0, .slice none 0 0, .slice none 0 0, .int .i64 0, .slice none 0 0, .slice none 0 0, .int .i64 0, .int .i64 0, .int .i64 0, .slice none 0 0, .int .i64 0, .int .i64 0, .int .i64 0, .slice none 0 0, .pointer none, .pointer none, .pointer none, .pointer none, .pointer none, .pointer none, .slice none 0 0] := .k
instance : Slc prog 38 6 := .k
instance : ZY prog 38 65 48 6 [.int .i64 0, .int .i64 0, .int .i64 0, .int .i64 0, .int .i64 0, .int .i64 0] := .k
instance : WK prog 34 := ⟨_, Tryz.underlying34⟩
instance : WK prog 33 := ⟨_, Tryz.underlying33⟩
instance : Agg prog 52 13 := .k
instance : Fld prog 52 0 0 := .k
instance : Agg prog 30 11 := .k
instance : Fld prog 52 1 11 := .k
instance : YO prog 49 := .k
instance : Fld prog 52 2 12 := .k
instance : YO prog 50 := .k
instance : Slc prog 50 3 := .k
instance : Agg prog 60 3 := .k
instance : Fld prog 60 2 2 := .k
instance : YO prog 3 := .k
instance : Fld prog 65 0 0 := .k
instance : Siz prog 3 1 := .k
instance : Fld prog 75 12 22 := .k
instance : YO prog 72 := .k
instance : Slc prog 76 1 := .k
instance : ZY prog 76 5 1 1 [.int .u8 0] := .k
instance : YO prog 5 := .k
instance : Fld prog 40 3 13 := .k
instance : Fld prog 40 0 0 := .k
instance : Fld prog 40 10 20 := .k
instance : YO prog 37 := .k
instance : Siz prog 37 1 := .k
instance : Fld prog 40 5 15 := .k
instance : YO prog 32 := .k
instance : Fld prog 40 4 14 := .k
instance : YO prog 31 := .k
instance : Slc prog 31 1 := .k
instance : ZY prog 31 79 8 1 [.pointer none] := .k
instance : YO prog 79 := .k
instance : Fld prog 82 5 5 := .k
instance : YO prog 4 := .k
instance : Siz prog 4 1 := .k
instance : Fld prog 40 2 12 := .k
instance : Fld prog 82 2 2 := .k
instance : Zer prog 86 (.agg #[.int .i64 0, .int .i64 0, .int .i64 0, .int .i64 0, .int .i64 0, .int .i64 0]) := .k
instance : Agg prog 86 6 := .k
instance : Siz prog 86 6 := .k
instance : Fld prog 82 1 1 := .k
instance : Fld prog 40 11 21 := .k
instance : YO prog 38 := .k
instance : Fld prog 40 7 17 := .k
instance : YO prog 34 := .k
instance : Fld prog 40 6 16 := .k
instance : YO prog 33 := .k
instance : Yp prog 86 [(0, 1), (1, 1), (2, 1), (3, 1), (4, 1), (5, 1)] [.int .i64 0, .int .i64 0, .int .i64 0, .int .i64 0, .int .i64 0, .int .i64 0] := .k
instance : Slc prog 80 6 := .k
instance : ZY prog 80 86 48 6 [.int .i64 0, .int .i64 0, .int .i64 0, .int .i64 0, .int .i64 0, .int .i64 0] := .k
instance : Slc prog 49 1 := .k
instance : ZY prog 49 80 24 1 [.slice none 0 0] := .k
instance : Yp prog 65 [(0, 1), (1, 1), (2, 1), (3, 1), (4, 1), (5, 1)] [.int .i64 0, .int .i64 0, .int .i64 0, .int .i64 0, .int .i64 0, .int .i64 0] := .k
instance : Fld prog 30 7 7 := .k
instance : Fld prog 60 1 1 := .k
instance : YO prog 58 := .k
instance : Slc prog 58 1 := .k
instance : ZY prog 58 76 24 1 [.slice none 0 0] := .k
instance : YO prog 76 := .k
instance : Fld prog 30 1 1 := .k
instance : YO prog 24 := .k
instance : Fld prog 30 0 0 := .k
instance : YO prog 23 := .k
instance : Fld prog 30 2 2 := .k
instance : YO prog 25 := .k
instance : Fld prog 30 10 10 := .k
instance : YO prog 28 := .k
instance : Yp prog 82 [(0, 1), (1, 1), (2, 1), (3, 1), (4, 1), (5, 1)] [.slice none 0 0, .int .i64 0, .int .i64 0, .int .i64 0, .slice none 0 0, .bool false] := .k
instance : YO prog 80 := .k
instance : Fld prog 82 0 0 := .k
instance : Siz prog 80 1 := .k
instance : Siz prog 31 1 := .k
instance : Yp prog 75 [(0, 11), (11, 1), (12, 1), (13, 1), (14, 1), (15, 1), (16, 1), (17, 1), (18, 1), (19, 1), (20, 1), (21, 1), (22, 1), (23, 1), (24, 1), (25, 1)] [.slice none 0 0, .slice none 0 0, .slice none 0 0, .slice none 0 0, .int .i64 0, .slice none 0 0, .slice none 0 0, .int .i64 0, .int .i64 0, .int .i64 0, .slice none 0 0, .int .i64 0, .int .i64 0, .int .i64 0, .slice none 0 0, .slice none 0 0, .slice none 0 0, .slice none 0 0, .slice none 0 0, .slice none 0 0, .pointer none, .pointer none, .pointer none, .pointer none, .pointer none, .slice none 0 0] := .k
instance : Fld prog 75 10 20 := .k
instance : YO prog 70 := .k
instance : Fld prog 107 0 0 := .k
instance : YO prog 105 := .k
instance : Slc prog 105 11 := .k
instance : ZY prog 105 133 88 11 [.int .i64 0, .int .i64 0, .int .i64 0, .int .i64 0, .int .i64 0, .int .i64 0, .int .i64 0, .int .i64 0, .int .i64 0, .int .i64 0, .bool false] := .k
instance : Fld prog 75 4 14 := .k
instance : Siz prog 49 1 := .k
instance : Slc prog 28 1 := .k
instance : ZY prog 28 3 8 1 [.int .i64 0] := .k
instance : Fld prog 75 5 15 := .k
instance : Siz prog 28 1 := .k
instance : Fld prog 75 6 16 := .k
instance : Fld prog 75 7 17 := .k
instance : Fld prog 75 8 18 := .k
instance : Siz prog 58 1 := .k
instance : Slc prog 69 1 := .k
instance : ZY prog 69 4 1 1 [.bool false] := .k
instance : Fld prog 75 9 19 := .k
instance : YO prog 69 := .k
instance : Siz prog 69 1 := .k
instance : Fld prog 60 0 0 := .k
instance : Yp prog 110 [(0, 1), (1, 1), (2, 1)] [.int .i64 0, .slice none 0 0, .slice none 0 0] := .k
instance : Fld prog 110 0 0 := .k
instance : Slc prog 24 3 := .k
instance : ZY prog 24 112 24 3 [.int .i64 0, .int .i64 0, .int .i64 0] := .k
instance : Fld prog 112 2 2 := .k
instance : Fld prog 110 1 1 := .k
instance : Fld prog 110 2 2 := .k
instance : WK prog 113 := ⟨_, Tryz.underlying113⟩
instance : Fld prog 120 0 0 := .k
instance : Fld prog 116 1 1 := .k
instance : Fld prog 120 1 4 := .k
instance : YO prog 118 := .k
instance : Fld prog 123 0 0 := .k
instance : Fld prog 126 2 2 := .k
instance : Fld prog 126 0 0 := .k
instance : Fld prog 65 1 1 := .k
instance : Fld prog 65 2 2 := .k
instance : Fld prog 65 3 3 := .k
instance : Fld prog 65 4 4 := .k
instance : Fld prog 65 5 5 := .k
instance : Fld prog 75 3 13 := .k
instance : Fld prog 75 0 0 := .k
instance : Fld prog 75 14 24 := .k
instance : YO prog 61 := .k
instance : Siz prog 61 1 := .k
instance : Fld prog 75 2 12 := .k
instance : Fld prog 133 5 7 := .k
instance : Fld prog 75 15 25 := .k
instance : Fld prog 75 11 21 := .k
instance : YO prog 71 := .k
instance : Fld prog 135 1 1 := .k
instance : Fld prog 139 0 0 := .k
instance : Slc prog 25 4 := .k
instance : ZY prog 25 116 24 4 [.bool false, .bool false, .int .i64 0, .int .i64 0] := .k
instance : Fld prog 139 1 1 := .k
instance : YO prog 137 := .k
instance : Slc prog 137 1 := .k
instance : ZY prog 137 58 24 1 [.slice none 0 0] := .k
instance : Fld prog 139 3 3 := .k
instance : Fld prog 139 2 2 := .k
instance : WK prog 22 := ⟨_, Tryz.underlying22⟩
instance : WK prog 32 := ⟨_, Tryz.underlying32⟩
instance : Yp prog 145 [(0, 1), (1, 1), (2, 1)] [.int .i64 0, .slice none 0 0, .bool false] := .k
instance : Agg prog 112 3 := .k
instance : Zer prog 112 (.agg #[.int .i64 0, .int .i64 0, .int .i64 0]) := .k
instance : Siz prog 112 3 := .k
instance : Fld prog 145 1 1 := .k
instance : YO prog 143 := .k
instance : Yp prog 148 [(0, 1), (1, 1)] [.int .i64 0, .bool false] := .k
instance : Slc prog 143 1 := .k
instance : ZY prog 143 146 8 1 [.pointer none] := .k
instance : Siz prog 143 1 := .k
instance : Fld prog 155 0 0 := .k
instance : YO prog 153 := .k
instance : xc2 prog 153 (.agg #[.int .i64 0, .int .i64 0, .int .i64 0, .int .i64 0, .int .i64 0, .int .i64 0, .int .i64 0, .int .i64 0, .int .i64 0, .int .i64 0, .bool false]) := .k
instance : Zer prog 152 (.agg #[.int .i64 0, .int .i64 0, .int .i64 0, .int .i64 0, .int .i64 0, .int .i64 0, .int .i64 0, .int .i64 0, .int .i64 0, .int .i64 0, .bool false]) := .k
instance : Agg prog 152 11 := .k
instance : Siz prog 152 11 := .k
instance : Fld prog 152 6 10 := .k
instance : Fld prog 82 4 4 := .k
instance : WK prog 37 := ⟨_, Tryz.underlying37⟩
instance : WK prog 146 := ⟨_, Tryz.underlying146⟩
instance : Fld prog 148 0 0 := .k
instance : Fld prog 145 2 2 := .k
instance : Fld prog 145 0 0 := .k
instance : Zer prog 3 (.int .i64 0) := .k
instance : Fld prog 86 1 1 := .k
instance : Fld prog 86 2 2 := .k
instance : Zer prog 30 (.agg #[.slice none 0 0, .slice none 0 0, .slice none 0 0, .slice none 0 0, .int .i64 0, .slice none 0 0, .slice none 0 0, .int .i64 0, .int .i64 0, .int .i64 0, .slice none 0 0]) := .k
instance : Yp prog 112 [(0, 1), (1, 1), (2, 1)] [.int .i64 0, .int .i64 0, .int .i64 0] := .k
instance : Yp prog 30 [(0, 1), (1, 1), (2, 1), (3, 1), (4, 1), (5, 1), (6, 1), (7, 1), (8, 1), (9, 1), (10, 1)] [.slice none 0 0, .slice none 0 0, .slice none 0 0, .slice none 0 0, .int .i64 0, .slice none 0 0, .slice none 0 0, .int .i64 0, .int .i64 0, .int .i64 0, .slice none 0 0] := .k
instance : Siz prog 30 11 := .k
instance : Slc prog 23 3 := .k
instance : ZY prog 23 168 24 3 [.int .i64 0, .int .i64 0, .bool false] := .k
instance : Agg prog 168 3 := .k
instance : Zer prog 168 (.agg #[.int .i64 0, .int .i64 0, .bool false]) := .k
instance : Siz prog 168 3 := .k
instance : Fld prog 168 0 0 := .k
instance : Fld prog 168 1 1 := .k
instance : Fld prog 112 0 0 := .k
instance : Fld prog 112 1 1 := .k
instance : Agg prog 116 4 := .k
instance : Zer prog 116 (.agg #[.bool false, .bool false, .int .i64 0, .int .i64 0]) := .k
instance : Siz prog 116 4 := .k
instance : Fld prog 116 2 2 := .k
instance : Fld prog 116 0 0 := .k
instance : Fld prog 116 3 3 := .k
instance : Fld prog 30 8 8 := .k
instance : Fld prog 30 9 9 := .k
instance : Yp prog 155 [(0, 1), (1, 1)] [.map none, .int .i64 0] := .k
instance : Yp prog 152 [(0, 3), (3, 3), (6, 1), (7, 1), (8, 1), (9, 1), (10, 1)] [.int .i64 0, .int .i64 0, .int .i64 0, .int .i64 0, .int .i64 0, .int .i64 0, .int .i64 0, .int .i64 0, .int .i64 0, .int .i64 0, .bool false] := .k
instance : Yp prog 173 [(0, 1), (1, 1)] [.slice none 0 0, .bool false] := .k
instance : Fld prog 173 0 0 := .k
instance : YO prog 171 := .k
instance : Yp prog 176 [(0, 3), (3, 1)] [.int .i64 0, .int .i64 0, .bool false, .slice none 0 0] := .k
instance : Slc prog 171 1 := .k
instance : ZY prog 171 174 8 1 [.pointer none] := .k
instance : Siz prog 171 1 := .k
instance : Yp prog 179 [(0, 1)] [.slice none 0 0] := .k
instance : Yp prog 120 [(0, 4), (4, 1), (5, 1)] [.bool false, .bool false, .int .i64 0, .int .i64 0, .nilIface, .int .i64 0] := .k
instance : Fld prog 179 0 0 := .k
instance : YO prog 177 := .k
instance : Slc prog 177 1 := .k
instance : ZY prog 177 113 8 1 [.pointer none] := .k
instance : Siz prog 177 1 := .k
instance : Yp prog 193 [(0, 11), (11, 1), (12, 1), (13, 1), (14, 1)] [.slice none 0 0, .slice none 0 0, .slice none 0 0, .slice none 0 0, .int .i64 0, .slice none 0 0, .slice none 0 0, .int .i64 0, .int .i64 0, .int .i64 0, .slice none 0 0, .slice none 0 0, .slice none 0 0, .slice none 0 0, .slice none 0 0] := .k
instance : Yp prog 198 [(0, 10), (10, 1), (11, 1), (12, 1)] [.int .i64 0, .int .i64 0, .int .i64 0, .int .i64 0, .int .i64 0, .int .i64 0, .int .i64 0, .int .i64 0, .int .i64 0, .int .i64 0, .int .i64 0, .int .i64 0, .bool false] := .k
instance : Fld prog 198 0 0 := .k
instance : Fld prog 195 0 0 := .k
instance : Siz prog 76 1 := .k
instance : Yp prog 107 [(0, 1), (1, 1)] [.slice none 0 0, .int .i64 0] := .k
instance : Yp prog 133 [(0, 3), (3, 1), (4, 1), (5, 1), (6, 1), (7, 1), (8, 1), (9, 1), (10, 1)] [.int .i64 0, .int .i64 0, .int .i64 0, .int .i64 0, .int .i64 0, .int .i64 0, .int .i64 0, .int .i64 0, .int .i64 0, .int .i64 0, .bool false] := .k
instance : Siz prog 105 1 := .k
instance : Yp prog 135 [(0, 1), (1, 1)] [.slice none 0 0, .slice none 0 0] := .k
instance : Fld prog 135 0 0 := .k
instance : Siz prog 23 1 := .k
instance : Yp prog 139 [(0, 1), (1, 1), (2, 1), (3, 1)] [.slice none 0 0, .slice none 0 0, .slice none 0 0, .slice none 0 0] := .k
instance : Yp prog 201 [(0, 11), (11, 1), (12, 1), (13, 1), (14, 1)] [.slice none 0 0, .slice none 0 0, .slice none 0 0, .slice none 0 0, .int .i64 0, .slice none 0 0, .slice none 0 0, .int .i64 0, .int .i64 0, .int .i64 0, .slice none 0 0, .slice none 0 0, .slice none 0 0, .slice none 0 0, .slice none 0 0] := .k
instance : Fld prog 30 3 3 := .k
instance : YO prog 26 := .k
instance : Slc prog 26 2 := .k
instance : Fld prog 201 1 11 := .k
instance : Fld prog 203 0 0 := .k
instance : Fld prog 30 4 4 := .k
instance : Fld prog 201 2 12 := .k
instance : Fld prog 30 5 5 := .k
instance : YO prog 27 := .k
instance : Slc prog 27 2 := .k
instance : Fld prog 201 3 13 := .k
instance : Siz prog 137 1 := .k
instance : Fld prog 30 6 6 := .k
instance : Fld prog 201 4 14 := .k
instance : Fld prog 120 2 5 := .k
instance : YO prog 113 := .k
instance : Agg prog 133 11 := .k
instance : Zer prog 133 (.agg #[.int .i64 0, .int .i64 0, .int .i64 0, .int .i64 0, .int .i64 0, .int .i64 0, .int .i64 0, .int .i64 0, .int .i64 0, .int .i64 0, .bool false]) := .k
instance : Siz prog 133 11 := .k
instance : Fld prog 133 8 10 := .k
instance : Fld prog 133 0 0 := .k
instance : Fld prog 133 1 3 := .k
instance : Fld prog 133 4 6 := .k
instance : Fld prog 75 1 11 := .k
instance : Siz prog 38 1 := .k
instance : Fld prog 133 7 9 := .k
instance : YO prog 174 := .k
instance : Fld prog 176 1 3 := .k
instance : WK prog 61 := ⟨_, Tryz.underlying61⟩
instance : Fld prog 86 0 0 := .k
instance : xoe prog 4 := ⟨Tryz.underlying4⟩
instance : Fld prog 152 0 0 := .k
instance : Fld prog 152 2 6 := .k
instance : Fld prog 152 5 9 := .k
instance : Fld prog 40 1 11 := .k
instance : Fld prog 40 9 19 := .k
instance : YO prog 36 := .k
instance : Fld prog 82 3 3 := .k
instance : Fld prog 152 1 3 := .k
instance : Fld prog 150 2 2 := .k
instance : Fld prog 150 0 0 := .k
instance : Fld prog 150 1 1 := .k
instance : YO prog 146 := .k
instance : Fld prog 86 3 3 := .k
instance : Fld prog 40 8 18 := .k
instance : YO prog 35 := .k
instance : Fld prog 203 1 1 := .k
instance : Fld prog 228 0 0 := .k
instance : Fld prog 228 1 1 := .k
instance : Yp prog 123 [(0, 1), (1, 1)] [.slice none 0 0, .int .i64 0] := .k
instance : Siz prog 118 1 := .k
instance : Yp prog 126 [(0, 1), (1, 1), (2, 1)] [.slice none 0 0, .bool false, .bool false] := .k
instance : WK prog 35 := ⟨_, Tryz.underlying35⟩
instance : Fld prog 193 0 0 := .k
instance : Fld prog 193 1 11 := .k
instance : Agg prog 182 1 := .k
instance : Siz prog 182 1 := .k
instance : Fld prog 193 2 12 := .k
instance : Agg prog 185 1 := .k
instance : Siz prog 185 1 := .k
instance : Fld prog 193 3 13 := .k
instance : Agg prog 188 1 := .k
instance : Siz prog 188 1 := .k
instance : Fld prog 193 4 14 := .k
instance : Agg prog 191 1 := .k
instance : Siz prog 191 1 := .k
instance : Fld prog 152 3 7 := .k
instance : Fld prog 133 2 4 := .k
instance : Fld prog 107 1 1 := .k
instance : Fld prog 133 3 5 := .k
instance : Fld prog 133 6 8 := .k
instance : Fld prog 75 13 23 := .k
instance : YO prog 73 := .k
instance : Fld prog 155 1 1 := .k
instance : Fld prog 152 4 8 := .k
instance : Yp prog 150 [(0, 1), (1, 1), (2, 1)] [.int .i64 0, .int .i64 0, .int .i64 0] := .k
instance : Siz prog 150 3 := .k
instance : Fld prog 195 1 1 := .k
instance : Fld prog 198 1 10 := .k
instance : Fld prog 198 2 11 := .k
instance : WK prog 174 := ⟨_, Tryz.underlying174⟩
instance : Fld prog 176 0 0 := .k
instance : Fld prog 148 1 1 := .k
instance : Fld prog 86 4 4 := .k
instance : Fld prog 86 5 5 := .k
instance : WK prog 235 := ⟨_, Tryz.underlying235⟩
instance : WK prog 232 := ⟨_, Tryz.underlying232⟩
instance : Fld prog 231 1 2 := .k
instance : Fld prog 231 0 0 := .k
instance : WK prog 245 := ⟨_, Tryz.underlying245⟩
instance : Fld prog 244 0 0 := .k
instance : WK prog 240 := ⟨_, Tryz.underlying240⟩
instance : Fld prog 239 0 0 := .k
instance : Fld prog 239 1 2 := .k
instance : Fld prog 244 1 1 := .k
instance : Fld prog 244 2 2 := .k
instance : Siz prog 5 1 := .k
instance : Zer prog 182 (.agg #[.slice none 0 0]) := .k
instance : Agg prog 203 2 := .k
instance : Zer prog 203 (.agg #[.int .i64 0, .int .i64 0]) := .k
instance : Siz prog 203 2 := .k
instance : Fld prog 182 0 0 := .k
instance : YO prog 180 := .k
instance : Slc prog 180 1 := .k
instance : ZY prog 180 232 8 1 [.pointer none] := .k
instance : Siz prog 180 1 := .k
instance : Yp prog 231 [(0, 2), (2, 1)] [.int .i64 0, .int .i64 0, .int .i64 0] := .k
instance : Zer prog 185 (.agg #[.slice none 0 0]) := .k
instance : Fld prog 185 0 0 := .k
instance : YO prog 183 := .k
instance : Slc prog 183 1 := .k
instance : ZY prog 183 235 8 1 [.pointer none] := .k
instance : Siz prog 183 1 := .k
instance : Zer prog 188 (.agg #[.slice none 0 0]) := .k
instance : Agg prog 228 2 := .k
instance : Zer prog 228 (.agg #[.int .i64 0, .int .i64 0]) := .k
instance : Siz prog 228 2 := .k
instance : Fld prog 188 0 0 := .k
instance : YO prog 186 := .k
instance : Slc prog 186 1 := .k
instance : ZY prog 186 240 8 1 [.pointer none] := .k
instance : Siz prog 186 1 := .k
instance : Yp prog 239 [(0, 2), (2, 1)] [.int .i64 0, .int .i64 0, .slice none 0 0] := .k
instance : Zer prog 191 (.agg #[.slice none 0 0]) := .k
instance : Fld prog 191 0 0 := .k
instance : YO prog 189 := .k
instance : Slc prog 189 1 := .k
instance : ZY prog 189 245 8 1 [.pointer none] := .k
instance : Siz prog 189 1 := .k
instance : Yp prog 244 [(0, 1), (1, 1), (2, 1)] [.int .i64 0, .slice none 0 0, .bool false] := .k
instance : Fld prog 201 0 0 := .k
instance : WK prog 36 := ⟨_, Tryz.underlying36⟩
instance : Fld prog 198 3 12 := .k
instance : Fld prog 126 1 1 := .k
instance : Fld prog 168 2 2 := .k
instance : Fld prog 173 1 1 := .k
instance : YO prog 235 := .k
instance : YO prog 232 := .k
instance : YO prog 245 := .k
instance : YO prog 240 := .k
instance : Fld prog 123 1 1 := .k
