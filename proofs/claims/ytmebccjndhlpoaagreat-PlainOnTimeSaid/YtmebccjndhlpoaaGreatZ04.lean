import Derived.Test.YtmebccjndhlpoaaGreatProg
import Derived.Test.YtmebccjndhlpoaaGreatZ03
namespace Go.Proofs.YtmebccjndhlpoaaGreat
open Go Go.Wk Tryz
structure JO where
 first:Int
 most:Int
instance:Inhabited JO:=⟨⟨0,0⟩⟩
instance:En JO:=⟨fun d=>[.int .i64 d.first,.int .i64 d.most],2,fun _=>rfl,fun _=>rfl,by decide⟩
instance {l:List Xc} {a b:Int}:De l (.agg #[.int .i64 a,.int .i64 b]) (JO.mk a b):=⟨rfl⟩
structure JC where
 size:Int
 depth:Int
instance:Inhabited JC:=⟨⟨0,0⟩⟩
instance:En JC:=⟨fun d=>[.int .i64 d.size,.int .i64 d.depth],2,fun _=>rfl,fun _=>rfl,by decide⟩
instance {l:List Xc} {a b:Int}:De l (.agg #[.int .i64 a,.int .i64 b]) (JC.mk a b):=⟨rfl⟩
structure xcR where
 regions:SV
 procs:SV
 ports:SV
 sems:SV
 flags:Int
 pools:SV
 slates:SV
 cap:Int
 budget:Int
 ladder:Int
 acts:SV
instance:En xcR:=⟨fun d=>[d.regions.v,d.procs.v,d.ports.v,d.sems.v,.int .i64 d.flags,d.pools.v,d.slates.v,.int .i64 d.cap,.int .i64 d.budget,.int .i64 d.ladder,d.acts.v],11,fun _=>rfl,fun _=>rfl,by decide⟩
structure Zd where
 q:Bool
 i:Bool
 size:Int
 depth:Int
instance:Inhabited Zd:=⟨⟨false,false,0,0⟩⟩
instance:En Zd:=⟨fun d=>[.bool d.q,.bool d.i,.int .i64 d.size,.int .i64 d.depth],4,fun _=>rfl,fun _=>rfl,by decide⟩
instance {l:List Xc} {q i:Bool} {a b:Int}:De l (.agg #[.bool q,.bool i,.int .i64 a,.int .i64 b]) (Zd.mk q i a b):=⟨rfl⟩
structure xaL where
 base:Int
 size:Int
 w:Bool
instance:Inhabited xaL:=⟨⟨0,0,false⟩⟩
instance:En xaL:=⟨fun d=>[.int .i64 d.base,.int .i64 d.size,.bool d.w],3,fun _=>rfl,fun _=>rfl,by decide⟩
structure WZ where
 prio:Int
 period:Int
 cost:Int
instance:Inhabited WZ:=⟨⟨0,0,0⟩⟩
instance:En WZ:=⟨fun d=>[.int .i64 d.prio,.int .i64 d.period,.int .i64 d.cost],3,fun _=>rfl,fun _=>rfl,by decide⟩
structure YF where
 regions:SL xaL
 procs:SL WZ
 ports:SL Zd
 sems:SL JO
 flags:Int
 pools:SL JC
 slates:SL Int
 cap:Int
 budget:Int
 ladder:Int
 acts:SL Int
instance:Inhabited YF:=⟨⟨default,default,default,default,0,default,default,0,0,0,default⟩⟩
instance:En YF:=⟨fun d=>[d.regions.s.v,d.procs.s.v,d.ports.s.v,d.sems.s.v,.int .i64 d.flags,d.pools.s.v,d.slates.s.v,.int .i64 d.cap,.int .i64 d.budget,.int .i64 d.ladder,d.acts.s.v],11,fun _=>rfl,fun _=>rfl,by decide⟩
def YF.c (d:YF):xcR:=⟨d.regions.s,d.procs.s,d.ports.s,d.sems.s,d.flags,d.pools.s,d.slates.s,d.cap,d.budget,d.ladder,d.acts.s⟩
structure xBJ where
 fp:Int
 fo:Int
 tp:Int
 to:Int
instance:Inhabited xBJ:=⟨⟨0,0,0,0⟩⟩
instance:En xBJ:=⟨fun d=>[.int .i64 d.fp,.int .i64 d.fo,.int .i64 d.tp,.int .i64 d.to],4,fun _=>rfl,fun _=>rfl,by decide⟩
structure xCA where
 part:Int
 start:Int
 len:Int
instance:Inhabited xCA:=⟨⟨0,0,0⟩⟩
instance:En xCA:=⟨fun d=>[.int .i64 d.part,.int .i64 d.start,.int .i64 d.len],3,fun _=>rfl,fun _=>rfl,by decide⟩
structure xCz where
 frame:Int
 wins:SL xCA
instance:Inhabited xCz:=⟨⟨0,default⟩⟩
instance:En xCz:=⟨fun d=>[.int .i64 d.frame,d.wins.s.v],2,fun _=>rfl,fun _=>rfl,by decide⟩
structure xBH where
 freq:Int
 power:Int
instance:Inhabited xBH:=⟨⟨0,0⟩⟩
instance:En xBH:=⟨fun d=>[.int .i64 d.freq,.int .i64 d.power],2,fun _=>rfl,fun _=>rfl,by decide⟩
structure xCP where
 power:Int
 enter:Int
 wake:Int
instance:Inhabited xCP:=⟨⟨0,0,0⟩⟩
instance:En xCP:=⟨fun d=>[.int .i64 d.power,.int .i64 d.enter,.int .i64 d.wake],3,fun _=>rfl,fun _=>rfl,by decide⟩
structure xE0 where
 parts:SV
 chans:SV
 modes:SV
 levels:SV
 naps:SV
 sw:Int
 idle:Int
 change:Int
 quantum:Int
 slow:Int
 ppm:Int
 down:SV
 up:SV
instance:En xE0:=⟨fun d=>[d.parts.v,d.chans.v,d.modes.v,d.levels.v,d.naps.v,.int .i64 d.sw,.int .i64 d.idle,.int .i64 d.change,.int .i64 d.quantum,.int .i64 d.slow,.int .i64 d.ppm,d.down.v,d.up.v],13,fun _=>rfl,fun _=>rfl,by decide⟩
theorem xMx {x0 x1 y0 y1 t A B C D:Nat} (hA:A=x1*y1) (hB:B=x1*y0) (hC:C=x0*y1) (hD:D=x0*y0) (ht:t=B+D/4294967296):
  A+t/4294967296+(t%4294967296+C)/4294967296=((x1*4294967296+x0)*(y1*4294967296+y0))/18446744073709551616:=by
 have e: (x1*4294967296+x0)*(y1*4294967296+y0)=A*18446744073709551616+(B+C)*4294967296+D:=by
  rw[hA,hB,hC,hD,Nat.add_mul,Nat.mul_add,Nat.mul_add]
  rw[show x1*4294967296*(y1*4294967296)=x1*y1*18446744073709551616 by rw[Nat.mul_mul_mul_comm],show x1*4294967296*y0=x1*y0*4294967296 by rw[Nat.mul_right_comm],show x0*(y1*4294967296)=x0*y1*4294967296 by rw[Nat.mul_assoc]]
  omega
 rw[e]
 omega
structure xE5 (u v q r d1 d0 a0:Nat):Prop where
 hr:u=q*d1+r
 hq:q≤4294967297
 up:∀z,z*v≤u*4294967296+a0→z≤q
 dv:v=d1*4294967296+d0
theorem xKv {u v d1 d0 a0:Nat} (hv:v=d1*4294967296+d0) (h1:2147483648≤d1) (h0:d0<4294967296) (hu:u<v) (ha:a0<4294967296):xE5 u v (u/d1) (u%d1) d1 d0 a0:=by
 refine⟨?_,?_,fun z hz=>?_,hv⟩
 ·have:=Nat.div_add_mod u d1;rw[Nat.mul_comm];omega
 ·have:u/d1<4294967298:=by
   rw[Nat.div_lt_iff_lt_mul S.o]
   rw[hv]at hu
   omega
  omega
 ·refine(Nat.le_div_iff_mul_le S.o).2 ?_
  have h2:z*v=z*d1*4294967296+z*d0:=by rw[hv,Nat.mul_add,←Nat.mul_assoc]
  generalize z*d1=p at*
  generalize z*d0=p2 at*
  omega
theorem xMp {u v a:Nat} (hu:u<v) (ha:a<4294967296):u*4294967296+a<v*4294967296:=by omega
theorem xLs {u a r M p1 p0:Nat} (e:u=p1+r) (h:r*4294967296+a<p0) (h2:M=p1*4294967296+p0):u*4294967296+a<M:=by
 rw[e,h2,Nat.add_mul,Nat.add_assoc];exact Nat.add_lt_add_left h _
theorem xKW {u v q r d1 d0 a0:Nat} (h:xE5 u v q r d1 d0 a0) (hu:u<v) (ha:a0<4294967296) (hc:4294967296≤q∨r*4294967296+a0<q*d0):1≤q∧xE5 u v (q-1) (r+d1) d1 d0 a0∧q-1≤4294967296:=by
 obtain⟨e,hq,up,dv⟩:=h
 have hq1:1≤q:=by
  rcases Nat.eq_zero_or_pos q with h0|h0
  ·subst h0;rcases hc with h|h<;>omega
  ·exact h0
 obtain⟨p,rfl⟩:∃p,q=p+1:=⟨q-1,by omega⟩
 have hlt:u*4294967296+a0<(p+1)*v:=by
  rcases hc with h|h
  ·have h2:4294967296*v≤(p+1)*v:=Nat.mul_le_mul_right _ h
   refine Nat.lt_of_lt_of_le ?_ h2
   rw[Nat.mul_comm 4294967296 v]
   exact xMp hu ha
  ·have h2: (p+1)*v=(p+1)*d1*4294967296+(p+1)*d0:=by rw[dv,Nat.mul_add,←Nat.mul_assoc]
   exact xLs e h h2
 refine⟨hq1,⟨?_,by omega,fun z hz=>?_,dv⟩,by omega⟩
 ·rw[Nat.add_sub_cancel];rw[Nat.add_mul,Nat.one_mul]at e;omega
 ·have:=up z hz
  rcases Nat.lt_or_ge z (p+1)with h|h
  ·omega
  ·have:z=p+1:=by omega
   subst this
   omega
theorem xHI {u v q r d1 d0 a0:Nat} (h:xE5 u v q r d1 d0 a0) (hv:0<v) (hc:q*d0≤r*4294967296+a0):q=(u*4294967296+a0)/v∧u*4294967296+a0-q*v=(u*4294967296+a0)%v∧q*v≤u*4294967296+a0:=by
 obtain⟨e,hq,up,dv⟩:=h
 have hle:q*v≤u*4294967296+a0:=by
  have h2:q*v=q*d1*4294967296+q*d0:=by rw[dv,Nat.mul_add,←Nat.mul_assoc]
  omega
 have hq:q=(u*4294967296+a0)/v:=Nat.le_antisymm ((Nat.le_div_iff_mul_le hv).2 hle) (up _ (Nat.div_mul_le_self _ _))
 refine⟨hq,?_,hle⟩
 have:=Nat.div_add_mod (u*4294967296+a0) v
 rw[Nat.mul_comm,←hq]at this
 omega
theorem xLe {X a0 v:Nat} (hv:0<v):X/v*4294967296+(X%v*4294967296+a0)/v=(X*4294967296+a0)/v:=by
 have h:=Nat.div_add_mod X v
 obtain⟨q,hq⟩:∃q,q=X/v:=⟨_,rfl⟩
 obtain⟨r,hr⟩:∃r,r=X%v:=⟨_,rfl⟩
 rw[←hq,←hr]at h⊢
 have e:X*4294967296+a0=(r*4294967296+a0)+q*4294967296*v:=by
  have h1:q*4294967296*v=v*q*4294967296:=by rw[Nat.mul_right_comm,Nat.mul_comm q v]
  rw[h1,←h,Nat.add_mul];omega
 rw[e,Nat.add_mul_div_right _ _ hv,Nat.add_comm]
instance fn9:FnI prog 9 Tryz.f9 np:=.k Tryz.func9
noncomputable def xH7:Nat→Xj
 |3=>.r 0 8 (.e 8 [] (.r 9 5 .fin))
 |_=>.fin
instance xA3:FnI prog 12 Tryz.f12 xH7:=.k Tryz.func12
instance xAn:FnI prog 21 Tryz.f21 np:=.k Tryz.func21
instance xAY:FnI prog 24 Tryz.f24 np:=.k Tryz.func24
instance xO2:xqo prog 28:=⟨by kernel_rfl⟩
instance xPd:FnI prog 30 Tryz.f30 np:=.k Tryz.func30
instance xAj:FnI prog 32 Tryz.f32 np:=.k Tryz.func32
instance xAE:FnI prog 36 Tryz.f36 np:=.k Tryz.func36
instance xAA:FnI prog 38 Tryz.f38 np:=.k Tryz.func38
instance xA2:FnI prog 43 Tryz.f43 np:=.k Tryz.func43
instance xAU:FnI prog 45 Tryz.f45 np:=.k Tryz.func45
instance xBd:FnI prog 48 Tryz.f48 np:=.k Tryz.func48
instance xAZ:FnI prog 53 Tryz.f53 np:=.k Tryz.func53
noncomputable def xE8:Nat→Xj
 |17=>.r 0 19 (.e 19 [] (.r 20 1 .fin))
 |_=>.fin
instance xBf:FnI prog 56 Tryz.f56 xE8:=.k Tryz.func56
instance xAh:FnI prog 60 Tryz.f60 np:=.k Tryz.func60
instance xA9:FnI prog 62 Tryz.f62 np:=.k Tryz.func62
instance xBb:FnI prog 65 Tryz.f65 np:=.k Tryz.func65
noncomputable def xNP:Nat→Xj
 |5=>.r 0 9 (.e 9 [] .fin)
 |_=>.fin
instance xAm:FnI prog 69 Tryz.f69 xNP:=.k Tryz.func69
instance xBu:FnI prog 74 Tryz.f74 np:=.k Tryz.func74
instance xBm:FnI prog 76 Tryz.f76 np:=.k Tryz.func76
instance xAw:FnI prog 82 Tryz.f82 np:=.k Tryz.func82
noncomputable def xJk:Nat→Xj
 |8=>.r 0 10 (.e 10 [] (.r 11 5 .fin))
 |_=>.fin
instance xAo:FnI prog 85 Tryz.f85 xJk:=.k Tryz.func85
instance xAx:FnI prog 88 Tryz.f88 np:=.k Tryz.func88
noncomputable def xv8:Nat→Xj
 |1=>.r 0 8 (.e 8 [] (.r 9 5 .fin))
 |_=>.fin
instance xBk:FnI prog 90 Tryz.f90 xv8:=.k Tryz.func90
instance xBF:FnI prog 95 Tryz.f95 np:=.k Tryz.func95
instance xAS:FnI prog 97 Tryz.f97 np:=.k Tryz.func97
instance xzW:FnI prog 101 Tryz.f101 np:=.k Tryz.func101
instance xzg:FnI prog 105 Tryz.f105 np:=.k Tryz.func105
instance xzQ:FnI prog 109 Tryz.f109 np:=.k Tryz.func109
instance xx7:FnI prog 113 Tryz.f113 np:=.k Tryz.func113
noncomputable def xL3:Nat→Xj
 |5=>.r 0 6 (.e 6 [] .fin)
 |_=>.fin
instance xxZ:FnI prog 117 Tryz.f117 xL3:=.k Tryz.func117
noncomputable def xFC:Nat→Xj
 |3=>.r 0 15 (.e 15 [] (.r 16 1 .fin))
 |_=>.fin
instance xx2:FnI prog 123 Tryz.f123 xFC:=.k Tryz.func123
instance xyg:FnI prog 127 Tryz.f127 np:=.k Tryz.func127
instance xz1:FnI prog 130 Tryz.f130 np:=.k Tryz.func130
noncomputable def xHZ:Nat→Xj
 |4=>.r 0 11 .fin
 |_=>.fin
instance xx1:FnI prog 133 Tryz.f133 xHZ:=.k Tryz.func133
instance xyw:FnI prog 138 Tryz.f138 np:=.k Tryz.func138
instance xya:FnI prog 142 Tryz.f142 np:=.k Tryz.func142
instance xyd:FnI prog 145 Tryz.f145 np:=.k Tryz.func145
instance xzf:FnI prog 149 Tryz.f149 np:=.k Tryz.func149
instance xyf:FnI prog 153 Tryz.f153 np:=.k Tryz.func153
instance xxP:FnI prog 157 Tryz.f157 np:=.k Tryz.func157
instance xzp:FnI prog 161 Tryz.f161 np:=.k Tryz.func161
instance xzP:FnI prog 164 Tryz.f164 np:=.k Tryz.func164
noncomputable def xL0:Nat→Xj
 |5=>.r 0 4 (.e 4 [0,1] (.e 5 [0,1] (.e 6 [] (.r 7 1 (.e 8 [] .fin)))))
 |_=>.fin
instance xyY:FnI prog 165 Tryz.f165 xL0:=.k Tryz.func165
instance xzl:FnI prog 172 Tryz.f172 np:=.k Tryz.func172
instance xyx:FnI prog 174 Tryz.f174 np:=.k Tryz.func174
noncomputable def xMe:Nat→Xj
 |8=>.r 0 6 (.e 6 [] .fin)
 |_=>.fin
instance xyR:FnI prog 177 Tryz.f177 xMe:=.k Tryz.func177
instance xyG:FnI prog 182 Tryz.f182 np:=.k Tryz.func182
noncomputable def xtl:Nat→Xj
 |2=>.r 0 12 .fin
 |_=>.fin
instance xzw:FnI prog 186 Tryz.f186 xtl:=.k Tryz.func186
instance xAd:FnI prog 192 Tryz.f192 np:=.k Tryz.func192
noncomputable def xDn:Nat→Xj
 |1=>.r 0 6 (.e 6 [] (.r 7 1 .fin))
 |2=>.r 0 9 (.e 9 [] (.r 10 1 .fin))
 |6=>.r 0 6 (.e 6 [] (.r 7 5 .fin))
 |11=>.r 0 6 (.e 6 [] (.r 7 1 .fin))
 |15=>.r 0 7 (.e 7 [] (.r 8 1 .fin))
 |_=>.fin
instance xzM:FnI prog 196 Tryz.f196 xDn:=.k Tryz.func196
instance xxW:FnI prog 199 Tryz.f199 np:=.k Tryz.func199
instance xy6:FnI prog 200 Tryz.f200 np:=.k Tryz.func200
instance xyj:FnI prog 203 Tryz.f203 np:=.k Tryz.func203
instance xzN:FnI prog 205 Tryz.f205 np:=.k Tryz.func205
instance xyF:FnI prog 209 Tryz.f209 np:=.k Tryz.func209
instance xyz:FnI prog 214 Tryz.f214 np:=.k Tryz.func214
noncomputable def xMf:Nat→Xj
 |6=>.r 0 7 (.e 7 [] (.r 8 17 (.e 25 [] (.r 26 2 .fin))))
 |_=>.fin
instance xyi:FnI prog 217 Tryz.f217 xMf:=.k Tryz.func217
instance xzS:FnI prog 224 Tryz.f224 np:=.k Tryz.func224
instance xy4:FnI prog 227 Tryz.f227 np:=.k Tryz.func227
instance xx8:FnI prog 231 Tryz.f231 np:=.k Tryz.func231
instance xzT:FnI prog 234 Tryz.f234 np:=.k Tryz.func234
instance xzX:FnI prog 237 Tryz.f237 np:=.k Tryz.func237
instance xzU:FnI prog 240 Tryz.f240 np:=.k Tryz.func240
instance xyB:FnI prog 243 Tryz.f243 np:=.k Tryz.func243
noncomputable def xli:Nat→Xj
 |4=>.r 0 11 .fin
 |_=>.fin
instance xyL:FnI prog 245 Tryz.f245 xli:=.k Tryz.func245
instance xOJ:FnI prog 252 Tryz.f252 np:=.k Tryz.func252
instance xPa:FnI prog 254 Tryz.f254 np:=.k Tryz.func254
instance xOr:FnI prog 257 Tryz.f257 np:=.k Tryz.func257
instance xOz:FnI prog 261 Tryz.f261 np:=.k Tryz.func261
instance xPb:FnI prog 264 Tryz.f264 np:=.k Tryz.func264
instance xx0:FnI prog 268 Tryz.f268 np:=.k Tryz.func268
noncomputable def xD5:Nat→Xj
 |6=>.r 0 8 .fin
 |_=>.fin
instance xOy:FnI prog 272 Tryz.f272 xD5:=.k Tryz.func272
instance xOR:FnI prog 278 Tryz.f278 np:=.k Tryz.func278
instance xOG:FnI prog 282 Tryz.f282 np:=.k Tryz.func282
instance xOE:FnI prog 285 Tryz.f285 np:=.k Tryz.func285
instance xO5:FnI prog 289 Tryz.f289 np:=.k Tryz.func289
instance xOt:FnI prog 293 Tryz.f293 np:=.k Tryz.func293
noncomputable def xJR:Nat→Xj
 |1=>.r 0 10 .fin
 |3=>.r 0 6 (.e 6 [2,3,4] (.e 7 [2,3,4] (.e 8 [] (.r 9 2 (.e 11 [] .fin)))))
 |_=>.fin
instance xOU:FnI prog 317 Tryz.f317 xJR:=.k Tryz.func317
noncomputable def pl4:Nat→Xj
 |13=>.r 0 2 (.r 4 2 (.e 2 [4,5] (.e 3 [4,5] (.e 6 [] (.r 7 1 (.e 8 [] .fin))))))
 |_=>.fin
instance fn4:FnI prog 4 Tryz.f4 pl4:=.k Tryz.func4
instance xBw:FnI prog 10 Tryz.f10 np:=.k Tryz.func10
noncomputable def xE2:Nat→Xj
 |7=>.r 0 14 .fin
 |_=>.fin
instance xA6:FnI prog 13 Tryz.f13 xE2:=.k Tryz.func13
noncomputable def xPc:Nat→Xj
 |6=>.r 0 39 .fin
 |_=>.fin
noncomputable def xH1:Xj:=.r 7 1 (.e 8 [] (.r 9 1 .fin))
noncomputable def xrH:Nat→Xj
 |1=>.r 0 2 (.r 3 3 (.br (.e 2 [0,3,4,5] (.e 6 [0,1] xH1)) (.e 6 [0,1] (.e 2 [0,3,4,5] xH1))))
 |5=>.r 0 4 (.e 4 [0] (.e 5 [] (.r 6 1 .fin)))
 |7=>.r 0 6 (.e 6 [2,3,4] (.e 7 [2,3,4] (.e 8 [] (.r 9 2 (.e 11 [] .fin)))))
 |_=>.fin
theorem xMr:type_of%(And.intro @xrH.eq_def @xH1.eq_def):=And.intro @xrH.eq_def @xH1.eq_def
instance xBa:FnI prog 25 Tryz.f25 xrH:=.k Tryz.func25
noncomputable def xLf:Nat→Xj
 |5=>.r 0 15 (.e 15 [2,3,4] (.e 16 [2,3,4] (.e 17 [] (.r 18 2 (.e 20 [] .fin)))))
 |_=>.fin
instance xAR:FnI prog 40 Tryz.f40 xLf:=.k Tryz.func40
instance xBe:FnI prog 46 Tryz.f46 np:=.k Tryz.func46
instance xAJ:FnI prog 49 Tryz.f49 np:=.k Tryz.func49
instance xAp:FnI prog 52 Tryz.f52 np:=.k Tryz.func52
noncomputable def xD6:Nat→Xj
 |10=>.r 0 37 .fin
 |_=>.fin
instance xAB:FnI prog 54 Tryz.f54 xD6:=.k Tryz.func54
instance xAl:FnI prog 58 Tryz.f58 np:=.k Tryz.func58
instance xAk:FnI prog 61 Tryz.f61 np:=.k Tryz.func61
instance xBc:FnI prog 64 Tryz.f64 np:=.k Tryz.func64
instance xAK:FnI prog 68 Tryz.f68 np:=.k Tryz.func68
noncomputable def Wp:Nat→Xj
 |6=>.r 0 10 (.e 10 [] .fin)
 |_=>.fin
instance xBt:FnI prog 73 Tryz.f73 Wp:=.k Tryz.func73
instance xBE:FnI prog 79 Tryz.f79 np:=.k Tryz.func79
instance xAi:FnI prog 83 Tryz.f83 np:=.k Tryz.func83
instance xBn:FnI prog 86 Tryz.f86 np:=.k Tryz.func86
noncomputable def xM3:Nat→Xj
 |1=>.r 0 15 (.e 15 [] (.r 16 3 (.e 19 [] .fin)))
 |_=>.fin
instance xAs:FnI prog 87 Tryz.f87 xM3:=.k Tryz.func87
instance xO7:xqo prog 91:=⟨by kernel_rfl⟩
noncomputable def xDZ:Nat→Xj
 |6=>.r 0 6 (.e 6 [] (.r 7 13 (.e 20 [] (.r 21 1 .fin))))
 |_=>.fin
instance xBr:FnI prog 93 Tryz.f93 xDZ:=.k Tryz.func93
instance xAM:FnI prog 98 Tryz.f98 np:=.k Tryz.func98
instance xyb:FnI prog 102 Tryz.f102 np:=.k Tryz.func102
instance xy5:FnI prog 106 Tryz.f106 np:=.k Tryz.func106
instance xzr:FnI prog 110 Tryz.f110 np:=.k Tryz.func110
instance xza:FnI prog 114 Tryz.f114 np:=.k Tryz.func114
instance xzq:FnI prog 118 Tryz.f118 np:=.k Tryz.func118
noncomputable def xL5:Nat→Xj
 |5=>.r 0 6 (.e 6 [] .fin)
 |_=>.fin
instance xxM:FnI prog 121 Tryz.f121 xL5:=.k Tryz.func121
instance xAb:FnI prog 124 Tryz.f124 np:=.k Tryz.func124
noncomputable def xo7:Nat→Xj
 |1=>.r 0 1 (.r 2 5 (.e 1 [3,4,5,6] (.r 7 2 .fin)))
 |_=>.fin
instance xzk:FnI prog 128 Tryz.f128 xo7:=.k Tryz.func128
instance xyH:FnI prog 136 Tryz.f136 np:=.k Tryz.func136
instance xy9:FnI prog 137 Tryz.f137 np:=.k Tryz.func137
noncomputable def VW:Nat→Xj
 |4=>.r 0 11 (.e 11 [] (.r 12 1 .fin))
 |_=>.fin
instance xzD:FnI prog 141 Tryz.f141 VW:=.k Tryz.func141
instance xyq:FnI prog 146 Tryz.f146 np:=.k Tryz.func146
instance xzo:FnI prog 150 Tryz.f150 np:=.k Tryz.func150
instance xzm:FnI prog 154 Tryz.f154 np:=.k Tryz.func154
noncomputable def xH2:Nat→Xj
 |1=>.r 0 6 (.e 6 [] (.r 7 13 (.e 20 [] (.r 21 2 .fin))))
 |3=>.r 0 11 (.e 11 [] (.r 12 1 .fin))
 |_=>.fin
instance xyA:FnI prog 158 Tryz.f158 xH2:=.k Tryz.func158
instance xyr:FnI prog 166 Tryz.f166 np:=.k Tryz.func166
noncomputable def xhh:Nat→Xj
 |5=>.r 0 4 (.e 4 [0,1] (.e 5 [0,1] (.e 6 [] (.r 7 1 (.e 8 [] .fin)))))
 |_=>.fin
instance xz2:FnI prog 169 Tryz.f169 xhh:=.k Tryz.func169
noncomputable def xHs:Nat→Xj
 |7=>.r 0 6 (.e 6 [] .fin)
 |_=>.fin
instance xxQ:FnI prog 175 Tryz.f175 xHs:=.k Tryz.func175
instance xzb:FnI prog 180 Tryz.f180 np:=.k Tryz.func180
instance xzn:FnI prog 183 Tryz.f183 np:=.k Tryz.func183
instance xyn:FnI prog 187 Tryz.f187 np:=.k Tryz.func187
instance xyc:FnI prog 189 Tryz.f189 np:=.k Tryz.func189
noncomputable def xCB:Nat→Xj
 |8=>.r 0 6 (.e 6 [] (.r 7 1 .fin))
 |13=>.r 0 8 (.e 8 [] .fin)
 |16=>.r 0 6 (.e 6 [] .fin)
 |19=>.r 0 7 (.e 7 [] .fin)
 |_=>.fin
instance xx4:FnI prog 193 Tryz.f193 xCB:=.k Tryz.func193
noncomputable def xDK:Nat→Xj
 |2=>.r 0 9 (.e 9 [] (.r 10 1 .fin))
 |4=>.r 0 6 (.e 6 [] (.r 7 1 .fin))
 |14=>.r 0 9 (.e 9 [2] (.e 10 [] .fin))
 |17=>.r 0 6 (.e 6 [] (.r 7 5 .fin))
 |8=>.r 0 10 (.e 10 [2] (.e 11 [] .fin))
 |9=>.r 0 6 (.e 6 [] (.r 7 1 .fin))
 |11=>.r 0 6 (.e 6 [] (.r 7 1 .fin))
 |_=>.fin
instance xy2:FnI prog 197 Tryz.f197 xDK:=.k Tryz.func197
instance xzE:FnI prog 206 Tryz.f206 np:=.k Tryz.func206
instance xye:FnI prog 210 Tryz.f210 np:=.k Tryz.func210
noncomputable def xMc:Nat→Xj
 |3=>.r 0 12 (.e 12 [] .fin)
 |_=>.fin
instance xx3:FnI prog 213 Tryz.f213 xMc:=.k Tryz.func213
instance xzB:FnI prog 218 Tryz.f218 np:=.k Tryz.func218
instance xzI:FnI prog 221 Tryz.f221 np:=.k Tryz.func221
instance xzC:FnI prog 225 Tryz.f225 np:=.k Tryz.func225
instance xz4:FnI prog 228 Tryz.f228 np:=.k Tryz.func228
instance xyE:FnI prog 232 Tryz.f232 np:=.k Tryz.func232
instance xyo:FnI prog 235 Tryz.f235 np:=.k Tryz.func235
noncomputable def xGi:Nat→Xj
 |4=>.r 0 8 (.e 8 [] (.r 9 5 .fin))
 |_=>.fin
instance xyX:FnI prog 239 Tryz.f239 xGi:=.k Tryz.func239
instance xxU:FnI prog 244 Tryz.f244 np:=.k Tryz.func244
instance xxT:FnI prog 247 Tryz.f247 np:=.k Tryz.func247
noncomputable def xGr:Nat→Xj
 |1=>.r 0 18 (.e 18 [] (.r 19 2 .fin))
 |_=>.fin
instance xxR:FnI prog 250 Tryz.f250 xGr:=.k Tryz.func250
instance xOI:FnI prog 256 Tryz.f256 np:=.k Tryz.func256
noncomputable def xMa:Nat→Xj
 |1=>.r 0 1 (.r 3 2 (.e 1 [3,4] (.r 2 1 (.r 5 1 (.e 6 [] .fin)))))
 |_=>.fin
instance xO8:FnI prog 259 Tryz.f259 xMa:=.k Tryz.func259
instance xOq:FnI prog 266 Tryz.f266 np:=.k Tryz.func266
instance xz8:FnI prog 270 Tryz.f270 np:=.k Tryz.func270
instance xOF:FnI prog 274 Tryz.f274 np:=.k Tryz.func274
instance xOZ:FnI prog 277 Tryz.f277 np:=.k Tryz.func277
instance xOS:FnI prog 281 Tryz.f281 np:=.k Tryz.func281
instance xOL:FnI prog 284 Tryz.f284 np:=.k Tryz.func284
instance xOX:FnI prog 288 Tryz.f288 np:=.k Tryz.func288
instance xO3:FnI prog 291 Tryz.f291 np:=.k Tryz.func291
instance xOW:FnI prog 295 Tryz.f295 np:=.k Tryz.func295
instance xOT:FnI prog 319 Tryz.f319 np:=.k Tryz.func319
instance xAy:FnI prog 14 Tryz.f14 np:=.k Tryz.func14
instance xBl:FnI prog 23 Tryz.f23 np:=.k Tryz.func23
noncomputable def xnR:Nat→Xj
 |2=>.r 0 11 (.r 13 1 (.e 11 [] (.r 12 1 .fin)))
 |5=>.r 0 12 (.e 12 [] (.r 13 1 .fin))
 |8=>.r 0 8 (.e 8 [2,3,4,5] (.e 9 [] (.r 10 3 (.e 13 [] .fin))))
 |9=>.r 0 8 (.e 8 [2,3,4,5] (.e 9 [] (.r 10 3 (.e 13 [] .fin))))
 |10=>.r 0 10 (.e 10 [2,3,4,5] (.e 11 [2,3,4,5] (.e 12 [] (.r 13 3 (.e 16 [] .fin)))))
 |_=>.fin
instance xBj:FnI prog 27 Tryz.f27 xnR:=.k Tryz.func27
instance xBB:FnI prog 39 Tryz.f39 np:=.k Tryz.func39
instance xPe:FnI prog 42 Tryz.f42 np:=.k Tryz.func42
instance xAg:FnI prog 44 Tryz.f44 np:=.k Tryz.func44
noncomputable def xGO:Nat→Xj
 |2=>.r 0 6 (.e 6 [1,2,3] (.e 7 [] (.r 8 1 .fin)))
 |4=>.r 0 7 (.e 7 [1,2,3] (.e 8 [] .fin))
 |6=>.r 0 12 (.r 13 4 (.e 12 [2,3,4,5,7,8,9,14,15,16] (.e 17 [2,3,4,5] (.e 18 [] (.r 19 3 (.e 22 [] .fin))))))
 |_=>.fin
instance xAN:FnI prog 47 Tryz.f47 xGO:=.k Tryz.func47
noncomputable def xGm:Nat→Xj
 |6=>.r 0 5 (.e 5 [] (.r 6 6 (.e 12 [] (.r 13 14 .fin))))
 |8=>.r 0 30 .fin
 |_=>.fin
instance xAP:FnI prog 57 Tryz.f57 xGm:=.k Tryz.func57
instance xAF:FnI prog 63 Tryz.f63 np:=.k Tryz.func63
instance xA4:FnI prog 67 Tryz.f67 np:=.k Tryz.func67
instance xBy:FnI prog 71 Tryz.f71 np:=.k Tryz.func71
instance xAV:FnI prog 72 Tryz.f72 np:=.k Tryz.func72
instance xA5:FnI prog 75 Tryz.f75 np:=.k Tryz.func75
instance xAQ:FnI prog 78 Tryz.f78 np:=.k Tryz.func78
instance xBg:FnI prog 81 Tryz.f81 np:=.k Tryz.func81
noncomputable def xMt:Nat→Xj
 |4=>.r 0 15 (.r 16 4 (.e 15 [1,2,3,5,6,7,8,9,17,18,19] (.e 20 [1,2,3,5,6,7,8,9] (.r 21 2 .fin))))
 |_=>.fin
instance xAI:FnI prog 84 Tryz.f84 xMt:=.k Tryz.func84
instance xAu:FnI prog 89 Tryz.f89 np:=.k Tryz.func89
noncomputable def xKw:Nat→Xj
 |1=>.r 0 30 .fin
 |_=>.fin
instance xAX:FnI prog 94 Tryz.f94 xKw:=.k Tryz.func94
instance xBs:FnI prog 99 Tryz.f99 np:=.k Tryz.func99
instance xxL:FnI prog 104 Tryz.f104 np:=.k Tryz.func104
instance xyW:FnI prog 108 Tryz.f108 np:=.k Tryz.func108
instance xzv:FnI prog 112 Tryz.f112 np:=.k Tryz.func112
instance xyl:FnI prog 116 Tryz.f116 np:=.k Tryz.func116
noncomputable def xHW:Nat→Xj
 |5=>.r 0 9 (.e 9 [2,3,4] (.e 10 [2,3,4] (.e 11 [] (.r 12 2 (.e 14 [] .fin)))))
 |_=>.fin
instance xyU:FnI prog 120 Tryz.f120 xHW:=.k Tryz.func120
instance xyN:FnI prog 126 Tryz.f126 np:=.k Tryz.func126
instance xy7:FnI prog 129 Tryz.f129 np:=.k Tryz.func129
instance xze:FnI prog 131 Tryz.f131 np:=.k Tryz.func131
noncomputable def xaR:Nat→Xj
 |13=>.r 0 8 (.e 8 [] .fin)
 |39=>.r 0 8 (.e 8 [] .fin)
 |_=>.fin
instance xyP:FnI prog 135 Tryz.f135 xaR:=.k Tryz.func135
instance xyV:FnI prog 140 Tryz.f140 np:=.k Tryz.func140
instance xyJ:FnI prog 144 Tryz.f144 np:=.k Tryz.func144
instance xyK:FnI prog 148 Tryz.f148 np:=.k Tryz.func148
instance xz7:FnI prog 152 Tryz.f152 np:=.k Tryz.func152
instance xyp:FnI prog 156 Tryz.f156 np:=.k Tryz.func156
instance xzA:FnI prog 160 Tryz.f160 np:=.k Tryz.func160
noncomputable def xL4:Nat→Xj
 |1=>.r 0 11 (.e 11 [] (.r 12 1 .fin))
 |_=>.fin
instance xys:FnI prog 163 Tryz.f163 xL4:=.k Tryz.func163
instance xz3:FnI prog 168 Tryz.f168 np:=.k Tryz.func168
instance xzz:FnI prog 170 Tryz.f170 np:=.k Tryz.func170
instance xyv:FnI prog 173 Tryz.f173 np:=.k Tryz.func173
instance xyC:FnI prog 176 Tryz.f176 np:=.k Tryz.func176
noncomputable def xi1:Nat→Xj
 |0=>.r 0 18 (.e 18 [2,3,4] (.e 19 [] (.r 20 2 (.e 22 [] .fin))))
 |_=>.fin
instance xyS:FnI prog 178 Tryz.f178 xi1:=.k Tryz.func178
instance xyQ:FnI prog 185 Tryz.f185 np:=.k Tryz.func185
instance xym:FnI prog 188 Tryz.f188 np:=.k Tryz.func188
instance xyO:FnI prog 191 Tryz.f191 np:=.k Tryz.func191
noncomputable def xhr:Nat→Xj
 |1=>.r 0 6 (.e 6 [] (.r 7 5 .fin))
 |7=>.r 0 9 (.e 9 [2] (.e 10 [] .fin))
 |9=>.r 0 6 (.e 6 [] (.r 7 1 .fin))
 |13=>.r 0 9 (.e 9 [2] (.e 10 [] .fin))
 |15=>.r 0 9 (.e 9 [2] (.e 10 [] .fin))
 |16=>.r 0 6 (.e 6 [] (.r 7 1 .fin))
 |18=>.r 0 6 (.e 6 [] (.r 7 1 .fin))
 |21=>.r 0 9 (.e 9 [2] (.e 10 [] .fin))
 |_=>.fin
instance xyt:FnI prog 195 Tryz.f195 xhr:=.k Tryz.func195
instance xz9:FnI prog 201 Tryz.f201 np:=.k Tryz.func201
instance xxY:FnI prog 202 Tryz.f202 np:=.k Tryz.func202
instance xzH:FnI prog 208 Tryz.f208 np:=.k Tryz.func208
noncomputable def xld:Nat→Xj
 |1=>.r 0 35 .fin
 |_=>.fin
instance xyT:FnI prog 212 Tryz.f212 xld:=.k Tryz.func212
instance xzZ:FnI prog 216 Tryz.f216 np:=.k Tryz.func216
instance xyh:FnI prog 220 Tryz.f220 np:=.k Tryz.func220
instance xz5:FnI prog 223 Tryz.f223 np:=.k Tryz.func223
instance xxO:FnI prog 226 Tryz.f226 np:=.k Tryz.func226
instance xzj:FnI prog 230 Tryz.f230 np:=.k Tryz.func230
noncomputable def xMd:Nat→Xj
 |5=>.r 0 6 (.e 6 [] .fin)
 |_=>.fin
instance xyZ:FnI prog 233 Tryz.f233 xMd:=.k Tryz.func233
noncomputable def xHw:Nat→Xj
 |3=>.r 0 7 (.e 7 [] .fin)
 |_=>.fin
instance xxV:FnI prog 238 Tryz.f238 xHw:=.k Tryz.func238
instance xAc:FnI prog 242 Tryz.f242 np:=.k Tryz.func242
instance xzK:FnI prog 246 Tryz.f246 np:=.k Tryz.func246
instance xzu:FnI prog 249 Tryz.f249 np:=.k Tryz.func249
instance xOQ:FnI prog 253 Tryz.f253 np:=.k Tryz.func253
instance xOA:FnI prog 255 Tryz.f255 np:=.k Tryz.func255
instance xOM:FnI prog 258 Tryz.f258 np:=.k Tryz.func258
instance xOY:FnI prog 262 Tryz.f262 np:=.k Tryz.func262
instance xOu:FnI prog 265 Tryz.f265 np:=.k Tryz.func265
instance xOj:xqo prog 269:=⟨by kernel_rfl⟩
instance xOw:FnI prog 273 Tryz.f273 np:=.k Tryz.func273
instance xO6:FnI prog 276 Tryz.f276 np:=.k Tryz.func276
noncomputable def xMh:Nat→Xj
 |5=>.r 0 6 (.e 6 [] (.r 7 1 .fin))
 |_=>.fin
instance xOO:FnI prog 280 Tryz.f280 xMh:=.k Tryz.func280
instance xOH:FnI prog 287 Tryz.f287 np:=.k Tryz.func287
instance xOv:FnI prog 290 Tryz.f290 np:=.k Tryz.func290
instance xOB:FnI prog 294 Tryz.f294 np:=.k Tryz.func294
instance fn6:FnI prog 6 Tryz.f6 np:=.k Tryz.func6
instance fn7:FnI prog 7 Tryz.f7 np:=.k Tryz.func7
instance fn8:FnI prog 8 Tryz.f8 np:=.k Tryz.func8
instance xAt:FnI prog 11 Tryz.f11 np:=.k Tryz.func11
noncomputable def xLC:Nat→Xj
 |6=>.r 0 76 .fin
 |_=>.fin
instance xAG:FnI prog 15 Tryz.f15 xLC:=.k Tryz.func15
instance xBh:FnI prog 22 Tryz.f22 np:=.k Tryz.func22
instance xOV:xqo prog 26:=⟨by kernel_rfl⟩
instance xAz:FnI prog 29 Tryz.f29 np:=.k Tryz.func29
instance xAT:FnI prog 31 Tryz.f31 np:=.k Tryz.func31
instance xBD:FnI prog 33 Tryz.f33 np:=.k Tryz.func33
instance xA1:FnI prog 35 Tryz.f35 np:=.k Tryz.func35
instance xAO:FnI prog 37 Tryz.f37 np:=.k Tryz.func37
noncomputable def xGy:Nat→Xj
 |1=>.r 0 4 (.r 5 2 (.r 8 2 (.r 11 1 (.r 13 2 (.e 4 [0,5,6,8,9,11,13,14] (.e 7 [0,8,9,11,13,14] (.e 10 [0,11,13,14] (.e 12 [0,13,14] (.e 15 [0] (.r 16 1 (.e 17 [] (.r 18 1 .fin))))))))))))
 |_=>.fin
instance xBz:FnI prog 41 Tryz.f41 xGy:=.k Tryz.func41
noncomputable def xch:Nat→Xj
 |1=>.r 0 17 (.e 17 [] (.r 18 10 (.e 28 [] (.r 29 2 .fin))))
 |4=>.r 0 13 (.e 13 [0,1,2,3,4,5,6,7,8,9,10,11,12] (.e 14 [] .fin))
 |5=>.r 0 13 (.e 13 [0,1,2,3,4,5,6,7,8,9,10,11,12] (.e 14 [] .fin))
 |11=>.r 0 24 .fin
 |_=>.fin
instance xAC:FnI prog 55 Tryz.f55 xch:=.k Tryz.func55
instance xAH:FnI prog 66 Tryz.f66 np:=.k Tryz.func66
noncomputable def xLt:Nat→Xj
 |5=>.r 0 10 (.e 10 [2,3,4,5] (.r 11 1 (.e 12 [2,3,4] (.e 13 [2,3,4] (.e 14 [] (.r 15 2 (.e 17 [] .fin)))))))
 |_=>.fin
instance xA8:FnI prog 70 Tryz.f70 xLt:=.k Tryz.func70
instance xA7:FnI prog 77 Tryz.f77 np:=.k Tryz.func77
noncomputable def xHM:Xj:=.e 14 [0,1] (.r 15 1 (.e 17 [] .fin))
noncomputable def xMu:Nat→Xj
 |1=>.r 0 7 (.r 8 6 (.br (.e 7 [0,1,8,9,10,11,12,13] (.br (.e 14 [0,1] (.r 15 1 (.e 16 [0,1,2,3,4,5,6,8,9,10,11,12,13,15] (.e 17 [] .fin)))) (.e 16 [0,1,2,3,4,5,6,8,9,10,11,12,13] xHM))) (.e 16 [0,1,2,3,4,5,6,8,9,10,11,12,13] (.e 7 [0,1,8,9,10,11,12,13] xHM))))
 |_=>.fin
theorem xOa:type_of%(And.intro @xMu.eq_def @xHM.eq_def):=And.intro @xMu.eq_def @xHM.eq_def
instance xAf:FnI prog 80 Tryz.f80 xMu:=.k Tryz.func80
instance xBq:FnI prog 96 Tryz.f96 np:=.k Tryz.func96
instance xz0:FnI prog 100 Tryz.f100 np:=.k Tryz.func100
instance xyI:FnI prog 103 Tryz.f103 np:=.k Tryz.func103
instance xzG:FnI prog 107 Tryz.f107 np:=.k Tryz.func107
instance xxS:FnI prog 111 Tryz.f111 np:=.k Tryz.func111
instance xzd:FnI prog 115 Tryz.f115 np:=.k Tryz.func115
instance xzx:FnI prog 119 Tryz.f119 np:=.k Tryz.func119
noncomputable def xEx:Nat→Xj
 |0=>.r 0 8 (.e 8 [] (.r 9 5 .fin))
 |_=>.fin
instance xy0:FnI prog 122 Tryz.f122 xEx:=.k Tryz.func122
noncomputable def xGl:Nat→Xj
 |0=>.r 0 8 (.r 10 1 (.e 8 [] (.r 9 1 .fin)))
 |_=>.fin
instance xzt:FnI prog 125 Tryz.f125 xGl:=.k Tryz.func125
instance xyy:FnI prog 132 Tryz.f132 np:=.k Tryz.func132
noncomputable def xL2:Nat→Xj
 |1=>.r 0 10 (.e 10 [] .fin)
 |_=>.fin
instance xzO:FnI prog 134 Tryz.f134 xL2:=.k Tryz.func134
instance xxX:FnI prog 139 Tryz.f139 np:=.k Tryz.func139
instance xx5:FnI prog 143 Tryz.f143 np:=.k Tryz.func143
instance xxJ:FnI prog 147 Tryz.f147 np:=.k Tryz.func147
instance xy8:FnI prog 151 Tryz.f151 np:=.k Tryz.func151
instance xzY:FnI prog 155 Tryz.f155 np:=.k Tryz.func155
instance xzR:FnI prog 159 Tryz.f159 np:=.k Tryz.func159
instance xAa:FnI prog 162 Tryz.f162 np:=.k Tryz.func162
noncomputable def xiJ:Nat→Xj
 |5=>.r 0 4 (.e 4 [0,1] (.e 5 [0,1] (.e 6 [] (.r 7 1 (.e 8 [] .fin)))))
 |_=>.fin
instance xxK:FnI prog 167 Tryz.f167 xiJ:=.k Tryz.func167
noncomputable def xL1:Nat→Xj
 |5=>.r 0 4 (.e 4 [0,1] (.e 5 [0,1] (.e 6 [] (.r 7 1 (.e 8 [] .fin)))))
 |_=>.fin
instance xzV:FnI prog 171 Tryz.f171 xL1:=.k Tryz.func171
instance xzc:FnI prog 179 Tryz.f179 np:=.k Tryz.func179
instance xzL:FnI prog 181 Tryz.f181 np:=.k Tryz.func181
noncomputable def xKy:Nat→Xj
 |0=>.r 0 15 (.e 15 [] .fin)
 |_=>.fin
instance xz6:FnI prog 184 Tryz.f184 xKy:=.k Tryz.func184
instance xzy:FnI prog 190 Tryz.f190 np:=.k Tryz.func190
noncomputable def xCQ:Nat→Xj
 |3=>.r 0 6 (.e 6 [] (.r 7 1 .fin))
 |4=>.r 0 8 (.e 8 [] (.r 9 1 .fin))
 |8=>.r 0 6 (.e 6 [] (.r 7 5 .fin))
 |10=>.r 0 6 (.e 6 [] (.r 7 5 .fin))
 |16=>.r 0 10 (.e 10 [2] (.e 11 [] .fin))
 |17=>.r 0 7 (.e 7 [] (.r 8 2 .fin))
 |_=>.fin
instance xzs:FnI prog 194 Tryz.f194 xCQ:=.k Tryz.func194
noncomputable def xFN:Nat→Xj
 |1=>.r 0 6 (.e 6 [] (.r 7 5 .fin))
 |3=>.r 0 8 (.e 8 [] (.r 9 2 .fin))
 |_=>.fin
instance xx6:FnI prog 198 Tryz.f198 xFN:=.k Tryz.func198
instance xxH:FnI prog 204 Tryz.f204 np:=.k Tryz.func204
instance xyu:FnI prog 207 Tryz.f207 np:=.k Tryz.func207
noncomputable def xk4:Nat→Xj
 |1=>.r 0 34 .fin
 |_=>.fin
instance xyD:FnI prog 211 Tryz.f211 xk4:=.k Tryz.func211
instance xzF:FnI prog 215 Tryz.f215 np:=.k Tryz.func215
instance xAe:FnI prog 219 Tryz.f219 np:=.k Tryz.func219
noncomputable def xHQ:Nat→Xj
 |4=>.r 0 13 (.e 13 [] .fin)
 |_=>.fin
instance xzi:FnI prog 222 Tryz.f222 xHQ:=.k Tryz.func222
noncomputable def xDT:Nat→Xj
 |2=>.r 0 14 (.e 14 [] .fin)
 |_=>.fin
instance xy1:FnI prog 229 Tryz.f229 xDT:=.k Tryz.func229
noncomputable def xts:Nat→Xj
 |1=>.r 0 7 (.e 7 [] .fin)
 |_=>.fin
instance xzh:FnI prog 236 Tryz.f236 xts:=.k Tryz.func236
noncomputable def xv6:Nat→Xj
 |5=>.r 0 9 .fin
 |6=>.r 0 19 (.e 19 [] (.r 20 2 (.e 22 [] .fin)))
 |7=>.r 0 10 (.e 10 [] .fin)
 |_=>.fin
instance xy3:FnI prog 241 Tryz.f241 xv6:=.k Tryz.func241
instance xxN:FnI prog 248 Tryz.f248 np:=.k Tryz.func248
noncomputable def xKh:Nat→Xj
 |6=>.r 0 12 .fin
 |8=>.r 0 6 (.e 6 [2,3,4] (.e 7 [2,3,4] (.e 8 [] (.r 9 2 (.e 11 [] .fin)))))
 |_=>.fin
instance xOC:FnI prog 251 Tryz.f251 xKh:=.k Tryz.func251
instance xO0:FnI prog 260 Tryz.f260 np:=.k Tryz.func260
instance xOx:FnI prog 263 Tryz.f263 np:=.k Tryz.func263
noncomputable def xJO:Nat→Xj
 |7=>.r 0 4 (.r 5 4 (.e 4 [6,7,8] (.r 9 2 .fin)))
 |_=>.fin
instance xO4:FnI prog 267 Tryz.f267 xJO:=.k Tryz.func267
instance xOK:FnI prog 275 Tryz.f275 np:=.k Tryz.func275
instance xO9:FnI prog 279 Tryz.f279 np:=.k Tryz.func279
instance xOs:FnI prog 283 Tryz.f283 np:=.k Tryz.func283
noncomputable def xHr:Nat→Xj
 |1=>.r 0 54 .fin
 |_=>.fin
instance xOD:FnI prog 286 Tryz.f286 xHr:=.k Tryz.func286
instance xOP:FnI prog 292 Tryz.f292 np:=.k Tryz.func292
instance xO1:FnI prog 296 Tryz.f296 np:=.k Tryz.func296
theorem mixed:prog.follows .mixedOrders=true:=by kernel_rfl
instance:Agg prog 33 13:=.k
instance:Agg prog 37 2:=.k
instance:Zer prog 47 (.agg #[.slice none 0 0,.slice none 0 0,.slice none 0 0,.slice none 0 0,.int .i64 0,.int .i64 0,.int .i64 0,.int .i64 0,.slice none 0 0,.slice none 0 0,.slice none 0 0,.int .i64 0]):=.k
instance:Agg prog 47 12:=.k
instance:Siz prog 47 12:=.k
instance:Fld prog 47 0 0:=.k
instance:YO prog 40:=.k
instance:Slc prog 40 6:=.k
instance:ZY prog 40 67 48 6 [.int .i64 0,.int .i64 0,.int .i64 0,.int .i64 0,.int .i64 0,.int .i64 0]:=.k
instance:Fld prog 47 7 10:=.k
instance:YO prog 45:=.k
instance:Slc prog 45 1:=.k
instance:ZY prog 45 29 24 1 [.slice none 0 0]:=.k
instance:Fld prog 33 3 3:=.k
instance:Agg prog 28 8:=.k
instance:Fld prog 28 5 5:=.k
instance:YO prog 3:=.k
instance:YO prog 29:=.k
instance:Slc prog 29 1:=.k
instance:ZY prog 29 3 8 1 [.int .i64 0]:=.k
instance:Fld prog 33 0 0:=.k
instance:YO prog 22:=.k
instance:Slc prog 22 11:=.k
instance:ZY prog 22 59 200 11 [.slice none 0 0,.slice none 0 0,.slice none 0 0,.slice none 0 0,.int .i64 0,.slice none 0 0,.slice none 0 0,.int .i64 0,.int .i64 0,.int .i64 0,.slice none 0 0]:=.k
instance:Fld prog 59 8 8:=.k
instance:Slc prog 60 1:=.k
instance:ZY prog 60 5 1 1 [.int .u8 0]:=.k
instance:Agg prog 59 11:=.k
instance:Zer prog 59 (.agg #[.slice none 0 0,.slice none 0 0,.slice none 0 0,.slice none 0 0,.int .i64 0,.slice none 0 0,.slice none 0 0,.int .i64 0,.int .i64 0,.int .i64 0,.slice none 0 0]):=.k
instance:Siz prog 59 11:=.k
instance:Fld prog 59 7 7:=.k
instance:Fld prog 33 2 2:=.k
instance:YO prog 24:=.k
instance:Slc prog 24 2:=.k
instance:ZY prog 24 107 32 2 [.int .i64 0,.slice none 0 0]:=.k
instance:Slc prog 34 1:=.k
instance:ZY prog 34 64 24 1 [.slice none 0 0]:=.k
instance:Fld prog 37 0 0:=.k
instance:YO prog 34:=.k
instance:Siz prog 34 1:=.k
instance:Agg prog 67 6:=.k
instance:Zer prog 67 (.agg #[.int .i64 0,.int .i64 0,.int .i64 0,.int .i64 0,.int .i64 0,.int .i64 0]):=.k
instance:Siz prog 67 6:=.k
instance:Fld prog 67 0 0:=.k
instance:Fld prog 67 3 3:=.k
instance:Fld prog 47 1 1:=.k
instance:YO prog 41:=.k
instance:Slc prog 41 3:=.k
instance:ZY prog 41 71 40 3 [.int .i64 0,.int .i64 0,.slice none 0 0]:=.k
instance:Fld prog 71 2 2:=.k
instance:YO prog 60:=.k
instance:Yp prog 37 [(0,1),(1,1)] [.slice none 0 0,.slice none 0 0]:=.k
instance:Zer prog 37 (.agg #[.slice none 0 0,.slice none 0 0]):=.k
instance:Siz prog 37 2:=.k
instance:Slc prog 64 1:=.k
instance:ZY prog 64 81 24 1 [.slice none 0 0]:=.k
instance:YO prog 64:=.k
instance:xoe prog 4:=⟨Tryz.underlying4⟩
instance:Zer prog 33 (.agg #[.slice none 0 0,.slice none 0 0,.slice none 0 0,.slice none 0 0,.slice none 0 0,.int .i64 0,.int .i64 0,.int .i64 0,.int .i64 0,.int .i64 0,.int .i64 0,.slice none 0 0,.slice none 0 0]):=.k
instance:Siz prog 33 13:=.k
instance:Yp prog 80 [(0,1),(1,1),(2,1),(3,1),(4,1),(5,1)] [.int .i64 0,.int .i64 0,.int .i64 0,.int .i64 0,.int .i64 0,.int .i64 0]:=.k
instance:Slc prog 81 6:=.k
instance:ZY prog 81 80 48 6 [.int .i64 0,.int .i64 0,.int .i64 0,.int .i64 0,.int .i64 0,.int .i64 0]:=.k
instance:Slc prog 35 4:=.k
instance:ZY prog 35 189 32 4 [.int .i64 0,.int .i64 0,.int .i64 0,.int .i64 0]:=.k
instance:Yp prog 67 [(0,1),(1,1),(2,1),(3,1),(4,1),(5,1)] [.int .i64 0,.int .i64 0,.int .i64 0,.int .i64 0,.int .i64 0,.int .i64 0]:=.k
instance:Fld prog 47 2 2:=.k
instance:YO prog 42:=.k
instance:Slc prog 42 3:=.k
instance:ZY prog 42 142 24 3 [.int .i64 0,.int .i64 0,.int .i64 0]:=.k
instance:Fld prog 37 1 1:=.k
instance:YO prog 35:=.k
instance:Slc prog 86 4:=.k
instance:ZY prog 86 89 32 4 [.int .i64 0,.int .i64 0,.int .i64 0,.int .i64 0]:=.k
instance:Agg prog 89 4:=.k
instance:Zer prog 89 (.agg #[.int .i64 0,.int .i64 0,.int .i64 0,.int .i64 0]):=.k
instance:Siz prog 89 4:=.k
instance:Fld prog 96 0 0:=.k
instance:Siz prog 42 1:=.k
instance:Zer prog 98 (.agg #[.int .i64 0,.int .i64 0]):=.k
instance:Agg prog 98 2:=.k
instance:Siz prog 98 2:=.k
instance:Fld prog 98 0 0:=.k
instance:Fld prog 98 1 1:=.k
instance:YO prog 81:=.k
instance:Fld prog 59 1 1:=.k
instance:YO prog 54:=.k
instance:Slc prog 54 3:=.k
instance:ZY prog 54 103 24 3 [.int .i64 0,.int .i64 0,.int .i64 0]:=.k
instance:Fld prog 103 2 2:=.k
instance:Fld prog 107 1 1:=.k
instance:YO prog 105:=.k
instance:Slc prog 105 3:=.k
instance:ZY prog 105 109 24 3 [.int .i64 0,.int .i64 0,.int .i64 0]:=.k
instance:Fld prog 109 0 0:=.k
instance:YO prog 5:=.k
instance:Fld prog 103 1 1:=.k
instance:Fld prog 33 1 1:=.k
instance:YO prog 23:=.k
instance:Slc prog 23 4:=.k
instance:Fld prog 28 0 0:=.k
instance:YO prog 25:=.k
instance:Slc prog 25 2:=.k
instance:ZY prog 25 98 16 2 [.int .i64 0,.int .i64 0]:=.k
instance:Fld prog 28 1 1:=.k
instance:YO prog 26:=.k
instance:Slc prog 26 3:=.k
instance:Fld prog 33 4 11:=.k
instance:Fld prog 31 0 0:=.k
instance:Fld prog 31 1 1:=.k
instance:Fld prog 59 0 0:=.k
instance:YO prog 53:=.k
instance:Slc prog 53 3:=.k
instance:ZY prog 53 119 24 3 [.int .i64 0,.int .i64 0,.bool false]:=.k
instance:Fld prog 59 2 2:=.k
instance:YO prog 55:=.k
instance:Slc prog 55 4:=.k
instance:Fld prog 59 3 3:=.k
instance:YO prog 56:=.k
instance:Slc prog 56 2:=.k
instance:Fld prog 59 5 5:=.k
instance:YO prog 57:=.k
instance:Slc prog 57 2:=.k
instance:Fld prog 59 6 6:=.k
instance:Fld prog 59 10 10:=.k
instance:Fld prog 67 1 1:=.k
instance:Fld prog 67 2 2:=.k
instance:Fld prog 67 4 4:=.k
instance:Fld prog 67 5 5:=.k
instance:Fld prog 71 0 0:=.k
instance:Agg prog 71 3:=.k
instance:Siz prog 71 3:=.k
instance:Siz prog 60 1:=.k
instance:Fld prog 116 0 0:=.k
instance:Fld prog 114 0 0:=.k
instance:Yp prog 119 [(0,1),(1,1),(2,1)] [.int .i64 0,.int .i64 0,.bool false]:=.k
instance:Yp prog 103 [(0,1),(1,1),(2,1)] [.int .i64 0,.int .i64 0,.int .i64 0]:=.k
instance:Yp prog 59 [(0,1),(1,1),(2,1),(3,1),(4,1),(5,1),(6,1),(7,1),(8,1),(9,1),(10,1)] [.slice none 0 0,.slice none 0 0,.slice none 0 0,.slice none 0 0,.int .i64 0,.slice none 0 0,.slice none 0 0,.int .i64 0,.int .i64 0,.int .i64 0,.slice none 0 0]:=.k
instance:Yp prog 109 [(0,1),(1,1),(2,1)] [.int .i64 0,.int .i64 0,.int .i64 0]:=.k
instance:Yp prog 107 [(0,1),(1,1)] [.int .i64 0,.slice none 0 0]:=.k
instance:Yp prog 98 [(0,1),(1,1)] [.int .i64 0,.int .i64 0]:=.k
instance:Yp prog 28 [(0,1),(1,1),(2,1),(3,1),(4,1),(5,1),(6,1),(7,1)] [.slice none 0 0,.slice none 0 0,.int .i64 0,.int .i64 0,.int .i64 0,.int .i64 0,.int .i64 0,.int .i64 0]:=.k
instance:Yp prog 33 [(0,1),(1,1),(2,1),(3,8),(11,2)] [.slice none 0 0,.slice none 0 0,.slice none 0 0,.slice none 0 0,.slice none 0 0,.int .i64 0,.int .i64 0,.int .i64 0,.int .i64 0,.int .i64 0,.int .i64 0,.slice none 0 0,.slice none 0 0]:=.k
instance:Yp prog 96 [(0,12),(12,13),(25,1),(26,1),(27,1),(28,1)] [.slice none 0 0,.slice none 0 0,.slice none 0 0,.slice none 0 0,.int .i64 0,.int .i64 0,.int .i64 0,.int .i64 0,.slice none 0 0,.slice none 0 0,.slice none 0 0,.int .i64 0,.slice none 0 0,.slice none 0 0,.slice none 0 0,.slice none 0 0,.slice none 0 0,.int .i64 0,.int .i64 0,.int .i64 0,.int .i64 0,.int .i64 0,.int .i64 0,.slice none 0 0,.slice none 0 0,.slice none 0 0,.slice none 0 0,.slice none 0 0,.pointer none]:=.k
instance:Fld prog 96 2 25:=.k
instance:YO prog 92:=.k
instance:Slc prog 92 1:=.k
instance:ZY prog 92 124 8 1 [.pointer none]:=.k
instance:Siz prog 92 1:=.k
instance:Fld prog 96 3 26:=.k
instance:YO prog 93:=.k
instance:Slc prog 93 1:=.k
instance:ZY prog 93 126 8 1 [.pointer none]:=.k
instance:Siz prog 93 1:=.k
instance:Zer prog 86 (.slice none 0 0):=.k
instance:YO prog 86:=.k
instance:Siz prog 86 1:=.k
instance:Fld prog 96 5 28:=.k
instance:YO prog 94:=.k
instance:Fld prog 96 1 12:=.k
instance:Fld prog 89 2 2:=.k
instance:Agg prog 107 2:=.k
instance:Fld prog 89 0 0:=.k
instance:Slc prog 131 3:=.k
instance:ZY prog 131 134 24 3 [.int .i64 0,.int .i64 0,.int .i64 0]:=.k
instance:Agg prog 134 3:=.k
instance:Zer prog 134 (.agg #[.int .i64 0,.int .i64 0,.int .i64 0]):=.k
instance:Siz prog 134 3:=.k
instance:Fld prog 134 0 0:=.k
instance:Fld prog 59 9 9:=.k
instance:Fld prog 89 3 3:=.k
instance:Fld prog 47 5 8:=.k
instance:Siz prog 29 1:=.k
instance:Fld prog 47 6 9:=.k
instance:Siz prog 45 1:=.k
instance:Zer prog 42 (.slice none 0 0):=.k
instance:Fld prog 134 1 1:=.k
instance:Yp prog 142 [(0,1),(1,1),(2,1)] [.int .i64 0,.int .i64 0,.int .i64 0]:=.k
instance:Fld prog 134 2 2:=.k
instance:Agg prog 31 2:=.k
instance:Agg prog 116 4:=.k
instance:Zer prog 116 (.agg #[.int .i64 0,.int .i64 0,.int .i64 0,.int .i64 0]):=.k
instance:Siz prog 116 4:=.k
instance:Yp prog 161 [(0,1),(1,1)] [.slice none 0 0,.bool false]:=.k
instance:Fld prog 161 0 0:=.k
instance:YO prog 159:=.k
instance:Yp prog 164 [(0,1),(1,1)] [.int .i64 0,.int .i64 0]:=.k
instance:Yp prog 166 [(0,2),(2,8),(10,1)] [.int .i64 0,.int .i64 0,.slice none 0 0,.slice none 0 0,.int .i64 0,.int .i64 0,.int .i64 0,.int .i64 0,.int .i64 0,.int .i64 0,.int .i64 0]:=.k
instance:Slc prog 159 1:=.k
instance:ZY prog 159 162 8 1 [.pointer none]:=.k
instance:Siz prog 159 1:=.k
instance:Yp prog 179 [(0,11),(11,1),(12,1),(13,1),(14,1),(15,1),(16,1),(17,1),(18,1),(19,1),(20,1),(21,1)] [.slice none 0 0,.slice none 0 0,.slice none 0 0,.slice none 0 0,.int .i64 0,.slice none 0 0,.slice none 0 0,.int .i64 0,.int .i64 0,.int .i64 0,.slice none 0 0,.int .i64 0,.int .i64 0,.int .i64 0,.slice none 0 0,.pointer none,.pointer none,.pointer none,.pointer none,.pointer none,.pointer none,.slice none 0 0]:=.k
instance:Fld prog 179 5 15:=.k
instance:YO prog 167:=.k
instance:Yp prog 184 [(0,1),(1,1),(2,1),(3,1),(4,1),(5,1)] [.slice none 0 0,.int .i64 0,.int .i64 0,.int .i64 0,.slice none 0 0,.bool false]:=.k
instance:Fld prog 184 0 0:=.k
instance:Siz prog 81 1:=.k
instance:Fld prog 179 4 14:=.k
instance:YO prog 176:=.k
instance:Slc prog 176 1:=.k
instance:ZY prog 176 181 8 1 [.pointer none]:=.k
instance:Siz prog 176 1:=.k
instance:Fld prog 179 7 17:=.k
instance:YO prog 126:=.k
instance:YO prog 162:=.k
instance:Fld prog 166 2 10:=.k
instance:Siz prog 3 1:=.k
instance:Agg prog 109 3:=.k
instance:Zer prog 109 (.agg #[.int .i64 0,.int .i64 0,.int .i64 0]):=.k
instance:Siz prog 109 3:=.k
instance:Fld prog 109 1 1:=.k
instance:Fld prog 109 2 2:=.k
instance:Yp prog 134 [(0,1),(1,1),(2,1)] [.int .i64 0,.int .i64 0,.int .i64 0]:=.k
instance:YO prog 124:=.k
instance:Siz prog 41 1:=.k
instance:Agg prog 119 3:=.k
instance:Zer prog 119 (.agg #[.int .i64 0,.int .i64 0,.bool false]):=.k
instance:Siz prog 119 3:=.k
instance:Fld prog 119 0 0:=.k
instance:Fld prog 119 1 1:=.k
instance:Agg prog 103 3:=.k
instance:Zer prog 103 (.agg #[.int .i64 0,.int .i64 0,.int .i64 0]):=.k
instance:Siz prog 103 3:=.k
instance:Fld prog 103 0 0:=.k
instance:Agg prog 199 4:=.k
instance:Zer prog 199 (.agg #[.bool false,.bool false,.int .i64 0,.int .i64 0]):=.k
instance:Siz prog 199 4:=.k
instance:Fld prog 199 2 2:=.k
instance:Fld prog 199 0 0:=.k
instance:YO prog 4:=.k
instance:Fld prog 199 3 3:=.k
instance:Fld prog 202 0 0:=.k
instance:Fld prog 202 1 1:=.k
instance:Fld prog 202 2 2:=.k
instance:Fld prog 28 2 2:=.k
instance:Fld prog 28 3 3:=.k
instance:Fld prog 28 4 4:=.k
instance:Fld prog 28 6 6:=.k
instance:Fld prog 28 7 7:=.k
instance:Agg prog 114 2:=.k
instance:Fld prog 116 1 2:=.k
instance:Fld prog 114 1 1:=.k
instance:Fld prog 199 1 1:=.k
instance:Zer prog 107 (.agg #[.int .i64 0,.slice none 0 0]):=.k
instance:Siz prog 107 2:=.k
instance:Fld prog 107 0 0:=.k
instance:Yp prog 219 [(0,1),(1,1)] [.map none,.int .i64 0]:=.k
instance:Fld prog 219 0 0:=.k
instance:YO prog 217:=.k
instance:Yp prog 223 [(0,3),(3,3),(6,1),(7,1),(8,1),(9,1),(10,1)] [.int .i64 0,.int .i64 0,.int .i64 0,.int .i64 0,.int .i64 0,.int .i64 0,.int .i64 0,.int .i64 0,.int .i64 0,.int .i64 0,.bool false]:=.k
instance:xc2 prog 217 (.agg #[.int .i64 0,.int .i64 0,.int .i64 0,.int .i64 0,.int .i64 0,.int .i64 0,.int .i64 0,.int .i64 0,.int .i64 0,.int .i64 0,.bool false]):=.k
instance:Yp prog 226 [(0,1),(1,1)] [.slice none 0 0,.bool false]:=.k
instance:Fld prog 226 0 0:=.k
instance:YO prog 224:=.k
instance:Yp prog 229 [(0,3),(3,1)] [.int .i64 0,.int .i64 0,.bool false,.slice none 0 0]:=.k
instance:Slc prog 224 1:=.k
instance:ZY prog 224 227 8 1 [.pointer none]:=.k
instance:Siz prog 224 1:=.k
instance:Yp prog 232 [(0,1)] [.slice none 0 0]:=.k
instance:Yp prog 237 [(0,4),(4,1),(5,1)] [.bool false,.bool false,.int .i64 0,.int .i64 0,.nilIface,.int .i64 0]:=.k
instance:Fld prog 232 0 0:=.k
instance:YO prog 230:=.k
instance:Slc prog 230 1:=.k
instance:ZY prog 230 233 8 1 [.pointer none]:=.k
instance:Siz prog 230 1:=.k
instance:Yp prog 251 [(0,11),(11,1),(12,1),(13,1),(14,1)] [.slice none 0 0,.slice none 0 0,.slice none 0 0,.slice none 0 0,.int .i64 0,.slice none 0 0,.slice none 0 0,.int .i64 0,.int .i64 0,.int .i64 0,.slice none 0 0,.slice none 0 0,.slice none 0 0,.slice none 0 0,.slice none 0 0]:=.k
instance:Yp prog 256 [(0,10),(10,1),(11,1),(12,1)] [.int .i64 0,.int .i64 0,.int .i64 0,.int .i64 0,.int .i64 0,.int .i64 0,.int .i64 0,.int .i64 0,.int .i64 0,.int .i64 0,.int .i64 0,.int .i64 0,.bool false]:=.k
instance:Fld prog 256 0 0:=.k
instance:Fld prog 253 0 0:=.k
instance:WK prog 167:=⟨_,Tryz.underlying167⟩
instance:YO prog 181:=.k
instance:Fld prog 184 4 4:=.k
instance:Fld prog 184 5 5:=.k
instance:WK prog 124:=⟨_,Tryz.underlying124⟩
instance:Agg prog 189 4:=.k
instance:Zer prog 189 (.agg #[.int .i64 0,.int .i64 0,.int .i64 0,.int .i64 0]):=.k
instance:Siz prog 189 4:=.k
instance:Fld prog 89 1 1:=.k
instance:Fld prog 189 1 1:=.k
instance:Fld prog 189 0 0:=.k
instance:Yp prog 89 [(0,1),(1,1),(2,1),(3,1)] [.int .i64 0,.int .i64 0,.int .i64 0,.int .i64 0]:=.k
instance:WK prog 94:=⟨_,Tryz.underlying94⟩
instance:Fld prog 161 1 1:=.k
instance:Fld prog 179 3 13:=.k
instance:Fld prog 179 0 0:=.k
instance:Fld prog 179 10 20:=.k
instance:YO prog 177:=.k
instance:Siz prog 177 1:=.k
instance:Siz prog 4 1:=.k
instance:Fld prog 179 2 12:=.k
instance:WK prog 162:=⟨_,Tryz.underlying162⟩
instance:Fld prog 166 0 0:=.k
instance:Fld prog 164 1 1:=.k
instance:Fld prog 184 2 2:=.k
instance:Fld prog 166 1 2:=.k
instance:Zer prog 80 (.agg #[.int .i64 0,.int .i64 0,.int .i64 0,.int .i64 0,.int .i64 0,.int .i64 0]):=.k
instance:Agg prog 80 6:=.k
instance:Siz prog 80 6:=.k
instance:Fld prog 184 1 1:=.k
instance:Fld prog 96 4 27:=.k
instance:Siz prog 40 1:=.k
instance:Yp prog 269 [(0,1),(1,1)] [.pointer none,.map none]:=.k
instance:Slc prog 272 1:=.k
instance:ZY prog 272 60 24 1 [.slice none 0 0]:=.k
instance:Yp prog 71 [(0,1),(1,1),(2,1)] [.int .i64 0,.int .i64 0,.slice none 0 0]:=.k
instance:YO prog 196:=.k
instance:Fld prog 59 4 4:=.k
instance:Fld prog 279 1 1:=.k
instance:Fld prog 279 0 0:=.k
instance:Fld prog 281 0 0:=.k
instance:Fld prog 281 1 1:=.k
instance:YO prog 207:=.k
instance:YO prog 209:=.k
instance:YO prog 211:=.k
instance:YO prog 215:=.k
instance:Agg prog 202 3:=.k
instance:Fld prog 237 2 5:=.k
instance:Fld prog 237 0 0:=.k
instance:Yp prog 303 [(0,1),(1,1)] [.slice none 0 0,.int .i64 0]:=.k
instance:Fld prog 237 1 4:=.k
instance:YO prog 235:=.k
instance:Siz prog 235 1:=.k
instance:Yp prog 306 [(0,1),(1,1),(2,1)] [.slice none 0 0,.bool false,.bool false]:=.k
instance:WK prog 172:=⟨_,Tryz.underlying172⟩
instance:Fld prog 251 0 0:=.k
instance:Fld prog 251 1 11:=.k
instance:Agg prog 240 1:=.k
instance:Siz prog 240 1:=.k
instance:Slc prog 313 1:=.k
instance:ZY prog 313 4 1 1 [.bool false]:=.k
instance:Fld prog 251 2 12:=.k
instance:Agg prog 243 1:=.k
instance:Siz prog 243 1:=.k
instance:Fld prog 251 3 13:=.k
instance:Agg prog 246 1:=.k
instance:Siz prog 246 1:=.k
instance:Fld prog 251 4 14:=.k
instance:Agg prog 249 1:=.k
instance:Siz prog 249 1:=.k
instance:Zer prog 223 (.agg #[.int .i64 0,.int .i64 0,.int .i64 0,.int .i64 0,.int .i64 0,.int .i64 0,.int .i64 0,.int .i64 0,.int .i64 0,.int .i64 0,.bool false]):=.k
instance:Agg prog 223 11:=.k
instance:Siz prog 223 11:=.k
instance:Fld prog 223 2 6:=.k
instance:Fld prog 223 0 0:=.k
instance:Fld prog 223 3 7:=.k
instance:Fld prog 223 5 9:=.k
instance:Fld prog 223 6 10:=.k
instance:Yp prog 332 [(0,2),(2,1)] [.slice none 0 0,.slice none 0 0,.int .i64 0]:=.k
instance:Yp prog 335 [(0,1),(1,1),(2,1)] [.int .i64 0,.slice none 0 0,.bool false]:=.k
instance:Fld prog 335 1 1:=.k
instance:YO prog 333:=.k
instance:Yp prog 338 [(0,1),(1,1)] [.int .i64 0,.bool false]:=.k
instance:Slc prog 333 1:=.k
instance:ZY prog 333 336 8 1 [.pointer none]:=.k
instance:Siz prog 333 1:=.k
instance:Fld prog 164 0 0:=.k
instance:WK prog 177:=⟨_,Tryz.underlying177⟩
instance:WK prog 336:=⟨_,Tryz.underlying336⟩
instance:Fld prog 338 0 0:=.k
instance:Fld prog 335 2 2:=.k
instance:Fld prog 335 0 0:=.k
instance:Fld prog 80 1 1:=.k
instance:Fld prog 80 2 2:=.k
instance:Fld prog 179 11 21:=.k
instance:Yp prog 354 [(0,1)] [.chan none]:=.k
instance:Fld prog 269 1 1:=.k
instance:YO prog 267:=.k
instance:xc2 prog 267 (.slice none 0 0):=.k
instance:Fld prog 269 0 0:=.k
instance:Fld prog 354 0 0:=.k
instance:YO prog 352:=.k
instance:Agg prog 279 2:=.k
instance:Agg prog 281 2:=.k
instance:YO prog 288:=.k
instance:YO prog 289:=.k
instance:Zer prog 202 (.agg #[.int .i64 0,.int .i64 0,.int .i64 0]):=.k
instance:Siz prog 202 3:=.k
instance:Yp prog 199 [(0,1),(1,1),(2,1),(3,1)] [.bool false,.bool false,.int .i64 0,.int .i64 0]:=.k
instance:Zer prog 240 (.agg #[.slice none 0 0]):=.k
instance:Zer prog 279 (.agg #[.int .i64 0,.int .i64 0]):=.k
instance:Siz prog 279 2:=.k
instance:Fld prog 240 0 0:=.k
instance:YO prog 238:=.k
instance:Slc prog 238 1:=.k
instance:ZY prog 238 310 8 1 [.pointer none]:=.k
instance:Siz prog 238 1:=.k
instance:Yp prog 309 [(0,2),(2,1)] [.int .i64 0,.int .i64 0,.int .i64 0]:=.k
instance:Zer prog 243 (.agg #[.slice none 0 0]):=.k
instance:Fld prog 243 0 0:=.k
instance:YO prog 241:=.k
instance:Slc prog 241 1:=.k
instance:ZY prog 241 314 8 1 [.pointer none]:=.k
instance:Siz prog 241 1:=.k
instance:Zer prog 246 (.agg #[.slice none 0 0]):=.k
instance:Zer prog 281 (.agg #[.int .i64 0,.int .i64 0]):=.k
instance:Siz prog 281 2:=.k
instance:Fld prog 246 0 0:=.k
instance:YO prog 244:=.k
instance:Slc prog 244 1:=.k
instance:ZY prog 244 319 8 1 [.pointer none]:=.k
instance:Siz prog 244 1:=.k
instance:Yp prog 318 [(0,2),(2,1)] [.int .i64 0,.int .i64 0,.slice none 0 0]:=.k
instance:Zer prog 249 (.agg #[.slice none 0 0]):=.k
instance:Fld prog 249 0 0:=.k
instance:YO prog 247:=.k
instance:Slc prog 247 1:=.k
instance:ZY prog 247 324 8 1 [.pointer none]:=.k
instance:Siz prog 247 1:=.k
instance:Yp prog 323 [(0,1),(1,1),(2,1)] [.int .i64 0,.slice none 0 0,.bool false]:=.k
instance:Fld prog 219 1 1:=.k
instance:Fld prog 223 4 8:=.k
instance:Yp prog 221 [(0,1),(1,1),(2,1)] [.int .i64 0,.int .i64 0,.int .i64 0]:=.k
instance:Fld prog 223 1 3:=.k
instance:Siz prog 221 3:=.k
instance:Fld prog 332 1 2:=.k
instance:Fld prog 179 1 11:=.k
instance:Fld prog 179 9 19:=.k
instance:YO prog 174:=.k
instance:Fld prog 179 6 16:=.k
instance:YO prog 169:=.k
instance:Fld prog 184 3 3:=.k
instance:Fld prog 221 2 2:=.k
instance:Fld prog 221 0 0:=.k
instance:Fld prog 221 1 1:=.k
instance:YO prog 336:=.k
instance:Zer prog 3 (.int .i64 0):=.k
instance:Zer prog 48 (.int .i64 0):=.k
instance:YO prog 48:=.k
instance:Siz prog 48 1:=.k
instance:Zer prog 373 (.agg #[.int .u64 0,.int .u64 0]):=.k
instance:Agg prog 373 2:=.k
instance:Siz prog 373 2:=.k
instance:Fld prog 80 3 3:=.k
instance:Fld prog 179 8 18:=.k
instance:YO prog 172:=.k
instance:WK prog 233:=⟨_,Tryz.underlying233⟩
instance:Fld prog 303 0 0:=.k
instance:YO prog 272:=.k
instance:Siz prog 272 1:=.k
instance:Fld prog 306 2 2:=.k
instance:Fld prog 306 0 0:=.k
instance:WK prog 270:=⟨_,Tryz.underlying270⟩
instance:Yp prog 116 [(0,2),(2,2)] [.int .i64 0,.int .i64 0,.int .i64 0,.int .i64 0]:=.k
instance:Zer prog 395 (.agg #[.int .i64 0,.int .i64 0,.int .i64 0]):=.k
instance:Agg prog 395 3:=.k
instance:Siz prog 395 3:=.k
instance:Fld prog 395 0 0:=.k
instance:Agg prog 393 2:=.k
instance:Fld prog 395 1 2:=.k
instance:Fld prog 332 0 0:=.k
instance:Fld prog 253 1 1:=.k
instance:Fld prog 256 1 10:=.k
instance:Fld prog 256 2 11:=.k
instance:YO prog 233:=.k
instance:WK prog 227:=⟨_,Tryz.underlying227⟩
instance:Fld prog 229 1 3:=.k
instance:Fld prog 229 0 0:=.k
instance:Fld prog 338 1 1:=.k
instance:Yp prog 373 [(0,1),(1,1)] [.int .u64 0,.int .u64 0]:=.k
instance:Fld prog 373 1 1:=.k
instance:YO prog 144:=.k
instance:Fld prog 373 0 0:=.k
instance:Fld prog 80 4 4:=.k
instance:Fld prog 80 5 5:=.k
instance:WK prog 314:=⟨_,Tryz.underlying314⟩
instance:WK prog 310:=⟨_,Tryz.underlying310⟩
instance:Fld prog 309 1 2:=.k
instance:Fld prog 309 0 0:=.k
instance:WK prog 324:=⟨_,Tryz.underlying324⟩
instance:Fld prog 323 0 0:=.k
instance:WK prog 319:=⟨_,Tryz.underlying319⟩
instance:Fld prog 318 0 0:=.k
instance:Fld prog 318 1 2:=.k
instance:Fld prog 323 1 1:=.k
instance:Fld prog 323 2 2:=.k
instance:Siz prog 5 1:=.k
instance:WK prog 126:=⟨_,Tryz.underlying126⟩
instance:Yp prog 393 [(0,2)] [.int .i64 0,.int .i64 0]:=.k
instance:Yp prog 395 [(0,2),(2,1)] [.int .i64 0,.int .i64 0,.int .i64 0]:=.k
instance:Fld prog 393 0 0:=.k
instance:WK prog 174:=⟨_,Tryz.underlying174⟩
instance:Fld prog 256 3 12:=.k
instance:WK prog 169:=⟨_,Tryz.underlying169⟩
instance:YO prog 227:=.k
instance:Fld prog 306 1 1:=.k
instance:Fld prog 226 1 1:=.k
instance:Fld prog 119 2 2:=.k
instance:YO prog 314:=.k
instance:YO prog 310:=.k
instance:YO prog 324:=.k
instance:YO prog 319:=.k
instance:Fld prog 303 1 1:=.k
instance:xqk prog 3 .i64:=⟨Tryz.underlying3⟩
instance:xqk prog 5 .u8:=⟨Tryz.underlying5⟩
instance:xjE prog 9:=⟨Tryz.underlying9⟩
instance:xqt prog 80 0 0 1 false:=.k
instance:xqt prog 98 0 0 1 false:=.k
instance:xMg prog 114 2:=⟨by kernel_rfl⟩
instance:xqk prog 144 .u64:=⟨Tryz.underlying144⟩
instance xND:xuK prog 254 5 2:=xmI (by kernel_rfl)
instance:xqk prog 418 .u64:=⟨Tryz.underlying418⟩
instance xKJ:xjl prog 301 "anchorhold/port.put" 317:=⟨by kernel_rfl⟩
instance xKH:xjl prog 304 "anchorhold/port.put" 319:=⟨by kernel_rfl⟩
instance:Zer prog 301 (.pointer none):=⟨by kernel_rfl⟩
instance xNR:xtd prog 301:=⟨by kernel_rfl⟩
instance:Zer prog 304 (.pointer none):=⟨by kernel_rfl⟩
instance xNK:xtd prog 304:=⟨by kernel_rfl⟩
