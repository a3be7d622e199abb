import Derived.Test.YtmebccjndhlpoaaGreatZ46
namespace Go.Proofs.YtmebccjndhlpoaaGreat
open Go Go.Wk Tryz
set_option maxHeartbeats 3200000
set_option maxRecDepth 100000
instance xNo:ElT 53 xaL:=⟨⟩
instance xMV:ElT 54 WZ:=⟨⟩
instance xNs:ElT 105 xCA:=⟨⟩
instance xMj:ElT 24 xCz:=⟨⟩
instance xN5 {l:List Xc} {a b:Int} {c:Bool}:De l (.agg #[.int .i64 a,.int .i64 b,.bool c]) (xaL.mk a b c):=⟨rfl⟩
instance xNx {l:List Xc} {a b c:Int}:De l (.agg #[.int .i64 a,.int .i64 b,.int .i64 c]) (WZ.mk a b c):=⟨rfl⟩
instance xN2 {l:List Xc} {a b c:Int}:De l (.agg #[.int .i64 a,.int .i64 b,.int .i64 c]) (xCA.mk a b c):=⟨rfl⟩
instance xN4 {l:List Xc} {a b:Int}:De l (.agg #[.int .i64 a,.int .i64 b]) (xBH.mk a b):=⟨rfl⟩
instance xNw {l:List Xc} {a:Int} {s:SV} {w:List xCA} [ZV l s.v true xCA inferInstance w]:De l (.agg #[.int .i64 a,s.v]) (xCz.mk a ⟨s,w⟩):=⟨rfl⟩
instance xNU {l:List Xc} {i j k n:Int} {s1 s2 s7:SV} {r:List xaL} {p:List WZ} {a:List Int} [ZV l s1.v true xaL inferInstance r] [ZV l s2.v true WZ inferInstance p] [ZV l s7.v true Int inferInstance a]:
  De l (.agg #[s1.v,s2.v,.slice none 0 0,.slice none 0 0,.int .i64 i,.slice none 0 0,.slice none 0 0,.int .i64 j,.int .i64 k,.int .i64 n,s7.v]) (YF.mk ⟨s1,r⟩ ⟨s2,p⟩ default default i default default j k n ⟨s7,a⟩):=⟨rfl⟩
abbrev xEy (s1 s2 s7:SV):YF:=⟨⟨s1,[⟨0,32,true⟩]⟩,⟨s2,[⟨1,1,20⟩]⟩,default,default,0,default,default,20,1099511627776,0,⟨s7,[0,0,0,0,0]⟩⟩
abbrev xEC (s:SV):xCz:=⟨10000,⟨s,[⟨0,1000,5000⟩]⟩⟩
abbrev xvT (s1 s2 s7 sp sw sm sl:SV):xBG:=⟨⟨sp,[xEy s1 s2 s7]⟩,default,⟨sm,[xEC sw]⟩,⟨sl,[⟨5,10⟩,⟨10,40⟩]⟩,default,0,0,1,8,32768,100,default,default⟩
theorem zI {n:Int} {R:Jd} {w:World} (h:decide (-9223372036854775808≤n∧n≤9223372036854775807)=true): (Fz.fz n).h R (fun _=>False) w:=(of_decide_eq_true h:-9223372036854775808≤n∧n≤9223372036854775807)
instance (priority:=900) xMR {l:List Xc} {s1 s2 s7:SV} [h1:ZV l s1.v true xaL inferInstance [xaL.mk 0 32 true]] [h2:ZV l s2.v true WZ inferInstance [WZ.mk 1 1 20]] [h7:ZV l s7.v true Int inferInstance [0,0,0,0,0]]:xaM l (xEy s1 s2 s7):=⟨fun w R U g1 g2 g3=>⟨fun _=>False,by
 obtain⟨_,k1⟩:=h1.h w R U g1 g2 g3
 obtain⟨_,k2⟩:=h2.h w R U g1 g2 g3
 obtain⟨_,k7⟩:=h7.h w R U g1 g2 g3
 refine sepI (sepI (xek _ _ k1) fun y hy=>?_) (sepI (sepI (xek _ _ k2) fun y hy=>?_) (sepI (FzD.h R w) (sepI (FzD.h R w) (sepI (zI (n:=0) rfl) (sepI (FzD.h R w) (sepI (FzD.h R w) (sepI (zI (n:=20) rfl) (sepI (zI (n:=1099511627776) rfl) (sepI (zI (n:=0) rfl) (sepI (sepI (xek _ _ k7) fun y hy=>?_) trivial))))))))))
 ·rw[List.mem_singleton.1 hy];exact sepI (zI (n:=0) rfl) (sepI (zI (n:=32) rfl) (sepI trivial trivial))
 ·rw[List.mem_singleton.1 hy];exact sepI (zI (n:=1) rfl) (sepI (zI (n:=1) rfl) (sepI (zI (n:=20) rfl) trivial))
 ·have hy2:y∈[(0:Int),0,0,0,0]:=hy
  have:y=0:=by simpa using hy2
  rw[this];exact zI (n:=0) rfl⟩⟩
instance (priority:=900) xNc {l:List Xc} {s:SV} [h1:ZV l s.v true xCA inferInstance [xCA.mk 0 1000 5000]]:xaM l (xEC s):=⟨fun w R U g1 g2 g3=>⟨fun _=>False,by
 obtain⟨_,k1⟩:=h1.h w R U g1 g2 g3
 refine sepI (zI (n:=10000) rfl) (sepI (sepI (xek _ _ k1) fun y hy=>?_) trivial)
 rw[List.mem_singleton.1 hy];exact sepI (zI (n:=0) rfl) (sepI (zI (n:=1000) rfl) (sepI (zI (n:=5000) rfl) trivial))⟩⟩
section
attribute [local irreducible] BrK Xq Xt Xv XI FnK XZ Xw XC XV opX opK Yq Yk eqR Yj Yo Ys WL WD W X3 XO Tr drewK Ya X4 Yw Yv X1 YB mp blk rob sl sep ex fact old
section
attribute [local irreducible] xs2 inB xB0 xB9 xBI xB3
section
theorem xG1:Xb prog 23 #[] []
  fun v l'=>∃s1 s2 s7 sp sw sm s3:SV,v=.agg (En.enc (xvT s1 s2 s7 sp sw sm s3)).toArray∧l'=[sl true sp.v [xEy s1 s2 s7],fzl [xEy s1 s2 s7],sl true sm.v [xEC sw],fzl [xEC sw],sl true s3.v [xBH.mk 5 10,xBH.mk 10 40]]:=by
 intro F K hK
 simp only[List.nil_append]at hK⊢
 refine S.I fun u=>?_
 repeat' (first|intro(sv:SV)|refine S.x ?_|intro hb|fail)
 rename_i s1 s2
 refine Tr.freezeAt (v:=s1.v) (xs:=[xaL.mk 0 32 true]) S.K ?_
 refine Tr.freezeAt (v:=s2.v) (xs:=[WZ.mk 1 1 20]) S.K ?_
 refine Tr.freezeAt (v:=sv.v) (xs:=[(0:Int),0,0,0,0]) S.K ?_
 repeat' (first|intro(s3:SV)|refine S.x ?_|fail)
 rename_i sp
 refine Tr.freezeAt (v:=s3.v) (xs:=[xCA.mk 0 1000 5000]) S.K ?_
 repeat' (first|intro(s4:SV)|refine S.x ?_|fail)
 rename_i sm
 refine Tr.freezeAt (v:=sp.v) (xs:=[xEy s1 s2 sv]) S.K ?_
 refine Tr.freezeAt (v:=sm.v) (xs:=[xEC s3]) S.K ?_
 refine Tr.freezeAt (v:=s4.v) (xs:=[xBH.mk 5 10,xBH.mk 10 40]) S.K ?_
 refine Tr.bringF [xEy s1 s2 sv] ?_
 refine Tr.bringF [xEC s3] ?_
 refine Tr.fin hK ⟨s1,s2,sv,sp,s3,sm,s4,rfl,rfl⟩ ?_
 exact S.E
end
end
end
section
abbrev xHE:XE:=⟨5,1,0,0,0,0⟩
abbrev ppW (t1 t2:SV):List xBW:=[⟨t1,[⟨t2,[xHE]⟩]⟩]
abbrev fsW:List xBR:=[⟨0,0,0,0⟩,⟨0,0,0,0⟩]
section
variable {s1 s2 s7 sp sw sm s3 t1 t2:SV} {p:Nat}
theorem xI1: (xCE (xvT s1 s2 s7 sp sw sm s3) (ppW t1 t2) fsW).1=0:=by kernel_rfl
theorem xLE: (xBT (xvT s1 s2 s7 sp sw sm s3) [(xCO (xvT s1 s2 s7 sp sw sm s3) (ppW t1 t2) 0).loc p] (xBO (xvT s1 s2 s7 sp sw sm s3) p0 fsW) (t0 [(xCO (xvT s1 s2 s7 sp sw sm s3) (ppW t1 t2) 0).loc p])).evs=[⟨0,1,0,1,0,0⟩]:=by kernel_rfl
theorem xIu: (xBT (xvT s1 s2 s7 sp sw sm s3) [(xCO (xvT s1 s2 s7 sp sw sm s3) (ppW t1 t2) 0).loc p] (xBO (xvT s1 s2 s7 sp sw sm s3) p0 fsW) (t0 [(xCO (xvT s1 s2 s7 sp sw sm s3) (ppW t1 t2) 0).loc p])).creds.length=2:=by kernel_rfl
theorem xGQ: (xFX (xvT s1 s2 s7 sp sw sm s3) fsW).length=4:=by kernel_rfl
theorem xMz {α:Type} [Inhabited α] {l:List α} {x:α} (h:l.length=1) (h0:ix l 0=x):l=[x]:=by
 cases l with
 |nil=>cases h
 |cons a l=>
  cases l with
  |nil=>rw[←h0];rfl
  |cons b l=>simp at h
theorem xMv {Cs:List CC} (h:xKf (xvT s1 s2 s7 sp sw sm s3) (ppW t1 t2) Cs):∃p,Cs=[(xCO (xvT s1 s2 s7 sp sw sm s3) (ppW t1 t2) 0).loc p]:=by
 have hl:Cs.length=1:=h.l
 obtain⟨p,hp⟩:=h.i 0 (Int.le_refl 0) S.o
 exact⟨p,xMz hl hp⟩
theorem xCo {α:Type} {l:List α} (h:l.length<3):l.length≤1000000000:=by omega
theorem xNa:shC (xvT s1 s2 s7 sp sw sm s3):=by
 have l0: ([]:List Int).length<3:=by decide
 refine⟨xCo (by show 1<3;decide),xCo (by show 0<3;decide),xCo (by show 1<3;decide),xCo (by show 2<3;decide),xCo (by show 0<3;decide),xCo (by show 0<3;decide),xCo (by show 0<3;decide),fun p hp=>?_,fun m hm=>?_⟩
 ·rw[List.mem_singleton.1 hp]
  exact⟨xCo (by show 1<3;decide),xCo (by show 1<3;decide),xCo (by show 0<3;decide),xCo (by show 0<3;decide),xCo (by show 0<3;decide),xCo (by show 0<3;decide),by show 5≤1000000000;omega⟩
 ·rw[List.mem_singleton.1 hm]
  exact xCo (by show 1<3;decide)
theorem xLi {fv ps:SV}:Xb prog 8 #[.agg (En.enc (xvT s1 s2 s7 sp sw sm s3)).toArray,.agg #[ps.v,fv.v]]
  [sl true sp.v [xEy s1 s2 s7],fzl [xEy s1 s2 s7],sl true (.slice none 0 0) ([]:List xBJ),sl true sm.v [xEC sw],fzl [xEC sw],sl true s3.v [xBH.mk 5 10,xBH.mk 10 40],sl true (.slice none 0 0) ([]:List xCP),sl true (.slice none 0 0) ([]:List Int),sl true (.slice none 0 0) ([]:List Int),sl true ps.v (ppW t1 t2),fzl (ppW t1 t2),sl true fv.v fsW]
  fun v l'=>∃(ev ms bd sh md cr:SV) (m:List xBY) (crl:List (SL Int)) (bo:List xDu) (z1 z2:List Int),crl.length=2∧bo.length=4∧
   v=.tuple #[.agg #[ev.v,ms.v,bd.v,.slice none 0 0,.int .i64 0,.int .i64 0,.int .i64 0,.int .i64 0,sh.v,md.v,cr.v,.int .i64 0],.int .i64 0]∧
   l'=[sl false ev.v [EvC.mk 0 1 0 1 0 0],sl false ms.v m,fzl m,sl false bd.v bo,sl false sh.v z1,sl false md.v z2,sl false cr.v crl,fzl crl]:=by
 have h:=xHS (c:=xvT s1 s2 s7 sp sw sm s3) (pp:=ppW t1 t2) (ps:=ps) (fv:=fv) (fs:=fsW) xNa (xCo (by show 1<3;decide)) (fun p hp=>by rw[List.mem_singleton.1 hp];exact xCo (by show 1<3;decide)) (fun p hp=>by rw[List.mem_singleton.1 hp];show(20:Int)≤300;decide) xI1
 refine h.mono fun v l' hv=>?_
 obtain⟨ev,ms,bd,sh,md,cr,m,crl,Cs,hC,hm,hcr,_,_,rfl,rfl⟩:=hv
 obtain⟨p,rfl⟩:=xMv hC
 have hl:=congrArg List.length hcr
 rw[List.length_map,xIu]at hl
 rw[xLE]
 exact⟨ev,ms,bd,sh,md,cr,m,crl,_,_,_,hl,xGQ,rfl,rfl⟩
end
instance xN9 {l:List Xc} {a b c d e f:Int}:De l (.agg #[.int .i64 a,.int .i64 b,.int .i64 c,.int .i64 d,.int .i64 e,.int .i64 f]) (EvC.mk a b c d e f):=⟨rfl⟩
instance xOi {l:List Xc} {a b c d e f:Int}:De l (.agg #[.int .i64 a,.int .i64 b,.int .i64 c,.int .i64 d,.int .i64 e,.int .i64 f]) (XE.mk a b c d e f):=⟨rfl⟩
instance xNT:ElT 40 EvC:=⟨⟩
instance xN3:ElT 81 XE:=⟨⟩
instance (priority:=900) xu7 {l:List Xc}:J8 l [xHE]:=Va fun w R U _ _ _ y hy=>by
 rw[List.mem_singleton.1 hy]
 exact sepI (zI (n:=5) rfl) (sepI (zI (n:=1) rfl) (sepI (zI (n:=0) rfl) (sepI (zI (n:=0) rfl) (sepI (zI (n:=0) rfl) (sepI (zI (n:=0) rfl) trivial)))))
end
section
attribute [local irreducible] BrK Xq Xt Xv XI FnK XZ Xw XC XV opX opK Yq Yk eqR Yj Yo Ys WL WD W X3 XO Tr drewK Ya X4 Yw Yv X1 YB mp blk rob sl sep ex fact old
section
attribute [local irreducible] xs2 inB xB0 xB9 xBI xB3 xCE
section
theorem xCJ:Xb prog 7 #[] [] fun v l'=>v=.bool true∧l'=[]:=by
 intro F K hK
 simp only[List.nil_append]at hK⊢
 refine S.I fun u=>?_
 repeat' (first|rintro _ _ ⟨s1,s2,s7,sp,sw,sm,s3,rfl,rfl⟩|(refine G.call 23 ?_;refine S.c ?_ (h:=xG1))|intro(sv:SV)|refine S.x ?_|intro hb|fail)
 have hrn:=fun(a b c:SV)=>xLi (s1:=s1) (s2:=s2) (s7:=s7) (sp:=sp) (sw:=sw) (sm:=sm) (s3:=s3) (t1:=a) (t2:=sv) (ps:=b) (fv:=c)
 refine Tr.freezeAt (v:=sv.v) (xs:=[xHE]) S.K ?_
 repeat' (first|intro(t1:SV)|refine S.x ?_|fail)
 refine Tr.freezeAt (v:=t1.v) (xs:=[SL.mk sv [xHE]]) S.K ?_
 repeat' (first|intro(ps:SV)|refine S.x ?_|intro hb|fail)
 rename_i q1
 refine Tr.freezeAt (v:=q1.v) (xs:=ppW t1 sv) S.K ?_
 rw[show List.replicate (Int.toNat 2) (default:xBR)=fsW from rfl]
 refine Tr.freezeAt (v:=ps.v) (xs:=fsW) S.K ?_
 have hsm:=fun(a b:SV)=>xfV (a:=a) (b:=b) (xs:=[EvC.mk 0 1 0 1 0 0]) (xCo (by show 1<3;decide))
 repeat' (first|rintro _ _ ⟨rfl,rfl⟩|rintro _ _ ⟨ev,ms,bd,sh,md,cr,m,crl,bo,z1,z2,hl1,hl2,rfl,rfl⟩|(refine G.call 8 ?_;refine S.c ?_ (h:=hrn _ _ _))|(refine G.call 15 ?_;refine S.c ?_ (h:=hsm _ _))|intro(sx:SV)|refine S.x ?_|intro hb|fail)
 all_goals
  rw[hl1]
  exact Tr.fin hK ⟨rfl,rfl⟩ S.E
end
end
end
theorem zJ {n:Int} {R:Jd} {w:World} (h:-9223372036854775808≤n∧n≤9223372036854775807): (Fz.fz n).h R (fun _=>False) w:=h
def xDd (x:YF):List Int:=x.procs.d.map WZ.cost
def xCG (ws:List xCA):Nat:=ws.countP fun w=>decide (w.part=0)
theorem xIU {ws:List xCA} {w:xCA}:xCG (ws++[w])=xCG ws+(if w.part=0 then 1 else 0):=by
 unfold xCG
 rw[List.countP_append,List.countP_singleton]
 by_cases h:w.part=0<;>simp[h]
def xDm (x:WZ) (n:Int):XE:=⟨n,if x.period<1 then 3 else 1,0,0,0,0⟩
def xEK (x:WZ) (cs:List UInt8) (k:Nat):Int:=if k<cs.length then 1+((ix cs (k:Int)).toNat:Int).tmod x.cost else 1
def xFh (ps:List WZ) (cs:List UInt8) (n:Nat):List (List XE):=(List.range n).map fun k:Nat=>[xDm (ix ps (k:Int)) (xEK (ix ps (k:Int)) cs k)]
theorem xII {ps:List WZ} {cs:List UInt8} {n:Nat}:xFh ps cs (n+1)=xFh ps cs n++[[xDm (ix ps (n:Int)) (xEK (ix ps (n:Int)) cs n)]]:=by simp[xFh,List.range_succ]
theorem xER {ps:List WZ} {cs:List UInt8} {n:Nat}: (xFh ps cs n).length=n:=by simp[xFh]
theorem xJ8 {n w:Int} {l:List Xc} (h1:0≤n∧n≤1000000001) (h2:0≤w∧w≤3):J8 l [XE.mk n w 0 0 0 0]:=Va fun _ R _ _ _ _ y hy=>by
 rw[List.mem_singleton.1 hy]
 exact sepI (zJ (n:=n) ⟨by omega,by omega⟩) (sepI (zJ (n:=w) ⟨by omega,by omega⟩) (sepI (zI (n:=0) rfl) (sepI (zI (n:=0) rfl) (sepI (zI (n:=0) rfl) (sepI (zI (n:=0) rfl) trivial)))))
section
attribute [local irreducible] BrK Xq Xt Xv XI FnK XZ Xw XC XV opX opK Yq Yk eqR Yj Yo Ys WL WD W X3 XO Tr drewK Ya X4 Yw Yv X1 YB mp blk rob sl sep ex fact old
section
attribute [local irreducible] xs2 inB xB0 xB9 xBI xB3
section
variable {c:xBG} {x:YF} {k:Int} {sc:SV} {cs:List UInt8}
theorem xMQ (hs:shC c) (hco:xDc c) (h0:0≤k) (h1:k<c.modes.d.length):Xb prog 12 #[.agg (En.enc c).toArray,.int .i64 0,.int .i64 k] [sl true c.parts.s.v c.parts.d,fzl c.parts.d,sl true c.modes.s.v c.modes.d,fzl c.modes.d,sl true c.levels.s.v c.levels.d]
  fun v l'=>∃b:Bool,(b=true→(xBI c.levels.d (ix c.parts.d 0).cap).1*(xCG (ix c.modes.d k).wins.d:Int)<(ix c.parts.d 0).budget)∧v=.bool b∧l'=[]:=by
 intro F K hK
 simp only[ap]at hK⊢
 obtain⟨ht,_,_⟩:=xFj hco
 have hn1:=hco.n1
 have hok:=xDr (hco.p 0 (Int.le_refl 0) S.o)
 have hcap1:=hok.c1
 have hcap9:=hok.c9
 have hbt:=(xEO (hco.p 0 (Int.le_refl 0) S.o)).t
 unfold xDY at hbt
 simp only[Bool.and_eq_true]at hbt
 obtain⟨b0,b9⟩:=xB6 hbt.2.1
 have hwl:=(xEQ hco.n8 (hco.m k h0 h1)).2.1
 have hrc:=xKc (u0:=.agg (En.enc c.pow).toArray) (p:=c.pow) (hd:=⟨rfl⟩) (n:=(ix c.parts.d 0).cap) (ls:=c.levels.d) hs.l ht S.o hcap9
 rw[show c.pow.levels=c.levels.s from rfl]at hrc
 have ho:0≤(xBI c.levels.d (ix c.parts.d 0).cap).1∧(xBI c.levels.d (ix c.parts.d 0).cap).1≤1000000000000000000:=⟨xHD,by rw[(xDO ht S.o hcap9).1];exact(xDO ht S.o hcap9).2⟩
 generalize(xBI c.levels.d (ix c.parts.d 0).cap).1=one at*
 have hcq:List.take 8 (List.drop 3 (En.enc c))=En.enc c.pow:=rfl
 clear hbt hok
 refine S.I fun u=>?_
 have hX:=And.intro @xH7.eq_def hcq;repeat' (first|(refine G.call 9 ?_;refine S.c ?_ (h:=hrc);rintro _ _ ⟨rfl,rfl⟩)|refine S.x ?_|intro hb|fail)
 obtain⟨bud,hbud⟩:∃b,b=(ix c.parts.d 0).budget:=⟨_,rfl⟩
 rw[←hbud]at b0 b9 hK⊢
 refine Tr.loopE (α:=Nat×Int) [6,9,11] [1,7,10] (fun z=>[.bool false,.int .i64 z.2,.int .i64 z.1]) (fun _=>[]) (fun z=>z.1≤(ix c.modes.d k).wins.d.length∧z.2=bud-one*(xCG ((ix c.modes.d k).wins.d.take z.1):Int)∧0≤z.2) (fun z=>(ix c.modes.d k).wins.d.length-z.1) (0,bud) S.T rfl ⟨Nat.zero_le _,by show bud=bud-one*((0:Nat):Int);omega,b0⟩ fun z u hz=>?_
 obtain⟨j,e⟩:=z
 obtain⟨hj,he,he0⟩:=hz
 simp only at hj he he0⊢
 simp only[List.nil_append]
 by_cases hin:j<(ix c.modes.d k).wins.d.length
 ·have hw:=Xo (k:=j) S.o
  have hst:xCG ((ix c.modes.d k).wins.d.take (j+1))=xCG ((ix c.modes.d k).wins.d.take j)+(if(ix (ix c.modes.d k).wins.d (j:Int)).part=0 then 1 else 0):=by rw[Yz hin,xIU]
  have h01:0≤one*(xCG ((ix c.modes.d k).wins.d.take j):Int):=Int.mul_nonneg ho.1 S.o
  by_cases hp: (ix (ix c.modes.d k).wins.d (j:Int)).part=0
  ·rw[if_pos hp]at hst
   by_cases hg:e<one
   ·have hX:=And.intro @xH7.eq_def hw;repeat' (first|refine S.x ?_|intro hb|fail)
    all_goals exact Tr.fin hK ⟨false,(fun h=>by cases h),rfl,rfl⟩ S.E
   ·have hw2:IntKind.i64.wrap (e-one)=e-one:=Ye S.o S.o
    have he2:e-one=bud-one*(xCG ((ix c.modes.d k).wins.d.take (j+1)):Int):=by
     rw[hst,Int.natCast_add,Int.mul_add,he]
     omega
    clear hst he
    have hX:=I3 @xH7.eq_def hw hw2;repeat' (first|refine S.x ?_|intro hb|fail)
    all_goals exact S.R ((j+1,e-one):Nat×Int)
  ·rw[if_neg hp,Nat.add_zero]at hst
   have he2:e=bud-one*(xCG ((ix c.modes.d k).wins.d.take (j+1)):Int):=by rw[hst];exact he
   clear hst he
   have hX:=And.intro @xH7.eq_def hw;repeat' (first|refine S.x ?_|intro hb|fail)
   all_goals exact S.R ((j+1,e):Nat×Int)
 ·have hke:j=(ix c.modes.d k).wins.d.length:=by omega
  subst hke
  rw[List.take_length]at he
  have hfin:decide (0<e)=true→one*(xCG (ix c.modes.d k).wins.d:Int)<bud:=fun h=>by
   have:=of_decide_eq_true h
   omega
  clear he
  have hX:=@xH7.eq_def;repeat' (first|refine S.x ?_|fail)
  all_goals exact Tr.fin hK ⟨_,hfin,rfl,rfl⟩ S.E
theorem xM9 (hl:x.procs.d.length≤8) (h:∀p∈x.procs.d,1≤p.cost∧p.cost≤1000000000) (_hc:cs.length≤20):Xb prog 13 #[.agg (En.enc x).toArray,sc.v] [sl true x.procs.s.v x.procs.d,sl true sc.v cs]
  fun v l'=>∃(s:SV) (m:List (SL XE)),m.map SL.d=xFh x.procs.d cs x.procs.d.length∧v=s.v∧l'=[sl false s.v m,fzl m]:=by
 intro F K hK
 simp only[ap]at hK⊢
 refine S.I fun u=>?_
 have hX:=@xE2.eq_def;repeat' (first|refine S.x ?_|intro hb|fail)
 refine Tr.nilSl (α:=SL XE) ?_
 obtain⟨bx,rfl⟩:∃y,y=hb:=⟨_,rfl⟩
 refine Tr.loopE (α:=Nat×SV×List (SL XE)) [5,6] [1,2,4] (fun z=>[z.2.1.v,.int .i64 z.1]) (fun z=>[blk bx (.cells (En.enc x).toArray 59 (0,0)),sl false z.2.1.v z.2.2,fzl z.2.2]) (fun z=>z.1≤x.procs.d.length∧z.2.2.map SL.d=xFh x.procs.d cs z.1) (fun z=>x.procs.d.length-z.1) (0,⟨none,0,0⟩,[]) S.T rfl ⟨Nat.zero_le _,rfl⟩ fun z u hz=>?_
 obtain⟨j,s2,m⟩:=z
 obtain⟨hj,hm⟩:=hz
 simp only at hj hm⊢
 simp only[ap]
 have hml:m.length=j:=by have:=congrArg List.length hm;rw[List.length_map,xER]at this;exact this
 by_cases hin:j<x.procs.d.length
 ·have hw:=Xo (k:=j) S.o
  obtain⟨c1,c9⟩:=h _ (xCa hin)
  obtain⟨q,hq⟩:∃q:Int,q=((ix cs (j:Int)).toNat:Int).tmod (ix x.procs.d (j:Int)).cost:=⟨_,rfl⟩
  have hq0:0≤q:=by rw[hq];exact Int.tmod_nonneg _ S.o
  have hq9:q<(ix x.procs.d (j:Int)).cost:=by rw[hq];exact Int.tmod_lt_of_pos _ S.o
  have hw1:IntKind.i64.wrap q=q:=Ye S.o S.o
  have hw2:IntKind.i64.wrap (1+q)=1+q:=Ye S.o S.o
  have hF:=fun(n w:Int) (l:List Xc)=>xJ8 (n:=n) (w:=w) (l:=l)
  have hmm:∀(n w:Int) (s:SV),n=xEK (ix x.procs.d (j:Int)) cs j→w=(if(ix x.procs.d (j:Int)).period<1 then 3 else 1)→(m++[(⟨s,[XE.mk n w 0 0 0 0]⟩:SL XE)]).map SL.d=xFh x.procs.d cs (j+1):=fun n w s h1 h2=>by
   rw[List.map_append,hm,xII,h1,h2]
   rfl
  have hq':=hq.symm
  have hu8: (ix cs (j:Int)).toNat<256:=UInt8.toNat_lt _
  have hw0:IntKind.i64.wrap ((ix cs (j:Int)).toNat:Int)=((ix cs (j:Int)).toNat:Int):=Ye S.o S.o
  by_cases hk1:j<cs.length
  ·have hcy:1+q=xEK (ix x.procs.d (j:Int)) cs j:=by unfold xEK;rw[if_pos hk1,hq]
   by_cases hp: (ix x.procs.d (j:Int)).period<1
   ·clear hq
    haveI:=fun l=>hF (1+q) 3 l ⟨by omega,by omega⟩ ⟨by omega,by omega⟩
    have hX:=I6 @xE2.eq_def hw hw0 @hq' hw1 hw2;repeat' (first|intro(sv:SV)|refine S.x ?_|intro hb|fail)
    refine Tr.freezeAt (v:=sv.v) (xs:=[XE.mk (1+q) 3 0 0 0 0]) S.K ?_
    have hX:=@xE2.eq_def;repeat' (first|intro(sx:SV)|refine S.x ?_|fail)
    all_goals
     have hm2:=hmm (1+q) 3 sv hcy (by rw[if_pos hp])
     refine Tr.bringF (m++[(⟨sv,[XE.mk (1+q) 3 0 0 0 0]⟩:SL XE)]) ?_
     exact S.R ((j+1,sx,m++[(⟨sv,[XE.mk (1+q) 3 0 0 0 0]⟩:SL XE)]):Nat×SV×List (SL XE))
   ·clear hq
    haveI:=fun l=>hF (1+q) 1 l ⟨by omega,by omega⟩ ⟨by omega,by omega⟩
    have hX:=I6 @xE2.eq_def hw hw0 @hq' hw1 hw2;repeat' (first|intro(sv:SV)|refine S.x ?_|intro hb|fail)
    refine Tr.freezeAt (v:=sv.v) (xs:=[XE.mk (1+q) 1 0 0 0 0]) S.K ?_
    have hX:=@xE2.eq_def;repeat' (first|intro(sx:SV)|refine S.x ?_|fail)
    all_goals
     have hm2:=hmm (1+q) 1 sv hcy (by rw[if_neg hp])
     refine Tr.bringF (m++[(⟨sv,[XE.mk (1+q) 1 0 0 0 0]⟩:SL XE)]) ?_
     exact S.R ((j+1,sx,m++[(⟨sv,[XE.mk (1+q) 1 0 0 0 0]⟩:SL XE)]):Nat×SV×List (SL XE))
  ·have hcy:1=xEK (ix x.procs.d (j:Int)) cs j:=by unfold xEK;rw[if_neg hk1]
   by_cases hp: (ix x.procs.d (j:Int)).period<1
   ·clear hq
    haveI:=fun l=>hF 1 3 l ⟨by omega,by omega⟩ ⟨by omega,by omega⟩
    have hX:=I6 @xE2.eq_def hw hw0 @hq' hw1 hw2;repeat' (first|intro(sv:SV)|refine S.x ?_|intro hb|fail)
    refine Tr.freezeAt (v:=sv.v) (xs:=[XE.mk (1) 3 0 0 0 0]) S.K ?_
    have hX:=@xE2.eq_def;repeat' (first|intro(sx:SV)|refine S.x ?_|fail)
    all_goals
     have hm2:=hmm (1) 3 sv hcy (by rw[if_pos hp])
     refine Tr.bringF (m++[(⟨sv,[XE.mk (1) 3 0 0 0 0]⟩:SL XE)]) ?_
     exact S.R ((j+1,sx,m++[(⟨sv,[XE.mk (1) 3 0 0 0 0]⟩:SL XE)]):Nat×SV×List (SL XE))
   ·clear hq
    haveI:=fun l=>hF 1 1 l ⟨by omega,by omega⟩ ⟨by omega,by omega⟩
    have hX:=I6 @xE2.eq_def hw hw0 @hq' hw1 hw2;repeat' (first|intro(sv:SV)|refine S.x ?_|intro hb|fail)
    refine Tr.freezeAt (v:=sv.v) (xs:=[XE.mk (1) 1 0 0 0 0]) S.K ?_
    have hX:=@xE2.eq_def;repeat' (first|intro(sx:SV)|refine S.x ?_|fail)
    all_goals
     have hm2:=hmm (1) 1 sv hcy (by rw[if_neg hp])
     refine Tr.bringF (m++[(⟨sv,[XE.mk (1) 1 0 0 0 0]⟩:SL XE)]) ?_
     exact S.R ((j+1,sx,m++[(⟨sv,[XE.mk (1) 1 0 0 0 0]⟩:SL XE)]):Nat×SV×List (SL XE))
 ·have hke:j=x.procs.d.length:=by omega
  subst hke
  have hX:=@xE2.eq_def;repeat' (first|refine S.x ?_|fail)
  all_goals exact Tr.fin hK ⟨s2,m,hm,rfl,rfl⟩ S.E
end
end
section
variable {t:Tb} {q:One→Bool} {win k j st:Int}
theorem xFD (h:∀j:Int,inR t.d j→q (t.at j)=false):∀n,n≤t.d.length→t.bestTo q n=-1
 |0,_=>rfl
 |n+1,hn=>by
  unfold Tb.bestTo
  rw[h (n:Int) ⟨by omega,by omega⟩,xFD h n S.o]
  rfl
theorem xLg (h:∀j:Int,inR t.d j→q (t.at j)=false):t.best q=-1:=xFD h _ (Nat.le_refl _)
theorem xGh (h:∀j:Int,inR t.d j→¬(t.at j).state=2):∀n,n≤t.d.length→t.dueTo win n=[]
 |0,_=>rfl
 | n+1,hn=>by
  unfold Tb.dueTo
  have: (t.at (n:Int)).due win=false:=by
   unfold One.due
   rw[decide_eq_false (h (n:Int) ⟨by omega,by omega⟩)]
   rfl
  rw[xGh h n S.o,this]
  rfl
theorem xGY (hk:inR t.d k):t.has k=true:=decide_eq_true hk
theorem xJM (hk:inR t.d k) (h0:0≤st) (h5:st<5) (h2:¬st=2):t.set k st=⟨t.d.set k.toNat (t.putP (t.at k) st),t.putT st⟩:=by
 unfold Tb.set Tb.setB
 rw[xGY hk,decide_eq_true h0,decide_eq_true h5,decide_eq_false h2]
 rfl
theorem xKO (hk:inR t.d k):t.park k=⟨t.d.set k.toNat {t.at k with parked:=true},t.turns⟩:=by
 unfold Tb.park
 rw[if_pos (xGY hk)]
theorem xEP {o:One} (h2:¬st=2): (t.putP o st).state=st∧(t.putP o st).parked=o.parked∧(t.putP o st).period=o.period:=by
 unfold Tb.putP
 simp only
 rw[if_neg h2]
 split<;>exact⟨rfl,rfl,rfl⟩
def xJX (win:Int) (o:One):Prop:=(o.state=4∧1≤o.period)∨(o.state=3∧o.period<1)∨(o.state=1∧(1≤o.period→win<o.next))
def xJJ (o:One):Prop:=(o.state=4∧1≤o.period)∨(o.state=3∧o.period<1)∨o.state=1
theorem xHF (h:∀j:Int,inR t.d j→xJX win (t.at j)):∀n,n≤t.d.length→(t.relTo win n).mis=[]∧(t.relTo win n).t.d.length=t.d.length∧∀j:Int,inR t.d j→((t.relTo win n).t.at j).parked=(t.at j).parked∧((t.relTo win n).t.at j).period=(t.at j).period∧xJJ ((t.relTo win n).t.at j)∧((n:Int)≤j→(t.relTo win n).t.at j=t.at j)
 | 0,_=>⟨rfl,rfl,fun j hj=>⟨rfl,rfl,by
   rcases h j hj with h|h|h
   ·exact .inl h
   ·exact .inr (.inl h)
   ·exact .inr (.inr h.1),fun _=>rfl⟩⟩
 | n +1,hn=>by
  obtain⟨h1,h2,h3⟩:=xHF h n S.o
  have hnr:inR t.d (n:Int):=⟨by omega,by omega⟩
  have hnr2:inR (t.relTo win n).t.d (n:Int):=by unfold inR;rw[h2];exact hnr
  obtain⟨a1,a2,a3,a4⟩:=h3 (n:Int) hnr
  have a5:=a4 (Int.le_refl _)
  show(Rl.step win n (t.relTo win n)).mis=[]∧_
  have hst: (t.relTo win (n+1))=Rl.step win n (t.relTo win n):=rfl
  rw[hst]
  unfold Rl.step
  simp only
  by_cases hs: ((t.relTo win n).t.at (n:Int)).skips win=true
  ·rw[if_pos hs]
   exact⟨h1,h2,fun j hj=>⟨(h3 j hj).1,(h3 j hj).2.1,(h3 j hj).2.2.1,fun hle=>(h3 j hj).2.2.2 S.o⟩⟩
  ·rw[if_neg hs]
   have hs2:=hs
   unfold One.skips at hs2
   simp only[Bool.or_eq_true,decide_eq_true_eq,not_or]at hs2
   obtain⟨⟨⟨s1,s2⟩,s3⟩,s4⟩:=hs2
   rw[a5]at s1 s2 s3 s4
   have hst4: (t.at (n:Int)).state=4:=by
    rcases h (n:Int) hnr with h|h|h
    ·exact h.1
    ·exact absurd h.1 s3
    ·exact absurd (h.2 S.o) s4
   rw[if_pos (by rw[a5];exact hst4)]
   simp only
   obtain⟨o,ho⟩:∃o:One,o={(t.relTo win n).t.at (n:Int)with next:=IntKind.i64.wrap (win+((t.relTo win n).t.at (n:Int)).period)}:=⟨_,rfl⟩
   rw[←ho]
   have hr2:inR ({(t.relTo win n).t with d:=(t.relTo win n).t.d.set n o}:Tb).d (n:Int):=by unfold inR;simp only[List.length_set];exact hnr2
   obtain⟨p1,p2,p3⟩:=xEP (t:={(t.relTo win n).t with d:=(t.relTo win n).t.d.set n o}) (o:=o) (st:=1) (by decide)
   refine⟨h1,by unfold Tb.put;simp only[List.length_set];exact h2,fun j hj=>?_⟩
   have e1:=xa6 (t:=({(t.relTo win n).t with d:=(t.relTo win n).t.d.set n o}:Tb)) (k:=(n:Int)) (j:=j) (o:=({(t.relTo win n).t with d:=(t.relTo win n).t.d.set n o}:Tb).putP o 1) hr2 (n:=({(t.relTo win n).t with d:=(t.relTo win n).t.d.set n o}:Tb).putT 1)
   have e2:=xa6 (t:=(t.relTo win n).t) (k:=(n:Int)) (j:=j) (o:=o) hnr2 (n:=(t.relTo win n).t.turns)
   have e3: (({(t.relTo win n).t with d:=(t.relTo win n).t.d.set n o}:Tb).put (n:Int) o 1).at j=if j=(n:Int)then({(t.relTo win n).t with d:=(t.relTo win n).t.d.set n o}:Tb).putP o 1 else(t.relTo win n).t.at j:=by
    refine e1.trans ?_
    split
    ·rfl
    ·rename_i hne
     refine e2.trans ?_
     rw[if_neg hne]
   rw[e3]
   by_cases hjn:j=(n:Int)
   ·rw[if_pos hjn,p2,p3,ho]
    subst hjn
    refine⟨a1,a2,.inr (.inr ?_),fun hle=>by omega⟩
    rw[←ho]
    exact p1
   ·rw[if_neg hjn]
    exact⟨(h3 j hj).1,(h3 j hj).2.1,(h3 j hj).2.2.1,fun hle=>(h3 j hj).2.2.2 S.o⟩
