import Derived.Test.YtmebccjndhlpoaaGreatZ39
namespace Go.Proofs.YtmebccjndhlpoaaGreat
open Go Go.Wk Tryz
set_option maxHeartbeats 3200000
set_option maxRecDepth 100000
abbrev xBW:=SL (SL XE)
instance xMZ:ElT 34 xBW:=⟨⟩
instance xMY:ElT 64 (SL XE):=⟨⟩
def xCf (pp:List xBW) (k:Int):xBW:=if 0≤k∧k<pp.length then ix pp k else⟨⟨none,0,0⟩,[]⟩
def xC4 (x:SL XE):Bool:=decide (64<(x.d.length:Int))
def xDE (pp:List xBW):Nat→Nat→Int
 |0,_=>-1
 |n+1,k=>if(ix pp (k:Int)).d.any xC4=true then(k:Int)else xDE pp n (k+1)
def xCE (c:xBG) (pp:List xBW) (fs:List xBR):Int×Int:=
 if¬(xB3 c).1=0 then xB3 c else if 64<(fs.length:Int)then(3,0)else if xDE pp pp.length 0<0 then(0,0)else(3,xDE pp pp.length 0)
section
attribute [local irreducible] BrK Xq Xt Xv XI FnK XZ Xw XC XV opX opK Yq Yk eqR Yj Yo Ys WL WD W X3 XO Tr drewK Ya X4 Yw Yv X1 YB mp blk rob sl sep ex fact old
section
attribute [local irreducible] xs2 inB xB0 xB9 xBI xB3
section
variable {ps fv s:SV} {pp:List xBW} {k:Int} {x:SL XE} {xs:List (SL XE)}
theorem xKB:Xb prog 21 #[.agg #[ps.v,fv.v],.int .i64 k] [sl true ps.v pp] fun v l'=>v=(xCf pp k).s.v∧l'=[]:=by
 intro F K hK
 simp only[ap]
 by_cases h:0≤k∧k<pp.length
 ·rw[show xCf pp k=ix pp k from if_pos h]at hK
  obtain⟨h0,h1⟩:=h
  refine S.I fun u=>?_
  repeat' (first|refine S.x ?_|intro hb|fail)
  all_goals exact Tr.fin hK ⟨rfl,rfl⟩ S.E
 ·rw[show xCf pp k=⟨⟨none,0,0⟩,[]⟩from if_neg h]at hK
  refine S.I fun u=>?_
  repeat' (first|refine S.x ?_|refine S.y ?_ ?_|intro hb|fail)
  all_goals exact Tr.fin hK ⟨rfl,rfl⟩ S.E
theorem xJ7:Xb prog 39 #[x.s.v] [sl true x.s.v x.d] fun v l'=>v=.bool (xC4 x)∧l'=[]:=by
 intro F K hK
 simp only[ap]
 unfold xC4 at hK
 refine S.I fun u=>?_
 repeat' (first|refine S.x ?_|fail)
 all_goals exact Tr.fin hK ⟨rfl,rfl⟩ S.E
theorem xLm (hl:xs.length≤1000000000):Xb prog 68 #[s.v,.func (.func 39) #[] #[]] [sl true s.v xs,fzl xs]
  fun v l'=>v=.int .i64 (xs2 (fun x _=>!xC4 x) default xs 0)∧l'=[]:=by
 intro F K hK
 simp only[ap]
 refine S.I fun u=>?_
 repeat' (first|refine S.x ?_|fail)
 refine Tr.loopE (α:=Nat) [4,8] [0,1,7] (fun x=>[.int .i64 0,.int .i64 x]) (fun _=>[]) (fun x=>x≤xs.length∧xs2 (fun x _=>!xC4 x) default xs 0=xs2 (fun x _=>!xC4 x) (ahd xs x) (xs.drop x) x) (fun x=>xs.length-x) 0 S.T rfl ⟨Nat.zero_le _,rfl⟩ fun k u hk=>?_
 obtain⟨hk,hm⟩:=hk
 simp only[List.nil_append]
 by_cases hin:k<xs.length
 ·have hw:=Xo (k:=k) S.o
  rw[xB1 hin]at hm
  have hfk:=xJ7 (x:=ix xs (k:Int))
  cases ha:xC4 (ix xs (k:Int))with
  |false=>
   rw[ha,Bool.not_false,if_pos rfl]at hm
   have hX:=And.intro hw ha;repeat' (first|rintro _ _ ⟨rfl,rfl⟩|(refine G.call 39 ?_;refine S.c ?_ (h:=hfk))|refine S.x ?_|intro hb|fail)
   all_goals exact S.R (k+1)
  |true=>
   rw[ha,Bool.not_true,if_neg (by decide)]at hm
   rw[hm]at hK
   clear hm
   have hX:=ha;repeat' (first|rintro _ _ ⟨rfl,rfl⟩|(refine G.call 39 ?_;refine S.c ?_ (h:=hfk))|refine S.x ?_|intro hb|fail)
   all_goals exact Tr.fin hK ⟨rfl,rfl⟩ S.E
 ·have hke:k=xs.length:=by omega
  subst hke
  rw[List.drop_length]at hm
  rw[hm]at hK
  unfold xs2 at hK
  clear hm
  repeat' (first|refine S.x ?_|fail)
  all_goals exact Tr.fin hK ⟨rfl,rfl⟩ S.E
theorem xLS (hl:xs.length≤1000000000):Xb prog 38 #[s.v,.func (.func 39) #[] #[]] [sl true s.v xs,fzl xs]
  fun v l'=>v=.bool (xs.any xC4)∧l'=[]:=by
 intro F K hK
 simp only[ap]
 rw[←xEj (p:=xC4) (a:=default) (l:=xs) (i:=0) (Int.le_refl 0)]at hK
 have hi:=xLm (s:=s) hl
 refine S.I fun u=>?_
 repeat' (first|rintro _ _ ⟨rfl,rfl⟩|(refine G.call 68 ?_;refine S.c ?_ (h:=hi))|refine S.x ?_|fail)
 all_goals exact Tr.fin hK ⟨rfl,rfl⟩ S.E
variable {c:xBG} {fs:List xBR}
theorem xIB (hs:shC c) (hpl:pp.length≤1000000000) (hps:∀p∈pp,p.d.length≤1000000000):Xb prog 24 #[.agg (En.enc c).toArray,.agg #[ps.v,fv.v]]
  [sl true c.parts.s.v c.parts.d,fzl c.parts.d,sl true c.chans.s.v c.chans.d,sl true c.modes.s.v c.modes.d,fzl c.modes.d,sl true c.levels.s.v c.levels.d,sl true c.naps.s.v c.naps.d,sl true c.down.s.v c.down.d,sl true c.up.s.v c.up.d,sl true ps.v pp,fzl pp,sl true fv.v fs]
  fun v l'=>v=.tuple #[.int .i64 (xCE c pp fs).1,.int .i64 (xCE c pp fs).2]∧l'=[]:=by
 intro F K hK
 simp only[ap]
 have hv:=xIX hs
 unfold xCE at hK
 generalize xB3 c=w at*
 by_cases h0:w.1=0
 ·rw [if_neg (fun h=>h h0)]at hK
  by_cases h1:64<(fs.length:Int)
  ·rw[if_pos h1]at hK
   refine S.I fun u=>?_
   have hX:=h0;repeat' (first|rintro _ _ ⟨rfl,rfl⟩|(refine G.call 37 ?_;refine S.c ?_ (h:=hv))|refine S.x ?_|intro hb|fail)
   all_goals exact Tr.fin hK ⟨rfl,rfl⟩ S.E
  ·rw[if_neg h1]at hK
   refine S.I fun u=>?_
   have hX:=h0;repeat' (first|rintro _ _ ⟨rfl,rfl⟩|(refine G.call 37 ?_;refine S.c ?_ (h:=hv))|refine S.x ?_|intro hb|fail)
   obtain⟨m,hm⟩:∃m,m=xDE pp pp.length 0:=⟨_,rfl⟩
   rw[←hm]at hK
   refine Tr.loopE (α:=Nat) [4,5,26] [24,25] (fun x=>[.int .i64 0,.int .i64 0,.int .i64 x]) (fun _=>[]) (fun x=>x≤pp.length∧m=xDE pp (pp.length-x) x) (fun x=>pp.length-x) 0 S.T rfl ⟨Nat.zero_le _,hm⟩ fun k u hk=>?_
   obtain⟨hk,hm2⟩:=hk
   simp only[List.nil_append]
   by_cases hin:k<pp.length
   ·have hw:=Xo (k:=k) S.o
    have hlk:=hps _ (xCa hin)
    have hcl:=xLS (s:=(ix pp (k:Int)).s) hlk
    rw[show pp.length-k=(pp.length-(k+1))+1 by omega]at hm2
    unfold xDE at hm2
    cases ha: (ix pp (k:Int)).d.any xC4 with
    |false=>
     rw[ha,if_neg (by decide)]at hm2
     rw[ha]at hcl
     have hX:=hw;repeat' (first|rintro _ _ ⟨rfl,rfl⟩|(refine G.call 38 ?_;refine S.c ?_ (h:=hcl))|refine S.x ?_|intro hb|fail)
     all_goals exact S.R (k+1)
    |true=>
     rw[ha,if_pos rfl]at hm2
     rw[ha]at hcl
     rw[hm2,if_neg S.o]at hK
     clear hm hm2
     have hX:=hw;repeat' (first|rintro _ _ ⟨rfl,rfl⟩|(refine G.call 38 ?_;refine S.c ?_ (h:=hcl))|refine S.x ?_|intro hb|fail)
     all_goals exact Tr.fin hK ⟨rfl,rfl⟩ S.E
   ·have hke:k=pp.length:=by omega
    subst hke
    rw[Nat.sub_self]at hm2
    unfold xDE at hm2
    rw[hm2,if_pos (by decide)]at hK
    clear hm hm2
    repeat' (first|refine S.x ?_|fail)
    all_goals exact Tr.fin hK ⟨rfl,rfl⟩ S.E
 ·rw[if_pos h0]at hK
  refine S.I fun u=>?_
  have hX:=h0;repeat' (first|rintro _ _ ⟨rfl,rfl⟩|(refine G.call 37 ?_;refine S.c ?_ (h:=hv))|refine S.x ?_|intro hb|fail)
  all_goals exact Tr.fin hK ⟨rfl,rfl⟩ S.E
end
end
def xw9 (C:CC):Int:=Wr (Z9 C.conf).room (Z9 C.conf).ms
section
variable {C:CC} {c:CM} {k p:Int} {b:List UInt8} {ps:List AP}
theorem xnr {xs:List WZ} {k:Int}: (ix (xs.map Jj) k).2=false:=by
 rcases ZH (xs.map Jj) k with h|h
 ·obtain⟨x,_,e⟩:=List.mem_map.1 h
  rw[←e];rfl
 ·rw[h];rfl
theorem xfg (hc:okC C):Vz (Z9 C.conf):=xdJ hc.cap hc.cost (by rw[hc.np];have:=hc.n8;omega)
theorem xkZ (hc:okC C) (hi:Inv C c):Inv C (QU C c):=⟨xkN hi.ok,xq6,hi.p,xmn hc,fun m hm=>by
 have:some (Z9 C.conf)=some m:=hm
 cases this
 exact xfg hc,fun m hm k _ hd=>by
 have:some (Z9 C.conf)=some m:=hm
 cases this
 rw[show(ix (Z9 C.conf).ms k).2=false from xnr]at hd
 cases hd⟩
theorem xnk (hc:okC C) (hi:Inv C c):Rch C 444 (QU C c) (ZL C c):=by
 unfold ZL
 split
 ·exact xkq hc (xkZ hc hi).ok
 ·exact .le (.refl _) S.o
theorem xfq (hc:okC C) (hi:Inv C c) (h1:JB c):Inv C (ZL C c)∧JB (ZL C c)∧(ZL C c).evs.length≤c.evs.length+444∧xb1 (ZL C c)=(Z9 C.conf).room∧JZ (ZL C c)≤xw9 C:=by
 have hr:=xnk hc hi
 have hw:=xkZ hc hi
 refine⟨hr.inv hc hw,hr.r1 (show JB (QU C c)from h1),hr.ev,hr.room,?_⟩
 refine Int.le_trans (xqF (hr.inv hc hw).sl).2.1 (Int.le_trans (hr.lef hc hw.ok hw.S hw.sl) (Int.le_of_eq ?_))
 show(if(Z9 C.conf).room<VT (Z9 C.conf).ms then(Z9 C.conf).room else VT (Z9 C.conf).ms)=xw9 C
 exact(xiS (xfg hc)).symm
theorem xvZ: (J0 ps k b).map AP.c=ps.map AP.c:=by
 unfold J0
 split
 ·rename_i h
  exact xcS (JG h) rfl
 ·split
  ·rename_i h
   split
   ·exact xcS (JG h) rfl
   ·exact xcS (JG h) rfl
  ·rfl
theorem xs6: (YQ ps k).map AP.c=ps.map AP.c:=by
 unfold YQ
 split
 ·rename_i h
  exact xcS (JG h) rfl
 ·split
  ·rename_i h
   split
   ·exact xcS (JG h) rfl
   ·rfl
  ·rfl
theorem xlR (_:okC C) (hi:Inv C c) (h1:JB c) (h:ps.map AP.c=c.pts.map AP.c):Inv C {c with pts:=ps}∧JB {c with pts:=ps}:=⟨⟨⟨hi.ok.tb,hi.ok.pos,hi.ok.rest,hi.ok.addr,hi.ok.data,hi.ok.done,hi.ok.pi,hi.ok.ad,hi.ok.dl⟩,hi.dp,h.trans hi.p,hi.S,hi.sl,hi.sd⟩,h1⟩
theorem xpO (hc:okC C):Inv C (V4 C):=by
 have hn:∀m:SlM,(V4 C).slk=some m→False:=fun m hm=>by cases(show(none:Option SlM)=some m from hm)
 refine⟨xeC hc,fun k h0 hk=>?_,?_,fun m hm=>(hn m hm).elim,fun m hm=>(hn m hm).elim,fun m hm=>(hn m hm).elim⟩
 ·have h1:ix (List.replicate C.progs.length false) k=true:=hk
  have h2:ix (List.replicate C.progs.length false) k=false:=by
   unfold ix
   rw[List.getD_eq_getElem?_getD,List.getElem?_replicate]
   split<;>rfl
  rw[h1]at h2
  cases h2
 ·show(Wm C.conf.ports.d).map AP.c=_
  unfold Wm
  rw[List.map_map]
  exact List.map_id _
theorem xkz {win:Int}: (Yd C c k win).rest=(toM C c k 0).rest:=by
 unfold Yd
 simp only
 split<;>rfl
theorem xjh (n:Nat) (hn:n≤c.rest.length) {win:Int}: (XS C c win n).rest.length=c.rest.length∧∀j:Nat,j<n→1≤ix (XS C c win n).rest (j:Int)∧ix (XS C c win n).rest (j:Int)≤1073741824:=by
 induction n with
 |zero=>exact⟨rfl,fun j hj=>absurd hj (Nat.not_lt_zero _)⟩
 | succ n ih=>
  obtain⟨h1,h2⟩:=ih S.o
  have e: (XS C c win (n+1)).rest=(XS C c win n).rest.set (n:Int).toNat (WQ (ix (ix C.progs (n:Int)) (atM (ix C.progs (n:Int)) 0)).cycles):=by
   show(Yd C (XS C c win n) (n:Int) win).rest=_
   rw[xkz]
   rfl
  rw[e]
  refine⟨by rw[List.length_set];exact h1,fun j hj=>?_⟩
  have hr:inR (XS C c win n).rest (n:Int):=⟨by omega,by omega⟩
  rw[YY hr S.o]
  split
  ·exact xct
  ·exact h2 j S.o
theorem xmr (hc:okC C):Inv C (Qn C)∧JB (Qn C)∧(Qn C).evs=[]:=by
 have hr:Rch C 0 (V4 C) (Qn C):=xaj _ (Nat.le_refl _)
 have hl: (V4 C).rest.length=C.progs.length:=List.length_replicate
 obtain⟨h1,h2⟩:=xjh (C:=C) (c:=V4 C) (win:=0) C.progs.length S.o
 refine⟨hr.inv hc (xpO hc),fun x hx=>?_,?_⟩
 ·obtain⟨j,hj,e⟩:=List.mem_iff_getElem.1 hx
  have h3:=h2 j (by rw[←hl,←h1];exact hj)
  have h4:ix (Qn C).rest (j:Int)=x:=by
   unfold ix
   rw[Int.toNat_natCast,List.getD_eq_getElem?_getD,List.getElem?_eq_getElem hj,e]
   rfl
  rw[←h4];exact h3
 ·have:=hr.ev
  exact List.length_eq_zero_iff.1 (Nat.le_zero.1 this)
end
section
variable {C:CC} {c c':CM} {n m:Nat} {ls:List xBH} {bud q cyc:Int}
theorem Rch.up (h:Rch C n c c'):c.evs.length≤c'.evs.length:=by
 induction h with
 |trans _ _ h1 h2=>omega
 |note=>simp[Xa]
 |le _ _ h1=>exact h1
 |_=>exact Nat.le_refl _
def xCv (C:CC) (ls:List xBH) (bud q:Int):Nat→CM→Int→CM×Int
 |0,c,cyc=>(c,cyc)
 |n+1,c,cyc=>if xBS ls bud q cyc (X0 c)<1 then(c,cyc)else xCv C ls bud q n (xaO C c (xBS ls bud q cyc (X0 c))) (xCk ls cyc (xcH c (xBS ls bud q cyc (X0 c))))
def xCH (C:CC) (ls:List xBH) (bud q:Int) (c:CM) (cyc:Int):CM×Int:=xCv C ls bud q ((xw9 C).toNat+1) (ZL C c) cyc
theorem xGe {want:Int} (h:¬xBS ls bud q cyc want<1):xBS ls bud q cyc want≤want∧1≤xBS ls bud q cyc want∧xBS ls bud q cyc want≤max q want∧¬bud≤(xBI ls cyc).1:=by
 unfold xBS at*
 split at h
 ·exact absurd (by decide) h
 ·rename_i hn
  rw[if_neg hn]
  simp only[not_or]at hn
  split at h
  ·rename_i hq
   rw[if_pos hq]
   omega
  ·rename_i hq
   rw[if_neg hq]
   omega
theorem xKp {k:Int} (h1:1≤k) (h2:k≤X0 c):xcH c k=k:=by
 unfold xcH xc8
 by_cases h:X0 c<k
 ·omega
 ·rw[if_neg h,if_neg S.o]
theorem xFK (hc:okC C) (hi:Inv C c) (h1:JB c) (hm: (JZ c).toNat<m+1) (hp:¬xBS ls bud q cyc (X0 c)<1):
  (JZ (xaO C c (xBS ls bud q cyc (X0 c)))).toNat<m∧xcH c (xBS ls bud q cyc (X0 c))=xBS ls bud q cyc (X0 c):=by
 obtain⟨a1,a2,_,_⟩:=xGe hp
 have e:=xKp a2 a1
 obtain⟨b1,b2⟩:=xIf (cyc:=xBS ls bud q cyc (X0 c)) hc hi h1
 rw[e]at b1 b2
 exact⟨by omega,e⟩
structure xCU (C:CC) (c:CM) (cyc:Int):Prop where
 i:Inv C c
 r:JB c
 m:mD c.pts
 c0:0≤cyc
 c1:cyc≤1099511627776
theorem xJn {k:Int} (h0:0≤cyc) (h1:cyc≤1099511627776):0≤xCk ls cyc k∧xCk ls cyc k≤1099511627776:=by
 unfold xCk
 split
 ·exact⟨h0,h1⟩
 ·split
  ·exact⟨h0,h1⟩
  ·split
   ·omega
   ·exact⟨h0,h1⟩
theorem xHj (hc:okC C) (hi:Inv C c) (h1:JB c) {k:Int} (hm:mD c.pts):mD (xaO C c k).pts∧c.evs.length≤(xaO C c k).evs.length∧(xaO C c k).evs.length≤c.evs.length+122:=by
 unfold xaO
 by_cases h:xc8 c k<1
 ·rw[if_pos h];exact⟨hm,Nat.le_refl _,by omega⟩
 ·rw[if_neg h]
  have hn:xc8 c k≤X0 c:=by unfold xc8;split<;>omega
  obtain⟨m,hr⟩:=xdp hi S.o
  obtain⟨a,_⟩:=xlZ hc hr hi h1 S.o hn
  exact⟨a.md hm,a.up,a.ev⟩
theorem xCU.ran (hc:okC C) (h:xCU C c cyc) {k j:Int}:xCU C (xaO C c k) (xCk ls cyc j):=by
 obtain⟨t,t1,t2,t3,t4,t5,t6,t7⟩:=xiN hc h.i h.r (cyc:=k)
 obtain⟨s0,s1⟩:=xJn (ls:=ls) (k:=j) h.c0 h.c1
 exact⟨t5,t6,(xHj hc h.i h.r h.m).1,s0,s1⟩
theorem xCU.begin (hc:okC C) (h:xCU C c cyc):xCU C (ZL C c) cyc∧c.evs.length≤(ZL C c).evs.length∧(ZL C c).evs.length≤c.evs.length+444∧JZ (ZL C c)≤xw9 C:=by
 obtain⟨b1,b2,b3,_,b5⟩:=xfq hc h.i h.r
 have hr:=xnk hc h.i
 exact⟨⟨b1,b2,hr.md h.m,h.c0,h.c1⟩,hr.up,b3,b5⟩
theorem xEa (hc:okC C):∀(n:Nat) {c:CM} {cyc:Int},xCU C c cyc→xCU C (xCv C ls bud q n c cyc).1 (xCv C ls bud q n c cyc).2∧c.evs.length≤(xCv C ls bud q n c cyc).1.evs.length∧(xCv C ls bud q n c cyc).1.evs.length≤c.evs.length+n*122
 |0,c,cyc,h=>⟨h,Nat.le_refl _,by show c.evs.length≤_;omega⟩
 | n+1,c,cyc,h=>by
  unfold xCv
  split
  ·exact⟨h,Nat.le_refl _,by show c.evs.length≤_;omega⟩
  ·obtain⟨_,r2,r3⟩:=xHj hc h.i h.r h.m (k:=xBS ls bud q cyc (X0 c))
   obtain⟨x1,x2,x3⟩:=xEa hc n (h.ran (ls:=ls) hc (k:=xBS ls bud q cyc (X0 c)) (j:=xcH c (xBS ls bud q cyc (X0 c))))
   exact⟨x1,by omega,by omega⟩
end
section
structure SyW where
 ev:SV
 ms:SV
 bd:SV
 sh:SV
 md:SV
 cr:SV
 cs:SV
 ps:SV
 sn:SV
 bk:Nat
instance xNv:ElT 92 Pt:=⟨⟩
instance xMW:ElT 93 Pt:=⟨⟩
abbrev xHc (p:Nat) (c:xBG) (y:SyW):Xc:=blk p (.cells #[y.ev.v,y.ms.v,y.bd.v,.slice none 0 0,.int .i64 0,.int .i64 0,.int .i64 0,.int .i64 0,y.sh.v,y.md.v,y.cr.v,.int .i64 0,
 c.parts.s.v,c.chans.s.v,c.modes.s.v,c.levels.s.v,c.naps.s.v,.int .i64 c.sw,.int .i64 c.idle,.int .i64 c.change,.int .i64 c.quantum,.int .i64 c.slow,.int .i64 c.ppm,c.down.s.v,c.up.s.v,
 y.cs.v,y.ps.v,y.sn.v,.pointer (some ⟨y.bk,0,none⟩)] 96 (0,0))
attribute [local irreducible] xs2 inB xB0 xB9 xBI xB3
section
variable {p b:Nat} {c:xBG} {y:SyW} {C:CC} {w:CW} {m:CM} {k:Int} {cells:List Pt} {seen:List Int} {evs:List EvC}
theorem xGJ (h0:0≤k) (h1:k<cells.length) (h2:seen.length=cells.length) (hb:ix cells k=⟨some b⟩) (hs0:0≤ix seen k) (hs1:ix seen k≤m.evs.length) (he:m.evs.length≤500000000) (hev:evs.length≤500000000):
  Xb prog 87 #[.pointer (some ⟨p,0,none⟩),.int .i64 k] [xHc p c y,sl true y.cs.v cells,sl false y.sn.v seen,sl false y.ev.v evs,ZA b C m.mode m.win w,sl false w.ev.v m.evs]
  fun v l'=>∃s:SV,v=.tuple #[]∧l'=[xHc p c {y with ev:=s},sl false y.sn.v (seen.set k.toNat (m.evs.length:Int)),sl false s.v (evs++m.evs.drop (ix seen k).toNat),ZA b C m.mode m.win w,sl false w.ev.v m.evs]:=by
 intro F K hK
 simp only[ap]
 have hml:m.evs.length≤1000000000:=by omega
 have hce:=xdF (b:=b) (C:=C) (mode:=m.mode) (win:=m.win) (w:=w) hml
 refine S.I fun u=>?_
 have hX:=I3 @xM3.eq_def hb h2;repeat' (first|rintro _ _ ⟨se,rfl,rfl⟩|(refine G.call 136 ?_;refine S.c ?_ (h:=hce))|refine S.x ?_|intro hb|fail)
 refine Tr.freezeAt (v:=se.v) (xs:=m.evs) S.K ?_
 refine S.d ?_
 have hX:=I3 @xM3.eq_def hb h2;repeat' (first|intro(sv:SV)|refine S.x ?_|intro hb|fail)
 all_goals exact Tr.fin hK ⟨sv,rfl,rfl⟩ S.E
end
end
end
section
variable {g:PG} {Gs:List PG} {ps:List AP} {p:Nat} {l:List Xc} {X:WP} {n:Nat}
theorem xKd (h1:g.ab=ps) (h2:wfP g.gs):Imp (xBX g::l) (X2 g.p ps::l):=
 Imp.trans (Imp.trans Imp.sep (Imp.cons Imp.sep)) (ZJ (p:=g.p) (s:=g.s) (gs:=g.gs) h1 h2)
theorem xJL (h:∀g:PG,g.p=p→g.ab=ps→wfP g.gs→Tr (xBX g::l) X):Tr (X2 p ps::l) X:=
 Tr.pk fun x hx=>Tr.imp (Imp.trans (Imp.cons Imp.sepI) Imp.sepI) (h ⟨p,x.1,x.2⟩ rfl hx.1 hx.2)
def nmO (g:Xg):Xg:=if g.q=true then g else{g with ms:=[]}
theorem xGu {g:Xg} (h:g.q=true):nmO g=g:=if_pos h
theorem xGv {g:Xg} (h:¬g.q=true):nmO g={g with ms:=[]}:=if_neg h
theorem xKN {g:Xg}:Ym (nmO g)=Ym g:=by
 by_cases h:g.q=true
 ·rw[xGu h]
 ·rw[xGv h,xuk (g:=g) (by simpa using h),xuk (by simpa using h)]
theorem xMM {g:Xg}: (nmO g).pt=g.pt:=by
 by_cases h:g.q=true
 ·rw[xGu h]
 ·rw[xGv h];rfl
theorem xK8 {g:Xg}: (nmO g).abs=g.abs:=by
 by_cases h:g.q=true
 ·rw[xGu h]
 ·rw[xGv h]
  unfold Xg.abs
  simp[h,Xg.conf]
theorem xF7 {α:Type} {A:α→Xc} {f:α→α} (h:∀x,A (f x)=A x):∀{xs:List α},fam A (xs.map f)=fam A xs
 |[]=>rfl
 |x::xs=>by
  show sep (A (f x)) (fam A (xs.map f))=sep (A x) (fam A xs)
  rw[h x,xF7 h]
def nmP (g:PG):PG:={g with gs:=g.gs.map nmO}
theorem xH8 {g:PG}:xBX (nmP g)=xBX g:=by
 show sep (poB g.p g.s) (sep (fam Ym (g.gs.map nmO)) (sl false g.s.v ((g.gs.map nmO).map Xg.pt)))=_
 rw[xF7 fun x=>xKN,List.map_map,show(Xg.pt∘nmO)=Xg.pt from funext fun x=>xMM]
 rfl
theorem xMS {g:PG}: (nmP g).ab=g.ab:=by
 show(g.gs.map nmO).map Xg.abs=g.gs.map Xg.abs
 rw[List.map_map,show(Xg.abs∘nmO)=Xg.abs from funext fun x=>xK8]
theorem xMG {gs:List Xg} (h:okA (gs.map Xg.abs)) (hi:xb0 gs n):wfP (gs.map nmO):=by
 have hall:∀g∈gs,g.depth≤16∧(g.q=true→g.ms.length≤16):=fun g hg=>by
  obtain⟨h1,h2⟩:=h.2 g.abs (List.mem_map.2 ⟨g,hg,rfl⟩)
  refine⟨h1,fun hq=>?_⟩
  have: (g.ms.map SL.d).length≤16:=by
   have e:g.abs.ms=g.ms.map SL.d:=by unfold Xg.abs;simp[hq]
   rw[←e];exact h2
  simpa using this
 refine⟨⟨by rw[List.length_map];exact hi.1,fun x hx=>?_⟩,fun x hx=>?_⟩
 ·obtain⟨g,hg,rfl⟩:=List.mem_map.1 hx
  obtain⟨w1,w2,_⟩:=hi.2 g hg
  by_cases h:g.q=true
  ·rw[xGu h];exact⟨w1,w2,(hall g hg).2 h⟩
  ·rw[xGv h];exact⟨w1,w2,Nat.zero_le _⟩
 ·obtain⟨g,hg,rfl⟩:=List.mem_map.1 hx
  by_cases h:g.q=true
  ·rw[xGu h];exact(hall g hg).1
  ·rw[xGv h];exact(hall g hg).1
theorem xHm {gs:List Xg} (h:wfP gs):okA (gs.map Xg.abs):=by
 refine⟨by rw[List.length_map];exact h.1.1,fun a ha=>?_⟩
 obtain⟨g,hg,rfl⟩:=List.mem_map.1 ha
 obtain⟨_,_,w3⟩:=h.1.2 g hg
 refine⟨h.2 g hg,?_⟩
 unfold Xg.abs
 simp only
 split
 ·rw[List.length_map];exact w3
 ·split<;>simp
theorem xJK {k:Int} {m:List UInt8} (h:mD ps) (hm:m.length≤300):mD (J0 ps k m):=by
 unfold J0
 split
 ·rename_i hc
  exact xDH h (xFt h (JG hc)).1 fun d hd=>by rw[List.mem_singleton.1 hd];exact hm
 ·split
  ·rename_i hc
   obtain⟨h1,h2⟩:=xFt h (JG hc)
   split
   ·exact xDH h h1 h2
   ·refine xDH h h1 fun d hd=>?_
    rcases List.mem_append.1 hd with h3|h3
    ·exact h2 d h3
    ·rw[List.mem_singleton.1 h3];exact hm
  ·exact h
theorem xGk {k:Int} (h:mD ps):mD (YQ ps k):=by
 unfold YQ
 split
 ·rename_i hc
  exact xDH h (xFt h (JG hc)).1 fun d hd=>by cases hd
 ·split
  ·rename_i hc
   obtain⟨h1,h2⟩:=xFt h (JG hc)
   split
   ·exact xDH h h1 h2
   ·exact h
  ·exact h
theorem xJU (h:mD ps):xHe ps:=fun x hx=>(h x hx).2
structure StI (st:St):Prop where
 a:∀x∈st,okA x
 m:∀x∈st,mD x
theorem StI.set {st:St} {k:Nat} {x:List AP} (h:StI st) (h1:okA x) (h2:mD x):StI (st.set k x):=⟨fun y hy=>by
 rcases List.mem_or_eq_of_mem_set hy with h'|rfl
 ·exact h.a y h'
 ·exact h1,fun y hy=>by
 rcases List.mem_or_eq_of_mem_set hy with h'|rfl
 ·exact h.m y h'
 ·exact h2⟩
theorem StI.ix {st:St} {k:Int} (h:StI st) (h0:0≤k) (h1:k<st.length):okA (Go.Wk.ix st k)∧mD (Go.Wk.ix st k):=⟨h.a _ (List.mem_of_getElem? (Yi h0 h1)),h.m _ (List.mem_of_getElem? (Yi h0 h1))⟩
theorem StI.deliv {st:St} {chs:List xBJ} {ch:Int} {d:List UInt8} (h:StI st) (hd:d.length≤300):StI (xCg chs ch d st):=by
 unfold xCg
 split
 ·rename_i ho
  obtain⟨h1,h2⟩:=h.ix ho.2.1 ho.2.2
  exact h.set (xrs h1) (xJK h2 hd)
 ·exact h
theorem xEA {chs:List xBJ}:∀{l:List Int} {ab:List AP},okA ab→mD ab→okA (xCp ab chs l)∧mD (xCp ab chs l)
 |[],_,h1,h2=>⟨h1,h2⟩
 |k::l,ab,h1,h2=>xEA (l:=l) (ab:=YQ ab (ix chs k).fo) (xnm h1) (xGk h2)
theorem StI.delivs {chs:List xBJ}:∀{ms:List (Int×Int×List UInt8)} {st:St},StI st→(∀m∈ms,m.2.2.length≤300)→StI (xCq chs ms st)
 |[],_,h,_=>h
 |m::ms,st,h,hm=>StI.delivs (ms:=ms) (st:=xCg chs m.1 m.2.2 st) (h.deliv (hm m (by simp))) fun x hx=>hm x (by simp[hx])
theorem StI.flush {st:St} {chs:List xBJ} {part win:Int} (h:StI st):StI (xBQ chs part win st):=by
 unfold xBQ
 split
 ·rename_i hi
  obtain⟨h1,h2⟩:=h.ix hi.1 hi.2
  obtain⟨d1,d2⟩:=xEA (chs:=chs) (l:=xEb chs part) h1 h2
  exact StI.delivs (h.set d1 d2) fun m hm=>xFV (xJU h2) m (List.mem_of_mem_take hm)
 ·exact h
theorem xHi {st:St} {chs:List xBJ} {ch:Int} {d:List UInt8}: (xCg chs ch d st).length=st.length:=by
 unfold xCg
 split
 ·exact List.length_set
 ·rfl
theorem xD7 {chs:List xBJ}:∀{ms:List (Int×Int×List UInt8)} {st:St},(xCq chs ms st).length=st.length
 |[],_=>rfl
 |m::ms,st=>(xD7 (ms:=ms) (st:=xCg chs m.1 m.2.2 st)).trans xHi
theorem xDG {st:St} {chs:List xBJ} {part win:Int}: (xBQ chs part win st).length=st.length:=by
 unfold xBQ
 split
 ·rw[xD7,List.length_set]
 ·rfl
theorem xFa {st:St} {chs:List xBJ} {part win:Int}: (xCZ chs part win st).length≤4096:=by
 unfold xCZ xEe
 split
 ·rw[List.length_take];omega
 ·exact Nat.zero_le _
theorem xIr {st:St} {chs:List xBJ} {ch:Int} {d:List UInt8}: (xCg chs ch d st).map (List.map AP.c)=st.map (List.map AP.c):=by
 unfold xCg
 split
 ·rename_i ho
  rw[List.map_set,xvZ]
  have h: (ix chs ch).tp.toNat<st.length:=by have:=ho.2.1;have:=ho.2.2;omega
  have e0:ix st (ix chs ch).tp=st[(ix chs ch).tp.toNat]:=Option.some.inj ((Yi ho.2.1 ho.2.2).symm.trans (List.getElem?_eq_getElem h))
  have e: (ix st (ix chs ch).tp).map AP.c=(st.map (List.map AP.c))[(ix chs ch).tp.toNat]'(by simpa using h):=by rw[List.getElem_map,e0]
  rw[e];exact List.set_getElem_self _
 ·rfl
theorem xEu {chs:List xBJ}:∀{ms:List (Int×Int×List UInt8)} {st:St},(xCq chs ms st).map (List.map AP.c)=st.map (List.map AP.c)
 |[],_=>rfl
 |m::ms,st=>(xEu (ms:=ms) (st:=xCg chs m.1 m.2.2 st)).trans xIr
theorem xE9 {chs:List xBJ}:∀{l:List Int} {ab:List AP},(xCp ab chs l).map AP.c=ab.map AP.c
 |[],_=>rfl
 |k::l,ab=>(xE9 (l:=l) (ab:=YQ ab (ix chs k).fo)).trans xs6
theorem xEW {st:St} {chs:List xBJ} {part win:Int}: (xBQ chs part win st).map (List.map AP.c)=st.map (List.map AP.c):=by
 unfold xBQ
 split
 ·rename_i hi
  rw[xEu,List.map_set,xE9]
  have h:part.toNat<st.length:=by have:=hi.1;have:=hi.2;omega
  have e: (ix st part).map AP.c=(st.map (List.map AP.c))[part.toNat]'(by simpa using h):=by simp[ix,h]
  rw[e];exact List.set_getElem_self _
 ·rfl
end
structure xBN where
 b:Nat
 C:CC
 c:CM
 w:CW
 gs:List Xe
instance xOe:Inhabited CC:=⟨⟨default,0,[],0⟩⟩
instance xNM:Inhabited xBN:=⟨⟨0,default,V4 default,⟨⟨none,0,0⟩,0,0,0,0,0,none,⟨none,0,0⟩⟩,[]⟩⟩
def xBN.pt (x:xBN):Pt:=⟨some x.b⟩
abbrev xMy (x:xBN):List Xc:=[ZA x.b x.C x.c.mode x.c.win x.w,sl false x.w.ts.v (x.gs.map Xe.pt),fam Zg x.gs,YG x.w.tb x.c.tb,Y1 x.w.mem x.c.mem,objX x.w.obs x.C.conf x.c.obs,xsI x.w.mon x.C.conf.acts.d,Zw x.w.slk x.c.slk,sl false x.w.ev.v x.c.evs,sl true x.C.conf.procs.s.v x.C.conf.procs.d]
def xC2 (x:xBN):Xc:=sepL (xMy x)
section
variable {x:xBN} {g:PG} {Gs:List PG} {xs:List xBN} {l l1 l2:List Xc} {X:WP} {p k:Nat} {ps:List AP}
theorem xIe (h:Tr (xMy x++l) X):Tr (xC2 x::l) X:=Tr.imp Imp.sepO h
theorem xHn (x:xBN) (ht:YK l (xMy x) l1) (h:Tr (xC2 x::l1) X):Tr l X:=Tr.imp (Imp.trans ht Imp.sepC) h
theorem xJ3 (hp:g.p=p) (h1:g.ab=ps) (h2:wfP g.gs) (ht:Xm l (xBX g) l1) (h:Tr (X2 p ps::l1) X):Tr l X:=by
 subst hp
 exact Tr.imp (Imp.trans ht (xKd h1 h2)) h
theorem xFO (ht:Xm l (X2 p ps) l1) (h:∀g:PG,g.p=p→g.ab=ps→wfP g.gs→Tr (xBX g::l1) X):Tr l X:=Tr.imp ht (xJL h)
theorem xGw (hk:k<Gs.length) (h1:Xm l (xBX g) l1) (h2:Xm l1 (fam xBX (Gs.eraseIdx k)) l2) (h:Tr (fam xBX (Gs.set k g)::l2) X):Tr l X:=
 Tr.imp (Imp.trans h1 (Imp.trans (Imp.cons h2) (xgz hk))) h
theorem xGz (hk:k<xs.length) (h1:Xm l (xC2 x) l1) (h2:Xm l1 (fam xC2 (xs.eraseIdx k)) l2) (h:Tr (fam xC2 (xs.set k x)::l2) X):Tr l X:=
 Tr.imp (Imp.trans h1 (Imp.trans (Imp.cons h2) (xgz hk))) h
structure xGC (x:xBN) (g:PG) (cyc:Int):Prop where
 c:okC x.C
 r:Rel x.C x.c x.w x.gs
 i:xCU x.C x.c cyc
 p:g.p=x.C.pp
 a:g.ab=x.c.pts
 w:wfP g.gs
theorem xM8:∀{Gs:List PG},fam xBX (Gs.map nmP)=fam xBX Gs:=xF7 fun _=>xH8
theorem xNY: (Gs.map nmP).map PG.pt=Gs.map PG.pt:=by rw[List.map_map];rfl
theorem xNJ: (Gs.map nmP).map PG.ab=Gs.map PG.ab:=by rw[List.map_map,show(PG.ab∘nmP)=PG.ab from funext fun x=>xMS]
theorem xNA {n:Nat} (h:xEd Gs n) (hs:StI (Gs.map PG.ab)):∀g∈Gs.map nmP,wfP g.gs:=fun g hg=>by
 obtain⟨g0,h0,rfl⟩:=List.mem_map.1 hg
 exact xMG (hs.a g0.ab (List.mem_map.2 ⟨g0,h0,rfl⟩)) (h g0 h0)
