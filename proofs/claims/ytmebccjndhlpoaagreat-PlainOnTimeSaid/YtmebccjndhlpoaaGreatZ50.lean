import Derived.Test.YtmebccjndhlpoaaGreatZ49
namespace Go.Proofs.YtmebccjndhlpoaaGreat
open Go Go.Wk Tryz
set_option maxHeartbeats 3200000
set_option maxRecDepth 100000
structure xJI (c:xBG) (pp:List xBW) (fs:List xBR):Prop where
 f:fs.length≤70
 p:pp.length≤20
 c:∀p∈c.parts.d,p.cap≤300
 s:∀p∈pp,p.d.length≤20∧∀x∈p.d,x.d.length≤100
section
attribute [local irreducible] BrK Xq Xt Xv XI FnK XZ Xw XC XV opX opK Yq Yk eqR Yj Yo Ys WL WD W X3 XO Tr drewK Ya X4 Yw Yv X1 YB mp blk rob sl sep ex fact old
section
variable {c:xBG} {ps fv:SV} {pp:List xBW} {fs:List xBR}
theorem xLF:Xb prog 14 #[.agg (En.enc c).toArray]
  [sl true c.parts.s.v c.parts.d,fzl c.parts.d,sl true c.chans.s.v c.chans.d,sl true c.modes.s.v c.modes.d,fzl c.modes.d,sl true c.levels.s.v c.levels.d,sl true c.naps.s.v c.naps.d,sl true c.down.s.v c.down.d,sl true c.up.s.v c.up.d]
  fun v l'=>∃b:Bool,(b=true→shC c)∧v=.bool b∧l'=[]:=by
 intro F K hK
 simp only[ap]
 refine S.I fun u=>?_
 by_cases h1:c.parts.d.length≤100∧c.chans.d.length≤100∧c.modes.d.length≤100∧c.levels.d.length≤100∧c.naps.d.length≤100∧c.down.d.length≤100∧c.up.d.length≤100
 ·obtain⟨h1,h2,h3,h4,h5,h6,h7⟩:=h1
  repeat' (first|refine S.x ?_|intro hb|fail)
  refine Tr.loopE (α:=Nat) [2,3] [1] (fun k=>[.bool false,.int .i64 k]) (fun _=>[]) (fun k=>k≤c.parts.d.length∧∀j:Nat,j<k→shP (ix c.parts.d (j:Int))) (fun k=>c.parts.d.length-k) 0 S.T rfl ⟨Nat.zero_le _,fun j hj=>absurd hj (Nat.not_lt_zero _)⟩ fun k u hk=>?_
  obtain⟨hk,hall⟩:=hk
  simp only[List.nil_append]
  by_cases hin:k<c.parts.d.length
  ·have hw:=Xo (k:=k) S.o
   by_cases hp: (ix c.parts.d (k:Int)).regions.d.length≤100∧(ix c.parts.d (k:Int)).procs.d.length≤100∧(ix c.parts.d (k:Int)).ports.d.length≤100∧(ix c.parts.d (k:Int)).sems.d.length≤100∧(ix c.parts.d (k:Int)).pools.d.length≤100∧(ix c.parts.d (k:Int)).slates.d.length≤100∧(ix c.parts.d (k:Int)).acts.d.length≤100
   ·obtain⟨p1,p2,p3,p4,p5,p6,p7⟩:=hp
    have hall2:=JT (p:=fun j:Nat=>shP (ix c.parts.d (j:Int))) hall ⟨by omega,by omega,by omega,by omega,by omega,by omega,by omega⟩
    have hX:=hw;repeat' (first|refine S.x ?_|intro hb|fail)
    all_goals exact S.R (k+1)
   ·have hX:=hw;repeat' (first|refine S.x ?_|refine S.y ?_ ?_|intro hb|fail)
    all_goals first
     |exact Tr.fin hK ⟨false,(fun h=>by cases h),rfl,rfl⟩ S.E
     |(exfalso;omega)
  ·have hall3:=xba (p:=shP) S.o hall
   repeat' (first|refine S.x ?_|fail)
   refine Tr.loopE (α:=Nat) [2,5] [1] (fun k=>[.bool false,.int .i64 k]) (fun _=>[]) (fun k=>k≤c.modes.d.length∧∀j:Nat,j<k→(ix c.modes.d (j:Int)).wins.d.length≤1000000000) (fun k=>c.modes.d.length-k) 0 S.T rfl ⟨Nat.zero_le _,fun j hj=>absurd hj (Nat.not_lt_zero _)⟩ fun k u hk=>?_
   obtain⟨hk,halm⟩:=hk
   simp only[List.nil_append]
   by_cases hin:k<c.modes.d.length
   ·have hw:=Xo (k:=k) S.o
    by_cases hp: (ix c.modes.d (k:Int)).wins.d.length≤100
    ·have hall2:=JT (p:=fun j:Nat=>(ix c.modes.d (j:Int)).wins.d.length≤1000000000) halm S.o
     have hX:=hw;repeat' (first|refine S.x ?_|intro hb|fail)
     all_goals exact S.R (k+1)
    ·have hX:=hw;repeat' (first|refine S.x ?_|intro hb|fail)
     all_goals exact Tr.fin hK ⟨false,(fun h=>by cases h),rfl,rfl⟩ S.E
   ·have halm3:=xba (p:=fun m:xCz=>m.wins.d.length≤1000000000) S.o halm
    repeat' (first|refine S.x ?_|fail)
    all_goals exact Tr.fin hK ⟨true,(fun _=>⟨by omega,by omega,by omega,by omega,by omega,by omega,by omega,hall3,halm3⟩),rfl,rfl⟩ S.E
 ·repeat' (first|refine S.x ?_|refine S.y ?_ ?_|intro hb|fail)
  all_goals first
   |exact Tr.fin hK ⟨false,(fun h=>by cases h),rfl,rfl⟩ S.E
   |(exfalso;omega)
theorem xJ6:Xb prog 22 #[.agg (En.enc c).toArray,.agg #[ps.v,fv.v]]
    [sl true c.parts.s.v c.parts.d,fzl c.parts.d,sl true ps.v pp,fzl pp,sl true fv.v fs]
    fun v l'=>∃b:Bool,(b=true→xJI c pp fs)∧v=.bool b∧l'=[]:=by
  intro F K hK
  simp only[ap]
  refine S.I fun u=>?_
  by_cases h1:fs.length≤70∧pp.length≤20∧c.parts.d.length≤100
  · obtain⟨h1,h2,h3⟩:=h1
    repeat' (first|refine S.x ?_|intro hb|fail)
    refine Tr.loopE (α:=Nat) [4,5] [2,3] (fun k=>[.bool false,.int .i64 k]) (fun _=>[]) (fun k=>k≤c.parts.d.length∧∀j:Nat,j<k→(ix c.parts.d (j:Int)).cap≤300) (fun k=>c.parts.d.length-k) 0 S.T rfl ⟨Nat.zero_le _,fun j hj=>absurd hj (Nat.not_lt_zero _)⟩ fun k u hk=>?_
    obtain⟨hk,hall⟩:=hk
    simp only[List.nil_append]
    by_cases hin:k<c.parts.d.length
    · have hw:=Xo (k:=k) S.o
      by_cases hp: (ix c.parts.d (k:Int)).cap≤300
      · have hall2:=JT (p:=fun j:Nat=>(ix c.parts.d (j:Int)).cap≤300) hall hp
        have hX:=hw;repeat' (first|refine S.x ?_|intro hb|fail)
        all_goals exact S.R (k+1)
      · have hX:=hw;repeat' (first|refine S.x ?_|intro hb|fail)
        all_goals exact Tr.fin hK ⟨false,(fun h=>by cases h),rfl,rfl⟩ S.E
    · have hall3:=xba (p:=fun p:YF=>p.cap≤300) S.o hall
      repeat' (first|refine S.x ?_|fail)
      refine Tr.loopE (α:=Nat) [4,6] [3] (fun k=>[.bool false,.int .i64 k]) (fun _=>[]) (fun k=>k≤pp.length∧∀j:Nat,j<k→(ix pp (j:Int)).d.length≤20∧∀x∈(ix pp (j:Int)).d,x.d.length≤100) (fun k=>pp.length-k) 0 S.T rfl ⟨Nat.zero_le _,fun j hj=>absurd hj (Nat.not_lt_zero _)⟩ fun k u hk=>?_
      obtain⟨hk,halm⟩:=hk
      simp only[List.nil_append]
      by_cases hin:k<pp.length
      · have hw:=Xo (k:=k) S.o
        have hsh:=xjN (s:=(ix pp (k:Int)).s) (ps:=(ix pp (k:Int)).d)
        have hX:=hw;repeat' (first|rintro _ _ ⟨bs,hbs,rfl,rfl⟩|(refine G.call 36 ?_;refine S.c ?_ (h:=hsh))|refine S.x ?_|refine S.y ?_ ?_|intro hb|fail)
        all_goals first
          |exact Tr.fin hK ⟨false,(fun h=>by cases h),rfl,rfl⟩ S.E
          | (have hall2:=JT (p:=fun j:Nat=>(ix pp (j:Int)).d.length≤20∧∀x∈(ix pp (j:Int)).d,x.d.length≤100) halm (hbs rfl)
             exact S.R (k+1))
          | (have hall2:=JT (p:=fun j:Nat=>(ix pp (j:Int)).d.length≤20∧∀x∈(ix pp (j:Int)).d,x.d.length≤100) halm (hbs ‹_›)
             exact S.R (k+1))
      · have halm3:=xba (p:=fun p:xBW=>p.d.length≤20∧∀x∈p.d,x.d.length≤100) S.o halm
        repeat' (first|refine S.x ?_|fail)
        all_goals exact Tr.fin hK ⟨true,(fun _=>⟨h1,h2,hall3,halm3⟩),rfl,rfl⟩ S.E
  · repeat' (first|refine S.x ?_|refine S.y ?_ ?_|intro hb|fail)
    all_goals first
      |exact Tr.fin hK ⟨false,(fun h=>by cases h),rfl,rfl⟩ S.E
      |(exfalso;omega)
end
section
attribute [local irreducible] xs2 inB xB0 xB9 xBI xB3 xCE xCu xBT xBO
section
variable {c:xBG} {ps fv:SV} {pp:List xBW} {fs:List xBR}
abbrev xL6 (c:xBG):List Xc:=[sl true c.parts.s.v c.parts.d,fzl c.parts.d,sl true c.chans.s.v c.chans.d,sl true c.modes.s.v c.modes.d,fzl c.modes.d,sl true c.levels.s.v c.levels.d,sl true c.naps.s.v c.naps.d,sl true c.down.s.v c.down.d,sl true c.up.s.v c.up.d]
theorem xLK:Xb prog 6 #[.agg (En.enc c).toArray,.agg #[ps.v,fv.v]]
  (xL6 c++[sl true ps.v pp,fzl pp,sl true fv.v fs])
  fun v l'=>∃b:Bool,(b=true→shC c∧xJI c pp fs)∧v=.bool b∧l'=[]:=by
 intro F K hK
 simp only[ap]
 have h1:=xLF (c:=c)
 have h2:=xJ6 (c:=c) (ps:=ps) (fv:=fv) (pp:=pp) (fs:=fs)
 refine S.I fun u=>?_
 repeat' (first|(refine G.call 14 ?_;refine S.c ?_ (h:=h1);rintro _ _ ⟨b1,hb1,rfl,rfl⟩)|(refine G.call 22 ?_;refine S.c ?_ (h:=h2);rintro _ _ ⟨b2,hb2,rfl,rfl⟩)|refine S.x ?_|refine S.y ?_ ?_|intro hb|fail)
 ·exact Tr.fin hK ⟨b2,(fun h=>⟨hb1 ‹_›,hb2 h⟩),rfl,rfl⟩ S.E
 ·exact Tr.fin hK ⟨false,(fun h=>by cases h),rfl,rfl⟩ S.E
end
end
section
theorem xKq {x:xBW} {pp:List xBW}:xCf ([x]++pp) 0=x:=by
 unfold xCf
 rw[if_pos ⟨Int.le_refl 0,by rw[List.length_append,List.length_singleton];omega⟩]
 rfl
attribute [local irreducible] xs2 inB xB0 xB9 xBI xB3 xCE xCu xBT xBO
section
variable {c:xBG} {ps fv sc:SV} {pp:List xBW} {fs:List xBR} {cs:List UInt8}
theorem xLG:Xb prog 4 #[.agg (En.enc c).toArray,.agg #[ps.v,fv.v],sc.v]
    (xL6 c++[sl true ps.v pp,fzl pp,sl true fv.v fs,sl true sc.v cs]) fun v l'=>v=.bool true∧l'=[]:=by
  intro F K hK
  simp only[ap]
  have hfl:=xLK (c:=c) (ps:=ps) (fv:=fv) (pp:=pp) (fs:=fs)
  simp only[ap]at hfl
  refine S.I fun u=>?_
  by_cases hne:c.parts.d.length=0
  · have hX:=@pl4.eq_def;repeat' (first|(refine G.call 6 ?_;refine S.c ?_ (h:=hfl);rintro _ _ ⟨b1,hb1,rfl,rfl⟩)|(refine G.call 7 ?_;refine S.c ?_ (h:=xCJ);rintro _ _ ⟨rfl,rfl⟩)|refine S.x ?_|refine S.y ?_ ?_|intro hb|fail)
    all_goals exact S.L
  by_cases hc20:cs.length≤20
  · have hp0:0<c.parts.d.length:=by omega
    have hX:=@pl4.eq_def;repeat' (first|(refine G.call 6 ?_;refine S.c ?_ (h:=hfl);rintro _ _ ⟨b1,hb1,rfl,rfl⟩)|(refine G.call 7 ?_;refine S.c ?_ (h:=xCJ);rintro _ _ ⟨rfl,rfl⟩)|refine S.x ?_|refine S.y ?_ ?_|intro hb|fail)
    · exact S.L
    rename_i bc bs
    obtain⟨hs,hfw⟩:=hb1 hb
    have hpl:pp.length≤1000000000:=by have:=hfw.p;omega
    have hps:∀p∈pp,p.d.length≤1000000000:=fun p hp=>by have:=(hfw.s p hp).1;omega
    have hck:=xKV (ps:=ps) (fv:=fv) (pp:=pp) (fs:=fs) hs hpl hps
    have hdm:=xLz (x:=ix c.parts.d 0) (hs.ps _ (List.mem_of_getElem? (Yi (Int.le_refl 0) S.o))).p
    clear hfl
    have hX:=@pl4.eq_def;repeat' (first|(refine G.call 10 ?_;refine S.c ?_ (h:=hck);rintro _ _ ⟨e,at_,he,rfl,rfl⟩)|(refine G.call 11 ?_;refine S.c ?_ (h:=hdm);rintro _ _ ⟨n,f,hn,rfl,rfl⟩)|(refine G.call 7 ?_;refine S.c ?_ (h:=xCJ);rintro _ _ ⟨rfl,rfl⟩)|refine S.x ?_|refine S.y ?_ ?_|intro hb|fail)
    all_goals try exact S.L
    rename_i bx he0 _ hnc
    obtain⟨hcm,hf64,hp64⟩:=he he0
    have hco:=xHH hcm
    have hpo:=xEO (hco.p 0 (Int.le_refl 0) S.o)
    have hpc: (ix c.parts.d 0).procs.d.length≤8∧∀p∈(ix c.parts.d 0).procs.d,1≤p.cost∧p.cost≤1000000000:=⟨by have:=hpo.pr.1;omega,fun p hp=>by
      have:=hpo.pr.2 p hp
      unfold xCl at this
      simp only[Bool.and_eq_true]at this
      exact xB6 this.2.2⟩
    have hsum:xCs (xDd (ix c.parts.d 0))≤(ix c.parts.d 0).cap:=by rw[←(hn hpc).1];omega
    clear hn hck hdm he hpo
    refine Tr.loopE (α:=Nat) [6,12] [2,3,4,9] (fun k=>[.bool false,.int .i64 k]) (fun _=>[blk bc (.cells (En.enc c).toArray 33 (0,0))]) (fun k=>k≤c.modes.d.length∧∀j:Nat,j<k→(xBI c.levels.d (ix c.parts.d 0).cap).1*(xCG (ix c.modes.d (j:Int)).wins.d:Int)<(ix c.parts.d 0).budget) (fun k=>c.modes.d.length-k) 0 S.T rfl ⟨Nat.zero_le _,fun j hj=>absurd hj (Nat.not_lt_zero _)⟩ fun k u hk=>?_
    obtain⟨hk,hall⟩:=hk
    simp only[ap]
    by_cases hin:k<c.modes.d.length
    · have hw:=Xo (k:=k) (by have:=hco.m4;omega)
      have hcv:=xMQ (k:=(k:Int)) hs hco S.o S.o
      have hX:=And.intro @pl4.eq_def hw;repeat' (first|(refine G.call 12 ?_;refine S.c ?_ (h:=hcv);rintro _ _ ⟨b,hbv,rfl,rfl⟩)|(refine G.call 7 ?_;refine S.c ?_ (h:=xCJ);rintro _ _ ⟨rfl,rfl⟩)|refine S.x ?_|refine S.y ?_ ?_|intro hb|fail)
      all_goals first
        |exact S.L
        | (have hall2:=JT (p:=fun j:Nat=>(xBI c.levels.d (ix c.parts.d 0).cap).1*(xCG (ix c.modes.d (j:Int)).wins.d:Int)<(ix c.parts.d 0).budget) hall (hbv ‹_›)
           exact S.R (k+1))
    · have hke:k=c.modes.d.length:=by omega
      subst hke
      have hcov:∀k:Int,0≤k→k<c.modes.d.length→(xBI c.levels.d (ix c.parts.d 0).cap).1*(xCG (ix c.modes.d k).wins.d:Int)<(ix c.parts.d 0).budget:=fun k k0 k1=>by
        have:=hall k.toNat S.o
        rwa [Int.toNat_of_nonneg k0]at this
      have hsd:=xM9 (x:=ix c.parts.d 0) (sc:=sc) (cs:=cs) hpc.1 hpc.2 hc20
      clear hall
      have hX:=@pl4.eq_def;repeat' (first|(refine G.call 13 ?_;refine S.c ?_ (h:=hsd);rintro _ _ ⟨st,m,hm,rfl,rfl⟩)|refine S.x ?_|fail)
      have hrb:=fun(q:xBW) (hq:q.d=m∨q∈pp)=>hq
      have hml:m.length=(ix c.parts.d 0).procs.d.length:=by have:=congrArg List.length hm;rw[List.length_map,xER]at this;exact this
      have hm1:∀x∈m,x.d.length≤64:=fun x hx=>by
        have:x.d∈m.map SL.d:=List.mem_map.2 ⟨x,hx,rfl⟩
        rw[hm]at this
        obtain⟨i,_,e⟩:=List.mem_map.1 this
        rw[←e]
        show 1≤64
        decide
      have hpl2: ([(⟨st,m⟩:xBW)]++pp).length≤1000000000:=by rw[List.length_append];show 1+_≤_;have:=hfw.p;omega
      have hps2:∀p∈[(⟨st,m⟩:xBW)]++pp,p.d.length≤1000000000:=fun p hp=>by
        rcases List.mem_append.1 hp with hp|hp
        · rw[List.mem_singleton.1 hp];show m.length≤_;have:=hpc.1;omega
        · exact hps p hp
      have hch: (xCE c ([(⟨st,m⟩:xBW)]++pp) fs).1=0:=xKl hcm hf64 fun j hj x hx=>by
        have hm2:ix ([(⟨st,m⟩:xBW)]++pp) (j:Int)∈[(⟨st,m⟩:xBW)]++pp:=xCa hj
        rcases List.mem_append.1 hm2 with hp|hp
        · rw[List.mem_singleton.1 hp]at hx;exact hm1 x hx
        · exact hp64 _ hp x hx
      refine Tr.fzSteps3 (xs:=pp) fun hst=>?_
      have hsc:xFs ([(⟨st,m⟩:xBW)]++pp):=by
        refine⟨fun p hp x hx=>?_,fun p hp x hx=>?_⟩<;>rcases List.mem_append.1 hp with hp|hp
        · rw[List.mem_singleton.1 hp]at hx;exact hm1 x hx
        · exact hp64 _ hp x hx
        · rw[List.mem_singleton.1 hp]at hx
          have:x.d∈m.map SL.d:=List.mem_map.2 ⟨x,hx,rfl⟩
          rw[hm]at this
          obtain⟨i,_,e⟩:=List.mem_map.1 this
          rw[←e]
          intro y hy
          rw[List.mem_singleton.1 hy]
          have hz:okZ 0:=by decide
          exact⟨hz,hz,hz,hz⟩
        · exact hst _ hp x hx
      have hlaw:=fun Cs (hC:xKf c ([(⟨st,m⟩:xBW)]++pp) Cs)=>xG4 (fs:=fs) (cs:=cs) hco hfw.c hsc hC (by rw[xKq];exact hm) hsum hcov
      have hrn:=fun s=>xHS (c:=c) (ps:=s) (fv:=fv) (pp:=[(⟨st,m⟩:xBW)]++pp) (fs:=fs) hs hpl2 hps2 hfw.c hch
      have hp20:=hfw.p
      clear hpl2 hps2 hch hsc hst hm1 hrb hcov hsum hpc hps hpl
      refine Tr.freezeAt (v:=st.v) (xs:=m) S.K ?_
      simp only[ap]at hrn hlaw
      have hX:=@pl4.eq_def;repeat' (first|intro(sx:SV)|refine S.x ?_|fail)
      refine Tr.freezeAt (v:=sx.v) (xs:=(⟨st,m⟩:xBW)::pp) S.K ?_
      have hX:=@pl4.eq_def;repeat' (first|(refine G.call 8 ?_;refine S.c ?_ (h:=hrn _);rintro _ _ ⟨ev,ms,bd,sh,md,cr,m2,crl,Cs,hC,hm2,hcr,hev,hml2,rfl,rfl⟩)|refine S.x ?_|intro hb|fail)
      have hE:=hlaw Cs hC
      generalize(xBT c Cs (xBO c p0 fs) (t0 Cs)).evs=evs at*
      clear hlaw hrn hC hm2 hcr
      obtain⟨br,rfl⟩:∃y,y=hb:=⟨_,rfl⟩
      refine Tr.loopE (α:=Nat) [6,15] [13] (fun k=>[.bool false,.int .i64 k]) (fun _=>[blk br (.cells #[ev.v,ms.v,bd.v,.slice none 0 0,.int .i64 0,.int .i64 0,.int .i64 0,.int .i64 0,sh.v,md.v,cr.v,.int .i64 0] 47 (0,0)),sl false ev.v evs]) (fun k=>k≤evs.length) (fun k=>evs.length-k) 0 S.T rfl (Nat.zero_le _) fun k u hk2=>?_
      simp only[ap]
      by_cases hin2:k<evs.length
      · have hw:=Xo (k:=k) S.o
        have he1:=hE _ (xCa hin2)
        by_cases hp1: (ix evs (k:Int)).part=0
        · have he2:=he1 hp1
          have hX:=And.intro @pl4.eq_def hw;repeat' (first|refine S.x ?_|intro hb|fail)
          all_goals exact S.R (k+1)
        · have hX:=And.intro @pl4.eq_def hw;repeat' (first|refine S.x ?_|intro hb|fail)
          all_goals exact S.R (k+1)
      · have hX:=@pl4.eq_def;repeat' (first|(refine G.call 7 ?_;refine S.c ?_ (h:=xCJ);rintro _ _ ⟨rfl,rfl⟩)|refine S.x ?_|fail)
        all_goals exact S.L
  · have hX:=@pl4.eq_def;repeat' (first|(refine G.call 6 ?_;refine S.c ?_ (h:=hfl);rintro _ _ ⟨b1,hb1,rfl,rfl⟩)|(refine G.call 7 ?_;refine S.c ?_ (h:=xCJ);rintro _ _ ⟨rfl,rfl⟩)|refine S.x ?_|refine S.y ?_ ?_|intro hb|fail)
    all_goals exact S.L
