import Derived.Test.YtmebccjndhlpoaaGreatZ45
namespace Go.Proofs.YtmebccjndhlpoaaGreat
open Go Go.Wk Tryz
set_option maxHeartbeats 3200000
set_option maxRecDepth 100000
theorem Tr.fzSteps3 {xs:List xBW} {l:List Xc} {X:WP} [hf:J8 l xs] (h: (∀p∈xs,∀x∈p.d,∀s∈x.d,s.ok)→Tr l X):Tr l X:=fun w hw=>by
 obtain⟨R,h1,h3⟩:=hw
 refine h (fun p hp x hx s hs=>?_) w ⟨R,h1,h3⟩
 have h5:=xfe (xfe (Vh hf h1 (fun _ h=>h) h3 p hp) x hx) s hs
 exact⟨xfO (VB (VB h5)),xfO (VB (VB (VB h5))),xfO (VB (VB (VB (VB h5)))),xfO (VB (VB (VB (VB (VB h5)))))⟩
abbrev xn3:SV:=⟨none,0,0⟩
theorem xNh {b:Nat} {c:xBG} {pb:Nat} {sv:SV} {l:List Xc} {X:WP} (h:Tr (xHc b c ⟨xn3,xn3,xn3,xn3,xn3,xn3,xn3,xn3,sv,pb⟩::l) X):
  Tr (blk b (.cells (((ZM [.slice none 0 0,.slice none 0 0,.slice none 0 0,.slice none 0 0,.int .i64 0,.int .i64 0,.int .i64 0,.int .i64 0,.slice none 0 0,.slice none 0 0,.slice none 0 0,.int .i64 0,.slice none 0 0,.slice none 0 0,.slice none 0 0,.slice none 0 0,.slice none 0 0,.int .i64 0,.int .i64 0,.int .i64 0,.int .i64 0,.int .i64 0,.int .i64 0,.slice none 0 0,.slice none 0 0,.slice none 0 0,.slice none 0 0,.slice none 0 0,.pointer none] 12 (En.enc c)).set 28 (.pointer (some ⟨pb,0,none⟩))).set 27 sv.v).toArray 96 (0,0))::l) X:=h
instance xL8 {l:List Xc} {pp:List xBW} {k:Int} [hx:J8 l pp]:xaM l (xCf pp k):=⟨fun w R U h1 h2 h3=>⟨fun _=>False,by
 unfold xCf
 split
 ·rename_i h
  exact Vh hx h1 h2 h3 _ (List.mem_of_getElem? (Yi h.1 h.2))
 ·exact FzD.h (α:=xBW) R w⟩⟩
section
attribute [local irreducible] BrK Xq Xt Xv XI FnK XZ Xw XC XV opX opK Yq Yk eqR Yj Yo Ys WL WD W X3 XO Tr drewK Ya X4 Yw Yv X1 YB mp blk rob sl sep ex fact old
section
attribute [local irreducible] xs2 inB xB0 xB9 xBI xB3 Zg Zw Y1 X2 objX xCR xBX xC2 Qn
section
variable {c:xBG} {pp:List xBW} {ps fv:SV}
theorem xKi (hs:shC c) (hco:xDc c) (hsc:xFs pp):Xb prog 25 #[.agg (En.enc c).toArray,.agg #[ps.v,fv.v]] [sl true c.parts.s.v c.parts.d,fzl c.parts.d,sl true ps.v pp,fzl pp]
  fun v l'=>∃(p:Nat) (y:SyW) (s:SV) (xs:List xBN) (Gs:List PG) (ac:List xBL),xD9 c pp c.parts.d.length xs Gs∧ac.map xBL.bud=c.parts.d.map YF.budget∧(∀g∈ac,g.cyc=0)∧v=.pointer (some ⟨p,0,none⟩)∧
   l'=xJs p c y s (ac.map xBL.pt) ⟨⟨none,0,0⟩,⟨none,0,0⟩,xs,Gs,ac,List.replicate c.parts.d.length 0,[],t0 (xs.map xBN.C)⟩++[sl true y.cs.v (xs.map xBN.pt),sl true y.ps.v (Gs.map PG.pt),sl false y.sh.v ([]:List Int),sl false y.md.v ([]:List Int),sl false y.cr.v ([]:List (SL Int)),fzl ([]:List (SL Int))]:=by
 intro F K hK
 simp only[ap]at hK⊢
 have hln:=xLn (c:=c) hs
 have hpl:=hs.p
 refine S.I fun u=>?_
 have hX:=@xMr;repeat' (first|rintro _ _ ⟨pb,sb,ac,hb,hz,rfl,rfl⟩|(refine G.call 40 ?_;refine S.c ?_ (h:=hln))|intro(nb:Nat)|intro(sv:SV)|refine S.x ?_|refine S.y ?_ ?_|fail)
 all_goals
  rename_i cb psb
  rw[show List.replicate ((c.parts.d.length:Nat):Int).toNat (default:Int)=List.replicate c.parts.d.length 0 by rw[Int.toNat_natCast];rfl]
  refine xNh ?_
  refine Tr.nilSl (α:=Pt) ?_
  refine Tr.nilSl (α:=Pt) ?_
  refine Tr.loopE (α:=Nat×SV×SV×List xBN×List PG) [21] [3,4,5,19,20] (fun z=>[.int .i64 z.1]) (fun z=>[xHc nb c ⟨xn3,xn3,xn3,xn3,xn3,xn3,z.2.1,z.2.2.1,sv,pb⟩,sl false z.2.1.v (z.2.2.2.1.map xBN.pt),sl false z.2.2.1.v (z.2.2.2.2.map PG.pt),fam xC2 z.2.2.2.1,fam xBX z.2.2.2.2,cfB cb c,blk psb (.cells #[ps.v,fv.v] 37 (0,0))]) (fun z=>z.1≤c.parts.d.length∧xD9 c pp z.1 z.2.2.2.1 z.2.2.2.2) (fun z=>c.parts.d.length-z.1) (0,xn3,xn3,[],[]) S.T rfl ⟨Nat.zero_le _,⟨rfl,rfl,fun k h0 h1=>by simp only at h1;omega⟩⟩ fun z u hz=>?_
  obtain⟨k,s1,s2,xs,Gs⟩:=z
  obtain⟨hk,hM⟩:=hz
  simp only at hk hM⊢
  simp only[ap]
  have hlx: (xs.map xBN.pt).length=k:=by rw[List.length_map];exact hM.lx
  have hlg: (Gs.map PG.pt).length=k:=by rw[List.length_map];exact hM.lg
  have hlx2:=hM.lx
  have hlg2:=hM.lg
  have hn8:=hco.n8
  clear hln
  by_cases hin:k<c.parts.d.length
  ·have hw:=Xo (k:=k) S.o
   have hkn: (k:Int)<c.parts.d.length:=by omega
   have hok:okC (xCO c pp (k:Int)):=xEX (xDr (hco.p (k:Int) S.o hkn)) hsc
   have hnc:=xla (C:=xCO c pp (k:Int)) (u0:=.agg (En.enc (ix c.parts.d (k:Int))).toArray) (s2:=(xCf pp (k:Int)).s) (xs:=(xCf pp (k:Int)).d) (hu:=⟨rfl⟩) hok (by show J1 _ _=J1 _ (J1 _ _).length;rw[xeG])
   have hpr:=xKB (ps:=ps) (fv:=fv) (pp:=pp) (k:=(k:Int))
   rw[show(xCO c pp (k:Int)).conf=ix c.parts.d (k:Int)from rfl,show(xCO c pp (k:Int)).part=(k:Int)from rfl]at hnc
   obtain⟨C0,hC0⟩:∃C0,C0=xCO c pp (k:Int):=⟨_,rfl⟩
   rw[←hC0]at hnc
   have hX:=I4 @xMr hw hlx hlg;repeat' (first|rintro _ _ ⟨rfl,rfl⟩|rintro _ _ ⟨b,w,gs,hr,rfl,rfl⟩|(refine G.call 21 ?_;refine S.c ?_ (h:=hpr))|(refine G.call 41 ?_;refine S.c ?_ (h:=hnc))|(refine G.call 42 ?_;refine S.c ?_ (h:=WW))|intro(nk:Nat)|intro(sx:SV)|refine S.x ?_|intro hb|fail)
   rename_i q1 q2 q3
   refine xFO (p:=w.pts) (ps:=(Qn (C0.loc w.pts)).pts) S.K fun g hg1 hg2 hg3=>?_
   refine xHn ⟨b,C0.loc w.pts,Qn (C0.loc w.pts),w,gs⟩ S.T ?_
   have hM2:=hM.snoc (x:=⟨b,C0.loc w.pts,Qn (C0.loc w.pts),w,gs⟩) (g:=g) ⟨by rw[hC0],rfl,hr,hg1,hg2,hg3⟩
   have e1: (xs++[(⟨b,C0.loc w.pts,Qn (C0.loc w.pts),w,gs⟩:xBN)]).map xBN.pt=xs.map xBN.pt++[⟨some b⟩]:=by rw[List.map_append];rfl
   have e2: (Gs++[g]).map PG.pt=Gs.map PG.pt++[⟨some w.pts⟩]:=by rw[List.map_append];show _++[g.pt]=_;unfold PG.pt;rw[hg1]
   have hX:=And.intro e1 e2
   clear hnc hpr hok hC0 hM
   exact S.R ((k+1,q2,sx,xs++[⟨b,C0.loc w.pts,Qn (C0.loc w.pts),w,gs⟩],Gs++[g]):Nat×SV×SV×List xBN×List PG)
  ·have hke:k=c.parts.d.length:=by omega
   subst hke
   have hX:=I3 @xMr hlx hlg;repeat' (first|refine S.x ?_|fail)
   refine Tr.freezeAt (v:=s1.v) (xs:=xs.map xBN.pt) S.K ?_
   refine Tr.freezeAt (v:=s2.v) (xs:=Gs.map PG.pt) S.K ?_
   refine Tr.fin hK ⟨nb,⟨xn3,xn3,xn3,xn3,xn3,xn3,s1,s2,sv,pb⟩,sb,xs,Gs,ac,hM,hb,hz,rfl,rfl⟩ ?_
   exact S.E
end
end
section
theorem xGG {pp:List xBW}:∀n k,n+k=pp.length→xDE pp n k<0→∀j:Nat,k≤j→j<pp.length→∀x∈(ix pp (j:Int)).d,x.d.length≤64
 |0,k,hn,_,j,h1,h2=>by omega
 | n+1,k,hn,h,j,h1,h2=>by
  unfold xDE at h
  split at h
  ·omega
  ·rename_i ha
   by_cases hj:j=k
   ·subst hj
    intro x hx
    have:¬xC4 x=true:=fun hb=>ha (List.any_eq_true.2 ⟨x,hx,hb⟩)
    unfold xC4 at this
    simp only[decide_eq_true_eq]at this
    omega
   ·exact xGG n (k+1) S.o h j S.o h2
theorem xIh {c:xBG} {pp:List xBW} {fs:List xBR} (h: (xCE c pp fs).1=0): (xB3 c).1=0∧fs.length≤64∧∀p∈pp,∀x∈p.d,x.d.length≤64:=by
 unfold xCE at h
 obtain⟨h1,h⟩:=xCy id h
 obtain⟨h2,h⟩:=xCy (fun _=>by decide) h
 refine⟨Classical.not_not.1 h1,by omega,fun p hp=>?_⟩
 split at h
 ·rename_i h3
  obtain⟨j,hj,rfl⟩:=List.mem_iff_getElem.1 hp
  have:=xGG pp.length 0 S.o h3 j (Nat.zero_le _) hj
  have e:ix pp (j:Int)=pp[j]:=by simp[ix,hj]
  rw[e]at this
  exact this
 ·exact absurd h (show¬(3:Int)=0 by decide)
theorem xEr {c:xBG}:∀{fs:List xBR} {p:xBV},∀g∈xBO c p fs,xGE c g
 |[],p,g,hg=>by rw[xBO]at hg;cases hg
 | f::fs,p,g,hg=>by
  cases h:xDz c p f with
  |none=>rw[xDL h]at hg;cases hg
  |some x=>
   rw[xDF h]at hg
   rcases List.mem_cons.1 hg with rfl|hg
   ·exact xGD h
   ·exact xEr g hg
def xBT (c:xBG) (Cs:List CC) (ps:List xBV) (t:PlM):PlM:=ps.foldl (fun t g=>xCu c Cs (c.parts.d.map YF.budget) g t) t
theorem xIt {c:xBG} {Cs:List CC} {bs:List Int} {g:xBV} {t:PlM}: (xCu c Cs bs g t).sheds.length=t.sheds.length+1∧(xCu c Cs bs g t).modes.length=t.modes.length+1∧(xCu c Cs bs g t).creds.length=t.creds.length+1:=by
 obtain⟨h1,h2,h3⟩:=xE1 (c:=c) (Cs:=Cs) (buds:=bs) (level:=g.level) (ws:=xCc c g) (t:={t with cyc:=t.cyc.map fun _=>0})
 unfold xCu
 refine⟨?_,?_,?_⟩
 ·show(_++[_]).length=_
  rw[List.length_append,h1];rfl
 ·show(_++[_]).length=_
  rw[List.length_append,h2];rfl
 ·show(_++[_]).length=_
  rw[List.length_append,h3];rfl
theorem xFT {c:xBG} {Cs:List CC} {ps:List xBV} {g:xBV} {t:PlM}:xBT c Cs (ps++[g]) t=xCu c Cs (c.parts.d.map YF.budget) g (xBT c Cs ps t):=by
 unfold xBT
 rw[List.foldl_append]
 rfl
theorem xE6 {c:xBG} {Cs:List CC}:∀(ps:List xBV) (t:PlM),(xBT c Cs ps t).sheds.length=t.sheds.length+ps.length∧(xBT c Cs ps t).modes.length=t.modes.length+ps.length∧(xBT c Cs ps t).creds.length=t.creds.length+ps.length
 |[],t=>⟨rfl,rfl,rfl⟩
 |g::ps,t=>by
  obtain⟨h1,h2,h3⟩:=xE6 ps (xCu c Cs (c.parts.d.map YF.budget) g t)
  obtain⟨k1,k2,k3⟩:=xIt (c:=c) (Cs:=Cs) (bs:=c.parts.d.map YF.budget) (g:=g) (t:=t)
  show(xBT c Cs ps _).sheds.length=_∧(xBT c Cs ps _).modes.length=_∧(xBT c Cs ps _).creds.length=_
  rw[h1,h2,h3,k1,k2,k3,List.length_cons]
  exact⟨by omega,by omega,by omega⟩
structure xKf (c:xBG) (pp:List xBW) (Cs:List CC):Prop where
 l:Cs.length=c.parts.d.length
 i:∀k:Int,0≤k→k<Cs.length→∃p,ix Cs k=(xCO c pp k).loc p
theorem xD9.cs {c:xBG} {pp:List xBW} {xs:List xBN} {Gs:List PG} (h:xD9 c pp c.parts.d.length xs Gs):xKf c pp (xs.map xBN.C):=by
 refine⟨by rw[List.length_map];exact h.lx,fun k h0 h1=>?_⟩
 rw[List.length_map]at h1
 rw[Xp (f:=xBN.C) h0 h1]
 exact⟨_,(h.i k h0 (by rw[←h.lx];exact h1)).C⟩
attribute [local irreducible] xs2 inB xB0 xB9 xBI xB3 Zg Zw Y1 X2 objX xCR xBX xC2 Qn xCE xCu xBT xBO
section
variable {c:xBG} {pp:List xBW} {ps fv:SV} {fs:List xBR}
theorem xHS (hs:shC c) (hpl:pp.length≤1000000000) (hps:∀p∈pp,p.d.length≤1000000000) (hcap:∀p∈c.parts.d,p.cap≤300) (h: (xCE c pp fs).1=0):Xb prog 8 #[.agg (En.enc c).toArray,.agg #[ps.v,fv.v]]
  [sl true c.parts.s.v c.parts.d,fzl c.parts.d,sl true c.chans.s.v c.chans.d,sl true c.modes.s.v c.modes.d,fzl c.modes.d,sl true c.levels.s.v c.levels.d,sl true c.naps.s.v c.naps.d,sl true c.down.s.v c.down.d,sl true c.up.s.v c.up.d,sl true ps.v pp,fzl pp,sl true fv.v fs]
  fun v l'=>∃(ev ms bd sh md cr:SV) (m:List xBY) (crl:List (SL Int)) (Cs:List CC),xKf c pp Cs∧m.map xBY.ab=(xBT c Cs (xBO c p0 fs) (t0 Cs)).ms∧crl.map SL.d=(xBT c Cs (xBO c p0 fs) (t0 Cs)).creds∧(xBT c Cs (xBO c p0 fs) (t0 Cs)).evs.length≤300000000∧m.length≤300000000∧
   v=.tuple #[.agg #[ev.v,ms.v,bd.v,.slice none 0 0,.int .i64 0,.int .i64 0,.int .i64 0,.int .i64 0,sh.v,md.v,cr.v,.int .i64 0],.int .i64 0]∧
   l'=[sl false ev.v (xBT c Cs (xBO c p0 fs) (t0 Cs)).evs,sl false ms.v m,fzl m,sl false bd.v (xFX c fs),sl false sh.v (xBT c Cs (xBO c p0 fs) (t0 Cs)).sheds,sl false md.v (xBT c Cs (xBO c p0 fs) (t0 Cs)).modes,sl false cr.v crl,fzl crl]:=by
 intro F K hK
 simp only[ap]
 have hc:=xIB (ps:=ps) (fv:=fv) (pp:=pp) (c:=c) (fs:=fs) hs hpl hps
 obtain⟨h1,h2,h3⟩:=xIh h
 have hco:=xHH h1
 refine Tr.fzSteps3 (xs:=pp) fun hst=>?_
 have hsc:xFs pp:=⟨h3,hst⟩
 have hmd:=xKi (ps:=ps) (fv:=fv) hs hco hsc
 have hpg:=xIg (c:=c) (sf:=fv) (fs:=fs) hs S.o
 have hbo:=xG5 (c:=c) (sf:=fv) (fs:=fs) hs S.o (xHL hco)
 rw[h]at hc
 have hty:=(xFj hco).1.t
 refine S.I fun u=>?_
 repeat' (first|rintro _ _ ⟨rfl,rfl⟩|rintro _ _ ⟨sp,rfl,rfl⟩|rintro _ _ ⟨p,y,s,xs,Gs,ac,hM,hb,hz,rfl,rfl⟩|(refine G.call 24 ?_;refine S.c ?_ (h:=hc))|(refine G.call 25 ?_;refine S.c ?_ (h:=hmd))|(refine G.call 26 ?_;refine S.c ?_ (h:=hpg))|refine S.x ?_|intro hb|fail)
 rename_i bc bs rb
 have hC:=hM.cs
 have hI0:=hM.sys (ev:=xn3) (ms:=xn3) (ac:=ac) hco hsc (fun k k0 k1=>hcap _ (List.mem_of_getElem? (Yi k0 k1))) hb hz
 obtain⟨Cs,hCs⟩:∃Cs,Cs=xs.map xBN.C:=⟨_,rfl⟩
 rw[←hCs]at hC hI0
 obtain⟨px,hpx⟩:∃px,px=xs.map xBN.pt:=⟨_,rfl⟩
 obtain⟨pq,hpq⟩:∃pq,pq=Gs.map PG.pt:=⟨_,rfl⟩
 obtain⟨pa,hpa⟩:∃pa,pa=ac.map xBL.pt:=⟨_,rfl⟩
 rw[←hpx,←hpq,←hpa]at hI0⊢
 have hpm:=xEr (c:=c) (fs:=fs) (p:=p0)
 have hpn:=xDy (c:=c) (fs:=fs) (p:=p0)
 obtain⟨gs,hgs⟩:∃gs,gs=xBO c p0 fs:=⟨_,rfl⟩
 rw[←hgs]at hpm hpn hK⊢
 have hgl:gs.length≤64:=by omega
 refine Tr.loopE (α:=Nat×(SV×SV×SV)×SyG×List (SL Int)) [29] [2,3,4,5,8,27,28] (fun z=>[.int .i64 z.1]) (fun z=>xJs p c {y with sh:=z.2.1.1,md:=z.2.1.2.1,cr:=z.2.1.2.2} s pa z.2.2.1++[sl false z.2.1.1.v z.2.2.1.t.sheds,sl false z.2.1.2.1.v z.2.2.1.t.modes,sl false z.2.1.2.2.v z.2.2.2,fzl z.2.2.2]) (fun z=>z.1≤gs.length∧SyI c Cs px pq pa (z.1*3200000) z.2.2.1∧z.2.2.1.t=xBT c Cs (gs.take z.1) (t0 Cs)∧z.2.2.2.map SL.d=z.2.2.1.t.creds) (fun z=>gs.length-z.1) (0,(y.sh,y.md,y.cr),⟨xn3,xn3,xs,Gs,ac,List.replicate c.parts.d.length 0,[],t0 Cs⟩,[]) S.T rfl ⟨Nat.zero_le _,by simp only[Nat.zero_mul];exact hI0,by unfold xBT;rfl,rfl⟩ fun z u hzz=>?_
 clear hI0 hM hb hz hmd hpg hc hCs
 obtain⟨k,⟨s1,s2,s3⟩,x,cr⟩:=z
 obtain⟨hk,hI,hT,hcr⟩:=hzz
 simp only at hk hI hT hcr⊢
 simp only[ap]
 obtain⟨l1,l2,l3⟩:=xE6 (c:=c) (Cs:=Cs) (gs.take k) (t0 Cs)
 rw[←hT,List.length_take]at l1 l2 l3
 have l4:=congrArg List.length hcr
 rw[List.length_map]at l4
 have l5: (t0 Cs).sheds.length=0∧(t0 Cs).modes.length=0∧(t0 Cs).creds.length=0:=⟨rfl,rfl,rfl⟩
 by_cases hin:k<gs.length
 ·have hw:=Xo (k:=k) S.o
  have hg:xGE c (ix gs (k:Int)):=hpm _ (List.mem_of_getElem? (Yi S.o S.o))
  have hfr:=xIm (p:=p) (y:={y with sh:=s1,md:=s2,cr:=s3}) (s:=s) (cr:=cr) hs hco hty hI hcr hg S.o S.o S.o S.o
  have hst:xBT c Cs (gs.take (k+1)) (t0 Cs)=xCu c Cs (c.parts.d.map YF.budget) (ix gs (k:Int)) x.t:=by rw[Yz hin,xFT,←hT]
  simp only[ap]at hfr
  clear hI hT
  have hX:=hw;repeat' (first|rintro _ _ ⟨⟨y1,y2,y3,y4,y5,y6,y7,y8,y9,y10⟩,x2,cr2,e1,e2,e3,e4,e5,e6,hI2,hcr2,rfl,rfl⟩|(refine G.call 27 ?_;refine S.c ?_ (h:=hfr))|refine S.x ?_|intro hb|fail)
  all_goals
   simp only at e1 e2 e3 e4 e5
   subst e1 e2 e3 e4 e5
   have hT2:=e6.trans hst.symm
   have hI3:SyI c Cs px pq pa ((k+1)*3200000) x2:=hI2.up S.o
   clear hfr hst e6 hI2
   exact S.R ((k+1,(y4,y5,y6),x2,cr2):Nat×(SV×SV×SV)×SyG×List (SL Int))
 ·have hke:k=gs.length:=by omega
  subst hke
  rw[List.take_length]at hT
  repeat' (first|rintro _ _ ⟨sb,rfl,rfl⟩|(refine G.call 28 ?_;refine S.c ?_ (h:=hbo))|refine S.x ?_|fail)
  all_goals
   refine Tr.fin hK ⟨x.ev,x.ms,sb,s1,s2,s3,x.m,cr,Cs,hC,by rw[←hT];exact hI.ma,by rw[←hT];exact hcr,by rw[←hT];have:=hI.ev;omega,by have:=hI.ml;omega,rfl,rfl⟩ ?_
   rw[←hT]
   exact S.E
end
end
section
theorem xJB {c:xBG} (h1:inB c.parts.d.length 1 8=true) (h2: (xEi c).1=0) (h3: (xCd c.levels.d c.naps.d c.pow).1=0) (h4: (xDv c).1=0) (h5: (xDw c).1=0) (h6: (xDM c.down.d c.up.d).1=0): (xB3 c).1=0:=by
 unfold xB3
 rw[h1,if_neg (by decide),if_neg (fun h=>h h2),if_neg (fun h=>h h3),if_neg (fun h=>h h4),if_neg (fun h=>h h5)]
 exact h6
theorem xJ9 {pp:List xBW}:∀n k,n+k=pp.length→(∀j:Nat,k≤j→j<pp.length→∀x∈(ix pp (j:Int)).d,x.d.length≤64)→xDE pp n k=-1
 |0,_,_,_=>rfl
 | n+1,k,hn,h=>by
  unfold xDE
  have: (ix pp (k:Int)).d.any xC4=false:=by
   rw[List.any_eq_false]
   intro x hx
   have:=h k (Nat.le_refl _) S.o x hx
   unfold xC4
   simp only[decide_eq_true_eq]
   omega
  rw[this,if_neg (by decide)]
  exact xJ9 n (k+1) S.o fun j h1 h2=>h j S.o h2
theorem xKl {c:xBG} {pp:List xBW} {fs:List xBR} (h1: (xB3 c).1=0) (h2:fs.length≤64) (h3:∀j:Nat,j<pp.length→∀x∈(ix pp (j:Int)).d,x.d.length≤64): (xCE c pp fs).1=0:=by
 unfold xCE
 rw[if_neg (fun h=>h h1),if_neg S.o,xJ9 pp.length 0 S.o fun j _ h2=>h3 j h2,if_pos (by decide)]
attribute [local irreducible] xs2 inB xB0 xB9 xBI xB3 xCw xCW xCF xCd xDM
section
variable {c:xBG} {ps fv:SV} {pp:List xBW} {fs:List xBR}
theorem xLB (hs:shC c):Xb prog 31 #[.agg (En.enc c).toArray] [sl true c.parts.s.v c.parts.d,fzl c.parts.d,sl true c.chans.s.v c.chans.d,sl true c.modes.s.v c.modes.d,fzl c.modes.d,sl true c.levels.s.v c.levels.d,sl true c.naps.s.v c.naps.d,sl true c.down.s.v c.down.d,sl true c.up.s.v c.up.d]
    fun v l'=>∃e at_:Int,(e=0→(xB3 c).1=0)∧v=.tuple #[.int .i64 e,.int .i64 at_]∧l'=[]:=by
  intro F K hK
  simp only[ap]at hK⊢
  have hcm:=xJB (c:=c)
  by_cases h1:1≤(c.parts.d.length:Int)∧(c.parts.d.length:Int)≤8
  · have hcm :=hcm (xBM h1.1 h1.2)
    have e1:decide ((c.parts.d.length:Int)<1∨8<(c.parts.d.length:Int))=false:=decide_eq_false S.o
    refine S.I fun u=>?_
    have hX:=@e1;repeat' (first|refine S.x ?_|(refine G.call 52 ?_;refine S.c ?_ (h:=YA))|rintro _ _ ⟨rfl,rfl⟩|intro hb|fail)
    obtain⟨bc,rfl⟩:∃x,x=hb:=⟨_,rfl⟩
    refine Tr.loopE (α:=Nat) [2,3,4] [1] (fun k=>[.int .i64 0,.int .i64 0,.int .i64 k]) (fun _=>[blk bc (.cells (En.enc c).toArray 33 (0,0))]) (fun k=>k≤c.parts.d.length∧∀j:Nat,j<k→xCw (ix c.parts.d (j:Int))=0) (fun k=>c.parts.d.length-k) 0 S.T rfl ⟨Nat.zero_le _,fun j hj=>absurd hj (Nat.not_lt_zero _)⟩ fun k u hk=>?_
    obtain⟨hk,hall⟩:=hk
    simp only[ap]
    by_cases hin:k<c.parts.d.length
    · have hw:=Xo (k:=k) S.o
      have hpt:=xLH (u0:=.agg (En.enc (ix c.parts.d (k:Int))).toArray) (c:=ix c.parts.d (k:Int)) (hd:=⟨rfl⟩)
      have hX:=hw;repeat' (first|(refine G.call 53 ?_;refine S.c ?_ (h:=hpt);rintro _ _ ⟨e,he,rfl,rfl⟩)|refine S.x ?_|refine S.y ?_ ?_|intro hb|fail)
      all_goals first
        | (have hall2:=JT (p:=fun j:Nat=>xCw (ix c.parts.d (j:Int))=0) hall (he ‹_›)
           exact S.R (k+1))
        |exact Tr.fin hK ⟨_,_,(fun h=>absurd h ‹_›),rfl,rfl⟩ S.E
    · have hke : k=c.parts.d.length:=by omega
      subst hke
      have hcm:=hcm (xD8 hall)
      have hpj:∀j:Int,0≤j→j<c.parts.d.length→xCw (ix c.parts.d j)=0:=fun j h0 h1=>by
        have:=hall j.toNat S.o
        rwa [Int.toNat_of_nonneg h0]at this
      have hpw:=xLw (u0:=.agg (En.enc c.pow).toArray) (p:=c.pow) (hd:=⟨rfl⟩) (ls:=c.levels.d) (naps:=c.naps.d)
      rw[show c.pow.levels=c.levels.s from rfl,show c.pow.naps=c.naps.s from rfl]at hpw
      have hcq:List.take 8 (List.drop 3 (En.enc c))=En.enc c.pow:=rfl
      have hX:=hcq;repeat' (first|(refine G.call 54 ?_;refine S.c ?_ (h:=hpw);rintro _ _ ⟨f,at_,hf,rfl,rfl⟩)|refine S.x ?_|refine S.y ?_ ?_|intro hb|fail)
      all_goals try exact Tr.fin hK ⟨f,at_,(fun h=>absurd h ‹_›),rfl,rfl⟩ S.E
      all_goals try exact Tr.fin hK ⟨25,_,(fun h=>absurd h (by decide)),rfl,rfl⟩ S.E
      have hf0:=hf ‹_›
      have hcm:=hcm hf0
      have hcl: (c.chans.d.length:Int)≤16:=by omega
      refine Tr.loopE (α:=Nat) [2,3,8] [1] (fun k=>[.int .i64 0,.int .i64 0,.int .i64 k]) (fun _=>[blk bc (.cells (En.enc c).toArray 33 (0,0))]) (fun k=>k≤c.chans.d.length∧∀j:Nat,j<k→(if xCW c (j:Int)=true then(0:Int)else 25)=0) (fun k=>c.chans.d.length-k) 0 S.T rfl ⟨Nat.zero_le _,fun j hj=>absurd hj (Nat.not_lt_zero _)⟩ fun k u hk=>?_
      obtain⟨hk,hal2⟩:=hk
      simp only[ap]
      by_cases hin:k<c.chans.d.length
      · have hw:=Xo (k:=k) S.o
        have hch:=xKI (k:=(k:Int)) hs
        have hX:=hw;repeat' (first|(refine G.call 55 ?_;refine S.c ?_ (h:=hch);rintro _ _ ⟨b,hb0,rfl,rfl⟩)|refine S.x ?_|refine S.y ?_ ?_|intro hb|fail)
        all_goals first
          | (have hal3:=JT (p:=fun j:Nat=>(if xCW c (j:Int)=true then(0:Int)else 25)=0) hal2 (by rw[hb0 ‹_›];rfl)
             exact S.R (k+1))
          |exact Tr.fin hK ⟨25,_,(fun h=>absurd h (by decide)),rfl,rfl⟩ S.E
      · have hke :k=c.chans.d.length:=by omega
        subst hke
        have hcm:=hcm (by unfold xDv;rw[if_neg S.o];exact xD8 hal2)
        by_cases h2:1≤(c.modes.d.length:Int)∧(c.modes.d.length:Int)≤4
        · have e2:decide ((c.modes.d.length:Int)<1∨4<(c.modes.d.length:Int))=false:=decide_eq_false S.o
          have hX:=@e2;repeat' (first|refine S.x ?_|(refine G.call 52 ?_;refine S.c ?_ (h:=YA))|rintro _ _ ⟨rfl,rfl⟩|fail)
          refine Tr.loopE (α:=Nat) [2,3,9] [1] (fun k=>[.int .i64 0,.int .i64 0,.int .i64 k]) (fun _=>[blk bc (.cells (En.enc c).toArray 33 (0,0))]) (fun k=>k≤c.modes.d.length∧∀j:Nat,j<k→xCF c (j:Int)=0) (fun k=>c.modes.d.length-k) 0 S.T rfl ⟨Nat.zero_le _,fun j hj=>absurd hj (Nat.not_lt_zero _)⟩ fun k u hk=>?_
          obtain⟨hk,hal4⟩:=hk
          simp only[ap]
          by_cases hin:k<c.modes.d.length
          · have hw:=Xo (k:=k) S.o
            have hmd:=xLI (k:=(k:Int)) hs hpj hf0
            have hX:=hw;repeat' (first|(refine G.call 56 ?_;refine S.c ?_ (h:=hmd);rintro _ _ ⟨e,he,rfl,rfl⟩)|refine S.x ?_|refine S.y ?_ ?_|intro hb|fail)
            all_goals first
              | (have hal5:=JT (p:=fun j:Nat=>xCF c (j:Int)=0) hal4 (he ‹_›)
                 exact S.R (k+1))
              |exact Tr.fin hK ⟨_,_,(fun h=>absurd h ‹_›),rfl,rfl⟩ S.E
          · have hke:k=c.modes.d.length:=by omega
            subst hke
            have hcm:=hcm (by unfold xDw;rw[xBM h2.1 h2.2,if_neg (by decide)];exact xD8 hal4)
            have hsh:=xLd (sd:=c.down.s) (su:=c.up.s) (down:=c.down.d) (up:=c.up.d)
            have hcs:List.take 2 (List.drop 11 (En.enc c))=[c.down.s.v,c.up.s.v]:=rfl
            have hX:=hcs;repeat' (first|(refine G.call 57 ?_;refine S.c ?_ (h:=hsh);rintro _ _ ⟨f2,at2,hf2,rfl,rfl⟩)|refine S.x ?_|fail)
            all_goals exact Tr.fin hK ⟨f2,at2,(fun h=>hcm (hf2 h)),rfl,rfl⟩ S.E
        · have e2:decide ((c.modes.d.length:Int)<1∨4<(c.modes.d.length:Int))=true:=decide_eq_true S.o
          have hX:=@e2;repeat' (first|refine S.x ?_|(refine G.call 52 ?_;refine S.c ?_ (h:=YA))|rintro _ _ ⟨rfl,rfl⟩|fail)
          all_goals exact Tr.fin hK ⟨26,_,(fun h=>absurd h (by decide)),rfl,rfl⟩ S.E
  · have e1:decide ((c.parts.d.length:Int)<1∨8<(c.parts.d.length:Int))=true:=decide_eq_true S.o
    refine S.I fun u=>?_
    have hX:=@e1;repeat' (first|refine S.x ?_|(refine G.call 52 ?_;refine S.c ?_ (h:=YA))|rintro _ _ ⟨rfl,rfl⟩|intro hb|fail)
    all_goals exact Tr.fin hK ⟨20,0,(fun h=>absurd h (by decide)),rfl,rfl⟩ S.E
theorem xKV (hs:shC c) (hpl:pp.length≤1000000000) (hps:∀p∈pp,p.d.length≤1000000000):Xb prog 10 #[.agg (En.enc c).toArray,.agg #[ps.v,fv.v]] [sl true c.parts.s.v c.parts.d,fzl c.parts.d,sl true c.chans.s.v c.chans.d,sl true c.modes.s.v c.modes.d,fzl c.modes.d,sl true c.levels.s.v c.levels.d,sl true c.naps.s.v c.naps.d,sl true c.down.s.v c.down.d,sl true c.up.s.v c.up.d,sl true ps.v pp,fzl pp,sl true fv.v fs]
  fun v l'=>∃e at_:Int,(e=0→(xB3 c).1=0∧fs.length≤64∧∀p∈pp,∀x∈p.d,x.d.length≤64)∧v=.tuple #[.int .i64 e,.int .i64 at_]∧l'=[]:=by
 intro F K hK
 simp only[ap]at hK⊢
 have hck:=xLB hs
 refine S.I fun u=>?_
 repeat' (first|(refine G.call 31 ?_;refine S.c ?_ (h:=hck);rintro _ _ ⟨e,at_,he,rfl,rfl⟩)|refine S.x ?_|refine S.y ?_ ?_|intro hb|fail)
 all_goals try exact Tr.fin hK ⟨e,at_,(fun h=>absurd h ‹_›),rfl,rfl⟩ S.E
 all_goals try exact Tr.fin hK ⟨3,_,(fun h=>absurd h (by decide)),rfl,rfl⟩ S.E
 have hcm:=he ‹_›
 have hfl:fs.length≤64:=by omega
 rename_i bc bs _ _
 refine Tr.loopE (α:=Nat) [4,5,8] [3] (fun k=>[.int .i64 0,.int .i64 0,.int .i64 k]) (fun _=>[blk bs (.cells #[ps.v,fv.v] 37 (0,0))]) (fun k=>k≤pp.length∧∀j:Nat,j<k→∀x∈(ix pp (j:Int)).d,x.d.length≤64) (fun k=>pp.length-k) 0 S.T rfl ⟨Nat.zero_le _,fun j hj=>absurd hj (Nat.not_lt_zero _)⟩ fun k u hk=>?_
 obtain⟨hk,hall⟩:=hk
 simp only[ap]
 by_cases hin:k<pp.length
 ·have hw:=Xo (k:=k) S.o
  have hpk:=hps _ (xCa hin)
  have hX:=hw;repeat' (first|refine S.x ?_|fail)
  refine Tr.loopE (α:=Nat) [4,5,9] [3,8] (fun j=>[.int .i64 0,.int .i64 0,.int .i64 j]) (fun _=>[blk bs (.cells #[ps.v,fv.v] 37 (0,0))]) (fun j=>j≤(ix pp (k:Int)).d.length∧∀i:Nat,i<j→(ix (ix pp (k:Int)).d (i:Int)).d.length≤64) (fun j=>(ix pp (k:Int)).d.length-j) 0 S.T rfl ⟨Nat.zero_le _,fun j hj=>absurd hj (Nat.not_lt_zero _)⟩ fun j u2 hj=>?_
  obtain⟨hj,hal2⟩:=hj
  simp only[ap]
  by_cases hjn:j<(ix pp (k:Int)).d.length
  ·have hw2:=Xo (k:=j) S.o
   by_cases h64: (ix (ix pp (k:Int)).d (j:Int)).d.length≤64
   ·have hal3:=JT (p:=fun i:Nat=>(ix (ix pp (k:Int)).d (i:Int)).d.length≤64) hal2 h64
    have hX:=hw2;repeat' (first|refine S.x ?_|intro hb|fail)
    all_goals exact S.R (j+1)
   ·have hX:=hw2;repeat' (first|refine S.x ?_|intro hb|fail)
    all_goals exact Tr.fin hK ⟨3,_,(fun h=>absurd h (by decide)),rfl,rfl⟩ S.E
  ·have hal3:=xba (p:=fun x:SL XE=>x.d.length≤64) S.o hal2
   have hall2:=JT (p:=fun j:Nat=>∀x∈(ix pp (j:Int)).d,x.d.length≤64) hall hal3
   have hX:=hw;repeat' (first|refine S.x ?_|intro hb|fail)
   all_goals exact S.R (k+1)
 ·have hall3:=xba (p:=fun p:xBW=>∀x∈p.d,x.d.length≤64) S.o hall
  repeat' (first|refine S.x ?_|fail)
  all_goals exact Tr.fin hK ⟨0,0,(fun _=>⟨hcm,hfl,hall3⟩),rfl,rfl⟩ S.E
