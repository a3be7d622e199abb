import Derived.Test.YtmebccjndhlpoaaGreatZ40
namespace Go.Proofs.YtmebccjndhlpoaaGreat
open Go Go.Wk Tryz
set_option maxHeartbeats 6400000
set_option maxRecDepth 100000
structure xNC (C:CC) (ls:List xBH) (bud q:Int) (N:Nat) (mb:CM) (cy0:Int) (n:Nat) (m:CM) (w:CW) (gs:List Xe) (cy:Int):Prop where
 r:Rel C m w gs
 i:xCU C m cy
 l: (JZ m).toNat<n
 e:xCv C ls bud q N mb cy0=xCv C ls bud q n m cy
 v:m.evs.length+n*122≤mb.evs.length+N*122
section
attribute [local irreducible] BrK Xq Xt Xv XI FnK XZ Xw XC XV opX opK Yq Yk eqR Yj Yo Ys WL WD W X3 XO Tr drewK Ya X4 Yw Yv X1 YB mp blk rob sl sep ex fact old
section
attribute [local irreducible] xs2 inB xB0 xB9 xBI xB3 Zg Zw Y1 X2 objX xCR xBX xC2 xCH xBQ xCZ
section
variable {p:Nat} {c:xBG} {y:SyW} {k q:Int} {pw:xDC} {ls:List xBH} {ac:List xBL} {s:SV} {xs:List xBN} {Gs:List PG} {seen:List Int} {evs:List EvC} {ms:List xBY}
theorem xGM (hG:Gs.length=xs.length) (hA:ac.length=xs.length) (hS:seen.length=xs.length) (h0:0≤k) (h1:k<xs.length) (hI:xGC (ix xs k) (ix Gs k) (ix ac k).cyc) (hse:ix seen k=((ix xs k).c.evs.length:Int)) (hWf:∀g∈Gs,wfP g.gs) (hSt:StI (Gs.map PG.ab)) (hn:xw9 (ix xs k).C≤1000) (he: (ix xs k).c.evs.length≤300000000) (hev:evs.length≤500000000) (hms:ms.length≤500000000) (hl:ls.length≤1000000000) (ht:okT ls):
  Xb prog 47 #[.pointer (some ⟨p,0,none⟩),.int .i64 k] [xHc p c y,sl true y.cs.v (xs.map xBN.pt),sl true y.ps.v (Gs.map PG.pt),sl false y.sn.v seen,sl false y.ev.v evs,sl false y.ms.v ms,fzl ms,xFd y.bk s,sl false s.v (ac.map xBL.pt),fam (xCR q pw) ac,fam xC2 xs,fam xBX Gs,sl true pw.levels.v ls,sl true c.chans.s.v c.chans.d]
  fun v l'=>∃(se sm:SV) (x2:xBN) (m2:List xBY) (Gs2:List PG) (R:CM×Int),R=xCH (ix xs k).C ls (ix ac k).bud q (ix xs k).c (ix ac k).cyc∧x2.b=(ix xs k).b∧x2.C=(ix xs k).C∧x2.c=R.1∧Rel x2.C x2.c x2.w x2.gs∧xCU x2.C x2.c R.2∧okA R.1.pts∧
   Gs2.map PG.pt=Gs.map PG.pt∧Gs2.map PG.ab=xBQ c.chans.d k R.1.win ((Gs.map PG.ab).set k.toNat R.1.pts)∧(∀g∈Gs2,wfP g.gs)∧m2.map xBY.ab=xCZ c.chans.d k R.1.win ((Gs.map PG.ab).set k.toNat R.1.pts)∧v=.tuple #[]∧
   l'=[xHc p c {y with ev:=se,ms:=sm},sl false y.sn.v (seen.set k.toNat (R.1.evs.length:Int)),sl false se.v (evs++R.1.evs.drop (ix xs k).c.evs.length),sl false sm.v (ms++m2),fzl (ms++m2),xFd y.bk s,sl false s.v (ac.map xBL.pt),fam (xCR q pw) (ac.set k.toNat {ix ac k with cyc:=R.2}),fam xC2 (xs.set k.toNat x2),fam xBX Gs2]:=by
 intro F K hK
 simp only[ap]
 have hpp: (ix Gs k).p=(ix xs k).w.pts:=hI.p.trans hI.r.hq.symm
 have hb:=Xp (f:=xBN.pt) (xs:=xs) h0 h1
 have hbx:ix (xs.map xBN.pt) k=⟨some (ix xs k).b⟩:=hb
 have hlc: (xs.map xBN.pt).length=xs.length:=List.length_map _
 have h2:ac.length=(xs.map xBN.pt).length:=by rw[hlc];exact hA
 refine Tr.famAt (A:=xC2) (xs:=xs) k S.K h0 h1 (xIe ?_)
 simp only[ap]
 refine Tr.famAt (A:=xBX) (xs:=Gs) k S.K h0 S.o ?_
 refine xJ3 (g:=ix Gs k) (p:=(ix xs k).w.pts) hpp hI.a hI.w S.K ?_
 obtain⟨hc,hr,hw,_,_,_⟩:=hI
 generalize hxk:ix xs k=x0 at*
 obtain⟨b,C,m,w,gs⟩:=x0
 simp only at hpp hb hbx hc hr hw hse hn he⊢
 have hf:few m 1000000:=by unfold few;omega
 obtain⟨w1,w2,w3,w4⟩:=hw.begin hc
 have hbg:=xfz (b:=b) hc hr (by unfold few at*;omega)
 refine S.I fun u=>?_
 have hX:=I3 @xGO.eq_def hb h2;repeat' (first|rintro _ _ ⟨wb,gb,hrb,rfl,rfl⟩|(refine G.call 82 ?_;refine S.c ?_ (h:=hbg))|refine S.x ?_|intro hb|fail)
 obtain⟨N,hN⟩:∃N:Nat,N=(xw9 C).toNat+1:=⟨_,rfl⟩
 obtain⟨mb,hmb⟩:∃mb,mb=ZL C m:=⟨_,rfl⟩
 rw[←hmb]at w1 w2 w3 w4 hrb⊢
 obtain⟨bud,hbud⟩:∃bud,bud=(ix ac k).bud:=⟨_,rfl⟩
 obtain⟨cy0,hcy0⟩:∃cy0,cy0=(ix ac k).cyc:=⟨_,rfl⟩
 obtain⟨f,hfd⟩:∃f:Int→List xBL,f=fun e=>ac.set k.toNat {ix ac k with cyc:=e}:=⟨_,rfl⟩
 have f0:f cy0=ac:=by rw[hfd,hcy0];exact xHq h0 S.o
 have fl:∀e,(f e).length=ac.length:=fun e=>by rw[hfd];exact List.length_set
 have fx:∀e,ix (f e) k={ix ac k with cyc:=e}:=fun e=>by
  rw[hfd]
  show ix (ac.set k.toNat _) k=_
  rw[YY ⟨h0,by omega⟩ h0,if_pos rfl]
 have fs:∀e e2,(f e).set k.toNat {ix ac k with cyc:=e2}=f e2:=fun e e2=>by rw[hfd];exact List.set_set ..
 rw[←hcy0]at w1
 have fE:∀e,f e=ac.set k.toNat {ix ac k with cyc:=e}:=fun e=>by rw[hfd]
 have fp:∀e,(f e).map xBL.pt=ac.map xBL.pt:=fun e=>by rw[fE];exact xDt h0 S.o rfl
 clear hfd
 rw[←f0]
 refine Tr.loopE (α:=Nat×CM×CW×List Xe×Int) [] [0,1,4] (fun _=>[]) (fun x=>Xh b C x.2.1 x.2.2.1 x.2.2.2.1++xEJ y.bk s q pw (f x.2.2.2.2)) (fun x=>xNC C ls bud q N mb cy0 x.1 x.2.1 x.2.2.1 x.2.2.2.1 x.2.2.2.2) (fun x=>x.1) (N,mb,wb,gb,cy0) S.T rfl ⟨hrb,w1,by show(JZ mb).toNat<N;omega,rfl,Nat.le_refl _⟩ fun x u hx=>?_
 obtain⟨n,m1,v1,g1,cy⟩:=x
 obtain⟨x1,x2,x3,x4,x5⟩:=hx
 simp only at x1 x2 x3 x4 x5⊢
 simp only[ap]
 have hc0:=x2.c0
 have hc1:=x2.c1
 have hwt:=xao (b:=b) hc x1
 have hpi:=xIZ (p:=y.bk) (s:=s) (q:=q) (pw:=pw) (gs:=f cy) (n:=X0 m1) h0 (by rw[fl];omega) hl ht (by rw[fx];show cy≤_;omega)
 rw[fx]at hpi
 simp only at hpi
 rw[←hbud]at hpi
 by_cases hp1:xBS ls bud q cy (X0 m1)<1
 ·have hend:xCv C ls bud q N mb cy0=(m1,cy):=by
   rw[x4]
   cases n with
   |zero=>omega
   |succ n=>unfold xCv;rw[if_pos hp1]
  have hX:=@xGO.eq_def;repeat' (first|rintro _ _ ⟨rfl,rfl⟩|(refine G.call 84 ?_;refine S.c ?_ (h:=hwt))|(refine G.call 83 ?_;refine S.c ?_ (h:=hpi))|refine S.x ?_|fail)
  have hwin:xCH C ls (ix ac k).bud q m (ix ac k).cyc=(m1,cy):=by
   rw[←hbud,←hcy0]
   unfold xCH
   rw[←hN,←hmb];exact hend
  have hup:=(xEa hc (ls:=ls) (bud:=bud) (q:=q) N w1).2.1
  rw[hend]at hup
  simp only at hup
  refine xFO (p:=v1.pts) (ps:=m1.pts) S.K fun g hg1 hg2 hg3=>?_
  refine xGw (Gs:=Gs) (k:=k.toNat) (g:=g) S.o S.K S.K ?_
  have hcol:=xGJ (p:=p) (c:=c) (y:=y) (b:=b) (C:=C) (w:=v1) (m:=m1) (k:=k) (cells:=xs.map xBN.pt) (seen:=seen) (evs:=evs) h0 (by rw[hlc];exact h1) (by rw[hlc];exact hS) hbx (by rw[hse];omega) (by rw[hse];omega) S.o S.o
  have hX:=@xGO.eq_def;repeat' (first|rintro _ _ ⟨rfl,rfl⟩|rintro _ _ ⟨se,rfl,rfl⟩|(refine G.call 87 ?_;refine S.c ?_ (h:=hcol))|refine S.x ?_|(refine G.call 89 ?_;refine S.c ?_ (h:=xsy))|fail)
  have hce:List.take 13 (List.drop 12 [se.v,y.ms.v,y.bd.v,Value.slice none 0 0,Value.int IntKind.i64 0,Value.int IntKind.i64 0,Value.int IntKind.i64 0,Value.int IntKind.i64 0,y.sh.v,y.md.v,y.cr.v,Value.int IntKind.i64 0,c.parts.s.v,c.chans.s.v,c.modes.s.v,c.levels.s.v,c.naps.s.v,Value.int IntKind.i64 c.sw,Value.int IntKind.i64 c.idle,Value.int IntKind.i64 c.change,Value.int IntKind.i64 c.quantum,Value.int IntKind.i64 c.slow,Value.int IntKind.i64 c.ppm,c.down.s.v,c.up.s.v,y.cs.v,y.ps.v,y.sn.v,Value.pointer (some {block:=y.bk,off:=0})])=En.enc c:=rfl
  rw[hce]
  have hGp: (Gs.set k.toNat g).map PG.pt=Gs.map PG.pt:=xDt h0 S.o (by show PG.pt g=_;unfold PG.pt;rw[hg1,hpp,hr.hq,x1.hq])
  have hGa: (Gs.set k.toNat g).map PG.ab=(Gs.map PG.ab).set k.toNat m1.pts:=by rw[List.map_set,hg2]
  have hSt2:StI ((Gs.map PG.ab).set k.toNat m1.pts):=hSt.set (by rw[←hg2];exact xHm hg3) x2.m
  have hvL:xEd (Gs.set k.toNat g) 16:=fun z hz=>by
   rcases List.mem_or_eq_of_mem_set hz with h'|rfl
   ·exact(hWf z h').1
   ·exact hg3.1
  have hfl:=xJC (u0:=.agg (En.enc c).toArray) (c:=c.c) (hd:=⟨rfl⟩) (chs:=c.chans.d) (part:=k) (win:=m1.win) (all:=y.ps) (Gs:=Gs.set k.toNat g) (n:=16) hvL (by decide) (by rw[hGa];exact xJU (hSt2.ix h0 (by rw[List.length_set,List.length_map];omega)).2)
  rw[hGp]at hfl
  have hX:=@xGO.eq_def;repeat' (first|rintro _ _ ⟨Gs2,s2,m2,e1,e2,e3,e4,rfl,rfl⟩|(refine G.call 88 ?_;refine S.c ?_ (h:=hfl))|refine S.x ?_|fail)
  have hm2:m2.length≤4096:=by
   have:=congrArg List.length e1
   rw[List.length_map]at this
   rw[this];exact xFa
  have hX:=@xGO.eq_def;repeat' (first|intro(sm:SV)|refine S.x ?_|fail)
  all_goals
   rw[hGa]at e1 e4
   rw[fp,fE,hse,Int.toNat_natCast,show fam xBX Gs2=fam xBX (Gs2.map nmP)from xM8.symm]
   have hw2:∀z∈Gs2.map nmP,wfP z.gs:=xNA e2 (by rw[e4];exact hSt2.flush)
   refine xHn ⟨b,C,m1,v1,g1⟩ S.T ?_
   refine xGz (xs:=xs) (k:=k.toNat) S.o S.K S.K ?_
   refine Tr.fin hK ⟨se,sm,⟨b,C,m1,v1,g1⟩,m2,Gs2.map nmP,(m1,cy),hwin.symm,rfl,rfl,rfl,x1,x2,hg2 ▸ xHm hg3,xNY.trans e3,xNJ.trans e4,hw2,e1,rfl,rfl⟩ ?_
   exact S.E
 ·cases n with
  |zero=>omega
  | succ n=>
   obtain⟨y1,y2⟩:=xFK hc x2.i x2.r x3 hp1
   have hst:xCv C ls bud q N mb cy0=xCv C ls bud q n (xaO C m1 (xBS ls bud q cy (X0 m1))) (xCk ls cy (xcH m1 (xBS ls bud q cy (X0 m1)))):=by
    rw[x4]
    show(if _ then _ else _)=_
    rw[if_neg hp1]
   have hI:=x2.ran (ls:=ls) hc (k:=xBS ls bud q cy (X0 m1)) (j:=xcH m1 (xBS ls bud q cy (X0 m1)))
   obtain⟨_,z2,z3⟩:=xHj hc x2.i x2.r x2.m (k:=xBS ls bud q cy (X0 m1))
   have hran:=xgP (b:=b) (cyc:=xBS ls bud q cy (X0 m1)) hc x1 (by unfold few at*;omega) x2.i.dp x2.i.p x2.r.le
   have hsp:=xI2 (p:=y.bk) (s:=s) (q:=q) (pw:=pw) (gs:=f cy) (n:=xcH m1 (xBS ls bud q cy (X0 m1))) h0 (by rw[fl];omega) hl ht (by rw[fx];exact hc0) (by rw[fx];exact hc1)
   rw[fx,fs]at hsp
   simp only at hsp
   rw[y2]at hst hI hsp hran
   have hX:=@xGO.eq_def;repeat' (first|rintro _ _ ⟨rfl,rfl⟩|rintro _ _ ⟨er,rfl,rfl⟩|rintro _ _ ⟨v2,g2,x6,rfl,rfl⟩|(refine G.call 84 ?_;refine S.c ?_ (h:=hwt))|(refine G.call 83 ?_;refine S.c ?_ (h:=hpi))|(refine G.call 86 ?_;refine S.c ?_ (h:=hran))|(refine G.call 85 ?_;refine S.c ?_ (h:=hsp))|refine S.x ?_|fail)
   all_goals
    have hXI:xNC C ls bud q N mb cy0 n (xaO C m1 (xBS ls bud q cy (X0 m1))) v2 g2 (xCk ls cy (xBS ls bud q cy (X0 m1))):=⟨x6,hI,y1,hst,by omega⟩
    exact S.R ((n,xaO C m1 (xBS ls bud q cy (X0 m1)),v2,g2,xCk ls cy (xBS ls bud q cy (X0 m1))):Nat×CM×CW×List Xe×Int)
end
end
def xCn (xs:List xBN) (Gs:List PG):List xBN:=List.zipWith (fun x g=>{x with c:={x.c with pts:=g.ab}}) xs Gs
theorem xFG:∀{xs:List xBN} {Gs:List PG},Gs.length=xs.length→fam xC2 (xCn xs Gs)=fam xC2 xs
 |[],[],_=>rfl
 |x::xs,g::Gs,h=>by
  show sep (xC2 _) (fam xC2 (xCn xs Gs))=sep (xC2 x) (fam xC2 xs)
  rw[xFG (by simpa using h)]
  rfl
 |[],_::_,h=>by simp at h
 |_::_,[],h=>by simp at h
theorem xEl {xs:List xBN} {Gs:List PG} (h:Gs.length=xs.length): (xCn xs Gs).length=xs.length:=by
 unfold xCn
 rw[List.length_zipWith];omega
theorem xEf {xs:List xBN} {Gs:List PG} (h:Gs.length=xs.length) {k:Int} (h0:0≤k) (h1:k<xs.length):ix (xCn xs Gs) k={ix xs k with c:={(ix xs k).c with pts:=(ix Gs k).ab}}:=by
 have e1:=Yi (xs:=xs) h0 h1
 have e2:=Yi (xs:=Gs) h0 S.o
 have e3:=Yi (xs:=xCn xs Gs) h0 (by rw[xEl h];exact h1)
 unfold xCn at e3
 rw[List.getElem?_zipWith,e1,e2]at e3
 exact(Option.some.inj e3).symm
structure xF1 (xs:List xBN) (Gs:List PG) (ac:List xBL) (seen:List Int) (E:Nat):Prop where
 lG:Gs.length=xs.length
 lA:ac.length=xs.length
 lS:seen.length=xs.length
 i:∀k:Int,0≤k→k<xs.length→xGC (ix xs k) (ix Gs k) (ix ac k).cyc
 s:∀k:Int,0≤k→k<xs.length→ix seen k=((ix xs k).c.evs.length:Int)
 e:∀k:Int,0≤k→k<xs.length→(ix xs k).c.evs.length≤E
 st:StI (Gs.map PG.ab)
 w:∀g∈Gs,wfP g.gs
 n:∀k:Int,0≤k→k<xs.length→xw9 (ix xs k).C≤1000
section
variable {x:xBN} {g g2:PG} {cyc:Int}
theorem xGC.of (h1:okC x.C) (h2:Rel x.C x.c x.w x.gs) (h3:xCU x.C x.c cyc) (hp:g2.p=x.C.pp) (hc:g2.ab.map AP.c=x.c.pts.map AP.c) (hm:mD g2.ab) (hw:wfP g2.gs):xGC {x with c:={x.c with pts:=g2.ab}} g2 cyc:=by
 obtain⟨a1,a2⟩:=xlR h1 h3.i h3.r hc
 exact⟨h1,Ww h2,⟨a1,a2,hm,h3.c0,h3.c1⟩,hp,rfl,hw⟩
theorem xCM {α:Type} [Inhabited α] {xs:List α} {k j:Int} {y:α} (h0:0≤k) (h1:k<xs.length) (hj:0≤j):ix (xs.set k.toNat y) j=if j=k then y else ix xs j:=YY ⟨h0,h1⟩ hj
theorem xF1.win {xs:List xBN} {Gs Gs2:List PG} {ac:List xBL} {seen:List Int} {E:Nat} {k win:Int} {chs:List xBJ} {x2:xBN} {R:CM×Int} (h:xF1 xs Gs ac seen E) (h0:0≤k) (h1:k<xs.length) (hC:x2.C=(ix xs k).C) (hc:x2.c=R.1) (hr:Rel x2.C x2.c x2.w x2.gs) (hi:xCU x2.C x2.c R.2)
  (hpt:Gs2.map PG.pt=Gs.map PG.pt) (hab:Gs2.map PG.ab=xBQ chs k win ((Gs.map PG.ab).set k.toNat R.1.pts)) (hw:∀g∈Gs2,wfP g.gs) (hE:R.1.evs.length≤(ix xs k).c.evs.length+200000) (hokA:okA R.1.pts):
  xF1 (xCn (xs.set k.toNat x2) Gs2) Gs2 (ac.set k.toNat {ix ac k with cyc:=R.2}) (seen.set k.toNat (R.1.evs.length:Int)) (E+200000):=by
 have hl2:Gs2.length=Gs.length:=by have:=congrArg List.length hpt;simpa using this
 have hls: (xs.set k.toNat x2).length=xs.length:=List.length_set
 have hG2:Gs2.length=(xs.set k.toNat x2).length:=by rw[hls,hl2];exact h.lG
 have hlw:=xEl hG2
 have hI:=h.i k h0 h1
 have hkG:k<(Gs.map PG.ab).length:=by rw[List.length_map,h.lG];exact h1
 have hst1:StI ((Gs.map PG.ab).set k.toNat R.1.pts):=by
  refine h.st.set ?_ ?_
  ·exact hokA
  ·rw[←hc];exact hi.m
 have hst2:StI (Gs2.map PG.ab):=by rw[hab];exact hst1.flush
 have hcs:=congrArg (List.map (List.map AP.c)) hab
 rw[xEW,List.map_set]at hcs
 have hy:∀j:Int,0≤j→j<xs.length→(ix Gs2 j).p=(ix Gs j).p∧(ix Gs2 j).ab.map AP.c=(if j=k then R.1.pts else(ix Gs j).ab).map AP.c∧mD (ix Gs2 j).ab∧wfP (ix Gs2 j).gs:=fun j hj0 hj1=>by
  have hjG:j<Gs.length:=by rw[h.lG];exact hj1
  have hjG2:j<Gs2.length:=by rw[hl2];exact hjG
  refine⟨?_,?_,?_,?_⟩
  ·have e:ix (Gs2.map PG.pt) j=ix (Gs.map PG.pt) j:=by rw[hpt]
   rw[Xp hj0 hjG2,Xp hj0 hjG]at e
   have:=congrArg Pt.a e
   exact Option.some.inj this
  ·have e:ix ((Gs2.map PG.ab).map (List.map AP.c)) j=ix (((Gs.map PG.ab).map (List.map AP.c)).set k.toNat (R.1.pts.map AP.c)) j:=by rw[hcs]
   rw[xCM h0 (by rw[List.length_map];exact hkG) hj0,Xp (f:=List.map AP.c) hj0 (by rw[List.length_map];exact hjG2),Xp (f:=PG.ab) hj0 hjG2,Xp (f:=List.map AP.c) hj0 (by rw[List.length_map];exact hjG),Xp (f:=PG.ab) hj0 hjG]at e
   rw[e]
   split<;>rfl
  ·have:=hst2.m (ix Gs2 j).ab (List.mem_map.2 ⟨_,List.mem_of_getElem? (Yi hj0 hjG2),rfl⟩)
   exact this
  ·exact hw _ (List.mem_of_getElem? (Yi hj0 hjG2))
 refine⟨by rw[hlw];exact hG2,by rw[List.length_set,hlw,hls];exact h.lA,by rw[List.length_set,hlw,hls];exact h.lS,fun j hj0 hj1=>?_,fun j hj0 hj1=>?_,fun j hj0 hj1=>?_,hst2,hw,fun j hj0 hj1=>?_⟩
 ·rw[hlw,hls]at hj1
  obtain⟨y1,y2,y3,y4⟩:=hy j hj0 hj1
  rw[xEf hG2 hj0 (by rw[hls];exact hj1),xCM h0 h1 hj0,xCM h0 (by rw[h.lA];exact h1) hj0]
  by_cases e:j=k
  ·subst e
   rw[if_pos rfl]at y2
   rw[if_pos rfl,if_pos rfl]
   exact xGC.of (by rw[hC];exact hI.c) hr hi (by rw[hC,y1];exact hI.p) (by rw[hc];exact y2) y3 y4
  ·rw[if_neg e]at y2
   rw[if_neg e,if_neg e]
   have hj:=h.i j hj0 hj1
   exact xGC.of hj.c hj.r hj.i (y1.trans hj.p) (by rw[y2,hj.a]) y3 y4
 ·rw[hlw,hls]at hj1
  rw[xEf hG2 hj0 (by rw[hls];exact hj1),xCM h0 h1 hj0,xCM h0 (by rw[h.lS];exact h1) hj0]
  by_cases e:j=k
  ·rw[if_pos e,if_pos e,hc]
  ·rw[if_neg e,if_neg e];exact h.s j hj0 hj1
 ·rw[hlw,hls]at hj1
  rw[xEf hG2 hj0 (by rw[hls];exact hj1),xCM h0 h1 hj0]
  have he:=h.e j hj0 hj1
  by_cases e:j=k
  ·rw[if_pos e,hc]
   subst e
   show R.1.evs.length≤_
   omega
  ·rw[if_neg e]
   show(ix xs j).c.evs.length≤_
   omega
 ·rw[hlw,hls]at hj1
  rw[xEf hG2 hj0 (by rw[hls];exact hj1),xCM h0 h1 hj0]
  by_cases e:j=k
  ·rw[if_pos e,hC];exact h.n k h0 h1
  ·rw[if_neg e];exact h.n j hj0 hj1
end
theorem xKK {C:CC} {ls:List xBH} {bud q cyc:Int} {c:CM} (hc:okC C) (h:xCU C c cyc) (hn:xw9 C≤1000):xCU C (xCH C ls bud q c cyc).1 (xCH C ls bud q c cyc).2∧c.evs.length≤(xCH C ls bud q c cyc).1.evs.length∧(xCH C ls bud q c cyc).1.evs.length≤c.evs.length+200000:=by
 obtain⟨w1,w2,w3,_⟩:=h.begin hc
 obtain⟨r1,r2,r3⟩:=xEa hc (ls:=ls) (bud:=bud) (q:=q) ((xw9 C).toNat+1) w1
 refine⟨r1,?_,?_⟩
 ·show c.evs.length≤(xCv C ls bud q ((xw9 C).toNat+1) (ZL C c) cyc).1.evs.length
  omega
 ·show(xCv C ls bud q ((xw9 C).toNat+1) (ZL C c) cyc).1.evs.length≤_
  omega
instance xN7:Inhabited CM:=⟨V4 default⟩
structure PlM where
 cs:List CM
 cyc:List Int
 evs:List EvC
 ms:List (Int×Int×List UInt8)
 sheds:List Int
 modes:List Int
 creds:List (List Int)
def xC9 (Cs:List CC) (buds:List Int) (ls:List xBH) (q:Int) (chs:List xBJ) (k:Int) (t:PlM):PlM:=
 {t with
  cs:=List.zipWith (fun c p=>{c with pts:=p}) (t.cs.set k.toNat (xCH (ix Cs k) ls (ix buds k) q (ix t.cs k) (ix t.cyc k)).1) (xBQ chs k (xCH (ix Cs k) ls (ix buds k) q (ix t.cs k) (ix t.cyc k)).1.win ((t.cs.map CM.pts).set k.toNat (xCH (ix Cs k) ls (ix buds k) q (ix t.cs k) (ix t.cyc k)).1.pts))
  cyc:=t.cyc.set k.toNat (xCH (ix Cs k) ls (ix buds k) q (ix t.cs k) (ix t.cyc k)).2
  evs:=t.evs++(xCH (ix Cs k) ls (ix buds k) q (ix t.cs k) (ix t.cyc k)).1.evs.drop (ix t.cs k).evs.length
  ms:=t.ms++xCZ chs k (xCH (ix Cs k) ls (ix buds k) q (ix t.cs k) (ix t.cyc k)).1.win ((t.cs.map CM.pts).set k.toNat (xCH (ix Cs k) ls (ix buds k) q (ix t.cs k) (ix t.cyc k)).1.pts)}
def xDl (c:xBG) (Cs:List CC) (buds:List Int) (level:Int):List xCe→PlM→PlM
 |[],t=>t
 |w::ws,t=>xDl c Cs buds level ws (if isM (ix c.parts.d w.part).ladder level=true then t else xC9 Cs buds c.levels.d (qM c.quantum) c.chans.d w.part t)
def xCu (c:xBG) (Cs:List CC) (buds:List Int) (g:xBV) (t:PlM):PlM:=
 let t1:=xDl c Cs buds g.level (xCc c g) {t with cyc:=t.cyc.map fun _=>0}
 {t1 with sheds:=t1.sheds++[g.level],modes:=t1.modes++[g.mode],creds:=t1.creds++[t1.cyc.map fun n=>(xBI c.levels.d n).1]}
theorem xLy {xs:List xBN} {Gs:List PG}: (xCn xs Gs).map xBN.c=List.zipWith (fun c p=>{c with pts:=p}) (xs.map xBN.c) (Gs.map PG.ab):=by
 unfold xCn
 rw[List.map_zipWith,List.zipWith_map]
theorem xF1.ab {xs:List xBN} {Gs:List PG} {ac:List xBL} {seen:List Int} {E:Nat} (h:xF1 xs Gs ac seen E):Gs.map PG.ab=(xs.map xBN.c).map CM.pts:=by
 refine List.ext_getElem (by simp[h.lG]) fun i h1 h2=>?_
 have hx:i<xs.length:=by simpa using h2
 have hg:i<Gs.length:=by simpa using h1
 have e:=(h.i (i:Int) S.o S.o).a
 have e1:ix xs (i:Int)=xs[i]:=by simp[ix,hx]
 have e2:ix Gs (i:Int)=Gs[i]:=by simp[ix,hg]
 rw[e1,e2]at e
 simpa using e
structure Tie (Cs:List CC) (xs:List xBN) (ac:List xBL) (t:PlM):Prop where
 C:xs.map xBN.C=Cs
 c:xs.map xBN.c=t.cs
 y:ac.map xBL.cyc=t.cyc
theorem Tie.win {c:xBG} {Cs:List CC} {xs:List xBN} {Gs Gs2:List PG} {ac:List xBL} {seen:List Int} {E:Nat} {k q:Int} {ls:List xBH} {chs:List xBJ} {x2:xBN} {R:CM×Int} {t:PlM} (h:xF1 xs Gs ac seen E) (ht:Tie Cs xs ac t) (h0:0≤k) (h1:k<xs.length) (hbud:ac.map xBL.bud=c.parts.d.map YF.budget)
  (hR:R=xCH (ix xs k).C ls (ix ac k).bud q (ix xs k).c (ix ac k).cyc) (hC:x2.C=(ix xs k).C) (hc:x2.c=R.1) (hab:Gs2.map PG.ab=xBQ chs k R.1.win ((Gs.map PG.ab).set k.toNat R.1.pts)):
  Tie Cs (xCn (xs.set k.toNat x2) Gs2) (ac.set k.toNat {ix ac k with cyc:=R.2}) (xC9 Cs (c.parts.d.map YF.budget) ls q chs k t)∧R=xCH (ix Cs k) ls (ix (c.parts.d.map YF.budget) k) q (ix t.cs k) (ix t.cyc k):=by
 have e1:ix Cs k=(ix xs k).C:=by rw[←ht.C];exact Xp (f:=xBN.C) h0 h1
 have e2:ix t.cs k=(ix xs k).c:=by rw[←ht.c];exact Xp (f:=xBN.c) h0 h1
 have hka:k<ac.length:=by rw[h.lA];exact h1
 have e3:ix t.cyc k=(ix ac k).cyc:=by rw[←ht.y];exact Xp (f:=xBL.cyc) h0 hka
 have e4:ix (c.parts.d.map YF.budget) k=(ix ac k).bud:=by rw[←hbud];exact Xp (f:=xBL.bud) h0 hka
 have hR2:R=xCH (ix Cs k) ls (ix (c.parts.d.map YF.budget) k) q (ix t.cs k) (ix t.cyc k):=by rw[e1,e2,e3,e4];exact hR
 refine⟨⟨?_,?_,?_⟩,hR2⟩
 ·have hl2:Gs2.length=xs.length:=by
   have:=congrArg List.length hab
   rw[xDG,List.length_set,List.length_map,List.length_map]at this
   rw[this];exact h.lG
  have: (xCn (xs.set k.toNat x2) Gs2).map xBN.C=(xs.set k.toNat x2).map xBN.C:=by
   refine List.ext_getElem (by simp[xCn,hl2]) fun i h1 h2=>?_
   simp only[xCn,List.getElem_map,List.getElem_zipWith]
  rw[this,←ht.C]
  exact xDt h0 h1 hC
 ·rw[xLy,hab,List.map_set,hc,ht.c,h.ab,ht.c]
  unfold xC9
  rw[←hR2]
 ·rw[List.map_set,ht.y]
  unfold xC9
  rw[←hR2]
instance xNj:ElT 45 (SL Int):=⟨⟩
theorem xE1 {c:xBG} {Cs:List CC} {buds:List Int} {level:Int}:∀{ws:List xCe} {t:PlM},(xDl c Cs buds level ws t).sheds=t.sheds∧(xDl c Cs buds level ws t).modes=t.modes∧(xDl c Cs buds level ws t).creds=t.creds
 |[],_=>⟨rfl,rfl,rfl⟩
 |w::ws,t=>by
  unfold xDl
  obtain⟨h1,h2,h3⟩:=xE1 (ws:=ws) (t:=if isM (ix c.parts.d w.part).ladder level=true then t else xC9 Cs buds c.levels.d (qM c.quantum) c.chans.d w.part t)
  rw[h1,h2,h3]
  split<;>exact⟨rfl,rfl,rfl⟩
structure SyG where
 ev:SV
 ms:SV
 xs:List xBN
 Gs:List PG
 ac:List xBL
 seen:List Int
 m:List xBY
 t:PlM
structure SyI (c:xBG) (Cs:List CC) (px:List Pt) (pg:List Pt) (pa:List Pt) (E:Nat) (x:SyG):Prop where
 s:xF1 x.xs x.Gs x.ac x.seen E
 t:Tie Cs x.xs x.ac x.t
 n:x.xs.length=c.parts.d.length
 b:x.ac.map xBL.bud=c.parts.d.map YF.budget
 ev:x.t.evs.length≤E
 ml:x.m.length≤E
 ma:x.m.map xBY.ab=x.t.ms
 px:x.xs.map xBN.pt=px
 pg:x.Gs.map PG.pt=pg
 pa:x.ac.map xBL.pt=pa
theorem xHa {xs:List xBN} {Gs:List PG} {ac:List xBL} {seen:List Int} {E:Nat} (h:xF1 xs Gs ac seen E):xF1 xs Gs (ac.map fun g=>({g with cyc:=0}:xBL)) seen E:=by
 refine⟨h.lG,by rw[List.length_map];exact h.lA,h.lS,fun k h0 h1=>?_,h.s,h.e,h.st,h.w,h.n⟩
 have e:ix (ac.map fun g=>({g with cyc:=0}:xBL)) k=xBL.mk (ix ac k).b (ix ac k).bud 0:=Xp (f:=fun g:xBL=>xBL.mk g.b g.bud 0) h0 (by rw[h.lA];exact h1)
 have i:=h.i k h0 h1
 rw[e]
 exact⟨i.c,i.r,⟨i.i.i,i.i.r,i.i.m,by show(0:Int)≤0;omega,by show(0:Int)≤_;omega⟩,i.p,i.a,i.w⟩
theorem SyI.refill {c:xBG} {Cs:List CC} {px pg pa:List Pt} {E:Nat} {x:SyG} (h:SyI c Cs px pg pa E x):SyI c Cs px pg pa E {x with ac:=x.ac.map fun g=>({g with cyc:=0}:xBL),t:={x.t with cyc:=x.t.cyc.map fun _=>0}}:=by
 refine⟨xHa h.s,⟨h.t.C,h.t.c,?_⟩,h.n,?_,h.ev,h.ml,h.ma,h.px,h.pg,?_⟩
 ·show(x.ac.map _).map xBL.cyc=x.t.cyc.map _
  rw[←h.t.y,List.map_map,List.map_map];rfl
 ·show(x.ac.map _).map xBL.bud=_
  rw[←h.b,List.map_map];rfl
 ·show(x.ac.map _).map xBL.pt=_
  rw[←h.pa,List.map_map];rfl
theorem SyI.win {c:xBG} {Cs:List CC} {px pg pa:List Pt} {E:Nat} {x:SyG} {k:Int} {se sm:SV} {x2:xBN} {m2:List xBY} {Gs2:List PG} {R:CM×Int} (h:SyI c Cs px pg pa E x) (h0:0≤k) (h1:k<x.xs.length)
  (hR:R=xCH (ix x.xs k).C c.levels.d (ix x.ac k).bud (qM c.quantum) (ix x.xs k).c (ix x.ac k).cyc) (hb:x2.b=(ix x.xs k).b) (hC:x2.C=(ix x.xs k).C) (hc:x2.c=R.1) (hr:Rel x2.C x2.c x2.w x2.gs) (hi:xCU x2.C x2.c R.2) (hokA:okA R.1.pts)
  (hpt:Gs2.map PG.pt=x.Gs.map PG.pt) (hab:Gs2.map PG.ab=xBQ c.chans.d k R.1.win ((x.Gs.map PG.ab).set k.toNat R.1.pts)) (hw:∀g∈Gs2,wfP g.gs) (hm:m2.map xBY.ab=xCZ c.chans.d k R.1.win ((x.Gs.map PG.ab).set k.toNat R.1.pts)):
  SyI c Cs px pg pa (E+200000) ⟨se,sm,xCn (x.xs.set k.toNat x2) Gs2,Gs2,x.ac.set k.toNat {ix x.ac k with cyc:=R.2},x.seen.set k.toNat (R.1.evs.length:Int),x.m++m2,xC9 Cs (c.parts.d.map YF.budget) c.levels.d (qM c.quantum) c.chans.d k x.t⟩
   ∧fam xC2 (xCn (x.xs.set k.toNat x2) Gs2)=fam xC2 (x.xs.set k.toNat x2)∧(xC9 Cs (c.parts.d.map YF.budget) c.levels.d (qM c.quantum) c.chans.d k x.t).evs=x.t.evs++R.1.evs.drop (ix x.xs k).c.evs.length∧(x.m++m2).length≤E+200000:=by
 obtain⟨_,v2,v3⟩:=xKK (ls:=c.levels.d) (bud:=(ix x.ac k).bud) (q:=qM c.quantum) (h.s.i k h0 h1).c (h.s.i k h0 h1).i (h.s.n k h0 h1)
 rw[←hR]at v2 v3
 have hS:=h.s.win (chs:=c.chans.d) (win:=R.1.win) h0 h1 hC hc hr hi hpt hab hw v3 hokA
 obtain⟨hT,hR2⟩:=h.t.win (c:=c) h.s h0 h1 h.b hR hC hc hab
 have hl2:Gs2.length=x.Gs.length:=by have:=congrArg List.length hpt;simpa using this
 have hls: (x.xs.set k.toNat x2).length=x.xs.length:=List.length_set
 have hG2:Gs2.length=(x.xs.set k.toNat x2).length:=by rw[hls,hl2];exact h.s.lG
 have e2:ix x.t.cs k=(ix x.xs k).c:=by rw[←h.t.c];exact Xp (f:=xBN.c) h0 h1
 have he: (xC9 Cs (c.parts.d.map YF.budget) c.levels.d (qM c.quantum) c.chans.d k x.t).evs=x.t.evs++R.1.evs.drop (ix x.xs k).c.evs.length:=by
  show x.t.evs++_=_
  rw[←hR2,e2]
 have hml:m2.length≤4096:=by
  have:=congrArg List.length hm
  rw[List.length_map]at this
  rw[this];exact xFa
 have hmx: (x.m++m2).length≤E+200000:=by
  rw[List.length_append]
  have:=h.ml
  omega
 refine⟨⟨hS,hT,?_,?_,?_,hmx,?_,?_,?_,?_⟩,xFG hG2,he,hmx⟩
 ·show(xCn _ _).length=_
  rw[xEl hG2,hls];exact h.n
 ·show(x.ac.set k.toNat _).map xBL.bud=_
  rw[←h.b];exact xDt h0 (by rw[h.s.lA];exact h1) rfl
 ·show(xC9 _ _ _ _ _ _ _).evs.length≤_
  rw[he,List.length_append,List.length_drop]
  have:=h.ev
  omega
 ·show(x.m++m2).map xBY.ab=x.t.ms++_
  rw[List.map_append,h.ma,hm,←hR2,h.s.ab,h.t.c]
 ·show(xCn _ _).map xBN.pt=_
  have: (xCn (x.xs.set k.toNat x2) Gs2).map xBN.pt=(x.xs.set k.toNat x2).map xBN.pt:=by
   refine List.ext_getElem (by simp[xCn,hl2,h.s.lG]) fun i h1 h2=>?_
   simp only[xCn,List.getElem_map,List.getElem_zipWith]
   rfl
  rw[this,←h.px]
  exact xDt h0 h1 (by unfold xBN.pt;rw[hb])
 ·exact hpt.trans h.pg
 ·show(x.ac.set k.toNat _).map xBL.pt=_
  rw[←h.pa];exact xDt h0 (by rw[h.s.lA];exact h1) rfl
theorem SyI.up {c:xBG} {Cs:List CC} {px pg pa:List Pt} {E E2:Nat} {x:SyG} (h:SyI c Cs px pg pa E x) (hE:E≤E2):SyI c Cs px pg pa E2 x:=by
 refine⟨⟨h.s.lG,h.s.lA,h.s.lS,h.s.i,h.s.s,fun k h0 h1=>Nat.le_trans (h.s.e k h0 h1) hE,h.s.st,h.s.w,h.s.n⟩,h.t,h.n,h.b,Nat.le_trans h.ev hE,Nat.le_trans h.ml hE,h.ma,h.px,h.pg,h.pa⟩
abbrev xJs (p:Nat) (c:xBG) (y:SyW) (s:SV) (pa:List Pt) (x:SyG):List Xc:=[xHc p c {y with ev:=x.ev,ms:=x.ms},sl false y.sn.v x.seen,sl false x.ev.v x.t.evs,sl false x.ms.v x.m,fzl x.m,xFd y.bk s,sl false s.v pa,fam (xCR (qM c.quantum) c.pow) x.ac,fam xC2 x.xs,fam xBX x.Gs]
