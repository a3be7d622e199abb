import Derived.Test.YtmebccjndhlpoaaGreatZ41
namespace Go.Proofs.YtmebccjndhlpoaaGreat
open Go Go.Wk Tryz
set_option maxHeartbeats 3200000
set_option maxRecDepth 100000
def xCO (c:xBG) (pp:List xBW) (k:Int):CC:=⟨ix c.parts.d k,k,J1 (xCf pp k).d (ix c.parts.d k).procs.d.length,0⟩
structure xFs (pp:List xBW):Prop where
 l:∀p∈pp,∀x∈p.d,x.d.length≤64
 s:∀p∈pp,∀x∈p.d,∀s∈x.d,s.ok
theorem xIo {xs:List (SL XE)} {n:Nat} (hl:∀x∈xs,x.d.length≤1000000) (hs:∀x∈xs,∀s∈x.d,s.ok):∀p∈J1 xs n,p≠[]∧p.length≤1000000∧∀s∈p,s.ok:=fun p hp=>by
 obtain⟨k,hk,rfl⟩:=List.mem_map.1 hp
 unfold Vq
 split
 ·rename_i hk
  have hm:ix xs (k:Int)∈xs:=List.mem_of_getElem? (Yi S.o S.o)
  exact⟨hk.2,hl _ hm,hs _ hm⟩
 ·refine⟨by simp[Y7],by decide,fun s hs=>?_⟩
  rw[List.mem_singleton.1 hs]
  exact⟨by decide,by decide,by decide,by decide⟩
theorem xEX {c:xBG} {pp:List xBW} {k:Int} (h:xkj (ix c.parts.d k)) (hs:xFs pp):okC (xCO c pp k):=by
 have hl: (xCO c pp k).progs.length=(ix c.parts.d k).procs.d.length:=xeG
 refine⟨by rw[hl];exact h.n1,by rw[hl];exact h.n8,hl.symm,?_,by have:=h.c9;show(ix c.parts.d k).cap≤_;omega,fun x hx=>by have:=h.p x hx;omega,fun x hx=>(h.b.1 x hx).2,fun x hx=>by have:=(h.b.1 x hx).1;omega,fun x hx=>by have:=h.b.2 x hx;omega,fun x hx=>by have:=(h.o x hx).1;omega,fun x hx=>(h.o x hx).2,h.r⟩
 refine xIo (fun x hx=>?_) (fun x hx=>?_)<;>unfold xCf at hx<;>split at hx
 ·rename_i hk
  have:=hs.l _ (List.mem_of_getElem? (Yi hk.1 hk.2)) x hx
  omega
 ·cases hx
 ·rename_i hk
  exact hs.s _ (List.mem_of_getElem? (Yi hk.1 hk.2)) x hx
 ·cases hx
theorem xD3 {C:CC} {p:Nat} (h:okC C):okC (C.loc p):=⟨h.n0,h.n8,h.np,h.pr,h.cap,h.cost,h.dep,h.pz,h.lz,h.oz,h.od,h.rz⟩
theorem xKk {C:CC} (hc:okC C) (h:C.conf.cap≤300):xw9 C≤300:=by
 unfold xw9
 rw[xiS (xfg hc)]
 have: (Z9 C.conf).room≤300:=by unfold Z9;simp only;split<;>omega
 split<;>omega
theorem xG7 {C:CC} (hc:okC C):mD (Qn C).pts:=by
 have hr:Rch C 0 (V4 C) (Qn C):=xaj _ (Nat.le_refl _)
 refine hr.md ?_
 intro p hp
 obtain⟨x,hx,rfl⟩:=List.mem_map.1 (show p∈Wm C.conf.ports.d from hp)
 exact⟨hc.oz x (List.mem_of_mem_take hx),fun d hd=>by cases hd⟩
structure xKS (C0:CC) (x:xBN) (g:PG):Prop where
 C:x.C=C0.loc x.w.pts
 c:x.c=Qn x.C
 r:Rel x.C x.c x.w x.gs
 p:g.p=x.w.pts
 a:g.ab=x.c.pts
 w:wfP g.gs
theorem xKS.i {C0:CC} {x:xBN} {g:PG} (hc:okC C0) (h:xKS C0 x g):xGC x g 0:=by
 have hC:okC x.C:=by rw[h.C];exact xD3 hc
 obtain⟨n1,n2,_⟩:=xmr hC
 exact⟨hC,h.r,by rw[h.c];exact⟨n1,n2,xG7 hC,by omega,by omega⟩,by rw[h.p];exact h.r.hq,h.a,h.w⟩
def t0 (Cs:List CC):PlM:=⟨Cs.map Qn,Cs.map fun _=>0,[],[],[],[],[]⟩
structure xD9 (c:xBG) (pp:List xBW) (n:Nat) (xs:List xBN) (Gs:List PG):Prop where
 lx:xs.length=n
 lg:Gs.length=n
 i:∀k:Int,0≤k→k<n→xKS (xCO c pp k) (ix xs k) (ix Gs k)
theorem xD9.snoc {c:xBG} {pp:List xBW} {n:Nat} {xs:List xBN} {Gs:List PG} {x:xBN} {g:PG} (h:xD9 c pp n xs Gs) (hx:xKS (xCO c pp (n:Int)) x g):xD9 c pp (n+1) (xs++[x]) (Gs++[g]):=by
 refine⟨by rw[List.length_append,h.lx];rfl,by rw[List.length_append,h.lg];rfl,fun k h0 h1=>?_⟩
 by_cases hk:k=n
 ·subst hk
  have e1:ix (xs++[x]) (n:Int)=x:=by unfold ix;rw[Int.toNat_natCast,←h.lx];simp
  have e2:ix (Gs++[g]) (n:Int)=g:=by unfold ix;rw[Int.toNat_natCast,←h.lg];simp
  rw[e1,e2];exact hx
 ·have hkn:k<n:=by omega
  have e1:ix (xs++[x]) k=ix xs k:=by unfold ix;rw[List.getD_eq_getElem?_getD,List.getD_eq_getElem?_getD,List.getElem?_append_left (by rw[h.lx];omega)]
  have e2:ix (Gs++[g]) k=ix Gs k:=by unfold ix;rw[List.getD_eq_getElem?_getD,List.getD_eq_getElem?_getD,List.getElem?_append_left (by rw[h.lg];omega)]
  rw[e1,e2];exact h.i k h0 hkn
theorem xD9.sys {c:xBG} {pp:List xBW} {xs:List xBN} {Gs:List PG} {ac:List xBL} {ev ms:SV} (h:xD9 c pp c.parts.d.length xs Gs) (hco:xDc c) (hs:xFs pp) (hcap:∀k:Int,0≤k→k<c.parts.d.length→(ix c.parts.d k).cap≤300) (hb:ac.map xBL.bud=c.parts.d.map YF.budget) (hz:∀g∈ac,g.cyc=0):
  SyI c (xs.map xBN.C) (xs.map xBN.pt) (Gs.map PG.pt) (ac.map xBL.pt) 0 ⟨ev,ms,xs,Gs,ac,List.replicate c.parts.d.length 0,[],t0 (xs.map xBN.C)⟩:=by
 have hla:ac.length=c.parts.d.length:=by have:=congrArg List.length hb;simpa using this
 have hok:∀k:Int,0≤k→k<c.parts.d.length→okC (xCO c pp k):=fun k h0 h1=>xEX (xDr (hco.p k h0 h1)) hs
 have hev:∀k:Int,0≤k→k<c.parts.d.length→(ix xs k).c.evs=[]:=fun k h0 h1=>by
  have hN:=h.i k h0 h1
  rw[hN.c]
  exact(xmr (by rw[hN.C];exact xD3 (hok k h0 h1))).2.2
 have hcx:xs.map xBN.c=(xs.map xBN.C).map Qn:=by
  refine List.ext_getElem (by simp) fun i h1 h2=>?_
  have hx:i<xs.length:=by simpa using h1
  have e:=(h.i (i:Int) S.o (by rw[←h.lx];omega)).c
  have e1:ix xs (i:Int)=xs[i]:=by simp[ix,hx]
  rw[e1]at e
  simpa using e
 have hcy:ac.map xBL.cyc=(xs.map xBN.C).map fun _=>0:=by
  refine List.ext_getElem (by simp[hla,h.lx]) fun i h1 h2=>?_
  simp only[List.getElem_map]
  exact hz _ (List.getElem_mem _)
 have hst:StI (Gs.map PG.ab):=by
  refine⟨fun x hx=>?_,fun x hx=>?_⟩<;>obtain⟨g,hg,rfl⟩:=List.mem_map.1 hx<;>obtain⟨j,hj,e⟩:=List.mem_iff_getElem.1 hg
  all_goals
   have hN:=h.i (j:Int) S.o (by rw[←h.lg];omega)
   have e2:ix Gs (j:Int)=g:=by simp[ix,hj,e]
   rw[e2]at hN
  ·exact xHm hN.w
  ·show mD g.ab
   rw[hN.a,hN.c]
   exact xG7 (by rw[hN.C];exact xD3 (hok _ S.o (by rw[←h.lg];omega)))
 refine⟨⟨by show Gs.length=xs.length;rw[h.lx,h.lg],by show ac.length=xs.length;rw[hla,h.lx],by show(List.replicate _ _).length=xs.length;rw[List.length_replicate,h.lx],fun k h0 h1=>?_,fun k h0 h1=>?_,fun k h0 h1=>?_,hst,fun g hg=>?_,fun k h0 h1=>?_⟩,⟨rfl,hcx,hcy⟩,h.lx,hb,Nat.le_refl _,Nat.le_refl _,rfl,rfl,rfl,rfl⟩
 ·rw[h.lx]at h1
  have hz0: (ix ac k).cyc=0:=hz _ (List.mem_of_getElem? (Yi h0 (by rw[hla];exact h1)))
  show xGC (ix xs k) (ix Gs k) (ix ac k).cyc
  rw[hz0]
  exact(h.i k h0 h1).i (hok k h0 h1)
 ·rw[h.lx]at h1
  show ix (List.replicate _ _) k=((ix xs k).c.evs.length:Int)
  rw[hev k h0 h1]
  unfold ix
  rw[List.getD_eq_getElem?_getD,List.getElem?_replicate]
  split<;>rfl
 ·rw[h.lx]at h1
  show(ix xs k).c.evs.length≤0
  rw[hev k h0 h1]
  exact Nat.le_refl _
 ·have hg:g∈Gs:=hg
  obtain⟨j,hj,e⟩:=List.mem_iff_getElem.1 hg
  have hN:=h.i (j:Int) S.o (by rw[←h.lg];omega)
  have e2:ix Gs (j:Int)=g:=by simp[ix,hj,e]
  rw[e2]at hN
  exact hN.w
 ·rw[h.lx]at h1
  have hN:=h.i k h0 h1
  show xw9 (ix xs k).C≤1000
  have:=xKk (C:=(ix xs k).C) (by rw[hN.C];exact xD3 (hok k h0 h1)) (by rw[hN.C];exact hcap k h0 h1)
  omega
theorem Rch.own {C:CC} {n:Nat} {c c':CM} (h:Rch C n c c'): (∀e∈c.evs,e.part=C.part)→∀e∈c'.evs,e.part=C.part:=by
 induction h with
 |trans _ _ h1 h2=>exact fun h=>h2 (h1 h)
 |note=>
  intro h e he
  rcases List.mem_append.1 he with he|he
  ·exact h e he
  ·rw[List.mem_singleton.1 he]
 |le _ _ h1=>exact h1
 |_=>exact fun h=>h
theorem xKr {st:St} {chs:List xBJ} {ch:Int} {d:List UInt8} (h:∀x∈st,mD x) (hd:d.length≤300):∀x∈xCg chs ch d st,mD x:=by
 unfold xCg
 split
 ·rename_i ho
  intro x hx
  rcases List.mem_or_eq_of_mem_set hx with h'|rfl
  ·exact h x h'
  ·exact xJK (h _ (List.mem_of_getElem? (Yi ho.2.1 ho.2.2))) hd
 ·exact h
theorem xFJ {chs:List xBJ}:∀{ms:List (Int×Int×List UInt8)} {st:St},(∀x∈st,mD x)→(∀m∈ms,m.2.2.length≤300)→∀x∈xCq chs ms st,mD x
 |[],_,h,_=>h
 |m::ms,st,h,hm=>xFJ (ms:=ms) (st:=xCg chs m.1 m.2.2 st) (xKr h (hm m (by simp))) fun x hx=>hm x (by simp[hx])
theorem xFR {chs:List xBJ}:∀{l:List Int} {ab:List AP},mD ab→mD (xCp ab chs l)
 |[],_,h=>h
 |k::l,ab,h=>xFR (l:=l) (ab:=YQ ab (ix chs k).fo) (xGk h)
theorem xKs {st:St} {chs:List xBJ} {part win:Int} (h:∀x∈st,mD x):∀x∈xBQ chs part win st,mD x:=by
 unfold xBQ
 split
 ·rename_i hi
  have h2:=h _ (List.mem_of_getElem? (Yi hi.1 hi.2))
  refine xFJ (fun x hx=>?_) fun m hm=>xFV (xJU h2) m (List.mem_of_mem_take hm)
  rcases List.mem_or_eq_of_mem_set hx with h'|rfl
  ·exact h x h'
  ·exact xFR h2
 ·exact h
section
variable {C:CC} {c:CM} {ls:List xBH} {bud q cyc:Int}
theorem xLZ (hc:okC C) (hi:Inv C c) (h1:JB c) {k:Int} (h:∀e∈c.evs,e.part=C.part):∀e∈(xaO C c k).evs,e.part=C.part:=by
 unfold xaO
 by_cases hk:xc8 c k<1
 ·rw[if_pos hk];exact h
 ·rw[if_neg hk]
  have hn:xc8 c k≤X0 c:=by unfold xc8;split<;>omega
  obtain⟨m,hr⟩:=xdp hi S.o
  exact(xlZ hc hr hi h1 S.o hn).1.own (show∀e∈(Yc c m (XJ c) (xc8 c k)).evs,e.part=C.part from h)
theorem xHO (hc:okC C):∀(n:Nat) {c:CM} {cyc:Int},xCU C c cyc→(∀e∈c.evs,e.part=C.part)→∀e∈(xCv C ls bud q n c cyc).1.evs,e.part=C.part
 |0,_,_,_,h=>h
 |n+1,c,cyc,hw,h=>by
  unfold xCv
  split
  ·exact h
  ·exact xHO hc n (hw.ran (ls:=ls) hc) (xLZ hc hw.i hw.r h)
theorem xLP (hc:okC C) (hw:xCU C c cyc) (h:∀e∈c.evs,e.part=C.part):∀e∈(xCH C ls bud q c cyc).1.evs,e.part=C.part:=
 xHO hc _ (hw.begin hc).1 ((xnk hc hw.i).own h)
theorem xLT (hc:okC C) (hw:xCU C c cyc):xCU C (xCH C ls bud q c cyc).1 (xCH C ls bud q c cyc).2:=(xEa hc _ (hw.begin hc).1).1
end
structure xFW (Cs:List CC) (t:PlM):Prop where
 lc:t.cs.length=Cs.length
 ly:t.cyc.length=Cs.length
 c:∀k:Int,0≤k→k<Cs.length→okC (ix Cs k)∧(ix Cs k).part=k
 i:∀k:Int,0≤k→k<Cs.length→xCU (ix Cs k) (ix t.cs k) (ix t.cyc k)
 e:∀k:Int,0≤k→k<Cs.length→∀e∈(ix t.cs k).evs,e.part=k
section
variable {Cs:List CC} {t:PlM} {buds:List Int} {ls:List xBH} {q k:Int} {chs:List xBJ}
def xCC (Cs:List CC) (buds:List Int) (ls:List xBH) (q k:Int) (t:PlM):CM×Int:=xCH (ix Cs k) ls (ix buds k) q (ix t.cs k) (ix t.cyc k)
theorem xEM (h:xFW Cs t) (h0:0≤k) (h1:k<Cs.length) {j:Int} (hj0:0≤j) (hj1:j<Cs.length):
  ix (xC9 Cs buds ls q chs k t).cs j={(if j=k then(xCC Cs buds ls q k t).1 else ix t.cs j)with pts:=ix (xBQ chs k (xCC Cs buds ls q k t).1.win ((t.cs.map CM.pts).set k.toNat (xCC Cs buds ls q k t).1.pts)) j}∧
  ix (xC9 Cs buds ls q chs k t).cyc j=if j=k then(xCC Cs buds ls q k t).2 else ix t.cyc j:=by
 have hk1:k<t.cs.length:=by rw[h.lc];exact h1
 have hk2:k<t.cyc.length:=by rw[h.ly];exact h1
 have hlf: (xBQ chs k (xCC Cs buds ls q k t).1.win ((t.cs.map CM.pts).set k.toNat (xCC Cs buds ls q k t).1.pts)).length=Cs.length:=by rw[xDG,List.length_set,List.length_map];exact h.lc
 refine⟨?_,xCM h0 hk2 hj0⟩
 have e1:=Yi (xs:=t.cs.set k.toNat (xCC Cs buds ls q k t).1) hj0 (by rw[List.length_set,h.lc];exact hj1)
 have e2:=Yi (xs:=xBQ chs k (xCC Cs buds ls q k t).1.win ((t.cs.map CM.pts).set k.toNat (xCC Cs buds ls q k t).1.pts)) hj0 (by rw[hlf];exact hj1)
 have e3:=Yi (xs:=(xC9 Cs buds ls q chs k t).cs) hj0 (by show _<((List.zipWith _ _ _).length:Int);rw[List.length_zipWith,List.length_set];show j<((min t.cs.length (xBQ chs k (xCC Cs buds ls q k t).1.win ((t.cs.map CM.pts).set k.toNat (xCC Cs buds ls q k t).1.pts)).length:Nat):Int);rw[hlf,h.lc];omega)
 have e4: (xC9 Cs buds ls q chs k t).cs=List.zipWith (fun c p=>{c with pts:=p}) (t.cs.set k.toNat (xCC Cs buds ls q k t).1) (xBQ chs k (xCC Cs buds ls q k t).1.win ((t.cs.map CM.pts).set k.toNat (xCC Cs buds ls q k t).1.pts)):=rfl
 rw[e4,List.getElem?_zipWith,e1,e2]at e3
 rw[e4]
 have e5:=Option.some.inj e3
 rw[←e5,xCM h0 hk1 hj0]
theorem xFW.win (h:xFW Cs t) (h0:0≤k) (h1:k<Cs.length):xFW Cs (xC9 Cs buds ls q chs k t):=by
 have hlf: (xBQ chs k (xCC Cs buds ls q k t).1.win ((t.cs.map CM.pts).set k.toNat (xCC Cs buds ls q k t).1.pts)).length=Cs.length:=by rw[xDG,List.length_set,List.length_map];exact h.lc
 have hcl: (xC9 Cs buds ls q chs k t).cs.length=Cs.length:=by
  show(List.zipWith _ _ _).length=_
  rw[List.length_zipWith,List.length_set]
  show min t.cs.length (xBQ chs k (xCC Cs buds ls q k t).1.win ((t.cs.map CM.pts).set k.toNat (xCC Cs buds ls q k t).1.pts)).length=_
  rw[hlf,h.lc,Nat.min_self]
 have hwk:=xLT (ls:=ls) (bud:=ix buds k) (q:=q) (h.c k h0 h1).1 (h.i k h0 h1)
 have hpk:=xLP (ls:=ls) (bud:=ix buds k) (q:=q) (h.c k h0 h1).1 (h.i k h0 h1) (fun e he=>by rw[(h.c k h0 h1).2];exact h.e k h0 h1 e he)
 have hkc:k<(t.cs.map CM.pts).length:=by rw[List.length_map,h.lc];exact h1
 have hmd:∀x∈xBQ chs k (xCC Cs buds ls q k t).1.win ((t.cs.map CM.pts).set k.toNat (xCC Cs buds ls q k t).1.pts),mD x:=xKs fun x hx=>by
  rcases List.mem_or_eq_of_mem_set hx with h'|rfl
  ·obtain⟨c,hc,rfl⟩:=List.mem_map.1 h'
   obtain⟨i,hi,e⟩:=List.mem_iff_getElem.1 hc
   have:=(h.i (i:Int) S.o (by rw[←h.lc];omega)).m
   have e2:ix t.cs (i:Int)=c:=by simp[ix,hi,e]
   rw[e2]at this
   exact this
  ·exact hwk.m
 have hcs:=xEW (chs:=chs) (part:=k) (win:=(xCC Cs buds ls q k t).1.win) (st:=(t.cs.map CM.pts).set k.toNat (xCC Cs buds ls q k t).1.pts)
 have hpj:∀j:Int,0≤j→j<Cs.length→(ix (xBQ chs k (xCC Cs buds ls q k t).1.win ((t.cs.map CM.pts).set k.toNat (xCC Cs buds ls q k t).1.pts)) j).map AP.c=(if j=k then(xCC Cs buds ls q k t).1 else ix t.cs j).pts.map AP.c:=fun j hj0 hj1=>by
  have e:ix ((xBQ chs k (xCC Cs buds ls q k t).1.win ((t.cs.map CM.pts).set k.toNat (xCC Cs buds ls q k t).1.pts)).map (List.map AP.c)) j=ix (((t.cs.map CM.pts).set k.toNat (xCC Cs buds ls q k t).1.pts).map (List.map AP.c)) j:=by rw[hcs]
  rw[Xp (f:=List.map AP.c) hj0 (by rw[hlf];exact hj1),Xp (f:=List.map AP.c) hj0 (by rw[List.length_set,List.length_map,h.lc];exact hj1),xCM h0 hkc hj0]at e
  rw[e]
  split
  ·rfl
  ·rw[Xp (f:=CM.pts) hj0 (by rw[h.lc];exact hj1)]
 refine⟨hcl,by show(t.cyc.set _ _).length=_;rw[List.length_set];exact h.ly,h.c,fun j hj0 hj1=>?_,fun j hj0 hj1=>?_⟩
 ·obtain⟨e1,e2⟩:=xEM (buds:=buds) (ls:=ls) (q:=q) (chs:=chs) h h0 h1 hj0 hj1
  rw[e1,e2]
  have hm:=hmd _ (List.mem_of_getElem? (Yi hj0 (by rw[hlf];exact hj1)))
  have hp:=hpj j hj0 hj1
  by_cases hjk:j=k
  ·subst hjk
   rw[if_pos rfl]at hp⊢
   rw[if_pos rfl]
   obtain⟨a1,a2⟩:=xlR (h.c j h0 h1).1 hwk.i hwk.r hp
   exact⟨a1,a2,hm,hwk.c0,hwk.c1⟩
  ·rw[if_neg hjk]at hp⊢
   rw[if_neg hjk]
   have hj:=h.i j hj0 hj1
   obtain⟨a1,a2⟩:=xlR (h.c j hj0 hj1).1 hj.i hj.r hp
   exact⟨a1,a2,hm,hj.c0,hj.c1⟩
 ·obtain⟨e1,_⟩:=xEM (buds:=buds) (ls:=ls) (q:=q) (chs:=chs) h h0 h1 hj0 hj1
  rw[e1]
  by_cases hjk:j=k
  ·subst hjk
   rw[if_pos rfl]
   intro e he
   rw[hpk e he]
   exact(h.c j h0 h1).2
  ·rw[if_neg hjk]
   exact h.e j hj0 hj1
theorem xFW.fill (h:xFW Cs t):xFW Cs {t with cyc:=t.cyc.map fun _=>0}:=by
 refine⟨h.lc,by show(t.cyc.map _).length=_;rw[List.length_map];exact h.ly,h.c,fun k h0 h1=>?_,h.e⟩
 have e:ix (t.cyc.map fun _=>(0:Int)) k=0:=Xp (f:=fun _=>(0:Int)) h0 (by rw[h.ly];exact h1)
 have i:=h.i k h0 h1
 show xCU _ _ (ix (t.cyc.map fun _=>(0:Int)) k)
 rw[e]
 exact⟨i.i,i.r,i.m,by omega,by omega⟩
end
theorem xBM {n a b:Int} (h1:a≤n) (h2:n≤b):inB n a b=true:=by unfold inB;rw[decide_eq_true h1,decide_eq_true h2];rfl
theorem xDs {α:Type} {l:List α} {n:Int} {p:α→Bool} (h1: (l.length:Int)≤n) (h2:∀x∈l,p x=true):xB0 l n p=true:=by
 unfold xB0
 rw[Bool.and_eq_true,List.all_eq_true]
 exact⟨decide_eq_true h1,h2⟩
section
attribute [local irreducible] BrK Xq Xt Xv XI FnK XZ Xw XC XV opX opK Yq Yk eqR Yj Yo Ys WL WD W X3 XO Tr drewK Ya X4 Yw Yv X1 YB mp blk rob sl sep ex fact old
section
attribute [local irreducible] xs2 inB xB0 xB9
section
theorem xIl {u0:Value} {c:YF} [hd:DeA u0 c]:Xb prog 93 #[u0] [sl true c.sems.s.v c.sems.d,sl true c.pools.s.v c.pools.d,sl true c.slates.s.v c.slates.d]
  fun v l'=>∃b:Bool,(b=true→xFp c=true)∧v=.bool b∧l'=[]:=by
 obtain rfl:=hd.h
 intro F K hK
 simp only[ap]at hK⊢
 obtain⟨c1,c2,c3,c4,c5,c6,c7,c8,c9,c10,c11⟩:=c
 simp only at hK⊢
 refine S.I fun u=>?_
 by_cases h4:c4.d.length≤4∧c6.d.length≤4∧c7.d.length≤4
 ·obtain⟨h4,h6,h7⟩:=h4
  by_cases h5:0≤c5∧c5≤8
  ·have e5:decide (c5<0∨8<c5)=false:=decide_eq_false S.o
   have b5:inB c5 0 8=true:=xBM h5.1 h5.2
   clear h5
   have hX:=And.intro @xDZ.eq_def @e5;repeat' (first|refine S.x ?_|(refine G.call 52 ?_;refine S.c ?_ (h:=YA))|rintro _ _ ⟨rfl,rfl⟩|intro hb|fail)
   refine Tr.loopE (α:=Nat) [2,3] [1] (fun k=>[.bool false,.int .i64 k]) (fun _=>[]) (fun k=>k≤c4.d.length∧∀j:Nat,j<k→xDD (ix c4.d (j:Int))=true) (fun k=>c4.d.length-k) 0 S.T rfl ⟨Nat.zero_le _,fun j hj=>absurd hj (Nat.not_lt_zero _)⟩ fun k u hk=>?_
   obtain⟨hk,hall1⟩:=hk
   simp only[List.nil_append]
   by_cases hin:k<c4.d.length
   ·have hw:=Xo (k:=k) S.o
    by_cases q1:1≤(ix c4.d (k:Int)).most∧(ix c4.d (k:Int)).most≤1000
    ·have e1:decide ((ix c4.d (k:Int)).most<1∨1000<(ix c4.d (k:Int)).most)=false:=decide_eq_false S.o
     by_cases q2:0≤(ix c4.d (k:Int)).first∧(ix c4.d (k:Int)).first≤(ix c4.d (k:Int)).most
     ·have e2:decide ((ix c4.d (k:Int)).first<0∨(ix c4.d (k:Int)).most<(ix c4.d (k:Int)).first)=false:=decide_eq_false S.o
      have hall2:=JT (p:=fun j:Nat=>xDD (ix c4.d (j:Int))=true) hall1 (by unfold xDD;rw[xBM q1.1 q1.2,xBM q2.1 q2.2];rfl)
      clear q1 q2
      have hX:=I4 @xDZ.eq_def hw @e1 @e2;repeat' (first|refine S.x ?_|(refine G.call 52 ?_;refine S.c ?_ (h:=YA))|rintro _ _ ⟨rfl,rfl⟩|intro hb|fail)
      all_goals exact S.R (k+1)
     ·have e2:decide ((ix c4.d (k:Int)).first<0∨(ix c4.d (k:Int)).most<(ix c4.d (k:Int)).first)=true:=decide_eq_true S.o
      clear q1 q2
      have hX:=I4 @xDZ.eq_def hw @e1 @e2;repeat' (first|refine S.x ?_|(refine G.call 52 ?_;refine S.c ?_ (h:=YA))|rintro _ _ ⟨rfl,rfl⟩|intro hb|fail)
      all_goals exact Tr.fin hK ⟨false,(fun h=>by cases h),rfl,rfl⟩ S.E
    ·have e1:decide ((ix c4.d (k:Int)).most<1∨1000<(ix c4.d (k:Int)).most)=true:=decide_eq_true S.o
     clear q1
     have hX:=I3 @xDZ.eq_def hw @e1;repeat' (first|refine S.x ?_|(refine G.call 52 ?_;refine S.c ?_ (h:=YA))|rintro _ _ ⟨rfl,rfl⟩|intro hb|fail)
     all_goals exact Tr.fin hK ⟨false,(fun h=>by cases h),rfl,rfl⟩ S.E
   ·have hp1:=xba (p:=fun x:JO=>xDD x=true) S.o hall1
    have hX:=@xDZ.eq_def;repeat' (first|refine S.x ?_|fail)
    refine Tr.loopE (α:=Nat) [2,4] [1] (fun k=>[.bool false,.int .i64 k]) (fun _=>[]) (fun k=>k≤c6.d.length∧∀j:Nat,j<k→xCS (ix c6.d (j:Int))=true) (fun k=>c6.d.length-k) 0 S.T rfl ⟨Nat.zero_le _,fun j hj=>absurd hj (Nat.not_lt_zero _)⟩ fun k2 u2 hk2=>?_
    obtain⟨hk2,hall⟩:=hk2
    simp only[List.nil_append]
    by_cases hin2:k2<c6.d.length
    ·have hw:=Xo (k:=k2) S.o
     by_cases q1:1≤(ix c6.d (k2:Int)).size∧(ix c6.d (k2:Int)).size≤64
     ·have e1:decide ((ix c6.d (k2:Int)).size<1∨64<(ix c6.d (k2:Int)).size)=false:=decide_eq_false S.o
      by_cases q2:1≤(ix c6.d (k2:Int)).depth∧(ix c6.d (k2:Int)).depth≤16
      ·have e2:decide ((ix c6.d (k2:Int)).depth<1∨16<(ix c6.d (k2:Int)).depth)=false:=decide_eq_false S.o
       have hall2:=JT (p:=fun j:Nat=>xCS (ix c6.d (j:Int))=true) hall (by unfold xCS;rw[xBM q1.1 q1.2,xBM q2.1 q2.2];rfl)
       clear q1 q2
       have hX:=I4 @xDZ.eq_def hw @e1 @e2;repeat' (first|refine S.x ?_|(refine G.call 52 ?_;refine S.c ?_ (h:=YA))|rintro _ _ ⟨rfl,rfl⟩|intro hb|fail)
       all_goals exact S.R (k2+1)
      ·have e2:decide ((ix c6.d (k2:Int)).depth<1∨16<(ix c6.d (k2:Int)).depth)=true:=decide_eq_true S.o
       clear q1 q2
       have hX:=I4 @xDZ.eq_def hw @e1 @e2;repeat' (first|refine S.x ?_|(refine G.call 52 ?_;refine S.c ?_ (h:=YA))|rintro _ _ ⟨rfl,rfl⟩|intro hb|fail)
       all_goals exact Tr.fin hK ⟨false,(fun h=>by cases h),rfl,rfl⟩ S.E
     ·have e1:decide ((ix c6.d (k2:Int)).size<1∨64<(ix c6.d (k2:Int)).size)=true:=decide_eq_true S.o
      clear q1
      have hX:=I3 @xDZ.eq_def hw @e1;repeat' (first|refine S.x ?_|(refine G.call 52 ?_;refine S.c ?_ (h:=YA))|rintro _ _ ⟨rfl,rfl⟩|intro hb|fail)
      all_goals exact Tr.fin hK ⟨false,(fun h=>by cases h),rfl,rfl⟩ S.E
    ·have hp:=xba (p:=fun x:JC=>xCS x=true) S.o hall
     have hX:=@xDZ.eq_def;repeat' (first|refine S.x ?_|fail)
     refine Tr.loopE (α:=Nat) [2,5] [1] (fun k=>[.bool false,.int .i64 k]) (fun _=>[]) (fun k=>k≤c7.d.length∧∀j:Nat,j<k→inB (ix c7.d (j:Int)) 1 64=true) (fun k=>c7.d.length-k) 0 S.T rfl ⟨Nat.zero_le _,fun j hj=>absurd hj (Nat.not_lt_zero _)⟩ fun k3 u3 hk3=>?_
     obtain⟨hk3,hall3⟩:=hk3
     simp only[List.nil_append]
     by_cases hin3:k3<c7.d.length
     ·have hw:=Xo (k:=k3) S.o
      by_cases q1:1≤ix c7.d (k3:Int)∧ix c7.d (k3:Int)≤64
      ·have e1:decide (ix c7.d (k3:Int)<1∨64<ix c7.d (k3:Int))=false:=decide_eq_false S.o
       have hall4:=JT (p:=fun j:Nat=>inB (ix c7.d (j:Int)) 1 64=true) hall3 (xBM q1.1 q1.2)
       clear q1
       have hX:=I3 @xDZ.eq_def hw @e1;repeat' (first|refine S.x ?_|(refine G.call 52 ?_;refine S.c ?_ (h:=YA))|rintro _ _ ⟨rfl,rfl⟩|intro hb|fail)
       all_goals exact S.R (k3+1)
      ·have e1:decide (ix c7.d (k3:Int)<1∨64<ix c7.d (k3:Int))=true:=decide_eq_true S.o
       clear q1
       have hX:=I3 @xDZ.eq_def hw @e1;repeat' (first|refine S.x ?_|(refine G.call 52 ?_;refine S.c ?_ (h:=YA))|rintro _ _ ⟨rfl,rfl⟩|intro hb|fail)
       all_goals exact Tr.fin hK ⟨false,(fun h=>by cases h),rfl,rfl⟩ S.E
     ·have hs:=xba (p:=fun x:Int=>inB x 1 64=true) S.o hall3
      have hob:xFp ⟨c1,c2,c3,c4,c5,c6,c7,c8,c9,c10,c11⟩=true:=by
       unfold xFp
       simp only
       rw[xDs S.o hp1,b5,xDs S.o hp,xDs S.o hs]
       rfl
      have hX:=@xDZ.eq_def;repeat' (first|refine S.x ?_|fail)
      all_goals exact Tr.fin hK ⟨true,(fun _=>hob),rfl,rfl⟩ S.E
  ·have e5:decide (c5<0∨8<c5)=true:=decide_eq_true S.o
   have hX:=And.intro @xDZ.eq_def @e5;repeat' (first|refine S.x ?_|(refine G.call 52 ?_;refine S.c ?_ (h:=YA))|rintro _ _ ⟨rfl,rfl⟩|intro hb|fail)
   all_goals exact Tr.fin hK ⟨false,(fun h=>by cases h),rfl,rfl⟩ S.E
 ·have hX:=@xDZ.eq_def;repeat' (first|refine S.x ?_|refine S.y ?_ ?_|intro hb|fail)
  all_goals first
   |exact Tr.fin hK ⟨false,(fun h=>by cases h),rfl,rfl⟩ S.E
   |(exfalso;omega)
