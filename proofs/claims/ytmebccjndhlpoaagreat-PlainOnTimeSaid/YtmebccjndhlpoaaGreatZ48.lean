import Derived.Test.YtmebccjndhlpoaaGreatZ47
namespace Go.Proofs.YtmebccjndhlpoaaGreat
open Go Go.Wk
set_option maxHeartbeats 3200000
set_option maxRecDepth 100000
def xDB (f:Nat→Int):Nat→Int
 |0=>0
 |n+1=>xDB f n+f n
theorem xEn {f g:Nat→Int}:∀{n:Nat},(∀j,j<n→g j=f j)→xDB g n=xDB f n
 |0,_=>rfl
 |n+1,h=>by
  unfold xDB
  rw[xEn fun j hj=>h j S.o,h n S.o]
theorem xEU {f g:Nat→Int} {k:Nat}:∀{n:Nat},k<n→(∀j,j≠k→g j=f j)→xDB g n=xDB f n+(g k-f k)
 | n+1,hk,h=>by
  unfold xDB
  by_cases e:k=n
  ·subst e
   rw[xEn fun j hj=>h j S.o]
   omega
  ·rw[xEU S.o h,h n S.o]
   omega
theorem xHX {f g:Nat→Int}:∀{n:Nat},(∀j,j<n→f j≤g j)→xDB f n≤xDB g n
 |0,_=>Int.le_refl _
 |n+1,h=>by
  unfold xDB
  have:=xHX (f:=f) (g:=g) (n:=n) fun j hj=>h j S.o
  have:=h n S.o
  omega
theorem xGc {f:Nat→Int}:∀{n:Nat},(∀j,j<n→0≤f j)→0≤xDB f n
 |0,_=>Int.le_refl _
 |n+1,h=>by
  unfold xDB
  have:=xGc (f:=f) (n:=n) fun j hj=>h j S.o
  have:=h n S.o
  omega
theorem xFZ {f:Nat→Int} {k:Nat}:∀{n:Nat},k<n→(∀j,j<n→0≤f j)→f k≤xDB f n
 | n+1,hk,h=>by
  unfold xDB
  have h0:=xGc (f:=f) (n:=n) fun j hj=>h j S.o
  have hn:=h n S.o
  by_cases e:k=n
  ·subst e;omega
  ·have:=xFZ (f:=f) (k:=k) (n:=n) S.o fun j hj=>h j S.o
   omega
def cyO (C:CC) (k:Int):Int:=(ix (ix C.progs k) 0).cycles
structure Std (C:CC):Prop where
 np:C.conf.procs.d.length=C.progs.length
 pg:∀k:Int,inR C.progs k→∃n,1≤n∧n≤(ix C.conf.procs.d k).cost∧ix C.progs k=[xDm (ix C.conf.procs.d k) n]
 co:∀k:Int,inR C.progs k→1≤(ix C.conf.procs.d k).cost∧(ix C.conf.procs.d k).cost≤1000000000
 su:xDB (fun j=>(ix C.conf.procs.d (j:Int)).cost) C.progs.length≤C.conf.cap
 ca:1≤C.conf.cap
theorem Std.cy {C:CC} (h:Std C) {k:Int} (hk:inR C.progs k):1≤cyO C k∧cyO C k≤(ix C.conf.procs.d k).cost∧cyO C k≤1000000000∧ix C.progs k=[xDm (ix C.conf.procs.d k) (cyO C k)]:=by
 obtain⟨n,h1,h2,h3⟩:=h.pg k hk
 have e:cyO C k=n:=by unfold cyO;rw[h3];rfl
 have:=h.co k hk
 rw[e]
 exact⟨h1,h2,by omega,h3⟩
structure Jn (C:CC) (m:SlM) (c:CM):Prop where
 m3:c.mode=3
 sl:c.slk=some m
 tl:c.tb.d.length=C.progs.length
 ml:m.ms.length=C.progs.length
 rl:c.rest.length=C.progs.length
 pl:c.pos.length=C.progs.length
 s:∀k:Int,inR C.progs k→xJJ (c.tb.at k)∧(c.tb.at k).period=(ix C.conf.procs.d k).period∧ix c.pos k=0∧((c.tb.at k).state=1→(c.tb.at k).parked=false∧1≤ix c.rest k∧ix c.rest k≤(ix m.ms k).1)∧(¬(c.tb.at k).state=1→ix c.rest k=cyO C k)
 r:xDB (fun j=>if(c.tb.at (j:Int)).state=1 then ix c.rest (j:Int)else 0) C.progs.length≤m.room
 e:∀e∈c.evs,0≤e.call
section
variable {C:CC} {m:SlM} {c:CM} {k n:Int}
theorem Jn.pick (h:Jn C m c) (h0:¬XJ c<0):inR C.progs (XJ c)∧(c.tb.at (XJ c)).state=1:=by
 have hi:=xdr (t:=c.tb) (q:=One.ready) (by unfold XJ at h0;omega)
 have hs:=xex (t:=c.tb) (q:=One.ready) (by unfold XJ at h0;omega)
 refine⟨by unfold inR at*;rw[←h.tl];exact hi,?_⟩
 unfold One.ready at hs
 rw[Bool.and_eq_true]at hs
 exact of_decide_eq_true hs.1
theorem Jn.none (h:Jn C m c) (h0:XJ c<0):∀j:Int,inR C.progs j→¬(c.tb.at j).state=1:=fun j hj h1=>by
 have hp:=((h.s j hj).2.2.2.1 h1).1
 have hr:One.ready (c.tb.at j)=true:=by unfold One.ready;rw[decide_eq_true h1,hp];rfl
 have hge:∀n:Nat,j<n→n≤c.tb.d.length→0≤c.tb.bestTo One.ready n:=by
  intro n
  induction n with
  |zero=>intro h1 h2;have:=hj.1;omega
  | succ n ih=>
   intro h1 h2
   unfold Tb.bestTo
   by_cases hjn:j=n
   ·subst hjn
    rw[hr,Bool.true_and]
    split
    ·omega
    ·rename_i hb
     simp only[Bool.or_eq_true,decide_eq_true_eq,not_or]at hb
     omega
   ·have:=ih S.o S.o
    split
    ·omega
    ·exact this
 have:=hge c.tb.d.length (by rw[h.tl];exact hj.2) (Nat.le_refl _)
 unfold XJ Tb.best at h0
 omega
theorem Jn.settle (h:Jn C m c) (i:Nat):XM C (i+1) c=c:=by
 unfold XM
 rw[if_pos h.m3]
 by_cases h0:XJ c<0
 ·rw[if_pos h0]
 ·rw[if_neg h0]
  obtain⟨hk,hs⟩:=h.pick h0
  obtain⟨_,_,_,h4,_⟩:=h.s _ hk
  obtain⟨_,r1,r2⟩:=h4 hs
  have:0<ofC c (XJ c):=by
   unfold ofC
   rw[h.sl]
   simp only
   unfold ofM
   rw[if_pos (by unfold inR at*;rw[h.ml];exact hk)]
   omega
  rw[if_pos this]
theorem Jn.room (h:Jn C m c) {j:Int} (hj:inR C.progs j) (h1: (c.tb.at j).state=1):ix c.rest j≤m.room:=by
 have hnn:∀i:Nat,i<C.progs.length→0≤(fun i:Nat=>if(c.tb.at (i:Int)).state=1 then ix c.rest (i:Int)else 0) i:=fun i hi=>by
  show 0≤(if(c.tb.at (i:Int)).state=1 then ix c.rest (i:Int)else 0)
  split
  ·rename_i h2
   have:=((h.s (i:Int) ⟨by omega,by omega⟩).2.2.2.1 h2).2.1
   omega
  ·exact Int.le_refl _
 have:=xFZ (f:=fun i:Nat=>if(c.tb.at (i:Int)).state=1 then ix c.rest (i:Int)else 0) (k:=j.toNat) (n:=C.progs.length) (by have:=hj.1;have:=hj.2;omega) hnn
 rw[show((j.toNat:Nat):Int)=j by have:=hj.1;omega,if_pos h1]at this
 have:=h.r
 omega
theorem xJb (hk:inR m.ms k) (h1:1≤n) (h2:n≤m.room) (h3:n≤(ix m.ms k).1):X8 m k n=⟨m.room-n,m.ms.set k.toNat ((ix m.ms k).1-n,(ix m.ms k).2)⟩:=by
 have e:Zn n m.room (ix m.ms k).1=n:=by unfold Zn;split<;>split<;>omega
 unfold X8 spM VJ
 rw[if_pos hk,if_pos hk,if_neg S.o,if_neg S.o,e]
end
section
variable {C:CC} {m m':SlM} {c c':CM} {k n:Int}
theorem Jn.done (h:Jn C m c) (hk:inR C.progs k) (hs: (c.tb.at k).state=1) (f1:c'.mode=3) (f2:c'.slk=some m') (f3:c'.tb.d.length=c.tb.d.length) (f4:∀j:Int,inR C.progs j→j≠k→c'.tb.at j=c.tb.at j)
  (f5: ((c'.tb.at k).state=4∧1≤(c'.tb.at k).period)∨((c'.tb.at k).state=3∧(c'.tb.at k).period<1)) (f6: (c'.tb.at k).period=(ix C.conf.procs.d k).period) (f7:m'.ms.length=m.ms.length) (f8:∀j:Int,inR C.progs j→j≠k→(ix m'.ms j).1=(ix m.ms j).1)
  (f9:c'.rest=c.rest.set k.toNat (cyO C k)) (f10:c'.pos=c.pos.set k.toNat 0) (f11:m'.room=m.room-ix c.rest k) (f12:∀e∈c'.evs,0≤e.call):Jn C m' c':=by
 have hkr:inR c.rest k:=by unfold inR at*;rw[h.rl];exact hk
 have hkp:inR c.pos k:=by unfold inR at*;rw[h.pl];exact hk
 have hk0:=hk.1
 refine⟨f1,f2,f3.trans h.tl,f7.trans h.ml,by rw[f9,List.length_set];exact h.rl,by rw[f10,List.length_set];exact h.pl,fun j hj=>?_,?_,f12⟩
 ·by_cases e:j=k
  ·subst e
   have hn1:¬(c'.tb.at j).state=1:=by rcases f5 with h|h<;>rw[h.1]<;>decide
   refine⟨?_,f6,by rw[f10,YY hkp hj.1,if_pos rfl],fun h1=>absurd h1 hn1,fun _=>by rw[f9,YY hkr hj.1,if_pos rfl]⟩
   rcases f5 with h|h
   ·exact .inl h
   ·exact .inr (.inl h)
  ·obtain⟨a1,a2,a3,a4,a5⟩:=h.s j hj
   rw[f4 j hj e,f10,f9,YY hkp hj.1,YY hkr hj.1,if_neg e,if_neg e,f8 j hj e]
   exact⟨a1,a2,a3,a4,a5⟩
 ·rw[f11]
  have hu:=xEU (f:=fun j:Nat=>if(c.tb.at (j:Int)).state=1 then ix c.rest (j:Int)else 0) (g:=fun j:Nat=>if j<C.progs.length then(if(c'.tb.at (j:Int)).state=1 then ix c'.rest (j:Int)else 0)else(if(c.tb.at (j:Int)).state=1 then ix c.rest (j:Int)else 0)) (k:=k.toNat) (n:=C.progs.length) (by have:=hk.2;omega) (fun j hj=>by
   show(if j<C.progs.length then _ else _)=_
   split
   ·rename_i hjl
    have hjr:inR C.progs (j:Int):=⟨by omega,by omega⟩
    rw[f4 (j:Int) hjr S.o,f9,YY hkr S.o,if_neg (show¬(j:Int)=k by omega)]
   ·rfl)
  have hsm:=xEn (f:=fun j:Nat=>if j<C.progs.length then(if(c'.tb.at (j:Int)).state=1 then ix c'.rest (j:Int)else 0)else(if(c.tb.at (j:Int)).state=1 then ix c.rest (j:Int)else 0)) (g:=fun j:Nat=>if(c'.tb.at (j:Int)).state=1 then ix c'.rest (j:Int)else 0) (n:=C.progs.length) (fun j hj=>by show _=(if j<C.progs.length then _ else _);rw[if_pos hj])
  rw[hsm,hu]
  have hkn: ((k.toNat:Nat):Int)=k:=by omega
  have hn1:¬(c'.tb.at k).state=1:=by rcases f5 with h|h<;>rw[h.1]<;>decide
  rw[hkn,if_pos (by have:=hk.2;omega),if_neg hn1,if_pos hs]
  have:=h.r
  omega
theorem Jn.step (hS:Std C) (h:Jn C m c) (h0:¬XJ c<0) (h1:1≤n) (h2:n≤ix c.rest (XJ c)):∃m',Jn C m' (xan C c (XJ c) n)∧m'.room=m.room-n∧(xan C c (XJ c) n).win=c.win:=by
 obtain⟨hk,hs⟩:=h.pick h0
 generalize XJ c=k at*
 obtain⟨s1,s2,s3,s4,s5⟩:=h.s k hk
 obtain⟨r1,r2,r3⟩:=s4 hs
 have hroom:=h.room hk hs
 have hkr:inR c.rest k:=by unfold inR at*;rw[h.rl];exact hk
 have hkm:inR m.ms k:=by unfold inR at*;rw[h.ml];exact hk
 have hkt:inR c.tb.d k:=by unfold inR at*;rw[h.tl];exact hk
 have hk0:=hk.1
 have hsp:=xJb hkm h1 S.o (show n≤(ix m.ms k).1 by omega)
 have hsl:c.slk.map (fun m=>X8 m k n)=some ⟨m.room-n,m.ms.set k.toNat ((ix m.ms k).1-n,(ix m.ms k).2)⟩:=by rw[h.sl,←hsp];rfl
 unfold xan
 simp only
 rw[hsl]
 by_cases hz:ix c.rest k-n=0
 ·rw [if_pos hz]
  obtain⟨c1,c2,c3,c4⟩:=hS.cy hk
  have hst:ix (ix C.progs k) (ix c.pos k)=xDm (ix C.conf.procs.d k) (cyO C k):=by rw[s3,c4];rfl
  have hto:∀d:CM,toM C d k (ix c.pos k+1)={d with pos:=d.pos.set k.toNat 0,rest:=d.rest.set k.toNat (cyO C k)}:=fun d=>by
   unfold toM
   have e1:atM (ix C.progs k) (ix c.pos k+1)=0:=by rw[s3,c4];rfl
   have e2:WQ (ix (ix C.progs k) 0).cycles=cyO C k:=by
    show WQ (cyO C k)=_
    unfold WQ
    rw[if_neg S.o,if_neg S.o]
   rw[e1,e2]
  rw[hst,hto]
  simp only[List.set_set]
  by_cases hp: (ix C.conf.procs.d k).period<1
  ·have hcall:XR C {c with slk:=some ⟨m.room-n,m.ms.set k.toNat ((ix m.ms k).1-n,(ix m.ms k).2)⟩,pos:=c.pos.set k.toNat 0,rest:=c.rest.set k.toNat (cyO C k)} k (xDm (ix C.conf.procs.d k) (cyO C k))=XW (Xa C {c with slk:=some ⟨m.room-n,m.ms.set k.toNat ((ix m.ms k).1-n,(ix m.ms k).2)⟩,pos:=c.pos.set k.toNat 0,rest:=c.rest.set k.toNat (cyO C k)} k 3 0 0) k 3:=by
    have hc3: (xDm (ix C.conf.procs.d k) (cyO C k)).call=3:=by unfold xDm;simp only;rw[if_pos hp]
    unfold XR
    rw[hc3,if_pos (by decide)]
    unfold XY
    rw[hc3,if_neg (by decide),if_pos rfl,if_neg S.o]
   rw[hcall]
   have hti:=xJM (t:=c.tb) (k:=k) (st:=3) hkt (by decide) (by decide) (by decide)
   obtain⟨p1,p2,p3⟩:=xEP (t:=c.tb) (o:=c.tb.at k) (st:=3) (by decide)
   have hJ:Jn C ⟨m.room-n,m.ms.set k.toNat ((ix m.ms k).1-n,(ix m.ms k).2)⟩ (XW (Xa C {c with slk:=some ⟨m.room-n,m.ms.set k.toNat ((ix m.ms k).1-n,(ix m.ms k).2)⟩,pos:=c.pos.set k.toNat 0,rest:=c.rest.set k.toNat (cyO C k)} k 3 0 0) k 3):=by
    have ha:∀j,(c.tb.set k 3).at j=if j=k then c.tb.putP (c.tb.at k) 3 else c.tb.at j:=fun j=>by rw[hti];exact xa6 hkt
    refine h.done hk hs h.m3 rfl (by show(c.tb.set k 3).d.length=_;rw[hti];exact List.length_set) (fun j hj e=>by show(c.tb.set k 3).at j=_;rw[ha,if_neg e]) (.inr ?_) (by show((c.tb.set k 3).at k).period=_;rw[ha,if_pos rfl,p3,s2]) List.length_set (fun j hj e=>by show(ix (m.ms.set _ _) j).1=_;rw[YY hkm hj.1,if_neg e]) rfl rfl (by show m.room-n=_;omega) (fun e he=>?_)
    ·show((c.tb.set k 3).at k).state=3∧((c.tb.set k 3).at k).period<1
     rw[ha,if_pos rfl,p1,p3,s2]
     exact⟨rfl,hp⟩
    ·rcases List.mem_append.1 he with he|he
     ·exact h.e e he
     ·rw[List.mem_singleton.1 he]
      show(0:Int)≤3
      decide
   rw[hJ.settle 99]
   exact⟨_,hJ,rfl,rfl⟩
  ·have hcall:XR C {c with slk:=some ⟨m.room-n,m.ms.set k.toNat ((ix m.ms k).1-n,(ix m.ms k).2)⟩,pos:=c.pos.set k.toNat 0,rest:=c.rest.set k.toNat (cyO C k)} k (xDm (ix C.conf.procs.d k) (cyO C k))=YX (XW {c with slk:=some ⟨m.room-n,m.ms.set k.toNat ((ix m.ms k).1-n,(ix m.ms k).2)⟩,pos:=c.pos.set k.toNat 0,rest:=c.rest.set k.toNat (cyO C k)} k 4) k:=by
    have hc1: (xDm (ix C.conf.procs.d k) (cyO C k)).call=1:=by unfold xDm;simp only;rw[if_neg hp]
    unfold XR
    rw[hc1,if_pos (by decide)]
    unfold XY
    rw[hc1,if_pos rfl,if_pos S.o]
   rw[hcall]
   have hti:=xJM (t:=c.tb) (k:=k) (st:=4) hkt (by decide) (by decide) (by decide)
   have hkt2:inR (c.tb.set k 4).d k:=by rw[hti];unfold inR at*;simp only[List.length_set];exact hkt
   have hpi:=xKO (t:=c.tb.set k 4) (k:=k) hkt2
   obtain⟨p1,p2,p3⟩:=xEP (t:=c.tb) (o:=c.tb.at k) (st:=4) (by decide)
   have ha0:∀j,(c.tb.set k 4).at j=if j=k then c.tb.putP (c.tb.at k) 4 else c.tb.at j:=fun j=>by rw[hti];exact xa6 hkt
   have ha:∀j,((c.tb.set k 4).park k).at j=if j=k then{(c.tb.set k 4).at k with parked:=true}else c.tb.at j:=fun j=>by
    rw[hpi]
    refine(xa6 hkt2).trans ?_
    split
    ·rfl
    ·rename_i e;rw[ha0,if_neg e]
   have hkm2:inR (m.ms.set k.toNat ((ix m.ms k).1-n,(ix m.ms k).2)) k:=by unfold inR at*;rw[List.length_set];exact hkm
   have hfm: (QT (⟨m.room-n,m.ms.set k.toNat ((ix m.ms k).1-n,(ix m.ms k).2)⟩:SlM) k).ms=(m.ms.set k.toNat ((ix m.ms k).1-n,(ix m.ms k).2)).set k.toNat ((ix (m.ms.set k.toNat ((ix m.ms k).1-n,(ix m.ms k).2)) k).1,true):=by
    unfold QT Qm
    rw[if_pos hkm2]
   have hJ:Jn C (QT ⟨m.room-n,m.ms.set k.toNat ((ix m.ms k).1-n,(ix m.ms k).2)⟩ k) (YX (XW {c with slk:=some ⟨m.room-n,m.ms.set k.toNat ((ix m.ms k).1-n,(ix m.ms k).2)⟩,pos:=c.pos.set k.toNat 0,rest:=c.rest.set k.toNat (cyO C k)} k 4) k):=by
    refine h.done hk hs h.m3 rfl (by show((c.tb.set k 4).park k).d.length=_;rw[hpi];simp only[List.length_set];rw[hti];exact List.length_set) (fun j hj e=>by show((c.tb.set k 4).park k).at j=_;rw[ha,if_neg e]) (.inl ?_) (by show(((c.tb.set k 4).park k).at k).period=_;rw[ha,if_pos rfl];show((c.tb.set k 4).at k).period=_;rw[ha0,if_pos rfl,p3,s2]) (by rw[hfm];simp only[List.length_set]) (fun j hj e=>by rw[hfm,YY hkm2 hj.1,if_neg e,YY hkm hj.1,if_neg e]) rfl rfl (by show m.room-n=_;omega) h.e
    show(((c.tb.set k 4).park k).at k).state=4∧1≤(((c.tb.set k 4).park k).at k).period
    rw[ha,if_pos rfl]
    show((c.tb.set k 4).at k).state=4∧1≤((c.tb.set k 4).at k).period
    rw[ha0,if_pos rfl,p1,p3,s2]
    exact⟨rfl,by omega⟩
   rw[hJ.settle 99]
   exact⟨_,hJ,rfl,rfl⟩
 ·rw [if_neg hz]
  have hJ:Jn C ⟨m.room-n,m.ms.set k.toNat ((ix m.ms k).1-n,(ix m.ms k).2)⟩ {c with slk:=some ⟨m.room-n,m.ms.set k.toNat ((ix m.ms k).1-n,(ix m.ms k).2)⟩,rest:=c.rest.set k.toNat (ix c.rest k-n)}:=by
   refine⟨h.m3,rfl,h.tl,by simp only[List.length_set];exact h.ml,by simp only[List.length_set];exact h.rl,h.pl,fun j hj=>?_,?_,h.e⟩
   ·obtain⟨a1,a2,a3,a4,a5⟩:=h.s j hj
    simp only
    rw[YY hkr hj.1,YY hkm hj.1]
    by_cases e:j=k
    ·subst e
     rw[if_pos rfl,if_pos rfl]
     exact⟨a1,a2,a3,fun _=>⟨r1,by omega,by show _≤(ix m.ms j).1-n;omega⟩,fun hn=>absurd hs hn⟩
    ·rw[if_neg e,if_neg e]
     exact⟨a1,a2,a3,a4,a5⟩
   ·have hu:=xEU (f:=fun j:Nat=>if(c.tb.at (j:Int)).state=1 then ix c.rest (j:Int)else 0) (g:=fun j:Nat=>if(c.tb.at (j:Int)).state=1 then ix (c.rest.set k.toNat (ix c.rest k-n)) (j:Int)else 0) (k:=k.toNat) (n:=C.progs.length) (by have:=hk.2;omega) (fun j hj=>by
     show(if _ then _ else _)=(if _ then _ else _)
     rw[YY hkr S.o,if_neg (show¬(j:Int)=k by omega)])
    simp only
    rw[hu]
    have hkn: ((k.toNat:Nat):Int)=k:=by omega
    rw[hkn,if_pos hs,if_pos hs,YY hkr hk0,if_pos rfl]
    have:=h.r
    omega
  rw[hJ.settle 99]
  exact⟨_,hJ,rfl,rfl⟩
end
structure Bn (C:CC) (c:CM):Prop where
 m3:c.mode=3
 tl:c.tb.d.length=C.progs.length
 rl:c.rest.length=C.progs.length
 pl:c.pos.length=C.progs.length
 s:∀k:Int,inR C.progs k→xJX (IntKind.i64.wrap (c.win+1)) (c.tb.at k)∧(c.tb.at k).period=(ix C.conf.procs.d k).period∧ix c.pos k=0∧ix c.rest k=cyO C k
 e:∀e∈c.evs,0≤e.call
section
variable {C:CC} {m:SlM} {c:CM} {k n q bud cyc cyc0:Int} {ls:List xBH}
theorem xHT {l:List Int}:∀n:Nat,∃es,W4 C c l n={c with evs:=es}∧((∀e∈c.evs,0≤e.call)→∀e∈es,0≤e.call)
 |0=>⟨c.evs,rfl,fun h=>h⟩
 | n+1=>by
  obtain⟨es,h1,h2⟩:=xHT (l:=l) n
  refine⟨es++[⟨C.part,c.win,ix l (n:Int),1,0,0⟩],?_,fun h e he=>?_⟩
  ·show Xa C (W4 C c l n) _ 1 0 0=_
   rw[h1]
   rfl
  ·rcases List.mem_append.1 he with he|he
   ·exact h2 h e he
   ·rw[List.mem_singleton.1 he]
    show(0:Int)≤1
    decide
theorem xGK (h:∀j:Int,inR c.tb.d j→¬(c.tb.at j).state=2) {call what:Int}:XB c call what<0:=by
 unfold XB
 rw[xLg fun j hj=>?_]
 ·decide
 ·unfold One.waits
  rw[decide_eq_false (h j hj)]
  rfl
theorem xGH (h:∀j:Int,inR c.tb.d j→¬(c.tb.at j).state=2):∀n:Nat,XA C c n=c
 |0=>rfl
 | n+1=>by
  unfold XA
  rw[xGH h n]
  have e1:Yy C (n:Int) 20 c=c:=by
   unfold Yy
   rw[if_pos (xGK h)]
  rw[e1]
  unfold YJ
  rw[if_pos (xGK h)]
theorem xMi {o:One} (h:xJJ o):¬o.state=2:=by
 rcases h with h|h|h
 ·rw[h.1];decide
 ·rw[h.1];decide
 ·rw[h];decide
theorem xG3 (hS:Std C) (h:Bn C c):Jn C (Z9 C.conf) (ZL C c)∧(Z9 C.conf).room=C.conf.cap∧(ZL C c).win=IntKind.i64.wrap (c.win+1):=by
 have hroom: (Z9 C.conf).room=C.conf.cap:=by unfold Z9;simp only;rw[if_pos (by have:=hS.ca;omega)]
 obtain⟨d,hd⟩:∃d,d=QU C c:=⟨_,rfl⟩
 have hd3:d.mode=3:=by rw[hd];exact h.m3
 have hdl:d.tb.d.length=C.progs.length:=by rw[hd];exact(Jr _ _).trans h.tl
 have hdw:d.win=IntKind.i64.wrap (c.win+1):=by rw[hd];rfl
 have hds:d.slk=some (Z9 C.conf):=by rw[hd];rfl
 have hdr:d.rest=c.rest:=by rw[hd];rfl
 have hdp:d.pos=c.pos:=by rw[hd];rfl
 have hde:∀e∈d.evs,0≤e.call:=by rw[hd];exact h.e
 have hdat:∀j:Int,inR C.progs j→d.tb.at j=(c.tb.at j).fr:=fun j hj=>by
  rw[hd]
  show c.tb.free.at j=_
  unfold Tb.free
  rw[xfj _ (Nat.le_refl _),if_pos (by rw[h.tl];exact hj)]
 have hbe:ZL C c=xbb C d:=by
  unfold ZL
  rw[←hd,if_pos hd3]
 clear hd
 have hrl:∀j:Int,inR d.tb.d j→inR C.progs j:=fun j hj=>by unfold inR at*;rw[←hdl];exact hj
 have hst:∀j:Int,inR d.tb.d j→xJX d.win (d.tb.at j):=fun j hj=>by
  rw[hdat j (hrl j hj),hdw]
  exact(h.s j (hrl j hj)).1
 obtain⟨r1,r2,r3⟩:=xHF hst d.tb.d.length (Nat.le_refl _)
 have hbe2:∀f:CM,f=W4 C {d with tb:=(d.tb.relTo d.win d.tb.d.length).t} (d.tb.relTo d.win d.tb.d.length).rel (d.tb.relTo d.win d.tb.d.length).rel.length→(∀j:Int,inR f.tb.d j→¬(f.tb.at j).state=2)→Jn C (Z9 C.conf) f→xbb C d=f:=fun f hf hno hJ=>by
  unfold xbb
  simp only
  rw[←hf,r1]
  have e2:YN C f [] ([]:List Int).length=f:=rfl
  rw[e2,xGH hno,xGh hno _ (Nat.le_refl _)]
  exact hJ.settle 99
 obtain⟨r,hr⟩:∃r,r=d.tb.relTo d.win d.tb.d.length:=⟨_,rfl⟩
 rw[←hr]at r1 r2 r3 hbe2
 obtain⟨es,n1,n2⟩:=xHT (C:=C) (c:={d with tb:=r.t}) (l:=r.rel) r.rel.length
 have hfe:∀e∈es,0≤e.call:=n2 hde
 have hbf:=hbe2 _ n1.symm
 clear hbe2 n1 n2 hr
 have hno:∀j:Int,inR r.t.d j→¬(r.t.at j).state=2:=fun j hj=>xMi (r3 j (by unfold inR at*;rw[←r2];exact hj)).2.2.1
 have hml: (Z9 C.conf).ms.length=C.progs.length:=by unfold Z9;simp only;rw[List.length_map,hS.np]
 have hms:∀j:Int,inR C.progs j→(ix (Z9 C.conf).ms j).1=(ix C.conf.procs.d j).cost:=fun j hj=>by
  unfold Z9
  simp only
  rw[Xp (f:=Jj) hj.1 (by rw[hS.np];exact hj.2)]
  unfold Jj
  simp only
  rw[if_pos (by have:=(hS.co j hj).1;omega)]
 have hs:∀j:Int,inR C.progs j→ix d.pos j=0∧ix d.rest j=cyO C j:=fun j hj=>by
  rw[hdp,hdr]
  exact⟨(h.s j hj).2.2.1,(h.s j hj).2.2.2⟩
 have hJ:Jn C (Z9 C.conf) {d with tb:=r.t,evs:=es}:=by
  refine⟨hd3,hds,r2.trans hdl,hml,by show d.rest.length=_;rw[hdr];exact h.rl,by show d.pos.length=_;rw[hdp];exact h.pl,fun j hj=>?_,?_,hfe⟩
  ·have hjd:inR d.tb.d j:=by unfold inR at*;rw[hdl];exact hj
   obtain⟨a2,a1,a3,a4⟩:=r3 j hjd
   obtain⟨b1,b2⟩:=hs j hj
   obtain⟨c1,c2,_,_⟩:=hS.cy hj
   have hp: (r.t.at j).parked=false:=by rw[a2,hdat j hj];rfl
   have hpe: (r.t.at j).period=(ix C.conf.procs.d j).period:=by rw[a1,hdat j hj];exact(h.s j hj).2.1
   exact⟨a3,hpe,b1,fun _=>⟨hp,by show 1≤ix d.rest j;omega,by show ix d.rest j≤_;rw[hms j hj];omega⟩,fun _=>b2⟩
  ·rw[hroom]
   refine Int.le_trans (xHX fun j hj=>?_) hS.su
   have hjr:inR C.progs (j:Int):=⟨by omega,by omega⟩
   show(if _ then ix d.rest (j:Int)else 0)≤_
   rw[(hs (j:Int) hjr).2]
   have:=hS.cy hjr
   split<;>omega
 rw[hbe,hbf hno hJ]
 exact⟨hJ,hroom,hdw⟩
end
section
variable {C:CC} {m:SlM} {c:CM} {k n q bud cyc cyc0:Int} {ls:List xBH}
theorem Jn.end (h:Jn C m c) (h0:XJ c<0):Bn C c:=by
 refine⟨h.m3,h.tl,h.rl,h.pl,fun k hk=>?_,h.e⟩
 obtain⟨a1,a2,a3,_,a5⟩:=h.s k hk
 have hn:=h.none h0 k hk
 refine⟨?_,a2,a3,a5 hn⟩
 rcases a1 with a|a|a
 ·exact .inl a
 ·exact .inr (.inl a)
 ·exact absurd a hn
theorem Jn.want (h:Jn C m c) (h0:¬XJ c<0):1≤X0 c∧X0 c≤ix c.rest (XJ c):=by
 obtain⟨hk,hs⟩:=h.pick h0
 obtain⟨_,_,_,h4,_⟩:=h.s _ hk
 obtain⟨_,r1,r2⟩:=h4 hs
 have hr:=h.room hk hs
 have e:X0 c=Zn (ix c.rest (XJ c)) (ix m.ms (XJ c)).1 m.room:=by
  unfold X0
  rw[h.sl]
  simp only
  rw[if_pos h.m3,if_neg h0]
  unfold ofM
  rw[if_pos (by unfold inR at*;rw[h.ml];exact hk)]
 rw[e]
 unfold Zn
 split<;>split<;>omega
theorem Jn.want0 (h:Jn C m c) (h0:XJ c<0):X0 c=0:=by
 unfold X0
 rw[h.sl]
 simp only
 rw[if_pos h.m3,if_pos h0]
theorem xFH (hS:Std C) (hc:okC C) (hq:1≤q) (h00:0≤cyc0) (h09:cyc0+C.conf.cap≤1099511627776) (hb:∀y:Int,0≤y→y≤cyc0+C.conf.cap→(xBI ls y).1<bud∧(xBI ls y).2=0):∀(n:Nat) {c:CM} {cyc:Int} {m:SlM},xCU C c cyc→Jn C m c→m.room≤C.conf.cap→cyc=cyc0+(C.conf.cap-m.room)→(JZ c).toNat<n→
  Bn C (xCv C ls bud q n c cyc).1∧cyc0≤(xCv C ls bud q n c cyc).2∧(xCv C ls bud q n c cyc).2≤cyc0+C.conf.cap
 |0,_,_,_,_,_,_,_,h=>absurd h (Nat.not_lt_zero _)
 | n+1,c,cyc,m,hw,hJ,hr9,hcy,hl=>by
  have hr0:0≤m.room:=Int.le_trans (xGc fun j hj=>by
   show 0≤(if(c.tb.at (j:Int)).state=1 then ix c.rest (j:Int)else 0)
   split
   ·rename_i h1
    have:=((hJ.s (j:Int) ⟨by omega,by omega⟩).2.2.2.1 h1).2.1
    omega
   ·exact Int.le_refl _) hJ.r
  obtain⟨b1,b2⟩:=hb cyc S.o S.o
  unfold xCv
  by_cases hp:xBS ls bud q cyc (X0 c)<1
  ·rw[if_pos hp]
   have h0:XJ c<0:=by
    refine Int.not_le.1 fun hge=>?_
    obtain⟨w1,w2⟩:=hJ.want S.o
    unfold xBS at hp
    rw[if_neg S.o]at hp
    split at hp<;>omega
   exact⟨hJ.end h0,by show cyc0≤cyc;omega,by show cyc≤_;omega⟩
  ·rw[if_neg hp]
   obtain⟨p1,p2,_,_⟩:=xGe hp
   have h0:¬XJ c<0:=fun h0=>by have:=hJ.want0 h0;omega
   obtain⟨w1,w2⟩:=hJ.want h0
   obtain⟨y1,y2⟩:=xFK hc hw.i hw.r hl hp
   obtain⟨hk,hs⟩:=hJ.pick h0
   have hroom:=hJ.room hk hs
   have hwI:=hw.ran (ls:=ls) hc (k:=xBS ls bud q cyc (X0 c)) (j:=xcH c (xBS ls bud q cyc (X0 c)))
   rw[y2]at hwI⊢
   generalize xBS ls bud q cyc (X0 c)=u at*
   have hra:xaO C c u=xan C c (XJ c) u:=by
    unfold xaO
    have:xc8 c u=u:=by unfold xc8;split<;>omega
    rw[this,if_neg S.o]
   rw[hra]at hwI y1⊢
   obtain⟨m',j1,j2,_⟩:=hJ.step hS h0 p2 S.o
   obtain⟨_,s2⟩:=hb (cyc+u) S.o S.o
   have hsp:xCk ls cyc u=cyc+u:=by
    unfold xCk
    rw[if_neg S.o,if_neg S.o,if_pos s2]
   rw[hsp]at hwI⊢
   exact xFH hS hc hq h00 h09 hb n hwI j1 S.o S.o y1
theorem xIx (hS:Std C) (hc:okC C) (h:Bn C c) (hw:xCU C c cyc) (hq:1≤q) (h09:cyc+C.conf.cap≤1099511627776) (hb:∀y:Int,0≤y→y≤cyc+C.conf.cap→(xBI ls y).1<bud∧(xBI ls y).2=0):
  Bn C (xCH C ls bud q c cyc).1∧cyc≤(xCH C ls bud q c cyc).2∧(xCH C ls bud q c cyc).2≤cyc+C.conf.cap:=by
 obtain⟨b1,b2,_⟩:=xG3 hS h
 obtain⟨w1,_,_,w4⟩:=hw.begin hc
 exact xFH hS hc hq hw.c0 h09 hb _ w1 b1 S.o S.o S.o
