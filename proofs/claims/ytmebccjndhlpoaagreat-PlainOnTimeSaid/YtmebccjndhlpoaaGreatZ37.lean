import Derived.Test.YtmebccjndhlpoaaGreatZ36
namespace Go.Proofs.YtmebccjndhlpoaaGreat
open Go Go.Wk Tryz
set_option maxHeartbeats 3200000
set_option maxRecDepth 100000
structure Inv (C:CC) (c:CM):Prop where
 ok:okM C c
 dp:dP c
 p:okP C c
 S:okS C c
 sl:∀m,c.slk=some m→Vz m
 sd:∀m,c.slk=some m→∀k,inR C.progs k→(ix m.ms k).2=true→ix c.done k=true
def JB (c:CM):Prop:=∀x∈c.rest,1≤x∧x≤1073741824
def xb1 (c:CM):Int:=match c.slk with
 |some m=>m.room
 |none=>0
def VT:List (Int×Bool)→Int
 |[]=>0
 |x::t=>(if x.2=true then 0 else x.1)+VT t
def xgD (c:CM):Int:=match c.slk with
 |some m=>if m.room<VT m.ms then m.room else VT m.ms
 |none=>0
section
variable {C:CC} {c c':CM} {k j n:Int} {m:SlM} {i:Nat} {ms:List (Int×Bool)}
theorem Rch.r1 (h:Rch C i c c') (hr:JB c):JB c':=by
 induction h with
 |trans _ _ h1 h2=>exact h2 (h1 hr)
 |le _ _ h1=>exact h1 hr
 | to c k i=>
  intro x hx
  rcases List.mem_or_eq_of_mem_set hx with h'|rfl
  ·exact hr x h'
  ·have:=xct (n:=(ix (ix C.progs k) (atM (ix C.progs k) i)).cycles)
   omega
 |_=>exact hr
theorem JB.le (h:JB c):xoC c:=fun x hx=>by have:=h x hx;omega
theorem xiK (hm: (YX c k).slk=some m):∃m0,c.slk=some m0∧m=QT m0 k:=by
 have hm':c.slk.map (fun m=>QT m k)=some m:=hm
 rcases Option.eq_none_or_eq_some c.slk with h|⟨m0,h⟩
 ·rw[h]at hm';cases hm'
 ·rw[h]at hm'
  cases hm'
  exact⟨m0,h,rfl⟩
theorem Rch.slO (h:Rch C i c c') (hs:∀m,c.slk=some m→Vz m):∀m,c'.slk=some m→Vz m:=by
 induction h with
 |trans _ _ h1 h2=>exact h2 (h1 hs)
 |le _ _ h1=>exact h1 hs
 |rest c k hk=>
  intro m hm
  obtain⟨m0,h0,rfl⟩:=xiK hm
  exact xdK (hs m0 h0)
 |_=>exact hs
theorem xse (hk:inR ms k) (hj:0≤j) {b:Bool}:ix (Qm ms k b) j=if j=k then((ix ms k).1,b)else ix ms j:=by
 unfold Qm
 rw[if_pos hk,YY hk hj]
theorem Rch.sdO (hc:okC C) (h:Rch C i c c') (ho:okM C c) (hS:okS C c) (hs:∀m,c.slk=some m→∀k,inR C.progs k→(ix m.ms k).2=true→ix c.done k=true):∀m,c'.slk=some m→∀k,inR C.progs k→(ix m.ms k).2=true→ix c'.done k=true:=by
 induction h with
 |trans a _ h1 h2=>exact h2 (a.ok hc ho) (a.oS hS) (h1 ho hS hs)
 |le _ _ h1=>exact h1 ho hS hs
 | rest c k hk=>
  intro m hm j hj hd
  obtain⟨m0,h0,rfl⟩:=xiK hm
  have hms:inR m0.ms k:=by unfold inR at*;rw[hS m0 h0];exact hk
  have hkd:inR c.done k:=by unfold inR at*;rw[ho.done];exact hk
  show ix (c.done.set k.toNat true) j=true
  rw[YY hkd hj.1]
  have hd': (ix (Qm m0.ms k true) j).2=true:=hd
  rw[xse hms hj.1]at hd'
  by_cases e:j=k
  ·rw[if_pos e]
  ·rw[if_neg e]at hd'⊢
   exact hs m0 h0 j hj hd'
 |_=>exact hs
theorem Rch.inv (hc:okC C) (h:Rch C i c c') (hi:Inv C c):Inv C c':=⟨h.ok hc hi.ok,h.dP hc hi.ok hi.dp,h.okP hi.p,h.oS hi.S,h.slO hi.sl,h.sdO hc hi.ok hi.S hi.sd⟩
theorem Rch.room (h:Rch C i c c'):xb1 c'=xb1 c:=by
 induction h with
 |trans _ _ h1 h2=>exact h2.trans h1
 |le _ _ h1=>exact h1
 |rest c k hk=>
  unfold xb1
  show(match c.slk.map (fun m=>QT m k)with|some m=>m.room|none=>0)=_
  rcases Option.eq_none_or_eq_some c.slk with h|⟨m0,h⟩
  ·rw[h];rfl
  ·rw[h];rfl
 |_=>rfl
theorem xiG {x:Int×Bool}:∀{ms:List (Int×Bool)} {i:Nat},i<ms.length→VT (ms.set i x)=VT ms-(if(ix ms (i:Int)).2=true then 0 else(ix ms (i:Int)).1)+(if x.2=true then 0 else x.1)
 |y::t,0,_=>by
  have e:ix (y::t) ((0:Nat):Int)=y:=rfl
  rw[e]
  simp only[List.set_cons_zero,VT]
  omega
 |y::t,i+1,h=>by
  have e:ix (y::t) ((i+1:Nat):Int)=ix t (i:Int):=rfl
  rw[e]
  have:=xiG (x:=x) (ms:=t) (i:=i) (by simpa using h)
  simp only[List.set_cons_succ,VT,this]
  omega
theorem xpd (hs:Vz m) (hk:inR m.ms k):VT (Qm m.ms k true)≤VT m.ms:=by
 unfold Qm
 rw[if_pos hk]
 obtain⟨h0,h1⟩:=hk
 rw[xiG S.o]
 have:=xcQ hs k
 rw[show((k.toNat:Nat):Int)=k from by omega]
 simp only[if_true]
 split<;>omega
theorem xsZ (h:∀x∈ms,0≤x.1):0≤VT ms:=by
 induction ms with
 |nil=>exact Int.le_refl _
 |cons x t ih=>
  have h1:=h x (List.mem_cons_self ..)
  have h2:=ih fun y hy=>h y (List.mem_cons_of_mem _ hy)
  unfold VT
  split<;>omega
theorem xpj (ms:List (Int×Bool)):∀a:Int,(∀x∈ms,0≤x.1∧x.1≤1000000000000)→0≤a→a+1000000000000*ms.length≤9000000000000000000→(YZ ms).foldl QR a=a+VT ms:=by
 induction ms with
 |nil=>intro a _ _ _;show a=a+0;omega
 | cons x t ih=>
  intro a h h0 h1
  have hx:=h x (List.mem_cons_self ..)
  have ht:∀y∈t,0≤y.1∧y.1≤1000000000000:=fun y hy=>h y (List.mem_cons_of_mem _ hy)
  simp only[List.length_cons,Int.natCast_succ]at h1
  unfold VT
  by_cases hd:x.2=true
  ·have e:YZ (x::t)=YZ t:=by unfold YZ;rw[List.filter_cons_of_neg (by simp[hd])]
   rw[e,if_pos hd,ih a ht h0 S.o]
   omega
  ·have e:YZ (x::t)=x.1::YZ t:=by unfold YZ;rw[List.filter_cons_of_pos (by simpa using hd),List.map_cons]
   have ha:QR a x.1=a+x.1:=by unfold QR;rw[if_pos S.o]
   rw[e,if_neg hd,List.foldl_cons,ha,ih (a+x.1) ht S.o S.o]
   omega
theorem xiS (hs:Vz m):Wr m.room m.ms=if m.room<VT m.ms then m.room else VT m.ms:=by
 have hl:=hs.l
 have:=xpj m.ms 0 hs.h (by decide) S.o
 unfold Wr Vi
 rw[this,Int.zero_add]
theorem Rch.lef (hc:okC C) (h:Rch C i c c') (ho:okM C c) (hS:okS C c) (hs:∀m,c.slk=some m→Vz m):xgD c'≤xgD c:=by
 induction h with
 |trans a _ h1 h2=>exact Int.le_trans (h2 (a.ok hc ho) (a.oS hS) (a.slO hs)) (h1 ho hS hs)
 |le _ _ h1=>exact h1 ho hS hs
 | rest c k hk=>
  unfold xgD
  show(match c.slk.map (fun m=>QT m k)with|some m=>(if m.room<VT m.ms then m.room else VT m.ms)|none=>0)≤_
  rcases Option.eq_none_or_eq_some c.slk with h|⟨m0,h⟩
  ·rw[h];exact Int.le_refl _
  ·rw[h]
   have:=xpd (hs m0 h) (k:=k) (by unfold inR at*;rw[hS m0 h];exact hk)
   show(if m0.room<VT (Qm m0.ms k true)then m0.room else VT (Qm m0.ms k true))≤if m0.room<VT m0.ms then m0.room else VT m0.ms
   split<;>split<;>omega
 |_=>exact Int.le_refl _
theorem xu3 (hs:∀m,c.slk=some m→Vz m):0≤xgD c:=by
 unfold xgD
 split
 ·rename_i m hm
  have h1:=(hs m hm).r
  have h2:=xsZ fun x hx=>((hs m hm).h x hx).1
  split<;>omega
 ·decide
theorem xqF (hs:∀m,c.slk=some m→Vz m):0≤JZ c∧JZ c≤xgD c∧(¬Yl c<0→JZ c=xgD c):=by
 have h0:=xu3 hs
 by_cases hw:Yl c<0
 ·have e:JZ c=0:=by unfold JZ;split<;>first|rw[if_pos hw]|rfl
  rw[e]
  exact⟨by decide,h0,fun h=>absurd hw h⟩
 ·obtain⟨m,hm,_,_⟩:=J2 hw
  have e:JZ c=xgD c:=by
   unfold JZ xgD
   rw[hm]
   simp only
   rw[if_neg hw,xiS (hs m hm)]
  rw[e]
  exact⟨h0,Int.le_refl _,fun _=>rfl⟩
theorem xjg (hk:inR m.ms k) {a b:Int} (ha:0≤a) (hb:1≤b) (h1:a+b≤(ix m.ms k).1) (h2:a+b≤m.room):X8 (X8 m k a) k b=X8 m k (a+b):=by
 have hm:∀{x y z:Int},x≤y→x≤z→Zn x y z=x:=fun h1 h2=>by unfold Zn;split<;>split<;>omega
 by_cases h0:a<1
 ·have ha0:a=0:=by omega
  subst ha0
  have e:X8 m k 0=m:=by
   unfold X8 spM VJ
   rw[if_pos hk,if_pos (by decide),if_pos hk,if_pos (by decide),Int.sub_zero]
  rw[e,Int.zero_add]
 ·have e:X8 m k a=⟨m.room-a,m.ms.set k.toNat ((ix m.ms k).1-a,(ix m.ms k).2)⟩:=by
   unfold X8 spM VJ
   rw[if_pos hk,if_neg h0,if_pos hk,if_neg h0,hm S.o S.o]
  have hk':inR (m.ms.set k.toNat ((ix m.ms k).1-a,(ix m.ms k).2)) k:=by unfold inR at*;rw[List.length_set];exact hk
  rw[e]
  unfold X8 spM VJ
  simp only
  rw[if_pos hk',if_neg S.o,if_pos hk',if_neg S.o,if_pos hk,if_neg S.o,if_pos hk,if_neg S.o,YY hk hk.1,if_pos rfl]
  simp only
  rw[hm (x:=b) S.o S.o,hm (x:=a+b) S.o S.o,List.set_set]
  have e1:m.room-a-b=m.room-(a+b):=by omega
  have e2: (ix m.ms k).1-a-b=(ix m.ms k).1-(a+b):=by omega
  rw[e1,e2]
theorem xg0 (hm:c.slk=some m):xan C c k n=if ix c.rest k-n=0 then XM C 100 (XR C (toM C (Yc c m k n) k (ix c.pos k+1)) k (ix (ix C.progs k) (ix c.pos k)))else XM C 100 (Yc c m k n):=by
 unfold xan Yc
 rw[hm]
 rfl
structure xgH (C:CC) (c:CM) (m:SlM) (k:Int):Prop where
 hm:c.slk=some m
 h3:c.mode=3
 pk:XJ c=k
 hk:inR C.progs k
 ms:inR m.ms k
 rs:inR c.rest k
 w1:X0 c≤ix c.rest k
 w2:X0 c≤(ix m.ms k).1
 w3:X0 c≤m.room
 we:X0 c=Zn (ix c.rest k) (ix m.ms k).1 m.room
theorem xdp (hi:Inv C c) (hw:¬X0 c<1):∃m,xgH C c m (XJ c):=by
 obtain⟨m,hm,h3,hp,hwm⟩:=xmw hw
 have hk:inR C.progs (XJ c):=V3 hi.ok hp
 have hms:inR m.ms (XJ c):=by unfold inR at*;rw[hi.S m hm];exact hk
 have ho:ofM m (XJ c)=(ix m.ms (XJ c)).1:=by unfold ofM;rw[if_pos hms]
 rw[ho]at hwm
 obtain⟨q1,q2,q3,_⟩:=@Qu (ix c.rest (XJ c)) (ix m.ms (XJ c)).1 m.room
 exact⟨m,hm,h3,rfl,hk,hms,by unfold inR at*;rw[hi.ok.rest];exact hk,by omega,by omega,by omega,hwm⟩
theorem xox {a b c n:Int}:Zn (a-n) (b-n) (c-n)=Zn a b c-n:=by
 unfold Zn
 split<;>split<;>split<;>split<;>omega
theorem xbj (hr:xgH C c m k) (h0:0≤n) (hn:n≤X0 c):X0 (Yc c m k n)=X0 c-n∧ofC (Yc c m k n) k=(ix m.ms k).1-n:=by
 have hp:XJ (Yc c m k n)=k:=hr.pk
 have h1:=hr.w2
 have h2:=hr.w3
 have e1:spM m.room m.ms k n=n:=by
  unfold spM
  rw[if_pos hr.ms]
  split
  ·omega
  ·unfold Zn;split<;>split<;>omega
 have hms:inR (VJ m.room m.ms k n) k:=by unfold inR;rw[xdY];exact hr.ms
 have e2: (ix (VJ m.room m.ms k n) k).1=(ix m.ms k).1-n:=by
  have e3:spM m.room m.ms k n=n:=e1
  unfold VJ
  unfold spM at e3
  rw[if_pos hr.ms]at e3⊢
  split
  ·rename_i h;rw[if_pos h]at e3;omega
  ·rename_i h
   rw[if_neg h]at e3
   rw[e3,YY hr.ms hr.ms.1,if_pos rfl]
 have e3:ofM (X8 m k n) k=(ix m.ms k).1-n:=by unfold ofM X8;simp only;rw[if_pos hms,e2]
 refine⟨?_,e3⟩
 have hx:X0 (Yc c m k n)=(if c.mode=3 then(if XJ (Yc c m k n)<0 then 0 else Zn (ix (c.rest.set k.toNat (ix c.rest k-n)) (XJ (Yc c m k n))) (ofM (X8 m k n) (XJ (Yc c m k n))) (X8 m k n).room)else 0):=rfl
 rw[hx,hp,if_pos hr.h3,if_neg (by have:=hr.hk.1;omega),YY hr.rs hr.rs.1,if_pos rfl,e3]
 show Zn _ _ (m.room-spM m.room m.ms k n)=_
 rw[e1,xox,←hr.we]
theorem xjW (hr:xgH C c m k) (h0:0≤n) (hn:n<X0 c):∀i,XM C i (Yc c m k n)=Yc c m k n:=by
 have hp:XJ (Yc c m k n)=k:=hr.pk
 have h2:=hr.w2
 refine ZU (.inr (.inr ?_))
 rw[hp,(xbj hr h0 S.o).2]
 omega
theorem xic (hr:xgH C c m k) (h0:0≤n) (hn:n<X0 c):xan C c k n=Yc c m k n:=by
 have h1:=hr.w1
 rw[xg0 hr.hm,if_neg S.o,xjW hr h0 hn]
theorem xrw (hr:xgH C c m k) {a b:Int} (ha:0≤a) (hb:1≤b) (hn:a+b≤X0 c):xan C (Yc c m k a) k b=xan C c k (a+b):=by
 have h1:=hr.w2
 have h2:=hr.w3
 have e:Yc (Yc c m k a) (X8 m k a) k b=Yc c m k (a+b):=by
  have er: (c.rest.set k.toNat (ix c.rest k-a)).set k.toNat (ix (c.rest.set k.toNat (ix c.rest k-a)) k-b)=c.rest.set k.toNat (ix c.rest k-(a+b)):=by rw[YY hr.rs hr.rs.1,if_pos rfl,List.set_set,Int.sub_sub]
  show{c with slk:=some (X8 (X8 m k a) k b),rest:=(c.rest.set k.toNat (ix c.rest k-a)).set k.toNat (ix (c.rest.set k.toNat (ix c.rest k-a)) k-b)}={c with slk:=some (X8 m k (a+b)),rest:=c.rest.set k.toNat (ix c.rest k-(a+b))}
  rw[xjg hr.ms ha hb S.o S.o,er]
 have e2:ix (Yc c m k a).rest k=ix c.rest k-a:=by
  show ix (c.rest.set k.toNat (ix c.rest k-a)) k=_
  rw[YY hr.rs hr.rs.1,if_pos rfl]
 rw[xg0 (m:=X8 m k a) rfl,xg0 hr.hm,e,e2,Int.sub_sub]
 rfl
end
def VE (C:CC) (c:CM):Nat→CM
 |0=>c
 |n+1=>Q0 C (VE C c n)
section
variable {C:CC} {c c':CM} {k j n:Int} {m:SlM} {i:Nat}
theorem xsC (hi:Inv C c) (hr:JB c):0≤X0 c:=by
 unfold X0
 split
 ·rename_i m hm
  split
  ·split
   ·decide
   ·rename_i h3 h0
    have hk:inR C.progs (XJ c):=V3 hi.ok h0
    have hrs:inR c.rest (XJ c):=by unfold inR at*;rw[hi.ok.rest];exact hk
    have h1:=hr _ (List.mem_of_getElem? (Yi hrs.1 hrs.2))
    have h2:=hi.sl m hm
    have h4:=xcQ h2 (XJ c)
    have h5:0≤ofM m (XJ c):=by unfold ofM;split<;>omega
    obtain⟨_,_,_,q4⟩:=@Qu (ix c.rest (XJ c)) (ofM m (XJ c)) m.room
    exact q4 S.o h5 h2.r.1
  ·decide
 ·decide
theorem xdR (hi:Inv C c) (hr:JB c):xd7 c=decide (1≤X0 c):=by
 by_cases hw:Yl c<0
 ·rw[(xgn (C:=C) hw).2,xfW hw];rfl
 ·obtain⟨m,hm,h3,hp⟩:=J2 hw
  have h0:¬XJ c<0:=by omega
  have hk:inR C.progs (XJ c):=V3 hi.ok h0
  have hms:inR m.ms (XJ c):=by unfold inR at*;rw[hi.S m hm];exact hk
  have hrs:inR c.rest (XJ c):=by unfold inR at*;rw[hi.ok.rest];exact hk
  have h1:=hr _ (List.mem_of_getElem? (Yi hrs.1 hrs.2))
  have h2:=(hi.sl m hm).r
  have h4:=xcQ (hi.sl m hm) (XJ c)
  have e1:X0 c=Zn (ix c.rest (XJ c)) (ix m.ms (XJ c)).1 m.room:=by
   unfold X0 ofM
   rw[hm]
   simp only
   rw[if_pos h3,if_neg h0,if_pos hms]
  have e2:spM m.room m.ms (Yl c) 1=Zn 1 m.room (ix m.ms (XJ c)).1:=by
   unfold spM
   rw[hp,if_pos hms,if_neg (by decide)]
  have e3: (1≤X0 c)↔spM m.room m.ms (Yl c) 1=1:=by
   rw[e1,e2]
   unfold Zn
   constructor
   ·intro h
    split at h<;>split at h<;>split<;>split<;>omega
   ·intro h
    split at h<;>split at h<;>split<;>split<;>omega
  unfold xd7
  rw[hm]
  simp only
  rw[decide_eq_true hw,Bool.true_and]
  exact decide_eq_decide.2 e3.symm
theorem xgB (hi:Inv C c) (hr:JB c) (hw:1≤X0 c):Q0 C c=xan C c (XJ c) 1:=by
 have hv:=xdR hi hr
 rw[decide_eq_true hw]at hv
 by_cases h0:Yl c<0
 ·rw[(xgn (C:=C) h0).2]at hv;cases hv
 ·obtain⟨m,hm,h3,hp⟩:=J2 h0
  by_cases hs:spM m.room m.ms (Yl c) 1=1
  ·rw[(xga (C:=C) h0 hm hs).1,hp]
  ·rw[(xgl (C:=C) h0 hm hs).2]at hv;cases hv
theorem xq9 (hi:Inv C c) (hr:JB c) (hw:¬1≤X0 c):Q0 C c=c:=by
 have hv:=xdR hi hr
 rw[decide_eq_false hw]at hv
 by_cases h0:Yl c<0
 ·exact(xgn (C:=C) h0).1
 ·obtain⟨m,hm,h3,hp⟩:=J2 h0
  by_cases hs:spM m.room m.ms (Yl c) 1=1
  ·rw[(xga (C:=C) h0 hm hs).2]at hv;cases hv
  ·rw [(xgl (C:=C) h0 hm hs).1]
   have hk:inR C.progs (XJ c):=V3 hi.ok (show¬XJ c<0 by omega)
   have hms:inR m.ms (Yl c):=by rw[hp];unfold inR at*;rw[hi.S m hm];exact hk
   have h2:=(hi.sl m hm).r
   have h4:=xcQ (hi.sl m hm) (Yl c)
   have e:spM m.room m.ms (Yl c) 1=0∧Zn 1 m.room (ix m.ms (Yl c)).1=0:=by
    unfold spM at hs⊢
    rw[if_pos hms,if_neg (by decide)]at hs⊢
    have:Zn 1 m.room (ix m.ms (Yl c)).1=0:=by
     obtain⟨q1,_,_,q4⟩:=@Qu 1 m.room (ix m.ms (Yl c)).1
     have:=q4 (by decide) h2.1 h4.1
     omega
    exact⟨this,this⟩
   have e2:X8 m (Yl c) 1=m:=by
    unfold X8
    rw[e.1]
    unfold VJ
    rw[if_pos hms,if_neg (by decide),e.2,Int.sub_zero,Int.sub_zero]
    have hx:=Yi hms.1 hms.2
    rw[show((ix m.ms (Yl c)).1,(ix m.ms (Yl c)).2)=ix m.ms (Yl c)from rfl]
    have:m.ms.set (Yl c).toNat (ix m.ms (Yl c))=m.ms:=by
     apply List.ext_getElem?
     intro i
     rw[List.getElem?_set]
     split
     ·rename_i e;subst e
      split
      ·exact hx.symm
      ·rename_i h;exact(List.getElem?_eq_none (Nat.le_of_not_lt h)).symm
     ·rfl
    rw[this]
   rw[e2,←hm]
theorem xcz (hr:xgH C c m k) (hi:Inv C c):Inv C (Yc c m k n):=by
 have hd:∀j,(ix (VJ m.room m.ms k n) j).2=(ix m.ms j).2∨¬inR m.ms j:=fun j=>by
  by_cases hj:inR m.ms j
  ·left
   have h1:inR (VJ m.room m.ms k n) j:=by unfold inR;rw[xdY];exact hj
   have e:=congrArg (fun l=>ix l j) (xft (m:=m) (k:=k) (n:=n))
   simp only[Zp]at e
   rw[ixR h1,ixR hj]at e
   exact e
  ·exact .inr hj
 refine⟨xff hi.ok,hi.dp,hi.p,xe5 hi.S hr.hm,fun m' hm'=>?_,fun m' hm' j hj hd'=>?_⟩
 ·have:some (X8 m k n)=some m':=hm'
  cases this
  exact xa3 (hi.sl m hr.hm)
 ·have:some (X8 m k n)=some m':=hm'
  cases this
  refine hi.sd m hr.hm j hj ?_
  rcases hd j with h|h
  ·rw[←h];exact hd'
  ·exact absurd (show inR m.ms j from by unfold inR at*;rw[hi.S m hr.hm];exact hj) h
theorem xlZ (hc:okC C) (hr:xgH C c m k) (hi:Inv C c) (h1:JB c) (h00:0≤n) (hn:n≤X0 c):
  Rch C 122 (Yc c m k n) (xan C c k n)∧JB (xan C c k n):=by
 have h0:=xcz (n:=n) hr hi
 have hr1:=hr.w1
 rw[xg0 hr.hm]
 split
 ·rename_i he
  have hpi:0≤ix c.pos k∧ix c.pos k<(ix C.progs k).length:=by
   rcases hi.ok.pi k with h|h
   ·exact h
   ·exact absurd hr.hk h
  have hsok: (ix (ix C.progs k) (ix c.pos k)).ok:=(hc.pr _ (xac hr.hk)).2.2 _ (List.mem_of_getElem? (Yi hpi.1 hpi.2))
  have a1:Rch C 0 (Yc c m k n) (toM C (Yc c m k n) k (ix c.pos k+1)):=.to _ k _ hr.hk S.o S.o
  have i1:=a1.inv hc h0
  have a2:=xeH (C:=C) hc hr.hk hsok i1.p
  have a3:=Qx hc 100 _ (a2.ok hc i1.ok)
  refine⟨.le (.trans a1 (.trans a2 a3)) S.o,a3.r1 (a2.r1 ?_)⟩
  intro x hx
  have hx':x∈(c.rest.set k.toNat (ix c.rest k-n)).set k.toNat (WQ (ix (ix C.progs k) (atM (ix C.progs k) (ix c.pos k+1))).cycles):=hx
  rw[List.set_set]at hx'
  rcases List.mem_or_eq_of_mem_set hx' with h'|rfl
  ·exact h1 x h'
  ·exact xct
 ·rename_i he
  have a3:=Qx hc 100 _ h0.ok
  refine⟨.le a3 S.o,a3.r1 fun x hx=>?_⟩
  rcases List.mem_or_eq_of_mem_set hx with h'|rfl
  ·exact h1 x h'
  ·have:=h1 _ (List.mem_of_getElem? (Yi hr.rs.1 hr.rs.2))
   omega
theorem xls (hc:okC C) (hi:Inv C c) (h1:JB c):Inv C (Q0 C c)∧JB (Q0 C c)∧(Q0 C c).evs.length≤c.evs.length+122:=by
 by_cases hw:1≤X0 c
 ·obtain⟨m,hr⟩:=xdp hi S.o
  rw[xgB hi h1 hw]
  obtain⟨a,b⟩:=xlZ hc hr hi h1 (by decide) hw
  exact⟨a.inv hc (xcz hr hi),b,a.ev⟩
 ·rw[xq9 hi h1 hw]
  exact⟨hi,h1,by omega⟩
theorem VO (hc:okC C) (hi:Inv C c) (h1:JB c):∀i,Inv C (VE C c i)∧JB (VE C c i)
 |0=>⟨hi,h1⟩
 |i+1=>by
  obtain⟨a,b⟩:=VO hc hi h1 i
  exact⟨(xls hc a b).1,(xls hc a b).2.1⟩
theorem xbd (hc:okC C) (hi:Inv C c) (h1:JB c) (hr:xgH C c m k):∀i:Nat,1≤i→(i:Int)≤X0 c→VE C c i=xan C c k i
 |0,h,_=>by omega
 |1,_,h=>by
  show Q0 C c=_
  rw[xgB hi h1 h,hr.pk]
  rfl
 |i+2,_,h=>by
  have ih:=xbd hc hi h1 hr (i+1) S.o S.o
  show Q0 C (VE C c (i+1))=_
  obtain⟨a,b⟩:=VO hc hi h1 (i+1)
  rw[xic hr S.o S.o]at ih
  rw[ih]at a b⊢
  have hw:=(xbj hr (n:=((i+1:Nat):Int)) S.o S.o).1
  rw[xgB a b S.o]
  have hp:XJ (Yc c m k ((i+1:Nat):Int))=k:=hr.pk
  rw[hp,xrw hr S.o (by decide) S.o]
  congr 1
theorem xd4 (hc:okC C) (hi:Inv C c) (h1:JB c) (hr:xgH C c m k):∀i:Nat,(i:Int)<X0 c→xd7 (VE C c i)=true∧(VE C c i).evs=c.evs:=by
 intro i h
 obtain⟨a,b⟩:=VO hc hi h1 i
 rw[xdR a b]
 rcases Nat.eq_zero_or_pos i with rfl|h0
 ·exact⟨decide_eq_true (by show 1≤X0 c;omega),rfl⟩
 ·rw[xbd hc hi h1 hr i h0 S.o,xic hr S.o h]
  exact⟨decide_eq_true (by rw[(xbj hr S.o S.o).1];omega),rfl⟩
theorem xiN (hc:okC C) (hi:Inv C c) (h1:JB c) {cyc:Int}:∃t:Nat,(t:Int)=xcH c cyc∧xaO C c cyc=VE C c t∧(t:Int)≤X0 c∧(∀j:Nat,j<t→xd7 (VE C c j)=true)∧Inv C (xaO C c cyc)∧JB (xaO C c cyc)∧(xaO C c cyc).evs.length≤c.evs.length+122:=by
 have hw0:=xsC hi h1
 unfold xaO xcH
 by_cases h:xc8 c cyc<1
 ·rw[if_pos h,if_pos h]
  exact⟨0,rfl,rfl,hw0,fun j hj=>absurd hj (Nat.not_lt_zero _),hi,h1,by omega⟩
 ·rw[if_neg h,if_neg h]
  have hn:xc8 c cyc≤X0 c:=by unfold xc8;split<;>omega
  obtain⟨m,hr⟩:=xdp hi S.o
  obtain⟨t,ht⟩:∃t:Nat,(t:Int)=xc8 c cyc:=⟨(xc8 c cyc).toNat,by omega⟩
  rw[←ht]at hn h⊢
  obtain⟨a,b⟩:=xlZ hc hr hi h1 S.o hn
  exact⟨t,rfl,(xbd hc hi h1 hr t S.o hn).symm,hn,fun j hj=>(xd4 hc hi h1 hr j S.o).1,a.inv hc (xcz hr hi),b,a.ev⟩
theorem xJ4 (hr:xgH C c m k) (hi:Inv C c): (ix m.ms k).2=false:=by
 cases he: (ix m.ms k).2 with
 |false=>rfl
 |true=>
  have h1:=hi.sd m hr.hm k hr.hk he
  have h2:=hi.dp k hr.hk.1 h1
  have h0:¬XJ c<0:=by rw[hr.pk];have:=hr.hk.1;omega
  have hs:=xbS (xex (t:=c.tb) (q:=One.ready) (by unfold XJ at h0;omega))
  have hp:=hr.pk
  unfold XJ at hp
  rw[hp,h2]at hs
  cases hs.2
theorem xIc (hr:xgH C c m k) (hi:Inv C c) (h0:1≤n) (hn:n≤X0 c):xgD (Yc c m k n)=xgD c-n:=by
 have h1:=hr.w2
 have h2:=hr.w3
 have h3:=xJ4 hr hi
 have e0:Zn n m.room (ix m.ms k).1=n:=by unfold Zn;split<;>split<;>omega
 have e1:X8 m k n=⟨m.room-n,m.ms.set k.toNat ((ix m.ms k).1-n,(ix m.ms k).2)⟩:=by
  unfold X8 spM VJ
  rw[if_pos hr.ms,if_neg S.o,if_pos hr.ms,if_neg S.o,e0]
 have e2:xgD c=if m.room<VT m.ms then m.room else VT m.ms:=by unfold xgD;rw[hr.hm]
 have e3:xgD (Yc c m k n)=if(X8 m k n).room<VT (X8 m k n).ms then(X8 m k n).room else VT (X8 m k n).ms:=rfl
 have hk:=hr.ms
 obtain⟨k0,k1⟩:=hk
 have hc: ((k.toNat:Nat):Int)=k:=by omega
 have e4:VT (m.ms.set k.toNat ((ix m.ms k).1-n,(ix m.ms k).2))=VT m.ms-n:=by
  rw[xiG S.o,hc,h3]
  simp only[Bool.false_eq_true,if_false]
  omega
 rw[e3,e2,e1]
 simp only
 rw[e4]
 split<;>split<;>omega
theorem xIf (hc:okC C) (hi:Inv C c) (h1:JB c) {cyc:Int}:xcH c cyc≤JZ c∧JZ (xaO C c cyc)≤JZ c-xcH c cyc:=by
 have hl:=xqF hi.sl
 unfold xaO xcH
 by_cases h:xc8 c cyc<1
 ·rw[if_pos h,if_pos h];exact⟨hl.1,by omega⟩
 ·rw[if_neg h,if_neg h]
  have hn:xc8 c cyc≤X0 c:=by unfold xc8;split<;>omega
  obtain⟨m,hr⟩:=xdp hi S.o
  have hwho:¬Yl c<0:=fun hw=>by have:=xfW hw;omega
  have hs:=xIc hr hi (n:=xc8 c cyc) S.o hn
  have hse:=xcz (n:=xc8 c cyc) hr hi
  obtain⟨a,b⟩:=xlZ hc hr hi h1 S.o hn
  have h5:=a.lef hc hse.ok hse.S hse.sl
  have h6:=xqF (a.inv hc hse).sl
  have h7:=xu3 hse.sl
  have h8:=hl.2.2 hwho
  exact⟨by omega,by omega⟩
end
theorem xba {α:Type} [Inhabited α] {p:α→Prop} {xs:List α} {n:Nat} (hn:n=xs.length) (h:∀j:Nat,j<n→p (ix xs (j:Int))):∀x∈xs,p x:=fun x hx=>by
 obtain⟨j,hj,e⟩:=List.mem_iff_getElem.1 hx
 have:=h j S.o
 unfold ix at this
 rw[Int.toNat_natCast,List.getD_eq_getElem?_getD,List.getElem?_eq_getElem hj,e]at this
 exact this
theorem JT {p:Nat→Prop} {k:Nat} (h:∀j:Nat,j<k→p j) (hk:p k):∀j:Nat,j<k+1→p j:=fun j hj=>by
 by_cases e:j=k
 ·rw[e];exact hk
 ·exact h j S.o
def xtr (c:YF):Prop:=(∀x∈c.pools.d,x.size≤64∧x.depth≤16)∧∀x∈c.slates.d,x≤64
structure xkj (c:YF):Prop where
 r:∀x∈c.regions.d,0≤x.base∧x.base≤1048576
 n1:1≤c.procs.d.length
 n8:c.procs.d.length≤8
 p:∀x∈c.procs.d,x.cost≤1000000000
 o:∀x∈c.ports.d,x.size≤64∧x.depth≤16
 b:xtr c
 c1:1≤c.cap
 c9:c.cap≤1000000000
section
attribute [local irreducible] BrK Xq Xt Xv XI FnK XZ Xw XC XV opX opK Yq Yk eqR Yj Yo Ys WL WD W X3 XO Tr drewK Ya X4 Yw Yv X1 YB mp blk rob sl sep ex fact old
section
variable {a b s:SV} {xs:List EvC}
theorem xfV (hl:xs.length≤1000000000):Xb prog 15 #[a.v,b.v] [sl false a.v xs,sl false b.v xs]
  fun v l'=>v=.bool true∧l'=[sl false a.v xs,sl false b.v xs]:=by
 intro F K hK
 simp only[ap]at hK⊢
 refine S.I fun u=>?_
 have hX:=@xLC.eq_def;repeat' (first|refine S.x ?_|fail)
 refine Tr.loopE (α:=Nat) [4,5] [0,1] (fun k=>[.bool false,.int .i64 k]) (fun k=>[sl false a.v xs,sl false b.v xs]) (fun k=>k≤xs.length) (fun k=>xs.length-k) 0 S.T rfl (Nat.zero_le _) fun k u hk=>?_
 simp only[ap]
 by_cases hin:k<xs.length
 ·have hw:=Xo (k:=k) S.o
  have hX:=And.intro @xLC.eq_def hw;repeat' (first|refine S.x ?_|intro hb|fail)
  all_goals exact S.R (k+1)
 ·have hX:=@xLC.eq_def;repeat' (first|refine S.x ?_|fail)
  all_goals exact S.L
theorem xjN {ps:List (SL XE)}:Xb prog 36 #[s.v] [sl true s.v ps,fzl ps]
  fun v l'=>∃b:Bool,(b=true→ps.length≤20∧∀x∈ps,x.d.length≤100)∧v=.bool b∧l'=[]:=by
 intro F K hK
 simp only[ap]at hK⊢
 refine S.I fun u=>?_
 by_cases h20:ps.length≤20
 ·repeat' (first|refine S.x ?_|fail)
  refine Tr.loopE (α:=Nat) [2,3] [0] (fun k=>[.bool false,.int .i64 k]) (fun _=>[]) (fun k=>k≤ps.length∧∀j:Nat,j<k→(ix ps (j:Int)).d.length≤100) (fun k=>ps.length-k) 0 S.T rfl ⟨Nat.zero_le _,fun j hj=>absurd hj (Nat.not_lt_zero _)⟩ fun k u hk=>?_
  obtain⟨hk,hall⟩:=hk
  simp only[List.nil_append]
  by_cases hin:k<ps.length
  ·have hw:=Xo (k:=k) S.o
   by_cases h1: (ix ps (k:Int)).d.length≤100
   ·have hall2:=JT (p:=fun j:Nat=>(ix ps (j:Int)).d.length≤100) hall h1
    have hX:=hw;repeat' (first|refine S.x ?_|intro hb|fail)
    all_goals exact S.R (k+1)
   ·have hX:=hw;repeat' (first|refine S.x ?_|intro hb|fail)
    all_goals exact Tr.fin hK ⟨false,(fun h=>by cases h),rfl,rfl⟩ S.E
  ·have hall3:=xba (p:=fun x:SL XE=>x.d.length≤100) S.o hall
   repeat' (first|refine S.x ?_|fail)
   all_goals exact Tr.fin hK ⟨true,(fun _=>⟨h20,hall3⟩),rfl,rfl⟩ S.E
 ·repeat' (first|refine S.x ?_|fail)
  all_goals exact Tr.fin hK ⟨false,(fun h=>by cases h),rfl,rfl⟩ S.E
theorem YA {n x y:Int}:Xb prog 52 #[.int .i64 n,.int .i64 x,.int .i64 y] []
  fun v l'=>v=.bool (decide (n<x∨y<n))∧l'=[]:=by
 intro F K hK
 simp only[List.nil_append]at hK⊢
 refine S.I fun u=>?_
 by_cases h1:n<x
 ·have e:decide (n<x∨y<n)=true:=decide_eq_true (.inl h1)
  rw[e]at hK
  repeat' (first|refine S.x ?_|fail)
  all_goals exact S.L
 ·by_cases h2:y<n
  ·have e:decide (n<x∨y<n)=true:=decide_eq_true (.inr h2)
   rw[e]at hK
   repeat' (first|refine S.x ?_|fail)
   all_goals exact S.L
  ·have e:decide (n<x∨y<n)=false:=decide_eq_false S.o
   rw[e]at hK
   repeat' (first|refine S.x ?_|fail)
   all_goals exact S.L
