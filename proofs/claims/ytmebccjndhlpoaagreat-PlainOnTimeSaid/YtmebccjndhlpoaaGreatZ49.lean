import Derived.Test.YtmebccjndhlpoaaGreatZ48
namespace Go.Proofs.YtmebccjndhlpoaaGreat
open Go Go.Wk Tryz
set_option maxHeartbeats 3200000
set_option maxRecDepth 100000
section
variable {C:CC} {c:CM} {k n:Int}
theorem xJT {t:Tb} {win:Int} (hk:inR t.d k) (h0: (t.at k).state=0): (t.start k win).d.length=t.d.length∧(∀j:Int,j≠k→(t.start k win).at j=t.at j)∧((t.start k win).at k).state=1∧((t.start k win).at k).period=(t.at k).period∧((t.start k win).at k).next=IntKind.i64.wrap (win+(t.at k).period):=by
 have e:t.start k win=t.put k {t.at k with prio:=(t.at k).cprio,next:=IntKind.i64.wrap (win+(t.at k).period)} 1:=by
  unfold Tb.start
  have:t.startB k=true:=by unfold Tb.startB;rw[xGY hk,decide_eq_true h0];rfl
  rw[this,if_pos rfl]
 have ha:∀j,(t.start k win).at j=if j=k then t.putP {t.at k with prio:=(t.at k).cprio,next:=IntKind.i64.wrap (win+(t.at k).period)} 1 else t.at j:=fun j=>by rw[e];exact xjY hk
 obtain⟨p1,p2,p3⟩:=xEP (t:=t) (o:={t.at k with prio:=(t.at k).cprio,next:=IntKind.i64.wrap (win+(t.at k).period)}) (st:=1) (by decide)
 have p4: (t.putP {t.at k with prio:=(t.at k).cprio,next:=IntKind.i64.wrap (win+(t.at k).period)} 1).next=IntKind.i64.wrap (win+(t.at k).period):=by
  unfold Tb.putP
  simp only
  (repeat' split)<;>rfl
 refine⟨?_,fun j hj=>by rw[ha,if_neg hj],?_,?_,?_⟩
 ·rw[e]
  unfold Tb.put
  simp only[List.length_set]
 ·rw[ha,if_pos rfl];exact p1
 ·rw[ha,if_pos rfl];exact p3
 ·rw[ha,if_pos rfl];exact p4
structure Nw (C:CC) (n:Nat) (c:CM):Prop where
 m3:c.mode=3
 w:c.win=-1
 tl:c.tb.d.length=C.progs.length
 rl:c.rest.length=C.progs.length
 pl:c.pos.length=C.progs.length
 d:∀k:Int,¬ix c.done k=true
 e:c.evs=[]
 s:∀k:Int,inR C.progs k→(c.tb.at k).period=(ix C.conf.procs.d k).period∧ix c.pos k=0∧(k<n→(c.tb.at k).state=1∧(c.tb.at k).next=IntKind.i64.wrap (0+(c.tb.at k).period)∧ix c.rest k=cyO C k)∧((n:Int)≤k→(c.tb.at k).state=0)
theorem xMU {α:Type} [Inhabited α] {m:Nat} {x:α} (hk:0≤k∧k<m):ix (List.replicate m x) k=x:=by
 unfold ix
 rw[List.getD_eq_getElem?_getD,List.getElem?_replicate,if_pos S.o]
 rfl
theorem xLM (hS:Std C) (h8:C.progs.length≤8):Nw C 0 (V4 C):=by
 have hl: (Tb.new C.conf.procs.d).d.length=C.progs.length:=by
  show((C.conf.procs.d.take 8).map One.new).length=_
  rw[List.length_map,List.length_take,hS.np]
  omega
 have ha:∀k:Int,inR C.progs k→(Tb.new C.conf.procs.d).at k=One.new (ix C.conf.procs.d k):=fun k hk=>by
  have e: (Tb.new C.conf.procs.d).d=C.conf.procs.d.map One.new:=by
   show(C.conf.procs.d.take 8).map One.new=_
   rw[List.take_of_length_le (by rw[hS.np];exact h8)]
  have hs:=Yi (xs:=C.conf.procs.d) hk.1 (by rw[hS.np];exact hk.2)
  unfold Tb.at
  rw[if_pos hk.1,e,List.getD_eq_getElem?_getD,List.getElem?_map,hs]
  rfl
 refine⟨rfl,rfl,hl,List.length_replicate,List.length_replicate,fun k=>?_,rfl,fun k hk=>⟨?_,xMU hk,fun h=>absurd h (by have:=hk.1;omega),fun _=>?_⟩⟩
 ·show¬ix (List.replicate C.progs.length false) k=true
  unfold ix
  rw[List.getD_eq_getElem?_getD,List.getElem?_replicate]
  split<;>exact Bool.false_ne_true
 ·show((Tb.new C.conf.procs.d).at k).period=_
  rw[ha k hk];rfl
 ·show((Tb.new C.conf.procs.d).at k).state=_
  rw[ha k hk];rfl
theorem Nw.start {n:Nat} (hS:Std C) (h:Nw C n c) (hn:n<C.progs.length):Nw C (n+1) (Yd C c (n:Int) 0):=by
 have hk:inR C.progs (n:Int):=⟨by omega,by omega⟩
 obtain⟨s1,s2,s3,s4⟩:=h.s _ hk
 obtain⟨c1,c2,c3,c4⟩:=hS.cy hk
 have hto:toM C c (n:Int) 0={c with pos:=c.pos.set n 0,rest:=c.rest.set n (cyO C (n:Int))}:=by
  unfold toM
  have e1:atM (ix C.progs (n:Int)) 0=0:=by rw[c4];rfl
  have e2:WQ (ix (ix C.progs (n:Int)) 0).cycles=cyO C (n:Int):=by
   show WQ (cyO C (n:Int))=_
   unfold WQ
   rw[if_neg S.o,if_neg S.o]
  rw[e1,e2]
  rfl
 have hkt:inR c.tb.d (n:Int):=by unfold inR at*;rw[h.tl];exact hk
 obtain⟨t1,t2,t3,t4,t5⟩:=xJT (win:=0) hkt (s4 (Int.le_refl _))
 have hst:Yd C c (n:Int) 0={c with pos:=c.pos.set n 0,rest:=c.rest.set n (cyO C (n:Int)),tb:=c.tb.start (n:Int) 0}:=by
  unfold Yd
  simp only
  rw[if_neg (h.d _),hto]
 rw[hst]
 have hkp:inR c.pos (n:Int):=by unfold inR at*;rw[h.pl];exact hk
 have hkr:inR c.rest (n:Int):=by unfold inR at*;rw[h.rl];exact hk
 refine⟨h.m3,h.w,t1.trans h.tl,by simp only[List.length_set];exact h.rl,by simp only[List.length_set];exact h.pl,h.d,h.e,fun j hj=>?_⟩
 obtain⟨r1,r2,r3,r4⟩:=h.s j hj
 have ep:=YY (x:=0) hkp hj.1
 have er:=YY (x:=cyO C (n:Int)) hkr hj.1
 rw[Int.toNat_natCast]at ep er
 simp only
 rw[ep,er]
 by_cases e:j=(n:Int)
 ·subst e
  rw[if_pos rfl,if_pos rfl]
  exact⟨t4.trans s1,rfl,fun _=>⟨t3,by rw[t4];exact t5,rfl⟩,fun h=>by omega⟩
 ·rw[if_neg e,if_neg e,t2 j e]
  exact⟨r1,r2,fun h=>r3 S.o,fun h=>r4 S.o⟩
theorem xNf (hS:Std C) (h8:C.progs.length≤8) (hper:∀k:Int,inR C.progs k→(ix C.conf.procs.d k).period≤1000000000):Bn C (Qn C):=by
 have hnw:∀n:Nat,n≤C.progs.length→Nw C n (XS C (V4 C) 0 n):=by
  intro n
  induction n with
  |zero=>exact fun _=>xLM hS h8
  |succ n ih=>exact fun hn=>(ih S.o).start hS S.o
 have h:=hnw C.progs.length (Nat.le_refl _)
 refine⟨h.m3,h.tl,h.rl,h.pl,fun k hk=>?_,?_⟩
 ·obtain⟨r1,r2,r3,_⟩:=h.s k hk
  obtain⟨q1,q2,q3⟩:=r3 hk.2
  refine⟨.inr (.inr ⟨q1,fun hp=>?_⟩),r1,r2,q3⟩
  show IntKind.i64.wrap ((Qn C).win+1)<((Qn C).tb.at k).next
  have hw: (Qn C).win=-1:=h.w
  have hn: ((Qn C).tb.at k).next=IntKind.i64.wrap (0+((Qn C).tb.at k).period):=q2
  have hpe:=hper k hk
  rw[←r1]at hpe
  have hp2:1≤((Qn C).tb.at k).period:=hp
  have hpe2: ((Qn C).tb.at k).period≤1000000000:=hpe
  have e0:IntKind.i64.wrap (-1+1)=0:=by decide
  have e1:=Ye (n:=((Qn C).tb.at k).period) S.o S.o
  rw[hw,hn,Int.zero_add,e0,e1]
  omega
 ·intro e he
  have he2: (Qn C).evs=[]:=h.e
  rw[he2]at he
  cases he
end
section
variable {Cs:List CC} {t:PlM} {buds:List Int} {ls:List xBH} {q k T cap level:Int} {chs:List xBJ} {c:xBG}
theorem Bn.pts {C:CC} {d:CM} {p:List AP} (h:Bn C d):Bn C {d with pts:=p}:=⟨h.m3,h.tl,h.rl,h.pl,h.s,h.e⟩
structure OtI (Cs:List CC) (t:PlM):Prop where
 m:xFW Cs t
 b:Bn (ix Cs 0) (ix t.cs 0)
 e:∀e∈t.evs,e.part=0→0≤e.call
theorem OtI.win (hS:Std (ix Cs 0)) (h:OtI Cs t) (h0:0≤k) (h1:k<Cs.length) (hq:1≤q) (hT:T≤1099511627776) (hb:∀y:Int,0≤y→y≤T→(xBI ls y).1<ix buds 0∧(xBI ls y).2=0) (hk:k=0→ix t.cyc 0+(ix Cs 0).conf.cap≤T):
  OtI Cs (xC9 Cs buds ls q chs k t)∧ix (xC9 Cs buds ls q chs k t).cyc 0≤ix t.cyc 0+(if k=0 then(ix Cs 0).conf.cap else 0):=by
 have hM:=h.m.win (buds:=buds) (ls:=ls) (q:=q) (chs:=chs) h0 h1
 obtain⟨e1,e2⟩:=xEM (buds:=buds) (ls:=ls) (q:=q) (chs:=chs) h.m h0 h1 (j:=0) (Int.le_refl _) S.o
 obtain⟨k1,_⟩:=xEM (buds:=buds) (ls:=ls) (q:=q) (chs:=chs) h.m h0 h1 (j:=k) h0 h1
 have hpk:=hM.e k h0 h1
 rw[k1,if_pos rfl]at hpk
 have hev: (xC9 Cs buds ls q chs k t).evs=t.evs++(xCC Cs buds ls q k t).1.evs.drop (ix t.cs k).evs.length:=rfl
 by_cases hk0:k=0
 ·subst hk0
  obtain⟨b1,b2,b3⟩:=xIx (ls:=ls) (bud:=ix buds 0) (q:=q) hS (h.m.c 0 h0 h1).1 h.b (h.m.i 0 h0 h1) hq (by have:=hk rfl;omega) (fun y y0 y1=>hb y y0 (by have:=hk rfl;omega))
  rw[if_pos rfl]at e1 e2
  refine⟨⟨hM,by rw[e1];exact Bn.pts b1,fun e he hp=>?_⟩,by rw[e2,if_pos rfl];exact b3⟩
  rw[hev]at he
  rcases List.mem_append.1 he with he|he
  ·exact h.e e he hp
  ·exact b1.e e (List.mem_of_mem_drop he)
 ·rw[if_neg (fun h=>hk0 h.symm)]at e1 e2
  refine⟨⟨hM,by rw[e1];exact h.b.pts,fun e he hp=>?_⟩,by rw[e2,if_neg hk0];omega⟩
  rw[hev]at he
  rcases List.mem_append.1 he with he|he
  ·exact h.e e he hp
  ·exact absurd ((hpk e (List.mem_of_mem_drop he)).symm.trans hp) hk0
def xEv (cap:Int):List xCe→Int
 |[]=>0
 |w::ws=>(if w.part=0 then cap else 0)+xEv cap ws
theorem xHp (h:0≤cap):∀ws:List xCe,0≤xEv cap ws
 |[]=>Int.le_refl _
 |w::ws=>by
  have:=xHp h ws
  unfold xEv
  split<;>omega
theorem xGj {u:Int}:∀ws:List xCA,xEv cap (xCD ws u)=cap*(xCG ws:Int)
 |[]=>(Int.mul_zero _).symm
 | w::ws=>by
  have e1:xCD (w::ws) u=xEE u w::xCD ws u:=rfl
  have e2:xCG (w::ws)=xCG ws+(if w.part=0 then 1 else 0):=by
   unfold xCG
   rw[List.countP_cons]
   by_cases h:w.part=0
   ·rw[if_pos h,if_pos (decide_eq_true h)]
   ·rw[if_neg h,if_neg (by rw[decide_eq_false h];exact Bool.false_ne_true)]
  have e3: (xEE u w).part=w.part:=rfl
  rw[e1,e2]
  unfold xEv
  rw[xGj ws,e3]
  split
  ·rw[Int.natCast_add,Int.mul_add,show(((1:Nat):Int))=1 from rfl,Int.mul_one];omega
  ·rw[Nat.add_zero];omega
theorem OtI.wins (hS:Std (ix Cs 0)) (hT:T≤1099511627776) (hb:∀y:Int,0≤y→y≤T→(xBI c.levels.d y).1<ix buds 0∧(xBI c.levels.d y).2=0):∀{ws:List xCe} {t:PlM},(∀w∈ws,0≤w.part∧w.part<Cs.length)→OtI Cs t→ix t.cyc 0+xEv (ix Cs 0).conf.cap ws≤T→OtI Cs (xDl c Cs buds level ws t)
 |[],_,_,h,_=>h
 | w::ws,t,hw,h,hn=>by
  have hca:=hS.ca
  have hnn:=xHp (show 0≤(ix Cs 0).conf.cap by omega) ws
  unfold xEv at hn
  obtain⟨w0,w1⟩:=hw w (List.mem_cons_self ..)
  unfold xDl
  split
  ·refine OtI.wins hS hT hb (fun x hx=>hw x (List.mem_cons_of_mem _ hx)) h ?_
   split at hn<;>omega
  ·have hq:1≤qM c.quantum:=by unfold qM;split<;>omega
   obtain⟨a1,a2⟩:=h.win (chs:=c.chans.d) hS w0 w1 hq hT hb (fun e=>by rw[if_pos e]at hn;omega)
   refine OtI.wins hS hT hb (fun x hx=>hw x (List.mem_cons_of_mem _ hx)) a1 ?_
   omega
theorem xGq {n:Int} (ht:xDW ls) (h0:0≤n) (h1:n≤300):∀m:Nat,m≤1000→(xBI ls (n*(m:Int))).1≤(xBI ls n).1*(m:Int)
 |0,_=>by
  rw[show((0:Nat):Int)=0 from rfl,Int.mul_zero,Int.mul_zero,xH9]
  exact Int.le_refl _
 |m+1,hm=>by
  have ih:=xGq ht h0 h1 m S.o
  have hm0:0≤n*(m:Int):=Int.mul_nonneg h0 S.o
  have hm1:n*(m:Int)≤300*1000:=Int.mul_le_mul h1 S.o S.o S.o
  have e1:n*((m+1:Nat):Int)=n*(m:Int)+n:=by rw[Int.natCast_add,Int.mul_add];show _+n*1=_;rw[Int.mul_one]
  have e2: (xBI ls n).1*((m+1:Nat):Int)=(xBI ls n).1*(m:Int)+(xBI ls n).1:=by rw[Int.natCast_add,Int.mul_add];show _+(xBI ls n).1*1=_;rw[Int.mul_one]
  rw[e1,e2]
  have h2: (xBI ls (n*(m:Int)+n)).2=0:=by rw[(xDO ht S.o S.o).1]
  have:=xKg h2 hm0 h0
  omega
theorem OtI.frame {g:xBV} (hS:Std (ix Cs 0)) (hl:Cs.length=c.parts.d.length) (hco:xDc c) (hcap: (ix Cs 0).conf.cap≤300) (hcov:∀k:Int,0≤k→k<c.modes.d.length→(xBI c.levels.d (ix Cs 0).conf.cap).1*(xCG (ix c.modes.d k).wins.d:Int)<ix buds 0) (hg:xGE c g) (h:OtI Cs t):OtI Cs (xCu c Cs buds g t):=by
 have hca:=hS.ca
 have ht:=(xFj hco).1
 obtain⟨g0,g1⟩:=hg
 obtain⟨_,m2,m3⟩:=xEQ hco.n8 (hco.m _ g0 g1)
 have hcw:xCG (ix c.modes.d g.mode).wins.d≤16:=Nat.le_trans List.countP_le_length m2
 have hn:xEv (ix Cs 0).conf.cap (xCc c g)=(ix Cs 0).conf.cap*(xCG (ix c.modes.d g.mode).wins.d:Int):=xGj _
 have hn0:0≤(ix Cs 0).conf.cap*(xCG (ix c.modes.d g.mode).wins.d:Int):=Int.mul_nonneg S.o S.o
 have hn1: (ix Cs 0).conf.cap*(xCG (ix c.modes.d g.mode).wins.d:Int)≤300*16:=Int.mul_le_mul hcap S.o S.o S.o
 have hcm:=xGq ht (show 0≤(ix Cs 0).conf.cap by omega) hcap _ (Nat.le_trans hcw (by decide))
 have hcv:=hcov _ g0 g1
 have hf:OtI Cs {t with cyc:=t.cyc.map fun _=>0}:=⟨h.m.fill,h.b,h.e⟩
 have h1:0<Cs.length:=by rw[hl];exact hco.n1
 have hc0:ix (t.cyc.map fun _=>(0:Int)) 0=0:=Xp (f:=fun _=>(0:Int)) (Int.le_refl _) (by rw[h.m.ly];omega)
 have hw:=OtI.wins (c:=c) (buds:=buds) (level:=g.level) (T:=(ix Cs 0).conf.cap*(xCG (ix c.modes.d g.mode).wins.d:Int)) hS S.o (fun y y0 y1=>?_) (ws:=xCc c g) (t:={t with cyc:=t.cyc.map fun _=>0}) (fun w hw=>?_) hf (by show ix (t.cyc.map fun _=>(0:Int)) 0+_≤_;rw[hc0,hn];omega)
 ·exact⟨⟨hw.m.lc,hw.m.ly,hw.m.c,hw.m.i,hw.m.e⟩,hw.b,hw.e⟩
 ·have e:=(xDO ht (n:=(ix Cs 0).conf.cap*(xCG (ix c.modes.d g.mode).wins.d:Int)) S.o S.o).1
  obtain⟨a1,a2⟩:=xIw (ls:=c.levels.d) (by rw[e]) y0 y1
  exact⟨by omega,a1⟩
 ·obtain⟨x,hx,rfl⟩:=List.mem_map.1 (show w∈(ix c.modes.d g.mode).wins.d.map (xEE g.at_)from hw)
  have:=m3 x hx
  rw[hl]
  exact this
theorem OtI.frames (hS:Std (ix Cs 0)) (hl:Cs.length=c.parts.d.length) (hco:xDc c) (hcap: (ix Cs 0).conf.cap≤300) (hcov:∀k:Int,0≤k→k<c.modes.d.length→(xBI c.levels.d (ix Cs 0).conf.cap).1*(xCG (ix c.modes.d k).wins.d:Int)<ix (c.parts.d.map YF.budget) 0):∀{ps:List xBV} {t:PlM},(∀g∈ps,xGE c g)→OtI Cs t→OtI Cs (xBT c Cs ps t)
 |[],_,_,h=>h
 |g::ps,t,hg,h=>by
  show OtI Cs (xBT c Cs ps (xCu c Cs (c.parts.d.map YF.budget) g t))
  exact OtI.frames hS hl hco hcap hcov (fun x hx=>hg x (List.mem_cons_of_mem _ hx)) (h.frame hS hl hco hcap hcov (hg g (List.mem_cons_self ..)))
end
section
attribute [local irreducible] BrK Xq Xt Xv XI FnK XZ Xw XC XV opX opK Yq Yk eqR Yj Yo Ys WL WD W X3 XO Tr drewK Ya X4 Yw Yv X1 YB mp blk rob sl sep ex fact old
section
attribute [local irreducible] xs2 inB xB0 xB9 xBI xB3
section
variable {s:SV} {l:List Int} {x:YF}
theorem xJx (ro:Bool) (hl:l.length≤1000000000):Xb prog 32 #[s.v] [sl ro s.v l]
  fun v l'=>∃n e:Int,((l.length≤100∧∀y∈l,0≤y∧y≤1000000000000)→n=xCs l∧e=0)∧v=.tuple #[.int .i64 n,.int .i64 e]∧l'=[sl ro s.v l]:=by
 by_cases h:l.length≤100∧∀y∈l,0≤y∧y≤1000000000000
 ·exact(xHU (s:=s) ro h.1 h.2).mono fun v l' hv=>⟨_,_,fun _=>⟨rfl,rfl⟩,hv.1,hv.2⟩
 intro F K hK
 simp only[ap]at hK⊢
 refine S.I fun u=>?_
 repeat' (first|refine S.x ?_|fail)
 refine Tr.loopE (α:=Nat×Int×Bool) [2,3,4,5,6] [0] (fun z=>[.int .i64 0,.int .i64 0,.int .i64 z.2.1,.bool z.2.2,.int .i64 z.1]) (fun _=>[sl ro s.v l]) (fun z=>z.1≤l.length) (fun z=>l.length-z.1) (0,0,false) S.T rfl (Nat.zero_le _) fun z u hk=>?_
 obtain⟨k,n,o⟩:=z
 simp only at hk⊢
 simp only[ap]
 by_cases hin:k<l.length
 ·have hw:=Xo (k:=k) S.o
  cases o with
  | true=>
   have hX:=hw;repeat' (first|refine S.x ?_|refine S.y ?_ ?_|intro hb|fail)
   all_goals first
    |exact S.R ((k+1,n,true):Nat×Int×Bool)
    |exact Tr.fin hK ⟨0,2,(fun h'=>absurd h' h),rfl,rfl⟩ S.E
  | false=>
   have hX:=hw;repeat' (first|refine S.x ?_|refine S.y ?_ ?_|intro hb|fail)
   all_goals first
    |exact S.R ((k+1,n,true):Nat×Int×Bool)
    |exact S.R ((k+1,IntKind.i64.wrap (n+ix l (k:Int)),false):Nat×Int×Bool)
    |exact Tr.fin hK ⟨0,2,(fun h'=>absurd h' h),rfl,rfl⟩ S.E
 ·cases o<;>repeat' (first|refine S.x ?_|fail)
  all_goals exact Tr.fin hK ⟨_,_,(fun h'=>absurd h' h),rfl,rfl⟩ S.E
theorem xLz (hl:x.procs.d.length≤1000000000):Xb prog 11 #[.agg (En.enc x).toArray] [sl true x.procs.s.v x.procs.d]
  fun v l'=>∃n e:Int,((x.procs.d.length≤8∧∀p∈x.procs.d,1≤p.cost∧p.cost≤1000000000)→n=xCs (xDd x)∧e=0)∧v=.tuple #[.int .i64 n,.int .i64 e]∧l'=[]:=by
 intro F K hK
 simp only[ap]at hK⊢
 have hsu:=fun s=>xJx (s:=s) (l:=xDd x) false (by unfold xDd;rw[List.length_map];omega)
 have hcd: (x.procs.d.length≤8∧∀p∈x.procs.d,1≤p.cost∧p.cost≤1000000000)→((xDd x).length≤100∧∀y∈xDd x,0≤y∧y≤1000000000000):=fun h=>⟨by unfold xDd;rw[List.length_map];omega,fun y hy=>by
  obtain⟨p,hp,rfl⟩:=List.mem_map.1 hy
  have:=h.2 p hp
  omega⟩
 refine S.I fun u=>?_
 repeat' (first|refine S.x ?_|intro hb|fail)
 refine Tr.nilSl (α:=Int) ?_
 obtain⟨bx,rfl⟩:∃y,y=hb:=⟨_,rfl⟩
 refine Tr.loopE (α:=Nat×SV) [4,5] [1,2,3] (fun z=>[z.2.v,.int .i64 z.1]) (fun z=>[blk bx (.cells (En.enc x).toArray 59 (0,0)),sl false z.2.v ((x.procs.d.take z.1).map WZ.cost)]) (fun z=>z.1≤x.procs.d.length) (fun z=>x.procs.d.length-z.1) (0,⟨none,0,0⟩) S.T rfl (Nat.zero_le _) fun z u hz=>?_
 obtain⟨j,s2⟩:=z
 simp only at hz⊢
 simp only[ap]
 by_cases hin:j<x.procs.d.length
 ·have hw:=Xo (k:=j) S.o
  have hst: (x.procs.d.take (j+1)).map WZ.cost=(x.procs.d.take j).map WZ.cost++[(ix x.procs.d (j:Int)).cost]:=by rw[Yz hin,List.map_append];rfl
  have hln: ((x.procs.d.take j).map WZ.cost).length=j:=by rw[List.length_map,List.length_take];omega
  have hX:=And.intro hw hln;repeat' (first|intro(sv:SV)|refine S.x ?_|intro hb|fail)
  all_goals
   have hX:=hst
   exact S.R ((j+1,sv):Nat×SV)
 ·have hke:j=x.procs.d.length:=by omega
  subst hke
  rw[List.take_length,show x.procs.d.map WZ.cost=xDd x from rfl]
  repeat' (first|(refine G.call 32 ?_;refine S.c ?_ (h:=hsu _);rintro _ _ ⟨n,e,hne,rfl,rfl⟩)|refine S.x ?_|fail)
  all_goals exact Tr.fin hK ⟨n,e,(fun h=>hne (hcd h)),rfl,rfl⟩ S.E
end
end
theorem xJj {α:Type} [Inhabited α] {g:α→Int} {l:List α}:∀n:Nat,n≤l.length→xCs ((l.take n).map g)=xDB (fun j=>g (ix l (j:Int))) n
 |0,_=>rfl
 |n+1,h=>by
  rw[Yz S.o,List.map_append,List.map_cons,List.map_nil,xEh,xJj n S.o]
  rfl
theorem xMT {x:WZ} {cs:List UInt8} {k:Nat} (h:1≤x.cost):1≤xEK x cs k∧xEK x cs k≤x.cost:=by
 unfold xEK
 split
 ·have h0:0≤((ix cs (k:Int)).toNat:Int):=by omega
  rw[Int.tmod_eq_emod_of_nonneg h0]
  have h1:=Int.emod_nonneg ((ix cs (k:Int)).toNat:Int) (show x.cost≠0 by omega)
  have h2:=Int.emod_lt_of_pos ((ix cs (k:Int)).toNat:Int) (show 0<x.cost by omega)
  omega
 ·omega
theorem xME {c:xBG} {pp:List xBW} {C:CC} {p:Nat} {cs:List UInt8} (hC:C=(xCO c pp 0).loc p) (hst: (xCf pp 0).d.map SL.d=xFh (ix c.parts.d 0).procs.d cs (ix c.parts.d 0).procs.d.length) (hsum:xCs (xDd (ix c.parts.d 0))≤(ix c.parts.d 0).cap)
  (hp:∀x∈(ix c.parts.d 0).procs.d,1≤x.cost∧x.cost≤1000000000) (hn: (ix c.parts.d 0).procs.d≠[]):Std C:=by
 have hcf:C.conf=ix c.parts.d 0:=by rw[hC];rfl
 have hpg:C.progs=J1 (xCf pp 0).d (ix c.parts.d 0).procs.d.length:=by rw[hC];rfl
 have hpl:C.progs.length=(ix c.parts.d 0).procs.d.length:=by rw[hpg];exact xeG
 have hml:=congrArg List.length hst
 rw[List.length_map,xER]at hml
 have hco:∀k:Int,inR C.progs k→1≤(ix C.conf.procs.d k).cost∧(ix C.conf.procs.d k).cost≤1000000000:=fun k hk=>by
  rw[hcf]
  exact hp _ (List.mem_of_getElem? (Yi hk.1 (by rw[←hpl];exact hk.2)))
 have hsu:xDB (fun j=>(ix C.conf.procs.d (j:Int)).cost) C.progs.length≤C.conf.cap:=by
  have:=xJj (g:=WZ.cost) (l:=(ix c.parts.d 0).procs.d) (ix c.parts.d 0).procs.d.length (Nat.le_refl _)
  rw[List.take_length]at this
  rw[hpl,hcf]
  have h2:xCs ((ix c.parts.d 0).procs.d.map WZ.cost)≤(ix c.parts.d 0).cap:=hsum
  omega
 refine⟨by rw[hcf,hpl],fun k hk=>?_,hco,hsu,?_⟩
 ·have hk2:=hk.2
  have hk0:=hk.1
  have hkm:k<(xCf pp 0).d.length:=by rw[hml,←hpl];exact hk2
  have e1: (ix (xCf pp 0).d k).d=[xDm (ix (ix c.parts.d 0).procs.d k) (xEK (ix (ix c.parts.d 0).procs.d k) cs k.toNat)]:=by
   have h1:ix ((xCf pp 0).d.map SL.d) k=(ix (xCf pp 0).d k).d:=Xp (f:=SL.d) hk0 hkm
   rw[←h1,hst]
   unfold xFh
   have h2:=Xp (f:=fun k:Nat=>[xDm (ix (ix c.parts.d 0).procs.d (k:Int)) (xEK (ix (ix c.parts.d 0).procs.d (k:Int)) cs k)]) (xs:=List.range (ix c.parts.d 0).procs.d.length) hk0 (by rw[List.length_range,←hpl];exact hk2)
   rw[h2]
   have h3:ix (List.range (ix c.parts.d 0).procs.d.length) k=k.toNat:=by
    have:=Yi (xs:=List.range (ix c.parts.d 0).procs.d.length) hk0 (by rw[List.length_range,←hpl];exact hk2)
    rw[List.getElem?_range S.o]at this
    exact(Option.some.inj this).symm
   rw[h3,Int.toNat_of_nonneg hk0]
  have e2:ix C.progs k=(ix (xCf pp 0).d k).d:=by
   rw[hpg]
   unfold J1
   rw[Xp (f:=Vq (xCf pp 0).d) hk0 (by rw[List.length_range,←hpl];exact hk2)]
   have h3:ix (List.range (ix c.parts.d 0).procs.d.length) k=k.toNat:=by
    have:=Yi (xs:=List.range (ix c.parts.d 0).procs.d.length) hk0 (by rw[List.length_range,←hpl];exact hk2)
    rw[List.getElem?_range S.o]at this
    exact(Option.some.inj this).symm
   rw[h3]
   unfold Vq
   rw[Int.toNat_of_nonneg hk0,if_pos ⟨by omega,by rw[e1];exact List.cons_ne_nil _ _⟩]
  have hcy:=xMT (x:=ix (ix c.parts.d 0).procs.d k) (cs:=cs) (k:=k.toNat) (by have:=(hco k hk).1;rw[hcf]at this;exact this)
  exact⟨_,hcy.1,by rw[hcf];exact hcy.2,by rw[e2,e1,hcf]⟩
 ·have hnn:=xFZ (f:=fun j=>(ix C.conf.procs.d (j:Int)).cost) (k:=0) (n:=C.progs.length) (by rw[hpl];exact List.length_pos_iff.2 hn) (fun j hj=>by have:=(hco (j:Int) ⟨by omega,by omega⟩).1;show 0≤(ix C.conf.procs.d (j:Int)).cost;omega)
  have:=(hco 0 ⟨by omega,by rw[hpl];have:=List.length_pos_iff.2 hn;omega⟩).1
  have h3: (ix C.conf.procs.d 0).cost≤C.conf.cap:=Int.le_trans hnn hsu
  omega
theorem xG4 {c:xBG} {pp:List xBW} {fs:List xBR} {Cs:List CC} {cs:List UInt8} (hco:xDc c) (hcap:∀p∈c.parts.d,p.cap≤300) (hs:xFs pp) (hC:xKf c pp Cs) (hst: (xCf pp 0).d.map SL.d=xFh (ix c.parts.d 0).procs.d cs (ix c.parts.d 0).procs.d.length) (hsum:xCs (xDd (ix c.parts.d 0))≤(ix c.parts.d 0).cap)
  (hcov:∀k:Int,0≤k→k<c.modes.d.length→(xBI c.levels.d (ix c.parts.d 0).cap).1*(xCG (ix c.modes.d k).wins.d:Int)<(ix c.parts.d 0).budget):∀e∈(xBT c Cs (xBO c p0 fs) (t0 Cs)).evs,e.part=0→0≤e.call:=by
 have hn0:0<c.parts.d.length:=hco.n1
 have hpo:=xEO (hco.p 0 (Int.le_refl 0) S.o)
 have hp:∀x∈(ix c.parts.d 0).procs.d,inB x.period 0 1000=true∧inB x.cost 1 1000000000=true:=fun x hx=>by
  have:=hpo.pr.2 x hx
  unfold xCl at this
  simp only[Bool.and_eq_true]at this
  exact this.2
 have hok:∀k:Int,0≤k→k<Cs.length→okC (ix Cs k)∧(ix Cs k).part=k:=fun k h0 h1=>by
  obtain⟨p,e⟩:=hC.i k h0 h1
  rw[e]
  exact⟨xD3 (xEX (xDr (hco.p k h0 (by rw[←hC.l];exact h1))) hs),rfl⟩
 obtain⟨p,hC0⟩:=hC.i 0 (Int.le_refl 0) (by rw[hC.l];omega)
 have hS:=xME hC0 hst hsum (fun x hx=>xB6 (hp x hx).2) hpo.pn
 have hcf: (ix Cs 0).conf=ix c.parts.d 0:=by rw[hC0];rfl
 have hpl: (ix Cs 0).progs.length=(ix c.parts.d 0).procs.d.length:=by rw[←hS.np,hcf]
 have hc0:∀k:Int,0≤k→k<Cs.length→ix (t0 Cs).cs k=Qn (ix Cs k)∧ix (t0 Cs).cyc k=0:=fun k h0 h1=>⟨Xp (f:=Qn) h0 h1,Xp (f:=fun _=>(0:Int)) h0 h1⟩
 have hM:xFW Cs (t0 Cs):=by
  refine⟨List.length_map _,List.length_map _,hok,fun k h0 h1=>?_,fun k h0 h1=>?_⟩
  ·obtain⟨n1,n2,_⟩:=xmr (hok k h0 h1).1
   rw[(hc0 k h0 h1).1,(hc0 k h0 h1).2]
   exact⟨n1,n2,xG7 (hok k h0 h1).1,by omega,by omega⟩
  ·rw[(hc0 k h0 h1).1,(xmr (hok k h0 h1).1).2.2]
   intro e he
   cases he
 have hB:Bn (ix Cs 0) (Qn (ix Cs 0)):=xNf hS (by have:=hpo.pr.1;omega) fun k hk=>by
  have hm:ix (ix c.parts.d 0).procs.d k∈(ix c.parts.d 0).procs.d:=List.mem_of_getElem? (Yi hk.1 (by rw[←hpl];exact hk.2))
  have:=xB6 (hp _ hm).1
  rw[hcf]
  omega
 have h:=OtI.frames (ps:=xBO c p0 fs) (t:=t0 Cs) hS hC.l hco (by rw[hcf];exact hcap _ (List.mem_of_getElem? (Yi (Int.le_refl 0) S.o))) (fun k k0 k1=>by
  have e:ix (c.parts.d.map YF.budget) 0=(ix c.parts.d 0).budget:=Xp (f:=YF.budget) (Int.le_refl 0) S.o
  rw[hcf,e]
  exact hcov k k0 k1) xEr ⟨hM,by rw[(hc0 0 (Int.le_refl 0) (by rw[hC.l];omega)).1];exact hB,fun e he=>by cases he⟩
 exact h.e
