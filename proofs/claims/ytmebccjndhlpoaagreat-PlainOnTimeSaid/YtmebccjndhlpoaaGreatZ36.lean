import Derived.Test.YtmebccjndhlpoaaGreatZ35
namespace Go.Proofs.YtmebccjndhlpoaaGreat
open Go Go.Wk Tryz
set_option maxHeartbeats 3200000
set_option maxRecDepth 100000
section
def Y7:List XE:=[⟨1,3,0,0,0,0⟩]
def Vq (xs:List (SL XE)) (k:Nat):List XE:=if k<xs.length∧(ix xs (k:Int)).d≠[]then(ix xs (k:Int)).d else Y7
def J1 (xs:List (SL XE)) (n:Nat):List (List XE):=(List.range n).map (Vq xs)
def V4 (C:CC):CM where
 mode:=3
 win:=-1
 pos:=List.replicate C.progs.length 0
 rest:=List.replicate C.progs.length 0
 addr:=List.replicate C.progs.length 0
 data:=List.replicate C.progs.length []
 done:=List.replicate C.progs.length false
 tb:=Tb.new C.conf.procs.d
 mem:=(C.conf.regions.d.take 4).map Wo
 pts:=Wm C.conf.ports.d
 obs:=xcC C.conf
 slk:=none
 evs:=[]
def Qn (C:CC):CM:=XS C (V4 C) 0 C.progs.length
section
variable {C:CC} {w:CW} {gs:List Xe} {xs:List (SL XE)} {n k:Nat}
theorem xeG: (J1 xs n).length=n:=by simp[J1]
theorem xeC (hc:okC C):okM C (V4 C):=by
 refine⟨?_,List.length_replicate,List.length_replicate,List.length_replicate,List.length_replicate,List.length_replicate,fun k=>?_,fun x hx=>?_,fun x hx=>?_⟩
 ·show((C.conf.procs.d.take 8).map One.new).length=_
  rw[List.length_map,List.length_take,hc.np]
  exact Nat.min_eq_right hc.n8
 ·by_cases hk:inR C.progs k
  ·left
   have e:ix (List.replicate C.progs.length (0:Int)) k=0:=by
    unfold ix
    rw[List.getD_eq_getElem?_getD,List.getElem?_replicate]
    split<;>rfl
   show 0≤ix (List.replicate C.progs.length (0:Int)) k∧ix (List.replicate C.progs.length (0:Int)) k<_
   rw[e]
   have:=(W7 hc hk).1
   exact⟨by decide,by omega⟩
  ·exact .inr hk
 ·rw[List.eq_of_mem_replicate hx];exact⟨by decide,by decide⟩
 ·rw[List.eq_of_mem_replicate hx];exact Nat.zero_le _
theorem xdU (j:Int):¬JM ((V4 C).tb.at j):=by
 intro h
 have h1: ((Tb.new C.conf.procs.d).at j).state=2:=h.1
 unfold Tb.new Tb.at at h1
 split at h1
 ·rw[List.getD_eq_getElem?_getD,List.getElem?_map]at h1
  cases hx: (C.conf.procs.d.take 8)[j.toNat]? with
  |none=>rw[hx]at h1;exact absurd (show(0:Int)=2 from h1) (by decide)
  |some y=>rw[hx]at h1;exact absurd (show(0:Int)=2 from h1) (by decide)
 ·exact absurd (show(0:Int)=2 from h1) (by decide)
def Xe.fresh (b:Nat) (s:SV) (p:List XE):Xe:=⟨b,s,p,0,0,0,⟨none,0,0⟩,[],false⟩
structure xbA (g:Xe):Prop where
 pos:g.pos=0
 rest:g.rest=0
 addr:g.addr=0
 done:g.done=false
theorem xaC {β:Type} {f:Xe→β} {y:β} (h:∀g∈gs,f g=y):gs.map f=List.replicate gs.length y:=by
 rw[List.eq_replicate_iff]
 refine⟨List.length_map _,fun b hb=>?_⟩
 obtain⟨g,hg,rfl⟩:=List.mem_map.1 hb
 exact h g hg
theorem xo4 (hc:okC C) (hp:gs.map Xe.prog=C.progs) (hf:∀g∈gs,xbA g) (hs:w.slk=none) (hq:w.pts=C.pp):Rel C (V4 C) w gs:=by
 have hl:gs.length=C.progs.length:=by rw[←hp,List.length_map]
 refine⟨xeC hc,hp,?_,?_,?_,?_,fun k _ hw=>absurd hw (xdU k),by rw[hs];rfl,hq⟩
 ·rw[xaC fun g hg=>(hf g hg).pos,hl];rfl
 ·rw[xaC fun g hg=>(hf g hg).rest,hl];rfl
 ·rw[xaC fun g hg=>(hf g hg).addr,hl];rfl
 ·rw[xaC fun g hg=>(hf g hg).done,hl];rfl
end
end
section
attribute [local irreducible] BrK Xq Xt Xv XI FnK XZ Xw XC XV opX opK Yq Yk eqR Yj Yo Ys WL WD W X3 XO Tr drewK Ya X4 Yw Yv X1 YB mp blk rob sl sep ex fact old
section
attribute [local irreducible] Y1 X2 objX Zw
section
variable {C:CC} {xs:List (SL XE)} {s2:SV} {u0:Value}
def CC.loc (C:CC) (p:Nat):CC:={C with pp:=p}
theorem xla [hu:DeA u0 C.conf] (hc:okC C) (hp:C.progs=J1 xs C.progs.length):Xb prog 41 #[u0,.int .i64 C.part,s2.v]
  [sl true C.conf.regions.s.v C.conf.regions.d,sl true C.conf.procs.s.v C.conf.procs.d,sl true C.conf.ports.s.v C.conf.ports.d,sl true C.conf.sems.s.v C.conf.sems.d,sl true C.conf.pools.s.v C.conf.pools.d,sl true C.conf.slates.s.v C.conf.slates.d,sl true C.conf.acts.s.v C.conf.acts.d,sl true s2.v xs,fzl xs]
  fun v l'=>∃b w gs,Rel (C.loc w.pts) (Qn (C.loc w.pts)) w gs∧v=ptr b∧l'=Xh b (C.loc w.pts) (Qn (C.loc w.pts)) w gs:=by
 intro F K hK
 simp only[ap]at hK⊢
 obtain rfl:=hu.h
 have h8:=hc.n8
 have hrz:=hc.rz
 have hod:=hc.od
 refine S.I fun u=>?_
 have hX:=@xGy.eq_def;repeat' (first|rintro _ _ ⟨rfl,rfl⟩|rintro _ _ ⟨_,rfl,rfl⟩|(refine G.call 72 ?_;refine S.c ?_ (h:=xqX (c:=C.conf) (hu:=⟨rfl⟩) hc.dep))|refine S.x ?_|(refine G.call 69 ?_;refine S.c ?_ (h:=xuN _ _))|(refine G.call 70 ?_;refine S.c ?_ (h:=xqh ‹_›))|(refine G.call 71 ?_;refine S.c ?_ (h:=xod ‹_›))|(refine G.call 73 ?_;refine S.c ?_ (h:=xsD))|(refine G.call 74 ?_;refine S.c ?_ (h:=xdO _ _))|intro hb|fail)
 rename_i a1 a2 a3 a4 a5
 revert hb
 intro cbk
 obtain⟨w0,hw0⟩:∃w0:CW,w0=⟨⟨none,0,0⟩,a1,a2,a3,a4,a5,none,⟨none,0,0⟩⟩:=⟨_,rfl⟩
 have hen: (((((((((ZM [Value.slice none 0 0,Value.slice none 0 0,Value.slice none 0 0,Value.slice none 0 0,Value.int IntKind.i64 0,Value.slice none 0 0,Value.slice none 0 0,Value.int IntKind.i64 0,Value.int IntKind.i64 0,Value.int IntKind.i64 0,Value.slice none 0 0,Value.int IntKind.i64 0,Value.int IntKind.i64 0,Value.int IntKind.i64 0,Value.slice none 0 0,Value.pointer none,Value.pointer none,Value.pointer none,Value.pointer none,Value.pointer none,Value.pointer none,Value.slice none 0 0]
  0 (En.enc C.conf)).set 11 (Value.int IntKind.i64 C.part)).set 12 (Value.int IntKind.i64 3)).set 13 (Value.int IntKind.i64 (-1))).set 15 (ptr a1)).set 16 (ptr a2)).set 17 (ptr a3)).set 18 (ptr a4)).set 19 (ptr a5))=[C.conf.regions.s.v,C.conf.procs.s.v,C.conf.ports.s.v,C.conf.sems.s.v,.int .i64 C.conf.flags,C.conf.pools.s.v,C.conf.slates.s.v,.int .i64 C.conf.cap,.int .i64 C.conf.budget,.int .i64 C.conf.ladder,C.conf.acts.s.v,
 .int .i64 C.part,.int .i64 3,.int .i64 (-1),w0.ts.v,ptr w0.tb,ptr w0.mem,ptr w0.pts,ptr w0.obs,ptr w0.mon,slP w0.slk,w0.ev.v]:=by rw[hw0];rfl
 rw[hen]
 clear hen
 have htn: (Tb.new C.conf.procs.d).d.length=C.progs.length:=by
  show((C.conf.procs.d.take 8).map One.new).length=_
  rw[List.length_map,List.length_take,hc.np]
  exact Nat.min_eq_right h8
 have hw1:w0.ts=⟨none,0,0⟩∧w0.tb=a1∧w0.mem=a2∧w0.pts=a3∧w0.obs=a4∧w0.mon=a5∧w0.slk=none∧w0.ev=⟨none,0,0⟩:=by rw[hw0];exact⟨rfl,rfl,rfl,rfl,rfl,rfl,rfl,rfl⟩
 clear hw0
 obtain⟨t1,t2,t3,t4,t5,t6,t7,t8⟩:=hw1
 refine Tr.loopE (α:=Nat×SV×List Xe) [34] [2,6,7,33] (fun x=>[.int .i64 x.1]) (fun x=>[ZA cbk C 3 (-1) {w0 with ts:=x.2.1},sl false x.2.1.v (x.2.2.map Xe.pt),fam Zg x.2.2]) (fun x=>x.1≤C.progs.length∧x.2.2.length=x.1∧x.2.2.map Xe.prog=C.progs.take x.1∧∀g∈x.2.2,xbA g) (fun x=>C.progs.length-x.1) (0,w0.ts,[]) (by rw[t1];exact S.T) rfl ⟨Nat.zero_le _,rfl,rfl,fun _ h=>by cases h⟩ fun x u hx=>?_
 obtain⟨k,ts,gs⟩:=x
 obtain⟨hk,hl,hm,hfr⟩:=hx
 simp only at hk hl hm hfr⊢
 simp only[ap]
 have hlm: (gs.map Xe.pt).length=k:=by rw[List.length_map];exact hl
 by_cases hin:k<C.progs.length
 ·have hw:=Xo (k:=k) S.o
  have hpk:ix C.progs (k:Int)=Vq xs k:=by
   rw[hp];unfold J1
   rw[Xp S.o (by simp;exact_mod_cast hin)]
   congr 1
   simp[ix,hin]
  by_cases hq:k<xs.length
  ·by_cases he: (ix xs (k:Int)).d=[]
   ·have hd0: (ix xs (k:Int)).d.length=0:=by rw[he];rfl
    have he':=he
    clear he
    have hX:=I3 @xGy.eq_def hw hd0;repeat' (first|rintro _ _ ⟨si,rfl,rfl⟩|intro(nc:Nat)|intro(sv:SV)|refine S.x ?_|(refine G.call 75 ?_;refine S.c ?_ (h:=xcr))|intro hb|fail)
    all_goals
     refine Tr.freezeAt (v:=si.v) (xs:=Y7) S.K ?_
     have hpk':Vq xs k=Y7:=by unfold Vq;rw[if_neg (fun h=>h.2 he')]
     have hm': (gs++[Xe.fresh nc si (Y7)]).map Xe.prog=C.progs.take (k+1):=by rw[Yz hin,List.map_append,hm,hpk,hpk'];rfl
     have hln: (gs++[Xe.fresh nc si (Y7)]).length=k+1:=by rw[List.length_append,hl];rfl
     have hfr':∀g∈gs++[Xe.fresh nc si (Y7)],xbA g:=fun g hg=>by
      rcases List.mem_append.1 hg with h|h
      ·exact hfr g h
      ·rw[List.mem_singleton.1 h];exact⟨rfl,rfl,rfl,rfl⟩
     have hpt: (gs++[Xe.fresh nc si (Y7)]).map Xe.pt=gs.map Xe.pt++[Pt.mk (some nc)]:=by rw[List.map_append];rfl
     have hta:Zg (Xe.fresh nc si (Y7))=sep (blk nc (.cells #[si.v,.int .i64 0,.int .i64 0,.int .i64 0,.slice none 0 0,.bool false] 184 (0,0))) (sep (sl true si.v (Y7)) (sl true (.slice none 0 0) ([]:List UInt8))):=rfl
     clear hm hfr hl
     have hX:=And.intro hpt hta
     exact S.R ((k+1,sv,gs++[Xe.fresh nc si (Y7)]):Nat×SV×List Xe)
   ·have hd0:0<(ix xs (k:Int)).d.length:=List.length_pos_iff.2 he
    have hdl: (ix xs (k:Int)).d.length≤1000000000:=by
     have h1:=hc.pr _ (xac (xs:=C.progs) (k:=(k:Int)) ⟨by omega,by omega⟩)
     rw[hpk]at h1
     unfold Vq at h1
     rw[if_pos ⟨hq,he⟩]at h1
     have:=h1.2.1
     omega
    have he':=he
    clear he
    have hX:=And.intro @xGy.eq_def hw;repeat' (first|rintro _ _ ⟨si,rfl,rfl⟩|intro(nc:Nat)|intro(sv:SV)|refine S.x ?_|(refine G.call 75 ?_;refine S.c ?_ (h:=xcr))|(refine G.call 76 ?_;refine S.c ?_ (h:=xnh ‹_›))|intro hb|fail)
    all_goals
     refine Tr.freezeAt (v:=si.v) (xs:=(ix xs (k:Int)).d) S.K ?_
     have hpk':Vq xs k=(ix xs (k:Int)).d:=by unfold Vq;rw[if_pos ⟨hq,he'⟩]
     have hm': (gs++[Xe.fresh nc si ((ix xs (k:Int)).d)]).map Xe.prog=C.progs.take (k+1):=by rw[Yz hin,List.map_append,hm,hpk,hpk'];rfl
     have hln: (gs++[Xe.fresh nc si ((ix xs (k:Int)).d)]).length=k+1:=by rw[List.length_append,hl];rfl
     have hfr':∀g∈gs++[Xe.fresh nc si ((ix xs (k:Int)).d)],xbA g:=fun g hg=>by
      rcases List.mem_append.1 hg with h|h
      ·exact hfr g h
      ·rw[List.mem_singleton.1 h];exact⟨rfl,rfl,rfl,rfl⟩
     have hpt: (gs++[Xe.fresh nc si ((ix xs (k:Int)).d)]).map Xe.pt=gs.map Xe.pt++[Pt.mk (some nc)]:=by rw[List.map_append];rfl
     have hta:Zg (Xe.fresh nc si ((ix xs (k:Int)).d))=sep (blk nc (.cells #[si.v,.int .i64 0,.int .i64 0,.int .i64 0,.slice none 0 0,.bool false] 184 (0,0))) (sep (sl true si.v ((ix xs (k:Int)).d)) (sl true (.slice none 0 0) ([]:List UInt8))):=rfl
     clear hm hfr hl
     have hX:=And.intro hpt hta
     exact S.R ((k+1,sv,gs++[Xe.fresh nc si ((ix xs (k:Int)).d)]):Nat×SV×List Xe)
  ·have hX:=And.intro @xGy.eq_def hw;repeat' (first|rintro _ _ ⟨si,rfl,rfl⟩|intro(nc:Nat)|intro(sv:SV)|refine S.x ?_|(refine G.call 75 ?_;refine S.c ?_ (h:=xcr))|fail)
   all_goals
    refine Tr.freezeAt (v:=si.v) (xs:=Y7) S.K ?_
    have hpk':Vq xs k=Y7:=by unfold Vq;rw[if_neg (fun h=>hq h.1)]
    have hm': (gs++[Xe.fresh nc si (Y7)]).map Xe.prog=C.progs.take (k+1):=by rw[Yz hin,List.map_append,hm,hpk,hpk'];rfl
    have hln: (gs++[Xe.fresh nc si (Y7)]).length=k+1:=by rw[List.length_append,hl];rfl
    have hfr':∀g∈gs++[Xe.fresh nc si (Y7)],xbA g:=fun g hg=>by
     rcases List.mem_append.1 hg with h|h
     ·exact hfr g h
     ·rw[List.mem_singleton.1 h];exact⟨rfl,rfl,rfl,rfl⟩
    have hpt: (gs++[Xe.fresh nc si (Y7)]).map Xe.pt=gs.map Xe.pt++[Pt.mk (some nc)]:=by rw[List.map_append];rfl
    have hta:Zg (Xe.fresh nc si (Y7))=sep (blk nc (.cells #[si.v,.int .i64 0,.int .i64 0,.int .i64 0,.slice none 0 0,.bool false] 184 (0,0))) (sep (sl true si.v (Y7)) (sl true (.slice none 0 0) ([]:List UInt8))):=rfl
    clear hm hfr hl
    have hX:=And.intro hpt hta
    exact S.R ((k+1,sv,gs++[Xe.fresh nc si (Y7)]):Nat×SV×List Xe)
 ·have hke:k=C.progs.length:=by omega
  rw[hke,List.take_length]at hm
  obtain⟨C1,hC1⟩:∃C1:CC,C1=C.loc w0.pts:=⟨_,rfl⟩
  have e1:C.conf=C1.conf:=by rw[hC1];rfl
  have e2:C.part=C1.part:=by rw[hC1];rfl
  have e3:C.progs=C1.progs:=by rw[hC1];rfl
  have hc1:okC C1:=by rw[hC1];exact⟨hc.n0,hc.n8,hc.np,hc.pr,hc.cap,hc.cost,hc.dep,hc.pz,hc.lz,hc.oz,hc.od,hc.rz⟩
  simp only[ZA,e1,e2,e3]at hm h8 htn hk hin hke⊢
  clear e1 e2 e3 hrz hod
  have hrb:=xo4 (C:=C1) (w:={w0 with ts:=ts}) hc1 hm hfr t7 (by rw[hC1];rfl)
  subst t2 t3 t4 t5 t6
  have hso:Zw none none=fact True:=by rw[Zw.eq_def]
  obtain⟨cb,hcb⟩:∃cb,cb=V4 C1:=⟨_,rfl⟩
  refine Tr.nilSl (α:=EvC) ?_
  refine Tr.imp (l':=Xh cbk C1 cb {w0 with ts:=ts} gs++F) ?_ ?_
  ·subst hcb
   simp only[ap]
   have hX:=I3 t8 hso @V4.eq_def
   clear hfr hm hp hrb
   show Xd [] _ _
   exact S.E
  rw[←hcb]at hrb
  have hN:Qn C1=XS C1 cb 0 C1.progs.length:=by rw[hcb];rfl
  have hns:∀j,¬JM (cb.tb.at j):=fun j=>by rw[hcb];exact xdU j
  have hl2: (gs.map Xe.pt).length=C1.progs.length:=by rw[List.length_map,JU hrb]
  clear hcb hm hfr hl hlm t1 t7 t8 hso
  obtain⟨w1,hw1⟩:∃w1:CW,w1={w0 with ts:=ts}:=⟨_,rfl⟩
  have hC2:C1=C.loc w1.pts:=by rw[hw1];exact hC1
  rw[←hw1]at hrb⊢
  clear hw1 hC1
  simp only[ap]
  have hX:=And.intro @xGy.eq_def hl2;repeat' (first|refine S.x ?_|fail)
  refine Tr.loopE (α:=Nat×List Xe) [76] [6,7,75] (fun x=>[.int .i64 x.1]) (fun x=>Xh cbk C1 (XS C1 cb 0 x.1) w1 x.2) (fun x=>x.1≤C1.progs.length∧Rel C1 (XS C1 cb 0 x.1) w1 x.2) (fun x=>C1.progs.length-x.1) (0,gs) S.T rfl ⟨Nat.zero_le _,hrb⟩ fun y u2 hy=>?_
  obtain⟨j,g4⟩:=y
  obtain⟨hj,hrj⟩:=hy
  simp only at hj hrj⊢
  simp only[ap]
  by_cases hjn:j<C1.progs.length
  ·have hw:=Xo (k:=j) S.o
   have hkj:inR C1.progs (j:Int):=⟨by omega,by omega⟩
   have hnj:¬JM ((XS C1 cb 0 j).tb.at (j:Int)):=fun h=>hns _ (WS j _ h)
   have hst:Yd C1 (XS C1 cb 0 j) (j:Int) 0=XS C1 cb 0 (j+1):=rfl
   have hX:=I3 @xGy.eq_def hw hl2;repeat' (first|rintro _ _ ⟨g5,hr5,rfl,rfl⟩|(refine G.call 77 ?_;refine S.c ?_ (h:=W3 hc1 hrj hkj hnj))|refine S.x ?_|fail)
   all_goals
    rw[hst]at hr5
    have hX:=hst
    clear hrj hns
    exact S.R ((j+1,g5):Nat×List Xe)
  ·have hje:j=C1.progs.length:=by omega
   subst hje
   have hX:=And.intro @xGy.eq_def hl2;repeat' (first|refine S.x ?_|fail)
   all_goals
    rw[←hN]at hrj⊢
    clear hN hl2 hns hrb
    subst hC2
    exact Tr.fin hK ⟨_,w1,g4,hrj,rfl,rfl⟩ S.E
end
end
structure RW where
 pg:SV
 pa:SV
 re:SV
 ad:SV
 da:SV
 dn:SV
 tb:Nat
 mem:Nat
 pts:Nat
 obs:Nat
 slk:Option Nat
 ev:SV
 px:List (SL XE)
 dx:List (SL UInt8)
def okS (C:CC) (c:CM):Prop:=∀m,c.slk=some m→m.ms.length=C.progs.length
section
variable {C:CC} {c c':CM} {w:RW} {k call p:Int} {m:SlM} {n:Nat}
theorem xqq {ms:List (Int×Bool)} {b:Bool}: (Qm ms k b).length=ms.length:=by
 unfold Qm
 split
 ·exact List.length_set
 ·rfl
theorem Rch.oS (h:Rch C n c c') (hs:okS C c):okS C c':=by
 induction h with
 |trans _ _ h1 h2=>exact h2 (h1 hs)
 |le _ _ h1=>exact h1 hs
 | rest c k hk=>
  intro m hm
  have hm':c.slk.map (fun m=>QT m k)=some m:=hm
  rcases Option.eq_none_or_eq_some c.slk with h|⟨m0,h⟩
  ·rw[h]at hm';cases hm'
  ·rw[h]at hm'
   have:=hs m0 h
   cases hm'
   show(Qm m0.ms k true).length=_
   rw[xqq];exact this
 |_=>exact hs
end
section
variable {r:Nat} {C:CC} {c:CM} {w:RW} {p:Int}
theorem J2 (h0:¬Yl c<0):∃m,c.slk=some m∧c.mode=3∧Yl c=XJ c:=by
 unfold Yl at h0⊢
 split at h0
 ·rename_i m hm
  split at h0
  ·rename_i h3
   exact⟨m,hm,h3,by rw[if_pos h3]⟩
  ·omega
 ·omega
theorem xfW (h0:Yl c<0):X0 c=0:=by
 unfold X0
 unfold Yl at h0
 split
 ·rename_i m hm
  rw[hm]at h0
  simp only at h0
  split
  ·rename_i h3
   rw[if_pos h3]at h0
   rw[if_pos h0]
  ·rfl
 ·rfl
end
section
section
variable {C:CC} {c:CM} {w:RW} {k:Int}
theorem xkN (h:okM C c):okM C (QU C c):=⟨(Jr _ _).trans h.tb,h.pos,h.rest,h.addr,h.data,by simp[QU],h.pi,h.ad,h.dl⟩
theorem xmn (hc:okC C):okS C (QU C c):=fun m hm=>by
 have hm':some (Z9 C.conf)=some m:=hm
 cases hm'
 show(C.conf.procs.d.map Jj).length=_
 rw[List.length_map,hc.np]
end
attribute [local irreducible] Yy YJ XA Vn Zb XM xbb
end
section
def xd7 (c:CM):Bool:=match c.slk with
 |some m=>decide (¬Yl c<0)&&decide (spM m.room m.ms (Yl c) 1=1)
 |none=>false
def Q0 (C:CC) (c:CM):CM:=match c.slk with
 |some m=>if Yl c<0 then c else if spM m.room m.ms (Yl c) 1=1 then xan C c (Yl c) 1 else{c with slk:=some (X8 m (Yl c) 1)}
 |none=>c
section
variable {C:CC} {c:CM} {w:RW} {k n:Int} {m:SlM}
theorem xgn (h:Yl c<0):Q0 C c=c∧xd7 c=false:=by
 unfold Q0 xd7
 split
 ·rename_i m hm
  rw[if_pos h,decide_eq_false S.o]
  exact⟨rfl,rfl⟩
 ·rename_i hm
  exact⟨rfl,rfl⟩
theorem xgl (h:¬Yl c<0) (hm:c.slk=some m) (hs:¬spM m.room m.ms (Yl c) 1=1):Q0 C c={c with slk:=some (X8 m (Yl c) 1)}∧xd7 c=false:=by
 unfold Q0 xd7
 rw[hm]
 simp only
 rw[if_neg h,if_neg hs,decide_eq_false hs,Bool.and_false]
 exact⟨rfl,rfl⟩
theorem xga (h:¬Yl c<0) (hm:c.slk=some m) (hs:spM m.room m.ms (Yl c) 1=1):Q0 C c=xan C c (Yl c) 1∧xd7 c=true:=by
 unfold Q0 xd7
 rw[hm]
 simp only
 rw[if_neg h,if_pos hs,decide_eq_true hs,decide_eq_true h]
 exact⟨rfl,rfl⟩
theorem xff (h:okM C c):okM C (Yc c m k n):=⟨h.tb,h.pos,by simpa [Yc]using h.rest,h.addr,h.data,h.done,h.pi,h.ad,h.dl⟩
theorem xdY: (VJ m.room m.ms k n).length=m.ms.length:=by
 unfold VJ
 split
 ·split
  ·rfl
  ·exact List.length_set
 ·rfl
theorem xe5 (hS:okS C c) (hm:c.slk=some m):okS C (Yc c m k n):=fun m' hm'=>by
 have:some (X8 m k n)=some m':=hm'
 cases this
 show(VJ m.room m.ms k n).length=_
 rw[xdY];exact hS m hm
end
attribute [local irreducible] Yy YJ XA Vn Zb XM xbb
