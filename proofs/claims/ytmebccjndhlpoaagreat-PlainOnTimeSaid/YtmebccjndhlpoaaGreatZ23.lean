import Derived.Test.YtmebccjndhlpoaaGreatZ22
namespace Go.Proofs.YtmebccjndhlpoaaGreat
open Go Go.Wk Tryz
set_option maxHeartbeats 64000000
set_option maxRecDepth 100000
structure okO (c:YF) (o:ObM):Prop where
 s:o.sems.map (fun x=>x.2.1)=(c.sems.d.take 4).map JO.most
 f:o.flags.length≤8
 p:o.pools.map (fun x=>(x.1,x.2.1))=(c.pools.d.take 4).map (fun x=>(x.size,x.depth))
 l:o.slates.map (fun x=>x.1)=c.slates.d.take 4
 n:∀x∈o.pools,x.2.1≤16∧x.2.2.length≤16
def xcC (c:YF):ObM:=⟨(c.sems.d.take 4).map xjD,List.replicate (ZF c.flags) false,(c.pools.d.take 4).map xd1,(c.slates.d.take 4).map QJ⟩
section
variable {c:YF} {o:ObM} {k:Int} {up:Bool} {m:List UInt8}
theorem Qb {α β:Type} [Inhabited α] {f:α→β} {xs:List α} {k:Int} {x:α} (h:inR xs k) (hx:f x=f (ix xs k)): (xs.set k.toNat x).map f=xs.map f:=QI h.1 h.2 hx
theorem xh2 (h:okO c o):okO c {o with sems:=xbI o.sems k}:=⟨by
 unfold xbI
 split
 ·rename_i hr
  split
  ·exact h.s
  ·exact(by refine Eq.trans (Qb (f:=fun x:xiH=>x.2.1) hr ?_) h.s;rfl)
 ·exact h.s,h.f,h.p,h.l,h.n⟩
theorem xjj (h:okO c o):okO c {o with sems:=QX o.sems k}:=⟨by
 unfold QX
 split
 ·rename_i hr
  split
  ·exact h.s
  ·exact(by refine Eq.trans (Qb (f:=fun x:xiH=>x.2.1) hr ?_) h.s;rfl)
 ·exact h.s,h.f,h.p,h.l,h.n⟩
theorem xio (h:okO c o):okO c {o with flags:=JS o.flags k up}:=⟨h.s,by
 unfold JS
 split
 ·simpa using h.f
 ·exact h.f,h.p,h.l,h.n⟩
theorem xrj {ps:List xag} {n:Nat} (h:Vs ps k n=0):inR ps k∧((ix ps k).2.2.length:Int)<(ix ps k).2.1:=by
 unfold Vs at h
 split at h
 ·rename_i hr
  refine⟨hr,?_⟩
  split at h
  ·split at h
   ·cases h
   ·omega
  ·cases h
 ·cases h
theorem xo5 {ps:List xag} (h:∀x∈ps,x.2.1≤16∧x.2.2.length≤16) (hr:inR ps k): (ix ps k).2.1≤16∧(ix ps k).2.2.length≤16:=h _ (List.mem_of_getElem? (Yi hr.1 hr.2))
theorem xkI (h:okO c o):okO c {o with pools:=xbK o.pools k m}:=by
 unfold xbK
 split
 ·rename_i hc
  obtain⟨hr,hlt⟩:=xrj hc
  refine⟨h.s,h.f,(by refine Eq.trans (Qb (f:=fun x:xag=>(x.1,x.2.1)) hr ?_) h.p;rfl),h.l,fun x hx=>?_⟩
  rcases List.mem_or_eq_of_mem_set hx with h'|rfl
  ·exact h.n x h'
  ·have:=xo5 h.n hr
   refine⟨this.1,?_⟩
   simp only[List.length_append,List.length_singleton]
   omega
 ·exact⟨h.s,h.f,h.p,h.l,h.n⟩
theorem xp8 {ps:List xag} (h:Jy ps k=0):inR ps k:=by
 unfold Jy at h
 split at h
 ·assumption
 ·cases h
theorem xle (h:okO c o):okO c {o with pools:=xap o.pools k}:=by
 unfold xap
 split
 ·rename_i hc
  have hr:=xp8 hc
  refine⟨h.s,h.f,(by refine Eq.trans (Qb (f:=fun x:xag=>(x.1,x.2.1)) hr ?_) h.p;rfl),h.l,fun x hx=>?_⟩
  rcases List.mem_or_eq_of_mem_set hx with h'|rfl
  ·exact h.n x h'
  ·have:=xo5 h.n hr
   refine⟨this.1,?_⟩
   simp only[List.length_drop]
   omega
 ·exact⟨h.s,h.f,h.p,h.l,h.n⟩
theorem xhE (h:okO c o):okO c {o with slates:=QC o.slates k m}:=⟨h.s,h.f,h.p,by
 unfold QC
 split
 ·rename_i hc
  have hr:inR o.slates k:=by
   unfold Qq at hc
   split at hc
   ·assumption
   ·cases hc
  exact(by refine Eq.trans (Qb (f:=fun x:xDJ=>x.1) hr ?_) h.l;rfl)
 ·exact h.l,h.n⟩
theorem xhC (h:okO c o):okO c {o with slates:=Wj o.slates k}:=⟨h.s,h.f,h.p,by
 unfold Wj
 split
 ·rename_i hr
  exact(by refine Eq.trans (Qb (f:=fun x:xDJ=>x.1) hr ?_) h.l;rfl)
 ·exact h.l,h.n⟩
theorem xgm (h:∀x∈c.pools.d,x.depth≤16):okO c (xcC c):=⟨by simp[xcC,xjD,Function.comp_def],by simp[xcC];exact xcf _,by simp[xcC,xd1,Function.comp_def],by simp[xcC,QJ,Function.comp_def],fun x hx=>by
 obtain⟨y,hy,rfl⟩:=List.mem_map.1 hx
 exact⟨h y (List.mem_of_mem_take hy),Nat.zero_le _⟩⟩
end
structure ObG where
 ss:SV
 fs:SV
 ps:SV
 ls:SV
 gS:List XL
 gF:List Xr
 gP:List Xu
 gL:List Xi
def JL (b:Nat) (c:YF) (g:ObG):List Xc:=[obB b ⟨c.c,g.ss,g.fs,g.ps,g.ls⟩,sl false g.ss.v (g.gS.map XL.pt),fam xc4 g.gS,sl false g.fs.v (g.gF.map Xr.pt),fam QP g.gF,sl false g.ps.v (g.gP.map Xu.pt),fam VD g.gP,sl false g.ls.v (g.gL.map Xi.pt),fam YM g.gL,
 sl true c.sems.s.v c.sems.d,sl true c.pools.s.v c.pools.d,sl true c.slates.s.v c.slates.d]
structure ObG.ok (g:ObG) (c:YF) (o:ObM):Prop where
 hs:g.gS.map XL.mo=o.sems
 hf:g.gF.map Xr.mo=o.flags
 hp:g.gP.map Xu.mo=o.pools
 hl:g.gL.map Xi.mo=o.slates
 hm:∀x∈g.gL,x.shown=true→x.m.d.length≤300
 ho:okO c o
def objX (b:Nat) (c:YF) (o:ObM):Xc:=pk (fun g:ObG=>JL b c g) (fun g=>g.ok c o)
theorem Xd.objX {b:Nat} {c:YF} {o:ObM} {g:ObG} {d l l2:List Xc} (hg:g.ok c o) (h:Xd d l (JL b c g++l2)):Xd d l (Go.Proofs.YtmebccjndhlpoaaGreat.objX b c o::l2):=
 Imp.trans h (Imp.pk (f:=fun g:ObG=>JL b c g) (p:=fun g=>g.ok c o) g hg)
section
attribute [local irreducible] BrK Xq Xt Xv XI FnK XZ Xw XC XV opX opK Yq Yk eqR Yj Yo Ys WL WD W X3 XO Tr drewK Ya X4 Yw Yv X1 YB mp blk rob sl sep ex fact old
section
variable {b:Nat} {c:YF} {o:ObM} {k p:Int} {up:Bool} {m:List UInt8} {s3:SV}
theorem xvS {g:ObG} (h:g.ok c o) (k:Int): (ix g.gP k).ms.length≤1000000:=by
 rcases ZH g.gP k with hm|hm
 ·have h1: (ix g.gP k).mo∈o.pools:=by rw[←h.hp];exact List.mem_map_of_mem hm
  have:=(h.ho.n _ h1).2
  simp only[Xu.mo,List.length_map]at this
  omega
 ·rw[hm];exact Nat.zero_le _
theorem xwl {g:ObG} (h:g.ok c o) (k:Int) (hs: (ix g.gL k).shown=true): (ix g.gL k).m.d.length≤1000000:=by
 rcases ZH g.gL k with hm|hm
 ·have:=h.hm _ hm hs;omega
 ·rw[hm];exact Nat.zero_le _
theorem xwk {gL:List Xi} {k:Int} {x:Xi} (h:∀x∈gL,x.shown=true→x.m.d.length≤300) (hx:x.m.d.length≤300):∀y∈gL.set k.toNat x,y.shown=true→y.m.d.length≤300:=fun y hy=>by
 rcases List.mem_or_eq_of_mem_set hy with h'|rfl
 ·exact h y h'
 ·exact fun _=>hx
theorem xpy:Xb prog 244 #[.pointer (some ⟨b,0,none⟩),.int .i64 k] [objX b c o]
  fun v l'=>v=.int .i64 (VA o.sems k)∧l'=[objX b c {o with sems:=xbI o.sems k}]:=by
 refine Xb.pk fun g hg F K hK=>?_
 simp only[JL,ap]
 refine S.c ?_ (h:=xsn)
 rintro _ _ ⟨rfl,rfl⟩
 refine Tr.fin hK ⟨by rw[xdC.1,hg.hs],rfl⟩ ?_
 refine Xd.objX (g:={g with gS:=V1 g.gS k}) ⟨by rw[xdC.2,hg.hs],hg.hf,hg.hp,hg.hl,hg.hm,xh2 hg.ho⟩ ?_
 simp only[JL,List.append_eq,ap]
 exact S.E
theorem xn6:Xb prog 245 #[.pointer (some ⟨b,0,none⟩),.int .i64 k] [objX b c o]
  fun v l'=>v=.int .i64 (QO o.sems k)∧l'=[objX b c {o with sems:=QX o.sems k}]:=by
 refine Xb.pk fun g hg F K hK=>?_
 simp only[JL,ap]
 refine S.c ?_ (h:=xs9)
 rintro _ _ ⟨rfl,rfl⟩
 refine Tr.fin hK ⟨by rw[xdk.1,hg.hs],rfl⟩ ?_
 refine Xd.objX (g:={g with gS:=VZ g.gS k}) ⟨by rw[xdk.2,hg.hs],hg.hf,hg.hp,hg.hl,hg.hm,xjj hg.ho⟩ ?_
 simp only[JL,List.append_eq,ap]
 exact S.E
theorem xhI:Xb prog 246 #[.pointer (some ⟨b,0,none⟩),.int .i64 k,.bool up] [objX b c o]
  fun v l'=>v=.int .i64 (YT o.flags k)∧l'=[objX b c {o with flags:=JS o.flags k up}]:=by
 refine Xb.pk fun g hg F K hK=>?_
 simp only[JL,ap]
 refine S.c ?_ (h:=xr4)
 rintro _ _ ⟨rfl,rfl⟩
 refine Tr.fin hK ⟨by rw[(Wx (up:=up)).1,hg.hf],rfl⟩ ?_
 refine Xd.objX (g:={g with gF:=W0 g.gF k up}) ⟨hg.hs,by rw[Wx.2.1,hg.hf],hg.hp,hg.hl,hg.hm,xio hg.ho⟩ ?_
 simp only[JL,List.append_eq,ap]
 exact S.E
theorem xaq:Xb prog 242 #[.pointer (some ⟨b,0,none⟩),.int .i64 k] [objX b c o]
  fun v l'=>v=.tuple #[.bool (upM o.flags k),.int .i64 (YT o.flags k)]∧l'=[objX b c o]:=by
 refine Xb.pk fun g hg F K hK=>?_
 simp only[JL,ap]
 refine S.c ?_ (h:=xwF)
 rintro _ _ ⟨rfl,rfl⟩
 refine Tr.fin hK ⟨by rw[(Wx (up:=true)).1,(Wx (up:=true)).2.2,hg.hf],rfl⟩ ?_
 refine Xd.objX (g:=g) hg ?_
 simp only[JL,List.append_eq,ap]
 exact S.E
theorem xce (hm:m.length≤300):Xb prog 251 #[.pointer (some ⟨b,0,none⟩),.int .i64 k,s3.v] [objX b c o,sl true s3.v m]
  fun v l'=>v=.int .i64 (Vs o.pools k m.length)∧l'=[objX b c {o with pools:=xbK o.pools k m}]:=by
 refine Xb.pk fun g hg F K hK=>?_
 simp only[JL,ap]
 refine S.c ?_ (h:=xst S.o (xvS hg k))
 rintro _ _ ⟨s1,s2,rfl,rfl⟩
 refine Tr.fin hK ⟨by rw[xdA,hg.hp],rfl⟩ ?_
 refine Xd.objX (g:={g with gP:=QS g.gP k s1 ⟨s2,m⟩}) ⟨hg.hs,hg.hf,by rw[xjs,hg.hp],hg.hl,hg.hm,xkI hg.ho⟩ ?_
 simp only[JL,List.append_eq,ap]
 exact S.E
theorem xr6:Xb prog 249 #[.pointer (some ⟨b,0,none⟩),.int .i64 k] [objX b c o]
  fun v l'=>∃t:SV,v=.tuple #[t.v,.int .i64 (Jy o.pools k)]∧l'=[objX b c {o with pools:=xap o.pools k},Fz.fz (SL.mk t (Wg o.pools k):Msg)]:=by
 refine Xb.pk fun g hg F K hK=>?_
 simp only[JL,ap]
 refine S.c ?_ (h:=xud)
 rintro _ _ ⟨s1,rfl,rfl⟩
 refine Tr.fin hK ⟨(W1 g.gP k).s,by rw[xdl,hg.hp],rfl⟩ ?_
 refine Xd.objX (g:={g with gP:=xaK g.gP k s1}) ⟨hg.hs,hg.hf,by rw[xgG.1,hg.hp],hg.hl,hg.hm,xle hg.ho⟩ ?_
 simp only[JL,List.append_eq,ap]
 have hX:Wg o.pools k=(W1 g.gP k).d:=by rw[(xgG (s1:=s1)).2,hg.hp]
 exact S.E
theorem xoN (hm:m.length≤300):Xb prog 254 #[.pointer (some ⟨b,0,none⟩),.int .i64 k,s3.v] [objX b c o,sl true s3.v m]
  fun v l'=>v=.int .i64 (Qq o.slates k m.length)∧l'=[objX b c {o with slates:=QC o.slates k m}]:=by
 refine Xb.pk fun g hg F K hK=>?_
 simp only[JL,ap]
 refine S.c ?_ (h:=xte S.o)
 rintro _ _ ⟨s2,rfl,rfl⟩
 refine Tr.fin hK ⟨by rw[xca,hg.hl],rfl⟩ ?_
 refine Xd.objX (g:={g with gL:=Vm g.gL k ⟨s2,m⟩}) ⟨hg.hs,hg.hf,hg.hp,by rw[xmv,hg.hl],by unfold Vm;split;exact xwk hg.hm hm;exact hg.hm,xhE hg.ho⟩ ?_
 simp only[JL,List.append_eq,ap]
 exact S.E
theorem xs3 {ob:ObW} {gs:List Xi} (hu:¬(ix gs k).shown=true):Xb prog 253 #[.pointer (some ⟨b,0,none⟩),.int .i64 k] [obB b ob,fam YM gs,sl false ob.ls.v (gs.map Xi.pt)]
  fun v l'=>∃s2:SV,v=.tuple #[s2.v,.int .i64 (ZZ gs k)]∧l'=[obB b ob,fam YM gs,sl false ob.ls.v (gs.map Xi.pt),sl true s2.v (Jz gs k)]:=by
 intro F K hK
 simp only[ap]
 have hu': (ix gs k).shown=false:=by simpa using hu
 by_cases h:inR gs k
 ·have ⟨h0,h1⟩:=h
  have hc:ZZ gs k=1:=by unfold ZZ;rw[if_pos h,hu'];rfl
  have hd:Jz gs k=[]:=by unfold Jz;rw[hc];rfl
  rw[hc,hd]at hK
  refine Tr.famAt (A:=YM) k S.K h0 h1 ?_
  refine Vr ?_
  refine S.I fun u=>?_
  have hX:=@hu';repeat' (first|refine S.x ?_|(refine G.call 278 ?_;refine S.c ?_ (h:=Q3 S.o S.o))|rintro _ _ ⟨rfl,rfl⟩|fail)
  all_goals
   refine Tr.fin hK ⟨⟨none,0,0⟩,rfl,rfl⟩ ?_
   have hX:=And.intro hu' @YM.eq_def
   exact S.E
 ·have hc:ZZ gs k=3:=by unfold ZZ;rw[if_neg h]
  have hd:Jz gs k=[]:=by unfold Jz;rw[hc];rfl
  rw[hc,hd]at hK
  have h':=h
  unfold inR at h'
  refine S.I fun u=>?_
  repeat' (first|refine S.x ?_|(refine G.call 278 ?_;first|refine S.c ?_ (h:=Qg S.o))|rintro _ _ ⟨rfl,rfl⟩|fail)
  all_goals exact Tr.fin hK ⟨⟨none,0,0⟩,rfl,rfl⟩ S.E
theorem xq7:Xb prog 253 #[.pointer (some ⟨b,0,none⟩),.int .i64 k] [objX b c o]
  fun v l'=>∃t:SV,v=.tuple #[t.v,.int .i64 (WJ o.slates k)]∧l'=[objX b c o,sl true t.v (WI o.slates k)]:=by
 refine Xb.pk fun g hg F K hK=>?_
 simp only[JL,ap]
 have hX:WI o.slates k=Jz g.gL k:=by rw[xlB,hg.hl]
 by_cases hs: (ix g.gL k).shown=true
 ·refine S.c ?_ (h:=xrD (xwl hg k hs))
  rintro _ _ ⟨t,rfl,rfl⟩
  refine Tr.fin hK ⟨t,by rw[xak,hg.hl],rfl⟩ ?_
  refine Xd.objX (g:=g) hg ?_
  simp only[JL,List.append_eq,ap]
  exact S.E
 ·refine S.c ?_ (h:=xs3 hs)
  rintro _ _ ⟨t,rfl,rfl⟩
  refine Tr.fin hK ⟨t,by rw[xak,hg.hl],rfl⟩ ?_
  refine Xd.objX (g:=g) hg ?_
  simp only[JL,List.append_eq,ap]
  exact S.E
theorem xpJ:Xb prog 252 #[.pointer (some ⟨b,0,none⟩),.int .i64 k] [objX b c o]
  fun v l'=>v=.int .i64 (QM o.slates k)∧l'=[objX b c {o with slates:=Wj o.slates k}]:=by
 refine Xb.pk fun g hg F K hK=>?_
 simp only[JL,ap]
 refine S.c ?_ (h:=xsi)
 rintro _ _ ⟨rfl,rfl⟩
 refine Tr.fin hK ⟨by rw[xda.1,hg.hl],rfl⟩ ?_
 refine Xd.objX (g:={g with gL:=V2 g.gL k}) ⟨hg.hs,hg.hf,hg.hp,by rw[xda.2,hg.hl],by unfold V2;split;exact xwk hg.hm (Nat.zero_le _);exact hg.hm,xhC hg.ho⟩ ?_
 simp only[JL,List.append_eq,ap]
 exact S.E
theorem Y4:Xb prog 247 #[.pointer (some ⟨b,0,none⟩),.int .i64 p,.int .i64 k] [objX b c o]
  fun v l'=>v=.int .i64 (J4 o.pools o.slates k p)∧l'=[objX b c o]:=by
 refine Xb.pk fun g hg F K hK=>?_
 simp only[JL,ap]
 refine S.c ?_ (h:=xrM)
 rintro _ _ ⟨rfl,rfl⟩
 refine Tr.fin hK ⟨by rw[xsE,hg.hp,hg.hl],rfl⟩ ?_
 refine Xd.objX (g:=g) hg ?_
 simp only[JL,List.append_eq,ap]
 exact S.E
end
section
variable {b:Nat} {c:YF} {o:ObM}
theorem xmg {cs:List Int} {g4:List Xi} (h:g4.map Xi.mo=(cs.take 4).map QJ):∀x∈g4,x.shown=true→x.m.d.length≤300:=fun x hx hs=>by
 have h1:x.mo∈g4.map Xi.mo:=List.mem_map_of_mem hx
 rw[h]at h1
 obtain⟨y,_,he⟩:=List.mem_map.1 h1
 have h2:=congrArg (fun p=>p.2) he
 simp only[QJ,Xi.mo,hs,if_true]at h2
 cases h2
theorem xjQ (hd:∀x∈c.pools.d,x.depth≤16):Xb prog 113 #[.pointer (some ⟨b,0,none⟩)] [objX b c o]
  fun v l'=>v=.tuple #[]∧l'=[objX b c (xcC c)]:=by
 refine Xb.pk fun g hg F K hK=>?_
 simp only[JL,ap]
 have h0:Xb prog 113 #[.pointer (some ⟨b,0,none⟩)] [obB b ⟨c.c,g.ss,g.fs,g.ps,g.ls⟩,sl true c.sems.s.v c.sems.d,sl true c.pools.s.v c.pools.d,sl true c.slates.s.v c.slates.d] _:=xh0 (b:=b) (c:=c.c) (cs:=c.sems.d) (ps:=c.pools.d) (ls:=c.slates.d)
 refine S.c ?_ (h:=h0)
 rintro _ _ ⟨s1,s2,s3,s4,g1,g2,g3,g4,h1,h2,h3,h4,rfl,rfl⟩
 refine Tr.fin hK ⟨rfl,rfl⟩ ?_
 refine Xd.objX (g:=⟨s1,s2,s3,s4,g1,g2,g3,g4⟩) ⟨h1,h2,h3,h4,xmg h4,xgm hd⟩ ?_
 simp only[JL,List.append_eq,ap]
 exact S.E
theorem xqX {u0:Value} [hu:DeA u0 c] (hd:∀x∈c.pools.d,x.depth≤16):Xb prog 72 #[u0] [sl true c.sems.s.v c.sems.d,sl true c.pools.s.v c.pools.d,sl true c.slates.s.v c.slates.d]
  fun v l'=>∃b:Nat,v=.pointer (some ⟨b,0,none⟩)∧l'=[objX b c (xcC c)]:=by
 intro F K hK
 simp only[ap]
 haveI:DeA u0 c.c:=⟨hu.h⟩
 have h0:Xb prog 72 #[u0] [sl true c.sems.s.v c.sems.d,sl true c.pools.s.v c.pools.d,sl true c.slates.s.v c.slates.d] _:=xr3 (u0:=u0) (c:=c.c) (cs:=c.sems.d) (ps:=c.pools.d) (ls:=c.slates.d)
 refine S.c ?_ (h:=h0)
 rintro _ _ ⟨b,s1,s2,s3,s4,g1,g2,g3,g4,h1,h2,h3,h4,rfl,rfl⟩
 refine Tr.fin hK ⟨b,rfl,rfl⟩ ?_
 refine Xd.objX (g:=⟨s1,s2,s3,s4,g1,g2,g3,g4⟩) ⟨h1,h2,h3,h4,xmg h4,xgm hd⟩ ?_
 simp only[JL,List.append_eq,ap]
 exact S.E
end
def cq:List Nat:=[1,2,3,6,7,8,12,13,14,18,19,20,24,25,26]
structure RoG where
 a:SV
 b:SV
 cc:SV
 d:SV
 gS:List XL
 gF:List Xr
 gP:List Xu
 gL:List Xi
 xs:List (SL Msg)
 ys:List (SL Msg)
section
abbrev Zp (ms:List (Int×Bool)):List Bool:=ms.map fun m=>m.2
attribute [local irreducible] YZ QR
end
section
def spM (room:Int) (ms:List (Int×Bool)) (k n:Int):Int:=if inR ms k then(if n<1 then 0 else Zn n room (ix ms k).1)else 0
def VJ (room:Int) (ms:List (Int×Bool)) (k n:Int):List (Int×Bool):=if inR ms k then(if n<1 then ms else ms.set k.toNat ((ix ms k).1-Zn n room (ix ms k).1,(ix ms k).2))else ms
def Qm (ms:List (Int×Bool)) (k:Int) (d:Bool):List (Int×Bool):=if inR ms k then ms.set k.toNat ((ix ms k).1,d)else ms
theorem xm4 {ms:List (Int×Bool)} {k n:Int} (h0:0≤k) (h1:k<ms.length):Zp (ms.set k.toNat (n,(ix ms k).2))=Zp ms:=QI h0 h1 rfl
attribute [local irreducible] YZ QR Wr
end
end
structure SlM where
 room:Int
 ms:List (Int×Bool)
structure Vz (m:SlM):Prop where
 r:0≤m.room∧m.room≤1000000000000
 h:∀x∈m.ms,0≤x.1∧x.1≤1000000000000
 l:m.ms.length≤100000
def ofM (m:SlM) (k:Int):Int:=if inR m.ms k then(ix m.ms k).1 else 0
def X8 (m:SlM) (k n:Int):SlM:=⟨m.room-spM m.room m.ms k n,VJ m.room m.ms k n⟩
def QT (m:SlM) (k:Int):SlM:=⟨m.room,Qm m.ms k true⟩
def Z9 (c:YF):SlM:=⟨if 0<c.cap then c.cap else 0,c.procs.d.map Jj⟩
theorem xcQ {m:SlM} (h:Vz m) (k:Int):0≤(ix m.ms k).1∧(ix m.ms k).1≤1000000000000:=by
 rcases ZH m.ms k with hm|hm
 ·exact h.h _ hm
 ·rw[hm];exact⟨by decide,by decide⟩
theorem xa3 {m:SlM} {k n:Int} (h:Vz m):Vz (X8 m k n):=by
 have hi:=xcQ h k
 unfold X8 spM VJ
 split
 ·rename_i hr
  split
  ·exact⟨by simpa using h.r,h.h,h.l⟩
  ·obtain⟨m1,m2,m3,m4⟩:=@Qu n m.room (ix m.ms k).1
   have m5:=m4 S.o h.r.1 hi.1
   have:=h.r
   refine⟨by simp only;omega,fun x hx=>?_,by simpa using h.l⟩
   rcases List.mem_or_eq_of_mem_set hx with h'|rfl
   ·exact h.h x h'
   ·simp only;omega
 ·exact⟨by simpa using h.r,h.h,h.l⟩
theorem xdK {m:SlM} {k:Int} (h:Vz m):Vz (QT m k):=⟨h.r,by
 unfold QT Qm
 split
 ·intro x hx
  rcases List.mem_or_eq_of_mem_set hx with h'|rfl
  ·exact h.h x h'
  ·exact xcQ h k
 ·exact h.h,by
 unfold QT Qm
 split
 ·simpa using h.l
 ·exact h.l⟩
theorem xdJ {c:YF} (h1:c.cap≤1000000000000) (h2:∀x∈c.procs.d,x.cost≤1000000000000) (h3:c.procs.d.length≤100000):Vz (Z9 c):=⟨by unfold Z9;simp only;split<;>omega,fun x hx=>by
 obtain⟨y,hy,rfl⟩:=List.mem_map.1 hx
 have:=h2 y hy
 unfold Jj
 simp only
 split<;>omega,by simpa [Z9]using h3⟩
def xbz (b:Nat) (room:Int) (s:SV) (gs:List XU):List Xc:=[QF b room s,sl false s.v (gs.map XU.pt),fam Vx gs]
def slkX (b:Nat) (m:SlM):Xc:=pk (fun g:SV×List XU=>xbz b m.room g.1 g.2) (fun g=>g.2.map XU.mo=m.ms∧Vz m)
theorem Xd.slkX {b:Nat} {m:SlM} {s:SV} {gs:List XU} {d l l2:List Xc} (h1:gs.map XU.mo=m.ms) (h2:Vz m) (h:Xd d l (xbz b m.room s gs++l2)):Xd d l (Go.Proofs.YtmebccjndhlpoaaGreat.slkX b m::l2):=
 Imp.trans h (Imp.pk (f:=fun g:SV×List XU=>xbz b m.room g.1 g.2) (p:=fun g=>g.2.map XU.mo=m.ms∧Vz m) (s,gs) ⟨h1,h2⟩)
section
variable {gs:List XU} {m:SlM} {k n:Int}
theorem xqJ (h:gs.map XU.mo=m.ms):gs.length=m.ms.length:=by rw[←h,List.length_map]
theorem xvV (h:gs.map XU.mo=m.ms):ofA gs k=ofM m k:=by
 unfold ofA ofM
 rw[←h]
 simp only[Z6]
 split
 ·rename_i hr;rw[ixR hr];rfl
 ·rfl
theorem xtN (h:gs.map XU.mo=m.ms) (hk:Vz m):0≤(ix gs k).has∧(ix gs k).has≤1000000000000:=by
 rcases ZH gs k with hm|hm
 ·exact hk.h (XU.mo (ix gs k)) (by rw[←h];exact List.mem_map_of_mem hm)
 ·rw[hm];exact⟨by decide,by decide⟩
theorem xqE (h:gs.map XU.mo=m.ms) (hk:Vz m):∀k:Nat,k<gs.length→okI (ix gs (k:Int)).has:=fun k _=>by
 have:=xtN (k:=(k:Int)) h hk
 unfold okI
 omega
theorem xws (h:gs.map XU.mo=m.ms):spA m.room gs k n=spM m.room m.ms k n∧(spG m.room gs k n).map XU.mo=VJ m.room m.ms k n:=by
 unfold spA spG spM VJ
 rw[←h]
 simp only[Z6]
 split
 ·rename_i hr
  rw[ixR hr]
  split
  ·exact⟨rfl,rfl⟩
  ·exact⟨rfl,List.map_set⟩
 ·exact⟨rfl,rfl⟩
theorem xtY (h:gs.map XU.mo=m.ms): (xnO gs k).map XU.mo=Qm m.ms k true:=by
 unfold xnO Qm
 rw[←h]
 simp only[Z6]
 split
 ·rename_i hr
  rw[ixR hr,List.map_set]
  rfl
 ·rfl
end
section
attribute [local irreducible] BrK Xq Xt Xv XI FnK XZ Xw XC XV opX opK Yq Yk eqR Yj Yo Ys WL WD W X3 XO Tr drewK Ya X4 Yw Yv X1 YB mp blk rob sl sep ex fact old
section
variable {b r:Nat} {m:SlM} {k n:Int} {c:YF}
theorem xkl:Xb prog 130 #[.pointer (some ⟨b,0,none⟩),.int .i64 k] [slkX b m]
  fun v l'=>v=.int .i64 (ofM m k)∧l'=[slkX b m]:=by
 refine Xb.pk fun g hg F K hK=>?_
 obtain⟨h1,h2⟩:=hg
 simp only[xbz,ap]
 refine S.c ?_ (h:=xwr (gs:=g.2))
 rintro _ _ ⟨rfl,rfl⟩
 refine Tr.fin hK ⟨by rw[xvV h1],rfl⟩ ?_
 refine Xd.slkX (s:=g.1) h1 h2 ?_
 simp only[xbz,List.append_eq,ap]
 exact S.E
theorem xq0:Xb prog 131 #[.pointer (some ⟨b,0,none⟩)] [slkX b m]
  fun v l'=>v=.int .i64 m.room∧l'=[slkX b m]:=by
 refine Xb.pk fun g hg F K hK=>?_
 obtain⟨h1,h2⟩:=hg
 simp only[xbz,ap]
 refine S.c ?_ (h:=xqZ)
 rintro _ _ ⟨rfl,rfl⟩
 refine Tr.fin hK ⟨rfl,rfl⟩ ?_
 refine Xd.slkX (s:=g.1) h1 h2 ?_
 simp only[xbz,List.append_eq,ap]
 exact S.E
theorem xmU:Xb prog 133 #[.pointer (some ⟨b,0,none⟩),.int .i64 k,.int .i64 n] [slkX b m]
  fun v l'=>v=.int .i64 (spM m.room m.ms k n)∧l'=[slkX b (X8 m k n)]:=by
 refine Xb.pk fun g hg F K hK=>?_
 obtain⟨h1,h2⟩:=hg
 simp only[xbz,ap]
 refine S.c ?_ (h:=xnZ (gs:=g.2) h2.r (xtN h1 h2))
 rintro _ _ ⟨rfl,rfl⟩
 have e:=xws (k:=k) (n:=n) h1
 refine Tr.fin hK ⟨by rw[e.1],rfl⟩ ?_
 refine Xd.slkX (s:=g.1) (m:=X8 m k n) e.2 (xa3 h2) ?_
 simp only[xbz,X8,List.append_eq,ap]
 rw[e.1]
 exact S.E
theorem xrG:Xb prog 224 #[.pointer (some ⟨b,0,none⟩),.int .i64 k] [slkX b m]
  fun v l'=>∃n:Int,v=.int .i64 n∧l'=[slkX b (QT m k)]:=by
 refine Xb.pk fun g hg F K hK=>?_
 obtain⟨h1,h2⟩:=hg
 simp only[xbz,ap]
 refine S.c ?_ (h:=xnG (gs:=g.2) (xqE h1 h2) (by rw[xqJ h1];exact h2.l))
 rintro _ _ ⟨n,rfl,rfl⟩
 refine Tr.fin hK ⟨n,rfl,rfl⟩ ?_
 refine Xd.slkX (s:=g.1) (m:=QT m k) (xtY h1) (xdK h2) ?_
 simp only[xbz,QT,List.append_eq,ap]
 exact S.E
theorem xqI {u0:Value} [hd:DeA u0 c] (h1:c.cap≤1000000000000) (h2:∀x∈c.procs.d,x.cost≤1000000000000) (h3:c.procs.d.length≤100000):Xb prog 120 #[u0] [sl true c.procs.s.v c.procs.d]
  fun v l'=>∃b:Nat,v=.pointer (some ⟨b,0,none⟩)∧l'=[slkX b (Z9 c)]:=by
 intro F K hK
 simp only[ap]
 refine S.c ?_ (h:=xrR (c:=c) h3)
 rintro _ _ ⟨b,s,gs,hg,rfl,rfl⟩
 refine Tr.fin hK ⟨b,rfl,rfl⟩ ?_
 refine Xd.slkX (s:=s) (m:=Z9 c) hg (xdJ h1 h2 h3) ?_
 simp only[xbz,Z9,List.append_eq,ap]
 exact S.E
theorem xft:Zp (VJ m.room m.ms k n)=Zp m.ms:=by
 unfold VJ
 split
 ·rename_i hr
  split
  ·rfl
  ·exact xm4 hr.1 hr.2
 ·rfl
