import Derived.Test.YtmebccjndhlpoaaGreatZ17
namespace Go.Proofs.YtmebccjndhlpoaaGreat
open Go Go.Wk Tryz
set_option maxHeartbeats 3200000
set_option maxRecDepth 100000
def csz (x:Int):Int:=if 0<(if 256<x then 256 else x)then(if 256<x then 256 else x)else 0
theorem xra (x:Int):0≤csz x∧csz x≤256:=by unfold csz;split<;>split at*<;>omega
def Wo (c:xaL):XH:=⟨c.base,c.size,c.w,List.replicate (csz c.size).toNat default⟩
def Xz.new (b:Nat) (s:SV) (c:xaL):Xz:=⟨b,c.base,c.size,c.w,s,List.replicate (csz c.size).toNat default⟩
theorem xr0 {c:xaL} (h:0≤c.base∧c.base≤1048576):okR (Wo c):=⟨h.1,h.2,by have:=xra c.size;simp only[Wo,List.length_replicate];omega⟩
section
attribute [local irreducible] BrK Xq Xt Xv XI FnK XZ Xw XC XV opX opK Yq Yk eqR Yj Yo Ys WL WD W X3 XO Tr drewK Ya X4 Yw Yv X1 YB mp blk rob sl sep ex fact old
section
attribute [local irreducible] csz
theorem xou {s0:SV} {cs:List xaL}:Xb prog 70 #[s0.v] [sl true s0.v cs]
  fun v l'=>∃(b:Nat) (s:SV) (gs:List Xz),gs.map Xz.mo=(cs.take 4).map Wo∧v=.pointer (some ⟨b,0,none⟩)∧l'=VX b s gs:=by
 intro F K hK
 simp only[ap]
 refine Tr.bound (ro:=true) (v:=s0.v) (xs:=cs) (by(repeat (first|exact Has.here|fail));done) fun hbd=>?_
 have hc:∀x,(if 0<(if 256<x then 256 else x)then(if 256<x then 256 else x)else 0)=csz x:=fun x=>by unfold csz;rfl
 refine S.I fun u=>?_
 have hX:=And.intro @xLt.eq_def hc;repeat' (first|intro(nb:Nat)|refine S.x ?_|intro hb|fail)
 have ht:cs.take (if(4:Int)<cs.length then(4:Int)else cs.length).toNat=cs.take 4:=by
  split
  ·rfl
  ·rw[Int.toNat_natCast,List.take_length,List.take_of_length_le S.o]
 have hl4: (cs.take 4).length≤4:=by simp;omega
 rw[ht]
 clear ht
 generalize cs.take 4=ds at*
 refine Tr.loopE (α:=Nat×SV×List Xz) [14] [2,3,12,13] (fun x=>[.int .i64 x.1]) (fun x=>xpB nb x.2.1::sl false x.2.1.v (x.2.2.map Xz.pt)::fam xaN x.2.2::[sl true hb.v ds]) (fun x=>x.1≤ds.length∧x.2.2.length=x.1∧x.2.2.map Xz.mo=(ds.take x.1).map Wo) (fun x=>ds.length-x.1) (0,⟨none,0,0⟩,[]) S.T rfl ⟨Nat.zero_le _,rfl,rfl⟩ fun x u hx=>?_
 obtain⟨k,s,gs⟩:=x
 obtain⟨hk,hl,hm⟩:=hx
 simp only at hk hl hm⊢
 simp only[ap]
 have hlm: (gs.map Xz.pt).length=k:=by rw[List.length_map];exact hl
 by_cases hin:k<ds.length
 ·have hw:=Xo (k:=k) S.o
  have hsz:=xra (ix ds (k:Int)).size
  have hmk:∀b s,(gs++[Xz.new b s (ix ds (k:Int))]).map Xz.mo=(ds.take (k+1)).map Wo:=fun b s=>by rw[Yz hin,List.map_append,List.map_append,hm];rfl
  have hX:=I3 @xLt.eq_def hw hc;repeat' (first|intro(nc:Nat)|intro(sv:SV)|refine S.x ?_|intro hb|fail)
  all_goals
   rename_i nr sm sq
   have hmk':=hmk nc sm
   have hln: (gs++[Xz.new nc sm (ix ds (k:Int))]).length=k+1:=by rw[List.length_append,hl];rfl
   have hpt: (gs++[Xz.new nc sm (ix ds (k:Int))]).map Xz.pt=gs.map Xz.pt++[Pt.mk (some nc)]:=by rw[List.map_append];rfl
   have hen:∀v:Value,(ZM [Value.int IntKind.i64 0,Value.int IntKind.i64 0,Value.bool false,Value.slice none 0 0] 0 (En.enc (ix ds (k:Int)))).set 3 v=[.int .i64 (ix ds (k:Int)).base,.int .i64 (ix ds (k:Int)).size,.bool (ix ds (k:Int)).w,v]:=fun v=>rfl
   have hra:xaN (Xz.new nc sm (ix ds (k:Int)))=sep (blk nc (.cells #[.int .i64 (ix ds (k:Int)).base,.int .i64 (ix ds (k:Int)).size,.bool (ix ds (k:Int)).w,sm.v] 229 (0,0))) (sl false sm.v (List.replicate (csz (ix ds (k:Int)).size).toNat default)):=rfl
   have hX:=I3 hen hpt hra
   exact S.R (k+1,sv,gs++[Xz.new nc sm (ix ds (k:Int))])
 ·have hke:k=ds.length:=by omega
  have hX:=@xLt.eq_def;repeat' (first|refine S.x ?_|fail)
  all_goals
   refine Tr.fin hK ⟨_,s,gs,by rw[hm,hke,List.take_length],rfl,rfl⟩ ?_
   exact S.E
end
section
theorem xgs {ms:List XH} {a n:Int} (h:fI ms a n false=none):ldO ms a n=false∧ldB ms a n=[]:=by unfold ldO ldB;rw[h];exact⟨rfl,rfl⟩
theorem xgo {ms:List XH} {a n:Int} {k:Nat} (h:fI ms a n false=some k):ldO ms a n=true∧ldB ms a n=((ix ms (k:Int)).d.take ((a-(ix ms (k:Int)).base).toNat+n.toNat)).drop (a-(ix ms (k:Int)).base).toNat:=by unfold ldO ldB;rw[h];exact⟨rfl,rfl⟩
attribute [local irreducible] Jo fI ldO ldB stO stB
end
section
theorem xkX {ms:List XH} {a n:Int} (h:ldO ms a n=true): ((ldB ms a n).length:Int)=n:=by
 cases hf:fI ms a n false with
 |none=>rw[(xgs hf).1]at h;cases h
 |some k=>
  obtain⟨hk,hb⟩:=Qp hf
  obtain⟨p0,p1,p2,p3⟩:=Jg hb
  rw[(xgo hf).2,List.length_drop,List.length_take]
  omega
theorem xlu {ms:List XH} {a n:Int} (h:ldO ms a n=false):ldB ms a n=[]:=by
 cases hf:fI ms a n false with
 |none=>exact(xgs hf).2
 |some k=>rw[(xgo hf).1]at h;cases h
theorem xwD {ms:List XH} {a:Int}: (ldB ms a 4).length≤4:=by
 cases h:ldO ms a 4
 ·rw[xlu h];decide
 ·have:=xkX h;omega
attribute [local irreducible] Jo fI ldO ldB stO stB
end
end
def Y1 (p:Nat) (ms:List XH):Xc:=pk (fun g:SV×List Xz=>VX p g.1 g.2) (fun g=>g.2.map Xz.mo=ms∧∀x∈g.2,okR x.mo)
theorem WE {p:Nat} {ms:List XH} {s:SV} {gs:List Xz} {l:List Xc} (h1:gs.map Xz.mo=ms) (h2:∀x∈gs,okR x.mo):Imp (VX p s gs++l) (Y1 p ms::l):=
 Imp.pk (f:=fun g:SV×List Xz=>VX p g.1 g.2) (p:=fun g=>g.2.map Xz.mo=ms∧∀x∈g.2,okR x.mo) (s,gs) ⟨h1,h2⟩
abbrev okZ (n:Int):Prop:=-9223372036854775808≤n∧n≤9223372036854775807
theorem mv {m l:List Xc} {A:Xc}:Imp (m++A::l) (A::(m++l)):=Imp.of_perm List.perm_middle
section
variable {p r:Nat} {ms:List XH} {a n:Int} {wr:Bool} {s3 s0:SV} {b:List UInt8} {k:Int} {cs:List xaL}
theorem xlr (ha:okZ a):Xb prog 274 #[.pointer (some ⟨p,0,none⟩),.int .i64 a,.int .i64 n,.bool wr] [Y1 p ms]
  fun v l'=>v=.bool (fI ms a n wr).isSome∧l'=[Y1 p ms]:=by
 refine Xb.pk fun g hg F K hK=>?_
 obtain⟨rfl,hok⟩:=hg
 refine xsz hok ha.2 ha.1 ([]++F) K ?_
 rintro v l' ⟨rfl,rfl⟩
 refine Tr.imp ?_ (hK _ _ ⟨rfl,rfl⟩)
 exact WE (rfl) (hok)
theorem xip (ha:okZ a):Xb prog 275 #[.pointer (some ⟨p,0,none⟩),.int .i64 a,.int .i64 n] [Y1 p ms]
  fun v l'=>∃s':SV,v=.tuple #[s'.v,.bool (ldO ms a n)]∧l'=[Y1 p ms,sl true s'.v (ldB ms a n)]:=by
 refine Xb.pk fun g hg F K hK=>?_
 obtain⟨rfl,hok⟩:=hg
 refine xia hok ha.2 ha.1 ([]++F) K ?_
 rintro v l' ⟨s',rfl,rfl⟩
 refine Tr.imp ?_ (hK _ _ ⟨s',rfl,rfl⟩)
 exact WE (rfl) (hok)
theorem xfK (ha:okZ a):Xb prog 222 #[.pointer (some ⟨p,0,none⟩),.int .i64 a,s3.v] [Y1 p ms,sl true s3.v b]
  fun v l'=>v=.bool (stO ms a b.length)∧l'=[Y1 p (stB ms a b)]:=by
 refine Xb.pk fun g hg F K hK=>?_
 obtain⟨rfl,hok⟩:=hg
 refine Tr.imp mv (xfH hok ha.2 ha.1 ([]++F) K ?_)
 rintro v l' ⟨gs2,rfl,h2,h3,rfl⟩
 refine Tr.imp ?_ (hK _ _ ⟨rfl,rfl⟩)
 exact WE (h2) (h3)
theorem xbV (ha:okZ a):Xb prog 255 #[.pointer (some ⟨p,0,none⟩),.int .i64 a] [Y1 p ms]
  fun v l'=>v=.tuple #[.int .i64 (wdB ms a),.bool (ldO ms a 4)]∧l'=[Y1 p ms]:=by
 refine Xb.pk fun g hg F K hK=>?_
 obtain⟨rfl,hok⟩:=hg
 refine xoV hok xwD ha.2 ha.1 ([]++F) K ?_
 rintro v l' ⟨rfl,rfl⟩
 refine Tr.imp ?_ (hK _ _ ⟨rfl,rfl⟩)
 exact WE (rfl) (hok)
theorem xmj (ha:okZ a):Xb prog 256 #[.pointer (some ⟨p,0,none⟩),.int .i64 a,.int .i64 n] [Y1 p ms]
  fun v l'=>v=.bool (stO ms a 4)∧l'=[Y1 p (stB ms a (b4 n))]:=by
 refine Xb.pk fun g hg F K hK=>?_
 obtain⟨rfl,hok⟩:=hg
 refine xr5 hok ha.2 ha.1 ([]++F) K ?_
 rintro v l' ⟨gs2,rfl,h2,h3,rfl⟩
 refine Tr.imp ?_ (hK _ _ ⟨rfl,rfl⟩)
 exact WE (h2) (h3)
theorem xnv:Xb prog 264 #[.pointer (some ⟨p,0,none⟩)] [Y1 p ms]
  fun v l'=>v=.tuple #[]∧l'=[Y1 p (ms.map XH.clr)]:=by
 refine Xb.pk fun g hg F K hK=>?_
 obtain⟨rfl,hok⟩:=hg
 refine xns ([]++F) K ?_
 rintro v l' ⟨rfl,rfl⟩
 refine Tr.imp ?_ (hK _ _ ⟨rfl,rfl⟩)
 exact WE (xve) (xtc hok)
theorem xiw (h:∀c∈cs,0≤c.base∧c.base≤1048576):∀m∈(cs.take 4).map Wo,okR m:=fun m hm=>by
 obtain⟨c,hc,rfl⟩:=List.mem_map.1 hm
 exact xr0 (h c (List.mem_of_mem_take hc))
theorem xqh (h:∀c∈cs,0≤c.base∧c.base≤1048576):Xb prog 70 #[s0.v] [sl true s0.v cs]
  fun v l'=>∃p:Nat,v=.pointer (some ⟨p,0,none⟩)∧l'=[Y1 p ((cs.take 4).map Wo)]:=by
 refine fun F K hK=>xou F K ?_
 rintro v l' ⟨b,s,gs,h2,rfl,rfl⟩
 refine Tr.imp ?_ (hK _ _ ⟨b,rfl,rfl⟩)
 refine WE h2 fun x hx=>xiw h _ ?_
 rw[←h2]
 exact List.mem_map_of_mem hx
end
theorem xa2 {g:Xu} {l:List Xc} {X:WP} (h:Tr (blk g.b (.cells #[.int .i64 g.size,.int .i64 g.depth,g.s.v] 318 (0,0))::sl false g.s.v g.ms::fzl g.ms::l) X):Tr (VD g::l) X:=h.imp (Imp.trans Imp.sep (Imp.cons Imp.sep))
theorem Vr {g:Xi} {l:List Xc} {X:WP} (h:Tr (blk g.b (.cells #[.int .i64 g.size,g.m.s.v,.bool g.shown] 323 (0,0))::Fz.fz g.m::l) X):Tr (YM g::l) X:=h.imp Imp.sep
def xa0 (n:Nat) (size:Int):Bool:=decide (0<n)&&decide ((n:Int)≤size)
def Qt (gs:List Xu) (k:Int) (n:Nat):Int:=if inR gs k then(if xa0 n (ix gs k).size then(if(ix gs k).depth≤(ix gs k).ms.length then 1 else 0)else 2)else 3
def QS (gs:List Xu) (k:Int) (s:SV) (m:Msg):List Xu:=if Qt gs k m.d.length=0 then gs.set k.toNat {ix gs k with s:=s,ms:=(ix gs k).ms++[m]}else gs
def Wn (gs:List Xu) (k:Int):Int:=if inR gs k then(if((ix gs k).ms.length:Int)=0 then 1 else 0)else 3
def W1 (gs:List Xu) (k:Int):Msg:=if Wn gs k=0 then ix (ix gs k).ms 0 else default
def xaK (gs:List Xu) (k:Int) (s:SV):List Xu:=if Wn gs k=0 then gs.set k.toNat {ix gs k with s:=s,ms:=(ix gs k).ms.drop 1}else gs
def Vl (gs:List Xi) (k:Int) (n:Nat):Int:=if inR gs k then(if xa0 n (ix gs k).size then 0 else 2)else 3
def Vm (gs:List Xi) (k:Int) (m:Msg):List Xi:=if Vl gs k m.d.length=0 then gs.set k.toNat {ix gs k with m:=m,shown:=true}else gs
def ZZ (gs:List Xi) (k:Int):Int:=if inR gs k then(if(ix gs k).shown then 0 else 1)else 3
def Jz (gs:List Xi) (k:Int):List UInt8:=if ZZ gs k=0 then(ix gs k).m.d else[]
def xcT (gs:List Xi) (k:Int):Int:=if inR gs k then 0 else 3
def V2 (gs:List Xi) (k:Int):List Xi:=if inR gs k then gs.set k.toNat {ix gs k with m:=⟨⟨none,0,0⟩,[]⟩,shown:=false}else gs
section
attribute [local irreducible] BrK Xq Xt Xv XI FnK XZ Xw XC XV opX opK Yq Yk eqR Yj Yo Ys WL WD W X3 XO Tr drewK Ya X4 Yw Yv X1 YB mp blk rob sl sep ex fact old
theorem xlG {s:SV} {xs:List UInt8} {n:Int}:Xb prog 281 #[s.v,.int .i64 n] [sl true s.v xs] fun v l'=>v=.bool (xa0 xs.length n)∧l'=[]:=by
 intro F K hK
 simp only[ap]
 refine S.I fun u=>?_
 repeat' (first|refine S.x ?_|refine S.y ?_ ?_|intro hb|fail)
 all_goals
  refine Tr.fin hK ⟨by simp[xa0];omega,rfl⟩ ?_
  exact S.E
theorem xst {b:Nat} {o:ObW} {gs:List Xu} {k:Int} {s:SV} {xs:List UInt8} (hn:xs.length≤1000000) (hg: (ix gs k).ms.length≤1000000):Xb prog 251 #[.pointer (some ⟨b,0,none⟩),.int .i64 k,s.v] [obB b o,fam VD gs,sl false o.ps.v (gs.map Xu.pt),sl true s.v xs]
  fun v l'=>∃s1 s2,v=.int .i64 (Qt gs k xs.length)∧l'=[obB b o,sl false o.ps.v ((QS gs k s1 ⟨s2,xs⟩).map Xu.pt),fam VD (QS gs k s1 ⟨s2,xs⟩)]:=by
 intro F K hK
 simp only[ap]
 by_cases h:inR gs k
 ·have ⟨h0,h1⟩:=h
  have hs:=fun s m=>YW (f:=Xu.pt) h0 h1 {ix gs k with s:=s,ms:=m} rfl
  refine Tr.famAt (A:=VD) k S.K h0 h1 ?_
  refine xa2 ?_
  refine S.I fun u=>?_
  have hX:=@xKh.eq_def;repeat' (first|refine S.x ?_|refine S.y ?_ ?_|(refine G.call 279 ?_;refine S.c ?_ (h:=xg6 S.o S.o))|(refine G.call 281 ?_;refine S.c ?_ (h:=xlG))|(refine G.call 35 ?_;first|refine S.c ?_ (h:=We S.o))|rintro _ _ ⟨rfl,rfl⟩|rintro _ _ ⟨_,rfl,rfl⟩|intro hb|fail)
  all_goals
   apply Tr.fin hK ⟨_,_,(by first|(simp[*,Qt];done)|fail),rfl⟩
   (have hX:=I3 @QS.eq_def @Qt.eq_def hs;exact S.E)
   all_goals exact SV.mk none 0 0
 ·have h':=h
  unfold inR at h'
  refine S.I fun u=>?_
  have hX:=@xKh.eq_def;repeat' (first|refine S.x ?_|(refine G.call 279 ?_;first|refine S.c ?_ (h:=xem S.o))|rintro _ _ ⟨rfl,rfl⟩|fail)
  all_goals
   apply Tr.fin hK ⟨⟨none,0,0⟩,⟨none,0,0⟩,(by first|(simp[*,Qt];done)|fail),rfl⟩
   (have hX:=And.intro @QS.eq_def @Qt.eq_def;exact S.E)
theorem xud {b:Nat} {o:ObW} {gs:List Xu} {k:Int}:Xb prog 249 #[.pointer (some ⟨b,0,none⟩),.int .i64 k] [obB b o,fam VD gs,sl false o.ps.v (gs.map Xu.pt)]
  fun v l'=>∃s1,v=.tuple #[(W1 gs k).s.v,.int .i64 (Wn gs k)]∧l'=[obB b o,sl false o.ps.v ((xaK gs k s1).map Xu.pt),fam VD (xaK gs k s1),Fz.fz (W1 gs k)]:=by
 intro F K hK
 simp only[ap]
 by_cases h:inR gs k
 ·have ⟨h0,h1⟩:=h
  have hs:=fun s m=>YW (f:=Xu.pt) h0 h1 {ix gs k with s:=s,ms:=m} rfl
  refine Tr.famAt (A:=VD) k S.K h0 h1 ?_
  refine xa2 ?_
  refine S.I fun u=>?_
  repeat' (first|refine S.x ?_|refine S.y ?_ ?_|(refine G.call 279 ?_;refine S.c ?_ (h:=xg6 S.o S.o))|(refine G.call 280 ?_;refine S.c ?_ (h:=xe0 S.o S.o S.o))|rintro _ _ ⟨rfl,rfl⟩|rintro _ _ ⟨_,rfl,rfl⟩|intro hb|fail)
  all_goals
   apply Tr.fin hK ⟨_,(by first|(simp only[↓reduceIte,Int.reduceEq,eq_self, *,W1,Wn];done)|(simp only[↓reduceIte,Int.reduceEq, *,W1,Wn];rfl)),rfl⟩
   (have hX:=I4 @xaK.eq_def @Wn.eq_def @W1.eq_def hs;exact S.E)
   all_goals exact SV.mk none 0 0
 ·have h':=h
  unfold inR at h'
  refine S.I fun u=>?_
  repeat' (first|refine S.x ?_|(refine G.call 279 ?_;first|refine S.c ?_ (h:=xem S.o))|rintro _ _ ⟨rfl,rfl⟩|fail)
  all_goals
   apply Tr.fin hK ⟨⟨none,0,0⟩,(by first|(simp only[↓reduceIte,Int.reduceEq, *,W1,Wn];rfl)),rfl⟩
   (have hX:=I3 @xaK.eq_def @Wn.eq_def @W1.eq_def;exact S.E)
theorem xte {b:Nat} {o:ObW} {gs:List Xi} {k:Int} {s:SV} {xs:List UInt8} (hn:xs.length≤1000000):Xb prog 254 #[.pointer (some ⟨b,0,none⟩),.int .i64 k,s.v] [obB b o,fam YM gs,sl false o.ls.v (gs.map Xi.pt),sl true s.v xs]
  fun v l'=>∃s2,v=.int .i64 (Vl gs k xs.length)∧l'=[obB b o,sl false o.ls.v ((Vm gs k ⟨s2,xs⟩).map Xi.pt),fam YM (Vm gs k ⟨s2,xs⟩)]:=by
 intro F K hK
 simp only[ap]
 by_cases h:inR gs k
 ·have ⟨h0,h1⟩:=h
  have hs:=fun m u=>YW (f:=Xi.pt) h0 h1 {ix gs k with m:=m,shown:=u} rfl
  refine Tr.famAt (A:=YM) k S.K h0 h1 ?_
  refine Vr ?_
  refine S.I fun u=>?_
  repeat' (first|refine S.x ?_|refine S.y ?_ ?_|(refine G.call 278 ?_;refine S.c ?_ (h:=Q3 S.o S.o))|(refine G.call 281 ?_;refine S.c ?_ (h:=xlG))|(refine G.call 35 ?_;first|refine S.c ?_ (h:=We S.o))|rintro _ _ ⟨rfl,rfl⟩|rintro _ _ ⟨_,rfl,rfl⟩|intro hb|fail)
  all_goals
   apply Tr.fin hK ⟨_,(by first|(simp[*,Vl];done)|fail),rfl⟩
   (have hX:=I3 @Vm.eq_def @Vl.eq_def hs;exact S.E)
   all_goals exact SV.mk none 0 0
 ·have h':=h
  unfold inR at h'
  refine S.I fun u=>?_
  repeat' (first|refine S.x ?_|(refine G.call 278 ?_;first|refine S.c ?_ (h:=Qg S.o))|rintro _ _ ⟨rfl,rfl⟩|fail)
  all_goals
   apply Tr.fin hK ⟨⟨none,0,0⟩,(by first|(simp[*,Vl];done)|fail),rfl⟩
   (have hX:=And.intro @Vm.eq_def @Vl.eq_def;exact S.E)
theorem xrD {b:Nat} {o:ObW} {gs:List Xi} {k:Int} (hn: (ix gs k).m.d.length≤1000000):Xb prog 253 #[.pointer (some ⟨b,0,none⟩),.int .i64 k] [obB b o,fam YM gs,sl false o.ls.v (gs.map Xi.pt)]
  fun v l'=>∃s2:SV,v=.tuple #[s2.v,.int .i64 (ZZ gs k)]∧l'=[obB b o,fam YM gs,sl false o.ls.v (gs.map Xi.pt),sl true s2.v (Jz gs k)]:=by
 intro F K hK
 simp only[ap]
 by_cases h:inR gs k
 ·have ⟨h0,h1⟩:=h
  refine Tr.famAt (A:=YM) k S.K h0 h1 ?_
  refine Vr ?_
  refine S.I fun u=>?_
  repeat' (first|refine S.x ?_|refine S.y ?_ ?_|(refine G.call 278 ?_;refine S.c ?_ (h:=Q3 S.o S.o))|(refine G.call 35 ?_;first|refine S.c ?_ (h:=We S.o))|rintro _ _ ⟨rfl,rfl⟩|rintro _ _ ⟨_,rfl,rfl⟩|intro hb|fail)
  ·refine Tr.nilSl (α:=UInt8) ?_
   refine Tr.freezeAt S.K ?_
   apply Tr.fin hK ⟨⟨none,0,0⟩,(by first|(simp[*,ZZ,SV.v];done)|fail),rfl⟩
   (have hX:=I4 @Jz.eq_def @ZZ.eq_def @SV.v.eq_def @YM.eq_def;exact S.E)
  ·apply Tr.fin hK ⟨_,(by first|(simp only[↓reduceIte, *,ZZ];rfl)),rfl⟩
   (have hX:=I3 @Jz.eq_def @ZZ.eq_def @YM.eq_def;exact S.E)
 ·have h':=h
  unfold inR at h'
  refine S.I fun u=>?_
  repeat' (first|refine S.x ?_|(refine G.call 278 ?_;first|refine S.c ?_ (h:=Qg S.o))|rintro _ _ ⟨rfl,rfl⟩|fail)
  all_goals
   refine Tr.nilSl (α:=UInt8) ?_
   refine Tr.freezeAt S.K ?_
   apply Tr.fin hK ⟨⟨none,0,0⟩,(by first|(simp[*,ZZ,SV.v];done)|fail),rfl⟩
   (have hX:=I4 @Jz.eq_def @ZZ.eq_def @SV.v.eq_def @YM.eq_def;exact S.E)
theorem xsi {b:Nat} {o:ObW} {gs:List Xi} {k:Int}:Xb prog 252 #[.pointer (some ⟨b,0,none⟩),.int .i64 k] [obB b o,fam YM gs,sl false o.ls.v (gs.map Xi.pt)]
  fun v l'=>v=.int .i64 (xcT gs k)∧l'=[obB b o,sl false o.ls.v ((V2 gs k).map Xi.pt),fam YM (V2 gs k)]:=by
 intro F K hK
 simp only[ap]
 by_cases h:inR gs k
 ·have ⟨h0,h1⟩:=h
  have hs:=fun m u=>YW (f:=Xi.pt) h0 h1 {ix gs k with m:=m,shown:=u} rfl
  refine Tr.famAt (A:=YM) k S.K h0 h1 ?_
  refine Vr ?_
  refine S.I fun u=>?_
  repeat' (first|refine S.x ?_|(refine G.call 278 ?_;refine S.c ?_ (h:=Q3 S.o S.o))|rintro _ _ ⟨rfl,rfl⟩|fail)
  all_goals
   refine Tr.fin hK ⟨(by first|(simp[*,xcT];done)|fail),rfl⟩ ?_
   have hd: (⟨⟨none,0,0⟩,[]⟩:Msg)=default:=rfl
   (have hX:=And.intro @V2.eq_def hs;exact S.E)
 ·have h':=h
  unfold inR at h'
  refine S.I fun u=>?_
  repeat' (first|refine S.x ?_|(refine G.call 278 ?_;first|refine S.c ?_ (h:=Qg S.o))|rintro _ _ ⟨rfl,rfl⟩|fail)
  all_goals
   refine Tr.fin hK ⟨(by first|(simp[*,xcT];done)|fail),rfl⟩ ?_
   (have hX:=@V2.eq_def;exact S.E)
def xeB (ps:List Xu) (ls:List Xi) (p k:Int):Int:=if 0≤k then(if inR ls k then(ix ls k).size else 0)else(if inR ps p then(ix ps p).size else 0)
theorem xrM {b:Nat} {o:ObW} {ps:List Xu} {ls:List Xi} {p k:Int}:Xb prog 247 #[.pointer (some ⟨b,0,none⟩),.int .i64 p,.int .i64 k] [obB b o,fam VD ps,sl false o.ps.v (ps.map Xu.pt),fam YM ls,sl false o.ls.v (ls.map Xi.pt)]
  fun v l'=>v=.int .i64 (xeB ps ls p k)∧l'=[obB b o,fam VD ps,sl false o.ps.v (ps.map Xu.pt),fam YM ls,sl false o.ls.v (ls.map Xi.pt)]:=by
 intro F K hK
 simp only[ap]
 by_cases hk:0≤k
 ·by_cases h:inR ls k
  ·have ⟨h0,h1⟩:=h
   refine Tr.famAt (A:=YM) k S.K h0 h1 ?_
   refine Vr ?_
   refine S.I fun u=>?_
   repeat' (first|refine S.x ?_|(refine G.call 278 ?_;refine S.c ?_ (h:=Q3 S.o S.o))|rintro _ _ ⟨rfl,rfl⟩|fail)
   all_goals
    refine Tr.fin hK ⟨(by first|(simp[*,xeB];done)|fail),rfl⟩ ?_
    exact S.E
  ·have h':=h
   unfold inR at h'
   refine S.I fun u=>?_
   repeat' (first|refine S.x ?_|(refine G.call 278 ?_;first|refine S.c ?_ (h:=Qg S.o))|rintro _ _ ⟨rfl,rfl⟩|fail)
   all_goals
    refine Tr.fin hK ⟨(by first|(simp[*,xeB];done)|fail),rfl⟩ ?_
    exact S.E
 ·by_cases h:inR ps p
  ·have ⟨h0,h1⟩:=h
   refine Tr.famAt (A:=VD) p S.K h0 h1 ?_
   refine xa2 ?_
   refine S.I fun u=>?_
   repeat' (first|refine S.x ?_|(refine G.call 279 ?_;refine S.c ?_ (h:=xg6 S.o S.o))|rintro _ _ ⟨rfl,rfl⟩|fail)
   all_goals
    refine Tr.fin hK ⟨(by first|(simp[*,xeB];done)|fail),rfl⟩ ?_
    exact S.E
  ·have h':=h
   unfold inR at h'
   refine S.I fun u=>?_
   repeat' (first|refine S.x ?_|(refine G.call 279 ?_;first|refine S.c ?_ (h:=xem S.o))|rintro _ _ ⟨rfl,rfl⟩|fail)
   all_goals
    refine Tr.fin hK ⟨(by first|(simp[*,xeB];done)|fail),rfl⟩ ?_
    exact S.E
