import Derived.Test.YtmebccjndhlpoaaGreatZ19
namespace Go.Proofs.YtmebccjndhlpoaaGreat
open Go Go.Wk Tryz
set_option maxHeartbeats 3200000
set_option maxRecDepth 10000
abbrev poB (p:Nat) (s:SV):Xc:=blk p (.cells #[s.v] 232 (0,0))
def Vd (gs:List Xg) (k:Int) (q i:Bool):Bool:=if inR gs k then(((ix gs k).q==q)&&((ix gs k).i==i))else false
def xbP (gs:List Xg) (k:Int):Int:=if inR gs k then(ix gs k).size else 0
def Wf (n:Nat) (size:Int):Bool:=!decide ((n:Int)<1)&&!decide (size<(n:Int))
def xbs (gs:List Xg) (k:Int) (q:Bool) (n:Nat):Int:=if Vd gs k q false=true then(if Wf n (ix gs k).size=true then(if q=true then(if(ix gs k).depth≤(ix gs k).ms.length then 1 else 0)else 0)else 2)else 3
def putP (g:Xg) (s:SV) (m:Msg):Xg:=if g.q=true then{g with s:=s,ms:=xcn g.ms g.depth m}else{g with m:=m,there:=true,fresh:=true}
def WF (gs:List Xg) (k:Int) (q:Bool) (s:SV) (m:Msg):List Xg:=if Vd gs k q false=true then(if Wf m.d.length (ix gs k).size=true then gs.set k.toNat (putP (ix gs k) s m)else gs)else gs
def Z2 (gs:List Xg) (k:Int) (q:Bool):Int:=if Vd gs k q true=true then(if q=true then(if((ix gs k).ms.length:Int)=0 then 1 else 0)else(if(ix gs k).there=true then 0 else 1))else 3
def JW (gs:List Xg) (k:Int) (q:Bool):List UInt8:=if Z2 gs k q=0 then(if q=true then(ix (ix gs k).ms 0).d else(ix gs k).m.d)else[]
def W8 (gs:List Xg) (k:Int) (q:Bool) (s:SV):List Xg:=if Vd gs k q true=true then(if q=true then gs.set k.toNat {ix gs k with s:=s,ms:=(ix gs k).ms.drop 1}else gs)else gs
def Wa (gs:List Xg) (k:Int):List (List UInt8):=if inR gs k then(if(ix gs k).i=true then[]else if(ix gs k).q=true then(ix gs k).ms.map SL.d else if(ix gs k).fresh=true then[(ix gs k).m.d]else[])else[]
def JD (gs:List Xg) (k:Int):List Xg:=if inR gs k then(if(ix gs k).i=true then gs else if(ix gs k).q=true then gs.set k.toNat {ix gs k with s:=⟨none,0,0⟩,ms:=[]}else gs.set k.toNat {ix gs k with fresh:=false})else gs
def xgd (gs:List Xg) (k:Int):Bool:=if inR gs k then(if(ix gs k).i=true then(if(ix gs k).q=true then !decide ((ix gs k).depth≤(ix gs k).ms.length)else true)else false)else false
def xgF (g:Xg) (s:SV) (m:Msg):Xg:=if g.q=true then(if g.depth≤g.ms.length then{g with s:=s,lost:=IntKind.i64.wrap (g.lost+1)}else{g with s:=s,ms:=g.ms++[m]})else{g with m:=m,there:=true,fresh:=true}
def xc6 (gs:List Xg) (k:Int) (s:SV) (m:Msg):List Xg:=if inR gs k then(if(ix gs k).i=true then gs.set k.toNat (xgF (ix gs k) s m)else gs)else gs
section
attribute [local irreducible] BrK Xq Xt Xv XI FnK XZ Xw XC XV opX opK Yq Yk eqR Yj Yo Ys WL WD W X3 XO Tr drewK Ya X4 Yw Yv X1 YB mp blk rob sl sep ex fact old
theorem Jm {p:Nat} {s:SV} {gs:List Xg} {k:Int} (h0:0≤k) (h1:k<gs.length):Xb prog 258 #[.pointer (some ⟨p,0,none⟩),.int .i64 k] [poB p s,sl false s.v (gs.map Xg.pt)]
  fun v l'=>v=.pointer (some ⟨(ix gs k).b,0,none⟩)∧l'=[poB p s,sl false s.v (gs.map Xg.pt)]:=by
 intro F K hK
 simp only[ap]
 have hm:=Xp (f:=Xg.pt) h0 h1
 have hl: (gs.map Xg.pt).length=gs.length:=List.length_map _
 refine S.I fun u=>?_
 have hX:=hm;repeat' (first|refine S.x ?_|intro hb|fail)
 all_goals
  refine Tr.fin hK ⟨rfl,rfl⟩ ?_
  exact S.E
theorem W2 {p:Nat} {s:SV} {gs:List Xg} {k:Int} (h:¬(0≤k∧k<gs.length)):Xb prog 258 #[.pointer (some ⟨p,0,none⟩),.int .i64 k] [poB p s,sl false s.v (gs.map Xg.pt)]
  fun v l'=>v=.pointer none∧l'=[poB p s,sl false s.v (gs.map Xg.pt)]:=by
 intro F K hK
 simp only[ap]
 have hl: (gs.map Xg.pt).length=gs.length:=List.length_map _
 refine S.I fun u=>?_
 repeat' (first|refine S.x ?_|refine S.y ?_ ?_|intro hb|fail)
 all_goals
  refine Tr.fin hK ⟨rfl,rfl⟩ ?_
  exact S.E
theorem xa8 {p:Nat} {s:SV} {gs:List Xg} {k:Int} {q i:Bool}:Xb prog 235 #[.pointer (some ⟨p,0,none⟩),.int .i64 k,.bool q,.bool i] [poB p s,fam Ym gs,sl false s.v (gs.map Xg.pt)]
  fun v l'=>v=.bool (Vd gs k q i)∧l'=[poB p s,fam Ym (gs),sl false s.v ((gs).map Xg.pt)]:=by
 intro F K hK
 simp only[ap]
 by_cases h:inR gs k
 ·have ⟨h0,h1⟩:=h
  have hm:=Xp (f:=Xg.pt) h0 h1
  have hl: (gs.map Xg.pt).length=gs.length:=List.length_map _
  refine Tr.famAt (A:=Ym) k S.K h0 h1 ?_
  cases hq: (ix gs k).q
  ·refine Z0 hq ?_
   refine S.I fun u=>?_
   have hX:=And.intro hm @Xg.pt.eq_def;repeat' (first|refine S.x ?_|refine S.y ?_ ?_|(refine G.call 258 ?_;refine S.c ?_ (h:=Jm S.o S.o))|rintro _ _ ⟨rfl,rfl⟩|intro hb|fail)
   all_goals
    refine Tr.fin hK ⟨(by first|(simp[*,Vd];done)|fail),rfl⟩ ?_
    (have hX:=I3 @Vd.eq_def @Ym.eq_def hq;exact S.E)
    all_goals first|exact SV.mk none 0 0|exact SL.mk ⟨none,0,0⟩ []
  ·refine Z8 hq ?_
   refine S.I fun u=>?_
   have hX:=And.intro hm @Xg.pt.eq_def;repeat' (first|refine S.x ?_|refine S.y ?_ ?_|(refine G.call 258 ?_;refine S.c ?_ (h:=Jm S.o S.o))|rintro _ _ ⟨rfl,rfl⟩|intro hb|fail)
   all_goals
    refine Tr.fin hK ⟨(by first|(simp[*,Vd];done)|fail),rfl⟩ ?_
    (have hX:=I3 @Vd.eq_def @Ym.eq_def hq;exact S.E)
    all_goals first|exact SV.mk none 0 0|exact SL.mk ⟨none,0,0⟩ []
 ·have h':=h
  unfold inR at h'
  refine S.I fun u=>?_
  repeat' (first|refine S.x ?_|(refine G.call 258 ?_;first|refine S.c ?_ (h:=W2 S.o))|rintro _ _ ⟨rfl,rfl⟩|fail)
  all_goals
   refine Tr.fin hK ⟨(by first|(simp[*,Vd];done)|fail),rfl⟩ ?_
   (have hX:=@Vd.eq_def;exact S.E)
   all_goals first|exact SV.mk none 0 0|exact SL.mk ⟨none,0,0⟩ []
theorem xpE {p:Nat} {s:SV} {gs:List Xg} {k:Int}:Xb prog 234 #[.pointer (some ⟨p,0,none⟩),.int .i64 k] [poB p s,fam Ym gs,sl false s.v (gs.map Xg.pt)]
  fun v l'=>v=.int .i64 (xbP gs k)∧l'=[poB p s,fam Ym (gs),sl false s.v ((gs).map Xg.pt)]:=by
 intro F K hK
 simp only[ap]
 by_cases h:inR gs k
 ·have ⟨h0,h1⟩:=h
  have hm:=Xp (f:=Xg.pt) h0 h1
  have hl: (gs.map Xg.pt).length=gs.length:=List.length_map _
  refine Tr.famAt (A:=Ym) k S.K h0 h1 ?_
  cases hq: (ix gs k).q
  ·refine Z0 hq ?_
   refine S.I fun u=>?_
   have hX:=And.intro hm @Xg.pt.eq_def;repeat' (first|refine S.x ?_|(refine G.call 258 ?_;refine S.c ?_ (h:=Jm S.o S.o))|rintro _ _ ⟨rfl,rfl⟩|fail)
   all_goals
    refine Tr.fin hK ⟨(by first|(simp[*,xbP];done)|fail),rfl⟩ ?_
    (have hX:=I3 @xbP.eq_def @Ym.eq_def hq;exact S.E)
    all_goals first|exact SV.mk none 0 0|exact SL.mk ⟨none,0,0⟩ []
  ·refine Z8 hq ?_
   refine S.I fun u=>?_
   have hX:=And.intro hm @Xg.pt.eq_def;repeat' (first|refine S.x ?_|(refine G.call 258 ?_;refine S.c ?_ (h:=Jm S.o S.o))|rintro _ _ ⟨rfl,rfl⟩|fail)
   all_goals
    refine Tr.fin hK ⟨(by first|(simp[*,xbP];done)|fail),rfl⟩ ?_
    (have hX:=I3 @xbP.eq_def @Ym.eq_def hq;exact S.E)
    all_goals first|exact SV.mk none 0 0|exact SL.mk ⟨none,0,0⟩ []
 ·have h':=h
  unfold inR at h'
  refine S.I fun u=>?_
  repeat' (first|refine S.x ?_|(refine G.call 258 ?_;first|refine S.c ?_ (h:=W2 S.o))|rintro _ _ ⟨rfl,rfl⟩|fail)
  all_goals
   refine Tr.fin hK ⟨(by first|(simp[*,xbP];done)|fail),rfl⟩ ?_
   (have hX:=@xbP.eq_def;exact S.E)
   all_goals first|exact SV.mk none 0 0|exact SL.mk ⟨none,0,0⟩ []
theorem xjt {p:Nat} {s:SV} {gs:List Xg} {k:Int} {s2:SV} {xs:List UInt8} (hn:xs.length≤1000000) (hl0: (ix gs k).ms.length≤1000000):Xb prog 204 #[.pointer (some ⟨p,0,none⟩),.int .i64 k,s2.v] [poB p s,fam Ym gs,sl false s.v (gs.map Xg.pt),sl true s2.v xs]
  fun v l'=>∃s3 s4,v=.bool (xgd gs k)∧l'=[poB p s,fam Ym (xc6 gs k s3 ⟨s4,xs⟩),sl false s.v ((xc6 gs k s3 ⟨s4,xs⟩).map Xg.pt)]:=by
 intro F K hK
 simp only[ap]
 by_cases h:inR gs k
 ·have ⟨h0,h1⟩:=h
  have hm:=Xp (f:=Xg.pt) h0 h1
  have hl: (gs.map Xg.pt).length=gs.length:=List.length_map _
  have hs:=fun q i sz d lo c s ms m t f=>YW (f:=Xg.pt) h0 h1 ⟨(ix gs k).b,q,i,sz,d,lo,c,s,ms,m,t,f⟩ rfl
  refine Tr.famAt (A:=Ym) k S.K h0 h1 ?_
  cases hq: (ix gs k).q
  ·refine Z0 hq ?_
   refine S.I fun u=>?_
   have hX:=And.intro hm @Xg.pt.eq_def;repeat' (first|refine S.x ?_|refine S.y ?_ ?_|(refine G.call 258 ?_;refine S.c ?_ (h:=Jm S.o S.o))|(refine G.call 319 ?_;refine S.c ?_ (h:=xlm ?_))|rintro _ _ ⟨rfl,rfl⟩|rintro _ _ ⟨_,rfl,rfl⟩|(refine G.prop ?_;assumption)|intro hb|fail)
   all_goals
    apply Tr.fin hK ⟨_,_,(by first|(simp[*,xgd];done)|fail),rfl⟩
    (have hX:=I6 @xc6.eq_def @xgF.eq_def @xcn.eq_def hs @Ym.eq_def hq;exact S.E)
    all_goals first|exact SV.mk none 0 0|exact SL.mk ⟨none,0,0⟩ []
  ·refine Z8 hq ?_
   refine S.I fun u=>?_
   have hX:=And.intro hm @Xg.pt.eq_def;repeat' (first|refine S.x ?_|refine S.y ?_ ?_|(refine G.call 258 ?_;refine S.c ?_ (h:=Jm S.o S.o))|(refine G.call 317 ?_;refine S.c ?_ (h:=xk1 ?_ ?_))|rintro _ _ ⟨rfl,rfl⟩|rintro _ _ ⟨_,_,rfl,rfl⟩|(refine G.prop ?_;assumption)|intro hb|fail)
   all_goals
    apply Tr.fin hK ⟨_,_,(by first|(simp[*,xgd];done)|fail),rfl⟩
    (have hX:=I6 @xc6.eq_def @xgF.eq_def @xcn.eq_def hs @Ym.eq_def hq;exact S.E)
    all_goals first|exact SV.mk none 0 0|exact SL.mk ⟨none,0,0⟩ []
 ·have h':=h
  unfold inR at h'
  refine S.I fun u=>?_
  repeat' (first|refine S.x ?_|(refine G.call 258 ?_;first|refine S.c ?_ (h:=W2 S.o))|rintro _ _ ⟨rfl,rfl⟩|fail)
  all_goals
   apply Tr.fin hK ⟨_,_,(by first|(simp[*,xgd];done)|fail),rfl⟩
   (have hX:=I3 @xc6.eq_def @xgF.eq_def @xcn.eq_def;exact S.E)
   all_goals first|exact SV.mk none 0 0|exact SL.mk ⟨none,0,0⟩ []
theorem xl1 {p:Nat} {s:SV} {gs:List Xg} {k:Int} {q:Bool} {s2:SV} {xs:List UInt8} (hn:xs.length≤1000000) (hl0: (ix gs k).ms.length≤1000000):Xb prog 219 #[.pointer (some ⟨p,0,none⟩),.int .i64 k,.bool q,s2.v] [poB p s,fam Ym gs,sl false s.v (gs.map Xg.pt),sl true s2.v xs]
  fun v l'=>∃s3 s4,v=.int .i64 (xbs gs k q xs.length)∧l'=[poB p s,fam Ym (WF gs k q s3 ⟨s4,xs⟩),sl false s.v ((WF gs k q s3 ⟨s4,xs⟩).map Xg.pt)]:=by
 intro F K hK
 simp only[ap]
 by_cases h:inR gs k
 ·have ⟨h0,h1⟩:=h
  have hm:=Xp (f:=Xg.pt) h0 h1
  have hl: (gs.map Xg.pt).length=gs.length:=List.length_map _
  have hs:=fun q i sz d lo c s ms m t f=>YW (f:=Xg.pt) h0 h1 ⟨(ix gs k).b,q,i,sz,d,lo,c,s,ms,m,t,f⟩ rfl
  cases hc:Vd gs k q false
  ·refine S.I fun u=>?_
   have hX:=hc;repeat' (first|refine S.x ?_|(refine G.call 235 ?_;first|refine S.c ?_ (h:=xa8))|rintro _ _ ⟨rfl,rfl⟩|fail)
   all_goals
    (apply Tr.fin hK ⟨⟨none,0,0⟩,⟨none,0,0⟩,(by first|(simp[*,xbs];done)|fail),rfl⟩;(have hX:=And.intro @WF.eq_def hc;exact S.E))
  ·have hqi: (ix gs k).q=q:=by
    simp[Vd,h]at hc
    exact hc.1
   refine S.I fun u=>?_
   have hX:=I3 hc hm @Xg.pt.eq_def;repeat' (first|refine S.x ?_|refine S.y ?_ ?_|(refine G.call 235 ?_;first|refine S.c ?_ (h:=xa8))|rintro _ _ ⟨rfl,rfl⟩|intro hb|fail)
   all_goals
    refine Tr.famAt (A:=Ym) k S.K h0 h1 ?_
    cases hq: (ix gs k).q
    ·obtain rfl:q=false:=hqi.symm.trans hq
     refine Z0 hq ?_
     have hX:=And.intro hm @Xg.pt.eq_def;repeat' (first|refine S.x ?_|refine S.y ?_ ?_|(refine G.call 319 ?_;refine S.c ?_ (h:=xlm ?_))|rintro _ _ ⟨_,rfl,rfl⟩|(refine G.prop ?_;assumption)|intro hb|fail)
     all_goals
      apply Tr.fin hK ⟨_,_,(by first|(simp[*,xbs,Wf];done)|fail),rfl⟩
      (have hX:=I8 @WF.eq_def @Wf.eq_def @putP.eq_def @xcn.eq_def hs hc @Ym.eq_def hq;exact S.E)
      all_goals first|exact SV.mk none 0 0|exact SL.mk ⟨none,0,0⟩ []
    ·obtain rfl:q=true:=hqi.symm.trans hq
     refine Z8 hq ?_
     have hX:=And.intro hm @Xg.pt.eq_def;repeat' (first|refine S.x ?_|refine S.y ?_ ?_|(refine G.call 317 ?_;refine S.c ?_ (h:=xk1 ?_ ?_))|rintro _ _ ⟨_,_,rfl,rfl⟩|(refine G.prop ?_;assumption)|intro hb|fail)
     all_goals
      apply Tr.fin hK ⟨_,_,(by first|(simp[*,xbs,Wf];done)|fail),rfl⟩
      (have hX:=I8 @WF.eq_def @Wf.eq_def @putP.eq_def @xcn.eq_def hs hc @Ym.eq_def hq;exact S.E)
      all_goals first|exact SV.mk none 0 0|exact SL.mk ⟨none,0,0⟩ []
 ·have h':=h
  unfold inR at h'
  have hc:Vd gs k q false=false:=by simp[Vd,h]
  refine S.I fun u=>?_
  have hX:=hc;repeat' (first|refine S.x ?_|(refine G.call 235 ?_;first|refine S.c ?_ (h:=xa8))|rintro _ _ ⟨rfl,rfl⟩|fail)
  all_goals
   (apply Tr.fin hK ⟨⟨none,0,0⟩,⟨none,0,0⟩,(by first|(simp[*,xbs];done)|fail),rfl⟩;(have hX:=And.intro @WF.eq_def hc;exact S.E))
theorem xpH {p:Nat} {s:SV} {gs:List Xg} {k:Int} {s2:SV} {xs:List UInt8} (hn:xs.length≤1000000) (hl0: (ix gs k).ms.length≤1000000):Xb prog 240 #[.pointer (some ⟨p,0,none⟩),.int .i64 k,s2.v] [poB p s,fam Ym gs,sl false s.v (gs.map Xg.pt),sl true s2.v xs]
  fun v l'=>∃s3 s4,v=.int .i64 (xbs gs k false xs.length)∧l'=[poB p s,fam Ym (WF gs k false s3 ⟨s4,xs⟩),sl false s.v ((WF gs k false s3 ⟨s4,xs⟩).map Xg.pt)]:=by
 intro F K hK
 simp only[ap]
 refine S.I fun u=>?_
 repeat' (first|refine S.x ?_|(refine G.call 219 ?_;first|refine S.c ?_ (h:=xl1 ?_ ?_))|rintro _ _ ⟨_,_,rfl,rfl⟩|(refine G.prop ?_;assumption)|fail)
 all_goals
  apply Tr.fin hK ⟨_,_,rfl,rfl⟩
  exact S.E
theorem xsk {p:Nat} {s:SV} {gs:List Xg} {k:Int} {s2:SV} {xs:List UInt8} (hn:xs.length≤1000000) (hl0: (ix gs k).ms.length≤1000000):Xb prog 181 #[.pointer (some ⟨p,0,none⟩),.int .i64 k,s2.v] [poB p s,fam Ym gs,sl false s.v (gs.map Xg.pt),sl true s2.v xs]
  fun v l'=>∃s3 s4,v=.int .i64 (xbs gs k true xs.length)∧l'=[poB p s,fam Ym (WF gs k true s3 ⟨s4,xs⟩),sl false s.v ((WF gs k true s3 ⟨s4,xs⟩).map Xg.pt)]:=by
 intro F K hK
 simp only[ap]
 refine S.I fun u=>?_
 repeat' (first|refine S.x ?_|(refine G.call 219 ?_;first|refine S.c ?_ (h:=xl1 ?_ ?_))|rintro _ _ ⟨_,_,rfl,rfl⟩|(refine G.prop ?_;assumption)|fail)
 all_goals
  apply Tr.fin hK ⟨_,_,rfl,rfl⟩
  exact S.E
theorem xm5 {b c:Nat} {i:Bool} {sz d0 d lost:Int} {s:SV} {ms:List Msg}:Xb prog 267 #[.pointer (some ⟨b,0,none⟩)] [onB b true i sz d0 (.iface 301 (.pointer (some ⟨c,0,none⟩))) lost,quB c s d,sl false s.v ms,fzl ms]
  fun v l'=>∃s3,v=.tuple #[(ix ms 0).s.v,.bool (!decide ((ms.length:Int)=0))]∧l'=[onB b true i sz d0 (.iface 301 (.pointer (some ⟨c,0,none⟩))) lost,quB c s3 d,sl false s3.v (ms.drop 1),fzl (ms.drop 1),Fz.fz (ix ms 0)]:=by
 intro F K hK
 simp only[ap]
 refine S.I fun u=>?_
 have hX:=@xJO.eq_def;repeat' (first|refine S.x ?_|(refine G.call 283 ?_;refine S.c ?_ (h:=xqn))|rintro _ _ ⟨_,rfl,rfl⟩|fail)
 all_goals
  apply Tr.fin hK ⟨_,rfl,rfl⟩
  exact S.E
theorem xnK {b c:Nat} {i:Bool} {sz d0 lost:Int} {m:Msg} {t f:Bool} (hn:m.d.length≤1000000):Xb prog 267 #[.pointer (some ⟨b,0,none⟩)] [onB b false i sz d0 (.iface 304 (.pointer (some ⟨c,0,none⟩))) lost,saB c m t f,sl true m.s.v m.d]
  fun v l'=>∃s2:SV,v=.tuple #[s2.v,.bool t]∧l'=[onB b false i sz d0 (.iface 304 (.pointer (some ⟨c,0,none⟩))) lost,saB c m t f,sl true s2.v m.d]:=by
 intro F K hK
 simp only[ap]
 refine S.I fun u=>?_
 have hX:=@xJO.eq_def;repeat' (first|refine S.x ?_|(refine G.call 35 ?_;first|refine S.c ?_ (h:=We S.o))|rintro _ _ ⟨_,rfl,rfl⟩|fail)
 all_goals
  apply Tr.fin hK ⟨_,rfl,rfl⟩
  exact S.E
theorem xoA {p:Nat} {s:SV} {gs:List Xg} {k:Int} {q:Bool} (hl0: (ix gs k).m.d.length≤1000000):Xb prog 221 #[.pointer (some ⟨p,0,none⟩),.int .i64 k,.bool q] [poB p s,fam Ym gs,sl false s.v (gs.map Xg.pt)]
  fun v l'=>∃s3 r,r.d=JW gs k q∧v=.tuple #[SV.v (SL.s r),.int .i64 (Z2 gs k q)]∧l'=[poB p s,fam Ym (W8 gs k q s3),sl false s.v ((W8 gs k q s3).map Xg.pt),Fz.fz (r:Msg)]:=by
 intro F K hK
 simp only[ap]
 by_cases h:inR gs k
 ·have ⟨h0,h1⟩:=h
  have hm:=Xp (f:=Xg.pt) h0 h1
  have hl: (gs.map Xg.pt).length=gs.length:=List.length_map _
  have hs:=fun q i sz d lo c s ms m t f=>YW (f:=Xg.pt) h0 h1 ⟨(ix gs k).b,q,i,sz,d,lo,c,s,ms,m,t,f⟩ rfl
  cases hc:Vd gs k q true
  ·refine S.I fun u=>?_
   have hX:=hc;repeat' (first|refine S.x ?_|(refine G.call 235 ?_;first|refine S.c ?_ (h:=xa8))|rintro _ _ ⟨rfl,rfl⟩|fail)
   all_goals
    (apply Tr.fin hK ⟨⟨none,0,0⟩,default,(by first|(simp only[WKe,↓reduceIte,Int.reduceEq, *,Z2,JW];rfl)),(by first|(simp only[WKe,↓reduceIte, *,Z2];rfl)),rfl⟩;(have hX:=And.intro @W8.eq_def hc;exact S.E))
  ·have hqi: (ix gs k).q=q:=by
    simp[Vd,h]at hc
    exact hc.1
   refine S.I fun u=>?_
   have hX:=I3 hc hm @Xg.pt.eq_def;repeat' (first|refine S.x ?_|(refine G.call 235 ?_;first|refine S.c ?_ (h:=xa8))|rintro _ _ ⟨rfl,rfl⟩|intro hb|fail)
   all_goals
    refine Tr.famAt (A:=Ym) k S.K h0 h1 ?_
    cases hq: (ix gs k).q
    ·obtain rfl:q=false:=hqi.symm.trans hq
     refine Z0 hq ?_
     have hX:=And.intro hm @Xg.pt.eq_def;repeat' (first|refine S.x ?_|refine S.y ?_ ?_|(refine G.call 267 ?_;first|refine S.c ?_ (h:=xnK ?_))|rintro _ _ ⟨_,rfl,rfl⟩|(refine G.prop ?_;assumption)|intro hb|fail)
     all_goals
      first|apply Tr.fin hK ⟨_,ix (ix gs k).ms 0,(by first|(simp[*,Z2,JW];done)|(simp only[WKe,↓reduceIte,Int.reduceEq,eq_self, *,Z2,JW];done)|(simp only[WKe,↓reduceIte,Int.reduceEq, *,Z2,JW];rfl)),(by first|(simp[*,Z2,JW,hc];done)|(simp only[WKe,↓reduceIte,reduceCtorEq,Int.reduceEq,eq_self, *,Z2,JW,hc];done)|(simp only[WKe,↓reduceIte,reduceCtorEq,Int.reduceEq, *,Z2,JW,hc];rfl)),rfl⟩|apply Tr.fin hK ⟨_,default,(by first|(simp only[WKe,↓reduceIte,Int.reduceEq, *,Z2,JW];rfl)),(by first|(simp only[WKe,↓reduceIte, *,Z2];rfl)),rfl⟩|apply Tr.fin hK ⟨_,SL.mk _ (ix gs k).m.d,(by first|(simp[*,Z2,JW];done)|fail),(by first|(simp only[WKe,↓reduceIte, *,Z2];rfl)),rfl⟩
      (have hX:=I5 @W8.eq_def hs hc @Ym.eq_def hq;exact S.E)
      all_goals first|exact SV.mk none 0 0|exact SL.mk ⟨none,0,0⟩ []
    ·obtain rfl:q=true:=hqi.symm.trans hq
     refine Z8 hq ?_
     have hX:=And.intro hm @Xg.pt.eq_def;repeat' (first|refine S.x ?_|refine S.y ?_ ?_|(refine G.call 267 ?_;refine S.c ?_ (h:=xm5))|rintro _ _ ⟨_,rfl,rfl⟩|intro hb|fail)
     all_goals
      first|apply Tr.fin hK ⟨_,ix (ix gs k).ms 0,(by first|(simp only[↓reduceIte,Int.reduceEq,eq_self, *,Z2,JW];done)|fail),(by first|(simp only[↓reduceIte,eq_self, *,Z2];done)|fail),rfl⟩|apply Tr.fin hK ⟨_,default,(by first|(simp only[↓reduceIte,Int.reduceEq, *,Z2,JW];rfl)),(by first|(simp only[↓reduceIte, *,Z2];rfl)),rfl⟩|apply Tr.fin hK ⟨_,SL.mk _ (ix gs k).m.d,(by first|(simp[*,Z2,JW,hc];done)|(simp only[WKe,↓reduceIte,reduceCtorEq,Int.reduceEq,eq_self, *,Z2,JW,hc];done)|(simp only[WKe,↓reduceIte,reduceCtorEq,Int.reduceEq, *,Z2,JW,hc];rfl)),(by first|(simp[*,Z2,JW,hc];done)|(simp only[WKe,↓reduceIte,reduceCtorEq,Int.reduceEq,eq_self, *,Z2,JW,hc];done)|(simp only[WKe,↓reduceIte,reduceCtorEq,Int.reduceEq, *,Z2,JW,hc];rfl)),rfl⟩
      (have hX:=I5 @W8.eq_def hs hc @Ym.eq_def hq;exact S.E)
      all_goals first|exact SV.mk none 0 0|exact SL.mk ⟨none,0,0⟩ []
 ·have h':=h
  unfold inR at h'
  have hc:Vd gs k q true=false:=by simp[Vd,h]
  refine S.I fun u=>?_
  have hX:=hc;repeat' (first|refine S.x ?_|(refine G.call 235 ?_;first|refine S.c ?_ (h:=xa8))|rintro _ _ ⟨rfl,rfl⟩|fail)
  all_goals
   (apply Tr.fin hK ⟨⟨none,0,0⟩,default,(by first|(simp only[WKe,↓reduceIte,Int.reduceEq, *,Z2,JW];rfl)),(by first|(simp only[WKe,↓reduceIte, *,Z2];rfl)),rfl⟩;(have hX:=And.intro @W8.eq_def hc;exact S.E))
