import Derived.Test.YtmebccjndhlpoaaGreatZ20
namespace Go.Proofs.YtmebccjndhlpoaaGreat
open Go Go.Wk Tryz
set_option maxHeartbeats 64000000
set_option maxRecDepth 10000
def Xg.core (g:Xg):Bool×Bool×Int×Int×Int×SV×List Msg×Msg×Bool×Bool:=(g.q,g.i,g.size,g.depth,g.lost,g.s,g.ms,g.m,g.there,g.fresh)
def JJ (c:Zd):Bool×Bool×Int×Int×Int×SV×List Msg×Msg×Bool×Bool:=(c.q,c.i,c.size,c.depth,0,⟨none,0,0⟩,[],default,false,false)
def Xg.mk0 (b c:Nat) (x:Zd):Xg:=⟨b,x.q,x.i,x.size,x.depth,0,c,⟨none,0,0⟩,[],default,false,false⟩
section
attribute [local irreducible] BrK Xq Xt Xv XI FnK XZ Xw XC XV opX opK Yq Yk eqR Yj Yo Ys WL WD W X3 XO Tr drewK Ya X4 Yw Yv X1 YB mp blk rob sl sep ex fact old Instr.storeAt Instr.loadAt Instr.fieldAt Instr.indexAt Instr.lookup Instr.mapUpdate Instr.box Instr.alloc Instr.build Instr.buildSlice Instr.makeSlice Instr.makeMap Instr.sliceAt Instr.field Instr.index Instr.makeInterface Instr.typeAssert Builtin.len_ Builtin.append_ Builtin.cap_ Builtin.min_ Builtin.max_ Builtin.copy_ Builtin.clear_ convert binOp
theorem xrn {p:Nat} {s:SV} {gs:List Xg} {k:Int} (hl0: (ix gs k).m.d.length≤1000000):Xb prog 237 #[.pointer (some ⟨p,0,none⟩),.int .i64 k] [poB p s,fam Ym gs,sl false s.v (gs.map Xg.pt)]
  fun v l'=>∃s3 r,r.d=JW gs k false∧v=.tuple #[SV.v (SL.s r),.int .i64 (Z2 gs k false)]∧l'=[poB p s,fam Ym (W8 gs k false s3),sl false s.v ((W8 gs k false s3).map Xg.pt),Fz.fz (r:Msg)]:=by
 intro F K hK
 simp only[ap]
 refine S.I fun u=>?_
 ((try simp only[WKb,↓reduceIte,Nat.reduceEqDiff,Nat.reduceAdd])<;>(repeat' ((first
  |(refine G.tr ?_;first|(refine G.call 221 ?_;first|refine S.c ?_ (h:=xoA ?_))|fail)
  |rintro _ _ ⟨_,_,hrd,rfl,rfl⟩
  |((fail_if_success refine G.tr ?_);exact G.prop S.p)
  |fail)<;>(try simp only[WKb,↓reduceIte,Nat.reduceEqDiff]))))
 all_goals
  apply Tr.fin hK ⟨_,_,hrd,rfl,rfl⟩
  ((try clear hK)<;>(try simp only[WKe, *])<;>repeat (first|with_reducible exact Xd.done|fail))
theorem xjM {p:Nat} {s:SV} {gs:List Xg} {k:Int} (hl0: (ix gs k).m.d.length≤1000000):Xb prog 183 #[.pointer (some ⟨p,0,none⟩),.int .i64 k] [poB p s,fam Ym gs,sl false s.v (gs.map Xg.pt)]
  fun v l'=>∃s3 r,r.d=JW gs k true∧v=.tuple #[SV.v (SL.s r),.int .i64 (Z2 gs k true)]∧l'=[poB p s,fam Ym (W8 gs k true s3),sl false s.v ((W8 gs k true s3).map Xg.pt),Fz.fz (r:Msg)]:=by
 intro F K hK
 simp only[ap]
 refine S.I fun u=>?_
 ((try simp only[WKb,↓reduceIte,Nat.reduceEqDiff,Nat.reduceAdd])<;>(repeat' ((first
  |(refine G.tr ?_;first|(refine G.call 221 ?_;first|refine S.c ?_ (h:=xoA ?_))|fail)
  |rintro _ _ ⟨_,_,hrd,rfl,rfl⟩
  |((fail_if_success refine G.tr ?_);exact G.prop S.p)
  |fail)<;>(try simp only[WKb,↓reduceIte,Nat.reduceEqDiff]))))
 all_goals
  apply Tr.fin hK ⟨_,_,hrd,rfl,rfl⟩
  ((try clear hK)<;>(try simp only[WKe, *])<;>repeat (first|with_reducible exact Xd.done|fail))
theorem xk3 {b:Nat} {q i:Bool} {sz d lost:Int} {v0:Value}:Xb prog 112 #[.pointer (some ⟨b,0,none⟩)] [onB b q i sz d v0 lost]
  fun v l'=>∃c,v=.tuple #[]∧l'=[Ym (Xg.mk0 b c ⟨q,i,sz,d⟩)]:=by
 intro F K hK
 simp only[ap]
 have hdm: (⟨⟨none,0,0⟩,[]⟩:Msg)=default:=rfl
 cases q
 ·refine S.I fun u=>?_
  ((try simp only[WKb,↓reduceIte])<;>(repeat' ((first
  |(refine G.tr ?_;first|refine S.a ?_|refine S.n fun _=>?_|fail)
  |fail)<;>(try simp only[WKb,WKh,↓reduceIte,Nat.reduceEqDiff,Nat.reduceAdd]))))
  all_goals
   apply Tr.fin hK ⟨_,rfl,rfl⟩
   ((try clear hK)<;>(try simp only[WKe,Ym,Xg.mk0,↓reduceIte, *])<;>repeat (first|with_reducible exact Xd.done|refine S.e ?_|fail))
 ·refine S.I fun u=>?_
  ((try simp only[WKb,↓reduceIte])<;>(repeat' ((first
  |(refine G.tr ?_;first|refine S.a ?_|refine S.n fun _=>?_|fail)
  |fail)<;>(try simp only[WKb,WKh,↓reduceIte,Nat.reduceEqDiff,Nat.reduceAdd]))))
  all_goals
   apply Tr.fin hK ⟨_,rfl,rfl⟩
   ((try clear hK)<;>(try simp only[WKe,Ym,Xg.mk0,↓reduceIte, *])<;>repeat (first|with_reducible exact Xd.done|refine S.e ?_|fail))
theorem xrB {s:SV} {cs:List Zd}:Xb prog 71 #[s.v] [sl true s.v cs]
  fun v l'=>∃p s1 gs,gs.map Xg.core=(cs.take 8).map JJ∧v=.pointer (some ⟨p,0,none⟩)∧l'=[poB p s1,fam Ym gs,sl false s1.v (gs.map Xg.pt)]:=by
 intro F K hK
 simp only[ap]
 have hmin: (if(8:Int)<cs.length then(8:Int)else cs.length)=((min 8 cs.length:Nat):Int):=xeL (n:=8)
 refine S.I fun u=>?_
 ((try simp only[WKb])<;>(repeat' ((first
  |(refine G.tr ?_;first|refine S.a ?_|refine S.n fun _=>?_|fail)
  |fail)<;>(try simp only[WKb,↓reduceIte,Nat.reduceEqDiff,hmin]))))
 rename_i p s1
 refine Tr.loopE (α:=Nat×SV×List Xg) [15] [2,3,13,14] (fun x=>[.int .i64 x.1]) (fun x=>[poB p x.2.1,sl false x.2.1.v (x.2.2.map Xg.pt),fam Ym x.2.2]) (fun x=>x.1≤min 8 cs.length∧x.2.2.length=x.1∧x.2.2.map Xg.core=(cs.take x.1).map JJ) (fun x=>min 8 cs.length-x.1) (0,⟨none,0,0⟩,[]) (by(repeat (first|exact YK.nil|(apply YK.cons;focus ((first|((repeat (first|exact Xm.here|apply Xm.next));done)|exact Xm.famNil|exact Xm.nilS)))|fail));done) rfl ⟨by omega,rfl,rfl⟩ fun x u hx=>?_
 obtain⟨k,s2,gs⟩:=x
 simp only at hx⊢
 obtain⟨hk,hl,hm⟩:=hx
 have hlt: (cs.take (((min 8 cs.length:Nat):Int)).toNat).length=min 8 cs.length:=by simp
 have hlm: (gs.map Xg.pt).length=k:=by simp[hl]
 by_cases hkn:k<min 8 cs.length
 ·have hw:=Xo (k:=k) S.o
  have hxt:ix (cs.take (((min 8 cs.length:Nat):Int)).toNat) (k:Int)=ix cs (k:Int):=xbX (by simp;omega)
  have hmk:∀b c,(gs++[Xg.mk0 b c (ix cs (k:Int))]).map Xg.core=(cs.take (k+1)).map JJ:=fun b c=>by rw[Yz S.o,List.map_append,List.map_append,hm];rfl
  have hln:∀b c,(gs++[Xg.mk0 b c (ix cs (k:Int))]).length=k+1:=fun b c=>by simp[hl]
  ((try simp only[WKb,↓reduceIte,Nat.reduceEqDiff])<;>(repeat' ((first
  |(refine G.tr ?_;first|refine S.a ?_|(refine G.call 112 ?_;refine S.c ?_ (h:=xk3))|refine S.n fun _=>?_|refine S.i fun hix=>?_|fail)
  |rintro _ _ ⟨_,rfl,rfl⟩
  |fail)<;>(try simp only[WKb,WKh,↓reduceIte,Nat.reduceEqDiff,hw,hxt]))))
  all_goals
   rename_i cb ob cq sA sB
   have hmk':=hmk ob cq
   have hln':=hln ob cq
   have hpt: (Xg.mk0 ob cq (ix cs (k:Int))).pt=⟨some ob⟩:=rfl
   (apply Tr.againE (k+1,_,gs++[Xg.mk0 ob cq (ix cs (k:Int))]);(focus (simp only[WKb,↓reduceIte,Nat.reduceEqDiff]));(focus ((try simp only[WKb,↓reduceIte]);(all_goals((repeat (refine Jl (by first|rfl|((try clear hK)<;>first|(simp[*,List.map_append,List.map_cons,List.map_nil,hpt,hw];done)|(simp[*,List.map_append,List.map_cons,List.map_nil,hpt,hw];omega)|(simp[*,List.map_append,List.map_cons,List.map_nil,hpt,hw]<;>(try split)<;>simp_all<;>omega))) ?_));rfl));done));(focus (first|((try simp only[]);(repeat' (first|omega|refine And.intro ?_ ?_));done)));(focus (first|omega|fail));(focus (((try clear hK)<;>(try simp only[WKe,List.map_append,List.map_cons,List.map_nil, *])<;>repeat (first|with_reducible exact Xd.done|refine S.e ?_|(refine S.f ?_<;>(try simp only[WKe,List.map_append,List.map_cons,List.map_nil,hpt,hw,↓reduceIte,reduceCtorEq,Int.reduceEq, *]))|refine Xd.drop (F:=F) ?_|fail)))))
 ·have hkk:k=min 8 cs.length:=by omega
  ((try simp only[WKb,↓reduceIte,Nat.reduceEqDiff])<;>(repeat' ((first
  |(refine G.tr ?_;first|refine S.a ?_|fail)
  |fail)<;>(try simp only[WKb,↓reduceIte,Nat.reduceEqDiff]))))
  all_goals
   apply Tr.fin hK ⟨_,_,gs,by rw[hm,hkk,Vg],rfl,rfl⟩
   ((try clear hK)<;>(try simp only[WKe, *])<;>repeat (first|with_reducible exact Xd.done|refine S.e ?_|refine Xd.drop (F:=F) ?_|fail))
theorem xqv {p:Nat} {s:SV} {gs:List Xg} {k:Int} (hl0: (ix gs k).m.d.length≤1000000):Xb prog 201 #[.pointer (some ⟨p,0,none⟩),.int .i64 k] [poB p s,fam Ym gs,sl false s.v (gs.map Xg.pt)]
  fun v l'=>∃r:SL Msg,r.d.map SL.d=Wa gs k∧v=SV.v (SL.s r)∧l'=[poB p s,fam Ym (JD gs k),sl false s.v ((JD gs k).map Xg.pt),sl false (SV.v (SL.s r)) (SL.d r),fzl (SL.d r)]:=by
 intro F K hK
 simp only[ap]
 by_cases h:inR gs k
 ·have ⟨h0,h1⟩:=h
  have hm:=Xp (f:=Xg.pt) h0 h1
  have hl: (gs.map Xg.pt).length=gs.length:=List.length_map _
  have hs:=fun q i sz d lo c s ms m t f=>YW (f:=Xg.pt) h0 h1 ⟨(ix gs k).b,q,i,sz,d,lo,c,s,ms,m,t,f⟩ rfl
  refine Tr.famAt (A:=Ym) k (by(repeat (first|exact Xm.here|apply Xm.next));done) h0 h1 ?_
  cases hq: (ix gs k).q
  ·refine Z0 hq ?_
   refine S.I fun u=>?_
   ((try simp only[WKb,↓reduceIte,Nat.reduceEqDiff,Nat.reduceAdd])<;>(repeat' ((first
  |(refine G.tr ?_;first|refine S.a ?_|(refine G.call 258 ?_;refine S.c ?_ (h:=Jm S.o S.o))|(refine G.call 35 ?_;first|refine S.c ?_ (h:=We S.o))|refine S.n fun _=>?_|(refine S.s (fun hb=>?_) (fun hb=>?_)<;>((try simp only[hb])<;>(try(have hp:=hb;simp only[WKs]at hp;(try have hq:=Int.not_le.2 hp);(try have hq:=Int.not_lt.2 hp))))))
  |rintro _ _ ⟨rfl,rfl⟩
  |rintro _ _ ⟨_,rfl,rfl⟩
  | fail)<;>(try simp only[WKb,WKh,↓reduceIte,Nat.reduceEqDiff,Nat.reduceAdd]))))
   all_goals
    (first|apply Tr.fin hK ⟨⟨⟨none,0,0⟩,[]⟩,(by first|(simp[*,Wa];done)|fail),rfl,rfl⟩|apply Tr.fin hK ⟨⟨_,[SL.mk _ (ix gs k).m.d]⟩,(by first|(simp[*,Wa];done)|fail),rfl,rfl⟩)
    ((try clear hK)<;>(try simp only[WKe,JD,↓reduceIte, *])<;>repeat (first|with_reducible exact Xd.done|refine S.e ?_|(refine S.f ?_<;>(try simp only[WKe,Ym,↓reduceIte, *]))|refine Xd.drop (F:=F) ?_|fail))
    all_goals first|exact SV.mk none 0 0|exact SL.mk ⟨none,0,0⟩ []
  ·refine Z8 hq ?_
   refine S.I fun u=>?_
   ((try simp only[WKb,↓reduceIte,Nat.reduceEqDiff,Nat.reduceAdd])<;>(repeat' ((first
  |(refine G.tr ?_;first|refine S.a ?_|(refine G.call 258 ?_;refine S.c ?_ (h:=Jm S.o S.o))|(refine S.s (fun hb=>?_) (fun hb=>?_)<;>((try simp only[hb])<;>(try(have hp:=hb;simp only[WKs]at hp;(try have hq:=Int.not_le.2 hp);(try have hq:=Int.not_lt.2 hp))))))
  |rintro _ _ ⟨rfl,rfl⟩
  | fail)<;>(try simp only[WKb,WKh,↓reduceIte,Nat.reduceEqDiff]))))
   all_goals
    (first|apply Tr.fin hK ⟨⟨⟨none,0,0⟩,[]⟩,(by first|(simp[*,Wa];done)|fail),rfl,rfl⟩|apply Tr.fin hK ⟨⟨(ix gs k).s,(ix gs k).ms⟩,(by first|(simp[*,Wa];done)|fail),rfl,rfl⟩|fail)
    ((try clear hK)<;>(try simp only[WKe,JD,↓reduceIte, *])<;>repeat (first|with_reducible exact Xd.done|refine S.e ?_|(refine S.f ?_<;>(try simp only[Ym,↓reduceIte, *]))|fail))
    all_goals first|exact SV.mk none 0 0|exact SL.mk ⟨none,0,0⟩ []
 ·have h':=h
  unfold inR at h'
  refine S.I fun u=>?_
  ((try simp only[WKb,↓reduceIte,Nat.reduceEqDiff,Nat.reduceAdd])<;>(repeat' ((first
  |(refine G.tr ?_;first|(refine G.call 258 ?_;first|refine S.c ?_ (h:=W2 S.o))|fail)
  |rintro _ _ ⟨rfl,rfl⟩
  |fail)<;>(try simp only[WKb,↓reduceIte,Nat.reduceEqDiff]))))
  all_goals
   (first|apply Tr.fin hK ⟨⟨⟨none,0,0⟩,[]⟩,(by first|(simp[*,Wa];done)|fail),rfl,rfl⟩|fail)
   ((try clear hK)<;>(try simp only[WKe,JD,↓reduceIte, *])<;>repeat (first|with_reducible exact Xd.done|refine S.e ?_|fail))
   all_goals first|exact SV.mk none 0 0|exact SL.mk ⟨none,0,0⟩ []
theorem xrI {g:Xg} {x:Zd} (h:g.core=JJ x):g=Xg.mk0 g.b g.c x:=by
 obtain⟨b,q,i,sz,d,lo,c,s,ms,m,t,f⟩:=g
 simp only[Xg.core,JJ,Prod.mk.injEq]at h
 obtain⟨rfl,rfl,rfl,rfl,rfl,rfl,rfl,rfl,rfl,rfl⟩:=h
 rfl
end
theorem xpt {p:Nat} {s:SV} {gs:List Xg} {k:Int} (hl0: (ix gs k).m.d.length≤1000000):Xb prog 237 #[.pointer (some ⟨p,0,none⟩),.int .i64 k] [poB p s,fam Ym gs,sl false s.v (gs.map Xg.pt)]
  fun v l'=>∃s3 s4,v=.tuple #[SV.v s4,.int .i64 (Z2 gs k false)]∧l'=[poB p s,fam Ym (W8 gs k false s3),sl false s.v ((W8 gs k false s3).map Xg.pt),Fz.fz (SL.mk s4 (JW gs k false):Msg)]:=by
 refine Xb.mono (xrn hl0) ?_
 rintro v l' ⟨s3,⟨s4,d⟩,h,rfl,rfl⟩
 have h':d=JW gs k false:=h
 subst h'
 exact⟨s3,s4,rfl,rfl⟩
theorem xhg {p:Nat} {s:SV} {gs:List Xg} {k:Int} (hl0: (ix gs k).m.d.length≤1000000):Xb prog 183 #[.pointer (some ⟨p,0,none⟩),.int .i64 k] [poB p s,fam Ym gs,sl false s.v (gs.map Xg.pt)]
  fun v l'=>∃s3 s4,v=.tuple #[SV.v s4,.int .i64 (Z2 gs k true)]∧l'=[poB p s,fam Ym (W8 gs k true s3),sl false s.v ((W8 gs k true s3).map Xg.pt),Fz.fz (SL.mk s4 (JW gs k true):Msg)]:=by
 refine Xb.mono (xjM hl0) ?_
 rintro v l' ⟨s3,⟨s4,d⟩,h,rfl,rfl⟩
 have h':d=JW gs k true:=h
 subst h'
 exact⟨s3,s4,rfl,rfl⟩
instance {l:List Xc}:De l (.int .u8 120) (120:UInt8):=⟨rfl⟩
instance {l:List Xc}:De l (.int .u8 121) (121:UInt8):=⟨rfl⟩
instance xwR {l:List Xc} {s:SV} {d:List UInt8}:ZV (Fz.fz (SL.mk s d:Msg)::l) s.v true UInt8 inferInstance d:=xrZ (x:=(SL.mk s d:Msg))
section
variable {b c:Nat} {s s2:SV} {m m2 m3:Msg} {n:Nat} {lo:Int} {ms:List Msg}
abbrev g4 (b c:Nat) (lo:Int) (s:SV) (ms:List Msg):Xg:=⟨b,true,true,4,1,lo,c,s,ms,default,false,false⟩
end
section
attribute [local irreducible] BrK Xq Xt Xv XI FnK XZ Xw XC XV opX opK Yq Yk eqR Yj Yo Ys WL WD W X3 XO Tr drewK Ya X4 Yw Yv X1 YB mp blk rob sl sep ex fact old
structure AP where
 c:Zd
 ms:List (List UInt8)
 fresh:Bool
 lost:Int
instance:Inhabited AP:=⟨⟨default,[],false,0⟩⟩
def mo (x:SL Msg):List (List UInt8):=x.d.map SL.d
def Yu (ps:List AP) (k:Int) (q i:Bool):Bool:=if inR ps k then(((ix ps k).c.q==q)&&((ix ps k).c.i==i))else false
def YU (ps:List AP) (k:Int) (q:Bool) (n:Nat):Int:=if Yu ps k q false=true then(if Wf n (ix ps k).c.size=true then(if q=true then(if(ix ps k).c.depth≤(ix ps k).ms.length then 1 else 0)else 0)else 2)else 3
def Yh (ps:List AP) (k:Int) (q:Bool) (m:List UInt8):List AP:=if Yu ps k q false=true then(if Wf m.length (ix ps k).c.size=true then(if q=true then(if(ix ps k).c.depth≤(ix ps k).ms.length then ps else ps.set k.toNat {ix ps k with ms:=(ix ps k).ms++[m],fresh:=false})else ps.set k.toNat {ix ps k with ms:=[m],fresh:=true})else ps)else ps
def Y3 (ps:List AP) (k:Int) (q:Bool):Int:=if Yu ps k q true=true then(if((ix ps k).ms.length:Int)=0 then 1 else 0)else 3
def YS (ps:List AP) (k:Int) (q:Bool):List UInt8:=if Yu ps k q true=true then(if((ix ps k).ms.length:Int)=0 then[]else ix (ix ps k).ms 0)else[]
def Z1 (ps:List AP) (k:Int) (q:Bool):List AP:=if Yu ps k q true=true then(if q=true then(if((ix ps k).ms.length:Int)=0 then ps else ps.set k.toNat {ix ps k with ms:=(ix ps k).ms.drop 1,fresh:=false})else ps)else ps
def Zl (ps:List AP) (k:Int):List (List UInt8):=if Yu ps k true false=true then(ix ps k).ms else if Yu ps k false false=true then(if(ix ps k).fresh=true then(ix ps k).ms else[])else[]
def YQ (ps:List AP) (k:Int):List AP:=if Yu ps k true false=true then ps.set k.toNat {ix ps k with ms:=[],fresh:=false}else if Yu ps k false false=true then(if(ix ps k).fresh=true then ps.set k.toNat {ix ps k with fresh:=false}else ps)else ps
def QQ (ps:List AP) (k:Int):Bool:=if Yu ps k false true=true then true else if Yu ps k true true=true then !decide ((ix ps k).c.depth≤(ix ps k).ms.length)else false
def J0 (ps:List AP) (k:Int) (m:List UInt8):List AP:=if Yu ps k false true=true then ps.set k.toNat {ix ps k with ms:=[m],fresh:=false}else if Yu ps k true true=true then(if(ix ps k).c.depth≤(ix ps k).ms.length then ps.set k.toNat {ix ps k with fresh:=false,lost:=IntKind.i64.wrap ((ix ps k).lost+1)}else ps.set k.toNat {ix ps k with ms:=(ix ps k).ms++[m],fresh:=false})else ps
theorem xa7 {ps:List AP} {k:Int} {q i:Bool} (h:Yu ps k q i=true):0≤k∧k<ps.length∧(ix ps k).c.q=q∧(ix ps k).c.i=i:=by
 unfold Yu at h
 split at h
 ·rename_i hr
  simp only[Bool.and_eq_true,beq_iff_eq]at h
  exact⟨hr.1,hr.2,h.1,h.2⟩
 ·cases h
end
section
attribute [local irreducible] BrK Xq Xt Xv XI FnK XZ Xw XC XV opX opK Yq Yk eqR Yj Yo Ys WL WD W X3 XO Tr drewK Ya X4 Yw Yv X1 YB mp blk rob sl sep ex fact old Instr.storeAt Instr.loadAt Instr.fieldAt Instr.indexAt Instr.lookup Instr.mapUpdate Instr.box Instr.alloc Instr.build Instr.buildSlice Instr.makeSlice Instr.makeMap Instr.sliceAt Instr.field Instr.index Instr.makeInterface Instr.typeAssert Builtin.len_ Builtin.append_ Builtin.cap_ Builtin.min_ Builtin.max_ Builtin.copy_ Builtin.clear_ convert binOp
theorem xoT {α:Type} [Inhabited α] {xs:List α} {k:Int} (h0:0≤k) (h1:k<xs.length) (y:α):ix (xs.set k.toNat y) k=y:=by
 obtain⟨n,rfl⟩:=Int.eq_ofNat_of_zero_le h0
 have hn:n<xs.length:=by omega
 have:=xcv (xs:=xs.set n y) (k:=n) (by simpa using hn)
 simpa using this
def Wm (cs:List Zd):List AP:=(cs.take 8).map fun c=>⟨c,[],false,0⟩
section
variable {b c b2 c2:Nat} {s s2:SV} {m m2 m3:Msg} {n:Nat} {t f t2 f2:Bool}
abbrev sA (b c:Nat) (m:Msg) (t f:Bool):Xg:=⟨b,false,true,300,0,0,c,⟨none,0,0⟩,[],m,t,f⟩
abbrev sB (b c:Nat) (m:Msg) (t f:Bool):Xg:=⟨b,false,false,300,0,0,c,⟨none,0,0⟩,[],m,t,f⟩
end
end
def Xg.conf (g:Xg):Zd:=⟨g.q,g.i,g.size,g.depth⟩
theorem xqz {b c:Nat} {x:Zd}: (Xg.mk0 b c x).core=JJ x:=rfl
theorem xiy {xs:List Xg} {k:Nat} {x:Xg} (h:k<xs.length):ix (xs.set k x) (k:Int)=x:=by rw[xcv (by simpa using h)];simp
theorem xmO {xs:List Xg} {k j:Nat} {x:Xg} (h:j≠k) (hj:j<xs.length):ix (xs.set k x) (j:Int)=ix xs (j:Int):=by
 rw[xcv (by simpa using hj),xcv hj,List.getElem_set_ne (Ne.symm h)]
theorem xpZ {g:Xg} {l:List Xc} {X:WP} (hx:∀v0,Tr (onB g.b g.q g.i g.size g.depth v0 g.lost::l) X):Tr (Ym g::l) X:=by
 cases hq:g.q
 ·refine Z0 hq ?_
  have:=hx (.iface 304 (.pointer (some ⟨g.c,0,none⟩)))
  rw[hq]at this
  exact this.imp (Imp.cons (Imp.trans Imp.tail Imp.tail))
 ·refine Z8 hq ?_
  have:=hx (.iface 301 (.pointer (some ⟨g.c,0,none⟩)))
  rw[hq]at this
  exact this.imp (Imp.cons (Imp.trans Imp.tail (Imp.trans Imp.tail Imp.tail)))
theorem xj3 {gs g2:List Xg} (hl:g2.length=gs.length) (_hcf:g2.map Xg.conf=gs.map Xg.conf) (h:∀j:Nat,j<gs.length→(ix g2 (j:Int)).core=JJ (ix gs (j:Int)).conf):g2.map Xg.core=gs.map fun g=>JJ g.conf:=
 List.ext_getElem (by simp[hl]) fun i h1 h2=>by
  have h1':i<gs.length:=by simpa using h2
  have:=h i h1'
  rw[xcv S.o,xcv h1']at this
  simpa using this
section
attribute [local irreducible] BrK Xq Xt Xv XI FnK XZ Xw XC XV opX opK Yq Yk eqR Yj Yo Ys WL WD W X3 XO Tr drewK Ya X4 Yw Yv X1 YB mp blk rob sl sep ex fact old
theorem xmY {p:Nat} {s:SV} {gs:List Xg}:Xb prog 265 #[.pointer (some ⟨p,0,none⟩)] [poB p s,fam Ym gs,sl false s.v (gs.map Xg.pt)]
  fun v l'=>∃gs',gs'.map Xg.pt=gs.map Xg.pt∧gs'.map Xg.core=gs.map (fun g=>JJ g.conf)∧v=.tuple #[]∧l'=[poB p s,fam Ym gs',sl false s.v (gs.map Xg.pt)]:=by
 intro F K hK
 simp only[ap]
 refine Tr.bound (xs:=gs.map Xg.pt) (Has.next (Has.next Has.here)) fun hbx=>?_
 have hlp: (gs.map Xg.pt).length=gs.length:=List.length_map _
 refine S.I fun u=>?_
 repeat' (first|refine S.x ?_|fail)
 refine Tr.loopE (α:=Nat×List Xg) [11] [9,10] (fun x=>[.int .i64 x.1]) (fun x=>[fam Ym x.2])
  (fun x=>x.1≤gs.length∧x.2.length=gs.length∧x.2.map Xg.pt=gs.map Xg.pt∧x.2.map Xg.conf=gs.map Xg.conf∧∀j:Nat,j<x.1→(ix x.2 (j:Int)).core=JJ (ix gs (j:Int)).conf) (fun x=>gs.length-x.1) (0,gs) S.T rfl ⟨by omega,rfl,rfl,rfl,fun j hj=>by omega⟩ fun x u hx=>?_
 obtain⟨k,g2⟩:=x
 simp only at hx⊢
 obtain⟨hk,hl,hpt,hcf,hco⟩:=hx
 by_cases hkn:k<gs.length
 ·have hw:=Xo (k:=k) S.o
  have hm:ix (gs.map Xg.pt) (k:Int)=(ix gs (k:Int)).pt:=Xp (f:=Xg.pt) S.o S.o
  have hm2:ix (gs.map Xg.pt) (k:Int)=⟨some (ix g2 (k:Int)).b⟩:=by rw[←hpt,Xp (f:=Xg.pt) S.o S.o];rfl
  have hlp2: (gs.map Xg.pt).length=gs.length:=List.length_map _
  have hc2: (ix g2 (k:Int)).conf=(ix gs (k:Int)).conf:=by rw[←Xp (f:=Xg.conf) S.o S.o,hcf,Xp (f:=Xg.conf) S.o S.o]
  simp only[ap]
  refine Tr.famAt (A:=Ym) k S.K S.o S.o ?_
  refine xpZ fun v0=>?_
  have hX:=And.intro hw hm2;repeat' (first|refine S.x ?_|(refine G.call 112 ?_;refine S.c ?_ (h:=xk3))|rintro _ _ ⟨_,rfl,rfl⟩|intro hb|fail)
  all_goals
   rename_i w
   have hA: (g2.set k (Xg.mk0 (ix g2 (k:Int)).b w (ix g2 (k:Int)).conf)).length=gs.length:=by simp[hl]
   have hB: (g2.set k (Xg.mk0 (ix g2 (k:Int)).b w (ix g2 (k:Int)).conf)).map Xg.pt=gs.map Xg.pt:=by
    rw[←hpt];exact YW (f:=Xg.pt) (k:=(k:Int)) S.o S.o _ rfl
   have hC: (g2.set k (Xg.mk0 (ix g2 (k:Int)).b w (ix g2 (k:Int)).conf)).map Xg.conf=gs.map Xg.conf:=by
    rw[←hcf];exact YW (f:=Xg.conf) (k:=(k:Int)) S.o S.o _ rfl
   have hD:∀j:Nat,j<k+1→(ix (g2.set k (Xg.mk0 (ix g2 (k:Int)).b w (ix g2 (k:Int)).conf)) (j:Int)).core=JJ (ix gs (j:Int)).conf:=fun j hj=>by
    by_cases he:j=k
    ·subst he
     rw[xiy S.o,xqz,hc2]
    ·rw[xmO he S.o]
     exact hco j S.o
   clear hm2 hm hpt hcf
   (have hX:=@Xg.conf.eq_def;exact S.R (k+1,g2.set k (Xg.mk0 (ix g2 (k:Int)).b w (ix g2 (k:Int)).conf)))
 ·have hkk:k=gs.length:=by omega
  repeat' (first|refine S.x ?_|fail)
  all_goals
   apply Tr.fin hK ⟨g2,hpt,xj3 hl hcf (fun j hj=>hco j S.o),rfl,rfl⟩
   exact S.E
instance:ElT 93 Pt:=⟨⟩
