import Derived.Test.YtmebccjndhlpoaaGreatZ18
namespace Go.Proofs.YtmebccjndhlpoaaGreat
open Go Go.Wk Tryz
set_option maxHeartbeats 1600000
set_option maxRecDepth 10000
def XL.mk' (b:Nat) (c:JO):XL:=⟨b,c.first,c.most,c.first⟩
abbrev xiH:=Int×Int×Int
def XL.mo (g:XL):xiH:=(g.first,g.most,g.count)
def xjD (c:JO):xiH:=(c.first,c.most,c.first)
def Xr.mk' (b:Nat) (c:Bool):Xr:=⟨b,c⟩
abbrev xtC:=Bool
def Xr.mo (g:Xr):xtC:=g.up
def xmk (c:Bool):xtC:=c
def Xu.mk' (b:Nat) (c:JC):Xu:=⟨b,c.size,c.depth,⟨none,0,0⟩,[]⟩
abbrev xag:=Int×Int×List (List UInt8)
def Xu.mo (g:Xu):xag:=(g.size,g.depth,g.ms.map SL.d)
def xd1 (c:JC):xag:=(c.size,c.depth,[])
def Xi.mk' (b:Nat) (c:Int):Xi:=⟨b,c,default,false⟩
abbrev xDJ:=Int×Option (List UInt8)
def Xi.mo (g:Xi):xDJ:=(g.size,if g.shown then some g.m.d else none)
def QJ (c:Int):xDJ:=(c,none)
section
attribute [local irreducible] BrK Xq Xt Xv XI FnK XZ Xw XC XV opX opK Yq Yk eqR Yj Yo Ys WL WD W X3 XO Tr drewK Ya X4 Yw Yv X1 YB mp blk rob sl sep ex fact old Instr.storeAt Instr.loadAt Instr.fieldAt Instr.indexAt Instr.lookup Instr.mapUpdate Instr.box Instr.alloc Instr.build Instr.buildSlice Instr.makeSlice Instr.makeMap Instr.sliceAt Instr.field Instr.index Instr.makeInterface Instr.typeAssert Builtin.len_ Builtin.append_ Builtin.cap_ Builtin.min_ Builtin.max_ Builtin.copy_ Builtin.clear_ convert binOp
theorem xqS {c:JO}:Xb prog 166 #[.agg (En.enc c).toArray] [] fun v l'=>∃b,v=.pointer (some ⟨b,0,none⟩)∧l'=[xc4 (XL.mk' b c)]:=by
 intro F K hK
 simp only[List.nil_append]
 refine S.I fun u=>?_
 ((try simp only[WKb,↓reduceIte])<;>(repeat' ((first
  |(refine G.tr ?_;first|refine S.a ?_|refine S.n fun _=>?_|fail)
  |fail)<;>(try simp only[WKb,WKh,↓reduceIte,Nat.reduceEqDiff,Nat.reduceAdd]))))
 all_goals
  apply Tr.fin hK ⟨_,rfl,rfl⟩
  have hd: (⟨⟨none,0,0⟩,[]⟩:Msg)=default:=rfl
  ((try clear hK)<;>(try simp only[WKe,XL.mk', *])<;>repeat (first|with_reducible exact Xd.done|refine S.e ?_|refine Xd.drop (F:=F) ?_|fail))
theorem xpC {s:SV} {cs:List JO}:Xb prog 165 #[s.v,.int .i64 4,.func (.func 166) #[] #[]] [sl true s.v cs]
  fun v l'=>∃(s1:SV) (gs:List XL),gs.map XL.mo=(cs.take 4).map xjD∧v=.agg #[s1.v]∧l'=[sl false s1.v (gs.map XL.pt),fam xc4 gs]:=by
 intro F K hK
 simp only[ap]
 have hmin: (if(4:Int)<cs.length then(4:Int)else cs.length)=((min 4 cs.length:Nat):Int):=xeL (n:=4)
 refine S.I fun u=>?_
 ((try simp only[WKb,Nat.reduceAdd])<;>(repeat' ((first
  |(refine G.tr ?_;first|refine S.a ?_|refine S.n fun _=>?_|fail)
  |fail)<;>(try simp only[WKb,↓reduceIte,Nat.reduceEqDiff,hmin]))))
 rename_i c6 c7 s1
 refine Tr.loopE (α:=Nat×SV×List XL) [17] [2,6,7,15,16] (fun x=>[.int .i64 x.1]) (fun x=>[blk c7 (.cells #[x.2.1.v] 240 (0,0)),sl false x.2.1.v (x.2.2.map XL.pt),fam xc4 x.2.2]) (fun x=>x.1≤min 4 cs.length∧x.2.2.length=x.1∧x.2.2.map XL.mo=(cs.take x.1).map xjD) (fun x=>min 4 cs.length-x.1) (0,⟨none,0,0⟩,[]) (by(repeat (first|exact YK.nil|(apply YK.cons;focus ((first|((repeat (first|exact Xm.here|apply Xm.next));done)|exact Xm.famNil|exact Xm.nilS)))|fail));done) rfl ⟨by omega,rfl,rfl⟩ fun x u hx=>?_
 obtain⟨k,s2,gs⟩:=x
 simp only at hx⊢
 obtain⟨hk,hl,hm⟩:=hx
 have hlt: (cs.take (((min 4 cs.length:Nat):Int)).toNat).length=min 4 cs.length:=by simp
 have hlm: (gs.map XL.pt).length=k:=by simp[hl]
 by_cases hkn:k<min 4 cs.length
 ·have hw:=Xo (k:=k) S.o
  have hxt:ix (cs.take (((min 4 cs.length:Nat):Int)).toNat) (k:Int)=ix cs (k:Int):=xbX (by simp;omega)
  have hmk:∀b,(gs++[XL.mk' b (ix cs (k:Int))]).map XL.mo=(cs.take (k+1)).map xjD:=fun b=>by rw[Yz S.o,List.map_append,List.map_append,hm];rfl
  ((try simp only[WKb,↓reduceIte,Nat.reduceEqDiff])<;>(repeat' ((first
  |(refine G.tr ?_;first|refine S.a ?_|(refine G.call 166 ?_;refine S.c ?_ (h:=xqS))|refine S.n fun _=>?_|refine S.i fun hix=>?_|fail)
  |rintro _ _ ⟨_,rfl,rfl⟩
  |fail)<;>(try simp only[WKb,↓reduceIte,Nat.reduceEqDiff,Nat.reduceAdd,xL0,hw,hxt]))))
  all_goals
   rename_i _ bw _ _
   have hmk':=hmk bw
   have hln: (gs++[XL.mk' bw (ix cs (k:Int))]).length=k+1:=by simp[hl]
   (apply Tr.againE (k+1,_,gs++[XL.mk' bw (ix cs (k:Int))]);(focus (simp only[WKb,↓reduceIte,Nat.reduceEqDiff]));(focus ((try simp only[WKb,↓reduceIte]);(all_goals((repeat (refine Jl (by first|rfl|((try clear hK)<;>first|(simp[*,List.map_append,List.map_cons,List.map_nil,XL.pt,XL.mk',hw];done)|(simp[*,List.map_append,List.map_cons,List.map_nil,XL.pt,XL.mk',hw];omega)|(simp[*,List.map_append,List.map_cons,List.map_nil,XL.pt,XL.mk',hw]<;>(try split)<;>simp_all<;>omega))) ?_));rfl));done));(focus (first|((try simp only[]);(repeat' (first|omega|refine And.intro ?_ ?_));done)));(focus (first|omega|fail));(focus (((try clear hK)<;>(try simp only[WKe,List.map_append,List.map_cons,List.map_nil,XL.pt,XL.mk', *])<;>repeat (first|with_reducible exact Xd.done|refine S.e ?_|(refine S.f ?_<;>(try simp only[WKe,List.map_append,List.map_cons,List.map_nil,XL.pt,XL.mk',hw,↓reduceIte,reduceCtorEq,Int.reduceEq, *]))|refine Xd.drop (F:=F) ?_|fail)))))
 ·have hkk:k=min 4 cs.length:=by omega
  ((try simp only[WKb,↓reduceIte,Nat.reduceEqDiff])<;>(repeat' ((first
  |(refine G.tr ?_;first|refine S.a ?_|fail)
  |fail)<;>(try simp only[WKb,↓reduceIte,Nat.reduceEqDiff]))))
  all_goals
   apply Tr.fin hK ⟨_,gs,by rw[hm,hkk,Vg],rfl,rfl⟩
   ((try clear hK)<;>(try simp only[WKe, *])<;>repeat (first|with_reducible exact Xd.done|refine S.e ?_|refine Xd.drop (F:=F) ?_|fail))
theorem xmW {c:Bool}:Xb prog 168 #[.bool c] [] fun v l'=>∃b,v=.pointer (some ⟨b,0,none⟩)∧l'=[QP (Xr.mk' b c)]:=by
 intro F K hK
 simp only[List.nil_append]
 refine S.I fun u=>?_
 ((try simp only[WKb,↓reduceIte])<;>(repeat' ((first
  |(refine G.tr ?_;first|refine S.n fun _=>?_|fail)
  |fail)<;>(try simp only[WKb,↓reduceIte,Nat.reduceEqDiff]))))
 all_goals
  apply Tr.fin hK ⟨_,rfl,rfl⟩
  have hd: (⟨⟨none,0,0⟩,[]⟩:Msg)=default:=rfl
  ((try clear hK)<;>(try simp only[WKe,Xr.mk', *])<;>repeat (first|with_reducible exact Xd.done|fail))
theorem xno {s:SV} {cs:List Bool}:Xb prog 167 #[s.v,.int .i64 8,.func (.func 168) #[] #[]] [sl false s.v cs]
  fun v l'=>∃(s1:SV) (gs:List Xr),gs.map Xr.mo=(cs.take 8).map xmk∧v=.agg #[s1.v]∧l'=[sl false s1.v (gs.map Xr.pt),fam QP gs]:=by
 intro F K hK
 simp only[ap]
 refine Tr.freezeSl ?_
 have hmin: (if(8:Int)<cs.length then(8:Int)else cs.length)=((min 8 cs.length:Nat):Int):=xeL (n:=8)
 refine S.I fun u=>?_
 ((try simp only[WKb,Nat.reduceAdd])<;>(repeat' ((first
  |(refine G.tr ?_;first|refine S.a ?_|refine S.n fun _=>?_|fail)
  |fail)<;>(try simp only[WKb,↓reduceIte,Nat.reduceEqDiff,hmin]))))
 rename_i c6 c7 s1
 refine Tr.loopE (α:=Nat×SV×List Xr) [17] [2,6,7,15,16] (fun x=>[.int .i64 x.1]) (fun x=>[blk c7 (.cells #[x.2.1.v] 243 (0,0)),sl false x.2.1.v (x.2.2.map Xr.pt),fam QP x.2.2]) (fun x=>x.1≤min 8 cs.length∧x.2.2.length=x.1∧x.2.2.map Xr.mo=(cs.take x.1).map xmk) (fun x=>min 8 cs.length-x.1) (0,⟨none,0,0⟩,[]) (by(repeat (first|exact YK.nil|(apply YK.cons;focus ((first|((repeat (first|exact Xm.here|apply Xm.next));done)|exact Xm.famNil|exact Xm.nilS)))|fail));done) rfl ⟨by omega,rfl,rfl⟩ fun x u hx=>?_
 obtain⟨k,s2,gs⟩:=x
 simp only at hx⊢
 obtain⟨hk,hl,hm⟩:=hx
 have hlt: (cs.take (((min 8 cs.length:Nat):Int)).toNat).length=min 8 cs.length:=by simp
 have hlm: (gs.map Xr.pt).length=k:=by simp[hl]
 by_cases hkn:k<min 8 cs.length
 ·have hw:=Xo (k:=k) S.o
  have hxt:ix (cs.take (((min 8 cs.length:Nat):Int)).toNat) (k:Int)=ix cs (k:Int):=xbX (by simp;omega)
  have hmk:∀b,(gs++[Xr.mk' b (ix cs (k:Int))]).map Xr.mo=(cs.take (k+1)).map xmk:=fun b=>by rw[Yz S.o,List.map_append,List.map_append,hm];rfl
  ((try simp only[WKb,↓reduceIte,Nat.reduceEqDiff])<;>(repeat' ((first
  |(refine G.tr ?_;first|refine S.a ?_|(refine G.call 168 ?_;refine S.c ?_ (h:=xmW))|refine S.n fun _=>?_|refine S.i fun hix=>?_|fail)
  |rintro _ _ ⟨_,rfl,rfl⟩
  |fail)<;>(try simp only[WKb,↓reduceIte,Nat.reduceEqDiff,Nat.reduceAdd,xiJ,hw,hxt]))))
  all_goals
   rename_i _ bw _ _
   have hmk':=hmk bw
   have hln: (gs++[Xr.mk' bw (ix cs (k:Int))]).length=k+1:=by simp[hl]
   (apply Tr.againE (k+1,_,gs++[Xr.mk' bw (ix cs (k:Int))]);(focus (simp only[WKb,↓reduceIte,Nat.reduceEqDiff]));(focus ((try simp only[WKb,↓reduceIte]);(all_goals((repeat (refine Jl (by first|rfl|((try clear hK)<;>first|(simp[*,List.map_append,List.map_cons,List.map_nil,Xr.pt,Xr.mk',hw];done)|(simp[*,List.map_append,List.map_cons,List.map_nil,Xr.pt,Xr.mk',hw];omega)|(simp[*,List.map_append,List.map_cons,List.map_nil,Xr.pt,Xr.mk',hw]<;>(try split)<;>simp_all<;>omega))) ?_));rfl));done));(focus (first|((try simp only[]);(repeat' (first|omega|refine And.intro ?_ ?_));done)));(focus (first|omega|fail));(focus (((try clear hK)<;>(try simp only[WKe,List.map_append,List.map_cons,List.map_nil,Xr.pt,Xr.mk', *])<;>repeat (first|with_reducible exact Xd.done|refine S.e ?_|(refine S.f ?_<;>(try simp only[WKe,List.map_append,List.map_cons,List.map_nil,Xr.pt,Xr.mk',hw,↓reduceIte,reduceCtorEq,Int.reduceEq, *]))|refine Xd.drop (F:=F) ?_|fail)))))
 ·have hkk:k=min 8 cs.length:=by omega
  ((try simp only[WKb,↓reduceIte,Nat.reduceEqDiff])<;>(repeat' ((first
  |(refine G.tr ?_;first|refine S.a ?_|fail)
  |fail)<;>(try simp only[WKb,↓reduceIte,Nat.reduceEqDiff]))))
  all_goals
   apply Tr.fin hK ⟨_,gs,by rw[hm,hkk,Vg],rfl,rfl⟩
   ((try clear hK)<;>(try simp only[WKe, *])<;>repeat (first|with_reducible exact Xd.done|refine S.e ?_|refine Xd.drop (F:=F) ?_|fail))
theorem xnx {c:JC}:Xb prog 170 #[.agg (En.enc c).toArray] [] fun v l'=>∃b,v=.pointer (some ⟨b,0,none⟩)∧l'=[VD (Xu.mk' b c)]:=by
 intro F K hK
 simp only[List.nil_append]
 refine S.I fun u=>?_
 ((try simp only[WKb,↓reduceIte])<;>(repeat' ((first
  |(refine G.tr ?_;first|refine S.a ?_|refine S.n fun _=>?_|fail)
  |fail)<;>(try simp only[WKb,WKh,↓reduceIte,Nat.reduceEqDiff]))))
 all_goals
  apply Tr.fin hK ⟨_,rfl,rfl⟩
  have hd: (⟨⟨none,0,0⟩,[]⟩:Msg)=default:=rfl
  ((try clear hK)<;>(try simp only[WKe,Xu.mk', *])<;>repeat (first|with_reducible exact Xd.done|refine S.e ?_|refine Xd.drop (F:=F) ?_|fail))
theorem xm1 {s:SV} {cs:List JC}:Xb prog 169 #[s.v,.int .i64 4,.func (.func 170) #[] #[]] [sl true s.v cs]
  fun v l'=>∃(s1:SV) (gs:List Xu),gs.map Xu.mo=(cs.take 4).map xd1∧v=.agg #[s1.v]∧l'=[sl false s1.v (gs.map Xu.pt),fam VD gs]:=by
 intro F K hK
 simp only[ap]
 have hmin: (if(4:Int)<cs.length then(4:Int)else cs.length)=((min 4 cs.length:Nat):Int):=xeL (n:=4)
 refine S.I fun u=>?_
 ((try simp only[WKb,Nat.reduceAdd])<;>(repeat' ((first
  |(refine G.tr ?_;first|refine S.a ?_|refine S.n fun _=>?_|fail)
  |fail)<;>(try simp only[WKb,↓reduceIte,Nat.reduceEqDiff,hmin]))))
 rename_i c6 c7 s1
 refine Tr.loopE (α:=Nat×SV×List Xu) [17] [2,6,7,15,16] (fun x=>[.int .i64 x.1]) (fun x=>[blk c7 (.cells #[x.2.1.v] 246 (0,0)),sl false x.2.1.v (x.2.2.map Xu.pt),fam VD x.2.2]) (fun x=>x.1≤min 4 cs.length∧x.2.2.length=x.1∧x.2.2.map Xu.mo=(cs.take x.1).map xd1) (fun x=>min 4 cs.length-x.1) (0,⟨none,0,0⟩,[]) (by(repeat (first|exact YK.nil|(apply YK.cons;focus ((first|((repeat (first|exact Xm.here|apply Xm.next));done)|exact Xm.famNil|exact Xm.nilS)))|fail));done) rfl ⟨by omega,rfl,rfl⟩ fun x u hx=>?_
 obtain⟨k,s2,gs⟩:=x
 simp only at hx⊢
 obtain⟨hk,hl,hm⟩:=hx
 have hlt: (cs.take (((min 4 cs.length:Nat):Int)).toNat).length=min 4 cs.length:=by simp
 have hlm: (gs.map Xu.pt).length=k:=by simp[hl]
 by_cases hkn:k<min 4 cs.length
 ·have hw:=Xo (k:=k) S.o
  have hxt:ix (cs.take (((min 4 cs.length:Nat):Int)).toNat) (k:Int)=ix cs (k:Int):=xbX (by simp;omega)
  have hmk:∀b,(gs++[Xu.mk' b (ix cs (k:Int))]).map Xu.mo=(cs.take (k+1)).map xd1:=fun b=>by rw[Yz S.o,List.map_append,List.map_append,hm];rfl
  ((try simp only[WKb,↓reduceIte,Nat.reduceEqDiff])<;>(repeat' ((first
  |(refine G.tr ?_;first|refine S.a ?_|(refine G.call 170 ?_;refine S.c ?_ (h:=xnx))|refine S.n fun _=>?_|refine S.i fun hix=>?_|fail)
  |rintro _ _ ⟨_,rfl,rfl⟩
  |fail)<;>(try simp only[WKb,↓reduceIte,Nat.reduceEqDiff,Nat.reduceAdd,xhh,hw,hxt]))))
  all_goals
   rename_i _ bw _ _
   have hmk':=hmk bw
   have hln: (gs++[Xu.mk' bw (ix cs (k:Int))]).length=k+1:=by simp[hl]
   (apply Tr.againE (k+1,_,gs++[Xu.mk' bw (ix cs (k:Int))]);(focus (simp only[WKb,↓reduceIte,Nat.reduceEqDiff]));(focus ((try simp only[WKb,↓reduceIte]);(all_goals((repeat (refine Jl (by first|rfl|((try clear hK)<;>first|(simp[*,List.map_append,List.map_cons,List.map_nil,Xu.pt,Xu.mk',hw];done)|(simp[*,List.map_append,List.map_cons,List.map_nil,Xu.pt,Xu.mk',hw];omega)|(simp[*,List.map_append,List.map_cons,List.map_nil,Xu.pt,Xu.mk',hw]<;>(try split)<;>simp_all<;>omega))) ?_));rfl));done));(focus (first|((try simp only[]);(repeat' (first|omega|refine And.intro ?_ ?_));done)));(focus (first|omega|fail));(focus (((try clear hK)<;>(try simp only[WKe,List.map_append,List.map_cons,List.map_nil,Xu.pt,Xu.mk', *])<;>repeat (first|with_reducible exact Xd.done|refine S.e ?_|(refine S.f ?_<;>(try simp only[WKe,List.map_append,List.map_cons,List.map_nil,Xu.pt,Xu.mk',hw,↓reduceIte,reduceCtorEq,Int.reduceEq, *]))|refine Xd.drop (F:=F) ?_|fail)))))
 ·have hkk:k=min 4 cs.length:=by omega
  ((try simp only[WKb,↓reduceIte,Nat.reduceEqDiff])<;>(repeat' ((first
  |(refine G.tr ?_;first|refine S.a ?_|fail)
  |fail)<;>(try simp only[WKb,↓reduceIte,Nat.reduceEqDiff]))))
  all_goals
   apply Tr.fin hK ⟨_,gs,by rw[hm,hkk,Vg],rfl,rfl⟩
   ((try clear hK)<;>(try simp only[WKe, *])<;>repeat (first|with_reducible exact Xd.done|refine S.e ?_|refine Xd.drop (F:=F) ?_|fail))
theorem xkF {c:Int}:Xb prog 172 #[.int .i64 c] [] fun v l'=>∃b,v=.pointer (some ⟨b,0,none⟩)∧l'=[YM (Xi.mk' b c)]:=by
 intro F K hK
 simp only[List.nil_append]
 refine S.I fun u=>?_
 ((try simp only[WKb,↓reduceIte,Nat.reduceEqDiff])<;>(repeat' ((first
  |(refine G.tr ?_;first|refine S.a ?_|refine S.n fun _=>?_|fail)
  |fail)<;>(try simp only[WKb,WKh,↓reduceIte]))))
 all_goals
  apply Tr.fin hK ⟨_,rfl,rfl⟩
  have hd: (⟨⟨none,0,0⟩,[]⟩:Msg)=default:=rfl
  ((try clear hK)<;>(try simp only[WKe,Xi.mk', *])<;>repeat (first|with_reducible exact Xd.done|refine S.e ?_|fail))
theorem xjS {s:SV} {cs:List Int}:Xb prog 171 #[s.v,.int .i64 4,.func (.func 172) #[] #[]] [sl true s.v cs]
  fun v l'=>∃(s1:SV) (gs:List Xi),gs.map Xi.mo=(cs.take 4).map QJ∧v=.agg #[s1.v]∧l'=[sl false s1.v (gs.map Xi.pt),fam YM gs]:=by
 intro F K hK
 simp only[ap]
 have hmin: (if(4:Int)<cs.length then(4:Int)else cs.length)=((min 4 cs.length:Nat):Int):=xeL (n:=4)
 refine S.I fun u=>?_
 ((try simp only[WKb,Nat.reduceAdd])<;>(repeat' ((first
  |(refine G.tr ?_;first|refine S.a ?_|refine S.n fun _=>?_|fail)
  |fail)<;>(try simp only[WKb,↓reduceIte,Nat.reduceEqDiff,hmin]))))
 rename_i c6 c7 s1
 refine Tr.loopE (α:=Nat×SV×List Xi) [17] [2,6,7,15,16] (fun x=>[.int .i64 x.1]) (fun x=>[blk c7 (.cells #[x.2.1.v] 249 (0,0)),sl false x.2.1.v (x.2.2.map Xi.pt),fam YM x.2.2]) (fun x=>x.1≤min 4 cs.length∧x.2.2.length=x.1∧x.2.2.map Xi.mo=(cs.take x.1).map QJ) (fun x=>min 4 cs.length-x.1) (0,⟨none,0,0⟩,[]) (by(repeat (first|exact YK.nil|(apply YK.cons;focus ((first|((repeat (first|exact Xm.here|apply Xm.next));done)|exact Xm.famNil|exact Xm.nilS)))|fail));done) rfl ⟨by omega,rfl,rfl⟩ fun x u hx=>?_
 obtain⟨k,s2,gs⟩:=x
 simp only at hx⊢
 obtain⟨hk,hl,hm⟩:=hx
 have hlt: (cs.take (((min 4 cs.length:Nat):Int)).toNat).length=min 4 cs.length:=by simp
 have hlm: (gs.map Xi.pt).length=k:=by simp[hl]
 by_cases hkn:k<min 4 cs.length
 ·have hw:=Xo (k:=k) S.o
  have hxt:ix (cs.take (((min 4 cs.length:Nat):Int)).toNat) (k:Int)=ix cs (k:Int):=xbX (by simp;omega)
  have hmk:∀b,(gs++[Xi.mk' b (ix cs (k:Int))]).map Xi.mo=(cs.take (k+1)).map QJ:=fun b=>by rw[Yz S.o,List.map_append,List.map_append,hm];rfl
  ((try simp only[WKb,↓reduceIte,Nat.reduceEqDiff])<;>(repeat' ((first
  |(refine G.tr ?_;first|refine S.a ?_|(refine G.call 172 ?_;refine S.c ?_ (h:=xkF))|refine S.n fun _=>?_|refine S.i fun hix=>?_|fail)
  |rintro _ _ ⟨_,rfl,rfl⟩
  |fail)<;>(try simp only[WKb,↓reduceIte,Nat.reduceEqDiff,Nat.reduceAdd,xL1,hw,hxt]))))
  all_goals
   rename_i _ bw _ _
   have hmk':=hmk bw
   have hln: (gs++[Xi.mk' bw (ix cs (k:Int))]).length=k+1:=by simp[hl]
   (apply Tr.againE (k+1,_,gs++[Xi.mk' bw (ix cs (k:Int))]);(focus (simp only[WKb,↓reduceIte,Nat.reduceEqDiff]));(focus ((try simp only[WKb,↓reduceIte]);(all_goals((repeat (refine Jl (by first|rfl|((try clear hK)<;>first|(simp[*,List.map_append,List.map_cons,List.map_nil,Xi.pt,Xi.mk',hw];done)|(simp[*,List.map_append,List.map_cons,List.map_nil,Xi.pt,Xi.mk',hw];omega)|(simp[*,List.map_append,List.map_cons,List.map_nil,Xi.pt,Xi.mk',hw]<;>(try split)<;>simp_all<;>omega))) ?_));rfl));done));(focus (first|((try simp only[]);(repeat' (first|omega|refine And.intro ?_ ?_));done)));(focus (first|omega|fail));(focus (((try clear hK)<;>(try simp only[WKe,List.map_append,List.map_cons,List.map_nil,Xi.pt,Xi.mk', *])<;>repeat (first|with_reducible exact Xd.done|refine S.e ?_|(refine S.f ?_<;>(try simp only[WKe,List.map_append,List.map_cons,List.map_nil,Xi.pt,Xi.mk',hw,↓reduceIte,reduceCtorEq,Int.reduceEq, *]))|refine Xd.drop (F:=F) ?_|fail)))))
 ·have hkk:k=min 4 cs.length:=by omega
  ((try simp only[WKb,↓reduceIte,Nat.reduceEqDiff])<;>(repeat' ((first
  |(refine G.tr ?_;first|refine S.a ?_|fail)
  |fail)<;>(try simp only[WKb,↓reduceIte,Nat.reduceEqDiff]))))
  all_goals
   apply Tr.fin hK ⟨_,gs,by rw[hm,hkk,Vg],rfl,rfl⟩
   ((try clear hK)<;>(try simp only[WKe, *])<;>repeat (first|with_reducible exact Xd.done|refine S.e ?_|refine Xd.drop (F:=F) ?_|fail))
instance:ElT 313 Bool:=⟨⟩
def ZF (f:Int):Nat:=(min f 8).toNat
theorem xcf (f:Int):ZF f≤8:=by unfold ZF;omega
theorem xm7 (f:Int): (if(0:Int)<(if 8<f then 8 else f)then(if 8<f then 8 else f)else 0)=((ZF f:Nat):Int):=by
 unfold ZF
 by_cases h:8<f
 ·rw[if_pos h,if_pos S.o];omega
 ·rw[if_neg h]
  by_cases h2:0<f
  ·rw[if_pos h2];omega
  ·rw[if_neg h2];omega
theorem xh0 {b:Nat} {c:xcR} {v1 v2 v3 v4:Value} {cs:List JO} {ps:List JC} {ls:List Int}:Xb prog 113 #[.pointer (some ⟨b,0,none⟩)] [obC b c v1 v2 v3 v4,sl true c.sems.v cs,sl true c.pools.v ps,sl true c.slates.v ls]
  fun v l'=>∃s1 s2 s3 s4 g1 g2 g3 g4,g1.map XL.mo=(cs.take 4).map xjD∧g2.map Xr.mo=List.replicate (ZF c.flags) false∧g3.map Xu.mo=(ps.take 4).map xd1∧g4.map Xi.mo=(ls.take 4).map QJ∧
   v=.tuple #[]∧l'=[obB b ⟨c,s1,s2,s3,s4⟩,sl false s1.v (g1.map XL.pt),fam xc4 g1,sl false s2.v (g2.map Xr.pt),fam QP g2,sl false s3.v (g3.map Xu.pt),fam VD g3,sl false s4.v (g4.map Xi.pt),fam YM g4]:=by
 intro F K hK
 simp only[ap]
 refine S.I fun u=>?_
 have hmx:=xm7 c.flags
 have hml:=xcf c.flags
 have hX:=hmx;repeat' (first|refine S.x ?_|(refine G.call 165 ?_;refine S.c ?_ (h:=xpC))|(refine G.call 167 ?_;refine S.c ?_ (h:=xno))|(refine G.call 169 ?_;refine S.c ?_ (h:=xm1))|(refine G.call 171 ?_;refine S.c ?_ (h:=xjS))|rintro _ _ ⟨_,_,hm,rfl,rfl⟩|intro hb|fail)
 all_goals
  have hf:∀g2:List Xr,g2.map Xr.mo=((List.replicate (((ZF c.flags:Nat):Int)).toNat default).take 8).map xmk→g2.map Xr.mo=List.replicate (ZF c.flags) false:=fun g2 h=>by
   rw[h,Int.toNat_natCast,List.take_replicate,Nat.min_eq_right hml,List.map_replicate];rfl
  apply Tr.fin hK ⟨_,_,_,_,_,_,_,_,by assumption,hf _ ‹_›,by assumption,by assumption,rfl,rfl⟩
  exact S.E
theorem xr3 {u0:Value} {c:xcR} [hd:DeA u0 c] {cs:List JO} {ps:List JC} {ls:List Int}:Xb prog 72 #[u0] [sl true c.sems.v cs,sl true c.pools.v ps,sl true c.slates.v ls]
  fun v l'=>∃b s1 s2 s3 s4 g1 g2 g3 g4,g1.map XL.mo=(cs.take 4).map xjD∧g2.map Xr.mo=List.replicate (ZF c.flags) false∧g3.map Xu.mo=(ps.take 4).map xd1∧g4.map Xi.mo=(ls.take 4).map QJ∧
   v=.pointer (some ⟨b,0,none⟩)∧l'=[obB b ⟨c,s1,s2,s3,s4⟩,sl false s1.v (g1.map XL.pt),fam xc4 g1,sl false s2.v (g2.map Xr.pt),fam QP g2,sl false s3.v (g3.map Xu.pt),fam VD g3,sl false s4.v (g4.map Xi.pt),fam YM g4]:=by
 obtain rfl:=hd.h
 intro F K hK
 simp only[ap]
 refine S.I fun u=>?_
 repeat' (first|refine S.x ?_|(refine G.call 113 ?_;first|refine S.c ?_ (h:=xh0))|rintro _ _ ⟨_,_,_,_,_,_,_,_,hm1,hm2,hm3,hm4,rfl,rfl⟩|intro hb|fail)
 all_goals
  apply Tr.fin hK ⟨_,_,_,_,_,_,_,_,_,hm1,hm2,hm3,hm4,rfl,rfl⟩
  exact S.E
end
instance:ElT 230 Pt:=⟨⟩
structure Xg where
 b:Nat
 q:Bool
 i:Bool
 size:Int
 depth:Int
 lost:Int
 c:Nat
 s:SV
 ms:List Msg
 m:Msg
 there:Bool
 fresh:Bool
instance:Inhabited Xg:=⟨⟨0,false,false,0,0,0,0,⟨none,0,0⟩,[],default,false,false⟩⟩
def Xg.pt (g:Xg):Pt:=⟨some g.b⟩
abbrev quB (c:Nat) (s:SV) (d:Int):Xc:=blk c (.cells #[s.v,.int .i64 d] 303 (0,0))
abbrev saB (c:Nat) (m:Msg) (t f:Bool):Xc:=blk c (.cells #[m.s.v,.bool t,.bool f] 306 (0,0))
abbrev onB (b:Nat) (q i:Bool) (sz d:Int) (v:Value) (lost:Int):Xc:=blk b (.cells #[.bool q,.bool i,.int .i64 sz,.int .i64 d,v,.int .i64 lost] 237 (0,0))
def Ym (g:Xg):Xc:=if g.q=true then sep (onB g.b true g.i g.size g.depth (.iface 301 (.pointer (some ⟨g.c,0,none⟩))) g.lost) (sep (quB g.c g.s g.depth) (sep (sl false g.s.v g.ms) (fzl g.ms)))
 else sep (onB g.b false g.i g.size g.depth (.iface 304 (.pointer (some ⟨g.c,0,none⟩))) g.lost) (sep (saB g.c g.m g.there g.fresh) (Fz.fz g.m))
theorem xtZ {g:Xg} (h:g.q=true):Ym g=sep (onB g.b true g.i g.size g.depth (.iface 301 (.pointer (some ⟨g.c,0,none⟩))) g.lost) (sep (quB g.c g.s g.depth) (sep (sl false g.s.v g.ms) (fzl g.ms))):=if_pos h
theorem xuk {g:Xg} (h:g.q=false):Ym g=sep (onB g.b false g.i g.size g.depth (.iface 304 (.pointer (some ⟨g.c,0,none⟩))) g.lost) (sep (saB g.c g.m g.there g.fresh) (Fz.fz g.m)):=if_neg (by rw[h];simp)
theorem Z8 {g:Xg} {l:List Xc} {X:WP} (h:g.q=true) (hx:Tr (onB g.b true g.i g.size g.depth (.iface 301 (.pointer (some ⟨g.c,0,none⟩))) g.lost::quB g.c g.s g.depth::sl false g.s.v g.ms::fzl g.ms::l) X):Tr (Ym g::l) X:=by
 rw[xtZ h];exact hx.imp (Imp.trans Imp.sep (Imp.cons (Imp.trans Imp.sep (Imp.cons Imp.sep))))
theorem Z0 {g:Xg} {l:List Xc} {X:WP} (h:g.q=false) (hx:Tr (onB g.b false g.i g.size g.depth (.iface 304 (.pointer (some ⟨g.c,0,none⟩))) g.lost::saB g.c g.m g.there g.fresh::Fz.fz g.m::l) X):Tr (Ym g::l) X:=by
 rw[xuk h];exact hx.imp (Imp.trans Imp.sep (Imp.cons Imp.sep))
def xcn (ms:List Msg) (d:Int) (m:Msg):List Msg:=if d≤ms.length then ms else ms++[m]
section
attribute [local irreducible] BrK Xq Xt Xv XI FnK XZ Xw XC XV opX opK Yq Yk eqR Yj Yo Ys WL WD W X3 XO Tr drewK Ya X4 Yw Yv X1 YB mp blk rob sl sep ex fact old Instr.storeAt Instr.loadAt Instr.fieldAt Instr.indexAt Instr.lookup Instr.mapUpdate Instr.box Instr.alloc Instr.build Instr.buildSlice Instr.makeSlice Instr.makeMap Instr.sliceAt Instr.field Instr.index Instr.makeInterface Instr.typeAssert Builtin.len_ Builtin.append_ Builtin.cap_ Builtin.min_ Builtin.max_ Builtin.copy_ Builtin.clear_ convert binOp
theorem xk1 {c:Nat} {s s2:SV} {d:Int} {ms:List Msg} {xs:List UInt8} (hn:xs.length≤1000000) (hm:ms.length≤1000000):Xb prog 317 #[.pointer (some ⟨c,0,none⟩),s2.v] [quB c s d,sl false s.v ms,fzl ms,sl true s2.v xs]
  fun v l'=>∃s3 s4,v=.bool (!decide (d≤ms.length))∧l'=[quB c s3 d,sl false s3.v (xcn ms d ⟨s4,xs⟩),fzl (xcn ms d ⟨s4,xs⟩)]:=by
 intro F K hK
 simp only[ap]
 refine S.I fun u=>?_
 ((try simp only[WKb,↓reduceIte,Nat.reduceEqDiff,Nat.reduceAdd,xJR])<;>(repeat' ((first
  |(refine G.tr ?_;first|refine S.a ?_|(refine G.call 35 ?_;first|refine S.c ?_ (h:=We S.o))|refine S.n fun _=>?_|(refine S.s (fun hb=>?_) (fun hb=>?_)<;>((try simp only[hb])<;>(try(have hp:=hb;simp only[WKs]at hp;(try have hq:=Int.not_le.2 hp);(try have hq:=Int.not_lt.2 hp))))))
  |rintro _ _ ⟨_,rfl,rfl⟩
  |fail)<;>(try simp only[WKb,↓reduceIte,Nat.reduceEqDiff,Nat.reduceAdd,xJR]))))
 all_goals
  apply Tr.fin hK ⟨_,_,(by first|(simp[*];done)|fail),rfl⟩
  ((try clear hK)<;>(try simp only[WKe,xcn,↓reduceIte, *])<;>repeat (first|with_reducible exact Xd.done|refine S.e ?_|refine Xd.drop (F:=F) ?_|fail))
  all_goals exact SV.mk none 0 0
theorem xqn {c:Nat} {s:SV} {d:Int} {ms:List Msg}:Xb prog 283 #[.pointer (some ⟨c,0,none⟩)] [quB c s d,sl false s.v ms,fzl ms]
  fun v l'=>∃s3,v=.tuple #[(ix ms 0).s.v,.bool (!decide ((ms.length:Int)=0))]∧l'=[quB c s3 d,sl false s3.v (ms.drop 1),fzl (ms.drop 1),Fz.fz (ix ms 0)]:=by
 intro F K hK
 simp only[ap]
 refine S.I fun u=>?_
 by_cases h:ms=[]
 ·subst h
  ((try simp only[WKb,↓reduceIte,Nat.reduceEqDiff])<;>(repeat' ((first
  |(refine G.tr ?_;first|refine S.a ?_|fail)
  |fail)<;>(try simp only[WKb,↓reduceIte,Nat.reduceEqDiff]))))
  all_goals
   apply Tr.fin hK ⟨_,rfl,rfl⟩
   ((try clear hK)<;>(try simp only[WKe, *])<;>repeat (first|with_reducible exact Xd.done|refine S.e ?_|fail))
 ·have hl:0<ms.length:=List.length_pos_iff.2 h
  have hd:decide ((ms.length:Int)=0)=false:=by simp;omega
  ((try simp only[WKb,↓reduceIte,Nat.reduceEqDiff])<;>(repeat' ((first
  |(refine G.tr ?_;first|refine S.a ?_|(refine G.call 280 ?_;refine S.c ?_ (h:=xe0 S.o S.o S.o))|refine S.i fun hix=>?_|fail)
  |rintro _ _ ⟨_,rfl,rfl⟩
  |fail)<;>(try simp only[WKb,↓reduceIte,Nat.reduceEqDiff,hd]))))
  all_goals
   apply Tr.fin hK ⟨_,by rw[hd];rfl,rfl⟩
   ((try clear hK)<;>(try simp only[WKe, *])<;>repeat (first|with_reducible exact Xd.done|refine S.e ?_|refine Xd.drop (F:=F) ?_|fail))
theorem xlm {c:Nat} {m:Msg} {t f:Bool} {s2:SV} {xs:List UInt8} (hn:xs.length≤1000000):Xb prog 319 #[.pointer (some ⟨c,0,none⟩),s2.v] [saB c m t f,sl true s2.v xs]
  fun v l'=>∃s3,v=.bool true∧l'=[saB c ⟨s3,xs⟩ true true,Fz.fz (⟨s3,xs⟩:Msg)]:=by
 intro F K hK
 simp only[ap]
 refine S.I fun u=>?_
 ((try simp only[WKb,↓reduceIte,Nat.reduceEqDiff,Nat.reduceAdd])<;>(repeat' ((first
  |(refine G.tr ?_;first|refine S.a ?_|(refine G.call 35 ?_;first|refine S.c ?_ (h:=We S.o))|fail)
  |rintro _ _ ⟨_,rfl,rfl⟩
  |fail)<;>(try simp only[WKb,↓reduceIte,Nat.reduceEqDiff,Nat.reduceAdd]))))
 all_goals
  apply Tr.fin hK ⟨_,rfl,rfl⟩
  ((try clear hK)<;>(try simp only[WKe, *])<;>repeat (first|with_reducible exact Xd.done|refine S.e ?_|refine Xd.drop (F:=F) ?_|fail))
