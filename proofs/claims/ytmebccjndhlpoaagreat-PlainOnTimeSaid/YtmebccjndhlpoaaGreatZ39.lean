import Derived.Test.YtmebccjndhlpoaaGreatZ38
import Derived.Test.YtmebccjndhlpoaaGreatZ12
import Derived.Test.YtmebccjndhlpoaaGreatZ37
namespace Go.Proofs.YtmebccjndhlpoaaGreat
open Go Go.Wk Tryz
set_option maxHeartbeats 6400000
set_option maxRecDepth 100000
abbrev drB (d p m:Nat):Xc:=blk d (.cells #[.pointer (some ⟨p,0,none⟩),.map (some m)] 269 (0,0))
theorem Tr.closeP {Gs:List PG} {k:Nat} {g:PG} {l l1 l2 l3 l4:List Xc} {X:WP} (hk:k<Gs.length) (t1:Xm l (fam xBX (Gs.eraseIdx k)) l1) (t2:Xm l1 (poB g.p g.s) l2) (t3:Xm l2 (fam Ym g.gs) l3) (t4:Xm l3 (sl false g.s.v (g.gs.map Xg.pt)) l4)
  (hx:Tr (fam xBX (Gs.set k g)::l4) X):Tr l X:=
 hx.imp (Xd.famSet (d:=[]) t1 hk (Imp.trans (Imp.trans (Imp.trans t2 (Imp.cons (Imp.trans t3 (Imp.cons t4)))) (Imp.cons Imp.sepI)) Imp.sepI))
theorem xOo {a b:Value}: (some a).getD b=a:=rfl
theorem xOf {a:Value}: (some a).isSome=true:=rfl
theorem xOm {b:Value}: (none:Option Value).getD b=b:=rfl
theorem xOl: (none:Option Value).isSome=false:=rfl
section
attribute [local irreducible] BrK Xq Xt Xv XI FnK XZ Xw XC XV opX opK Yq Yk eqR Yj Yo Ys WL WD W X3 XO Tr drewK Ya X4 Yw Yv X1 YB mp blk rob sl sep ex fact old
section
attribute [local irreducible] chn Go.Wk.CW chM
theorem xMD {d p m:Nat} {k:Int} {kvs:List (Int×Value)} {s:SV} (hf:find k kvs=some (SV.v s)):Xb prog 138 #[.pointer (some ⟨d,0,none⟩),.int .i64 k] [drB d p m,mp m kvs] fun v l'=>v=SV.v s∧l'=[drB d p m,mp m kvs]:=by
 intro F K hK
 simp only[ap]
 refine S.I fun u=>?_
 have hX:=I3 hf (@xOo) (@xOf);repeat' (first|refine S.x ?_|fail)
 all_goals
  refine Tr.fin hK ⟨rfl,rfl⟩ ?_
  exact S.E
theorem xLX {d p m:Nat} {k:Int} {kvs:List (Int×Value)} {s:SV} {gs:List Xg} (hf:find k kvs=none) (hl: (ix gs k).m.d.length≤1000000):Xb prog 138 #[.pointer (some ⟨d,0,none⟩),.int .i64 k] [drB d p m,mp m kvs,poB p s,fam Ym gs,sl false s.v (gs.map Xg.pt)]
  fun v l'=>∃r:SL Msg,r.d.map SL.d=Wa gs k∧v=SV.v r.s∧l'=[drB d p m,mp m (kvs++[(k,SV.v r.s)]),poB p s,fam Ym (JD gs k),sl false s.v ((JD gs k).map Xg.pt),sl false (SV.v r.s) r.d,fzl r.d]:=by
 intro F K hK
 simp only[ap]
 have hu:∀v,ZC k v kvs=kvs++[(k,v)]:=fun v=>xah hf
 refine S.I fun u=>?_
 have hX:=I4 hf hu (@xOm) @xOl;repeat' (first|(refine G.call 201 ?_;refine S.c ?_ (h:=xqv hl);rintro _ _ ⟨r,hrd,rfl,rfl⟩)|refine S.x ?_|fail)
 all_goals
  apply Tr.fin hK ⟨_,hrd,rfl,rfl⟩
  exact S.E
theorem xLc {d p m n:Nat} {k:Int} {qs:List Int} {rs:List (SL Msg)} {s:SV} {gs:List Xg} {ab0:List AP} (hK0:xE4 ab0 (gs.map Xg.abs) qs rs) (hv:xb0 gs n):Xb prog 138 #[.pointer (some ⟨d,0,none⟩),.int .i64 k] [drB d p m,mp m (xEp qs rs),fzl rs,poB p s,fam Ym gs,sl false s.v (gs.map Xg.pt)]
  fun v l'=>∃(qs2:List Int) (rs2:List (SL Msg)) (gs2:List Xg) (r:SL Msg),xE4 ab0 (gs2.map Xg.abs) qs2 rs2∧xb0 gs2 n∧gs2.map Xg.abs=YQ (gs.map Xg.abs) k∧r.d.map SL.d=Zl ab0 k∧v=SV.v r.s∧l'=[Fz.fz r,drB d p m,mp m (xEp qs2 rs2),fzl rs2,poB p s,fam Ym gs2,sl false s.v (gs2.map Xg.pt)]:=by
 intro F K hK
 simp only[ap]
 by_cases hk:k∈qs
 ·obtain⟨i,hi,hf,hr,hd⟩:=hK0.hit hk
  refine S.c ?_ (h:=xMD hf)
  rintro _ _ ⟨rfl,rfl⟩
  simp only[ap]
  apply Tr.fin hK ⟨qs,rs,gs,ix rs (i:Int),hK0,hv,hd.symm,hr,rfl,rfl⟩
  exact S.E
 ·have hf:=xFg hK0.len hk
  have hmm:=xNi hv k
  refine S.c ?_ (h:=xLX hf S.o)
  rintro _ _ ⟨r,hrd,rfl,rfl⟩
  simp only[ap]
  have had:=xfk hv (k:=k)
  have hm:=hK0.miss hk (r:=r) (by rw[hrd,had.1])
  have hks:=xFS (q:=k) (r:=r) hK0.len
  refine Tr.freezeAt (α:=Msg) S.K ?_
  apply Tr.fin hK ⟨qs++[k],rs++[r],JD gs k,r,(by rw[had.2];exact hm.2),xnj hv,had.2,hm.1,rfl,rfl⟩
  (have hX:=hks;exact S.E)
theorem xJY {chs:List xBJ} {part:Int} {k:Int} (h:k∈xEb chs part):0≤k∧k<(min chs.length 16:Nat):=by
 unfold xEb xDA at h
 obtain⟨j,hj,rfl⟩:=List.mem_map.1 h
 have:=List.mem_range.1 (List.mem_filter.1 hj).1
 omega
end
section
def mwI (ms:List xBY) (i:Nat):xF0:=if i<ms.length then(ix ms (i:Int)).w else default
theorem xMB {ms:List xBY} {i:Nat} (h:i<ms.length):mwI ms i=(ix ms (i:Int)).w:=if_pos h
theorem xJz {ms:List xBY} {i:Nat}: ((ms.map xBY.w).drop i).headD default=mwI ms i:=by
 unfold mwI
 by_cases h:i<ms.length
 ·rw[if_pos h,List.drop_eq_getElem_cons (by simpa using h)];simp[ix,h]
 ·rw[if_neg h,List.drop_eq_nil_of_le (by simp;omega)];rfl
theorem xJq {ab:List AP} (hok:xHe ab) {k:Int} {r:SL Msg} (hr:r.d.map SL.d=Zl ab k) {i:Nat} (hi:i<r.d.length): (ix r.d (i:Int)).d.length≤300:=by
 refine xFk hok (k:=k) _ ?_
 rw[←hr]
 exact List.mem_map.2 ⟨_,List.mem_of_getElem? (Yi S.o S.o),rfl⟩
theorem xFV {ab:List AP} (hok:xHe ab) {chs:List xBJ} {win:Int} {l:List Int}:∀m∈xC0 ab chs win l,m.2.2.length≤300:=by
 intro m hm
 obtain⟨k,_,hk⟩:=List.mem_flatMap.1 hm
 obtain⟨d,hd,rfl⟩:=List.mem_map.1 hk
 exact xFk hok d hd
attribute [local irreducible] chn Go.Wk.CW chM
theorem xJC {u0:Value} {c:xE0} [hd:DeA u0 c] {chs:List xBJ} {part win:Int} {all:SV} {Gs:List PG} {n:Nat} (hv:xEd Gs n) (hn:n≤800000) (hok:xHe (ix (Gs.map PG.ab) part)):
  Xb prog 88 #[u0,.int .i64 part,.int .i64 win,all.v] [sl true c.chans.v chs,sl true all.v (Gs.map PG.pt),fam xBX Gs]
  fun v l'=>∃(Gs2:List PG) (s2:SV) (ms:List xBY),ms.map xBY.ab=xCZ chs part win (Gs.map PG.ab)∧xEd Gs2 (n+4096)∧Gs2.map PG.pt=Gs.map PG.pt∧Gs2.map PG.ab=xBQ chs part win (Gs.map PG.ab)∧v=SV.v s2∧l'=[sl false (SV.v s2) ms,fzl ms,fam xBX Gs2]:=by
 obtain rfl:=hd.h
 intro F K hK
 simp only[ap]
 obtain⟨c1,c2,c3,c4,c5,c6,c7,c8,c9,c10,c11,c12,c13⟩:=c
 by_cases hin:0≤part∧part<Gs.length
 ·obtain⟨h0,h1⟩:=hin
  have hst:xIn (Gs.map PG.ab) part:=⟨h0,by rw[xFY];exact h1⟩
  have hi:=xHt hv h0 h1
  have hab:ix (Gs.map PG.ab) part=(ix Gs part).gs.map Xg.abs:=xJd h0 h1
  have hp:ix (Gs.map PG.pt) part=⟨some (ix Gs part).p⟩:=Xp (f:=PG.pt) h0 h1
  have hkn:part.toNat<Gs.length:=by omega
  refine Tr.famAt (A:=xBX) part S.K h0 h1 ?_
  refine xEw ?_
  refine S.I fun u=>?_
  have hX:=hp;repeat' (first|(refine G.call 137 ?_;refine S.c ?_ (h:=xJN (n:=4096) S.o);rintro _ _ ⟨_,_,rfl,rfl⟩)|refine S.x ?_|(refine G.call 33 ?_;refine S.c ?_ (h:=xKL))|rintro _ _ ⟨_,rfl,rfl⟩|intro hb|fail)
  rename_i cb hft mm r cc os
  obtain⟨dd,hdd⟩:∃dd,dd=hb:=⟨_,rfl⟩
  subst hdd
  generalize hab0: (ix Gs part).gs.map Xg.abs=ab0 at hab
  have hok':xHe ab0:=hab ▸ hok
  generalize houts:xEb chs part=outs
  have hom:∀k∈outs,0≤k∧k<(min chs.length 16:Nat):=fun k h=>xJY (houts ▸ h)
  have hol:outs.length≤16:=by have:=xFQ (chs:=chs) (part:=part) (n:=min chs.length 16);rw[←houts];unfold xEb;omega
  refine Tr.loopE (α:=Nat×List Int×List (SL Msg)×List Xg×List xBY) [38] [2,3,4,8,9,10,36,37] (fun x=>[.int .i64 x.1]) (fun x=>[mp mm (xEp x.2.1 x.2.2.1),fzl x.2.2.1,fam Ym x.2.2.2.1,sl false (ix Gs part).s.v (x.2.2.2.1.map Xg.pt),chM cc 4096 (x.2.2.2.2.map xBY.w),fzl x.2.2.2.2])
   (fun x=>x.1≤outs.length∧xE4 ab0 (x.2.2.2.1.map Xg.abs) x.2.1 x.2.2.1∧xb0 x.2.2.2.1 n∧x.2.2.2.1.map Xg.abs=xCp ab0 chs (outs.take x.1)∧x.2.2.2.2.map xBY.ab=(xC0 ab0 chs win (outs.take x.1)).take 4096) (fun x=>outs.length-x.1)
   (0,[],[],(ix Gs part).gs,[]) S.T rfl ⟨by omega,by rw[hab0];exact xE4.nil,hi,hab0,by simp[xC0]⟩ fun x u hx=>?_
  obtain⟨j,qs,rs,gs,ms⟩:=x
  simp only at hx⊢
  obtain⟨hj,hKp,hvg,hga,hma⟩:=hx
  have hw:=Xo (k:=j) S.o
  by_cases hjn:j<outs.length
  ·have htk:outs.take (j+1)=outs.take j++[ix outs (j:Int)]:=Yz hjn
   have hm:=hom (ix outs (j:Int)) (List.mem_of_getElem? (Yi S.o S.o))
   obtain⟨hm0,hm1⟩:=hm
   generalize hkk:ix outs (j:Int)=kk at hm0 hm1 htk
   have hX:=I3 hw hkk @Nat.add_zero;repeat' (first|rintro _ _ ⟨qs2,rs2,gs2,rr,hKp2,hvg2,hga2,hrr,rfl,rfl⟩|(refine G.call 138 ?_;refine S.c ?_ (h:=xLc hKp hvg))|refine S.x ?_|intro hb|fail)
   have hrl: (Zl ab0 (ix chs kk).fo).length=rr.d.length:=by rw[←hrr,List.length_map]
   have hQ:∀{x:List AP},x=YQ (gs.map Xg.abs) (ix chs kk).fo→x=xCp ab0 chs (outs.take (j+1)):=fun h=>by rw[h,htk,xFo,hga]
   have hfin:xC0 ab0 chs win (outs.take (j+1))=xC0 ab0 chs win (outs.take j)++(Zl ab0 (ix chs kk).fo).map fun d=>(kk,win,d):=by rw[htk,xGf]
   generalize hX:xC0 ab0 chs win (outs.take j)=X at hma hfin
   generalize hD:Zl ab0 (ix chs kk).fo=D at hrr hrl hfin
   refine Tr.bound (ro:=true) (v:=SV.v rr.s) (xs:=rr.d) ZV.h fun hbr=>?_
   refine Tr.loopE (α:=Nat×List xBY) [52] [2,3,4,8,9,10,12,36,37,38,50,51] (fun x=>[.int .i64 x.1]) (fun x=>[chM cc 4096 (x.2.map xBY.w),fzl x.2])
    (fun x=>x.1≤rr.d.length∧x.2.map xBY.ab=(X++(D.take x.1).map fun d=>(kk,win,d)).take 4096) (fun x=>rr.d.length-x.1) (0,ms) S.T rfl ⟨by omega,by simp only[List.take_zero,List.map_nil,List.append_nil];exact hma⟩ fun x u hx=>?_
   obtain⟨i,ms2⟩:=x
   simp only at hx⊢
   obtain⟨hil,hmi⟩:=hx
   by_cases hin2:i<rr.d.length
   ·have hw2:=Xo (k:=i) S.o
    have hdl: (ix rr.d (i:Int)).d.length≤300:=xJq hok' (by rw[hrr,←hD]) hin2
    have hDi:D.take (i+1)=D.take i++[(ix rr.d (i:Int)).d]:=by
     rw[Yz S.o,←hrr,Xp (f:=SL.d) S.o S.o]
    have hXs:X++((D.take (i+1)).map fun d=>(kk,win,d))=(X++(D.take i).map fun d=>(kk,win,d))++[(kk,win,(ix rr.d (i:Int)).d)]:=by rw[hDi,List.map_append,←List.append_assoc];rfl
    have hsn:∀t:SV,ms2.length<4096→(ms2++[(⟨kk,win,⟨t,(ix rr.d (i:Int)).d⟩⟩:xBY)]).map xBY.ab=(X++(D.take (i+1)).map fun d=>(kk,win,d)).take 4096:=fun t hlt=>by
     rw[hXs,xFL,←hmi,if_pos (by rw[List.length_map];exact hlt),List.map_append];rfl
    have hsf:¬ms2.length<4096→ms2.map xBY.ab=(X++(D.take (i+1)).map fun d=>(kk,win,d)).take 4096:=fun hlt=>by
     rw[hXs,xFL,←hmi,if_neg (by rw[List.length_map];exact hlt)]
    have hwm:∀t:SV,(ms2++[(⟨kk,win,⟨t,(ix rr.d (i:Int)).d⟩⟩:xBY)]).map xBY.w=ms2.map xBY.w++[⟨kk,win,t⟩]:=fun t=>by simp[xBY.w]
    have hlw: (ms2.map xBY.w).length=ms2.length:=List.length_map _
    by_cases hlt:ms2.length<4096
    ·have hsn2:=fun t=>hsn t hlt
     have hX:=I3 hw2 hlw hlt;repeat' (first|refine S.x ?_|(refine G.call 35 ?_;refine S.c ?_ (h:=We S.o))|(refine G.call 139 ?_;refine S.c ?_ (h:=xGp))|rintro _ _ ⟨rfl,rfl⟩|rintro _ _ ⟨_,rfl,rfl⟩|intro hb|fail)
     all_goals(apply Tr.againE ((i+1,ms2++[(⟨kk,win,⟨_,(ix rr.d (i:Int)).d⟩⟩:xBY)]));(focus (simp only[WKb,↓reduceIte,Nat.reduceEqDiff]));(focus ((try simp only[WKb,↓reduceIte]);(all_goals((repeat (refine Jl (by first|rfl|((try clear hK)<;>first|(simp[*,hwm];done)|(simp[*,hwm];omega)|(simp[*,hwm]<;>(try split)<;>simp_all<;>omega))) ?_));rfl));done));rotate_left 2;(focus ((have hX:=hwm;exact S.E)));(focus (first|((try simp only[]);(repeat' (first|omega|apply hsn2|refine And.intro ?_ ?_));done)));(focus (first|omega|fail)))
    ·have hsf2:=hsf hlt
     have hX:=I3 hw2 hlw hlt;repeat' (first|refine S.x ?_|(refine G.call 35 ?_;refine S.c ?_ (h:=We S.o))|(refine G.call 139 ?_;refine S.c ?_ (h:=xGp))|rintro _ _ ⟨rfl,rfl⟩|rintro _ _ ⟨_,rfl,rfl⟩|intro hb|fail)
     all_goals(apply Tr.againE ((i+1,_));(focus (simp only[WKb,↓reduceIte,Nat.reduceEqDiff]));(focus ((try simp only[WKb,↓reduceIte]);(all_goals((repeat (refine Jl (by first|rfl|(simp[*];done)) ?_));rfl));done));rotate_left 2;(focus (exact S.E));(focus (first|(refine⟨by omega,by assumption⟩)|fail));(focus (first|omega|fail)))
   ·have hii:i=rr.d.length:=by omega
    have hDt:D.take i=D:=List.take_of_length_le S.o
    have hfm:ms2.map xBY.ab=(xC0 ab0 chs win (outs.take (j+1))).take 4096:=by rw[hmi,hDt,hfin]
    have hgx:=hQ hga2
    have hX:=hw;repeat' (first|refine S.x ?_|fail)
    all_goals(apply Tr.againE ((j+1,_,_,_,_));(focus (simp only[WKb,↓reduceIte,Nat.reduceEqDiff]));(focus ((try simp only[WKb,↓reduceIte]);(all_goals((repeat (refine Jl (by first|rfl|(simp[*];done)) ?_));rfl));done));rotate_left 2;(focus (exact S.E));(focus (first|((try simp only[]);(repeat' (first|omega|refine And.intro ?_ ?_));done)));(focus (first|omega|fail)))
  ·have hjj:j=outs.length:=by omega
   subst hjj
   rw[List.take_length]at hga hma
   generalize hG1:Gs.set part.toNat {ix Gs part with gs:=gs}=G1
   have hv1:xEd G1 n:=hG1 ▸ xGs hv hvg
   have hp1:G1.map PG.pt=Gs.map PG.pt:=hG1 ▸ YW (f:=PG.pt) h0 h1 _ rfl
   have ha1:G1.map PG.ab=(Gs.map PG.ab).set part.toNat (xCp ab0 chs outs):=by rw[←hG1,List.map_set,←hga];rfl
   have hmsl:ms.length≤4096:=by have:=congrArg List.length hma;rw[List.length_map,List.length_take]at this;omega
   have hmd:∀i:Nat,i<ms.length→(ix ms (i:Int)).d.d.length≤300:=fun i h=>by
    have h2: (ix ms (i:Int)).ab∈ms.map xBY.ab:=List.mem_map.2 ⟨_,List.mem_of_getElem? (Yi S.o S.o),rfl⟩
    rw[hma]at h2
    exact xFV hok' _ (List.mem_of_mem_take h2)
   refine Tr.closeP (Gs:=Gs) (k:=part.toNat) (g:={ix Gs part with gs:=gs}) hkn S.K S.K S.K S.K ?_
   rw[hG1]
   have hmv:∀i:Nat,mvW (((ms.map xBY.w).drop i).headD default)=.agg #[.int .i64 (mwI ms i).ch,.int .i64 (mwI ms i).win,(mwI ms i).s.v]:=fun i=>by rw[xJz];rfl
   have hmv0:mvW ((ms.map xBY.w).headD default)=.agg #[.int .i64 (mwI ms 0).ch,.int .i64 (mwI ms 0).win,(mwI ms 0).s.v]:=by have:=hmv 0;rwa [List.drop_zero]at this
   have hlw: (ms.map xBY.w).length=ms.length:=List.length_map _
   have htl0: (ms.map xBY.w).tail=(ms.map xBY.w).drop (0+1):=by simp
   have hX:=And.intro hmv0 hlw;repeat' (first|refine S.x ?_|(refine G.call 140 ?_;refine S.c ?_ (h:=xGB))|rintro _ _ ⟨rfl,rfl⟩|intro hb|fail)
   obtain⟨bb,hbb⟩:∃bb,bb=hb:=⟨_,rfl⟩
   subst hbb
   simp only[htl0]
   refine Tr.nilSl (α:=xBY) ?_
   refine Tr.loopE (α:=Nat×SV×Nat×List PG) [15,16,17] [3,4,8,10] (fun x=>[x.2.1.v,.pointer (some ⟨x.2.2.1,0,none⟩),.bool (decide (x.1<ms.length))]) (fun x=>[blk x.2.2.1 (.cells #[.int .i64 (mwI ms x.1).ch,.int .i64 (mwI ms x.1).win,(mwI ms x.1).s.v] 71 (0,0)),chM cc 4096 ((ms.map xBY.w).drop (x.1+1)),sl false x.2.1.v (ms.take x.1),fam xBX x.2.2.2])
    (fun x=>x.1≤ms.length∧xEd x.2.2.2 (n+x.1)∧x.2.2.2.map PG.pt=Gs.map PG.pt∧x.2.2.2.map PG.ab=xCq chs ((ms.map xBY.ab).take x.1) (G1.map PG.ab)) (fun x=>ms.length-x.1) (0,⟨none,0,0⟩,bb,G1) S.T rfl ⟨by omega,hv1,hp1,by simp[xCq]⟩ fun x u hx=>?_
   obtain⟨i,so,b2,G2⟩:=x
   simp only at hx⊢
   obtain⟨hil,hv2,hp2,ha2⟩:=hx
   by_cases hin3:i<ms.length
   ·have hmw:=xMB hin3
    have hm1: (mwI ms i).ch=(ix ms (i:Int)).ch:=by rw[hmw];rfl
    have hm2: (mwI ms i).win=(ix ms (i:Int)).win:=by rw[hmw];rfl
    have hm3: (mwI ms i).s=(ix ms (i:Int)).d.s:=by rw[hmw];rfl
    have hdt:decide (i<ms.length)=true:=by simpa using hin3
    have hdl:=hmd i hin3
    have htk:ms.take (i+1)=ms.take i++[ix ms (i:Int)]:=Yz hin3
    have htk2:ms.take (i+1)=ms.take i++[(⟨(ix ms (i:Int)).ch,(ix ms (i:Int)).win,⟨(ix ms (i:Int)).d.s,(ix ms (i:Int)).d.d⟩⟩:xBY)]:=htk
    have hab2: (ms.map xBY.ab).take (i+1)=(ms.map xBY.ab).take i++[(ix ms (i:Int)).ab]:=by rw[←List.map_take,←List.map_take,htk,List.map_append];rfl
    have hnx:∀{y:St},y=xCg chs (ix ms (i:Int)).ch (ix ms (i:Int)).d.d (G2.map PG.ab)→y=xCq chs ((ms.map xBY.ab).take (i+1)) (G1.map PG.ab):=fun h=>by rw[h,hab2,xFq,ha2];rfl
    have htl: ((ms.map xBY.w).drop (i+1)).tail=(ms.map xBY.w).drop (i+1+1):=by simp
    have hdl2:decide (0<((ms.map xBY.w).drop (i+1)).length)=decide (i+1<ms.length):=by rw[decide_eq_decide,List.length_drop,hlw];omega
    have hln: (ms.take i).length=i:=by rw[List.length_take];omega
    simp only[hm1,hm2,hm3,←hp2]at*
    have hX:=I5 hdt hmv htl hdl2 hlw;repeat' (first|(refine G.call 141 ?_;refine S.c ?_ (h:=xJm (c:=⟨c1,c2,c3,c4,c5,c6,c7,c8,c9,c10,c11,c12,c13⟩) (d:=(ix ms (i:Int)).d.d) hv2 S.o hdl);rintro _ _ ⟨G3,hv3,hp3,ha3,rfl,rfl⟩)|refine S.x ?_|(refine G.call 140 ?_;refine S.c ?_ (h:=xGB))|rintro _ _ ⟨rfl,rfl⟩|intro hb|fail)
    all_goals
     have hq3:=hnx ha3
     (apply Tr.againE ((i+1,_,_,G3));(focus (simp only[WKb,↓reduceIte,Nat.reduceEqDiff]));(focus ((try simp only[WKb,↓reduceIte,Nat.reduceEqDiff]);(all_goals((repeat (refine Jl (by first|rfl|fail) ?_));rfl));done));rotate_left 2;(focus ((have hX:=htk2;exact S.E)));(focus (first|((try simp only[]);(repeat' (first|omega|refine And.intro ?_ ?_));done)));(focus (first|omega|fail)))
   ·have hii:i=ms.length:=by omega
    subst hii
    have hdt:decide (ms.length<ms.length)=false:=by simp
    have hr1:ms.map xBY.ab=xCZ chs part win (Gs.map PG.ab):=by unfold xCZ;rw[if_pos hst,hab,hma];unfold xEe;rw[houts]
    have hr2:G2.map PG.ab=xBQ chs part win (Gs.map PG.ab):=by
     unfold xBQ;rw[if_pos hst,hab,ha2,ha1,List.take_of_length_le (by simp),hma];unfold xEe;rw[houts]
    rw[List.take_length]
    have hX:=hdt;repeat' (first|refine S.x ?_|fail)
    all_goals
     apply Tr.fin hK ⟨G2,so,ms,hr1,xEg hv2 S.o,hp2,hr2,rfl,rfl⟩
     exact S.E
 ·have hst:¬xIn (Gs.map PG.ab) part:=fun h=>hin ⟨h.1,by have:=h.2;rwa [xFY]at this⟩
  have hf1:xCZ chs part win (Gs.map PG.ab)=[]:=if_neg hst
  have hf2:xBQ chs part win (Gs.map PG.ab)=Gs.map PG.ab:=if_neg hst
  refine S.I fun u=>?_
  repeat' (first|refine S.x ?_|refine S.y ?_ ?_|intro hb|fail)
  all_goals
   refine Tr.nilSl (α:=xBY) ?_
   apply Tr.fin hK ⟨Gs,⟨none,0,0⟩,[],by rw[hf1];rfl,xEg hv S.o,rfl,hf2.symm,rfl,rfl⟩
   exact S.E
end
theorem xF2 {α:Type} {l:List α} {n:Int} {p:α→Bool} (h:xB0 l n p=true): (l.length:Int)≤n∧∀x∈l,p x=true:=by
 unfold xB0 at h
 rw[Bool.and_eq_true,List.all_eq_true]at h
 exact⟨of_decide_eq_true h.1,h.2⟩
theorem xFc {p:Prop} [Decidable p] {a b:Int} (ha:a≠0) (h: (if p then a else b)=0):¬p∧b=0:=by
 split at h
 ·exact absurd h ha
 ·exact⟨by assumption,h⟩
theorem xCy {p:Prop} [Decidable p] {a b:Int×Int} (ha:p→a.1≠0) (h: (if p then a else b).1=0):¬p∧b.1=0:=by
 split at h
 ·rename_i hp;exact absurd h (ha hp)
 ·exact⟨by assumption,h⟩
structure xMq (p:YF):Prop where
 r:∀x∈p.regions.d,∃a,xDh x a=true
 pn:p.procs.d≠[]
 pr: (p.procs.d.length:Int)≤8∧∀x∈p.procs.d,xCl x=true
 o: (p.ports.d.length:Int)≤8∧∀x∈p.ports.d,xCm x=true
 b:xFp p=true
 t:xDY p=true
theorem xEO {p:YF} (h:xCw p=0):xMq p:=by
 unfold xCw at h
 obtain⟨h1,h⟩:=xFc (by decide) h
 obtain⟨h2,h⟩:=xFc (by decide) h
 obtain⟨h3,h⟩:=xFc (by decide) h
 obtain⟨h4,h⟩:=xFc (by decide) h
 obtain⟨h5,h⟩:=xFc (by decide) h
 simp only[not_or,Bool.not_eq_false]at h1 h2 h3 h4 h5
 refine⟨?_,?_,xF2 h2.2,xF2 h3,h4,h5⟩
 ·unfold rgB at h1
  rw[Bool.and_eq_true,decide_eq_true_eq,decide_eq_true_eq]at h1
  exact xDq (Int.le_refl 0) (Int.not_le.2 h1.2)
 ·intro hn
  exact h2.1 (by rw[hn];rfl)
theorem xDr {p:YF} (h:xCw p=0):xkj p:=by
 have ho:=xEO h
 have hb:=ho.b
 have ht:=ho.t
 unfold xFp at hb
 unfold xDY at ht
 simp only[Bool.and_eq_true]at hb ht
 obtain⟨b1,b2,b3,b4⟩:=hb
 refine⟨fun x hx=>?_,?_,by have:=ho.pr.1;omega,fun x hx=>?_,fun x hx=>?_,⟨fun x hx=>?_,fun x hx=>?_⟩,(xB6 ht.1).1,(xB6 ht.1).2⟩
 ·obtain⟨a,ha⟩:=ho.r x hx
  unfold xDh at ha
  rw[Bool.and_eq_true]at ha
  exact xB6 ha.1
 ·have:=ho.pn
  cases hd:p.procs.d with
  |nil=>exact absurd hd this
  |cons a l=>simp
 ·have:=ho.pr.2 x hx
  unfold xCl at this
  simp only[Bool.and_eq_true]at this
  exact(xB6 this.2.2).2
 ·have:=ho.o.2 x hx
  unfold xCm at this
  split at this
  ·simp only[Bool.and_eq_true]at this
   exact⟨(xB6 this.1).2,(xB6 this.2).2⟩
  ·simp only[Bool.and_eq_true,decide_eq_true_eq]at this
   exact⟨(xB6 this.1).2,by omega⟩
 ·have:=(xF2 b3).2 x hx
  unfold xCS at this
  simp only[Bool.and_eq_true]at this
  exact⟨(xB6 this.1).2,(xB6 this.2).2⟩
 ·exact(xB6 ((xF2 b4).2 x hx)).2
structure xDc (c:xBG):Prop where
 n1:1≤c.parts.d.length
 n8:c.parts.d.length≤8
 p:∀k:Int,0≤k→k<c.parts.d.length→xCw (ix c.parts.d k)=0
 pw: (xCd c.levels.d c.naps.d c.pow).1=0
 ch: (c.chans.d.length:Int)≤16
 m1:1≤c.modes.d.length
 m4:c.modes.d.length≤4
 m:∀k:Int,0≤k→k<c.modes.d.length→xCF c k=0
theorem xHH {c:xBG} (h: (xB3 c).1=0):xDc c:=by
 unfold xB3 at h
 obtain⟨h1,h⟩:=xCy (fun _=>by decide) h
 obtain⟨h2,h⟩:=xCy id h
 obtain⟨h3,h⟩:=xCy id h
 obtain⟨h4,h⟩:=xCy id h
 obtain⟨h5,h⟩:=xCy id h
 simp only[Classical.not_not,Bool.not_eq_false]at h1 h2 h3 h4 h5
 have h1':=xB6 h1
 unfold xDv at h4
 obtain⟨h4',_⟩:=xCy (fun _=>by decide) h4
 unfold xDw at h5
 obtain⟨h6,h7⟩:=xCy (fun _=>by decide) h5
 simp only[Bool.not_eq_false]at h6
 have h6':=xB6 h6
 refine⟨by omega,by omega,fun k h0 hk=>?_,h3,by omega,by omega,by omega,fun k h0 hk=>?_⟩
 ·have:=xDR h2 k.toNat (Nat.zero_le _) S.o
  rwa [Int.toNat_of_nonneg h0]at this
 ·have:=xDR h7 k.toNat (Nat.zero_le _) S.o
  rwa [Int.toNat_of_nonneg h0]at this
theorem xEQ {c:xBG} {k:Int} (hl:c.parts.d.length≤8) (h:xCF c k=0): (1≤(ix c.modes.d k).frame∧(ix c.modes.d k).frame≤1000000000)∧(ix c.modes.d k).wins.d.length≤16∧∀x∈(ix c.modes.d k).wins.d,0≤x.part∧x.part<c.parts.d.length:=by
 unfold xCF at h
 obtain⟨h1,h⟩:=xFc (by decide) h
 obtain⟨h2,h⟩:=xFc (by decide) h
 simp only[not_or,Bool.not_eq_false]at h2
 obtain⟨a,b,d⟩:=h2
 refine⟨xB6 a,by omega,fun x hx=>?_⟩
 obtain⟨y,hy⟩:=xDq (Int.le_refl 0) d x hx
 unfold xCt at hy
 rw[Bool.and_eq_true]at hy
 have h3:=xB6 hy.1
 have hw:IntKind.i64.wrap ((c.parts.d.length:Int)-1)=(c.parts.d.length:Int)-1:=Ye S.o S.o
 rw[hw]at h3
 omega
theorem xHL {c:xBG} (h:xDc c):xLk c:=⟨fun m hm=>by
 obtain⟨k,hk,rfl⟩:=List.mem_iff_getElem.1 hm
 have e:c.modes.d[k]=ix c.modes.d (k:Int):=by simp[ix,hk]
 rw[e]
 exact(xEQ h.n8 (h.m (k:Int) S.o S.o)).2.1⟩
