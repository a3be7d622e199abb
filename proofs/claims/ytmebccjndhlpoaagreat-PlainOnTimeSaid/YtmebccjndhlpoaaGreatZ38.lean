import Derived.Test.YtmebccjndhlpoaaGreatZ22
namespace Go.Proofs.YtmebccjndhlpoaaGreat
open Go Go.Wk Tryz
set_option maxHeartbeats 6400000
set_option maxRecDepth 100000
instance:ChT prog 352:=xJ5 (by kernel_rfl)
instance:Zer prog 71 (.agg #[.int .i64 0,.int .i64 0,.slice none 0 0]):=⟨by kernel_rfl⟩
structure xF0 where
 ch:Int
 win:Int
 s:SV
instance:Inhabited xF0:=⟨⟨0,0,⟨none,0,0⟩⟩⟩
def mvW (m:xF0):Value:=.agg #[.int .i64 m.ch,.int .i64 m.win,m.s.v]
abbrev xHl (r c:Nat):Xc:=blk r (.cells #[.chan (some c)] 354 (0,0))
def chM (c cap:Nat) (ws:List xF0):Xc:=chn c cap (ws.map mvW)
noncomputable def xNb:Code:=match Tryz.f139.body with
 |some c=>c
 |none=>.skip
theorem xIO:Tryz.f139.body=some xNb:=by kernel_rfl
noncomputable def xNd:Code:=match Tryz.f140.body with
 |some c=>c
 |none=>.skip
theorem xIi:Tryz.f140.body=some xNd:=by kernel_rfl
section
attribute [local irreducible] BrK Xq Xt Xv XI FnK XZ Xw XC XV opX opK Yq Yk eqR Yj Yo Ys WL WD W X3 XO Tr drewK Ya X4 Yw Yv X1 YB mp blk rob sl sep ex fact old
section
attribute [local irreducible] chn CW
theorem xFz {r c:Nat}:Xb prog 202 #[.pointer (some ⟨r,0,none⟩)] [xHl r c] fun v l'=>v=.bool false∧l'=[xHl r c]:=by
 intro F K hK
 simp only[ap]
 refine S.I fun u=>?_
 have hX:=@xB7;repeat' (first|refine S.x ?_|fail)
 all_goals
  refine Tr.fin hK ⟨rfl,rfl⟩ ?_
  exact S.E
theorem xGp {r c cap:Nat} {ws:List xF0} {ch wn:Int} {s:SV}:Xb prog 139 #[.pointer (some ⟨r,0,none⟩),.agg #[.int .i64 ch,.int .i64 wn,s.v]] [xHl r c,chM c cap ws]
  fun v l'=>v=.bool (decide (ws.length<cap))∧l'=[xHl r c,chM c cap (if ws.length<cap then ws++[⟨ch,wn,s⟩]else ws)]:=by
 intro F K hK
 simp only[ap,chM]
 have hl: (ws.map mvW).length=ws.length:=List.length_map _
 have hap:ws.map mvW++[.agg #[.int .i64 ch,.int .i64 wn,s.v]]=(ws++[(⟨ch,wn,s⟩:xF0)]).map mvW:=by simp[mvW]
 refine Tr.enterC (rs:=[.tmp 4]) (c:=xNb) Tryz.func139 xIO rfl (by simp) fun u=>?_
 simp only[xNb,Tryz.f139]
 refine Tr.cwSeq ?_
 refine Tr.cwW np mixed (by kernel_rfl) (by kernel_rfl) ?_
 have hX:=And.intro @xB7 @xnV;repeat' (first|refine S.x ?_|intro hb|fail)
 refine Tr.cwSeq ?_
 refine Tr.cwW np mixed (by kernel_rfl) (by kernel_rfl) ?_
 have hX:=And.intro @xB7 @xnV;repeat' (first|refine S.x ?_|(refine G.call 202 ?_;refine S.c ?_ (h:=xFz))|rintro _ _ ⟨rfl,rfl⟩|fail)
 refine Tr.cwSeq ?_
 refine Tr.cwW np mixed (by kernel_rfl) (by kernel_rfl) ?_
 have hX:=And.intro @xB7 @xnV;repeat' (first|refine S.x ?_|fail)
 refine Tr.cwSeq ?_
 refine Tr.bringC c ?_
 refine Tr.selSend (by rfl) (by rfl) (by decide) (by decide) (by decide) (fun hr=>?_) (fun hr=>?_)
 ·simp only[xnV]
  refine Tr.cwW np mixed (by kernel_rfl) (by kernel_rfl) ?_
  rw[hl]at hr
  have hX:=@xB7;repeat' (first|refine S.x ?_|fail)
  all_goals
   refine Tr.fin hK ⟨S.V,rfl⟩ ?_
   (have hX:=And.intro hr hap;exact S.E)
 ·simp only[xnV]
  refine Tr.cwW np mixed (by kernel_rfl) (by kernel_rfl) ?_
  rw[hl]at hr
  have hr':¬ws.length<cap:=by omega
  have hX:=@xB7;repeat' (first|refine S.x ?_|fail)
  all_goals
   refine Tr.fin hK ⟨(by first|(simp[*];done)|fail),rfl⟩ ?_
   (have hX:=@hr';exact S.E)
theorem xGB {r c cap:Nat} {ws:List xF0}:Xb prog 140 #[.pointer (some ⟨r,0,none⟩)] [xHl r c,chM c cap ws]
  fun v l'=>v=.tuple #[mvW (ws.headD default),.bool (decide (0<ws.length))]∧l'=[xHl r c,chM c cap ws.tail]:=by
 intro F K hK
 simp only[ap,chM]
 refine Tr.enterC (rs:=[.cell 2 71,.tmp 3]) (c:=xNd) Tryz.func140 xIi rfl (by simp) fun u=>?_
 simp only[xNd,Tryz.f140]
 refine Tr.cwSeq ?_
 refine Tr.cwW np mixed (by kernel_rfl) (by kernel_rfl) ?_
 have hX:=And.intro @xB7 @xnV;repeat' (first|refine S.x ?_|intro hb|fail)
 refine Tr.cwSeq ?_
 refine Tr.cwW np mixed (by kernel_rfl) (by kernel_rfl) ?_
 have hX:=And.intro @xB7 @xnV;repeat' (first|refine S.x ?_|intro hb|fail)
 refine Tr.cwSeq ?_
 refine Tr.cwW np mixed (by kernel_rfl) (by kernel_rfl) ?_
 have hX:=And.intro @xB7 @xnV;repeat' (first|refine S.x ?_|(refine G.call 202 ?_;refine S.c ?_ (h:=xFz))|rintro _ _ ⟨rfl,rfl⟩|fail)
 refine Tr.cwSeq ?_
 refine Tr.cwW np mixed (by kernel_rfl) (by kernel_rfl) ?_
 have hX:=And.intro @xB7 @xnV;repeat' (first|refine S.x ?_|fail)
 refine Tr.cwSeq ?_
 refine Tr.bringC c ?_
 refine Tr.selRecv (by rfl) (by decide) (by decide) (by decide) (fun x b2 hr=>?_) (fun hr=>?_)
 ·simp only[xnV]
  refine Tr.cwW np mixed (by kernel_rfl) (by kernel_rfl) ?_
  obtain⟨⟨a1,a2,a3⟩,ys,rfl,rfl,rfl⟩:∃y ys,ws=y::ys∧x=mvW y∧b2=ys.map mvW:=by
   cases ws with
   |nil=>simp at hr
   |cons y ys=>simp at hr;exact⟨y,ys,rfl,hr.1.symm,hr.2.symm⟩
  simp only[mvW]
  have hX:=@xB7;repeat' (first|refine S.x ?_|intro hb|fail)
  all_goals
   refine Tr.fin hK ⟨(by first|(simp[*,mvW];done)|fail),rfl⟩ ?_
   (have hX:=@List.tail_cons.{0};exact S.E)
 ·simp only[xnV]
  refine Tr.cwW np mixed (by kernel_rfl) (by kernel_rfl) ?_
  obtain rfl:ws=[]:=by simpa using hr
  have hz:mvW default=.agg #[.int .i64 0,.int .i64 0,.slice none 0 0]:=rfl
  have hX:=@xB7;repeat' (first|refine S.x ?_|fail)
  all_goals
   refine Tr.fin hK ⟨(by first|(simp[*];done)|fail),rfl⟩ ?_
   exact S.E
theorem xJN {n:Nat} (hn:n≤4096):Xb prog 137 #[.int .i64 n] []
  fun v l'=>∃r c,v=.pointer (some ⟨r,0,none⟩)∧l'=[xHl r c,chM c n ([]:List xF0)]:=by
 intro F K hK
 simp only[List.nil_append]
 have h1: (if 0<if 4096<(n:Int)then 4096 else(n:Int)then if 4096<(n:Int)then 4096 else(n:Int)else 0)=((n:Nat):Int):=by(repeat' split)<;>omega
 refine S.I fun u=>?_
 have hX:=And.intro @xB7 h1;repeat' (first|refine S.x ?_|intro hb|refine Tr.makeChan S.o fun _=>?_|fail)
 all_goals
  apply Tr.fin hK ⟨_,_,rfl,rfl⟩
  exact S.E
end
end
structure xBY where
 ch:Int
 win:Int
 d:Msg
instance:Inhabited xBY:=⟨⟨0,0,default⟩⟩
instance:En xBY:=⟨fun d=>[.int .i64 d.ch,.int .i64 d.win,d.d.s.v],3,fun _=>rfl,fun _=>rfl,by decide⟩
instance:Fz xBY:=⟨fun p=>Fz.fz p.d,fun p=>Fz.dup p.d⟩
instance:FzD xBY:=⟨fun R w=>FzD.h (α:=Msg) R w⟩
instance (priority:=800) xNl {l:List Xc} {a b:Int} {x:Msg} [hz:xaM l x]:xaM l (xBY.mk a b x):=⟨hz.h⟩
instance (priority:=700) xNt {l:List Xc} {x:xBY} [hz:xaM l x]:xaM l (xBY.d x):=⟨hz.h⟩
def xBY.ab (m:xBY):Int×Int×List UInt8:=(m.ch,m.win,m.d.d)
def xBY.w (m:xBY):xF0:=⟨m.ch,m.win,m.d.s⟩
instance {l:List Xc} {a b:Int} {s:SV} {d:List UInt8} [_hs:ZV l s.v true UInt8 inferInstance d]:De l (.agg #[.int .i64 a,.int .i64 b,s.v]) (xBY.mk a b ⟨s,d⟩):=⟨rfl⟩
instance:ElT 41 xBY:=⟨⟩
instance:ElT 29 Int:=⟨⟩
def xDA (chs:List xBJ) (part:Int) (n:Nat):List Int:=((List.range n).filter fun k:Nat=>decide ((ix chs (k:Int)).fp=part)).map fun k:Nat=>(k:Int)
def xEb (chs:List xBJ) (part:Int):List Int:=xDA chs part (min chs.length 16)
theorem xFf {chs:List xBJ} {part:Int} {n:Nat}:xDA chs part (n+1)=xDA chs part n++(if(ix chs (n:Int)).fp=part then[(n:Int)]else[]):=by
 unfold xDA
 rw[List.range_succ,List.filter_append,List.map_append]
 congr 1
 by_cases h: (ix chs (n:Int)).fp=part<;>simp[h]
theorem xFQ {chs:List xBJ} {part:Int} {n:Nat}: (xDA chs part n).length≤n:=by
 unfold xDA
 rw[List.length_map]
 exact Nat.le_trans (List.length_filter_le _ _) (by simp)
theorem xJV {chs:List xBJ}: (chs.take 16).length=min chs.length 16:=by rw[List.length_take];omega
theorem xFA {chs:List xBJ} {k:Nat} (h:k<min chs.length 16):ix (chs.take 16) (k:Int)=ix chs (k:Int):=by unfold ix;simp only[List.getD_eq_getElem?_getD,List.getElem?_take,Int.toNat_natCast];rw[if_pos S.o]
def xFr (chs:List xBJ) (k:Int):Prop:=0≤k∧k<(min chs.length 16:Nat)
instance (chs:List xBJ) (k:Int):Decidable (xFr chs k):=by unfold xFr;infer_instance
def xE7 (chs:List xBJ) (k:Int):xBJ:=if xFr chs k then ix chs k else default
section
attribute [local irreducible] BrK Xq Xt Xv XI FnK XZ Xw XC XV opX opK Yq Yk eqR Yj Yo Ys WL WD W X3 XO Tr drewK Ya X4 Yw Yv X1 YB mp blk rob sl sep ex fact old
theorem xDI {u0:Value} {c:xE0} [hd:DeA u0 c] {chs:List xBJ}:Xb prog 58 #[u0] [sl true c.chans.v chs]
  fun v l'=>∃s:SV,v=s.v∧l'=[sl true s.v (chs.take 16)]:=by
 obtain rfl:=hd.h
 intro F K hK
 simp only[ap]
 obtain⟨c1,c2,c3,c4,c5,c6,c7,c8,c9,c10,c11,c12,c13⟩:=c
 have hm: (if(16:Int)<(chs.length:Int)then(16:Int)else(chs.length:Int))=((min chs.length 16:Nat):Int):=by split<;>omega
 have ht:chs.take ((min chs.length 16:Nat):Int).toNat=chs.take 16:=by rw[Int.toNat_natCast,Nat.min_comm];exact List.take_eq_take_min.symm
 have ht2:chs.take (min chs.length 16)=chs.take 16:=by rw[Nat.min_comm];exact List.take_eq_take_min.symm
 refine S.I fun u=>?_
 have hX:=hm;repeat' (first|refine S.x ?_|intro hb|fail)
 all_goals
  apply Tr.fin hK ⟨_,rfl,rfl⟩
  (have hX:=And.intro ht ht2;exact S.E)
theorem xKL {u0:Value} {c:xE0} [hd:DeA u0 c] {chs:List xBJ} {part:Int}:Xb prog 33 #[u0,.int .i64 part] [sl true c.chans.v chs]
  fun v l'=>∃s:SV,v=s.v∧l'=[sl false s.v (xEb chs part)]:=by
 obtain rfl:=hd.h
 intro F K hK
 simp only[ap]
 obtain⟨c1,c2,c3,c4,c5,c6,c7,c8,c9,c10,c11,c12,c13⟩:=c
 have h16:=xJV (chs:=chs)
 refine S.I fun u=>?_
 repeat' (first|refine S.x ?_|(refine G.call 58 ?_;refine S.c ?_ (h:=xDI))|rintro _ _ ⟨_,rfl,rfl⟩|intro hb|fail)
 refine Tr.nilSl (α:=Int) ?_
 refine Tr.loopE (α:=Nat×SV) [5,11] [1,4,9,10] (fun x=>[x.2.v,.int .i64 x.1]) (fun x=>[sl false x.2.v (xDA chs part x.1)]) (fun x=>x.1≤min chs.length 16) (fun x=>min chs.length 16-x.1) (0,⟨none,0,0⟩) S.T rfl (by simp) fun x u hx=>?_
 obtain⟨k,s⟩:=x
 simp only at hx⊢
 have hw:=Xo (k:=k) S.o
 have hol:=xFQ (chs:=chs) (part:=part) (n:=k)
 by_cases hin:k<min chs.length 16
 ·have hxc:=xFA hin
  by_cases hp: (ix chs (k:Int)).fp=part
  ·have hs:xDA chs part (k+1)=xDA chs part k++[(k:Int)]:=by rw[xFf,if_pos hp]
   have hX:=And.intro hw hxc;repeat' (first|refine S.x ?_|intro hb|fail)
   all_goals(exact S.R ((k+1,_)))
  ·have hs:xDA chs part (k+1)=xDA chs part k:=by rw[xFf,if_neg hp,List.append_nil]
   have hX:=And.intro hw hxc;repeat' (first|refine S.x ?_|intro hb|fail)
   all_goals(exact S.R ((k+1,_)))
 ·have hk:k=min chs.length 16:=by omega
  subst hk
  repeat' (first|refine S.x ?_|fail)
  all_goals
   apply Tr.fin hK ⟨_,rfl,rfl⟩
   (have hX:=@xEb.eq_def;exact S.E)
theorem xEs {u0:Value} {c:xE0} [hd:DeA u0 c] {chs:List xBJ} {k:Int}:Xb prog 203 #[u0,.int .i64 k] [sl true c.chans.v chs]
  fun v l'=>v=.tuple #[.agg #[.int .i64 (xE7 chs k).fp,.int .i64 (xE7 chs k).fo,.int .i64 (xE7 chs k).tp,.int .i64 (xE7 chs k).to],.bool (decide (xFr chs k))]∧l'=[]:=by
 obtain rfl:=hd.h
 intro F K hK
 simp only[ap]
 obtain⟨c1,c2,c3,c4,c5,c6,c7,c8,c9,c10,c11,c12,c13⟩:=c
 have h16:=xJV (chs:=chs)
 refine S.I fun u=>?_
 by_cases h:xFr chs k
 ·have ⟨h0,h1⟩:=h
  have hf:xE7 chs k=ix chs k:=if_pos h
  have hxc:ix (chs.take 16) k=ix chs k:=by have:=xFA (chs:=chs) (k:=k.toNat) S.o;rwa [Int.toNat_of_nonneg h0]at this
  have hX:=hxc;repeat' (first|refine S.x ?_|(refine G.call 58 ?_;refine S.c ?_ (h:=xDI))|rintro _ _ ⟨_,rfl,rfl⟩|intro hb|fail)
  all_goals
   refine Tr.fin hK ⟨(by first|(simp only[WKe, *];rfl)),rfl⟩ ?_
   exact S.E
 ·have hf:xE7 chs k=default:=if_neg h
  have hz: (default:xBJ)=⟨0,0,0,0⟩:=rfl
  have h':=h
  unfold xFr at h'
  repeat' (first|refine S.x ?_|refine S.y ?_ ?_|(refine G.call 58 ?_;refine S.c ?_ (h:=xDI))|rintro _ _ ⟨_,rfl,rfl⟩|intro hb|fail)
  all_goals
   refine Tr.fin hK ⟨(by first|(simp[*];done)|fail),rfl⟩ ?_
   exact S.E
end
structure PG where
 p:Nat
 s:SV
 gs:List Xg
instance:Inhabited PG:=⟨⟨0,⟨none,0,0⟩,[]⟩⟩
def PG.pt (g:PG):Pt:=⟨some g.p⟩
def PG.ab (g:PG):List AP:=g.gs.map Xg.abs
def xBX (g:PG):Xc:=sep (poB g.p g.s) (sep (fam Ym g.gs) (sl false g.s.v (g.gs.map Xg.pt)))
theorem xEw {g:PG} {l:List Xc} {X:WP} (h:Tr (poB g.p g.s::fam Ym g.gs::sl false g.s.v (g.gs.map Xg.pt)::l) X):Tr (xBX g::l) X:=h.imp (Imp.trans Imp.sep (Imp.cons Imp.sep))
abbrev St:=List (List AP)
def xEd (Gs:List PG) (n:Nat):Prop:=∀g∈Gs,xb0 g.gs n
def xGN (chs:List xBJ) (ch:Int) (n:Nat):Prop:=xFr chs ch∧0≤(ix chs ch).tp∧(ix chs ch).tp<n
instance (chs:List xBJ) (ch:Int) (n:Nat):Decidable (xGN chs ch n):=by unfold xGN;infer_instance
def xFm (chs:List xBJ) (ch:Int) (st:St):Bool:=if xGN chs ch st.length then QQ (ix st (ix chs ch).tp) (ix chs ch).to else false
def xCg (chs:List xBJ) (ch:Int) (d:List UInt8) (st:St):St:=if xGN chs ch st.length then st.set (ix chs ch).tp.toNat (J0 (ix st (ix chs ch).tp) (ix chs ch).to d)else st
theorem xMw {gs:List Xg} {n m:Nat} (h:xb0 gs n) (hm:n≤m):xb0 gs m:=⟨h.1,fun g hg=>⟨(h.2 g hg).1,(h.2 g hg).2.1,Nat.le_trans (h.2 g hg).2.2 hm⟩⟩
theorem xEg {Gs:List PG} {n m:Nat} (h:xEd Gs n) (hm:n≤m):xEd Gs m:=fun g hg=>xMw (h g hg) hm
theorem xHt {Gs:List PG} {n:Nat} (h:xEd Gs n) {k:Int} (h0:0≤k) (h1:k<Gs.length):xb0 (ix Gs k).gs n:=h _ (List.mem_of_getElem? (Yi h0 h1))
theorem xGs {Gs:List PG} {n k:Nat} {g:PG} (h:xEd Gs n) (hg:xb0 g.gs n):xEd (Gs.set k g) n:=fun x hx=>by
 rcases List.mem_or_eq_of_mem_set hx with h'|rfl
 ·exact h x h'
 ·exact hg
theorem xM5 {gs:List Xg} {n:Nat} (h:xb0 gs n) (k:Int): (ix gs k).ms.length≤n:=by
 by_cases hk:k.toNat<gs.length
 ·exact(h.2 _ (by unfold ix;simp[hk])).2.2
 ·have:ix gs k=default:=by unfold ix;simp[hk]
  rw[this];exact Nat.zero_le _
theorem xNi {gs:List Xg} {n:Nat} (h:xb0 gs n) (k:Int): (ix gs k).m.d.length≤300:=by
 by_cases hk:k.toNat<gs.length
 ·exact(h.2 _ (by unfold ix;simp[hk])).2.1
 ·have:ix gs k=default:=by unfold ix;simp[hk]
  rw[this];exact Nat.zero_le _
theorem xJd {Gs:List PG} {k:Int} (h0:0≤k) (h1:k<Gs.length):ix (Gs.map PG.ab) k=(ix Gs k).gs.map Xg.abs:=Xp (f:=PG.ab) h0 h1
theorem xFY {Gs:List PG}: (Gs.map PG.ab).length=Gs.length:=List.length_map _
section
attribute [local irreducible] BrK Xq Xt Xv XI FnK XZ Xw XC XV opX opK Yq Yk eqR Yj Yo Ys WL WD W X3 XO Tr drewK Ya X4 Yw Yv X1 YB mp blk rob sl sep ex fact old
section
attribute [local irreducible] chn CW
theorem xJm {u0:Value} {c:xE0} [hd:DeA u0 c] {chs:List xBJ} {ch win:Int} {s all:SV} {d:List UInt8} {Gs:List PG} {n:Nat} (hv:xEd Gs n) (hn:n≤900000) (hdl:d.length≤300):
  Xb prog 141 #[u0,.agg #[.int .i64 ch,.int .i64 win,s.v],all.v] [sl true c.chans.v chs,sl true s.v d,sl true all.v (Gs.map PG.pt),fam xBX Gs]
  fun v l'=>∃Gs2,xEd Gs2 (n+1)∧Gs2.map PG.pt=Gs.map PG.pt∧Gs2.map PG.ab=xCg chs ch d (Gs.map PG.ab)∧v=.bool (xFm chs ch (Gs.map PG.ab))∧l'=[fam xBX Gs2]:=by
 obtain rfl:=hd.h
 intro F K hK
 simp only[ap]
 obtain⟨c1,c2,c3,c4,c5,c6,c7,c8,c9,c10,c11,c12,c13⟩:=c
 by_cases hin:xFr chs ch
 ·have hf:xE7 chs ch=ix chs ch:=if_pos hin
  have hd1:decide (xFr chs ch)=true:=by simpa using hin
  by_cases htp:0≤(ix chs ch).tp∧(ix chs ch).tp<Gs.length
  ·obtain⟨h0,h1⟩:=htp
   have hok:xGN chs ch (Gs.map PG.ab).length:=⟨hin,h0,by rw[xFY];exact h1⟩
   have hi:=xHt hv h0 h1
   have hms:=xM5 hi (ix chs ch).to
   have hp:ix (Gs.map PG.pt) (ix chs ch).tp=⟨some (ix Gs (ix chs ch).tp).p⟩:=Xp (f:=PG.pt) h0 h1
   have hB:xFm chs ch (Gs.map PG.ab)=xgd (ix Gs (ix chs ch).tp).gs (ix chs ch).to:=by
    unfold xFm;rw[if_pos hok,xJd h0 h1,(xlA (s:=⟨none,0,0⟩) (m:=default)).1]
   have hS:∀s3 s4,xEd (Gs.set (ix chs ch).tp.toNat {ix Gs (ix chs ch).tp with gs:=xc6 (ix Gs (ix chs ch).tp).gs (ix chs ch).to s3 ⟨s4,d⟩}) (n+1):=fun s3 s4=>xGs (xEg hv S.o) (xKZ hi hdl)
   have hT:∀s3 s4,(Gs.set (ix chs ch).tp.toNat {ix Gs (ix chs ch).tp with gs:=xc6 (ix Gs (ix chs ch).tp).gs (ix chs ch).to s3 ⟨s4,d⟩}).map PG.pt=Gs.map PG.pt:=fun s3 s4=>YW (f:=PG.pt) h0 h1 _ rfl
   have hA:∀s3 s4,(Gs.set (ix chs ch).tp.toNat {ix Gs (ix chs ch).tp with gs:=xc6 (ix Gs (ix chs ch).tp).gs (ix chs ch).to s3 ⟨s4,d⟩}).map PG.ab=xCg chs ch d (Gs.map PG.ab):=fun s3 s4=>by
    unfold xCg;rw[if_pos hok,xJd h0 h1,List.map_set];congr 1
    exact(xlA (s:=s3) (m:=⟨s4,d⟩)).2
   refine Tr.famAt (A:=xBX) (ix chs ch).tp S.K h0 h1 ?_
   refine xEw ?_
   refine S.I fun u=>?_
   have hX:=I4 @VW.eq_def hf hd1 hp;repeat' (first|refine S.x ?_|(refine G.call 203 ?_;refine S.c ?_ (h:=xEs))|(refine G.call 204 ?_;first|refine S.c ?_ (h:=xjt ?_ ?_))|rintro _ _ ⟨rfl,rfl⟩|rintro _ _ ⟨_,_,rfl,rfl⟩|intro hb|((fail_if_success refine G.tr ?_);exact G.prop S.p)|fail)
   all_goals
    apply Tr.fin hK ⟨_,hS _ _,hT _ _,hA _ _,(by first|(simp[*];done)|fail),rfl⟩
    (have hX:=@xBX.eq_def;exact S.E)
  ·have hok:¬xGN chs ch (Gs.map PG.ab).length:=fun h=>htp ⟨h.2.1,by rw[xFY]at h;exact h.2.2⟩
   have hB:xFm chs ch (Gs.map PG.ab)=false:=if_neg hok
   have hA:xCg chs ch d (Gs.map PG.ab)=Gs.map PG.ab:=if_neg hok
   refine S.I fun u=>?_
   have hX:=I3 @VW.eq_def hf hd1;repeat' (first|refine S.x ?_|refine S.y ?_ ?_|(refine G.call 203 ?_;refine S.c ?_ (h:=xEs))|rintro _ _ ⟨rfl,rfl⟩|intro hb|fail)
   all_goals
    apply Tr.fin hK ⟨Gs,xEg hv S.o,rfl,hA.symm,(by first|(simp[*];done)|fail),rfl⟩
    exact S.E
 ·have hok:¬xGN chs ch (Gs.map PG.ab).length:=fun h=>hin h.1
  have hd1:decide (xFr chs ch)=false:=by simpa using hin
  have hB:xFm chs ch (Gs.map PG.ab)=false:=if_neg hok
  have hA:xCg chs ch d (Gs.map PG.ab)=Gs.map PG.ab:=if_neg hok
  refine S.I fun u=>?_
  have hX:=And.intro @VW.eq_def hd1;repeat' (first|refine S.x ?_|(refine G.call 203 ?_;refine S.c ?_ (h:=xEs))|rintro _ _ ⟨rfl,rfl⟩|intro hb|fail)
  all_goals
   apply Tr.fin hK ⟨Gs,xEg hv S.o,rfl,hA.symm,(by first|(simp[*];done)|fail),rfl⟩
   exact S.E
end
theorem xFb {α:Type} [Inhabited α] {xs:List α} {k j:Int} (h0:0≤k) (h1:0≤j) (h:j≠k) (y:α):ix (xs.set k.toNat y) j=ix xs j:=by
 unfold ix
 simp only[List.getD_eq_getElem?_getD,List.getElem?_set]
 rw[if_neg S.o]
theorem xMn {α:Type} [Inhabited α] {xs:List α} {k:Int} (h0:0≤k) (h1:k<xs.length):xs.set k.toNat (ix xs k)=xs:=by
 have hl:k.toNat<xs.length:=by omega
 apply List.ext_getElem?
 intro j
 rw[List.getElem?_set]
 split
 ·rename_i he;subst he;simp[hl,ix]
 ·rfl
theorem xJa {ps:List AP} {n:Nat} {k j:Int} {q i:Bool} {y:AP} (hn:n=k.toNat) (h0:0≤k) (h1:k<ps.length) (hc:y.c=(ix ps k).c):Yu (ps.set n y) j q i=Yu ps j q i:=by
 subst hn
 have hr:inR (ps.set k.toNat y) j↔inR ps j:=by unfold inR;rw[List.length_set]
 unfold Yu
 by_cases hj:inR ps j
 ·rw[if_pos hj,if_pos (hr.2 hj)]
  by_cases e:j=k
  ·subst e;rw[xoT h0 h1,hc]
  ·rw[xFb h0 hj.1 e]
 ·rw[if_neg hj,if_neg (fun h=>hj (hr.1 h))]
def drd (ps:List AP) (j:Int):Prop:=(Yu ps j true false=true→(ix ps j).ms=[]∧(ix ps j).fresh=false)∧(Yu ps j false false=true→(ix ps j).fresh=false)
theorem xMK {ps:List AP} {j:Int} (h:drd ps j):YQ ps j=ps:=by
 unfold YQ
 split
 ·rename_i hc
  obtain⟨h0,h1,_,_⟩:=xa7 hc
  obtain⟨e1,e2⟩:=h.1 hc
  have: ({ix ps j with ms:=[],fresh:=false}:AP)=ix ps j:=by rw[←e1,←e2]
  rw[this,xMn h0 h1]
 ·split
  ·rename_i hc;rw[h.2 hc];rfl
  ·rfl
theorem xGA {ps:List AP} {k:Int}:YQ ps k=ps∨∃y:AP,y.c=(ix ps k).c∧0≤k∧k<ps.length∧YQ ps k=ps.set k.toNat y:=by
 unfold YQ
 split
 ·rename_i hc
  obtain⟨h0,h1,_,_⟩:=xa7 hc
  exact .inr ⟨_,by exact rfl,h0,h1,rfl⟩
 ·split
  ·rename_i hc
   obtain⟨h0,h1,_,_⟩:=xa7 hc
   split
   ·exact .inr ⟨_,by exact rfl,h0,h1,rfl⟩
   ·exact .inl rfl
  ·exact .inl rfl
theorem xDp {ps:List AP} {k j:Int} {q i:Bool}:Yu (YQ ps k) j q i=Yu ps j q i:=by
 rcases xGA (ps:=ps) (k:=k)with h|⟨y,hc,h0,h1,h⟩
 ·rw[h]
 ·rw[h,xJa rfl h0 h1 hc]
theorem xD2 {ps:List AP} {k j:Int} (hj:0≤j) (h:j≠k):ix (YQ ps k) j=ix ps j:=by
 rcases xGA (ps:=ps) (k:=k)with e|⟨y,hc,h0,h1,e⟩
 ·rw[e]
 ·rw[e,xFb h0 hj h]
theorem xGI {ps:List AP} {k:Int}:drd (YQ ps k) k:=by
 constructor
 ·intro hc
  rw[xDp]at hc
  obtain⟨h0,h1,_,_⟩:=xa7 hc
  have:YQ ps k=ps.set k.toNat {ix ps k with ms:=[],fresh:=false}:=by unfold YQ;rw[if_pos hc]
  rw[this,xoT h0 h1];exact⟨rfl,rfl⟩
 ·intro hc
  rw[xDp]at hc
  obtain⟨h0,h1,hq,hi⟩:=xa7 hc
  have hn:¬Yu ps k true false=true:=fun h=>by have:=(xa7 h).2.2.1;rw[hq]at this;cases this
  cases hf: (ix ps k).fresh
  ·have:YQ ps k=ps:=by unfold YQ;rw[if_neg hn,if_pos hc,hf];rfl
   rw[this];exact hf
  ·have:YQ ps k=ps.set k.toNat {ix ps k with fresh:=false}:=by unfold YQ;rw[if_neg hn,if_pos hc,hf];rfl
   rw[this,xoT h0 h1]
theorem xJD {ps:List AP} {j k:Int} (h:drd ps j):drd (YQ ps k) j:=by
 by_cases e:j=k
 ·subst e;exact xGI
 ·constructor
  ·intro hc
   rw[xDp]at hc
   rw[xD2 (xa7 hc).1 e];exact h.1 hc
  ·intro hc
   rw[xDp]at hc
   rw[xD2 (xa7 hc).1 e];exact h.2 hc
theorem xGg {ps:List AP} {j k:Int} (e:j≠k):Zl (YQ ps k) j=Zl ps j:=by
 unfold Zl
 simp only[xDp]
 split
 ·rename_i hc;rw[xD2 (xa7 hc).1 e]
 ·split
  ·rename_i hc;rw[xD2 (xa7 hc).1 e]
  ·rfl
def xC0 (ab:List AP) (chs:List xBJ) (win:Int) (l:List Int):List (Int×Int×List UInt8):=l.flatMap fun k=>(Zl ab (ix chs k).fo).map fun d=>(k,win,d)
def xCp (ab:List AP) (chs:List xBJ) (l:List Int):List AP:=l.foldl (fun a k=>YQ a (ix chs k).fo) ab
theorem xGf {ab:List AP} {chs:List xBJ} {win:Int} {l:List Int} {k:Int}:xC0 ab chs win (l++[k])=xC0 ab chs win l++(Zl ab (ix chs k).fo).map fun d=>(k,win,d):=by
 simp[xC0]
theorem xFo {ab:List AP} {chs:List xBJ} {l:List Int} {k:Int}:xCp ab chs (l++[k])=YQ (xCp ab chs l) (ix chs k).fo:=by simp[xCp]
def xEe (ab:List AP) (chs:List xBJ) (part win:Int):List (Int×Int×List UInt8):=(xC0 ab chs win (xEb chs part)).take 4096
def xCq (chs:List xBJ) (ms:List (Int×Int×List UInt8)) (st:St):St:=ms.foldl (fun s m=>xCg chs m.1 m.2.2 s) st
theorem xFq {chs:List xBJ} {ms:List (Int×Int×List UInt8)} {m:Int×Int×List UInt8} {st:St}:xCq chs (ms++[m]) st=xCg chs m.1 m.2.2 (xCq chs ms st):=by simp[xCq]
def xIn (st:St) (part:Int):Prop:=0≤part∧part<st.length
instance (st:St) (part:Int):Decidable (xIn st part):=by unfold xIn;infer_instance
def xCZ (chs:List xBJ) (part win:Int) (st:St):List (Int×Int×List UInt8):=if xIn st part then xEe (ix st part) chs part win else[]
def xBQ (chs:List xBJ) (part win:Int) (st:St):St:=if xIn st part then xCq chs (xEe (ix st part) chs part win) (st.set part.toNat (xCp (ix st part) chs (xEb chs part)))else st
theorem xFL {α:Type} {xs:List α} {y:α} {n:Nat}: (xs++[y]).take n=if(xs.take n).length<n then xs.take n++[y]else xs.take n:=by
 by_cases h:xs.length<n
 ·rw[if_pos (by rw[List.length_take];omega),List.take_of_length_le (by simp;omega),List.take_of_length_le S.o]
 ·rw[if_neg (by rw[List.length_take];omega),List.take_append_of_le_length S.o]
def xHe (ab:List AP):Prop:=∀p∈ab,∀d∈p.ms,d.length≤300
theorem xHu {ab:List AP} (h:xHe ab) {k:Int}:∀d∈(ix ab k).ms,d.length≤300:=by
 by_cases hk:k.toNat<ab.length
 ·exact h _ (by unfold ix;simp[hk])
 ·have:ix ab k=default:=by unfold ix;simp[hk]
  rw[this];intro d hd;cases hd
theorem xFk {ab:List AP} (h:xHe ab) {k:Int}:∀d∈Zl ab k,d.length≤300:=by
 unfold Zl
 split
 ·exact xHu h
 ·split
  ·split
   ·exact xHu h
   ·intro d hd;cases hd
  ·intro d hd;cases hd
def xEp:List Int→List (SL Msg)→List (Int×Value)
 |q::qs,r::rs=>(q,SV.v r.s)::xEp qs rs
 |_,_=>[]
theorem xFS:∀{qs:List Int} {rs:List (SL Msg)} {q:Int} {r:SL Msg},qs.length=rs.length→xEp (qs++[q]) (rs++[r])=xEp qs rs++[(q,SV.v r.s)]
 |[],[],_,_,_=>rfl
 |[],_::_,_,_,h=>by simp at h
 |_::_,[],_,_,h=>by simp at h
 |a::qs,b::rs,q,r,h=>by
  have:=xFS (qs:=qs) (rs:=rs) (q:=q) (r:=r) (by simpa using h)
  simp only[List.cons_append,xEp,this]
theorem xFg:∀{qs:List Int} {rs:List (SL Msg)} {k:Int},qs.length=rs.length→k∉qs→find k (xEp qs rs)=none
 |[],_,_,_,_=>rfl
 |_::_,[],_,h,_=>by simp at h
 |a::qs,b::rs,k,h,hk=>by
  simp only[List.mem_cons,not_or]at hk
  simp only[xEp,find,if_neg hk.1]
  exact xFg (by simpa using h) hk.2
theorem xFn:∀{qs:List Int} {rs:List (SL Msg)} {k:Int},qs.length=rs.length→k∈qs→∃i:Nat,i<qs.length∧ix qs (i:Int)=k∧find k (xEp qs rs)=some (SV.v (ix rs (i:Int)).s)
 |[],_,_,_,hk=>by cases hk
 |_::_,[],_,h,_=>by simp at h
 | a::qs,b::rs,k,h,hk=>by
  by_cases e:k=a
  ·exact⟨0,by simp,e.symm,by simp[xEp,find,e,ix]⟩
  ·obtain⟨i,h1,h2,h3⟩:=xFn (qs:=qs) (rs:=rs) (k:=k) (by simpa using h) ((List.mem_cons.1 hk).resolve_left e)
   refine⟨i+1,by simpa using h1,?_,?_⟩
   ·rw[←h2];simp[ix]
   ·simp only[xEp,find,if_neg e,h3];simp[ix]
structure xE4 (ab0 ab:List AP) (qs:List Int) (rs:List (SL Msg)):Prop where
 len:qs.length=rs.length
 val:∀i:Nat,i<qs.length→(ix rs (i:Int)).d.map SL.d=Zl ab0 (ix qs (i:Int))∧drd ab (ix qs (i:Int))
 rest:∀k,k∉qs→Zl ab k=Zl ab0 k
theorem xE4.nil {ab:List AP}:xE4 ab ab [] []:=⟨rfl,fun i h=>by simp at h,fun _ _=>rfl⟩
theorem xHR {α:Type} [Inhabited α] {xs:List α} {y:α} {i:Nat} (h:i<xs.length):ix (xs++[y]) (i:Int)=ix xs (i:Int):=by
 unfold ix;simp[List.getElem?_append_left h]
theorem xHv {α:Type} [Inhabited α] {xs:List α} {y:α}:ix (xs++[y]) (xs.length:Int)=y:=by unfold ix;simp
theorem xE4.hit {ab0 ab:List AP} {qs:List Int} {rs:List (SL Msg)} (h:xE4 ab0 ab qs rs) {k:Int} (hk:k∈qs):∃i:Nat,i<rs.length∧find k (xEp qs rs)=some (SV.v (ix rs (i:Int)).s)∧(ix rs (i:Int)).d.map SL.d=Zl ab0 k∧YQ ab k=ab:=by
 obtain⟨i,h1,h2,h3⟩:=xFn h.len hk
 have:=h.val i h1
 rw[h2]at this
 exact⟨i,by rw[←h.len];exact h1,h3,this.1,xMK this.2⟩
theorem xE4.miss {ab0 ab:List AP} {qs:List Int} {rs:List (SL Msg)} (h:xE4 ab0 ab qs rs) {k:Int} (hk:k∉qs) {r:SL Msg} (hr:r.d.map SL.d=Zl ab k):r.d.map SL.d=Zl ab0 k∧xE4 ab0 (YQ ab k) (qs++[k]) (rs++[r]):=by
 have hr0:=hr.trans (h.rest k hk)
 refine⟨hr0,⟨by simp[h.len],fun i hi=>?_,fun j hj=>?_⟩⟩
 ·simp only[List.length_append,List.length_cons,List.length_nil]at hi
  by_cases e:i<qs.length
  ·rw[xHR e,xHR (by rw[←h.len];exact e)]
   exact⟨(h.val i e).1,xJD (h.val i e).2⟩
  ·have e2:i=qs.length:=by omega
   subst e2
   rw[xHv]
   have e3:ix (rs++[r]) (qs.length:Int)=r:=by rw[h.len];exact xHv
   rw[e3]
   exact⟨hr0,xGI⟩
 ·simp only[List.mem_append,List.mem_singleton,not_or]at hj
  rw[xGg hj.2];exact h.rest j hj.1
