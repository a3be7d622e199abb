import Derived.Test.YtmebccjndhlpoaaGreatZ16
namespace Go.Proofs.YtmebccjndhlpoaaGreat
open Go Go.Wk Tryz
set_option maxHeartbeats 3200000
set_option maxRecDepth 100000
theorem Q9 {P:Program} {l:Nat} {args:List Value} {K:Value→WP} {o:WP}:XZ P (.func (.yield l) #[] #[]) args.toArray K o=xcx P l args.toArray K:=by
 rw[xry];simp
def YZ (ms:List (Int×Bool)):List Int:=(ms.filter fun m=>!m.2).map fun m=>m.1
def Vi (xs:List Int):Int:=xs.foldl QR 0
def Wr (room:Int) (ms:List (Int×Bool)):Int:=if room<Vi (YZ ms)then room else Vi (YZ ms)
theorem xmP {gs:List XU} {k:Nat} (hk:k<gs.length) (h: (ix gs (k:Int)).done=true):YZ ((gs.map XU.mo).take (k+1))=YZ ((gs.map XU.mo).take k):=by
 have e: (gs.map XU.mo).take (k+1)=(gs.map XU.mo).take k++[(ix gs (k:Int)).mo]:=by
  rw[←List.map_take,Yz hk,List.map_append,List.map_take];rfl
 unfold YZ
 rw[e,List.filter_append]
 simp[XU.mo,h]
theorem xnQ {gs:List XU} {k:Nat} (hk:k<gs.length) (h: (ix gs (k:Int)).done=false):YZ ((gs.map XU.mo).take (k+1))=YZ ((gs.map XU.mo).take k)++[(ix gs (k:Int)).has]:=by
 have e: (gs.map XU.mo).take (k+1)=(gs.map XU.mo).take k++[(ix gs (k:Int)).mo]:=by
  rw[←List.map_take,Yz hk,List.map_append,List.map_take];rfl
 unfold YZ
 rw[e,List.filter_append]
 simp[XU.mo,h]
theorem xrX {ms:List (Int×Bool)} (k:Nat): (YZ (ms.take k)).length≤(YZ ms).length:=by
 unfold YZ
 rw[List.length_map,List.length_map]
 exact((List.take_sublist k ms).filter _).length_le
theorem xk7 {a b:Int} (h0:0≤a) (h2:0≤b):0≤QR a b∧QR a b≤9223372036854775807:=by unfold QR;split<;>omega
def xv1 (x:Int):Array Value:=#[.int .i64 x]
def okI (x:Int):Prop:=0≤x∧x≤9223372036854775807
section
attribute [local irreducible] BrK Xq Xt Xv XI FnK XZ Xw XC XV opX opK Yq Yk eqR Yj Yo Ys WL WD W X3 XO Tr drewK Ya X4 Yw Yv X1 YB mp blk rob sl sep ex fact old
section
attribute [local irreducible] YZ
theorem xkH {p:Nat}:Xb prog 287 #[.pointer (some ⟨p,0,none⟩)] [] fun v l'=>∃b,v=.func (.func 295) #[] #[.pointer (some ⟨b,0,none⟩)]∧l'=[blk b (.cells #[.pointer (some ⟨p,0,none⟩)] 177 (0,0))]:=by
 intro F K hK
 simp only[List.nil_append]
 refine S.I fun u=>?_
 have hX:=@Q9;repeat' (first|refine S.x ?_|intro hb|fail)
 all_goals exact S.L
theorem xoD {p cb:Nat} {room:Int} {s:SV} {gs:List XU} (hh:∀k:Nat,k<gs.length→okI (ix gs (k:Int)).has) (hl:gs.length≤100000):
  xtw prog 295 [.pointer (some ⟨cb,0,none⟩)] xv1 okI [blk cb (.cells #[.pointer (some ⟨p,0,none⟩)] 177 (0,0)),QF p room s,sl false s.v (gs.map XU.pt),fam Vx gs]
   (fun xs=>xs=YZ (gs.map XU.mo)) (fun _=>True) (YZ (gs.map XU.mo)).length:=by
 intro L J Jx hR F K hdone hstop
 simp only[ap]at hdone hstop⊢
 have hlm: (gs.map XU.pt).length=gs.length:=List.length_map _
 have h00:YZ ((gs.map XU.mo).take 0)=[]:=by unfold YZ;rfl
 refine S.I fun u=>?_
 have hX:=@Q9;repeat' (first|refine S.x ?_|fail)
 refine Tr.loopE (α:=Nat) [10] [0,8,9] (fun k=>[.int .i64 k]) (fun k=>[J (YZ ((gs.map XU.mo).take k)),blk cb (.cells #[.pointer (some ⟨p,0,none⟩)] 177 (0,0)),QF p room s,sl false s.v (gs.map XU.pt),fam Vx gs]) (fun k=>k≤gs.length) (fun k=>gs.length-k) 0 (by simp only[h00];exact S.T) rfl (Nat.zero_le _) fun k u hk=>?_
 by_cases hin:k<gs.length
 ·have hw:=Xo (k:=k) S.o
  have hm:=Xp (f:=XU.pt) (xs:=gs) (k:=(k:Int)) S.o S.o
  have hok:=hh k hin
  simp only[ap]
  refine Tr.famAt (xs:=gs) (k:Int) S.K S.o S.o ?_
  refine Tr.imp Imp.refl (Ql ?_)
  cases hd: (ix gs (k:Int)).done with
  | true=>
   have hz:=xmP hin hd
   have hX:=I4 @Q9 hw hm @XU.pt.eq_def;repeat' (first|refine S.x ?_|intro hb|fail)
   all_goals
    have hX:=And.intro hz @Vx.eq_def
    exact S.R (k+1)
  | false=>
   have hz2:=(xnQ hin hd).symm
   have hN: (YZ ((gs.map XU.mo).take k)).length<(YZ (gs.map XU.mo)).length:=by
    have:=xrX (ms:=gs.map XU.mo) (k+1)
    rw[←hz2,List.length_append,List.length_singleton]at this
    omega
   have hX:=I5 @Q9 hw hm @XU.pt.eq_def hz2;repeat' (first|(refine Tr.yield hR _ rfl ‹_› ‹_› S.K ?_ ?_)|refine S.x ?_|intro hb|fail)
   all_goals first
    |(have hX:=@Vx.eq_def;exact S.R (k+1))
    |(refine Tr.ent2 ?_ (hstop _ (YZ ((gs.map XU.mo).take (k+1))) trivial);have hX:=@Vx.eq_def;exact S.E)
 ·have hke:k=gs.length:=by omega
  subst hke
  have hz: (gs.map XU.mo).take gs.length=gs.map XU.mo:=List.take_of_length_le (by rw[List.length_map];exact Nat.le_refl _)
  have hX:=And.intro @Q9 hz;repeat' (first|refine S.x ?_|fail)
  all_goals
   refine Tr.ent2 ?_ (hdone _ _ rfl)
   exact S.E
end
end
noncomputable def cdL:Code:=match Tryz.f269.body with
 |some c=>c
 |none=>.skip
theorem xqK:Tryz.f269.body=some cdL:=by kernel_rfl
def plL:Nat→Xj
 |7=>.st ⟨0,false,[]⟩ (.st ⟨1,false,[]⟩ (.st ⟨2,false,[]⟩ (.st ⟨3,false,[]⟩ (.st ⟨4,false,[]⟩ (.st ⟨5,false,[]⟩ (.st ⟨6,false,[]⟩ .fin))))))
 |_=>.fin
theorem xuf:xaP Tryz.f269.ntmps plL cdL=true:=by kernel_rfl
def xu6 (b:Nat) (pre:List Int):Xc:=sep (fact (0≤Vi pre∧Vi pre≤9223372036854775807)) (blk b (.cells #[.int .i64 (Vi pre)] 3 (0,0)))
theorem xfD {b:Nat} {pre:List Int} {l:List Xc} {X:WP} (h:0≤Vi pre→Vi pre≤9223372036854775807→Tr (blk b (.cells #[.int .i64 (Vi pre)] 3 (0,0))::l) X):Tr (xu6 b pre::l) X:=
 Tr.sep_iff.2 (Tr.fact_iff.2 fun h0=>h h0.1 h0.2)
theorem xma {b:Nat} {pre:List Int} {l l2:List Xc} {X:WP} (h0:0≤Vi pre∧Vi pre≤9223372036854775807) (h2:Xm l (blk b (.cells #[.int .i64 (Vi pre)] 3 (0,0))) l2) (h:Tr (xu6 b pre::l2) X):Tr l X:=
 Tr.ent2 (Xd.sep (Xd.fact h0 (Xd.take h2 Xd.done))) h
theorem xcF {pre:List Int} {x:Int}:Vi (pre++[x])=QR (Vi pre) x:=by simp[Vi]
section
attribute [local irreducible] BrK Xq Xt Xv XI FnK XZ Xw XC XV opX opK Yq Yk eqR Yj Yo Ys WL WD W X3 XO Tr drewK Ya X4 Yw Yv X1 YB mp blk rob sl sep ex fact old
section
attribute [local irreducible] YZ WM xgA QR
theorem xg8 {p:Nat} {room:Int} {s:SV} {gs:List XU} (hh:∀k:Nat,k<gs.length→okI (ix gs (k:Int)).has) (hl:gs.length≤100000):
  Xb prog 269 #[.pointer (some ⟨p,0,none⟩)] [QF p room s,sl false s.v (gs.map XU.pt),fam Vx gs]
  fun v l'=>v=.int .i64 (Wr room (gs.map XU.mo))∧l'=[QF p room s,sl false s.v (gs.map XU.pt),fam Vx gs]:=by
 intro F K hK
 simp only[ap]
 refine Tr.enterM (T:=plL) (rs:=[.tmp 2]) mixed Tryz.func269 xqK xuf rfl (by simp+arith [Tryz.ntmps269]) fun u=>?_
 simp only[cdL,Tryz.f269]
 (try simp only[WKb,xj0,xeO,xqD,xck,xjX,xge])
 have hX:=I7 @xj0 @xeO @xqD @xck @xjX @xlV @xge;repeat' (first|intro(nb:Nat)|refine S.x ?_|(refine G.call 287 ?_;refine S.c ?_ (h:=xkH))|rintro _ _ ⟨_,rfl,rfl⟩|fail)
 rename_i cb
 refine xma (b:=nb) (pre:=[]) ⟨Int.le_refl 0,by decide⟩ S.K ?_
 apply Tr.range (T:=plL) (I:=xu6 nb) (Ix:=fun _=>fact False) mixed (xoD (p:=p) (cb:=cb) (room:=room) (s:=s) hh hl) rfl (by kernel_rfl) S.T (fun x=>rfl) (by decide) (by kernel_rfl) (by kernel_rfl) (by kernel_rfl) (by kernel_rfl)
 case hasg=>
  intro x X
  simp only[xov,xqG,xjZ,opX,xgp]
  rfl
 case hbody=>
  intro pre x Gl R hN hx h1 h2
  obtain⟨x0,x1⟩:=hx
  refine xfD fun p0 p1=>?_
  have hq:=xk7 p0 x0
  have hs:=(@xcF pre x).symm
  have hz:List.zip [16] (xv1 x).toList=[(16,Value.int .i64 x)]:=rfl
  have hX:=I4 hs hz @xd0.eq_1 @xd0.eq_2;repeat' (first|refine S.x ?_|(refine G.call 288 ?_;refine S.c ?_ (h:=xqe ?_ ?_ ?_ ?_))|rintro _ _ ⟨rfl,rfl⟩|(refine G.prop ?_;assumption)|fail)
  all_goals
   refine xma (pre:=pre++[x]) (by rw[xcF];exact hq) S.K ?_
   exact h1 _
 case hdone=>
  intro D xs hS
  subst hS
  refine xfD fun p0 p1=>?_
  have hX:=I9 @plL.eq_def @xj0 @xeO @xqD @xck @xjX @xlV @xge (And.intro @xuW @xvk);repeat' (first|refine S.x ?_|fail)
  all_goals
   refine Tr.mark S.K ?_
   rw[xkr]
   repeat' (first|refine S.x ?_|refine S.y ?_ ?_|(refine G.call 288 ?_;refine S.c ?_ (h:=xqe ?_ ?_ ?_ ?_))|rintro _ _ ⟨rfl,rfl⟩|(refine G.prop ?_;assumption)|intro hb|((fail_if_success refine G.tr ?_);exact G.prop S.p)|fail)
   all_goals
    refine Tr.fin hK ⟨rfl,rfl⟩ ?_
    exact S.E
 case hstop=>
  intro D pre hS
  exact Tr.fact_iff.2 fun h=>h.elim
end
end
def xnO (gs:List XU) (k:Int):List XU:=if inR gs k then gs.set k.toNat {ix gs k with done:=true}else gs
def Jj (c:WZ):Int×Bool:=(if 0<c.cost then c.cost else 0,false)
theorem xqO {α:Type} [Inhabited α] {xs:List α} {i j:Nat} {y:α} (hi:i<xs.length):ix (xs.set i y) (j:Int)=if i=j then y else ix xs (j:Int):=by
 unfold ix
 simp only[Int.toNat_natCast,List.getD_eq_getElem?_getD,List.getElem?_set]
 split
 ·simp[]
 ·rfl
theorem xrJ {α:Type} {A:α→Xc} {xs:List α} {x:α} {k:Nat} {l l1 l2:List Xc} {X:WP} (hk:k<xs.length) (h1:Xm l (A x) l1) (h2:Xm l1 (fam A (xs.eraseIdx k)) l2) (h:Tr (fam A (xs.set k x)::l2) X):Tr l X:=
 h.imp (Imp.trans h1 (Imp.trans (Imp.cons h2) (xgz hk)))
section
attribute [local irreducible] BrK Xq Xt Xv XI FnK XZ Xw XC XV opX opK Yq Yk eqR Yj Yo Ys WL WD W X3 XO Tr drewK Ya X4 Yw Yv X1 YB mp blk rob sl sep ex fact old
section
attribute [local irreducible] Wr
theorem xnG {p:Nat} {room:Int} {s:SV} {gs:List XU} {k:Int} (hh:∀k:Nat,k<gs.length→okI (ix gs (k:Int)).has) (hl:gs.length≤100000):
  Xb prog 224 #[.pointer (some ⟨p,0,none⟩),.int .i64 k] [QF p room s,sl false s.v (gs.map XU.pt),fam Vx gs]
  fun v l'=>∃n:Int,v=.int .i64 n∧l'=[QF p room s,sl false s.v ((xnO gs k).map XU.pt),fam Vx (xnO gs k)]:=by
 intro F K hK
 simp only[ap]
 by_cases h:inR gs k
 ·have ⟨h0,h1⟩:=h
  have e2:xnO gs k=gs.set k.toNat {ix gs k with done:=true}:=if_pos h
  have hmm: (gs.set k.toNat {ix gs k with done:=true}).map XU.pt=gs.map XU.pt:=QI h0 h1 rfl
  have hh2:∀j:Nat,j<(gs.set k.toNat {ix gs k with done:=true}).length→okI (ix (gs.set k.toNat {ix gs k with done:=true}) (j:Int)).has:=fun j hj=>by
   rw[List.length_set]at hj
   rw[xqO S.o]
   split
   ·have:=hh k.toNat S.o
    rwa [show((k.toNat:Nat):Int)=k from by omega]at this
   ·exact hh j hj
  have hl2: (gs.set k.toNat {ix gs k with done:=true}).length≤100000:=by rw[List.length_set];exact hl
  rw[e2,hmm]at hK
  refine S.I fun u=>?_
  (repeat' (first|refine S.x ?_|(refine G.call 189 ?_;refine S.c ?_ (h:=xcc h0 h1))|(refine G.call 269 ?_;refine S.c ?_ (h:=xg8 hh hl))|rintro _ _ ⟨rfl,rfl⟩|fail))
  refine Tr.famAt (A:=Vx) k S.K h0 h1 (Ql ?_)
  refine S.x ?_
  refine xrJ (A:=Vx) (xs:=gs) (x:={ix gs k with done:=true}) (k:=k.toNat) S.o S.K S.K ?_
  (repeat' (first|refine S.x ?_|(refine G.call 269 ?_;rw[←hmm];refine S.c ?_ (h:=xg8 hh2 hl2))|rintro _ _ ⟨rfl,rfl⟩|fail))
  rw[hmm]
  exact Tr.fin hK ⟨_,rfl,rfl⟩ S.E
 ·have e2:xnO gs k=gs:=if_neg h
  rw[e2]at hK
  have h':=h
  unfold inR at h'
  refine S.I fun u=>?_
  repeat' (first|refine S.x ?_|(refine G.call 189 ?_;first|refine S.c ?_ (h:=xcw S.o))|rintro _ _ ⟨rfl,rfl⟩|fail)
  all_goals exact S.L
theorem xrR {u0:Value} {c:YF} [hd:DeA u0 c] (hn:c.procs.d.length≤100000):Xb prog 120 #[u0] [sl true c.procs.s.v c.procs.d]
  fun v l'=>∃(b:Nat) (s:SV) (gs:List XU),gs.map XU.mo=c.procs.d.map Jj∧v=.pointer (some ⟨b,0,none⟩)∧l'=[QF b (if 0<c.cap then c.cap else 0) s,sl false s.v (gs.map XU.pt),fam Vx gs]:=by
 obtain rfl:=hd.h
 intro F K hK
 simp only[ap]
 refine S.I fun u=>?_
 have hX:=@xHW.eq_def;repeat' (first|intro(nb:Nat)|refine S.x ?_|fail)
 refine Tr.loopE (α:=Nat×SV×List XU) [14] [2,3,12,13] (fun x=>[.int .i64 x.1]) (fun x=>[QF nb (if 0<c.cap then c.cap else 0) x.2.1,sl false x.2.1.v (x.2.2.map XU.pt),fam Vx x.2.2]) (fun x=>x.1≤c.procs.d.length∧x.2.2.length=x.1∧x.2.2.map XU.mo=(c.procs.d.take x.1).map Jj) (fun x=>c.procs.d.length-x.1) (0,⟨none,0,0⟩,[]) S.T rfl ⟨Nat.zero_le _,rfl,rfl⟩ fun x u hx=>?_
 obtain⟨k,s,gs⟩:=x
 obtain⟨hk,hl,hm⟩:=hx
 simp only at hk hl hm⊢
 have hlm: (gs.map XU.pt).length=k:=by rw[List.length_map];exact hl
 by_cases hin:k<c.procs.d.length
 ·have hw:=Xo (k:=k) S.o
  have hmk:∀b,(gs++([⟨b,if 0<(ix c.procs.d (k:Int)).cost then(ix c.procs.d (k:Int)).cost else 0,false⟩]:List XU)).map XU.mo=(c.procs.d.take (k+1)).map Jj:=fun b=>by rw[Yz hin,List.map_append,List.map_append,hm];rfl
  have hX:=And.intro @xHW.eq_def hw;repeat' (first|intro(nc:Nat)|intro(sv:SV)|refine S.x ?_|intro hb|fail)
  all_goals
   have hmk':=hmk nc
   have hln: (gs++([⟨nc,if 0<(ix c.procs.d (k:Int)).cost then(ix c.procs.d (k:Int)).cost else 0,false⟩]:List XU)).length=k+1:=by rw[List.length_append,hl];rfl
   have hpt: (gs++([⟨nc,if 0<(ix c.procs.d (k:Int)).cost then(ix c.procs.d (k:Int)).cost else 0,false⟩]:List XU)).map XU.pt=gs.map XU.pt++[Pt.mk (some nc)]:=by rw[List.map_append];rfl
   have hX:=And.intro hpt @Vx.eq_def
   exact S.R (k+1,sv,gs++[⟨nc,if 0<(ix c.procs.d (k:Int)).cost then(ix c.procs.d (k:Int)).cost else 0,false⟩])
 ·have hke:k=c.procs.d.length:=by omega
  have hX:=@xHW.eq_def;repeat' (first|refine S.x ?_|fail)
  all_goals
   refine Tr.fin hK ⟨_,s,gs,by rw[hm,hke,List.take_length],rfl,rfl⟩ ?_
   exact S.E
end
section
def xjw (m:XH) (a:Int) (b:List UInt8):XH:={m with d:=m.d.take (a-m.base).toNat++b++m.d.drop ((a-m.base).toNat+b.length)}
def stB (ms:List XH) (a:Int) (b:List UInt8):List XH:=match fI ms a b.length true with
 |some k=>ms.set k (xjw (ix ms (k:Int)) a b)
 |none=>ms
def Xz.put (g:Xz) (a:Int) (b:List UInt8):Xz:={g with d:=g.d.take (a-g.base).toNat++b++g.d.drop ((a-g.base).toNat+b.length)}
theorem xuG {g:Xz} {a:Int} {b:List UInt8}: (g.put a b).mo=xjw g.mo a b:=rfl
theorem xrm {g:Xz} {a:Int} {b:List UInt8} {wr:Bool} (h:okR g.mo) (hb:Jo g.mo a b.length wr=true):okR (g.put a b).mo:=by
 obtain⟨h1,h2,h3⟩:=h
 obtain⟨p0,p1,p2,p3⟩:=Jg hb
 refine⟨h1,h2,?_⟩
 simp only[Xz.put,Xz.mo,List.length_append,List.length_take,List.length_drop]at*
 omega
attribute [local irreducible] Jo fI
theorem xfH {p:Nat} {s:SV} {gs:List Xz} {a:Int} {sb:SV} {b:List UInt8} (hr:∀g∈gs,okR g.mo) (ha:a≤9223372036854775807) (ha2:-9223372036854775808≤a):
  Xb prog 222 #[.pointer (some ⟨p,0,none⟩),.int .i64 a,sb.v] (sl true sb.v b::VX p s gs)
  fun v l'=>∃gs2:List Xz,v=.bool (stO (gs.map Xz.mo) a b.length)∧gs2.map Xz.mo=stB (gs.map Xz.mo) a b∧(∀g∈gs2,okR g.mo)∧l'=VX p s gs2:=by
 intro F K hK
 simp only[ap]at hK⊢
 refine S.I fun u=>?_
 cases hf:fI (gs.map Xz.mo) a b.length true with
 |none=>
  have e1:stO (gs.map Xz.mo) a b.length=false:=by unfold stO;rw[hf];rfl
  have e2:stB (gs.map Xz.mo) a b=gs.map Xz.mo:=by unfold stB;rw[hf]
  rw[e1,e2]at hK
  have hX:=I3 @xHQ.eq_def hf @rgP.eq_def;repeat' (first|refine S.x ?_|(refine G.call 268 ?_;refine S.c ?_ (h:=xec ‹_› ‹_› ‹_›))|rintro _ _ ⟨rfl,rfl⟩|fail)
  all_goals exact Tr.fin hK ⟨_,rfl,rfl,hr,rfl⟩ S.E
 | some k=>
  obtain⟨hk,hb0⟩:=Qp hf
  rw[List.length_map]at hk
  have e1:stO (gs.map Xz.mo) a b.length=true:=by unfold stO;rw[hf];rfl
  have e2:stB (gs.map Xz.mo) a b=(gs.set k ((ix gs (k:Int)).put a b)).map Xz.mo:=by unfold stB;rw[hf];simp only[];rw[xeu hk,←xuG,List.map_set]
  rw[xeu hk]at hb0
  have hr2:∀g∈gs.set k ((ix gs (k:Int)).put a b),okR g.mo:=fun g hg=>by
   rcases List.mem_or_eq_of_mem_set hg with h|rfl
   ·exact hr g h
   ·exact xrm (hr _ (VK hk)) hb0
  rw[e1,e2]at hK
  have hpt: (gs.set k ((ix gs (k:Int)).put a b)).map Xz.pt=gs.map Xz.pt:=by
   have:=QI (f:=Xz.pt) (xs:=gs) (k:=(k:Int)) (y:=(ix gs (k:Int)).put a b) S.o S.o rfl
   simpa using this
  obtain⟨p0,p1,p2,p3⟩:=Jg hb0
  obtain⟨b0,b1,hl⟩:=hr _ (VK hk)
  simp only[Xz.mo]at p1 p2 p3 b0 b1 hl
  have hw1:IntKind.i64.wrap (a-(ix gs (k:Int)).base)=a-(ix gs (k:Int)).base:=Ye S.o S.o
  have hX:=I3 @xHQ.eq_def hf @rgP.eq_def;repeat' (first|refine S.x ?_|(refine G.call 268 ?_;refine S.c ?_ (h:=xec ‹_› ‹_› ‹_›))|rintro _ _ ⟨rfl,rfl⟩|fail)
  refine Tr.famAt (xs:=gs) (k:Int) S.K S.o S.o (W6 ?_)
  have hX:=And.intro @xHQ.eq_def hw1;repeat' (first|refine S.x ?_|(refine G.cut ?_;refine A.ccFrom rfl S.o S.o ?_)|refine A.copyCut S.o rfl ?_|fail)
  all_goals
   refine Tr.fin hK ⟨_,rfl,rfl,hr2,rfl⟩ ?_
   simp only[ap]
   rw[hpt]
   have hX:=And.intro @xaN.eq_def @Xz.put.eq_def
   exact S.E
end
section
theorem xcE {P:Program} {m:Sem Value} {v:Value} {K:Value→WP} (h:m=pure v):Xq P m K=K v:=by
 subst h
 funext w
 simp[Xq]
theorem xuU {P:Program} {t:TypeId} {x y:Operand} {a b:Int} {K:Value→WP} (h0:0≤b) (h1:b≤64):XO P .shl t x y (.int .i64 a) (.int .i64 b) K=K (.int .i64 (IntKind.i64.wrap (a*2^b.toNat))):=by
 simp only[XO,Je,VF,if_true]
 exact xcE (shift_shl .i64 .i64 a b h0 h1)
theorem xux {P:Program} {t:TypeId} {x y:Operand} {a b:Int} {K:Value→WP} (h0:0≤b) (h1:b≤64):XO P .shr t x y (.int .i64 a) (.int .i64 b) K=K (.int .i64 (a/2^b.toNat)):=by
 simp only[XO,Je,VF,if_true]
 exact xcE (shift_shr .i64 .i64 a b h0 h1)
theorem xvj {a b i:Nat} (h:b<2^i) (hs:a*2^i+b<9223372036854775808):bits .or .i64 (b:Int) ((a*2^i:Nat):Int)=((b+a*2^i:Nat):Int):=by
 have hx:b|||a*2^i=b+a*2^i:=by rw[Nat.or_comm,Nat.mul_comm a,←Nat.two_pow_add_eq_or_of_lt h];omega
 have h1: (BitVec.ofInt 64 (b:Int)).toNat=b:=by
  rw[BitVec.ofInt_natCast,BitVec.toNat_ofNat];exact Nat.mod_eq_of_lt S.o
 have h2: (BitVec.ofInt 64 ((a*2^i:Nat):Int)).toNat=a*2^i:=by
  rw[BitVec.ofInt_natCast,BitVec.toNat_ofNat];exact Nat.mod_eq_of_lt S.o
 show IntKind.i64.wrap ((BitVec.ofInt 64 (b:Int)|||BitVec.ofInt 64 ((a*2^i:Nat):Int)).toNat:Int)=_
 rw[BitVec.toNat_or,h1,h2,hx]
 exact Ye S.o S.o
theorem xwV {P:Program} {t:TypeId} {x y:Operand} {a b:Int} {K:Value→WP}:XO P .or t x y (.int .i64 a) (.int .i64 b) K=K (.int .i64 (bits .or .i64 a b)):=by
 simp only[XO,Je,VF,if_true]
 exact xcE (intBits_or .i64 a b)
def wN:List UInt8→Nat
 |[]=>0
 |x::xs=>x.toNat+256*wN xs
theorem xtJ:∀xs:List UInt8,wN xs<2^(8*xs.length)
 |[]=>by decide
 |x::xs=>by
  have h:=xtJ xs
  have h2:=x.toNat_lt
  have e:2^(8*(xs.length+1))=256*2^(8*xs.length):=by rw[Nat.mul_succ,Nat.pow_add];omega
  simp only[wN,List.length_cons,e]
  omega
theorem xl7:∀(xs:List UInt8) (x:UInt8),wN (xs++[x])=wN xs+x.toNat*2^(8*xs.length)
 |[],x=>by simp[wN]
 |y::ys,x=>by
  have e:2^(8*(ys.length+1))=256*2^(8*ys.length):=by rw[Nat.mul_succ,Nat.pow_add];omega
  simp only[List.cons_append,wN,xl7 ys x,List.length_cons,e]
  rw[Nat.mul_add,Nat.mul_left_comm]
  omega
theorem xsN {b:List UInt8} {k:Nat} (hk:k<b.length):wN (b.take (k+1))=wN (b.take k)+(b[k]).toNat*2^(8*k):=by
 rw[List.take_succ_eq_append_getElem hk,xl7,List.length_take,Nat.min_eq_left S.o]
def wdB (ms:List XH) (a:Int):Int:=(wN (ldB ms a 4):Nat)
attribute [local irreducible] ldB ldO
theorem xoV {p:Nat} {s:SV} {gs:List Xz} {a:Int} (hr:∀g∈gs,okR g.mo) (hl4: (ldB (gs.map Xz.mo) a 4).length≤4) (ha:a≤9223372036854775807) (ha2:-9223372036854775808≤a):
  Xb prog 255 #[.pointer (some ⟨p,0,none⟩),.int .i64 a] (VX p s gs)
  fun v l'=>v=.tuple #[.int .i64 (wdB (gs.map Xz.mo) a),.bool (ldO (gs.map Xz.mo) a 4)]∧l'=VX p s gs:=by
 intro F K hK
 simp only[ap]at hK⊢
 unfold wdB at hK
 refine S.I fun u=>?_
 repeat' (first|refine S.x ?_|(refine G.call 275 ?_;refine S.c ?_ (h:=xia ‹_› ‹_› ‹_›))|rintro _ _ ⟨_,rfl,rfl⟩|fail)
 rename_i sv
 generalize ldB (gs.map Xz.mo) a 4=bs at*
 refine Tr.loopE (α:=Nat) [8,19] [4,5,7,17,18] (fun k=>[.int .i64 (wN (bs.take k):Nat),.int .i64 k]) (fun k=>xpB p s::sl false s.v (gs.map Xz.pt)::fam xaN gs::[sl true sv.v bs]) (fun k=>k≤bs.length) (fun k=>bs.length-k) 0 S.T rfl (Nat.zero_le _) fun k u hk=>?_
 simp only[ap]
 by_cases hin:k<bs.length
 ·have hw:=Xo (k:=k) S.o
  have hx:ix bs (k:Int)=bs[k]:=by simp[ix,hin]
  have hlt:=bs[k].toNat_lt
  have e1:IntKind.i64.wrap ((bs[k].toNat:Nat):Int)=(bs[k].toNat:Nat):=Ye S.o S.o
  have e2:IntKind.i64.wrap (8*(k:Int))=((8*k:Nat):Int):=by rw[show 8*(k:Int)=((8*k:Nat):Int) by omega];exact Ye S.o S.o
  have hk4:k=0∨k=1∨k=2∨k=3:=by omega
  have hpw:2^(8*k)≤16777216:=by rcases hk4 with rfl|rfl|rfl|rfl<;>decide
  have hmul:bs[k].toNat*2^(8*k)≤255*16777216:=Nat.mul_le_mul S.o hpw
  have e3:∀P t x y K,XO P .shl t x y (.int .i64 (bs[k].toNat:Nat)) (.int .i64 ((8*k:Nat):Int)) K=K (.int .i64 ((bs[k].toNat*2^(8*k):Nat):Int)):=fun P t x y K=>by
   rw[xuU S.o S.o,Int.toNat_natCast]
   congr 2
   rw[show((bs[k].toNat:Nat):Int)*2^(8*k)=((bs[k].toNat*2^(8*k):Nat):Int) by simp]
   exact Ye S.o S.o
  have hlw:=xtJ (bs.take k)
  rw[List.length_take,Nat.min_eq_left S.o]at hlw
  have e4:∀P t x y K,XO P .or t x y (.int .i64 (wN (bs.take k):Nat)) (.int .i64 ((bs[k].toNat*2^(8*k):Nat):Int)) K=K (.int .i64 (wN (bs.take (k+1)):Nat)):=fun P t x y K=>by
   rw[xwV,xvj hlw S.o,xsN hin]
  clear hlw hmul hpw hk4 hlt
  have hX:=I6 hw hx @e1 @e2 @e3 @e4;repeat' (first|refine S.x ?_|intro hb|fail)
  all_goals exact S.R (k+1)
 ·have hke:k=bs.length:=by omega
  subst hke
  have e1:bs.take bs.length=bs:=List.take_length
  have hX:=@e1;repeat' (first|refine S.x ?_|fail)
  all_goals exact S.L
end
section
def Jp (n:Int) (k:Nat):UInt8:=UInt8.ofNat ((n/2^(8*k))%256).toNat
def b4 (n:Int):List UInt8:=[Jp n 0,Jp n 1,Jp n 2,Jp n 3]
def b4p (n:Int) (k:Nat):List UInt8:=(b4 n).take k++List.replicate (4-k) 0
theorem xlS {n:Int} {k:Nat} (h:k<4): (b4p n k).set k (Jp n k)=b4p n (k+1):=by
 rcases(by omega:k=0∨k=1∨k=2∨k=3)with rfl|rfl|rfl|rfl<;>rfl
theorem xgV {n:Int} {k:Nat} (h:k≤4): (b4p n k).length=4:=by
 rcases(by omega:k=0∨k=1∨k=2∨k=3∨k=4)with rfl|rfl|rfl|rfl|rfl<;>rfl
theorem xi5 {n:Int} {k:Nat}:IntKind.u8.wrap (n/2^(8*k))=((Jp n k).toNat:Int):=by
 have h1: (Jp n k).toNat=((n/2^(8*k))%256).toNat%256:=UInt8.toNat_ofNat
 rw[h1,IntKind.wrap_u8]
 omega
attribute [local irreducible] b4 b4p Jp
theorem xr5 {p:Nat} {s:SV} {gs:List Xz} {a n:Int} (hr:∀g∈gs,okR g.mo) (ha:a≤9223372036854775807) (ha2:-9223372036854775808≤a):
  Xb prog 256 #[.pointer (some ⟨p,0,none⟩),.int .i64 a,.int .i64 n] (VX p s gs)
  fun v l'=>∃gs2:List Xz,v=.bool (stO (gs.map Xz.mo) a 4)∧gs2.map Xz.mo=stB (gs.map Xz.mo) a (b4 n)∧(∀g∈gs2,okR g.mo)∧l'=VX p s gs2:=by
 intro F K hK
 simp only[ap]at hK⊢
 refine S.I fun u=>?_
 repeat' (first|refine S.x ?_|intro hb|fail)
 have h0: (List.replicate (4:Int).toNat default:List UInt8)=b4p n 0:=by unfold b4p b4;rfl
 have hl4: (b4p n 0).length=4:=xgV S.o
 rw[h0,hl4]
 refine Tr.loopE (α:=Nat) [12] [0,1,2,6,7,11] (fun k=>[.int .i64 k]) (fun k=>sl false hb.v (b4p n k)::xpB p s::sl false s.v (gs.map Xz.pt)::[fam xaN gs]) (fun k=>k≤4) (fun k=>4-k) 0 S.T rfl (Nat.zero_le _) fun k u hk=>?_
 simp only[ap]
 have hlk:=xgV (n:=n) hk
 by_cases hin:k<4
 ·have hw:=Xo (k:=k) S.o
  have e2:IntKind.i64.wrap (8*(k:Int))=((8*k:Nat):Int):=by rw[show 8*(k:Int)=((8*k:Nat):Int) by omega];exact Ye S.o S.o
  have e3:∀P t x y K,XO P .shr t x y (.int .i64 n) (.int .i64 ((8*k:Nat):Int)) K=K (.int .i64 (n/2^(8*k))):=fun P t x y K=>by
   rw[xux S.o S.o,Int.toNat_natCast]
  have e4:=xi5 (n:=n) (k:=k)
  have e5: (b4p n k).set (k:Int).toNat (Jp n k)=b4p n (k+1):=xlS hin
  have hlk2:=xgV (n:=n) (k:=k+1) S.o
  have hX:=I4 hw @e2 @e3 @e4;repeat' (first|refine S.x ?_|intro hb|fail)
  all_goals
   have hX:=And.intro e5 (xlS (n:=n) hin)
   exact S.R (k+1)
 ·have hke:k=4:=by omega
  subst hke
  have e1:b4p n 4=b4 n:=by unfold b4p b4;rfl
  have e6: (b4 n).length=4:=by unfold b4;rfl
  rw[e1]
  refine Tr.freezeAt S.K ?_
  repeat' (first|refine S.x ?_|(refine G.call 222 ?_;refine S.c ?_ (h:=xfH ‹_› ‹_› ‹_›))|rintro _ _ ⟨_,rfl,_,_,rfl⟩|fail)
  all_goals exact Tr.fin hK ⟨_,by rw[e6];rfl,by assumption,by assumption,rfl⟩ S.E
end
def XH.clr (m:XH):XH:={m with d:=List.replicate m.d.length 0}
def Xz.clr (g:Xz):Xz:={g with d:=List.replicate g.d.length 0}
theorem xve {gs:List Xz}: (gs.map Xz.clr).map Xz.mo=(gs.map Xz.mo).map XH.clr:=by
 simp only[List.map_map]
 rfl
theorem xtc {gs:List Xz} (h:∀g∈gs,okR g.mo):∀g∈gs.map Xz.clr,okR g.mo:=fun g hg=>by
 obtain⟨x,hx,rfl⟩:=List.mem_map.1 hg
 obtain⟨h1,h2,h3⟩:=h x hx
 exact⟨h1,h2,by simpa [Xz.clr,Xz.mo]using h3⟩
theorem xns {p:Nat} {s:SV} {gs:List Xz}:
  Xb prog 264 #[.pointer (some ⟨p,0,none⟩)] (VX p s gs)
  fun v l'=>v=.tuple #[]∧l'=VX p s (gs.map Xz.clr):=by
 intro F K hK
 simp only[ap]at hK⊢
 have hpm: (gs.map Xz.clr).map Xz.pt=gs.map Xz.pt:=by simp only[List.map_map];rfl
 simp only[VX,hpm]at hK
 refine Tr.bound (ro:=false) (v:=s.v) (xs:=gs.map Xz.pt) (by(repeat (first|exact Has.here|apply Has.next));done) fun hbd=>?_
 have hlm: (gs.map Xz.pt).length=gs.length:=List.length_map _
 refine S.I fun u=>?_
 repeat' (first|refine S.x ?_|fail)
 refine Tr.loopE (α:=Nat) [11] [9,10] (fun k=>[.int .i64 k]) (fun k=>xpB p s::sl false s.v (gs.map Xz.pt)::[fam xaN (xaJ Xz.clr gs k)]) (fun k=>k≤gs.length) (fun k=>gs.length-k) 0 S.T rfl (Nat.zero_le _) fun k u hk=>?_
 simp only[ap]
 by_cases hin:k<gs.length
 ·have hw:=Xo (k:=k) S.o
  have hm:=Xp (f:=Xz.pt) (xs:=gs) (k:=(k:Int)) S.o S.o
  have hul:=xb2 (f:=Xz.clr) (xs:=gs) (k:=k)
  have hui:=xgq (f:=Xz.clr) (xs:=gs) (k:=k) hin
  have hus:=xeo (f:=Xz.clr) (xs:=gs) (k:=k) hin
  refine Tr.famAt (xs:=xaJ Xz.clr gs k) (k:Int) S.K S.o S.o (W6 ?_)
  rw[hui]
  have hX:=I3 hw hm @Xz.pt.eq_def;repeat' (first|refine S.x ?_|intro hb|(refine G.clr ?_;refine A.clearV (0:UInt8) rfl ?_)|fail)
  all_goals
   have hX:=I3 hus.symm @xaN.eq_def @Xz.clr.eq_def
   clear hus
   exact S.R (k+1)
 ·have hke:k=gs.length:=by omega
  subst hke
  have e1:=xeI (f:=Xz.clr) (xs:=gs)
  have hX:=@e1;repeat' (first|refine S.x ?_|fail)
  all_goals exact S.L
