import Derived.Test.YtmebccjndhlpoaaGreatZ15
namespace Go.Proofs.YtmebccjndhlpoaaGreat
open Go Go.Wk Tryz
set_option maxHeartbeats 3200000
set_option maxRecDepth 100000
structure Xz where
 b:Nat
 base:Int
 size:Int
 w:Bool
 s:SV
 d:List UInt8
instance xv3:Inhabited Xz:=⟨⟨0,0,0,false,⟨none,0,0⟩,[]⟩⟩
def Xz.pt (g:Xz):Pt:=⟨some g.b⟩
structure XH where
 base:Int
 size:Int
 w:Bool
 d:List UInt8
instance xw7:Inhabited XH:=⟨⟨0,0,false,[]⟩⟩
def Xz.mo (g:Xz):XH:=⟨g.base,g.size,g.w,g.d⟩
abbrev xng (g:Xz):Xc:=blk g.b (.cells #[.int .i64 g.base,.int .i64 g.size,.bool g.w,g.s.v] 229 (0,0))
def xaN (g:Xz):Xc:=sep (xng g) (sl false g.s.v g.d)
abbrev xpB (p:Nat) (s:SV):Xc:=blk p (.cells #[s.v,.bool true] 226 (0,0))
instance xwi:ElT 224 Pt:=⟨⟩
def Jo (m:XH) (a n:Int) (wr:Bool):Bool:=decide (0≤n∧m.base≤a∧a-m.base≤m.d.length∧n≤(m.d.length:Int)-(a-m.base))&&(m.w||!wr)
def okR (m:XH):Prop:=0≤m.base∧m.base≤1048576∧m.d.length≤256
theorem W6 {g:Xz} {l:List Xc} {X:WP} (h:Tr (xng g::sl false g.s.v g.d::l) X):Tr (xaN g::l) X:=Tr.sep_iff.2 h
section
attribute [local irreducible] BrK Xq Xt Xv XI FnK XZ Xw XC XV opX opK Yq Yk eqR Yj Yo Ys WL WD W X3 XO Tr drewK Ya X4 Yw Yv X1 YB mp blk rob sl sep ex fact old
theorem xlQ {g:Xz} {a n:Int} (hr:okR g.mo) (ha:a≤9223372036854775807) (ha2:-9223372036854775808≤a):Xb prog 286 #[.pointer (some ⟨g.b,0,none⟩),.int .i64 a,.int .i64 n] [xng g,sl false g.s.v g.d]
  fun v l'=>v=.bool (decide (0≤n∧g.base≤a∧a-g.base≤g.d.length∧n≤(g.d.length:Int)-(a-g.base)))∧l'=[xng g,sl false g.s.v g.d]:=by
 intro F K hK
 simp only[ap]
 obtain⟨b0,b1,hl⟩:=hr
 simp only[Xz.mo]at b0 b1 hl
 refine S.I fun u=>?_
 by_cases h0:0≤n∧g.base≤a
 ·have hw:IntKind.i64.wrap (a-g.base)=a-g.base:=Ye S.o S.o
  by_cases h1:a-g.base≤g.d.length
  ·have hw2:IntKind.i64.wrap ((g.d.length:Int)-(a-g.base))=(g.d.length:Int)-(a-g.base):=Ye S.o S.o
   have hX:=I3 @xHr.eq_def hw hw2;repeat' (first|refine S.x ?_|fail)
   all_goals first
    |(exfalso;omega)
    |(refine Tr.fin hK ⟨congrArg Value.bool ?_,rfl⟩ S.E;rw[Bool.eq_iff_iff];simp only[decide_eq_true_eq];omega)
  ·have hX:=And.intro @xHr.eq_def hw;repeat' (first|refine S.x ?_|fail)
   all_goals first
    |(exfalso;omega)
    |(refine Tr.fin hK ⟨congrArg Value.bool ?_,rfl⟩ S.E;symm;simp only[decide_eq_false_iff_not];omega)
 ·have hX:=@xHr.eq_def;repeat' (first|refine S.x ?_|refine S.y ?_ ?_|intro hb|fail)
  all_goals first
   |(exfalso;omega)
   |(refine Tr.fin hK ⟨congrArg Value.bool ?_,rfl⟩ S.E;symm;simp only[decide_eq_false_iff_not];omega)
abbrev xkw (b1 b2 b3:Nat) (a n:Int) (wr:Bool):List Xc:=[blk b1 (.cells #[.int .i64 a] 3 (0,0)),blk b2 (.cells #[.int .i64 n] 3 (0,0)),blk b3 (.cells #[.bool wr] 4 (0,0))]
theorem xnT {g:Xz} {b1 b2 b3:Nat} {a n:Int} {wr:Bool} (hr:okR g.mo) (ha:a≤9223372036854775807) (ha2:-9223372036854775808≤a):Xb prog 285 #[.pointer (some ⟨g.b,0,none⟩),.pointer (some ⟨b1,0,none⟩),.pointer (some ⟨b2,0,none⟩),.pointer (some ⟨b3,0,none⟩)] (xng g::sl false g.s.v g.d::xkw b1 b2 b3 a n wr)
  fun v l'=>v=.bool (Jo g.mo a n wr)∧l'=xng g::sl false g.s.v g.d::xkw b1 b2 b3 a n wr:=by
 intro F K hK
 simp only[ap]
 refine S.I fun u=>?_
 have hv:Jo g.mo a n wr=(decide (0≤n∧g.base≤a∧a-g.base≤g.d.length∧n≤(g.d.length:Int)-(a-g.base))&&(g.w||!wr)):=rfl
 cases hb:decide (0≤n∧g.base≤a∧a-g.base≤g.d.length∧n≤(g.d.length:Int)-(a-g.base))with
 |false=>
  rw[hb,Bool.false_and]at hv
  have hX:=hb;repeat' (first|refine S.x ?_|(refine G.call 286 ?_;refine S.c ?_ (h:=xlQ ‹_› ‹_› ‹_›))|rintro _ _ ⟨rfl,rfl⟩|fail)
  all_goals exact Tr.fin hK ⟨by rw[hv],rfl⟩ S.E
 | true=>
  rw[hb,Bool.true_and]at hv
  cases hw:g.w<;>cases wr
  all_goals
   have hX:=And.intro hb hw;repeat' (first|refine S.x ?_|(refine G.call 286 ?_;refine S.c ?_ (h:=xlQ ‹_› ‹_› ‹_›))|rintro _ _ ⟨rfl,rfl⟩|fail)
   all_goals exact Tr.fin hK ⟨by rw[hv,hw];rfl,rfl⟩ S.E
section
def fI (ms:List XH) (a n:Int) (wr:Bool):Option Nat:=ms.findIdx? fun m=>Jo m a n wr
theorem xpP {ms:List XH} {a n:Int} {wr:Bool} {k:Nat} (hk:k<ms.length) (h:Jo (ix ms (k:Int)) a n wr=true) (hno:∀j:Nat,j<k→Jo (ix ms (j:Int)) a n wr=false):fI ms a n wr=some k:=by
 unfold fI
 rw[List.findIdx?_eq_some_iff_getElem]
 have e:∀j:Nat,∀hj:j<ms.length,ms[j]=ix ms (j:Int):=fun j hj=>by simp[ix,hj]
 exact⟨hk,by rw[e k hk];exact h,fun j hj=>by rw[e j S.o,hno j hj];decide⟩
theorem xlk {ms:List XH} {a n:Int} {wr:Bool} (hno:∀j:Nat,j<ms.length→Jo (ix ms (j:Int)) a n wr=false):fI ms a n wr=none:=by
 unfold fI
 rw[List.findIdx?_eq_none_iff]
 intro x hx
 obtain⟨j,hj,rfl⟩:=List.getElem_of_mem hx
 have:=hno j hj
 simpa [ix,hj]using this
theorem Qp {ms:List XH} {a n:Int} {wr:Bool} {k:Nat} (h:fI ms a n wr=some k):k<ms.length∧Jo (ix ms (k:Int)) a n wr=true:=by
 unfold fI at h
 rw[List.findIdx?_eq_some_iff_getElem]at h
 obtain⟨hk,h1,_⟩:=h
 exact⟨hk,by simpa [ix,hk]using h1⟩
def fV (ms:List XH) (a n:Int) (wr:Bool):Int:=match fI ms a n wr with
 |some k=>(k:Int)
 |none=>-1
theorem xeu {gs:List Xz} {k:Nat} (h:k<gs.length):ix (gs.map Xz.mo) (k:Int)=(ix gs (k:Int)).mo:=Xp S.o S.o
theorem VK {α:Type} [Inhabited α] {xs:List α} {k:Nat} (h:k<xs.length):ix xs (k:Int)∈xs:=List.mem_of_getElem? (Yi S.o S.o)
attribute [local irreducible] Jo
theorem xmm {s:SV} {gs:List Xz} {b1 b2 b3:Nat} {a n:Int} {wr:Bool} (hr:∀g∈gs,okR g.mo) (ha:a≤9223372036854775807) (ha2:-9223372036854775808≤a):
  Xb prog 294 #[s.v,.func (.func 285) #[] #[.pointer (some ⟨b1,0,none⟩),.pointer (some ⟨b2,0,none⟩),.pointer (some ⟨b3,0,none⟩)]] (sl false s.v (gs.map Xz.pt)::fam xaN gs::xkw b1 b2 b3 a n wr)
  fun v l'=>v=.int .i64 (fV (gs.map Xz.mo) a n wr)∧l'=sl false s.v (gs.map Xz.pt)::fam xaN gs::xkw b1 b2 b3 a n wr:=by
 intro F K hK
 simp only[ap]
 have hlm: (gs.map Xz.pt).length=gs.length:=List.length_map _
 refine Tr.bound (ro:=false) (v:=s.v) (xs:=gs.map Xz.pt) (by(repeat (first|exact Has.here|fail));done) fun hbd=>?_
 refine S.I fun u=>?_
 repeat' (first|refine S.x ?_|fail)
 refine Tr.loopE (α:=Nat) [4,8] [0,1,7] (fun k=>[.int .i64 0,.int .i64 k]) (fun k=>sl false s.v (gs.map Xz.pt)::fam xaN gs::xkw b1 b2 b3 a n wr) (fun k=>k≤gs.length∧∀j:Nat,j<k→Jo (ix gs (j:Int)).mo a n wr=false) (fun k=>gs.length-k) 0 S.T rfl ⟨Nat.zero_le _,fun j hj=>by omega⟩ fun k u hx=>?_
 obtain⟨hk,hno⟩:=hx
 by_cases hin:k<gs.length
 ·have hw:=Xo (k:=k) S.o
  have hm:=Xp (f:=Xz.pt) (xs:=gs) (k:=(k:Int)) S.o S.o
  have hok:=hr _ (VK hin)
  simp only[ap]
  refine Tr.famAt (xs:=gs) (k:Int) S.K S.o S.o (W6 ?_)
  cases hd:Jo (ix gs (k:Int)).mo a n wr with
  | true=>
   have hfv:fV (gs.map Xz.mo) a n wr=(k:Int):=by
    unfold fV
    rw[xpP (k:=k) (by rw[List.length_map];exact hin) (by rw[xeu hin];exact hd) (fun j hj=>by rw[xeu S.o];exact hno j hj)]
   clear hno
   have hX:=I3 hm @Xz.pt.eq_def hd;repeat' (first|refine S.x ?_|(refine G.call 285 ?_;refine S.c ?_ (h:=xnT ‹_› ‹_› ‹_›))|rintro _ _ ⟨rfl,rfl⟩|intro hb|fail)
   all_goals
    refine Tr.fin hK ⟨by rw[hfv],rfl⟩ ?_
    have hX:=@xaN.eq_def
    exact S.E
  | false=>
   have hno2:∀j:Nat,j<k+1→Jo (ix gs (j:Int)).mo a n wr=false:=fun j hj=>by
    by_cases e:j=k
    ·subst e;exact hd
    ·exact hno j S.o
   clear hno
   have hX:=I4 hw hm @Xz.pt.eq_def hd;repeat' (first|refine S.x ?_|(refine G.call 285 ?_;refine S.c ?_ (h:=xnT ‹_› ‹_› ‹_›))|rintro _ _ ⟨rfl,rfl⟩|intro hb|fail)
   all_goals
    have hX:=@xaN.eq_def
    exact S.R (k+1)
 ·have hke:k=gs.length:=by omega
  subst hke
  have hfv:fV (gs.map Xz.mo) a n wr=-1:=by
   unfold fV
   rw[xlk (fun j hj=>by rw[List.length_map]at hj;rw[xeu hj];exact hno j hj)]
  clear hno
  repeat' (first|refine S.x ?_|fail)
  all_goals exact Tr.fin hK ⟨by rw[hfv],rfl⟩ S.E
end
theorem xuv {s:SV} {lo hi:Nat} {sz:Nat}:∃s':SV,Zu sz s.v lo hi=s'.v:=⟨⟨if s.c=lo then s.a else s.a.map (·.add (lo*sz)),hi-lo,s.c-lo⟩,rfl⟩
theorem xmT {s:SV} {xs:List UInt8} {lo hi:Nat} (h1:lo≤hi) (h2:hi≤xs.length) (hn:xs.length≤1000000000):Xb prog 35 #[Zu (En.sz UInt8) s.v lo hi] [sl false s.v xs]
  fun v l'=>∃s':SV,v=s'.v∧l'=[sl true s'.v ((xs.take hi).drop lo),sl false s.v xs]:=by
 intro F K hK
 simp only[ap]at hK⊢
 obtain⟨s2,e2⟩:=xuv (s:=s) (lo:=lo) (hi:=hi) (sz:=En.sz UInt8)
 have hc:=fun l=>xqw (l:=sl false s.v xs::l) h1 h2 xnl
 rw[e2]at hc⊢
 have hl: ((xs.take hi).drop lo).length≤1000000000:=by simp;omega
 generalize(xs.take hi).drop lo=ys at hK hc hl
 refine S.I fun u=>?_
 have hc':=fun l A=>@xnE A _ _ _ _ _ _ (hc l)
 refine S.x ?_
 refine S.y ?_ ?_
 all_goals intro hb
 ·refine Tr.slNil (ro:=false) (xs:=ys) hb fun hx=>?_
  subst hx
  repeat' (first|refine S.x ?_|refine S.y ?_ ?_|(refine G.prop ?_;assumption)|intro hb|((fail_if_success refine G.tr ?_);exact G.prop S.p)|fail)
  refine Tr.nilSl (α:=UInt8) ?_
  refine Tr.freezeAt S.K ?_
  refine Tr.fin hK ⟨⟨none,0,0⟩,rfl,rfl⟩ ?_
  exact S.E
 ·repeat' (first|refine S.x ?_|intro hb|fail)
  refine Tr.freezeAt (v:=hb.v) (xs:=ys) S.K ?_
  exact Tr.fin hK ⟨hb,rfl,rfl⟩ S.E
section
def rgP (gs:List Xz):Option Nat→Value
 |some k=>.pointer (some ⟨(ix gs (k:Int)).b,0,none⟩)
 |none=>.pointer none
abbrev VX (p:Nat) (s:SV) (gs:List Xz):List Xc:=[xpB p s,sl false s.v (gs.map Xz.pt),fam xaN gs]
def ldB (ms:List XH) (a n:Int):List UInt8:=match fI ms a n false with
 |some k=>((ix ms (k:Int)).d.take ((a-(ix ms (k:Int)).base).toNat+n.toNat)).drop (a-(ix ms (k:Int)).base).toNat
 |none=>[]
def ldO (ms:List XH) (a n:Int):Bool:=(fI ms a n false).isSome
def stO (ms:List XH) (a n:Int):Bool:=(fI ms a n true).isSome
theorem Jg {m:XH} {a n:Int} {wr:Bool} (h:Jo m a n wr=true):0≤n∧m.base≤a∧a-m.base≤m.d.length∧n≤(m.d.length:Int)-(a-m.base):=by
 unfold Jo at h
 simp only[Bool.and_eq_true,decide_eq_true_eq]at h
 exact h.1
attribute [local irreducible] Jo fI
theorem xqb {p:Nat} {s:SV} {gs:List Xz} {b1 b2 b3:Nat} {a n:Int} {wr:Bool} (hr:∀g∈gs,okR g.mo) (ha:a≤9223372036854775807) (ha2:-9223372036854775808≤a):
  Xb prog 284 #[.pointer (some ⟨p,0,none⟩),.func (.func 285) #[] #[.pointer (some ⟨b1,0,none⟩),.pointer (some ⟨b2,0,none⟩),.pointer (some ⟨b3,0,none⟩)]] (VX p s gs++xkw b1 b2 b3 a n wr)
  fun v l'=>v=rgP gs (fI (gs.map Xz.mo) a n wr)∧l'=VX p s gs++xkw b1 b2 b3 a n wr:=by
 intro F K hK
 simp only[ap]at hK⊢
 have hlm: (gs.map Xz.pt).length=gs.length:=List.length_map _
 refine S.I fun u=>?_
 cases hf:fI (gs.map Xz.mo) a n wr with
 |none=>
  have hv:fV (gs.map Xz.mo) a n wr=-1:=by unfold fV;rw[hf]
  rw[hf]at hK
  have hX:=hv;repeat' (first|refine S.x ?_|(refine G.call 294 ?_;refine S.c ?_ (h:=xmm ‹_› ‹_› ‹_›))|rintro _ _ ⟨rfl,rfl⟩|fail)
  all_goals exact Tr.fin hK ⟨rfl,rfl⟩ S.E
 |some k=>
  have hv:fV (gs.map Xz.mo) a n wr=(k:Int):=by unfold fV;rw[hf]
  rw[hf]at hK
  have hk:=(Qp hf).1
  rw[List.length_map]at hk
  have hm:=Xp (f:=Xz.pt) (xs:=gs) (k:=(k:Int)) S.o S.o
  have hX:=And.intro hv hm;repeat' (first|refine S.x ?_|(refine G.call 294 ?_;refine S.c ?_ (h:=xmm ‹_› ‹_› ‹_›))|rintro _ _ ⟨rfl,rfl⟩|intro hb|fail)
  all_goals exact Tr.fin hK ⟨rfl,rfl⟩ S.E
theorem xec {p:Nat} {s:SV} {gs:List Xz} {a n:Int} {wr:Bool} (hr:∀g∈gs,okR g.mo) (ha:a≤9223372036854775807) (ha2:-9223372036854775808≤a):
  Xb prog 268 #[.pointer (some ⟨p,0,none⟩),.int .i64 a,.int .i64 n,.bool wr] (VX p s gs)
  fun v l'=>v=rgP gs (fI (gs.map Xz.mo) a n wr)∧l'=VX p s gs:=by
 intro F K hK
 simp only[ap]at hK⊢
 refine S.I fun u=>?_
 repeat' (first|refine S.x ?_|(refine G.call 284 ?_;refine S.c ?_ (h:=xqb ‹_› ‹_› ‹_›))|rintro _ _ ⟨rfl,rfl⟩|intro hb|fail)
 all_goals exact Tr.fin hK ⟨rfl,rfl⟩ S.E
theorem xsz {p:Nat} {s:SV} {gs:List Xz} {a n:Int} {wr:Bool} (hr:∀g∈gs,okR g.mo) (ha:a≤9223372036854775807) (ha2:-9223372036854775808≤a):
  Xb prog 274 #[.pointer (some ⟨p,0,none⟩),.int .i64 a,.int .i64 n,.bool wr] (VX p s gs)
  fun v l'=>v=.bool (fI (gs.map Xz.mo) a n wr).isSome∧l'=VX p s gs:=by
 intro F K hK
 simp only[ap]at hK⊢
 refine S.I fun u=>?_
 cases hf:fI (gs.map Xz.mo) a n wr
 all_goals
  have hX:=And.intro hf @rgP.eq_def;repeat' (first|refine S.x ?_|(refine G.call 268 ?_;refine S.c ?_ (h:=xec ‹_› ‹_› ‹_›))|rintro _ _ ⟨rfl,rfl⟩|fail)
  all_goals exact Tr.fin hK ⟨by rw[hf];rfl,rfl⟩ S.E
theorem xia {p:Nat} {s:SV} {gs:List Xz} {a n:Int} (hr:∀g∈gs,okR g.mo) (ha:a≤9223372036854775807) (ha2:-9223372036854775808≤a):
  Xb prog 275 #[.pointer (some ⟨p,0,none⟩),.int .i64 a,.int .i64 n] (VX p s gs)
  fun v l'=>∃s':SV,v=.tuple #[s'.v,.bool (ldO (gs.map Xz.mo) a n)]∧l'=VX p s gs++[sl true s'.v (ldB (gs.map Xz.mo) a n)]:=by
 intro F K hK
 simp only[ap]at hK⊢
 refine S.I fun u=>?_
 cases hf:fI (gs.map Xz.mo) a n false with
 |none=>
  have e1:ldO (gs.map Xz.mo) a n=false:=by unfold ldO;rw[hf];rfl
  have e2:ldB (gs.map Xz.mo) a n=[]:=by unfold ldB;rw[hf]
  rw[e1,e2]at hK
  have hX:=And.intro hf @rgP.eq_def;repeat' (first|refine S.x ?_|(refine G.call 268 ?_;refine S.c ?_ (h:=xec ‹_› ‹_› ‹_›))|rintro _ _ ⟨rfl,rfl⟩|fail)
  all_goals exact Tr.fin hK ⟨⟨none,0,0⟩,rfl,rfl⟩ S.E
 | some k=>
  obtain⟨hk,hb0⟩:=Qp hf
  rw[List.length_map]at hk
  have e1:ldO (gs.map Xz.mo) a n=true:=by unfold ldO;rw[hf];rfl
  have e2:ldB (gs.map Xz.mo) a n=(((ix gs (k:Int)).d.take ((a-(ix gs (k:Int)).base).toNat+n.toNat)).drop (a-(ix gs (k:Int)).base).toNat):=by unfold ldB;rw[hf];simp only[];rw[xeu hk];rfl
  rw[e1,e2]at hK
  rw[xeu hk]at hb0
  obtain⟨p0,p1,p2,p3⟩:=Jg hb0
  obtain⟨b0,b1,hl⟩:=hr _ (VK hk)
  simp only[Xz.mo]at p1 p2 p3 b0 b1 hl
  have hw1:IntKind.i64.wrap (a-(ix gs (k:Int)).base)=a-(ix gs (k:Int)).base:=Ye S.o S.o
  have hw2:IntKind.i64.wrap (a-(ix gs (k:Int)).base+n)=a-(ix gs (k:Int)).base+n:=Ye S.o S.o
  have hn: (a-(ix gs (k:Int)).base+n).toNat=(a-(ix gs (k:Int)).base).toNat+n.toNat:=by omega
  have h1: (a-(ix gs (k:Int)).base).toNat≤(a-(ix gs (k:Int)).base).toNat+n.toNat:=by omega
  have h2: (a-(ix gs (k:Int)).base).toNat+n.toNat≤(ix gs (k:Int)).d.length:=by omega
  have h3: (ix gs (k:Int)).d.length≤1000000000:=by omega
  have hX:=And.intro hf @rgP.eq_def;repeat' (first|refine S.x ?_|(refine G.call 268 ?_;refine S.c ?_ (h:=xec ‹_› ‹_› ‹_›))|rintro _ _ ⟨rfl,rfl⟩|fail)
  refine Tr.famAt (xs:=gs) (k:Int) S.K S.o S.o (W6 ?_)
  have hX:=And.intro hw1 hw2;repeat' (first|refine S.x ?_|(refine G.call 35 ?_;refine S.c ?_ (h:=xmT ‹_› ‹_› ‹_›))|rintro _ _ ⟨_,rfl,rfl⟩|(refine G.cut ?_;refine A.ccV rfl S.o S.o S.o ?_;rw[hn])|fail)
  all_goals
   apply Tr.fin hK ⟨_,rfl,rfl⟩
   have hX:=@xaN.eq_def
   exact S.E
end
structure XU where
 b:Nat
 has:Int
 done:Bool
instance xwe:Inhabited XU:=⟨⟨0,0,false⟩⟩
def XU.pt (g:XU):Pt:=⟨some g.b⟩
def XU.mo (g:XU):Int×Bool:=(g.has,g.done)
def Vx (g:XU):Xc:=blk g.b (.cells #[.int .i64 g.has,.bool g.done] 338 (0,0))
abbrev QF (p:Nat) (room:Int) (s:SV):Xc:=blk p (.cells #[.int .i64 room,s.v,.bool true] 335 (0,0))
instance xxm:ElT 333 Pt:=⟨⟩
def QR (a b:Int):Int:=if a+b≤9223372036854775807 then a+b else 9223372036854775807
theorem xqe {a b:Int} (h0:0≤a) (h1:a≤9223372036854775807) (h2:0≤b) (h3:b≤9223372036854775807):Xb prog 288 #[.int .i64 a,.int .i64 b] [] fun v l'=>v=.int .i64 (QR a b)∧l'=[]:=by
 intro F K hK
 simp only[List.nil_append]
 by_cases hs:a+b≤9223372036854775807
 ·have hw:IntKind.i64.wrap (a+b)=a+b:=Ye S.o S.o
  have hv:QR a b=a+b:=if_pos hs
  refine S.I fun u=>?_
  have hX:=hw;repeat' (first|refine S.x ?_|refine S.y ?_ ?_|intro hb|fail)
  all_goals first
   |(exfalso;omega)
   |exact Tr.fin hK ⟨by rw[hv],rfl⟩ S.E
 ·have hw:IntKind.i64.wrap (a+b)=a+b-18446744073709551616:=by
   unfold IntKind.wrap
   rw[show(2^IntKind.i64.bits:Int)=18446744073709551616 from by decide]
   simp only[show IntKind.i64.signed=true from rfl,Bool.true_and,decide_eq_true_eq]
   rw[show(2^(IntKind.i64.bits-1):Int)=9223372036854775808 from by decide]
   rw[if_pos S.o]
   omega
  have hv:QR a b=9223372036854775807:=if_neg hs
  refine S.I fun u=>?_
  have hX:=hw;repeat' (first|refine S.x ?_|fail)
  all_goals first
   |(exfalso;omega)
   |exact Tr.fin hK ⟨by rw[hv],rfl⟩ S.E
theorem xp3 {n a b:Int}:Xb prog 173 #[.int .i64 n,.int .i64 a,.int .i64 b] [] fun v l'=>v=.int .i64 (if n<a then a else if b<n then b else n)∧l'=[]:=by
 intro F K hK
 simp only[List.nil_append]
 refine S.I fun u=>?_
 repeat' (first|refine S.x ?_|refine S.y ?_ ?_|intro hb|fail)
 all_goals exact S.L
theorem xcc {p:Nat} {room:Int} {s:SV} {gs:List XU} {k:Int} (h0:0≤k) (h1:k<gs.length):Xb prog 189 #[.pointer (some ⟨p,0,none⟩),.int .i64 k] [QF p room s,sl false s.v (gs.map XU.pt)]
  fun v l'=>v=.pointer (some ⟨(ix gs k).b,0,none⟩)∧l'=[QF p room s,sl false s.v (gs.map XU.pt)]:=by
 intro F K hK
 simp only[ap]
 have hm:=Xp (f:=XU.pt) h0 h1
 have hl: (gs.map XU.pt).length=gs.length:=List.length_map _
 refine S.I fun u=>?_
 have hX:=hm;repeat' (first|refine S.x ?_|intro hb|fail)
 all_goals first
  |(exfalso;omega)
  |exact S.L
theorem xcw {p:Nat} {room:Int} {s:SV} {gs:List XU} {k:Int} (h:¬(0≤k∧k<gs.length)):Xb prog 189 #[.pointer (some ⟨p,0,none⟩),.int .i64 k] [QF p room s,sl false s.v (gs.map XU.pt)]
  fun v l'=>v=.pointer none∧l'=[QF p room s,sl false s.v (gs.map XU.pt)]:=by
 intro F K hK
 simp only[ap]
 have hl: (gs.map XU.pt).length=gs.length:=List.length_map _
 refine S.I fun u=>?_
 repeat' (first|refine S.x ?_|refine S.y ?_ ?_|intro hb|fail)
 all_goals first
  |(exfalso;omega)
  |exact S.L
end
theorem xhc {P:Program} {ty T:Nat} {k k2 k3:IntKind} {a b c:Int} {K:Value→WP}:Xq P (Builtin.min_ #[T,T,T] ty #[.int k a,.int k2 b,.int k3 c]) K=K (.int k (if c<(if b<a then b else a)then c else(if b<a then b else a))):=by
 refine Zm (fun w=>?_) K
 simp[Builtin.min_,Builtin.min2]
def Zn (a b c:Int):Int:=if c<(if b<a then b else a)then c else(if b<a then b else a)
def ofA (gs:List XU) (k:Int):Int:=if inR gs k then(ix gs k).has else 0
def spA (room:Int) (gs:List XU) (k n:Int):Int:=if inR gs k then(if n<1 then 0 else Zn n room (ix gs k).has)else 0
def spG (room:Int) (gs:List XU) (k n:Int):List XU:=if inR gs k then(if n<1 then gs else gs.set k.toNat {ix gs k with has:=(ix gs k).has-Zn n room (ix gs k).has})else gs
theorem QI {α γ:Type} [Inhabited α] {f:α→γ} {xs:List α} {k:Int} {y:α} (h0:0≤k) (h1:k<xs.length) (h:f y=f (ix xs k)): (xs.set k.toNat y).map f=xs.map f:=by
 have hx:=Yi h0 h1
 rw[List.map_set,h]
 obtain⟨hlt,he⟩:=List.getElem?_eq_some_iff.1 hx
 have e2:f (ix xs k)=(xs.map f)[k.toNat]'(by rw[List.length_map];exact hlt):=by rw[List.getElem_map,he]
 rw[e2,List.set_getElem_self]
theorem Ql {g:XU} {l:List Xc} {X:WP} (h:Tr (blk g.b (.cells #[.int .i64 g.has,.bool g.done] 338 (0,0))::l) X):Tr (Vx g::l) X:=h
section
attribute [local irreducible] BrK Xq Xt Xv XI FnK XZ Xw XC XV opX opK Yq Yk eqR Yj Yo Ys WL WD W X3 XO Tr drewK Ya X4 Yw Yv X1 YB mp blk rob sl sep ex fact old
theorem xwr {p:Nat} {room:Int} {s:SV} {gs:List XU} {k:Int}:Xb prog 130 #[.pointer (some ⟨p,0,none⟩),.int .i64 k] [QF p room s,fam Vx gs,sl false s.v (gs.map XU.pt)]
  fun v l'=>v=.int .i64 (ofA gs k)∧l'=[QF p room s,fam Vx gs,sl false s.v (gs.map XU.pt)]:=by
 intro F K hK
 simp only[ap]
 by_cases h:inR gs k
 ·have ⟨h0,h1⟩:=h
  refine Tr.famAt (A:=Vx) k S.K h0 h1 (Ql ?_)
  refine S.I fun u=>?_
  have hX:=@XU.pt.eq_def;repeat' (first|refine S.x ?_|(refine G.call 189 ?_;refine S.c ?_ (h:=xcc S.o S.o))|rintro _ _ ⟨rfl,rfl⟩|fail)
  all_goals
   have hX:=And.intro @ofA.eq_def @Vx.eq_def
   exact S.L
 ·have h':=h
  unfold inR at h'
  refine S.I fun u=>?_
  repeat' (first|refine S.x ?_|(refine G.call 189 ?_;first|refine S.c ?_ (h:=xcw S.o))|rintro _ _ ⟨rfl,rfl⟩|fail)
  all_goals
   have hX:=@ofA.eq_def
   exact S.L
theorem xqZ {p:Nat} {room:Int} {s:SV}:Xb prog 131 #[.pointer (some ⟨p,0,none⟩)] [QF p room s] fun v l'=>v=.int .i64 room∧l'=[QF p room s]:=by
 intro F K hK
 simp only[ap]
 refine S.I fun u=>?_
 repeat' (first|refine S.x ?_|fail)
 all_goals exact S.L
theorem Qu {a b c:Int}:Zn a b c≤a∧Zn a b c≤b∧Zn a b c≤c∧(0≤a→0≤b→0≤c→0≤Zn a b c):=by
 unfold Zn
 split<;>split<;>omega
theorem xnZ {p:Nat} {room:Int} {s:SV} {gs:List XU} {k n:Int} (hr:0≤room∧room≤1000000000000) (hh:0≤(ix gs k).has∧(ix gs k).has≤1000000000000):Xb prog 133 #[.pointer (some ⟨p,0,none⟩),.int .i64 k,.int .i64 n] [QF p room s,fam Vx gs,sl false s.v (gs.map XU.pt)]
  fun v l'=>v=.int .i64 (spA room gs k n)∧l'=[QF p (room-spA room gs k n) s,fam Vx (spG room gs k n),sl false s.v ((spG room gs k n).map XU.pt)]:=by
 intro F K hK
 simp only[ap]
 by_cases h:inR gs k
 ·have ⟨h0,h1⟩:=h
  have hsm:n<1→spA room gs k n=0∧spG room gs k n=gs:=fun hn=>by unfold spA spG;rw[if_pos h,if_pos h,if_pos hn,if_pos hn];exact⟨rfl,rfl⟩
  refine Tr.famAt (A:=Vx) k S.K h0 h1 (Ql ?_)
  by_cases hn:n<1
  ·obtain⟨e1,e2⟩:=hsm hn
   rw[e1,e2,Int.sub_zero]at hK
   refine S.I fun u=>?_
   have hX:=And.intro @xHZ.eq_def @XU.pt.eq_def;repeat' (first|refine S.x ?_|(refine G.call 189 ?_;refine S.c ?_ (h:=xcc S.o S.o))|rintro _ _ ⟨rfl,rfl⟩|fail)
   all_goals
    have hX:=@Vx.eq_def
    exact S.L
  ·have e1:spA room gs k n=Zn n room (ix gs k).has:=by unfold spA;rw[if_pos h,if_neg hn]
   have e2:spG room gs k n=gs.set k.toNat {ix gs k with has:=(ix gs k).has-Zn n room (ix gs k).has}:=by unfold spG;rw[if_pos h,if_neg hn]
   obtain⟨m1,m2,m3,m4⟩:=@Qu n room (ix gs k).has
   have m5:=m4 S.o hr.1 hh.1
   have hmm: (gs.set k.toNat {ix gs k with has:=(ix gs k).has-Zn n room (ix gs k).has}).map XU.pt=gs.map XU.pt:=QI h0 h1 rfl
   rw[e1,e2,hmm]at hK
   have m6:∀P ty T K,Xq P (Builtin.min_ #[T,T,T] ty #[.int .i64 n,.int .i64 room,.int .i64 (ix gs k).has]) K=K (.int .i64 (Zn n room (ix gs k).has)):=fun P ty T K=>xhc
   generalize Zn n room (ix gs k).has=m at*
   have w1:IntKind.i64.wrap ((ix gs k).has-m)=(ix gs k).has-m:=Ye S.o S.o
   have w2:IntKind.i64.wrap (room-m)=room-m:=Ye S.o S.o
   refine S.I fun u=>?_
   have hX:=I5 @xHZ.eq_def @XU.pt.eq_def @m6 @w1 @w2;repeat' (first|refine S.x ?_|(refine G.call 189 ?_;refine S.c ?_ (h:=xcc S.o S.o))|rintro _ _ ⟨rfl,rfl⟩|fail)
   all_goals
    have hX:=@Vx.eq_def
    exact S.L
 ·have e1:spA room gs k n=0:=if_neg h
  have e2:spG room gs k n=gs:=if_neg h
  rw[e1,e2,Int.sub_zero]at hK
  have h':=h
  unfold inR at h'
  refine S.I fun u=>?_
  have hX:=@xHZ.eq_def;repeat' (first|refine S.x ?_|(refine G.call 189 ?_;first|refine S.c ?_ (h:=xcw S.o))|rintro _ _ ⟨rfl,rfl⟩|fail)
  all_goals exact S.L
