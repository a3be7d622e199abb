import Derived.Test.YtmebccjndhlpoaaGreatZ43
namespace Go.Proofs.YtmebccjndhlpoaaGreat
open Go Go.Wk Tryz
set_option maxHeartbeats 3200000
set_option maxRecDepth 100000
theorem xKF {ask:Int→Int}:∀{n k:Nat},(∀j:Nat,k≤j→j<k+n→ask j=0)→(xB9 ask n k).1=0
 |0,_,_=>rfl
 |n+1,k,h=>by
  unfold xB9
  rw[if_pos (h k (Nat.le_refl _) S.o)]
  exact xKF fun j h1 h2=>h j S.o S.o
theorem xD8 {ask:Int→Int} {n:Nat} (h:∀j:Nat,j<n→ask j=0): (xB9 ask n 0).1=0:=xKF fun j _ h2=>h j S.o
theorem xFI {down up:List Int} {k:Int} (h1:0≤ix down k∧ix down k≤1000000) (h2:ix down k<ix up k∧ix up k≤1000000) (h3:0<k→ix down k<ix down (k-1)∧ix up k<ix up (k-1)):xB8 down up k=false:=by
 unfold xB8
 rw[Ye (n:=ix down k+1) S.o S.o,xBM h1.1 h1.2,xBM S.o h2.2]
 by_cases h:0<k
 ·obtain⟨a,b⟩:=h3 h
  have e1:decide (ix down (k-1)≤ix down k)=false:=decide_eq_false S.o
  have e2:decide (ix up (k-1)≤ix up k)=false:=decide_eq_false S.o
  rw[e1,e2]
  simp
 ·rw[decide_eq_false h]
  rfl
section
attribute [local irreducible] BrK Xq Xt Xv XI FnK XZ Xw XC XV opX opK Yq Yk eqR Yj Yo Ys WL WD W X3 XO Tr drewK Ya X4 Yw Yv X1 YB mp blk rob sl sep ex fact old
section
attribute [local irreducible] xs2 inB xB0 xB9
section
variable {sd su:SV} {down up:List Int}
theorem xLd:Xb prog 57 #[.agg #[sd.v,su.v]] [sl true sd.v down,sl true su.v up]
  fun v l'=>∃f at_:Int,(f=0→(xDM down up).1=0)∧v=.tuple #[.int .i64 f,.int .i64 at_]∧l'=[]:=by
 intro F K hK
 simp only[ap]at hK⊢
 refine S.I fun u=>?_
 by_cases h1: (down.length:Int)=up.length∧(down.length:Int)≤4
 ·obtain⟨h1,h2⟩:=h1
  have hX:=@xGm.eq_def;repeat' (first|refine S.x ?_|intro hb|fail)
  refine Tr.loopE (α:=Nat) [2,3,4] [1] (fun k=>[.int .i64 0,.int .i64 0,.int .i64 k]) (fun _=>[]) (fun k=>k≤down.length∧∀j:Nat,j<k→(if xB8 down up (j:Int)=true then(28:Int)else 0)=0) (fun k=>down.length-k) 0 S.T rfl ⟨Nat.zero_le _,fun j hj=>absurd hj (Nat.not_lt_zero _)⟩ fun k u hk=>?_
  obtain⟨hk,hall⟩:=hk
  simp only[List.nil_append]
  by_cases hin:k<down.length
  ·have hw:=Xo (k:=k) S.o
   by_cases q0: (0≤ix down (k:Int)∧ix down (k:Int)≤1000000)∧(0≤ix up (k:Int)∧ix up (k:Int)≤1000000)∧ix down (k:Int)<ix up (k:Int)
   ·obtain⟨q1,q2,q3⟩:=q0
    have e1:decide (ix down (k:Int)<0∨1000000<ix down (k:Int))=false:=decide_eq_false S.o
    have e2:decide (ix up (k:Int)<0∨1000000<ix up (k:Int))=false:=decide_eq_false S.o
    cases k with
    |zero=>
     have hb:xB8 down up ((0:Nat):Int)=false:=xFI q1 ⟨q3,q2.2⟩ (fun h=>absurd h (by decide))
     have hall2:=JT (p:=fun j:Nat=>(if xB8 down up (j:Int)=true then(28:Int)else 0)=0) hall (by rw[hb];rfl)
     have hX:=I4 @xGm.eq_def hw @e1 @e2;repeat' (first|refine S.x ?_|(refine G.call 52 ?_;refine S.c ?_ (h:=YA))|rintro _ _ ⟨rfl,rfl⟩|intro hb|fail)
     all_goals exact S.R 1
    | succ j=>
     have hj:IntKind.i64.wrap (((j+1:Nat):Int)-1)=(j:Int):=by rw[Ye S.o S.o];omega
     have hj2: (((j+1:Nat):Int)-1)=(j:Int):=by omega
     by_cases q5:ix down ((j+1:Nat):Int)<ix down (j:Int)∧ix up ((j+1:Nat):Int)<ix up (j:Int)
     ·have hb:xB8 down up ((j+1:Nat):Int)=false:=xFI q1 ⟨q3,q2.2⟩ (fun _=>by rw[hj2];exact q5)
      have hall2:=JT (p:=fun j:Nat=>(if xB8 down up (j:Int)=true then(28:Int)else 0)=0) hall (by rw[hb];rfl)
      obtain⟨q6,q7⟩:=q5
      have hX:=I5 @xGm.eq_def hw @e1 @e2 hj;repeat' (first|refine S.x ?_|(refine G.call 52 ?_;refine S.c ?_ (h:=YA))|rintro _ _ ⟨rfl,rfl⟩|intro hb|fail)
      all_goals exact S.R (j+1+1)
     ·have hX:=I5 @xGm.eq_def hw @e1 @e2 hj;repeat' (first|refine S.x ?_|refine S.y ?_ ?_|(refine G.call 52 ?_;refine S.c ?_ (h:=YA))|rintro _ _ ⟨rfl,rfl⟩|intro hb|fail)
      all_goals first
       |exact Tr.fin hK ⟨28,_,(fun h=>absurd h (by decide)),rfl,rfl⟩ S.E
       |(exfalso;omega)
   ·have hX:=And.intro @xGm.eq_def hw;repeat' (first|refine S.x ?_|refine S.y ?_ ?_|(refine G.call 52 ?_;refine S.c ?_ (h:=YA))|rintro _ _ ⟨rfl,rfl⟩|intro hb|fail)
    all_goals first
     |exact Tr.fin hK ⟨28,_,(fun h=>absurd h (by decide)),rfl,rfl⟩ S.E
     |(exfalso;simp only[decide_eq_false_iff_not,decide_eq_true_eq,Bool.not_eq_true]at*;omega)
  ·have hke:k=down.length:=by omega
   subst hke
   have hok: (xDM down up).1=0:=by
    unfold xDM
    rw[if_neg S.o]
    exact xD8 hall
   have hX:=@xGm.eq_def;repeat' (first|refine S.x ?_|fail)
   all_goals exact Tr.fin hK ⟨0,0,(fun _=>hok),rfl,rfl⟩ S.E
 ·have hX:=@xGm.eq_def;repeat' (first|refine S.x ?_|refine S.y ?_ ?_|intro hb|fail)
  all_goals first
   |exact Tr.fin hK ⟨28,_,(fun h=>absurd h (by decide)),rfl,rfl⟩ S.E
   |(exfalso;omega)
variable {c:xBG} {k p o:Int}
theorem xHA (hs:shC c):Xb prog 94 #[.agg (En.enc c).toArray,.agg #[.int .i64 p,.int .i64 o]] [sl true c.parts.s.v c.parts.d,fzl c.parts.d]
  fun v l'=>v=.bool (xB4 c p o)∧l'=[]:=by
 intro F K hK
 simp only[ap]at hK⊢
 have hpl:=hs.p
 have hw1:IntKind.i64.wrap ((c.parts.d.length:Int)-1)=(c.parts.d.length:Int)-1:=Ye S.o S.o
 by_cases h1:0≤p∧p<c.parts.d.length
 ·obtain⟨h1,h2⟩:=h1
  have hol:=(hs.ps _ (List.mem_of_getElem? (Yi h1 h2))).o
  have hw2:IntKind.i64.wrap (((ix c.parts.d p).ports.d.length:Int)-1)=((ix c.parts.d p).ports.d.length:Int)-1:=Ye S.o S.o
  by_cases h3:0≤o∧o<(ix c.parts.d p).ports.d.length
  ·have e:xB4 c p o=true:=by unfold xB4;rw[hw1,hw2,xBM h1 S.o,xBM h3.1 S.o];rfl
   rw[e]at hK
   obtain⟨h3,h4⟩:=h3
   refine S.I fun u=>?_
   have hX:=@xKw.eq_def;repeat' (first|refine S.x ?_|intro hb|fail)
   all_goals exact S.L
  ·have e:xB4 c p o=false:=by
    cases h:xB4 c p o with
    |false=>rfl
    |true=>
     unfold xB4 at h
     rw[Bool.and_eq_true,hw2]at h
     exact absurd (xB6 h.2) S.o
   rw[e]at hK
   by_cases h0:0≤o
   ·have hd:decide (o<((ix c.parts.d p).ports.d.length:Int))=false:=decide_eq_false S.o
    refine S.I fun u=>?_
    have hX:=And.intro @xKw.eq_def hd;repeat' (first|refine S.x ?_|intro hb|fail)
    all_goals exact S.L
   ·refine S.I fun u=>?_
    have hX:=@xKw.eq_def;repeat' (first|refine S.x ?_|intro hb|fail)
    all_goals exact S.L
 ·have e:xB4 c p o=false:=by
   cases h:xB4 c p o with
   |false=>rfl
   |true=>
    unfold xB4 at h
    rw[Bool.and_eq_true,hw1]at h
    exact absurd (xB6 h.1) S.o
  rw[e]at hK
  refine S.I fun u=>?_
  have hX:=@xKw.eq_def;repeat' (first|refine S.x ?_|refine S.y ?_ ?_|intro hb|fail)
  all_goals first
   |exact S.L
   |(exfalso;omega)
end
end
section
theorem xFw {c:xBG} {p o:Int} (hs:shC c) (h:xB4 c p o=true): (0≤p∧p<c.parts.d.length)∧0≤o∧o<(ix c.parts.d p).ports.d.length:=by
 have hpl:=hs.p
 have hw1:IntKind.i64.wrap ((c.parts.d.length:Int)-1)=(c.parts.d.length:Int)-1:=Ye S.o S.o
 unfold xB4 at h
 rw[Bool.and_eq_true,hw1]at h
 have h1:=xB6 h.1
 have hp:0≤p∧p<c.parts.d.length:=⟨h1.1,by omega⟩
 have hol:=(hs.ps _ (List.mem_of_getElem? (Yi hp.1 hp.2))).o
 have hw2:IntKind.i64.wrap (((ix c.parts.d p).ports.d.length:Int)-1)=((ix c.parts.d p).ports.d.length:Int)-1:=Ye S.o S.o
 rw[hw2]at h
 have h2:=xB6 h.2
 exact⟨hp,h2.1,by omega⟩
attribute [local irreducible] xs2 inB xB0 xB9 xB4
section
variable {c:xBG} {k:Int}
theorem xKI (hs:shC c):Xb prog 55 #[.agg (En.enc c).toArray,.int .i64 k] [sl true c.parts.s.v c.parts.d,fzl c.parts.d,sl true c.chans.s.v c.chans.d]
  fun v l'=>∃b:Bool,(b=true→xCW c k=true)∧v=.bool b∧l'=[]:=by
 intro F K hK
 simp only[ap]at hK⊢
 have hcl:=hs.c
 by_cases h1:0≤k∧k<c.chans.d.length
 ·obtain⟨h1,h2⟩:=h1
  obtain⟨x,hx⟩:∃x,x=ix c.chans.d k:=⟨_,rfl⟩
  have hx2:=hx.symm
  have hf1:=xHA (p:=x.fp) (o:=x.fo) hs
  have hf2:=xHA (p:=x.tp) (o:=x.to) hs
  cases hi1:xB4 c x.fp x.fo with
  |false=>
   rw[hi1]at hf1
   refine S.I fun u=>?_
   have hX:=I5 @xch.eq_def hx2 @xC3 @xC7 @xC5;repeat' (first|rintro _ _ ⟨rfl,rfl⟩|(refine G.call 94 ?_;refine S.c ?_ (h:=hf1))|refine S.x ?_|intro hb|fail)
   all_goals exact Tr.fin hK ⟨false,(fun h=>by cases h),rfl,rfl⟩ S.E
  | true=>
   rw[hi1]at hf1
   obtain⟨⟨p1,p2⟩,p3,p4⟩:=xFw hs hi1
   cases hi2:xB4 c x.tp x.to with
   |false=>
    rw[hi2]at hf2
    refine S.I fun u=>?_
    have hX:=I5 @xch.eq_def hx2 @xC3 @xC7 @xC5;repeat' (first|rintro _ _ ⟨rfl,rfl⟩|(refine G.call 94 ?_;first|refine S.c ?_ (h:=hf1)|refine S.c ?_ (h:=hf2))|refine S.x ?_|intro hb|fail)
    all_goals exact Tr.fin hK ⟨false,(fun h=>by cases h),rfl,rfl⟩ S.E
   | true=>
    rw[hi2]at hf2
    obtain⟨⟨p5,p6⟩,p7,p8⟩:=xFw hs hi2
    have hM:¬(x.fp=x.tp∨(xCi c x.fp x.fo).i=true∨(xCi c x.tp x.to).i=false∨((xCi c x.fp x.fo).q==(xCi c x.tp x.to).q)=false∨(xCi c x.tp x.to).size<(xCi c x.fp x.fo).size)→(c.chans.d.take k.toNat).any (xCr x (xCi c x.fp x.fo).q)=false→xCW c k=true:=fun h h'=>by
     unfold xCW
     rw[Ye (n:=(c.chans.d.length:Int)-1) S.o S.o,xBM h1 S.o,if_neg (by decide),←hx,if_pos ⟨hi1,hi2⟩]
     simp only
     rw[if_neg h,h']
     rfl
    have hpa:ix (ix c.parts.d x.fp).ports.d x.fo=xCi c x.fp x.fo:=rfl
    have hpb:ix (ix c.parts.d x.tp).ports.d x.to=xCi c x.tp x.to:=rfl
    obtain⟨a,ha⟩:∃a,a=xCi c x.fp x.fo:=⟨_,rfl⟩
    obtain⟨b,hb0⟩:∃b,b=xCi c x.tp x.to:=⟨_,rfl⟩
    rw[←ha,←hb0]at hM
    rw[←ha]at hpa
    rw[←hb0]at hpb
    clear ha hb0 hx
    have hq2:∀p q:Bool,(p==q)=false→¬p=q:=fun p q h e=>by rw[e]at h;cases q<;>cases h
    refine S.I fun u=>?_
    have hX:=I7 @xch.eq_def hx2 hpa hpb @xC3 @xC7 @xC5;repeat' (first|rintro _ _ ⟨rfl,rfl⟩|(refine G.call 94 ?_;first|refine S.c ?_ (h:=hf1)|refine S.c ?_ (h:=hf2))|refine S.x ?_|refine S.y ?_ ?_|intro hb|fail)
    all_goals try exact Tr.fin hK ⟨false,(fun h=>by cases h),rfl,rfl⟩ S.E
    have hg:¬(x.fp=x.tp∨a.i=true∨b.i=false∨(a.q==b.q)=false∨b.size<a.size):=by
     rintro(h|h|h|h|h)<;>first|contradiction|omega|simp_all
    have hM:=hM hg
    rename_i bc _ _ _ bx _ _ ba _ _ _ _ bb _ _ _ _ _ _ _
    obtain⟨P,hP0,hPs,hPe⟩:∃P:Nat→Prop,P 0∧(∀j:Nat,P j→xCr x a.q (ix c.chans.d (j:Int))=false→P (j+1))∧(P k.toNat→(c.chans.d.take k.toNat).any (xCr x a.q)=false):=by
     refine⟨fun j=>∀i:Nat,i<j→xCr x a.q (ix c.chans.d (i:Int))=false,fun j hj=>absurd hj (Nat.not_lt_zero _),fun j h1 h2=>JT (p:=fun i:Nat=>xCr x a.q (ix c.chans.d (i:Int))=false) h1 h2,fun hall=>?_⟩
     rw[List.any_eq_false]
     intro y hy
     obtain⟨i,hi,e⟩:=List.mem_iff_getElem.1 hy
     rw[List.length_take]at hi
     have:=hall i S.o
     rw[List.getElem_take]at e
     rw[show ix c.chans.d (i:Int)=y by rw[←e];simp[ix,show i<c.chans.d.length by omega]]at this
     rw[this]
     decide
    refine Tr.loopE (α:=Nat) [4,8] [1,2,5,6] (fun j=>[.bool false,.int .i64 j]) (fun _=>[blk bx (.cells (En.enc x).toArray 116 (0,0)),blk ba (.cells (En.enc a).toArray 199 (0,0)),blk bc (.cells (En.enc c).toArray 33 (0,0))]) (fun j=>j≤k.toNat∧P j) (fun j=>k.toNat-j) 0 S.T rfl ⟨Nat.zero_le _,hP0⟩ fun j u hj=>?_
    obtain⟨hj,hall⟩:=hj
    simp only[ap]
    by_cases hin:j<k.toNat
    ·have hw:=Xo (k:=j) S.o
     have hstep:=hPs j hall
     obtain⟨y,hy⟩:∃y,y=ix c.chans.d (j:Int):=⟨_,rfl⟩
     have hy2:=hy.symm
     rw[hy2]at hstep
     obtain⟨d1,hd1⟩:∃d1,d1=decide ([y.tp,y.to]=[x.tp,x.to]):=⟨_,rfl⟩
     obtain⟨d2,hd2⟩:∃d2,d2=decide ([y.fp,y.fo]=[x.fp,x.fo]):=⟨_,rfl⟩
     have hcb:xCr x a.q y=(d1||(a.q&&d2)):=by unfold xCr;rw[hd1,hd2]
     have hd1':=hd1.symm
     have hd2':=hd2.symm
     rw[hcb]at hstep
     clear hy hd1 hd2 hcb hM hPs hPe hP0 hg
     have hX:=I9 @xch.eq_def hw hy2 @xC3 @xC7 @xC5 @xKC @hd1' @hd2';repeat' (first|refine S.x ?_|refine S.y ?_ ?_|intro hb|fail)
     all_goals try exact Tr.fin hK ⟨false,(fun h=>by cases h),rfl,rfl⟩ S.E
     all_goals
      have hst2:=hstep (by simp_all)
      exact S.R (j+1)
    ·have hke:j=k.toNat:=by omega
     rw[hke]at hall
     have hMt:=hM (hPe hall)
     have hX:=@xch.eq_def;repeat' (first|refine S.x ?_|fail)
     all_goals exact Tr.fin hK ⟨true,(fun _=>hMt),rfl,rfl⟩ S.E
 ·refine S.I fun u=>?_
  have hX:=@xch.eq_def;repeat' (first|refine S.x ?_|refine S.y ?_ ?_|intro hb|fail)
  all_goals first
   |exact Tr.fin hK ⟨false,(fun h=>by cases h),rfl,rfl⟩ S.E
   |(exfalso;omega)
end
end
theorem xKu {x y f:Int} (hf:1≤f): (x+y+(f-1))/f≤(x+(f-1))/f+(y+(f-1))/f:=by
 have h1:x<((x+(f-1))/f)*f+1:=by
  have:=Int.lt_ediv_add_one_mul_self (x+(f-1)) (show 0<f by omega)
  have e: ((x+(f-1))/f+1)*f=((x+(f-1))/f)*f+f:=by rw[Int.add_mul,Int.one_mul]
  omega
 have h2:y<((y+(f-1))/f)*f+1:=by
  have:=Int.lt_ediv_add_one_mul_self (y+(f-1)) (show 0<f by omega)
  have e: ((y+(f-1))/f+1)*f=((y+(f-1))/f)*f+f:=by rw[Int.add_mul,Int.one_mul]
  omega
 refine Int.le_of_lt_add_one (Int.ediv_lt_of_lt_mul S.o ?_)
 have e: ((x+(f-1))/f+(y+(f-1))/f+1)*f=((x+(f-1))/f)*f+((y+(f-1))/f)*f+f:=by rw[Int.add_mul,Int.add_mul,Int.one_mul]
 rw[e]
 omega
theorem xFl {a d b f:Int} (hf:1≤f) (hb:0≤b) (h:a≤d):mdV a b f true≤mdV d b f true:=by
 unfold mdV
 refine Int.ediv_le_ediv S.o ?_
 have:=Int.mul_le_mul_of_nonneg_right h hb
 omega
theorem xLV {a d b f:Int} (hf:1≤f):mdV (a+d) b f true≤mdV a b f true+mdV d b f true:=by
 unfold mdV
 rw[if_pos rfl,Int.add_mul]
 exact xKu hf
theorem xMH {a b f:Int} (hf:1≤f) (ha:0≤a) (hb:0≤b):0≤mdV a b f true:=by
 unfold mdV
 rw[if_pos rfl]
 have:=Int.mul_nonneg ha hb
 exact Int.ediv_nonneg S.o S.o
section
variable {ls:List xBH} {n a d bud q cyc:Int}
theorem xHy (h: (xBI ls n).2=0):∃w f:Int,0≤w∧1≤f∧0≤n∧(∀m,0≤m→xBI ls m=if 9223372036854775807<mdV m w f true then(0,6)else(mdV m w f true,0))∧(xBI ls n).1=mdV n w f true∧mdV n w f true≤9223372036854775807:=by
 have h0:=h
 unfold xBI at h
 split at h
 ·exact absurd h (by decide)
 ·rename_i h1
  simp only[not_or]at h1
  split at h
  ·rename_i h2
   obtain⟨w,hw⟩:∃w,w=(xBU 1000 (xBK ls).power 1 false).1:=⟨_,rfl⟩
   have hw0:0≤w:=by
    rw[hw]
    unfold xBU
    split
    ·exact(by decide: (0:Int)≤0)
    ·split
     ·exact(by decide: (0:Int)≤0)
     ·show 0≤mdV _ _ _ _
      unfold mdV
      have:0≤1000*(xBK ls).power:=by omega
      rw[if_neg (by decide),Int.ediv_one]
      omega
   have hall:∀m,0≤m→xBI ls m=if 9223372036854775807<mdV m w (xBK ls).freq true then(0,6)else(mdV m w (xBK ls).freq true,0):=fun m hm=>by
    unfold xBI
    rw[if_neg S.o,if_pos h2,←hw]
    show xBU m w (xBK ls).freq true=_
    unfold xBU
    rw[if_neg S.o]
   refine⟨w,(xBK ls).freq,hw0,by omega,by omega,hall,?_,?_⟩
   ·have e:=hall n S.o
    rw[e]at h0⊢
    split at h0
    ·exact absurd h0 (by decide)
    ·rename_i h3
     rw[if_neg h3]
   ·have e:=hall n S.o
    rw[e]at h0
    split at h0
    ·exact absurd h0 (by decide)
    ·omega
  ·rename_i h2
   exact absurd h h2
theorem xNI {a b c:Int} {up:Bool}:0≤(xBU a b c up).1:=by
 unfold xBU
 split
 ·exact(by decide: (0:Int)≤0)
 ·rename_i h
  split
  ·exact(by decide: (0:Int)≤0)
  ·show 0≤mdV a b c up
   unfold mdV
   have:=Int.mul_nonneg (show 0≤a by omega) (show 0≤b by omega)
   refine Int.ediv_nonneg ?_ S.o
   split<;>omega
theorem xHD:0≤(xBI ls n).1:=by
 unfold xBI
 split
 ·exact(by decide: (0:Int)≤0)
 ·split
  ·exact xNI
  ·exact(by decide: (0:Int)≤0)
theorem xIw (h: (xBI ls d).2=0) (h0:0≤a) (h1:a≤d): (xBI ls a).2=0∧(xBI ls a).1≤(xBI ls d).1:=by
 obtain⟨w,f,hw,hf,hn,hall,e,hm⟩:=xHy h
 have:=xFl (b:=w) hf hw h1
 rw[e,hall a h0,if_neg S.o]
 exact⟨rfl,this⟩
theorem xKg (h: (xBI ls (a+d)).2=0) (h0:0≤a) (h1:0≤d): (xBI ls (a+d)).1≤(xBI ls a).1+(xBI ls d).1:=by
 obtain⟨w,f,hw,hf,hn,hall,e,hm⟩:=xHy h
 have m1:=xFl (b:=w) hf hw (show a≤a+d by omega)
 have m2:=xFl (b:=w) hf hw (show d≤a+d by omega)
 rw[e,hall a h0,if_neg S.o,hall d h1,if_neg S.o]
 exact xLV hf
theorem xK7 {b c:Int}: (xBU 0 b c true).1=0:=by
 unfold xBU
 split
 ·rfl
 ·rename_i h
  split
  ·rfl
  ·show mdV 0 b c true=0
   unfold mdV
   rw[if_pos rfl,Int.zero_mul,Int.zero_add]
   exact Int.ediv_eq_zero_of_lt S.o S.o
theorem xH9: (xBI ls 0).1=0:=by
 unfold xBI
 split
 ·rfl
 ·split
  ·exact xK7
  ·rfl
end
section
theorem xJh {x c:Int} (_hx:0≤x) (hc:1≤c): (x+(c-1))/c=x/c+(if 0<x%c then 1 else 0):=by
 have h1:=Int.emod_nonneg x (show c≠0 by omega)
 have h2:=Int.emod_lt_of_pos x (show 0<c by omega)
 have h3:=Int.mul_ediv_add_emod x c
 by_cases h:0<x%c
 ·rw[if_pos h]
  have e:x+(c-1)=(x%c-1)+c*(x/c+1):=by rw[Int.mul_add,Int.mul_one];omega
  rw[e,Int.add_mul_ediv_left _ _ S.o,Int.ediv_eq_zero_of_lt S.o S.o]
  omega
 ·rw[if_neg h]
  have e:x+(c-1)=(c-1)+c*(x/c):=by omega
  rw[e,Int.add_mul_ediv_left _ _ S.o,Int.ediv_eq_zero_of_lt S.o S.o]
  omega
structure xDW (ls:List xBH):Prop where
 f1:1≤(xBK ls).freq
 f9: (xBK ls).freq≤10000
 p0:0≤(xBK ls).power
 p9: (xBK ls).power≤1000000
theorem xDW.t {ls:List xBH} (h:xDW ls):okT ls:=⟨by have:=h.f9;omega,by have:=h.p9;omega⟩
theorem xDO {ls:List xBH} {n:Int} (h:xDW ls) (h0:0≤n) (h1:n≤1000000000):xBI ls n=(mdV n (1000*(xBK ls).power) (xBK ls).freq true,0)∧mdV n (1000*(xBK ls).power) (xBK ls).freq true≤1000000000000000000:=by
 obtain⟨f1,f9,p0,p9⟩:=h
 have e1:xBU 1000 (xBK ls).power 1 false=(1000*(xBK ls).power,0):=by
  have e:mdV 1000 (xBK ls).power 1 false=1000*(xBK ls).power:=by unfold mdV;rw[if_neg (by decide),Int.ediv_one];omega
  unfold xBU
  rw[if_neg S.o,e,if_neg S.o]
 have hm:mdV n (1000*(xBK ls).power) (xBK ls).freq true≤1000000000000000000:=by
  unfold mdV
  rw[if_pos rfl]
  have a1:n*(1000*(xBK ls).power)≤1000000000*(1000*(xBK ls).power):=Int.mul_le_mul_of_nonneg_right h1 S.o
  refine Int.le_of_lt_add_one (Int.ediv_lt_of_lt_mul S.o ?_)
  have a2: (1000000000000000000:Int)*(xBK ls).freq≤(1000000000000000000+1)*(xBK ls).freq-(xBK ls).freq:=by omega
  omega
 refine⟨?_,hm⟩
 unfold xBI
 rw[if_neg S.o,e1]
 simp only
 rw[if_pos trivial]
 unfold xBU
 rw[if_neg S.o,if_neg S.o]
theorem xF6:∀(l:List xBH) (a:xBH) (i:Int),0≤i→(0≤a.freq∧a.freq≤10000)→¬0≤xs2 xB5 a l i→∀x∈l,1≤x.freq∧x.freq≤10000∧0≤x.power∧x.power≤1000000
 |[],_,_,_,_,_,x,hx=>by cases hx
 | y::ys,a,i,h0,ha,hn,x,hx=>by
  unfold xs2 at hn
  cases hy:xB5 y a with
  |false=>
   rw[hy]at hn
   simp only[Bool.false_eq_true,if_false]at hn
   exact absurd h0 hn
  | true=>
   rw[hy]at hn
   simp only[if_true]at hn
   have hy2:=hy
   unfold xB5 at hy2
   simp only[Bool.and_eq_true]at hy2
   have a1:=xB6 hy2.1
   have a2:=xB6 hy2.2.1
   have haf:1≤y.freq:=by
    have:=Ye (n:=a.freq+1) S.o S.o
    omega
   rcases List.mem_cons.1 hx with rfl|hx
   ·exact⟨haf,a1.2,a2.1,a2.2⟩
   ·exact xF6 ys y (i+1) S.o ⟨by omega,a1.2⟩ hn x hx
theorem xFj {c:xBG} (h:xDc c):xDW c.levels.d∧1≤c.quantum∧c.quantum≤1000000000:=by
 have hp:=h.pw
 unfold xCd at hp
 obtain⟨h1,hp⟩:=xCy (fun _=>by decide) hp
 obtain⟨h2,hp⟩:=xCy (fun _=>show(27:Int)≠0 by decide) hp
 obtain⟨h3,_⟩:=xCy (fun _=>show(27:Int)≠0 by decide) hp
 simp only[Bool.not_eq_false]at h1 h3
 have hl:=xB6 h1
 have hne:¬c.levels.d.length=0:=by omega
 have hm:xBK c.levels.d∈c.levels.d:=by
  unfold xBK
  rw[if_neg hne]
  exact List.mem_of_getElem? (Yi S.o S.o)
 obtain⟨q1,q2,q3,q4⟩:=xF6 _ default 0 (Int.le_refl _) ⟨by decide,by decide⟩ h2 _ hm
 unfold xFE at h3
 simp only[Bool.and_eq_true]at h3
 have hqu:=xB6 h3.2.2.2.2.1
 exact⟨⟨q1,q2,q3,q4⟩,hqu⟩
attribute [local irreducible] xs2 inB xB0 xB9 xBI xB3
section
variable {a b c:Int} {ls:List xBH} {u0:Value} {p:xDC}
theorem xGR (ha:0≤a) (hb:0≤b) (hc:1≤c) (hc9:c≤1000000000) (hm:a*b≤1000000000000000000) (up:Bool):Xb prog 30 #[.int .i64 a,.int .i64 b,.int .i64 c,.bool up] [] fun v l'=>v=.tuple #[.int .i64 (mdV a b c up),.int .i64 0]∧l'=[]:=by
 intro F K hK
 simp only[List.nil_append]at hK⊢
 have hab:0≤a*b:=Int.mul_nonneg ha hb
 have hw1:IntKind.i64.wrap (a*b)=a*b:=Ye S.o S.o
 have hq0:0≤a*b/c:=Int.ediv_nonneg hab S.o
 have hq9:a*b/c≤a*b:=Int.ediv_le_self _ hab
 have hq1: (a*b).tdiv c=a*b/c:=Int.tdiv_eq_ediv_of_nonneg hab
 have hr1: (a*b).tmod c=a*b%c:=Int.tmod_eq_emod_of_nonneg hab
 have hr0:=Int.emod_nonneg (a*b) (show c≠0 by omega)
 have hr9:=Int.emod_lt_of_pos (a*b) (show 0<c by omega)
 have hw2:IntKind.i64.wrap (a*b/c)=a*b/c:=Ye S.o S.o
 have hw3:IntKind.i64.wrap (a*b/c+1)=a*b/c+1:=Ye S.o S.o
 have hw4:IntKind.i64.wrap (a*b%c)=a*b%c:=Ye S.o S.o
 have hmd:mdV a b c up=a*b/c+(if up=true then(if 0<a*b%c then 1 else 0)else 0):=by
  unfold mdV
  cases up with
  |true=>rw[if_pos rfl,if_pos rfl];exact xJh hab hc
  |false=>rw[if_neg (by decide),if_neg (by decide),Int.add_zero,Int.add_zero]
 rw[hmd]at hK
 generalize hx:a*b=x at*
 generalize hz:x/c=z at*
 generalize hy:x%c=y at*
 clear hmd
 obtain⟨gg,hg1,hg2⟩:∃gg:Int,(¬a=0→IntKind.i64.wrap ((9223372036854775807:Int).tdiv a)=gg)∧(¬a=0→b≤gg):=by
  refine⟨9223372036854775807/a,fun h=>?_,fun h=>Int.le_ediv_of_mul_le S.o (by rw[Int.mul_comm];omega)⟩
  rw[Int.tdiv_eq_ediv_of_nonneg (by decide)]
  have:=Int.ediv_nonneg (show(0:Int)≤9223372036854775807 by decide) ha
  have:=Int.ediv_le_self a (show(0:Int)≤9223372036854775807 by decide)
  exact Ye S.o S.o
 have hcase: (a=0∨¬a=0)∧(0<y∨¬0<y):=⟨Decidable.em _,Decidable.em _⟩
 obtain⟨h0,hy0⟩:=hcase
 cases up with
 | true=>
  rw[if_pos rfl]at hK
  rcases hy0 with hy0|hy0
  ·rw[if_pos hy0]at hK
   rcases h0 with h0|h0
   ·refine S.I fun u=>?_
    have hX:=I9 hx hw1 hq1 hz hr1 hy hw2 hw3 hw4;repeat' (first|refine S.x ?_|fail)
    all_goals exact S.L
   ·have hg3:=hg1 h0
    have hg4:=hg2 h0
    clear hg1 hg2
    refine S.I fun u=>?_
    have hX:=I9 hx hw1 hq1 hz hr1 hy hw2 hw3 (And.intro hw4 hg3);repeat' (first|refine S.x ?_|fail)
    all_goals exact S.L
  ·rw[if_neg hy0,Int.add_zero]at hK
   rcases h0 with h0|h0
   ·refine S.I fun u=>?_
    have hX:=I9 hx hw1 hq1 hz hr1 hy hw2 hw3 hw4;repeat' (first|refine S.x ?_|fail)
    all_goals exact S.L
   ·have hg3:=hg1 h0
    have hg4:=hg2 h0
    clear hg1 hg2
    refine S.I fun u=>?_
    have hX:=I9 hx hw1 hq1 hz hr1 hy hw2 hw3 (And.intro hw4 hg3);repeat' (first|refine S.x ?_|fail)
    all_goals exact S.L
 | false=>
  rw[if_neg (by decide),Int.add_zero]at hK
  rcases h0 with h0|h0
  ·refine S.I fun u=>?_
   have hX:=I9 hx hw1 hq1 hz hr1 hy hw2 hw3 hw4;repeat' (first|refine S.x ?_|fail)
   all_goals exact S.L
  ·have hg3:=hg1 h0
   have hg4:=hg2 h0
   clear hg1 hg2
   refine S.I fun u=>?_
   have hX:=I9 hx hw1 hq1 hz hr1 hy hw2 hw3 (And.intro hw4 hg3);repeat' (first|refine S.x ?_|fail)
   all_goals exact S.L
theorem xH3 [hd:DeA u0 p] (hl:ls.length≤1000000000):Xb prog 29 #[u0] [sl true p.levels.v ls]
  fun v l'=>v=.agg #[.int .i64 (xBK ls).freq,.int .i64 (xBK ls).power]∧l'=[]:=by
 obtain rfl:=hd.h
 intro F K hK
 simp only[ap]
 obtain⟨p1,p2,p3,p4,p5,p6,p7,p8⟩:=p
 by_cases h0:ls.length=0
 ·rw[show xBK ls=⟨0,0⟩from if_pos h0]at hK
  refine S.I fun u=>?_
  repeat' (first|refine S.x ?_|intro hb|fail)
  all_goals exact Tr.fin hK ⟨rfl,rfl⟩ S.E
 ·rw[show xBK ls=ix ls ((ls.length-1:Nat):Int)from if_neg h0]at hK
  have hw:IntKind.i64.wrap ((ls.length:Int)-1)=((ls.length-1:Nat):Int):=by rw[Ye S.o S.o];omega
  refine S.I fun u=>?_
  have hX:=hw;repeat' (first|refine S.x ?_|intro hb|fail)
  all_goals exact Tr.fin hK ⟨rfl,rfl⟩ S.E
theorem xKc [hd:DeA u0 p] {n:Int} (hl:ls.length≤1000000000) (ht:xDW ls) (h0:0≤n) (h9:n≤1000000000):Xb prog 9 #[u0,.int .i64 n] [sl true p.levels.v ls]
  fun v l'=>v=.tuple #[.int .i64 (xBI ls n).1,.int .i64 0]∧l'=[]:=by
 intro F K hK
 simp only[ap]
 obtain⟨e1,e2⟩:=xDO ht h0 h9
 obtain⟨f1,f9,p0,p9⟩:=ht
 have hto:=xH3 (u0:=u0) (p:=p) hl
 have hm1:=xGR (a:=1000) (b:=(xBK ls).power) (c:=1) (by decide) p0 (by decide) (by decide) S.o false
 rw[show mdV 1000 (xBK ls).power 1 false=1000*(xBK ls).power by unfold mdV;rw[if_neg (by decide),Int.ediv_one];omega]at hm1
 have hmul:n*(1000*(xBK ls).power)≤1000000000000000000:=by
  have a1:n*(1000*(xBK ls).power)≤1000000000*(1000*(xBK ls).power):=Int.mul_le_mul_of_nonneg_right h9 S.o
  omega
 have hm2:=xGR (a:=n) (b:=1000*(xBK ls).power) (c:=(xBK ls).freq) h0 S.o f1 S.o hmul true
 rw[e1]at hK
 simp only at hK
 obtain⟨w,hw⟩:∃w,w=1000*(xBK ls).power:=⟨_,rfl⟩
 rw[←hw]at hm1 hm2 hK
 obtain rfl:=hd.h
 obtain⟨p1,p2,p3,p4,p5,p6,p7,p8⟩:=p
 clear e1 e2 hmul hw
 refine S.I fun u=>?_
 repeat' (first|rintro _ _ ⟨rfl,rfl⟩|(refine G.call 29 ?_;refine S.c ?_ (h:=hto))|(refine G.call 30 ?_;refine S.c ?_ (h:=hm1))|(refine G.call 30 ?_;refine S.c ?_ (h:=hm2))|refine S.x ?_|intro hb|fail)
 all_goals exact Tr.fin hK ⟨rfl,rfl⟩ S.E
