import Derived.Test.YtmebccjndhlpoaaGreatZ09
namespace Go.Proofs.YtmebccjndhlpoaaGreat
open Go Go.Wk Tryz
set_option maxHeartbeats 3200000
set_option maxRecDepth 100000
theorem xEj {α:Type} {p:α→Bool} {a:α}:∀{l:List α} {i:Int},0≤i→decide (0≤xs2 (fun x _=>!p x) a l i)=l.any p
 |[],_,_=>rfl
 |x::xs,i,h=>by
  unfold xs2
  cases hp:p x with
  |false=>rw[Bool.not_false,if_pos rfl,xEj S.o,List.any_cons,hp,Bool.false_or]
  |true=>rw[Bool.not_true,if_neg (by decide),List.any_cons,hp,Bool.true_or];exact decide_eq_true h
instance xNm:ElT 22 YF:=⟨⟩
theorem xKC {x y:Operand} {a b c d:Int} {K:Value→WP}:XO prog .eql 114 x y (.agg #[.int .i64 a,.int .i64 b]) (.agg #[.int .i64 c,.int .i64 d]) K=K (.bool (decide ([a,b]=[c,d]))):=xIN (xs:=[a,b]) (ys:=[c,d]) rfl rfl
theorem xC5 {x:xBJ}:List.take 2 (List.drop 2 (En.enc x))=[.int .i64 x.tp,.int .i64 x.to]:=rfl
theorem xC3 {x:xBJ}:List.take 2 (List.drop 0 (En.enc x))=[.int .i64 x.fp,.int .i64 x.fo]:=rfl
theorem xC7 {x:xBJ}:List.take 2 (En.enc x)=[.int .i64 x.fp,.int .i64 x.fo]:=rfl
def xCi (c:xBG) (p o:Int):Zd:=ix (ix c.parts.d p).ports.d o
def xB4 (c:xBG) (p o:Int):Bool:=inB p 0 (IntKind.i64.wrap ((c.parts.d.length:Int)-1))&&inB o 0 (IntKind.i64.wrap (((ix c.parts.d p).ports.d.length:Int)-1))
def xCr (x:xBJ) (q:Bool) (y:xBJ):Bool:=decide ([y.tp,y.to]=[x.tp,x.to])||(q&&decide ([y.fp,y.fo]=[x.fp,x.fo]))
def xCW (c:xBG) (k:Int):Bool:=
 if inB k 0 (IntKind.i64.wrap ((c.chans.d.length:Int)-1))=false then false
 else if xB4 c (ix c.chans.d k).fp (ix c.chans.d k).fo=true∧xB4 c (ix c.chans.d k).tp (ix c.chans.d k).to=true then
  let a:=xCi c (ix c.chans.d k).fp (ix c.chans.d k).fo
  let b:=xCi c (ix c.chans.d k).tp (ix c.chans.d k).to
  if(ix c.chans.d k).fp=(ix c.chans.d k).tp∨a.i=true∨b.i=false∨(a.q==b.q)=false∨b.size<a.size then false
  else !((c.chans.d.take k.toNat).any (xCr (ix c.chans.d k) a.q))
 else false
theorem xB6 {n a b:Int} (h:inB n a b=true):a≤n∧n≤b:=by
 unfold inB at h
 rw[Bool.and_eq_true]at h
 exact⟨of_decide_eq_true h.1,of_decide_eq_true h.2⟩
structure shC (x:xBG):Prop where
 p:x.parts.d.length≤1000000000
 c:x.chans.d.length≤1000000000
 m:x.modes.d.length≤1000000000
 l:x.levels.d.length≤1000000000
 n:x.naps.d.length≤1000000000
 d:x.down.d.length≤1000000000
 u:x.up.d.length≤1000000000
 ps:∀p∈x.parts.d,shP p
 ms:∀m∈x.modes.d,m.wins.d.length≤1000000000
section
attribute [local irreducible] BrK Xq Xt Xv XI FnK XZ Xw XC XV opX opK Yq Yk eqR Yj Yo Ys WL WD W X3 XO Tr drewK Ya X4 Yw Yv X1 YB mp blk rob sl sep ex fact old
section
attribute [local irreducible] xs2 inB xB0
theorem xK0 {p:xBJ→Bool} {g:Nat} {cap:List Value} {Z:Xc} {ro:Bool} {s:SV} {l:List xBJ} [hg:xqo prog g] (hl:l.length≤1000000000) (hf:∀x:xBJ,x∈l→Xb prog g (.agg (En.enc x).toArray::cap).toArray [Z] fun v l'=>v=.bool (p x)∧l'=[Z]):
  Xb prog 209 #[s.v,.func (.func g) #[] cap.toArray] [sl ro s.v l,Z] fun v l'=>v=.int .i64 (xs2 (fun x _=>!p x) default l 0)∧l'=[sl ro s.v l,Z]:=by
 intro F K hK
 simp only[ap]
 refine S.I fun u=>?_
 repeat' (first|refine S.x ?_|fail)
 refine Tr.loopE (α:=Nat) [4,8] [0,1,7] (fun x=>[.int .i64 0,.int .i64 x]) (fun x=>[sl ro s.v l,Z]) (fun x=>x≤l.length∧xs2 (fun x _=>!p x) default l 0=xs2 (fun x _=>!p x) (ahd l x) (l.drop x) x) (fun x=>l.length-x) 0 S.T rfl ⟨Nat.zero_le _,rfl⟩ fun k u hk=>?_
 obtain⟨hk,hm⟩:=hk
 simp only[ap]
 by_cases hin:k<l.length
 ·have hw:=Xo (k:=k) S.o
  have hfk:=hf (ix l (k:Int)) (xCa hin)
  rw[xB1 hin]at hm
  cases ha:p (ix l (k:Int))with
  |false=>
   rw[ha,Bool.not_false,if_pos rfl]at hm
   have hX:=And.intro hw ha;repeat' (first|rintro _ _ ⟨rfl,rfl⟩|(refine G.call g ?_;refine S.c ?_ (h:=hfk))|refine S.x ?_|intro hb|fail)
   all_goals exact S.R (k+1)
  |true=>
   rw[ha,Bool.not_true,if_neg (by decide)]at hm
   rw[hm]at hK
   clear hm
   have hX:=ha;repeat' (first|rintro _ _ ⟨rfl,rfl⟩|(refine G.call g ?_;refine S.c ?_ (h:=hfk))|refine S.x ?_|intro hb|fail)
   all_goals exact Tr.fin hK ⟨rfl,rfl⟩ S.E
 ·have hke:k=l.length:=by omega
  subst hke
  rw[List.drop_length]at hm
  rw[hm]at hK
  unfold xs2 at hK
  clear hm
  repeat' (first|refine S.x ?_|fail)
  all_goals exact Tr.fin hK ⟨rfl,rfl⟩ S.E
theorem xLx {p:xBJ→Bool} {g:Nat} {cap:List Value} {Z:Xc} {ro:Bool} {s:SV} {l:List xBJ} [hg:xqo prog g] (hl:l.length≤1000000000) (hf:∀x:xBJ,x∈l→Xb prog g (.agg (En.enc x).toArray::cap).toArray [Z] fun v l'=>v=.bool (p x)∧l'=[Z]):
  Xb prog 159 #[s.v,.func (.func g) #[] cap.toArray] [sl ro s.v l,Z] fun v l'=>v=.bool (l.any p)∧l'=[sl ro s.v l,Z]:=by
 intro F K hK
 simp only[ap]
 rw[←xEj (p:=p) (a:=default) (l:=l) (i:=0) (Int.le_refl 0)]at hK
 have hi:=xK0 (ro:=ro) (s:=s) hl hf
 refine S.I fun u=>?_
 repeat' (first|rintro _ _ ⟨rfl,rfl⟩|(refine G.call 209 ?_;refine S.c ?_ (h:=hi))|refine S.x ?_|fail)
 all_goals exact Tr.fin hK ⟨rfl,rfl⟩ S.E
section
variable {c:xBG}
theorem xGF (hs:shC c) {p o:Int}:Xb prog 158 #[.agg (En.enc c).toArray,.agg #[.int .i64 p,.int .i64 o]] [sl true c.parts.s.v c.parts.d,fzl c.parts.d]
  fun v l'=>v=.tuple #[.agg (En.enc (if xB4 c p o=true then xCi c p o else default)).toArray,.bool (xB4 c p o)]∧l'=[]:=by
 intro F K hK
 simp only[ap]
 by_cases h1:inB p 0 (IntKind.i64.wrap ((c.parts.d.length:Int)-1))=true
 ·have hp:=xB6 h1
  have hwl:=hs.p
  have hw:IntKind.i64.wrap ((c.parts.d.length:Int)-1)=(c.parts.d.length:Int)-1:=Ye S.o S.o
  rw[hw]at hp
  obtain⟨hp0,hp1⟩:=hp
  have hso:=(hs.ps _ (List.mem_of_getElem? (Yi hp0 S.o))).o
  by_cases h2:inB o 0 (IntKind.i64.wrap (((ix c.parts.d p).ports.d.length:Int)-1))=true
  ·have ho:=xB6 h2
   have hw2:IntKind.i64.wrap (((ix c.parts.d p).ports.d.length:Int)-1)=((ix c.parts.d p).ports.d.length:Int)-1:=Ye S.o S.o
   rw[hw2]at ho
   obtain⟨ho0,ho1⟩:=ho
   have hpi:xB4 c p o=true:=by unfold xB4;rw[h1,h2];rfl
   rw[if_pos hpi,hpi]at hK
   unfold xCi at hK
   clear hw hw2 hpi
   refine S.I fun u=>?_
   have hX:=I3 @xH2.eq_def h1 h2;repeat' (first|refine S.x ?_|(refine G.call 60 ?_;refine S.c ?_ (h:=xCb))|rintro _ _ ⟨rfl,rfl⟩|intro hb|fail)
   all_goals exact Tr.fin hK ⟨rfl,rfl⟩ S.E
  ·have h2':inB o 0 (IntKind.i64.wrap (((ix c.parts.d p).ports.d.length:Int)-1))=false:=by simpa using h2
   have hpi:xB4 c p o=false:=by unfold xB4;rw[h1,h2'];rfl
   rw[hpi,if_neg (by decide)]at hK
   clear hw hpi h2
   refine S.I fun u=>?_
   have hX:=I3 @xH2.eq_def h1 @h2';repeat' (first|refine S.x ?_|(refine G.call 60 ?_;refine S.c ?_ (h:=xCb))|rintro _ _ ⟨rfl,rfl⟩|intro hb|fail)
   all_goals exact Tr.fin hK ⟨rfl,rfl⟩ S.E
 ·have h1':inB p 0 (IntKind.i64.wrap ((c.parts.d.length:Int)-1))=false:=by simpa using h1
  have hpi:xB4 c p o=false:=by unfold xB4;rw[h1'];rfl
  rw[hpi,if_neg (by decide)]at hK
  clear hpi h1
  refine S.I fun u=>?_
  have hX:=And.intro @xH2.eq_def @h1';repeat' (first|refine S.x ?_|(refine G.call 60 ?_;refine S.c ?_ (h:=xCb))|rintro _ _ ⟨rfl,rfl⟩|intro hb|fail)
  all_goals exact Tr.fin hK ⟨rfl,rfl⟩ S.E
theorem xIW {x y:xBJ} {a:Zd} {b1 b2:Nat}:Xb prog 160 (.agg (En.enc y).toArray::[.pointer (some ⟨b1,0,none⟩),.pointer (some ⟨b2,0,none⟩)]).toArray [blk b1 (.cells (En.enc x).toArray 116 (0,0)),blk b2 (.cells (En.enc a).toArray 199 (0,0))]
  fun v l'=>v=.bool (xCr x a.q y)∧l'=[blk b1 (.cells (En.enc x).toArray 116 (0,0)),blk b2 (.cells (En.enc a).toArray 199 (0,0))]:=by
 intro F K hK
 simp only[ap]
 unfold xCr at hK
 obtain⟨x1,x2,x3,x4⟩:=x
 obtain⟨y1,y2,y3,y4⟩:=y
 obtain⟨a1,a2,a3,a4⟩:=a
 simp only at hK
 generalize hd1:decide ([y3,y4]=[x3,x4])=d1 at hK
 generalize hd2:decide ([y1,y2]=[x1,x2])=d2 at hK
 refine S.I fun u=>?_
 have hX:=I6 @xC3 @xC7 @xC5 @xKC hd1 hd2;repeat' (first|refine S.x ?_|refine S.y ?_ ?_|intro hb|fail)
 all_goals exact Tr.fin hK ⟨S.v,rfl⟩ S.E
end
section
variable {c:xBG} {k:Int}
theorem xGL (hs:shC c):Xb prog 109 #[.agg (En.enc c).toArray,.int .i64 k] [sl true c.parts.s.v c.parts.d,fzl c.parts.d,sl true c.chans.s.v c.chans.d]
  fun v l'=>v=.bool (xCW c k)∧l'=[]:=by
 intro F K hK
 simp only[ap]
 have hcl:=hs.c
 by_cases h1:inB k 0 (IntKind.i64.wrap ((c.chans.d.length:Int)-1))=true
 ·have hk:=xB6 h1
  have hw:IntKind.i64.wrap ((c.chans.d.length:Int)-1)=(c.chans.d.length:Int)-1:=Ye S.o S.o
  rw[hw]at hk
  obtain⟨hk0,hk1⟩:=hk
  obtain⟨x,hx⟩:∃x,x=ix c.chans.d k:=⟨_,rfl⟩
  have hM:xCW c k=if xB4 c x.fp x.fo=true∧xB4 c x.tp x.to=true then(if x.fp=x.tp∨(xCi c x.fp x.fo).i=true∨(xCi c x.tp x.to).i=false∨((xCi c x.fp x.fo).q==(xCi c x.tp x.to).q)=false∨(xCi c x.tp x.to).size<(xCi c x.fp x.fo).size then false else !((c.chans.d.take k.toNat).any (xCr x (xCi c x.fp x.fo).q)))else false:=by
   unfold xCW
   rw[h1,if_neg (by decide),←hx]
  rw[hM]at hK
  have hf1:=xGF hs (p:=x.fp) (o:=x.fo)
  have hf2:=xGF hs (p:=x.tp) (o:=x.to)
  have hcon:=fun(a:Zd) b1 b2 s=>Xb.unz (xLx (ro:=true) (s:=s) (l:=c.chans.d.take k.toNat) (p:=xCr x a.q) (g:=160) (cap:=[.pointer (some ⟨b1,0,none⟩),.pointer (some ⟨b2,0,none⟩)]) (by rw[List.length_take];omega) fun y _=>Xb.zs (xIW (x:=x) (y:=y) (a:=a) (b1:=b1) (b2:=b2)))
  have hx2:=hx.symm
  clear hM hx hw
  cases hi1:xB4 c x.fp x.fo with
  |false=>
   rw[hi1,if_neg (fun h=>by cases h.1)]at hK
   rw[hi1,if_neg (by decide)]at hf1
   generalize xB4 c x.tp x.to=i2 at*
   refine S.I fun u=>?_
   have hX:=I5 h1 hx2 @xC3 @xC7 @xC5;repeat' (first|rintro _ _ ⟨rfl,rfl⟩|(refine G.call 158 ?_;first|refine S.c ?_ (h:=hf1)|refine S.c ?_ (h:=hf2))|refine S.x ?_|(refine G.call 60 ?_;refine S.c ?_ (h:=xCb))|intro hb|fail)
   all_goals exact Tr.fin hK ⟨rfl,rfl⟩ S.E
  | true=>
   rw[hi1,if_pos rfl]at hf1
   cases hi2:xB4 c x.tp x.to with
   |false=>
    rw[hi2,if_neg (fun h=>by cases h.2)]at hK
    rw[hi2,if_neg (by decide)]at hf2
    refine S.I fun u=>?_
    have hX:=I5 h1 hx2 @xC3 @xC7 @xC5;repeat' (first|rintro _ _ ⟨rfl,rfl⟩|(refine G.call 158 ?_;first|refine S.c ?_ (h:=hf1)|refine S.c ?_ (h:=hf2))|refine S.x ?_|(refine G.call 60 ?_;refine S.c ?_ (h:=xCb))|intro hb|fail)
    all_goals exact Tr.fin hK ⟨rfl,rfl⟩ S.E
   |true=>
    rw[hi1,hi2,if_pos ⟨rfl,rfl⟩]at hK
    rw[hi2,if_pos rfl]at hf2
    have hcon:=hcon (xCi c x.fp x.fo)
    generalize xCi c x.fp x.fo=a at*
    generalize xCi c x.tp x.to=b at*
    generalize(c.chans.d.take k.toNat).any (xCr x a.q)=r at*
    refine S.I fun u=>?_
    have hX:=I5 h1 hx2 @xC3 @xC7 @xC5;repeat' (first|rintro _ _ ⟨rfl,rfl⟩|(refine G.call 158 ?_;first|refine S.c ?_ (h:=hf1)|refine S.c ?_ (h:=hf2))|(refine G.call 159 ?_;refine S.c ?_ (h:=hcon _ _ _))|refine S.x ?_|refine S.y ?_ ?_|(refine G.call 60 ?_;refine S.c ?_ (h:=xCb))|intro hb|fail)
    all_goals exact Tr.fin hK ⟨S.v,rfl⟩ S.E
 ·have h1':inB k 0 (IntKind.i64.wrap ((c.chans.d.length:Int)-1))=false:=by simpa using h1
  rw[show xCW c k=false by unfold xCW;rw[h1',if_pos rfl]]at hK
  clear h1
  refine S.I fun u=>?_
  have hX:=@h1';repeat' (first|refine S.x ?_|(refine G.call 60 ?_;refine S.c ?_ (h:=xCb))|rintro _ _ ⟨rfl,rfl⟩|intro hb|fail)
  all_goals exact Tr.fin hK ⟨rfl,rfl⟩ S.E
end
end
section
theorem xDq {α:Type} {may:α→α→Bool}:∀{l:List α} {a:α} {i:Int},0≤i→¬0≤xs2 may a l i→∀x∈l,∃b,may x b=true
 |[],_,_,_,_,x,hx=>by cases hx
 | y::ys,a,i,h0,h,x,hx=>by
  unfold xs2 at h
  by_cases hm:may y a=true
  ·rw[if_pos hm]at h
   rcases List.mem_cons.1 hx with rfl|hx
   ·exact⟨a,hm⟩
   ·exact xDq S.o h x hx
  ·rw[if_neg hm]at h;exact absurd h0 h
theorem xDR {ask:Int→Int}:∀{n k:Nat},(xB9 ask n k).1=0→∀j:Nat,k≤j→j<k+n→ask j=0
 |0,k,_,j,h1,h2=>by omega
 | n+1,k,h,j,h1,h2=>by
  unfold xB9 at h
  by_cases ha:ask k=0
  ·rw[if_pos ha]at h
   by_cases e:j=k
   ·rw[e];exact ha
   ·exact xDR h j S.o S.o
  ·rw[if_neg ha]at h;exact absurd h ha
def xCt (c:xBG) (m:xCz) (x a:xCA):Bool:=inB x.part 0 (IntKind.i64.wrap ((c.parts.d.length:Int)-1))&&(inB x.start (IntKind.i64.wrap (a.start+a.len)) m.frame&&inB x.len 1 (IntKind.i64.wrap (m.frame-x.start)))
def xCx (c:xBG) (x:xCA):Bool:=xEH c.levels.d c.sw (ix c.parts.d x.part).cap x.len
def xCF (c:xBG) (k:Int):Int:=
 if inB k 0 (IntKind.i64.wrap ((c.modes.d.length:Int)-1))=false then 26
 else if inB (ix c.modes.d k).frame 1 1000000000=false∨16<((ix c.modes.d k).wins.d.length:Int)∨0≤xs2 (xCt c (ix c.modes.d k)) default (ix c.modes.d k).wins.d 0 then 26
 else if 0≤xs2 (fun x _=>xCx c x) default (ix c.modes.d k).wins.d 0 then 29 else 0
def xDv (c:xBG):Int×Int:=if 16<(c.chans.d.length:Int)then(25,0)else xB9 (fun k=>if xCW c k=true then 0 else 25) c.chans.d.length 0
def xDw (c:xBG):Int×Int:=if inB c.modes.d.length 1 4=false then(26,0)else xB9 (xCF c) c.modes.d.length 0
def xBG.pow (c:xBG):xDC:=⟨c.levels.s,c.naps.s,c.sw,c.idle,c.change,c.quantum,c.slow,c.ppm⟩
def xEi (c:xBG):Int×Int:=xB9 (fun k=>xCw (ix c.parts.d k)) c.parts.d.length 0
def xB3 (c:xBG):Int×Int:=
 if inB c.parts.d.length 1 8=false then(20,0)
 else if¬(xEi c).1=0 then xEi c
 else if¬(xCd c.levels.d c.naps.d c.pow).1=0 then xCd c.levels.d c.naps.d c.pow
 else if¬(xDv c).1=0 then xDv c
 else if¬(xDw c).1=0 then xDw c
 else xDM c.down.d c.up.d
structure okF (c:xBG):Prop where
 t:okT c.levels.d
 c:∀p:Int,0≤p→p<c.parts.d.length→(ix c.parts.d p).cap≤9223372036854775807
theorem xKa {p:YF} (h:xCw p=0):xDY p=true:=by
 unfold xCw at h
 split at h
 ·cases h
 split at h
 ·cases h
 split at h
 ·cases h
 split at h
 ·cases h
 split at h
 ·cases h
 ·rename_i h5
  cases hr:xDY p with
  |true=>rfl
  |false=>exact absurd hr h5
theorem xM4 {c:xBG} (h1: (xEi c).1=0) (h2: (xCd c.levels.d c.naps.d c.pow).1=0):okF c:=by
 refine⟨?_,fun p h0 hp=>?_⟩
 ·unfold xCd at h2
  split at h2
  ·cases h2
  rename_i hn
  split at h2
  ·cases h2
  rename_i hf
  have hn2:inB (c.levels.d.length:Int) 1 6=true:=by simpa using hn
  have hl:=(xB6 hn2).1
  have hm:xBK c.levels.d∈c.levels.d:=by
   unfold xBK
   rw[if_neg S.o]
   exact xCa S.o
  obtain⟨b,hb⟩:=xDq (Int.le_refl 0) hf _ hm
  unfold xB5 at hb
  rw[Bool.and_eq_true,Bool.and_eq_true]at hb
  have e1:=(xB6 hb.1).2
  have e2:=(xB6 hb.2.1).2
  exact⟨by omega,by omega⟩
 ·have h:=xDR h1 p.toNat (Nat.zero_le _) S.o
  have e: ((p.toNat:Nat):Int)=p:=Int.toNat_of_nonneg h0
  simp only[e]at h
  have hr:=xKa h
  unfold xDY at hr
  rw[Bool.and_eq_true]at hr
  have:=(xB6 hr.1).2
  omega
attribute [local irreducible] xs2 inB xB0
section
variable {c:xBG} {k:Int}
theorem xID {m:xCz} {x a:xCA} {b1 b2:Nat}:Xb prog 161 (.agg (En.enc x).toArray::.agg (En.enc a).toArray::[.pointer (some ⟨b1,0,none⟩),.pointer (some ⟨b2,0,none⟩)]).toArray [blk b1 (.cells (En.enc c).toArray 33 (0,0)),blk b2 (.cells (En.enc m).toArray 107 (0,0)),sl true c.parts.s.v c.parts.d]
  fun v l'=>v=.bool (xCt c m x a)∧l'=[blk b1 (.cells (En.enc c).toArray 33 (0,0)),blk b2 (.cells (En.enc m).toArray 107 (0,0)),sl true c.parts.s.v c.parts.d]:=by
 intro F K hK
 simp only[ap]
 unfold xCt at hK
 obtain⟨x1,x2,x3⟩:=x
 obtain⟨a1,a2,a3⟩:=a
 simp only at hK
 refine S.I fun u=>?_
 repeat' (first|refine S.x ?_|refine S.y ?_ ?_|(refine G.call 60 ?_;refine S.c ?_ (h:=xCb))|rintro _ _ ⟨rfl,rfl⟩|intro hb|fail)
 all_goals exact Tr.fin hK ⟨S.v,rfl⟩ S.E
theorem xH6 {x a:xCA} {b1:Nat} (hs:shC c) (ho:okF c) (h0:0≤x.part) (h1:x.part<c.parts.d.length):Xb prog 163 (.agg (En.enc x).toArray::.agg (En.enc a).toArray::[.pointer (some ⟨b1,0,none⟩)]).toArray [blk b1 (.cells (En.enc c).toArray 33 (0,0)),sl true c.parts.s.v c.parts.d,sl true c.levels.s.v c.levels.d]
  fun v l'=>v=.bool (xCx c x)∧l'=[blk b1 (.cells (En.enc c).toArray 33 (0,0)),sl true c.parts.s.v c.parts.d,sl true c.levels.s.v c.levels.d]:=by
 intro F K hK
 simp only[ap]
 unfold xCx at hK
 have hf:Xb prog 164 #[.agg (En.enc c.pow).toArray,.int .i64 (ix c.parts.d x.part).cap,.int .i64 x.len] [sl true c.levels.s.v c.levels.d] (fun v l'=>v=.bool (xEH c.levels.d c.sw (ix c.parts.d x.part).cap x.len)∧l'=[]):=xIL (p:=c.pow) hs.l ho.t (ho.c x.part h0 h1)
 obtain⟨x1,x2,x3⟩:=x
 simp only at hK h0 h1 hf
 refine S.I fun u=>?_
 have hX:=@xL4.eq_def;repeat' (first|rintro _ _ ⟨rfl,rfl⟩|(refine G.call 164 ?_;refine S.c ?_ (h:=hf))|refine S.x ?_|intro hb|fail)
 all_goals exact Tr.fin hK ⟨rfl,rfl⟩ S.E
theorem xJF (hs:shC c) (ho:okF c):Xb prog 111 #[.agg (En.enc c).toArray,.int .i64 k] [sl true c.parts.s.v c.parts.d,sl true c.modes.s.v c.modes.d,fzl c.modes.d,sl true c.levels.s.v c.levels.d]
  fun v l'=>v=.int .i64 (xCF c k)∧l'=[]:=by
 intro F K hK
 simp only[ap]
 have hml:=hs.m
 by_cases h1:inB k 0 (IntKind.i64.wrap ((c.modes.d.length:Int)-1))=true
 ·have hk:=xB6 h1
  have hw:IntKind.i64.wrap ((c.modes.d.length:Int)-1)=(c.modes.d.length:Int)-1:=Ye S.o S.o
  rw[hw]at hk
  obtain⟨hk0,hk1⟩:=hk
  have hwl:=hs.ms _ (List.mem_of_getElem? (Yi hk0 S.o))
  have hM:xCF c k=if inB (ix c.modes.d k).frame 1 1000000000=false∨16<((ix c.modes.d k).wins.d.length:Int)∨0≤xs2 (xCt c (ix c.modes.d k)) default (ix c.modes.d k).wins.d 0 then 26 else if 0≤xs2 (fun x _=>xCx c x) default (ix c.modes.d k).wins.d 0 then 29 else 0:=by
   unfold xCF
   rw[h1,if_neg (by decide)]
  rw[hM]at hK
  have hf1:=fun b1 b2=>Xb.unz (xFv (ro:=true) (s:=(ix c.modes.d k).wins.s) (l:=(ix c.modes.d k).wins.d) (may:=xCt c (ix c.modes.d k)) (g:=161) (cap:=[.pointer (some ⟨b1,0,none⟩),.pointer (some ⟨b2,0,none⟩)]) hwl fun x a _=>Xb.zs (xID (c:=c) (m:=ix c.modes.d k) (x:=x) (a:=a) (b1:=b1) (b2:=b2)))
  clear hM hw
  by_cases hf:0≤xs2 (xCt c (ix c.modes.d k)) default (ix c.modes.d k).wins.d 0
  ·generalize xs2 (xCt c (ix c.modes.d k)) default (ix c.modes.d k).wins.d 0=i1 at*
   refine S.I fun u=>?_
   have hX:=h1;repeat' (first|rintro _ _ ⟨rfl,rfl⟩|(refine G.call 162 ?_;refine S.c ?_ (h:=hf1 _ _))|refine S.x ?_|refine S.y ?_ ?_|(refine G.call 60 ?_;refine S.c ?_ (h:=xCb))|intro hb|fail)
   all_goals exact Tr.fin hK ⟨S.v,rfl⟩ S.E
  ·have hin:∀x∈(ix c.modes.d k).wins.d,0≤x.part∧x.part<c.parts.d.length:=fun x hx=>by
    obtain⟨b,hb⟩:=xDq (Int.le_refl 0) hf x hx
    unfold xCt at hb
    rw[Bool.and_eq_true]at hb
    have h3:=xB6 hb.1
    have hpl:=hs.p
    rw[Ye S.o S.o]at h3
    omega
   have hf2:=fun b1=>Xb.unz (xFv (ro:=true) (s:=(ix c.modes.d k).wins.s) (l:=(ix c.modes.d k).wins.d) (may:=fun x _=>xCx c x) (g:=163) (cap:=[.pointer (some ⟨b1,0,none⟩)]) hwl fun x a hx=>Xb.zs (xH6 (c:=c) (x:=x) (a:=a) (b1:=b1) hs ho (hin x hx).1 (hin x hx).2))
   generalize xs2 (xCt c (ix c.modes.d k)) default (ix c.modes.d k).wins.d 0=i1 at*
   generalize xs2 (fun x _=>xCx c x) default (ix c.modes.d k).wins.d 0=i2 at*
   clear hin
   refine S.I fun u=>?_
   have hX:=h1;repeat' (first|rintro _ _ ⟨rfl,rfl⟩|(refine G.call 162 ?_;first|refine S.c ?_ (h:=hf1 _ _)|refine S.c ?_ (h:=hf2 _))|refine S.x ?_|refine S.y ?_ ?_|(refine G.call 60 ?_;refine S.c ?_ (h:=xCb))|intro hb|fail)
   all_goals exact Tr.fin hK ⟨S.v,rfl⟩ S.E
 ·have h1':inB k 0 (IntKind.i64.wrap ((c.modes.d.length:Int)-1))=false:=by simpa using h1
  rw[show xCF c k=26 by unfold xCF;rw[h1',if_pos rfl]]at hK
  clear h1
  refine S.I fun u=>?_
  have hX:=@h1';repeat' (first|refine S.x ?_|(refine G.call 60 ?_;refine S.c ?_ (h:=xCb))|rintro _ _ ⟨rfl,rfl⟩|intro hb|fail)
  all_goals exact Tr.fin hK ⟨rfl,rfl⟩ S.E
end
end
section
abbrev cfB (b:Nat) (c:xBG):Xc:=blk b (.cells (En.enc c).toArray 33 (0,0))
abbrev cfP (b:Nat):Value:=.pointer (some ⟨b,0,none⟩)
attribute [local irreducible] xs2 inB xB0 xB9
section
variable {c:xBG} {k:Int} {b:Nat}
theorem xHd (hs:shC c):Xb prog 108 (.int .i64 k::[cfP b]).toArray [cfB b c,sl true c.parts.s.v c.parts.d,fzl c.parts.d,sl true c.chans.s.v c.chans.d]
  fun v l'=>v=.int .i64 (if xCW c k=true then 0 else 25)∧l'=[cfB b c,sl true c.parts.s.v c.parts.d,fzl c.parts.d,sl true c.chans.s.v c.chans.d]:=by
 intro F K hK
 simp only[ap]
 have hc:=xGL (k:=k) hs
 refine S.I fun u=>?_
 repeat' (first|rintro _ _ ⟨rfl,rfl⟩|(refine G.call 109 ?_;refine S.c ?_ (h:=hc))|refine S.x ?_|refine S.y ?_ ?_|intro hb|fail)
 all_goals exact Tr.fin hK ⟨S.v,rfl⟩ S.E
theorem xG2 (hs:shC c) (ho:okF c):Xb prog 110 (.int .i64 k::[cfP b]).toArray [cfB b c,sl true c.parts.s.v c.parts.d,sl true c.modes.s.v c.modes.d,fzl c.modes.d,sl true c.levels.s.v c.levels.d]
  fun v l'=>v=.int .i64 (xCF c k)∧l'=[cfB b c,sl true c.parts.s.v c.parts.d,sl true c.modes.s.v c.modes.d,fzl c.modes.d,sl true c.levels.s.v c.levels.d]:=by
 intro F K hK
 simp only[ap]
 have hc:=xJF (k:=k) hs ho
 refine S.I fun u=>?_
 repeat' (first|rintro _ _ ⟨rfl,rfl⟩|(refine G.call 111 ?_;refine S.c ?_ (h:=hc))|refine S.x ?_|fail)
 all_goals exact Tr.fin hK ⟨rfl,rfl⟩ S.E
theorem xGZ {k:Nat} (hs:shC c) (hk:k<c.parts.d.length):Xb prog 62 (.int .i64 (k:Int)::[cfP b]).toArray [cfB b c,sl true c.parts.s.v c.parts.d,fzl c.parts.d]
  fun v l'=>v=.int .i64 (xCw (ix c.parts.d (k:Int)))∧l'=[cfB b c,sl true c.parts.s.v c.parts.d,fzl c.parts.d]:=by
 intro F K hK
 simp only[ap]
 have hc:=xJG (u0:=.agg (En.enc (ix c.parts.d (k:Int))).toArray) (p:=ix c.parts.d (k:Int)) (hs.ps _ (xCa hk))
 refine S.I fun u=>?_
 repeat' (first|rintro _ _ ⟨rfl,rfl⟩|(refine G.call 63 ?_;refine S.c ?_ (h:=hc))|refine S.x ?_|intro hb|fail)
 all_goals exact Tr.fin hK ⟨rfl,rfl⟩ S.E
theorem xIk (hs:shC c):Xb prog 65 #[.agg (En.enc c).toArray] [sl true c.parts.s.v c.parts.d,fzl c.parts.d,sl true c.chans.s.v c.chans.d]
  fun v l'=>v=.tuple #[.int .i64 (xDv c).1,.int .i64 (xDv c).2]∧l'=[]:=by
 intro F K hK
 simp only[ap]
 unfold xDv at hK
 have hn:=fun b=>Xb.unz0 (xDQ (ask:=fun k=>if xCW c k=true then 0 else 25) (g:=108) (cap:=[cfP b]) hs.c fun k _=>Xb.zs (xHd (k:=(k:Int)) (b:=b) hs))
 by_cases h:16<(c.chans.d.length:Int)
 ·rw[if_pos h]at hK
  refine S.I fun u=>?_
  repeat' (first|refine S.x ?_|intro hb|fail)
  all_goals exact Tr.fin hK ⟨rfl,rfl⟩ S.E
 ·rw[if_neg h]at hK
  generalize xB9 (fun k=>if xCW c k=true then 0 else 25) c.chans.d.length 0=r at*
  refine S.I fun u=>?_
  repeat' (first|rintro _ _ ⟨rfl,rfl⟩|(refine G.call 61 ?_;refine S.c ?_ (h:=hn _))|refine S.x ?_|intro hb|fail)
  all_goals exact Tr.fin hK ⟨rfl,rfl⟩ S.E
theorem xIC (hs:shC c) (ho:okF c):Xb prog 66 #[.agg (En.enc c).toArray] [sl true c.parts.s.v c.parts.d,sl true c.modes.s.v c.modes.d,fzl c.modes.d,sl true c.levels.s.v c.levels.d]
  fun v l'=>v=.tuple #[.int .i64 (xDw c).1,.int .i64 (xDw c).2]∧l'=[]:=by
 intro F K hK
 simp only[ap]
 unfold xDw at hK
 have hn:=fun b=>Xb.unz0 (xDQ (ask:=xCF c) (g:=110) (cap:=[cfP b]) hs.m fun k _=>Xb.zs (xG2 (k:=(k:Int)) (b:=b) hs ho))
 by_cases h:inB c.modes.d.length 1 4=false
 ·rw[if_pos h]at hK
  refine S.I fun u=>?_
  have hX:=h;repeat' (first|refine S.x ?_|(refine G.call 60 ?_;refine S.c ?_ (h:=xCb))|rintro _ _ ⟨rfl,rfl⟩|intro hb|fail)
  all_goals exact Tr.fin hK ⟨rfl,rfl⟩ S.E
 ·rw[if_neg h]at hK
  have h':inB c.modes.d.length 1 4=true:=by simpa using h
  generalize xB9 (xCF c) c.modes.d.length 0=r at*
  clear h
  refine S.I fun u=>?_
  have hX:=@h';repeat' (first|rintro _ _ ⟨rfl,rfl⟩|(refine G.call 61 ?_;refine S.c ?_ (h:=hn _))|refine S.x ?_|(refine G.call 60 ?_;refine S.c ?_ (h:=xCb))|intro hb|fail)
  all_goals exact Tr.fin hK ⟨rfl,rfl⟩ S.E
theorem xIX (hs:shC c):Xb prog 37 #[.agg (En.enc c).toArray] [sl true c.parts.s.v c.parts.d,fzl c.parts.d,sl true c.chans.s.v c.chans.d,sl true c.modes.s.v c.modes.d,fzl c.modes.d,sl true c.levels.s.v c.levels.d,sl true c.naps.s.v c.naps.d,sl true c.down.s.v c.down.d,sl true c.up.s.v c.up.d]
  fun v l'=>v=.tuple #[.int .i64 (xB3 c).1,.int .i64 (xB3 c).2]∧l'=[]:=by
 intro F K hK
 simp only[ap]
 unfold xB3 at hK
 have hn:=fun b=>Xb.unz0 (xDQ (ask:=fun k=>xCw (ix c.parts.d k)) (g:=62) (cap:=[cfP b]) hs.p fun k hk=>Xb.zs (xGZ (k:=k) (b:=b) hs hk))
 have hp:Xb prog 64 #[.agg (En.enc c.pow).toArray] [sl true c.levels.s.v c.levels.d,sl true c.naps.s.v c.naps.d] (fun v l'=>v=.tuple #[.int .i64 (xCd c.levels.d c.naps.d c.pow).1,.int .i64 (xCd c.levels.d c.naps.d c.pow).2]∧l'=[]):=xIK hs.l hs.n
 have hsh:=xKb (sd:=c.down.s) (su:=c.up.s) hs.d hs.u
 have hch:=xIk hs
 have hof:=xM4 (c:=c)
 by_cases h0:inB c.parts.d.length 1 8=false
 ·rw[if_pos h0]at hK
  refine S.I fun u=>?_
  have hX:=h0;repeat' (first|refine S.x ?_|(refine G.call 60 ?_;refine S.c ?_ (h:=xCb))|rintro _ _ ⟨rfl,rfl⟩|intro hb|fail)
  all_goals exact Tr.fin hK ⟨rfl,rfl⟩ S.E
 ·rw[if_neg h0]at hK
  have h0':inB c.parts.d.length 1 8=true:=by simpa using h0
  have hpm:xB9 (fun k=>xCw (ix c.parts.d k)) c.parts.d.length 0=xEi c:=rfl
  rw[hpm]at hn
  generalize hr1:xEi c=r1 at*
  generalize hr2:xCd c.levels.d c.naps.d c.pow=r2 at*
  clear h0 hpm hr1 hr2
  by_cases h1:¬r1.1=0
  ·rw[if_pos h1]at hK
   refine S.I fun u=>?_
   have hX:=@h0';repeat' (first|rintro _ _ ⟨rfl,rfl⟩|(refine G.call 61 ?_;refine S.c ?_ (h:=hn _))|refine S.x ?_|(refine G.call 60 ?_;refine S.c ?_ (h:=xCb))|intro hb|fail)
   all_goals exact Tr.fin hK ⟨rfl,rfl⟩ S.E
  ·rw[if_neg h1]at hK
   have h1':r1.1=0:=by omega
   by_cases h2:¬r2.1=0
   ·rw[if_pos h2]at hK
    refine S.I fun u=>?_
    have hX:=And.intro @h0' @h1';repeat' (first|rintro _ _ ⟨rfl,rfl⟩|(refine G.call 61 ?_;refine S.c ?_ (h:=hn _))|(refine G.call 64 ?_;refine S.c ?_ (h:=hp))|refine S.x ?_|(refine G.call 60 ?_;refine S.c ?_ (h:=xCb))|intro hb|fail)
    all_goals exact Tr.fin hK ⟨rfl,rfl⟩ S.E
   ·rw[if_neg h2]at hK
    have h2':r2.1=0:=by omega
    have hmo:=xIC hs (hof h1' h2')
    generalize xDv c=r3 at*
    generalize xDw c=r4 at*
    generalize xDM c.down.d c.up.d=r5 at*
    refine S.I fun u=>?_
    have hX:=I3 @h0' @h1' @h2';repeat' (first|rintro _ _ ⟨rfl,rfl⟩|(refine G.call 61 ?_;refine S.c ?_ (h:=hn _))|(refine G.call 64 ?_;refine S.c ?_ (h:=hp))|(refine G.call 65 ?_;refine S.c ?_ (h:=hch))|(refine G.call 66 ?_;refine S.c ?_ (h:=hmo))|(refine G.call 67 ?_;refine S.c ?_ (h:=hsh))|refine S.x ?_|refine S.y ?_ ?_|(refine G.call 60 ?_;refine S.c ?_ (h:=xCb))|intro hb|fail)
    all_goals exact Tr.fin hK ⟨S.v,rfl⟩ S.E
