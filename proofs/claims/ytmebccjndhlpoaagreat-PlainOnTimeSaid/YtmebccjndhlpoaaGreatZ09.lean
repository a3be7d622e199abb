import Derived.Test.YtmebccjndhlpoaaGreatBG
namespace Go.Proofs.YtmebccjndhlpoaaGreat
open Go Go.Wk Tryz
set_option maxHeartbeats 3200000
set_option maxRecDepth 100000
section
attribute [local irreducible] BrK Xq Xt Xv XI FnK XZ Xw XC XV opX opK Yq Yk eqR Yj Yo Ys WL WD W X3 XO Tr drewK Ya X4 Yw Yv X1 YB mp blk rob sl sep ex fact old
section
attribute [local irreducible] xs2
theorem xJf {p:WZ→Bool} {g b ft:Nat} [hg:xqo prog g] {x a:WZ} (hf:Xb prog g #[.agg (En.enc x).toArray] [] fun v l'=>v=.bool (p x)∧l'=[]):Xb prog 146 (.agg (En.enc x).toArray::.agg (En.enc a).toArray::[.pointer (some ⟨b,0,none⟩)]).toArray [blk b (.cells #[.func (.func g) #[] #[]] ft (0,0))]
  fun v l'=>v=.bool (p x)∧l'=[blk b (.cells #[.func (.func g) #[] #[]] ft (0,0))]:=by
 intro F K hK
 simp only[ap]
 refine S.I fun u=>?_
 repeat' (first|rintro _ _ ⟨rfl,rfl⟩|(refine G.call g ?_;refine S.c ?_ (h:=hf))|refine S.x ?_|intro hb|fail)
 all_goals exact Tr.fin hK ⟨rfl,rfl⟩ S.E
theorem xK4 {p:WZ→Bool} {g:Nat} [hg:xqo prog g] {ro:Bool} {s:SV} {l:List WZ} {n:Int} (hl:l.length≤1000000000) (hf:∀x,Xb prog g #[.agg (En.enc x).toArray] [] fun v l'=>v=.bool (p x)∧l'=[]):Xb prog 97 #[s.v,.int .i64 n,.func (.func g) #[] #[]] [sl ro s.v l]
  fun v l'=>v=.bool (xB0 l n p)∧l'=[sl ro s.v l]:=by
 intro F K hK
 simp only[ap]
 unfold xB0 at hK
 have hfa:=xCI (p:=p) (a:=(default:WZ)) (l:=l) (i:=0) (Int.le_refl 0)
 by_cases h: (l.length:Int)≤n
 ·rw[decide_eq_true h,Bool.true_and]at hK
  refine S.I fun u=>?_
  repeat' (first|rintro _ _ ⟨rfl,rfl⟩|intro(nb:Nat)|(refine G.call 145 ?_;refine S.c ?_ (h:=xIE (Z:=blk nb _) hl fun x a _=>xJf (hf x)))|refine S.x ?_|fail)
  all_goals exact Tr.fin hK ⟨by rw[←hfa],rfl⟩ S.E
 ·rw[decide_eq_false h,Bool.false_and]at hK
  refine S.I fun u=>?_
  repeat' (first|refine S.x ?_|intro hb|fail)
  all_goals exact Tr.fin hK ⟨rfl,rfl⟩ S.E
theorem xJi {p:Zd→Bool} {g b ft:Nat} [hg:xqo prog g] {x a:Zd} (hf:Xb prog g #[.agg (En.enc x).toArray] [] fun v l'=>v=.bool (p x)∧l'=[]):Xb prog 148 (.agg (En.enc x).toArray::.agg (En.enc a).toArray::[.pointer (some ⟨b,0,none⟩)]).toArray [blk b (.cells #[.func (.func g) #[] #[]] ft (0,0))]
  fun v l'=>v=.bool (p x)∧l'=[blk b (.cells #[.func (.func g) #[] #[]] ft (0,0))]:=by
 intro F K hK
 simp only[ap]
 refine S.I fun u=>?_
 repeat' (first|rintro _ _ ⟨rfl,rfl⟩|(refine G.call g ?_;refine S.c ?_ (h:=hf))|refine S.x ?_|intro hb|fail)
 all_goals exact Tr.fin hK ⟨rfl,rfl⟩ S.E
theorem xK6 {p:Zd→Bool} {g:Nat} [hg:xqo prog g] {ro:Bool} {s:SV} {l:List Zd} {n:Int} (hl:l.length≤1000000000) (hf:∀x,Xb prog g #[.agg (En.enc x).toArray] [] fun v l'=>v=.bool (p x)∧l'=[]):Xb prog 99 #[s.v,.int .i64 n,.func (.func g) #[] #[]] [sl ro s.v l]
  fun v l'=>v=.bool (xB0 l n p)∧l'=[sl ro s.v l]:=by
 intro F K hK
 simp only[ap]
 unfold xB0 at hK
 have hfa:=xCI (p:=p) (a:=(default:Zd)) (l:=l) (i:=0) (Int.le_refl 0)
 by_cases h: (l.length:Int)≤n
 ·rw[decide_eq_true h,Bool.true_and]at hK
  refine S.I fun u=>?_
  repeat' (first|rintro _ _ ⟨rfl,rfl⟩|intro(nb:Nat)|(refine G.call 147 ?_;refine S.c ?_ (h:=xIz (Z:=blk nb _) hl fun x a _=>xJi (hf x)))|refine S.x ?_|fail)
  all_goals exact Tr.fin hK ⟨by rw[←hfa],rfl⟩ S.E
 ·rw[decide_eq_false h,Bool.false_and]at hK
  refine S.I fun u=>?_
  repeat' (first|refine S.x ?_|intro hb|fail)
  all_goals exact Tr.fin hK ⟨rfl,rfl⟩ S.E
theorem xI8 {p:JO→Bool} {g b ft:Nat} [hg:xqo prog g] {x a:JO} (hf:Xb prog g #[.agg (En.enc x).toArray] [] fun v l'=>v=.bool (p x)∧l'=[]):Xb prog 206 (.agg (En.enc x).toArray::.agg (En.enc a).toArray::[.pointer (some ⟨b,0,none⟩)]).toArray [blk b (.cells #[.func (.func g) #[] #[]] ft (0,0))]
  fun v l'=>v=.bool (p x)∧l'=[blk b (.cells #[.func (.func g) #[] #[]] ft (0,0))]:=by
 intro F K hK
 simp only[ap]
 refine S.I fun u=>?_
 repeat' (first|rintro _ _ ⟨rfl,rfl⟩|(refine G.call g ?_;refine S.c ?_ (h:=hf))|refine S.x ?_|intro hb|fail)
 all_goals exact Tr.fin hK ⟨rfl,rfl⟩ S.E
theorem xLj {p:JO→Bool} {g:Nat} [hg:xqo prog g] {ro:Bool} {s:SV} {l:List JO} {n:Int} (hl:l.length≤1000000000) (hf:∀x,Xb prog g #[.agg (En.enc x).toArray] [] fun v l'=>v=.bool (p x)∧l'=[]):Xb prog 152 #[s.v,.int .i64 n,.func (.func g) #[] #[]] [sl ro s.v l]
  fun v l'=>v=.bool (xB0 l n p)∧l'=[sl ro s.v l]:=by
 intro F K hK
 simp only[ap]
 unfold xB0 at hK
 have hfa:=xCI (p:=p) (a:=(default:JO)) (l:=l) (i:=0) (Int.le_refl 0)
 by_cases h: (l.length:Int)≤n
 ·rw[decide_eq_true h,Bool.true_and]at hK
  refine S.I fun u=>?_
  repeat' (first|rintro _ _ ⟨rfl,rfl⟩|intro(nb:Nat)|(refine G.call 205 ?_;refine S.c ?_ (h:=xIs (Z:=blk nb _) hl fun x a _=>xI8 (hf x)))|refine S.x ?_|fail)
  all_goals exact Tr.fin hK ⟨by rw[←hfa],rfl⟩ S.E
 ·rw[decide_eq_false h,Bool.false_and]at hK
  refine S.I fun u=>?_
  repeat' (first|refine S.x ?_|intro hb|fail)
  all_goals exact Tr.fin hK ⟨rfl,rfl⟩ S.E
theorem xJo {p:JC→Bool} {g b ft:Nat} [hg:xqo prog g] {x a:JC} (hf:Xb prog g #[.agg (En.enc x).toArray] [] fun v l'=>v=.bool (p x)∧l'=[]):Xb prog 208 (.agg (En.enc x).toArray::.agg (En.enc a).toArray::[.pointer (some ⟨b,0,none⟩)]).toArray [blk b (.cells #[.func (.func g) #[] #[]] ft (0,0))]
  fun v l'=>v=.bool (p x)∧l'=[blk b (.cells #[.func (.func g) #[] #[]] ft (0,0))]:=by
 intro F K hK
 simp only[ap]
 refine S.I fun u=>?_
 repeat' (first|rintro _ _ ⟨rfl,rfl⟩|(refine G.call g ?_;refine S.c ?_ (h:=hf))|refine S.x ?_|intro hb|fail)
 all_goals exact Tr.fin hK ⟨rfl,rfl⟩ S.E
theorem xLh {p:JC→Bool} {g:Nat} [hg:xqo prog g] {ro:Bool} {s:SV} {l:List JC} {n:Int} (hl:l.length≤1000000000) (hf:∀x,Xb prog g #[.agg (En.enc x).toArray] [] fun v l'=>v=.bool (p x)∧l'=[]):Xb prog 153 #[s.v,.int .i64 n,.func (.func g) #[] #[]] [sl ro s.v l]
  fun v l'=>v=.bool (xB0 l n p)∧l'=[sl ro s.v l]:=by
 intro F K hK
 simp only[ap]
 unfold xB0 at hK
 have hfa:=xCI (p:=p) (a:=(default:JC)) (l:=l) (i:=0) (Int.le_refl 0)
 by_cases h: (l.length:Int)≤n
 ·rw[decide_eq_true h,Bool.true_and]at hK
  refine S.I fun u=>?_
  repeat' (first|rintro _ _ ⟨rfl,rfl⟩|intro(nb:Nat)|(refine G.call 207 ?_;refine S.c ?_ (h:=xIb (Z:=blk nb _) hl fun x a _=>xJo (hf x)))|refine S.x ?_|fail)
  all_goals exact Tr.fin hK ⟨by rw[←hfa],rfl⟩ S.E
 ·rw[decide_eq_false h,Bool.false_and]at hK
  refine S.I fun u=>?_
  repeat' (first|refine S.x ?_|intro hb|fail)
  all_goals exact Tr.fin hK ⟨rfl,rfl⟩ S.E
theorem xKz {p:Int→Bool} {g b ft:Nat} [hg:xqo prog g] {x a:Int} (hf:Xb prog g #[.int .i64 x] [] fun v l'=>v=.bool (p x)∧l'=[]):Xb prog 155 (.int .i64 x::.int .i64 a::[.pointer (some ⟨b,0,none⟩)]).toArray [blk b (.cells #[.func (.func g) #[] #[]] ft (0,0))]
  fun v l'=>v=.bool (p x)∧l'=[blk b (.cells #[.func (.func g) #[] #[]] ft (0,0))]:=by
 intro F K hK
 simp only[ap]
 refine S.I fun u=>?_
 repeat' (first|rintro _ _ ⟨rfl,rfl⟩|(refine G.call g ?_;refine S.c ?_ (h:=hf))|refine S.x ?_|fail)
 all_goals exact Tr.fin hK ⟨rfl,rfl⟩ S.E
theorem xHo {p:Int→Bool} {g:Nat} [hg:xqo prog g] {ro:Bool} {s:SV} {l:List Int} {n:Int} (hl:l.length≤1000000000) (hf:∀x,Xb prog g #[.int .i64 x] [] fun v l'=>v=.bool (p x)∧l'=[]):Xb prog 102 #[s.v,.int .i64 n,.func (.func g) #[] #[]] [sl ro s.v l]
  fun v l'=>v=.bool (xB0 l n p)∧l'=[sl ro s.v l]:=by
 intro F K hK
 simp only[ap]
 unfold xB0 at hK
 have hfa:=xCI (p:=p) (a:=(default:Int)) (l:=l) (i:=0) (Int.le_refl 0)
 by_cases h: (l.length:Int)≤n
 ·rw[decide_eq_true h,Bool.true_and]at hK
  refine S.I fun u=>?_
  repeat' (first|rintro _ _ ⟨rfl,rfl⟩|intro(nb:Nat)|(refine G.call 154 ?_;refine S.c ?_ (h:=xIY (Z:=blk nb _) hl fun x a _=>xKz (hf x)))|refine S.x ?_|fail)
  all_goals exact Tr.fin hK ⟨by rw[←hfa],rfl⟩ S.E
 ·rw[decide_eq_false h,Bool.false_and]at hK
  refine S.I fun u=>?_
  repeat' (first|refine S.x ?_|intro hb|fail)
  all_goals exact Tr.fin hK ⟨rfl,rfl⟩ S.E
theorem xKe {p:xCP→Bool} {g b ft:Nat} [hg:xqo prog g] {x a:xCP} (hf:Xb prog g #[.agg (En.enc x).toArray] [] fun v l'=>v=.bool (p x)∧l'=[]):Xb prog 157 (.agg (En.enc x).toArray::.agg (En.enc a).toArray::[.pointer (some ⟨b,0,none⟩)]).toArray [blk b (.cells #[.func (.func g) #[] #[]] ft (0,0))]
  fun v l'=>v=.bool (p x)∧l'=[blk b (.cells #[.func (.func g) #[] #[]] ft (0,0))]:=by
 intro F K hK
 simp only[ap]
 refine S.I fun u=>?_
 repeat' (first|rintro _ _ ⟨rfl,rfl⟩|(refine G.call g ?_;refine S.c ?_ (h:=hf))|refine S.x ?_|intro hb|fail)
 all_goals exact Tr.fin hK ⟨rfl,rfl⟩ S.E
theorem xK1 {p:xCP→Bool} {g:Nat} [hg:xqo prog g] {ro:Bool} {s:SV} {l:List xCP} {n:Int} (hl:l.length≤1000000000) (hf:∀x,Xb prog g #[.agg (En.enc x).toArray] [] fun v l'=>v=.bool (p x)∧l'=[]):Xb prog 106 #[s.v,.int .i64 n,.func (.func g) #[] #[]] [sl ro s.v l]
  fun v l'=>v=.bool (xB0 l n p)∧l'=[sl ro s.v l]:=by
 intro F K hK
 simp only[ap]
 unfold xB0 at hK
 have hfa:=xCI (p:=p) (a:=(default:xCP)) (l:=l) (i:=0) (Int.le_refl 0)
 by_cases h: (l.length:Int)≤n
 ·rw[decide_eq_true h,Bool.true_and]at hK
  refine S.I fun u=>?_
  repeat' (first|rintro _ _ ⟨rfl,rfl⟩|intro(nb:Nat)|(refine G.call 156 ?_;refine S.c ?_ (h:=xIP (Z:=blk nb _) hl fun x a _=>xKe (hf x)))|refine S.x ?_|fail)
  all_goals exact Tr.fin hK ⟨by rw[←hfa],rfl⟩ S.E
 ·rw[decide_eq_false h,Bool.false_and]at hK
  refine S.I fun u=>?_
  repeat' (first|refine S.x ?_|intro hb|fail)
  all_goals exact Tr.fin hK ⟨rfl,rfl⟩ S.E
end
end
theorem Xb.z {P:Program} {f:FuncId} {args:Array Value} {x:Value} {Z:Xc} (h:Xb P f args [] fun v l'=>v=x∧l'=[]):Xb P f args [Z] fun v l'=>v=x∧l'=[Z]:=fun F K hK=>h (Z::F) K fun v l' hv=>by
 obtain⟨rfl,rfl⟩:=hv
 exact hK _ [Z] ⟨rfl,rfl⟩
theorem Xb.noz {P:Program} {f:FuncId} {args:Array Value} {x:Value} {S:Xc} (h:Xb P f args [S,fact True] fun v l'=>v=x∧l'=[S,fact True]):Xb P f args [S] fun v l'=>v=x∧l'=[S]:=fun F K hK=>by
 refine Tr.imp (l':=[S,fact True]++F) (Imp.cons (Imp.factI trivial)) (h F K fun v l' hv=>?_)
 obtain⟨rfl,rfl⟩:=hv
 exact Tr.imp (Imp.cons Imp.tail) (hK _ [S] ⟨rfl,rfl⟩)
def xDh (x a:xaL):Bool:=inB x.base 0 1048576&&(inB x.size 1 256&&(decide (x.base≤IntKind.i64.wrap (1048576-x.size))&&decide (IntKind.i64.wrap (a.base+a.size)≤x.base)))
def xCl (x:WZ):Bool:=inB x.prio 0 63&&(inB x.period 0 1000&&inB x.cost 1 1000000000)
def xCm (x:Zd):Bool:=if x.q=true then inB x.size 1 64&&inB x.depth 1 16 else inB x.size 1 64&&decide (x.depth=0)
def xDD (x:JO):Bool:=inB x.most 1 1000&&inB x.first 0 x.most
def xCS (x:JC):Bool:=inB x.size 1 64&&inB x.depth 1 16
def xFp (p:YF):Bool:=xB0 p.sems.d 4 xDD&&(inB p.flags 0 8&&(xB0 p.pools.d 4 xCS&&xB0 p.slates.d 4 fun n=>inB n 1 64))
def rgB (l:List xaL):Bool:=decide ((l.length:Int)≤4)&&decide (xs2 xDh default l 0<0)
def xDY (p:YF):Bool:=inB p.cap 1 1000000000&&(inB p.budget 0 1125899906842624&&(inB p.ladder 0 4&&(decide ((p.acts.d.length:Int)=5)&&xB0 p.acts.d 5 fun n=>inB n 0 4)))
def xCw (p:YF):Int:=
 if rgB p.regions.d=false then 21
 else if(p.procs.d.length:Int)=0∨xB0 p.procs.d 8 xCl=false then 22
 else if xB0 p.ports.d 8 xCm=false then 23
 else if xFp p=false then 24
 else if xDY p=false then 20 else 0
structure shP (x:YF):Prop where
 r:x.regions.d.length≤1000000000
 p:x.procs.d.length≤1000000000
 o:x.ports.d.length≤1000000000
 s:x.sems.d.length≤1000000000
 l:x.pools.d.length≤1000000000
 t:x.slates.d.length≤1000000000
 a:x.acts.d.length≤1000000000
section
attribute [local irreducible] BrK Xq Xt Xv XI FnK XZ Xw XC XV opX opK Yq Yk eqR Yj Yo Ys WL WD W X3 XO Tr drewK Ya X4 Yw Yv X1 YB mp blk rob sl sep ex fact old
section
attribute [local irreducible] xs2 inB xB0
theorem xJt {x a:xaL}:Xb prog 144 #[.agg (En.enc x).toArray,.agg (En.enc a).toArray] [] fun v l'=>v=.bool (xDh x a)∧l'=[]:=by
 intro F K hK
 simp only[List.nil_append]
 unfold xDh at hK
 obtain⟨x1,x2,x3⟩:=x
 obtain⟨a1,a2,a3⟩:=a
 simp only at hK
 refine S.I fun u=>?_
 repeat' (first|refine S.x ?_|refine S.y ?_ ?_|(refine G.call 60 ?_;refine S.c ?_ (h:=xCb))|rintro _ _ ⟨rfl,rfl⟩|intro hb|fail)
 all_goals exact Tr.fin hK ⟨S.v,rfl⟩ S.E
theorem xJ0 {ro:Bool} {s:SV} {l:List xaL} (hl:l.length≤1000000000):Xb prog 96 #[s.v] [sl ro s.v l] fun v l'=>v=.bool (rgB l)∧l'=[sl ro s.v l]:=by
 intro F K hK
 simp only[ap]
 unfold rgB at hK
 have hf:=Xb.noz (xIv (ro:=ro) (s:=s) (l:=l) (may:=xDh) (g:=144) (cap:=[]) (Z:=fact True) hl fun x a _=>Xb.z xJt)
 refine S.I fun u=>?_
 repeat' (first|rintro _ _ ⟨rfl,rfl⟩|(refine G.call 143 ?_;refine S.c ?_ (h:=hf))|refine S.x ?_|refine S.y ?_ ?_|intro hb|fail)
 all_goals exact Tr.fin hK ⟨S.v,rfl⟩ S.E
theorem xJv {x:WZ}:Xb prog 98 #[.agg (En.enc x).toArray] [] fun v l'=>v=.bool (xCl x)∧l'=[]:=by
 intro F K hK
 simp only[List.nil_append]
 unfold xCl at hK
 obtain⟨x1,x2,x3⟩:=x
 simp only at hK
 refine S.I fun u=>?_
 repeat' (first|refine S.x ?_|refine S.y ?_ ?_|(refine G.call 60 ?_;refine S.c ?_ (h:=xCb))|rintro _ _ ⟨rfl,rfl⟩|intro hb|fail)
 all_goals exact Tr.fin hK ⟨S.v,rfl⟩ S.E
theorem xJe {x:Zd}:Xb prog 100 #[.agg (En.enc x).toArray] [] fun v l'=>v=.bool (xCm x)∧l'=[]:=by
 intro F K hK
 simp only[List.nil_append]
 unfold xCm at hK
 obtain⟨x1,x2,x3,x4⟩:=x
 simp only at hK
 refine S.I fun u=>?_
 repeat' (first|refine S.x ?_|refine S.y ?_ ?_|(refine G.call 60 ?_;refine S.c ?_ (h:=xCb))|rintro _ _ ⟨rfl,rfl⟩|intro hb|fail)
 all_goals exact Tr.fin hK ⟨S.v,rfl⟩ S.E
theorem xLQ {x:JO}:Xb prog 149 #[.agg (En.enc x).toArray] [] fun v l'=>v=.bool (xDD x)∧l'=[]:=by
 intro F K hK
 simp only[List.nil_append]
 unfold xDD at hK
 obtain⟨x1,x2⟩:=x
 simp only at hK
 refine S.I fun u=>?_
 repeat' (first|refine S.x ?_|refine S.y ?_ ?_|(refine G.call 60 ?_;refine S.c ?_ (h:=xCb))|rintro _ _ ⟨rfl,rfl⟩|intro hb|fail)
 all_goals exact Tr.fin hK ⟨S.v,rfl⟩ S.E
theorem xKt {x:JC}:Xb prog 150 #[.agg (En.enc x).toArray] [] fun v l'=>v=.bool (xCS x)∧l'=[]:=by
 intro F K hK
 simp only[List.nil_append]
 unfold xCS at hK
 obtain⟨x1,x2⟩:=x
 simp only at hK
 refine S.I fun u=>?_
 repeat' (first|refine S.x ?_|refine S.y ?_ ?_|(refine G.call 60 ?_;refine S.c ?_ (h:=xCb))|rintro _ _ ⟨rfl,rfl⟩|intro hb|fail)
 all_goals exact Tr.fin hK ⟨S.v,rfl⟩ S.E
theorem xI0 {n:Int}:Xb prog 151 #[.int .i64 n] [] fun v l'=>v=.bool (inB n 1 64)∧l'=[]:=by
 intro F K hK
 simp only[List.nil_append]
 refine S.I fun u=>?_
 repeat' (first|refine S.x ?_|(refine G.call 60 ?_;refine S.c ?_ (h:=xCb))|rintro _ _ ⟨rfl,rfl⟩|fail)
 all_goals exact Tr.fin hK ⟨rfl,rfl⟩ S.E
theorem xLo {n:Int}:Xb prog 103 #[.int .i64 n] [] fun v l'=>v=.bool (inB n 0 4)∧l'=[]:=by
 intro F K hK
 simp only[List.nil_append]
 refine S.I fun u=>?_
 repeat' (first|refine S.x ?_|(refine G.call 60 ?_;refine S.c ?_ (h:=xCb))|rintro _ _ ⟨rfl,rfl⟩|fail)
 all_goals exact Tr.fin hK ⟨rfl,rfl⟩ S.E
section
variable {u0:Value} {p:YF}
theorem xLL [hd:DeA u0 p] (hs:shP p):Xb prog 101 #[u0] [sl true p.sems.s.v p.sems.d,sl true p.pools.s.v p.pools.d,sl true p.slates.s.v p.slates.d]
  fun v l'=>v=.bool (xFp p)∧l'=[]:=by
 obtain rfl:=hd.h
 intro F K hK
 simp only[ap]
 unfold xFp at hK
 have h1:=xLj (ro:=true) (s:=p.sems.s) (n:=4) (p:=xDD) (g:=149) hs.s fun x=>xLQ
 have h2:=xLh (ro:=true) (s:=p.pools.s) (n:=4) (p:=xCS) (g:=150) hs.l fun x=>xKt
 have h3:=xHo (ro:=true) (s:=p.slates.s) (n:=4) (p:=fun n=>inB n 1 64) (g:=151) hs.t fun x=>xI0
 refine S.I fun u=>?_
 repeat' (first|rintro _ _ ⟨rfl,rfl⟩|(refine G.call 152 ?_;refine S.c ?_ (h:=h1))|(refine G.call 153 ?_;refine S.c ?_ (h:=h2))|(refine G.call 102 ?_;refine S.c ?_ (h:=h3))|refine S.x ?_|refine S.y ?_ ?_|(refine G.call 60 ?_;refine S.c ?_ (h:=xCb))|intro hb|fail)
 all_goals exact Tr.fin hK ⟨S.v,rfl⟩ S.E
theorem xJG [hd:DeA u0 p] (hs:shP p):Xb prog 63 #[u0] [sl true p.regions.s.v p.regions.d,sl true p.procs.s.v p.procs.d,sl true p.ports.s.v p.ports.d,sl true p.sems.s.v p.sems.d,sl true p.pools.s.v p.pools.d,sl true p.slates.s.v p.slates.d,sl true p.acts.s.v p.acts.d]
  fun v l'=>v=.int .i64 (xCw p)∧l'=[]:=by
 obtain rfl:=hd.h
 intro F K hK
 simp only[ap]
 have h0:=xJ0 (ro:=true) (s:=p.regions.s) hs.r
 have h1:=xK4 (ro:=true) (s:=p.procs.s) (n:=8) (p:=xCl) (g:=98) hs.p fun x=>xJv
 have h2:=xK6 (ro:=true) (s:=p.ports.s) (n:=8) (p:=xCm) (g:=100) hs.o fun x=>xJe
 have h3:=xLL (u0:=.agg (En.enc p).toArray) hs
 have h4:=xHo (ro:=true) (s:=p.acts.s) (n:=5) (p:=fun n=>inB n 0 4) (g:=103) hs.a fun x=>xLo
 unfold xCw xDY at hK
 generalize rgB p.regions.d=b0 at*
 generalize xB0 p.procs.d 8 xCl=b1 at*
 generalize xB0 p.ports.d 8 xCm=b2 at*
 generalize xFp p=b3 at*
 generalize(xB0 p.acts.d 5 fun n=>inB n 0 4)=b4 at*
 refine S.I fun u=>?_
 repeat' (first|rintro _ _ ⟨rfl,rfl⟩|(refine G.call 96 ?_;refine S.c ?_ (h:=h0))|(refine G.call 97 ?_;refine S.c ?_ (h:=h1))|(refine G.call 99 ?_;refine S.c ?_ (h:=h2))|(refine G.call 101 ?_;refine S.c ?_ (h:=h3))|(refine G.call 102 ?_;refine S.c ?_ (h:=h4))|refine S.x ?_|refine S.y ?_ ?_|(refine G.call 60 ?_;refine S.c ?_ (h:=xCb))|intro hb|fail)
 all_goals exact Tr.fin hK ⟨S.v,rfl⟩ S.E
end
end
end
def sepL:List Xc→Xc
 |[]=>fact True
 |a::r=>sep a (sepL r)
theorem Imp.sepO:∀{Zs l:List Xc},Imp (sepL Zs::l) (Zs++l)
 |[],_=>Imp.tail
 |_::_,_=>Imp.trans Imp.sep (Imp.cons Imp.sepO)
theorem Imp.sepC:∀{Zs l:List Xc},Imp (Zs++l) (sepL Zs::l)
 |[],_=>Imp.factI trivial
 |_::_,_=>Imp.trans (Imp.cons Imp.sepC) Imp.sepI
theorem Xb.zs {P:Program} {f:FuncId} {args:Array Value} {x:Value} {Zs:List Xc} (h:Xb P f args Zs fun v l'=>v=x∧l'=Zs):Xb P f args [sepL Zs] fun v l'=>v=x∧l'=[sepL Zs]:=fun F K hK=>
 Tr.imp (l':=Zs++F) Imp.sepO (h F K fun v l' hv=>by
  obtain⟨rfl,rfl⟩:=hv
  exact Tr.imp Imp.sepC (hK _ [sepL l'] ⟨rfl,rfl⟩))
theorem Xb.unz {P:Program} {f:FuncId} {args:Array Value} {x:Value} {S:Xc} {Zs:List Xc} (h:Xb P f args [S,sepL Zs] fun v l'=>v=x∧l'=[S,sepL Zs]):Xb P f args (S::Zs) fun v l'=>v=x∧l'=S::Zs:=fun F K hK=>
 Tr.imp (l':=[S,sepL Zs]++F) (Imp.cons Imp.sepC) (h F K fun v l' hv=>by
  obtain⟨rfl,rfl⟩:=hv
  exact Tr.imp (Imp.cons Imp.sepO) (hK _ (S::Zs) ⟨rfl,rfl⟩))
theorem Xb.unz0 {P:Program} {f:FuncId} {args:Array Value} {x:Value} {Zs:List Xc} (h:Xb P f args [sepL Zs] fun v l'=>v=x∧l'=[sepL Zs]):Xb P f args Zs fun v l'=>v=x∧l'=Zs:=fun F K hK=>
 Tr.imp (l':=[sepL Zs]++F) Imp.sepC (h F K fun v l' hv=>by
  obtain⟨rfl,rfl⟩:=hv
  exact Tr.imp Imp.sepO (hK _ Zs ⟨rfl,rfl⟩))
def xB5 (x a:xBH):Bool:=inB x.freq (IntKind.i64.wrap (a.freq+1)) 10000&&(inB x.power 0 1000000&&decide (IntKind.i64.wrap (a.power*x.freq)≤IntKind.i64.wrap (x.power*a.freq)))
def xDx (x:xCP):Bool:=inB x.power 0 1000000&&(inB x.enter 0 100000000&&inB x.wake 0 100000000)
def xFE (naps:List xCP) (p:xDC):Bool:=xB0 naps 4 xDx&&(inB p.sw 0 100000000&&(inB p.idle 0 1000000&&(inB p.change 0 1000000&&(inB p.quantum 1 1000000000&&(inB p.slow 1 1000000&&inB p.ppm 0 100000)))))
def xCd (ls:List xBH) (naps:List xCP) (p:xDC):Int×Int:=
 if inB ls.length 1 6=false then(27,0)
 else if 0≤xs2 xB5 default ls 0 then(27,xs2 xB5 default ls 0)
 else if xFE naps p=false then(27,ls.length)else(0,0)
def xB8 (down up:List Int) (k:Int):Bool:=!(inB (ix down k) 0 1000000&&inB (ix up k) (IntKind.i64.wrap (ix down k+1)) 1000000)||(decide (0<k)&&(decide (ix down (k-1)≤ix down k)||decide (ix up (k-1)≤ix up k)))
def xDM (down up:List Int):Int×Int:=if¬(down.length:Int)=up.length∨4<(down.length:Int)then(28,0)else xB9 (fun k=>if xB8 down up k=true then 28 else 0) down.length 0
section
attribute [local irreducible] BrK Xq Xt Xv XI FnK XZ Xw XC XV opX opK Yq Yk eqR Yj Yo Ys WL WD W X3 XO Tr drewK Ya X4 Yw Yv X1 YB mp blk rob sl sep ex fact old
section
attribute [local irreducible] xs2 inB xB0
theorem xIH {x a:xBH}:Xb prog 105 #[.agg (En.enc x).toArray,.agg (En.enc a).toArray] [] fun v l'=>v=.bool (xB5 x a)∧l'=[]:=by
 intro F K hK
 simp only[List.nil_append]
 unfold xB5 at hK
 obtain⟨x1,x2⟩:=x
 obtain⟨a1,a2⟩:=a
 simp only at hK
 refine S.I fun u=>?_
 repeat' (first|refine S.x ?_|refine S.y ?_ ?_|(refine G.call 60 ?_;refine S.c ?_ (h:=xCb))|rintro _ _ ⟨rfl,rfl⟩|intro hb|fail)
 all_goals exact Tr.fin hK ⟨S.v,rfl⟩ S.E
theorem xK9 {x:xCP}:Xb prog 107 #[.agg (En.enc x).toArray] [] fun v l'=>v=.bool (xDx x)∧l'=[]:=by
 intro F K hK
 simp only[List.nil_append]
 unfold xDx at hK
 obtain⟨x1,x2,x3⟩:=x
 simp only at hK
 refine S.I fun u=>?_
 repeat' (first|refine S.x ?_|refine S.y ?_ ?_|(refine G.call 60 ?_;refine S.c ?_ (h:=xCb))|rintro _ _ ⟨rfl,rfl⟩|intro hb|fail)
 all_goals exact Tr.fin hK ⟨S.v,rfl⟩ S.E
theorem xIK {u0:Value} {p:xDC} [hd:DeA u0 p] {ls:List xBH} {naps:List xCP} (h1:ls.length≤1000000000) (h2:naps.length≤1000000000):Xb prog 64 #[u0] [sl true p.levels.v ls,sl true p.naps.v naps]
  fun v l'=>v=.tuple #[.int .i64 (xCd ls naps p).1,.int .i64 (xCd ls naps p).2]∧l'=[]:=by
 obtain rfl:=hd.h
 intro F K hK
 simp only[ap]
 have hf:=Xb.noz (xIj (ro:=true) (s:=p.levels) (l:=ls) (may:=xB5) (g:=105) (cap:=[]) (Z:=fact True) h1 fun x a _=>Xb.z xIH)
 have hn:=xK1 (ro:=true) (s:=p.naps) (n:=4) (p:=xDx) (g:=107) h2 fun x=>xK9
 obtain⟨p1,p2,p3,p4,p5,p6,p7,p8⟩:=p
 unfold xCd xFE at hK
 simp only at hK hf hn
 generalize xs2 xB5 default ls 0=fi at*
 generalize xB0 naps 4 xDx=b1 at*
 refine S.I fun u=>?_
 repeat' (first|rintro _ _ ⟨rfl,rfl⟩|(refine G.call 104 ?_;refine S.c ?_ (h:=hf))|(refine G.call 106 ?_;refine S.c ?_ (h:=hn))|refine S.x ?_|refine S.y ?_ ?_|(refine G.call 60 ?_;refine S.c ?_ (h:=xCb))|intro hb|fail)
 all_goals exact Tr.fin hK ⟨S.v,rfl⟩ S.E
theorem xKb {sd su:SV} {down up:List Int} (h1:down.length≤1000000000) (_h2:up.length≤1000000000):Xb prog 67 #[.agg #[sd.v,su.v]] [sl true sd.v down,sl true su.v up]
    fun v l'=>v=.tuple #[.int .i64 (xDM down up).1,.int .i64 (xDM down up).2]∧l'=[]:=by
  intro F K hK
  simp only[ap]
  by_cases h0:¬(down.length:Int)=up.length∨4<(down.length:Int)
  · rw[show xDM down up=(28,0)from if_pos h0]at hK
    refine S.I fun u=>?_
    repeat' (first|refine S.x ?_|refine S.y ?_ ?_|intro hb|fail)
    all_goals exact Tr.fin hK ⟨rfl,rfl⟩ S.E
  · rw [show xDM down up=xB9 (fun k=>if xB8 down up k=true then 28 else 0) down.length 0 from if_neg h0]at hK
    obtain⟨m,hm⟩:∃m,m=xB9 (fun k=>if xB8 down up k=true then 28 else 0) down.length 0:=⟨_,rfl⟩
    rw[←hm]at hK
    refine S.I fun u=>?_
    repeat' (first|refine S.x ?_|intro hb|fail)
    refine Tr.loopE (α:=Nat) [2,3,24] [1,22,23] (fun x=>[.int .i64 0,.int .i64 0,.int .i64 x]) (fun _=>[]) (fun x=>x≤down.length∧m=xB9 (fun k=>if xB8 down up k=true then 28 else 0) (down.length-x) x) (fun x=>down.length-x) 0 S.T rfl ⟨Nat.zero_le _,hm⟩ fun k u hk=>?_
    clear hm
    obtain⟨hk,hm⟩:=hk
    simp only[List.nil_append]
    by_cases hin:k<down.length
    · have hw:=Xo (k:=k) S.o
      have hwp:0<k→IntKind.i64.wrap ((k:Int)-1)=((k:Int)-1):=fun h=>Ye S.o S.o
      obtain⟨j,hjj⟩:∃j,down.length-k=j+1:=⟨down.length-k-1,by omega⟩
      have hj1:down.length-(k+1)=j:=by omega
      rw[hjj]at hm
      have hsb:xB8 down up k=(!(inB (ix down k) 0 1000000&&inB (ix up k) (IntKind.i64.wrap (ix down k+1)) 1000000)||(decide (0<(k:Int))&&(decide (ix down ((k:Int)-1)≤ix down k)||decide (ix up ((k:Int)-1)≤ix up k)))):=rfl
      have hm3:m=if xB8 down up k=true then(28,(k:Int))else xB9 (fun k=>if xB8 down up k=true then 28 else 0) (down.length-(k+1)) (k+1):=by
        rw[hm,hj1]
        show(if(if xB8 down up (k:Int)=true then(28:Int)else 0)=0 then _ else((if xB8 down up (k:Int)=true then(28:Int)else 0),(k:Int)))=_
        cases xB8 down up (k:Int)with
        |true=>rfl
        |false=>rfl
      clear hm hjj hj1
      by_cases hk0:0<k
      · have hwq:=hwp hk0
        have hX:=And.intro hw hwq;repeat' (first|refine S.x ?_|refine S.y ?_ ?_|(refine G.call 60 ?_;refine S.c ?_ (h:=xCb))|rintro _ _ ⟨rfl,rfl⟩|intro hb|fail)
        all_goals first
        | (have hs:xB8 down up k=false:=by(rw[hsb];simp[*])
           rw[hs,if_neg (by decide)]at hm3
           clear hsb hs
           exact S.R (k+1))
        | (have hs:xB8 down up k=true:=by(rw[hsb];simp[*])
           rw[if_pos hs]at hm3
           rw[hm3]at hK
           exact Tr.fin hK ⟨rfl,rfl⟩ S.E)
      · have hX:=hw;repeat' (first|refine S.x ?_|refine S.y ?_ ?_|(refine G.call 60 ?_;refine S.c ?_ (h:=xCb))|rintro _ _ ⟨rfl,rfl⟩|intro hb|fail)
        all_goals first
        | (have hs:xB8 down up k=false:=by(rw[hsb];simp[*])
           rw[hs,if_neg (by decide)]at hm3
           clear hsb hs
           exact S.R (k+1))
        | (have hs:xB8 down up k=true:=by(rw[hsb];simp[*])
           rw[if_pos hs]at hm3
           rw[hm3]at hK
           exact Tr.fin hK ⟨rfl,rfl⟩ S.E)
    · have hke:k=down.length:=by omega
      subst hke
      rw[Nat.sub_self]at hm
      rw[show m=(0,0)from hm]at hK
      clear hm
      repeat' (first|refine S.x ?_|fail)
      all_goals exact Tr.fin hK ⟨rfl,rfl⟩ S.E
