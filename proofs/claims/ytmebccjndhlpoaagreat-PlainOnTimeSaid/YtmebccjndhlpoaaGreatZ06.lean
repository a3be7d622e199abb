import Derived.Test.YtmebccjndhlpoaaGreatZ05
import Derived.Laws.Externs
namespace Go.Proofs.YtmebccjndhlpoaaGreat
open Go Go.Wk Tryz
set_option maxHeartbeats 3200000
set_option maxRecDepth 100000
def mdV (a b c:Int) (up:Bool):Int:=(a*b+if up=true then c-1 else 0)/c
def xBU (a b c:Int) (up:Bool):Int×Int:=if a<0∨b<0∨c<1 then(0,2)else if 9223372036854775807<mdV a b c up then(0,6)else(mdV a b c up,0)
def xCs:List Int→Int
 |[]=>0
 |x::xs=>x+xCs xs
def xIG (l:List Int):Int×Int:=if l.any (fun x=>decide (x<0))=true then(0,2)else if 9223372036854775807<xCs l then(0,6)else(xCs l,0)
def xNX (args:Array Value):Sem Value:=do
 let (x,y,c)←Extern.MathBitsCarry.three "Add64" args
 pure (Extern.MathBitsCarry.pair ((x+y+c)%Extern.MathBitsCarry.m64) ((x+y+c)/Extern.MathBitsCarry.m64))
theorem xG0:Extern.find Tryz.f271=some xNX:=by kernel_rfl
theorem xGW:Extern.findNext Tryz.f271=none:=by kernel_rfl
theorem xIT {a b:Nat} (w:World): (callFunc 271 #[.int .u64 (a:Int),.int .u64 (b:Int),.int .u64 0]).run prog w=.ok (.value (.tuple #[.int .u64 (((a+b)%18446744073709551616:Nat):Int),.int .u64 (((a+b)/18446744073709551616:Nat):Int)])) w:=by
 rw[run_callFunc_extern Tryz.func271 (by kernel_rfl) (by kernel_rfl) xGW xG0]
 have h: (xNX #[.int .u64 (a:Int),.int .u64 (b:Int),.int .u64 0]).run prog w=.ok (.tuple #[.int .u64 (((a+b)%18446744073709551616:Nat):Int),.int .u64 (((a+b)/18446744073709551616:Nat):Int)]) w:=by
  rfl
 rw[h];rfl
section
attribute [local irreducible] BrK Xq Xt Xv XI FnK XZ Xw XC XV opX opK Yq Yk eqR Yj Yo Ys WL WD W X3 XO Tr drewK Ya X4 Yw Yv X1 YB mp blk rob sl sep ex fact old
theorem xJA {a b:Nat} (ha:a<9223372036854775808) (hb:b<9223372036854775808):Xb prog 226 #[.int .i64 (a:Int),.int .i64 (b:Int)] []
  fun v l'=>v=.agg #[.int .u64 ((a*b/18446744073709551616:Nat):Int),.int .u64 ((a*b%18446744073709551616:Nat):Int)]∧l'=[]:=by
 intro F K hK
 simp only[List.nil_append]
 have h1:IntKind.u64.wrap ((a:Nat):Int)=((a:Nat):Int):=uw S.o S.o
 have h2:IntKind.u64.wrap ((b:Nat):Int)=((b:Nat):Int):=uw S.o S.o
 have hm:=xJu (x:=a) (y:=b) S.o S.o
 refine S.I fun u=>?_
 have hX:=And.intro h1 h2;repeat' (first|rintro _ _ ⟨rfl,rfl⟩|(refine G.call 270 ?_;refine S.c ?_ (h:=hm))|refine S.x ?_|intro hb|fail)
 all_goals exact Tr.fin hK ⟨rfl,rfl⟩ S.E
theorem xK3 {X n:Nat} (hX:X+n<340282366920938463463374607431768211456) (_hn:n<9223372036854775808):Xb prog 227 #[.agg #[.int .u64 ((X/18446744073709551616:Nat):Int),.int .u64 ((X%18446744073709551616:Nat):Int)],.int .u64 (n:Int)] []
  fun v l'=>v=.agg #[.int .u64 (((X+n)/18446744073709551616:Nat):Int),.int .u64 (((X+n)%18446744073709551616:Nat):Int)]∧l'=[]:=by
 intro F K hK
 simp only[List.nil_append]
 obtain⟨h,lo,e1,e2,e3⟩:∃h lo:Nat,X/18446744073709551616=h∧X%18446744073709551616=lo∧X=h*18446744073709551616+lo:=⟨_,_,rfl,rfl,by omega⟩
 have hl:lo<18446744073709551616:=by omega
 have e4: (X+n)/18446744073709551616=h+(lo+n)/18446744073709551616:=by omega
 have e5: (X+n)%18446744073709551616=(lo+n)%18446744073709551616:=by omega
 have hs:=xEY (a:=h) (b:=(lo+n)/18446744073709551616) S.o
 rw[e4,e5]at hK
 rw[e1,e2]
 have ha:=fun K l (h:Tr l (K (.tuple #[.int .u64 (((lo+n)%18446744073709551616:Nat):Int),.int .u64 (((lo+n)/18446744073709551616:Nat):Int)])))=>Tr.row (P:=prog) (f:=271) (K:=K) (l:=l) (xIT (a:=lo) (b:=n)) h
 refine S.I fun u=>?_
 have hX:=hs;repeat' (first|(refine ha _ _ ?_)|refine S.x ?_|intro hb|fail)
 all_goals exact Tr.fin hK ⟨rfl,rfl⟩ S.E
theorem xN0 {X c:Nat} (_hX:X<340282366920938463463374607431768211456) (h0:0<c) (hc:c<9223372036854775808):Xb prog 228 #[.agg #[.int .u64 ((X/18446744073709551616:Nat):Int),.int .u64 ((X%18446744073709551616:Nat):Int)],.int .u64 (c:Int)] []
  fun v l'=>v=.tuple #[.int .u64 ((if c≤X/18446744073709551616 then 0 else X/c:Nat):Int),.bool (!decide (c≤X/18446744073709551616)&&decide (X/c≤9223372036854775807))]∧l'=[]:=by
 intro F K hK
 simp only[List.nil_append]
 obtain⟨h,lo,e1,e2,e3⟩:∃h lo:Nat,X/18446744073709551616=h∧X%18446744073709551616=lo∧X=h*18446744073709551616+lo:=⟨_,_,rfl,rfl,by omega⟩
 have hl:lo<18446744073709551616:=by omega
 rw[e1,e2]
 rw[e1]at hK
 by_cases hb:c≤h
 ·have hd:decide ((c:Int)≤(h:Int))=true:=decide_eq_true S.o
  rw[if_pos hb,decide_eq_true hb]at hK
  clear e1 e2 e3
  refine S.I fun u=>?_
  have hX:=hd;repeat' (first|refine S.x ?_|intro hb|fail)
  all_goals exact Tr.fin hK ⟨rfl,rfl⟩ S.E
 ·have hd:decide ((c:Int)≤(h:Int))=false:=decide_eq_false S.o
  have hdv:=xKD (hi:=h) (lo:=lo) (c:=c) S.o hl S.o
  rw[←e3]at hdv
  rw[if_neg hb,decide_eq_false hb]at hK
  obtain⟨q,hq⟩:∃q,q=X/c:=⟨_,rfl⟩
  rw[←hq]at hdv hK
  have h9:decide ((q:Int)≤9223372036854775807)=decide (q≤9223372036854775807):=decide_eq_decide.2 S.o
  clear e1 e2 e3 hq
  refine S.I fun u=>?_
  have hX:=And.intro hd h9;repeat' (first|rintro _ _ ⟨_,rfl,rfl⟩|(refine G.call 272 ?_;refine S.c ?_ (h:=hdv))|refine S.x ?_|intro hb|fail)
  all_goals exact Tr.fin hK ⟨rfl,rfl⟩ S.E
theorem xM6 {X c:Nat} (hX:X<340282366920938463463374607431768211456) (h0:0<c) (hc:c<9223372036854775808):∃(q:Nat) (t:Bool),Xb prog 228 #[.agg #[.int .u64 ((X/18446744073709551616:Nat):Int),.int .u64 ((X%18446744073709551616:Nat):Int)],.int .u64 (c:Int)] []
  (fun v l'=>v=.tuple #[.int .u64 (q:Int),.bool t]∧l'=[])∧(t=true∧X/c=q∧q≤9223372036854775807∨t=false∧9223372036854775807<X/c):=by
 refine⟨_,_,xN0 hX h0 hc,?_⟩
 by_cases hb:c≤X/18446744073709551616
 ·right
  refine⟨by rw[decide_eq_true hb];rfl,?_⟩
  have h1:c*18446744073709551616≤X:=Nat.le_trans (Nat.mul_le_mul_right _ hb) (Nat.div_mul_le_self _ _)
  have h2:18446744073709551616≤X/c:=(Nat.le_div_iff_mul_le h0).2 (by rw[Nat.mul_comm];exact h1)
  omega
 ·rw[if_neg hb,decide_eq_false hb]
  by_cases h1:X/c≤9223372036854775807
  ·exact .inl ⟨by rw[decide_eq_true h1];rfl,rfl,h1⟩
  ·exact .inr ⟨by rw[decide_eq_false h1];rfl,by omega⟩
theorem xKR {a b c:Nat} {up:Bool} (hc:1≤c):mdV a b c up=(((a*b+if up=true then c-1 else 0)/c:Nat):Int):=by
 unfold mdV
 cases up with
 |true=>rw[if_pos rfl,if_pos rfl];simp only[Int.natCast_ediv,Int.natCast_add,Int.natCast_mul];congr 2;omega
 |false=>rw[if_neg (by decide),if_neg (by decide)];simp
theorem xEk {a b c:Int} {up:Bool} (ha:a≤9223372036854775807) (hb:b≤9223372036854775807) (hc:c≤9223372036854775807):Xb prog 192 #[.int .i64 a,.int .i64 b,.int .i64 c,.bool up] []
  fun v l'=>v=.tuple #[.int .i64 (xBU a b c up).1,.int .i64 (xBU a b c up).2]∧l'=[]:=by
 intro F K hK
 simp only[List.nil_append]
 by_cases h0:a<0∨b<0∨c<1
 ·rw[show xBU a b c up=(0,2)from if_pos h0]at hK
  refine Tr.enterG (T:=np) (rs:=[.cell 8 3,.cell 9 48]) mixed Tryz.func192 (c:=bd Tryz.f192) rfl (by kernel_rfl) rfl (by simp) fun u=>?_
  simp only[bd,Tryz.f192]
  have hX:=I9 @xDi @xDf @xCL @xCK @xDe @xDS.eq_def @xDg @xDk (And.intro @xDb @xDj);repeat' (first|refine S.x ?_|refine S.y ?_ ?_|intro hb|fail)
  all_goals
   refine Tr.dfr (g:=225) (hr:=rfl) (h:=fun u=>?_)
   simp only[bd,Tryz.f225]
   have hX:=@xEo;repeat' (first|refine S.x ?_|fail)
   all_goals exact Tr.fin hK ⟨rfl,rfl⟩ S.E
 ·obtain⟨a,rfl⟩:∃n:Nat,a=n:=⟨a.toNat,by omega⟩
  obtain⟨b,rfl⟩:∃n:Nat,b=n:=⟨b.toNat,by omega⟩
  obtain⟨c,rfl⟩:∃n:Nat,c=n:=⟨c.toNat,by omega⟩
  have ha':a<9223372036854775808:=by omega
  have hb':b<9223372036854775808:=by omega
  have hc':c<9223372036854775808:=by omega
  have hc1:1≤c:=by omega
  have hab:a*b≤9223372036854775807*9223372036854775807:=Nat.mul_le_mul S.o S.o
  have ht:=xJA ha' hb'
  have hw:IntKind.u64.wrap ((c:Nat):Int)=((c:Nat):Int):=uw S.o S.o
  have hm:=xKR (a:=a) (b:=b) (up:=up) hc1
  have hmd:xBU a b c up=if 9223372036854775807<mdV a b c up then(0,6)else(mdV a b c up,0):=if_neg h0
  rw[hm]at hmd
  rw[hmd]at hK
  clear hmd hm
  obtain⟨X,hX⟩:∃X,X=a*b+(if up=true then c-1 else 0):=⟨_,rfl⟩
  have hXl:X<340282366920938463463374607431768211456:=by rw[hX];split<;>omega
  obtain⟨q,t,hby,hqt⟩:=xM6 hXl hc1 hc'
  have hmo:=xK3 (X:=a*b) (n:=c-1) S.o S.o
  have hw2:IntKind.u64.wrap ((c:Int)-1)=((c-1:Nat):Int):=by rw[uw S.o S.o];omega
  have hXu:up=true→a*b+(c-1)=X:=fun h=>by rw[hX,if_pos h]
  have hXd:up=false→a*b=X:=fun h=>by rw[hX,h];rfl
  rw[←hX]at hK
  clear hX hab
  rcases hqt with⟨rfl,h1,h2⟩|⟨rfl,h1⟩
  ·rw[if_neg S.o,h1]at hK
   have hwq:IntKind.i64.wrap ((q:Nat):Int)=(q:Int):=Ye S.o S.o
   cases up
   all_goals
    first
    |rw[hXu rfl]at hmo
    |rw[hXd rfl]at ht
    clear hXu hXd h1 hXl
    refine Tr.enterG (T:=np) (rs:=[.cell 8 3,.cell 9 48]) mixed Tryz.func192 (c:=bd Tryz.f192) rfl (by kernel_rfl) rfl (by simp) fun u=>?_
    simp only[bd,Tryz.f192]
    have hX:=I9 @xDi @xDf @xCL @xCK @xDe @xDS.eq_def @xDg @xDk (I5 @xDb @xDj hw hw2 hwq);repeat' (first|rintro _ _ ⟨rfl,rfl⟩|(refine G.call 226 ?_;refine S.c ?_ (h:=ht))|(refine G.call 227 ?_;refine S.c ?_ (h:=hmo))|(refine G.call 228 ?_;refine S.c ?_ (h:=hby))|refine S.x ?_|intro hb|fail)
    all_goals
     refine Tr.dfr (g:=225) (hr:=rfl) (h:=fun u=>?_)
     simp only[bd,Tryz.f225]
     have hX:=@xEo;repeat' (first|refine S.x ?_|fail)
     all_goals exact Tr.fin hK ⟨rfl,rfl⟩ S.E
  ·rw[if_pos S.o]at hK
   have hwq:=hw
   cases up
   all_goals
    first
    |rw[hXu rfl]at hmo
    |rw[hXd rfl]at ht
    clear hXu hXd h1 hXl
    refine Tr.enterG (T:=np) (rs:=[.cell 8 3,.cell 9 48]) mixed Tryz.func192 (c:=bd Tryz.f192) rfl (by kernel_rfl) rfl (by simp) fun u=>?_
    simp only[bd,Tryz.f192]
    have hX:=I9 @xDi @xDf @xCL @xCK @xDe @xDS.eq_def @xDg @xDk (I5 @xDb @xDj hw hw2 hwq);repeat' (first|rintro _ _ ⟨rfl,rfl⟩|(refine G.call 226 ?_;refine S.c ?_ (h:=ht))|(refine G.call 227 ?_;refine S.c ?_ (h:=hmo))|(refine G.call 228 ?_;refine S.c ?_ (h:=hby))|refine S.x ?_|intro hb|fail)
    all_goals
     refine Tr.dfr (g:=225) (hr:=rfl) (h:=fun u=>?_)
     simp only[bd,Tryz.f225]
     have hX:=@xEo;repeat' (first|refine S.x ?_|fail)
     all_goals exact Tr.fin hK ⟨rfl,rfl⟩ S.E
instance xNk:ElT 29 Int:=⟨⟩
theorem xCa {α:Type} [Inhabited α] {xs:List α} {k:Nat} (h:k<xs.length):ix xs (k:Int)∈xs:=List.mem_of_getElem? (Yi S.o S.o)
theorem xEh {l:List Int} {x:Int}:xCs (l++[x])=xCs l+x:=by
 induction l with
 |nil=>simp[xCs]
 |cons y ys ih=>simp only[List.cons_append,xCs,ih];omega
theorem xKx {l:List Int} {x:Int} (hx:x∈l) (h:x<0):xIG l=(0,2):=if_pos (List.any_eq_true.2 ⟨x,hx,decide_eq_true h⟩)
theorem xLa {l:List Int} (h:∀x∈l,0≤x):xIG l=if 9223372036854775807<xCs l then(0,6)else(xCs l,0):=if_neg fun h1=>by
 obtain⟨x,hx,h2⟩:=List.any_eq_true.1 h1
 have:=h x hx
 have:=of_decide_eq_true h2
 omega
structure xKX (l:List Int) (k:Nat) (o:Bool) (n:Int):Prop where
 nn:∀y∈l.take k,0≤y
 ov:decide (9223372036854775807<xCs (l.take k))=o
 n0:0≤n
 n1:n≤9223372036854775807
 ns:o=false→n=xCs (l.take k)
theorem xM7 {a b:Int} (ha:a≤9223372036854775807) (hb:b≤9223372036854775807):Xb prog 191 #[.int .i64 a,.int .i64 b] []
  fun v l'=>v=.tuple #[.int .i64 (xBU a b 1 false).1,.int .i64 (xBU a b 1 false).2]∧l'=[]:=by
 intro F K hK
 simp only[List.nil_append]
 have hm:=xEk (c:=1) (up:=false) ha hb (by decide)
 refine S.I fun u=>?_
 repeat' (first|rintro _ _ ⟨rfl,rfl⟩|(refine G.call 192 ?_;refine S.c ?_ (h:=hm))|refine S.x ?_|fail)
 all_goals exact Tr.fin hK ⟨rfl,rfl⟩ S.E
theorem xMJ {ro:Bool} {s:SV} {l:List Int} (hl:l.length≤1000000000):Xb prog 262 #[s.v] [sl ro s.v l]
  fun v l'=>v=.tuple #[.int .i64 (xIG l).1,.int .i64 (xIG l).2]∧l'=[sl ro s.v l]:=by
 intro F K hK
 simp only[ap]
 refine Tr.enterG (T:=np) (rs:=[.cell 2 3,.cell 3 48]) mixed Tryz.func262 (c:=bd Tryz.f262) rfl (by kernel_rfl) rfl (by simp) fun u=>?_
 simp only[bd,Tryz.f262]
 have hX:=I9 @xDi @xDf @xCL @xCK @xCY @xDe @xDS.eq_def @xDg (I3 @xDk @xDb @xDj);repeat' (first|intro(pe:Nat)|refine S.x ?_|fail)
 rename_i pn
 refine Tr.loopE (α:=Nat×Bool×Int) [4,9] [2,3,7,8] (fun x=>[.bool x.2.1,.int .i64 x.1]) (fun x=>[blk pe (.cells #[.int .i64 0] 48 (0,0)),blk pn (.cells #[.int .i64 x.2.2] 3 (0,0)),sl ro s.v l])
  (fun x=>x.1≤l.length∧xKX l x.1 x.2.1 x.2.2) (fun x=>l.length-x.1) (0,false,0) S.T rfl ⟨Nat.zero_le _,fun _ h=>by simp at h,rfl,Int.le_refl 0,by decide,fun _=>rfl⟩ fun x u2 hx=>?_
 obtain⟨k,ov,n⟩:=x
 obtain⟨hk,hnn,hov,hn0,hn1,hns⟩:=hx
 simp only at hk hnn hov hn0 hn1 hns⊢
 simp only[ap]
 by_cases hin:k<l.length
 ·have hw:=Xo (k:=k) S.o
  have htk:l.take (k+1)=l.take k++[ix l (k:Int)]:=Yz hin
  have hmem:ix l (k:Int)∈l:=xCa hin
  obtain⟨x,hx⟩:∃x,x=ix l (k:Int):=⟨_,rfl⟩
  rw[←hx]at htk hmem
  have hxx:=hx.symm
  clear hx
  by_cases hneg:x<0
  ·rw[xKx hmem hneg]at hK
   have hX:=I9 hxx @xDi @xDf @xCL @xCK @xCY @xDe @xDS.eq_def (I4 @xDg @xDk @xDb @xDj);repeat' (first|refine S.x ?_|intro hb|fail)
   all_goals
    refine Tr.dfr (g:=225) (hr:=rfl) (h:=fun u=>?_)
    simp only[bd,Tryz.f225]
    have hX:=@xEo;repeat' (first|refine S.x ?_|fail)
    all_goals exact Tr.fin hK ⟨rfl,rfl⟩ S.E
  ·have hws:IntKind.i64.wrap (9223372036854775807-n)=9223372036854775807-n:=Ye S.o S.o
   have hsm:xCs (l.take (k+1))=xCs (l.take k)+x:=by rw[htk,xEh]
   have hnn2:∀y∈l.take (k+1),0≤y:=fun y hy=>by
    rw[htk]at hy
    rcases List.mem_append.1 hy with h|h
    ·exact hnn y h
    ·rw[List.mem_singleton.1 h];omega
   cases ov with
   | true=>
    have hb:=of_decide_eq_true hov
    have hov2:decide (9223372036854775807<xCs (l.take (k+1)))=true:=decide_eq_true S.o
    have hI2:xKX l (k+1) true n:=⟨hnn2,hov2,hn0,hn1,fun h=>by cases h⟩
    clear hns hov hov2 hnn2
    have hX:=I9 hw hxx @xDi @xDf @xCL @xCK @xCY @xDe (I5 @xDS.eq_def @xDg @xDk @xDb @xDj);repeat' (first|refine S.x ?_|intro hb|fail)
    all_goals
     clear htk hsm hnn
     exact S.R ((k+1,true,n):Nat×Bool×Int)
   | false=>
    have hb:=of_decide_eq_false hov
    have hns1:=hns rfl
    clear hns
    by_cases hgt:9223372036854775807-n<x
    ·have hov2:decide (9223372036854775807<xCs (l.take (k+1)))=true:=decide_eq_true S.o
     have hI2:xKX l (k+1) true n:=⟨hnn2,hov2,hn0,hn1,fun h=>by cases h⟩
     clear hov hov2 hnn2 hns1
     have hX:=I9 hw hws hxx @xDi @xDf @xCL @xCK @xCY (I6 @xDe @xDS.eq_def @xDg @xDk @xDb @xDj);repeat' (first|refine S.x ?_|intro hb|fail)
     all_goals
      clear htk hsm hnn
      exact S.R ((k+1,true,n):Nat×Bool×Int)
    ·have hov2:decide (9223372036854775807<xCs (l.take (k+1)))=false:=decide_eq_false S.o
     have hwa:IntKind.i64.wrap (n+x)=n+x:=Ye S.o S.o
     have hI2:xKX l (k+1) false (n+x):=⟨hnn2,hov2,by omega,by omega,fun _=>by omega⟩
     clear hov hov2 hnn2 hns1
     have hX:=I9 hw hws hwa hxx @xDi @xDf @xCL @xCK (I7 @xCY @xDe @xDS.eq_def @xDg @xDk @xDb @xDj);repeat' (first|refine S.x ?_|intro hb|fail)
     all_goals
      clear htk hsm hnn
      exact S.R ((k+1,false,n+x):Nat×Bool×Int)
 ·have hke:k=l.length:=by omega
  subst hke
  rw[List.take_length]at hov hnn hns
  rw[xLa hnn]at hK
  cases ov with
  | true=>
   rw[if_pos (of_decide_eq_true hov)]at hK
   have hX:=I9 @xDi @xDf @xCL @xCK @xCY @xDe @xDS.eq_def @xDg (I3 @xDk @xDb @xDj);repeat' (first|refine S.x ?_|fail)
   all_goals
    refine Tr.dfr (g:=225) (hr:=rfl) (h:=fun u=>?_)
    simp only[bd,Tryz.f225]
    have hX:=@xEo;repeat' (first|refine S.x ?_|fail)
    all_goals exact Tr.fin hK ⟨rfl,rfl⟩ S.E
  | false=>
   rw[if_neg (of_decide_eq_false hov),←hns rfl]at hK
   have hX:=I9 @xDi @xDf @xCL @xCK @xCY @xDe @xDS.eq_def @xDg (I3 @xDk @xDb @xDj);repeat' (first|refine S.x ?_|fail)
   all_goals
    refine Tr.dfr (g:=225) (hr:=rfl) (h:=fun u=>?_)
    simp only[bd,Tryz.f225]
    have hX:=@xEo;repeat' (first|refine S.x ?_|fail)
    all_goals exact Tr.fin hK ⟨rfl,rfl⟩ S.E
end
instance:Fz xaL:=⟨fun p=>sep (Fz.fz p.base) (sep (Fz.fz p.size) (sep (Fz.fz p.w) (fact True))),fun _=>XX (Fz.dup _) (XX (Fz.dup _) (XX (Fz.dup _) (xBP _)))⟩
instance:Fz WZ:=⟨fun p=>sep (Fz.fz p.prio) (sep (Fz.fz p.period) (sep (Fz.fz p.cost) (fact True))),fun _=>XX (Fz.dup _) (XX (Fz.dup _) (XX (Fz.dup _) (xBP _)))⟩
instance:Fz Zd:=⟨fun p=>sep (Fz.fz p.q) (sep (Fz.fz p.i) (sep (Fz.fz p.size) (sep (Fz.fz p.depth) (fact True)))),fun _=>XX (Fz.dup _) (XX (Fz.dup _) (XX (Fz.dup _) (XX (Fz.dup _) (xBP _))))⟩
instance:Fz JO:=⟨fun p=>sep (Fz.fz p.first) (sep (Fz.fz p.most) (fact True)),fun _=>XX (Fz.dup _) (XX (Fz.dup _) (xBP _))⟩
instance:Fz JC:=⟨fun p=>sep (Fz.fz p.size) (sep (Fz.fz p.depth) (fact True)),fun _=>XX (Fz.dup _) (XX (Fz.dup _) (xBP _))⟩
instance:Fz xBJ:=⟨fun p=>sep (Fz.fz p.fp) (sep (Fz.fz p.fo) (sep (Fz.fz p.tp) (sep (Fz.fz p.to) (fact True)))),fun _=>XX (Fz.dup _) (XX (Fz.dup _) (XX (Fz.dup _) (XX (Fz.dup _) (xBP _))))⟩
instance:Fz xCA:=⟨fun p=>sep (Fz.fz p.part) (sep (Fz.fz p.start) (sep (Fz.fz p.len) (fact True))),fun _=>XX (Fz.dup _) (XX (Fz.dup _) (XX (Fz.dup _) (xBP _)))⟩
instance:Fz xBH:=⟨fun p=>sep (Fz.fz p.freq) (sep (Fz.fz p.power) (fact True)),fun _=>XX (Fz.dup _) (XX (Fz.dup _) (xBP _))⟩
instance:Fz xCP:=⟨fun p=>sep (Fz.fz p.power) (sep (Fz.fz p.enter) (sep (Fz.fz p.wake) (fact True))),fun _=>XX (Fz.dup _) (XX (Fz.dup _) (XX (Fz.dup _) (xBP _)))⟩
instance:Fz YF:=⟨fun p=>sep (Fz.fz p.regions) (sep (Fz.fz p.procs) (sep (Fz.fz p.ports) (sep (Fz.fz p.sems) (sep (Fz.fz p.flags) (sep (Fz.fz p.pools) (sep (Fz.fz p.slates) (sep (Fz.fz p.cap) (sep (Fz.fz p.budget) (sep (Fz.fz p.ladder) (sep (Fz.fz p.acts) (fact True))))))))))),fun _=>XX (Fz.dup _) (XX (Fz.dup _) (XX (Fz.dup _) (XX (Fz.dup _) (XX (Fz.dup _) (XX (Fz.dup _) (XX (Fz.dup _) (XX (Fz.dup _) (XX (Fz.dup _) (XX (Fz.dup _) (XX (Fz.dup _) (xBP _)))))))))))⟩
instance:FzD YF:=⟨fun R w=>sepI (FzD.h R w) (sepI (FzD.h R w) (sepI (FzD.h R w) (sepI (FzD.h R w) (sepI (FzD.h R w) (sepI (FzD.h R w) (sepI (FzD.h R w) (sepI (FzD.h R w) (sepI (FzD.h R w) (sepI (FzD.h R w) (sepI (FzD.h R w) (trivial)))))))))))⟩
instance (priority:=700) xG6 {l:List Xc} {x:YF} [hz:xaM l x]:xaM l (YF.regions x):=⟨hz.h.imp fun h=>⟨fun _=>False,xfO (Fz.dup x h)⟩⟩
instance (priority:=700) xIa {l:List Xc} {x:YF} [hz:xaM l x]:xaM l (YF.procs x):=⟨hz.h.imp fun h=>⟨fun _=>False,xfO (VB (Fz.dup x h))⟩⟩
instance (priority:=700) xIV {l:List Xc} {x:YF} [hz:xaM l x]:xaM l (YF.ports x):=⟨hz.h.imp fun h=>⟨fun _=>False,xfO (VB (VB (Fz.dup x h)))⟩⟩
instance (priority:=700) xI4 {l:List Xc} {x:YF} [hz:xaM l x]:xaM l (YF.sems x):=⟨hz.h.imp fun h=>⟨fun _=>False,xfO (VB (VB (VB (Fz.dup x h))))⟩⟩
instance (priority:=700) xH5 {l:List Xc} {x:YF} [hz:xaM l x]:xaM l (YF.pools x):=⟨hz.h.imp fun h=>⟨fun _=>False,xfO (VB (VB (VB (VB (VB (Fz.dup x h))))))⟩⟩
instance (priority:=700) xHP {l:List Xc} {x:YF} [hz:xaM l x]:xaM l (YF.slates x):=⟨hz.h.imp fun h=>⟨fun _=>False,xfO (VB (VB (VB (VB (VB (VB (Fz.dup x h)))))))⟩⟩
instance (priority:=700) xI3 {l:List Xc} {x:YF} [hz:xaM l x]:xaM l (YF.acts x):=⟨hz.h.imp fun h=>⟨fun _=>False,xfO (VB (VB (VB (VB (VB (VB (VB (VB (VB (VB (Fz.dup x h)))))))))))⟩⟩
instance:Fz xCz:=⟨fun p=>sep (Fz.fz p.frame) (sep (Fz.fz p.wins) (fact True)),fun _=>XX (Fz.dup _) (XX (Fz.dup _) (xBP _))⟩
instance:FzD xCz:=⟨fun R w=>sepI (FzD.h R w) (sepI (FzD.h R w) (trivial))⟩
instance (priority:=700) xI5 {l:List Xc} {x:xCz} [hz:xaM l x]:xaM l (xCz.wins x):=⟨hz.h.imp fun h=>⟨fun _=>False,xfO (VB (Fz.dup x h))⟩⟩
structure xBG where
 parts:SL YF
 chans:SL xBJ
 modes:SL xCz
 levels:SL xBH
 naps:SL xCP
 sw:Int
 idle:Int
 change:Int
 quantum:Int
 slow:Int
 ppm:Int
 down:SL Int
 up:SL Int
def xBG.c (d:xBG):xE0:=⟨d.parts.s,d.chans.s,d.modes.s,d.levels.s,d.naps.s,d.sw,d.idle,d.change,d.quantum,d.slow,d.ppm,d.down.s,d.up.s⟩
instance:En xBG:=⟨fun d=>[d.parts.s.v,d.chans.s.v,d.modes.s.v,d.levels.s.v,d.naps.s.v,.int .i64 d.sw,.int .i64 d.idle,.int .i64 d.change,.int .i64 d.quantum,.int .i64 d.slow,.int .i64 d.ppm,d.down.s.v,d.up.s.v],13,fun _=>rfl,fun _=>rfl,by decide⟩
instance:Fz xBG:=⟨fun p=>sep (Fz.fz p.parts) (sep (Fz.fz p.chans) (sep (Fz.fz p.modes) (sep (Fz.fz p.levels) (sep (Fz.fz p.naps) (sep (Fz.fz p.sw) (sep (Fz.fz p.idle) (sep (Fz.fz p.change) (sep (Fz.fz p.quantum) (sep (Fz.fz p.slow) (sep (Fz.fz p.ppm) (sep (Fz.fz p.down) (sep (Fz.fz p.up) (fact True))))))))))))),fun _=>XX (Fz.dup _) (XX (Fz.dup _) (XX (Fz.dup _) (XX (Fz.dup _) (XX (Fz.dup _) (XX (Fz.dup _) (XX (Fz.dup _) (XX (Fz.dup _) (XX (Fz.dup _) (XX (Fz.dup _) (XX (Fz.dup _) (XX (Fz.dup _) (XX (Fz.dup _) (xBP _)))))))))))))⟩
