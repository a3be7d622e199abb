import Derived.Test.YtmebccjndhlpoaaGreatBF
namespace Go.Proofs.YtmebccjndhlpoaaGreat
open Go Go.Wk Tryz
set_option maxHeartbeats 3200000
set_option maxRecDepth 100000
def xs2 {α:Type} (may:α→α→Bool):α→List α→Int→Int
 |_,[],_=>-1
 |a,x::xs,i=>if may x a=true then xs2 may x xs (i+1)else i
def ahd {α:Type} [Inhabited α] (l:List α):Nat→α
 |0=>default
 |k+1=>ix l (k:Int)
theorem xB1 {α:Type} [Inhabited α] {may:α→α→Bool} {l:List α} {k:Nat} (h:k<l.length):xs2 may (ahd l k) (l.drop k) k=if may (ix l (k:Int)) (ahd l k)=true then xs2 may (ahd l (k+1)) (l.drop (k+1)) ((k+1:Nat):Int)else(k:Int):=by
 rw[List.drop_eq_getElem_cons h]
 have e:l[k]=ix l (k:Int):=by simp[ix,h]
 rw[e];rfl
theorem xCI {α:Type} {p:α→Bool} {a:α}:∀{l:List α} {i:Int},0≤i→decide (xs2 (fun x _=>p x) a l i<0)=l.all p
 |[],_,_=>rfl
 |x::xs,i,h=>by
  unfold xs2
  cases hp:p x with
  |true=>rw[if_pos rfl,xCI S.o,List.all_cons,hp,Bool.true_and]
  |false=>rw[if_neg (by decide),List.all_cons,hp,Bool.false_and];exact decide_eq_false S.o
def xB0 {α:Type} (l:List α) (n:Int) (p:α→Bool):Bool:=decide ((l.length:Int)≤n)&&l.all p
def inB (n a b:Int):Bool:=decide (a≤n)&&decide (n≤b)
def xB9 (ask:Int→Int):Nat→Nat→Int×Int
 |0,_=>(0,0)
 |n+1,k=>if ask k=0 then xB9 ask n (k+1)else(ask k,k)
section
attribute [local irreducible] BrK Xq Xt Xv XI FnK XZ Xw XC XV opX opK Yq Yk eqR Yj Yo Ys WL WD W X3 XO Tr drewK Ya X4 Yw Yv X1 YB mp blk rob sl sep ex fact old
section
attribute [local irreducible] xs2
theorem xCb {n a b:Int}:Xb prog 60 #[.int .i64 n,.int .i64 a,.int .i64 b] [] fun v l'=>v=.bool (inB n a b)∧l'=[]:=by
 intro F K hK
 simp only[List.nil_append]
 unfold inB at hK
 refine S.I fun u=>?_
 repeat' (first|refine S.x ?_|refine S.y ?_ ?_|intro hb|fail)
 all_goals exact Tr.fin hK ⟨S.v,rfl⟩ S.E
theorem xDQ {ask:Int→Int} {g:Nat} {cap:List Value} {Z:Xc} {n:Nat} [hg:xqo prog g] (hn:n≤1000000000) (hf:∀k:Nat,k<n→Xb prog g (.int .i64 (k:Int)::cap).toArray [Z] fun v l'=>v=.int .i64 (ask k)∧l'=[Z]):
  Xb prog 61 #[.int .i64 (n:Int),.func (.func g) #[] cap.toArray] [Z] fun v l'=>v=.tuple #[.int .i64 (xB9 ask n 0).1,.int .i64 (xB9 ask n 0).2]∧l'=[Z]:=by
 intro F K hK
 simp only[ap]
 refine S.I fun u=>?_
 repeat' (first|refine S.x ?_|fail)
 refine Tr.loopE (α:=Nat) [4,5,9] [1,8] (fun x=>[.int .i64 0,.int .i64 0,.int .i64 x]) (fun _=>[Z]) (fun x=>x≤n∧xB9 ask n 0=xB9 ask (n-x) x) (fun x=>n-x) 0 S.T rfl ⟨Nat.zero_le _,rfl⟩ fun k u hk=>?_
 obtain⟨hk,hm⟩:=hk
 simp only[ap]
 by_cases hin:k<n
 ·have hw:=Xo (k:=k) S.o
  have hfk:=hf k hin
  obtain⟨m,hmm⟩:∃m,n-k=m+1:=⟨n-k-1,by omega⟩
  have hm1:n-(k+1)=m:=by omega
  rw[hmm]at hm
  by_cases ha:ask k=0
  ·have hm2:xB9 ask n 0=xB9 ask (n-(k+1)) (k+1):=by rw[hm1,hm];exact if_pos ha
   clear hm hmm hm1
   have hX:=And.intro hw ha;repeat' (first|rintro _ _ ⟨rfl,rfl⟩|(refine G.call g ?_;refine S.c ?_ (h:=hfk))|refine S.x ?_|fail)
   all_goals exact S.R (k+1)
  ·have hm2:xB9 ask n 0=(ask k,(k:Int)):=by rw[hm];exact if_neg ha
   rw[hm2]at hK
   clear hm hmm hm1 hm2
   have hX:=hw;repeat' (first|rintro _ _ ⟨rfl,rfl⟩|(refine G.call g ?_;refine S.c ?_ (h:=hfk))|refine S.x ?_|fail)
   all_goals exact Tr.fin hK ⟨rfl,rfl⟩ S.E
 ·have hke:k=n:=by omega
  subst hke
  rw[show xB9 ask k 0=(0,0) by rw[hm,Nat.sub_self];rfl]at hK
  clear hm
  repeat' (first|refine S.x ?_|fail)
  all_goals exact Tr.fin hK ⟨rfl,rfl⟩ S.E
theorem xIv {may:xaL→xaL→Bool} {g:Nat} {cap:List Value} {Z:Xc} {ro:Bool} {s:SV} {l:List xaL} [hg:xqo prog g] (hl:l.length≤1000000000) (hf:∀x a:xaL,x∈l→Xb prog g (.agg (En.enc x).toArray::.agg (En.enc a).toArray::cap).toArray [Z] fun v l'=>v=.bool (may x a)∧l'=[Z]):
  Xb prog 143 #[s.v,.func (.func g) #[] cap.toArray] [sl ro s.v l,Z] fun v l'=>v=.int .i64 (xs2 may default l 0)∧l'=[sl ro s.v l,Z]:=by
 intro F K hK
 simp only[ap]
 refine S.I fun u=>?_
 repeat' (first|refine S.x ?_|intro hb|fail)
 refine Tr.loopE (α:=Nat) [4,10] [1,5,8,9] (fun x=>[.int .i64 0,.int .i64 x]) (fun x=>[blk hb (.cells (En.enc (ahd l x)).toArray 119 (0,0)),sl ro s.v l,Z]) (fun x=>x≤l.length∧xs2 may default l 0=xs2 may (ahd l x) (l.drop x) x) (fun x=>l.length-x) 0 S.T rfl ⟨Nat.zero_le _,rfl⟩ fun k u hk=>?_
 obtain⟨hk,hm⟩:=hk
 simp only[ap]
 by_cases hin:k<l.length
 ·have hw:=Xo (k:=k) S.o
  have hfk:=hf (ix l (k:Int)) (ahd l k) (xCa hin)
  have hah:ahd l (k+1)=ix l (k:Int):=rfl
  rw[xB1 hin]at hm
  by_cases ha:may (ix l (k:Int)) (ahd l k)=true
  ·rw[if_pos ha]at hm
   generalize ahd l k=ah at*
   have hX:=And.intro hw ha;repeat' (first|rintro _ _ ⟨rfl,rfl⟩|(refine G.call g ?_;refine S.c ?_ (h:=hfk))|refine S.x ?_|intro hb|fail)
   all_goals
    rw[←hah]
    exact S.R (k+1)
  ·rw[if_neg ha]at hm
   rw[hm]at hK
   have ha':may (ix l (k:Int)) (ahd l k)=false:=by simpa using ha
   generalize ahd l k=ah at*
   clear hm ha
   have hX:=@ha';repeat' (first|rintro _ _ ⟨rfl,rfl⟩|(refine G.call g ?_;refine S.c ?_ (h:=hfk))|refine S.x ?_|intro hb|fail)
   all_goals exact Tr.fin hK ⟨rfl,rfl⟩ S.E
 ·have hke:k=l.length:=by omega
  subst hke
  rw[List.drop_length]at hm
  rw[hm]at hK
  unfold xs2 at hK
  clear hm
  repeat' (first|refine S.x ?_|fail)
  all_goals exact Tr.fin hK ⟨rfl,rfl⟩ S.E
theorem xIE {may:WZ→WZ→Bool} {g:Nat} {cap:List Value} {Z:Xc} {ro:Bool} {s:SV} {l:List WZ} [hg:xqo prog g] (hl:l.length≤1000000000) (hf:∀x a:WZ,x∈l→Xb prog g (.agg (En.enc x).toArray::.agg (En.enc a).toArray::cap).toArray [Z] fun v l'=>v=.bool (may x a)∧l'=[Z]):
  Xb prog 145 #[s.v,.func (.func g) #[] cap.toArray] [sl ro s.v l,Z] fun v l'=>v=.int .i64 (xs2 may default l 0)∧l'=[sl ro s.v l,Z]:=by
 intro F K hK
 simp only[ap]
 refine S.I fun u=>?_
 repeat' (first|refine S.x ?_|intro hb|fail)
 refine Tr.loopE (α:=Nat) [4,10] [1,5,8,9] (fun x=>[.int .i64 0,.int .i64 x]) (fun x=>[blk hb (.cells (En.enc (ahd l x)).toArray 103 (0,0)),sl ro s.v l,Z]) (fun x=>x≤l.length∧xs2 may default l 0=xs2 may (ahd l x) (l.drop x) x) (fun x=>l.length-x) 0 S.T rfl ⟨Nat.zero_le _,rfl⟩ fun k u hk=>?_
 obtain⟨hk,hm⟩:=hk
 simp only[ap]
 by_cases hin:k<l.length
 ·have hw:=Xo (k:=k) S.o
  have hfk:=hf (ix l (k:Int)) (ahd l k) (xCa hin)
  have hah:ahd l (k+1)=ix l (k:Int):=rfl
  rw[xB1 hin]at hm
  by_cases ha:may (ix l (k:Int)) (ahd l k)=true
  ·rw[if_pos ha]at hm
   generalize ahd l k=ah at*
   have hX:=And.intro hw ha;repeat' (first|rintro _ _ ⟨rfl,rfl⟩|(refine G.call g ?_;refine S.c ?_ (h:=hfk))|refine S.x ?_|intro hb|fail)
   all_goals
    rw[←hah]
    exact S.R (k+1)
  ·rw[if_neg ha]at hm
   rw[hm]at hK
   have ha':may (ix l (k:Int)) (ahd l k)=false:=by simpa using ha
   generalize ahd l k=ah at*
   clear hm ha
   have hX:=@ha';repeat' (first|rintro _ _ ⟨rfl,rfl⟩|(refine G.call g ?_;refine S.c ?_ (h:=hfk))|refine S.x ?_|intro hb|fail)
   all_goals exact Tr.fin hK ⟨rfl,rfl⟩ S.E
 ·have hke:k=l.length:=by omega
  subst hke
  rw[List.drop_length]at hm
  rw[hm]at hK
  unfold xs2 at hK
  clear hm
  repeat' (first|refine S.x ?_|fail)
  all_goals exact Tr.fin hK ⟨rfl,rfl⟩ S.E
theorem xIz {may:Zd→Zd→Bool} {g:Nat} {cap:List Value} {Z:Xc} {ro:Bool} {s:SV} {l:List Zd} [hg:xqo prog g] (hl:l.length≤1000000000) (hf:∀x a:Zd,x∈l→Xb prog g (.agg (En.enc x).toArray::.agg (En.enc a).toArray::cap).toArray [Z] fun v l'=>v=.bool (may x a)∧l'=[Z]):
  Xb prog 147 #[s.v,.func (.func g) #[] cap.toArray] [sl ro s.v l,Z] fun v l'=>v=.int .i64 (xs2 may default l 0)∧l'=[sl ro s.v l,Z]:=by
 intro F K hK
 simp only[ap]
 refine S.I fun u=>?_
 repeat' (first|refine S.x ?_|intro hb|fail)
 refine Tr.loopE (α:=Nat) [4,10] [1,5,8,9] (fun x=>[.int .i64 0,.int .i64 x]) (fun x=>[blk hb (.cells (En.enc (ahd l x)).toArray 199 (0,0)),sl ro s.v l,Z]) (fun x=>x≤l.length∧xs2 may default l 0=xs2 may (ahd l x) (l.drop x) x) (fun x=>l.length-x) 0 S.T rfl ⟨Nat.zero_le _,rfl⟩ fun k u hk=>?_
 obtain⟨hk,hm⟩:=hk
 simp only[ap]
 by_cases hin:k<l.length
 ·have hw:=Xo (k:=k) S.o
  have hfk:=hf (ix l (k:Int)) (ahd l k) (xCa hin)
  have hah:ahd l (k+1)=ix l (k:Int):=rfl
  rw[xB1 hin]at hm
  by_cases ha:may (ix l (k:Int)) (ahd l k)=true
  ·rw[if_pos ha]at hm
   generalize ahd l k=ah at*
   have hX:=And.intro hw ha;repeat' (first|rintro _ _ ⟨rfl,rfl⟩|(refine G.call g ?_;refine S.c ?_ (h:=hfk))|refine S.x ?_|intro hb|fail)
   all_goals
    rw[←hah]
    exact S.R (k+1)
  ·rw[if_neg ha]at hm
   rw[hm]at hK
   have ha':may (ix l (k:Int)) (ahd l k)=false:=by simpa using ha
   generalize ahd l k=ah at*
   clear hm ha
   have hX:=@ha';repeat' (first|rintro _ _ ⟨rfl,rfl⟩|(refine G.call g ?_;refine S.c ?_ (h:=hfk))|refine S.x ?_|intro hb|fail)
   all_goals exact Tr.fin hK ⟨rfl,rfl⟩ S.E
 ·have hke:k=l.length:=by omega
  subst hke
  rw[List.drop_length]at hm
  rw[hm]at hK
  unfold xs2 at hK
  clear hm
  repeat' (first|refine S.x ?_|fail)
  all_goals exact Tr.fin hK ⟨rfl,rfl⟩ S.E
theorem xIs {may:JO→JO→Bool} {g:Nat} {cap:List Value} {Z:Xc} {ro:Bool} {s:SV} {l:List JO} [hg:xqo prog g] (hl:l.length≤1000000000) (hf:∀x a:JO,x∈l→Xb prog g (.agg (En.enc x).toArray::.agg (En.enc a).toArray::cap).toArray [Z] fun v l'=>v=.bool (may x a)∧l'=[Z]):
  Xb prog 205 #[s.v,.func (.func g) #[] cap.toArray] [sl ro s.v l,Z] fun v l'=>v=.int .i64 (xs2 may default l 0)∧l'=[sl ro s.v l,Z]:=by
 intro F K hK
 simp only[ap]
 refine S.I fun u=>?_
 repeat' (first|refine S.x ?_|intro hb|fail)
 refine Tr.loopE (α:=Nat) [4,10] [1,5,8,9] (fun x=>[.int .i64 0,.int .i64 x]) (fun x=>[blk hb (.cells (En.enc (ahd l x)).toArray 279 (0,0)),sl ro s.v l,Z]) (fun x=>x≤l.length∧xs2 may default l 0=xs2 may (ahd l x) (l.drop x) x) (fun x=>l.length-x) 0 S.T rfl ⟨Nat.zero_le _,rfl⟩ fun k u hk=>?_
 obtain⟨hk,hm⟩:=hk
 simp only[ap]
 by_cases hin:k<l.length
 ·have hw:=Xo (k:=k) S.o
  have hfk:=hf (ix l (k:Int)) (ahd l k) (xCa hin)
  have hah:ahd l (k+1)=ix l (k:Int):=rfl
  rw[xB1 hin]at hm
  by_cases ha:may (ix l (k:Int)) (ahd l k)=true
  ·rw[if_pos ha]at hm
   generalize ahd l k=ah at*
   have hX:=And.intro hw ha;repeat' (first|rintro _ _ ⟨rfl,rfl⟩|(refine G.call g ?_;refine S.c ?_ (h:=hfk))|refine S.x ?_|intro hb|fail)
   all_goals
    rw[←hah]
    exact S.R (k+1)
  ·rw[if_neg ha]at hm
   rw[hm]at hK
   have ha':may (ix l (k:Int)) (ahd l k)=false:=by simpa using ha
   generalize ahd l k=ah at*
   clear hm ha
   have hX:=@ha';repeat' (first|rintro _ _ ⟨rfl,rfl⟩|(refine G.call g ?_;refine S.c ?_ (h:=hfk))|refine S.x ?_|intro hb|fail)
   all_goals exact Tr.fin hK ⟨rfl,rfl⟩ S.E
 ·have hke:k=l.length:=by omega
  subst hke
  rw[List.drop_length]at hm
  rw[hm]at hK
  unfold xs2 at hK
  clear hm
  repeat' (first|refine S.x ?_|fail)
  all_goals exact Tr.fin hK ⟨rfl,rfl⟩ S.E
theorem xIb {may:JC→JC→Bool} {g:Nat} {cap:List Value} {Z:Xc} {ro:Bool} {s:SV} {l:List JC} [hg:xqo prog g] (hl:l.length≤1000000000) (hf:∀x a:JC,x∈l→Xb prog g (.agg (En.enc x).toArray::.agg (En.enc a).toArray::cap).toArray [Z] fun v l'=>v=.bool (may x a)∧l'=[Z]):
  Xb prog 207 #[s.v,.func (.func g) #[] cap.toArray] [sl ro s.v l,Z] fun v l'=>v=.int .i64 (xs2 may default l 0)∧l'=[sl ro s.v l,Z]:=by
 intro F K hK
 simp only[ap]
 refine S.I fun u=>?_
 repeat' (first|refine S.x ?_|intro hb|fail)
 refine Tr.loopE (α:=Nat) [4,10] [1,5,8,9] (fun x=>[.int .i64 0,.int .i64 x]) (fun x=>[blk hb (.cells (En.enc (ahd l x)).toArray 281 (0,0)),sl ro s.v l,Z]) (fun x=>x≤l.length∧xs2 may default l 0=xs2 may (ahd l x) (l.drop x) x) (fun x=>l.length-x) 0 S.T rfl ⟨Nat.zero_le _,rfl⟩ fun k u hk=>?_
 obtain⟨hk,hm⟩:=hk
 simp only[ap]
 by_cases hin:k<l.length
 ·have hw:=Xo (k:=k) S.o
  have hfk:=hf (ix l (k:Int)) (ahd l k) (xCa hin)
  have hah:ahd l (k+1)=ix l (k:Int):=rfl
  rw[xB1 hin]at hm
  by_cases ha:may (ix l (k:Int)) (ahd l k)=true
  ·rw[if_pos ha]at hm
   generalize ahd l k=ah at*
   have hX:=And.intro hw ha;repeat' (first|rintro _ _ ⟨rfl,rfl⟩|(refine G.call g ?_;refine S.c ?_ (h:=hfk))|refine S.x ?_|intro hb|fail)
   all_goals
    rw[←hah]
    exact S.R (k+1)
  ·rw[if_neg ha]at hm
   rw[hm]at hK
   have ha':may (ix l (k:Int)) (ahd l k)=false:=by simpa using ha
   generalize ahd l k=ah at*
   clear hm ha
   have hX:=@ha';repeat' (first|rintro _ _ ⟨rfl,rfl⟩|(refine G.call g ?_;refine S.c ?_ (h:=hfk))|refine S.x ?_|intro hb|fail)
   all_goals exact Tr.fin hK ⟨rfl,rfl⟩ S.E
 ·have hke:k=l.length:=by omega
  subst hke
  rw[List.drop_length]at hm
  rw[hm]at hK
  unfold xs2 at hK
  clear hm
  repeat' (first|refine S.x ?_|fail)
  all_goals exact Tr.fin hK ⟨rfl,rfl⟩ S.E
theorem xIY {may:Int→Int→Bool} {g:Nat} {cap:List Value} {Z:Xc} {ro:Bool} {s:SV} {l:List Int} [hg:xqo prog g] (hl:l.length≤1000000000) (hf:∀x a:Int,x∈l→Xb prog g (.int .i64 x::.int .i64 a::cap).toArray [Z] fun v l'=>v=.bool (may x a)∧l'=[Z]):
  Xb prog 154 #[s.v,.func (.func g) #[] cap.toArray] [sl ro s.v l,Z] fun v l'=>v=.int .i64 (xs2 may default l 0)∧l'=[sl ro s.v l,Z]:=by
 intro F K hK
 simp only[ap]
 refine S.I fun u=>?_
 repeat' (first|refine S.x ?_|fail)
 refine Tr.loopE (α:=Nat) [4,5,10] [1,8,9] (fun x=>[.int .i64 0,.int .i64 (ahd l x),.int .i64 x]) (fun x=>[sl ro s.v l,Z]) (fun x=>x≤l.length∧xs2 may default l 0=xs2 may (ahd l x) (l.drop x) x) (fun x=>l.length-x) 0 S.T rfl ⟨Nat.zero_le _,rfl⟩ fun k u hk=>?_
 obtain⟨hk,hm⟩:=hk
 simp only[ap]
 by_cases hin:k<l.length
 ·have hw:=Xo (k:=k) S.o
  have hfk:=hf (ix l (k:Int)) (ahd l k) (xCa hin)
  have hah:ahd l (k+1)=ix l (k:Int):=rfl
  rw[xB1 hin]at hm
  by_cases ha:may (ix l (k:Int)) (ahd l k)=true
  ·rw[if_pos ha]at hm
   generalize ahd l k=ah at*
   have hX:=And.intro hw ha;repeat' (first|rintro _ _ ⟨rfl,rfl⟩|(refine G.call g ?_;refine S.c ?_ (h:=hfk))|refine S.x ?_|intro hb|fail)
   all_goals
    rw[←hah]
    exact S.R (k+1)
  ·rw[if_neg ha]at hm
   rw[hm]at hK
   have ha':may (ix l (k:Int)) (ahd l k)=false:=by simpa using ha
   generalize ahd l k=ah at*
   clear hm ha
   have hX:=@ha';repeat' (first|rintro _ _ ⟨rfl,rfl⟩|(refine G.call g ?_;refine S.c ?_ (h:=hfk))|refine S.x ?_|intro hb|fail)
   all_goals exact Tr.fin hK ⟨rfl,rfl⟩ S.E
 ·have hke:k=l.length:=by omega
  subst hke
  rw[List.drop_length]at hm
  rw[hm]at hK
  unfold xs2 at hK
  clear hm
  repeat' (first|refine S.x ?_|fail)
  all_goals exact Tr.fin hK ⟨rfl,rfl⟩ S.E
theorem xIj {may:xBH→xBH→Bool} {g:Nat} {cap:List Value} {Z:Xc} {ro:Bool} {s:SV} {l:List xBH} [hg:xqo prog g] (hl:l.length≤1000000000) (hf:∀x a:xBH,x∈l→Xb prog g (.agg (En.enc x).toArray::.agg (En.enc a).toArray::cap).toArray [Z] fun v l'=>v=.bool (may x a)∧l'=[Z]):
  Xb prog 104 #[s.v,.func (.func g) #[] cap.toArray] [sl ro s.v l,Z] fun v l'=>v=.int .i64 (xs2 may default l 0)∧l'=[sl ro s.v l,Z]:=by
 intro F K hK
 simp only[ap]
 refine S.I fun u=>?_
 repeat' (first|refine S.x ?_|intro hb|fail)
 refine Tr.loopE (α:=Nat) [4,10] [1,5,8,9] (fun x=>[.int .i64 0,.int .i64 x]) (fun x=>[blk hb (.cells (En.enc (ahd l x)).toArray 98 (0,0)),sl ro s.v l,Z]) (fun x=>x≤l.length∧xs2 may default l 0=xs2 may (ahd l x) (l.drop x) x) (fun x=>l.length-x) 0 S.T rfl ⟨Nat.zero_le _,rfl⟩ fun k u hk=>?_
 obtain⟨hk,hm⟩:=hk
 simp only[ap]
 by_cases hin:k<l.length
 ·have hw:=Xo (k:=k) S.o
  have hfk:=hf (ix l (k:Int)) (ahd l k) (xCa hin)
  have hah:ahd l (k+1)=ix l (k:Int):=rfl
  rw[xB1 hin]at hm
  by_cases ha:may (ix l (k:Int)) (ahd l k)=true
  ·rw[if_pos ha]at hm
   generalize ahd l k=ah at*
   have hX:=And.intro hw ha;repeat' (first|rintro _ _ ⟨rfl,rfl⟩|(refine G.call g ?_;refine S.c ?_ (h:=hfk))|refine S.x ?_|intro hb|fail)
   all_goals
    rw[←hah]
    exact S.R (k+1)
  ·rw[if_neg ha]at hm
   rw[hm]at hK
   have ha':may (ix l (k:Int)) (ahd l k)=false:=by simpa using ha
   generalize ahd l k=ah at*
   clear hm ha
   have hX:=@ha';repeat' (first|rintro _ _ ⟨rfl,rfl⟩|(refine G.call g ?_;refine S.c ?_ (h:=hfk))|refine S.x ?_|intro hb|fail)
   all_goals exact Tr.fin hK ⟨rfl,rfl⟩ S.E
 ·have hke:k=l.length:=by omega
  subst hke
  rw[List.drop_length]at hm
  rw[hm]at hK
  unfold xs2 at hK
  clear hm
  repeat' (first|refine S.x ?_|fail)
  all_goals exact Tr.fin hK ⟨rfl,rfl⟩ S.E
theorem xIP {may:xCP→xCP→Bool} {g:Nat} {cap:List Value} {Z:Xc} {ro:Bool} {s:SV} {l:List xCP} [hg:xqo prog g] (hl:l.length≤1000000000) (hf:∀x a:xCP,x∈l→Xb prog g (.agg (En.enc x).toArray::.agg (En.enc a).toArray::cap).toArray [Z] fun v l'=>v=.bool (may x a)∧l'=[Z]):
  Xb prog 156 #[s.v,.func (.func g) #[] cap.toArray] [sl ro s.v l,Z] fun v l'=>v=.int .i64 (xs2 may default l 0)∧l'=[sl ro s.v l,Z]:=by
 intro F K hK
 simp only[ap]
 refine S.I fun u=>?_
 repeat' (first|refine S.x ?_|intro hb|fail)
 refine Tr.loopE (α:=Nat) [4,10] [1,5,8,9] (fun x=>[.int .i64 0,.int .i64 x]) (fun x=>[blk hb (.cells (En.enc (ahd l x)).toArray 202 (0,0)),sl ro s.v l,Z]) (fun x=>x≤l.length∧xs2 may default l 0=xs2 may (ahd l x) (l.drop x) x) (fun x=>l.length-x) 0 S.T rfl ⟨Nat.zero_le _,rfl⟩ fun k u hk=>?_
 obtain⟨hk,hm⟩:=hk
 simp only[ap]
 by_cases hin:k<l.length
 ·have hw:=Xo (k:=k) S.o
  have hfk:=hf (ix l (k:Int)) (ahd l k) (xCa hin)
  have hah:ahd l (k+1)=ix l (k:Int):=rfl
  rw[xB1 hin]at hm
  by_cases ha:may (ix l (k:Int)) (ahd l k)=true
  ·rw[if_pos ha]at hm
   generalize ahd l k=ah at*
   have hX:=And.intro hw ha;repeat' (first|rintro _ _ ⟨rfl,rfl⟩|(refine G.call g ?_;refine S.c ?_ (h:=hfk))|refine S.x ?_|intro hb|fail)
   all_goals
    rw[←hah]
    exact S.R (k+1)
  ·rw[if_neg ha]at hm
   rw[hm]at hK
   have ha':may (ix l (k:Int)) (ahd l k)=false:=by simpa using ha
   generalize ahd l k=ah at*
   clear hm ha
   have hX:=@ha';repeat' (first|rintro _ _ ⟨rfl,rfl⟩|(refine G.call g ?_;refine S.c ?_ (h:=hfk))|refine S.x ?_|intro hb|fail)
   all_goals exact Tr.fin hK ⟨rfl,rfl⟩ S.E
 ·have hke:k=l.length:=by omega
  subst hke
  rw[List.drop_length]at hm
  rw[hm]at hK
  unfold xs2 at hK
  clear hm
  repeat' (first|refine S.x ?_|fail)
  all_goals exact Tr.fin hK ⟨rfl,rfl⟩ S.E
theorem xFv {may:xCA→xCA→Bool} {g:Nat} {cap:List Value} {Z:Xc} {ro:Bool} {s:SV} {l:List xCA} [hg:xqo prog g] (hl:l.length≤1000000000) (hf:∀x a:xCA,x∈l→Xb prog g (.agg (En.enc x).toArray::.agg (En.enc a).toArray::cap).toArray [Z] fun v l'=>v=.bool (may x a)∧l'=[Z]):
  Xb prog 162 #[s.v,.func (.func g) #[] cap.toArray] [sl ro s.v l,Z] fun v l'=>v=.int .i64 (xs2 may default l 0)∧l'=[sl ro s.v l,Z]:=by
 intro F K hK
 simp only[ap]
 refine S.I fun u=>?_
 repeat' (first|refine S.x ?_|intro hb|fail)
 refine Tr.loopE (α:=Nat) [4,10] [1,5,8,9] (fun x=>[.int .i64 0,.int .i64 x]) (fun x=>[blk hb (.cells (En.enc (ahd l x)).toArray 109 (0,0)),sl ro s.v l,Z]) (fun x=>x≤l.length∧xs2 may default l 0=xs2 may (ahd l x) (l.drop x) x) (fun x=>l.length-x) 0 S.T rfl ⟨Nat.zero_le _,rfl⟩ fun k u hk=>?_
 obtain⟨hk,hm⟩:=hk
 simp only[ap]
 by_cases hin:k<l.length
 ·have hw:=Xo (k:=k) S.o
  have hfk:=hf (ix l (k:Int)) (ahd l k) (xCa hin)
  have hah:ahd l (k+1)=ix l (k:Int):=rfl
  rw[xB1 hin]at hm
  by_cases ha:may (ix l (k:Int)) (ahd l k)=true
  ·rw[if_pos ha]at hm
   generalize ahd l k=ah at*
   have hX:=And.intro hw ha;repeat' (first|rintro _ _ ⟨rfl,rfl⟩|(refine G.call g ?_;refine S.c ?_ (h:=hfk))|refine S.x ?_|intro hb|fail)
   all_goals
    rw[←hah]
    exact S.R (k+1)
  ·rw[if_neg ha]at hm
   rw[hm]at hK
   have ha':may (ix l (k:Int)) (ahd l k)=false:=by simpa using ha
   generalize ahd l k=ah at*
   clear hm ha
   have hX:=@ha';repeat' (first|rintro _ _ ⟨rfl,rfl⟩|(refine G.call g ?_;refine S.c ?_ (h:=hfk))|refine S.x ?_|intro hb|fail)
   all_goals exact Tr.fin hK ⟨rfl,rfl⟩ S.E
 ·have hke:k=l.length:=by omega
  subst hke
  rw[List.drop_length]at hm
  rw[hm]at hK
  unfold xs2 at hK
  clear hm
  repeat' (first|refine S.x ?_|fail)
  all_goals exact Tr.fin hK ⟨rfl,rfl⟩ S.E
