import Derived.Test.YtmebccjndhlpoaaGreatZ42
namespace Go.Proofs.YtmebccjndhlpoaaGreat
open Go Go.Wk Tryz
set_option maxHeartbeats 3200000
set_option maxRecDepth 100000
theorem xK2 {c:YF} (h1:rgB c.regions.d=true) (h2:¬(c.procs.d.length:Int)=0) (h3:xB0 c.procs.d 8 xCl=true) (h4:xB0 c.ports.d 8 xCm=true) (h5:xFp c=true) (h6:xDY c=true):xCw c=0:=by
 unfold xCw
 rw[h1,if_neg (by decide),h3,if_neg (fun h=>by rcases h with h|h;exact h2 h;cases h),h4,if_neg (by decide),h5,if_neg (by decide),h6,if_neg (by decide)]
theorem xIp {x a:xaL} (h1:a.base+a.size≤x.base) (h0:0≤a.base+a.size) (h2:x.base≤1048576) (h3:1≤x.size) (h4:x.size≤256) (h5:x.base≤1048576-x.size):xDh x a=true:=by
 unfold xDh
 rw[xBM S.o h2,xBM h3 h4,Ye (n:=1048576-x.size) S.o S.o,Ye (n:=a.base+a.size) S.o S.o,decide_eq_true h5,decide_eq_true h1]
 rfl
section
attribute [local irreducible] BrK Xq Xt Xv XI FnK XZ Xw XC XV opX opK Yq Yk eqR Yj Yo Ys WL WD W X3 XO Tr drewK Ya X4 Yw Yv X1 YB mp blk rob sl sep ex fact old
section
attribute [local irreducible] xs2 inB xB0 xB9
section
theorem xLH {u0:Value} {c:YF} [hd:DeA u0 c]:Xb prog 53 #[u0] [sl true c.regions.s.v c.regions.d,sl true c.procs.s.v c.procs.d,sl true c.ports.s.v c.ports.d,sl true c.sems.s.v c.sems.d,sl true c.pools.s.v c.pools.d,sl true c.slates.s.v c.slates.d,sl true c.acts.s.v c.acts.d]
  fun v l'=>∃n:Int,(n=0→xCw c=0)∧v=.int .i64 n∧l'=[]:=by
 obtain rfl:=hd.h
 intro F K hK
 simp only[ap]at hK⊢
 refine S.I fun u=>?_
 by_cases h1:c.regions.d.length≤4
 ·repeat' (first|refine S.x ?_|intro hb|fail)
  refine Tr.loopE (α:=Nat×Int) [2,3,4] [1] (fun x=>[.int .i64 0,.int .i64 x.2,.int .i64 x.1]) (fun _=>[]) (fun x=>x.1≤c.regions.d.length∧0≤x.2∧x.2≤1048576∧x.2=(ahd c.regions.d x.1).base+(ahd c.regions.d x.1).size∧xs2 xDh default c.regions.d 0=xs2 xDh (ahd c.regions.d x.1) (c.regions.d.drop x.1) x.1) (fun x=>c.regions.d.length-x.1) (0,0) S.T rfl ⟨Nat.zero_le _,by decide,by decide,rfl,rfl⟩ fun x u hx=>?_
  obtain⟨k,e⟩:=x
  obtain⟨hk,he0,he9,hea,hall⟩:=hx
  simp only at hk he0 he9 hea hall⊢
  simp only[List.nil_append]
  by_cases hin:k<c.regions.d.length
  ·have hw:=Xo (k:=k) S.o
   by_cases q1:e≤(ix c.regions.d (k:Int)).base∧(ix c.regions.d (k:Int)).base≤1048576
   ·have e1:decide ((ix c.regions.d (k:Int)).base<e∨1048576<(ix c.regions.d (k:Int)).base)=false:=decide_eq_false S.o
    by_cases q2:1≤(ix c.regions.d (k:Int)).size∧(ix c.regions.d (k:Int)).size≤256
    ·have e2:decide ((ix c.regions.d (k:Int)).size<1∨256<(ix c.regions.d (k:Int)).size)=false:=decide_eq_false S.o
     have w1:IntKind.i64.wrap (1048576-(ix c.regions.d (k:Int)).size)=1048576-(ix c.regions.d (k:Int)).size:=Ye S.o S.o
     by_cases q3: (ix c.regions.d (k:Int)).base≤1048576-(ix c.regions.d (k:Int)).size
     ·have w2:IntKind.i64.wrap ((ix c.regions.d (k:Int)).base+(ix c.regions.d (k:Int)).size)=(ix c.regions.d (k:Int)).base+(ix c.regions.d (k:Int)).size:=Ye S.o S.o
      rw[xB1 hin,if_pos (xIp S.o S.o q1.2 q2.1 q2.2 q3)]at hall
      have hah: (ahd c.regions.d (k+1))=ix c.regions.d (k:Int):=rfl
      obtain⟨q4,q5⟩:=q1
      obtain⟨q6,q7⟩:=q2
      have hx2: (ix c.regions.d (k:Int)).base+(ix c.regions.d (k:Int)).size=(ahd c.regions.d (k+1)).base+(ahd c.regions.d (k+1)).size:=rfl
      clear hea
      have hX:=I5 hw @e1 @e2 @w1 @w2;repeat' (first|refine S.x ?_|(refine G.call 52 ?_;refine S.c ?_ (h:=YA))|rintro _ _ ⟨rfl,rfl⟩|intro hb|fail)
      all_goals exact S.R ((k+1,(ix c.regions.d (k:Int)).base+(ix c.regions.d (k:Int)).size):Nat×Int)
     ·have hX:=I4 hw @e1 @e2 @w1;repeat' (first|refine S.x ?_|(refine G.call 52 ?_;refine S.c ?_ (h:=YA))|rintro _ _ ⟨rfl,rfl⟩|intro hb|fail)
      all_goals exact Tr.fin hK ⟨21,(fun h=>absurd h (by decide)),rfl,rfl⟩ S.E
    ·have e2:decide ((ix c.regions.d (k:Int)).size<1∨256<(ix c.regions.d (k:Int)).size)=true:=decide_eq_true S.o
     have hX:=I3 hw @e1 @e2;repeat' (first|refine S.x ?_|(refine G.call 52 ?_;refine S.c ?_ (h:=YA))|rintro _ _ ⟨rfl,rfl⟩|intro hb|fail)
     all_goals exact Tr.fin hK ⟨21,(fun h=>absurd h (by decide)),rfl,rfl⟩ S.E
   ·have e1:decide ((ix c.regions.d (k:Int)).base<e∨1048576<(ix c.regions.d (k:Int)).base)=true:=decide_eq_true S.o
    have hX:=And.intro hw @e1;repeat' (first|refine S.x ?_|(refine G.call 52 ?_;refine S.c ?_ (h:=YA))|rintro _ _ ⟨rfl,rfl⟩|intro hb|fail)
    all_goals exact Tr.fin hK ⟨21,(fun h=>absurd h (by decide)),rfl,rfl⟩ S.E
  ·have hke:k=c.regions.d.length:=by omega
   subst hke
   rw[List.drop_length]at hall
   have hp1:rgB c.regions.d=true:=by
    unfold rgB
    rw[hall]
    unfold xs2
    rw[decide_eq_true S.o]
    rfl
   clear hall hea
   by_cases h2:1≤(c.procs.d.length:Int)∧(c.procs.d.length:Int)≤8
   ·have e2:decide ((c.procs.d.length:Int)<1∨8<(c.procs.d.length:Int))=false:=decide_eq_false S.o
    have hX:=@e2;repeat' (first|refine S.x ?_|(refine G.call 52 ?_;refine S.c ?_ (h:=YA))|rintro _ _ ⟨rfl,rfl⟩|fail)
    refine Tr.loopE (α:=Nat) [2,6] [1] (fun k=>[.int .i64 0,.int .i64 k]) (fun _=>[]) (fun k=>k≤c.procs.d.length∧∀j:Nat,j<k→xCl (ix c.procs.d (j:Int))=true) (fun k=>c.procs.d.length-k) 0 S.T rfl ⟨Nat.zero_le _,fun j hj=>absurd hj (Nat.not_lt_zero _)⟩ fun k2 u2 hk2=>?_
    obtain⟨hk2,hall⟩:=hk2
    simp only[List.nil_append]
    by_cases hin2:k2<c.procs.d.length
    ·have hw:=Xo (k:=k2) S.o
     by_cases q0: (0≤(ix c.procs.d (k2:Int)).prio∧(ix c.procs.d (k2:Int)).prio≤63)∧(0≤(ix c.procs.d (k2:Int)).period∧(ix c.procs.d (k2:Int)).period≤1000)∧(1≤(ix c.procs.d (k2:Int)).cost∧(ix c.procs.d (k2:Int)).cost≤1000000000)
     ·obtain⟨q1,q2,q3⟩:=q0
      have e1:decide ((ix c.procs.d (k2:Int)).prio<0∨63<(ix c.procs.d (k2:Int)).prio)=false:=decide_eq_false S.o
      have e2:decide ((ix c.procs.d (k2:Int)).period<0∨1000<(ix c.procs.d (k2:Int)).period)=false:=decide_eq_false S.o
      have e3:decide ((ix c.procs.d (k2:Int)).cost<1∨1000000000<(ix c.procs.d (k2:Int)).cost)=false:=decide_eq_false S.o
      have hall2:=JT (p:=fun j:Nat=>xCl (ix c.procs.d (j:Int))=true) hall (by unfold xCl;rw[xBM q1.1 q1.2,xBM q2.1 q2.2,xBM q3.1 q3.2];rfl)
      clear q1 q2 q3
      have hX:=I4 hw @e1 @e2 @e3;repeat' (first|refine S.x ?_|(refine G.call 52 ?_;refine S.c ?_ (h:=YA))|rintro _ _ ⟨rfl,rfl⟩|intro hb|fail)
      all_goals exact S.R (k2+1)
     ·have hX:=hw;repeat' (first|refine S.x ?_|refine S.y ?_ ?_|(refine G.call 52 ?_;refine S.c ?_ (h:=YA))|rintro _ _ ⟨rfl,rfl⟩|intro hb|fail)
      all_goals first
       |exact Tr.fin hK ⟨22,(fun h=>absurd h (by decide)),rfl,rfl⟩ S.E
       |(exfalso;simp only[decide_eq_false_iff_not,decide_eq_true_eq,Bool.not_eq_true]at*;omega)
    ·have hp2:=xba (p:=fun x:WZ=>xCl x=true) S.o hall
     clear hall
     by_cases h3:c.ports.d.length≤8
     ·repeat' (first|refine S.x ?_|fail)
      refine Tr.loopE (α:=Nat) [2,8] [1] (fun k=>[.int .i64 0,.int .i64 k]) (fun _=>[]) (fun k=>k≤c.ports.d.length∧∀j:Nat,j<k→xCm (ix c.ports.d (j:Int))=true) (fun k=>c.ports.d.length-k) 0 S.T rfl ⟨Nat.zero_le _,fun j hj=>absurd hj (Nat.not_lt_zero _)⟩ fun k3 u3 hk3=>?_
      obtain⟨hk3,hall⟩:=hk3
      simp only[List.nil_append]
      by_cases hin3:k3<c.ports.d.length
      ·have hw:=Xo (k:=k3) S.o
       by_cases q1:1≤(ix c.ports.d (k3:Int)).size∧(ix c.ports.d (k3:Int)).size≤64
       ·have e1:decide ((ix c.ports.d (k3:Int)).size<1∨64<(ix c.ports.d (k3:Int)).size)=false:=decide_eq_false S.o
        have b1:=xBM q1.1 q1.2
        cases hq: (ix c.ports.d (k3:Int)).q with
        | true=>
         by_cases q2:1≤(ix c.ports.d (k3:Int)).depth∧(ix c.ports.d (k3:Int)).depth≤16
         ·have e2:decide ((ix c.ports.d (k3:Int)).depth<1∨16<(ix c.ports.d (k3:Int)).depth)=false:=decide_eq_false S.o
          have hall2:=JT (p:=fun j:Nat=>xCm (ix c.ports.d (j:Int))=true) hall (by unfold xCm;rw[if_pos hq,b1,xBM q2.1 q2.2];rfl)
          clear q1 q2
          have hX:=I4 hw @e1 @e2 hq;repeat' (first|refine S.x ?_|(refine G.call 52 ?_;refine S.c ?_ (h:=YA))|rintro _ _ ⟨rfl,rfl⟩|intro hb|fail)
          all_goals exact S.R (k3+1)
         ·have e2:decide ((ix c.ports.d (k3:Int)).depth<1∨16<(ix c.ports.d (k3:Int)).depth)=true:=decide_eq_true S.o
          clear q1 q2
          have hX:=I4 hw @e1 @e2 hq;repeat' (first|refine S.x ?_|(refine G.call 52 ?_;refine S.c ?_ (h:=YA))|rintro _ _ ⟨rfl,rfl⟩|intro hb|fail)
          all_goals exact Tr.fin hK ⟨23,(fun h=>absurd h (by decide)),rfl,rfl⟩ S.E
        | false=>
         by_cases q2: (ix c.ports.d (k3:Int)).depth=0
         ·have hall2:=JT (p:=fun j:Nat=>xCm (ix c.ports.d (j:Int))=true) hall (by unfold xCm;rw[if_neg (by rw[hq];decide),b1,decide_eq_true q2];rfl)
          clear q1
          have hX:=I3 hw @e1 hq;repeat' (first|refine S.x ?_|(refine G.call 52 ?_;refine S.c ?_ (h:=YA))|rintro _ _ ⟨rfl,rfl⟩|intro hb|fail)
          all_goals exact S.R (k3+1)
         ·clear q1
          have hX:=I3 hw @e1 hq;repeat' (first|refine S.x ?_|(refine G.call 52 ?_;refine S.c ?_ (h:=YA))|rintro _ _ ⟨rfl,rfl⟩|intro hb|fail)
          all_goals exact Tr.fin hK ⟨23,(fun h=>absurd h (by decide)),rfl,rfl⟩ S.E
       ·have e1:decide ((ix c.ports.d (k3:Int)).size<1∨64<(ix c.ports.d (k3:Int)).size)=true:=decide_eq_true S.o
        clear q1
        have hX:=And.intro hw @e1;repeat' (first|refine S.x ?_|(refine G.call 52 ?_;refine S.c ?_ (h:=YA))|rintro _ _ ⟨rfl,rfl⟩|intro hb|fail)
        all_goals exact Tr.fin hK ⟨23,(fun h=>absurd h (by decide)),rfl,rfl⟩ S.E
      ·have hp3:=xba (p:=fun x:Zd=>xCm x=true) S.o hall
       clear hall
       have hob:=xIl (u0:=.agg (En.enc c).toArray) (c:=c) (hd:=⟨rfl⟩)
       by_cases h9: (1≤c.cap∧c.cap≤1000000000)∧(0≤c.budget∧c.budget≤1125899906842624)∧(0≤c.ladder∧c.ladder≤4)∧(c.acts.d.length:Int)=5
       ·obtain⟨r1,r2,r3,r4⟩:=h9
        have e1:decide (c.cap<1∨1000000000<c.cap)=false:=decide_eq_false S.o
        have e2:decide (c.budget<0∨1125899906842624<c.budget)=false:=decide_eq_false S.o
        have e3:decide (c.ladder<0∨4<c.ladder)=false:=decide_eq_false S.o
        have hX:=I4 @e1 @e2 @e3 @r4;repeat' (first|rintro _ _ ⟨rfl,rfl⟩|rintro _ _ ⟨b,hobs,rfl,rfl⟩|(refine G.call 93 ?_;refine S.c ?_ (h:=hob))|refine S.x ?_|refine S.y ?_ ?_|(refine G.call 52 ?_;refine S.c ?_ (h:=YA))|intro hb|fail)
        all_goals try exact Tr.fin hK ⟨24,(fun h=>absurd h (by decide)),rfl,rfl⟩ S.E
        have hobj:=hobs ‹_›
        refine Tr.loopE (α:=Nat) [2,10] [1] (fun k=>[.int .i64 0,.int .i64 k]) (fun _=>[]) (fun k=>k≤5∧∀j:Nat,j<k→inB (ix c.acts.d (j:Int)) 0 4=true) (fun k=>5-k) 0 S.T rfl ⟨Nat.zero_le _,fun j hj=>absurd hj (Nat.not_lt_zero _)⟩ fun k4 u4 hk4=>?_
        obtain⟨hk4,hall⟩:=hk4
        simp only[List.nil_append]
        by_cases hin4:k4<5
        ·have hw:=Xo (k:=k4) S.o
         by_cases q1:0≤ix c.acts.d (k4:Int)∧ix c.acts.d (k4:Int)≤4
         ·have e4:decide (ix c.acts.d (k4:Int)<0∨4<ix c.acts.d (k4:Int))=false:=decide_eq_false S.o
          have hall2:=JT (p:=fun j:Nat=>inB (ix c.acts.d (j:Int)) 0 4=true) hall (xBM q1.1 q1.2)
          clear q1
          have hX:=And.intro hw @e4;repeat' (first|refine S.x ?_|(refine G.call 52 ?_;refine S.c ?_ (h:=YA))|rintro _ _ ⟨rfl,rfl⟩|intro hb|fail)
          all_goals exact S.R (k4+1)
         ·have e4:decide (ix c.acts.d (k4:Int)<0∨4<ix c.acts.d (k4:Int))=true:=decide_eq_true S.o
          clear q1
          have hX:=And.intro hw @e4;repeat' (first|refine S.x ?_|(refine G.call 52 ?_;refine S.c ?_ (h:=YA))|rintro _ _ ⟨rfl,rfl⟩|intro hb|fail)
          all_goals exact Tr.fin hK ⟨20,(fun h=>absurd h (by decide)),rfl,rfl⟩ S.E
        ·have hp5:=xba (p:=fun x:Int=>inB x 0 4=true) S.o hall
         have hok:xCw c=0:=by
          refine xK2 hp1 S.o (xDs S.o hp2) (xDs S.o hp3) hobj ?_
          unfold xDY
          rw[xBM r1.1 r1.2,xBM r2.1 r2.2,xBM r3.1 r3.2,decide_eq_true r4,xDs S.o hp5]
          rfl
         repeat' (first|refine S.x ?_|fail)
         all_goals exact Tr.fin hK ⟨0,(fun _=>hok),rfl,rfl⟩ S.E
       ·repeat' (first|rintro _ _ ⟨rfl,rfl⟩|rintro _ _ ⟨b,hobs,rfl,rfl⟩|(refine G.call 93 ?_;refine S.c ?_ (h:=hob))|refine S.x ?_|refine S.y ?_ ?_|(refine G.call 52 ?_;refine S.c ?_ (h:=YA))|intro hb|fail)
        all_goals first
         |exact Tr.fin hK ⟨24,(fun h=>absurd h (by decide)),rfl,rfl⟩ S.E
         |exact Tr.fin hK ⟨20,(fun h=>absurd h (by decide)),rfl,rfl⟩ S.E
         |(exfalso;simp only[decide_eq_false_iff_not,decide_eq_true_eq,Bool.not_eq_true]at*;omega)
     ·repeat' (first|refine S.x ?_|fail)
      all_goals exact Tr.fin hK ⟨23,(fun h=>absurd h (by decide)),rfl,rfl⟩ S.E
   ·have e2:decide ((c.procs.d.length:Int)<1∨8<(c.procs.d.length:Int))=true:=decide_eq_true S.o
    have hX:=@e2;repeat' (first|refine S.x ?_|(refine G.call 52 ?_;refine S.c ?_ (h:=YA))|rintro _ _ ⟨rfl,rfl⟩|fail)
    all_goals exact Tr.fin hK ⟨22,(fun h=>absurd h (by decide)),rfl,rfl⟩ S.E
 ·repeat' (first|refine S.x ?_|intro hb|fail)
  all_goals exact Tr.fin hK ⟨21,(fun h=>absurd h (by decide)),rfl,rfl⟩ S.E
end
end
section
theorem xEB {x a:xBH} (h1:a.freq+1≤x.freq) (h0:0≤a.freq) (h9:a.freq≤10000) (h2:x.freq≤10000) (h3:0≤x.power) (h4:x.power≤1000000) (h5:IntKind.i64.wrap (a.power*x.freq)≤IntKind.i64.wrap (x.power*a.freq)):xB5 x a=true:=by
 unfold xB5
 rw[Ye (n:=a.freq+1) S.o S.o,xBM h1 h2,xBM h3 h4,decide_eq_true h5]
 rfl
theorem xKn {ls:List xBH} {naps:List xCP} {p:xDC} (h1:inB ls.length 1 6=true) (h2:xs2 xB5 default ls 0<0) (h3:xFE naps p=true): (xCd ls naps p).1=0:=by
 unfold xCd
 rw[h1,if_neg (by decide),if_neg S.o,h3,if_neg (by decide)]
attribute [local irreducible] xs2 inB xB0 xB9
section
theorem xLw {u0:Value} {p:xDC} [hd:DeA u0 p] {ls:List xBH} {naps:List xCP}:Xb prog 54 #[u0] [sl true p.levels.v ls,sl true p.naps.v naps]
  fun v l'=>∃f at_:Int,(f=0→(xCd ls naps p).1=0)∧v=.tuple #[.int .i64 f,.int .i64 at_]∧l'=[]:=by
 obtain rfl:=hd.h
 intro F K hK
 simp only[ap]at hK⊢
 obtain⟨p1,p2,p3,p4,p5,p6,p7,p8⟩:=p
 simp only at hK⊢
 refine S.I fun u=>?_
 by_cases h1:1≤(ls.length:Int)∧(ls.length:Int)≤6
 ·have b1:inB ls.length 1 6=true:=xBM h1.1 h1.2
  obtain⟨h1,h2⟩:=h1
  have hX:=@xD6.eq_def;repeat' (first|refine S.x ?_|intro hb|fail)
  refine Tr.loopE (α:=Nat) [2,3,5] [1,4] (fun k=>[.int .i64 0,.int .i64 0,.int .i64 k]) (fun _=>[]) (fun k=>k≤ls.length∧(0≤(ahd ls k).freq∧(ahd ls k).freq≤10000)∧xs2 xB5 default ls 0=xs2 xB5 (ahd ls k) (ls.drop k) k) (fun k=>ls.length-k) 0 S.T rfl ⟨Nat.zero_le _,⟨Int.le_refl 0,by show(0:Int)≤10000;decide⟩,rfl⟩ fun k u hk=>?_
  obtain⟨hk,⟨ha0,ha9⟩,hall⟩:=hk
  simp only[List.nil_append]
  by_cases hin:k<ls.length
  ·have hw:=Xo (k:=k) S.o
   by_cases q0: (1≤(ix ls (k:Int)).freq∧(ix ls (k:Int)).freq≤10000)∧(0≤(ix ls (k:Int)).power∧(ix ls (k:Int)).power≤1000000)
   ·obtain⟨⟨q1,q2⟩,q3,q4⟩:=q0
    have e1:decide ((ix ls (k:Int)).freq<1∨10000<(ix ls (k:Int)).freq)=false:=decide_eq_false S.o
    have e2:decide ((ix ls (k:Int)).power<0∨1000000<(ix ls (k:Int)).power)=false:=decide_eq_false S.o
    rw[xB1 hin]at hall
    have hi1:0≤(ahd ls (k+1)).freq∧(ahd ls (k+1)).freq≤10000:=⟨by show 0≤(ix ls (k:Int)).freq;omega,q2⟩
    cases k with
    |zero=>
     have hm:xB5 (ix ls ((0:Nat):Int)) (ahd ls 0)=true:=xEB (by show(0:Int)+1≤_;omega) ha0 ha9 q2 q3 q4 (by show IntKind.i64.wrap (0*_)≤IntKind.i64.wrap (_*0);rw[Int.zero_mul,Int.mul_zero];exact Int.le_refl _)
     rw[if_pos hm]at hall
     have hX:=I4 @xD6.eq_def hw @e1 @e2;repeat' (first|refine S.x ?_|(refine G.call 52 ?_;refine S.c ?_ (h:=YA))|rintro _ _ ⟨rfl,rfl⟩|intro hb|fail)
     all_goals exact S.R 1
    | succ j=>
     have hj:IntKind.i64.wrap (((j+1:Nat):Int)-1)=(j:Int):=by rw[Ye S.o S.o];omega
     have haj:ahd ls (j+1)=ix ls (j:Int):=rfl
     rw[haj]at hall ha0 ha9
     by_cases q5: (ix ls (j:Int)).freq<(ix ls ((j+1:Nat):Int)).freq
     ·by_cases q6:IntKind.i64.wrap ((ix ls ((j+1:Nat):Int)).power*(ix ls (j:Int)).freq)<IntKind.i64.wrap ((ix ls (j:Int)).power*(ix ls ((j+1:Nat):Int)).freq)
      ·have hX:=I5 @xD6.eq_def hw @e1 @e2 hj;repeat' (first|refine S.x ?_|(refine G.call 52 ?_;refine S.c ?_ (h:=YA))|rintro _ _ ⟨rfl,rfl⟩|intro hb|fail)
       all_goals exact Tr.fin hK ⟨27,_,(fun h=>absurd h (by decide)),rfl,rfl⟩ S.E
      ·have hm:xB5 (ix ls ((j+1:Nat):Int)) (ix ls (j:Int))=true:=xEB S.o ha0 ha9 q2 q3 q4 S.o
       rw[if_pos hm]at hall
       have hX:=I5 @xD6.eq_def hw @e1 @e2 hj;repeat' (first|refine S.x ?_|(refine G.call 52 ?_;refine S.c ?_ (h:=YA))|rintro _ _ ⟨rfl,rfl⟩|intro hb|fail)
       all_goals exact S.R (j+1+1)
     ·have hX:=I5 @xD6.eq_def hw @e1 @e2 hj;repeat' (first|refine S.x ?_|(refine G.call 52 ?_;refine S.c ?_ (h:=YA))|rintro _ _ ⟨rfl,rfl⟩|intro hb|fail)
      all_goals exact Tr.fin hK ⟨27,_,(fun h=>absurd h (by decide)),rfl,rfl⟩ S.E
   ·have hX:=And.intro @xD6.eq_def hw;repeat' (first|refine S.x ?_|refine S.y ?_ ?_|(refine G.call 52 ?_;refine S.c ?_ (h:=YA))|rintro _ _ ⟨rfl,rfl⟩|intro hb|fail)
    all_goals first
     |exact Tr.fin hK ⟨27,_,(fun h=>absurd h (by decide)),rfl,rfl⟩ S.E
     |(exfalso;simp only[decide_eq_false_iff_not,decide_eq_true_eq,Bool.not_eq_true]at*;omega)
  ·have hke:k=ls.length:=by omega
   subst hke
   rw[List.drop_length]at hall
   have hf:xs2 xB5 default ls 0<0:=by
    rw[hall]
    unfold xs2
    decide
   clear hall ha0 ha9
   by_cases h4:naps.length≤4
   ·have hX:=@xD6.eq_def;repeat' (first|refine S.x ?_|fail)
    refine Tr.loopE (α:=Nat) [2,3,7] [1,4] (fun k=>[.int .i64 0,.int .i64 0,.int .i64 k]) (fun _=>[]) (fun k=>k≤naps.length∧∀j:Nat,j<k→xDx (ix naps (j:Int))=true) (fun k=>naps.length-k) 0 S.T rfl ⟨Nat.zero_le _,fun j hj=>absurd hj (Nat.not_lt_zero _)⟩ fun k u hk=>?_
    obtain⟨hk,hall⟩:=hk
    simp only[List.nil_append]
    by_cases hin:k<naps.length
    ·have hw:=Xo (k:=k) S.o
     by_cases q0: (0≤(ix naps (k:Int)).power∧(ix naps (k:Int)).power≤1000000)∧(0≤(ix naps (k:Int)).enter∧(ix naps (k:Int)).enter≤100000000)∧(0≤(ix naps (k:Int)).wake∧(ix naps (k:Int)).wake≤100000000)
     ·obtain⟨q1,q2,q3⟩:=q0
      have e1:decide ((ix naps (k:Int)).power<0∨1000000<(ix naps (k:Int)).power)=false:=decide_eq_false S.o
      have e2:decide ((ix naps (k:Int)).enter<0∨100000000<(ix naps (k:Int)).enter)=false:=decide_eq_false S.o
      have e3:decide ((ix naps (k:Int)).wake<0∨100000000<(ix naps (k:Int)).wake)=false:=decide_eq_false S.o
      have hall2:=JT (p:=fun j:Nat=>xDx (ix naps (j:Int))=true) hall (by unfold xDx;rw[xBM q1.1 q1.2,xBM q2.1 q2.2,xBM q3.1 q3.2];rfl)
      clear q1 q2 q3
      have hX:=I5 @xD6.eq_def hw @e1 @e2 @e3;repeat' (first|refine S.x ?_|(refine G.call 52 ?_;refine S.c ?_ (h:=YA))|rintro _ _ ⟨rfl,rfl⟩|intro hb|fail)
      all_goals exact S.R (k+1)
     ·have hX:=And.intro @xD6.eq_def hw;repeat' (first|refine S.x ?_|refine S.y ?_ ?_|(refine G.call 52 ?_;refine S.c ?_ (h:=YA))|rintro _ _ ⟨rfl,rfl⟩|intro hb|fail)
      all_goals first
       |exact Tr.fin hK ⟨27,_,(fun h=>absurd h (by decide)),rfl,rfl⟩ S.E
       |(exfalso;simp only[decide_eq_false_iff_not,decide_eq_true_eq,Bool.not_eq_true]at*;omega)
    ·have hn:=xba (p:=fun x:xCP=>xDx x=true) S.o hall
     by_cases h9: (0≤p3∧p3≤100000000)∧(0≤p4∧p4≤1000000)∧(0≤p5∧p5≤1000000)∧(1≤p6∧p6≤1000000000)∧(1≤p7∧p7≤1000000)∧(0≤p8∧p8≤100000)
     ·obtain⟨r1,r2,r3,r4,r5,r6⟩:=h9
      have e1:decide (p3<0∨100000000<p3)=false:=decide_eq_false S.o
      have e2:decide (p4<0∨1000000<p4)=false:=decide_eq_false S.o
      have e3:decide (p5<0∨1000000<p5)=false:=decide_eq_false S.o
      have e4:decide (p6<1∨1000000000<p6)=false:=decide_eq_false S.o
      have e5:decide (p7<1∨1000000<p7)=false:=decide_eq_false S.o
      have e6:decide (p8<0∨100000<p8)=false:=decide_eq_false S.o
      have hok: (xCd ls naps ⟨p1,p2,p3,p4,p5,p6,p7,p8⟩).1=0:=by
       refine xKn b1 hf ?_
       unfold xFE
       simp only
       rw[xDs S.o hn,xBM r1.1 r1.2,xBM r2.1 r2.2,xBM r3.1 r3.2,xBM r4.1 r4.2,xBM r5.1 r5.2,xBM r6.1 r6.2]
       rfl
      clear r1 r2 r3 r4 r5 r6
      have hX:=I7 @xD6.eq_def @e1 @e2 @e3 @e4 @e5 @e6;repeat' (first|refine S.x ?_|(refine G.call 52 ?_;refine S.c ?_ (h:=YA))|rintro _ _ ⟨rfl,rfl⟩|fail)
      all_goals exact Tr.fin hK ⟨0,0,(fun _=>hok),rfl,rfl⟩ S.E
     ·have hX:=@xD6.eq_def;repeat' (first|refine S.x ?_|refine S.y ?_ ?_|(refine G.call 52 ?_;refine S.c ?_ (h:=YA))|rintro _ _ ⟨rfl,rfl⟩|intro hb|fail)
      all_goals first
       |exact Tr.fin hK ⟨27,_,(fun h=>absurd h (by decide)),rfl,rfl⟩ S.E
       |(exfalso;simp only[decide_eq_false_iff_not,decide_eq_true_eq,Bool.not_eq_true]at*;omega)
   ·have hX:=@xD6.eq_def;repeat' (first|refine S.x ?_|fail)
    all_goals exact Tr.fin hK ⟨27,_,(fun h=>absurd h (by decide)),rfl,rfl⟩ S.E
 ·have hX:=@xD6.eq_def;repeat' (first|refine S.x ?_|refine S.y ?_ ?_|intro hb|fail)
  all_goals first
   |exact Tr.fin hK ⟨27,_,(fun h=>absurd h (by decide)),rfl,rfl⟩ S.E
   |(exfalso;omega)
