import Derived.Test.YtmebccjndhlpoaaGreatIF
import Derived.Test.YtmebccjndhlpoaaGreatZ06
namespace Go.Proofs.YtmebccjndhlpoaaGreat
open Go Go.Wk Tryz
set_option maxHeartbeats 3200000
set_option maxRecDepth 100000
section
def okP (C:CC) (c:CM):Prop:=c.pts.map AP.c=C.conf.ports.d.take 8
section
variable {C:CC} {c c':CM} {k:Int} {s:XE} {n:Nat}
theorem Rch.pt (h:Rch C n c c'):c'.pts.map AP.c=c.pts.map AP.c:=by
 induction h with
 |trans _ _ h1 h2=>exact h2.trans h1
 |le _ _ h1=>exact h1
 |pts c ps h _=>exact h
 |_=>rfl
theorem Rch.okP (h:Rch C n c c') (hp:okP C c):Go.Proofs.YtmebccjndhlpoaaGreat.okP C c':=h.pt.trans hp
theorem xgQ (hc:okC C) (hp:okP C c) (a:Int):Yb c.pts a≤300:=by
 unfold Yb
 split
 ·rename_i hr
  have e:=congrArg (fun l=>(ix l a).size) hp
  simp only[ixR hr]at e
  rw[e]
  rcases ZH (C.conf.ports.d.take 8) a with h|h
  ·exact hc.oz _ (List.mem_of_mem_take h)
  ·rw[h];decide
 ·decide
theorem xgj (hc:okC C) (a:Int): (ix C.conf.pools.d a).size≤300:=by
 rcases ZH C.conf.pools.d a with h|h
 ·exact hc.pz _ h
 ·rw[h];decide
theorem xit (hc:okC C) (a:Int):ix C.conf.slates.d a≤300:=by
 rcases ZH C.conf.slates.d a with h|h
 ·exact hc.lz _ h
 ·rw[h];decide
theorem xeH (hc:okC C) (hk:inR C.progs k) (hs:s.ok) (hp:okP C c):Rch C 22 c (XR C c k s):=by
 unfold XR
 split
 ·exact .le (xnd hk) S.o
 ·split
  ·exact .le xjH S.o
  ·split
   ·exact .le (.note c _ _ _ _) S.o
   ·split
    ·exact .le (xpY hk hs (xgQ hc hp _)) S.o
    ·split
     ·exact xkG hk hs
     ·split
      ·exact .le (xpI hc hk hs (xgj hc _)) S.o
      ·split
       ·exact .le (xj7 hk hs) S.o
       ·split
        ·exact .le (.trans (.note c _ _ _ _) (J3 hk)) S.o
        ·split
         ·exact .le (xjA hk) S.o
         ·split
          ·exact .le (.note c _ _ _ _) S.o
          ·split
           ·exact .le xkC S.o
           ·exact .le (.trans (.note c _ _ _ _) (J3 hk)) S.o
end
end
section
attribute [local irreducible] BrK Xq Xt Xv XI FnK XZ Xw XC XV opX opK Yq Yk eqR Yj Yo Ys WL WD W X3 XO Tr drewK Ya X4 Yw Yv X1 YB mp blk rob sl sep ex fact old
section
attribute [local irreducible] Y1 X2 objX Zw
section
variable {b:Nat} {C:CC} {c:CM} {w:CW} {gs:List Xe} {k:Int} {s:XE}
theorem xqx (hc:okC C) (hr:Rel C c w gs) (hk:inR C.progs k) (hf:few c 22) (hs:s.ok) (hz: (ix C.conf.pools.d s.a).size≤300) (h0:18≤s.call) (h1:s.call≤19):
  Xb prog 196 #[ptr b,.int .i64 k,.agg (En.enc s).toArray] (Xh b C c w gs)
  fun v l'=>∃w2 gs2,Rel C (Yn C c k s) w2 gs2∧v=.tuple #[]∧l'=Xh b C (Yn C c k s) w2 gs2:=by
 by_cases e:s.call=18
 ·exact xsU hc hr hk hf hs hz e
 ·exact xsc hc hr hk hf hs hz S.o
theorem xm6 (hc:okC C) (hr:Rel C c w gs) (hk:inR C.progs k) (hf:few c 22) (hs:s.ok) (hz:ix C.conf.slates.d s.a≤300) (h0:20≤s.call) (h1:s.call≤22):
  Xb prog 197 #[ptr b,.int .i64 k,.agg (En.enc s).toArray] (Xh b C c w gs)
  fun v l'=>∃w2 gs2,Rel C (XN C c k s) w2 gs2∧v=.tuple #[]∧l'=Xh b C (XN C c k s) w2 gs2:=by
 by_cases e:s.call=20
 ·exact xof hc hr hk hf hs hz e
 ·by_cases e2:s.call=21
  ·exact xqM hc hr hk hf hs hz e2
  ·exact xpk hc hr hk hf hs hz S.o
theorem xjP (hc:okC C) (hr:Rel C c w gs) (hk:inR C.progs k) (hf:few c 22) (hs:s.ok) (h0:24≤s.call) (h1:s.call≤25):
  Xb prog 198 #[ptr b,.int .i64 k,.agg (En.enc s).toArray] (Xh b C c w gs)
  fun v l'=>∃w2 gs2,Rel C (Ze C c k s) w2 gs2∧v=.tuple #[]∧l'=Xh b C (Ze C c k s) w2 gs2:=by
 by_cases e:s.call=24
 ·exact xut hc hr hk hf hs e
 ·exact xtX hc hr hk hf hs S.o
theorem xoB (hc:okC C) (hr:Rel C c w gs) (hk:inR C.progs k) (hf:few c 22) (hs:s.ok) (hsl:c.slk.isSome=true) (hp:okP C c):
  Xb prog 135 #[ptr b,.int .i64 k,.agg (En.enc s).toArray] (Xh b C c w gs)
  fun v l'=>∃w2 gs2,Rel C (XR C c k s) w2 gs2∧v=.tuple #[]∧l'=Xh b C (XR C c k s) w2 gs2:=by
 intro F K hK
 simp only[ap]at hK⊢
 have hf1:few c 1:=by unfold few at*;omega
 have hf2:few c 2:=by unfold few at*;omega
 have hf3:=hf1
 unfold few at hf3
 have hpz:=xgQ hc hp
 have hoz:=xgj hc s.a
 have hlz:=xit hc s.a
 by_cases h7:1≤s.call∧s.call≤7
 ·obtain⟨a1,a2⟩:=h7
  have hsm:XR C c k s=if s.call≤3 then XY C c k s else Xk C c k s:=by
   unfold XR
   by_cases h3:s.call≤3
   ·rw[if_pos ⟨a1,h3⟩,if_pos h3]
   ·rw[if_neg (fun hh=>h3 hh.2),if_pos ⟨by omega,a2⟩,if_neg h3]
  rw[hsm]at hK
  have hcp:=xhe (b:=b) hc hr hk hf hs hsl a1 a2
  refine S.I fun u=>?_
  have hX:=@xaR.eq_def;repeat' (first|rintro _ _ ⟨w3,g3,hr3,rfl,rfl⟩|(refine G.call 193 ?_;refine S.c ?_ (h:=hcp))|refine S.x ?_|refine S.y ?_ ?_|intro hb|fail)
  all_goals exact Tr.fin hK ⟨w3,g3,hr3,rfl,rfl⟩ S.E
 ·by_cases hg:9≤s.call∧s.call≤12
  ·obtain⟨a1,a2⟩:=hg
   have hsm:XR C c k s=Yt C c k s:=by
    unfold XR
    rw[if_neg S.o,if_neg S.o,if_neg S.o,if_pos ⟨a1,a2⟩]
   rw[hsm]at hK
   have hcp:=xin (b:=b) hc hr hk hf2 hs (hpz _) a1 a2
   refine S.I fun u=>?_
   have hX:=@xaR.eq_def;repeat' (first|rintro _ _ ⟨w3,g3,hr3,rfl,rfl⟩|(refine G.call 194 ?_;refine S.c ?_ (h:=hcp))|refine S.x ?_|refine S.y ?_ ?_|intro hb|fail)
   all_goals exact Tr.fin hK ⟨w3,g3,hr3,rfl,rfl⟩ S.E
  ·by_cases hg:13≤s.call∧s.call≤17
   ·obtain⟨a1,a2⟩:=hg
    have hsm:XR C c k s=XG C c k s:=by
     unfold XR
     rw[if_neg S.o,if_neg S.o,if_neg S.o,if_neg S.o,if_pos ⟨a1,a2⟩]
    rw[hsm]at hK
    have hcp:=xka (b:=b) hc hr hk hf hs a1 a2
    refine S.I fun u=>?_
    have hX:=@xaR.eq_def;repeat' (first|rintro _ _ ⟨w3,g3,hr3,rfl,rfl⟩|(refine G.call 195 ?_;refine S.c ?_ (h:=hcp))|refine S.x ?_|refine S.y ?_ ?_|intro hb|fail)
    all_goals exact Tr.fin hK ⟨w3,g3,hr3,rfl,rfl⟩ S.E
   ·by_cases hg:18≤s.call∧s.call≤19
    ·obtain⟨a1,a2⟩:=hg
     have hsm:XR C c k s=Yn C c k s:=by
      unfold XR
      rw[if_neg S.o,if_neg S.o,if_neg S.o,if_neg S.o,if_neg S.o,if_pos S.o]
     rw[hsm]at hK
     have hcp:=xqx (b:=b) hc hr hk hf hs hoz a1 a2
     refine S.I fun u=>?_
     have hX:=@xaR.eq_def;repeat' (first|rintro _ _ ⟨w3,g3,hr3,rfl,rfl⟩|(refine G.call 196 ?_;refine S.c ?_ (h:=hcp))|refine S.x ?_|refine S.y ?_ ?_|intro hb|fail)
     all_goals exact Tr.fin hK ⟨w3,g3,hr3,rfl,rfl⟩ S.E
    ·by_cases hg:20≤s.call∧s.call≤22
     ·obtain⟨a1,a2⟩:=hg
      have hsm:XR C c k s=XN C c k s:=by
       unfold XR
       rw[if_neg S.o,if_neg S.o,if_neg S.o,if_neg S.o,if_neg S.o,if_neg S.o,if_pos ⟨a1,a2⟩]
      rw[hsm]at hK
      have hcp:=xm6 (b:=b) hc hr hk hf hs hlz a1 a2
      refine S.I fun u=>?_
      have hX:=@xaR.eq_def;repeat' (first|rintro _ _ ⟨w3,g3,hr3,rfl,rfl⟩|(refine G.call 197 ?_;refine S.c ?_ (h:=hcp))|refine S.x ?_|refine S.y ?_ ?_|intro hb|fail)
      all_goals exact Tr.fin hK ⟨w3,g3,hr3,rfl,rfl⟩ S.E
     ·by_cases hg:24≤s.call∧s.call≤25
      ·obtain⟨a1,a2⟩:=hg
       have hsm:XR C c k s=Ze C c k s:=by
        unfold XR
        rw[if_neg S.o,if_neg S.o,if_neg S.o,if_neg S.o,if_neg S.o,if_neg S.o,if_neg S.o,if_neg S.o,if_pos S.o]
       rw[hsm]at hK
       have hcp:=xjP (b:=b) hc hr hk hf hs a1 a2
       refine S.I fun u=>?_
       have hX:=@xaR.eq_def;repeat' (first|rintro _ _ ⟨w3,g3,hr3,rfl,rfl⟩|(refine G.call 198 ?_;refine S.c ?_ (h:=hcp))|refine S.x ?_|refine S.y ?_ ?_|intro hb|fail)
       all_goals exact Tr.fin hK ⟨w3,g3,hr3,rfl,rfl⟩ S.E
      ·by_cases hg:27≤s.call∧s.call≤27
       ·obtain⟨a1,a2⟩:=hg
        have hsm:XR C c k s=Vb C c k s:=by
         unfold XR
         rw[if_neg S.o,if_neg S.o,if_neg S.o,if_neg S.o,if_neg S.o,if_neg S.o,if_neg S.o,if_neg S.o,if_neg S.o,if_neg S.o,if_pos S.o]
        rw[hsm]at hK
        have hcp:=xks (b:=b) hc hr hk hf hs (Int.le_antisymm a2 a1)
        refine S.I fun u=>?_
        have hX:=@xaR.eq_def;repeat' (first|rintro _ _ ⟨w3,g3,hr3,rfl,rfl⟩|(refine G.call 199 ?_;refine S.c ?_ (h:=hcp))|refine S.x ?_|intro hb|fail)
        all_goals exact Tr.fin hK ⟨w3,g3,hr3,rfl,rfl⟩ S.E
       ·by_cases hg:s.call=8
        ·have hsm:XR C c k s=Xa C c k s.call 0 (c.win):=by
          unfold XR
          rw[if_neg S.o,if_neg S.o,if_pos hg,hg]
         rw[hsm]at hK
         have hrn:=fun s'=>Xs (k:=k) (call:=s.call) (code:=0) (value:=c.win) (s:=s') hr
         refine S.I fun u=>?_
         have hX:=@xaR.eq_def;repeat' (first|refine S.x ?_|(refine G.call 178 ?_;refine S.c ?_ (h:=Zq ?_))|rintro _ _ ⟨_,rfl,rfl⟩|(refine G.prop ?_;assumption)|intro hb|fail)
         all_goals
          rename_i sv
          refine Tr.fin hK ⟨{w with ev:=sv},gs,hrn sv,rfl,rfl⟩ ?_
          have hX:=@Xa.eq_def
          clear hg
          simp only[ap]
          exact S.E
        ·by_cases hg:s.call=26
         ·have hsm:XR C c k s=Xa C c k s.call 0 (c.mode):=by
           unfold XR
           rw[if_neg S.o,if_neg S.o,if_neg S.o,if_neg S.o,if_neg S.o,if_neg S.o,if_neg S.o,if_neg S.o,if_neg S.o,if_pos hg,hg]
          rw[hsm]at hK
          have hrn:=fun s'=>Xs (k:=k) (call:=s.call) (code:=0) (value:=c.mode) (s:=s') hr
          refine S.I fun u=>?_
          have hX:=@xaR.eq_def;repeat' (first|refine S.x ?_|(refine G.call 178 ?_;refine S.c ?_ (h:=Zq ?_))|rintro _ _ ⟨_,rfl,rfl⟩|(refine G.prop ?_;assumption)|intro hb|fail)
          all_goals
           rename_i sv
           refine Tr.fin hK ⟨{w with ev:=sv},gs,hrn sv,rfl,rfl⟩ ?_
           have hX:=@Xa.eq_def
           clear hg
           simp only[ap]
           exact S.E
         ·by_cases hg:s.call=23
          ·obtain⟨c1,hc1⟩:∃c1:CM,c1=Xa C c k s.call 0 s.a:=⟨_,rfl⟩
           have hr1:∀s,Rel C c1 {w with ev:=s} gs:=fun s=>by rw[hc1];exact Xs hr
           have hf4:few c1 1:=by unfold few at*;rw[hc1];simp only[Xa,List.length_append,List.length_cons,List.length_nil];omega
           have hsm:XR C c k s=Yx C c1 k 3:=by
            unfold XR
            rw[if_neg S.o,if_neg S.o,if_neg S.o,if_neg S.o,if_neg S.o,if_neg S.o,if_neg S.o,if_pos hg,hc1,hg]
           rw[hsm]at hK
           have hcf:=fun s=>VN (b:=b) (kind:=3) hc (hr1 s) hk hf4 (by decide) (by decide)
           refine S.I fun u=>?_
           have hX:=@xaR.eq_def;repeat' (first|refine S.x ?_|(refine G.call 178 ?_;refine S.c ?_ (h:=Zq ?_))|rintro _ _ ⟨_,rfl,rfl⟩|(refine G.prop ?_;assumption)|intro hb|fail)
           all_goals
            rename_i sv
            refine Tr.imp (l':=Xh b C c1 {w with ev:=sv} gs++F) ?_ ?_
            ·subst hc1
             clear hg
             simp only[ap]
             have hX:=@Xa.eq_def
             show Xd [] _ _
             exact S.E
            clear hc1 hr1 hr hsm
            simp only[ap]
            have hX:=@xaR.eq_def;repeat' (first|rintro _ _ ⟨w3,g3,hr3,rfl,rfl⟩|(refine G.call 179 ?_;refine S.c ?_ (h:=hcf sv))|refine S.x ?_|fail)
            all_goals exact Tr.fin hK ⟨w3,g3,hr3,rfl,rfl⟩ S.E
          ·obtain⟨c1,hc1⟩:∃c1:CM,c1=Xa C c k s.call 7 0:=⟨_,rfl⟩
           have hr1:∀s,Rel C c1 {w with ev:=s} gs:=fun s=>by rw[hc1];exact Xs hr
           have hf4:few c1 1:=by unfold few at*;rw[hc1];simp only[Xa,List.length_append,List.length_cons,List.length_nil];omega
           have hsm:XR C c k s=Yx C c1 k 1:=by
            unfold XR
            rw[if_neg S.o,if_neg S.o,if_neg S.o,if_neg S.o,if_neg S.o,if_neg S.o,if_neg S.o,if_neg S.o,if_neg S.o,if_neg S.o,if_neg S.o,hc1]
           rw[hsm]at hK
           have hcf:=fun s=>VN (b:=b) (kind:=1) hc (hr1 s) hk hf4 (by decide) (by decide)
           refine S.I fun u=>?_
           have hX:=@xaR.eq_def;repeat' (first|refine S.x ?_|(refine G.call 178 ?_;refine S.c ?_ (h:=Zq ?_))|rintro _ _ ⟨_,rfl,rfl⟩|(refine G.prop ?_;assumption)|intro hb|fail)
           all_goals
            rename_i sv
            refine Tr.imp (l':=Xh b C c1 {w with ev:=sv} gs++F) ?_ ?_
            ·subst hc1
             simp only[ap]
             have hX:=@Xa.eq_def
             show Xd [] _ _
             exact S.E
            clear hc1 hr1 hr hsm
            simp only[ap]
            have hX:=@xaR.eq_def;repeat' (first|rintro _ _ ⟨w3,g3,hr3,rfl,rfl⟩|(refine G.call 179 ?_;refine S.c ?_ (h:=hcf sv))|refine S.x ?_|fail)
            all_goals exact Tr.fin hK ⟨w3,g3,hr3,rfl,rfl⟩ S.E
end
end
section
def xoC (c:CM):Prop:=∀x∈c.rest,0≤x∧x≤1073741824
def xc8 (c:CM) (cyc:Int):Int:=if X0 c<cyc then X0 c else cyc
def xcH (c:CM) (cyc:Int):Int:=if xc8 c cyc<1 then 0 else xc8 c cyc
def xaO (C:CC) (c:CM) (cyc:Int):CM:=if xc8 c cyc<1 then c else xan C c (XJ c) (xc8 c cyc)
def Yc (c:CM) (m:SlM) (k n:Int):CM:={c with slk:=some (X8 m k n),rest:=c.rest.set k.toNat (ix c.rest k-n)}
section
variable {C:CC} {c c':CM} {w:CW} {gs:List Xe} {k n:Int} {m:SlM} {j:Nat}
theorem xct {n:Int}:1≤WQ n∧WQ n≤1073741824:=by
 unfold WQ
 split
 ·exact⟨by decide,by decide⟩
 ·split
  ·exact⟨by decide,by decide⟩
  ·omega
theorem xny {o:Option Nat} (ho:o.isSome=true) (h:Rel C c w gs) (hk:inR C.progs k):Rel C (Yc c m k n) {w with slk:=o} (gs.set k.toNat {ix gs k with rest:=ix c.rest k-n}):=by
 have hg:=ZO h hk
 refine⟨⟨h.ok.tb,h.ok.pos,by simpa [Yc]using h.ok.rest,h.ok.addr,h.ok.data,h.ok.done,h.ok.pi,h.ok.ad,h.ok.dl⟩,(X6 (f:=Xe.prog) hg (by rfl)).trans h.hp,(X6 (f:=Xe.pos) hg (by rfl)).trans h.hi,?_,(X6 (f:=Xe.addr) hg (by rfl)).trans h.ha,(X6 (f:=Xe.done) hg (by rfl)).trans h.hd,fun j hj hw=>?_,ho,h.hq⟩
 ·rw[List.map_set,h.hr];rfl
 ·have hj':inR gs j:=by unfold inR at*;simpa using hj
  rw[YY hg hj'.1]
  by_cases e:j=k
  ·rw[if_pos e];subst e;exact h.hw j hj' hw
  ·rw[if_neg e];exact h.hw j hj' hw
theorem xmw (h:¬X0 c<1):∃m,c.slk=some m∧c.mode=3∧¬XJ c<0∧X0 c=Zn (ix c.rest (XJ c)) (ofM m (XJ c)) m.room:=by
 rcases Option.eq_none_or_eq_some c.slk with hm|⟨m,hm⟩
 ·refine absurd (show X0 c<1 from ?_) h
  unfold X0;rw[hm];exact Int.zero_lt_one
 ·by_cases h3:c.mode=3
  ·by_cases hp:XJ c<0
   ·refine absurd (show X0 c<1 from ?_) h
    unfold X0;rw[hm];simp only;rw[if_pos h3,if_pos hp];decide
   ·refine⟨m,hm,h3,hp,?_⟩
    unfold X0;rw[hm];simp only;rw[if_pos h3,if_neg hp]
  ·refine absurd (show X0 c<1 from ?_) h
   unfold X0;rw[hm];simp only;rw[if_neg h3];decide
end
attribute [local irreducible] Y1 X2 objX slkX
section
variable {b:Nat} {C:CC} {c:CM} {w:CW} {gs:List Xe} {k cyc:Int} {s:XE}
theorem xgP (hc:okC C) (hr:Rel C c w gs) (hf:few c 40) (hd:dP c) (hp:okP C c) (hrs:xoC c):
  Xb prog 86 #[ptr b,.int .i64 cyc] (Xh b C c w gs)
  fun v l'=>∃w2 gs2,Rel C (xaO C c cyc) w2 gs2∧v=.int .i64 (xcH c cyc)∧l'=Xh b C (xaO C c cyc) w2 gs2:=by
 intro F K hK
 simp only[ap]at hK⊢
 have hcw:=xao (b:=b) hc hr
 obtain⟨n,hn⟩:∃n,n=xc8 c cyc:=⟨_,rfl⟩
 have hmi: (if X0 c<cyc then X0 c else cyc)=n:=hn.symm
 by_cases h1:n<1
 ·have e1:xaO C c cyc=c:=by unfold xaO;rw[←hn,if_pos h1]
  have e2:xcH c cyc=0:=by unfold xcH;rw[←hn,if_pos h1]
  rw[e1,e2]at hK
  refine S.I fun u=>?_
  have hX:=hmi;repeat' (first|rintro _ _ ⟨rfl,rfl⟩|(refine G.call 84 ?_;refine S.c ?_ (h:=hcw))|refine S.x ?_|fail)
  all_goals exact Tr.fin hK ⟨w,gs,hr,rfl,rfl⟩ S.E
 ·have hwn:n≤X0 c:=by rw[hn];unfold xc8;split<;>omega
  obtain⟨m,hm,h3,hp0,hwm⟩:=xmw (c:=c) S.o
  obtain⟨q1,q2,q3,_⟩:=@Qu (ix c.rest (XJ c)) (ofM m (XJ c)) m.room
  have hk:=xaH hr hp0
  have hwho:Yl c=XJ c:=by unfold Yl;rw[hm];simp only;rw[if_pos h3]
  have e1:xaO C c cyc=xan C c (XJ c) n:=by unfold xaO;rw[←hn,if_neg h1]
  have e2:xcH c cyc=n:=by unfold xcH;rw[←hn,if_neg h1]
  rw[e1,e2]at hK
  have hnx:=xdZ (b:=b) hc hr
  rw[hwho]at hnx
  obtain⟨sb,hsb⟩:=Qe hr hm
  have hsp:slP w.slk=.pointer (some ⟨sb,0,none⟩):=by rw[hsb];rfl
  have hsl:Zw w.slk c.slk=slkX sb m:=by rw[hsb,hm];rfl
  have hn1:n≤ix c.rest (XJ c):=by omega
  generalize XJ c=k at*
  obtain⟨g0,g9⟩:=ZO hr hk
  have hmp:=Xp (f:=Xe.pt) (xs:=gs) (k:=k) g0 g9
  have hlm: (gs.map Xe.pt).length=gs.length:=List.length_map _
  have hre: (ix gs k).rest=ix c.rest k:=by rw[←hr.hr,Xp (f:=Xe.rest) g0 g9]
  have hpo: (ix gs k).pos=ix c.pos k:=by rw[←hr.hi,Xp (f:=Xe.pos) g0 g9]
  have hrk:inR c.rest k:=by unfold inR at*;rw[hr.ok.rest];exact hk
  have hrb:=hrs _ (List.mem_of_getElem? (Yi hrk.1 hrk.2))
  have hwr:IntKind.i64.wrap (ix c.rest k-n)=ix c.rest k-n:=Ye S.o S.o
  obtain⟨c1,hc1⟩:∃c1,c1=Yc c m k n:=⟨_,rfl⟩
  have hrm:xan C c k n=if ix c.rest k-n=0 then XM C 100 (XR C (toM C c1 k (ix c.pos k+1)) k (ix (ix C.progs k) (ix c.pos k)))else XM C 100 c1:=by
   rw[hc1];unfold xan Yc;rw[hm];rfl
  rw[hrm]at hK
  have hr1:Rel C c1 w (gs.set k.toNat {ix gs k with rest:=ix c.rest k-n}):=by
   rw[hc1]
   have:=xny (m:=m) (n:=n) (o:=some sb) rfl hr hk
   rw[←hsb]at this
   exact this
  refine S.I fun u=>?_
  have hX:=hmi;repeat' (first|rintro _ _ ⟨rfl,rfl⟩|(refine G.call 84 ?_;refine S.c ?_ (h:=hcw))|(refine G.call 129 ?_;refine S.c ?_ (h:=hnx))|refine S.x ?_|intro hb|fail)
  obtain⟨g1,hg1⟩:∃g1:Xe,g1={ix gs k with rest:=ix c.rest k-n}:=⟨_,rfl⟩
  rw[←hg1]at hr1
  have hpt1: (gs.set k.toNat g1).map Xe.pt=gs.map Xe.pt:=X6 ⟨g0,g9⟩ (by rw[hg1];rfl)
  have hs1:Zw w.slk c1.slk=slkX sb (X8 m k n):=by rw[hsb,hc1];rfl
  have hsi:c1.slk.isSome=true:=by rw[hc1];rfl
  have hd1:dP c1:=by rw[hc1];exact hd
  have hp1:okP C c1:=by rw[hc1];exact hp
  have hf1:few c1 40:=by rw[hc1];exact hf
  simp only[hsl]
  have hX:=I3 hsp hmp @Xe.pt.eq_def;repeat' (first|rintro _ _ ⟨rfl,rfl⟩|(refine G.call 133 ?_;refine S.c ?_ (h:=xmU))|refine S.x ?_|fail)
  refine Tr.famAt (xs:=gs) k S.K S.o S.o (Y5 ?_)
  have hpr:=xg7 hr hk
  generalize hgk:ix gs k=gk at*
  obtain⟨gb,gps,gprog,gpos,grest,gaddr,gds,gdd,gdone⟩:=gk
  simp only at hre hpo hpr hg1
  subst hre hpo hpr
  have hsx: (gs.set k.toNat g1).map Xe.pt=gs.map Xe.pt:=hpt1
  by_cases he:ix c.rest k-n=0
  ·rw[if_pos he]at hK
   have hpi:0≤ix c.pos k∧ix c.pos k<(ix C.progs k).length:=by
    rcases hr.ok.pi k with h|h
    ·exact h
    ·exact absurd hk h
   have hpl:=W7 hc hk
   have hwp:IntKind.i64.wrap (ix c.pos k+1)=ix c.pos k+1:=Ye S.o S.o
   have hst:=xhW (g:=g1) (by rw[hg1];exact hpi.1) (by rw[hg1];exact hpi.2)
   have hse:=xf7 (g:=g1) (i:=ix c.pos k+1) S.o (by rw[hg1];simp only;omega) (by rw[hg1];simp only;omega)
   obtain⟨g2,hg2⟩:∃g2,g2=g1.to (ix c.pos k+1):=⟨_,rfl⟩
   obtain⟨c2,hc2⟩:∃c2,c2=toM C c1 k (ix c.pos k+1):=⟨_,rfl⟩
   have hR2:Rch C 0 c1 c2:=by rw[hc2];exact .to c1 k _ hk S.o S.o
   have hr2:Rel C c2 w (gs.set k.toNat g2):=by
    have h:=xoi (i:=ix c.pos k+1) hc hr1 hk S.o S.o
    rw[YY ⟨g0,g9⟩ g0,if_pos rfl,List.set_set]at h
    rw[hc2,hg2];exact h
   have hpt2: (gs.set k.toNat g2).map Xe.pt=gs.map Xe.pt:=X6 ⟨g0,g9⟩ (by rw[hg2,hgk,hg1];rfl)
   have hsok: (ix (ix C.progs k) (ix c.pos k)).ok:=(hc.pr _ (xac hk)).2.2 _ (List.mem_of_getElem? (Yi hpi.1 hpi.2))
   have hcc:=xoB (b:=b) hc hr2 hk (hR2.few (k:=22) (by unfold few at*;omega)) hsok (by rw[hR2.sk];exact hsi) (hR2.okP hp1)
   have hR3:=Rch.trans hR2 (xeH (c:=c2) hc hk hsok (hR2.okP hp1))
   rw[←hc2]at hK
   generalize hsc:ix (ix C.progs k) (ix c.pos k)=sc at*
   obtain⟨c3,hc3⟩:∃c3,c3=XR C c2 k sc:=⟨_,rfl⟩
   rw[←hc3]at hcc hK hR3
   have hcs:=fun w g (h:Rel C c3 w g)=>xbl (b:=b) hc h (hR3.few (k:=8) (by unfold few at*;omega)) (hR3.dP hc hr1.ok hd1) (by rw[hR3.sk];exact hsi)
   obtain⟨cR,hcR⟩:∃cR,cR=XM C 100 c3:=⟨_,rfl⟩
   rw[←hcR]at hcs hK
   have hsx2:∀sl2:Xc,Zw w.slk c2.slk=Zw w.slk c1.slk:=fun _=>by rw[hc2];rfl
   subst hg1
   simp only at hst hse
   rw[hsc]at hst
   have hX:=I5 hsp hmp @Xe.pt.eq_def hwr hwp;repeat' (first|rintro _ _ ⟨rfl,rfl⟩|(refine G.call 134 ?_;refine S.c ?_ (h:=hst))|(refine G.call 115 ?_;refine S.c ?_ (h:=hse))|refine S.x ?_|intro hb|fail)
   refine Tr.imp (l':=Xh b C c2 w (gs.set k.toNat g2)++F) ?_ ?_
   ·simp only[ap]
    rw[hpt2,hsx2 (fact True),hs1]
    subst hc2 hc1 hg2
    have hX:=I4 @Zg.eq_def @Xe.to.eq_def @toM.eq_def @Yc.eq_def
    clear he hR2 hR3 hrm hcc
    show Xd [] _ _
    exact S.E
   clear hc1 hc2 hc3 hcR hr hr1 hrm hs1 hsl hgk hR2 hR3 hst hse hsx hsx2 hg2
   simp only[ap]
   repeat' (first|rintro _ _ ⟨w3,g3,hr3,rfl,rfl⟩|(refine G.call 135 ?_;refine S.c ?_ (h:=hcc))|(refine G.call 126 ?_;refine S.c ?_ (h:=hcs _ _ hr3))|refine S.x ?_|fail)
   all_goals exact Tr.fin hK ⟨w3,g3,hr3,rfl,rfl⟩ S.E
  ·rw[if_neg he]at hK
   have hcs:=xbl (b:=b) hc hr1 (by unfold few at*;omega) hd1 hsi
   have hX:=I4 hsp hmp @Xe.pt.eq_def hwr;repeat' (first|refine S.x ?_|fail)
   refine Tr.imp (l':=Xh b C c1 w (gs.set k.toNat g1)++F) ?_ ?_
   ·simp only[ap]
    rw[hpt1,hs1]
    subst hc1 hg1
    have hX:=And.intro @Zg.eq_def @Yc.eq_def
    show Xd [] _ _
    exact S.E
   obtain⟨cR,hcR⟩:∃cR,cR=XM C 100 c1:=⟨_,rfl⟩
   rw[←hcR]at hcs hK
   clear hc1 hg1 hr hr1 hrm hcR hs1 hsl hgk
   simp only[ap]
   repeat' (first|rintro _ _ ⟨w3,g3,hr3,rfl,rfl⟩|(refine G.call 126 ?_;refine S.c ?_ (h:=hcs))|refine S.x ?_|fail)
   all_goals exact Tr.fin hK ⟨w3,g3,hr3,rfl,rfl⟩ S.E
end
end
end
instance xwA {a1 a2 a3 a4 a5 a6:Int} {l:List Xc}:De l (.agg #[.int .i64 a1,.int .i64 a2,.int .i64 a3,.int .i64 a4,.int .i64 a5,.int .i64 a6]) (XE.mk a1 a2 a3 a4 a5 a6):=⟨rfl⟩
section
attribute [local irreducible] BrK Xq Xt Xv XI FnK XZ Xw XC XV opX opK Yq Yk eqR Yj Yo Ys WL WD W X3 XO Tr drewK Ya X4 Yw Yv X1 YB mp blk rob sl sep ex fact old
section
attribute [local irreducible] Y1 X2 objX Zw
section
variable {b:Nat} {C:CC} {c:CM} {w:CW} {gs:List Xe} {mode win:Int}
theorem xm2 {ro:Bool} {s:SV} {xs:List EvC} (hn:xs.length≤1000000000):Xb prog 200 #[s.v] [sl ro s.v xs]
  fun v l'=>∃s':SV,v=s'.v∧l'=[sl false s'.v xs,sl ro s.v xs]:=by
 intro F K hK
 simp only[ap]
 refine S.I fun u=>?_
 repeat' (first|refine S.x ?_|refine S.y ?_ ?_|intro hb|fail)
 ·refine Tr.slNil (ro:=ro) (xs:=xs) hb fun hx=>?_
  subst hx
  refine Tr.nilSl (α:=EvC) ?_
  refine Tr.fin hK ⟨⟨none,0,0⟩,rfl,rfl⟩ ?_
  exact S.E
 ·apply Tr.fin hK ⟨_,rfl,rfl⟩
  exact S.E
theorem xnh {s:SV} {xs:List XE} (hn:xs.length≤1000000000):Xb prog 76 #[s.v] [sl true s.v xs]
  fun v l'=>∃s':SV,v=s'.v∧l'=[sl false s'.v xs]:=by
 intro F K hK
 simp only[ap]
 refine S.I fun u=>?_
 repeat' (first|refine S.x ?_|refine S.y ?_ ?_|intro hb|fail)
 ·refine Tr.slNil (ro:=true) (xs:=xs) hb fun hx=>?_
  subst hx
  refine Tr.nilSl (α:=XE) ?_
  refine Tr.fin hK ⟨⟨none,0,0⟩,rfl,rfl⟩ ?_
  exact S.E
 ·apply Tr.fin hK ⟨_,rfl,rfl⟩
  exact S.E
theorem xdF (hn:c.evs.length≤1000000000):Xb prog 136 #[ptr b] [ZA b C mode win w,sl false w.ev.v c.evs]
  fun v l'=>∃s':SV,v=s'.v∧l'=[sl false s'.v c.evs,ZA b C mode win w,sl false w.ev.v c.evs]:=by
 intro F K hK
 simp only[ap]
 refine S.I fun u=>?_
 repeat' (first|refine S.x ?_|(refine G.call 78 ?_;refine S.c ?_ (h:=JF))|(refine G.call 200 ?_;refine S.c ?_ (h:=xm2 ‹_›))|rintro _ _ ⟨rfl,rfl⟩|rintro _ _ ⟨_,rfl,rfl⟩|fail)
 all_goals
  apply Tr.fin hK ⟨_,rfl,rfl⟩
  exact S.E
theorem WW:Xb prog 42 #[ptr b] [ZA b C mode win w]
  fun v l'=>v=ptr w.pts∧l'=[ZA b C mode win w]:=by
 intro F K hK
 simp only[ap]
 refine S.I fun u=>?_
 repeat' (first|refine S.x ?_|(refine G.call 78 ?_;refine S.c ?_ (h:=JF))|rintro _ _ ⟨rfl,rfl⟩|fail)
 all_goals exact S.L
theorem xsy:Xb prog 89 #[ptr b] [ZA b C mode win w]
  fun v l'=>v=.int .i64 win∧l'=[ZA b C mode win w]:=by
 intro F K hK
 simp only[ap]
 refine S.I fun u=>?_
 repeat' (first|refine S.x ?_|(refine G.call 78 ?_;refine S.c ?_ (h:=JF))|rintro _ _ ⟨rfl,rfl⟩|fail)
 all_goals exact S.L
theorem xcr:Xb prog 75 #[] []
  fun v l'=>∃s:SV,v=s.v∧l'=[sl false s.v [XE.mk 1 3 0 0 0 0]]:=by
 intro F K hK
 simp only[List.nil_append]
 refine S.I fun u=>?_
 repeat' (first|intro(sv:SV)|refine S.x ?_|fail)
 all_goals exact Tr.fin hK ⟨sv,rfl,rfl⟩ S.E
end
end
end
instance:Fz XE:=⟨fun p=>sep (Fz.fz p.cycles) (sep (Fz.fz p.call) (sep (Fz.fz p.a) (sep (Fz.fz p.b) (sep (Fz.fz p.c) (sep (Fz.fz p.d) (fact True)))))),fun _=>XX (Fz.dup _) (XX (Fz.dup _) (XX (Fz.dup _) (XX (Fz.dup _) (XX (Fz.dup _) (XX (Fz.dup _) (xBP _))))))⟩
