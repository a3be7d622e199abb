import Derived.Test.YtmebccjndhlpoaaGreatZ32
namespace Go.Proofs.YtmebccjndhlpoaaGreat
open Go Go.Wk Tryz
set_option maxHeartbeats 3200000
set_option maxRecDepth 100000
section
section
variable {C:CC} {c:CM} {w:CW} {gs:List Xe} {k wk:Int} {t:Tb}
theorem xir (hl:inR t.d k):JY t (t.wait k 2 0 wk):=fun j hj=>by
 rw[xk0 hl]at hj
 by_cases e:j=k
 ·rw[if_pos e]at hj
  have h1: (t.putP {t.at k with call:=2,what:=0,wake:=wk} 2).call=2:=by unfold Tb.putP;simp
  rcases hj.2 with h|h
  ·rw[h1]at h;omega
  ·rw[h1]at h;omega
 ·rw[if_neg e]at hj;exact hj
end
end
section
attribute [local irreducible] BrK Xq Xt Xv XI FnK XZ Xw XC XV opX opK Yq Yk eqR Yj Yo Ys WL WD W X3 XO Tr drewK Ya X4 Yw Yv X1 YB mp blk rob sl sep ex fact old
section
attribute [local irreducible] Y1 X2 objX Zw
section
variable {b:Nat} {C:CC} {c:CM} {w:CW} {gs:List Xe} {k:Int} {s:XE}
theorem xv7 (hc:okC C) (hr:Rel C c w gs) (hk:inR C.progs k) (hf:few c 22) (_hs:s.ok) (hsl:c.slk.isSome=true) (h:s.call=1):
  Xb prog 229 #[ptr b,.int .i64 k,.agg (En.enc s).toArray] (Xh b C c w gs)
  fun v l'=>∃w2 gs2,Rel C (XY C c k s) w2 gs2∧v=.tuple #[]∧l'=Xh b C (XY C c k s) w2 gs2:=by
 intro F K hK
 simp only[ap]at hK⊢
 have hf1:few c 1:=by unfold few at*;omega
 have hf2:few c 2:=by unfold few at*;omega
 have hf3:=hf1
 unfold few at hf3
 have h8:=hc.n8
 have htl:c.tb.d.length≤1000000:=by rw[hr.ok.tb];omega
 have hca:decide (s.call=1)=true:=by rw[h];rfl
 have hcb:decide (s.call=3)=false:=by rw[h];rfl
 obtain⟨m,hm⟩:=Option.isSome_iff_exists.1 hsl
 have hpk:inR C.conf.procs.d k:=by unfold inR at*;rw[hc.np];exact hk
 obtain⟨p0,p1⟩:=hpk
 refine S.I fun u=>?_
 by_cases hp:0<(ix C.conf.procs.d k).period
 ·obtain⟨c1,hc1⟩:∃c1:CM,c1=XW c k 4:=⟨_,rfl⟩
  have hr1:Rel C c1 w gs:=by rw[hc1];exact WO hr Zf VQ
  have hm1:c1.slk=some m:=by rw[hc1];exact hm
  have hsm:XY C c k s=YX c1 k:=by unfold XY;rw[if_pos h,if_pos hp,hc1]
  rw[hsm]at hK
  have hcr:=xdE (b:=b) hr1 hk hm1
  have hX:=I3 @xDT.eq_def hca hcb;repeat' (first|refine S.x ?_|(refine G.call 220 ?_;refine S.c ?_ (h:=xeb _ _ _ _))|rintro _ _ ⟨rfl,rfl⟩|intro hb|fail)
  refine Tr.imp (l':=Xh b C c1 w gs++F) ?_ ?_
  ·subst hc1
   clear h hca hcb
   simp only[ap]
   have hX:=@XW.eq_def
   show Xd [] _ _
   exact S.E
  clear hc1 hr1 hr hsm
  simp only[ap]
  have hX:=@xDT.eq_def;repeat' (first|rintro _ _ ⟨g3,hr3,rfl,rfl⟩|(refine G.call 188 ?_;refine S.c ?_ (h:=hcr))|refine S.x ?_|fail)
  all_goals exact Tr.fin hK ⟨_,g3,hr3,rfl,rfl⟩ S.E
 ·have hsm:XY C c k s=Xa C c k s.call 4 0:=by unfold XY;rw[if_pos h,if_neg hp,h]
  rw[hsm]at hK
  have hrn:=fun s'=>Xs (k:=k) (call:=s.call) (code:=4) (value:=0) (s:=s') hr
  have hX:=I3 @xDT.eq_def hca hcb;repeat' (first|refine S.x ?_|(refine G.call 231 ?_;refine S.c ?_ (h:=Xx ?_))|rintro _ _ ⟨_,rfl,rfl⟩|(refine G.prop ?_;assumption)|intro hb|fail)
  all_goals
   rename_i sv
   refine Tr.fin hK ⟨{w with ev:=sv},gs,hrn sv,rfl,rfl⟩ ?_
   have hX:=@Xa.eq_def
   clear h hca hcb
   simp only[ap]
   exact S.E
theorem xw1 (hc:okC C) (hr:Rel C c w gs) (hk:inR C.progs k) (hf:few c 22) (_hs:s.ok) (hsl:c.slk.isSome=true) (h:s.call=3):
  Xb prog 229 #[ptr b,.int .i64 k,.agg (En.enc s).toArray] (Xh b C c w gs)
  fun v l'=>∃w2 gs2,Rel C (XY C c k s) w2 gs2∧v=.tuple #[]∧l'=Xh b C (XY C c k s) w2 gs2:=by
 intro F K hK
 simp only[ap]at hK⊢
 have hf1:few c 1:=by unfold few at*;omega
 have hf2:few c 2:=by unfold few at*;omega
 have hf3:=hf1
 unfold few at hf3
 have h8:=hc.n8
 have htl:c.tb.d.length≤1000000:=by rw[hr.ok.tb];omega
 have hca:decide (s.call=1)=false:=by rw[h];rfl
 have hcb:decide (s.call=3)=true:=by rw[h];rfl
 obtain⟨m,hm⟩:=Option.isSome_iff_exists.1 hsl
 have hpk:inR C.conf.procs.d k:=by unfold inR at*;rw[hc.np];exact hk
 obtain⟨p0,p1⟩:=hpk
 refine S.I fun u=>?_
 by_cases hp:0<(ix C.conf.procs.d k).period
 ·have hsm:XY C c k s=Xa C c k s.call 4 0:=by unfold XY;rw[if_neg (by rw[h];decide),if_pos h,if_pos hp,h]
  rw[hsm]at hK
  have hrn:=fun s'=>Xs (k:=k) (call:=s.call) (code:=4) (value:=0) (s:=s') hr
  have hX:=I3 @xDT.eq_def hca hcb;repeat' (first|refine S.x ?_|(refine G.call 231 ?_;refine S.c ?_ (h:=Xx ?_))|rintro _ _ ⟨_,rfl,rfl⟩|(refine G.prop ?_;assumption)|intro hb|fail)
  all_goals
   rename_i sv
   refine Tr.fin hK ⟨{w with ev:=sv},gs,hrn sv,rfl,rfl⟩ ?_
   have hX:=@Xa.eq_def
   clear h hca hcb
   simp only[ap]
   exact S.E
 ·have hsm:XY C c k s=XW (Xa C c k s.call 0 0) k 3:=by unfold XY;rw[if_neg (by rw[h];decide),if_pos h,if_neg hp,h]
  rw[hsm]at hK
  have hrn:=fun s'=>WO (Xs (k:=k) (call:=s.call) (code:=0) (value:=0) (s:=s') hr) (t:=c.tb.set k 3) Zf VQ
  have hX:=I3 @xDT.eq_def hca hcb;repeat' (first|refine S.x ?_|(refine G.call 231 ?_;refine S.c ?_ (h:=Xx ?_))|(refine G.call 220 ?_;refine S.c ?_ (h:=xeb _ _ _ _))|rintro _ _ ⟨rfl,rfl⟩|rintro _ _ ⟨_,rfl,rfl⟩|(refine G.prop ?_;assumption)|intro hb|fail)
  all_goals
   rename_i sv
   refine Tr.fin hK ⟨{w with ev:=sv},gs,hrn sv,rfl,rfl⟩ ?_
   have hX:=And.intro @Xa.eq_def @XW.eq_def
   clear h hca hcb
   simp only[ap]
   exact S.E
theorem xwS (hc:okC C) (hr:Rel C c w gs) (hk:inR C.progs k) (hf:few c 22) (_hs:s.ok) (hsl:c.slk.isSome=true) (h:s.call=2):
  Xb prog 229 #[ptr b,.int .i64 k,.agg (En.enc s).toArray] (Xh b C c w gs)
  fun v l'=>∃w2 gs2,Rel C (XY C c k s) w2 gs2∧v=.tuple #[]∧l'=Xh b C (XY C c k s) w2 gs2:=by
 intro F K hK
 simp only[ap]at hK⊢
 have hf1:few c 1:=by unfold few at*;omega
 have hf2:few c 2:=by unfold few at*;omega
 have hf3:=hf1
 unfold few at hf3
 have h8:=hc.n8
 have htl:c.tb.d.length≤1000000:=by rw[hr.ok.tb];omega
 have hca:decide (s.call=1)=false:=by rw[h];rfl
 have hcb:decide (s.call=3)=false:=by rw[h];rfl
 obtain⟨m,hm⟩:=Option.isSome_iff_exists.1 hsl
 have hpk:inR C.conf.procs.d k:=by unfold inR at*;rw[hc.np];exact hk
 obtain⟨p0,p1⟩:=hpk
 refine S.I fun u=>?_
 by_cases ha:1≤s.a∧s.a≤1000
 ·obtain⟨a1,a2⟩:=ha
  obtain⟨c1,hc1⟩:∃c1:CM,c1={c with tb:=c.tb.wait k 2 0 (IntKind.i64.wrap (c.win+s.a))}:=⟨_,rfl⟩
  have hr1:Rel C c1 w gs:=by rw[hc1];exact WO hr xdL (xir (xkM hr hk))
  have hm1:c1.slk=some m:=by rw[hc1];exact hm
  have hsm:XY C c k s=YX c1 k:=by unfold XY;rw[if_neg (by rw[h];decide),if_neg (by rw[h];decide),if_pos ⟨a1,a2⟩,hc1]
  rw[hsm]at hK
  have hcr:=xdE (b:=b) hr1 hk hm1
  have hX:=I4 @xDT.eq_def hca hcb h;repeat' (first|refine S.x ?_|(refine G.call 273 ?_;refine S.c ?_ (h:=xdu _ _ _ _ _ _))|rintro _ _ ⟨rfl,rfl⟩|intro hb|fail)
  refine Tr.imp (l':=Xh b C c1 w gs++F) ?_ ?_
  ·subst hc1
   clear h hca hcb
   simp only[ap]
   have hX:=@XW.eq_def
   show Xd [] _ _
   exact S.E
  clear hc1 hr1 hr hsm
  simp only[ap]
  have hX:=@xDT.eq_def;repeat' (first|rintro _ _ ⟨g3,hr3,rfl,rfl⟩|(refine G.call 188 ?_;refine S.c ?_ (h:=hcr))|refine S.x ?_|fail)
  all_goals exact Tr.fin hK ⟨_,g3,hr3,rfl,rfl⟩ S.E
 ·have hsm:XY C c k s=Xa C c k s.call 2 0:=by unfold XY;rw[if_neg (by rw[h];decide),if_neg (by rw[h];decide),if_neg ha,h]
  rw[hsm]at hK
  have hrn:=fun s'=>Xs (k:=k) (call:=s.call) (code:=2) (value:=0) (s:=s') hr
  by_cases h4:s.a<1
  ·have hX:=I3 @xDT.eq_def hca hcb;repeat' (first|refine S.x ?_|(refine G.call 231 ?_;refine S.c ?_ (h:=Xx ?_))|rintro _ _ ⟨_,rfl,rfl⟩|(refine G.prop ?_;assumption)|intro hb|fail)
   all_goals
    rename_i sv
    refine Tr.fin hK ⟨{w with ev:=sv},gs,hrn sv,rfl,rfl⟩ ?_
    have hX:=@Xa.eq_def
    clear h hca hcb
    simp only[ap]
    exact S.E
  ·have h5:1000<s.a:=by omega
   have hX:=I3 @xDT.eq_def hca hcb;repeat' (first|refine S.x ?_|(refine G.call 231 ?_;refine S.c ?_ (h:=Xx ?_))|rintro _ _ ⟨_,rfl,rfl⟩|(refine G.prop ?_;assumption)|intro hb|fail)
   all_goals
    rename_i sv
    refine Tr.fin hK ⟨{w with ev:=sv},gs,hrn sv,rfl,rfl⟩ ?_
    have hX:=@Xa.eq_def
    clear h hca hcb
    simp only[ap]
    exact S.E
theorem xnB (hc:okC C) (hr:Rel C c w gs) (hk:inR C.progs k) (hf:few c 22) (hs:s.ok) (hsl:c.slk.isSome=true) (h0:1≤s.call) (h1:s.call≤3):
  Xb prog 229 #[ptr b,.int .i64 k,.agg (En.enc s).toArray] (Xh b C c w gs)
  fun v l'=>∃w2 gs2,Rel C (XY C c k s) w2 gs2∧v=.tuple #[]∧l'=Xh b C (XY C c k s) w2 gs2:=by
 by_cases e1:s.call=1
 ·exact xv7 hc hr hk hf hs hsl e1
 ·by_cases e3:s.call=3
  ·exact xw1 hc hr hk hf hs hsl e3
  ·exact xwS hc hr hk hf hs hsl S.o
