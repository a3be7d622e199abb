import Derived.Test.YtmebccjndhlpoaaGreatIE
namespace Go.Proofs.YtmebccjndhlpoaaGreat
open Go Go.Wk Tryz
set_option maxHeartbeats 3200000
set_option maxRecDepth 100000
section
attribute [local irreducible] BrK Xq Xt Xv XI FnK XZ Xw XC XV opX opK Yq Yk eqR Yj Yo Ys WL WD W X3 XO Tr drewK Ya X4 Yw Yv X1 YB mp blk rob sl sep ex fact old
section
attribute [local irreducible] Y1 X2 objX Zw
section
variable {b:Nat} {C:CC} {c:CM} {w:CW} {gs:List Xe} {k:Int} {s:XE}
theorem xwh (hc:okC C) (hr:Rel C c w gs) (_hk:inR C.progs k) (hf:few c 22) (_hs:s.ok) (h:s.call=4):
  Xb prog 193 #[ptr b,.int .i64 k,.agg (En.enc s).toArray] (Xh b C c w gs)
  fun v l'=>∃w2 gs2,Rel C (Xk C c k s) w2 gs2∧v=.tuple #[]∧l'=Xh b C (Xk C c k s) w2 gs2:=by
 intro F K hK
 simp only[ap]at hK⊢
 have hf1:few c 1:=by unfold few at*;omega
 have hf2:few c 2:=by unfold few at*;omega
 have hf3:=hf1
 unfold few at hf3
 have h8:=hc.n8
 have htl:c.tb.d.length≤1000000:=by rw[hr.ok.tb];omega
 have hc1:decide (s.call=1)=false:=by rw[h];rfl
 have hc2:decide (s.call=2)=false:=by rw[h];rfl
 have hc3:decide (s.call=3)=false:=by rw[h];rfl
 have hc4:decide (s.call=4)=true:=by rw[h];rfl
 have hc5:decide (s.call=5)=false:=by rw[h];rfl
 have hc6:decide (s.call=6)=false:=by rw[h];rfl
 have hc7:decide (s.call=7)=false:=by rw[h];rfl
 have hlg:=JU hr
 by_cases hin:0≤s.a∧s.a<(C.progs.length:Int)
 ·have hia:inR C.progs s.a:=hin
  have hih: (decide (0≤s.a)&&decide (s.a<(C.progs.length:Int)))=true:=by rw[decide_eq_true hin.1,decide_eq_true hin.2];rfl
  by_cases hak:s.a=k
  ·have hsm:Xk C c k s=Xa C c k s.call 2 0:=by
    unfold Xk;rw[if_pos (.inr (.inl ⟨h,hak⟩))]
   rw[hsm]at hK
   have hrn:=fun s'=>Xs (k:=k) (call:=s.call) (code:=2) (value:=0) (s:=s') hr
   refine S.I fun u=>?_
   have hX:=I9 @xCB.eq_def hc1 hc2 hc3 hc4 hc5 hc6 hc7 hih;repeat' (first|refine S.x ?_|(refine G.call 230 ?_;refine S.c ?_ (h:=ZB ?_))|(refine G.call 231 ?_;refine S.c ?_ (h:=Xx ?_))|rintro _ _ ⟨rfl,rfl⟩|rintro _ _ ⟨_,rfl,rfl⟩|(refine G.prop ?_;assumption)|intro hb|fail)
   all_goals
    rename_i sv
    refine Tr.fin hK ⟨{w with ev:=sv},gs,hrn sv,rfl,rfl⟩ ?_
    have hX:=@Xa.eq_def
    clear h hih hc1 hc2 hc3 hc4 hc5 hc6 hc7
    simp only[ap]
    exact S.E
  ·have hbd:¬(¬(0≤s.a∧s.a<(C.progs.length:Int))∨(s.call=4∧s.a=k)∨(s.call=7∧(s.b<0∨63<s.b))):=by omega
   by_cases hst: (c.tb.at s.a).state=3
   ·have hsm:Xk C c k s=Xa C (XW c s.a 1) k s.call 0 0:=by unfold Xk;rw[if_neg hbd,if_neg (by rw[h];decide),if_pos ⟨h,hst⟩]
    rw[hsm]at hK
    have hrn:=fun s'=>Xs (k:=k) (call:=s.call) (code:=0) (value:=0) (s:=s') (WO hr (t:=c.tb.set s.a 1) Zf VQ)
    refine S.I fun u=>?_
    have hX:=I9 @xCB.eq_def hc1 hc2 hc3 hc4 hc5 hc6 hc7 hih;repeat' (first|refine S.x ?_|(refine G.call 230 ?_;refine S.c ?_ (h:=ZB ?_))|(refine G.call 231 ?_;refine S.c ?_ (h:=Xx ?_))|(refine G.call 232 ?_;refine S.c ?_ (h:=Ve _ _ _))|(refine G.call 220 ?_;refine S.c ?_ (h:=xeb _ _ _ _))|rintro _ _ ⟨rfl,rfl⟩|rintro _ _ ⟨_,rfl,rfl⟩|(refine G.prop ?_;assumption)|intro hb|fail)
    all_goals
     rename_i sv
     refine Tr.fin hK ⟨{w with ev:=sv},gs,hrn sv,rfl,rfl⟩ ?_
     have hX:=And.intro @Xa.eq_def @XW.eq_def
     clear h hih hc1 hc2 hc3 hc4 hc5 hc6 hc7
     simp only[ap]
     exact S.E
   ·have hsm:Xk C c k s=Xa C c k s.call 6 0:=by
     unfold Xk;rw[if_neg hbd,if_neg (by rw[h];decide),if_neg (fun hh=>hst hh.2),if_neg (fun hh=>absurd (h.symm.trans hh.1) (by decide)),if_neg (fun hh=>absurd (h.symm.trans hh.1) (by decide))]
    rw[hsm]at hK
    have hrn:=fun s'=>Xs (k:=k) (call:=s.call) (code:=6) (value:=0) (s:=s') hr
    refine S.I fun u=>?_
    have hX:=I9 @xCB.eq_def hc1 hc2 hc3 hc4 hc5 hc6 hc7 hih;repeat' (first|refine S.x ?_|(refine G.call 230 ?_;refine S.c ?_ (h:=ZB ?_))|(refine G.call 231 ?_;refine S.c ?_ (h:=Xx ?_))|(refine G.call 232 ?_;refine S.c ?_ (h:=Ve _ _ _))|rintro _ _ ⟨rfl,rfl⟩|rintro _ _ ⟨_,rfl,rfl⟩|(refine G.prop ?_;assumption)|intro hb|fail)
    all_goals
     rename_i sv
     refine Tr.fin hK ⟨{w with ev:=sv},gs,hrn sv,rfl,rfl⟩ ?_
     have hX:=@Xa.eq_def
     clear h hih hc1 hc2 hc3 hc4 hc5 hc6 hc7
     simp only[ap]
     exact S.E
 ·have hsm:Xk C c k s=Xa C c k s.call 2 0:=by unfold Xk;rw[if_pos (.inl hin)]
  rw[hsm]at hK
  have hih: (decide (0≤s.a)&&decide (s.a<(C.progs.length:Int)))=false:=by
   rw[Bool.and_eq_false_iff,decide_eq_false_iff_not,decide_eq_false_iff_not]
   omega
  have hrn:=fun s'=>Xs (k:=k) (call:=s.call) (code:=2) (value:=0) (s:=s') hr
  refine S.I fun u=>?_
  have hX:=I9 @xCB.eq_def hc1 hc2 hc3 hc4 hc5 hc6 hc7 hih;repeat' (first|refine S.x ?_|(refine G.call 230 ?_;refine S.c ?_ (h:=ZB ?_))|(refine G.call 231 ?_;refine S.c ?_ (h:=Xx ?_))|rintro _ _ ⟨rfl,rfl⟩|rintro _ _ ⟨_,rfl,rfl⟩|(refine G.prop ?_;assumption)|intro hb|fail)
  all_goals
   rename_i sv
   refine Tr.fin hK ⟨{w with ev:=sv},gs,hrn sv,rfl,rfl⟩ ?_
   have hX:=@Xa.eq_def
   clear h hih hc1 hc2 hc3 hc4 hc5 hc6 hc7
   simp only[ap]
   exact S.E
theorem xwM (hc:okC C) (hr:Rel C c w gs) (_hk:inR C.progs k) (hf:few c 22) (_hs:s.ok) (h:s.call=5):
  Xb prog 193 #[ptr b,.int .i64 k,.agg (En.enc s).toArray] (Xh b C c w gs)
  fun v l'=>∃w2 gs2,Rel C (Xk C c k s) w2 gs2∧v=.tuple #[]∧l'=Xh b C (Xk C c k s) w2 gs2:=by
 intro F K hK
 simp only[ap]at hK⊢
 have hf1:few c 1:=by unfold few at*;omega
 have hf2:few c 2:=by unfold few at*;omega
 have hf3:=hf1
 unfold few at hf3
 have h8:=hc.n8
 have htl:c.tb.d.length≤1000000:=by rw[hr.ok.tb];omega
 have hc1:decide (s.call=1)=false:=by rw[h];rfl
 have hc2:decide (s.call=2)=false:=by rw[h];rfl
 have hc3:decide (s.call=3)=false:=by rw[h];rfl
 have hc4:decide (s.call=4)=false:=by rw[h];rfl
 have hc5:decide (s.call=5)=true:=by rw[h];rfl
 have hc6:decide (s.call=6)=false:=by rw[h];rfl
 have hc7:decide (s.call=7)=false:=by rw[h];rfl
 have hlg:=JU hr
 by_cases hin:0≤s.a∧s.a<(C.progs.length:Int)
 ·have hia:inR C.progs s.a:=hin
  have hih: (decide (0≤s.a)&&decide (s.a<(C.progs.length:Int)))=true:=by rw[decide_eq_true hin.1,decide_eq_true hin.2];rfl
  have hbd:¬(¬(0≤s.a∧s.a<(C.progs.length:Int))∨(s.call=4∧s.a=k)∨(s.call=7∧(s.b<0∨63<s.b))):=by omega
  by_cases hst: (c.tb.at s.a).state=0
  ·obtain⟨c1,hc1'⟩:∃c1:CM,c1=Yd C c s.a c.win:=⟨_,rfl⟩
   have hsm:Xk C c k s=Xa C c1 k s.call 0 0:=by unfold Xk;rw[if_neg hbd,if_neg (by rw[h];decide),if_neg (fun hh=>absurd (h.symm.trans hh.1) (by decide)),if_pos ⟨h,hst⟩,hc1']
   rw[hsm]at hK
   have hcs:=W3 (b:=b) (win:=c.win) hc hr hia (fun hh=>by have:=hh.1;omega)
   have hev:c1.evs=c.evs:=by rw[hc1'];unfold Yd;simp only;split<;>rfl
   rw[←hc1']at hcs
   have hf4:c1.evs.length+1≤1000000000000:=by rw[hev];exact hf3
   clear hc1' hsm hev
   refine S.I fun u=>?_
   have hX:=I9 @xCB.eq_def hc1 hc2 hc3 hc4 hc5 hc6 hc7 hih;repeat' (first|rintro _ _ ⟨rfl,rfl⟩|rintro _ _ ⟨_,rfl,rfl⟩|rintro _ _ ⟨g3,hr3,rfl,rfl⟩|(refine G.call 77 ?_;refine S.c ?_ (h:=hcs))|refine S.x ?_|(refine G.call 230 ?_;refine S.c ?_ (h:=ZB ?_))|(refine G.call 231 ?_;refine S.c ?_ (h:=Xx ?_))|(refine G.call 232 ?_;refine S.c ?_ (h:=Ve _ _ _))|(refine G.prop ?_;assumption)|intro hb|fail)
   all_goals
    rename_i sv
    refine Tr.fin hK ⟨_,g3,Xs (s:=sv) hr3,rfl,rfl⟩ ?_
    have hX:=@Xa.eq_def
    clear h hih hc1 hc2 hc3 hc4 hc5 hc6 hc7
    simp only[ap]
    exact S.E
  ·have hsm:Xk C c k s=Xa C c k s.call 6 0:=by
    unfold Xk;rw[if_neg hbd,if_neg (by rw[h];decide),if_neg (fun hh=>absurd (h.symm.trans hh.1) (by decide)),if_neg (fun hh=>hst hh.2),if_neg (fun hh=>absurd (h.symm.trans hh.1) (by decide))]
   rw[hsm]at hK
   have hrn:=fun s'=>Xs (k:=k) (call:=s.call) (code:=6) (value:=0) (s:=s') hr
   refine S.I fun u=>?_
   have hX:=I9 @xCB.eq_def hc1 hc2 hc3 hc4 hc5 hc6 hc7 hih;repeat' (first|refine S.x ?_|(refine G.call 230 ?_;refine S.c ?_ (h:=ZB ?_))|(refine G.call 231 ?_;refine S.c ?_ (h:=Xx ?_))|(refine G.call 232 ?_;refine S.c ?_ (h:=Ve _ _ _))|rintro _ _ ⟨rfl,rfl⟩|rintro _ _ ⟨_,rfl,rfl⟩|(refine G.prop ?_;assumption)|intro hb|fail)
   all_goals
    rename_i sv
    refine Tr.fin hK ⟨{w with ev:=sv},gs,hrn sv,rfl,rfl⟩ ?_
    have hX:=@Xa.eq_def
    clear h hih hc1 hc2 hc3 hc4 hc5 hc6 hc7
    simp only[ap]
    exact S.E
 ·have hsm:Xk C c k s=Xa C c k s.call 2 0:=by unfold Xk;rw[if_pos (.inl hin)]
  rw[hsm]at hK
  have hih: (decide (0≤s.a)&&decide (s.a<(C.progs.length:Int)))=false:=by
   rw[Bool.and_eq_false_iff,decide_eq_false_iff_not,decide_eq_false_iff_not]
   omega
  have hrn:=fun s'=>Xs (k:=k) (call:=s.call) (code:=2) (value:=0) (s:=s') hr
  refine S.I fun u=>?_
  have hX:=I9 @xCB.eq_def hc1 hc2 hc3 hc4 hc5 hc6 hc7 hih;repeat' (first|refine S.x ?_|(refine G.call 230 ?_;refine S.c ?_ (h:=ZB ?_))|(refine G.call 231 ?_;refine S.c ?_ (h:=Xx ?_))|rintro _ _ ⟨rfl,rfl⟩|rintro _ _ ⟨_,rfl,rfl⟩|(refine G.prop ?_;assumption)|intro hb|fail)
  all_goals
   rename_i sv
   refine Tr.fin hK ⟨{w with ev:=sv},gs,hrn sv,rfl,rfl⟩ ?_
   have hX:=@Xa.eq_def
   clear h hih hc1 hc2 hc3 hc4 hc5 hc6 hc7
   simp only[ap]
   exact S.E
theorem xwc (hc:okC C) (hr:Rel C c w gs) (_hk:inR C.progs k) (hf:few c 22) (_hs:s.ok) (h:s.call=6):
  Xb prog 193 #[ptr b,.int .i64 k,.agg (En.enc s).toArray] (Xh b C c w gs)
  fun v l'=>∃w2 gs2,Rel C (Xk C c k s) w2 gs2∧v=.tuple #[]∧l'=Xh b C (Xk C c k s) w2 gs2:=by
 intro F K hK
 simp only[ap]at hK⊢
 have hf1:few c 1:=by unfold few at*;omega
 have hf2:few c 2:=by unfold few at*;omega
 have hf3:=hf1
 unfold few at hf3
 have h8:=hc.n8
 have htl:c.tb.d.length≤1000000:=by rw[hr.ok.tb];omega
 have hc1:decide (s.call=1)=false:=by rw[h];rfl
 have hc2:decide (s.call=2)=false:=by rw[h];rfl
 have hc3:decide (s.call=3)=false:=by rw[h];rfl
 have hc4:decide (s.call=4)=false:=by rw[h];rfl
 have hc5:decide (s.call=5)=false:=by rw[h];rfl
 have hc6:decide (s.call=6)=true:=by rw[h];rfl
 have hc7:decide (s.call=7)=false:=by rw[h];rfl
 have hlg:=JU hr
 by_cases hin:0≤s.a∧s.a<(C.progs.length:Int)
 ·have hia:inR C.progs s.a:=hin
  have hih: (decide (0≤s.a)&&decide (s.a<(C.progs.length:Int)))=true:=by rw[decide_eq_true hin.1,decide_eq_true hin.2];rfl
  have hbd:¬(¬(0≤s.a∧s.a<(C.progs.length:Int))∨(s.call=4∧s.a=k)∨(s.call=7∧(s.b<0∨63<s.b))):=by omega
  by_cases hst: (c.tb.at s.a).state=0
  ·have hsm:Xk C c k s=Xa C c k s.call 6 0:=by
    unfold Xk;rw[if_neg hbd,if_neg (by rw[h];decide),if_neg (fun hh=>absurd (h.symm.trans hh.1) (by decide)),if_neg (fun hh=>absurd (h.symm.trans hh.1) (by decide)),if_neg (fun hh=>hh.2 hst)]
   rw[hsm]at hK
   have hrn:=fun s'=>Xs (k:=k) (call:=s.call) (code:=6) (value:=0) (s:=s') hr
   refine S.I fun u=>?_
   have hX:=I9 @xCB.eq_def hc1 hc2 hc3 hc4 hc5 hc6 hc7 hih;repeat' (first|refine S.x ?_|(refine G.call 230 ?_;refine S.c ?_ (h:=ZB ?_))|(refine G.call 231 ?_;refine S.c ?_ (h:=Xx ?_))|(refine G.call 232 ?_;refine S.c ?_ (h:=Ve _ _ _))|rintro _ _ ⟨rfl,rfl⟩|rintro _ _ ⟨_,rfl,rfl⟩|(refine G.prop ?_;assumption)|intro hb|fail)
   all_goals
    rename_i sv
    refine Tr.fin hK ⟨{w with ev:=sv},gs,hrn sv,rfl,rfl⟩ ?_
    have hX:=@Xa.eq_def
    clear h hih hc1 hc2 hc3 hc4 hc5 hc6 hc7
    simp only[ap]
    exact S.E
  ·obtain⟨c1,hc1'⟩:∃c1:CM,c1=XW c s.a 0:=⟨_,rfl⟩
   have hsm:Xk C c k s=Xa C c1 k s.call 0 0:=by unfold Xk;rw[if_neg hbd,if_neg (by rw[h];decide),if_neg (fun hh=>absurd (h.symm.trans hh.1) (by decide)),if_neg (fun hh=>absurd (h.symm.trans hh.1) (by decide)),if_pos ⟨h,hst⟩,hc1']
   rw[hsm]at hK
   have hcs:=WV (b:=b) hr hia
   rw[←hc1']at hcs
   have hf4:c1.evs.length+1≤1000000000000:=by rw[hc1'];exact hf3
   clear hc1' hsm
   refine S.I fun u=>?_
   have hX:=I9 @xCB.eq_def hc1 hc2 hc3 hc4 hc5 hc6 hc7 hih;repeat' (first|rintro _ _ ⟨rfl,rfl⟩|rintro _ _ ⟨_,rfl,rfl⟩|rintro _ _ ⟨g3,hr3,rfl,rfl⟩|(refine G.call 214 ?_;refine S.c ?_ (h:=hcs))|refine S.x ?_|(refine G.call 230 ?_;refine S.c ?_ (h:=ZB ?_))|(refine G.call 231 ?_;refine S.c ?_ (h:=Xx ?_))|(refine G.call 232 ?_;refine S.c ?_ (h:=Ve _ _ _))|(refine G.prop ?_;assumption)|intro hb|fail)
   all_goals
    rename_i sv
    refine Tr.fin hK ⟨_,g3,Xs (s:=sv) hr3,rfl,rfl⟩ ?_
    have hX:=@Xa.eq_def
    clear h hih hc1 hc2 hc3 hc4 hc5 hc6 hc7
    simp only[ap]
    exact S.E
 ·have hsm:Xk C c k s=Xa C c k s.call 2 0:=by unfold Xk;rw[if_pos (.inl hin)]
  rw[hsm]at hK
  have hih: (decide (0≤s.a)&&decide (s.a<(C.progs.length:Int)))=false:=by
   rw[Bool.and_eq_false_iff,decide_eq_false_iff_not,decide_eq_false_iff_not]
   omega
  have hrn:=fun s'=>Xs (k:=k) (call:=s.call) (code:=2) (value:=0) (s:=s') hr
  refine S.I fun u=>?_
  have hX:=I9 @xCB.eq_def hc1 hc2 hc3 hc4 hc5 hc6 hc7 hih;repeat' (first|refine S.x ?_|(refine G.call 230 ?_;refine S.c ?_ (h:=ZB ?_))|(refine G.call 231 ?_;refine S.c ?_ (h:=Xx ?_))|rintro _ _ ⟨rfl,rfl⟩|rintro _ _ ⟨_,rfl,rfl⟩|(refine G.prop ?_;assumption)|intro hb|fail)
  all_goals
   rename_i sv
   refine Tr.fin hK ⟨{w with ev:=sv},gs,hrn sv,rfl,rfl⟩ ?_
   have hX:=@Xa.eq_def
   clear h hih hc1 hc2 hc3 hc4 hc5 hc6 hc7
   simp only[ap]
   exact S.E
theorem xvQ (hc:okC C) (hr:Rel C c w gs) (_hk:inR C.progs k) (hf:few c 22) (_hs:s.ok) (h:s.call=7):
  Xb prog 193 #[ptr b,.int .i64 k,.agg (En.enc s).toArray] (Xh b C c w gs)
  fun v l'=>∃w2 gs2,Rel C (Xk C c k s) w2 gs2∧v=.tuple #[]∧l'=Xh b C (Xk C c k s) w2 gs2:=by
 intro F K hK
 simp only[ap]at hK⊢
 have hf1:few c 1:=by unfold few at*;omega
 have hf2:few c 2:=by unfold few at*;omega
 have hf3:=hf1
 unfold few at hf3
 have h8:=hc.n8
 have htl:c.tb.d.length≤1000000:=by rw[hr.ok.tb];omega
 have hc1:decide (s.call=1)=false:=by rw[h];rfl
 have hc2:decide (s.call=2)=false:=by rw[h];rfl
 have hc3:decide (s.call=3)=false:=by rw[h];rfl
 have hc4:decide (s.call=4)=false:=by rw[h];rfl
 have hc5:decide (s.call=5)=false:=by rw[h];rfl
 have hc6:decide (s.call=6)=false:=by rw[h];rfl
 have hc7:decide (s.call=7)=true:=by rw[h];rfl
 have hlg:=JU hr
 by_cases hin:0≤s.a∧s.a<(C.progs.length:Int)
 ·have hia:inR C.progs s.a:=hin
  have hih: (decide (0≤s.a)&&decide (s.a<(C.progs.length:Int)))=true:=by rw[decide_eq_true hin.1,decide_eq_true hin.2];rfl
  by_cases hb1:s.b<0
  ·have hsm:Xk C c k s=Xa C c k s.call 2 0:=by
    unfold Xk;rw[if_pos (.inr (.inr ⟨h,.inl hb1⟩))]
   rw[hsm]at hK
   have hrn:=fun s'=>Xs (k:=k) (call:=s.call) (code:=2) (value:=0) (s:=s') hr
   refine S.I fun u=>?_
   have hX:=I9 @xCB.eq_def hc1 hc2 hc3 hc4 hc5 hc6 hc7 hih;repeat' (first|refine S.x ?_|(refine G.call 230 ?_;refine S.c ?_ (h:=ZB ?_))|(refine G.call 231 ?_;refine S.c ?_ (h:=Xx ?_))|rintro _ _ ⟨rfl,rfl⟩|rintro _ _ ⟨_,rfl,rfl⟩|(refine G.prop ?_;assumption)|intro hb|fail)
   all_goals
    rename_i sv
    refine Tr.fin hK ⟨{w with ev:=sv},gs,hrn sv,rfl,rfl⟩ ?_
    have hX:=@Xa.eq_def
    clear h hih hc1 hc2 hc3 hc4 hc5 hc6 hc7
    simp only[ap]
    exact S.E
  ·by_cases hb2:63<s.b
   ·have hsm:Xk C c k s=Xa C c k s.call 2 0:=by
     unfold Xk;rw[if_pos (.inr (.inr ⟨h,.inr hb2⟩))]
    rw[hsm]at hK
    have hrn:=fun s'=>Xs (k:=k) (call:=s.call) (code:=2) (value:=0) (s:=s') hr
    refine S.I fun u=>?_
    have hX:=I9 @xCB.eq_def hc1 hc2 hc3 hc4 hc5 hc6 hc7 hih;repeat' (first|refine S.x ?_|(refine G.call 230 ?_;refine S.c ?_ (h:=ZB ?_))|(refine G.call 231 ?_;refine S.c ?_ (h:=Xx ?_))|rintro _ _ ⟨rfl,rfl⟩|rintro _ _ ⟨_,rfl,rfl⟩|(refine G.prop ?_;assumption)|intro hb|fail)
    all_goals
     rename_i sv
     refine Tr.fin hK ⟨{w with ev:=sv},gs,hrn sv,rfl,rfl⟩ ?_
     have hX:=@Xa.eq_def
     clear h hih hc1 hc2 hc3 hc4 hc5 hc6 hc7
     simp only[ap]
     exact S.E
   ·have hbd:¬(¬(0≤s.a∧s.a<(C.progs.length:Int))∨(s.call=4∧s.a=k)∨(s.call=7∧(s.b<0∨63<s.b))):=by omega
    by_cases hst: (c.tb.at s.a).state=0
    ·have hsm:Xk C c k s=Xa C c k s.call 4 0:=by
      unfold Xk;rw[if_neg hbd,if_pos h,if_pos hst]
     rw[hsm]at hK
     have hrn:=fun s'=>Xs (k:=k) (call:=s.call) (code:=4) (value:=0) (s:=s') hr
     refine S.I fun u=>?_
     have hX:=I9 @xCB.eq_def hc1 hc2 hc3 hc4 hc5 hc6 hc7 hih;repeat' (first|refine S.x ?_|(refine G.call 230 ?_;refine S.c ?_ (h:=ZB ?_))|(refine G.call 231 ?_;refine S.c ?_ (h:=Xx ?_))|(refine G.call 232 ?_;refine S.c ?_ (h:=Ve _ _ _))|rintro _ _ ⟨rfl,rfl⟩|rintro _ _ ⟨_,rfl,rfl⟩|(refine G.prop ?_;assumption)|intro hb|fail)
     all_goals
      rename_i sv
      refine Tr.fin hK ⟨{w with ev:=sv},gs,hrn sv,rfl,rfl⟩ ?_
      have hX:=@Xa.eq_def
      clear h hih hc1 hc2 hc3 hc4 hc5 hc6 hc7
      simp only[ap]
      exact S.E
    ·have hsm:Xk C c k s=Xa C {c with tb:=c.tb.rank s.a s.b} k s.call 0 0:=by unfold Xk;rw[if_neg hbd,if_pos h,if_neg hst]
     rw[hsm]at hK
     have hrn:=fun s'=>Xs (k:=k) (call:=s.call) (code:=0) (value:=0) (s:=s') (WO hr (t:=c.tb.rank s.a s.b) xhS xj6)
     refine S.I fun u=>?_
     have hX:=I9 @xCB.eq_def hc1 hc2 hc3 hc4 hc5 hc6 hc7 hih;repeat' (first|refine S.x ?_|(refine G.call 230 ?_;refine S.c ?_ (h:=ZB ?_))|(refine G.call 231 ?_;refine S.c ?_ (h:=Xx ?_))|(refine G.call 232 ?_;refine S.c ?_ (h:=Ve _ _ _))|(refine G.call 233 ?_;refine S.c ?_ (h:=xsa _ _ _ _))|rintro _ _ ⟨rfl,rfl⟩|rintro _ _ ⟨_,rfl,rfl⟩|(refine G.prop ?_;assumption)|intro hb|fail)
     all_goals
      rename_i sv
      refine Tr.fin hK ⟨{w with ev:=sv},gs,hrn sv,rfl,rfl⟩ ?_
      have hX:=@Xa.eq_def
      clear h hih hc1 hc2 hc3 hc4 hc5 hc6 hc7
      simp only[ap]
      exact S.E
 ·have hsm:Xk C c k s=Xa C c k s.call 2 0:=by unfold Xk;rw[if_pos (.inl hin)]
  rw[hsm]at hK
  have hih: (decide (0≤s.a)&&decide (s.a<(C.progs.length:Int)))=false:=by
   rw[Bool.and_eq_false_iff,decide_eq_false_iff_not,decide_eq_false_iff_not]
   omega
  have hrn:=fun s'=>Xs (k:=k) (call:=s.call) (code:=2) (value:=0) (s:=s') hr
  refine S.I fun u=>?_
  have hX:=I9 @xCB.eq_def hc1 hc2 hc3 hc4 hc5 hc6 hc7 hih;repeat' (first|refine S.x ?_|(refine G.call 230 ?_;refine S.c ?_ (h:=ZB ?_))|(refine G.call 231 ?_;refine S.c ?_ (h:=Xx ?_))|rintro _ _ ⟨rfl,rfl⟩|rintro _ _ ⟨_,rfl,rfl⟩|(refine G.prop ?_;assumption)|intro hb|fail)
  all_goals
   rename_i sv
   refine Tr.fin hK ⟨{w with ev:=sv},gs,hrn sv,rfl,rfl⟩ ?_
   have hX:=@Xa.eq_def
   clear h hih hc1 hc2 hc3 hc4 hc5 hc6 hc7
   simp only[ap]
   exact S.E
theorem xhe (hc:okC C) (hr:Rel C c w gs) (hk:inR C.progs k) (hf:few c 22) (hs:s.ok) (hsl:c.slk.isSome=true) (h0:1≤s.call) (h1:s.call≤7):
  Xb prog 193 #[ptr b,.int .i64 k,.agg (En.enc s).toArray] (Xh b C c w gs)
  fun v l'=>∃w2 gs2,Rel C (if s.call≤3 then XY C c k s else Xk C c k s) w2 gs2∧v=.tuple #[]∧l'=Xh b C (if s.call≤3 then XY C c k s else Xk C c k s) w2 gs2:=by
 by_cases e3:s.call≤3
 ·simp only[if_pos e3]
  have hcs:=xnB (b:=b) hc hr hk hf hs hsl h0 e3
  intro F K hK
  simp only[ap]at hK⊢
  refine S.I fun u=>?_
  by_cases e1:s.call=1
  ·have hX:=@xCB.eq_def;repeat' (first|rintro _ _ ⟨w3,g3,hr3,rfl,rfl⟩|(refine G.call 229 ?_;refine S.c ?_ (h:=hcs))|refine S.x ?_|intro hb|fail)
   all_goals exact Tr.fin hK ⟨w3,g3,hr3,rfl,rfl⟩ S.E
  ·by_cases e2:s.call=2
   ·have hX:=@xCB.eq_def;repeat' (first|rintro _ _ ⟨w3,g3,hr3,rfl,rfl⟩|(refine G.call 229 ?_;refine S.c ?_ (h:=hcs))|refine S.x ?_|intro hb|fail)
    all_goals exact Tr.fin hK ⟨w3,g3,hr3,rfl,rfl⟩ S.E
   ·have e4:s.call=3:=by omega
    have hX:=@xCB.eq_def;repeat' (first|rintro _ _ ⟨w3,g3,hr3,rfl,rfl⟩|(refine G.call 229 ?_;refine S.c ?_ (h:=hcs))|refine S.x ?_|intro hb|fail)
    all_goals exact Tr.fin hK ⟨w3,g3,hr3,rfl,rfl⟩ S.E
 ·simp only[if_neg e3]
  by_cases e4:s.call=4
  ·exact xwh hc hr hk hf hs e4
  ·by_cases e5:s.call=5
   ·exact xwM hc hr hk hf hs e5
   ·by_cases e6:s.call=6
    ·exact xwc hc hr hk hf hs e6
    ·exact xvQ hc hr hk hf hs S.o
