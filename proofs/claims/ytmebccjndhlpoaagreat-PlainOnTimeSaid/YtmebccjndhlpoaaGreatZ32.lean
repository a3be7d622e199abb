import Derived.Test.YtmebccjndhlpoaaGreatJY
namespace Go.Proofs.YtmebccjndhlpoaaGreat
open Go Go.Wk Tryz
set_option maxHeartbeats 3200000
set_option maxRecDepth 100000
section
attribute [local irreducible] BrK Xq Xt Xv XI FnK XZ Xw XC XV opX opK Yq Yk eqR Yj Yo Ys WL WD W X3 XO Tr drewK Ya X4 Yw Yv X1 YB mp blk rob sl sep ex fact old
section
attribute [local irreducible] Y1 X2 objX Zw
section
variable {b:Nat} {C:CC} {c:CM} {w:CW} {gs:List Xe} {k:Int} {s:XE}
theorem xpk (hc:okC C) (hr:Rel C c w gs) (hk:inR C.progs k) (hf:few c 22) (hs:s.ok) (hz:ix C.conf.slates.d s.a≤300) (h:s.call=22):
  Xb prog 197 #[ptr b,.int .i64 k,.agg (En.enc s).toArray] (Xh b C c w gs)
  fun v l'=>∃w2 gs2,Rel C (XN C c k s) w2 gs2∧v=.tuple #[]∧l'=Xh b C (XN C c k s) w2 gs2:=by
 intro F K hK
 simp only[ap]at hK⊢
 refine Tr.okX (b:=w.obs) (c:=C.conf) (o:=c.obs) S.K fun hoo=>?_
 have hf1:few c 1:=by unfold few at*;omega
 have hf2:few c 2:=by unfold few at*;omega
 have hf3:=hf1
 unfold few at hf3
 have h8:=hc.n8
 have htl:c.tb.d.length≤1000000:=by rw[hr.ok.tb];omega
 have hca:decide (s.call=22)=true:=by rw[h];rfl
 have hcb:decide (s.call=21)=false:=by rw[h];rfl
 by_cases hrg:0≤s.a∧s.a<(C.conf.slates.d.length:Int)∧s.a<4
 ·obtain⟨hir,hiz⟩:=xcj hoo hrg
  obtain⟨r1,r2,r3⟩:=hrg
  have hth: (decide (0≤s.a)&&decide (s.a<(if(4:Int)<(C.conf.slates.d.length:Int)then 4 else(C.conf.slates.d.length:Int))))=true:=by
   rw[Bool.and_eq_true,decide_eq_true_eq,decide_eq_true_eq]
   by_cases h5: (4:Int)<(C.conf.slates.d.length:Int)
   ·rw[if_pos h5];omega
   ·rw[if_neg h5];omega
  have hsz:J4 c.obs.pools c.obs.slates s.a 0=ix C.conf.slates.d s.a:=by
   unfold J4
   rw[if_pos r1,if_pos hir,hiz]
  obtain⟨sz,hsz2⟩:∃sz,sz=ix C.conf.slates.d s.a:=⟨_,rfl⟩
  rw[←hsz2]at hsz hz
  have hsm:XN C c k s=Xa C {c with obs:={c.obs with slates:=Wj c.obs.slates s.a}} k s.call (QM c.obs.slates s.a) 0:=by
   unfold XN
   rw[if_pos ⟨r1,r2,r3⟩]
   simp only
   rw[if_pos h,h]
  rw[hsm]at hK
  have hrn:=fun s'=>Xs (k:=k) (call:=s.call) (code:=QM c.obs.slates s.a) (value:=0) (s:=s') (VI (o:={c.obs with slates:=Wj c.obs.slates s.a}) hr)
  refine S.I fun u=>?_
  have hX:=I5 @xDK.eq_def hca hcb hth hsz;repeat' (first|refine S.x ?_|(refine G.call 248 ?_;refine S.c ?_ (h:=YD))|(refine G.call 231 ?_;refine S.c ?_ (h:=Xx ?_))|(refine G.call 247 ?_;refine S.c ?_ (h:=Y4))|(refine G.call 252 ?_;refine S.c ?_ (h:=xpJ))|rintro _ _ ⟨rfl,rfl⟩|rintro _ _ ⟨_,rfl,rfl⟩|(refine G.prop ?_;assumption)|intro hb|fail)
  all_goals
   rename_i sv
   refine Tr.fin hK ⟨{w with ev:=sv},gs,hrn sv,rfl,rfl⟩ ?_
   have hX:=@Xa.eq_def
   clear h hca hcb hth hsz
   simp only[ap]
   exact S.E
 ·have hsm:XN C c k s=Xa C c k s.call 3 0:=by unfold XN;rw[if_neg hrg]
  rw[hsm]at hK
  have hrn:=fun s'=>Xs (k:=k) (call:=s.call) (code:=3) (value:=0) (s:=s') hr
  have hth: (decide (0≤s.a)&&decide (s.a<(if(4:Int)<(C.conf.slates.d.length:Int)then 4 else(C.conf.slates.d.length:Int))))=false:=by
   rw[Bool.and_eq_false_iff,decide_eq_false_iff_not,decide_eq_false_iff_not]
   by_cases h5: (4:Int)<(C.conf.slates.d.length:Int)
   ·rw[if_pos h5];omega
   ·rw[if_neg h5];omega
  refine S.I fun u=>?_
  have hX:=I4 @xDK.eq_def hca hcb hth;repeat' (first|refine S.x ?_|(refine G.call 248 ?_;refine S.c ?_ (h:=YD))|(refine G.call 231 ?_;refine S.c ?_ (h:=Xx ?_))|rintro _ _ ⟨rfl,rfl⟩|rintro _ _ ⟨_,rfl,rfl⟩|(refine G.prop ?_;assumption)|intro hb|fail)
  all_goals
   rename_i sv
   refine Tr.fin hK ⟨{w with ev:=sv},gs,hrn sv,rfl,rfl⟩ ?_
   have hX:=@Xa.eq_def
   clear h hca hcb hth
   simp only[ap]
   exact S.E
theorem xqM (hc:okC C) (hr:Rel C c w gs) (hk:inR C.progs k) (hf:few c 22) (hs:s.ok) (hz:ix C.conf.slates.d s.a≤300) (h:s.call=21):
  Xb prog 197 #[ptr b,.int .i64 k,.agg (En.enc s).toArray] (Xh b C c w gs)
  fun v l'=>∃w2 gs2,Rel C (XN C c k s) w2 gs2∧v=.tuple #[]∧l'=Xh b C (XN C c k s) w2 gs2:=by
 intro F K hK
 simp only[ap]at hK⊢
 refine Tr.okX (b:=w.obs) (c:=C.conf) (o:=c.obs) S.K fun hoo=>?_
 have hf1:few c 1:=by unfold few at*;omega
 have hf2:few c 2:=by unfold few at*;omega
 have hf3:=hf1
 unfold few at hf3
 have h8:=hc.n8
 have htl:c.tb.d.length≤1000000:=by rw[hr.ok.tb];omega
 have hca:decide (s.call=22)=false:=by rw[h];rfl
 have hcb:decide (s.call=21)=true:=by rw[h];rfl
 by_cases hrg:0≤s.a∧s.a<(C.conf.slates.d.length:Int)∧s.a<4
 ·obtain⟨hir,hiz⟩:=xcj hoo hrg
  obtain⟨r1,r2,r3⟩:=hrg
  have hth: (decide (0≤s.a)&&decide (s.a<(if(4:Int)<(C.conf.slates.d.length:Int)then 4 else(C.conf.slates.d.length:Int))))=true:=by
   rw[Bool.and_eq_true,decide_eq_true_eq,decide_eq_true_eq]
   by_cases h5: (4:Int)<(C.conf.slates.d.length:Int)
   ·rw[if_pos h5];omega
   ·rw[if_neg h5];omega
  have hsz:J4 c.obs.pools c.obs.slates s.a 0=ix C.conf.slates.d s.a:=by
   unfold J4
   rw[if_pos r1,if_pos hir,hiz]
  obtain⟨sz,hsz2⟩:∃sz,sz=ix C.conf.slates.d s.a:=⟨_,rfl⟩
  rw[←hsz2]at hsz hz
  have hsm:XN C c k s=if ZR c s sz=true then ZI C c k s (WI c.obs.slates s.a) (WJ c.obs.slates s.a)else JV C c k s:=by
   unfold XN ZI
   rw[if_pos ⟨r1,r2,r3⟩,←hsz2]
   simp only
   rw[if_neg (by rw[h];decide),if_pos h,if_neg (show¬s.call=10 by rw[h];decide)]
  rw[hsm]at hK
  clear hsm hsz2
  cases hin:ZR c s sz with
  |true=>
   rw[hin,if_pos rfl]at hK
   have hci:=xdg (b:=b) (C:=C) (w:=w) (gs:=gs) (k:=k) hs hin
   have hcg:=fun s3=>xdi (b:=b) (s3:=s3) (bs:=WI c.obs.slates s.a) (code:=WJ c.obs.slates s.a) hr hk hf1 hs
   refine S.I fun u=>?_
   have hX:=I5 @xDK.eq_def hca hcb hth hsz;repeat' (first|rintro _ _ ⟨rfl,rfl⟩|rintro _ _ ⟨_,rfl,rfl⟩|rintro _ _ ⟨w3,g3,hr3,rfl,rfl⟩|(refine G.call 236 ?_;refine S.c ?_ (h:=hci))|(refine G.call 238 ?_;refine S.c ?_ (h:=hcg _))|refine S.x ?_|(refine G.call 248 ?_;refine S.c ?_ (h:=YD))|(refine G.call 247 ?_;refine S.c ?_ (h:=Y4))|(refine G.call 253 ?_;refine S.c ?_ (h:=xq7))|intro hb|fail)
   all_goals exact Tr.fin hK ⟨w3,g3,hr3,rfl,rfl⟩ S.E
  |false=>
   rw[hin,if_neg (by decide)]at hK
   have hci:=xdc (b:=b) hc hr hk hf2 hs hin
   refine S.I fun u=>?_
   have hX:=I5 @xDK.eq_def hca hcb hth hsz;repeat' (first|rintro _ _ ⟨rfl,rfl⟩|rintro _ _ ⟨w3,g3,hr3,rfl,rfl⟩|(refine G.call 236 ?_;refine S.c ?_ (h:=hci))|refine S.x ?_|(refine G.call 248 ?_;refine S.c ?_ (h:=YD))|(refine G.call 247 ?_;refine S.c ?_ (h:=Y4))|intro hb|fail)
   all_goals exact Tr.fin hK ⟨w3,g3,hr3,rfl,rfl⟩ S.E
 ·have hsm:XN C c k s=Xa C c k s.call 3 0:=by unfold XN;rw[if_neg hrg]
  rw[hsm]at hK
  have hrn:=fun s'=>Xs (k:=k) (call:=s.call) (code:=3) (value:=0) (s:=s') hr
  have hth: (decide (0≤s.a)&&decide (s.a<(if(4:Int)<(C.conf.slates.d.length:Int)then 4 else(C.conf.slates.d.length:Int))))=false:=by
   rw[Bool.and_eq_false_iff,decide_eq_false_iff_not,decide_eq_false_iff_not]
   by_cases h5: (4:Int)<(C.conf.slates.d.length:Int)
   ·rw[if_pos h5];omega
   ·rw[if_neg h5];omega
  refine S.I fun u=>?_
  have hX:=I4 @xDK.eq_def hca hcb hth;repeat' (first|refine S.x ?_|(refine G.call 248 ?_;refine S.c ?_ (h:=YD))|(refine G.call 231 ?_;refine S.c ?_ (h:=Xx ?_))|rintro _ _ ⟨rfl,rfl⟩|rintro _ _ ⟨_,rfl,rfl⟩|(refine G.prop ?_;assumption)|intro hb|fail)
  all_goals
   rename_i sv
   refine Tr.fin hK ⟨{w with ev:=sv},gs,hrn sv,rfl,rfl⟩ ?_
   have hX:=@Xa.eq_def
   clear h hca hcb hth
   simp only[ap]
   exact S.E
theorem xof (hc:okC C) (hr:Rel C c w gs) (hk:inR C.progs k) (hf:few c 22) (hs:s.ok) (hz:ix C.conf.slates.d s.a≤300) (h:s.call=20):
  Xb prog 197 #[ptr b,.int .i64 k,.agg (En.enc s).toArray] (Xh b C c w gs)
  fun v l'=>∃w2 gs2,Rel C (XN C c k s) w2 gs2∧v=.tuple #[]∧l'=Xh b C (XN C c k s) w2 gs2:=by
 intro F K hK
 simp only[ap]at hK⊢
 refine Tr.okX (b:=w.obs) (c:=C.conf) (o:=c.obs) S.K fun hoo=>?_
 have hf1:few c 1:=by unfold few at*;omega
 have hf2:few c 2:=by unfold few at*;omega
 have hf3:=hf1
 unfold few at hf3
 have h8:=hc.n8
 have htl:c.tb.d.length≤1000000:=by rw[hr.ok.tb];omega
 have hca:decide (s.call=22)=false:=by rw[h];rfl
 have hcb:decide (s.call=21)=false:=by rw[h];rfl
 by_cases hrg:0≤s.a∧s.a<(C.conf.slates.d.length:Int)∧s.a<4
 ·obtain⟨hir,hiz⟩:=xcj hoo hrg
  obtain⟨r1,r2,r3⟩:=hrg
  have hth: (decide (0≤s.a)&&decide (s.a<(if(4:Int)<(C.conf.slates.d.length:Int)then 4 else(C.conf.slates.d.length:Int))))=true:=by
   rw[Bool.and_eq_true,decide_eq_true_eq,decide_eq_true_eq]
   by_cases h5: (4:Int)<(C.conf.slates.d.length:Int)
   ·rw[if_pos h5];omega
   ·rw[if_neg h5];omega
  have hsz:J4 c.obs.pools c.obs.slates s.a 0=ix C.conf.slates.d s.a:=by
   unfold J4
   rw[if_pos r1,if_pos hir,hiz]
  obtain⟨sz,hsz2⟩:∃sz,sz=ix C.conf.slates.d s.a:=⟨_,rfl⟩
  rw[←hsz2]at hsz hz
  obtain⟨bs,hbs⟩:∃bs,bs=ldB c.mem s.b s.c:=⟨_,rfl⟩
  obtain⟨c0,hc0⟩:∃c0:CM,c0=Xa C {c with obs:={c.obs with slates:=QC c.obs.slates s.a bs}} k s.call (Qq c.obs.slates s.a bs.length) 0:=⟨_,rfl⟩
  obtain⟨R,hR⟩:∃R,R=Z5 C s.a bs 20 c0:=⟨_,rfl⟩
  have hsm:XN C c k s=if Zx c s sz=true then R else Jb C c k s sz:=by
   rw[hR,hc0,hbs]
   unfold XN
   rw[if_pos ⟨r1,r2,r3⟩,←hsz2]
   simp only
   rw[if_neg (by rw[h];decide),if_neg (by rw[h];decide),h]
  rw[hsm]at hK
  clear hsm hsz2
  cases hfr:Zx c s sz with
  | true=>
   rw[hfr,if_pos rfl]at hK
   have hle:bs.length≤300:=by rw[hbs];exact JE hfr hz
   have hcf:=xds (b:=b) (C:=C) (w:=w) (gs:=gs) (k:=k) hs hfr
   have hr0:∀s,Rel C c0 {w with ev:=s} gs:=fun s=>by rw[hc0];exact Xs (VI hr)
   have hf4:few c0 8:=by unfold few at*;rw[hc0];simp only[Xa,List.length_append,List.length_cons,List.length_nil];omega
   rw[←hbs]at hcf
   refine S.I fun u=>?_
   have hX:=I5 @xDK.eq_def hca hcb hth hsz;repeat' (first|rintro _ _ ⟨rfl,rfl⟩|rintro _ _ ⟨_,rfl,rfl⟩|(refine G.call 239 ?_;refine S.c ?_ (h:=hcf))|refine S.x ?_|(refine G.call 248 ?_;refine S.c ?_ (h:=YD))|(refine G.call 231 ?_;refine S.c ?_ (h:=Xx ?_))|(refine G.call 247 ?_;refine S.c ?_ (h:=Y4))|(refine G.call 254 ?_;refine S.c ?_ (h:=xoN ‹_›))|(refine G.call 180 ?_;refine S.c ?_ (h:=YV _ _ _ _ ?_))|(refine G.prop ?_;assumption)|intro hb|fail)
   rename_i s4 sv
   refine Tr.imp (l':=blk hb (.cells (En.enc s).toArray 80 (0,0))::sl true s4.v bs::Xh b C c0 {w with ev:=sv} gs++F) ?_ ?_
   ·subst hc0
    clear h hca hcb hth hsz
    simp only[ap]
    have hX:=@Xa.eq_def
    show Xd [] _ _
    exact S.E
   have htb0:c.tb=c0.tb:=by rw[hc0];rfl
   rw[htb0]
   have hcn:cnt (One.waits 21 s.a) c0.tb≤8:=Nat.le_trans xgJ (by rw[←htb0,hr.ok.tb];omega)
   have hf5:few c0 (cnt (One.waits 21 s.a) c0.tb):=by unfold few at*;omega
   have hrs:=hr0 sv
   clear hc0 hr0 htb0 hf4 hr htl hf hf1 hf2 hf3 hth hsz hcf hbs
   simp only[ap]
   refine Tr.loopE (α:=CM×Nat×CW×List Xe) [11] [0,5,9] (fun x=>[.int .i64 (XB x.1 21 s.a)]) (fun x=>Xh b C x.1 x.2.2.1 x.2.2.2) (fun x=>Z5 C s.a bs x.2.1 x.1=R∧cnt (One.waits 21 s.a) x.1.tb<x.2.1∧few x.1 (cnt (One.waits 21 s.a) x.1.tb)∧Rel C x.1 x.2.2.1 x.2.2.2) (fun x=>x.2.1) (c0,20,{w with ev:=sv},gs) S.T rfl ⟨hR.symm,by simp only;omega,hf5,hrs⟩ fun x u hx=>?_
   obtain⟨c1,n,w1,g1⟩:=x
   obtain⟨he,hn,hf1,hr1⟩:=hx
   simp only at he hn hf1 hr1⊢
   simp only[ap]
   have htb1:=hr1.ok.tb
   clear hrs hf5 hcn hR
   by_cases h0:XB c1 21 s.a<0
   ·rw[xbY h0]at he
    rw[←he]at hK
    have hX:=@xDK.eq_def;repeat' (first|refine S.x ?_|fail)
    all_goals
     refine Tr.fin hK ⟨w1,g1,hr1,rfl,rfl⟩ ?_
     clear h hca hcb
     exact S.E
   ·obtain⟨m,rfl⟩:∃m,n=m+1:=⟨n-1,by omega⟩
    have hkw:=ZW hr1 h0
    have hce:cnt (One.waits 21 s.a) (Zy C c1 (XB c1 21 s.a) 21 bs).tb+1=cnt (One.waits 21 s.a) c1.tb:=xdx (c2:={c1 with mem:=stB c1.mem (ix c1.addr (XB c1 21 s.a)) bs}) h0 rfl
    unfold Z5 at he
    rw[if_neg h0]at he
    generalize XB c1 21 s.a=kw at*
    obtain⟨c3,hc3⟩:∃c3:CM,c3=Zy C c1 kw 21 bs:=⟨_,rfl⟩
    have hl3:c3.tb.d.length≤1000000:=by rw[hc3,xhA,Zf,hr1.ok.tb];omega
    have hf2:few c1 1:=by unfold few at*;omega
    have hf3:few c3 (cnt (One.waits 21 s.a) c3.tb):=by
     rw[←hc3]at hce
     have:c3.evs.length=c1.evs.length+1:=by rw[hc3];simp[Zy,Zc,Xa,XW]
     unfold few at*
     rw[this];omega
    rw[←hc3]at hce he
    have hco:=xbc (b:=b) (call:=21) (s3:=s4) (bs:=bs) hr1 hkw hf2
    rw[←hc3]at hco
    clear hr1 hc3
    have hX:=@xDK.eq_def;repeat' (first|rintro _ _ ⟨rfl,rfl⟩|rintro _ _ ⟨w2,gs2,hrel,rfl,rfl⟩|(refine G.call 184 ?_;refine S.c ?_ (h:=hco))|refine S.x ?_|(refine G.call 180 ?_;refine S.c ?_ (h:=YV _ _ _ _ ?_))|(refine G.prop ?_;assumption)|fail)
    all_goals
     clear h hca hcb
     exact S.R ((c3,m,w2,gs2):CM×Nat×CW×List Xe)
  |false=>
   rw[hfr,if_neg (by decide)]at hK
   have hcf:=xdy (b:=b) hc hr hk hf2 hs hfr
   refine S.I fun u=>?_
   have hX:=I5 @xDK.eq_def hca hcb hth hsz;repeat' (first|rintro _ _ ⟨rfl,rfl⟩|rintro _ _ ⟨s4,w3,g3,hr3,rfl,rfl⟩|(refine G.call 239 ?_;refine S.c ?_ (h:=hcf))|refine S.x ?_|(refine G.call 248 ?_;refine S.c ?_ (h:=YD))|(refine G.call 247 ?_;refine S.c ?_ (h:=Y4))|intro hb|fail)
   all_goals exact Tr.fin hK ⟨w3,g3,hr3,rfl,rfl⟩ S.E
 ·have hsm:XN C c k s=Xa C c k s.call 3 0:=by unfold XN;rw[if_neg hrg]
  rw[hsm]at hK
  have hrn:=fun s'=>Xs (k:=k) (call:=s.call) (code:=3) (value:=0) (s:=s') hr
  have hth: (decide (0≤s.a)&&decide (s.a<(if(4:Int)<(C.conf.slates.d.length:Int)then 4 else(C.conf.slates.d.length:Int))))=false:=by
   rw[Bool.and_eq_false_iff,decide_eq_false_iff_not,decide_eq_false_iff_not]
   by_cases h5: (4:Int)<(C.conf.slates.d.length:Int)
   ·rw[if_pos h5];omega
   ·rw[if_neg h5];omega
  refine S.I fun u=>?_
  have hX:=I4 @xDK.eq_def hca hcb hth;repeat' (first|refine S.x ?_|(refine G.call 248 ?_;refine S.c ?_ (h:=YD))|(refine G.call 231 ?_;refine S.c ?_ (h:=Xx ?_))|rintro _ _ ⟨rfl,rfl⟩|rintro _ _ ⟨_,rfl,rfl⟩|(refine G.prop ?_;assumption)|intro hb|fail)
  all_goals
   rename_i sv
   refine Tr.fin hK ⟨{w with ev:=sv},gs,hrn sv,rfl,rfl⟩ ?_
   have hX:=@Xa.eq_def
   clear h hca hcb hth
   simp only[ap]
   exact S.E
end
section
variable {b:Nat} {C:CC} {c:CM} {w:CW} {gs:List Xe} {k:Int} {s:XE}
theorem xtX (hc:okC C) (hr:Rel C c w gs) (hk:inR C.progs k) (hf:few c 22) (hs:s.ok) (h:s.call=25):
  Xb prog 198 #[ptr b,.int .i64 k,.agg (En.enc s).toArray] (Xh b C c w gs)
  fun v l'=>∃w2 gs2,Rel C (Ze C c k s) w2 gs2∧v=.tuple #[]∧l'=Xh b C (Ze C c k s) w2 gs2:=by
 intro F K hK
 simp only[ap]at hK⊢
 have hf1:few c 1:=by unfold few at*;omega
 have hf2:few c 2:=by unfold few at*;omega
 have hf3:=hf1
 unfold few at hf3
 have h8:=hc.n8
 have htl:c.tb.d.length≤1000000:=by rw[hr.ok.tb];omega
 have hca:decide (s.call=25)=true:=by rw[h];rfl
 have hz:=hs.1
 obtain⟨c1,hc1⟩:∃c1:CM,c1={c with mem:=stB c.mem s.a (b4 s.b)}:=⟨_,rfl⟩
 have hr1:Rel C c1 w gs:=by rw[hc1];exact xgK hr
 have hf4:few c1 2:=by rw[hc1];exact hf2
 have hsm:Ze C c k s=if stO c.mem s.a 4=true then Xa C c1 k s.call 0 0 else JV C c1 k s:=by
  unfold Ze
  rw[if_pos h,hc1,h]
 rw[hsm]at hK
 refine S.I fun u=>?_
 cases hst:stO c.mem s.a 4 with
 | true=>
  rw[hst,if_pos rfl]at hK
  have hrn:=fun s'=>Xs (k:=k) (call:=s.call) (code:=0) (value:=0) (s:=s') hr1
  have hX:=I3 @xFN.eq_def hca hst;repeat' (first|refine S.x ?_|(refine G.call 255 ?_;refine S.c ?_ (h:=xbV ‹_›))|(refine G.call 256 ?_;refine S.c ?_ (h:=xmj ‹_›))|(refine G.call 178 ?_;refine S.c ?_ (h:=Zq ?_))|rintro _ _ ⟨rfl,rfl⟩|rintro _ _ ⟨_,rfl,rfl⟩|(refine G.prop ?_;assumption)|intro hb|fail)
  all_goals
   rename_i sv
   refine Tr.fin hK ⟨{w with ev:=sv},gs,hrn sv,rfl,rfl⟩ ?_
   subst hc1
   have hX:=@Xa.eq_def
   clear h hca
   simp only[ap]
   exact S.E
 | false=>
  rw[hst,if_neg (by decide)]at hK
  have hcb:=xdt (b:=b) (s:=s) hc hr1 hk hf4
  have hX:=I3 @xFN.eq_def hca hst;repeat' (first|refine S.x ?_|(refine G.call 255 ?_;refine S.c ?_ (h:=xbV ‹_›))|(refine G.call 256 ?_;refine S.c ?_ (h:=xmj ‹_›))|rintro _ _ ⟨rfl,rfl⟩|intro hb|fail)
  refine Tr.imp (l':=Xh b C c1 w gs++F) ?_ ?_
  ·subst hc1
   clear h hca
   simp only[ap]
   show Xd [] _ _
   exact S.E
  clear hc1 hr1 hr hsm
  simp only[ap]
  have hX:=@xFN.eq_def;repeat' (first|rintro _ _ ⟨w3,g3,hr3,rfl,rfl⟩|(refine G.call 257 ?_;refine S.c ?_ (h:=hcb))|refine S.x ?_|fail)
  all_goals exact Tr.fin hK ⟨w3,g3,hr3,rfl,rfl⟩ S.E
theorem xut (hc:okC C) (hr:Rel C c w gs) (hk:inR C.progs k) (hf:few c 22) (hs:s.ok) (h:s.call=24):
  Xb prog 198 #[ptr b,.int .i64 k,.agg (En.enc s).toArray] (Xh b C c w gs)
  fun v l'=>∃w2 gs2,Rel C (Ze C c k s) w2 gs2∧v=.tuple #[]∧l'=Xh b C (Ze C c k s) w2 gs2:=by
 intro F K hK
 simp only[ap]at hK⊢
 have hf1:few c 1:=by unfold few at*;omega
 have hf2:few c 2:=by unfold few at*;omega
 have hf3:=hf1
 unfold few at hf3
 have h8:=hc.n8
 have htl:c.tb.d.length≤1000000:=by rw[hr.ok.tb];omega
 have hca:decide (s.call=25)=false:=by rw[h];rfl
 have hz:=hs.1
 have hsm:Ze C c k s=if ldO c.mem s.a 4=true then Xa C c k s.call 0 (wdB c.mem s.a)else JV C c k s:=by
  unfold Ze
  rw[if_neg (by rw[h];decide),h]
 rw[hsm]at hK
 refine S.I fun u=>?_
 cases hst:ldO c.mem s.a 4 with
 | true=>
  rw[hst,if_pos rfl]at hK
  have hrn:=fun s'=>Xs (k:=k) (call:=s.call) (code:=0) (value:=wdB c.mem s.a) (s:=s') hr
  have hX:=I3 @xFN.eq_def hca hst;repeat' (first|refine S.x ?_|(refine G.call 255 ?_;refine S.c ?_ (h:=xbV ‹_›))|(refine G.call 178 ?_;refine S.c ?_ (h:=Zq ?_))|rintro _ _ ⟨rfl,rfl⟩|rintro _ _ ⟨_,rfl,rfl⟩|(refine G.prop ?_;assumption)|intro hb|fail)
  all_goals
   rename_i sv
   refine Tr.fin hK ⟨{w with ev:=sv},gs,hrn sv,rfl,rfl⟩ ?_
   have hX:=@Xa.eq_def
   clear h hca
   simp only[ap]
   exact S.E
 |false=>
  rw[hst,if_neg (by decide)]at hK
  have hcb:=xdt (b:=b) (s:=s) hc hr hk hf2
  have hX:=I3 @xFN.eq_def hca hst;repeat' (first|rintro _ _ ⟨rfl,rfl⟩|rintro _ _ ⟨w3,g3,hr3,rfl,rfl⟩|(refine G.call 257 ?_;refine S.c ?_ (h:=hcb))|refine S.x ?_|(refine G.call 255 ?_;refine S.c ?_ (h:=xbV ‹_›))|intro hb|fail)
  all_goals exact Tr.fin hK ⟨w3,g3,hr3,rfl,rfl⟩ S.E
theorem xks (hc:okC C) (hr:Rel C c w gs) (_hk:inR C.progs k) (hf:few c 22) (_hs:s.ok) (h:s.call=27):
  Xb prog 199 #[ptr b,.int .i64 k,.agg (En.enc s).toArray] (Xh b C c w gs)
  fun v l'=>∃w2 gs2,Rel C (Vb C c k s) w2 gs2∧v=.tuple #[]∧l'=Xh b C (Vb C c k s) w2 gs2:=by
 intro F K hK
 simp only[ap]at hK⊢
 have hf1:few c 1:=by unfold few at*;omega
 have hf2:few c 2:=by unfold few at*;omega
 have hf3:=hf1
 unfold few at hf3
 have h8:=hc.n8
 have htl:c.tb.d.length≤1000000:=by rw[hr.ok.tb];omega
 obtain⟨c1,hc1⟩:∃c1:CM,c1=Xa C c k s.call 0 0:=⟨_,rfl⟩
 have hr1:∀s,Rel C c1 {w with ev:=s} gs:=fun s=>by rw[hc1];exact Xs hr
 have hsm:Vb C c k s=if s.a=0 then WU C c1 else if s.a=1∨s.a=2 then Qi C c1 (decide (s.a=1))else if s.a=3 then Xa C c k s.call 6 0 else Xa C c k s.call 2 0:=by
  unfold Vb
  rw[hc1,h]
 rw[hsm]at hK
 refine S.I fun u=>?_
 by_cases h0:s.a=0
 ·rw[if_pos h0]at hK
  have hci:=fun s=>xef (b:=b) hc (hr1 s)
  repeat' (first|refine S.x ?_|(refine G.call 231 ?_;refine S.c ?_ (h:=Xx ?_))|rintro _ _ ⟨_,rfl,rfl⟩|(refine G.prop ?_;assumption)|intro hb|fail)
  rename_i sv
  refine Tr.imp (l':=Xh b C c1 {w with ev:=sv} gs++F) ?_ ?_
  ·subst hc1
   clear h
   simp only[ap]
   have hX:=@Xa.eq_def
   show Xd [] _ _
   exact S.E
  clear hc1 hr1 hr hsm
  simp only[ap]
  repeat' (first|rintro _ _ ⟨g3,hr3,rfl,rfl⟩|(refine G.call 216 ?_;refine S.c ?_ (h:=hci sv))|refine S.x ?_|fail)
  all_goals exact Tr.fin hK ⟨_,g3,hr3,rfl,rfl⟩ S.E
 ·rw [if_neg h0]at hK
  by_cases h12:s.a=1∨s.a=2
  ·rw[if_pos h12]at hK
   have hci:=fun s cold=>Q4 (b:=b) (cold:=cold) hc (hr1 s)
   repeat' (first|refine S.x ?_|refine S.y ?_ ?_|(refine G.call 231 ?_;refine S.c ?_ (h:=Xx ?_))|rintro _ _ ⟨_,rfl,rfl⟩|(refine G.prop ?_;assumption)|intro hb|fail)
   all_goals
    rename_i sv
    refine Tr.imp (l':=Xh b C c1 {w with ev:=sv} gs++F) ?_ ?_
    ·subst hc1
     clear h
     simp only[ap]
     have hX:=@Xa.eq_def
     show Xd [] _ _
     exact S.E
    clear hc1 hr1 hr hsm
    simp only[ap]
    repeat' (first|rintro _ _ ⟨g3,hr3,rfl,rfl⟩|(refine G.call 215 ?_;refine S.c ?_ (h:=hci sv _))|refine S.x ?_|fail)
    all_goals exact Tr.fin hK ⟨_,g3,hr3,rfl,rfl⟩ S.E
  ·rw[if_neg h12]at hK
   by_cases h3:s.a=3
   ·rw[if_pos h3]at hK
    have hrn:=fun s'=>Xs (k:=k) (call:=s.call) (code:=6) (value:=0) (s:=s') hr
    repeat' (first|refine S.x ?_|(refine G.call 231 ?_;refine S.c ?_ (h:=Xx ?_))|rintro _ _ ⟨_,rfl,rfl⟩|(refine G.prop ?_;assumption)|intro hb|fail)
    all_goals
     rename_i sv
     refine Tr.fin hK ⟨{w with ev:=sv},gs,hrn sv,rfl,rfl⟩ ?_
     have hX:=@Xa.eq_def
     clear h
     simp only[ap]
     exact S.E
   ·rw[if_neg h3]at hK
    have hrn:=fun s'=>Xs (k:=k) (call:=s.call) (code:=2) (value:=0) (s:=s') hr
    repeat' (first|refine S.x ?_|(refine G.call 231 ?_;refine S.c ?_ (h:=Xx ?_))|rintro _ _ ⟨_,rfl,rfl⟩|(refine G.prop ?_;assumption)|intro hb|fail)
    all_goals
     rename_i sv
     refine Tr.fin hK ⟨{w with ev:=sv},gs,hrn sv,rfl,rfl⟩ ?_
     have hX:=@Xa.eq_def
     clear h
     simp only[ap]
     exact S.E
