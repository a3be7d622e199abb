import Derived.Test.YtmebccjndhlpoaaGreatJV
namespace Go.Proofs.YtmebccjndhlpoaaGreat
open Go Go.Wk Tryz
set_option maxHeartbeats 3200000
set_option maxRecDepth 100000
section
section
variable {b:Nat} {C:CC} {c:CM} {w:CW} {gs:List Xe} {k:Int} {s:XE}
theorem VI {o:ObM} (h:Rel C c w gs):Rel C {c with obs:=o} w gs:=
 ⟨⟨h.ok.tb,h.ok.pos,h.ok.rest,h.ok.addr,h.ok.data,h.ok.done,h.ok.pi,h.ok.ad,h.ok.dl⟩,h.hp,h.hi,h.hr,h.ha,h.hd,h.hw,h.hs,h.hq⟩
theorem xne {l:List Bool} {a:Int}:YT l a≠1:=by
 unfold YT
 split<;>decide
end
end
section
attribute [local irreducible] BrK Xq Xt Xv XI FnK XZ Xw XC XV opX opK Yq Yk eqR Yj Yo Ys WL WD W X3 XO Tr drewK Ya X4 Yw Yv X1 YB mp blk rob sl sep ex fact old
section
attribute [local irreducible] Y1 X2 objX Zw
section
variable {b:Nat} {C:CC} {c:CM} {w:CW} {gs:List Xe} {k:Int} {s:XE}
theorem xuP (hc:okC C) (hr:Rel C c w gs) (hk:inR C.progs k) (hf:few c 22) (hs:s.ok) (h:s.call=13):
  Xb prog 195 #[ptr b,.int .i64 k,.agg (En.enc s).toArray] (Xh b C c w gs)
  fun v l'=>∃w2 gs2,Rel C (XG C c k s) w2 gs2∧v=.tuple #[]∧l'=Xh b C (XG C c k s) w2 gs2:=by
 intro F K hK
 simp only[ap]at hK⊢
 have hf1:few c 1:=by unfold few at*;omega
 have hf3:=hf1
 unfold few at hf3
 have h8:=hc.n8
 have htl:c.tb.d.length≤1000000:=by rw[hr.ok.tb];omega
 have hca:decide (s.call=13)=true:=by rw[h];rfl
 have hcb:decide (s.call=14)=false:=by rw[h];rfl
 have hcc:decide (s.call=15)=false:=by rw[h];rfl
 have hcd:decide (s.call=16)=false:=by rw[h];rfl
 obtain⟨c1,hc1⟩:∃c1:CM,c1={c with obs:={c.obs with sems:=xbI c.obs.sems s.a}}:=⟨_,rfl⟩
 have hr1:Rel C c1 w gs:=by rw[hc1];exact VI hr
 have hf4:few c1 1:=by rw[hc1];exact hf1
 have hsm:XG C c k s=WR C c1 k s (VA c.obs.sems s.a):=by
  unfold XG WR
  rw[if_pos h,h,hc1]
 rw[hsm]at hK
 have hct:=xfM (b:=b) (code:=VA c.obs.sems s.a) hr1 hk hf4 hs
 refine S.I fun u=>?_
 have hX:=I5 @xhr.eq_def hca hcb hcc hcd;repeat' (first|refine S.x ?_|(refine G.call 242 ?_;refine S.c ?_ (h:=xaq))|(refine G.call 244 ?_;refine S.c ?_ (h:=xpy))|rintro _ _ ⟨rfl,rfl⟩|intro hb|fail)
 refine Tr.imp (l':=Xh b C c1 w gs++F) ?_ ?_
 ·subst hc1
  clear h hca hcb hcc hcd
  simp only[ap]
  show Xd [] _ _
  exact S.E
 clear hc1 hr1 hr hsm
 simp only[ap]
 have hX:=@xhr.eq_def;repeat' (first|rintro _ _ ⟨w3,g3,hr3,rfl,rfl⟩|(refine G.call 243 ?_;refine S.c ?_ (h:=hct))|refine S.x ?_|fail)
 all_goals exact Tr.fin hK ⟨w3,g3,hr3,rfl,rfl⟩ S.E
theorem xu0 (hc:okC C) (hr:Rel C c w gs) (_hk:inR C.progs k) (hf:few c 22) (_hs:s.ok) (h:s.call=14):
  Xb prog 195 #[ptr b,.int .i64 k,.agg (En.enc s).toArray] (Xh b C c w gs)
  fun v l'=>∃w2 gs2,Rel C (XG C c k s) w2 gs2∧v=.tuple #[]∧l'=Xh b C (XG C c k s) w2 gs2:=by
 intro F K hK
 simp only[ap]at hK⊢
 have hf1:few c 1:=by unfold few at*;omega
 have hf3:=hf1
 unfold few at hf3
 have h8:=hc.n8
 have htl:c.tb.d.length≤1000000:=by rw[hr.ok.tb];omega
 have hca:decide (s.call=13)=false:=by rw[h];rfl
 have hcb:decide (s.call=14)=true:=by rw[h];rfl
 have hcc:decide (s.call=15)=false:=by rw[h];rfl
 have hcd:decide (s.call=16)=false:=by rw[h];rfl
 have hsm:XG C c k s=if 0≤c.tb.best (One.waits 13 s.a)then Zc C (Xa C c k s.call 0 0) (c.tb.best (One.waits 13 s.a)) 13 0 0
  else Xa C {c with obs:={c.obs with sems:=QX c.obs.sems s.a}} k s.call (QO c.obs.sems s.a) 0:=by
  unfold XG XB
  rw[if_neg (by rw[h];decide),if_pos h,h]
 rw[hsm]at hK
 by_cases h0:0≤c.tb.best (One.waits 13 s.a)
 ·rw[if_pos h0]at hK
  have hkw:=ZW (call:=13) (p:=s.a) hr (Int.not_lt.2 h0)
  obtain⟨c1,hc1⟩:∃c1:CM,c1=Xa C c k s.call 0 0:=⟨_,rfl⟩
  have hr1:∀s,Rel C c1 {w with ev:=s} gs:=fun s=>by rw[hc1];exact Xs hr
  have hf4:few c1 1:=by unfold few at*;rw[hc1];simp only[Xa,List.length_append,List.length_cons,List.length_nil];omega
  have hcc2:=fun s=>ZE (b:=b) (call:=13) (code:=0) (value:=0) (hr1 s) hkw hf4
  rw[←hc1]at hK
  refine S.I fun u=>?_
  have hX:=I5 @xhr.eq_def hca hcb hcc hcd;repeat' (first|refine S.x ?_|(refine G.call 242 ?_;refine S.c ?_ (h:=xaq))|(refine G.call 180 ?_;refine S.c ?_ (h:=YV _ _ _ _ ?_))|(refine G.call 231 ?_;refine S.c ?_ (h:=Xx ?_))|rintro _ _ ⟨rfl,rfl⟩|rintro _ _ ⟨_,rfl,rfl⟩|(refine G.prop ?_;assumption)|intro hb|fail)
  rename_i sv
  refine Tr.imp (l':=Xh b C c1 {w with ev:=sv} gs++F) ?_ ?_
  ·subst hc1
   clear h hca hcb hcc hcd
   simp only[ap]
   have hX:=@Xa.eq_def
   show Xd [] _ _
   exact S.E
  clear hc1 hr1 hr hsm
  simp only[ap]
  have hX:=@xhr.eq_def;repeat' (first|rintro _ _ ⟨w3,g3,hr3,rfl,rfl⟩|(refine G.call 182 ?_;refine S.c ?_ (h:=hcc2 sv))|refine S.x ?_|fail)
  all_goals exact Tr.fin hK ⟨w3,g3,hr3,rfl,rfl⟩ S.E
 ·rw[if_neg h0]at hK
  have hrn:=fun s'=>Xs (k:=k) (call:=s.call) (code:=QO c.obs.sems s.a) (value:=0) (s:=s') (VI (o:={c.obs with sems:=QX c.obs.sems s.a}) hr)
  refine S.I fun u=>?_
  have hX:=I5 @xhr.eq_def hca hcb hcc hcd;repeat' (first|refine S.x ?_|(refine G.call 242 ?_;refine S.c ?_ (h:=xaq))|(refine G.call 180 ?_;refine S.c ?_ (h:=YV _ _ _ _ ?_))|(refine G.call 231 ?_;refine S.c ?_ (h:=Xx ?_))|(refine G.call 245 ?_;refine S.c ?_ (h:=xn6))|rintro _ _ ⟨rfl,rfl⟩|rintro _ _ ⟨_,rfl,rfl⟩|(refine G.prop ?_;assumption)|intro hb|fail)
  all_goals
   rename_i sv
   refine Tr.fin hK ⟨{w with ev:=sv},gs,hrn sv,rfl,rfl⟩ ?_
   have hX:=@Xa.eq_def
   clear h hca hcb hcc hcd
   simp only[ap]
   exact S.E
theorem xun (hc:okC C) (hr:Rel C c w gs) (_hk:inR C.progs k) (hf:few c 22) (_hs:s.ok) (h:s.call=16):
  Xb prog 195 #[ptr b,.int .i64 k,.agg (En.enc s).toArray] (Xh b C c w gs)
  fun v l'=>∃w2 gs2,Rel C (XG C c k s) w2 gs2∧v=.tuple #[]∧l'=Xh b C (XG C c k s) w2 gs2:=by
 intro F K hK
 simp only[ap]at hK⊢
 have hf1:few c 1:=by unfold few at*;omega
 have hf3:=hf1
 unfold few at hf3
 have h8:=hc.n8
 have htl:c.tb.d.length≤1000000:=by rw[hr.ok.tb];omega
 have hca:decide (s.call=13)=false:=by rw[h];rfl
 have hcb:decide (s.call=14)=false:=by rw[h];rfl
 have hcc:decide (s.call=15)=false:=by rw[h];rfl
 have hcd:decide (s.call=16)=true:=by rw[h];rfl
 have hsm:XG C c k s=Xa C {c with obs:={c.obs with flags:=JS c.obs.flags s.a false}} k s.call (YT c.obs.flags s.a) 0:=by
  unfold XG
  rw[if_neg (by rw[h];decide),if_neg (by rw[h];decide),if_neg (by rw[h];decide),if_pos h,h]
 rw[hsm]at hK
 have hrn:=fun s'=>Xs (k:=k) (call:=s.call) (code:=YT c.obs.flags s.a) (value:=0) (s:=s') (VI (o:={c.obs with flags:=JS c.obs.flags s.a false}) hr)
 refine S.I fun u=>?_
 have hX:=I5 @xhr.eq_def hca hcb hcc hcd;repeat' (first|refine S.x ?_|(refine G.call 242 ?_;refine S.c ?_ (h:=xaq))|(refine G.call 231 ?_;refine S.c ?_ (h:=Xx ?_))|(refine G.call 246 ?_;refine S.c ?_ (h:=xhI))|rintro _ _ ⟨rfl,rfl⟩|rintro _ _ ⟨_,rfl,rfl⟩|(refine G.prop ?_;assumption)|intro hb|fail)
 all_goals
  rename_i sv
  refine Tr.fin hK ⟨{w with ev:=sv},gs,hrn sv,rfl,rfl⟩ ?_
  have hX:=@Xa.eq_def
  clear h hca hcb hcc hcd
  simp only[ap]
  exact S.E
theorem xuJ (hc:okC C) (hr:Rel C c w gs) (hk:inR C.progs k) (hf:few c 22) (hs:s.ok) (h:s.call=17):
  Xb prog 195 #[ptr b,.int .i64 k,.agg (En.enc s).toArray] (Xh b C c w gs)
  fun v l'=>∃w2 gs2,Rel C (XG C c k s) w2 gs2∧v=.tuple #[]∧l'=Xh b C (XG C c k s) w2 gs2:=by
 intro F K hK
 simp only[ap]at hK⊢
 have hf1:few c 1:=by unfold few at*;omega
 have hf3:=hf1
 unfold few at hf3
 have h8:=hc.n8
 have htl:c.tb.d.length≤1000000:=by rw[hr.ok.tb];omega
 have hca:decide (s.call=13)=false:=by rw[h];rfl
 have hcb:decide (s.call=14)=false:=by rw[h];rfl
 have hcc:decide (s.call=15)=false:=by rw[h];rfl
 have hcd:decide (s.call=16)=false:=by rw[h];rfl
 have hsm:XG C c k s=WR C c k s (if upM c.obs.flags s.a=true∨YT c.obs.flags s.a≠0 then YT c.obs.flags s.a else 1):=by
  unfold XG WR
  rw[if_neg (by rw[h];decide),if_neg (by rw[h];decide),if_neg (by rw[h];decide),if_neg (by rw[h];decide),h]
  split
  ·rw[if_neg xne]
  ·rw[if_pos rfl]
 rw[hsm]at hK
 have hct:=fun code=>xfM (b:=b) (code:=code) hr hk hf1 hs
 refine S.I fun u=>?_
 by_cases h0:YT c.obs.flags s.a=0
 ·cases hup:upM c.obs.flags s.a with
  |true=>
   rw[hup,if_pos (.inl rfl)]at hK
   have hX:=I6 @xhr.eq_def hca hcb hcc hcd hup;repeat' (first|rintro _ _ ⟨rfl,rfl⟩|rintro _ _ ⟨w3,g3,hr3,rfl,rfl⟩|(refine G.call 243 ?_;refine S.c ?_ (h:=hct _))|refine S.x ?_|(refine G.call 242 ?_;refine S.c ?_ (h:=xaq))|intro hb|fail)
   all_goals exact Tr.fin hK ⟨w3,g3,hr3,rfl,rfl⟩ S.E
  |false=>
   rw[hup,if_neg (by rw[h0];intro hh;rcases hh with hh|hh;cases hh;exact hh rfl)]at hK
   have hX:=I6 @xhr.eq_def hca hcb hcc hcd hup;repeat' (first|rintro _ _ ⟨rfl,rfl⟩|rintro _ _ ⟨w3,g3,hr3,rfl,rfl⟩|(refine G.call 243 ?_;refine S.c ?_ (h:=hct _))|refine S.x ?_|(refine G.call 242 ?_;refine S.c ?_ (h:=xaq))|intro hb|fail)
   all_goals exact Tr.fin hK ⟨w3,g3,hr3,rfl,rfl⟩ S.E
 ·rw[if_pos (.inr h0)]at hK
  have hX:=I5 @xhr.eq_def hca hcb hcc hcd;repeat' (first|rintro _ _ ⟨rfl,rfl⟩|rintro _ _ ⟨w3,g3,hr3,rfl,rfl⟩|(refine G.call 243 ?_;refine S.c ?_ (h:=hct _))|refine S.x ?_|(refine G.call 242 ?_;refine S.c ?_ (h:=xaq))|intro hb|fail)
  all_goals exact Tr.fin hK ⟨w3,g3,hr3,rfl,rfl⟩ S.E
theorem xuc (hc:okC C) (hr:Rel C c w gs) (_hk:inR C.progs k) (hf:few c 22) (_hs:s.ok) (h:s.call=15):
  Xb prog 195 #[ptr b,.int .i64 k,.agg (En.enc s).toArray] (Xh b C c w gs)
  fun v l'=>∃w2 gs2,Rel C (XG C c k s) w2 gs2∧v=.tuple #[]∧l'=Xh b C (XG C c k s) w2 gs2:=by
 intro F K hK
 simp only[ap]at hK⊢
 have hf1:few c 1:=by unfold few at*;omega
 have hf3:=hf1
 unfold few at hf3
 have h8:=hc.n8
 have htl:c.tb.d.length≤1000000:=by rw[hr.ok.tb];omega
 have hca:decide (s.call=13)=false:=by rw[h];rfl
 have hcb:decide (s.call=14)=false:=by rw[h];rfl
 have hcc:decide (s.call=15)=true:=by rw[h];rfl
 have hcd:decide (s.call=16)=false:=by rw[h];rfl
 obtain⟨c0,hc0⟩:∃c0:CM,c0=Xa C {c with obs:={c.obs with flags:=JS c.obs.flags s.a true}} k s.call (YT c.obs.flags s.a) 0:=⟨_,rfl⟩
 have hr0:∀s,Rel C c0 {w with ev:=s} gs:=fun s=>by rw[hc0];exact Xs (VI hr)
 have hf4:few c0 8:=by unfold few at*;rw[hc0];simp only[Xa,List.length_append,List.length_cons,List.length_nil];omega
 obtain⟨R,hR⟩:∃R,R=J7 C s.a 20 c0:=⟨_,rfl⟩
 have hsm:XG C c k s=R:=by
  rw[hR]
  unfold XG
  rw[if_neg (by rw[h];decide),if_neg (by rw[h];decide),if_pos h,hc0,h]
 rw[hsm]at hK
 refine S.I fun u=>?_
 have hX:=I5 @xhr.eq_def hca hcb hcc hcd;repeat' (first|refine S.x ?_|(refine G.call 242 ?_;refine S.c ?_ (h:=xaq))|(refine G.call 180 ?_;refine S.c ?_ (h:=YV _ _ _ _ ?_))|(refine G.call 231 ?_;refine S.c ?_ (h:=Xx ?_))|(refine G.call 246 ?_;refine S.c ?_ (h:=xhI))|rintro _ _ ⟨rfl,rfl⟩|rintro _ _ ⟨_,rfl,rfl⟩|(refine G.prop ?_;assumption)|intro hb|fail)
 rename_i sv
 refine Tr.imp (l':=blk hb (.cells (En.enc s).toArray 80 (0,0))::Xh b C c0 {w with ev:=sv} gs++F) ?_ ?_
 ·subst hc0
  clear h hca hcb hcc hcd
  simp only[ap]
  have hX:=@Xa.eq_def
  show Xd [] _ _
  exact S.E
 have htb0:c.tb=c0.tb:=by rw[hc0];rfl
 rw[htb0]
 have hcn:cnt (One.waits 17 s.a) c0.tb≤8:=Nat.le_trans xgJ (by rw[←htb0,hr.ok.tb];omega)
 have hf5:few c0 (cnt (One.waits 17 s.a) c0.tb):=by unfold few at*;omega
 have hrs:=hr0 sv
 clear hc0 hr0 hsm htb0 hf4 hr htl hf hf1 hf3
 simp only[ap]
 refine Tr.loopE (α:=CM×Nat×CW×List Xe) [9] [0,1,5,6,7,21] (fun x=>[.int .i64 (XB x.1 17 s.a)]) (fun x=>Xh b C x.1 x.2.2.1 x.2.2.2) (fun x=>J7 C s.a x.2.1 x.1=R∧cnt (One.waits 17 s.a) x.1.tb<x.2.1∧few x.1 (cnt (One.waits 17 s.a) x.1.tb)∧Rel C x.1 x.2.2.1 x.2.2.2) (fun x=>x.2.1) (c0,20,{w with ev:=sv},gs) S.T rfl ⟨hR.symm,by simp only;omega,hf5,hrs⟩ fun x u hx=>?_
 obtain⟨c1,n,w1,g1⟩:=x
 obtain⟨he,hn,hf1,hr1⟩:=hx
 simp only at he hn hf1 hr1⊢
 simp only[ap]
 have htb1:=hr1.ok.tb
 clear hrs hf5 hcn hR
 by_cases h0:XB c1 17 s.a<0
 ·rw[xcP h0]at he
  rw[←he]at hK
  have hX:=@xhr.eq_def;repeat' (first|refine S.x ?_|fail)
  all_goals
   refine Tr.fin hK ⟨w1,g1,hr1,rfl,rfl⟩ ?_
   clear h hca hcb hcc hcd
   exact S.E
 ·obtain⟨m,rfl⟩:∃m,n=m+1:=⟨n-1,by omega⟩
  have hkw:=ZW hr1 h0
  have hce:=xdx (C:=C) (c2:=c1) (code:=0) (value:=0) h0 rfl
  unfold J7 at he
  rw[if_neg h0]at he
  generalize XB c1 17 s.a=kw at*
  obtain⟨c3,hc3⟩:∃c3:CM,c3=Zc C c1 kw 17 0 0:=⟨_,rfl⟩
  have hl3:c3.tb.d.length≤1000000:=by rw[hc3,xf9,Zf,hr1.ok.tb];omega
  have hf2:few c1 1:=by unfold few at*;omega
  have hf3:few c3 (cnt (One.waits 17 s.a) c3.tb):=by
   rw[←hc3]at hce
   have:c3.evs.length=c1.evs.length+1:=by rw[hc3];simp[Zc,Xa,XW]
   unfold few at*
   rw[this];omega
  rw[←hc3]at hce he
  have hco:=ZE (b:=b) (call:=17) (code:=0) (value:=0) hr1 hkw hf2
  rw[←hc3]at hco
  clear hr1 hc3
  have hX:=@xhr.eq_def;repeat' (first|rintro _ _ ⟨rfl,rfl⟩|rintro _ _ ⟨w2,gs2,hrel,rfl,rfl⟩|(refine G.call 182 ?_;refine S.c ?_ (h:=hco))|refine S.x ?_|(refine G.call 180 ?_;refine S.c ?_ (h:=YV _ _ _ _ ?_))|(refine G.prop ?_;assumption)|fail)
  all_goals
   clear h hca hcb hcc hcd
   exact S.R ((c3,m,w2,gs2):CM×Nat×CW×List Xe)
theorem xka (hc:okC C) (hr:Rel C c w gs) (hk:inR C.progs k) (hf:few c 22) (hs:s.ok) (h0:13≤s.call) (h1:s.call≤17):
  Xb prog 195 #[ptr b,.int .i64 k,.agg (En.enc s).toArray] (Xh b C c w gs)
  fun v l'=>∃w2 gs2,Rel C (XG C c k s) w2 gs2∧v=.tuple #[]∧l'=Xh b C (XG C c k s) w2 gs2:=by
 by_cases e9:s.call=13
 ·exact xuP hc hr hk hf hs e9
 ·by_cases e10:s.call=14
  ·exact xu0 hc hr hk hf hs e10
  ·by_cases e11:s.call=15
   ·exact xuc hc hr hk hf hs e11
   ·by_cases e12:s.call=16
    ·exact xun hc hr hk hf hs e12
    ·exact xuJ hc hr hk hf hs S.o
end
end
end
section
theorem Tr.okX {b:Nat} {c:YF} {o:ObM} {l F:List Xc} {X:WP} (ht:Xm l (objX b c o) F) (h:okO c o→Tr (objX b c o::sl true c.pools.s.v c.pools.d::sl true c.slates.s.v c.slates.d::F) X):Tr l X:=by
 refine Tr.imp ht (Tr.pk fun g hg=>?_)
 simp only[JL,ap]
 refine Tr.imp (Xm.dupS (v:=c.pools.s.v) (xs:=c.pools.d)) ?_
 refine Tr.imp (Xm.dupS (v:=c.slates.s.v) (xs:=c.slates.d)) ?_
 refine Tr.imp ?_ (h hg.ho)
 show Xd [] _ _
 refine Xd.objX (g:=g) hg ?_
 simp only[JL,ap]
 exact S.E
section
variable {c:YF} {o:ObM} {k:Int}
theorem xik (h:okO c o) (hk:0≤k∧k<(c.pools.d.length:Int)∧k<4):inR o.pools k∧(ix o.pools k).1=(ix c.pools.d k).size:=by
 have hl:o.pools.length=min 4 c.pools.d.length:=by have:=congrArg List.length h.p;simpa using this
 have hr:inR o.pools k:=⟨hk.1,by omega⟩
 refine⟨hr,?_⟩
 have e:=congrArg (fun l=>(ix l k).1) h.p
 rw[ixR hr]at e
 have ht:inR (c.pools.d.take 4) k:=⟨hk.1,by rw[List.length_take];omega⟩
 rw[ixR ht]at e
 have e2:ix (c.pools.d.take 4) k=ix c.pools.d k:=by
  unfold ix
  rw[List.getD_eq_getElem?_getD,List.getD_eq_getElem?_getD,List.getElem?_take,if_pos S.o]
 rw[e2]at e
 exact e
theorem xcj (h:okO c o) (hk:0≤k∧k<(c.slates.d.length:Int)∧k<4):inR o.slates k∧(ix o.slates k).1=ix c.slates.d k:=by
 have hl:o.slates.length=min 4 c.slates.d.length:=by have:=congrArg List.length h.l;simpa using this
 have hr:inR o.slates k:=⟨hk.1,by omega⟩
 refine⟨hr,?_⟩
 have e:=congrArg (fun l=>ix l k) h.l
 rw[ixR hr]at e
 have e2:ix (c.slates.d.take 4) k=ix c.slates.d k:=by
  unfold ix
  rw[List.getD_eq_getElem?_getD,List.getD_eq_getElem?_getD,List.getElem?_take,if_pos S.o]
 rw[e2]at e
 exact e
end
end
section
attribute [local irreducible] BrK Xq Xt Xv XI FnK XZ Xw XC XV opX opK Yq Yk eqR Yj Yo Ys WL WD W X3 XO Tr drewK Ya X4 Yw Yv X1 YB mp blk rob sl sep ex fact old
section
attribute [local irreducible] Y1 X2 objX Zw
section
variable {b:Nat} {C:CC} {c:CM} {w:CW} {gs:List Xe} {k p n most:Int} {s:XE}
theorem YD:Xb prog 248 #[ptr b,.int .i64 k,.int .i64 n,.int .i64 most] []
  fun v l'=>v=.bool (decide (0≤k)&&decide (k<(if most<n then most else n)))∧l'=[]:=by
 intro F K hK
 simp only[List.nil_append]at hK⊢
 refine S.I fun u=>?_
 repeat' (first|refine S.x ?_|refine S.y ?_ ?_|intro hb|fail)
 all_goals exact S.L
theorem xki (hc:okC C) (hr:Rel C c w gs) (hf:few c 1):Xb prog 250 #[ptr b,.int .i64 p] (Xh b C c w gs)
  fun v l'=>∃w2 gs2,Rel C (ZD C c p) w2 gs2∧v=.tuple #[]∧l'=Xh b C (ZD C c p) w2 gs2:=by
 intro F K hK
 simp only[ap]at hK⊢
 have h8:=hc.n8
 have htl:c.tb.d.length≤1000000:=by rw[hr.ok.tb];omega
 by_cases h0:XB c 18 p<0
 ·have hrm:ZD C c p=c:=by unfold ZD;rw[if_pos h0]
  rw[hrm]at hK
  unfold XB at h0
  refine S.I fun u=>?_
  have hX:=@xGr.eq_def;repeat' (first|refine S.x ?_|(refine G.call 180 ?_;refine S.c ?_ (h:=YV _ _ _ _ ?_))|rintro _ _ ⟨rfl,rfl⟩|(refine G.prop ?_;assumption)|fail)
  all_goals exact Tr.fin hK ⟨w,gs,hr,rfl,rfl⟩ S.E
 ·have hkw:=ZW hr h0
  have hdd:=xmB hr (.inr rfl) h0
  have hle:=xmi hr hkw
  obtain⟨g0,g9⟩:=ZO hr hkw
  have hmp:=Xp (f:=Xe.pt) (xs:=gs) (k:=XB c 18 p) g0 g9
  have hlm: (gs.map Xe.pt).length=gs.length:=List.length_map _
  obtain⟨c1,hc1⟩:∃c1:CM,c1={c with obs:={c.obs with pools:=xbK c.obs.pools p (ix c.data (XB c 18 p))}}:=⟨_,rfl⟩
  have hr1:Rel C c1 w gs:=by rw[hc1];exact VI hr
  have hf1:few c1 1:=by rw[hc1];exact hf
  have hrm:ZD C c p=if Vs c.obs.pools p (ix c.data (XB c 18 p)).length=0 then Zc C c1 (XB c 18 p) 18 0 0 else c1:=by
   unfold ZD
   rw[if_neg h0,hc1]
  rw[hrm]at hK
  have hfe:c.tb.best (One.waits 18 p)=XB c 18 p:=rfl
  clear hrm
  generalize XB c 18 p=kw at*
  have hco:=ZE (b:=b) (call:=18) (code:=0) (value:=0) hr1 hkw hf1
  refine S.I fun u=>?_
  refine Tr.famAt (xs:=gs) kw S.K S.o S.o (Y5 ?_)
  rw[hdd]
  by_cases hcd:Vs c.obs.pools p (ix c.data kw).length=0
  ·rw[if_pos hcd]at hK
   have hX:=I4 @xGr.eq_def hmp @Xe.pt.eq_def hfe;repeat' (first|refine S.x ?_|(refine G.call 180 ?_;refine S.c ?_ (h:=YV _ _ _ _ ?_))|(refine G.call 251 ?_;refine S.c ?_ (h:=xce ‹_›))|rintro _ _ ⟨rfl,rfl⟩|(refine G.prop ?_;assumption)|intro hb|fail)
   refine Tr.imp (l':=Xh b C c1 w gs++F) ?_ ?_
   ·subst hc1
    simp only[ap]
    have hX:=And.intro hdd @Zg.eq_def
    show Xd [] _ _
    exact S.E
   clear hr hr1 hc1 hfe
   simp only[ap]
   have hX:=@xGr.eq_def;repeat' (first|rintro _ _ ⟨w2,gs2,hrel,rfl,rfl⟩|(refine G.call 182 ?_;refine S.c ?_ (h:=hco))|refine S.x ?_|fail)
   all_goals exact Tr.fin hK ⟨w2,gs2,hrel,rfl,rfl⟩ S.E
  ·rw[if_neg hcd]at hK
   have hX:=I4 @xGr.eq_def hmp @Xe.pt.eq_def hfe;repeat' (first|refine S.x ?_|(refine G.call 180 ?_;refine S.c ?_ (h:=YV _ _ _ _ ?_))|(refine G.call 251 ?_;refine S.c ?_ (h:=xce ‹_›))|rintro _ _ ⟨rfl,rfl⟩|(refine G.prop ?_;assumption)|intro hb|fail)
   all_goals
    refine Tr.fin hK ⟨w,gs,hr1,rfl,rfl⟩ ?_
    subst hc1
    simp only[ap]
    have hX:=And.intro hdd @Zg.eq_def
    exact S.E
