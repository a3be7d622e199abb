import Derived.Test.YtmebccjndhlpoaaGreatZ30
namespace Go.Proofs.YtmebccjndhlpoaaGreat
open Go Go.Wk Tryz
set_option maxHeartbeats 3200000
set_option maxRecDepth 100000
section
attribute [local irreducible] BrK Xq Xt Xv XI FnK XZ Xw XC XV opX opK Yq Yk eqR Yj Yo Ys WL WD W X3 XO Tr drewK Ya X4 Yw Yv X1 YB mp blk rob sl sep ex fact old
section
attribute [local irreducible] Y1 X2 objX Zw
section
variable {b:Nat} {C:CC} {c:CM} {w:CW} {gs:List Xe} {k:Int} {s:XE}
theorem xsc (hc:okC C) (hr:Rel C c w gs) (hk:inR C.progs k) (hf:few c 22) (hs:s.ok) (hz: (ix C.conf.pools.d s.a).size≤300) (h:s.call=19):
    Xb prog 196 #[ptr b,.int .i64 k,.agg (En.enc s).toArray] (Xh b C c w gs)
    fun v l'=>∃w2 gs2,Rel C (Yn C c k s) w2 gs2∧v=.tuple #[]∧l'=Xh b C (Yn C c k s) w2 gs2:=by
  intro F K hK
  simp only[ap]at hK⊢
  refine Tr.okX (b:=w.obs) (c:=C.conf) (o:=c.obs) S.K fun hoo=>?_
  have hf1:few c 1:=by unfold few at*;omega
  have hf2:few c 2:=by unfold few at*;omega
  have hf3:=hf1
  unfold few at hf3
  have h8:=hc.n8
  have htl:c.tb.d.length≤1000000:=by rw[hr.ok.tb];omega
  have hca:decide (s.call=19)=true:=by rw[h];rfl
  by_cases hrg:0≤s.a∧s.a<(C.conf.pools.d.length:Int)∧s.a<4
  · obtain⟨hir,hiz⟩:=xik hoo hrg
    obtain⟨r1,r2,r3⟩:=hrg
    have hth: (decide (0≤s.a)&&decide (s.a<(if(4:Int)<(C.conf.pools.d.length:Int)then 4 else(C.conf.pools.d.length:Int))))=true:=by
      rw[Bool.and_eq_true,decide_eq_true_eq,decide_eq_true_eq]
      by_cases h5: (4:Int)<(C.conf.pools.d.length:Int)
      · rw[if_pos h5];omega
      · rw[if_neg h5];omega
    have hsz:J4 c.obs.pools c.obs.slates (-1) s.a=(ix C.conf.pools.d s.a).size:=by
      unfold J4
      rw[if_neg (by decide),if_pos hir,hiz]
    obtain⟨sz,hsz2⟩:∃sz,sz=(ix C.conf.pools.d s.a).size:=⟨_,rfl⟩
    rw[←hsz2]at hsz hz
    have hsm:Yn C c k s=if ZR c s sz=true then
        (if Jy c.obs.pools s.a=0 then ZD C (WY C {c with obs:={c.obs with pools:=xap c.obs.pools s.a}} k s (Wg c.obs.pools s.a)) s.a else YP C {c with obs:={c.obs with pools:=xap c.obs.pools s.a}} k s [])
       else JV C c k s:=by
      unfold Yn
      rw[if_pos ⟨r1,r2,r3⟩,←hsz2]
      simp only
      rw[if_pos h]
    rw[hsm]at hK
    clear hsm hsz2
    cases hin:ZR c s sz with
    | true=>
      rw[hin,if_pos rfl]at hK
      obtain⟨c1,hc1⟩:∃c1:CM,c1={c with obs:={c.obs with pools:=xap c.obs.pools s.a}}:=⟨_,rfl⟩
      have hr1:Rel C c1 w gs:=by rw[hc1];exact VI hr
      have hf4:few c1 1:=by rw[hc1];exact hf1
      have hf5:few c1 2:=by rw[hc1];exact hf2
      have hci:=xdg (b:=b) (C:=C) (w:=w) (gs:=gs) (k:=k) hs hin
      have hcg:=fun s3=>xdi (b:=b) (s3:=s3) (bs:=Wg c.obs.pools s.a) (code:=Jy c.obs.pools s.a) hr1 hk hf4 hs
      rw[←hc1]at hK
      clear hr
      refine S.I fun u=>?_
      have hX:=I4 @xDn.eq_def hca hth hsz;repeat' (first|rintro _ _ ⟨rfl,rfl⟩|rintro _ _ ⟨_,rfl,rfl⟩|(refine G.call 236 ?_;refine S.c ?_ (h:=hci))|refine S.x ?_|(refine G.call 247 ?_;refine S.c ?_ (h:=Y4))|(refine G.call 248 ?_;refine S.c ?_ (h:=YD))|(refine G.call 249 ?_;refine S.c ?_ (h:=xr6))|intro hb|fail)
      rename_i s4
      refine Tr.imp (l':=blk hb (.cells (En.enc s).toArray 80 (0,0))::sl true s4.v (Wg c.obs.pools s.a)::Xh b C c1 w gs++F) ?_ ?_
      · subst hc1
        clear h hca hth hsz
        simp only[ap]
        show Xd [] _ _
        exact S.E
      clear hsz hth
      by_cases hcd:Jy c.obs.pools s.a=0
      · rw[if_pos hcd]at hK
        have hgm:ZI C c1 k s (Wg c.obs.pools s.a) (Jy c.obs.pools s.a)=WY C c1 k s (Wg c.obs.pools s.a):=by unfold ZI;rw[if_pos hcd]
        have hd0:decide (Jy c.obs.pools s.a=0)=true:=decide_eq_true hcd
        rw[hgm,hd0]at hcg
        obtain⟨c2,hc2⟩:∃c2,c2=WY C c1 k s (Wg c.obs.pools s.a):=⟨_,rfl⟩
        have hf6:few c2 1:=by
          unfold few at*
          rw[hc2];simp only[WY,Xa,List.length_append,List.length_cons,List.length_nil];omega
        rw[←hc2]at hcg hK
        have hcr:=fun w g (hh:Rel C c2 w g)=>xki (b:=b) (p:=s.a) hc hh hf6
        clear hc1 hc2 hr1 hgm hd0
        generalize Jy c.obs.pools s.a=cde at*
        simp only[ap]
        have hX:=@xDn.eq_def;repeat' (first|rintro _ _ ⟨w3,g3,hr3,rfl,rfl⟩|(refine G.call 238 ?_;refine S.c ?_ (h:=hcg s4))|(refine G.call 250 ?_;refine S.c ?_ (h:=hcr _ _ hr3))|refine S.x ?_|fail)
        all_goals exact Tr.fin hK ⟨w3,g3,hr3,rfl,rfl⟩ S.E
      · rw[if_neg hcd]at hK
        have hgm:ZI C c1 k s (Wg c.obs.pools s.a) (Jy c.obs.pools s.a)=YP C c1 k s []:=by unfold ZI;rw[if_neg hcd,if_neg (by rw[h];decide)]
        have hd0:decide (Jy c.obs.pools s.a=0)=false:=decide_eq_false hcd
        rw[hgm,hd0]at hcg
        clear hc1 hr1 hgm hd0
        generalize Jy c.obs.pools s.a=cde at*
        simp only[ap]
        have hX:=@xDn.eq_def;repeat' (first|rintro _ _ ⟨w3,g3,hr3,rfl,rfl⟩|(refine G.call 238 ?_;refine S.c ?_ (h:=hcg s4))|refine S.x ?_|fail)
        all_goals exact Tr.fin hK ⟨w3,g3,hr3,rfl,rfl⟩ S.E
    | false=>
      rw[hin,if_neg (by decide)]at hK
      have hci:=xdc (b:=b) hc hr hk hf2 hs hin
      refine S.I fun u=>?_
      have hX:=I4 @xDn.eq_def hca hth hsz;repeat' (first|rintro _ _ ⟨rfl,rfl⟩|rintro _ _ ⟨w3,g3,hr3,rfl,rfl⟩|(refine G.call 236 ?_;refine S.c ?_ (h:=hci))|refine S.x ?_|(refine G.call 247 ?_;refine S.c ?_ (h:=Y4))|(refine G.call 248 ?_;refine S.c ?_ (h:=YD))|intro hb|fail)
      all_goals exact Tr.fin hK ⟨w3,g3,hr3,rfl,rfl⟩ S.E
  · have hsm:Yn C c k s=Xa C c k s.call 3 0:=by unfold Yn;rw[if_neg hrg]
    rw[hsm]at hK
    have hrn:=fun s'=>Xs (k:=k) (call:=s.call) (code:=3) (value:=0) (s:=s') hr
    have hth: (decide (0≤s.a)&&decide (s.a<(if(4:Int)<(C.conf.pools.d.length:Int)then 4 else(C.conf.pools.d.length:Int))))=false:=by
      rw[Bool.and_eq_false_iff,decide_eq_false_iff_not,decide_eq_false_iff_not]
      by_cases h5: (4:Int)<(C.conf.pools.d.length:Int)
      · rw[if_pos h5];omega
      · rw[if_neg h5];omega
    refine S.I fun u=>?_
    have hX:=I3 @xDn.eq_def hca hth;repeat' (first|refine S.x ?_|(refine G.call 247 ?_;refine S.c ?_ (h:=Y4))|(refine G.call 248 ?_;refine S.c ?_ (h:=YD))|(refine G.call 231 ?_;refine S.c ?_ (h:=Xx ?_))|rintro _ _ ⟨rfl,rfl⟩|rintro _ _ ⟨_,rfl,rfl⟩|(refine G.prop ?_;assumption)|intro hb|fail)
    all_goals
      rename_i sv
      refine Tr.fin hK ⟨{w with ev:=sv},gs,hrn sv,rfl,rfl⟩ ?_
      have hX:=@Xa.eq_def
      clear h hca hth
      simp only[ap]
      exact S.E
theorem xsU (hc:okC C) (hr:Rel C c w gs) (hk:inR C.progs k) (hf:few c 22) (hs:s.ok) (hz: (ix C.conf.pools.d s.a).size≤300) (h:s.call=18):
    Xb prog 196 #[ptr b,.int .i64 k,.agg (En.enc s).toArray] (Xh b C c w gs)
    fun v l'=>∃w2 gs2,Rel C (Yn C c k s) w2 gs2∧v=.tuple #[]∧l'=Xh b C (Yn C c k s) w2 gs2:=by
  intro F K hK
  simp only[ap]at hK⊢
  refine Tr.okX (b:=w.obs) (c:=C.conf) (o:=c.obs) S.K fun hoo=>?_
  have hf1:few c 1:=by unfold few at*;omega
  have hf2:few c 2:=by unfold few at*;omega
  have hf3:=hf1
  unfold few at hf3
  have h8:=hc.n8
  have htl:c.tb.d.length≤1000000:=by rw[hr.ok.tb];omega
  have hca:decide (s.call=19)=false:=by rw[h];rfl
  by_cases hrg:0≤s.a∧s.a<(C.conf.pools.d.length:Int)∧s.a<4
  · obtain ⟨hir,hiz⟩:=xik hoo hrg
    obtain⟨r1,r2,r3⟩:=hrg
    have hth: (decide (0≤s.a)&&decide (s.a<(if(4:Int)<(C.conf.pools.d.length:Int)then 4 else(C.conf.pools.d.length:Int))))=true:=by
      rw[Bool.and_eq_true,decide_eq_true_eq,decide_eq_true_eq]
      by_cases h5: (4:Int)<(C.conf.pools.d.length:Int)
      · rw[if_pos h5];omega
      · rw[if_neg h5];omega
    have hsz:J4 c.obs.pools c.obs.slates (-1) s.a=(ix C.conf.pools.d s.a).size:=by
      unfold J4
      rw[if_neg (by decide),if_pos hir,hiz]
    obtain⟨sz,hsz2⟩:∃sz,sz=(ix C.conf.pools.d s.a).size:=⟨_,rfl⟩
    rw[←hsz2]at hsz hz
    have hsm:Yn C c k s=if Zx c s sz=true then
        (if 0≤c.tb.best (One.waits 19 s.a)then Zy C (Xa C c k s.call 0 0) (c.tb.best (One.waits 19 s.a)) 19 (ldB c.mem s.b s.c)
         else if Vs c.obs.pools s.a (ldB c.mem s.b s.c).length=0 then Xa C {c with obs:={c.obs with pools:=xbK c.obs.pools s.a (ldB c.mem s.b s.c)}} k s.call 0 0 else YP C {c with obs:={c.obs with pools:=xbK c.obs.pools s.a (ldB c.mem s.b s.c)}} k s (ldB c.mem s.b s.c))
       else Jb C c k s sz:=by
      unfold Yn XB
      rw[if_pos ⟨r1,r2,r3⟩,←hsz2]
      simp only
      rw[if_neg (by rw[h];decide),h]
    rw[hsm]at hK
    clear hsm hsz2
    cases hfr:Zx c s sz with
    | true =>
      rw[hfr,if_pos rfl]at hK
      have hle: (ldB c.mem s.b s.c).length≤300:=JE hfr hz
      have hcf:=xds (b:=b) (C:=C) (w:=w) (gs:=gs) (k:=k) hs hfr
      by_cases h0:0≤c.tb.best (One.waits 19 s.a)
      · rw[if_pos h0]at hK
        have hkw:=ZW (call:=19) (p:=s.a) hr (Int.not_lt.2 h0)
        obtain⟨c1,hc1⟩:∃c1:CM,c1=Xa C c k s.call 0 0:=⟨_,rfl⟩
        have hr1:∀s,Rel C c1 {w with ev:=s} gs:=fun s=>by rw[hc1];exact Xs hr
        have hf4:few c1 1:=by unfold few at*;rw[hc1];simp only[Xa,List.length_append,List.length_cons,List.length_nil];omega
        have hca2:=fun sv s4=>xbc (b:=b) (call:=19) (s3:=s4) (bs:=ldB c.mem s.b s.c) (hr1 sv) hkw hf4
        rw[←hc1]at hK
        refine S.I fun u=>?_
        have hX:=I4 @xDn.eq_def hca hth hsz;repeat' (first|rintro _ _ ⟨rfl,rfl⟩|rintro _ _ ⟨_,rfl,rfl⟩|(refine G.call 239 ?_;refine S.c ?_ (h:=hcf))|refine S.x ?_|(refine G.call 247 ?_;refine S.c ?_ (h:=Y4))|(refine G.call 248 ?_;refine S.c ?_ (h:=YD))|(refine G.call 231 ?_;refine S.c ?_ (h:=Xx ?_))|(refine G.call 180 ?_;refine S.c ?_ (h:=YV _ _ _ _ ?_))|(refine G.prop ?_;assumption)|intro hb|fail)
        rename_i s4 sv
        refine Tr.imp (l':=sl true s4.v (ldB c.mem s.b s.c)::Xh b C c1 {w with ev:=sv} gs++F) ?_ ?_
        · subst hc1
          clear h hca hth hsz
          simp only[ap]
          have hX:=@Xa.eq_def
          show Xd [] _ _
          exact S.E
        clear hc1 hr1 hr hth hsz
        simp only[ap]
        have hX:=@xDn.eq_def;repeat' (first|rintro _ _ ⟨w3,g3,hr3,rfl,rfl⟩|(refine G.call 184 ?_;refine S.c ?_ (h:=hca2 sv s4))|refine S.x ?_|fail)
        all_goals exact Tr.fin hK ⟨w3,g3,hr3,rfl,rfl⟩ S.E
      · rw [if_neg h0]at hK
        obtain⟨c1,hc1⟩:∃c1:CM,c1={c with obs:={c.obs with pools:=xbK c.obs.pools s.a (ldB c.mem s.b s.c)}}:=⟨_,rfl⟩
        have hr1:Rel C c1 w gs:=by rw[hc1];exact VI hr
        have hf4:few c1 1:=by rw[hc1];exact hf1
        rw[←hc1]at hK
        refine S.I fun u=>?_
        by_cases hcd:Vs c.obs.pools s.a (ldB c.mem s.b s.c).length=0
        · rw[if_pos hcd]at hK
          have hrn:=fun s'=>Xs (k:=k) (call:=s.call) (code:=0) (value:=0) (s:=s') hr1
          have hX:=I4 @xDn.eq_def hca hth hsz;repeat' (first|rintro _ _ ⟨rfl,rfl⟩|rintro _ _ ⟨_,rfl,rfl⟩|(refine G.call 239 ?_;refine S.c ?_ (h:=hcf))|refine S.x ?_|(refine G.call 247 ?_;refine S.c ?_ (h:=Y4))|(refine G.call 248 ?_;refine S.c ?_ (h:=YD))|(refine G.call 231 ?_;refine S.c ?_ (h:=Xx ?_))|(refine G.call 180 ?_;refine S.c ?_ (h:=YV _ _ _ _ ?_))|(refine G.call 251 ?_;refine S.c ?_ (h:=xce ‹_›))|(refine G.prop ?_;assumption)|intro hb|fail)
          all_goals
            rename_i s4 sv
            refine Tr.fin hK ⟨{w with ev:=sv},gs,hrn sv,rfl,rfl⟩ ?_
            subst hc1
            clear h hca hth hsz
            have hX:=@Xa.eq_def
            simp only[ap]
            exact S.E
        · rw[if_neg hcd]at hK
          have hcw:=fun s3=>xb6 (b:=b) (s3:=s3) (bs:=ldB c.mem s.b s.c) hr1 hk hf4 hs hle
          have hX:=I4 @xDn.eq_def hca hth hsz;repeat' (first|rintro _ _ ⟨rfl,rfl⟩|rintro _ _ ⟨s4,rfl,rfl⟩|(refine G.call 239 ?_;refine S.c ?_ (h:=hcf))|refine S.x ?_|(refine G.call 247 ?_;refine S.c ?_ (h:=Y4))|(refine G.call 248 ?_;refine S.c ?_ (h:=YD))|(refine G.call 180 ?_;refine S.c ?_ (h:=YV _ _ _ _ ?_))|(refine G.call 251 ?_;refine S.c ?_ (h:=xce ‹_›))|(refine G.prop ?_;assumption)|intro hb|fail)
          refine Tr.imp (l':=sl true s4.v (ldB c.mem s.b s.c)::Xh b C c1 w gs++F) ?_ ?_
          · subst hc1
            clear h hca hth hsz
            simp only[ap]
            show Xd [] _ _
            exact S.E
          clear hc1 hr1 hr hth hsz
          simp only[ap]
          have hX:=@xDn.eq_def;repeat' (first|rintro _ _ ⟨w3,g3,hr3,rfl,rfl⟩|(refine G.call 241 ?_;refine S.c ?_ (h:=hcw s4))|refine S.x ?_|fail)
          all_goals exact Tr.fin hK ⟨w3,g3,hr3,rfl,rfl⟩ S.E
    | false=>
      rw[hfr,if_neg (by decide)]at hK
      have hcf:=xdy (b:=b) hc hr hk hf2 hs hfr
      refine S.I fun u=>?_
      have hX:=I4 @xDn.eq_def hca hth hsz;repeat' (first|rintro _ _ ⟨rfl,rfl⟩|rintro _ _ ⟨s4,w3,g3,hr3,rfl,rfl⟩|(refine G.call 239 ?_;refine S.c ?_ (h:=hcf))|refine S.x ?_|(refine G.call 247 ?_;refine S.c ?_ (h:=Y4))|(refine G.call 248 ?_;refine S.c ?_ (h:=YD))|intro hb|fail)
      all_goals exact Tr.fin hK ⟨w3,g3,hr3,rfl,rfl⟩ S.E
  · have hsm:Yn C c k s=Xa C c k s.call 3 0:=by unfold Yn;rw[if_neg hrg]
    rw[hsm]at hK
    have hrn:=fun s'=>Xs (k:=k) (call:=s.call) (code:=3) (value:=0) (s:=s') hr
    have hth: (decide (0≤s.a)&&decide (s.a<(if(4:Int)<(C.conf.pools.d.length:Int)then 4 else(C.conf.pools.d.length:Int))))=false:=by
      rw[Bool.and_eq_false_iff,decide_eq_false_iff_not,decide_eq_false_iff_not]
      by_cases h5: (4:Int)<(C.conf.pools.d.length:Int)
      · rw[if_pos h5];omega
      · rw[if_neg h5];omega
    refine S.I fun u=>?_
    have hX:=I3 @xDn.eq_def hca hth;repeat' (first|refine S.x ?_|(refine G.call 247 ?_;refine S.c ?_ (h:=Y4))|(refine G.call 248 ?_;refine S.c ?_ (h:=YD))|(refine G.call 231 ?_;refine S.c ?_ (h:=Xx ?_))|rintro _ _ ⟨rfl,rfl⟩|rintro _ _ ⟨_,rfl,rfl⟩|(refine G.prop ?_;assumption)|intro hb|fail)
    all_goals
      rename_i sv
      refine Tr.fin hK ⟨{w with ev:=sv},gs,hrn sv,rfl,rfl⟩ ?_
      have hX:=@Xa.eq_def
      clear h hca hth
      simp only[ap]
      exact S.E
