import Derived.Test.YtmebccjndhlpoaaGreatZ28
namespace Go.Proofs.YtmebccjndhlpoaaGreat
open Go Go.Wk Tryz
set_option maxHeartbeats 3200000
set_option maxRecDepth 100000
section
section
variable {C:CC} {c:CM} {k:Int} {s:XE}
theorem QE {ps:List AP} {a:Int}:Z1 ps a false=ps:=by
 unfold Z1
 split
 ·rfl
 ·rfl
theorem xdd {q:Bool} (hq: (s.call=10∧q=false)∨(s.call=12∧q=true)):Yt C c k s=if Yu c.pts s.a q true=true then(if ZR c s (Yb c.pts s.a)=true then ZI C {c with pts:=Z1 c.pts s.a q} k s (YS c.pts s.a q) (Y3 c.pts s.a q)else JV C c k s)else Xa C c k s.call 3 0:=by
 rcases hq with⟨h,rfl⟩|⟨h,rfl⟩
 ·have h1:decide (11≤s.call)=false:=by rw[h];rfl
  have h2:decide (s.call=10∨s.call=12)=true:=by rw[h];rfl
  unfold Yt ZI
  simp only[h1,h2,if_true,Bool.false_eq_true,if_false]
  split
  ·split
   ·split
    ·rfl
    ·first|rfl|rw[if_pos h]
   ·rfl
  ·rfl
 ·have h1:decide (11≤s.call)=true:=by rw[h];rfl
  have h2:decide (s.call=10∨s.call=12)=true:=by rw[h];rfl
  unfold Yt ZI
  simp only[h1,h2,if_true]
  split
  ·split
   ·split
    ·rfl
    ·first|rfl|rw[if_neg (by rw[h];decide)]
   ·rfl
  ·rfl
theorem xbW {q:Bool} (hq: (s.call=9∧q=false)∨(s.call=11∧q=true)):Yt C c k s=if Yu c.pts s.a q false=true then(if Zx c s (Yb c.pts s.a)=true then
      (if q=true then(if YU c.pts s.a q (ldB c.mem s.b s.c).length=0 then Xa C {c with pts:=Yh c.pts s.a q (ldB c.mem s.b s.c)} k s.call 0 0 else YP C {c with pts:=Yh c.pts s.a q (ldB c.mem s.b s.c)} k s (ldB c.mem s.b s.c))
       else Xa C {c with pts:=Yh c.pts s.a q (ldB c.mem s.b s.c)} k s.call (YU c.pts s.a q (ldB c.mem s.b s.c).length) 0)
    else Jb C c k s (Yb c.pts s.a))else Xa C c k s.call 3 0:=by
  rcases hq with⟨h,rfl⟩|⟨h,rfl⟩
  · have h1:decide (11≤s.call)=false:=by rw[h];rfl
    have h2:decide (s.call=10∨s.call=12)=false:=by rw[h];rfl
    unfold Yt
    simp only[h1,h2,Bool.false_eq_true,if_false]
  · have h1:decide (11≤s.call)=true:=by rw[h];rfl
    have h2:decide (s.call=10∨s.call=12)=false:=by rw[h];rfl
    unfold Yt
    simp only[h1,h2,if_true,Bool.false_eq_true,if_false]
end
end
section
attribute [local irreducible] BrK Xq Xt Xv XI FnK XZ Xw XC XV opX opK Yq Yk eqR Yj Yo Ys WL WD W X3 XO Tr drewK Ya X4 Yw Yv X1 YB mp blk rob sl sep ex fact old
section
attribute [local irreducible] Y1 X2 objX Zw
section
variable {b:Nat} {C:CC} {c:CM} {w:CW} {gs:List Xe} {k:Int} {s:XE}
theorem xsx (hc:okC C) (hr:Rel C c w gs) (hk:inR C.progs k) (hf:few c 2) (hs:s.ok) (_hz:Yb c.pts s.a≤300) (h:s.call=10):
  Xb prog 194 #[ptr b,.int .i64 k,.agg (En.enc s).toArray] (Xh b C c w gs)
  fun v l'=>∃w2 gs2,Rel C (Yt C c k s) w2 gs2∧v=.tuple #[]∧l'=Xh b C (Yt C c k s) w2 gs2:=by
 intro F K hK
 simp only[ap]at hK⊢
 have hf1:few c 1:=by unfold few at*;omega
 have hf3:=hf1
 unfold few at hf3
 have hca:decide (s.call=10)=true:=by rw[h];rfl
 have hcb:decide (s.call=11)=false:=by rw[h];rfl
 have hcc:decide (s.call=12)=false:=by rw[h];rfl
 rw[xdd (q:=false) (.inl ⟨h,rfl⟩)]at hK
 have ho:=QE (ps:=c.pts) (a:=s.a)
 cases hcn:Yu c.pts s.a false true with
 | true=>
  rw[hcn,if_pos rfl]at hK
  cases hin:ZR c s (Yb c.pts s.a)with
  | true=>
   rw[hin,if_pos rfl]at hK
   obtain⟨c1,hc1⟩:∃c1:CM,c1={c with pts:=Z1 c.pts s.a false}:=⟨_,rfl⟩
   have hr1:Rel C c1 w gs:=by rw[hc1];exact Ww hr
   have hf4:few c1 1:=by rw[hc1];exact hf1
   have hci:=xdg (b:=b) (C:=C) (w:=w) (gs:=gs) (k:=k) hs hin
   have hcg:=fun s3=>xdi (b:=b) (s3:=s3) (bs:=YS c.pts s.a false) (code:=Y3 c.pts s.a false) hr1 hk hf4 hs
   rw[←hc1]at hK
   clear hr hr1
   refine S.I fun u=>?_
   have hX:=I6 @xCQ.eq_def hca hcb hcc hcn ho;repeat' (first|rintro _ _ ⟨rfl,rfl⟩|rintro _ _ ⟨_,rfl,rfl⟩|(refine G.call 236 ?_;refine S.c ?_ (h:=hci))|refine S.x ?_|(refine G.call 234 ?_;refine S.c ?_ (h:=Zv))|(refine G.call 235 ?_;refine S.c ?_ (h:=Z4))|(refine G.call 237 ?_;refine S.c ?_ (h:=xhd))|intro hb|fail)
   rename_i s4
   refine Tr.imp (l':=sl true s4.v (YS c.pts s.a false)::Xh b C c1 w gs++F) ?_ ?_
   ·subst hc1
    simp only[ap]
    have hX:=ho
    show Xd [] _ _
    exact S.E
   clear hc1 ho
   simp only[ap]
   have hX:=@xCQ.eq_def;repeat' (first|rintro _ _ ⟨w3,g3,hr3,rfl,rfl⟩|(refine G.call 238 ?_;refine S.c ?_ (h:=hcg s4))|refine S.x ?_|fail)
   all_goals exact Tr.fin hK ⟨w3,g3,hr3,rfl,rfl⟩ S.E
  |false=>
   rw[hin,if_neg (by decide)]at hK
   have hci:=xdc (b:=b) hc hr hk hf hs hin
   refine S.I fun u=>?_
   have hX:=I5 @xCQ.eq_def hca hcb hcc hcn;repeat' (first|rintro _ _ ⟨rfl,rfl⟩|rintro _ _ ⟨w3,g3,hr3,rfl,rfl⟩|(refine G.call 236 ?_;refine S.c ?_ (h:=hci))|refine S.x ?_|(refine G.call 234 ?_;refine S.c ?_ (h:=Zv))|(refine G.call 235 ?_;refine S.c ?_ (h:=Z4))|intro hb|fail)
   all_goals exact Tr.fin hK ⟨w3,g3,hr3,rfl,rfl⟩ S.E
 | false=>
  rw[hcn,if_neg (by decide)]at hK
  have hrn:=fun s'=>Xs (k:=k) (call:=s.call) (code:=3) (value:=0) (s:=s') hr
  refine S.I fun u=>?_
  have hX:=I5 @xCQ.eq_def hca hcb hcc hcn;repeat' (first|refine S.x ?_|(refine G.call 234 ?_;refine S.c ?_ (h:=Zv))|(refine G.call 235 ?_;refine S.c ?_ (h:=Z4))|(refine G.call 231 ?_;refine S.c ?_ (h:=Xx ?_))|rintro _ _ ⟨rfl,rfl⟩|rintro _ _ ⟨_,rfl,rfl⟩|(refine G.prop ?_;assumption)|intro hb|fail)
  all_goals
   rename_i sv
   refine Tr.fin hK ⟨{w with ev:=sv},gs,hrn sv,rfl,rfl⟩ ?_
   have hX:=@Xa.eq_def
   clear h hca hcb hcc
   simp only[ap]
   exact S.E
theorem xrS (hc:okC C) (hr:Rel C c w gs) (hk:inR C.progs k) (hf:few c 2) (hs:s.ok) (_hz:Yb c.pts s.a≤300) (h:s.call=12):
  Xb prog 194 #[ptr b,.int .i64 k,.agg (En.enc s).toArray] (Xh b C c w gs)
  fun v l'=>∃w2 gs2,Rel C (Yt C c k s) w2 gs2∧v=.tuple #[]∧l'=Xh b C (Yt C c k s) w2 gs2:=by
 intro F K hK
 simp only[ap]at hK⊢
 have hf1:few c 1:=by unfold few at*;omega
 have hf3:=hf1
 unfold few at hf3
 have hca:decide (s.call=10)=false:=by rw[h];rfl
 have hcb:decide (s.call=11)=false:=by rw[h];rfl
 have hcc:decide (s.call=12)=true:=by rw[h];rfl
 rw[xdd (q:=true) (.inr ⟨h,rfl⟩)]at hK
 have ho:=QE (ps:=c.pts) (a:=s.a)
 cases hcn:Yu c.pts s.a true true with
 | true=>
  rw[hcn,if_pos rfl]at hK
  cases hin:ZR c s (Yb c.pts s.a)with
  | true=>
   rw[hin,if_pos rfl]at hK
   obtain⟨c1,hc1⟩:∃c1:CM,c1={c with pts:=Z1 c.pts s.a true}:=⟨_,rfl⟩
   have hr1:Rel C c1 w gs:=by rw[hc1];exact Ww hr
   have hf4:few c1 1:=by rw[hc1];exact hf1
   have hci:=xdg (b:=b) (C:=C) (w:=w) (gs:=gs) (k:=k) hs hin
   have hcg:=fun s3=>xdi (b:=b) (s3:=s3) (bs:=YS c.pts s.a true) (code:=Y3 c.pts s.a true) hr1 hk hf4 hs
   rw[←hc1]at hK
   clear hr hr1
   refine S.I fun u=>?_
   have hX:=I6 @xCQ.eq_def hca hcb hcc hcn ho;repeat' (first|rintro _ _ ⟨rfl,rfl⟩|rintro _ _ ⟨_,rfl,rfl⟩|(refine G.call 236 ?_;refine S.c ?_ (h:=hci))|refine S.x ?_|(refine G.call 234 ?_;refine S.c ?_ (h:=Zv))|(refine G.call 235 ?_;refine S.c ?_ (h:=Z4))|(refine G.call 237 ?_;refine S.c ?_ (h:=xhd))|(refine G.call 183 ?_;refine S.c ?_ (h:=xej))|intro hb|fail)
   rename_i s4
   refine Tr.imp (l':=sl true s4.v (YS c.pts s.a true)::Xh b C c1 w gs++F) ?_ ?_
   ·subst hc1
    simp only[ap]
    have hX:=ho
    show Xd [] _ _
    exact S.E
   clear hc1 ho
   simp only[ap]
   have hX:=@xCQ.eq_def;repeat' (first|rintro _ _ ⟨w3,g3,hr3,rfl,rfl⟩|(refine G.call 238 ?_;refine S.c ?_ (h:=hcg s4))|refine S.x ?_|fail)
   all_goals exact Tr.fin hK ⟨w3,g3,hr3,rfl,rfl⟩ S.E
  |false=>
   rw[hin,if_neg (by decide)]at hK
   have hci:=xdc (b:=b) hc hr hk hf hs hin
   refine S.I fun u=>?_
   have hX:=I5 @xCQ.eq_def hca hcb hcc hcn;repeat' (first|rintro _ _ ⟨rfl,rfl⟩|rintro _ _ ⟨w3,g3,hr3,rfl,rfl⟩|(refine G.call 236 ?_;refine S.c ?_ (h:=hci))|refine S.x ?_|(refine G.call 234 ?_;refine S.c ?_ (h:=Zv))|(refine G.call 235 ?_;refine S.c ?_ (h:=Z4))|intro hb|fail)
   all_goals exact Tr.fin hK ⟨w3,g3,hr3,rfl,rfl⟩ S.E
 | false=>
  rw[hcn,if_neg (by decide)]at hK
  have hrn:=fun s'=>Xs (k:=k) (call:=s.call) (code:=3) (value:=0) (s:=s') hr
  refine S.I fun u=>?_
  have hX:=I5 @xCQ.eq_def hca hcb hcc hcn;repeat' (first|refine S.x ?_|(refine G.call 234 ?_;refine S.c ?_ (h:=Zv))|(refine G.call 235 ?_;refine S.c ?_ (h:=Z4))|(refine G.call 231 ?_;refine S.c ?_ (h:=Xx ?_))|rintro _ _ ⟨rfl,rfl⟩|rintro _ _ ⟨_,rfl,rfl⟩|(refine G.prop ?_;assumption)|intro hb|fail)
  all_goals
   rename_i sv
   refine Tr.fin hK ⟨{w with ev:=sv},gs,hrn sv,rfl,rfl⟩ ?_
   have hX:=@Xa.eq_def
   clear h hca hcb hcc
   simp only[ap]
   exact S.E
theorem xvl (hc:okC C) (hr:Rel C c w gs) (hk:inR C.progs k) (hf:few c 2) (hs:s.ok) (hz:Yb c.pts s.a≤300) (h:s.call=9):
  Xb prog 194 #[ptr b,.int .i64 k,.agg (En.enc s).toArray] (Xh b C c w gs)
  fun v l'=>∃w2 gs2,Rel C (Yt C c k s) w2 gs2∧v=.tuple #[]∧l'=Xh b C (Yt C c k s) w2 gs2:=by
 intro F K hK
 simp only[ap]at hK⊢
 have hf1:few c 1:=by unfold few at*;omega
 have hf3:=hf1
 unfold few at hf3
 have hca:decide (s.call=10)=false:=by rw[h];rfl
 have hcb:decide (s.call=11)=false:=by rw[h];rfl
 have hcc:decide (s.call=12)=false:=by rw[h];rfl
 rw[xbW (q:=false) (.inl ⟨h,rfl⟩)]at hK
 cases hcn:Yu c.pts s.a false false with
 | true=>
  rw[hcn,if_pos rfl]at hK
  cases hfr:Zx c s (Yb c.pts s.a)with
  | true=>
   rw[hfr,if_pos rfl]at hK
   have hle: (ldB c.mem s.b s.c).length≤300:=JE hfr hz
   have hcf:=xds (b:=b) (C:=C) (w:=w) (gs:=gs) (k:=k) hs hfr
   rw[if_neg (by decide)]at hK
   have hrn:=fun s'=>Xs (k:=k) (call:=s.call) (code:=YU c.pts s.a false (ldB c.mem s.b s.c).length) (value:=0) (s:=s') (Ww (ps:=Yh c.pts s.a false (ldB c.mem s.b s.c)) hr)
   refine S.I fun u=>?_
   have hX:=I5 @xCQ.eq_def hca hcb hcc hcn;repeat' (first|rintro _ _ ⟨rfl,rfl⟩|rintro _ _ ⟨_,rfl,rfl⟩|(refine G.call 239 ?_;refine S.c ?_ (h:=hcf))|refine S.x ?_|(refine G.call 234 ?_;refine S.c ?_ (h:=Zv))|(refine G.call 235 ?_;refine S.c ?_ (h:=Z4))|(refine G.call 231 ?_;refine S.c ?_ (h:=Xx ?_))|(refine G.call 240 ?_;refine S.c ?_ (h:=xmJ ‹_›))|(refine G.prop ?_;assumption)|intro hb|fail)
   all_goals
    rename_i s4 sv
    refine Tr.fin hK ⟨{w with ev:=sv},gs,hrn sv,rfl,rfl⟩ ?_
    have hX:=@Xa.eq_def
    clear h hca hcb hcc
    simp only[ap]
    exact S.E
  |false=>
   rw[hfr,if_neg (by decide)]at hK
   have hcf:=xdy (b:=b) hc hr hk hf hs hfr
   refine S.I fun u=>?_
   have hX:=I5 @xCQ.eq_def hca hcb hcc hcn;repeat' (first|rintro _ _ ⟨rfl,rfl⟩|rintro _ _ ⟨s4,w3,g3,hr3,rfl,rfl⟩|(refine G.call 239 ?_;refine S.c ?_ (h:=hcf))|refine S.x ?_|(refine G.call 234 ?_;refine S.c ?_ (h:=Zv))|(refine G.call 235 ?_;refine S.c ?_ (h:=Z4))|intro hb|fail)
   all_goals exact Tr.fin hK ⟨w3,g3,hr3,rfl,rfl⟩ S.E
 | false=>
  rw[hcn,if_neg (by decide)]at hK
  have hrn:=fun s'=>Xs (k:=k) (call:=s.call) (code:=3) (value:=0) (s:=s') hr
  refine S.I fun u=>?_
  have hX:=I5 @xCQ.eq_def hca hcb hcc hcn;repeat' (first|refine S.x ?_|(refine G.call 234 ?_;refine S.c ?_ (h:=Zv))|(refine G.call 235 ?_;refine S.c ?_ (h:=Z4))|(refine G.call 231 ?_;refine S.c ?_ (h:=Xx ?_))|rintro _ _ ⟨rfl,rfl⟩|rintro _ _ ⟨_,rfl,rfl⟩|(refine G.prop ?_;assumption)|intro hb|fail)
  all_goals
   rename_i sv
   refine Tr.fin hK ⟨{w with ev:=sv},gs,hrn sv,rfl,rfl⟩ ?_
   have hX:=@Xa.eq_def
   clear h hca hcb hcc
   simp only[ap]
   exact S.E
theorem xsA (hc:okC C) (hr:Rel C c w gs) (hk:inR C.progs k) (hf:few c 2) (hs:s.ok) (hz:Yb c.pts s.a≤300) (h:s.call=11):
  Xb prog 194 #[ptr b,.int .i64 k,.agg (En.enc s).toArray] (Xh b C c w gs)
  fun v l'=>∃w2 gs2,Rel C (Yt C c k s) w2 gs2∧v=.tuple #[]∧l'=Xh b C (Yt C c k s) w2 gs2:=by
 intro F K hK
 simp only[ap]at hK⊢
 have hf1:few c 1:=by unfold few at*;omega
 have hf3:=hf1
 unfold few at hf3
 have hca:decide (s.call=10)=false:=by rw[h];rfl
 have hcb:decide (s.call=11)=true:=by rw[h];rfl
 have hcc:decide (s.call=12)=false:=by rw[h];rfl
 rw[xbW (q:=true) (.inr ⟨h,rfl⟩)]at hK
 cases hcn:Yu c.pts s.a true false with
 | true=>
  rw[hcn,if_pos rfl]at hK
  cases hfr:Zx c s (Yb c.pts s.a)with
  | true=>
   rw[hfr,if_pos rfl]at hK
   have hle: (ldB c.mem s.b s.c).length≤300:=JE hfr hz
   have hcf:=xds (b:=b) (C:=C) (w:=w) (gs:=gs) (k:=k) hs hfr
   rw[if_pos rfl]at hK
   obtain⟨c1,hc1⟩:∃c1:CM,c1={c with pts:=Yh c.pts s.a true (ldB c.mem s.b s.c)}:=⟨_,rfl⟩
   have hr1:Rel C c1 w gs:=by rw[hc1];exact Ww hr
   have hf4:few c1 1:=by rw[hc1];exact hf1
   rw[←hc1]at hK
   refine S.I fun u=>?_
   by_cases hcd:YU c.pts s.a true (ldB c.mem s.b s.c).length=0
   ·rw[if_pos hcd]at hK
    have hrn:=fun s'=>Xs (k:=k) (call:=s.call) (code:=0) (value:=0) (s:=s') hr1
    have hX:=I5 @xCQ.eq_def hca hcb hcc hcn;repeat' (first|rintro _ _ ⟨rfl,rfl⟩|rintro _ _ ⟨_,rfl,rfl⟩|(refine G.call 239 ?_;refine S.c ?_ (h:=hcf))|refine S.x ?_|(refine G.call 234 ?_;refine S.c ?_ (h:=Zv))|(refine G.call 235 ?_;refine S.c ?_ (h:=Z4))|(refine G.call 231 ?_;refine S.c ?_ (h:=Xx ?_))|(refine G.call 181 ?_;refine S.c ?_ (h:=xbN ‹_›))|(refine G.prop ?_;assumption)|intro hb|fail)
    all_goals
     rename_i s4 sv
     refine Tr.fin hK ⟨{w with ev:=sv},gs,hrn sv,rfl,rfl⟩ ?_
     subst hc1
     have hX:=@Xa.eq_def
     clear h hca hcb hcc
     simp only[ap]
     exact S.E
   ·rw[if_neg hcd]at hK
    have hcw:=fun s3=>xb6 (b:=b) (s3:=s3) (bs:=ldB c.mem s.b s.c) hr1 hk hf4 hs hle
    have hX:=I5 @xCQ.eq_def hca hcb hcc hcn;repeat' (first|rintro _ _ ⟨rfl,rfl⟩|rintro _ _ ⟨s4,rfl,rfl⟩|(refine G.call 239 ?_;refine S.c ?_ (h:=hcf))|refine S.x ?_|(refine G.call 234 ?_;refine S.c ?_ (h:=Zv))|(refine G.call 235 ?_;refine S.c ?_ (h:=Z4))|(refine G.call 181 ?_;refine S.c ?_ (h:=xbN ‹_›))|intro hb|fail)
    refine Tr.imp (l':=sl true s4.v (ldB c.mem s.b s.c)::Xh b C c1 w gs++F) ?_ ?_
    ·subst hc1
     simp only[ap]
     show Xd [] _ _
     exact S.E
    clear hc1 hr1 hr
    simp only[ap]
    have hX:=@xCQ.eq_def;repeat' (first|rintro _ _ ⟨w3,g3,hr3,rfl,rfl⟩|(refine G.call 241 ?_;refine S.c ?_ (h:=hcw s4))|refine S.x ?_|fail)
    all_goals exact Tr.fin hK ⟨w3,g3,hr3,rfl,rfl⟩ S.E
  |false=>
   rw[hfr,if_neg (by decide)]at hK
   have hcf:=xdy (b:=b) hc hr hk hf hs hfr
   refine S.I fun u=>?_
   have hX:=I5 @xCQ.eq_def hca hcb hcc hcn;repeat' (first|rintro _ _ ⟨rfl,rfl⟩|rintro _ _ ⟨s4,w3,g3,hr3,rfl,rfl⟩|(refine G.call 239 ?_;refine S.c ?_ (h:=hcf))|refine S.x ?_|(refine G.call 234 ?_;refine S.c ?_ (h:=Zv))|(refine G.call 235 ?_;refine S.c ?_ (h:=Z4))|intro hb|fail)
   all_goals exact Tr.fin hK ⟨w3,g3,hr3,rfl,rfl⟩ S.E
 | false=>
  rw[hcn,if_neg (by decide)]at hK
  have hrn:=fun s'=>Xs (k:=k) (call:=s.call) (code:=3) (value:=0) (s:=s') hr
  refine S.I fun u=>?_
  have hX:=I5 @xCQ.eq_def hca hcb hcc hcn;repeat' (first|refine S.x ?_|(refine G.call 234 ?_;refine S.c ?_ (h:=Zv))|(refine G.call 235 ?_;refine S.c ?_ (h:=Z4))|(refine G.call 231 ?_;refine S.c ?_ (h:=Xx ?_))|rintro _ _ ⟨rfl,rfl⟩|rintro _ _ ⟨_,rfl,rfl⟩|(refine G.prop ?_;assumption)|intro hb|fail)
  all_goals
   rename_i sv
   refine Tr.fin hK ⟨{w with ev:=sv},gs,hrn sv,rfl,rfl⟩ ?_
   have hX:=@Xa.eq_def
   clear h hca hcb hcc
   simp only[ap]
   exact S.E
theorem xin (hc:okC C) (hr:Rel C c w gs) (hk:inR C.progs k) (hf:few c 2) (hs:s.ok) (hz:Yb c.pts s.a≤300) (h0:9≤s.call) (h1:s.call≤12):
  Xb prog 194 #[ptr b,.int .i64 k,.agg (En.enc s).toArray] (Xh b C c w gs)
  fun v l'=>∃w2 gs2,Rel C (Yt C c k s) w2 gs2∧v=.tuple #[]∧l'=Xh b C (Yt C c k s) w2 gs2:=by
 by_cases e9:s.call=9
 ·exact xvl hc hr hk hf hs hz e9
 ·by_cases e10:s.call=10
  ·exact xsx hc hr hk hf hs hz e10
  ·by_cases e11:s.call=11
   ·exact xsA hc hr hk hf hs hz e11
   ·exact xrS hc hr hk hf hs hz S.o
