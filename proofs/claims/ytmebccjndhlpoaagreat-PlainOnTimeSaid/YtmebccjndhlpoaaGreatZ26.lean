import Derived.Test.YtmebccjndhlpoaaGreatZ25
namespace Go.Proofs.YtmebccjndhlpoaaGreat
open Go Go.Wk Tryz
set_option maxHeartbeats 3200000
set_option maxRecDepth 100000
section
section
variable {b:Nat} {C:CC} {c:CM} {w:CW} {gs:List Xe} {k call p:Int}
theorem Ww {ps:List AP} (h:Rel C c w gs):Rel C {c with pts:=ps} w gs:=
 ⟨⟨h.ok.tb,h.ok.pos,h.ok.rest,h.ok.addr,h.ok.data,h.ok.done,h.ok.pi,h.ok.ad,h.ok.dl⟩,h.hp,h.hi,h.hr,h.ha,h.hd,h.hw,h.hs,h.hq⟩
theorem xmi (h:Rel C c w gs) (hk:inR C.progs k): (ix c.data k).length≤300:=by
 have hd:inR c.data k:=by unfold inR at*;rw[h.ok.data];exact hk
 exact h.ok.dl _ (List.mem_of_getElem? (Yi hd.1 hd.2))
theorem xlC (h:Rel C c w gs) (hk:inR c.tb.d k):inR C.progs k:=by unfold inR at*;rw[←h.ok.tb];exact hk
theorem ZW (h:Rel C c w gs) (h0:¬XB c call p<0):inR C.progs (XB c call p):=xlC h (xdr (q:=One.waits call p) (by unfold XB at h0;omega))
theorem xmB (h:Rel C c w gs) (hcall:call=11∨call=18) (h0:¬XB c call p<0): (ix gs (XB c call p)).dd=ix c.data (XB c call p):=by
 have hs:=xoK (xex (t:=c.tb) (q:=One.waits call p) (by unfold XB at h0;omega))
 refine h.hw _ (ZO h (ZW h h0)) ⟨hs.1,?_⟩
 unfold XB
 rw[hs.2.1];exact hcall
theorem xdx {c2:CM} {code value:Int} (h0:¬XB c call p<0) (ht:c2.tb=c.tb):cnt (One.waits call p) (Zc C c2 (XB c call p) call code value).tb+1=cnt (One.waits call p) c.tb:=by
 rw[xf9,ht]
 exact xuD (by unfold XB at h0;omega)
end
end
section
attribute [local irreducible] BrK Xq Xt Xv XI FnK XZ Xw XC XV opX opK Yq Yk eqR Yj Yo Ys WL WD W X3 XO Tr drewK Ya X4 Yw Yv X1 YB mp blk rob sl sep ex fact old
section
attribute [local irreducible] Y1 X2 objX Zw
section
variable {b:Nat} {C:CC} {c:CM} {w:CW} {gs:List Xe} {k p:Int}
theorem xiZ (hc:okC C) (hr:Rel C c w gs) (hf:few c 8):Xb prog 123 #[ptr b,.int .i64 p] (Xh b C c w gs)
  fun v l'=>∃w2 gs2,Rel C (Yy C p 20 c) w2 gs2∧v=.tuple #[]∧l'=Xh b C (Yy C p 20 c) w2 gs2:=by
 intro F K hK
 simp only[ap]at hK⊢
 have h8:=hc.n8
 have htb:=hr.ok.tb
 have hcn:cnt (One.waits 11 p) c.tb≤8:=Nat.le_trans xgJ S.o
 have hf0:few c (cnt (One.waits 11 p) c.tb):=by unfold few at*;omega
 obtain⟨R,hR⟩:∃R,R=Yy C p 20 c:=⟨_,rfl⟩
 rw[←hR]at hK
 refine S.I fun u=>?_
 have hX:=@xFC.eq_def;repeat' (first|refine S.x ?_|(refine G.call 180 ?_;refine S.c ?_ (h:=YV _ _ _ _ ?_))|rintro _ _ ⟨rfl,rfl⟩|((fail_if_success refine G.tr ?_);exact G.prop S.p)|fail)
 refine Tr.loopE (α:=CM×Nat×CW×List Xe) [4] [0,1] (fun x=>[.int .i64 (XB x.1 11 p)]) (fun x=>Xh b C x.1 x.2.2.1 x.2.2.2) (fun x=>Yy C p x.2.1 x.1=R∧cnt (One.waits 11 p) x.1.tb<x.2.1∧few x.1 (cnt (One.waits 11 p) x.1.tb)∧Rel C x.1 x.2.2.1 x.2.2.2) (fun x=>x.2.1) (c,20,w,gs) S.T rfl ⟨hR.symm,by simp only;omega,hf0,hr⟩ fun x u hx=>?_
 obtain⟨c1,n,w1,g1⟩:=x
 obtain⟨he,hn,hf1,hr1⟩:=hx
 simp only at he hn hf1 hr1⊢
 simp only[ap]
 have htb1:=hr1.ok.tb
 clear hr hf hf0 htb hcn hR
 by_cases h0:XB c1 11 p<0
 ·rw[xcW h0]at he
  rw[←he]at hK
  have hX:=@xFC.eq_def;repeat' (first|refine S.x ?_|fail)
  all_goals exact Tr.fin hK ⟨w1,g1,hr1,rfl,rfl⟩ S.E
 ·obtain⟨m,rfl⟩:∃m,n=m+1:=⟨n-1,by omega⟩
  have hk:=ZW hr1 h0
  have hdd:=xmB hr1 (.inl rfl) h0
  have hle:=xmi hr1 hk
  obtain⟨g0,g9⟩:=ZO hr1 hk
  have hmp:=Xp (f:=Xe.pt) (xs:=g1) (k:=XB c1 11 p) g0 g9
  have hlm: (g1.map Xe.pt).length=g1.length:=List.length_map _
  obtain⟨c2,hc2⟩:∃c2:CM,c2={c1 with pts:=Yh c1.pts p true (ix c1.data (XB c1 11 p))}:=⟨_,rfl⟩
  have hrp:Rel C c2 w1 g1:=by rw[hc2];exact Ww hr1
  have hce:=xdx (C:=C) (c2:=c2) (code:=0) (value:=0) h0 (by rw[hc2])
  have hev:c2.evs=c1.evs:=by rw[hc2]
  unfold Yy at he
  rw[if_neg h0]at he
  simp only at he
  rw[←hc2]at he
  generalize XB c1 11 p=k at*
  obtain⟨c3,hc3⟩:∃c3:CM,c3=Zc C c2 k 11 0 0:=⟨_,rfl⟩
  have hl3:c3.tb.d.length≤1000000:=by rw[hc3,xf9,Zf,hrp.ok.tb];omega
  have hf2:few c2 1:=by unfold few at*;rw[hev];omega
  have hf3:few c3 (cnt (One.waits 11 p) c3.tb):=by
   rw[←hc3]at hce
   unfold few at*
   rw[hc3]
   simp only[Zc,Xa,XW,List.length_append,List.length_cons,List.length_nil]
   rw[hc3]at hce
   simp only[Zc,Xa,XW]at hce
   rw[hev];omega
  rw[←hc3]at hce he
  refine Tr.famAt (xs:=g1) k S.K S.o S.o (Y5 ?_)
  rw[hdd]
  by_cases hcode:YU c1.pts p true (ix c1.data k).length=0
  ·rw[if_pos hcode]at he
   have hX:=I3 @xFC.eq_def hmp @Xe.pt.eq_def;repeat' (first|refine S.x ?_|(refine G.call 181 ?_;refine S.c ?_ (h:=xbN ‹_›))|rintro _ _ ⟨rfl,rfl⟩|intro hb|fail)
   refine Tr.imp (l':=Xh b C c2 w1 g1++F) ?_ ?_
   ·subst hc2
    simp only[ap]
    have hX:=And.intro hdd @Zg.eq_def
    show Xd [] _ _
    exact S.E
   simp only[ap]
   have hco:=ZE (b:=b) (call:=11) (code:=0) (value:=0) hrp hk hf2
   rw[←hc3]at hco
   clear hrp hr1 hc2 hc3 hev
   have hX:=@xFC.eq_def;repeat' (first|rintro _ _ ⟨rfl,rfl⟩|rintro _ _ ⟨w2,gs2,hrel,rfl,rfl⟩|(refine G.call 182 ?_;refine S.c ?_ (h:=hco))|refine S.x ?_|(refine G.call 180 ?_;refine S.c ?_ (h:=YV _ _ _ _ ?_))|(refine G.prop ?_;assumption)|fail)
   all_goals exact S.R ((c3,m,w2,gs2):CM×Nat×CW×List Xe)
  ·rw[if_neg hcode]at he
   rw[←he]at hK
   have hX:=I3 @xFC.eq_def hmp @Xe.pt.eq_def;repeat' (first|refine S.x ?_|(refine G.call 181 ?_;refine S.c ?_ (h:=xbN ‹_›))|rintro _ _ ⟨rfl,rfl⟩|intro hb|fail)
   all_goals
    refine Tr.fin hK ⟨w1,g1,hrp,rfl,rfl⟩ ?_
    subst hc2
    simp only[ap]
    have hX:=And.intro hdd @Zg.eq_def
    exact S.E
end
section
variable {b:Nat} {C:CC} {c:CM} {w:CW} {gs:List Xe} {k p:Int}
theorem xeY (hc:okC C) (hr:Rel C c w gs) (hf:few c 8):Xb prog 124 #[ptr b,.int .i64 p] (Xh b C c w gs)
  fun v l'=>∃w2 gs2,Rel C (YJ C p 20 c) w2 gs2∧v=.tuple #[]∧l'=Xh b C (YJ C p 20 c) w2 gs2:=by
 intro F K hK
 simp only[ap]at hK⊢
 have h8:=hc.n8
 have htb:=hr.ok.tb
 have hcn:cnt (One.waits 12 p) c.tb≤8:=Nat.le_trans xgJ S.o
 have hf0:few c (cnt (One.waits 12 p) c.tb):=by unfold few at*;omega
 obtain⟨R,hR⟩:∃R,R=YJ C p 20 c:=⟨_,rfl⟩
 rw[←hR]at hK
 refine S.I fun u=>?_
 repeat' (first|refine S.x ?_|(refine G.call 180 ?_;refine S.c ?_ (h:=YV _ _ _ _ ?_))|rintro _ _ ⟨rfl,rfl⟩|((fail_if_success refine G.tr ?_);exact G.prop S.p)|fail)
 refine Tr.loopE (α:=CM×Nat×CW×List Xe) [4] [0,1] (fun x=>[.int .i64 (XB x.1 12 p)]) (fun x=>Xh b C x.1 x.2.2.1 x.2.2.2) (fun x=>YJ C p x.2.1 x.1=R∧cnt (One.waits 12 p) x.1.tb<x.2.1∧few x.1 (cnt (One.waits 12 p) x.1.tb)∧Rel C x.1 x.2.2.1 x.2.2.2) (fun x=>x.2.1) (c,20,w,gs) S.T rfl ⟨hR.symm,by simp only;omega,hf0,hr⟩ fun x u hx=>?_
 obtain⟨c1,n,w1,g1⟩:=x
 obtain⟨he,hn,hf1,hr1⟩:=hx
 simp only at he hn hf1 hr1⊢
 simp only[ap]
 have htb1:=hr1.ok.tb
 clear hr hf hf0 htb hcn hR
 by_cases h0:XB c1 12 p<0
 ·rw[Wt h0]at he
  rw[←he]at hK
  repeat' (first|refine S.x ?_|fail)
  all_goals exact Tr.fin hK ⟨w1,g1,hr1,rfl,rfl⟩ S.E
 ·obtain⟨m,rfl⟩:∃m,n=m+1:=⟨n-1,by omega⟩
  have hk:=ZW hr1 h0
  obtain⟨c2,hc2⟩:∃c2:CM,c2={c1 with pts:=Z1 c1.pts p true}:=⟨_,rfl⟩
  have hrp:Rel C c2 w1 g1:=by rw[hc2];exact Ww hr1
  obtain⟨bs,hbs⟩:∃bs,bs=YS c1.pts p true:=⟨_,rfl⟩
  have hce:cnt (One.waits 12 p) (Zy C c2 (XB c1 12 p) 12 bs).tb+1=cnt (One.waits 12 p) c1.tb:=xdx (c2:={c2 with mem:=stB c2.mem (ix c2.addr (XB c1 12 p)) bs}) h0 (by rw[hc2])
  have hev:c2.evs=c1.evs:=by rw[hc2]
  unfold YJ at he
  rw[if_neg h0]at he
  simp only at he
  rw[←hc2,←hbs]at he
  generalize XB c1 12 p=k at*
  obtain⟨c3,hc3⟩:∃c3:CM,c3=Zy C c2 k 12 bs:=⟨_,rfl⟩
  have hl3:c3.tb.d.length≤1000000:=by rw[hc3,xhA,Zf,hrp.ok.tb];omega
  have hf2:few c2 1:=by unfold few at*;rw[hev];omega
  have hf3:few c3 (cnt (One.waits 12 p) c3.tb):=by
   rw[←hc3]at hce
   unfold few at*
   have:c3.evs.length=c2.evs.length+1:=by rw[hc3];simp[Zy,Zc,Xa,XW]
   rw[this,hev];omega
  rw[←hc3]at hce he
  by_cases hcode:Y3 c1.pts p true=0
  ·rw[if_pos hcode]at he
   repeat' (first|refine S.x ?_|(refine G.call 183 ?_;refine S.c ?_ (h:=xej))|rintro _ _ ⟨_,rfl,rfl⟩|fail)
   rename_i s3
   refine Tr.imp (l':=sl true s3.v bs::Xh b C c2 w1 g1++F) ?_ ?_
   ·subst hc2 hbs
    simp only[ap]
    show Xd [] _ _
    exact S.E
   simp only[ap]
   have hco:=xbc (b:=b) (call:=12) (bs:=bs) (s3:=s3) hrp hk hf2
   rw[←hc3]at hco
   clear hrp hr1 hc2 hc3 hev hbs
   repeat' (first|rintro _ _ ⟨rfl,rfl⟩|rintro _ _ ⟨w2,gs2,hrel,rfl,rfl⟩|(refine G.call 184 ?_;refine S.c ?_ (h:=hco))|refine S.x ?_|(refine G.call 180 ?_;refine S.c ?_ (h:=YV _ _ _ _ ?_))|(refine G.prop ?_;assumption)|fail)
   all_goals exact S.R ((c3,m,w2,gs2):CM×Nat×CW×List Xe)
  ·rw[if_neg hcode]at he
   rw[←he]at hK
   repeat' (first|refine S.x ?_|(refine G.call 183 ?_;refine S.c ?_ (h:=xej))|rintro _ _ ⟨_,rfl,rfl⟩|fail)
   all_goals
    refine Tr.fin hK ⟨w1,g1,hrp,rfl,rfl⟩ ?_
    subst hc2
    simp only[ap]
    exact S.E
end
end
def VY (t t':Tb):Prop:=t'.d.length=t.d.length∧∀j,(t.at j).parked=true→(t'.at j).parked=true
section
variable {t t':Tb} {k j:Int} {o:One} {st:Int}
theorem Js:VY t t:=⟨rfl,fun _ h=>h⟩
theorem xcK {t1 t2 t3:Tb} (h1:VY t1 t2) (h2:VY t2 t3):VY t1 t3:=⟨h2.1.trans h1.1,fun j h=>h2.2 j (h1.2 j h)⟩
theorem xat {n:Int} (hl:inR t.d k) (h: (t.at k).parked=true→o.parked=true):VY t (Tb.mk (t.d.set k.toNat o) n):=⟨List.length_set,fun j hj=>by
 rw[xa6 hl]
 by_cases e:j=k
 ·rw[if_pos e];rw[e]at hj;exact h hj
 ·rw[if_neg e];exact hj⟩
theorem xax (hl:inR t.d k) (h: (t.at k).parked=true→o.parked=true):VY t (t.put k o st):=xat (t:=t) (n:=t.putT st) hl fun hp=>by
 rw[xcG.2];exact h hp
theorem xo8:VY t (t.set k st):=by
 unfold Tb.set
 split
 ·rename_i h;exact xax (xlK h).1 fun h=>h
 ·exact Js
theorem xf3:VY t (t.park k):=by
 unfold Tb.park
 split
 ·rename_i h
  exact xat (t:=t) (n:=t.turns) (Vw.1 h) fun _=>rfl
 ·exact Js
theorem xjF {win:Int}:VY t (t.start k win):=by
 unfold Tb.start
 split
 ·rename_i h
  unfold Tb.startB at h
  simp only[Bool.and_eq_true]at h
  exact xax (Vw.1 h.1) fun h=>h
 ·exact Js
theorem xnJ {p:Int}:VY t (t.rank k p):=by
 unfold Tb.rank
 split
 ·rename_i h
  unfold Tb.rankB at h
  simp only[Bool.and_eq_true]at h
  exact xat (t:=t) (n:=t.turns) (Vw.1 h.1) fun h=>h
 ·exact Js
theorem xaw {c wh wk:Int}:VY t (t.wait k c wh wk):=by
 unfold Tb.wait
 split
 ·rename_i h;exact xax (Vw.1 h) fun h=>h
 ·exact Js
theorem xsF (hl:inR t.d k): ((t.park k).at k).parked=true:=by
 rw[xl6,if_pos ⟨rfl,Vw.2 hl⟩]
end
def mD (ps:List AP):Prop:=∀p∈ps,p.c.size≤300∧∀d∈p.ms,d.length≤300
inductive Rch (C:CC):Nat→CM→CM→Prop
 |refl (c:CM):Rch C 0 c c
 |trans {n m:Nat} {c1 c2 c3:CM}:Rch C n c1 c2→Rch C m c2 c3→Rch C (n+m) c1 c3
 |note (c:CM) (k call code value:Int):Rch C 1 c (Xa C c k call code value)
 |tb (c:CM) (t':Tb):VY c.tb t'→Rch C 0 c {c with tb:=t'}
 |to (c:CM) (k i:Int):inR C.progs k→0≤i→i≤(ix C.progs k).length→Rch C 0 c (toM C c k i)
 |rest (c:CM) (k:Int):inR C.progs k→Rch C 0 c (YX c k)
 |mem (c:CM) (ms:List XH):Rch C 0 c {c with mem:=ms}
 |pts (c:CM) (ps:List AP):ps.map AP.c=c.pts.map AP.c→(mD c.pts→mD ps)→Rch C 0 c {c with pts:=ps}
 |obs (c:CM) (o:ObM):Rch C 0 c {c with obs:=o}
 |mode (c:CM):Rch C 0 c {c with mode:=0}
 |le {n m:Nat} {c1 c2:CM}:Rch C n c1 c2→n≤m→Rch C m c1 c2
 |wait (c:CM) (k a:Int) (d:List UInt8):inR C.progs k→okZ a→d.length≤300→Rch C 0 c {c with addr:=c.addr.set k.toNat a,data:=c.data.set k.toNat d}
def dP (c:CM):Prop:=∀k:Int,0≤k→ix c.done k=true→(c.tb.at k).parked=true
section
variable {C:CC} {n m:Nat} {c c' c1 c2 c3:CM} {k call code value win:Int}
theorem Rch.ev (h:Rch C n c c'):c'.evs.length≤c.evs.length+n:=by
 induction h with
 |refl=>exact Nat.le_refl _
 |trans _ _ h1 h2=>omega
 |note=>simp[Xa]
 |le _ h1 h2=>omega
 |_=>exact Nat.le_refl _
theorem Rch.md (h:Rch C n c c'):mD c.pts→mD c'.pts:=by
 induction h with
 |trans _ _ h1 h2=>exact fun h=>h2 (h1 h)
 |le _ _ h1=>exact h1
 |pts _ _ _ h=>exact h
 |_=>exact id
theorem Rch.few {k:Nat} (h:Rch C n c c') (hf:few c (n+k)):Go.Proofs.YtmebccjndhlpoaaGreat.few c' k:=by
 have:=h.ev
 unfold Go.Proofs.YtmebccjndhlpoaaGreat.few at*
 omega
theorem Rch.sk (h:Rch C n c c'):c'.slk.isSome=c.slk.isSome:=by
 induction h with
 |trans _ _ h1 h2=>exact h2.trans h1
 |le _ _ h1=>exact h1
 |rest c k=>show(c.slk.map _).isSome=_;rw[Option.isSome_map]
 |_=>rfl
theorem Rch.ok (hc:okC C) (h:Rch C n c c') (ho:okM C c):okM C c':=by
 induction h with
 |refl=>exact ho
 |trans _ _ h1 h2=>exact h2 (h1 ho)
 |le _ _ h1=>exact h1 ho
 |tb c t' ht=>exact xdN ho ht.1
 |to c k i hk h0 h1=>exact xj4 hc ho hk h0 h1
 |rest c k hk=>exact⟨xdT.trans ho.tb,ho.pos,ho.rest,ho.addr,ho.data,by simpa [YX]using ho.done,ho.pi,ho.ad,ho.dl⟩
 | wait c k a d hk ha hd=>exact⟨ho.tb,ho.pos,ho.rest,by simpa using ho.addr,by simpa using ho.data,ho.done,ho.pi,fun x hx=>by
   rcases List.mem_or_eq_of_mem_set hx with h'|rfl
   ·exact ho.ad x h'
   ·exact ha,fun x hx=>by
   rcases List.mem_or_eq_of_mem_set hx with h'|rfl
   ·exact ho.dl x h'
   ·exact hd⟩
 |_=>exact⟨ho.tb,ho.pos,ho.rest,ho.addr,ho.data,ho.done,ho.pi,ho.ad,ho.dl⟩
theorem Rch.dP (hc:okC C) (h:Rch C n c c') (ho:okM C c) (hd:dP c):Go.Proofs.YtmebccjndhlpoaaGreat.dP c':=by
 induction h with
 |refl=>exact hd
 |trans a _ h1 h2=>exact h2 (a.ok hc ho) (h1 ho hd)
 |le _ _ h1=>exact h1 ho hd
 |tb c t' ht=>exact fun k h0 hk=>ht.2 k (hd k h0 hk)
 | rest c k hk=>
  intro j h0 hj
  show((c.tb.park k).at j).parked=true
  by_cases e:j=k
  ·subst e
   refine xsF ?_
   unfold inR at*
   rw[ho.tb];exact hk
  ·refine xf3.2 j (hd j h0 ?_)
   have hj':ix (c.done.set k.toNat true) j=true:=hj
   rw[YY (by unfold inR at*;rw[ho.done];exact hk) h0,if_neg e]at hj'
   exact hj'
 |_=>exact hd
theorem Rch.one (h1:Rch C n c1 c2) (h:Rch C 0 c2 c3):Rch C n c1 c3:=.trans h1 h
end
section
variable {C:CC} {c:CM} {k call code value win kind p w st:Int} {cold:Bool} {b:List UInt8} {s:XE}
theorem V3 {q:One→Bool} (ho:okM C c) (h:¬c.tb.best q<0):inR C.progs (c.tb.best q):=by
 have h1:=xdr (t:=c.tb) (q:=q) S.o
 unfold inR at*
 rw[←ho.tb];exact h1
theorem Ws:Rch C 0 c (XW c k st):=.tb c _ xo8
theorem xaE (hk:inR C.progs k):Rch C 0 c (Yd C c k win):=by
 have h1:Rch C 0 c {toM C c k 0 with tb:=(toM C c k 0).tb.start k win}:=.trans (.to c k 0 hk (by decide) S.o) (.tb _ _ xjF)
 unfold Yd
 simp only
 split
 ·exact .trans h1 (.tb _ _ xf3)
 ·exact h1
theorem xbh:∀n,Rch C 0 c (X7 c n)
 |0=>.refl c
 |n+1=>.trans (xbh n) Ws
theorem xaj:∀n,n≤C.progs.length→Rch C 0 c (XS C c win n)
 |0,_=>.refl c
 |n+1,h=>.trans (xaj n S.o) (xaE ⟨by omega,by omega⟩)
theorem xiY:Rch C 0 c (WU C c):=.trans (.mode c) (xbh _)
theorem xs4 {ps:List AP}: (ZN ps).map AP.c=ps.map AP.c:=by
 unfold ZN
 simp[Function.comp_def]
theorem xJy {ps:List AP} (h:mD ps):mD (ZN ps):=fun p hp=>by
 obtain⟨g,hg,rfl⟩:=List.mem_map.1 hp
 exact⟨(h g hg).1,fun d hd=>by cases hd⟩
theorem xDH {ps:List AP} {k:Nat} {x:AP} (h:mD ps) (h1:x.c.size≤300) (h2:∀d∈x.ms,d.length≤300):mD (ps.set k x):=fun p hp=>by
 rcases List.mem_or_eq_of_mem_set hp with h'|rfl
 ·exact h p h'
 ·exact⟨h1,h2⟩
theorem xFt {ps:List AP} {k:Int} (h:mD ps) (hr:inR ps k): (ix ps k).c.size≤300∧∀d∈(ix ps k).ms,d.length≤300:=h _ (List.mem_of_getElem? (Yi hr.1 hr.2))
theorem xm0:Rch C 0 c (QZ C c cold):=by
 have h1:Rch C 0 c {c with mem:=if cold=true then c.mem.map XH.clr else c.mem}:=.mem c _
 have h2:=h1.one (.obs _ (xcC C.conf))
 exact h2.one (.pts _ (ZN c.pts) xs4 xJy)
theorem xiT:Rch C 0 c (Qi C c cold):=.trans (.trans xm0 (xbh _)) (xaj _ (Nat.le_refl _))
theorem J3 (hk:inR C.progs k):Rch C 1 c (Yx C c k kind):=by
 have h1:Rch C 1 c (Xa C c k (-1-kind) (Zk C.conf.acts.d kind) 0):=.note c _ _ _ _
 unfold Yx
 simp only
 split
 ·exact .trans h1 Ws
 ·split
  ·exact .trans h1 (.trans Ws (xaE hk))
  ·split
   ·exact .trans h1 xiT
   ·split
    ·exact .trans h1 xiY
    ·exact h1
theorem xaF:Rch C 1 c (Zc C c k call code value):=.trans (.note c _ _ _ _) Ws
theorem xes:Rch C 1 c (Zy C c k call b):=.trans (.mem c _) xaF
theorem JG {ps:List AP} {q i:Bool} (h:Yu ps p q i=true):inR ps p:=by
 unfold Yu at h
 split at h
 ·assumption
 ·cases h
theorem xcS {ps:List AP} {x:AP} (hr:inR ps p) (h:x.c=(ix ps p).c): (ps.set p.toNat x).map AP.c=ps.map AP.c:=QI hr.1 hr.2 h
theorem xvp {ps:List AP} {q:Bool}: (Yh ps p q b).map AP.c=ps.map AP.c:=by
 unfold Yh
 split
 ·rename_i h
  have hr:=JG h
  split
  ·split
   ·split
    ·rfl
    ·exact xcS hr rfl
   ·exact xcS hr rfl
  ·rfl
 ·rfl
theorem xv0 {ps:List AP} {q:Bool}: (Z1 ps p q).map AP.c=ps.map AP.c:=by
 unfold Z1
 split
 ·rename_i h
  have hr:=JG h
  split
  ·split
   ·rfl
   ·exact xcS hr rfl
  ·rfl
 ·rfl
theorem xKT {ps:List AP} {q:Bool} (h:mD ps):mD (Yh ps p q b):=by
 unfold Yh
 split
 ·rename_i hc
  obtain⟨h1,h2⟩:=xFt h (JG hc)
  split
  ·rename_i hl
   have hb:b.length≤300:=by
    simp[Wf]at hl
    omega
   split
   ·split
    ·exact h
    ·refine xDH h h1 fun d hd=>?_
     rcases List.mem_append.1 hd with h3|h3
     ·exact h2 d h3
     ·rw[List.mem_singleton.1 h3];exact hb
   ·refine xDH h h1 fun d hd=>?_
    rw[List.mem_singleton.1 hd];exact hb
  ·exact h
 ·exact h
theorem xMN {ps:List AP} {q:Bool} (h:mD ps):mD (Z1 ps p q):=by
 unfold Z1
 split
 ·rename_i hc
  obtain⟨h1,h2⟩:=xFt h (JG hc)
  split
  ·split
   ·exact h
   ·exact xDH h h1 fun d hd=>h2 d (List.mem_of_mem_drop hd)
  ·exact h
 ·exact h
theorem xam {q:Bool}:Rch C 0 c {c with pts:=Yh c.pts p q b}:=.pts c _ xvp xKT
theorem xbE {q:Bool}:Rch C 0 c {c with pts:=Z1 c.pts p q}:=.pts c _ xv0 xMN
theorem xbF:∀n c,Rch C n c (Yy C p n c)
 |0,c=>.refl c
 | n+1,c=>by
  unfold Yy
  simp only
  split
  ·exact .le (.refl c) S.o
  ·split
   ·exact .le (.trans (.trans xam xaF) (xbF n _)) S.o
   ·exact .le xam S.o
theorem xhY:∀n c,Rch C n c (YJ C p n c)
 |0,c=>.refl c
 | n+1,c=>by
  unfold YJ
  simp only
  split
  ·exact .le (.refl c) S.o
  ·split
   ·exact .le (.trans (.trans xbE xes) (xhY n _)) S.o
   ·exact .le xbE S.o
theorem xau:∀n,Rch C (40*n) c (XA C c n)
 |0=>.refl c
 |n+1=>.le (.trans (.trans (xau n) (xbF 20 _)) (xhY 20 _)) S.o
theorem Qx (hc:okC C):∀n c,okM C c→Rch C n c (XM C n c)
 |0,c,_=>.refl c
 | n +1,c,ho=>by
  unfold XM
  split
  ·split
   ·exact .le (.refl c) S.o
   ·rename_i h
    have hk:=V3 ho h
    split
    ·exact .le (.refl c) S.o
    ·have h1:Rch C 1 c (Yx C (YX c (XJ c)) (XJ c) 0):=.le (.trans (.rest c _ hk) (J3 hk)) S.o
     exact .le (.trans h1 (Qx hc n _ (h1.ok hc ho))) S.o
  ·exact .le (.refl c) S.o
theorem xaz {l:List Int}:∀n,Rch C n c (W4 C c l n)
 |0=>.refl c
 |n+1=>.trans (xaz n) (.note _ _ _ _ _)
theorem xeR {l:List Int}:∀n,(∀i:Nat,i<n→inR C.progs (ix l (i:Int)))→Rch C n c (YN C c l n)
 |0,_=>.refl c
 |n+1,h=>by
  have ih:=xeR (l:=l) n fun i hi=>h i S.o
  unfold YN
  split
  ·exact .trans ih (J3 (h n S.o))
  ·exact .le ih S.o
theorem xdw {l:List Int}:∀n,Rch C n c (JA C c l n)
 |0=>.refl c
 |n+1=>.trans (xdw n) xaF
theorem xi8:∀n c,Rch C n c (J7 C w n c)
 |0,c=>.refl c
 |n+1,c=>by
  unfold J7
  split
  ·exact .le (.refl c) S.o
  ·exact .le (.trans xaF (xi8 n _)) S.o
theorem xfx:∀n c,Rch C n c (Z5 C w b n c)
 |0,c=>.refl c
 |n+1,c=>by
  unfold Z5
  split
  ·exact .le (.refl c) S.o
  ·exact .le (.trans xes (xfx n _)) S.o
theorem Wi (hk:inR C.progs k) (hs:s.ok) (hb:b.length≤300):Rch C 1 c (YP C c k s b):=by
 unfold YP
 split
 ·exact .note c _ _ _ _
 ·exact .le (.trans (.wait c k s.b b hk hs.2.1 hb) (.tb _ _ xaw)) S.o
theorem xaB (hk:inR C.progs k):Rch C 2 c (JV C c k s):=.trans (.note c _ _ _ _) (J3 hk)
theorem xeD {size:Int} (hk:inR C.progs k):Rch C 2 c (Jb C c k s size):=by
 unfold Jb
 split
 ·exact xaB hk
 ·exact .le (.note c _ _ _ _) S.o
theorem xgk:Rch C 1 c (WY C c k s b):=.trans (.mem c _) (.note _ _ _ _ _)
theorem xnd (hk:inR C.progs k):Rch C 1 c (XY C c k s):=by
 unfold XY
 split
 ·split
  ·exact .le (.trans Ws (.rest _ k hk)) S.o
  ·exact .note c _ _ _ _
 ·split
  ·split
   ·exact .note c _ _ _ _
   ·exact .trans (.note c _ _ _ _) Ws
  ·split
   ·exact .le (.trans (.tb c _ xaw) (.rest _ k hk)) S.o
   ·exact .note c _ _ _ _
theorem xjH:Rch C 1 c (Xk C c k s):=by
 unfold Xk
 split
 ·exact .note c _ _ _ _
 ·rename_i hn
  have hk:inR C.progs s.a:=by
   unfold inR
   by_cases h:0≤s.a∧s.a<C.progs.length
   ·exact h
   ·exact absurd (.inl h) hn
  split
  ·split
   ·exact .note c _ _ _ _
   ·exact .le (.trans (.tb c _ xnJ) (.note _ _ _ _ _)) S.o
  ·split
   ·exact .le (.trans Ws (.note _ _ _ _ _)) S.o
   ·split
    ·exact .le (.trans (xaE hk) (.note _ _ _ _ _)) S.o
    ·split
     ·exact .le (.trans Ws (.note _ _ _ _ _)) S.o
     ·exact .note c _ _ _ _
theorem JE {size:Int} (h:Zx c s size=true) (hz:size≤300): (ldB c.mem s.b s.c).length≤300:=by
 unfold Zx at h
 simp only[Bool.and_eq_true,decide_eq_true_eq]at h
 have: (ldB c.mem s.b s.c).length≤s.c.toNat:=by
  unfold ldB
  split
  ·rw[List.length_drop,List.length_take];omega
  ·exact Nat.zero_le _
 omega
theorem xpY (hk:inR C.progs k) (hs:s.ok) (hz:Yb c.pts s.a≤300):Rch C 2 c (Yt C c k s):=by
 unfold Yt
 simp only
 split
 ·split
  ·split
   ·split
    ·exact .le (.trans xbE xgk) S.o
    ·split
     ·exact .le (.trans xbE (Wi hk hs (Nat.zero_le _))) S.o
     ·exact .le (.trans xbE (.note _ _ _ _ _)) S.o
   ·exact xaB hk
  ·split
   ·rename_i hf
    split
    ·split
     ·exact .le (.trans xam (.note _ _ _ _ _)) S.o
     ·exact .le (.trans xam (Wi hk hs (JE hf hz))) S.o
    ·exact .le (.trans xam (.note _ _ _ _ _)) S.o
   ·exact xeD hk
 ·exact .le (.note c _ _ _ _) S.o
theorem xkG (hk:inR C.progs k) (hs:s.ok):Rch C 22 c (XG C c k s):=by
 unfold XG
 simp only
 split
 ·split
  ·exact .le (.trans (.obs c _) (Wi hk hs (Nat.zero_le _))) S.o
  ·exact .le (.trans (.obs c _) (.note _ _ _ _ _)) S.o
 ·split
  ·split
   ·exact .le (.trans (.note c _ _ _ _) xaF) S.o
   ·exact .le (.trans (.obs c _) (.note _ _ _ _ _)) S.o
  ·split
   ·exact .le (.trans (.trans (.obs c _) (.note _ _ _ _ _)) (xi8 20 _)) S.o
   ·split
    ·exact .le (.trans (.obs c _) (.note _ _ _ _ _)) S.o
    ·split
     ·exact .le (.note c _ _ _ _) S.o
     ·exact .le (Wi hk hs (Nat.zero_le _)) S.o
theorem xkn:Rch C 1 c (ZD C c p):=by
 unfold ZD
 split
 ·exact .le (.refl c) S.o
 ·simp only
  split
  ·exact .trans (.obs c _) xaF
  ·exact .le (.obs c _) S.o
theorem xpI (_hc:okC C) (hk:inR C.progs k) (hs:s.ok) (hz: (ix C.conf.pools.d s.a).size≤300):Rch C 2 c (Yn C c k s):=by
 unfold Yn
 split
 ·simp only
  split
  ·split
   ·split
    ·exact .le (.trans (.trans (.obs c _) xgk) xkn) S.o
    ·exact .le (.trans (.obs c _) (Wi hk hs (Nat.zero_le _))) S.o
   ·exact xaB hk
  ·split
   ·rename_i hf
    split
    ·exact .trans (.note c _ _ _ _) xes
    ·split
     ·exact .le (.trans (.obs c _) (.note _ _ _ _ _)) S.o
     ·exact .le (.trans (.obs c _) (Wi hk hs (JE hf hz))) S.o
   ·exact xeD hk
 ·exact .le (.note c _ _ _ _) S.o
theorem xj7 (hk:inR C.progs k) (hs:s.ok):Rch C 21 c (XN C c k s):=by
 unfold XN
 split
 ·simp only
  split
  ·exact .le (.trans (.obs c _) (.note _ _ _ _ _)) S.o
  ·split
   ·split
    ·split
     ·exact .le xgk S.o
     ·exact .le (Wi hk hs (Nat.zero_le _)) S.o
    ·exact .le (xaB hk) S.o
   ·split
    ·exact .le (.trans (.trans (.obs c _) (.note _ _ _ _ _)) (xfx 20 _)) S.o
    ·exact .le (xeD hk) S.o
 ·exact .le (.note c _ _ _ _) S.o
theorem xjA (hk:inR C.progs k):Rch C 2 c (Ze C c k s):=by
 unfold Ze
 split
 ·split
  ·exact .le (.trans (.mem c _) (.note _ _ _ _ _)) S.o
  ·exact .le (.trans (.mem c _) (xaB hk)) S.o
 ·split
  ·exact .le (.note c _ _ _ _) S.o
  ·exact xaB hk
theorem xkC:Rch C 1 c (Vb C c k s):=by
 unfold Vb
 split
 ·exact .trans (.note c _ _ _ _) xiY
 ·split
  ·exact .trans (.note c _ _ _ _) xiT
  ·split
   ·exact .note c _ _ _ _
   ·exact .note c _ _ _ _
