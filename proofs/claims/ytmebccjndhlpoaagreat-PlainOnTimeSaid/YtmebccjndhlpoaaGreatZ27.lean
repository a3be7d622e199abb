import Derived.Test.YtmebccjndhlpoaaGreatZ26
namespace Go.Proofs.YtmebccjndhlpoaaGreat
open Go Go.Wk Tryz
set_option maxHeartbeats 3200000
set_option maxRecDepth 100000
section
variable {t:Tb} {k:Int} {o:One} {win:Int} {r:Rl}
theorem xqu {n:Int} (hl:inR t.d k) (h:JM o→JM (t.at k)):JY t (Tb.mk (t.d.set k.toNat o) n):=fun j hj=>by
 rw[xa6 hl]at hj
 by_cases e:j=k
 ·rw[if_pos e]at hj;rw[e];exact h hj
 ·rw[if_neg e]at hj;exact hj
theorem xjK {k:Nat} (hk:k<r.t.d.length):JY r.t (r.step win k).t∧VY r.t (r.step win k).t:=by
 have hl:inR r.t.d (k:Int):=⟨by omega,by omega⟩
 have h1:JY r.t (Tb.mk (r.t.d.set (k:Int).toNat {r.t.at k with next:=IntKind.i64.wrap (win+(r.t.at k).period)}) r.t.turns):=xqu hl fun h=>h
 have h2:VY r.t (Tb.mk (r.t.d.set (k:Int).toNat {r.t.at k with next:=IntKind.i64.wrap (win+(r.t.at k).period)}) r.t.turns):=xat hl fun h=>h
 have hl2:inR (Tb.mk (r.t.d.set (k:Int).toNat {r.t.at k with next:=IntKind.i64.wrap (win+(r.t.at k).period)}) r.t.turns).d (k:Int):=by
  unfold inR at*;simpa using hl
 have ha: (Tb.mk (r.t.d.set (k:Int).toNat {r.t.at k with next:=IntKind.i64.wrap (win+(r.t.at k).period)}) r.t.turns).at k={r.t.at k with next:=IntKind.i64.wrap (win+(r.t.at k).period)}:=by
  rw[xa6 hl,if_pos rfl]
 unfold Rl.step
 simp only
 split
 ·exact⟨V0,Js⟩
 ·split
  ·exact⟨xC6 h1 (xaD hl2 (by decide)).1,xcK h2 (xax hl2 fun h=>by rw[ha]at h;exact h)⟩
  ·exact⟨h1,h2⟩
theorem Wq:∀n,n≤t.d.length→JY t (t.relTo win n).t∧VY t (t.relTo win n).t
 |0,_=>⟨V0,Js⟩
 |n+1,h=>by
  obtain⟨h1,h2⟩:=Wq n S.o
  obtain⟨h3,h4⟩:=xjK (r:=t.relTo win n) (win:=win) (k:=n) (by rw[h2.1];omega)
  exact⟨xC6 h1 h3,xcK h2 h4⟩
theorem xfU:∀n,∀x∈(t.relTo win n).mis,0≤x∧x<(n:Int)
 |0,x,h=>by simp[Tb.relTo]at h
 | n+1,x,h=>by
  have ih:=xfU n x
  simp only[Tb.relTo,Rl.step]at h
  split at h
  ·have:=ih h;omega
  ·split at h
   ·have:=ih h;omega
   ·rcases List.mem_append.1 h with h'|h'
    ·have:=ih h';omega
    ·have:=List.mem_singleton.1 h';omega
theorem xiD:∀n,∀x∈t.dueTo win n,0≤x∧x<(n:Int)
 |0,x,h=>by simp[Tb.dueTo]at h
 | n+1,x,h=>by
  have ih:=xiD n x
  simp only[Tb.dueTo]at h
  rcases List.mem_append.1 h with h'|h'
  ·have:=ih h';omega
  ·split at h'
   ·have:=List.mem_singleton.1 h';omega
   ·cases h'
theorem xrb {l:List Int} {i:Nat} (h:i<l.length):ix l (i:Int)∈l:=List.mem_of_getElem? (Yi S.o S.o)
end
def Vn (C:CC) (c:CM):CM:=
 YN C (W4 C {c with tb:=(c.tb.relTo c.win c.tb.d.length).t} (c.tb.relTo c.win c.tb.d.length).rel (c.tb.relTo c.win c.tb.d.length).rel.length) (c.tb.relTo c.win c.tb.d.length).mis (c.tb.relTo c.win c.tb.d.length).mis.length
def Zb (C:CC) (c:CM):CM:=JA C c (c.tb.dueTo c.win c.tb.d.length) (c.tb.dueTo c.win c.tb.d.length).length
section
variable {C:CC} {c:CM}
theorem xcA:xbb C c=XM C 100 (Zb C (XA C (Vn C c) 8)):=by simp only[xbb,Vn,Zb]
theorem xj5 (h:okM C c) {i:Nat} (hi:i<(c.tb.relTo c.win c.tb.d.length).mis.length):inR C.progs (ix (c.tb.relTo c.win c.tb.d.length).mis (i:Int)):=by
 have:=xfU (t:=c.tb) (win:=c.win) _ _ (xrb hi)
 unfold inR
 rw[←h.tb];exact this
theorem xpD (h:okM C c) {i:Nat} (hi:i<(c.tb.dueTo c.win c.tb.d.length).length):inR C.progs (ix (c.tb.dueTo c.win c.tb.d.length) (i:Int)):=by
 have:=xiD (t:=c.tb) (win:=c.win) _ _ (xrb hi)
 unfold inR
 rw[←h.tb];exact this
theorem xeM (hc:okC C) (h:okM C c):Rch C 16 c (Vn C c):=by
 obtain⟨h1,h2,h3⟩:=VM c.tb c.win c.tb.d.length
 have h8:=hc.n8
 have htb:=h.tb
 unfold Vn
 exact .le (.trans (.trans (.tb c _ (Wq _ (Nat.le_refl _)).2) (xaz _)) (xeR _ fun i hi=>xj5 h hi)) S.o
theorem xcu (hc:okC C) (h:okM C c):Rch C 8 c (Zb C c):=by
 have h1:=WX c.tb c.win c.tb.d.length
 have h8:=hc.n8
 have htb:=h.tb
 exact .le (xdw _) S.o
theorem xkq (hc:okC C) (h:okM C c):Rch C 444 c (xbb C c):=by
 have h1:=xeM hc h
 have h2:=Rch.trans h1 (xau (C:=C) (c:=Vn C c) 8)
 have h3:=Rch.trans h2 (xcu hc (h2.ok hc h))
 rw[xcA]
 exact .le (Rch.trans h3 (Qx hc 100 _ (h3.ok hc h))) S.o
end
section
section
variable {C:CC} {c:CM} {l:List Int}
theorem xdW (h:∀i:Nat,i<l.length→inR C.progs (ix l (i:Int))) (n:Nat) (hn:n≤l.length) {k:Nat} (hf:few c (n+k)):few (YN C c l n) k:=
 (xeR (l:=l) n fun i hi=>h i S.o).few hf
end
end
section
attribute [local irreducible] BrK Xq Xt Xv XI FnK XZ Xw XC XV opX opK Yq Yk eqR Yj Yo Ys WL WD W X3 XO Tr drewK Ya X4 Yw Yv X1 YB mp blk rob sl sep ex fact old
section
attribute [local irreducible] Y1 X2 objX Zw
section
variable {b:Nat} {C:CC} {c:CM} {w:CW} {gs:List Xe} {k p:Int}
theorem xgg (hc:okC C) (hr:Rel C c w gs) (hf:few c 16):Xb prog 122 #[ptr b] (Xh b C c w gs)
  fun v l'=>∃w2 gs2,Rel C (Vn C c) w2 gs2∧v=.tuple #[]∧l'=Xh b C (Vn C c) w2 gs2:=by
 intro F K hK
 simp only[ap]at hK⊢
 have h8:=hc.n8
 have htb:=hr.ok.tb
 have htl:c.tb.d.length≤1000000:=by omega
 obtain⟨r,hrr⟩:∃r,r=c.tb.relTo c.win c.tb.d.length:=⟨_,rfl⟩
 have hlen:=VM c.tb c.win c.tb.d.length
 have hkp:=Wq (t:=c.tb) (win:=c.win) c.tb.d.length (Nat.le_refl _)
 have hmi:=fun i hi=>xj5 (i:=i) hr.ok hi
 have hrm:Vn C c=YN C (W4 C {c with tb:=r.t} r.rel r.rel.length) r.mis r.mis.length:=by rw[hrr];rfl
 rw[←hrr]at hlen hkp hmi
 rw[hrm]at hK
 have hr0:Rel C {c with tb:=r.t} w gs:=WO hr hkp.2.1 hkp.1
 obtain⟨l1,l2,l3⟩:=hlen
 have l2:r.rel.length≤8:=by omega
 have l3:r.mis.length≤8:=by omega
 refine S.I fun u=>?_
 have hX:=@xEx.eq_def;repeat' (first|refine S.x ?_|(refine G.call 177 ?_;refine S.c ?_ (h:=xbn _ _ _ ?_))|rintro _ _ ⟨_,_,rfl,rfl⟩|(refine G.prop ?_;assumption)|fail)
 rename_i s1 s2
 rw[←hrr]
 obtain⟨c0,hc0⟩:∃c0:CM,c0={c with tb:=r.t}:=⟨_,rfl⟩
 refine Tr.imp (l':=sl false s1.v r.rel::sl false s2.v r.mis::Xh b C c0 w gs++F) ?_ ?_
 ·subst hc0
  simp only[ap]
  show Xd [] _ _
  exact S.E
 rw[←hc0]at hK hr0
 have hf0:few c0 16:=by unfold few at*;rw[hc0];exact hf
 clear hrm hrr hf hr hc0 hkp htb htl
 simp only[ap]
 have hX:=@xEx.eq_def;repeat' (first|refine S.x ?_|refine S.y ?_ ?_|(refine G.call 177 ?_;first|refine S.c ?_ (h:=xbn _ _ _ ?_)|refine S.c ?_ (h:=xbn _ _ _ ‹_›))|(refine G.call 178 ?_;refine S.c ?_ (h:=Zq ?_))|(refine G.call 179 ?_;refine S.c ?_ (h:=VN ‹_› ‹_› ‹_› ‹_› ‹_› ‹_›))|rintro _ _ ⟨_,rfl,rfl⟩|rintro _ _ ⟨_,_,rfl,rfl⟩|rintro _ _ ⟨_,_,hrel,rfl,rfl⟩|(refine G.prop ?_;assumption)|intro hb|((fail_if_success refine G.tr ?_);exact G.prop S.p)|fail)
 refine Tr.loopE (α:=Nat×CW) [22] [0,3,20,21] (fun x=>[.int .i64 x.1]) (fun x=>Xh b C (W4 C c0 r.rel x.1) x.2 gs) (fun x=>x.1≤r.rel.length∧Rel C (W4 C c0 r.rel x.1) x.2 gs) (fun x=>r.rel.length-x.1) (0,w) S.T rfl ⟨Nat.zero_le _,hr0⟩ fun x u hx=>?_
 obtain⟨i,w1⟩:=x
 obtain⟨hi,hri⟩:=hx
 simp only at hi hri⊢
 simp only[ap]
 by_cases hin:i<r.rel.length
 ·have hw:=Xo (k:=i) S.o
  have hst:Xa C (W4 C c0 r.rel i) (ix r.rel (i:Int)) 1 0 0=W4 C c0 r.rel (i+1):=rfl
  have hfi:few (W4 C c0 r.rel i) 1:=(xaz (l:=r.rel) i).few (by unfold few at*;omega)
  unfold few at hfi
  have hX:=And.intro @xEx.eq_def hw;repeat' (first|rintro _ _ ⟨sv,rfl,rfl⟩|(refine G.call 178 ?_;refine S.c ?_ (h:=Zq hfi))|refine S.x ?_|intro hb|fail)
  all_goals
   have hrs:Rel C (W4 C c0 r.rel (i+1)) {w1 with ev:=sv} gs:=Xs hri
   clear hri
   have hX:=And.intro @W4.eq_2 @Xa.eq_def
   exact S.R ((i+1,{w1 with ev:=sv}):Nat×CW)
 ·have hie:i=r.rel.length:=by omega
  subst hie
  obtain⟨c1,hc1⟩:∃c1,c1=W4 C c0 r.rel r.rel.length:=⟨_,rfl⟩
  have hf1:few c1 8:=by rw[hc1];exact(xaz (l:=r.rel) r.rel.length).few (by unfold few at*;omega)
  rw[←hc1]at hK hri⊢
  clear hc1
  have hX:=@xEx.eq_def;repeat' (first|refine S.x ?_|fail)
  refine Tr.loopE (α:=Nat×CW×List Xe) [32] [0,30,31] (fun x=>[.int .i64 x.1]) (fun x=>Xh b C (YN C c1 r.mis x.1) x.2.1 x.2.2) (fun x=>x.1≤r.mis.length∧Rel C (YN C c1 r.mis x.1) x.2.1 x.2.2) (fun x=>r.mis.length-x.1) (0,w1,gs) S.T rfl ⟨Nat.zero_le _,hri⟩ fun y u2 hy=>?_
  obtain⟨j,w2,g2⟩:=y
  obtain⟨hj,hrj⟩:=hy
  simp only at hj hrj⊢
  simp only[ap]
  by_cases hjn:j<r.mis.length
  ·have hw:=Xo (k:=j) S.o
   have hst:YN C c1 r.mis (j+1)=if(YN C c1 r.mis j).mode=3 then Yx C (YN C c1 r.mis j) (ix r.mis (j:Int)) 4 else YN C c1 r.mis j:=rfl
   have hk:=hmi j hjn
   have hfj:few (YN C c1 r.mis j) 1:=xdW hmi j S.o (by unfold few at*;omega)
   by_cases hm: (YN C c1 r.mis j).mode=3
   ·rw[if_pos hm]at hst
    have hX:=And.intro @xEx.eq_def hw;repeat' (first|rintro _ _ ⟨w3,g3,hr3,rfl,rfl⟩|(refine G.call 179 ?_;refine S.c ?_ (h:=VN hc hrj hk hfj (by decide) (by decide)))|refine S.x ?_|intro hb|fail)
    all_goals
     rw[←hst]at hr3
     have hX:=hst
     clear hrj
     exact S.R ((j+1,w3,g3):Nat×CW×List Xe)
   ·rw[if_neg hm]at hst
    rw[←hst]at hrj
    have hX:=And.intro @xEx.eq_def hw;repeat' (first|refine S.x ?_|intro hb|fail)
    all_goals
     have hX:=hst
     clear hst
     exact S.R ((j+1,w2,g2):Nat×CW×List Xe)
  ·have hje:j=r.mis.length:=by omega
   subst hje
   have hX:=@xEx.eq_def;repeat' (first|refine S.x ?_|fail)
   all_goals exact Tr.fin hK ⟨w2,g2,hrj,rfl,rfl⟩ S.E
theorem xnH (hc:okC C) (hr:Rel C c w gs) (hf:few c 8):Xb prog 125 #[ptr b] (Xh b C c w gs)
  fun v l'=>∃w2 gs2,Rel C (Zb C c) w2 gs2∧v=.tuple #[]∧l'=Xh b C (Zb C c) w2 gs2:=by
 intro F K hK
 simp only[ap]at hK⊢
 have h8:=hc.n8
 have htb:=hr.ok.tb
 have htl:c.tb.d.length≤1000000:=by omega
 obtain⟨l,hl⟩:∃l,l=c.tb.dueTo c.win c.tb.d.length:=⟨_,rfl⟩
 have hlen:=WX c.tb c.win c.tb.d.length
 have hdi:=fun i hi=>xpD (i:=i) hr.ok hi
 have hrm:Zb C c=JA C c l l.length:=by rw[hl];rfl
 rw[←hl]at hlen hdi
 rw[hrm]at hK
 refine S.I fun u=>?_
 have hX:=@xGl.eq_def;repeat' (first|refine S.x ?_|(refine G.call 185 ?_;refine S.c ?_ (h:=xue _ _ _ ?_))|rintro _ _ ⟨_,rfl,rfl⟩|(refine G.prop ?_;assumption)|fail)
 rename_i s1
 rw[←hl]
 have hl8:l.length≤8:=by omega
 clear hrm hl htb htl hlen
 refine Tr.loopE (α:=Nat×CW×List Xe) [18] [0,16,17] (fun x=>[.int .i64 x.1]) (fun x=>Xh b C (JA C c l x.1) x.2.1 x.2.2) (fun x=>x.1≤l.length∧Rel C (JA C c l x.1) x.2.1 x.2.2) (fun x=>l.length-x.1) (0,w,gs) S.T rfl ⟨Nat.zero_le _,hr⟩ fun y u2 hy=>?_
 obtain⟨j,w2,g2⟩:=y
 obtain⟨hj,hrj⟩:=hy
 simp only at hj hrj⊢
 simp only[ap]
 by_cases hjn:j<l.length
 ·have hw:=Xo (k:=j) S.o
  have hst:JA C c l (j+1)=Zc C (JA C c l j) (ix l (j:Int)) ((JA C c l j).tb.at (ix l (j:Int))).call (if((JA C c l j).tb.at (ix l (j:Int))).call=2 then 0 else 5) 0:=rfl
  have hk:=hdi j hjn
  have hfj:few (JA C c l j) 1:=(xdw (l:=l) j).few (by unfold few at*;omega)
  by_cases hm: ((JA C c l j).tb.at (ix l (j:Int))).call=2
  ·rw[if_pos hm]at hst
   have hX:=And.intro @xGl.eq_def hw;repeat' (first|rintro _ _ ⟨rfl,rfl⟩|rintro _ _ ⟨w3,g3,hr3,rfl,rfl⟩|(refine G.call 182 ?_;refine S.c ?_ (h:=ZE hrj hk hfj))|refine S.x ?_|(refine G.call 186 ?_;refine S.c ?_ (h:=xjm _ _ _))|intro hb|fail)
   all_goals
    rw[←hst]at hr3
    have hX:=hst
    clear hrj
    exact S.R ((j+1,w3,g3):Nat×CW×List Xe)
  ·rw[if_neg hm]at hst
   have hX:=And.intro @xGl.eq_def hw;repeat' (first|rintro _ _ ⟨rfl,rfl⟩|rintro _ _ ⟨w3,g3,hr3,rfl,rfl⟩|(refine G.call 182 ?_;refine S.c ?_ (h:=ZE hrj hk hfj))|refine S.x ?_|(refine G.call 186 ?_;refine S.c ?_ (h:=xjm _ _ _))|intro hb|fail)
   all_goals
    rw[←hst]at hr3
    have hX:=hst
    clear hrj
    exact S.R ((j+1,w3,g3):Nat×CW×List Xe)
 ·have hje:j=l.length:=by omega
  subst hje
  have hX:=@xGl.eq_def;repeat' (first|refine S.x ?_|fail)
  all_goals exact Tr.fin hK ⟨w2,g2,hrj,rfl,rfl⟩ S.E
end
end
section
section
variable {C:CC} {c:CM} {w:CW} {gs:List Xe} {k kind win:Int} {cold:Bool}
theorem xcZ: (Yd C c k win).done=c.done:=by unfold Yd;simp only;split<;>rfl
theorem QY:∀n,(X7 c n).done=c.done
 |0=>rfl
 |n+1=>QY n
theorem xbu:∀n,(XS C c win n).done=c.done
 |0=>rfl
 |n+1=>xcZ.trans (xbu n)
theorem xkb: (Yx C c k kind).done=c.done:=by
 unfold Yx
 simp only
 split
 ·rfl
 ·split
  ·exact xcZ
  ·split
   ·exact(xbu _).trans (QY _)
   ·split
    ·exact QY _
    ·rfl
def nd (c:CM):Nat:=c.done.countP (fun b=>!b)
theorem xrW (hk:inR c.done k) (h:ix c.done k=false):nd (YX c k)+1=nd c:=by
 have hl:k.toNat<c.done.length:=by have:=hk.1;have:=hk.2;omega
 have h3:c.done[k.toNat]=false:=by
  have e:=Yi (xs:=c.done) hk.1 hk.2
  rw[h,List.getElem?_eq_getElem hl]at e
  exact Option.some.inj e
 have h4:0<c.done.countP (fun b=>!b):=List.countP_pos_iff.2 ⟨_,List.getElem_mem hl,by rw[h3];rfl⟩
 show(c.done.set k.toNat true).countP _+1=c.done.countP _
 rw[List.countP_set hl,if_pos (by rw[h3];rfl),if_neg (by decide)]
 omega
theorem xwU:nd c≤c.done.length:=List.countP_le_length
theorem xbS {d:One} (h:d.ready=true):d.state=1∧d.parked=false:=by
 unfold One.ready at h
 simp only[Bool.and_eq_true,decide_eq_true_eq,Bool.not_eq_true']at h
 exact h
theorem xaH (h:Rel C c w gs) (h0:¬XJ c<0):inR C.progs (XJ c):=xlC h (xdr (q:=One.ready) (by unfold XJ at h0;omega))
theorem xsf (h:Rel C c w gs) (hd:dP c) (h0:¬XJ c<0):nd (YX c (XJ c))+1=nd c:=by
 have hk:=xaH h h0
 refine xrW (by unfold inR at*;rw[h.ok.done];exact hk) ?_
 have hs:=xbS (xex (t:=c.tb) (q:=One.ready) (by unfold XJ at h0;omega))
 cases he:ix c.done (XJ c)with
 |false=>rfl
 |true=>
  have:=hd _ hk.1 he
  unfold XJ at this
  rw[hs.2]at this
  cases this
theorem ZU (h:¬c.mode=3∨XJ c<0∨0<ofC c (XJ c)):∀n,XM C n c=c
 |0=>rfl
 | n+1=>by
  unfold XM
  split
  ·split
   ·rfl
   ·split
    ·rfl
    ·rcases h with h|h|h<;>contradiction
  ·rfl
end
attribute [local irreducible] Y1 X2 objX slkX
section
variable {b:Nat} {C:CC} {c:CM} {w:CW} {gs:List Xe} {k p:Int}
theorem xbl (hc:okC C) (hr:Rel C c w gs) (hf:few c 8) (hd:dP c) (hs:c.slk.isSome=true):Xb prog 126 #[ptr b] (Xh b C c w gs)
  fun v l'=>∃w2 gs2,Rel C (XM C 100 c) w2 gs2∧v=.tuple #[]∧l'=Xh b C (XM C 100 c) w2 gs2:=by
 intro F K hK
 simp only[ap]at hK⊢
 have h8:=hc.n8
 have hcn:nd c≤8:=Nat.le_trans xwU (by rw[hr.ok.done];exact h8)
 have hf0:few c (nd c):=by unfold few at*;omega
 obtain⟨R,hR⟩:∃R,R=XM C 100 c:=⟨_,rfl⟩
 rw[←hR]at hK
 refine S.I fun u=>?_
 repeat' (first|refine S.x ?_|fail)
 refine Tr.loopE (α:=CM×Nat×CW×List Xe) [] [0] (fun x=>[]) (fun x=>Xh b C x.1 x.2.2.1 x.2.2.2) (fun x=>XM C x.2.1 x.1=R∧nd x.1<x.2.1∧few x.1 (nd x.1)∧Rel C x.1 x.2.2.1 x.2.2.2∧dP x.1∧x.1.slk.isSome=true) (fun x=>x.2.1) (c,100,w,gs) S.T rfl ⟨hR.symm,by simp only;omega,hf0,hr,hd,hs⟩ fun x u hx=>?_
 obtain⟨c1,n,w1,g1⟩:=x
 obtain⟨he,hn,hf1,hr1,hd1,hs1⟩:=hx
 simp only at he hn hf1 hr1 hd1 hs1⊢
 simp only[ap]
 have htb1:=hr1.ok.tb
 have htl:c1.tb.d.length≤1000000:=by omega
 clear hr hf hf0 hR hd hs
 obtain⟨m1,hm1⟩:=Option.isSome_iff_exists.1 hs1
 obtain⟨sb,hsb⟩:=Qe hr1 hm1
 have hsl:Zw w1.slk c1.slk=slkX sb m1:=by rw[hsb,hm1];rfl
 have hsp:slP w1.slk=.pointer (some ⟨sb,0,none⟩):=by rw[hsb];rfl
 have hof:∀k,ofC c1 k=ofM m1 k:=fun k=>by unfold ofC;rw[hm1]
 by_cases hmd:c1.mode=3
 ·by_cases h0:XJ c1<0
  ·rw[ZU (.inr (.inl h0))]at he
   rw[←he]at hK
   repeat' (first|refine S.x ?_|(refine G.call 187 ?_;refine S.c ?_ (h:=xdB _ _ ?_))|rintro _ _ ⟨rfl,rfl⟩|(refine G.prop ?_;assumption)|fail)
   all_goals exact Tr.fin hK ⟨w1,g1,hr1,rfl,rfl⟩ S.E
  ·simp only[hsl]
   by_cases h1:0<ofM m1 (XJ c1)
   ·rw[ZU (.inr (.inr (by rw[hof];exact h1)))]at he
    rw[←he]at hK
    have hX:=hsp;repeat' (first|refine S.x ?_|refine S.y ?_ ?_|(refine G.call 187 ?_;refine S.c ?_ (h:=xdB _ _ ?_))|(refine G.call 130 ?_;first|refine S.c ?_ (h:=xkl))|rintro _ _ ⟨rfl,rfl⟩|(refine G.prop ?_;assumption)|intro hb|fail)
    all_goals
     refine Tr.fin hK ⟨w1,g1,hr1,rfl,rfl⟩ ?_
     simp only[hsl,ap]
     exact S.E
   ·have hk:=xaH hr1 h0
    have hnd:=xsf hr1 hd1 h0
    obtain⟨n,rfl⟩:∃m,n=m+1:=⟨n-1,by omega⟩
    unfold XM at he
    rw[if_pos hmd,if_neg h0,if_neg (by rw[hof];exact h1)]at he
    generalize hpk:XJ c1=k at*
    have hf2:few (YX c1 k) 1:=by unfold few at*;show c1.evs.length+1≤_;omega
    have hrch:Rch C 1 c1 (Yx C (YX c1 k) k 0):=.le (.trans (.rest c1 k hk) (J3 hk)) S.o
    obtain⟨c3,hc3⟩:∃c3:CM,c3=Yx C (YX c1 k) k 0:=⟨_,rfl⟩
    rw[←hc3]at hrch he
    have hd3:=hrch.dP hc hr1.ok hd1
    have hs3:c3.slk.isSome=true:=by rw[hrch.sk];exact hs1
    have hn3:nd c3+1=nd c1:=by rw[←hnd,hc3];unfold nd;rw[xkb]
    have hf3:few c3 (nd c3):=hrch.few (by unfold few at*;omega)
    have hco:=xdE (b:=b) hr1 hk hm1
    have hpk':c1.tb.best One.ready=k:=hpk
    have hX:=And.intro hsp @hpk';repeat' (first|refine S.x ?_|(refine G.call 187 ?_;refine S.c ?_ (h:=xdB _ _ ?_))|(refine G.call 130 ?_;first|refine S.c ?_ (h:=xkl))|rintro _ _ ⟨rfl,rfl⟩|(refine G.prop ?_;assumption)|fail)
    refine Tr.imp (l':=Xh b C c1 w1 g1++F) ?_ ?_
    ·simp only[hsl,ap]
     show Xd [] _ _
     exact S.E
    simp only[ap]
    clear hsl hsp
    refine S.c ?_ (h:=hco)
    rintro _ _ ⟨g2,hr2,rfl,rfl⟩
    have hcf:=VN (b:=b) (kind:=0) hc hr2 hk hf2 (by decide) (by decide)
    rw[←hc3]at hcf
    simp only[ap]
    repeat' (first|rintro _ _ ⟨w3,g3,hr3,rfl,rfl⟩|(refine G.call 179 ?_;refine S.c ?_ (h:=hcf))|refine S.x ?_|fail)
    all_goals
     clear hr1 hr2 hcf hco hc3 hrch
     exact S.R ((c3,n,w3,g3):CM×Nat×CW×List Xe)
 ·rw[ZU (.inl hmd)]at he
  rw[←he]at hK
  repeat' (first|refine S.x ?_|fail)
  all_goals exact Tr.fin hK ⟨w1,g1,hr1,rfl,rfl⟩ S.E
end
end
section
section
variable {C:CC} {c:CM} {w:CW} {gs:List Xe} {k kind win:Int} {t:Tb}
def One.fr (o:One):One:={o with parked:=false}
theorem xfj:∀n,n≤t.d.length→∀j:Int,(t.freeTo n).at j=if 0≤j∧j<n then(t.at j).fr else t.at j
 |0,_,j=>by rw[if_neg S.o];rfl
 | n+1,h,j=>by
  have ih:=fun j=>xfj n (Nat.le_of_succ_le h) j
  have hl:inR (t.freeTo n).d (n:Int):=by unfold inR;rw[Jr];omega
  have e:=xa6 (t:=t.freeTo n) (j:=j) (o:=((t.freeTo n).at n).fr) hl (n:=(t.freeTo n).turns)
  refine e.trans ?_
  rw[ih n,if_neg (show¬(0≤(n:Int)∧(n:Int)<n) by omega),ih j]
  by_cases hj:j=n
  ·rw[if_pos hj,if_pos S.o,hj]
  ·rw[if_neg hj]
   by_cases h2:0≤j∧j<n
   ·rw[if_pos h2,if_pos S.o]
   ·rw[if_neg h2,if_neg S.o]
theorem xjJ:JY t t.free:=fun j hj=>by
 unfold Tb.free at hj
 rw[xfj _ (Nat.le_refl _)]at hj
 split at hj
 ·exact hj
 ·exact hj
def Xe.nd (g:Xe):Xe:={g with done:=false}
theorem xtb {s:Option Nat} (hs:s.isSome=true) (h:Rel C c w gs):Rel C (QU C c) {w with slk:=s} (gs.map Xe.nd):=by
 have hl:=JU h
 refine⟨⟨(Jr _ _).trans h.ok.tb,h.ok.pos,h.ok.rest,h.ok.addr,h.ok.data,by simp[QU],h.ok.pi,h.ok.ad,h.ok.dl⟩,?_,?_,?_,?_,?_,fun k hk hw=>?_,hs,h.hq⟩
 ·rw[←h.hp,List.map_map];rfl
 ·show _=c.pos;rw[←h.hi,List.map_map];rfl
 ·show _=c.rest;rw[←h.hr,List.map_map];rfl
 ·show _=c.addr;rw[←h.ha,List.map_map];rfl
 ·rw[List.map_map]
  show _=List.replicate _ _
  rw[←hl]
  exact List.map_const' ..
 ·have hk2:inR gs k:=by unfold inR at*;simpa using hk
  rw[Xp (f:=Xe.nd) hk2.1 hk2.2]
  exact h.hw k hk2 (xjJ k hw)
theorem xq6:dP (QU C c):=fun k h0 hk=>by
 have h1:ix (List.replicate C.progs.length false) k=true:=hk
 have h2:ix (List.replicate C.progs.length false) k=false:=by
  unfold ix
  rw[List.getD_eq_getElem?_getD,List.getElem?_replicate]
  split<;>rfl
 rw[h1]at h2
 cases h2
end
attribute [local irreducible] Y1 X2 objX slkX
attribute [local irreducible] Yy YJ XA Vn Zb XM xbb
section
variable {b:Nat} {C:CC} {c:CM} {w:CW} {gs:List Xe} {k p mode win:Int}
theorem JF:Xb prog 78 #[ptr b] [ZA b C mode win w]
  fun v l'=>v=.bool false∧l'=[ZA b C mode win w]:=by
 intro F K hK
 simp only[ap]
 refine S.I fun u=>?_
 repeat' (first|refine S.x ?_|fail)
 all_goals exact S.L
theorem xfz (hc:okC C) (hr:Rel C c w gs) (hf:few c 500):Xb prog 82 #[ptr b] (Xh b C c w gs)
  fun v l'=>∃w2 gs2,Rel C (ZL C c) w2 gs2∧v=.tuple #[]∧l'=Xh b C (ZL C c) w2 gs2:=by
 intro F K hK
 simp only[ap]at hK⊢
 have h8:=hc.n8
 have htl:c.tb.d.length≤1000000:=by rw[hr.ok.tb];omega
 have hlg:=JU hr
 have hlm: (gs.map Xe.pt).length=C.progs.length:=by rw[List.length_map];exact hlg
 have h3:C.conf.procs.d.length≤100000:=by rw[hc.np];omega
 refine S.I fun u=>?_
 have hX:=hlm;repeat' (first|rintro _ _ ⟨rfl,rfl⟩|rintro _ _ ⟨sb,rfl,rfl⟩|(refine G.call 120 ?_;refine S.c ?_ (h:=xqI (c:=C.conf) (hd:=⟨rfl⟩) hc.cap hc.cost h3))|refine S.x ?_|(refine G.call 78 ?_;refine S.c ?_ (h:=JF))|(refine G.call 121 ?_;refine S.c ?_ (h:=xso _ _ ?_))|(refine G.prop ?_;assumption)|fail)
 obtain⟨cw,hcw⟩:∃cw,cw=QU C c:=⟨_,rfl⟩
 have hr0:Rel C cw {w with slk:=some sb} (gs.map Xe.nd):=by rw[hcw];exact xtb rfl hr
 have hd0:dP cw:=by rw[hcw];exact xq6
 have hs0:cw.slk.isSome=true:=by rw[hcw];rfl
 have hf0:few cw 500:=by rw[hcw];exact hf
 have hbm:ZL C c=if cw.mode=3 then XM C 100 (Zb C (XA C (Vn C cw) 8))else cw:=by
  rw[hcw,←xcA];rfl
 rw[hbm]at hK
 refine Tr.imp (l':=Xh b C cw {w with slk:=some sb} gs++F) ?_ ?_
 ·subst hcw
  have hX:=I3 @QU.eq_def @Zw.eq_def @slP.eq_def
  simp only[Xh,ap]
  show Xd [] _ _
  exact S.E
 clear hcw hbm hf hr htl
 obtain⟨w0,hw0⟩:∃w0:CW,w0={w with slk:=some sb}:=⟨_,rfl⟩
 have hwt:w0.ts=w.ts:=by rw[hw0]
 rw[←hw0]at hr0⊢
 clear hw0
 rw[←hwt]
 clear hwt
 simp only[ap]
 refine Tr.loopE (α:=Nat) [32] [0,30,31] (fun x=>[.int .i64 x]) (fun x=>[ZA b C cw.mode cw.win w0,sl false w0.ts.v (gs.map Xe.pt),fam Zg (xaJ Xe.nd gs x)]) (fun x=>x≤gs.length) (fun x=>gs.length-x) 0 S.T rfl (Nat.zero_le _) fun k u hk=>?_
 simp only[ap]
 by_cases hin:k<gs.length
 ·have hw:=Xo (k:=k) S.o
  have hm:=Xp (f:=Xe.pt) (xs:=gs) (k:=(k:Int)) S.o S.o
  have hul:=xb2 (f:=Xe.nd) (xs:=gs) (k:=k)
  have hui:=xgq (f:=Xe.nd) (xs:=gs) (k:=k) hin
  have hus:=xeo (f:=Xe.nd) (xs:=gs) (k:=k) hin
  refine Tr.famAt (xs:=xaJ Xe.nd gs k) (k:Int) S.K S.o S.o (Y5 ?_)
  rw[hui]
  have hX:=I3 hw hm @Xe.pt.eq_def;repeat' (first|refine S.x ?_|intro hb|fail)
  all_goals
   have hX:=I3 hus.symm @Zg.eq_def @Xe.nd.eq_def
   clear hus
   exact S.R (k+1)
 ·have hke:k=gs.length:=by omega
  subst hke
  rw[xeI]
  have hpt: (gs.map Xe.nd).map Xe.pt=gs.map Xe.pt:=by rw[List.map_map];rfl
  rw[←hpt]
  generalize gs.map Xe.nd=g0 at*
  clear hpt hlm hin
  by_cases hm:cw.mode=3
  ·rw[if_pos hm]at hK
   obtain⟨c1,hc1⟩:∃c1,c1=Vn C cw:=⟨_,rfl⟩
   have hR1:=xeM hc hr0.ok
   have hf1:few cw 16:=by unfold few at*;omega
   have hco:=xgg (b:=b) hc hr0 hf1
   have hf2:few c1 484:=by rw[hc1];exact hR1.few hf0
   have hR2:∀i,Rch C (16+40*i) cw (XA C c1 i):=fun i=>by rw[hc1];exact .trans hR1 (xau i)
   have hR3:=Rch.trans (hR2 8) (xcu hc ((hR2 8).ok hc hr0.ok))
   have hd3:=hR3.dP hc hr0.ok hd0
   have hs3: (Zb C (XA C c1 8)).slk.isSome=true:=by rw[hR3.sk];exact hs0
   have hf3:few (Zb C (XA C c1 8)) 8:=hR3.few (by unfold few at*;omega)
   have hfw:few (XA C c1 8) 8:=(hR2 8).few (by unfold few at*;omega)
   rw[←hc1]at hK hco
   repeat' (first|rintro _ _ ⟨w1,g1,hr1,rfl,rfl⟩|(refine G.call 122 ?_;refine S.c ?_ (h:=hco))|refine S.x ?_|fail)
   clear hc1 hco hr0 hR1 hR3
   have hp0:XA C c1 0=c1:=XA.eq_1 _ _
   rw[←hp0]at hr1⊢
   clear hp0
   refine Tr.loopE (α:=Nat×CW×List Xe) [47] [0] (fun x=>[.int .i64 x.1]) (fun x=>Xh b C (XA C c1 x.1) x.2.1 x.2.2) (fun x=>x.1≤8∧Rel C (XA C c1 x.1) x.2.1 x.2.2) (fun x=>8-x.1) (0,w1,g1) S.T rfl ⟨Nat.zero_le _,hr1⟩ fun y u2 hy=>?_
   obtain⟨j,w2,g2⟩:=y
   obtain⟨hj,hrj⟩:=hy
   simp only at hj hrj⊢
   simp only[ap]
   by_cases hjn:j<8
   ·have hw:=Xo (k:=j) S.o
    have hfj:few (XA C c1 j) 8:=(hR2 j).few (by unfold few at*;omega)
    have hfj2:few (Yy C (j:Int) 20 (XA C c1 j)) 8:=(Rch.trans (hR2 j) (xbF 20 _)).few (by unfold few at*;omega)
    have hst:XA C c1 (j+1)=YJ C (j:Int) 20 (Yy C (j:Int) 20 (XA C c1 j)):=XA.eq_2 _ _ _
    have hA:=xiZ (b:=b) (p:=(j:Int)) hc hrj hfj
    have hB:=fun w g (h:Rel C (Yy C (j:Int) 20 (XA C c1 j)) w g)=>xeY (b:=b) (p:=(j:Int)) hc h hfj2
    rw[←hst]at hB
    clear hst hfj hfj2
    generalize hnj:XA C c1 (j+1)=nj at*
    generalize hsj:Yy C (j:Int) 20 (XA C c1 j)=sj at*
    generalize hcj:XA C c1 j=cj at*
    have hX:=hw;repeat' (first|rintro _ _ ⟨w3,g3,hr3,rfl,rfl⟩|(refine G.call 123 ?_;refine S.c ?_ (h:=hA))|(refine G.call 124 ?_;refine S.c ?_ (h:=hB _ _ hr3))|refine S.x ?_|fail)
    all_goals
     subst hnj
     clear hrj hcj hsj hA hB
     exact S.R ((j+1,w3,g3):Nat×CW×List Xe)
   ·have hje:j=8:=by omega
    subst hje
    have hA:=xnH (b:=b) hc hrj hfw
    have hB:=fun w g (h:Rel C (Zb C (XA C c1 8)) w g)=>xbl (b:=b) hc h hf3 hd3 hs3
    clear hR2
    generalize XM C 100 (Zb C (XA C c1 8))=cx at*
    generalize Zb C (XA C c1 8)=c9 at*
    generalize XA C c1 8=c8 at*
    repeat' (first|rintro _ _ ⟨w3,g3,hr3,rfl,rfl⟩|(refine G.call 125 ?_;refine S.c ?_ (h:=hA))|(refine G.call 126 ?_;refine S.c ?_ (h:=hB _ _ hr3))|refine S.x ?_|fail)
    all_goals exact Tr.fin hK ⟨w3,g3,hr3,rfl,rfl⟩ S.E
  ·rw[if_neg hm]at hK
   repeat' (first|refine S.x ?_|fail)
   all_goals exact Tr.fin hK ⟨w0,g0,hr0,rfl,rfl⟩ S.E
