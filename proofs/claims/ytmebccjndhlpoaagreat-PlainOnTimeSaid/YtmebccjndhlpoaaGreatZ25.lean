import Derived.Test.YtmebccjndhlpoaaGreatZ24
namespace Go.Proofs.YtmebccjndhlpoaaGreat
open Go Go.Wk Tryz
set_option maxHeartbeats 3200000
set_option maxRecDepth 100000
section
section
variable {b:Nat} {C:CC} {c:CM} {w:CW} {gs:List Xe} {k win:Int}
def Xe.st (g:Xe):Xe:={g.to 0 with ds:=⟨none,0,0⟩,dd:=[]}
theorem xp2 (h:Rel C c w gs):Rel C (xea c k) w gs:=WO h xdT xbf
theorem xmL (hc:okC C) (h:Rel C c w gs) (hk:inR C.progs k) (hn:¬JM (c.tb.at k)):Rel C (Yd C c k win) w (gs.set k.toNat (ix gs k).st):=by
 have h1:Rel C (toM C c k 0) w (gs.set k.toNat ((ix gs k).to 0)):=xoi hc h hk (by decide) S.o
 have h2:Rel C {toM C c k 0 with tb:=(toM C c k 0).tb.start k win} w (gs.set k.toNat ((ix gs k).to 0)):=WO h1 xe1 Wy
 have hg:=ZO h hk
 have hg2:inR (gs.set k.toNat ((ix gs k).to 0)) k:=by unfold inR at*;simpa using hg
 have h3:=xgU (s:=⟨none,0,0⟩) (d:=[]) h2 hg2 (fun hw=>hn (Wy (t:=c.tb) _ hw))
 rw[YY hg hg.1,if_pos rfl,List.set_set]at h3
 unfold Yd
 simp only
 split
 ·exact xp2 h3
 ·exact h3
end
end
section
attribute [local irreducible] BrK Xq Xt Xv XI FnK XZ Xw XC XV opX opK Yq Yk eqR Yj Yo Ys WL WD W X3 XO Tr drewK Ya X4 Yw Yv X1 YB mp blk rob sl sep ex fact old
section
attribute [local irreducible] Zw Y1 X2 objX
section
variable {b:Nat} {C:CC} {c:CM} {w:CW} {gs:List Xe} {k win:Int}
theorem W3 (hc:okC C) (hr:Rel C c w gs) (hk:inR C.progs k) (hn:¬JM (c.tb.at k)):Xb prog 77 #[ptr b,.int .i64 k,.int .i64 win] (Xh b C c w gs)
  fun v l'=>∃gs2,Rel C (Yd C c k win) w gs2∧v=.tuple #[]∧l'=Xh b C (Yd C c k win) w gs2:=by
 intro F K hK
 simp only[ap]at hK⊢
 have hrel:=xmL (win:=win) hc hr hk hn
 have hkg:=ZO hr hk
 obtain⟨h0,h1⟩:=hkg
 have hm:=Xp (f:=Xe.pt) (xs:=gs) (k:=k) h0 h1
 have hlm: (gs.map Xe.pt).length=gs.length:=List.length_map _
 have hpt: (gs.set k.toNat (ix gs k).st).map Xe.pt=gs.map Xe.pt:=X6 ⟨h0,h1⟩ (by rfl)
 have hpl:=W7 hc hk
 rw[←xg7 hr hk]at hpl
 have hz: (0:Int)≤(ix gs k).prog.length:=by omega
 have hdn: (ix gs k).done=ix c.done k:=by rw[←hr.hd,Xp (f:=Xe.done) h0 h1]
 have hst:Yd C c k win=if ix c.done k=true then xea {toM C c k 0 with tb:=c.tb.start k win} k else{toM C c k 0 with tb:=c.tb.start k win}:=rfl
 refine S.I fun u=>?_
 refine Tr.famAt (xs:=gs) k S.K S.o S.o (Y5 ?_)
 cases hd:ix c.done k with
 | true=>
  rw[hd,if_pos rfl]at hst
  rw[hst]at hK hrel
  rw[hd]at hdn
  have hX:=I4 hm @Xe.pt.eq_def @Xe.to.eq_def hdn;repeat' (first|rintro _ _ ⟨rfl,rfl⟩|(refine G.call 115 ?_;refine S.c ?_ (h:=xf7 (g:=ix gs k) (i:=0) (by decide) hz hpl.1))|refine S.x ?_|(refine G.call 116 ?_;refine S.c ?_ (h:=xi7 _ _ _ _))|(refine G.call 117 ?_;refine S.c ?_ (h:=xlD _ _ _))|intro hb|fail)
  all_goals
   refine Tr.fin hK ⟨gs.set k.toNat (ix gs k).st,hrel,rfl,rfl⟩ ?_
   simp only[Xh,ap]
   rw[hpt]
   have hX:=I6 hdn @Zg.eq_def @Xe.st.eq_def @Xe.to.eq_def @toM.eq_def @xea.eq_def
   exact S.E
 | false=>
  rw[hd,if_neg (by decide)]at hst
  rw[hst]at hK hrel
  rw[hd]at hdn
  have hX:=I4 hm @Xe.pt.eq_def @Xe.to.eq_def hdn;repeat' (first|rintro _ _ ⟨rfl,rfl⟩|(refine G.call 115 ?_;refine S.c ?_ (h:=xf7 (g:=ix gs k) (i:=0) (by decide) hz hpl.1))|refine S.x ?_|(refine G.call 116 ?_;refine S.c ?_ (h:=xi7 _ _ _ _))|intro hb|fail)
  all_goals
   refine Tr.fin hK ⟨gs.set k.toNat (ix gs k).st,hrel,rfl,rfl⟩ ?_
   simp only[Xh,ap]
   rw[hpt]
   have hX:=I6 hdn @Zg.eq_def @Xe.st.eq_def @Xe.to.eq_def @toM.eq_def @xea.eq_def
   exact S.E
end
end
section
section
variable {b:Nat} {C:CC} {c:CM} {w:CW} {gs:List Xe} {k:Int}
theorem xq8 (h:Rel C c w gs) (hk:inR C.progs k):Rel C (YX c k) w (gs.set k.toNat {ix gs k with done:=true}):=by
 have hg:=ZO h hk
 refine⟨⟨xdT.trans h.ok.tb,h.ok.pos,h.ok.rest,h.ok.addr,h.ok.data,by simpa [YX]using h.ok.done,h.ok.pi,h.ok.ad,h.ok.dl⟩,(X6 (f:=Xe.prog) hg (by rfl)).trans h.hp,(X6 (f:=Xe.pos) hg (by rfl)).trans h.hi,(X6 (f:=Xe.rest) hg (by rfl)).trans h.hr,(X6 (f:=Xe.addr) hg (by rfl)).trans h.ha,?_,fun j hj hw=>?_,?_,h.hq⟩
 ·rw[List.map_set,h.hd];rfl
 ·have hj':inR gs j:=by unfold inR at*;simpa using hj
  have hw':=xbf (t:=c.tb) (k:=k) j hw
  rw[YY hg hj'.1]
  by_cases e:j=k
  ·rw[if_pos e];subst e;exact h.hw j hj' hw'
  ·rw[if_neg e];exact h.hw j hj' hw'
 ·show w.slk.isSome=(c.slk.map fun m=>QT m k).isSome
  rw[Option.isSome_map];exact h.hs
theorem Qe {m:SlM} (h:Rel C c w gs) (hm:c.slk=some m):∃sb,w.slk=some sb:=by
 have:=h.hs
 rw[hm]at this
 exact Option.isSome_iff_exists.1 this
end
attribute [local irreducible] Y1 X2 objX slkX
section
variable {b:Nat} {C:CC} {c:CM} {w:CW} {gs:List Xe} {k:Int} {m:SlM}
theorem xdE (hr:Rel C c w gs) (hk:inR C.progs k) (hm:c.slk=some m):Xb prog 188 #[ptr b,.int .i64 k] (Xh b C c w gs)
  fun v l'=>∃gs2,Rel C (YX c k) w gs2∧v=.tuple #[]∧l'=Xh b C (YX c k) w gs2:=by
 intro F K hK
 simp only[ap]at hK⊢
 have hrel:=xq8 hr hk
 obtain⟨sb,hs⟩:=Qe hr hm
 have hkg:=ZO hr hk
 obtain⟨h0,h1⟩:=hkg
 have hmp:=Xp (f:=Xe.pt) (xs:=gs) (k:=k) h0 h1
 have hlm: (gs.map Xe.pt).length=gs.length:=List.length_map _
 have hpt: (gs.set k.toNat {ix gs k with done:=true}).map Xe.pt=gs.map Xe.pt:=X6 ⟨h0,h1⟩ (by rfl)
 have hsl:Zw w.slk c.slk=slkX sb m:=by rw[hs,hm];rfl
 have hsp:slP w.slk=.pointer (some ⟨sb,0,none⟩):=by rw[hs];rfl
 have hsr:Zw w.slk (YX c k).slk=slkX sb (QT m k):=by rw[hs];unfold YX;rw[hm];rfl
 simp only[hsl]
 refine S.I fun u=>?_
 refine Tr.famAt (xs:=gs) k S.K S.o S.o (Y5 ?_)
 have hX:=I3 hmp @Xe.pt.eq_def hsp;repeat' (first|refine S.x ?_|(refine G.call 117 ?_;refine S.c ?_ (h:=xlD _ _ _))|(refine G.call 224 ?_;first|refine S.c ?_ (h:=xrG))|rintro _ _ ⟨rfl,rfl⟩|rintro _ _ ⟨_,rfl,rfl⟩|intro hb|fail)
 all_goals
  refine Tr.fin hK ⟨_,hrel,rfl,rfl⟩ ?_
  simp only[ap]
  rw[hpt,hsr]
  have hX:=And.intro @Zg.eq_def @YX.eq_def
  exact S.E
end
end
section
section
variable {b:Nat} {C:CC} {c:CM} {w:CW} {gs:List Xe} {k call code value:Int} {s:SV}
theorem Xs (h:Rel C c w gs):Rel C (Xa C c k call code value) {w with ev:=s} gs:=
 ⟨⟨h.ok.tb,h.ok.pos,h.ok.rest,h.ok.addr,h.ok.data,h.ok.done,h.ok.pi,h.ok.ad,h.ok.dl⟩,h.hp,h.hi,h.hr,h.ha,h.hd,h.hw,h.hs,h.hq⟩
theorem xkM (h:Rel C c w gs) (hk:inR C.progs k):inR c.tb.d k:=by unfold inR at*;rw[h.ok.tb];exact hk
theorem xsv (h:Rel C c w gs) (hk:inR C.progs k):Rel C (Zc C c k call code value) {w with ev:=s} (gs.set k.toNat {ix gs k with ds:=⟨none,0,0⟩,dd:=[]}):=
 xgU (WO (Xs h) Zf VQ) (ZO h hk) (xdq (t:=c.tb) (xkM h hk) (by decide) (by decide) (by decide))
theorem xgK {ms:List XH} (h:Rel C c w gs):Rel C {c with mem:=ms} w gs:=
 ⟨⟨h.ok.tb,h.ok.pos,h.ok.rest,h.ok.addr,h.ok.data,h.ok.done,h.ok.pi,h.ok.ad,h.ok.dl⟩,h.hp,h.hi,h.hr,h.ha,h.hd,h.hw,h.hs,h.hq⟩
end
attribute [local irreducible] Y1 X2 objX Zw
section
variable {b:Nat} {C:CC} {c:CM} {w:CW} {gs:List Xe} {k call code value:Int}
theorem ZE (hr:Rel C c w gs) (hk:inR C.progs k) (hf:few c 1):Xb prog 182 #[ptr b,.int .i64 k,.int .i64 call,.int .i64 code,.int .i64 value] (Xh b C c w gs)
  fun v l'=>∃w2 gs2,Rel C (Zc C c k call code value) w2 gs2∧v=.tuple #[]∧l'=Xh b C (Zc C c k call code value) w2 gs2:=by
 intro F K hK
 simp only[ap]at hK⊢
 have hrel:=fun s=>xsv (s:=s) (call:=call) (code:=code) (value:=value) hr hk
 unfold few at hf
 obtain⟨h0,h1⟩:=ZO hr hk
 have hmp:=Xp (f:=Xe.pt) (xs:=gs) (k:=k) h0 h1
 have hlm: (gs.map Xe.pt).length=gs.length:=List.length_map _
 have hpt: (gs.set k.toNat {ix gs k with ds:=⟨none,0,0⟩,dd:=[]}).map Xe.pt=gs.map Xe.pt:=X6 ⟨h0,h1⟩ (by rfl)
 refine S.I fun u=>?_
 have hX:=And.intro hmp @Xe.pt.eq_def;repeat' (first|refine S.x ?_|(refine G.call 178 ?_;refine S.c ?_ (h:=Zq ?_))|rintro _ _ ⟨_,rfl,rfl⟩|(refine G.prop ?_;assumption)|intro hb|fail)
 refine Tr.famAt (xs:=gs) k S.K S.o S.o (Y5 ?_)
 have hX:=And.intro hmp @Xe.pt.eq_def;repeat' (first|refine S.x ?_|(refine G.call 220 ?_;refine S.c ?_ (h:=xeb _ _ _ _))|rintro _ _ ⟨rfl,rfl⟩|fail)
 all_goals
  rename_i ev
  refine Tr.fin hK ⟨{w with ev:=ev},_,hrel ev,rfl,rfl⟩ ?_
  simp only[ap]
  rw[hpt]
  have hX:=I4 @Zg.eq_def @Zc.eq_def @XW.eq_def @Xa.eq_def
  exact S.E
theorem xsP (h:Rel C c w gs) (hk:inR C.progs k):okZ (ix c.addr k):=by
 have ha:inR c.addr k:=by unfold inR at*;rw[h.ok.addr];exact hk
 exact h.ok.ad _ (List.mem_of_getElem? (Yi ha.1 ha.2))
theorem xbc {s3:SV} {bs:List UInt8} (hr:Rel C c w gs) (hk:inR C.progs k) (hf:few c 1):Xb prog 184 #[ptr b,.int .i64 k,.int .i64 call,s3.v] (sl true s3.v bs::Xh b C c w gs)
  fun v l'=>∃w2 gs2,Rel C (Zy C c k call bs) w2 gs2∧v=.tuple #[]∧l'=Xh b C (Zy C c k call bs) w2 gs2:=by
 intro F K hK
 simp only[ap]at hK⊢
 obtain⟨h0,h1⟩:=ZO hr hk
 have hmp:=Xp (f:=Xe.pt) (xs:=gs) (k:=k) h0 h1
 have hlm: (gs.map Xe.pt).length=gs.length:=List.length_map _
 have had: (ix gs k).addr=ix c.addr k:=by rw[←hr.ha,Xp (f:=Xe.addr) h0 h1]
 have hz:=xsP hr hk
 have hrm:=xgK (ms:=stB c.mem (ix c.addr k) bs) hr
 have hf2:few {c with mem:=stB c.mem (ix c.addr k) bs} 1:=hf
 refine S.I fun u=>?_
 refine Tr.famAt (xs:=gs) k S.K S.o S.o (Y5 ?_)
 have hX:=I4 @xKy.eq_def hmp @Xe.pt.eq_def had;repeat' (first|refine S.x ?_|(refine G.call 222 ?_;first|refine S.c ?_ (h:=xfK ‹_›))|rintro _ _ ⟨rfl,rfl⟩|intro hb|fail)
 refine Tr.imp (l':=Xh b C {c with mem:=stB c.mem (ix c.addr k) bs} w gs++F) ?_ ?_
 ·simp only[ap]
  have hX:=@Zg.eq_def
  show Xd [] _ _
  exact S.E
 simp only[ap]
 have hX:=@xKy.eq_def;repeat' (first|rintro _ _ ⟨w2,gs2,hrel,rfl,rfl⟩|(refine G.call 182 ?_;refine S.c ?_ (h:=ZE (c:={c with mem:=stB c.mem (ix c.addr k) bs}) hrm hk hf2))|refine S.x ?_|fail)
 all_goals exact Tr.fin hK ⟨w2,gs2,hrel,rfl,rfl⟩ S.E
end
end
section
section
variable {b:Nat} {C:CC} {c:CM} {w:CW} {gs:List Xe} {k:Int}
theorem xp9 {m:Int} (h:Rel C c w gs):Rel C {c with mode:=m} w gs:=
 ⟨⟨h.ok.tb,h.ok.pos,h.ok.rest,h.ok.addr,h.ok.data,h.ok.done,h.ok.pi,h.ok.ad,h.ok.dl⟩,h.hp,h.hi,h.hr,h.ha,h.hd,h.hw,h.hs,h.hq⟩
end
attribute [local irreducible] Y1 X2 objX Zw
section
variable {b:Nat} {C:CC} {c:CM} {w:CW} {gs:List Xe} {k:Int}
theorem xef (hc:okC C) (hr:Rel C c w gs):Xb prog 216 #[ptr b] (Xh b C c w gs)
  fun v l'=>∃gs2,Rel C (WU C c) w gs2∧v=.tuple #[]∧l'=Xh b C (WU C c) w gs2:=by
 intro F K hK
 simp only[ap]at hK⊢
 have h8:=hc.n8
 have hlg:=JU hr
 have hlm: (gs.map Xe.pt).length=C.progs.length:=by rw[List.length_map];exact hlg
 have hr0:=xp9 (m:=0) hr
 refine S.I fun u=>?_
 repeat' (first|refine S.x ?_|fail)
 refine Tr.loopE (α:=Nat×List Xe) [11] [0,10] (fun x=>[.int .i64 x.1]) (fun x=>Xh b C (X7 {c with mode:=0} x.1) w x.2) (fun x=>x.1≤C.progs.length∧Rel C (X7 {c with mode:=0} x.1) w x.2) (fun x=>C.progs.length-x.1) (0,gs) S.T rfl ⟨Nat.zero_le _,hr0⟩ fun x u hx=>?_
 obtain⟨i,g2⟩:=x
 obtain⟨hi,hri⟩:=hx
 simp only at hi hri⊢
 simp only[ap]
 by_cases hin:i<C.progs.length
 ·have hw:=Xo (k:=i) S.o
  have hk:inR C.progs (i:Int):=⟨by omega,by omega⟩
  have hst:XW (X7 {c with mode:=0} i) (i:Int) 0=X7 {c with mode:=0} (i+1):=rfl
  have hX:=And.intro hw hlm;repeat' (first|rintro _ _ ⟨g3,hr3,rfl,rfl⟩|(refine G.call 214 ?_;refine S.c ?_ (h:=WV hri hk))|refine S.x ?_|fail)
  all_goals
   rw[hst]at hr3
   have hX:=hst
   clear hri
   exact S.R ((i+1,g3):Nat×List Xe)
 ·have hie:i=C.progs.length:=by omega
  subst hie
  have hX:=hlm;repeat' (first|refine S.x ?_|fail)
  all_goals
   refine Tr.fin hK ⟨g2,hri,rfl,rfl⟩ ?_
   simp only[ap]
   have hX:=@WU.eq_def
   exact S.E
end
end
section
section
variable {b:Nat} {C:CC} {c:CM} {w:CW} {gs:List Xe} {k win:Int} {cold:Bool}
theorem QA:∀n,(X7 c n).tb.d.length=c.tb.d.length
 |0=>rfl
 |n+1=>Zf.trans (QA n)
theorem xd9:∀n:Nat,n≤c.tb.d.length→∀j:Int,0≤j→j<n→¬JM ((X7 c n).tb.at j)
 |0,_,j,h0,h1=>by omega
 | n+1,hn,j,h0,h1=>by
  by_cases e:j=(n:Int)
  ·subst e
   refine xdq ?_ (by decide) (by decide) (by decide)
   unfold inR
   rw[QA]
   omega
  ·intro h
   exact xd9 n S.o j h0 S.o (VQ (t:=(X7 c n).tb) j h)
theorem xg3:JY c.tb (Yd C c k win).tb:=by
 unfold Yd
 simp only
 split
 ·exact xC6 (Wy (t:=c.tb)) xbf
 ·exact Wy (t:=c.tb)
theorem WS:∀n,JY c.tb (XS C c win n).tb
 |0=>V0
 |n+1=>xC6 (WS n) xg3
theorem xmR (h:Rel C c w gs):Rel C (QZ C c cold) w gs:=
 ⟨⟨h.ok.tb,h.ok.pos,h.ok.rest,h.ok.addr,h.ok.data,h.ok.done,h.ok.pi,h.ok.ad,h.ok.dl⟩,h.hp,h.hi,h.hr,h.ha,h.hd,h.hw,h.hs,h.hq⟩
theorem xa5:∀n,(X7 c n).win=c.win
 |0=>rfl
 |n+1=>xa5 n
theorem xjL: (Yd C c k win).win=c.win:=by
 unfold Yd
 simp only
 split<;>rfl
theorem xab:∀n,(XS C c win n).win=c.win
 |0=>rfl
 |n+1=>xjL.trans (xab n)
end
attribute [local irreducible] Y1 X2 objX Zw
section
variable {b:Nat} {C:CC} {c:CM} {w:CW} {gs:List Xe} {k:Int}
theorem Q4 {cold:Bool} (hc:okC C) (hr:Rel C c w gs):Xb prog 215 #[ptr b,.bool cold] (Xh b C c w gs)
  fun v l'=>∃gs2,Rel C (Qi C c cold) w gs2∧v=.tuple #[]∧l'=Xh b C (Qi C c cold) w gs2:=by
 intro F K hK
 simp only[ap]at hK⊢
 have h8:=hc.n8
 have hlg:=JU hr
 have hlm:∀g2:List Xe,g2.length=C.progs.length→(g2.map Xe.pt).length=C.progs.length:=fun g2 h=>by rw[List.length_map];exact h
 have hlm0:=hlm gs hlg
 have hr0:=xmR (cold:=cold) hr
 obtain⟨c0,hc0⟩:∃c0,c0=QZ C c cold:=⟨_,rfl⟩
 have han:Qi C c cold=XS C (X7 c0 C.progs.length) c0.win C.progs.length:=by rw[hc0];rfl
 rw[han]at hK
 rw[←hc0]at hr0
 clear han
 refine S.I fun u=>?_
 cases cold
 all_goals
  repeat' (first|rintro _ _ ⟨rfl,rfl⟩|(refine G.call 264 ?_;refine S.c ?_ (h:=xnv))|(refine G.call 113 ?_;refine S.c ?_ (h:=xjQ hc.dep))|(refine G.call 265 ?_;refine S.c ?_ (h:=xjG))|refine S.x ?_|fail)
  refine Tr.imp (l':=Xh b C c0 w gs++F) ?_ ?_
  ·subst hc0
   simp only[ap]
   have hX:=@QZ.eq_def
   show Xd [] _ _
   exact S.E
  clear hc0
  simp only[ap]
  refine Tr.loopE (α:=Nat×List Xe) [27] [0,26] (fun x=>[.int .i64 x.1]) (fun x=>Xh b C (X7 c0 x.1) w x.2) (fun x=>x.1≤C.progs.length∧Rel C (X7 c0 x.1) w x.2) (fun x=>C.progs.length-x.1) (0,gs) S.T rfl ⟨Nat.zero_le _,hr0⟩ fun x u hx=>?_
  obtain⟨i,g2⟩:=x
  obtain⟨hi,hri⟩:=hx
  simp only at hi hri⊢
  simp only[ap]
  by_cases hin:i<C.progs.length
  ·have hw:=Xo (k:=i) S.o
   have hk:inR C.progs (i:Int):=⟨by omega,by omega⟩
   have hst:XW (X7 c0 i) (i:Int) 0=X7 c0 (i+1):=rfl
   have hX:=And.intro hw hlm0;repeat' (first|rintro _ _ ⟨g3,hr3,rfl,rfl⟩|(refine G.call 214 ?_;refine S.c ?_ (h:=WV hri hk))|refine S.x ?_|fail)
   all_goals
    rw[hst]at hr3
    have hX:=hst
    clear hri
    exact S.R ((i+1,g3):Nat×List Xe)
  ·have hie:i=C.progs.length:=by omega
   subst hie
   have hno:∀j:Int,inR C.progs j→¬JM ((X7 c0 C.progs.length).tb.at j):=fun j hj=>xd9 _ (by rw[hr0.ok.tb];exact Nat.le_refl _) j hj.1 hj.2
   have hwn: (X7 c0 C.progs.length).win=c0.win:=xa5 _
   have hl2:=hlm g2 (JU hri)
   rw[←hwn]at hK
   clear hwn
   generalize X7 c0 C.progs.length=c1 at*
   have hX:=And.intro hlm0 hl2;repeat' (first|refine S.x ?_|fail)
   refine Tr.loopE (α:=Nat×List Xe) [39] [0,38] (fun x=>[.int .i64 x.1]) (fun x=>Xh b C (XS C c1 c1.win x.1) w x.2) (fun x=>x.1≤C.progs.length∧Rel C (XS C c1 c1.win x.1) w x.2) (fun x=>C.progs.length-x.1) (0,g2) S.T rfl ⟨Nat.zero_le _,hri⟩ fun y u2 hy=>?_
   obtain⟨j,g4⟩:=y
   obtain⟨hj,hrj⟩:=hy
   simp only at hj hrj⊢
   simp only[ap]
   by_cases hjn:j<C.progs.length
   ·have hw:=Xo (k:=j) S.o
    have hk:inR C.progs (j:Int):=⟨by omega,by omega⟩
    have hwj: (XS C c1 c1.win j).win=c1.win:=xab j
    have hnj:¬JM ((XS C c1 c1.win j).tb.at (j:Int)):=fun h=>hno _ hk (WS j _ h)
    have hst:Yd C (XS C c1 c1.win j) (j:Int) (XS C c1 c1.win j).win=XS C c1 c1.win (j+1):=by rw[hwj];rfl
    clear hno
    have hX:=And.intro hw hl2;repeat' (first|rintro _ _ ⟨g5,hr5,rfl,rfl⟩|(refine G.call 77 ?_;refine S.c ?_ (h:=W3 hc hrj hk hnj))|refine S.x ?_|fail)
    all_goals
     rw[hst]at hr5
     have hX:=hst
     clear hrj
     exact S.R ((j+1,g5):Nat×List Xe)
   ·have hje:j=C.progs.length:=by omega
    subst hje
    have hX:=hl2;repeat' (first|refine S.x ?_|fail)
    all_goals exact Tr.fin hK ⟨g4,hrj,rfl,rfl⟩ S.E
end
section
variable {b:Nat} {C:CC} {c:CM} {w:CW} {gs:List Xe} {k kind:Int}
theorem VN (hc:okC C) (hr:Rel C c w gs) (hk:inR C.progs k) (hf:few c 1) (h0:0≤kind) (h4:kind≤4):Xb prog 179 #[ptr b,.int .i64 kind,.int .i64 k] (Xh b C c w gs)
  fun v l'=>∃w2 gs2,Rel C (Yx C c k kind) w2 gs2∧v=.tuple #[]∧l'=Xh b C (Yx C c k kind) w2 gs2:=by
 intro F K hK
 simp only[ap]at hK⊢
 unfold few at hf
 have hwk:IntKind.i64.wrap (-1-kind)=-1-kind:=Ye S.o S.o
 obtain⟨act,hact⟩:∃act,act=Zk C.conf.acts.d kind:=⟨_,rfl⟩
 obtain⟨c1,hc1⟩:∃c1,c1=Xa C c k (-1-kind) act 0:=⟨_,rfl⟩
 have hfm:Yx C c k kind=(if act=1 then XW c1 k 0 else if act=2 then Yd C (XW c1 k 0) k c1.win else if act=3 then Qi C c1 true else if act=4 then WU C c1 else c1):=by rw[hc1,hact];rfl
 have hr1:∀s,Rel C c1 {w with ev:=s} gs:=fun s=>by rw[hc1];exact Xs hr
 have hev:c1.evs=c.evs++[⟨C.part,c.win,k,-1-kind,act,0⟩]:=by rw[hc1];rfl
 have hfl:c1.mode=c.mode∧c1.win=c.win∧c1.tb=c.tb∧c1.mem=c.mem∧c1.pts=c.pts∧c1.obs=c.obs∧c1.slk=c.slk:=by rw[hc1];exact⟨rfl,rfl,rfl,rfl,rfl,rfl,rfl⟩
 rw[hfm]at hK
 refine S.I fun u=>?_
 have hX:=And.intro hwk @hact.symm;repeat' (first|rintro _ _ ⟨rfl,rfl⟩|rintro _ _ ⟨sv,rfl,rfl⟩|(refine G.call 178 ?_;refine S.c ?_ (h:=Zq hf))|refine S.x ?_|refine S.y ?_ ?_|(refine G.call 213 ?_;refine S.c ?_ (h:=xi3 ?_ ?_))|(refine G.prop ?_;assumption)|intro hb|fail)
 all_goals
  have hrs:=hr1 sv
  refine Tr.imp (l':=Xh b C c1 {w with ev:=sv} gs++F) ?_ ?_
  ·clear hev hfl hfm hr1 hrs hK
   subst hc1
   simp only[ap]
   have hX:=@Xa.eq_def
   show Xd [] _ _
   exact S.E
  clear hev hfl hc1 hfm hr1
  simp only[ap]
 ·rw[if_pos hb]at hK
  repeat' (first|rintro _ _ ⟨g3,hr3,rfl,rfl⟩|(refine G.call 214 ?_;refine S.c ?_ (h:=WV hrs hk))|refine S.x ?_|fail)
  all_goals exact Tr.fin hK ⟨_,g3,hr3,rfl,rfl⟩ S.E
 ·rw[if_neg S.o,if_pos hb]at hK
  have hnw:¬JM ((XW c1 k 0).tb.at k):=xdq (t:=c1.tb) (xkM hrs hk) (by decide) (by decide) (by decide)
  have hwn: (XW c1 k 0).win=c1.win:=rfl
  repeat' (first|rintro _ _ ⟨g3,hr3,rfl,rfl⟩|(refine G.call 214 ?_;refine S.c ?_ (h:=WV hrs hk))|(refine G.call 77 ?_;refine S.c ?_ (h:=W3 hc hr3 hk hnw))|refine S.x ?_|fail)
  all_goals exact Tr.fin hK ⟨_,g3,hr3,rfl,rfl⟩ S.E
 ·rw[if_neg S.o,if_neg S.o,if_pos hb]at hK
  repeat' (first|rintro _ _ ⟨g3,hr3,rfl,rfl⟩|(refine G.call 215 ?_;refine S.c ?_ (h:=Q4 hc hrs))|refine S.x ?_|fail)
  all_goals exact Tr.fin hK ⟨_,g3,hr3,rfl,rfl⟩ S.E
 ·rw[if_neg S.o,if_neg S.o,if_neg S.o,if_pos hb]at hK
  repeat' (first|rintro _ _ ⟨g3,hr3,rfl,rfl⟩|(refine G.call 216 ?_;refine S.c ?_ (h:=xef hc hrs))|refine S.x ?_|fail)
  all_goals exact Tr.fin hK ⟨_,g3,hr3,rfl,rfl⟩ S.E
 ·rw[if_neg S.o,if_neg S.o,if_neg S.o,if_neg S.o]at hK
  repeat' (first|refine S.x ?_|refine S.y ?_ ?_|(refine G.call 213 ?_;refine S.c ?_ (h:=xi3 ?_ ?_))|(refine G.call 178 ?_;refine S.c ?_ (h:=Zq ?_))|(refine G.call 214 ?_;refine S.c ?_ (h:=WV ‹_› ‹_›))|(refine G.call 77 ?_;refine S.c ?_ (h:=W3 ‹_› ‹_› ‹_› ‹_›))|(refine G.call 215 ?_;refine S.c ?_ (h:=Q4 ‹_› ‹_›))|(refine G.call 216 ?_;refine S.c ?_ (h:=xef ‹_› ‹_›))|rintro _ _ ⟨rfl,rfl⟩|rintro _ _ ⟨_,rfl,rfl⟩|rintro _ _ ⟨_,hrel,rfl,rfl⟩|(refine G.prop ?_;assumption)|intro hb|((fail_if_success refine G.tr ?_);exact G.prop S.p)|fail)
  all_goals exact Tr.fin hK ⟨_,gs,hrs,rfl,rfl⟩ S.E
end
end
section
variable {t:Tb} {q:One→Bool} {k:Int} {o:One}
theorem xdr (h:0≤t.best q):inR t.d (t.best q):=⟨h,(W5 t q t.d.length).2⟩
theorem xep:∀n,0≤t.bestTo q n→q (t.at (t.bestTo q n))=true
 |0,h=>by simp[Tb.bestTo]at h
 | n+1,h=>by
  have ih:=xep n
  unfold Tb.bestTo at h⊢
  split
  ·rename_i hb
   simp only[Bool.and_eq_true]at hb
   exact hb.1
  ·rename_i hb
   rw[if_neg hb]at h
   exact ih h
theorem xex (h:0≤t.best q):q (t.at (t.best q))=true:=xep _ h
def cnt (q:One→Bool) (t:Tb):Nat:=t.d.countP q
theorem xgJ:cnt q t≤t.d.length:=List.countP_le_length
theorem xu8 (hk:inR t.d k):t.d[k.toNat]'(by have:=hk.1;have:=hk.2;omega)=t.at k:=by
 have h1:k.toNat<t.d.length:=by have:=hk.1;have:=hk.2;omega
 unfold Tb.at
 rw[if_pos hk.1,List.getD_eq_getElem?_getD,List.getElem?_eq_getElem h1];rfl
theorem xsp {n:Int} (hk:inR t.d k) (h1:q (t.at k)=true) (h2:q o=false):cnt q (Tb.mk (t.d.set k.toNat o) n)+1=cnt q t:=by
 have hl:k.toNat<t.d.length:=by have:=hk.1;have:=hk.2;omega
 have h3:q (t.d[k.toNat]'hl)=true:=by rw[xu8 hk];exact h1
 have h4:0<t.d.countP q:=List.countP_pos_iff.2 ⟨_,List.getElem_mem hl,h3⟩
 unfold cnt
 simp only
 rw[List.countP_set hl,if_pos h3,if_neg (by rw[h2];decide)]
 omega
theorem xoK {call what:Int} {d:One} (h:One.waits call what d=true):d.state=2∧d.call=call∧d.what=what:=by
 unfold One.waits at h
 simp only[Bool.and_eq_true,decide_eq_true_eq]at h
 exact⟨h.1.1,h.1.2,h.2⟩
theorem xuD {call what:Int} (h:0≤t.best (One.waits call what)):cnt (One.waits call what) (t.set (t.best (One.waits call what)) 1)+1=cnt (One.waits call what) t:=by
 have hin:=xdr h
 have hs:=xex h
 unfold Tb.set
 rw[if_pos (by unfold Tb.setB;simp only[Bool.and_eq_true];exact⟨Vw.2 hin,by decide⟩)]
 refine xsp hin hs ?_
 unfold One.waits
 rw[xcG.1]
 rfl
end
section
variable {C:CC} {c:CM} {p:Int}
theorem xf9 {k call code value:Int}: (Zc C c k call code value).tb=c.tb.set k 1:=rfl
theorem xhA {k call:Int} {b:List UInt8}: (Zy C c k call b).tb=c.tb.set k 1:=rfl
theorem xcW (h:XB c 11 p<0):∀n,Yy C p n c=c
 |0=>rfl
 |n+1=>by unfold Yy;rw[if_pos h]
theorem Wt (h:XB c 12 p<0):∀n,YJ C p n c=c
 |0=>rfl
 |n+1=>by unfold YJ;rw[if_pos h]
theorem xcP (h:XB c 17 p<0):∀n,J7 C p n c=c
 |0=>rfl
 |n+1=>by unfold J7;rw[if_pos h]
theorem xbY {b:List UInt8} (h:XB c 21 p<0):∀n,Z5 C p b n c=c
 |0=>rfl
 |n+1=>by unfold Z5;rw[if_pos h]
