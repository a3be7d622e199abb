import Derived.Test.YtmebccjndhlpoaaGreatZ27
namespace Go.Proofs.YtmebccjndhlpoaaGreat
open Go Go.Wk Tryz
set_option maxHeartbeats 3200000
set_option maxRecDepth 100000
theorem xrl {C:CC} {c:CM} {w:CW} {gs:List Xe} (h:Rel C c w gs) (hm:c.slk=none):w.slk=none:=by
 have:=h.hs
 rw[hm]at this
 cases hw:w.slk with
 |none=>rfl
 |some s=>rw[hw]at this;cases this
section
attribute [local irreducible] BrK Xq Xt Xv XI FnK XZ Xw XC XV opX opK Yq Yk eqR Yj Yo Ys WL WD W X3 XO Tr drewK Ya X4 Yw Yv X1 YB mp blk rob sl sep ex fact old
section
attribute [local irreducible] Y1 X2 objX slkX
section
variable {b:Nat} {C:CC} {c:CM} {w:CW} {gs:List Xe} {k p:Int}
theorem xdZ (hc:okC C) (hr:Rel C c w gs):Xb prog 129 #[ptr b] [ZA b C c.mode c.win w,YG w.tb c.tb]
  fun v l'=>v=.int .i64 (Yl c)∧l'=[ZA b C c.mode c.win w,YG w.tb c.tb]:=by
 intro F K hK
 simp only[ap]at hK⊢
 have h8:=hc.n8
 have htl:c.tb.d.length≤1000000:=by rw[hr.ok.tb];omega
 rcases Option.eq_none_or_eq_some c.slk with hm|⟨m,hm⟩
 ·have hsp:slP w.slk=.pointer none:=by rw[xrl hr hm];rfl
  have hwm:Yl c=-1:=by unfold Yl;rw[hm]
  rw[hwm]at hK
  refine S.I fun u=>?_
  have hX:=hsp;repeat' (first|refine S.x ?_|(refine G.call 78 ?_;refine S.c ?_ (h:=JF))|rintro _ _ ⟨rfl,rfl⟩|fail)
  all_goals exact Tr.fin hK ⟨rfl,rfl⟩ S.E
 ·obtain⟨sb,hsb⟩:=Qe hr hm
  have hsp:slP w.slk=.pointer (some ⟨sb,0,none⟩):=by rw[hsb];rfl
  have hwm:Yl c=if c.mode=3 then c.tb.best One.ready else-1:=by unfold Yl;rw[hm];rfl
  rw[hwm]at hK
  refine S.I fun u=>?_
  by_cases hmd:c.mode=3
  ·rw[if_pos hmd]at hK
   have hX:=hsp;repeat' (first|refine S.x ?_|(refine G.call 78 ?_;refine S.c ?_ (h:=JF))|(refine G.call 187 ?_;refine S.c ?_ (h:=xdB _ _ ?_))|rintro _ _ ⟨rfl,rfl⟩|(refine G.prop ?_;assumption)|fail)
   all_goals exact Tr.fin hK ⟨rfl,rfl⟩ S.E
  ·rw[if_neg hmd]at hK
   have hX:=hsp;repeat' (first|refine S.x ?_|(refine G.call 78 ?_;refine S.c ?_ (h:=JF))|rintro _ _ ⟨rfl,rfl⟩|fail)
   all_goals exact Tr.fin hK ⟨rfl,rfl⟩ S.E
theorem xao (hc:okC C) (hr:Rel C c w gs):Xb prog 84 #[ptr b] (Xh b C c w gs)
  fun v l'=>v=.int .i64 (X0 c)∧l'=Xh b C c w gs:=by
 intro F K hK
 simp only[ap]at hK⊢
 have h8:=hc.n8
 have hlm: (gs.map Xe.pt).length=gs.length:=List.length_map _
 have hnx:=xdZ (b:=b) hc hr
 by_cases h0:Yl c<0
 ·have hwm:X0 c=0:=by
   unfold X0
   unfold Yl at h0
   split
   ·rename_i m hm
    rw[hm]at h0
    simp only at h0
    split
    ·rename_i h3
     rw[if_pos h3]at h0
     rw[if_pos h0]
    ·rfl
   ·rfl
  rw[hwm]at hK
  refine S.I fun u=>?_
  have hX:=@xMt.eq_def;repeat' (first|rintro _ _ ⟨rfl,rfl⟩|(refine G.call 129 ?_;refine S.c ?_ (h:=hnx))|refine S.x ?_|fail)
  all_goals exact Tr.fin hK ⟨rfl,rfl⟩ S.E
 ·obtain⟨m,hm,h3,hp⟩:∃m,c.slk=some m∧c.mode=3∧Yl c=XJ c:=by
   unfold Yl at h0⊢
   split at h0
   ·rename_i m hm
    split at h0
    ·rename_i h3
     exact⟨m,hm,h3,by rw[if_pos h3]⟩
    ·omega
   ·omega
  rw[hp]at h0 hnx
  have hk:=xaH hr h0
  obtain⟨g0,g9⟩:=ZO hr hk
  have hmp:=Xp (f:=Xe.pt) (xs:=gs) (k:=XJ c) g0 g9
  have hre: (ix gs (XJ c)).rest=ix c.rest (XJ c):=by rw[←hr.hr,Xp (f:=Xe.rest) g0 g9]
  obtain⟨sb,hsb⟩:=Qe hr hm
  have hsp:slP w.slk=.pointer (some ⟨sb,0,none⟩):=by rw[hsb];rfl
  have hsl:Zw w.slk c.slk=slkX sb m:=by rw[hsb,hm];rfl
  have hwm:X0 c=Zn (ix c.rest (XJ c)) (ofM m (XJ c)) m.room:=by unfold X0;rw[hm];simp only;rw[if_pos h3,if_neg h0]
  rw[hwm]at hK
  simp only[hsl]
  generalize XJ c=k at*
  refine S.I fun u=>?_
  refine Tr.famAt (xs:=gs) k S.K S.o S.o (Y5 ?_)
  have hmn:∀P ty T K,Xq P (Builtin.min_ #[T,T,T] ty #[.int .i64 (ix c.rest k),.int .i64 (ofM m k),.int .i64 m.room]) K=K (.int .i64 (Zn (ix c.rest k) (ofM m k) m.room)):=fun P ty T K=>xhc
  have hX:=I6 @xMt.eq_def hsp hmp @Xe.pt.eq_def hre hmn;repeat' (first|rintro _ _ ⟨rfl,rfl⟩|(refine G.call 129 ?_;refine S.c ?_ (h:=hnx))|refine S.x ?_|(refine G.call 130 ?_;first|refine S.c ?_ (h:=xkl))|(refine G.call 131 ?_;first|refine S.c ?_ (h:=xq0))|intro hb|fail)
  all_goals
   refine Tr.fin hK ⟨rfl,rfl⟩ ?_
   simp only[hsl,ap]
   have hX:=And.intro hre @Zg.eq_def
   exact S.E
end
end
section
section
variable {b:Nat} {C:CC} {c:CM} {w:CW} {gs:List Xe} {k p wk:Int} {s:XE} {s3:SV} {bs:List UInt8}
theorem xoZ (h:Rel C c w gs) (hk:inR C.progs k) (hs:s.ok) (hb:bs.length≤300):
  Rel C {c with addr:=c.addr.set k.toNat s.b,data:=c.data.set k.toNat bs,tb:=c.tb.wait k s.call s.a wk} w (gs.set k.toNat {ix gs k with addr:=s.b,ds:=s3,dd:=bs}):=by
 have hg:=ZO h hk
 have hd:inR c.data k:=by unfold inR at*;rw[h.ok.data];exact hk
 have hR:Rch C 0 c {c with addr:=c.addr.set k.toNat s.b,data:=c.data.set k.toNat bs}:=.wait c k s.b bs hk hs.2.1 hb
 have hR2:Rch C 0 c {c with addr:=c.addr.set k.toNat s.b,data:=c.data.set k.toNat bs,tb:=c.tb.wait k s.call s.a wk}:=hR.one (.tb _ (c.tb.wait k s.call s.a wk) xaw)
 have hok:okM C {c with addr:=c.addr.set k.toNat s.b,data:=c.data.set k.toNat bs,tb:=c.tb.wait k s.call s.a wk}:=by
  refine⟨xdL.trans h.ok.tb,h.ok.pos,h.ok.rest,by simpa using h.ok.addr,by simpa using h.ok.data,h.ok.done,h.ok.pi,fun x hx=>?_,fun x hx=>?_⟩
  ·rcases List.mem_or_eq_of_mem_set hx with h'|rfl
   ·exact h.ok.ad x h'
   ·exact hs.2.1
  ·rcases List.mem_or_eq_of_mem_set hx with h'|rfl
   ·exact h.ok.dl x h'
   ·exact hb
 refine⟨hok,(X6 (f:=Xe.prog) hg (by rfl)).trans h.hp,(X6 (f:=Xe.pos) hg (by rfl)).trans h.hi,(X6 (f:=Xe.rest) hg (by rfl)).trans h.hr,?_,(X6 (f:=Xe.done) hg (by rfl)).trans h.hd,fun j hj hw=>?_,h.hs,h.hq⟩
 ·rw[List.map_set,h.ha]
 ·have hj':inR gs j:=by unfold inR at*;simpa using hj
  rw[YY hg hj'.1]
  show _=ix (c.data.set k.toNat bs) j
  rw[YY hd hj'.1]
  by_cases e:j=k
  ·rw[if_pos e,if_pos e]
  ·rw[if_neg e,if_neg e]
   have hw':JM ((c.tb.wait k s.call s.a wk).at j):=hw
   rw[xk0 (xkM h hk),if_neg e]at hw'
   exact h.hw j hj' hw'
end
attribute [local irreducible] Y1 X2 objX Zw
section
variable {b:Nat} {C:CC} {c:CM} {w:CW} {gs:List Xe} {k p size:Int} {s:XE} {s3:SV} {bs:List UInt8}
theorem xb6 (hr:Rel C c w gs) (hk:inR C.progs k) (hf:few c 1) (hs:s.ok) (hb:bs.length≤300):
  Xb prog 241 #[ptr b,.int .i64 k,.agg (En.enc s).toArray,s3.v] (sl true s3.v bs::Xh b C c w gs)
  fun v l'=>∃w2 gs2,Rel C (YP C c k s bs) w2 gs2∧v=.tuple #[]∧l'=Xh b C (YP C c k s bs) w2 gs2:=by
 intro F K hK
 simp only[ap]at hK⊢
 unfold few at hf
 obtain⟨h0,h1⟩:=ZO hr hk
 have hmp:=Xp (f:=Xe.pt) (xs:=gs) (k:=k) h0 h1
 have hlm: (gs.map Xe.pt).length=gs.length:=List.length_map _
 have hpt: (gs.set k.toNat {ix gs k with addr:=s.b,ds:=s3,dd:=bs}).map Xe.pt=gs.map Xe.pt:=X6 ⟨h0,h1⟩ (by rfl)
 by_cases hd:s.d=0
 ·have hwm:YP C c k s bs=Xa C c k s.call 1 0:=by unfold YP;rw[if_pos hd]
  rw[hwm]at hK
  refine S.I fun u=>?_
  have hX:=@xv6.eq_def;repeat' (first|refine S.x ?_|(refine G.call 231 ?_;refine S.c ?_ (h:=Xx ?_))|rintro _ _ ⟨_,rfl,rfl⟩|(refine G.prop ?_;assumption)|intro hb|fail)
  all_goals
   rename_i sv
   refine Tr.fin hK ⟨{w with ev:=sv},gs,Xs hr,rfl,rfl⟩ ?_
   simp only[ap]
   have hX:=@Xa.eq_def
   exact S.E
 ·obtain⟨wk,hwk⟩:∃wk,wk=(if 1000<s.d then IntKind.i64.wrap (c.win+1000)else if 0<s.d then IntKind.i64.wrap (c.win+s.d)else-1):=⟨_,rfl⟩
  have hwm:YP C c k s bs={c with addr:=c.addr.set k.toNat s.b,data:=c.data.set k.toNat bs,tb:=c.tb.wait k s.call s.a wk}:=by unfold YP;rw[if_neg hd,hwk]
  rw[hwm]at hK
  have hrel:=xoZ (s3:=s3) (wk:=wk) hr hk hs hb
  refine S.I fun u=>?_
  refine Tr.famAt (xs:=gs) k S.K S.o S.o (Y5 ?_)
  by_cases h2:1000<s.d
  ·have hmi: (if(1000:Int)<s.d then(1000:Int)else s.d)=1000:=if_pos h2
   rw[if_pos h2]at hwk
   have hwk':=hwk.symm
   clear hwk
   have hX:=I5 @xv6.eq_def hmp @Xe.pt.eq_def hmi @hwk';repeat' (first|refine S.x ?_|(refine G.call 273 ?_;refine S.c ?_ (h:=xdu _ _ _ _ _ _))|rintro _ _ ⟨rfl,rfl⟩|intro hb|fail)
   all_goals
    refine Tr.fin hK ⟨w,_,hrel,rfl,rfl⟩ ?_
    simp only[ap]
    rw[hpt]
    have hX:=@Zg.eq_def
    exact S.E
  ·have hmi: (if(1000:Int)<s.d then(1000:Int)else s.d)=s.d:=if_neg h2
   rw[if_neg h2]at hwk
   by_cases h3:0<s.d
   ·rw[if_pos h3]at hwk
    have hwk':=hwk.symm
    clear hwk
    have hX:=I5 @xv6.eq_def hmp @Xe.pt.eq_def hmi @hwk';repeat' (first|refine S.x ?_|(refine G.call 273 ?_;refine S.c ?_ (h:=xdu _ _ _ _ _ _))|rintro _ _ ⟨rfl,rfl⟩|intro hb|fail)
    all_goals
     refine Tr.fin hK ⟨w,_,hrel,rfl,rfl⟩ ?_
     simp only[ap]
     rw[hpt]
     have hX:=@Zg.eq_def
     exact S.E
   ·rw[if_neg h3]at hwk
    subst hwk
    have hX:=I4 @xv6.eq_def hmp @Xe.pt.eq_def hmi;repeat' (first|refine S.x ?_|(refine G.call 273 ?_;refine S.c ?_ (h:=xdu _ _ _ _ _ _))|rintro _ _ ⟨rfl,rfl⟩|intro hb|fail)
    all_goals
     refine Tr.fin hK ⟨w,_,hrel,rfl,rfl⟩ ?_
     simp only[ap]
     rw[hpt]
     have hX:=@Zg.eq_def
     exact S.E
theorem xdt (hc:okC C) (hr:Rel C c w gs) (hk:inR C.progs k) (hf:few c 2):
  Xb prog 257 #[ptr b,.int .i64 k,.agg (En.enc s).toArray] (Xh b C c w gs)
  fun v l'=>∃w2 gs2,Rel C (JV C c k s) w2 gs2∧v=.tuple #[]∧l'=Xh b C (JV C c k s) w2 gs2:=by
 intro F K hK
 simp only[ap]at hK⊢
 have hf1:few c 1:=by unfold few at*;omega
 unfold few at hf1
 obtain⟨c1,hc1⟩:∃c1,c1=Xa C c k s.call 8 0:=⟨_,rfl⟩
 have hf2:few c1 1:=by unfold few at*;rw[hc1];simp only[Xa,List.length_append,List.length_cons,List.length_nil];omega
 have hr1:∀s,Rel C c1 {w with ev:=s} gs:=fun s=>by rw[hc1];exact Xs hr
 have hbm:JV C c k s=Yx C c1 k 2:=by rw[hc1];rfl
 rw[hbm]at hK
 refine S.I fun u=>?_
 repeat' (first|refine S.x ?_|(refine G.call 231 ?_;refine S.c ?_ (h:=Xx ?_))|rintro _ _ ⟨_,rfl,rfl⟩|(refine G.prop ?_;assumption)|intro hb|fail)
 rename_i sv
 refine Tr.imp (l':=Xh b C c1 {w with ev:=sv} gs++F) ?_ ?_
 ·subst hc1
  simp only[ap]
  have hX:=@Xa.eq_def
  show Xd [] _ _
  exact S.E
 have hcf:=VN (b:=b) (kind:=2) hc (hr1 sv) hk hf2 (by decide) (by decide)
 clear hc1 hr1 hbm
 simp only[ap]
 repeat' (first|rintro _ _ ⟨w3,g3,hr3,rfl,rfl⟩|(refine G.call 179 ?_;refine S.c ?_ (h:=hcf))|refine S.x ?_|fail)
 all_goals exact Tr.fin hK ⟨w3,g3,hr3,rfl,rfl⟩ S.E
end
end
section
def ZI (C:CC) (c:CM) (k:Int) (s:XE) (b:List UInt8) (code:Int):CM:=if code=0 then WY C c k s b else if s.call=10 then Xa C c k s.call code 0 else YP C c k s []
def WR (C:CC) (c:CM) (k:Int) (s:XE) (code:Int):CM:=if code=1 then YP C c k s []else Xa C c k s.call code 0
attribute [local irreducible] Y1 X2 objX Zw
section
variable {b:Nat} {C:CC} {c:CM} {w:CW} {gs:List Xe} {k p size code:Int} {s:XE} {s3:SV} {bs:List UInt8}
theorem xdg (hs:s.ok) (h:ZR c s size=true):
  Xb prog 236 #[ptr b,.int .i64 k,.agg (En.enc s).toArray,.int .i64 size] (Xh b C c w gs)
  fun v l'=>v=.bool true∧l'=Xh b C c w gs:=by
 intro F K hK
 simp only[ap]at hK⊢
 have hz:=hs.2.1
 unfold ZR at h
 refine S.I fun u=>?_
 have hX:=And.intro @xts.eq_def h;repeat' (first|refine S.x ?_|(refine G.call 274 ?_;refine S.c ?_ (h:=xlr ‹_›))|rintro _ _ ⟨rfl,rfl⟩|intro hb|fail)
 all_goals exact Tr.fin hK ⟨rfl,rfl⟩ S.E
theorem xdc (hc:okC C) (hr:Rel C c w gs) (hk:inR C.progs k) (hf:few c 2) (hs:s.ok) (h:ZR c s size=false):
  Xb prog 236 #[ptr b,.int .i64 k,.agg (En.enc s).toArray,.int .i64 size] (Xh b C c w gs)
  fun v l'=>∃w2 gs2,Rel C (JV C c k s) w2 gs2∧v=.bool false∧l'=Xh b C (JV C c k s) w2 gs2:=by
 intro F K hK
 simp only[ap]at hK⊢
 have hz:=hs.2.1
 unfold ZR at h
 have hcb:=xdt (b:=b) (s:=s) hc hr hk hf
 refine S.I fun u=>?_
 have hX:=And.intro @xts.eq_def h;repeat' (first|rintro _ _ ⟨rfl,rfl⟩|rintro _ _ ⟨w3,g3,hr3,rfl,rfl⟩|(refine G.call 257 ?_;refine S.c ?_ (h:=hcb))|refine S.x ?_|(refine G.call 274 ?_;refine S.c ?_ (h:=xlr ‹_›))|intro hb|fail)
 all_goals exact Tr.fin hK ⟨w3,g3,hr3,rfl,rfl⟩ S.E
theorem xds (hs:s.ok) (h:Zx c s size=true):
  Xb prog 239 #[ptr b,.int .i64 k,.agg (En.enc s).toArray,.int .i64 size] (Xh b C c w gs)
  fun v l'=>∃s4:SV,v=.tuple #[s4.v,.bool true]∧l'=sl true s4.v (ldB c.mem s.b s.c)::Xh b C c w gs:=by
 intro F K hK
 simp only[ap]at hK⊢
 have hz:=hs.2.1
 unfold Zx at h
 simp only[Bool.and_eq_true,decide_eq_true_eq]at h
 obtain⟨⟨h1,h2⟩,h3⟩:=h
 refine S.I fun u=>?_
 have hX:=And.intro @xGi.eq_def h3;repeat' (first|refine S.x ?_|(refine G.call 275 ?_;refine S.c ?_ (h:=xip ‹_›))|rintro _ _ ⟨_,rfl,rfl⟩|intro hb|fail)
 all_goals
  rename_i s4
  exact Tr.fin hK ⟨s4,rfl,rfl⟩ S.E
theorem xdy (hc:okC C) (hr:Rel C c w gs) (hk:inR C.progs k) (hf:few c 2) (hs:s.ok) (h:Zx c s size=false):
  Xb prog 239 #[ptr b,.int .i64 k,.agg (En.enc s).toArray,.int .i64 size] (Xh b C c w gs)
  fun v l'=>∃(s4:SV) (w2:CW) (gs2:List Xe),Rel C (Jb C c k s size) w2 gs2∧v=.tuple #[s4.v,.bool false]∧l'=Xh b C (Jb C c k s size) w2 gs2:=by
 intro F K hK
 simp only[ap]at hK⊢
 have hz:=hs.2.1
 have hf1:few c 1:=by unfold few at*;omega
 unfold few at hf1
 by_cases h1:1≤s.c∧s.c≤size
 ·have h3:ldO c.mem s.b s.c=false:=by
   unfold Zx at h
   rw[decide_eq_true h1.1,decide_eq_true h1.2]at h
   exact h
  obtain⟨h4,h5⟩:=h1
  have hfm:Jb C c k s size=JV C c k s:=by unfold Jb;rw[if_pos ⟨h4,h5⟩]
  rw[hfm]at hK
  have hcb:=xdt (b:=b) (s:=s) hc hr hk hf
  refine S.I fun u=>?_
  have hX:=And.intro @xGi.eq_def h3;repeat' (first|rintro _ _ ⟨_,rfl,rfl⟩|rintro _ _ ⟨w3,g3,hr3,rfl,rfl⟩|(refine G.call 257 ?_;refine S.c ?_ (h:=hcb))|refine S.x ?_|(refine G.call 275 ?_;refine S.c ?_ (h:=xip ‹_›))|intro hb|fail)
  all_goals exact Tr.fin hK ⟨_,w3,g3,hr3,rfl,rfl⟩ S.E
 ·have hfm:Jb C c k s size=Xa C c k s.call 2 0:=by unfold Jb;rw[if_neg h1]
  rw[hfm]at hK
  have hrn:=fun s'=>Xs (k:=k) (call:=s.call) (code:=2) (value:=0) (s:=s') hr
  refine S.I fun u=>?_
  by_cases h4:s.c<1
  ·have hX:=@xGi.eq_def;repeat' (first|refine S.x ?_|(refine G.call 231 ?_;refine S.c ?_ (h:=Xx ?_))|rintro _ _ ⟨_,rfl,rfl⟩|(refine G.prop ?_;assumption)|intro hb|fail)
   all_goals
    rename_i sv
    refine Tr.fin hK ⟨⟨none,0,0⟩,{w with ev:=sv},gs,hrn sv,rfl,rfl⟩ ?_
    have hX:=@Xa.eq_def
    simp only[ap]
    exact S.E
  ·have h5:size<s.c:=by omega
   have hX:=@xGi.eq_def;repeat' (first|refine S.x ?_|(refine G.call 231 ?_;refine S.c ?_ (h:=Xx ?_))|rintro _ _ ⟨_,rfl,rfl⟩|(refine G.prop ?_;assumption)|intro hb|fail)
   all_goals
    rename_i sv
    refine Tr.fin hK ⟨⟨none,0,0⟩,{w with ev:=sv},gs,hrn sv,rfl,rfl⟩ ?_
    have hX:=@Xa.eq_def
    simp only[ap]
    exact S.E
theorem xdi (hr:Rel C c w gs) (hk:inR C.progs k) (hf:few c 1) (hs:s.ok):
  Xb prog 238 #[ptr b,.int .i64 k,.agg (En.enc s).toArray,s3.v,.int .i64 code] (sl true s3.v bs::Xh b C c w gs)
  fun v l'=>∃w2 gs2,Rel C (ZI C c k s bs code) w2 gs2∧v=.bool (decide (code=0))∧l'=Xh b C (ZI C c k s bs code) w2 gs2:=by
 intro F K hK
 simp only[ap]at hK⊢
 have hz:=hs.2.1
 have hf1:=hf
 unfold few at hf1
 by_cases h0:code=0
 ·have hgm:ZI C c k s bs code=WY C c k s bs:=by unfold ZI;rw[if_pos h0]
  rw[hgm]at hK
  have hrn:=fun s'=>Xs (k:=k) (call:=s.call) (code:=0) (value:=(bs.length:Int)) (s:=s') (xgK (ms:=stB c.mem s.b bs) hr)
  refine S.I fun u=>?_
  have hX:=@xHw.eq_def;repeat' (first|refine S.x ?_|(refine G.call 222 ?_;first|refine S.c ?_ (h:=xfK ‹_›))|(refine G.call 178 ?_;refine S.c ?_ (h:=Zq ?_))|rintro _ _ ⟨rfl,rfl⟩|rintro _ _ ⟨_,rfl,rfl⟩|(refine G.prop ?_;assumption)|intro hb|fail)
  all_goals
   rename_i sv
   refine Tr.fin hK ⟨{w with ev:=sv},gs,hrn sv,by rw[h0];rfl,rfl⟩ ?_
   have hX:=And.intro @WY.eq_def @Xa.eq_def
   simp only[ap]
   exact S.E
 ·by_cases h1:s.call=10
  ·have hgm:ZI C c k s bs code=Xa C c k s.call code 0:=by unfold ZI;rw[if_neg h0,if_pos h1]
   rw[hgm]at hK
   have hrn:=fun s'=>Xs (k:=k) (call:=s.call) (code:=code) (value:=0) (s:=s') hr
   have hd0:decide (code=0)=false:=decide_eq_false h0
   refine S.I fun u=>?_
   have hX:=@xHw.eq_def;repeat' (first|refine S.x ?_|(refine G.call 231 ?_;refine S.c ?_ (h:=Xx ?_))|rintro _ _ ⟨_,rfl,rfl⟩|(refine G.prop ?_;assumption)|intro hb|fail)
   all_goals
    rename_i sv
    refine Tr.fin hK ⟨{w with ev:=sv},gs,hrn sv,by rw[hd0],rfl⟩ ?_
    have hX:=@Xa.eq_def
    simp only[ap]
    exact S.E
  ·have hgm:ZI C c k s bs code=YP C c k s []:=by unfold ZI;rw[if_neg h0,if_neg h1]
   rw[hgm]at hK
   have hd0:decide (code=0)=false:=decide_eq_false h0
   have hcw:=xb6 (b:=b) (s3:=⟨none,0,0⟩) (bs:=[]) hr hk hf hs (Nat.zero_le _)
   refine S.I fun u=>?_
   have hX:=@xHw.eq_def;repeat' (first|rintro _ _ ⟨w3,g3,hr3,rfl,rfl⟩|(refine G.call 241 ?_;refine S.c ?_ (h:=hcw))|refine S.x ?_|intro hb|fail)
   all_goals exact Tr.fin hK ⟨w3,g3,hr3,by rw[hd0],rfl⟩ S.E
theorem xfM (hr:Rel C c w gs) (hk:inR C.progs k) (hf:few c 1) (hs:s.ok):
  Xb prog 243 #[ptr b,.int .i64 k,.agg (En.enc s).toArray,.int .i64 code] (Xh b C c w gs)
  fun v l'=>∃w2 gs2,Rel C (WR C c k s code) w2 gs2∧v=.tuple #[]∧l'=Xh b C (WR C c k s code) w2 gs2:=by
 intro F K hK
 simp only[ap]at hK⊢
 have hf1:=hf
 unfold few at hf1
 by_cases h1:code=1
 ·have hgm:WR C c k s code=YP C c k s []:=by unfold WR;rw[if_pos h1]
  rw[hgm]at hK
  have hcw:=xb6 (b:=b) (s3:=⟨none,0,0⟩) (bs:=[]) hr hk hf hs (Nat.zero_le _)
  refine S.I fun u=>?_
  repeat' (first|rintro _ _ ⟨w3,g3,hr3,rfl,rfl⟩|(refine G.call 241 ?_;refine S.c ?_ (h:=hcw))|refine S.x ?_|intro hb|fail)
  all_goals exact Tr.fin hK ⟨w3,g3,hr3,rfl,rfl⟩ S.E
 ·have hgm:WR C c k s code=Xa C c k s.call code 0:=by unfold WR;rw[if_neg h1]
  rw[hgm]at hK
  have hrn:=fun s'=>Xs (k:=k) (call:=s.call) (code:=code) (value:=0) (s:=s') hr
  refine S.I fun u=>?_
  repeat' (first|refine S.x ?_|(refine G.call 231 ?_;refine S.c ?_ (h:=Xx ?_))|rintro _ _ ⟨_,rfl,rfl⟩|(refine G.prop ?_;assumption)|intro hb|fail)
  all_goals
   rename_i sv
   refine Tr.fin hK ⟨{w with ev:=sv},gs,hrn sv,rfl,rfl⟩ ?_
   have hX:=@Xa.eq_def
   simp only[ap]
   exact S.E
