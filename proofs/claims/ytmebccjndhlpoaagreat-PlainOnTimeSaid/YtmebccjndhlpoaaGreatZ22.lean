import Derived.Test.YtmebccjndhlpoaaGreatZ21
namespace Go.Proofs.YtmebccjndhlpoaaGreat
open Go Go.Wk Tryz
set_option maxHeartbeats 6400000
set_option maxRecDepth 100000
def Xg.abs (g:Xg):AP:=⟨g.conf,if g.q=true then g.ms.map SL.d else if g.there=true then[g.m.d]else[],!g.q&&!g.i&&g.fresh,g.lost⟩
def Xg.wf (g:Xg) (n:Nat):Prop:=(g.q=false→g.fresh=true→g.there=true)∧g.m.d.length≤300∧g.ms.length≤n
def xb0 (gs:List Xg) (n:Nat):Prop:=gs.length≤8∧∀g∈gs,g.wf n
theorem xsV {gs:List Xg}: (gs.map Xg.abs).length=gs.length:=List.length_map _
theorem J5 {gs:List Xg} {k:Int} (h:inR gs k):ix (gs.map Xg.abs) k=(ix gs k).abs:=Xp (f:=Xg.abs) h.1 h.2
theorem xdf {gs:List Xg} {k:Int}:inR (gs.map Xg.abs) k=inR gs k:=by unfold inR;rw[xsV]
theorem Z3 {gs:List Xg} {k:Int} {q i:Bool}:Vd gs k q i=Yu (gs.map Xg.abs) k q i:=by
 unfold Vd Yu
 simp only[xdf]
 split
 ·rename_i h;rw[J5 h];rfl
 ·rfl
theorem Qo {gs:List Xg} {k:Int} {q i:Bool} (h:Vd gs k q i=true):inR gs k∧(ix gs k).q=q∧(ix gs k).i=i:=by
 unfold Vd at h
 split at h
 ·rename_i hr
  simp only[Bool.and_eq_true,beq_iff_eq]at h
  exact⟨hr,h.1,h.2⟩
 ·cases h
theorem xcM {g:Xg} (h:g.q=true):g.abs.ms=g.ms.map SL.d:=if_pos h
theorem xmz {g:Xg} (h:g.q=false):g.abs.ms=if g.there=true then[g.m.d]else[]:=if_neg (by rw[h];simp)
theorem Qs {gs:List Xg} {k:Nat} {g:Xg}: (gs.set k g).map Xg.abs=(gs.map Xg.abs).set k g.abs:=List.map_set
theorem xgS {gs:List Xg} {k:Int} (h:inR gs k) {g:Xg} (hg:g.abs=(ix gs k).abs): (gs.set k.toNat g).map Xg.abs=gs.map Xg.abs:=YW (f:=Xg.abs) h.1 h.2 g hg
theorem xfw {gs:List Xg} {k:Int} {q:Bool} {n:Nat}:xbs gs k q n=YU (gs.map Xg.abs) k q n:=by
 unfold xbs YU
 rw[Z3]
 split
 ·rename_i h
  rw[←Z3]at h
  obtain⟨hr,hq,hi⟩:=Qo h
  rw[J5 hr]
  show(if Wf n (ix gs k).size=true then _ else _)=(if Wf n (ix gs k).size=true then _ else _)
  split
  ·split
   ·rename_i hq2
    rw[xcM (hq.trans hq2),List.length_map];rfl
   ·rfl
  ·rfl
 ·rfl
theorem xhX {gs:List Xg} {k:Int} {q:Bool} {s:SV} {m:Msg}: (WF gs k q s m).map Xg.abs=Yh (gs.map Xg.abs) k q m.d:=by
 unfold WF Yh
 rw[Z3]
 split
 ·rename_i h
  rw[←Z3]at h
  obtain⟨hr,hq,hi⟩:=Qo h
  rw[J5 hr]
  show List.map Xg.abs (if Wf m.d.length (ix gs k).size=true then _ else _)=(if Wf m.d.length (ix gs k).size=true then _ else _)
  split
  ·cases q
   ·simp only[Bool.false_eq_true,if_false]
    rw[Qs];congr 1
    simp[putP,hq,Xg.abs,Xg.conf,hi]
   ·simp only[if_true]
    rw[xcM hq,List.length_map]
    show _=if(ix gs k).depth≤((ix gs k).ms.length:Int)then _ else _
    split
    ·rename_i hf
     refine xgS hr ?_
     simp[putP,hq,Xg.abs,Xg.conf,xcn,hf]
    ·rename_i hf
     rw[Qs];congr 1
     simp[putP,hq,Xg.abs,Xg.conf,xcn,hf]
  ·rfl
 ·rfl
theorem xiW {gs:List Xg} {k:Int} {q:Bool}:Z2 gs k q=Y3 (gs.map Xg.abs) k q:=by
 unfold Z2 Y3
 rw[Z3]
 split
 ·rename_i h
  rw[←Z3]at h
  obtain⟨hr,hq,hi⟩:=Qo h
  rw[J5 hr]
  cases q
  ·rw[xmz hq];cases(ix gs k).there<;>rfl
  ·rw[xcM hq,List.length_map];rfl
 ·rfl
theorem xhi {gs:List Xg} {k:Int} {q:Bool}:JW gs k q=YS (gs.map Xg.abs) k q:=by
 cases h:Vd gs k q true
 ·have h2:Yu (gs.map Xg.abs) k q true=false:=by rw[←Z3];exact h
  simp[JW,Z2,YS,h,h2]
 ·have h2:Yu (gs.map Xg.abs) k q true=true:=by rw[←Z3];exact h
  obtain⟨hr,hq,hi⟩:=Qo h
  simp only[JW,Z2,YS,h,h2,if_true,J5 hr]
  cases q
  ·rw[xmz hq];cases(ix gs k).there<;>simp[ix]
  ·rw[xcM hq,List.length_map]
   by_cases hz: ((ix gs k).ms.length:Int)=0
   ·simp only[hz,if_true];rfl
   ·simp only[hz,if_true,if_false]
    rw[Xp (f:=SL.d) S.o S.o]
theorem xH4 {gs:List Xg} {k:Int} {q:Bool} {s:SV}: (W8 gs k q s).map Xg.abs=Z1 (gs.map Xg.abs) k q:=by
 unfold W8 Z1
 rw[Z3]
 split
 ·rename_i h
  rw[←Z3]at h
  obtain⟨hr,hq,hi⟩:=Qo h
  rw[J5 hr]
  cases q
  ·rfl
  ·simp only[if_true]
   rw[xcM hq,List.length_map]
   split
   ·rename_i hz
    refine xgS hr ?_
    have: (ix gs k).ms=[]:=List.eq_nil_of_length_eq_zero S.o
    simp[Xg.abs,Xg.conf,hq,this]
   ·rw[Qs];congr 1
    simp[Xg.abs,Xg.conf,hq]
 ·rfl
theorem Ji {gs:List Xg} {k:Int} {q i:Bool} (h:¬(inR gs k∧(ix gs k).q=q∧(ix gs k).i=i)):Yu (gs.map Xg.abs) k q i=false:=by
 rw[←Z3]
 cases h2:Vd gs k q i with
 |false=>rfl
 |true=>exact absurd (Qo h2) h
theorem xbQ {gs:List Xg} {k:Int} {q i:Bool} (hr:inR gs k) (hq: (ix gs k).q=q) (hi: (ix gs k).i=i):Yu (gs.map Xg.abs) k q i=true:=by
 rw[←Z3];simp[Vd,hr,hq,hi]
theorem xhM {gs:List Xg} {n:Nat} (h:xb0 gs n) {k:Int} (hr:inR gs k): (ix gs k).wf n:=by
 have:=Yi (xs:=gs) hr.1 hr.2
 exact h.2 _ (List.mem_of_getElem? this)
theorem xfk {gs:List Xg} {n:Nat} (hw:xb0 gs n) {k:Int}:Wa gs k=Zl (gs.map Xg.abs) k∧(JD gs k).map Xg.abs=YQ (gs.map Xg.abs) k:=by
 by_cases hr:inR gs k
 ·have hwf:=(xhM hw hr).1
  cases hi: (ix gs k).i
  ·cases hq: (ix gs k).q
   ·have c1:Yu (gs.map Xg.abs) k true false=false:=Ji (by simp[hq])
    have c2:Yu (gs.map Xg.abs) k false false=true:=xbQ hr hq hi
    have hfr: (ix gs k).abs.fresh=(ix gs k).fresh:=by simp[Xg.abs,hq,hi]
    simp only[Wa,JD,Zl,YQ,c1,c2,hr,hi,hq,if_true,if_false,Bool.false_eq_true,J5 hr,hfr]
    cases hf: (ix gs k).fresh
    ·refine⟨rfl,?_⟩
     simp only[Bool.false_eq_true,if_false]
     exact xgS hr (by simp[Xg.abs,Xg.conf,hf,hq,hi])
    ·simp only[if_true]
     refine⟨by rw[xmz hq,hwf hq hf];rfl,?_⟩
     rw[Qs];congr 1
     simp[Xg.abs,Xg.conf,hq,hi]
   ·have c1:Yu (gs.map Xg.abs) k true false=true:=xbQ hr hq hi
    simp only[Wa,JD,Zl,YQ,c1,hr,hi,hq,if_true,if_false,Bool.false_eq_true,J5 hr]
    refine⟨(xcM hq).symm,?_⟩
    rw[Qs];congr 1
    simp[Xg.abs,Xg.conf,hq,hi]
  ·have c1:Yu (gs.map Xg.abs) k true false=false:=Ji (by simp[hi])
   have c2:Yu (gs.map Xg.abs) k false false=false:=Ji (by simp[hi])
   simp[Wa,JD,Zl,YQ,c1,c2,hr,hi]
 ·have c1:Yu (gs.map Xg.abs) k true false=false:=Ji (by simp[hr])
  have c2:Yu (gs.map Xg.abs) k false false=false:=Ji (by simp[hr])
  simp[Wa,JD,Zl,YQ,c1,c2,hr]
theorem xlA {gs:List Xg} {k:Int} {s:SV} {m:Msg}:xgd gs k=QQ (gs.map Xg.abs) k∧(xc6 gs k s m).map Xg.abs=J0 (gs.map Xg.abs) k m.d:=by
 by_cases hr:inR gs k
 ·cases hi: (ix gs k).i
  ·have c1:Yu (gs.map Xg.abs) k true true=false:=Ji (by simp[hi])
   have c2:Yu (gs.map Xg.abs) k false true=false:=Ji (by simp[hi])
   simp[xgd,xc6,QQ,J0,c1,c2,hr,hi]
  ·cases hq: (ix gs k).q
   ·have c2:Yu (gs.map Xg.abs) k false true=true:=xbQ hr hq hi
    simp only[xgd,xc6,QQ,J0,c2,hr,hi,hq,if_true,if_false,Bool.false_eq_true,J5 hr]
    refine⟨trivial,?_⟩
    rw[Qs];congr 1
    simp[xgF,Xg.abs,Xg.conf,hq,hi]
   ·have c1:Yu (gs.map Xg.abs) k true true=true:=xbQ hr hq hi
    have c2:Yu (gs.map Xg.abs) k false true=false:=Ji (by simp[hq])
    have hl: (ix gs k).abs.ms.length=(ix gs k).ms.length:=by rw[xcM hq,List.length_map]
    simp only[xgd,xc6,QQ,J0,c1,c2,hr,hi,hq,if_true,if_false,Bool.false_eq_true,J5 hr,hl]
    refine⟨rfl,?_⟩
    rw[Qs]
    show _=if(ix gs k).depth≤((ix gs k).ms.length:Int)then _ else _
    by_cases hf: (ix gs k).depth≤((ix gs k).ms.length:Int)
    ·rw[if_pos hf];congr 1
     simp[xgF,Xg.abs,Xg.conf,hq,hf]
    ·rw[if_neg hf];congr 1
     simp[xgF,Xg.abs,Xg.conf,hq,hf]
 ·have c1:Yu (gs.map Xg.abs) k true true=false:=Ji (by simp[hr])
  have c2:Yu (gs.map Xg.abs) k false true=false:=Ji (by simp[hr])
  simp[xgd,xc6,QQ,J0,c1,c2,hr]
theorem xH0 {g:Xg} {n:Nat} (h:g.wf n):g.wf (n+1):=⟨h.1,h.2.1,by have:=h.2.2;omega⟩
theorem xEV {gs:List Xg} {n:Nat} (h:xb0 gs n):xb0 gs (n+1):=⟨h.1,fun g hg=>xH0 (h.2 g hg)⟩
theorem xdz {gs:List Xg} {n k:Nat} {g:Xg} (h:xb0 gs n) (hg:g.wf n):xb0 (gs.set k g) n:=⟨by rw[List.length_set];exact h.1,fun x hx=>by
 rcases List.mem_or_eq_of_mem_set hx with h'|rfl
 ·exact h.2 x h'
 ·exact hg⟩
theorem xKZ {gs:List Xg} {n:Nat} {k:Int} {s:SV} {m:Msg} (h:xb0 gs n) (hm:m.d.length≤300):xb0 (xc6 gs k s m) (n+1):=by
 unfold xc6
 split
 ·rename_i hr
  have hw:=xH0 (xhM h hr)
  split
  ·refine xdz (xEV h) ?_
   unfold xgF
   split
   ·split
    ·exact⟨hw.1,hw.2.1,hw.2.2⟩
    ·refine⟨hw.1,hw.2.1,?_⟩
     have:=(xhM h hr).2.2
     show((ix gs k).ms++[m]).length≤n+1
     simp;omega
   ·exact⟨fun _ _=>rfl,hm,hw.2.2⟩
  ·exact xEV h
 ·exact xEV h
theorem xsO {gs:List Xg} {n:Nat} {k:Int} {q:Bool} {s:SV} (h:xb0 gs n):xb0 (W8 gs k q s) n:=by
 unfold W8
 split
 ·rename_i hc
  obtain⟨hr,hq,hi⟩:=Qo hc
  have hw:=xhM h hr
  split
  ·refine xdz h ⟨hw.1,hw.2.1,?_⟩
   have:=hw.2.2
   show((ix gs k).ms.drop 1).length≤n
   simp;omega
  ·exact h
 ·exact h
theorem xnj {gs:List Xg} {n:Nat} {k:Int} (h:xb0 gs n):xb0 (JD gs k) n:=by
 unfold JD
 split
 ·rename_i hr
  have hw:=xhM h hr
  split
  ·exact h
  ·split
   ·exact xdz h ⟨hw.1,hw.2.1,Nat.zero_le _⟩
   ·exact xdz h ⟨fun _ hf=>(by cases hf),hw.2.1,hw.2.2⟩
 ·exact h
theorem xdm {g:Xg} {x:Zd} (h:g.core=JJ x):g.wf 0∧g.abs=⟨x,[],false,0⟩:=by
 rw[xrI h]
 refine⟨⟨fun _ hf=>(by cases hf),Nat.zero_le _,Nat.le_refl _⟩,?_⟩
 obtain⟨q,i,sz,d⟩:=x
 cases q<;>cases i<;>rfl
theorem xiu {gs:List Xg} {cs:List Zd} (h:gs.map Xg.core=cs.map JJ) (hl:cs.length≤8):xb0 gs 0∧gs.map Xg.abs=cs.map fun c=>⟨c,[],false,0⟩:=by
 have hlen:gs.length=cs.length:=by simpa using congrArg List.length h
 have hg:∀(i:Nat) (h1:i<gs.length) (h2:i<cs.length),gs[i].core=JJ cs[i]:=fun i h1 h2=>by
  have: (gs.map Xg.core)[i]'(by simpa using h1)=(cs.map JJ)[i]'(by simpa using h2):=by simp only[h]
  simpa using this
 refine⟨⟨by omega,fun g hgm=>?_⟩,List.ext_getElem (by simp[hlen]) fun i h1 h2=>?_⟩
 ·obtain⟨i,h1,rfl⟩:=List.getElem_of_mem hgm
  exact(xdm (hg i h1 S.o)).1
 ·have h1':i<gs.length:=by simpa using h1
  simpa using(xdm (hg i h1' S.o)).2
section
attribute [local irreducible] BrK Xq Xt Xv XI FnK XZ Xw XC XV opX opK Yq Yk eqR Yj Yo Ys WL WD W X3 XO Tr drewK Ya X4 Yw Yv X1 YB mp blk rob sl sep ex fact old
def ZN (ps:List AP):List AP:=ps.map fun g=>⟨g.c,[],false,0⟩
theorem ZH {α:Type} [Inhabited α] (xs:List α) (k:Int):ix xs k∈xs∨ix xs k=default:=by
 unfold ix
 by_cases h:k.toNat<xs.length
 ·left;simp[h]
 ·right;simp[h]
theorem xnW {gs:List Xg} {n:Nat} (h:xb0 gs n) (k:Int): (ix gs k).m.d.length≤1000000:=by
 rcases ZH gs k with hm|hm
 ·have:=(h.2 _ hm).2.1;omega
 ·rw[hm];exact Nat.zero_le _
theorem xjy {gs:List Xg} {n:Nat} (h:xb0 gs n) (hn:n≤100000) (k:Int): (ix gs k).ms.length≤1000000:=by
 rcases ZH gs k with hm|hm
 ·have:=(h.2 _ hm).2.2;omega
 ·rw[hm];exact Nat.zero_le _
theorem xmQ {gs gs2:List Xg} {n:Nat} (h:xb0 gs n) (hc:gs2.map Xg.core=gs.map fun g=>JJ g.conf):xb0 gs2 (n+1)∧gs2.map Xg.abs=ZN (gs.map Xg.abs):=by
 have h2:gs2.map Xg.core=(gs.map Xg.conf).map JJ:=by rw[hc,List.map_map];rfl
 obtain⟨a,b⟩:=xiu h2 (by simpa using h.1)
 refine⟨⟨a.1,fun g hg=>⟨(a.2 g hg).1,(a.2 g hg).2.1,by have:=(a.2 g hg).2.2;omega⟩⟩,?_⟩
 rw[b,ZN,List.map_map,List.map_map];rfl
end
def xp7 (p:Nat) (s:SV) (gs:List Xg):List Xc:=[poB p s,fam Ym gs,sl false s.v (gs.map Xg.pt)]
def wfP (gs:List Xg):Prop:=xb0 gs 16∧∀g∈gs,g.depth≤16
def X2 (p:Nat) (ps:List AP):Xc:=pk (fun g:SV×List Xg=>xp7 p g.1 g.2) (fun g=>g.2.map Xg.abs=ps∧wfP g.2)
def okA (ps:List AP):Prop:=ps.length≤8∧∀g∈ps,g.c.depth≤16∧g.ms.length≤16
theorem ZJ {p:Nat} {ps:List AP} {s:SV} {gs:List Xg} {l:List Xc} (h1:gs.map Xg.abs=ps) (h2:wfP gs):Imp (xp7 p s gs++l) (X2 p ps::l):=
 Imp.pk (f:=fun g:SV×List Xg=>xp7 p g.1 g.2) (p:=fun g=>g.2.map Xg.abs=ps∧wfP g.2) (s,gs) ⟨h1,h2⟩
def Yb (ps:List AP) (k:Int):Int:=if inR ps k then(ix ps k).c.size else 0
section
variable {gs:List Xg} {k:Int} {q:Bool} {s:SV} {m:Msg}
theorem xoW {j:Nat} {g:Xg} (h:wfP gs) (hg:g.wf 16) (hd:g.depth≤16):wfP (gs.set j g):=⟨xdz h.1 hg,fun x hx=>by
 rcases List.mem_or_eq_of_mem_set hx with h'|rfl
 ·exact h.2 x h'
 ·exact hd⟩
theorem xt3 (h:wfP gs) (hr:inR gs k): (ix gs k).depth≤16:=h.2 _ (List.mem_of_getElem? (Yi hr.1 hr.2))
theorem xlX (h:wfP gs) (hm:m.d.length≤300):wfP (WF gs k q s m):=by
 unfold WF
 split
 ·rename_i hc
  obtain⟨hr,hq,hi⟩:=Qo hc
  have hw:=xhM h.1 hr
  have hd:=xt3 h hr
  split
  ·refine xoW h ?_ (by unfold putP;split<;>exact hd)
   unfold putP
   split
   ·refine⟨hw.1,hw.2.1,?_⟩
    show(xcn (ix gs k).ms (ix gs k).depth m).length≤16
    have:=hw.2.2
    unfold xcn;split<;>simp<;>omega
   ·exact⟨fun _ _=>rfl,hm,hw.2.2⟩
  ·exact h
 ·exact h
theorem xgI {j:Int} {g:Xg} (h:wfP gs) (hd:g.depth=(ix gs j).depth) (hr:inR gs j):∀x∈gs.set j.toNat g,x.depth≤16:=fun x hx=>by
 rcases List.mem_or_eq_of_mem_set hx with h'|rfl
 ·exact h.2 x h'
 ·rw[hd];exact xt3 h hr
theorem xpg (h:wfP gs):wfP (W8 gs k q s):=⟨xsO h.1,by
 unfold W8
 split
 ·rename_i hc
  obtain⟨hr,hq,hi⟩:=Qo hc
  split
  ·exact xgI h rfl hr
  ·exact h.2
 ·exact h.2⟩
theorem xoz:xbP gs k=Yb (gs.map Xg.abs) k:=by
 unfold xbP Yb
 simp only[xdf]
 split
 ·rename_i h;rw[J5 h];rfl
 ·rfl
end
section
variable {ps:List AP} {k:Int} {q:Bool} {m:List UInt8}
theorem xdv {j:Nat} {x:AP} (h:okA ps) (h1:x.c.depth≤16) (h2:x.ms.length≤16):okA (ps.set j x):=⟨by rw[List.length_set];exact h.1,fun y hy=>by
 rcases List.mem_or_eq_of_mem_set hy with h'|rfl
 ·exact h.2 y h'
 ·exact⟨h1,h2⟩⟩
theorem xJE (h:okA ps): (ix ps k).c.depth≤16∧(ix ps k).ms.length≤16:=by
 rcases ZH ps k with hm|hm
 ·exact h.2 _ hm
 ·rw[hm];exact⟨by decide,by decide⟩
theorem xrs (h:okA ps):okA (J0 ps k m):=by
 have hi:=xJE (k:=k) h
 unfold J0
 repeat' (first|exact h|(refine xdv h hi.1 ?_;simp<;>omega)|split)
theorem xnm (h:okA ps):okA (YQ ps k):=by
 have hi:=xJE (k:=k) h
 unfold YQ
 repeat' (first|exact h|(refine xdv h hi.1 ?_;simp<;>omega)|split)
end
section
variable {p r:Nat} {ps:List AP} {k:Int} {q i:Bool} {s2 s0:SV} {m:List UInt8} {cs:List Zd}
theorem Z4:Xb prog 235 #[.pointer (some ⟨p,0,none⟩),.int .i64 k,.bool q,.bool i] [X2 p ps]
  fun v l'=>v=.bool (Yu ps k q i)∧l'=[X2 p ps]:=by
 refine Xb.pk fun g hg F K hK=>?_
 obtain⟨rfl,hw⟩:=hg
 refine xa8 ([]++F) K ?_
 rintro v l' ⟨rfl,rfl⟩
 refine Tr.imp ?_ (hK _ _ ⟨by rw[Z3],rfl⟩)
 exact ZJ rfl hw
theorem Zv:Xb prog 234 #[.pointer (some ⟨p,0,none⟩),.int .i64 k] [X2 p ps]
  fun v l'=>v=.int .i64 (Yb ps k)∧l'=[X2 p ps]:=by
 refine Xb.pk fun g hg F K hK=>?_
 obtain⟨rfl,hw⟩:=hg
 refine xpE ([]++F) K ?_
 rintro v l' ⟨rfl,rfl⟩
 refine Tr.imp ?_ (hK _ _ ⟨by rw[xoz],rfl⟩)
 exact ZJ rfl hw
theorem xmJ (hm:m.length≤300):Xb prog 240 #[.pointer (some ⟨p,0,none⟩),.int .i64 k,s2.v] [X2 p ps,sl true s2.v m]
  fun v l'=>v=.int .i64 (YU ps k false m.length)∧l'=[X2 p (Yh ps k false m)]:=by
 refine Xb.pk fun g hg F K hK=>?_
 obtain⟨rfl,hw⟩:=hg
 refine xpH S.o (xjy hw.1 S.o k) F K ?_
 rintro v l' ⟨s3,s4,rfl,rfl⟩
 refine Tr.imp ?_ (hK _ _ ⟨by rw[xfw],rfl⟩)
 exact ZJ (xhX (s:=s3) (m:=⟨s4,m⟩)) (xlX hw hm)
theorem xbN (hm:m.length≤300):Xb prog 181 #[.pointer (some ⟨p,0,none⟩),.int .i64 k,s2.v] [X2 p ps,sl true s2.v m]
  fun v l'=>v=.int .i64 (YU ps k true m.length)∧l'=[X2 p (Yh ps k true m)]:=by
 refine Xb.pk fun g hg F K hK=>?_
 obtain⟨rfl,hw⟩:=hg
 refine xsk S.o (xjy hw.1 S.o k) F K ?_
 rintro v l' ⟨s3,s4,rfl,rfl⟩
 refine Tr.imp ?_ (hK _ _ ⟨by rw[xfw],rfl⟩)
 exact ZJ (xhX (s:=s3) (m:=⟨s4,m⟩)) (xlX hw hm)
theorem xhd:Xb prog 237 #[.pointer (some ⟨p,0,none⟩),.int .i64 k] [X2 p ps]
  fun v l'=>∃t:SV,v=.tuple #[t.v,.int .i64 (Y3 ps k false)]∧l'=[X2 p (Z1 ps k false),Fz.fz (SL.mk t (YS ps k false):Msg)]:=by
 refine Xb.pk fun g hg F K hK=>?_
 obtain⟨rfl,hw⟩:=hg
 refine xpt (xnW hw.1 k) ([]++F) K ?_
 rintro v l' ⟨s3,s4,rfl,rfl⟩
 refine Tr.imp ?_ (hK _ _ ⟨s4,by rw[xiW],rfl⟩)
 exact(by rw[←xhi];exact ZJ (xH4 (s:=s3)) (xpg hw))
theorem xej:Xb prog 183 #[.pointer (some ⟨p,0,none⟩),.int .i64 k] [X2 p ps]
  fun v l'=>∃t:SV,v=.tuple #[t.v,.int .i64 (Y3 ps k true)]∧l'=[X2 p (Z1 ps k true),Fz.fz (SL.mk t (YS ps k true):Msg)]:=by
 refine Xb.pk fun g hg F K hK=>?_
 obtain⟨rfl,hw⟩:=hg
 refine xhg (xnW hw.1 k) ([]++F) K ?_
 rintro v l' ⟨s3,s4,rfl,rfl⟩
 refine Tr.imp ?_ (hK _ _ ⟨s4,by rw[xiW],rfl⟩)
 exact(by rw[←xhi];exact ZJ (xH4 (s:=s3)) (xpg hw))
theorem xjG:Xb prog 265 #[.pointer (some ⟨p,0,none⟩)] [X2 p ps]
  fun v l'=>v=.tuple #[]∧l'=[X2 p (ZN ps)]:=by
 refine Xb.pk fun g hg F K hK=>?_
 obtain⟨rfl,hw⟩:=hg
 refine xmY ([]++F) K ?_
 rintro v l' ⟨gs2,hpt,hco,rfl,rfl⟩
 refine Tr.imp ?_ (hK _ _ ⟨rfl,rfl⟩)
 obtain⟨h1,h2⟩:=xmQ hw.1 hco
 have hd:∀g∈gs2,g.wf 16∧g.depth≤16:=fun x hx=>by
  have hm:x.core∈gs2.map Xg.core:=List.mem_map_of_mem hx
  rw[hco]at hm
  obtain⟨y,hy,he⟩:=List.mem_map.1 hm
  have hdd:x.depth=y.depth:=by have:=congrArg (fun c=>c.2.2.2.1) he;simpa [Xg.core,JJ,Xg.conf]using this.symm
  have hwf:=(xdm (g:=x) (x:=y.conf) he.symm).1
  exact⟨⟨hwf.1,hwf.2.1,by have:=hwf.2.2;omega⟩,by rw[hdd];exact hw.2 y hy⟩
 rw[←hpt]
 exact ZJ h2 ⟨⟨h1.1,fun g hg=>(hd g hg).1⟩,fun g hg=>(hd g hg).2⟩
theorem xod (h:∀c∈cs,c.depth≤16):Xb prog 71 #[s0.v] [sl true s0.v cs]
  fun v l'=>∃p:Nat,v=.pointer (some ⟨p,0,none⟩)∧l'=[X2 p (Wm cs)]:=by
 refine fun F K hK=>xrB F K ?_
 rintro v l' ⟨b,s,gs,h2,rfl,rfl⟩
 refine Tr.imp ?_ (hK _ _ ⟨b,rfl,rfl⟩)
 obtain⟨i1,i2⟩:=xiu h2 (by simp;omega)
 have hd:∀g∈gs,g.wf 16∧g.depth≤16:=fun x hx=>by
  have hm:x.core∈gs.map Xg.core:=List.mem_map_of_mem hx
  rw[h2]at hm
  obtain⟨y,hy,he⟩:=List.mem_map.1 hm
  have hdd:x.depth=y.depth:=by have:=congrArg (fun c=>c.2.2.2.1) he;simpa [Xg.core,JJ]using this.symm
  have hwf:=(xdm (g:=x) (x:=y) he.symm).1
  exact⟨⟨hwf.1,hwf.2.1,by have:=hwf.2.2;omega⟩,by rw[hdd];exact h y (List.mem_of_mem_take hy)⟩
 exact ZJ i2 ⟨⟨i1.1,fun g hg=>(hd g hg).1⟩,fun g hg=>(hd g hg).2⟩
end
structure ObM where
 sems:List xiH
 flags:List Bool
 pools:List xag
 slates:List xDJ
section
variable (ss:List xiH) (fs:List Bool) (ps:List xag) (ls:List xDJ) (k:Int)
def VA:Int:=if inR ss k then(if(ix ss k).2.2<1 then 1 else 0)else 3
def xbI:List xiH:=if inR ss k then(if(ix ss k).2.2<1 then ss else ss.set k.toNat ((ix ss k).1,(ix ss k).2.1,IntKind.i64.wrap ((ix ss k).2.2-1)))else ss
def QO:Int:=if inR ss k then(if(ix ss k).2.1≤(ix ss k).2.2 then 6 else 0)else 3
def QX:List xiH:=if inR ss k then(if(ix ss k).2.1≤(ix ss k).2.2 then ss else ss.set k.toNat ((ix ss k).1,(ix ss k).2.1,IntKind.i64.wrap ((ix ss k).2.2+1)))else ss
def YT:Int:=if inR fs k then 0 else 3
def JS (up:Bool):List Bool:=if inR fs k then fs.set k.toNat up else fs
def upM:Bool:=if inR fs k then ix fs k else false
def Vs (n:Nat):Int:=if inR ps k then(if xa0 n (ix ps k).1 then(if(ix ps k).2.1≤(ix ps k).2.2.length then 1 else 0)else 2)else 3
def xbK (m:List UInt8):List xag:=if Vs ps k m.length=0 then ps.set k.toNat ((ix ps k).1,(ix ps k).2.1,(ix ps k).2.2++[m])else ps
def Jy:Int:=if inR ps k then(if((ix ps k).2.2.length:Int)=0 then 1 else 0)else 3
def Wg:List UInt8:=if Jy ps k=0 then ix (ix ps k).2.2 0 else[]
def xap:List xag:=if Jy ps k=0 then ps.set k.toNat ((ix ps k).1,(ix ps k).2.1,(ix ps k).2.2.drop 1)else ps
def Qq (n:Nat):Int:=if inR ls k then(if xa0 n (ix ls k).1 then 0 else 2)else 3
def QC (m:List UInt8):List xDJ:=if Qq ls k m.length=0 then ls.set k.toNat ((ix ls k).1,some m)else ls
def WJ:Int:=if inR ls k then(if(ix ls k).2.isSome then 0 else 1)else 3
def WI:List UInt8:=if WJ ls k=0 then(ix ls k).2.getD []else[]
def QM:Int:=if inR ls k then 0 else 3
def Wj:List xDJ:=if inR ls k then ls.set k.toNat ((ix ls k).1,none)else ls
def J4 (p:Int):Int:=if 0≤k then(if inR ls k then(ix ls k).1 else 0)else(if inR ps p then(ix ps p).1 else 0)
end
theorem Z6 {α β:Type} {f:α→β} {xs:List α} {k:Int}:inR (xs.map f) k=inR xs k:=by unfold inR;rw[List.length_map]
theorem ixR {α β:Type} [Inhabited α] [Inhabited β] {f:α→β} {xs:List α} {k:Int} (h:inR xs k):ix (xs.map f) k=f (ix xs k):=Xp h.1 h.2
section
variable {gS:List XL} {gF:List Xr} {gP:List Xu} {gL:List Xi} {k:Int} {s1:SV} {m:Msg} {n:Nat} {up:Bool}
theorem xdC:xbD gS k=VA (gS.map XL.mo) k∧(V1 gS k).map XL.mo=xbI (gS.map XL.mo) k:=by
 unfold xbD V1 VA xbI
 simp only[Z6]
 by_cases h:inR gS k
 ·simp only[h,if_true,ixR h]
  refine⟨rfl,?_⟩
  show List.map XL.mo (if(ix gS k).count<1 then _ else _)=(if(ix gS k).count<1 then _ else _)
  split
  ·rfl
  ·exact List.map_set
 ·simp only[h,if_false,and_self]
theorem xdk:xbx gS k=QO (gS.map XL.mo) k∧(VZ gS k).map XL.mo=QX (gS.map XL.mo) k:=by
 unfold xbx VZ QO QX
 simp only[Z6]
 by_cases h:inR gS k
 ·simp only[h,if_true,ixR h]
  refine⟨rfl,?_⟩
  show List.map XL.mo (if(ix gS k).most≤(ix gS k).count then _ else _)=(if(ix gS k).most≤(ix gS k).count then _ else _)
  split
  ·rfl
  ·exact List.map_set
 ·simp only[h,if_false,and_self]
theorem Wx:VC gF k=YT (gF.map Xr.mo) k∧(W0 gF k up).map Xr.mo=JS (gF.map Xr.mo) k up∧upB gF k=upM (gF.map Xr.mo) k:=by
 unfold VC W0 YT JS upB upM
 simp only[Z6]
 by_cases h:inR gF k
 ·simp only[h,if_true,ixR h]
  exact⟨trivial,List.map_set,rfl⟩
 ·simp only[h,if_false,and_self]
theorem xdA:Qt gP k n=Vs (gP.map Xu.mo) k n:=by
 unfold Qt Vs
 simp only[Z6]
 by_cases h:inR gP k
 ·simp only[h,if_true,ixR h]
  simp only[Xu.mo,List.length_map]
 ·simp only[h,if_false]
theorem xsH (h:Qt gP k n=0):inR gP k:=by
 unfold Qt at h
 split at h
 ·assumption
 ·cases h
theorem xjs: (QS gP k s1 m).map Xu.mo=xbK (gP.map Xu.mo) k m.d:=by
 unfold QS xbK
 rw[xdA]
 split
 ·rename_i h
  rw[←xdA]at h
  rw[ixR (xsH h),List.map_set]
  congr 1
  simp[Xu.mo]
 ·rfl
theorem xdl:Wn gP k=Jy (gP.map Xu.mo) k:=by
 unfold Wn Jy
 simp only[Z6]
 by_cases h:inR gP k
 ·simp only[h,if_true,ixR h]
  simp only[Xu.mo,List.length_map]
 ·simp only[h,if_false]
theorem xta (h:Wn gP k=0):inR gP k∧0<(ix gP k).ms.length:=by
 unfold Wn at h
 split at h
 ·rename_i hr
  refine⟨hr,?_⟩
  split at h
  ·cases h
  ·omega
 ·cases h
theorem xgG: (xaK gP k s1).map Xu.mo=xap (gP.map Xu.mo) k∧(W1 gP k).d=Wg (gP.map Xu.mo) k:=by
 unfold xaK xap W1 Wg
 rw[xdl]
 split
 ·rename_i h
  rw[←xdl]at h
  obtain⟨h1,h2⟩:=xta h
  rw[ixR h1,List.map_set]
  refine⟨?_,?_⟩
  ·congr 1
   simp[Xu.mo]
  ·exact(Xp (f:=SL.d) S.o S.o).symm
 ·exact⟨rfl,rfl⟩
theorem xca:Vl gL k n=Qq (gL.map Xi.mo) k n:=by
 unfold Vl Qq
 simp only[Z6]
 by_cases h:inR gL k
 ·simp only[h,if_true,ixR h];rfl
 ·simp only[h,if_false]
theorem xol (h:Vl gL k n=0):inR gL k:=by
 unfold Vl at h
 split at h
 ·assumption
 ·cases h
theorem xmv: (Vm gL k m).map Xi.mo=QC (gL.map Xi.mo) k m.d:=by
 unfold Vm QC
 rw[xca]
 split
 ·rename_i h
  rw[←xca]at h
  rw[ixR (xol h),List.map_set]
  congr 1
 ·rfl
theorem xak:ZZ gL k=WJ (gL.map Xi.mo) k:=by
 unfold ZZ WJ
 simp only[Z6]
 by_cases h:inR gL k
 ·simp only[h,if_true,ixR h]
  simp only[Xi.mo]
  by_cases hs: (ix gL k).shown=true<;>simp[hs]
 ·simp only[h,if_false]
theorem xlB:Jz gL k=WI (gL.map Xi.mo) k:=by
 unfold Jz WI
 rw[xak]
 split
 ·rename_i h
  rw[←xak]at h
  unfold ZZ at h
  split at h
  ·rename_i hr
   rw[ixR hr]
   simp only[Xi.mo]
   by_cases hs: (ix gL k).shown=true
   ·simp[hs]
   ·rw[if_neg hs]at h;cases h
  ·cases h
 ·rfl
theorem xda:xcT gL k=QM (gL.map Xi.mo) k∧(V2 gL k).map Xi.mo=Wj (gL.map Xi.mo) k:=by
 unfold xcT V2 QM Wj
 simp only[Z6]
 by_cases h:inR gL k
 ·simp only[h,if_true,ixR h]
  exact⟨trivial,List.map_set⟩
 ·simp only[h,if_false,and_self]
theorem xsE {p:Int}:xeB gP gL p k=J4 (gP.map Xu.mo) (gL.map Xi.mo) k p:=by
 unfold xeB J4
 simp only[Z6]
 split
 ·by_cases h:inR gL k
  ·simp only[h,if_true,ixR h];rfl
  ·simp only[h,if_false]
 ·by_cases h:inR gP p
  ·simp only[h,if_true,ixR h];rfl
  ·simp only[h,if_false]
