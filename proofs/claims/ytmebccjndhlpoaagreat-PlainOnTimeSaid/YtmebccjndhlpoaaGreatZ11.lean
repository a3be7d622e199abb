import Derived.Test.YtmebccjndhlpoaaGreatZ10
namespace Go.Proofs.YtmebccjndhlpoaaGreat
open Go Go.Wk Tryz
set_option maxHeartbeats 3200000
set_option maxRecDepth 100000
structure xBL where
 b:Nat
 bud:Int
 cyc:Int
instance xNG:Inhabited xBL:=⟨⟨0,0,0⟩⟩
def xBL.pt (g:xBL):Pt:=⟨some g.b⟩
instance xNB:ElT 159 Pt:=⟨⟩
abbrev xIq (q:Int) (pw:xDC) (g:xBL):Xc:=blk g.b (.cells #[.int .i64 g.bud,.int .i64 q,pw.levels.v,pw.naps.v,.int .i64 pw.sw,.int .i64 pw.idle,.int .i64 pw.change,.int .i64 pw.quantum,.int .i64 pw.slow,.int .i64 pw.ppm,.int .i64 g.cyc] 166 (0,0))
def xCR (q:Int) (pw:xDC) (g:xBL):Xc:=xIq q pw g
theorem xCV {q:Int} {pw:xDC} {g:xBL} {l:List Xc} {X:WP} (h:Tr (xIq q pw g::l) X):Tr (xCR q pw g::l) X:=h
abbrev xFd (p:Nat) (s:SV):Xc:=blk p (.cells #[s.v,.bool true] 161 (0,0))
abbrev xEJ (p:Nat) (s:SV) (q:Int) (pw:xDC) (gs:List xBL):List Xc:=[xFd p s,sl false s.v (gs.map xBL.pt),fam (xCR q pw) gs]
def xBS (ls:List xBH) (bud q cyc want:Int):Int:=if want<1∨bud≤(xBI ls cyc).1 then 0 else if q<want then q else want
def xCk (ls:List xBH) (cyc n:Int):Int:=if n<0 then cyc else if 1099511627776-cyc<n then cyc else if(xBI ls (cyc+n)).2=0 then cyc+n else cyc
theorem xDt {α γ:Type} [Inhabited α] {f:α→γ} {xs:List α} {k:Int} {y:α} (h0:0≤k) (h1:k<xs.length) (h:f y=f (ix xs k)): (xs.set k.toNat y).map f=xs.map f:=by
 rw[List.map_set,h]
 have e:f (ix xs k)=(xs.map f)[k.toNat]'(by simp;omega):=by simp[ix,show k.toNat<xs.length by omega]
 rw[e];exact List.set_getElem_self _
theorem xHq {α:Type} [Inhabited α] {xs:List α} {k:Int} (h0:0≤k) (h1:k<xs.length):xs.set k.toNat (ix xs k)=xs:=by
 have h:k.toNat<xs.length:=by omega
 have e:ix xs k=xs[k.toNat]:=by simp[ix,h]
 rw[e];exact List.set_getElem_self h
section
attribute [local irreducible] BrK Xq Xt Xv XI FnK XZ Xw XC XV opX opK Yq Yk eqR Yj Yo Ys WL WD W X3 XO Tr drewK Ya X4 Yw Yv X1 YB mp blk rob sl sep ex fact old
section
attribute [local irreducible] xs2 inB xB0 xB9 xBI
section
variable {p:Nat} {s:SV} {q:Int} {pw:xDC} {gs:List xBL} {g:xBL} {ls:List xBH} {part n:Int}
theorem xGn (hl:ls.length≤1000000000) (ht:okT ls) (hc:g.cyc≤9223372036854775807):Xb prog 90 #[.pointer (some ⟨g.b,0,none⟩)] [xIq q pw g,sl true pw.levels.v ls]
  fun v l'=>v=.int .i64 (xBI ls g.cyc).1∧l'=[xIq q pw g]:=by
 intro F K hK
 simp only[ap]
 have hco:=xHC (u0:=.agg (En.enc pw).toArray) (p:=pw) hl ht hc
 generalize xBI ls g.cyc=w at*
 refine S.I fun u=>?_
 have hX:=@xv8.eq_def;repeat' (first|rintro _ _ ⟨rfl,rfl⟩|(refine G.call 132 ?_;refine S.c ?_ (h:=hco))|refine S.x ?_|fail)
 all_goals exact Tr.fin hK ⟨rfl,rfl⟩ S.E
theorem xK5 (hl:ls.length≤1000000000) (ht:okT ls) (hc:g.cyc≤9223372036854775807):Xb prog 128 #[.pointer (some ⟨g.b,0,none⟩)] [xIq q pw g,sl true pw.levels.v ls]
  fun v l'=>v=.bool (decide (g.bud≤(xBI ls g.cyc).1))∧l'=[xIq q pw g]:=by
 intro F K hK
 simp only[ap]
 have hu:=xGn (q:=q) (pw:=pw) hl ht hc
 refine S.I fun u=>?_
 have hX:=@xo7.eq_def;repeat' (first|rintro _ _ ⟨rfl,rfl⟩|(refine G.call 90 ?_;refine S.c ?_ (h:=hu))|refine S.x ?_|fail)
 all_goals exact Tr.fin hK ⟨rfl,rfl⟩ S.E
theorem xCX:Xb prog 81 #[.pointer (some ⟨p,0,none⟩)] [xFd p s] fun v l'=>v=.bool false∧l'=[xFd p s]:=by
 intro F K hK
 simp only[ap]
 refine S.I fun u=>?_
 repeat' (first|refine S.x ?_|fail)
 all_goals exact Tr.fin hK ⟨rfl,rfl⟩ S.E
theorem xDN (h0:0≤part) (h1:part<gs.length):Xb prog 127 #[.pointer (some ⟨p,0,none⟩),.int .i64 part] [xFd p s,sl false s.v (gs.map xBL.pt)]
  fun v l'=>v=.pointer (some ⟨(ix gs part).b,0,none⟩)∧l'=[xFd p s,sl false s.v (gs.map xBL.pt)]:=by
 intro F K hK
 simp only[ap]
 have hlm: (gs.map xBL.pt).length=gs.length:=List.length_map _
 have hp:ix (gs.map xBL.pt) part=⟨some (ix gs part).b⟩:=Xp (f:=xBL.pt) h0 h1
 refine S.I fun u=>?_
 have hX:=And.intro hlm hp;repeat' (first|refine S.x ?_|(refine G.call 81 ?_;refine S.c ?_ (h:=xCX))|rintro _ _ ⟨rfl,rfl⟩|intro hb|fail)
 all_goals exact Tr.fin hK ⟨rfl,rfl⟩ S.E
theorem xIZ (h0:0≤part) (h1:part<gs.length) (hl:ls.length≤1000000000) (ht:okT ls) (hc: (ix gs part).cyc≤9223372036854775807):Xb prog 83 #[.pointer (some ⟨p,0,none⟩),.int .i64 part,.int .i64 n] (sl true pw.levels.v ls::xEJ p s q pw gs)
  fun v l'=>v=.int .i64 (xBS ls (ix gs part).bud q (ix gs part).cyc n)∧l'=xEJ p s q pw gs:=by
 intro F K hK
 simp only[ap]at hK⊢
 unfold xBS at hK
 refine Tr.famAt (A:=xCR q pw) part S.K h0 h1 (xCV ?_)
 have ho:=xK5 (q:=q) (pw:=pw) hl ht hc
 generalize xBI ls (ix gs part).cyc=w at*
 refine S.I fun u=>?_
 repeat' (first|rintro _ _ ⟨rfl,rfl⟩|(refine G.call 128 ?_;refine S.c ?_ (h:=ho))|refine S.x ?_|refine S.y ?_ ?_|(refine G.call 127 ?_;refine S.c ?_ (h:=xDN ‹_› ‹_›))|intro hb|fail)
 all_goals
  refine Tr.fin hK ⟨S.v,rfl⟩ ?_
  have hX:=@xCR.eq_def
  exact S.E
theorem xI2 (h0:0≤part) (h1:part<gs.length) (hl:ls.length≤1000000000) (ht:okT ls) (hc0:0≤(ix gs part).cyc) (hc: (ix gs part).cyc≤1099511627776):Xb prog 85 #[.pointer (some ⟨p,0,none⟩),.int .i64 part,.int .i64 n] (sl true pw.levels.v ls::xEJ p s q pw gs)
  fun v l'=>∃e,v=.int .i64 e∧l'=xEJ p s q pw (gs.set part.toNat {ix gs part with cyc:=xCk ls (ix gs part).cyc n}):=by
 intro F K hK
 simp only[ap]at hK⊢
 have hcl: (ix gs part).cyc≤9223372036854775807:=by omega
 have hsame:gs.set part.toNat {ix gs part with cyc:=(ix gs part).cyc}=gs:=xHq h0 h1
 have hw1:IntKind.i64.wrap (1099511627776-(ix gs part).cyc)=1099511627776-(ix gs part).cyc:=Ye S.o S.o
 by_cases hn:n<0
 ·rw[show xCk ls (ix gs part).cyc n=(ix gs part).cyc from if_pos hn,hsame]at hK
  clear hsame
  refine S.I fun u=>?_
  have hX:=@xJk.eq_def;repeat' (first|refine S.x ?_|(refine G.call 127 ?_;refine S.c ?_ (h:=xDN ‹_› ‹_›))|(refine G.call 81 ?_;refine S.c ?_ (h:=xCX))|rintro _ _ ⟨rfl,rfl⟩|fail)
  all_goals exact Tr.fin hK ⟨_,rfl,rfl⟩ S.E
 ·by_cases hm:1099511627776-(ix gs part).cyc<n
  ·rw[show xCk ls (ix gs part).cyc n=(ix gs part).cyc by unfold xCk;rw[if_neg hn,if_pos hm],hsame]at hK
   clear hsame
   refine Tr.famAt (A:=xCR q pw) part S.K h0 h1 (xCV ?_)
   refine S.I fun u=>?_
   have hX:=And.intro @xJk.eq_def hw1;repeat' (first|refine S.x ?_|(refine G.call 127 ?_;refine S.c ?_ (h:=xDN ‹_› ‹_›))|(refine G.call 81 ?_;refine S.c ?_ (h:=xCX))|rintro _ _ ⟨rfl,rfl⟩|fail)
   all_goals
    refine Tr.fin hK ⟨_,rfl,rfl⟩ ?_
    have hX:=@xCR.eq_def
    exact S.E
  ·have hw2:IntKind.i64.wrap ((ix gs part).cyc+n)=(ix gs part).cyc+n:=Ye S.o S.o
   have hco:=xHC (u0:=.agg (En.enc pw).toArray) (p:=pw) (n:=(ix gs part).cyc+n) hl ht S.o
   by_cases he: (xBI ls ((ix gs part).cyc+n)).2=0
   ·rw[show xCk ls (ix gs part).cyc n=(ix gs part).cyc+n by unfold xCk;rw[if_neg hn,if_neg hm,if_pos he]]at hK
    clear hsame
    refine Tr.famAt (A:=xCR q pw) part S.K h0 h1 (xCV ?_)
    refine S.I fun u=>?_
    have hX:=I4 @xJk.eq_def hw1 hw2 he;repeat' (first|rintro _ _ ⟨rfl,rfl⟩|(refine G.call 132 ?_;refine S.c ?_ (h:=hco))|refine S.x ?_|(refine G.call 127 ?_;refine S.c ?_ (h:=xDN ‹_› ‹_›))|(refine G.call 81 ?_;refine S.c ?_ (h:=xCX))|fail)
    all_goals
     refine Tr.fin hK ⟨_,rfl,rfl⟩ ?_
     have hpt: (gs.set part.toNat {ix gs part with cyc:=(ix gs part).cyc+n}).map xBL.pt=gs.map xBL.pt:=xDt h0 h1 rfl
     have hX:=And.intro hpt @xCR.eq_def
     exact S.E
   ·rw[show xCk ls (ix gs part).cyc n=(ix gs part).cyc by unfold xCk;rw[if_neg hn,if_neg hm,if_neg he],hsame]at hK
    clear hsame
    refine Tr.famAt (A:=xCR q pw) part S.K h0 h1 (xCV ?_)
    refine S.I fun u=>?_
    have hX:=I3 @xJk.eq_def hw1 hw2;repeat' (first|rintro _ _ ⟨rfl,rfl⟩|(refine G.call 132 ?_;refine S.c ?_ (h:=hco))|refine S.x ?_|(refine G.call 127 ?_;refine S.c ?_ (h:=xDN ‹_› ‹_›))|(refine G.call 81 ?_;refine S.c ?_ (h:=xCX))|fail)
    all_goals
     refine Tr.fin hK ⟨_,rfl,rfl⟩ ?_
     have hX:=@xCR.eq_def
     exact S.E
def xDo (gs:List xBL) (k:Nat):List xBL:=(gs.take k).map (fun g=>{g with cyc:=0})++gs.drop k
theorem xFu {k:Nat}: (xDo gs k).length=gs.length:=by
 unfold xDo
 rw[List.length_append,List.length_map,←List.length_append,List.take_append_drop]
theorem xGP {k:Nat} (h:k<gs.length):xDo gs (k+1)=(xDo gs k).set k {ix (xDo gs k) (k:Int)with cyc:=0}∧ix (xDo gs k) (k:Int)=ix gs (k:Int):=by
 have e:ix (xDo gs k) (k:Int)=ix gs (k:Int):=by
  unfold ix xDo
  simp[List.getElem?_append,h,Nat.min_eq_left (Nat.le_of_lt h)]
 refine⟨?_,e⟩
 rw[e]
 unfold xDo
 have hd:gs.drop k=ix gs (k:Int)::gs.drop (k+1):=by rw[List.drop_eq_getElem_cons h];simp[ix,h]
 rw[Yz h,List.map_append,hd,List.set_append_right _ _ (by simp[Nat.min_eq_left (Nat.le_of_lt h)])]
 simp[Nat.min_eq_left (Nat.le_of_lt h)]
theorem xHg:Xb prog 44 #[.pointer (some ⟨p,0,none⟩)] (xEJ p s q pw gs)
  fun v l'=>v=.tuple #[]∧l'=xEJ p s q pw (gs.map fun g=>{g with cyc:=0}):=by
 intro F K hK
 simp only[ap]at hK⊢
 have hlm: (gs.map xBL.pt).length=gs.length:=List.length_map _
 refine Tr.bound (ro:=false) (v:=s.v) (xs:=gs.map xBL.pt) (by(repeat (first|exact Has.here|apply Has.next));done) fun hbd=>?_
 refine S.I fun u=>?_
 have hX:=hlm;repeat' (first|refine S.x ?_|(refine G.call 81 ?_;refine S.c ?_ (h:=xCX))|rintro _ _ ⟨rfl,rfl⟩|fail)
 refine Tr.loopE (α:=Nat) [11] [9,10] (fun x=>[.int .i64 x]) (fun x=>[xFd p s,sl false s.v (gs.map xBL.pt),fam (xCR q pw) (xDo gs x)]) (fun x=>x≤gs.length) (fun x=>gs.length-x) 0 S.T rfl (Nat.zero_le _) fun k u hk=>?_
 simp only[ap]
 by_cases hin:k<gs.length
 ·have hw:=Xo (k:=k) S.o
  obtain⟨hst,hix⟩:=xGP hin
  have hp:ix (gs.map xBL.pt) (k:Int)=⟨some (ix gs (k:Int)).b⟩:=Xp (f:=xBL.pt) S.o S.o
  refine Tr.famAt (A:=xCR q pw) (xs:=xDo gs k) (k:Int) S.K S.o (by rw[xFu];omega) (xCV ?_)
  have hfl:=xFu (gs:=gs) (k:=k)
  rw[hix]at hst⊢
  have hX:=I3 hw hlm hp;repeat' (first|refine S.x ?_|intro hb|fail)
  all_goals
   have hX:=And.intro hst @xCR.eq_def
   exact S.R (k+1)
 ·have hke:k=gs.length:=by omega
  subst hke
  have hfin:xDo gs gs.length=gs.map fun g=>{g with cyc:=0}:=by unfold xDo;rw[List.take_length,List.drop_length,List.append_nil]
  rw[hfin]
  have hX:=hlm;repeat' (first|refine S.x ?_|fail)
  all_goals
   refine Tr.fin hK ⟨rfl,rfl⟩ ?_
   have hX: (gs.map fun g=>({g with cyc:=0}:xBL)).map xBL.pt=gs.map xBL.pt:=by rw[List.map_map];rfl
   exact S.E
def xC8 (ls:List xBH) (gs:List xBL):List Int:=gs.map fun g=>(xBI ls g.cyc).1
theorem xLW (hgl:gs.length≤1000000) (hl:ls.length≤1000000000) (ht:okT ls) (hc:∀g∈gs,g.cyc≤9223372036854775807):Xb prog 48 #[.pointer (some ⟨p,0,none⟩)] (sl true pw.levels.v ls::xEJ p s q pw gs)
  fun v l'=>∃s2:SV,v=s2.v∧l'=sl false s2.v (xC8 ls gs)::xEJ p s q pw gs:=by
 intro F K hK
 simp only[ap]at hK⊢
 have hlm: (gs.map xBL.pt).length=gs.length:=List.length_map _
 refine Tr.bound (ro:=false) (v:=s.v) (xs:=gs.map xBL.pt) (by(repeat (first|exact Has.here|apply Has.next));done) fun hbd=>?_
 refine S.I fun u=>?_
 have hX:=hlm;repeat' (first|refine S.x ?_|(refine G.call 81 ?_;refine S.c ?_ (h:=xCX))|rintro _ _ ⟨rfl,rfl⟩|fail)
 refine Tr.nilSl (α:=Int) ?_
 refine Tr.loopE (α:=Nat×SV) [3,13] [2,11,12] (fun x=>[x.2.v,.int .i64 x.1]) (fun x=>[sl false x.2.v (xC8 ls (gs.take x.1)),xFd p s,sl false s.v (gs.map xBL.pt),fam (xCR q pw) gs]) (fun x=>x.1≤gs.length) (fun x=>gs.length-x.1) (0,⟨none,0,0⟩) S.T rfl (Nat.zero_le _) fun x u hk=>?_
 obtain⟨k,s2⟩:=x
 simp only at hk⊢
 simp only[ap]
 by_cases hin:k<gs.length
 ·have hw:=Xo (k:=k) S.o
  have hp:ix (gs.map xBL.pt) (k:Int)=⟨some (ix gs (k:Int)).b⟩:=Xp (f:=xBL.pt) S.o S.o
  have hst:xC8 ls (gs.take (k+1))=xC8 ls (gs.take k)++[(xBI ls (ix gs (k:Int)).cyc).1]:=by unfold xC8;rw[Yz hin,List.map_append];rfl
  have hln: (xC8 ls (gs.take k)).length=k:=by unfold xC8;rw[List.length_map,List.length_take];omega
  have hu:=xGn (q:=q) (pw:=pw) (g:=ix gs (k:Int)) hl ht (hc _ (xCa hin))
  refine Tr.famAt (A:=xCR q pw) (k:Int) S.K S.o S.o (xCV ?_)
  have hX:=I3 hw hlm hp;repeat' (first|rintro _ _ ⟨rfl,rfl⟩|(refine G.call 90 ?_;refine S.c ?_ (h:=hu))|intro(sv:SV)|refine S.x ?_|intro hb|fail)
  all_goals
   have hX:=And.intro hst @xCR.eq_def
   exact S.R ((k+1,sv):Nat×SV)
 ·have hke:k=gs.length:=by omega
  subst hke
  rw[List.take_length]
  have hX:=hlm;repeat' (first|refine S.x ?_|fail)
  all_goals exact Tr.fin hK ⟨s2,rfl,rfl⟩ S.E
end
end
section
def qM (n:Int):Int:=if 1<n then n else 1
def isM (ladder level:Int):Bool:=decide (0<ladder)&&decide (ladder≤level)
def xHz (down up:List Int) (level r:Int):Int:=
 if 0≤level∧level<down.length∧r<ix down level then IntKind.i64.wrap (level+1)
 else if 1≤level∧level≤up.length∧ix up (level-1)≤r then IntKind.i64.wrap (level-1)else level
attribute [local irreducible] xs2 inB xB0 xB9 xBI
section
variable {c:xBG}
theorem xLn (hs:shC c):Xb prog 40 #[.agg (En.enc c).toArray] [sl true c.parts.s.v c.parts.d]
  fun v l'=>∃(p:Nat) (s:SV) (gs:List xBL),gs.map xBL.bud=c.parts.d.map YF.budget∧(∀g∈gs,g.cyc=0)∧v=.pointer (some ⟨p,0,none⟩)∧l'=xEJ p s (qM c.quantum) c.pow gs:=by
 intro F K hK
 simp only[ap]
 have hpl:=hs.p
 refine S.I fun u=>?_
 have hX:=@xLf.eq_def;repeat' (first|intro(pb:Nat)|refine S.x ?_|fail)
 rename_i cb
 refine Tr.nilSl (α:=Pt) ?_
 refine Tr.loopE (α:=Nat×SV×List xBL) [11] [1,2,3,9,10] (fun x=>[.int .i64 x.1]) (fun x=>[xFd pb x.2.1,sl false x.2.1.v (x.2.2.map xBL.pt),fam (xCR (qM c.quantum) c.pow) x.2.2,cfB cb c,sl true c.parts.s.v c.parts.d]) (fun x=>x.1≤c.parts.d.length∧x.2.2.map xBL.bud=(c.parts.d.take x.1).map YF.budget∧∀g∈x.2.2,g.cyc=0) (fun x=>c.parts.d.length-x.1) (0,⟨none,0,0⟩,[]) S.T rfl ⟨Nat.zero_le _,rfl,fun _ h=>by cases h⟩ fun x u hx=>?_
 obtain⟨k,s,gs⟩:=x
 obtain⟨hk,hb0,hz⟩:=hx
 simp only at hk hb0 hz⊢
 simp only[ap]
 have hgl:gs.length=k:=by have:=congrArg List.length hb0;rw[List.length_map,List.length_map,List.length_take]at this;omega
 have hlm: (gs.map xBL.pt).length=k:=by rw[List.length_map];exact hgl
 by_cases hin:k<c.parts.d.length
 ·have hw:=Xo (k:=k) S.o
  have hq: (if(1:Int)<c.quantum then c.quantum else 1)=qM c.quantum:=rfl
  have hX:=I4 @xLf.eq_def hw hlm hq;repeat' (first|intro(nb:Nat)|intro(sv:SV)|refine S.x ?_|intro hb|fail)
  all_goals
   have hY:ZM [Value.int IntKind.i64 (ix c.parts.d (k:Int)).budget,.int .i64 (qM c.quantum),.slice none 0 0,.slice none 0 0,.int .i64 0,.int .i64 0,.int .i64 0,.int .i64 0,.int .i64 0,.int .i64 0,.int .i64 0] 2 (List.take 8 (List.drop 3 (En.enc c)))=[.int .i64 (ix c.parts.d (k:Int)).budget,.int .i64 (qM c.quantum),c.pow.levels.v,c.pow.naps.v,.int .i64 c.pow.sw,.int .i64 c.pow.idle,.int .i64 c.pow.change,.int .i64 c.pow.quantum,.int .i64 c.pow.slow,.int .i64 c.pow.ppm,.int .i64 0]:=rfl
   have hpt: (gs++[(⟨nb,(ix c.parts.d (k:Int)).budget,0⟩:xBL)]).map xBL.pt=gs.map xBL.pt++[⟨some nb⟩]:=by rw[List.map_append];rfl
   have hbu: (gs++[(⟨nb,(ix c.parts.d (k:Int)).budget,0⟩:xBL)]).map xBL.bud=(c.parts.d.take (k+1)).map YF.budget:=by rw[Yz hin,List.map_append,List.map_append,hb0];rfl
   have hz':∀g∈gs++[(⟨nb,(ix c.parts.d (k:Int)).budget,0⟩:xBL)],g.cyc=0:=by
    intro g hg
    rcases List.mem_append.1 hg with h|h
    ·exact hz g h
    ·rw[List.mem_singleton.1 h]
   have hX:=I3 hpt hY @xCR.eq_def
   exact S.R ((k+1,sv,gs++[⟨nb,(ix c.parts.d (k:Int)).budget,0⟩]):Nat×SV×List xBL)
 ·have hke:k=c.parts.d.length:=by omega
  rw[hke,List.take_length]at hb0
  have hX:=And.intro @xLf.eq_def hke;repeat' (first|refine S.x ?_|fail)
  all_goals exact Tr.fin hK ⟨pb,s,gs,hb0,hz,rfl,rfl⟩ S.E
variable {m:Nat} {sd su:SV} {down up:List Int} {level r ladder:Int}
theorem xLR:Xb prog 46 #[.int .i64 ladder,.int .i64 level] [] fun v l'=>v=.bool (isM ladder level)∧l'=[]:=by
 intro F K hK
 simp only[List.nil_append]
 refine S.I fun u=>?_
 repeat' (first|refine S.x ?_|refine S.y ?_ ?_|intro hb|fail)
 all_goals
  refine Tr.fin hK ⟨?_,rfl⟩ S.E
  (simp_all [isM])<;>omega
theorem xGT (_hl:down.length≤1000000000):Xb prog 211 #[.pointer (some ⟨m,0,none⟩),.int .i64 r] [blk m (.cells #[sd.v,su.v,.int .i64 level] 332 (0,0)),sl true sd.v down]
  fun v l'=>v=.bool (decide (0≤level∧level<down.length∧r<ix down level))∧l'=[blk m (.cells #[sd.v,su.v,.int .i64 level] 332 (0,0))]:=by
 intro F K hK
 simp only[ap]
 refine S.I fun u=>?_
 have hX:=@xk4.eq_def;repeat' (first|refine S.x ?_|refine S.y ?_ ?_|intro hb|fail)
 all_goals
  refine Tr.fin hK ⟨?_,rfl⟩ S.E
  simp_all<;>omega
theorem xGX (hl:up.length≤1000000000):Xb prog 212 #[.pointer (some ⟨m,0,none⟩),.int .i64 r] [blk m (.cells #[sd.v,su.v,.int .i64 level] 332 (0,0)),sl true su.v up]
  fun v l'=>v=.bool (decide (1≤level∧level≤up.length∧ix up (level-1)≤r))∧l'=[blk m (.cells #[sd.v,su.v,.int .i64 level] 332 (0,0))]:=by
 intro F K hK
 simp only[ap]
 by_cases h1:1≤level∧level≤up.length
 ·have hw:=Ye (n:=level-1) S.o S.o
  refine S.I fun u=>?_
  have hX:=And.intro @xld.eq_def hw;repeat' (first|refine S.x ?_|intro hb|fail)
  all_goals
   refine Tr.fin hK ⟨?_,rfl⟩ S.E
   simp_all<;>omega
 ·refine S.I fun u=>?_
  have hX:=@xld.eq_def;repeat' (first|refine S.x ?_|refine S.y ?_ ?_|intro hb|fail)
  all_goals
   refine Tr.fin hK ⟨?_,rfl⟩ S.E
   simp_all<;>omega
theorem xIQ (hd:down.length≤1000000000) (hu:up.length≤1000000000):Xb prog 176 #[.pointer (some ⟨m,0,none⟩),.int .i64 r] [blk m (.cells #[sd.v,su.v,.int .i64 level] 332 (0,0)),sl true sd.v down,sl true su.v up]
  fun v l'=>v=.int .i64 (xHz down up level r)∧l'=[]:=by
 intro F K hK
 simp only[ap]
 unfold xHz at hK
 refine S.I fun u=>?_
 repeat' (first|refine S.x ?_|refine S.y ?_ ?_|(refine G.call 211 ?_;refine S.c ?_ (h:=xGT ‹_›))|(refine G.call 212 ?_;refine S.c ?_ (h:=xGX ‹_›))|rintro _ _ ⟨rfl,rfl⟩|intro hb|fail)
 all_goals exact Tr.fin hK ⟨S.v,rfl⟩ S.E
theorem xIJ (hd:down.length≤1000000000) (hu:up.length≤1000000000):Xb prog 119 #[.agg #[sd.v,su.v],.int .i64 level,.int .i64 r] [sl true sd.v down,sl true su.v up]
  fun v l'=>v=.int .i64 (xHz down up level r)∧l'=[]:=by
 intro F K hK
 simp only[ap]
 refine S.I fun u=>?_
 repeat' (first|refine S.x ?_|(refine G.call 176 ?_;refine S.c ?_ (h:=xIQ ‹_› ‹_›))|rintro _ _ ⟨rfl,rfl⟩|intro hb|fail)
 all_goals exact Tr.fin hK ⟨rfl,rfl⟩ S.E
end
end
end
structure xBR where
 reading:Int
 mode:Int
 drift:Int
 choice:Int
instance:Inhabited xBR:=⟨⟨0,0,0,0⟩⟩
instance:En xBR:=⟨fun d=>[.int .i64 d.reading,.int .i64 d.mode,.int .i64 d.drift,.int .i64 d.choice],4,fun _=>rfl,fun _=>rfl,by decide⟩
instance xNe:ElT 35 xBR:=⟨⟩
structure xCe where
 part:Int
 frm:Int
 to:Int
instance:Inhabited xCe:=⟨⟨0,0,0⟩⟩
instance:En xCe:=⟨fun d=>[.int .i64 d.part,.int .i64 d.frm,.int .i64 d.to],3,fun _=>rfl,fun _=>rfl,by decide⟩
instance {l:List Xc} {a b c:Int}:De l (.agg #[.int .i64 a,.int .i64 b,.int .i64 c]) (xCe.mk a b c):=⟨rfl⟩
instance xNp:ElT 131 xCe:=⟨⟩
structure xBV where
 at_:Int
 stop:Int
 mode:Int
 level:Int
instance:Inhabited xBV:=⟨⟨0,0,0,0⟩⟩
instance:En xBV:=⟨fun d=>[.int .i64 d.at_,.int .i64 d.stop,.int .i64 d.mode,.int .i64 d.level],4,fun _=>rfl,fun _=>rfl,by decide⟩
instance {l:List Xc} {a b c d:Int}:De l (.agg #[.int .i64 a,.int .i64 b,.int .i64 c,.int .i64 d]) (xBV.mk a b c d):=⟨rfl⟩
instance xNu:ElT 86 xBV:=⟨⟩
def xEE (t:Int) (w:xCA):xCe:=⟨w.part,IntKind.i64.wrap (t+w.start),IntKind.i64.wrap (IntKind.i64.wrap (t+w.start)+w.len)⟩
def xCD (ws:List xCA) (t:Int):List xCe:=ws.map (xEE t)
def xDV (n:Nat) (mode want:Int):Int:=if 0≤want∧want<n then want else mode
def xJw:Int:=1152921504606846976
def xDz (c:xBG) (p:xBV) (f:xBR):Option xBV:=
 if xDV c.modes.d.length p.mode f.mode<0∨(c.modes.d.length:Int)≤xDV c.modes.d.length p.mode f.mode then none
 else if(ix c.modes.d (xDV c.modes.d.length p.mode f.mode)).frame<1∨IntKind.i64.wrap (xJw-p.stop)<(ix c.modes.d (xDV c.modes.d.length p.mode f.mode)).frame then none
 else some ⟨p.stop,IntKind.i64.wrap (p.stop+(ix c.modes.d (xDV c.modes.d.length p.mode f.mode)).frame),xDV c.modes.d.length p.mode f.mode,xHz c.down.d c.up.d p.level f.reading⟩
def xBO (c:xBG):xBV→List xBR→List xBV
 |_,[]=>[]
 |p,f::fs=>match xDz c p f with
  |none=>[]
  |some x=>x::xBO c x fs
section
attribute [local irreducible] BrK Xq Xt Xv XI FnK XZ Xw XC XV opX opK Yq Yk eqR Yj Yo Ys WL WD W X3 XO Tr drewK Ya X4 Yw Yv X1 YB mp blk rob sl sep ex fact old
section
attribute [local irreducible] xs2 inB xB0 xB9 xBI
section
variable {c:xBG} {m:xCz} {t mode want:Int} {p:xBV} {f:xBR}
theorem xFx (hl:m.wins.d.length≤1000000000):Xb prog 45 #[.agg (En.enc m).toArray,.int .i64 t] [sl true m.wins.s.v m.wins.d]
  fun v l'=>∃s:SV,v=s.v∧l'=[sl false s.v (xCD m.wins.d t)]:=by
 intro F K hK
 simp only[ap]
 refine S.I fun u=>?_
 repeat' (first|refine S.x ?_|intro hb|fail)
 refine Tr.nilSl (α:=xCe) ?_
 refine Tr.loopE (α:=Nat×SV) [5,11] [1,4,9,10] (fun x=>[x.2.v,.int .i64 x.1]) (fun x=>[sl false x.2.v (xCD (m.wins.d.take x.1) t)]) (fun x=>x.1≤m.wins.d.length) (fun x=>m.wins.d.length-x.1) (0,⟨none,0,0⟩) S.T rfl (Nat.zero_le _) fun x u hk=>?_
 obtain⟨k,s2⟩:=x
 simp only at hk⊢
 simp only[ap]
 by_cases hin:k<m.wins.d.length
 ·have hw:=Xo (k:=k) S.o
  have hst:xCD (m.wins.d.take (k+1)) t=xCD (m.wins.d.take k) t++[xEE t (ix m.wins.d (k:Int))]:=by unfold xCD;rw[Yz hin,List.map_append];rfl
  have hln: (xCD (m.wins.d.take k) t).length=k:=by unfold xCD;rw[List.length_map,List.length_take];omega
  have hX:=And.intro hw hln;repeat' (first|intro(sv:SV)|refine S.x ?_|intro hb|fail)
  all_goals
   have hX:=And.intro hst (@xEE.eq_def)
   exact S.R ((k+1,sv):Nat×SV)
 ·have hke:k=m.wins.d.length:=by omega
  subst hke
  rw[List.take_length]
  repeat' (first|refine S.x ?_|fail)
  all_goals exact Tr.fin hK ⟨s2,rfl,rfl⟩ S.E
theorem xKE:Xb prog 118 #[.agg (En.enc c).toArray,.int .i64 mode,.int .i64 want] [sl true c.modes.s.v c.modes.d] fun v l'=>v=.int .i64 (xDV c.modes.d.length mode want)∧l'=[]:=by
 intro F K hK
 simp only[ap]
 unfold xDV at hK
 refine S.I fun u=>?_
 repeat' (first|refine S.x ?_|refine S.y ?_ ?_|intro hb|fail)
 all_goals exact Tr.fin hK ⟨S.v,rfl⟩ S.E
theorem xJ2 (hs:shC c):Xb prog 80 #[.agg (En.enc p).toArray,.agg (En.enc c).toArray,.agg (En.enc f).toArray] [sl true c.modes.s.v c.modes.d,sl true c.down.s.v c.down.d,sl true c.up.s.v c.up.d]
    fun v l'=>v=.tuple #[.agg (En.enc ((xDz c p f).getD ⟨0,0,0,0⟩)).toArray,.bool (xDz c p f).isSome]∧l'=[]:=by
  intro F K hK
  simp only[ap]
  have h1:=hs.d
  have h2:=hs.u
  have h3:=hs.m
  obtain⟨o,ho⟩:∃o,o=xDz c p f:=⟨_,rfl⟩
  rw[←ho]at hK
  unfold xDz xJw at ho
  refine S.I fun u=>?_
  have hX:=@xOa;repeat' (first|refine S.x ?_|refine S.y ?_ ?_|(refine G.call 118 ?_;refine S.c ?_ (h:=xKE))|(refine G.call 119 ?_;refine S.c ?_ (h:=xIJ ‹_› ‹_›))|rintro _ _ ⟨rfl,rfl⟩|intro hb|fail)
  all_goals first
    | (have e:o=none:=by(rw[ho,if_pos S.o])
       rw[e]at hK
       exact Tr.fin hK ⟨rfl,rfl⟩ S.E)
    | (have e:o=none:=by(rw[ho,if_neg S.o,if_pos (by first|exact .inl S.o|exact .inr ‹_›)])
       rw[e]at hK
       exact Tr.fin hK ⟨rfl,rfl⟩ S.E)
    | (have e:=ho
       rw[if_neg S.o,if_neg (fun h=>by rcases h with h|h<;>first|contradiction|fail)]at e
       rw[e]at hK
       exact Tr.fin hK ⟨rfl,rfl⟩ S.E)
