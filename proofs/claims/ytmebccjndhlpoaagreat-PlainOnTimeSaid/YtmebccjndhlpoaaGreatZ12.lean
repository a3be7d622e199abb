import Derived.Test.YtmebccjndhlpoaaGreatZ11
namespace Go.Proofs.YtmebccjndhlpoaaGreat
open Go Go.Wk Tryz
set_option maxHeartbeats 3200000
set_option maxRecDepth 100000
section
section
variable {α:Type} {P:Program} {T:Nat→Xj} {n:Nat} {l F:List Xc} {Q:List Nat→Jh} {ms:List Nat} {e:Env}
theorem Tr.rangeA {gf N:Nat} {lb:List Value} {g:Operand} {ps:Array Tmp} {assign body:Code} {encs:α→Array Value} {ok:α→Prop} {DL:List Xc} {S Sp:List α→Prop} {I Ix:List α→Xc} (hm:P.follows .mixedOrders=true)
  (hit:xtw P gf lb encs ok DL S Sp N) (hg:ev e g=.func (.func gf) #[] lb.toArray) (hf:xa1 P gf=true) (ht:YK l (I []::DL) F)
  (hsz:∀x,(encs x).size=ps.size) (hps:∀p∈ps.toList,p<n) (hok:Za n T assign=true) (hok':Y8 T assign=true) (hob:Za n T body=true) (hob':Y8 T body=true)
  (hbody:∀pre x G G' (B:Env→WP) (R:Jh),pre.length<N→ok x→(∀L e1,Tr (L++G') (W P T body R e1)→Tr (L++G) (B e1))→(∀u,Tr (I (pre++[x])::G') (R .normal u))→(∀u,Tr (Ix (pre++[x])::G') (R .ret u))→Tr (I pre::G) (W P T assign (Yj B xxF) (xd0 e (ps.toList.zip (encs x).toList))))
  (hdone:∀D xs,S xs→Tr (I xs::blk D (.deferred (some []))::(DL++F)) (Q (D::ms) .normal e))
  (hstop:∀D pre,Sp pre→Tr (Ix pre::blk D (.deferred (some []))::(DL++F)) (Q (D::ms) .ret e)):Tr l (xgA P n g ps assign body Q ms e):=fun w hw0=>by
 have hw:Sat w (I []::(DL++F)):=ht.sat hw0
 refine⟨gf,lb.toArray,hg,hf,fun r hr1 hr2 hr3 hr4 hr5 hr6 hr7=>?_⟩
 have h1:=hw.alloc (.deferred (some []))
 have h2:=h1.alloc (.loop r)
 have hL: (w.alloc (.deferred (some []))).heap.size=w.heap.size+1:=by simp
 rw[hL]at h2
 have hrr: ({r with state:=.ready,pending:=none}:Loop)=r:=by rw[←hr1,←hr2]
 have hround:xkt P (w.heap.size+1) encs ok (fun pre=>sep (blk (w.heap.size+1) (.loop r)) (I pre)) (fun pre=>sep (blk (w.heap.size+1) (.loop {r with state:=.done,pending:=some .ret})) (Ix pre)) N:=by
  intro pre x G K hN hx hK1 hK2
  refine Tr.sep_iff.2 fun w1 hw1=>?_
  have hl:=hw1.get
  refine xoM (n:=n) (T:=T) (e:=e) hm hl (by rw[hsz,hr3]) hr7 hr6 (by rw[hr3];exact hps) (by rw[hr4];exact hok) (by rw[hr4];exact hok') (by rw[hr5];exact hob) (by rw[hr5];exact hob') ?_
  rw[hr3,hr4]
  subst hr5
  refine hbody pre x (blk (w.heap.size+1) (.loop r)::G) (blk (w.heap.size+1) (.loop {r with state:=.busy})::G) (fun e1 w1=>∃w2,(Instr.beginRound (w.heap.size+1)).run P w1=.ok () w2∧W P T r.body (xuo P (w.heap.size+1) K) e1 w2) (xuo P (w.heap.size+1) K) hN hx (fun L e1 h w3 hw3=>?_) (fun u w3 hw3=>?_) (fun u w3 hw3=>?_) _ (Q5 hw1)
  ·have h3:Sat w3 (blk (w.heap.size+1) (.loop r)::(L++G)):=hw3.perm List.perm_middle
   refine⟨_,run_beginRound h3.get hr1,h _ ?_⟩
   have h4:Sat (w3.putObj (w.heap.size+1) (.loop {r with state:=.busy})) (blk (w.heap.size+1) (.loop {r with state:=.busy})::(L++G)):=h3.put rfl ⟨rfl,rfl,rfl⟩
   exact h4.perm List.perm_middle.symm
  ·have hw3:=Q5 hw3
   have hl3:=hw3.get
   refine⟨_,_,run_endRound none hl3,?_⟩
   refine hK1 _ (Imp.sepI.sat ?_)
   have:Sat (w3.putObj (w.heap.size+1) (.loop {r with state:=.ready,pending:=none})) (blk (w.heap.size+1) (.loop {r with state:=.ready,pending:=none})::I (pre++[x])::G):=hw3.put rfl ⟨rfl,rfl,rfl⟩
   rw[hrr]at this
   show Sat (w3.putObj (w.heap.size+1) (.loop {r with state:=.ready,pending:=none})) _
   rw[hrr];exact this
  ·have hw3:=Q5 hw3
   have hl3:=hw3.get
   refine⟨_,_,run_endRound (some .ret) hl3,?_⟩
   refine hK2 _ (Imp.sepI.sat ?_)
   exact hw3.put rfl ⟨rfl,rfl,rfl⟩
 have hshuf:∀{A B C:Xc} {L1 L2:List Xc},List.Perm (A::B::C::(L1++L2)) (A::C::(L1++B::L2)):=fun{A B C L1 L2}=>by
  refine List.Perm.cons A ((List.Perm.swap C B _).trans (List.Perm.cons C ?_))
  exact(List.perm_middle (l₁:=L1) (l₂:=L2) (a:=B)).symm
 have hst:Sat _ (sep (blk (w.heap.size+1) (.loop r)) (I [])::(DL++(blk w.heap.size (.deferred (some []))::F))):=Imp.sepI.sat (h2.perm hshuf)
 have happ: (#[.func (.yield (w.heap.size+1)) #[] #[]]++lb.toArray:Array Value)=(.func (.yield (w.heap.size+1)) #[] #[]::lb).toArray:=by simp
 rw[happ]
 refine hit (w.heap.size+1) _ _ hround (blk w.heap.size (.deferred (some []))::F) _ (fun v xs hS=>Tr.sep_iff.2 fun w3 hw3=>?_) (fun v pre hS=>Tr.sep_iff.2 fun w3 hw3=>?_) _ hst
 ·have hl3:=hw3.get
  refine⟨none,.ready,by simp,by rw[hrr];exact hl3,?_⟩
  have hp:Sat (w3.putObj (w.heap.size+1) (.loop {r with state:=.exhausted,pending:=none})) (blk (w.heap.size+1) (.loop {r with state:=.exhausted,pending:=none})::I xs::(DL++blk w.heap.size (.deferred (some []))::F)):=hw3.put rfl ⟨rfl,rfl,rfl⟩
  exact hdone _ xs hS _ (Q5 (hp.perm hshuf.symm).tail)
 ·have hl3:=hw3.get
  refine⟨some .ret,.done,by simp,hl3,?_⟩
  have hp:Sat (w3.putObj (w.heap.size+1) (.loop {r with state:=.exhausted,pending:=some .ret})) (blk (w.heap.size+1) (.loop {r with state:=.exhausted,pending:=some .ret})::Ix pre::(DL++blk w.heap.size (.deferred (some []))::F)):=hw3.put rfl ⟨rfl,rfl,rfl⟩
  exact hstop _ pre hS _ (Q5 (hp.perm hshuf.symm).tail)
end
theorem xBZ {P:Program} {l:Nat} {args:List Value} {K:Value→WP} {o:WP}:XZ P (.func (.yield l) #[] #[]) args.toArray K o=xcx P l args.toArray K:=by
 rw[xry];simp
abbrev fsB (b:Nat) (sf:SV):Xc:=blk b (.cells #[sf.v] 35 (0,0))
def xN8 (x:xBV):Array Value:=#[.agg (En.enc x).toArray]
def xGE (c:xBG) (x:xBV):Prop:=0≤x.mode∧x.mode<c.modes.d.length
theorem xGD {c:xBG} {p x:xBV} {f:xBR} (h:xDz c p f=some x):xGE c x:=by
 unfold xDz at h
 split at h
 ·cases h
 rename_i h1
 split at h
 ·cases h
 cases h
 exact⟨by show 0≤xDV _ _ _;omega,by show xDV _ _ _<_;omega⟩
theorem xDL {c:xBG} {p:xBV} {f:xBR} {r:List xBR} (h:xDz c p f=none):xBO c p (f::r)=[]:=by
 rw[xBO,h]
theorem xDF {c:xBG} {p x:xBV} {f:xBR} {r:List xBR} (h:xDz c p f=some x):xBO c p (f::r)=x::xBO c x r:=by
 rw[xBO,h]
abbrev p0:xBV:=⟨0,0,0,0⟩
end
section
attribute [local irreducible] BrK Xq Xt Xv XI FnK XZ Xw XC XV opX opK Yq Yk eqR Yj Yo Ys WL WD W X3 XO Tr drewK Ya X4 Yw Yv X1 YB mp blk rob sl sep ex fact old
section
attribute [local irreducible] xs2 inB xB0 xB9 xBI
section
variable {c:xBG} {sf:SV} {fs:List xBR} {b1 b2:Nat}
theorem xFP:Xb prog 43 #[.agg (En.enc c).toArray,sf.v] [] fun v l'=>∃b1 b2,v=.func (.func 79) #[] #[.pointer (some ⟨b1,0,none⟩),.pointer (some ⟨b2,0,none⟩)]∧l'=[fsB b1 sf,cfB b2 c]:=by
 intro F K hK
 simp only[List.nil_append]
 refine S.I fun u=>?_
 have hX:=@xBZ;repeat' (first|refine S.x ?_|intro hb|fail)
 all_goals exact Tr.fin hK ⟨_,_,rfl,rfl⟩ S.E
structure pgI (c:xBG) (fs:List xBR) (x:Nat×List xBV×xBV):Prop where
 k:x.1≤fs.length
 e:x.2.1++xBO c x.2.2 (fs.drop x.1)=xBO c p0 fs
theorem xEZ (hs:shC c) (hf:fs.length≤1000000000):xtw prog 79 [.pointer (some ⟨b1,0,none⟩),.pointer (some ⟨b2,0,none⟩)] xN8 (xGE c) [fsB b1 sf,cfB b2 c,sl true sf.v fs,sl true c.modes.s.v c.modes.d,sl true c.down.s.v c.down.d,sl true c.up.s.v c.up.d]
  (fun xs=>xs=xBO c p0 fs) (fun pre=>pre<+:xBO c p0 fs) (xBO c p0 fs).length:=by
 intro L J Jx hR F K hdone hstop
 simp only[ap]at hdone hstop⊢
 refine S.I fun u=>?_
 have hX:=And.intro @xBZ @xLq;repeat' (first|intro(pb:Nat)|refine S.x ?_|fail)
 refine Tr.loopE (α:=Nat×List xBV×xBV) [11] [0,1,2,4,9,10] (fun x=>[.int .i64 x.1]) (fun x=>[J x.2.1,blk pb (.cells (En.enc x.2.2).toArray 89 (0,0)),fsB b1 sf,cfB b2 c]) (pgI c fs) (fun x=>fs.length-x.1) (0,[],p0) S.T rfl ⟨Nat.zero_le _,rfl⟩ fun x u hI=>?_
 obtain⟨k,pre,p⟩:=x
 obtain⟨hk,he⟩:=hI
 simp only at hk he⊢
 simp only[ap]
 by_cases hin:k<fs.length
 ·have hw:=Xo (k:=k) S.o
  have hd:fs.drop k=ix fs (k:Int)::fs.drop (k+1):=by rw[List.drop_eq_getElem_cons hin];simp[ix,hin]
  rw[hd]at he
  have hnx:=xJ2 (p:=p) (f:=ix fs (k:Int)) hs
  cases hp:xDz c p (ix fs (k:Int))with
  | none=>
   rw[xDL hp,List.append_nil]at he
   rw[hp]at hnx
   simp only[Option.getD_none,Option.isSome_none]at hnx
   have hX:=I3 @xBZ hw @xJS;repeat' (first|rintro _ _ ⟨rfl,rfl⟩|(refine G.call 80 ?_;refine S.c ?_ (h:=hnx))|refine S.x ?_|intro hb|fail)
   all_goals
    refine Tr.ent2 ?_ (hdone _ _ he)
    exact S.E
  | some x=>
   rw[xDF hp]at he
   rw[hp]at hnx
   simp only[Option.getD_some,Option.isSome_some]at hnx
   have he2: (pre++[x])++xBO c x (fs.drop (k+1))=xBO c p0 fs:=by rw[List.append_assoc];exact he
   have hpl:pre.length<(xBO c p0 fs).length:=by rw[←he];simp
   have hpx:pre++[x]<+:xBO c p0 fs:=⟨_,he2⟩
   have hok:=xGD hp
   have hX:=I3 @xBZ hw @xJS;repeat' (first|rintro _ _ ⟨rfl,rfl⟩|(refine G.call 80 ?_;refine S.c ?_ (h:=hnx))|(refine Tr.yield hR _ rfl ‹_› (by first|assumption|fail) S.K ?_ ?_)|refine S.x ?_|intro hb|fail)
   ·have hI:pgI c fs (k+1,pre++[x],x):=⟨hin,he2⟩
    exact S.R ((k+1,pre++[x],x):Nat×List xBV×xBV)
   ·refine Tr.ent2 ?_ (hstop _ _ hpx)
    exact S.E
 ·have hke:k=fs.length:=by omega
  rw[hke,List.drop_length]at he
  have hX:=I3 @xBZ hke @xJS;repeat' (first|refine S.x ?_|fail)
  all_goals
   refine Tr.ent2 ?_ (hdone _ pre ?_)
   ·exact S.E
   ·rw[←he];exact(List.append_nil _).symm
end
end
end
theorem xDy {c:xBG}:∀{fs:List xBR} {p:xBV},(xBO c p fs).length≤fs.length
 |[],p=>by rw[xBO];exact Nat.le_refl _
 |f::fs,p=>by
  cases h:xDz c p f with
  |none=>rw[xDL h];exact Nat.zero_le _
  |some x=>rw[xDF h,List.length_cons,List.length_cons];exact Nat.succ_le_succ xDy
noncomputable def xMO:Code:=match Tryz.f26.body with
 |some c=>c
 |none=>.skip
theorem xIS:Tryz.f26.body=some xMO:=by kernel_rfl
def plN:Nat→Xj:=fun _=>.fin
theorem xLO:xaP Tryz.f26.ntmps plN xMO=true:=by kernel_rfl
def iL {α:Type} [En α] (T:Nat) (b:Nat) (xs:List α):Xc:=ex fun s:SV=>sep (blk b (.cells #[s.v] T (0,0))) (sl false s.v xs)
theorem xHJ {α:Type} [En α] {T b:Nat} {xs:List α} {s:SV} {l l1 l2:List Xc} {X:WP} (h1:Xm l (blk b (.cells #[s.v] T (0,0))) l1) (h2:Xm l1 (sl false s.v xs) l2) (h:Tr (iL T b xs::l2) X):Tr l X:=
 Tr.ent2 (Xd.ex s (Xd.sep (Xd.take h1 (Xd.take h2 Xd.done)))) h
theorem xEL {α:Type} [En α] {T b:Nat} {xs:List α} {l:List Xc} {X:WP} (h:∀s:SV,Tr (blk b (.cells #[s.v] T (0,0))::sl false s.v xs::l) X):Tr (iL T b xs::l) X:=
 Tr.ex_iff.2 fun s=>Tr.sep_iff.2 (h s)
def noA {α:Type}:List α→Xc:=fun _=>fact False
theorem xGx {α:Type} {xs:List α} {l:List Xc} {X:WP}:Tr (noA xs::l) X:=Tr.fact_iff.2 fun h=>h.elim
section
attribute [local irreducible] BrK Xq Xt Xv XI FnK XZ Xw XC XV opX opK Yq Yk eqR Yj Yo Ys WL WD W X3 XO Tr drewK Ya X4 Yw Yv X1 YB mp blk rob sl sep ex fact old
section
attribute [local irreducible] xs2 inB xB0 xB9 xBI WM xgA
section
variable {c:xBG} {sf:SV} {fs:List xBR} {b1 b2:Nat}
theorem xIg (hs:shC c) (hf:fs.length≤1000000):Xb prog 26 #[.agg (En.enc c).toArray,sf.v] [sl true sf.v fs,sl true c.modes.s.v c.modes.d,sl true c.down.s.v c.down.d,sl true c.up.s.v c.up.d]
  fun v l'=>∃s:SV,v=s.v∧l'=[sl false s.v (xBO c p0 fs)]:=by
 intro F K hK
 simp only[ap]
 refine Tr.enterM (T:=plN) (rs:=[.tmp 4]) mixed Tryz.func26 xIS xLO rfl (by simp) fun u=>?_
 simp only[xMO,Tryz.f26]
 have hX:=I6 @xBZ @xj0 @xeO @xqD @xck @xjX;repeat' (first|intro(ob:Nat)|refine S.x ?_|(refine G.call 43 ?_;refine S.c ?_ (h:=xFP))|rintro _ _ ⟨_,_,rfl,rfl⟩|fail)
 rename_i w1 w2
 refine Tr.nilSl (α:=xBV) ?_
 refine xHJ (α:=xBV) (xs:=[]) (b:=ob) (s:=⟨none,0,0⟩) S.K S.K ?_
 refine Tr.rangeA (T:=plN) (I:=iL 86 ob) (Ix:=noA) mixed (xEZ (b1:=w1) (b2:=w2) (sf:=sf) (fs:=fs) hs S.o) rfl (by kernel_rfl) S.T (fun x=>rfl) (by decide) (by kernel_rfl) (by kernel_rfl) (by kernel_rfl) (by kernel_rfl) ?hbody ?hdone ?hstop
 case hbody=>
  intro pre x Gl Gm B R hN hx hB h1 h2
  have hpl:=xDy (c:=c) (fs:=fs) (p:=p0)
  refine xEL fun s=>?_
  show Tr _ (W _ _ _ _ (upd _ 10 (.agg (En.enc x).toArray)))
  have hX:=@xBZ;repeat' (first|intro(xb:Nat)|refine S.x ?_|fail)
  refine hB [_,_,_] _ ?_
  simp only[ap]
  have hX:=@xBZ;repeat' (first|intro(sv:SV)|refine S.x ?_|fail)
  all_goals
   refine xHJ (b:=ob) (xs:=pre++[x]) (s:=sv) S.K S.K ?_
   refine Tr.ent2 ?_ (h1 _)
   exact S.E
 case hdone=>
  intro D xs hS
  subst hS
  refine xEL fun s=>?_
  have hX:=I8 @xBZ @xj0 @xeO @xqD @xck @xjX @xuW @xvk;repeat' (first|refine S.x ?_|fail)
  all_goals
   refine Tr.mark S.K ?_
   rw[xkr]
   exact Tr.fin hK ⟨s,rfl,rfl⟩ S.E
 case hstop=>
  intro D pre hS
  exact xGx
end
end
end
def xOd (x:xCe):Array Value:=#[.agg (En.enc x).toArray]
def xCc (c:xBG) (p:xBV):List xCe:=xCD (ix c.modes.d p.mode).wins.d p.at_
def xCj (c:xBG) (ps:List xBV):List xCe:=ps.flatMap (xCc c)
structure xLk (c:xBG):Prop where
 w:∀m∈c.modes.d,m.wins.d.length≤16
theorem xFe {c:xBG} (hw:xLk c) {p:xBV} (hp:xGE c p): (xCc c p).length≤16:=by
 unfold xCc xCD
 rw[List.length_map]
 exact hw.w _ (List.mem_of_getElem? (Yi hp.1 hp.2))
theorem xED {c:xBG} {ps:List xBV} {p:xBV}:xCj c (ps++[p])=xCj c ps++xCc c p:=by unfold xCj;simp
noncomputable def xML:Code:=match Tryz.f91.body with
 |some c=>c
 |none=>.skip
theorem xIA:Tryz.f91.body=some xML:=by kernel_rfl
noncomputable def plS:Nat→Xj
 |3=>.r 0 8 (.r 10 1 (.e 8 [] (.r 9 1 .fin)))
 |_=>.fin
theorem peS:type_of%(@plS.eq_def):=@plS.eq_def
theorem xLu:xaP Tryz.f91.ntmps plS xML=true:=by kernel_rfl
abbrev yB (b L:Nat):Xc:=blk b (.cells #[.func (.yield L) #[] #[]] 196 (0,0))
def iS (J:List xCe→Xc) (bc yb L:Nat) (c:xBG) (pre:List xBV):Xc:=sep (fact ((xCj c pre).length≤16*pre.length)) (sepL [J (xCj c pre),cfB bc c,yB yb L,sl true c.modes.s.v c.modes.d,fzl c.modes.d])
def iQ (Jx:List xCe→Xc) (bc yb L:Nat) (c:xBG) (_:List xBV):Xc:=ex fun q:List xCe=>sepL [Jx q,cfB bc c,yB yb L,sl true c.modes.s.v c.modes.d,fzl c.modes.d]
theorem xL9 {J:List xCe→Xc} {bc yb L:Nat} {c:xBG} {pre:List xBV} {l F:List Xc} {X:WP} (h0: (xCj c pre).length≤16*pre.length) (ht:YK l [J (xCj c pre),cfB bc c,yB yb L,sl true c.modes.s.v c.modes.d,fzl c.modes.d] F) (h:Tr (iS J bc yb L c pre::F) X):Tr l X:=
 Tr.imp (Imp.trans ht (Imp.trans Imp.sepC (Imp.trans (Imp.factI h0) Imp.sepI))) h
theorem xNO {Jx:List xCe→Xc} {bc yb L:Nat} {c:xBG} {pre:List xBV} (q:List xCe) {l F:List Xc} {X:WP} (ht:YK l [Jx q,cfB bc c,yB yb L,sl true c.modes.s.v c.modes.d,fzl c.modes.d] F) (h:Tr (iQ Jx bc yb L c pre::F) X):Tr l X:=
 Tr.imp (Imp.trans ht (Imp.trans Imp.sepC (Imp.exI (f:=fun q:List xCe=>sepL [Jx q,cfB bc c,yB yb L,sl true c.modes.s.v c.modes.d,fzl c.modes.d]) q))) h
theorem xHK {J:List xCe→Xc} {bc yb L:Nat} {c:xBG} {pre:List xBV} {l:List Xc} {X:WP} (h: (xCj c pre).length≤16*pre.length→Tr (J (xCj c pre)::cfB bc c::yB yb L::sl true c.modes.s.v c.modes.d::fzl c.modes.d::l) X):Tr (iS J bc yb L c pre::l) X:=
 Tr.sep_iff.2 (Tr.fact_iff.2 fun h0=>Tr.imp Imp.sepO (h h0))
theorem xLY {Jx:List xCe→Xc} {bc yb L:Nat} {c:xBG} {pre:List xBV} {l:List Xc} {X:WP} (h:∀q,Tr (Jx q::cfB bc c::yB yb L::sl true c.modes.s.v c.modes.d::fzl c.modes.d::l) X):Tr (iQ Jx bc yb L c pre::l) X:=
 Tr.ex_iff.2 fun q=>Tr.imp Imp.sepO (h q)
section
attribute [local irreducible] BrK Xq Xt Xv XI FnK XZ Xw XC XV opX opK Yq Yk eqR Yj Yo Ys WL WD W X3 XO Tr drewK Ya X4 Yw Yv X1 YB mp blk rob sl sep ex fact old
section
attribute [local irreducible] xs2 inB xB0 xB9 xBI WM xgA
section
variable {c:xBG} {sf:SV} {fs:List xBR} {bc bf:Nat}
theorem xGV:Xb prog 49 #[.agg (En.enc c).toArray,sf.v] [] fun v l'=>∃b1 b2,v=.func (.func 91) #[] #[.pointer (some ⟨b1,0,none⟩),.pointer (some ⟨b2,0,none⟩)]∧l'=[cfB b1 c,fsB b2 sf]:=by
 intro F K hK
 simp only[List.nil_append]
 refine S.I fun u=>?_
 have hX:=@xBZ;repeat' (first|refine S.x ?_|intro hb|fail)
 all_goals exact Tr.fin hK ⟨_,_,rfl,rfl⟩ S.E
theorem xHb (hs:shC c) (hf:fs.length≤1000000) (hfw:xLk c):xtw prog 91 [.pointer (some ⟨bc,0,none⟩),.pointer (some ⟨bf,0,none⟩)] xOd (fun _=>True) [cfB bc c,fsB bf sf,sl true sf.v fs,sl true c.modes.s.v c.modes.d,fzl c.modes.d,sl true c.down.s.v c.down.d,sl true c.up.s.v c.up.d]
  (fun xs=>xs=xCj c (xBO c p0 fs)) (fun _=>True) (16*fs.length):=by
 intro L J Jx hR F K hdone hstop
 simp only[ap]at hdone hstop⊢
 refine Tr.enterM (T:=plS) (rs:=[]) mixed Tryz.func91 xIA xLu rfl (by simp) fun u=>?_
 simp only[xML,Tryz.f91]
 have hX:=I6 @xBZ @xj0 @xeO @xqD @xck @xjX;repeat' (first|intro(yb:Nat)|refine S.x ?_|(refine G.call 43 ?_;refine S.c ?_ (h:=xFP))|rintro _ _ ⟨_,_,rfl,rfl⟩|fail)
 rename_i w1 w2
 refine xL9 (J:=J) (pre:=[]) (bc:=bc) (yb:=yb) (c:=c) (L:=L) (Nat.zero_le _) S.T ?_
 refine Tr.rangeA (T:=plS) (I:=iS J bc yb L c) (Ix:=iQ Jx bc yb L c) mixed (xEZ (b1:=w1) (b2:=w2) (sf:=sf) (fs:=fs) hs S.o) rfl (by kernel_rfl) S.T (fun x=>rfl) (by decide) (by kernel_rfl) (by kernel_rfl) (by kernel_rfl) (by kernel_rfl) ?hbody ?hdone ?hstop
 case hbody=>
  intro pre x Gl Gm B R hN hx hB h1 h2
  have hpl:=xDy (c:=c) (fs:=fs) (p:=p0)
  have hx1:=hx.1
  have hx2:=hx.2
  have hsl:=xFe hfw hx
  have hwl: (ix c.modes.d x.mode).wins.d.length≤1000000000:=Nat.le_trans (hfw.w _ (List.mem_of_getElem? (Yi hx1 hx2))) (by decide)
  refine xHK fun hln=>?_
  show Tr _ (W _ _ _ _ (upd _ 10 (.agg (En.enc x).toArray)))
  have hX:=@xBZ;repeat' (first|intro(xb:Nat)|refine S.x ?_|fail)
  refine hB [_,_,_,_,_,_] _ ?_
  simp only[ap]
  have hsp:xCD (ix c.modes.d x.mode).wins.d x.at_=xCc c x:=rfl
  have hX:=I3 @xBZ @peS hsp;repeat' (first|refine S.x ?_|(refine G.call 45 ?_;refine S.c ?_ (h:=xFx ‹_›))|rintro _ _ ⟨_,rfl,rfl⟩|intro hb|fail)
  rename_i s2
  rw[show xCj c pre=xCj c pre++(xCc c x).take 0 by rw[List.take_zero,List.append_nil]]
  refine Tr.loopE (α:=Nat) [21] [3,19,20] (fun k=>[.int .i64 k]) (fun k=>[J (xCj c pre++(xCc c x).take k),sl false s2.v (xCc c x),yB yb L]) (fun k=>k≤(xCc c x).length) (fun k=>(xCc c x).length-k) 0 S.T rfl (Nat.zero_le _) fun k u hk=>?_
  simp only[ap]
  by_cases hin:k<(xCc c x).length
  ·have hw:=Xo (k:=k) S.o
   have hN2: (xCj c pre++(xCc c x).take k).length<16*fs.length:=by rw[List.length_append,List.length_take];omega
   have hst:xCj c pre++(xCc c x).take k++[ix (xCc c x) (k:Int)]=xCj c pre++(xCc c x).take (k+1):=by rw[List.append_assoc,Yz hin]
   have hX:=I3 @xBZ hw hst;repeat' (first|(refine Tr.yield hR _ rfl ‹_› trivial S.K ?_ ?_)|refine S.x ?_|intro hb|fail)
   ·exact S.R (k+1)
   ·refine xNO (Jx:=Jx) (bc:=bc) (yb:=yb) (L:=L) (c:=c) (pre:=pre++[x]) (xCj c pre++(xCc c x).take (k+1)) S.T ?_
    refine Tr.ent2 ?_ (h2 _)
    exact S.E
  ·have hke:k=(xCc c x).length:=by omega
   subst hke
   rw[List.take_length,←xED]
   have hX:=@xBZ;repeat' (first|refine S.x ?_|fail)
   all_goals
    refine xL9 (J:=J) (bc:=bc) (yb:=yb) (L:=L) (c:=c) (pre:=pre++[x]) (by rw[xED,List.length_append,List.length_append,List.length_singleton];omega) S.T ?_
    refine Tr.ent2 ?_ (h1 _)
    exact S.E
 case hdone=>
  intro D xs hS
  subst hS
  refine xHK fun _=>?_
  have hX:=I8 @xBZ @xj0 @xeO @xqD @xck @xjX @xuW @xvk;repeat' (first|refine S.x ?_|fail)
  all_goals
   refine Tr.mark S.K ?_
   rw[xkr]
   refine Tr.ent2 ?_ (hdone _ _ rfl)
   exact S.E
 case hstop=>
  intro D pre hS
  refine xLY fun q=>?_
  have hX:=I8 @xBZ @xj0 @xeO @xqD @xck @xjX @xuW @xvk;repeat' (first|refine S.x ?_|fail)
  all_goals
   refine Tr.mark S.K ?_
   rw[xkr]
   refine Tr.ent2 ?_ (hstop _ q trivial)
   exact S.E
end
end
end
structure xDu where
 due:Int
 at_:Int
 part:Int
instance:Inhabited xDu:=⟨⟨0,0,0⟩⟩
instance:En xDu:=⟨fun d=>[.int .i64 d.due,.int .i64 d.at_,.int .i64 d.part],3,fun _=>rfl,fun _=>rfl,by decide⟩
instance {l:List Xc} {a b c:Int}:De l (.agg #[.int .i64 a,.int .i64 b,.int .i64 c]) (xDu.mk a b c):=⟨rfl⟩
instance xM0:ElT 42 xDu:=⟨⟩
def xCT (ss:List xCe):List xDu:=ss.flatMap fun s=>[⟨s.frm,s.frm,s.part⟩,⟨s.to,s.to,-1⟩]
theorem xGd {ss:List xCe} {s:xCe}:xCT (ss++[s])=xCT ss++[⟨s.frm,s.frm,s.part⟩,⟨s.to,s.to,-1⟩]:=by unfold xCT;simp
theorem xEz:∀{ss:List xCe},(xCT ss).length=2*ss.length
 |[]=>rfl
 |s::ss=>by
  have:=xEz (ss:=ss)
  unfold xCT at this⊢
  rw[List.flatMap_cons,List.length_append,this,List.length_cons]
  simp only[List.length_cons,List.length_nil]
  omega
noncomputable def xMo:Code:=match Tryz.f28.body with
 |some c=>c
 |none=>.skip
theorem xIM:Tryz.f28.body=some xMo:=by kernel_rfl
theorem xLl:xaP Tryz.f28.ntmps plN xMo=true:=by kernel_rfl
def xFX (c:xBG) (fs:List xBR):List xDu:=xCT (xCj c (xBO c p0 fs))
section
attribute [local irreducible] BrK Xq Xt Xv XI FnK XZ Xw XC XV opX opK Yq Yk eqR Yj Yo Ys WL WD W X3 XO Tr drewK Ya X4 Yw Yv X1 YB mp blk rob sl sep ex fact old
section
attribute [local irreducible] xs2 inB xB0 xB9 xBI WM xgA
section
variable {c:xBG} {sf:SV} {fs:List xBR}
theorem xG5 (hs:shC c) (hf:fs.length≤1000000) (hfw:xLk c):Xb prog 28 #[.agg (En.enc c).toArray,sf.v] [sl true sf.v fs,sl true c.modes.s.v c.modes.d,fzl c.modes.d,sl true c.down.s.v c.down.d,sl true c.up.s.v c.up.d]
  fun v l'=>∃s:SV,v=s.v∧l'=[sl false s.v (xFX c fs)]:=by
 intro F K hK
 simp only[ap]
 refine Tr.enterM (T:=plN) (rs:=[.tmp 4]) mixed Tryz.func28 xIM xLl rfl (by simp) fun u=>?_
 simp only[xMo,Tryz.f28]
 have hX:=I6 @xBZ @xj0 @xeO @xqD @xck @xjX;repeat' (first|intro(ob:Nat)|refine S.x ?_|(refine G.call 49 ?_;refine S.c ?_ (h:=xGV))|rintro _ _ ⟨_,_,rfl,rfl⟩|fail)
 rename_i w1 w2
 refine Tr.nilSl (α:=xDu) ?_
 refine xHJ (α:=xDu) (xs:=xCT []) (b:=ob) (s:=⟨none,0,0⟩) S.K S.K ?_
 refine Tr.rangeA (T:=plN) (I:=fun pre=>iL 42 ob (xCT pre)) (Ix:=noA) mixed (xHb (bc:=w1) (bf:=w2) (sf:=sf) (fs:=fs) hs hf hfw) rfl (by kernel_rfl) S.T (fun x=>rfl) (by decide) (by kernel_rfl) (by kernel_rfl) (by kernel_rfl) (by kernel_rfl) ?hbody ?hdone ?hstop
 case hbody=>
  intro pre x Gl Gm B R hN hx hB h1 h2
  have hbl:=xEz (ss:=pre)
  refine xEL fun s=>?_
  show Tr _ (W _ _ _ _ (upd _ 10 (.agg (En.enc x).toArray)))
  have hX:=@xBZ;repeat' (first|intro(xb:Nat)|refine S.x ?_|fail)
  refine hB [_,_,_] _ ?_
  simp only[ap]
  have hX:=@xBZ;repeat' (first|intro(sv:SV)|refine S.x ?_|fail)
  all_goals
   rw[←xGd]
   refine xHJ (b:=ob) (xs:=xCT (pre++[x])) (s:=sv) S.K S.K ?_
   refine Tr.ent2 ?_ (h1 _)
   exact S.E
 case hdone=>
  intro D xs hS
  subst hS
  refine xEL fun s=>?_
  have hX:=I8 @xBZ @xj0 @xeO @xqD @xck @xjX @xuW @xvk;repeat' (first|refine S.x ?_|fail)
  all_goals
   refine Tr.mark S.K ?_
   rw[xkr]
   exact Tr.fin hK ⟨s,rfl,rfl⟩ S.E
 case hstop=>
  intro D pre hS
  exact xGx
