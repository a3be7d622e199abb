import Derived.Test.YtmebccjndhlpoaaGreatZ13
namespace Go.Proofs.YtmebccjndhlpoaaGreat
open Go Go.Wk Tryz
set_option maxHeartbeats 800000
set_option maxRecDepth 10000
section
attribute [local irreducible] BrK Xq Xt Xv XI FnK XZ Xw XC XV opX opK Yq Yk eqR Yj Yo Ys WL WD W X3 XO Tr drewK Ya X4 Yw Yv X1 YB mp blk rob sl sep ex fact old
def Tb.rankB (t:Tb) (k p:Int):Bool:=t.has k&&(decide (0≤p)&&decide (p≤63))
def Tb.rank (t:Tb) (k p:Int):Tb:=if t.rankB k p then{t with d:=t.d.set k.toNat {t.at k with prio:=p}}else t
theorem xkB (t:Tb) (k:Int) (x:One) (h:t.has k=true):kvF 0 (t.d.set k.toNat x)=ZC k x.v (kvF 0 t.d):=by
 have h01:=Wd h
 rw[Qk k _ t.d 0 (by simpa using h01.1) (by simpa using h01.2)];simp
theorem xsa (a:Nat) (t:Tb) (k p:Int):Xb prog 233 #[.pointer (some ⟨a,0,none⟩),.int .i64 k,.int .i64 p] [YG a t] fun v l'=>v=.bool (t.rankB k p)∧l'=[YG a (t.rank k p)]:=by
 intro F K hK
 have hh:=hK _ _ ⟨rfl,rfl⟩
 clear hK
 refine S.I fun u=>?_
 (repeat (first
  |simp only[WKb,↓reduceIte,Nat.reduceEqDiff,Nat.reduceAdd]
  |fail))
 refine Tr.call (Qv a t k) [0] rfl ?_
 rintro v l' ⟨rfl,rfl⟩
 unfold Tb.rank at hh
 cases e:t.has k
 ·simp only[Tb.rankB,e,Bool.false_and,Bool.false_eq_true,if_false]at hh
  (repeat (first
  |simp only[WKb,↓reduceIte,Nat.reduceEqDiff]
  |refine Tr.alloc rfl fun _=>?_
  |refine Tr.storeW rfl rfl rfl (by(repeat (first|exact Upd.here|apply Upd.next));done) (by rfl) ?_
  |fail))
  repeat (first|exact hh|refine Tr.drop ?_)
 ·cases e1:decide (p<0)
  ·have f1:decide (0≤p)=true:=by simp at e1⊢;omega
   cases e2:decide (63<p)
   ·have f2:decide (p≤63)=true:=by simp at e2⊢;omega
    simp only[Tb.rankB,e,f1,f2,Bool.true_and,if_true,YG,ap,Tr.ex_iff,Tr.sep_iff]at hh⊢
    intro m
    have hm:=hh m
    rw[xkB t k _ e]at hm
    (repeat (first
  |simp only[WKb,↓reduceIte,Nat.reduceEqDiff,Nat.reduceAdd,xMd,e1,e2]
  |refine Tr.load1 (by(repeat (first|exact Cell.blk rfl|apply Cell.next))) ?_
  |refine Tr.loadN (by(repeat (first|exact XP.blk0 rfl|apply XP.next))) ?_
  |refine Tr.alloc rfl fun _=>?_
  |refine Tr.drewK ?_
  |refine Tr.storeW rfl rfl rfl (by(repeat (first|exact Upd.here|apply Upd.next));done) (by rfl) ?_
  |refine Tr.store rfl rfl rfl (by(repeat (first|exact Upd.here|apply Upd.next));done) (by first|exact Nat.le_of_ble_eq_true rfl|fail) ?_
  |refine Tr.mapUpdate (by(repeat (first|exact V6.here|apply V6.next));done) ?_
  | fail))
    repeat (first|exact hm|refine Tr.drop ?_)
   ·have f2:decide (p≤63)=false:=by simp at e2⊢;omega
    simp only[Tb.rankB,e,f1,f2,Bool.true_and,Bool.false_eq_true,if_false]at hh
    (repeat (first
  |simp only[WKb,↓reduceIte,Nat.reduceEqDiff,e1,e2]
  |refine Tr.alloc rfl fun _=>?_
  |refine Tr.storeW rfl rfl rfl (by(repeat (first|exact Upd.here|apply Upd.next));done) (by rfl) ?_
  | fail))
    repeat (first|exact hh|refine Tr.drop ?_)
  ·have f1:decide (0≤p)=false:=by simp at e1⊢;omega
   simp only[Tb.rankB,e,f1,Bool.true_and,Bool.false_and,Bool.false_eq_true,if_false]at hh
   (repeat (first
  |simp only[WKb,↓reduceIte,Nat.reduceEqDiff,e1]
  |refine Tr.alloc rfl fun _=>?_
  |refine Tr.storeW rfl rfl rfl (by(repeat (first|exact Upd.here|apply Upd.next));done) (by rfl) ?_
  |fail))
   repeat (first|exact hh|refine Tr.drop ?_)
def Tb.freeTo (t:Tb):Nat→Tb
 |0=>t
 |k+1=>{t.freeTo k with d:=(t.freeTo k).d.set k {(t.freeTo k).at k with parked:=false}}
def Tb.free (t:Tb):Tb:=t.freeTo t.d.length
theorem Jr (t:Tb):∀k,(t.freeTo k).d.length=t.d.length
 |0=>rfl
 |k+1=>by simp[Tb.freeTo,Jr t k]
theorem xso (a:Nat) (t:Tb) (hn:t.d.length≤1000000):Xb prog 121 #[.pointer (some ⟨a,0,none⟩)] [YG a t] fun v l'=>v=.tuple #[]∧l'=[YG a t.free]:=by
 intro F K hK
 have hh:=hK _ _ ⟨rfl,rfl⟩
 clear hK
 refine S.I fun u=>?_
 (repeat (first
  |simp only[WKb,↓reduceIte]
  |fail))
 refine Tr.call (xdO a t) [0] rfl ?_
 rintro v l' ⟨rfl,rfl⟩
 (repeat (first
  |simp only[WKb]
  |fail))
 refine Tr.loop (α:=Nat) [6] [0,5] (fun k=>[.int .i64 k]) (fun k=>[YG a (t.freeTo k)]) (fun k=>k≤t.d.length) (fun k=>t.d.length-k) (F:=F) 0 S.o rfl (fun w h=>h) fun k u hk=>?_
 by_cases hlt:k<t.d.length
 ·simp only[List.nil_append,List.cons_append,YG,Tr.ex_iff,Tr.sep_iff]
  intro m
  have hw:IntKind.i64.wrap ((k:Int)+1)=((k+1:Nat):Int):=by rw[xaG S.o S.o];rfl
  have hhas: (t.freeTo k).has k=true:=by simp[Tb.has,Jr];omega
  (repeat (first
  |simp only[WKb,↓reduceIte,Nat.reduceEqDiff,Nat.reduceAdd,xL5,VR]
  |refine Tr.load1 (by(repeat (first|exact Cell.blk rfl|apply Cell.next))) ?_
  |refine Tr.loadN (by(repeat (first|exact XP.blk0 rfl|apply XP.next))) ?_
  |refine Tr.alloc rfl fun _=>?_
  |refine Tr.drewK ?_
  |refine Tr.storeW rfl rfl rfl (by(repeat (first|exact Upd.here|apply Upd.next));done) (by rfl) ?_
  |refine Tr.store rfl rfl rfl (by(repeat (first|exact Upd.here|apply Upd.next));done) (by first|exact Nat.le_of_ble_eq_true rfl|fail) ?_
  |refine Tr.lookup (by(repeat (first|exact Has.here|apply Has.next));done) ?_
  |refine Tr.mapUpdate (by(repeat (first|exact V6.here|apply V6.next));done) ?_
  |refine Tr.condT (by first|rfl|(simp only[decide_eq_true_eq];omega)) ?_
  |fail))
  refine Tr.again (k+1) (by simp only[WKb,↓reduceIte,Nat.reduceEqDiff]) (by simp only[WKb,↓reduceIte,hw]) S.o S.o ?_
  refine Tr.drop (Tr.sat_of fun w hw=>?_)
  simp only[List.nil_append,List.cons_append,Sat.ex_iff,Sat.sep_iff]
  refine⟨m,?_⟩
  rw[show kvF 0 (t.freeTo (k+1)).d=ZC k ({(t.freeTo k).at k with parked:=false}:One).v (kvF 0 (t.freeTo k).d)from xkB (t.freeTo k) k _ hhas]
  exact hw
 ·have:k=t.d.length:=by omega
  subst this
  (repeat (first
  |simp only[WKb,↓reduceIte,Nat.reduceEqDiff]
  |refine Tr.condF (by first|rfl|(simp only[decide_eq_false_iff_not];omega)) ?_))
  exact hh
def Tb.startB (t:Tb) (k:Int):Bool:=t.has k&&decide ((t.at k).state=0)
def Tb.start (t:Tb) (k win:Int):Tb:=if t.startB k then t.put k {t.at k with prio:=(t.at k).cprio,next:=IntKind.i64.wrap (win+(t.at k).period)} 1 else t
theorem xi7 (a:Nat) (t:Tb) (k win:Int):Xb prog 116 #[.pointer (some ⟨a,0,none⟩),.int .i64 k,.int .i64 win] [YG a t] fun v l'=>v=.bool (t.startB k)∧l'=[YG a (t.start k win)]:=by
 intro F K hK
 have hh:=hK _ _ ⟨rfl,rfl⟩
 clear hK
 refine S.I fun u=>?_
 (repeat (first
  |simp only[WKb,↓reduceIte,Nat.reduceEqDiff,Nat.reduceAdd]
  |fail))
 refine Tr.call (Qv a t k) [0] rfl ?_
 rintro v l' ⟨rfl,rfl⟩
 unfold Tb.start at hh
 cases e:t.has k
 ·simp only[Tb.startB,e,Bool.false_and,Bool.false_eq_true,if_false]at hh
  (repeat (first
  |simp only[WKb,↓reduceIte,Nat.reduceEqDiff]
  |refine Tr.alloc rfl fun _=>?_
  |refine Tr.storeW rfl rfl rfl (by(repeat (first|exact Upd.here|apply Upd.next));done) (by rfl) ?_
  |fail))
  repeat (first|exact hh|refine Tr.drop ?_)
 ·cases e1:decide ((t.at k).state=0)
  ·simp only[Tb.startB,e,e1,Bool.true_and,Bool.false_eq_true,if_false]at hh
   (repeat (first
  |simp only[WKb,↓reduceIte,Nat.reduceEqDiff,e1]
  |refine Tr.load1 (by(repeat (first|exact Cell.blk rfl|apply Cell.next))) ?_
  |refine Tr.alloc rfl fun _=>?_
  |refine Tr.storeW rfl rfl rfl (by(repeat (first|exact Upd.here|apply Upd.next));done) (by rfl) ?_
  |fail))
   repeat (first|exact hh|refine Tr.drop ?_)
  ·simp only[Tb.startB,e,e1,Bool.true_and,if_true]at hh
   (repeat (first
  |simp only[WKb,↓reduceIte,Nat.reduceEqDiff,Nat.reduceAdd,e1]
  |refine Tr.load1 (by(repeat (first|exact Cell.blk rfl|apply Cell.next))) ?_
  |refine Tr.loadN (by(repeat (first|exact XP.blk0 rfl|apply XP.next))) ?_
  |refine Tr.alloc rfl fun _=>?_
  |refine Tr.storeW rfl rfl rfl (by(repeat (first|exact Upd.here|apply Upd.next));done) (by rfl) ?_
  |refine Tr.store rfl rfl rfl (by(repeat (first|exact Upd.here|apply Upd.next));done) (by first|exact Nat.le_of_ble_eq_true rfl|fail) ?_
  |fail))
   refine Tr.call (xf8 a t k {t.at k with prio:=(t.at k).cprio,next:=IntKind.i64.wrap (win+(t.at k).period)} 1 (Wd e).1 (Wd e).2) [1] rfl ?_
   rintro v l' ⟨rfl,rfl⟩
   (repeat (first
  |simp only[WKb,↓reduceIte]
  |fail))
   refine Tr.perm (List.Perm.swap _ _ _) ?_
   refine Tr.drop ?_
   exact hh
def One.due (win:Int) (d:One):Bool:=decide (d.state=2)&&decide (0≤d.wake)&&decide (d.wake≤win)
def Tb.dueTo (t:Tb) (win:Int):Nat→List Int
 |0=>[]
 |k+1=>t.dueTo win k++if(t.at k).due win then[(k:Int)]else[]
theorem xue (a:Nat) (t:Tb) (win:Int) (hn:t.d.length≤1000000):Xb prog 185 #[.pointer (some ⟨a,0,none⟩),.int .i64 win] [YG a t] fun v l'=>∃s:SV,v=s.v∧l'=[sl false s.v (t.dueTo win t.d.length),YG a t]:=by
 intro F K hK
 have hh:=fun s:SV=>hK _ _ ⟨s,rfl,rfl⟩
 clear hK
 refine S.I fun u=>?_
 (repeat (first
  |simp only[WKb,↓reduceIte,Nat.reduceEqDiff,Nat.reduceAdd]
  |fail))
 refine Tr.call (xdO a t) [0] rfl ?_
 rintro v l' ⟨rfl,rfl⟩
 (repeat (first
  |simp only[WKb]
  |fail))
 refine Tr.nilSl (α:=Int) ?_
 refine Tr.loop (α:=Nat×SV) [5,10] [0,1,9] (fun x=>[x.2.v,.int .i64 x.1]) (fun x=>[sl false x.2.v (t.dueTo win x.1),YG a t]) (fun x=>x.1≤t.d.length∧(t.dueTo win x.1).length≤x.1) (fun x=>t.d.length-x.1) (F:=F) (0,⟨none,0,0⟩) (by simp[Tb.dueTo]) rfl (fun w h=>h) fun x u hx=>?_
 obtain⟨k,s⟩:=x
 obtain⟨hk,hl⟩:=hx
 simp only at hk hl⊢
 by_cases hlt:k<t.d.length
 ·simp only[List.nil_append,List.cons_append,YG]
  refine Tr.front [1] ?_
  rw[show∀A B C,front [1] (A::B::C)=B::A::C from fun _ _ _=>rfl]
  rw[Tr.ex_iff];intro m;rw[Tr.sep_iff]
  have hw:IntKind.i64.wrap ((k:Int)+1)=((k+1:Nat):Int):=by rw[xaG S.o S.o];rfl
  (repeat (first
  |simp only[WKb,↓reduceIte,Nat.reduceEqDiff,VR]
  |refine Tr.load1 (by(repeat (first|exact Cell.blk rfl|apply Cell.next))) ?_
  |refine Tr.alloc rfl fun _=>?_
  |refine Tr.storeW rfl rfl rfl (by(repeat (first|exact Upd.here|apply Upd.next));done) (by rfl) ?_
  |refine Tr.lookup (by(repeat (first|exact Has.here|apply Has.next));done) ?_
  |refine Tr.condT (by first|rfl|(simp only[decide_eq_true_eq];omega)) ?_
  |fail))
  have fin:∀(s':SV) (ds:List Int),ds=t.dueTo win (k+1)→∀w,Sat w (blk a (.cells #[Value.map (some m),Value.int IntKind.i64 t.turns] 219 (0,0))::mp m (kvF 0 t.d)::sl false s'.v ds::F)→Sat w ([sl false s'.v (t.dueTo win (k+1)),YG a t]++F):=by
   intro s' ds hds w hw
   subst hds
   refine Sat.perm (List.Perm.swap _ _ _) ?_
   simp only[YG,Sat.ex_iff,Sat.sep_iff]
   exact⟨m,hw⟩
  have hskip: (t.at k).due win=false→t.dueTo win (k+1)=t.dueTo win k:=fun h=>by simp[Tb.dueTo,h]
  have hlen: (t.dueTo win (k+1)).length≤k+1:=by
   simp only[Tb.dueTo,List.length_append];split<;>simp<;>omega
  cases e1:decide ((t.at k).state=2)
  ·have hs:=hskip (by simp[One.due,e1])
   (repeat (first
  |simp only[WKb,↓reduceIte,Nat.reduceEqDiff]
  |fail))
   refine Tr.drop ?_
   refine Tr.again (k+1,s) (by simp only[WKb,↓reduceIte,Nat.reduceEqDiff]) (by simp only[WKb,↓reduceIte,Nat.reduceEqDiff,hw]) ⟨by simp;omega,hlen⟩ (by simp;omega) ?_
   exact Tr.sat_of fun w h=>fin s _ hs.symm w h
  ·cases e2:decide (0≤(t.at k).wake)
   ·have hs:=hskip (by simp[One.due,e1,e2])
    (repeat (first
  |simp only[WKb,↓reduceIte,Nat.reduceEqDiff,Nat.reduceAdd,e2]
  |refine Tr.load1 (by(repeat (first|exact Cell.blk rfl|apply Cell.next))) ?_
  | fail))
    refine Tr.drop ?_
    refine Tr.again (k+1,s) (by simp only[WKb,↓reduceIte,Nat.reduceEqDiff]) (by simp only[WKb,↓reduceIte,Nat.reduceEqDiff,hw]) ⟨by simp;omega,hlen⟩ (by simp;omega) ?_
    exact Tr.sat_of fun w h=>fin s _ hs.symm w h
   ·cases e3:decide ((t.at k).wake≤win)
    ·have hs:=hskip (by simp[One.due,e1,e2,e3])
     (repeat (first
  |simp only[WKb,↓reduceIte,Nat.reduceEqDiff,Nat.reduceAdd,e2,e3]
  |refine Tr.load1 (by(repeat (first|exact Cell.blk rfl|apply Cell.next))) ?_
  | fail))
     refine Tr.drop ?_
     refine Tr.again (k+1,s) (by simp only[WKb,↓reduceIte,Nat.reduceEqDiff]) (by simp only[WKb,↓reduceIte,Nat.reduceEqDiff,hw]) ⟨by simp;omega,hlen⟩ (by simp;omega) ?_
     exact Tr.sat_of fun w h=>fin s _ hs.symm w h
    ·have hs:t.dueTo win (k+1)=t.dueTo win k++[(k:Int)]:=by simp[Tb.dueTo,One.due,e1,e2,e3]
     (repeat (first
  |simp only[WKb,↓reduceIte,Nat.reduceEqDiff,Nat.reduceAdd,e2,e3]
  |refine Tr.load1 (by(repeat (first|exact Cell.blk rfl|apply Cell.next))) ?_
  |fail))
     refine Tr.buildSlice (α:=Int) (xs:=[(k:Int)]) (d:=(0:Int)) rfl rfl (by decide) rfl fun s2=>?_
     (repeat (first
  |simp only[WKb,↓reduceIte,Nat.reduceEqDiff]
  |fail))
     refine Tr.append (α:=Int) (xs:=t.dueTo win k) (ys:=[(k:Int)]) rfl S.K (by(repeat (first|exact Has.here|fail));done) (by decide) (by simp;omega) fun s3=>?_
     (repeat (first
  |simp only[WKb,↓reduceIte,Nat.reduceEqDiff]
  |fail))
     refine Tr.again (k+1,s3) (by simp only[WKb,↓reduceIte,Nat.reduceEqDiff]) (by simp only[WKb,↓reduceIte,Nat.reduceEqDiff,hw]) ⟨by simp;omega,hlen⟩ (by simp;omega) ?_
     exact Tr.sat_of fun w h=>fin s3 _ hs.symm w ((Sat.tail (Sat.tail (h.perm (YH [1,1] _)))).perm (YH [1,1] _))
 ·have:k=t.d.length:=by omega
  subst this
  (repeat (first
  |simp only[WKb,↓reduceIte,Nat.reduceEqDiff]
  |refine Tr.condF (by first|rfl|(simp only[decide_eq_false_iff_not];omega)) ?_))
  exact hh s
end
theorem xsS {a m:Nat} {t:Tb} {k:Int} {x:One} {F:List Xc} {X:WP} (h:t.has k=true) (hx:Tr (YG a {t with d:=t.d.set k.toNat x}::F) X):
  Tr (blk a (.cells #[.map (some m),.int .i64 t.turns] 219 (0,0))::mp m (ZC k x.v (kvF 0 t.d))::F) X:=by
 rw[←xkB t k x h]
 exact Tr.sep_iff.1 ((Tr.ex_iff.1 hx) m)
theorem xoE {a m:Nat} {t:Tb} {F:List Xc} {X:WP} (hx:Tr (YG a t::F) X):
  Tr (blk a (.cells #[.map (some m),.int .i64 t.turns] 219 (0,0))::mp m (kvF 0 t.d)::F) X:=Tr.sep_iff.1 ((Tr.ex_iff.1 hx) m)
section
attribute [local irreducible] BrK Xq Xt Xv XI FnK XZ Xw XC XV opX opK Yq Yk eqR Yj Yo Ys WL WD W X3 XO Tr drewK Ya X4 Yw Yv X1 YB mp blk rob sl sep ex fact old
def One.skips (win:Int) (d:One):Bool:=decide (d.period≤0)||decide (d.state=0)||decide (d.state=3)||decide (win<d.next)
structure Rl where
 t:Tb
 rel:List Int
 mis:List Int
def Rl.step (win:Int) (k:Nat) (r:Rl):Rl:=
 let p:=r.t.at k
 if p.skips win then r else
 let p':={p with next:=IntKind.i64.wrap (win+p.period)}
 let t':={r.t with d:=r.t.d.set k p'}
 if p.state=4 then{t:=t'.put k p' 1,rel:=r.rel++[(k:Int)],mis:=r.mis}else{t:=t',rel:=r.rel,mis:=r.mis++[(k:Int)]}
def Tb.relTo (t:Tb) (win:Int):Nat→Rl
 |0=>⟨t,[],[]⟩
 |k+1=>(t.relTo win k).step win k
theorem VM (t:Tb) (win:Int):∀k,(t.relTo win k).t.d.length=t.d.length∧(t.relTo win k).rel.length≤k∧(t.relTo win k).mis.length≤k
 |0=>by simp[Tb.relTo]
 |k+1=>by
  have ih:=VM t win k
  simp only[Tb.relTo,Rl.step]
  split
  ·omega
  ·split<;>simp[Tb.put]<;>omega
theorem xbn (a:Nat) (t:Tb) (win:Int) (hn:t.d.length≤1000000):Xb prog 177 #[.pointer (some ⟨a,0,none⟩),.int .i64 win] [YG a t]
  fun v l'=>∃s1 s2:SV,v=.tuple #[s1.v,s2.v]∧l'=[sl false s1.v (t.relTo win t.d.length).rel,sl false s2.v (t.relTo win t.d.length).mis,YG a (t.relTo win t.d.length).t]:=by
 intro F K hK
 have hh:=fun s1 s2:SV=>hK _ _ ⟨s1,s2,rfl,rfl⟩
 clear hK
 refine S.I fun u=>?_
 (repeat (first
  |simp only[WKb,↓reduceIte,Nat.reduceEqDiff,Nat.reduceAdd]
  |fail))
 refine Tr.call (xdO a t) [0] rfl ?_
 rintro v l' ⟨rfl,rfl⟩
 (repeat (first
  |simp only[WKb]
  |fail))
 refine Tr.nilSl (α:=Int) (Tr.nilSl (α:=Int) ?_)
 refine Tr.loop (α:=Nat×SV×SV) [6,7,12] [0,1,11] (fun x=>[x.2.1.v,x.2.2.v,.int .i64 x.1]) (fun x=>[sl false x.2.1.v (t.relTo win x.1).rel,sl false x.2.2.v (t.relTo win x.1).mis,YG a (t.relTo win x.1).t]) (fun x=>x.1≤t.d.length) (fun x=>t.d.length-x.1) (F:=F) (0,⟨none,0,0⟩,⟨none,0,0⟩) (by simp) rfl (fun w h=>h) fun x u hx=>?_
 obtain⟨k,s1,s2⟩:=x
 simp only at hx⊢
 obtain⟨hl1,hl2,hl3⟩:=VM t win k
 by_cases hlt:k<t.d.length
 ·have hw:IntKind.i64.wrap ((k:Int)+1)=((k+1:Nat):Int):=by rw[xaG S.o S.o];rfl
  have hst:t.relTo win (k+1)=(t.relTo win k).step win k:=rfl
  generalize t.relTo win k=r at*
  generalize hr':t.relTo win (k+1)=r' at*
  have hhas:r.t.has k=true:=by simp[Tb.has];omega
  simp only[List.nil_append,List.cons_append,YG]
  refine Tr.front [2] ?_
  rw[show∀A B C D,front [2] (A::B::C::D)=C::A::B::D from fun _ _ _ _=>rfl]
  rw[Tr.ex_iff];intro m;rw[Tr.sep_iff]
  (repeat (first
  |simp only[WKb,↓reduceIte,Nat.reduceEqDiff,VR]
  |refine Tr.load1 (by(repeat (first|exact Cell.blk rfl|apply Cell.next))) ?_
  |refine Tr.alloc rfl fun _=>?_
  |refine Tr.storeW rfl rfl rfl (by(repeat (first|exact Upd.here|apply Upd.next));done) (by rfl) ?_
  |refine Tr.lookup (by(repeat (first|exact Has.here|apply Has.next));done) ?_
  |refine Tr.condT (by first|rfl|(simp only[decide_eq_true_eq];omega)) ?_
  |fail))
  have skip: (r.t.at k).skips win=true→r'=r:=fun h=>by rw[hst];simp[Rl.step,h]
  have fin:r'=r→∀w,Sat w (blk a (.cells #[Value.map (some m),Value.int IntKind.i64 r.t.turns] 219 (0,0))::mp m (kvF 0 r.t.d)::sl false s1.v r.rel::sl false s2.v r.mis::F)→
    Sat w ([sl false s1.v r'.rel,sl false s2.v r'.mis,YG a r'.t]++F):=by
   intro h w hw
   subst h
   have h2:Sat w (YG a r'.t::sl false s1.v r'.rel::sl false s2.v r'.mis::F):=by
    simp only[YG,Sat.ex_iff,Sat.sep_iff];exact⟨m,hw⟩
   exact h2.perm (YH [1,1] _)
  cases e1:decide ((r.t.at k).period≤0)
  rotate_left
  ·have hs:=skip (by simp[One.skips,e1])
   (repeat (first
  |simp only[WKb,↓reduceIte,Nat.reduceEqDiff]
  |fail))
   refine Tr.drop ?_
   refine Tr.again (k+1,s1,s2) (by simp only[WKb,↓reduceIte,Nat.reduceEqDiff]) (by simp only[WKb,↓reduceIte,Nat.reduceEqDiff,hw]) (by simp;omega) (by simp;omega) ?_
   simp only[hr']
   exact Tr.sat_of fun w h=>fin hs w h
  cases e2:decide ((r.t.at k).state=0)
  rotate_left
  ·have hs:=skip (by simp[One.skips,e1,e2])
   (repeat (first
  |simp only[WKb,↓reduceIte,Nat.reduceEqDiff,e2]
  |refine Tr.load1 (by(repeat (first|exact Cell.blk rfl|apply Cell.next))) ?_
  |fail))
   refine Tr.drop ?_
   refine Tr.again (k+1,s1,s2) (by simp only[WKb,↓reduceIte,Nat.reduceEqDiff]) (by simp only[WKb,↓reduceIte,Nat.reduceEqDiff,hw]) (by simp;omega) (by simp;omega) ?_
   simp only[hr']
   exact Tr.sat_of fun w h=>fin hs w h
  cases e3:decide ((r.t.at k).state=3)
  rotate_left
  ·have hs:=skip (by simp[One.skips,e1,e2,e3])
   (repeat (first
  |simp only[WKb,↓reduceIte,Nat.reduceEqDiff,e2,e3]
  |refine Tr.load1 (by(repeat (first|exact Cell.blk rfl|apply Cell.next))) ?_
  |fail))
   refine Tr.drop ?_
   refine Tr.again (k+1,s1,s2) (by simp only[WKb,↓reduceIte,Nat.reduceEqDiff]) (by simp only[WKb,↓reduceIte,Nat.reduceEqDiff,hw]) (by simp;omega) (by simp;omega) ?_
   simp only[hr']
   exact Tr.sat_of fun w h=>fin hs w h
  cases e4:decide (win<(r.t.at k).next)
  rotate_left
  ·have hs:=skip (by simp[One.skips,e1,e2,e3,e4])
   (repeat (first
  |simp only[WKb,↓reduceIte,Nat.reduceEqDiff,e2,e3,e4]
  |refine Tr.load1 (by(repeat (first|exact Cell.blk rfl|apply Cell.next))) ?_
  |fail))
   refine Tr.drop ?_
   refine Tr.again (k+1,s1,s2) (by simp only[WKb,↓reduceIte,Nat.reduceEqDiff]) (by simp only[WKb,↓reduceIte,Nat.reduceEqDiff,hw]) (by simp;omega) (by simp;omega) ?_
   simp only[hr']
   exact Tr.sat_of fun w h=>fin hs w h
  have hns: (r.t.at k).skips win=false:=by simp[One.skips,e1,e2,e3,e4]
  (repeat (first
  |simp only[WKb,↓reduceIte,Nat.reduceEqDiff,Nat.reduceAdd,xMe,e2,e3,e4]
  |refine Tr.load1 (by(repeat (first|exact Cell.blk rfl|apply Cell.next))) ?_
  |refine Tr.loadN (by(repeat (first|exact XP.blk0 rfl|apply XP.next))) ?_
  |refine Tr.drewK ?_
  |refine Tr.store rfl rfl rfl (by(repeat (first|exact Upd.here|apply Upd.next));done) (by first|exact Nat.le_of_ble_eq_true rfl|fail) ?_
  |refine Tr.mapUpdate (by(repeat (first|exact V6.here|apply V6.next));done) ?_
  |fail))
  refine Tr.front [1,1] ?_
  rw[show∀A B C D,front [1,1] (A::B::C::D)=B::C::A::D from fun _ _ _ _=>rfl]
  refine xsS (x:={r.t.at k with next:=IntKind.i64.wrap (win+(r.t.at k).period)}) hhas ?_
  have hlen8:∀n,n≤k→(2*(n+1)+1000)*8≤2^48:=fun n h=>by omega
  cases e5:decide ((r.t.at k).state=4)
  ·have f5:¬(r.t.at k).state=4:=by simpa using e5
   have hs:r'={t:={r.t with d:=r.t.d.set k {r.t.at k with next:=IntKind.i64.wrap (win+(r.t.at k).period)}},rel:=r.rel,mis:=r.mis++[(k:Int)]}:=by
    rw[hst];simp only[Rl.step,hns,Bool.false_eq_true,if_false,f5]
   (repeat (first
  |simp only[WKb,↓reduceIte,Nat.reduceEqDiff]
  |fail))
   refine Tr.buildSlice (α:=Int) (xs:=[(k:Int)]) (d:=(0:Int)) rfl rfl (by decide) rfl fun s0=>?_
   (repeat (first
  |simp only[WKb,↓reduceIte,Nat.reduceEqDiff]
  |fail))
   refine Tr.append (α:=Int) (xs:=r.mis) (ys:=[(k:Int)]) rfl S.K (by(repeat (first|exact Has.here|fail));done) (by decide) (hlen8 _ hl3) fun s3=>?_
   (repeat (first
  |simp only[WKb,↓reduceIte,Nat.reduceEqDiff]
  |fail))
   refine Tr.again (k+1,s1,s3) (by simp only[WKb,↓reduceIte,Nat.reduceEqDiff]) (by simp only[WKb,↓reduceIte,Nat.reduceEqDiff,hw]) (by simp;omega) (by simp;omega) ?_
   simp only[hr',hs]
   exact Tr.sat_of fun w h=>(Sat.tail ((Sat.tail (h.perm (YH [1] _))).perm (YH [2] _))).perm (YH [2,0] _)
  ·have f5: (r.t.at k).state=4:=by simpa using e5
   have hs:r'={t:=Tb.put {r.t with d:=r.t.d.set k {r.t.at k with next:=IntKind.i64.wrap (win+(r.t.at k).period)}} k {r.t.at k with next:=IntKind.i64.wrap (win+(r.t.at k).period)} 1,rel:=r.rel++[(k:Int)],mis:=r.mis}:=by
    rw[hst];simp only[Rl.step,hns,Bool.false_eq_true,if_false,f5,if_true]
   (repeat (first
  |simp only[WKb,↓reduceIte,Nat.reduceEqDiff]
  |refine Tr.loadN (by(repeat (first|exact XP.blk0 rfl|apply XP.next))) ?_
  |fail))
   refine Tr.call (xf8 a {r.t with d:=r.t.d.set k {r.t.at k with next:=IntKind.i64.wrap (win+(r.t.at k).period)}} k {r.t.at k with next:=IntKind.i64.wrap (win+(r.t.at k).period)} 1 S.o (by simp;omega)) [0] rfl ?_
   rintro v l' ⟨rfl,rfl⟩
   (repeat (first
  |simp only[WKb,↓reduceIte,Nat.reduceEqDiff]
  |fail))
   refine Tr.buildSlice (α:=Int) (xs:=[(k:Int)]) (d:=(0:Int)) rfl rfl (by decide) rfl fun s0=>?_
   (repeat (first
  |simp only[WKb,↓reduceIte,Nat.reduceEqDiff]
  |fail))
   refine Tr.append (α:=Int) (xs:=r.rel) (ys:=[(k:Int)]) rfl S.K (by(repeat (first|exact Has.here|fail));done) (by decide) (hlen8 _ hl2) fun s3=>?_
   (repeat (first
  |simp only[WKb,↓reduceIte,Nat.reduceEqDiff]
  |fail))
   refine Tr.again (k+1,s3,s2) (by simp only[WKb,↓reduceIte,Nat.reduceEqDiff]) (by simp only[WKb,↓reduceIte,Nat.reduceEqDiff,hw]) (by simp;omega) (by simp;omega) ?_
   simp only[hr',hs]
   exact Tr.sat_of fun w h=>(Sat.tail ((Sat.tail (h.perm (YH [1] _))).perm (YH [2] _))).perm (YH [0,1] _)
 ·have:k=t.d.length:=by omega
  subst this
  (repeat (first
  |simp only[WKb,↓reduceIte,Nat.reduceEqDiff]
  |refine Tr.condF (by first|rfl|(simp only[decide_eq_false_iff_not];omega)) ?_))
  exact hh s1 s2
abbrev xja:=WZ
def One.new (c:xja):One:={One.zero with cprio:=c.prio,period:=c.period,cost:=c.cost,prio:=c.prio}
def Tb.new (l:List xja):Tb:={d:=(l.take 8).map One.new,turns:=0}
theorem xh6 (x:One):∀(d:List One) (i:Nat),kvF i (d++[x])=kvF i d++[(((i+d.length:Nat):Int),x.v)]
 |[],i=>by simp[kvF]
 |y::d,i=>by
  simp only[List.cons_append,kvF,xh6 x d (i+1),List.length_cons]
  rw[show i+1+d.length=i+(d.length+1) by omega]
theorem xj1 (x:One) (d:List One) (k:Nat) (h:d.length=k):ZC (k:Int) x.v (kvF 0 d)=kvF 0 (d++[x]):=by
 rw[xah,xh6,Nat.zero_add,h]
 rw[xdH,if_neg S.o]
theorem xuN (s:SV) (l:List xja):Xb prog 69 #[s.v] [sl true s.v l] fun v l'=>∃a,v=.pointer (some ⟨a,0,none⟩)∧l'=[YG a (Tb.new l),sl true s.v l]:=by
 intro F K hK
 have hh:=fun a=>hK _ _ ⟨a,rfl,rfl⟩
 clear hK
 simp only[ap]at hh⊢
 refine S.I fun u=>?_
 have hmin: (0:Int)≤(if(8:Int)<(l.length:Int)then 8 else(l.length:Int))∧(if(8:Int)<(l.length:Int)then 8 else(l.length:Int))≤l.length∧(if(8:Int)<(l.length:Int)then 8 else(l.length:Int))≤8:=by split<;>omega
 generalize hq: (if(8:Int)<(l.length:Int)then 8 else(l.length:Int))=q at hmin
 obtain⟨hq0,hq1,hq2⟩:=hmin
 (repeat (first
  |simp only[WKb,↓reduceIte,Nat.reduceEqDiff,hq]
  |refine Tr.box rfl fun _=>?_
  |refine Tr.build rfl ?_
  |refine Tr.len (by(repeat (first|exact Has.here|apply Has.next));done) ?_
  |refine Tr.cutTo (by(repeat (first|exact Has.here|apply Has.next));done) (by rfl) S.o S.o fun _=>?_
  |refine Tr.makeMap fun _=>?_
  |fail))
 rename_i m a s2
 have hlt: (l.take q.toNat).length=q.toNat:=by rw[List.length_take];omega
 generalize hls:l.take q.toNat=ls at*
 refine Tr.loop (α:=Nat) [15] [3,13,14] (fun k=>[.int .i64 k]) (fun k=>[mp m (kvF 0 ((ls.take k).map One.new)),sl true s2.v ls,blk a (.cells #[Value.map (some m),Value.int IntKind.i64 0] 219 (0,0))]) (fun k=>k≤ls.length) (fun k=>ls.length-k) (F:=sl true s.v l::F) 0 S.o rfl (fun w h=>h.perm (YH [2,0,0] _)) fun k u hk=>?_
 by_cases hlt2:k<ls.length
 ·have hw:IntKind.i64.wrap ((k:Int)+1)=((k+1:Nat):Int):=by rw[xaG S.o S.o];rfl
  have hx:ls[(k:Int).toNat]? =some ls[k]:=by simp[hlt2]
  simp only[ap]
  (repeat (first
  |simp only[WKb,↓reduceIte,Nat.reduceEqDiff,Nat.reduceAdd,xNP]
  |refine Tr.load1 (by(repeat (first|exact Cell.blk rfl|apply Cell.next))) ?_
  |refine Tr.loadN (by(repeat (first|exact XP.blk0 rfl|exact XP.sl0 (by(repeat (first|exact Has.here|apply Has.next));done) ‹_› rfl|apply XP.next))) ?_
  |refine Tr.alloc rfl fun _=>?_
  |refine Tr.build rfl ?_
  |refine Tr.drewK ?_
  |refine Tr.storeW rfl rfl rfl (by(repeat (first|exact Upd.here|apply Upd.next));done) (by rfl) ?_
  |refine Tr.mapUpdate (by(repeat (first|exact V6.here|apply V6.next));done) ?_
  |refine Tr.index (by(repeat (first|exact Has.here|apply Has.next));done) (by rfl) S.o S.o ?_
  |refine Tr.condT (by first|rfl|(simp only[decide_eq_true_eq];omega)) ?_
  |fail))
  have hup:ZC (k:Int) (One.new ls[k]).v (kvF 0 ((ls.take k).map One.new))=kvF 0 ((ls.take (k+1)).map One.new):=by
   rw[xj1 _ _ k (by simp;omega),List.take_succ_eq_append_getElem hlt2,List.map_append];rfl
  refine Tr.drop ?_
  refine Tr.again (k+1) (by simp only[WKb,↓reduceIte,Nat.reduceEqDiff]) (by simp only[WKb,↓reduceIte,hw]) S.o S.o (Tr.sat_of fun w h=>?_)
  simp only[ap]
  rw[←hup]
  exact h
 ·have:k=ls.length:=by omega
  subst this
  (repeat (first
  |simp only[WKb,↓reduceIte,Nat.reduceEqDiff]
  |refine Tr.condF (by first|rfl|(simp only[decide_eq_false_iff_not];omega)) ?_))
  have h8:ls=l.take 8:=by
   rw[←hls]
   by_cases h: (8:Int)<l.length
   ·rw[if_pos h]at hq;subst hq;rfl
   ·rw[if_neg h]at hq;subst hq
    rw[List.take_of_length_le (by simp),List.take_of_length_le S.o]
  rw[List.take_length,h8]
  refine Tr.front [1] (Tr.drop ?_)
  refine Tr.front [1] ?_
  exact xoE (t:=Tb.new l) (hh a)
instance:Inhabited One:=⟨One.zero⟩
theorem WX (t:Tb) (win:Int):∀k,(t.dueTo win k).length≤k
 |0=>by simp[Tb.dueTo]
 |k+1=>by
  have ih:=WX t win k
  simp only[Tb.dueTo,List.length_append]
  split<;>simp<;>omega
