import Derived.Test.YtmebccjndhlpoaaGreatZ04
namespace Go.Proofs.YtmebccjndhlpoaaGreat
open Go Go.Wk Tryz
set_option maxHeartbeats 400000
set_option maxRecDepth 10000
section
attribute [local irreducible] BrK Xq Xt Xv XI FnK XZ Xw XC XV opX opK Yq Yk eqR Yj Yo Ys WL WD W X3 XO Tr drewK Ya X4 Yw Yv X1 YB mp blk rob sl sep ex fact old
structure One where
 cprio:Int
 period:Int
 cost:Int
 call:Int
 what:Int
 wake:Int
 state:Int
 prio:Int
 turn:Int
 next:Int
 parked:Bool
def One.zero:One:=⟨0,0,0,0,0,0,0,0,0,0,false⟩
instance:En One:=⟨fun d=>[.int .i64 d.cprio,.int .i64 d.period,.int .i64 d.cost,.int .i64 d.call,.int .i64 d.what,.int .i64 d.wake,.int .i64 d.state,.int .i64 d.prio,.int .i64 d.turn,.int .i64 d.next,.bool d.parked],11,fun _=>rfl,fun _=>rfl,by decide⟩
def One.ready (d:One):Bool:=decide (d.state=1)&&!d.parked
def One.v (d:One):Value:=.agg (En.enc d).toArray
structure Tb where
 d:List One
 turns:Int
def kvF (k:Nat):List One→List (Int×Value)
 |[]=>[]
 |x::r=>((k:Int),x.v)::kvF (k+1) r
def Tb.at (t:Tb) (k:Int):One:=if 0≤k then t.d.getD k.toNat One.zero else One.zero
def Tb.has (t:Tb) (k:Int):Bool:=decide (0≤k∧k<t.d.length)
def YG (a:Nat) (t:Tb):Xc:=ex fun m=>sep (blk a (.cells #[.map (some m),.int .i64 t.turns] 219 (0,0))) (mp m (kvF 0 t.d))
theorem xdH (k:Int):∀(d:List One) (i:Nat),find k (kvF i d)=if(i:Int)≤k∧k<i+d.length then some (d.getD (k-i).toNat One.zero).v else none
 |[],i=>by simp only[kvF,find,List.length_nil];rw[if_neg S.o]
 | x::d,i=>by
  simp only[kvF,find,xdH k d (i+1),List.length_cons]
  by_cases h:k=i
  ·subst h;simp;omega
  ·rw[if_neg h]
   by_cases h2: (i:Int)≤k∧k<i+(d.length+1)
   ·rw[if_pos S.o,if_pos (by push_cast;omega)]
    have: (k-i).toNat=(k-((i:Nat)+1:Nat)).toNat+1:=by omega
    rw[this,List.getD_cons_succ]
   ·rw[if_neg S.o,if_neg (by push_cast;omega)]
theorem xiX (t:Tb) (k:Int): (find k (kvF 0 t.d)).getD One.zero.v=(t.at k).v∧(find k (kvF 0 t.d)).isSome=t.has k:=by
 rw[xdH]
 unfold Tb.at Tb.has
 by_cases h:0≤k∧k<t.d.length
 ·rw[if_pos (by simpa using h),if_pos h.1];simp[h]
 ·rw[if_neg (by simpa using h)]
  constructor
  ·by_cases h0:0≤k
   ·rw[if_pos h0]
    have:t.d.length≤k.toNat:=by omega
    simp[List.getD_eq_getElem?_getD,List.getElem?_eq_none this]
   ·rw[if_neg h0];rfl
  ·simp[h]
theorem VR (t:Tb) (k:Int): (find k (kvF 0 t.d)).getD (.agg #[.int .i64 0,.int .i64 0,.int .i64 0,.int .i64 0,.int .i64 0,.int .i64 0,.int .i64 0,.int .i64 0,.int .i64 0,.int .i64 0,.bool false])=(t.at k).v:=(xiX t k).1
theorem xmV (t:Tb) (k:Int): (find k (kvF 0 t.d)).isSome=t.has k:=(xiX t k).2
theorem xeJ:∀(d:List One) (i:Nat),(kvF i d).length=d.length
 |[],_=>rfl
 |_::d,i=>by simp[kvF,xeJ d]
theorem xql (d:One):Xb prog 223 #[d.v] [] fun v l'=>v=.bool d.ready∧l'=[]:=by
 intro F K hK
 refine S.I fun u=>?_
 (repeat (first
  |simp only[WKb,↓reduceIte,Nat.reduceEqDiff]
  |refine Tr.load1 (by(repeat (first|exact Cell.blk rfl|apply Cell.next))) ?_
  |refine Tr.box rfl fun _=>?_
  |fail))
 refine Tr.guardT (fun hc=>?_) (fun hc=>?_)
 all_goals
  (repeat (first
  |simp only[WKb,↓reduceIte,Nat.reduceEqDiff,hc]
  |refine Tr.load1 (by(repeat (first|exact Cell.blk rfl|apply Cell.next))) ?_
  |fail))
  refine Tr.drop (hK _ _ ⟨?_,rfl⟩)
  simp[One.ready,hc]
theorem xdO (a:Nat) (t:Tb):Xb prog 74 #[.pointer (some ⟨a,0,none⟩)] [YG a t] fun v l'=>v=.int .i64 t.d.length∧l'=[YG a t]:=by
 intro F K hK
 have hh:=hK _ _ ⟨rfl,rfl⟩
 simp only[ap,YG,Tr.ex_iff,Tr.sep_iff]at hh⊢
 intro m
 refine S.I fun u=>?_
 (repeat (first
  |simp only[WKb,↓reduceIte,Nat.reduceEqDiff]
  |refine Tr.load1 (by(repeat (first|exact Cell.blk rfl|apply Cell.next))) ?_
  |refine Tr.lenMap (by(repeat (first|exact Has.here|apply Has.next));done) ?_
  |fail))
 rw[xeJ]
 exact hh m
theorem Qv (a:Nat) (t:Tb) (k:Int):Xb prog 174 #[.pointer (some ⟨a,0,none⟩),.int .i64 k] [YG a t] fun v l'=>v=.tuple #[(t.at k).v,.bool (t.has k)]∧l'=[YG a t]:=by
 intro F K hK
 have hh:=hK _ _ ⟨rfl,rfl⟩
 simp only[ap,YG,Tr.ex_iff,Tr.sep_iff]at hh⊢
 intro m
 refine S.I fun u=>?_
 (repeat (first
  |simp only[WKb,↓reduceIte,Nat.reduceEqDiff,Nat.reduceAdd,VR,xmV]
  |refine Tr.load1 (by(repeat (first|exact Cell.blk rfl|apply Cell.next))) ?_
  |refine Tr.loadN (by(repeat (first|exact XP.blk0 rfl|apply XP.next))) ?_
  |refine Tr.alloc rfl fun _=>?_
  |refine Tr.storeW rfl rfl rfl (by(repeat (first|exact Upd.here|apply Upd.next));done) (by rfl) ?_
  |refine Tr.lookup (by(repeat (first|exact Has.here|apply Has.next));done) ?_
  |fail))
 repeat (first|exact hh m|refine Tr.drop ?_)
def Tb.putP (t:Tb) (p:One) (s:Int):One:=
 let p:={p with state:=s}
 let p:=if s=1∨s=2 then{p with turn:=IntKind.i64.wrap (t.turns+1)}else p
 if s=2 then p else{p with call:=0,what:=0,wake:=0}
def Tb.putT (t:Tb) (s:Int):Int:=if s=1∨s=2 then IntKind.i64.wrap (t.turns+1)else t.turns
def Tb.put (t:Tb) (k:Int) (p:One) (s:Int):Tb:={d:=t.d.set k.toNat (t.putP p s),turns:=t.putT s}
theorem Qk (k:Int) (x:One):∀(d:List One) (i:Nat),(i:Int)≤k→k<i+d.length→ZC k x.v (kvF i d)=kvF i (d.set (k-i).toNat x)
 |[],i,h1,h2=>by simp at h2;omega
 | y::d,i,h1,h2=>by
  simp only[kvF,ZC]
  by_cases h:k=i
  ·subst h;simp[kvF]
  ·rw[if_neg h]
   have h3: (k-(i:Int)).toNat=(k-((i+1:Nat):Int)).toNat+1:=by omega
   rw[h3,List.set_cons_succ,kvF,Qk k x d (i+1) S.o (by simp at h2;push_cast;omega)]
theorem xvM (t:Tb) (k:Int) (p:One) (s:Int) (h0:0≤k) (h1:k<t.d.length):kvF 0 (t.put k p s).d=ZC k (t.putP p s).v (kvF 0 t.d):=by
 rw[Qk k _ t.d 0 (by simpa using h0) (by simpa using h1)];simp[Tb.put]
theorem xf8 (a:Nat) (t:Tb) (k:Int) (p:One) (s:Int) (h0:0≤k) (h1:k<t.d.length):Xb prog 175 #[.pointer (some ⟨a,0,none⟩),.int .i64 k,p.v,.int .i64 s] [YG a t] fun v l'=>v=.tuple #[]∧l'=[YG a (t.put k p s)]:=by
 intro F K hK
 have hh:=hK _ _ ⟨rfl,rfl⟩
 simp only[ap,YG,Tr.ex_iff,Tr.sep_iff]at hh⊢
 intro m
 have hm:=hh m
 rw[xvM t k p s h0 h1]at hm
 clear hh hK
 refine S.I fun u=>?_
 cases e1:decide (s=1)<;>cases e2:decide (s=2)
 ·have f1:¬s=1:=by simpa using e1
  have f2:¬s=2:=by simpa using e2
  simp only[Tb.put,Tb.putP,Tb.putT,f1,f2,or_self,if_false]at hm
  (repeat (first
  |simp only[WKb,↓reduceIte,Nat.reduceEqDiff,Nat.reduceAdd,xHs,e1,e2]
  |refine Tr.load1 (by(repeat (first|exact Cell.blk rfl|apply Cell.next))) ?_
  |refine Tr.loadN (by(repeat (first|exact XP.blk0 rfl|apply XP.next))) ?_
  |refine Tr.box rfl fun _=>?_
  |refine Tr.build rfl ?_
  |refine Tr.drewK ?_
  |refine Tr.store rfl rfl rfl (by(repeat (first|exact Upd.here|apply Upd.next));done) (by first|exact Nat.le_of_ble_eq_true rfl|fail) ?_
  |refine Tr.mapUpdate (by(repeat (first|exact V6.here|apply V6.next));done) ?_
  |fail))
  repeat (first|exact hm|refine Tr.drop ?_)
 ·have f1:¬s=1:=by simpa using e1
  have f2:s=2:=by simpa using e2
  simp only[Tb.put,Tb.putP,Tb.putT,f2,or_true,if_true]at hm
  (repeat (first
  |simp only[WKb,↓reduceIte,Nat.reduceEqDiff,Nat.reduceAdd,xHs,e1,e2]
  |refine Tr.load1 (by(repeat (first|exact Cell.blk rfl|apply Cell.next))) ?_
  |refine Tr.loadN (by(repeat (first|exact XP.blk0 rfl|apply XP.next))) ?_
  |refine Tr.box rfl fun _=>?_
  |refine Tr.drewK ?_
  |refine Tr.store rfl rfl rfl (by(repeat (first|exact Upd.here|apply Upd.next));done) (by first|exact Nat.le_of_ble_eq_true rfl|fail) ?_
  |refine Tr.mapUpdate (by(repeat (first|exact V6.here|apply V6.next));done) ?_
  |fail))
  subst f2
  repeat (first|exact hm|refine Tr.drop ?_)
 ·have f1:s=1:=by simpa using e1
  have f2:¬s=2:=by simpa using e2
  simp only[Tb.put,Tb.putP,Tb.putT,f1,true_or,if_true,show¬((1:Int)=2) by decide,if_false]at hm
  (repeat (first
  |simp only[WKb,↓reduceIte,Nat.reduceEqDiff,Nat.reduceAdd,xHs,e1,e2]
  |refine Tr.load1 (by(repeat (first|exact Cell.blk rfl|apply Cell.next))) ?_
  |refine Tr.loadN (by(repeat (first|exact XP.blk0 rfl|apply XP.next))) ?_
  |refine Tr.box rfl fun _=>?_
  |refine Tr.build rfl ?_
  |refine Tr.drewK ?_
  |refine Tr.store rfl rfl rfl (by(repeat (first|exact Upd.here|apply Upd.next));done) (by first|exact Nat.le_of_ble_eq_true rfl|fail) ?_
  |refine Tr.mapUpdate (by(repeat (first|exact V6.here|apply V6.next));done) ?_
  |fail))
  subst f1
  repeat (first|exact hm|refine Tr.drop ?_)
 ·exfalso
  have f1:s=1:=by simpa using e1
  have f2:s=2:=by simpa using e2
  omega
def One.ahead (p q:One):Bool:=if p.prio=q.prio then decide (p.turn<q.turn)else decide (q.prio<p.prio)
theorem xoS (p q:One):Xb prog 266 #[p.v,q.v] [] fun v l'=>v=.bool (p.ahead q)∧l'=[]:=by
 intro F K hK
 have hh:=hK _ _ ⟨rfl,rfl⟩
 simp only[List.nil_append]at hh⊢
 clear hK
 refine S.I fun u=>?_
 cases e1:decide (p.prio=q.prio)
 ·have f1:¬p.prio=q.prio:=by simpa using e1
  simp only[One.ahead,if_neg f1]at hh
  (repeat (first
  |simp only[WKb,↓reduceIte,Nat.reduceEqDiff,Nat.reduceAdd,e1]
  |refine Tr.load1 (by(repeat (first|exact Cell.blk rfl|apply Cell.next))) ?_
  |refine Tr.box rfl fun _=>?_
  |fail))
  repeat (first|exact hh|refine Tr.drop ?_)
 ·have f1:p.prio=q.prio:=by simpa using e1
  simp only[One.ahead,if_pos f1]at hh
  (repeat (first
  |simp only[WKb,↓reduceIte,Nat.reduceEqDiff,Nat.reduceAdd,e1]
  |refine Tr.load1 (by(repeat (first|exact Cell.blk rfl|apply Cell.next))) ?_
  |refine Tr.box rfl fun _=>?_
  |fail))
  repeat (first|exact hh|refine Tr.drop ?_)
def Tb.bestTo (t:Tb) (q:One→Bool):Nat→Int
 |0=>-1
 |k+1=>if q (t.at k)&&(decide (t.bestTo q k<0)||(t.at k).ahead (t.at (t.bestTo q k)))then k else t.bestTo q k
def Tb.best (t:Tb) (q:One→Bool):Int:=t.bestTo q t.d.length
theorem W5 (t:Tb) (q:One→Bool):∀k,-1≤t.bestTo q k∧t.bestTo q k<k
 |0=>by simp[Tb.bestTo]
 |k+1=>by
  have:=W5 t q k
  unfold Tb.bestTo
  split<;>omega
theorem xaG {x:Int} (h0:-9223372036854775808≤x) (h1:x≤9223372036854775807):IntKind.i64.wrap x=x:=by
 apply Go.IntWalk.i64_in<;>omega
theorem xl4 (a:Nat) (t:Tb) (f:Nat) [xqo prog f] (cap:List Value) (C:List Xc) (q:One→Bool) (hn:t.d.length≤1000000)
  (hq:∀d:One,Xb prog f (d.v::cap).toArray C fun v l'=>v=.bool (q d)∧l'=C):
  Xb prog 217 #[.pointer (some ⟨a,0,none⟩),.func (.func f) #[] cap.toArray] (YG a t::C) fun v l'=>v=.int .i64 (t.best q)∧l'=YG a t::C:=by
 intro F K hK
 have hh:=hK _ _ ⟨rfl,rfl⟩
 clear hK
 refine S.I fun u=>?_
 (repeat (first
  |simp only[WKb,↓reduceIte,Nat.reduceEqDiff,Nat.reduceAdd]
  |fail))
 refine Tr.call (xdO a t) [0] rfl ?_
 rintro v l' ⟨rfl,rfl⟩
 (repeat (first
  |simp only[WKb]
  |fail))
 refine Tr.loop (α:=Nat) [5,10] [0,1,6,9] (fun k=>[.int .i64 (t.bestTo q k),.int .i64 k]) (fun _=>[]) (fun k=>k≤t.d.length) (fun k=>t.d.length-k) 0 S.o rfl (fun w h=>h) fun k u hk=>?_
 have hb:=W5 t q k
 by_cases hlt:k<t.d.length
 ·simp only[List.nil_append,YG,Tr.ex_iff,Tr.sep_iff]
  intro m
  (repeat (first
  |simp only[WKb,↓reduceIte,Nat.reduceEqDiff,Nat.reduceAdd,xMf,VR]
  |refine Tr.load1 (by(repeat (first|exact Cell.blk rfl|apply Cell.next))) ?_
  |refine Tr.drewK ?_
  |refine Tr.lookup (by(repeat (first|exact Has.here|apply Has.next));done) ?_
  |refine Tr.condT (by first|rfl|(simp only[decide_eq_true_eq];omega)) ?_
  |fail))
  refine Tr.mid (l1:=[_,_]) ?_
  refine hq _ _ _ ?_
  rintro v l' ⟨rfl,hl⟩
  rw[hl];clear hl
  refine Tr.back ?_
  simp only[List.nil_append,List.cons_append]
  have hw:IntKind.i64.wrap ((k:Int)+1)=((k+1:Nat):Int):=by rw[xaG S.o S.o];rfl
  cases e1:q (t.at k)
  ·have hs:t.bestTo q (k+1)=t.bestTo q k:=by simp[Tb.bestTo,e1]
   (repeat (first
  |simp only[WKb,↓reduceIte,Nat.reduceEqDiff]
  | fail))
   refine Tr.again (k+1) (by simp only[WKb,↓reduceIte,Nat.reduceEqDiff]) (by simp only[WKb,↓reduceIte,Nat.reduceEqDiff,hw,hs]) S.o S.o ?_
   exact Tr.sat_of fun w hw=>by
    simp only[List.nil_append,Sat.ex_iff,Sat.sep_iff]
    exact⟨m,hw⟩
  ·cases e2:decide (t.bestTo q k<0)
   ·(repeat (first
  |simp only[WKb,↓reduceIte,Nat.reduceEqDiff,e2,VR]
  |refine Tr.load1 (by(repeat (first|exact Cell.blk rfl|apply Cell.next))) ?_
  |refine Tr.lookup (by(repeat (first|exact Has.here|apply Has.next));done) ?_
  | fail))
    refine Tr.call (xoS _ _) [] rfl ?_
    rintro v l' ⟨rfl,rfl⟩
    cases e3: (t.at k).ahead (t.at (t.bestTo q k))
    ·have hs:t.bestTo q (k+1)=t.bestTo q k:=by simp[Tb.bestTo,e1,e2,e3]
     (repeat (first
  |simp only[WKb,↓reduceIte,Nat.reduceEqDiff]
  | fail))
     refine Tr.again (k+1) (by simp only[WKb,↓reduceIte,Nat.reduceEqDiff]) (by simp only[WKb,↓reduceIte,Nat.reduceEqDiff,hw,hs]) S.o S.o ?_
     exact Tr.sat_of fun w hw=>by
      simp only[List.nil_append,Sat.ex_iff,Sat.sep_iff]
      exact⟨m,hw⟩
    ·have hs:t.bestTo q (k+1)=k:=by simp[Tb.bestTo,e1,e2,e3]
     (repeat (first
  |simp only[WKb,↓reduceIte,Nat.reduceEqDiff]
  | fail))
     refine Tr.again (k+1) (by simp only[WKb,↓reduceIte,Nat.reduceEqDiff]) (by simp only[WKb,↓reduceIte,Nat.reduceEqDiff,hw,hs]) S.o S.o ?_
     exact Tr.sat_of fun w hw=>by
      simp only[List.nil_append,Sat.ex_iff,Sat.sep_iff]
      exact⟨m,hw⟩
   ·have hs:t.bestTo q (k+1)=k:=by simp[Tb.bestTo,e1,e2]
    (repeat (first
  |simp only[WKb,↓reduceIte,Nat.reduceEqDiff,e2]
  | fail))
    refine Tr.again (k+1) (by simp only[WKb,↓reduceIte,Nat.reduceEqDiff]) (by simp only[WKb,↓reduceIte,Nat.reduceEqDiff,hw,hs]) S.o S.o ?_
    exact Tr.sat_of fun w hw=>by
     simp only[List.nil_append,Sat.ex_iff,Sat.sep_iff]
     exact⟨m,hw⟩
 ·have:k=t.d.length:=by omega
  subst this
  (repeat (first
  |simp only[WKb,↓reduceIte,Nat.reduceEqDiff]
  |refine Tr.condF (by first|rfl|(simp only[decide_eq_false_iff_not];omega)) ?_))
  exact hh
theorem xdB (a:Nat) (t:Tb) (hn:t.d.length≤1000000):Xb prog 187 #[.pointer (some ⟨a,0,none⟩)] [YG a t] fun v l'=>v=.int .i64 (t.best One.ready)∧l'=[YG a t]:=by
 intro F K hK
 have hh:=hK _ _ ⟨rfl,rfl⟩
 clear hK
 refine S.I fun u=>?_
 (repeat (first
  |simp only[WKb,↓reduceIte,Nat.reduceEqDiff]
  |fail))
 refine Tr.call (xl4 a t 223 [] [] One.ready hn (fun d=>xql d)) [0] rfl ?_
 rintro v l' ⟨rfl,rfl⟩
 (repeat (first
  |simp only[WKb,↓reduceIte]
  |fail))
 exact hh
def One.waits (call what:Int) (d:One):Bool:=decide (d.state=2)&&decide (d.call=call)&&decide (d.what=what)
theorem xnq (b1 b2:Nat) (call what:Int) (d:One):Xb prog 218 (d.v::[.pointer (some ⟨b1,0,none⟩),.pointer (some ⟨b2,0,none⟩)]).toArray
  [blk b2 (.cells #[.int .i64 what] 3 (0,0)),blk b1 (.cells #[.int .i64 call] 3 (0,0))] fun v l'=>v=.bool (d.waits call what)∧l'=[blk b2 (.cells #[.int .i64 what] 3 (0,0)),blk b1 (.cells #[.int .i64 call] 3 (0,0))]:=by
 intro F K hK
 have hh:=hK _ _ ⟨rfl,rfl⟩
 simp only[ap]at hh⊢
 clear hK
 refine S.I fun u=>?_
 cases e1:decide (d.state=2)
 ·simp only[One.waits,e1,Bool.false_and]at hh
  (repeat (first
  |simp only[WKb,↓reduceIte,Nat.reduceEqDiff,Nat.reduceAdd,e1]
  |refine Tr.load1 (by(repeat (first|exact Cell.blk rfl|apply Cell.next))) ?_
  |refine Tr.box rfl fun _=>?_
  |fail))
  repeat (first|exact hh|refine Tr.drop ?_)
 ·cases e2:decide (d.call=call)
  ·simp only[One.waits,e1,e2,Bool.true_and,Bool.false_and]at hh
   (repeat (first
  |simp only[WKb,↓reduceIte,Nat.reduceEqDiff,Nat.reduceAdd,e1,e2]
  |refine Tr.load1 (by(repeat (first|exact Cell.blk rfl|apply Cell.next))) ?_
  |refine Tr.box rfl fun _=>?_
  |fail))
   repeat (first|exact hh|refine Tr.drop ?_)
  ·simp only[One.waits,e1,e2,Bool.true_and]at hh
   (repeat (first
  |simp only[WKb,↓reduceIte,Nat.reduceEqDiff,Nat.reduceAdd,e1,e2]
  |refine Tr.load1 (by(repeat (first|exact Cell.blk rfl|apply Cell.next))) ?_
  |refine Tr.box rfl fun _=>?_
  |fail))
   repeat (first|exact hh|refine Tr.drop ?_)
theorem YV (a:Nat) (t:Tb) (call what:Int) (hn:t.d.length≤1000000):Xb prog 180 #[.pointer (some ⟨a,0,none⟩),.int .i64 call,.int .i64 what] [YG a t] fun v l'=>v=.int .i64 (t.best (One.waits call what))∧l'=[YG a t]:=by
 intro F K hK
 have hh:=hK _ _ ⟨rfl,rfl⟩
 simp only[ap]at hh⊢
 clear hK
 refine S.I fun u=>?_
 (repeat (first
  |simp only[WKb,↓reduceIte,Nat.reduceEqDiff,Nat.reduceAdd]
  |refine Tr.box rfl fun _=>?_
  |fail))
 rename_i b1 b2
 refine Tr.call (xl4 a t 218 [.pointer (some ⟨b1,0,none⟩),.pointer (some ⟨b2,0,none⟩)] _ (One.waits call what) hn (fun d=>xnq b1 b2 call what d)) [2,0,0] rfl ?_
 rintro v l' ⟨rfl,rfl⟩
 (repeat (first
  |simp only[WKb,↓reduceIte]
  |fail))
 refine Tr.front [0] ?_
 refine Tr.perm (List.Perm.swap _ _ _) ?_
 refine Tr.drop ?_
 refine Tr.perm (List.Perm.swap _ _ _) ?_
 exact hh.drop
theorem Ve (a:Nat) (t:Tb) (k:Int):Xb prog 232 #[.pointer (some ⟨a,0,none⟩),.int .i64 k] [YG a t] fun v l'=>v=.int .i64 (t.at k).state∧l'=[YG a t]:=by
 intro F K hK
 have hh:=hK _ _ ⟨rfl,rfl⟩
 clear hK
 refine S.I fun u=>?_
 (repeat (first
  |simp only[WKb,↓reduceIte,Nat.reduceEqDiff,Nat.reduceAdd]
  |fail))
 refine Tr.call (Qv a t k) [0] rfl ?_
 rintro v l' ⟨rfl,rfl⟩
 (repeat (first
  |simp only[WKb,↓reduceIte,Nat.reduceEqDiff]
  |refine Tr.load1 (by(repeat (first|exact Cell.blk rfl|apply Cell.next))) ?_
  |refine Tr.alloc rfl fun _=>?_
  |refine Tr.storeW rfl rfl rfl (by(repeat (first|exact Upd.here|apply Upd.next));done) (by rfl) ?_
  |fail))
 repeat (first|exact hh|refine Tr.drop ?_)
def Tb.park (t:Tb) (k:Int):Tb:=if t.has k then{t with d:=t.d.set k.toNat {t.at k with parked:=true}}else t
theorem xlD (a:Nat) (t:Tb) (k:Int):Xb prog 117 #[.pointer (some ⟨a,0,none⟩),.int .i64 k] [YG a t] fun v l'=>v=.bool (t.has k)∧l'=[YG a (t.park k)]:=by
 intro F K hK
 have hh:=hK _ _ ⟨rfl,rfl⟩
 clear hK
 refine S.I fun u=>?_
 (repeat (first
  |simp only[WKb,↓reduceIte,Nat.reduceEqDiff,Nat.reduceAdd]
  |fail))
 refine Tr.call (Qv a t k) [0] rfl ?_
 rintro v l' ⟨rfl,rfl⟩
 cases e:t.has k
 ·simp only[Tb.park,e,Bool.false_eq_true,if_false]at hh
  (repeat (first
  |simp only[WKb,↓reduceIte,Nat.reduceEqDiff]
  |refine Tr.alloc rfl fun _=>?_
  |refine Tr.storeW rfl rfl rfl (by(repeat (first|exact Upd.here|apply Upd.next));done) (by rfl) ?_
  |fail))
  repeat (first|exact hh|refine Tr.drop ?_)
 ·have h01:0≤k∧k<t.d.length:=by simpa [Tb.has]using e
  simp only[Tb.park,e,if_true,YG,ap,Tr.ex_iff,Tr.sep_iff]at hh⊢
  intro m
  have hm:=hh m
  rw[show kvF 0 (t.d.set k.toNat {t.at k with parked:=true})=ZC k ({t.at k with parked:=true}:One).v (kvF 0 t.d) by rw[Qk k _ t.d 0 (by simpa using h01.1) (by simpa using h01.2)];simp]at hm
  (repeat (first
  |simp only[WKb,↓reduceIte,Nat.reduceEqDiff,Nat.reduceAdd,xL3]
  |refine Tr.load1 (by(repeat (first|exact Cell.blk rfl|apply Cell.next))) ?_
  |refine Tr.loadN (by(repeat (first|exact XP.blk0 rfl|apply XP.next))) ?_
  |refine Tr.alloc rfl fun _=>?_
  |refine Tr.drewK ?_
  |refine Tr.storeW rfl rfl rfl (by(repeat (first|exact Upd.here|apply Upd.next));done) (by rfl) ?_
  |refine Tr.store rfl rfl rfl (by(repeat (first|exact Upd.here|apply Upd.next));done) (by first|exact Nat.le_of_ble_eq_true rfl|fail) ?_
  |refine Tr.mapUpdate (by(repeat (first|exact V6.here|apply V6.next));done) ?_
  |fail))
  repeat (first|exact hm|refine Tr.drop ?_)
theorem Wd {t:Tb} {k:Int} (h:t.has k=true):0≤k∧k<t.d.length:=by simpa [Tb.has]using h
theorem xjm (a:Nat) (t:Tb) (k:Int):Xb prog 186 #[.pointer (some ⟨a,0,none⟩),.int .i64 k] [YG a t] fun v l'=>v=.tuple #[.int .i64 (t.at k).call,.int .i64 (t.at k).what,.int .i64 (t.at k).wake]∧l'=[YG a t]:=by
 intro F K hK
 have hh:=hK _ _ ⟨rfl,rfl⟩
 clear hK
 refine S.I fun u=>?_
 (repeat (first
  |simp only[WKb,↓reduceIte,Nat.reduceEqDiff,Nat.reduceAdd]
  |fail))
 refine Tr.call (Qv a t k) [0] rfl ?_
 rintro v l' ⟨rfl,rfl⟩
 (repeat (first
  |simp only[WKb,↓reduceIte,Nat.reduceEqDiff,Nat.reduceAdd,xtl]
  |refine Tr.load1 (by(repeat (first|exact Cell.blk rfl|apply Cell.next))) ?_
  |refine Tr.alloc rfl fun _=>?_
  |refine Tr.drewK ?_
  |refine Tr.storeW rfl rfl rfl (by(repeat (first|exact Upd.here|apply Upd.next));done) (by rfl) ?_
  |fail))
 repeat (first|exact hh|refine Tr.drop ?_)
def Tb.setB (t:Tb) (k s:Int):Bool:=t.has k&&(decide (0≤s)&&(decide (s<5)&&!decide (s=2)))
def Tb.set (t:Tb) (k s:Int):Tb:=if t.setB k s then t.put k (t.at k) s else t
theorem xeb (a:Nat) (t:Tb) (k s:Int):Xb prog 220 #[.pointer (some ⟨a,0,none⟩),.int .i64 k,.int .i64 s] [YG a t] fun v l'=>v=.bool (t.setB k s)∧l'=[YG a (t.set k s)]:=by
 intro F K hK
 have hh:=hK _ _ ⟨rfl,rfl⟩
 clear hK
 refine S.I fun u=>?_
 (repeat (first
  |simp only[WKb,↓reduceIte,Nat.reduceEqDiff,Nat.reduceAdd]
  |fail))
 refine Tr.call (Qv a t k) [0] rfl ?_
 rintro v l' ⟨rfl,rfl⟩
 unfold Tb.set at hh
 cases e:t.has k
 ·simp only[Tb.setB,e,Bool.false_and,Bool.false_eq_true,if_false]at hh
  (repeat (first
  |simp only[WKb,↓reduceIte,Nat.reduceEqDiff]
  |refine Tr.alloc rfl fun _=>?_
  |refine Tr.storeW rfl rfl rfl (by(repeat (first|exact Upd.here|apply Upd.next));done) (by rfl) ?_
  |fail))
  repeat (first|exact hh|refine Tr.drop ?_)
 ·cases e1:decide (s<0)
  ·have f1:decide (0≤s)=true:=by simp at e1⊢;omega
   cases e2:decide (5≤s)
   ·have f2:decide (s<5)=true:=by simp at e2⊢;omega
    cases e3:decide (s=2)
    ·have f3:¬s=2:=by simpa using e3
     simp only[Tb.setB,e,f1,f2,e3,Bool.true_and,Bool.not_false,if_true]at hh
     (repeat (first
  |simp only[WKb,↓reduceIte,Nat.reduceEqDiff,e1,e2,e3]
  |refine Tr.loadN (by(repeat (first|exact XP.blk0 rfl|apply XP.next))) ?_
  |refine Tr.alloc rfl fun _=>?_
  |refine Tr.storeW rfl rfl rfl (by(repeat (first|exact Upd.here|apply Upd.next));done) (by rfl) ?_
  |fail))
     refine Tr.call (xf8 a t k (t.at k) s (Wd e).1 (Wd e).2) [1] rfl ?_
     rintro v l' ⟨rfl,rfl⟩
     (repeat (first
  |simp only[WKb,↓reduceIte]
  | fail))
     refine Tr.perm (List.Perm.swap _ _ _) ?_
     refine Tr.drop ?_
     exact hh
    ·simp only[Tb.setB,e,f1,f2,e3,Bool.true_and,Bool.not_true,Bool.false_eq_true,if_false]at hh
     (repeat (first
  |simp only[WKb,↓reduceIte,Nat.reduceEqDiff,e1,e2,e3]
  |refine Tr.alloc rfl fun _=>?_
  |refine Tr.storeW rfl rfl rfl (by(repeat (first|exact Upd.here|apply Upd.next));done) (by rfl) ?_
  | fail))
     repeat (first|exact hh|refine Tr.drop ?_)
   ·have f2:decide (s<5)=false:=by simp at e2⊢;omega
    simp only[Tb.setB,e,f1,f2,Bool.true_and,Bool.false_and,Bool.false_eq_true,if_false]at hh
    (repeat (first
  |simp only[WKb,↓reduceIte,Nat.reduceEqDiff,e1,e2]
  |refine Tr.alloc rfl fun _=>?_
  |refine Tr.storeW rfl rfl rfl (by(repeat (first|exact Upd.here|apply Upd.next));done) (by rfl) ?_
  | fail))
    repeat (first|exact hh|refine Tr.drop ?_)
  ·have f1:decide (0≤s)=false:=by simp at e1⊢;omega
   simp only[Tb.setB,e,f1,Bool.true_and,Bool.false_and,Bool.false_eq_true,if_false]at hh
   (repeat (first
  |simp only[WKb,↓reduceIte,Nat.reduceEqDiff,e1]
  |refine Tr.alloc rfl fun _=>?_
  |refine Tr.storeW rfl rfl rfl (by(repeat (first|exact Upd.here|apply Upd.next));done) (by rfl) ?_
  |fail))
   repeat (first|exact hh|refine Tr.drop ?_)
def Tb.wait (t:Tb) (k c wh wk:Int):Tb:=if t.has k then t.put k {t.at k with call:=c,what:=wh,wake:=wk} 2 else t
theorem xdu (a:Nat) (t:Tb) (k c wh wk:Int):Xb prog 273 #[.pointer (some ⟨a,0,none⟩),.int .i64 k,.int .i64 c,.int .i64 wh,.int .i64 wk] [YG a t] fun v l'=>v=.bool (t.has k)∧l'=[YG a (t.wait k c wh wk)]:=by
 intro F K hK
 have hh:=hK _ _ ⟨rfl,rfl⟩
 clear hK
 refine S.I fun u=>?_
 (repeat (first
  |simp only[WKb,↓reduceIte,Nat.reduceEqDiff,Nat.reduceAdd]
  |fail))
 refine Tr.call (Qv a t k) [0] rfl ?_
 rintro v l' ⟨rfl,rfl⟩
 unfold Tb.wait at hh
 cases e:t.has k
 ·simp only[e,Bool.false_eq_true,if_false]at hh
  (repeat (first
  |simp only[WKb,↓reduceIte,Nat.reduceEqDiff]
  |refine Tr.alloc rfl fun _=>?_
  |refine Tr.storeW rfl rfl rfl (by(repeat (first|exact Upd.here|apply Upd.next));done) (by rfl) ?_
  |fail))
  repeat (first|exact hh|refine Tr.drop ?_)
 ·simp only[e,if_true]at hh
  (repeat (first
  |simp only[WKb,↓reduceIte,Nat.reduceEqDiff]
  |refine Tr.loadN (by(repeat (first|exact XP.blk0 rfl|apply XP.next))) ?_
  |refine Tr.alloc rfl fun _=>?_
  |refine Tr.build rfl ?_
  |refine Tr.storeW rfl rfl rfl (by(repeat (first|exact Upd.here|apply Upd.next));done) (by rfl) ?_
  |refine Tr.store rfl rfl rfl (by(repeat (first|exact Upd.here|apply Upd.next));done) (by first|exact Nat.le_of_ble_eq_true rfl|fail) ?_
  |fail))
  refine Tr.call (xf8 a t k {t.at k with call:=c,what:=wh,wake:=wk} 2 (Wd e).1 (Wd e).2) [1] rfl ?_
  rintro v l' ⟨rfl,rfl⟩
  (repeat (first
  |simp only[WKb,↓reduceIte]
  |fail))
  refine Tr.perm (List.Perm.swap _ _ _) ?_
  refine Tr.drop ?_
  exact hh
