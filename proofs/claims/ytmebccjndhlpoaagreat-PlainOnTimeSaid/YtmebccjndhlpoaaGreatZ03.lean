import Derived.Test.YtmebccjndhlpoaaGreatZ02
import Derived.Laws.StructEq
import Derived.DefersIn
import Derived.RangeFuncRecord
import Derived.Conc.LoneCalls
import Derived.Conc.LoneSelect
import Derived.Conc.LoneSelectN
namespace Go.Wk
open Go
theorem VL {a:List UInt8}: (Zh a).size=a.length:=rfl
theorem xh5 (a b:List UInt8):Zh a++Zh b=Zh (a++b):=by
  apply ByteArray.ext
  simp[Zh]
theorem QK (a:List UInt8) (i j:Nat): (Zh a).extract i j=Zh ((a.take j).drop i):=by
  apply ByteArray.ext
  apply Array.toList_inj.1
  simp only[ByteArray.data_extract,Zh,Array.toList_extract,List.extract_eq_take_drop,List.drop_take]
def bix (a:List UInt8) (i:Int):UInt8:=a.getD i.toNat 0
section
variable {P:Program} {l F:List Xc} {K:Value→WP}
theorem A.sidx {T:Nat} [h:xjE P T] {a:List UInt8} {k:IntKind} {i:Int} (h0:0≤i) (hi:i<a.length) (hx:Tr l (K (.int .u8 ((bix a i).toNat:Int)))):Tr l (Xq P (Instr.index T (.string (Zh a)) (.int k i)) K):=fun w hw=>by
  refine⟨_,?_,hx w hw⟩
  have hlt:i.toNat<(Zh a).size:=by rw[VL];omega
  have hg: (Zh a)[i.toNat]? =some (bix a i):=by
    rw[getElem?_pos (Zh a) i.toNat hlt]
    have h2:i.toNat<a.length:=by omega
    simp[bix,h2,Zh,ByteArray.getElem_eq_getElem_data]
  simp[Instr.index,asIntOf,run_underlying h.h,h0,hg]
theorem G.sidx {T:Nat} {a:List UInt8} {v:Value} (h:Tr l (Xq P (Instr.index T (.string (Zh a)) v) K)):Tr l (Xq P (Instr.index T (.string (Zh a)) v) K):=h
theorem A.scut {T:Nat} [h:xjE P T] {a:List UInt8} {k k':IntKind} {lo hi:Int} (h0:0≤lo) (h1:lo≤hi) (h2:hi≤a.length) (hx:Tr l (K (.string (Zh ((a.take hi.toNat).drop lo.toNat))))):
    Tr l (Xq P (Instr.sliceAt T (.string (Zh a)) (some (.int k lo)) (some (.int k' hi)) none) K):=fun w hw=>by
  refine⟨_,?_,hx w hw⟩
  simp[Instr.sliceAt,Instr.slice,run_underlying h.h,Instr.sliceBounds,Instr.sliceBound,asIntOf,VL,QK,h0,show 0≤hi by omega,h2,show lo≤max hi 0 by omega]
theorem A.scutF {T:Nat} [h:xjE P T] {a:List UInt8} {k:IntKind} {lo:Int} (h0:0≤lo) (h2:lo≤a.length) (hx:Tr l (K (.string (Zh (a.drop lo.toNat))))):
    Tr l (Xq P (Instr.sliceAt T (.string (Zh a)) (some (.int k lo)) none none) K):=fun w hw=>by
  refine⟨_,?_,hx w hw⟩
  simp[Instr.sliceAt,Instr.slice,run_underlying h.h,Instr.sliceBounds,Instr.sliceBound,asIntOf,VL,QK,h0,h2]
theorem A.scutT {T:Nat} [h:xjE P T] {a:List UInt8} {k:IntKind} {hi:Int} (h0:0≤hi) (h2:hi≤a.length) (hx:Tr l (K (.string (Zh (a.take hi.toNat))))):
    Tr l (Xq P (Instr.sliceAt T (.string (Zh a)) none (some (.int k hi)) none) K):=fun w hw=>by
  refine⟨_,?_,hx w hw⟩
  simp[Instr.sliceAt,Instr.slice,run_underlying h.h,Instr.sliceBounds,Instr.sliceBound,asIntOf,VL,QK,h0,h2]
theorem G.scut {T:Nat} {a:List UInt8} {x y z:Option Value} (h:Tr l (Xq P (Instr.sliceAt T (.string (Zh a)) x y z) K)):Tr l (Xq P (Instr.sliceAt T (.string (Zh a)) x y z) K):=h
theorem A.sadd {t:TypeId} {x y:Operand} {a b:List UInt8} (h:a.length+b.length≤9223372036854775807) (hx:Tr l (K (.string (Zh (a++b))))):Tr l (XO P .add t x y (.string (Zh a)) (.string (Zh b)) K):=fun w hw=>by
  refine⟨_,?_,hx w hw⟩
  have hm: ((Zh a).size:Int)+((Zh b).size:Int)≤9223372036854775807:=by
    rw[VL,VL];omega
  simp[eqGuard,binOp,Op.stringOp,hm,xh5]
theorem G.sadd {t:TypeId} {x y:Operand} {a b:List UInt8} (h:Tr l (XO P .add t x y (.string (Zh a)) (.string (Zh b)) K)):Tr l (XO P .add t x y (.string (Zh a)) (.string (Zh b)) K):=h
end
def xhb (P:Program) (T:Nat):Bool:=match P.underlying T with
  |some (.struct _)|some (.array _ _)=>true
  |_=>false
def xoQ (P:Program) (T:Nat):Option (Nat×Nat×Bool):=match P.underlying T with
  | some (.array n e)=>match P.underlying e with
    |some _=>(P.info? e).map fun i=>(n,i.size,xhb P e)
    |none=>none
  |_=>none
class xuX (P:Program) (T:Nat) (n s:outParam Nat) (g:outParam Bool):Prop where
  h:xoQ P T=some (n,s,g)
theorem xf4 {P:Program} {T n s:Nat} {g:Bool} (h:xoQ P T=some (n,s,g)):∃e,P.underlying T=some (.array n e)∧(∀w,(sizeOf e).run P w=.ok s w)∧∀w,(isAgg e).run P w=.ok g w:=by
  unfold xoQ at h
  split at h
  · rename_i m e hu
    split at h
    · rename_i d hd
      cases hi:P.info? e with
      |none=>rw[hi]at h;cases h
      | some i=>
        rw[hi]at h
        simp only[Option.map_some,Option.some.injEq,Prod.mk.injEq]at h
        obtain⟨rfl,rfl,rfl⟩:=h
        refine⟨e,hu,fun w=>by simp[sizeOf,typeInfo,hi],fun w=>?_⟩
        unfold xhb
        cases d<;>simp[isAgg,run_underlying hd,hd]
    · cases h
  · cases h
section
variable {P:Program} {l:List Xc} {K:Value→WP}
theorem A.aidx {T n s:Nat} [hT:xuX P T n s false] {cs:List Value} {k:IntKind} {i:Int} {v:Value} (h0:0≤i) (hi:i<n) (hv:cs[i.toNat*s]? =some v) (hx:Tr l (K v)):Tr l (Xq P (Instr.index T (.agg cs.toArray) (.int k i)) K):=fun w hw=>by
  obtain⟨e,hu,hs,ha⟩:=xf4 hT.h
  refine⟨_,?_,hx w hw⟩
  have hs:=hs w
  have ha:=ha w
  generalize hsz:sizeOf e=sz at hs
  generalize hag:isAgg e=ag at ha
  simp[Instr.index,asIntOf,run_underlying hu,h0,hi,part,hsz,hag,hs,ha,hv]
theorem A.aidxG {T n s:Nat} [hT:xuX P T n s true] {cs:List Value} {k:IntKind} {i:Int} {v:List Value} (h0:0≤i) (hi:i<n) (hv: (cs.take (i.toNat*s+s)).drop (i.toNat*s)=v) (hx:Tr l (K (.agg v.toArray))):Tr l (Xq P (Instr.index T (.agg cs.toArray) (.int k i)) K):=fun w hw=>by
  obtain⟨e,hu,hs,ha⟩:=xf4 hT.h
  subst hv
  refine⟨_,?_,hx w hw⟩
  have hs:=hs w
  have ha:=ha w
  generalize hsz:sizeOf e=sz at hs
  generalize hag:isAgg e=ag at ha
  simp[Instr.index,asIntOf,run_underlying hu,h0,hi,part,hsz,hag,hs,ha,List.extract_eq_take_drop,List.drop_take]
theorem G.aidx {T:Nat} {cs:List Value} {v:Value} (h:Tr l (Xq P (Instr.index T (.agg cs.toArray) v) K)):Tr l (Xq P (Instr.index T (.agg cs.toArray) v) K):=h
theorem xfC {α:Type} [En α] [Inhabited α]:∀(xs:List α) (i:Nat),i<xs.length→((XK xs).take (i*En.sz α+En.sz α)).drop (i*En.sz α)=En.enc (ix xs (i:Int))
  |[],i,h=>by simp at h
  | x ::xs,0,_=>by
    have hl:=En.len x
    have: (XK (x::xs)).take (En.sz α)=En.enc x:=by
      simp only[XK,List.flatMap_cons]
      rw[←hl,List.take_left'];rfl
    rw[Nat.zero_mul,Nat.zero_add,List.drop_zero,this];rfl
  | x::xs,i+1,h=>by
    have ih:=xfC xs i (by simpa using h)
    have hl:=En.len x
    have e1:XK (x::xs)=En.enc x++XK xs:=by simp[XK]
    rw[e1,show(i+1)*En.sz α=(En.enc x).length+i*En.sz α by rw[hl,Nat.succ_mul];omega,Nat.add_assoc,List.take_length_add_append,List.drop_length_add_append,ih]
    rfl
theorem A.aidxE {α:Type} [En α] [Inhabited α] {T n s:Nat} [hT:xuX P T n s true] {xs:List α} {k:IntKind} {i:Int} (h0:0≤i) (hi:i<n) (hn:n=xs.length) (hs:s=En.sz α) (hx:Tr l (K (.agg (En.enc (ix xs i)).toArray))):Tr l (Xq P (Instr.index T (.agg (XK xs).toArray) (.int k i)) K):=by
  subst hs
  refine A.aidxG h0 hi (xfC xs i.toNat (by omega)) ?_
  rw[Int.toNat_of_nonneg h0];exact hx
end
def xmE (P:Program) (T f:Nat):Option (Nat×Nat×Bool):=match P.underlying T with
  | some (.struct fs)=>match fs[f]? with
    | some fd=>match P.underlying fd.type with
      |some _=>(P.info? fd.type).map fun i=>(fd.offset,i.size,xhb P fd.type)
      |none=>none
    |none=>none
  |_=>none
class xqt (P:Program) (T f:Nat) (off sz:outParam Nat) (g:outParam Bool):Prop where
  h:xmE P T f=some (off,sz,g)
theorem xqt.k {P:Program} {T f off sz:Nat} {g:Bool} (h:xmE P T f=some (off,sz,g):=by kernel_rfl):xqt P T f off sz g:=⟨h⟩
theorem xe4 {P:Program} {T f off sz:Nat} {g:Bool} (h:xmE P T f=some (off,sz,g)):∃fs fd,P.underlying T=some (.struct fs)∧fs[f]? =some fd∧fd.offset=off∧(∀w,(sizeOf fd.type).run P w=.ok sz w)∧∀w,(isAgg fd.type).run P w=.ok g w:=by
  unfold xmE at h
  split at h
  · rename_i fs hu
    split at h
    · rename_i fd hf
      split at h
      · rename_i d hd
        cases hi:P.info? fd.type with
        |none=>rw[hi]at h;cases h
        | some i=>
          rw[hi]at h
          simp only[Option.map_some,Option.some.injEq,Prod.mk.injEq]at h
          obtain⟨rfl,rfl,rfl⟩:=h
          refine⟨fs,fd,hu,hf,rfl,fun w=>by simp[sizeOf,typeInfo,hi],fun w=>?_⟩
          unfold xhb
          cases d<;>simp[isAgg,run_underlying hd,hd]
      · cases h
    · cases h
  · cases h
section
variable {P:Program} {l:List Xc} {K:Value→WP}
theorem A.fldv {T f off:Nat} [hT:xqt P T f off 1 false] {cs:List Value} {v:Value} (hv:cs[off]? =some v) (hx:Tr l (K v)):Tr l (Xq P (Instr.field T (.agg cs.toArray) f) K):=fun w hw=>by
  obtain⟨fs,fd,hu,hf,rfl,hs,ha⟩:=xe4 hT.h
  refine⟨_,?_,hx w hw⟩
  have hs:=hs w
  have ha:=ha w
  generalize hsz:sizeOf fd.type=sz at hs
  generalize hag:isAgg fd.type=ag at ha
  simp[Instr.field,run_underlying hu,hf,asAgg,part,hag,ha,hv]
theorem A.fldvG {T f off s:Nat} [hT:xqt P T f off s true] {cs v:List Value} (hv: (cs.take (off+s)).drop off=v) (hx:Tr l (K (.agg v.toArray))):Tr l (Xq P (Instr.field T (.agg cs.toArray) f) K):=fun w hw=>by
  obtain⟨fs,fd,hu,hf,rfl,hs,ha⟩:=xe4 hT.h
  subst hv
  refine⟨_,?_,hx w hw⟩
  have hs:=hs w
  have ha:=ha w
  generalize hsz:sizeOf fd.type=sz at hs
  generalize hag:isAgg fd.type=ag at ha
  simp[Instr.field,run_underlying hu,hf,asAgg,part,hsz,hag,hs,ha,List.extract_eq_take_drop,List.drop_take]
theorem G.fldv {T f:Nat} {v:Value} (h:Tr l (Xq P (Instr.field T v f) K)):Tr l (Xq P (Instr.field T v f) K):=h
end
def xI6 (P:Program) (T n:Nat):Bool:=match P.underlying T with
  |some (.struct fs)=>fs.size==n&&(List.range n).all (fun i=>match fs[i]? with
      | some fd=>fd.name != "_" &&fd.offset==i&&(match P.underlying fd.type with
        |some (.int _)=>true
        |_=>false)
      |none=>false)&&!P.stoodInHeld T&&!P.eqGuardType P.depth T
  |_=>false
class xMg (P:Program) (T:Nat) (n:outParam Nat):Prop where
  h:xI6 P T n=true
theorem xGS {P:Program} {T n:Nat} (h:xI6 P T n=true):∃fs,P.underlying T=some (.struct fs)∧fs.size=n∧(∀i,i<n→∃fd k,fs[i]? =some fd∧fd.name≠ "_" ∧fd.offset=i∧P.underlying fd.type=some (.int k))∧P.stoodInHeld T=false∧P.eqGuardType P.depth T=false:=by
  unfold xI6 at h
  split at h
  · rename_i fs hu
    simp only[Bool.and_eq_true,beq_iff_eq,List.all_eq_true,List.mem_range,Bool.not_eq_true']at h
    obtain⟨⟨⟨h1,h2⟩,h3⟩,h4⟩:=h
    refine⟨fs,hu,h1,fun i hi=>?_,h3,h4⟩
    have:=h2 i hi
    split at this
    · rename_i fd hf
      simp only[Bool.and_eq_true,bne_iff_ne,beq_iff_eq]at this
      obtain⟨⟨h5,h6⟩,h7⟩:=this
      split at h7
      · rename_i k hk;exact⟨fd,k,hf,h5,h6,hk⟩
      · cases h7
    · cases this
  · cases h
section
variable {P:Program} {K:Value→WP}
theorem xFF {t:TypeId} {cs:Array Value} {off:Nat} {v:Value} {w:World} (ha: (isAgg t).run P w=.ok false w) (h:cs[off]? =some v): (part t cs off).run P w=.ok v w:=by
  generalize hagg:isAgg t=ag at ha
  simp[part,hagg,ha,h]
theorem xDX {k:IntKind} {d:Nat} {w:World}:∀(fs:List Field) (pre xs ys:List Int) (pre2:List Int),fs.length=xs.length→xs.length=ys.length→pre2.length=pre.length→
    (∀i fd,fs[i]? =some fd→fd.name≠ "_" ∧fd.offset=pre.length+i∧∃kk,P.underlying fd.type=some (.int kk))→
    (Op.eqFields (d+1) ((pre++xs).map (Value.int k)).toArray ((pre2++ys).map (Value.int k)).toArray fs).run P w=.ok (decide (xs=ys)) w
  |[],_,[],[],_,_,_,_,_=>by simp[Op.eqFields]
  |[],_,_::_,_,_,h,_,_,_=>by simp at h
  |[],_,[],_::_,_,_,h,_,_=>by simp at h
  |_::_,_,[],_,_,h,_,_,_=>by simp at h
  |_::_,_,_::_,[],_,_,h,_,_=>by simp at h
  | f ::fs,pre,x::xs,y::ys,pre2,h1,h2,h3,h=>by
    obtain⟨hn,ho,kk,hk⟩:=h 0 f rfl
    have ih:=xDX (k:=k) (d:=d) (w:=w) fs (pre++[x]) xs ys (pre2++[y]) (by simpa using h1) (by simpa using h2) (by simp[h3]) fun i fd hf=>by
      obtain⟨a,b,c⟩:=h (i+1) fd (by simpa using hf)
      exact⟨a,by rw[b,List.length_append];simp;omega,c⟩
    rw[List.append_assoc,List.append_assoc]at ih
    simp only[List.singleton_append]at ih
    have hag: (isAgg f.type).run P w=.ok false w:=by simp[isAgg,run_underlying hk]
    have hx: (part f.type ((pre++x::xs).map (Value.int k)).toArray f.offset).run P w=.ok (.int k x) w:=xFF hag (by simp[ho])
    have hy: (part f.type ((pre2++y::ys).map (Value.int k)).toArray f.offset).run P w=.ok (.int k y) w:=xFF hag (by simp[ho,←h3])
    unfold Op.eqFields
    rw[if_pos hn]
    simp only[Sem.run_bind,hx,hy,Result.andThen_ok,run_equalIn_int w d f.type k kk x y hk]
    by_cases hxy:x=y
    · subst hxy
      simp only[beq_self_eq_true,Bool.not_true,Bool.false_eq_true,if_false,ih,List.cons.injEq,true_and]
    · have hb: (x==y)=false:=by simpa using hxy
      have hc:¬(x::xs=y::ys):=fun e=>hxy (List.cons.inj e).1
      simp only[hb,Bool.not_false,if_true,Sem.run_pure,decide_eq_false hc]
theorem xIN {T n:Nat} [hT:xMg P T n] {x y:Operand} {k:IntKind} {xs ys:List Int} (h1:xs.length=n) (h2:ys.length=n):XO P .eql T x y (.agg (xs.map (Value.int k)).toArray) (.agg (ys.map (Value.int k)).toArray) K=K (.bool (decide (xs=ys))):=by
  obtain⟨fs,hu,hn,hf,hs,hg⟩:=xGS hT.h
  refine Zm (fun w=>?_) K
  have hgd: (eqGuard .eql T x y (.agg (xs.map (Value.int k)).toArray) (.agg (ys.map (Value.int k)).toArray)).run P w=.ok () w:=by
    have hp: (program).run P w=.ok P w:=by simp[program,Sem.run]
    simp[eqGuard,hp,hg]
  have hfo:P.fieldsOf T=fs:=by simp[Program.fieldsOf,hu]
  have he: (Op.equal T (.agg (xs.map (Value.int k)).toArray) (.agg (ys.map (Value.int k)).toArray)).run P w=.ok (decide (xs=ys)) w:=by
    show(Op.equalIn (9998+1+1) T _ _).run P w=_
    rw[run_equalIn_struct w (9998+1) T _ _ (by rw[hfo];exact hu) hs,hfo]
    have:=xDX (P:=P) (k:=k) (d:=9998) (w:=w) fs.toList [] xs ys [] (by simp[hn,h1]) (by omega) rfl fun i fd hfi=>by
      rw[Array.getElem?_toList]at hfi
      have hi:i<n:=by rw[←hn];exact(Array.getElem?_eq_some_iff.1 hfi).1
      obtain⟨fd',kk,a,b,c,e⟩:=hf i hi
      rw[hfi]at a
      obtain rfl:=Option.some.inj a
      exact⟨b,by simpa using c,kk,e⟩
    simpa using this
  simp only[Sem.run_bind,hgd,Result.andThen_ok,binOp,he,Sem.run_pure]
end
def xtp (P:Program) (T:Nat):Option Nat:=match P.underlying T with
  |some (.array _ e)=>(P.info? e).map (·.size)
  |_=>none
class xuC (P:Program) (T:Nat) (s:outParam Nat) (z:outParam (List Value)):Prop where
  h:xtp P T=some s∧xby P T=some (.agg z.toArray)
section
variable {P:Program} {l:List Xc} {K:Value→WP}
theorem A.buildA {T s:Nat} {z cs:List Value} {parts:Array (Nat×Value)} [hT:xuC P T s z] (h:xaS (fun i=>some (i*s,s)) z parts.toList=some cs) (hx:Tr l (K (.agg cs.toArray))):Tr l (Xq P (Instr.build T parts) K):=fun w hw=>by
  refine⟨_,?_,hx w hw⟩
  obtain⟨h1,h2⟩:=hT.h
  unfold xtp at h1
  split at h1
  · rename_i n e hu
    have hz: (zeroValue T).run P w=.ok (.agg z.toArray) w:=by
      unfold xby at h2
      cases hi:P.info? T with
      |none=>rw[hi]at h2;cases h2
      | some i=>
        rw[hi]at h2
        have hz':i.zero=some (.agg z.toArray):=h2
        simp[zeroValue,typeInfo,hi,hz']
    have hs: (sizeOf e).run P w=.ok s w:=by
      cases hi:P.info? e with
      |none=>rw[hi]at h1;cases h1
      |some i=>rw[hi]at h1;simp at h1;simp[sizeOf,typeInfo,hi,h1]
    unfold Instr.build
    simp only[Sem.run_bind,hz,Result.andThen_ok,run_underlying hu,Value.cells,hs]
    rw[xeh _ _ _ _ h]
    simp
  · cases h1
theorem G.build {T:Nat} {ps:Array (Nat×Value)} (h:Tr l (Xq P (Instr.build T ps) K)):Tr l (Xq P (Instr.build T ps) K):=h
end
theorem hX:True:=trivial
structure Hd (Q:Prop):Prop where
  h:Q
theorem S.l {Q P:Prop} (q:Q) (h:Hd Q→P:=by
    intro q
    (first|((with_reducible refine G.load ?_);first|(with_reducible refine A.ldW S.r ?_)|(with_reducible refine A.ld1 S.r ?_)|(with_reducible refine A.ldN S.r S.r ?_)|(with_reducible refine A.lS0 (by assumption) S.r ?_)|(with_reducible refine A.lS1 (by assumption) S.r ?_)|(with_reducible refine A.lSW (by assumption) S.r ?_)|(with_reducible refine A.lSN (by assumption) S.r S.r ?_))|(with_reducible refine Tr.drewK ?_)|((with_reducible refine G.eqR ?_);with_reducible refine Tr.eqR S.r ?_)|((with_reducible refine G.store ?_);first|(with_reducible refine A.stW S.r S.r S.r S.r ?_)|(((with_reducible refine A.st S.r S.r S.r ?_ ?_);(focus (first|exact Nat.le_of_ble_eq_true rfl|(simp only[WKl,Zz,En.len];omega)))))|((with_reducible refine A.stD ?_ ?_ ?_);(focus exact S.o);(focus exact S.o))|((with_reducible refine A.stE S.r ?_ ?_ ?_);(focus exact S.o);(focus exact S.o)))|((with_reducible refine G.cond ?_);first|((with_reducible refine Tr.condT ?_ ?_);(focus exact S.b))|((with_reducible refine Tr.condF ?_ ?_);(focus exact S.b)))|((with_reducible refine G.idx ?_);((with_reducible refine Tr.indexArr ?_ ?_ ?_);(focus (omega));(focus (omega))))|((with_reducible refine G.len ?_);first|(with_reducible refine A.len ?_)|(with_reducible refine A.lenM ?_)|(with_reducible refine Tr.lenMapNil ?_))|((with_reducible refine G.conv ?_);(with_reducible refine A.byStr ?_))|((with_reducible refine G.convE ?_);((with_reducible refine A.convB ?_ ?_);(focus exact S.o)))|((with_reducible refine G.look ?_);first|(with_reducible refine A.look ?_)|(with_reducible refine Tr.lookupNil ?_))|((with_reducible refine G.mapu ?_);(with_reducible refine A.mapu ?_))|((with_reducible refine G.rem ?_);((with_reducible refine Tr.rem ?_ ?_);(focus (omega))))|(((with_reducible refine G.guard ?_);first|((with_reducible refine Tr.guardTT ?_ ?_);(focus exact S.b))|((with_reducible refine Tr.guardFF ?_ ?_);(focus exact S.b)));intro hb;(try simp only[hb]);clear hb)|((with_reducible refine G.sidx ?_);((with_reducible refine A.sidx ?_ ?_ ?_);(focus exact S.o);(focus exact S.o)))|((with_reducible refine G.sadd ?_);((with_reducible refine A.sadd ?_ ?_);(focus exact S.o)))|((with_reducible refine G.scut ?_);first|((with_reducible refine A.scut ?_ ?_ ?_ ?_);(focus exact S.o);(focus exact S.o);(focus exact S.o))|((with_reducible refine A.scutF ?_ ?_ ?_);(focus exact S.o);(focus exact S.o))|((with_reducible refine A.scutT ?_ ?_ ?_);(focus exact S.o);(focus exact S.o)))|((with_reducible refine G.quo ?_);((with_reducible refine Tr.quo ?_ ?_);(focus (omega))))|((with_reducible refine G.build ?_);first|with_reducible refine Tr.build S.r ?_|with_reducible refine A.buildA S.r ?_)|((with_reducible refine G.fldv ?_);first|with_reducible refine A.fldv S.r ?_|with_reducible refine A.fldvG S.r ?_)|((with_reducible refine G.aidx ?_);first|((with_reducible refine A.aidxE ?_ ?_ S.r S.r ?_);(focus (first|omega|assumption));(focus (first|omega|assumption)))|((with_reducible refine A.aidx ?_ ?_ S.r ?_);(focus (first|omega|assumption));(focus (first|omega|assumption)))|((with_reducible refine A.aidxG ?_ ?_ S.r ?_);(focus (first|omega|assumption));(focus (first|omega|assumption)))));exact q.h):P:=h ⟨q⟩
theorem S.w {Q P:Prop} (q:Q) (h:Hd Q→P:=by
    intro q
    (first|((with_reducible refine G.box ?_);with_reducible refine Tr.box S.r ?_)|((with_reducible refine G.alloc ?_);with_reducible refine Tr.alloc S.r ?_)|((with_reducible refine G.app ?_);first|((with_reducible refine A.app0 S.r ?_ ?_ ?_);(focus (decide));(focus exact S.o))|((with_reducible refine A.app S.r ?_ ?_ ?_);(focus (decide));(focus exact S.o)))|((with_reducible refine G.bs ?_);((with_reducible refine A.buildL S.r S.r ?_ ?_);(focus (decide))))|((with_reducible refine G.cut ?_);first|((with_reducible refine A.cutTo S.r ?_ ?_ ?_);(focus (omega));(focus (omega)))|((with_reducible refine A.cutFrom S.r ?_ ?_ ?_);(focus (omega));(focus (omega)))|((with_reducible refine A.cut S.r ?_ ?_ ?_ ?_);(focus (omega));(focus (omega));(focus (omega))))|((with_reducible refine G.mks ?_);((with_reducible refine A.mks S.r ?_ ?_ ?_ ?_);(focus exact S.o);(focus exact S.o);(focus exact S.o)))|((with_reducible refine G.mkm ?_);with_reducible refine Tr.makeMap ?_)|((with_reducible refine G.idx ?_);((with_reducible refine A.idx S.r ?_ ?_ ?_);(focus exact S.o);(focus exact S.o))));exact q.h):P:=h ⟨q⟩
theorem S.x {Q P:Prop} (q:Q) (h:Hd Q→P:=by
    intro q
    (first
    |(simp only[WKb,WKh,WKt,↓reduceIte,Nat.reduceEqDiff,Nat.reduceAdd,Nat.reduceSub,Int.reduceEq,Int.reduceLT,Int.reduceLE,hX];(repeat (refine S.l ?_;(try simp only[WKb,WKh,WKt,↓reduceIte,Nat.reduceEqDiff,Nat.reduceAdd,Nat.reduceSub,Int.reduceEq,Int.reduceLT,Int.reduceLE,hX])));(first|refine S.w ?_|skip);exact q.h)
    |(refine S.l ?_;(try simp only[WKb,WKh,WKt,↓reduceIte,Nat.reduceEqDiff,Nat.reduceAdd,Nat.reduceSub,Int.reduceEq,Int.reduceLT,Int.reduceLE,hX]);(repeat (refine S.l ?_;(try simp only[WKb,WKh,WKt,↓reduceIte,Nat.reduceEqDiff,Nat.reduceAdd,Nat.reduceSub,Int.reduceEq,Int.reduceLT,Int.reduceLE,hX])));(first|refine S.w ?_|skip);exact q.h)
    |(refine S.w ?_;exact q.h))):P:=h ⟨q⟩
theorem S.h {Q P:Prop} (q:Hd Q) (h:Hd Q→P:=by
    intro q
    intro hb;(try simp only[hb]);(try simp only[WKs]at hb);(try simp only[WKb,WKh,WKt,↓reduceIte,Nat.reduceEqDiff,Nat.reduceAdd,Nat.reduceSub,Int.reduceEq,Int.reduceLT,Int.reduceLE,hX]);(try(have hq:=Int.not_le.2 hb;revert hq));(try(have hq:=Int.not_lt.2 hb;revert hq));revert hb;exact q.h):P:=h q
theorem S.y {A B P:Prop} (a:A) (b:B) (h:Hd A→Hd B→P:=by
    intro a b
    first
    | ((first
      |((with_reducible refine G.cond ?_);refine Tr.condS ?_ ?_)
      |((with_reducible refine G.guard ?_);refine Tr.guardS ?_ ?_)
      |((with_reducible refine G.guardC ?_);refine Tr.guardCS ?_ ?_));(focus exact S.h a);(focus exact S.h b))
    |((with_reducible refine Tr.brK ?_ ?_);exact a.h;exact b.h)):P:=h ⟨a⟩ ⟨b⟩
theorem Xd.famSameN {α:Type} [Inhabited α] {A:α→Xc} {xs:List α} {k:Nat} {d l l' l2:List Xc} (ht:Xm l (Wk.fam A (xs.eraseIdx k)) l') (h1:k<xs.length) (h:Xd d l' (A (ix xs (k:Int))::l2)):Xd d l (Wk.fam A xs::l2):=
  Xd.famSame (k:=(k:Int)) (by rw[Int.toNat_natCast];exact ht) (by omega) (by omega) h
theorem S.E {d l m:List Xc} (h:Xd d l m:=by
    ((try clear hK)<;>(try simp only[WKe,↓reduceIte,reduceCtorEq,Int.reduceEq,hX, *])<;>(repeat (first|with_reducible exact Xd.done|refine S.e ?_|(refine S.f ?_<;>(try simp only[WKe,↓reduceIte,reduceCtorEq,Int.reduceEq,hX, *]))|((with_reducible refine G.ef ?_);refine Xd.famSameN S.K (by omega) ?_<;>(try simp only[WKe,↓reduceIte,reduceCtorEq,Int.reduceEq,hX, *]))|with_reducible apply Xd.ex|refine Xd.drop (F:=F) ?_|refine Xd.drop ?_))<;>(first|exact SV.mk none 0 0|exact SL.mk ⟨none,0,0⟩ []|fail))):Xd d l m:=h
theorem S.v {p:Prop} (h:p:=by(first|rfl|(simp[*,hX];done)|(simp only[WKe,↓reduceIte,reduceCtorEq,Int.reduceEq,eq_self,hX, *];done)|fail)):p:=h
theorem S.L {P:Prop} (h:P:=by
    first
    |(refine Tr.fin hK ⟨S.v,rfl⟩ ?_;exact S.E)
    |(apply Tr.fin hK ⟨_,S.v,rfl⟩;exact S.E)
    |(apply Tr.fin hK ⟨_,_,S.v,rfl⟩;exact S.E)):P:=h
theorem S.V {α:Type} {a b:α} (h:a=b:=by
    ((try clear hK)<;>first|rfl|(simp[*,hX];done)|(simp[*,hX];omega)|(simp[*,hX]<;>(try split)<;>simp_all<;>omega)|fail)):a=b:=h
theorem S.R {α:Type} {slots keep:List Nat} {V:α→List Value} {L:α→List Xc} {I:α→Prop} {μ:α→Nat} {a:α} {kv:List Value} {e':Env} {l F:List Xc} (a':α)
    (hk:keep.map e'=kv:=by simp only[WKb,WKh,WKt,↓reduceIte,Nat.reduceEqDiff,Nat.reduceAdd,Nat.reduceSub,hX]) (hV:slots.map e'=V a':=by((try simp only[WKb,WKh,WKt,↓reduceIte,Nat.reduceEqDiff,Nat.reduceAdd,Nat.reduceSub,hX]);(all_goals((repeat (refine Jl S.V ?_));rfl));done))
    (hI:I a':=by(first|omega|assumption|(simp only[];omega)|(refine⟨by omega,by assumption⟩)|((try simp only[]);(repeat' (first|omega|assumption|refine And.intro ?_ ?_));done)))
    (hμ:μ a'<μ a:=by(first|omega|(simp only[];omega))) (hL:Xd [] l (L a'++F):=by exact S.E):
    Tr l (xcg keep kv slots V I μ L F a e'):=Tr.againE a' hk hV hI hμ hL
theorem WKt:True:=trivial
abbrev Dfr:=FuncId×List Value
def xGo (d:Dfr):Deferred:={target:=.fn (.func d.1) #[],args:=d.2.toArray}
def xDS (ops:Array Oper):Option (FuncId×List Operand):=match ops.toList with
  |[⟨none,.defer ⟨.value (.func g),as,_⟩,_,_,_,none⟩]=>some (g,as.toList)
  |_=>none
def xIR (r:Option (FuncId×List Operand)) (Q:List Dfr→Jh) (ds:List Dfr) (e:Env) (X:WP):WP:=match r with
  |some (g,as)=>Q ((g,as.map (ev e))::ds) .normal e
  |none=>X
def WG (P:Program) (T:Nat→Xj):Code→(List Dfr→Jh)→List Dfr→Env→WP
  |.seq a b,Q,ds,e=>WG P T a (fun ds'=>Yj (fun e'=>WG P T b Q ds' e') (Q ds')) ds e
  |.region id ops false,Q,ds,e=>xIR (xDS ops) Q ds e (W P T (.region id ops false) (Q ds) e)
  |c,Q,ds,e=>W P T c (Q ds) e
def xFy (n:Nat) (T:Nat→Xj):Code→Bool
  |.seq a b=>xFy n T a&&xFy n T b
  |.region id ops false=>(xDS ops).isSome||Za n T (.region id ops false)&&Y8 T (.region id ops false)
  |c=>Za n T c&&Y8 T c
def xI9 (n:Nat) (Q:List Dfr→Jh):Exit→Act→World→Prop:=fun x a w=>a.tmps.size=n∧∃ds,a.defers=ds.map xGo∧Q ds x (Y6 a) w
section
variable {P:Program} {T:Nat→Xj} {n:Nat}
theorem xKG {Q:List Dfr→Jh} {ds:List Dfr} (e:Exit) (a:Act) (w:World) (h:xwG n (ds.map xGo) (Q ds) e a w):xI9 n Q e a w:=⟨h.1,ds,h.2.1,h.2.2⟩
theorem xIy {ops:Array Oper} {g:FuncId} {as:List Operand} (h:xDS ops=some (g,as)):∃(a2:Array Operand) (ts:Array TypeId) (ty:TypeId) (p:String) (f:Array Edge),ops.toList=[⟨none,.defer ⟨.value (.func g),a2,ts⟩,ty,p,f,none⟩]∧a2.toList=as:=by
  unfold xDS at h
  split at h
  · rename_i hl
    simp only[Option.some.injEq,Prod.mk.injEq]at h
    obtain⟨rfl,rfl⟩:=h
    exact⟨_,_,_,_,_,hl,rfl⟩
  · cases h
theorem xJZ (hm:P.follows .mixedOrders=true) {m:Nat}:∀(c:Code) (Q:List Dfr→Jh) (ds:List Dfr) (a:Act) (w:World),xFy n T c=true→a.tmps.size=n→a.defers=ds.map xGo→WG P T c Q ds (Y6 a) w→c.wpIn (Fw none) m P (xI9 n Q) a w:=by
  have base:∀(c:Code) (Q:List Dfr→Jh) (ds:List Dfr) (a:Act) (w:World),(Za n T c&&Y8 T c)=true→a.tmps.size=n→a.defers=ds.map xGo→W P T c (Q ds) (Y6 a) w→c.wpIn (Fw none) m P (xI9 n Q) a w:=fun c Q ds a w hok hs hd h=>by
    rw[Bool.and_eq_true]at hok
    exact wpIn_mono (xdo hm _ (Q ds) a w hok.1 hok.2 hs hd h) xKG
  intro c
  induction c with
  | seq x y ihx ihy=>
    intro Q ds a w hok hs hd h
    simp only[xFy,Bool.and_eq_true]at hok
    simp only[WG]at h
    refine wpIn_seq (wpIn_mono (ihx _ ds a w hok.1 hs hd h) fun e a w hl=>?_)
    obtain⟨hs,ds',hd,h⟩:=hl
    cases e with
    |normal=>exact ihy Q ds' a w hok.2 hs hd h
    |_=>exact⟨hs,ds',hd,h⟩
  | region id ops d=>
    intro Q ds a w hok hs hd h
    cases d with
    |true=>exact base _ Q ds a w hok hs hd h
    | false=>
      cases hr:xDS ops with
      | none=>
        simp only[xFy,hr,Option.isSome_none,Bool.false_or]at hok
        simp only[WG,hr,xIR]at h
        exact base _ Q ds a w hok hs hd h
      | some r=>
        obtain⟨g,as⟩:=r
        simp only[WG,hr,xIR]at h
        obtain⟨a2,ts,ty,p,f,hl,rfl⟩:=xIy hr
        refine wpIn_region_list ?_
        rw[hl]
        unfold wpListIn
        have hw:Region.wanted ⟨none,.defer ⟨.value (.func g),a2,ts⟩,ty,p,f,none⟩ (yielded ops a.tmps)=true:=rfl
        rw[if_pos hw]
        refine⟨fun _ _=>trivial,?_⟩
        have he:a.eval (.func g)=.func (.func g) #[] #[]:=rfl
        have hrun: ((⟨none,.defer ⟨.value (.func g),a2,ts⟩,ty,p,f,none⟩:Oper).semAt (Fw none).round a.eval).run P w=.ok (.defer {target:=.fn (.func g) #[],args:=a2.map a.eval}) w:=by
          show(Oper.semAt none a.eval _).run P w=_
          rw[Oper.semAt_none]
          simp[execOp,resolve,Deferred.ofValue,he]
        rw[hrun,Oper.uponIn_defer]
        refine⟨hs,(g,a2.toList.map (ev (Y6 a)))::ds,?_,h⟩
        show{target:=.fn (.func g) #[],args:=a2.map a.eval}::a.defers=_
        rw[hd,List.map_cons,xeT]
        congr 1
        unfold xGo
        congr 1
        apply Array.ext'
        simp
  | _=>
    intro Q ds a w hok hs hd h
    exact base _ Q ds a w hok hs hd h
theorem xKQ {gn:Func} {tmps:Array Value} {w:World} (hgr:gn.results=#[]): (results gn tmps).run P w=.ok (.tuple #[]) w:=by
  unfold results
  rw[hgr]
  simp
def xES (P:Program):List Dfr→WP→WP
  |[],X=>X
  |d::ds,X=>fun w=>∃gn gT,FnI P d.1 gn gT∧gn.results=#[]∧d.2.length≤gn.ntmps∧∀u,W P gT (bd gn) (Ys P [] fun _=>xES P ds X) (xc3 u 0 d.2) w
def xMk (P:Program) (rs:List ResultVar) (K:Value→WP) (ds:List Dfr):Jh
  |.normal,e=>xES P ds (Ya P e rs fun vs=>K (one vs))
  |.ret,e=>xES P ds (Ya P e rs fun vs=>K (one vs))
  |_,_=>fun _=>False
theorem xET (hm:P.follows .mixedOrders=true) {fn:Func} {tmps:Array Value} {rs:List ResultVar} {K:Value→WP} (hrs:fn.results=rs.toArray):
    ∀(ds:List Dfr) (w:World),xES P ds (Ya P (Y6 {tmps:=tmps,defers:=[]}) rs fun vs=>K (one vs)) w→LeavesIn (Fw none) 0 P fn tmps (fun|.returned v,w'=>K v w'|_,_=>False) (ds.map xGo) .returning w
  | [],w,h=>by
    obtain⟨v,hr,hk⟩:=xmd h
    rw[←hrs]at hr
    exact⟨v,hr,hk⟩
  | d ::ds,w,h=>by
    obtain⟨gn,gT,G,hgr,hga,hD⟩:=h
    refine leavesIn_cons (by simp) (by intro h;cases h) (f:=d.1) (args:=d.2.toArray) ?_ (fun _ _=>trivial) ?_
    · have:=Qw G.n d.2.toArray w
      simpa [invoke]using this
    · refine CallsDIn.mono (callsDIn_of_wp (n:=0) G.h.func G.h.body trivial (R:=fun e w'=>match e with
        |.returned _=>LeavesIn (Fw none) 0 P fn tmps (fun|.returned v,w'=>K v w'|_,_=>False) (ds.map xGo) .returning w'
        | _=>False) (wpIn_mono (xdo (ro:=none) (m:=0) (D:=[]) hm (bd gn) _ _ w G.h.ok G.h.ok' (by simp;omega) rfl (by
          have:=hD (xsW gn.ntmps d.2.toArray)
          rw[←xi0]at this
          exact this)) fun y a3 w3 hy=>?_) rfl) fun e u' w' he=>?_
      · obtain⟨_,hd3,hy⟩:=hy
        have fin2:xES P ds (Ya P (Y6 {tmps:=tmps,defers:=[]}) rs fun vs=>K (one vs)) w3→bodyPost P gn (fun e w'=>match e with
            |.returned _=>LeavesIn (Fw none) 0 P fn tmps (fun|.returned v,w'=>K v w'|_,_=>False) (ds.map xGo) .returning w'
            |_=>False) .ret a3 w3:=fun hr=>⟨hd3,.tuple #[],xKQ hgr,xET hm hrs ds w3 hr⟩
        cases y with
        |normal=>exact fin2 hy
        |ret=>exact fin2 hy
        |exit id=>exact hy.elim
        |goto l=>exact hy.elim
        |panic ch=>exact hy.elim
        |outgrown=>exact hy.elim
      · obtain⟨rfl,he⟩:=he
        cases e with
        |returned v=>exact he
        |panicked ch=>exact he.elim
        |outgrown=>exact he.elim
theorem Tr.enterG (hm:P.follows .mixedOrders=true) {f:FuncId} {fn:Func} {c:Code} (hf:P.funcs[f]? =some fn) (hb:fn.body=some c) (hok:xFy fn.ntmps T c=true)
    {args:List Value} {K:Value→WP} {l:List Xc} {rs:List ResultVar} (hrs:fn.results=rs.toArray) (ha:args.length≤fn.ntmps)
    (h:∀u,Tr l (WG P T c (xMk P rs K) [] (xc3 u 0 args))):Tr l (XI P f args.toArray K):=fun w hw=>by
  unfold XI
  have h0:=h (xsW fn.ntmps args.toArray) w hw
  rw[←xi0]at h0
  refine callsIn_wide.1 (callsIn_of_wp_defers (n:=0) (F:=Fw none) hf hb trivial (wpIn_mono (xJZ hm c _ [] _ w hok (by simp;omega) rfl h0) fun x a w hl=>?_) rfl)
  obtain⟨_,ds,hd,hx⟩:=hl
  have fin:xES P ds (Ya P (Y6 a) rs fun vs=>K (one vs)) w→LeavesIn (Fw none) 0 P fn a.tmps (fun|.returned v,w'=>K v w'|_,_=>False) a.defers .returning w:=fun h=>by
    rw[hd];exact xET hm hrs ds w h
  cases x with
  |normal=>exact fin hx
  |ret=>exact fin hx
  |exit id=>exact hx.elim
  |goto l=>exact hx.elim
  |panic ch=>exact hx.elim
  |outgrown=>exact hx.elim
theorem xDi {a b:Code} {Q:List Dfr→Jh} {ds:List Dfr} {e:Env}:WG P T (.seq a b) Q ds e=WG P T a (fun ds'=>Yj (fun e'=>WG P T b Q ds' e') (Q ds')) ds e:=nr rfl
theorem xDf {id:Nat} {ops:Array Oper} {Q:List Dfr→Jh} {ds:List Dfr} {e:Env}:WG P T (.region id ops false) Q ds e=xIR (xDS ops) Q ds e (W P T (.region id ops false) (Q ds) e):=nr rfl
theorem xCL {id:Nat} {ops:Array Oper} {Q:List Dfr→Jh} {ds:List Dfr} {e:Env}:WG P T (.region id ops true) Q ds e=W P T (.region id ops true) (Q ds) e:=nr rfl
theorem xCK {c:Operand} {x y:Code} {Q:List Dfr→Jh} {ds:List Dfr} {e:Env}:WG P T (.cond c x y) Q ds e=W P T (.cond c x y) (Q ds) e:=nr rfl
theorem xCY {id:Nat} {b:Code} {Q:List Dfr→Jh} {ds:List Dfr} {e:Env}:WG P T (.block id b) Q ds e=W P T (.block id b) (Q ds) e:=nr rfl
theorem xDe {Q:List Dfr→Jh} {ds:List Dfr} {e:Env}:WG P T .ret Q ds e=Q ds .ret e:=nr rfl
theorem xDg {g:FuncId} {as:List Operand} {Q:List Dfr→Jh} {ds:List Dfr} {e:Env} {X:WP}:xIR (some (g,as)) Q ds e X=Q ((g,as.map (ev e))::ds) .normal e:=nr rfl
theorem xDk {Q:List Dfr→Jh} {ds:List Dfr} {e:Env} {X:WP}:xIR none Q ds e X=X:=nr rfl
theorem xDb {rs:List ResultVar} {K:Value→WP} {ds:List Dfr} {e:Env}:xMk P rs K ds .normal e=xES P ds (Ya P e rs fun vs=>K (one vs)):=nr rfl
theorem xDj {rs:List ResultVar} {K:Value→WP} {ds:List Dfr} {e:Env}:xMk P rs K ds .ret e=xES P ds (Ya P e rs fun vs=>K (one vs)):=nr rfl
theorem xEo {X:WP}:xES P [] X=X:=nr rfl
theorem Tr.dfr {g:FuncId} {gn:Func} {gT:Nat→Xj} [G:FnI P g gn gT] {l:List Xc} {as:List Value} {ds:List Dfr} {X:WP} (hr:gn.results=#[]:=by rfl) (ha:as.length≤gn.ntmps:=by exact Nat.le_of_ble_eq_true rfl)
    (h:∀u,Tr l (W P gT (bd gn) (Ys P [] fun _=>xES P ds X) (xc3 u 0 as))):Tr l (xES P ((g,as)::ds) X):=fun w hw=>⟨gn,gT,G,hr,ha,fun u=>h u w hw⟩
end
section
variable {P:Program} {T:Nat→Xj} {n:Nat}
def xvY (Q:Jh) (e:Env):Option Code→WP
  |none=>Q .normal e
  |some .ret=>Q .ret e
  |some (.exit id)=>Q (.exit id) e
  |some (.goto l)=>Q (.goto l) e
  |_=>fun _=>False
def xgA (P:Program) (n:Nat) (g:Operand) (ps:Array Tmp) (assign body:Code) (Q:List Nat→Jh) (ms:List Nat) (e:Env):WP:=fun w=>
  ∃ gf lb,ev e g=.func (.func gf) #[] lb∧xa1 P gf=true∧∀r:Loop,r.state=.ready→r.pending=none→r.params=ps→r.assign=assign→r.body=body→(∀t,r.tmps.getD t undef=e t)→r.tmps.size=n→
    XI P gf (#[.func (.yield (w.heap.size+1)) #[] #[]]++lb) (fun _ w3=>∃pe st,st≠.busy∧w3.heap[w.heap.size+1]? =some (.loop {r with state:=st,pending:=pe})∧
      xvY (Q (w.heap.size::ms)) e pe (w3.putObj (w.heap.size+1) (.loop {r with state:=.exhausted,pending:=pe}))) ((w.alloc (.deferred (some []))).alloc (.loop r))
def WM (P:Program) (n:Nat) (T:Nat→Xj):Code→(List Nat→Jh)→List Nat→Env→WP
  |.seq a b,Q,ms,e=>WM P n T a (fun ms'=>Yj (fun e'=>WM P n T b Q ms' e') (Q ms')) ms e
  |.block id b,Q,ms,e=>WM P n T b (fun ms'=>Yo id (Q ms')) ms e
  |.rangeFunc g ps assign body,Q,ms,e=>xgA P n g ps assign body Q ms e
  |c,Q,ms,e=>W P T c (Q ms) e
def xaP (n:Nat) (T:Nat→Xj):Code→Bool
  |.seq a b=>xaP n T a&&xaP n T b
  |.block _ b=>xaP n T b
  |.rangeFunc _ _ _ _=>true
  |c=>Za n T c&&Y8 T c
def xgR (ms:List Nat):List Deferred:=ms.map fun D=>{target:=.collected D,args:=#[]}
def xpc (n:Nat) (Q:List Nat→Jh):Exit→Act→World→Prop:=fun x a w=>a.tmps.size=n∧∃ms,a.defers=xgR ms∧Q ms x (Y6 a) w
theorem xqA {Q:List Nat→Jh} {ms:List Nat} (e:Exit) (a:Act) (w:World) (h:xwG n (xgR ms) (Q ms) e a w):xpc n Q e a w:=⟨h.1,ms,h.2.1,h.2.2⟩
theorem xrf (hm:P.follows .mixedOrders=true) {m:Nat}:∀(c:Code) (Q:List Nat→Jh) (ms:List Nat) (a:Act) (w:World),xaP n T c=true→a.tmps.size=n→a.defers=xgR ms→WM P n T c Q ms (Y6 a) w→c.wpIn (Fw none) m P (xpc n Q) a w:=by
  intro c
  induction c with
  | seq x y ihx ihy=>
    intro Q ms a w hok hs hd h
    simp only[xaP,Bool.and_eq_true]at hok
    simp only[WM]at h
    refine wpIn_seq (wpIn_mono (ihx _ ms a w hok.1 hs hd h) fun e a w hl=>?_)
    obtain⟨hs,ms',hd,h⟩:=hl
    cases e with
    |normal=>exact ihy Q ms' a w hok.2 hs hd h
    |_=>exact⟨hs,ms',hd,h⟩
  | block id b ih=>
    intro Q ms a w hok hs hd h
    simp only[xaP]at hok
    simp only[WM]at h
    refine wpIn_block (wpIn_mono (ih _ ms a w hok hs hd h) fun e a w hl=>?_)
    obtain⟨hs,ms',hd,h⟩:=hl
    cases e with
    | exit id'=>
      simp only[Yo]at h
      simp only[Exit.inBlock]
      by_cases he:id'=id
      · rw[if_pos he]at h⊢;exact⟨hs,ms',hd,h⟩
      · rw[if_neg he]at h⊢;exact⟨hs,ms',hd,h⟩
    |_=>exact⟨hs,ms',hd,h⟩
  | rangeFunc g ps assign body=>
    intro Q ms a w hok hs hd h
    simp only[WM]at h
    obtain⟨gf,lb,hg,hf,h⟩:=h
    rw[xeT]at hg
    refine wpIn_rangeFunc fun fn _=>?_
    have hc:=h {state:=.ready,pending:=none,fn,tmps:=a.tmps,params:=ps,assign,body,defers:=w.heap.size} rfl rfl rfl rfl rfl (fun t=>rfl) hs
    refine⟨w.heap.size+1,[{target:=.collected w.heap.size,args:=#[]}],(w.alloc (.deferred (some []))).alloc (.loop {state:=.ready,pending:=none,fn,tmps:=a.tmps,params:=ps,assign,body,defers:=w.heap.size}),{target:=.fn (.func gf) lb,args:=#[.func (.yield (w.heap.size+1)) #[] #[]]},(w.alloc (.deferred (some []))).alloc (.loop {state:=.ready,pending:=none,fn,tmps:=a.tmps,params:=ps,assign,body,defers:=w.heap.size}),gf,
      #[.func (.yield (w.heap.size+1)) #[] #[]]++lb,(w.alloc (.deferred (some []))).alloc (.loop {state:=.ready,pending:=none,fn,tmps:=a.tmps,params:=ps,assign,body,defers:=w.heap.size}),run_enterLoop_outer _ _ _ _ _,?_,fun _ _=>trivial,?_,(fun h=>by cases h),?_⟩
    · simp only[resolve,hg]
      simp[go_sem]
    · simp[invoke,go_sem,Qw hf]
    · refine xhD (Calls.mono hc fun e w3 he=>?_) none _
      cases e with
      | returned v=>
        obtain⟨pe,st,hst,hl,hj⟩:=he
        refine⟨pe,_,run_endLoop hl hst,?_⟩
        have fin:∀(x:Exit) (w':World),Q (w.heap.size::ms) x (Y6 a) w'→xpc n Q x {a with defers:=[{target:=.collected w.heap.size,args:=#[]}]++a.defers} w':=fun x w' hq=>⟨hs,w.heap.size::ms,by rw[hd];rfl,hq⟩
        cases pe with
        |none=>exact fin _ _ hj
        | some c=>
          cases c with
          |ret=>exact wpIn_ret (fin _ _ hj)
          |exit id=>exact wpIn_exit (fin _ _ hj)
          |goto l=>exact wpIn_goto (fin _ _ hj)
          |_=>exact hj.elim
      |panicked ch=>exact he.elim
      |outgrown=>exact he.elim
  | _=>
    intro Q ms a w hok hs hd h
    simp only[xaP,Bool.and_eq_true]at hok
    simp only[WM]at h
    exact wpIn_mono (xdo hm _ (Q ms) a w hok.1 hok.2 hs hd h) xqA
def WH:List Nat→WP→WP
  |[],X=>X
  |D::ms,X=>fun w=>w.heap[D]? =some (.deferred (some []))∧WH ms X (w.putObj D (.deferred none))
def Zc (P:Program) (rs:List ResultVar) (K:Value→WP) (ms:List Nat):Jh
  |.normal,e=>WH ms (Ya P e rs fun vs=>K (one vs))
  |.ret,e=>WH ms (Ya P e rs fun vs=>K (one vs))
  |_,_=>fun _=>False
theorem xbp {fn:Func} {tmps:Array Value} {rs:List ResultVar} {K:Value→WP} {R:Ending→World→Prop} (hR:∀v w,K v w→R (.returned v) w) (hrs:fn.results=rs.toArray):
    ∀(ms:List Nat) (w:World),WH ms (Ya P (Y6 {tmps:=tmps,defers:=[]}) rs fun vs=>K (one vs)) w→LeavesInM (Fw none) 0 P fn tmps R (xgR ms) .returning w
  | [],w,h=>by
    obtain⟨v,hr,hk⟩:=xmd h
    rw[←hrs]at hr
    exact⟨v,hr,hR _ _ hk⟩
  |D::ms,w,h=>⟨by simp,.inl ⟨D,_,rfl,run_takeDeferred h.1,xbp hR hrs ms _ h.2⟩⟩
theorem xha (hm:P.follows .mixedOrders=true) {f:FuncId} {fn:Func} {c:Code} (hf:P.funcs[f]? =some fn) (hb:fn.body=some c) (hok:xaP fn.ntmps T c=true) {args:List Value} {K:Value→WP} {w:World} {rs:List ResultVar} (hrs:fn.results=rs.toArray) (ha:args.length≤fn.ntmps)
    (h:∀u,WM P fn.ntmps T c (Zc P rs K) [] (xc3 u 0 args) w):XI P f args.toArray K w:=by
  unfold XI
  refine callsIn_wide.1 (callsIn_of_wp_marks (n:=0) hf hb trivial (wpIn_mono (xrf (m:=0) hm c (Zc P rs K) [] _ w hok (by simp;omega) rfl ?_) fun e a w hl=>?_) rfl)
  · have:=h (xsW fn.ntmps args.toArray)
    rw[←xi0]at this
    exact this
  · obtain⟨hs,ms,hd,h⟩:=hl
    have fin:WH ms (Ya P (Y6 a) rs fun vs=>K (one vs)) w→LeavesInM (Fw none) 0 P fn a.tmps (fun|.returned v,w'=>K v w'|_,_=>False) a.defers .returning w:=fun h=>by
      rw[hd]
      exact xbp (K:=K) (fun v w hk=>hk) hrs ms w h
    cases e with
    |normal=>exact fin h
    |ret=>exact fin h
    |exit id=>exact h.elim
    |goto l=>exact h.elim
    |panic ch=>exact h.elim
    |outgrown=>exact h.elim
def xd0 (e:Env):List (Tmp×Value)→Env
  |[]=>e
  |(p,v)::r=>xd0 (upd e p v) r
def xxF:Jh:=fun _ _ _=>False
def xuo (P:Program) (l:Nat) (K:Value→WP):Jh
  |.normal,_=>fun w=>∃v w',(Instr.endRound l none).run P w=.ok v w'∧K v w'
  |.ret,_=>fun w=>∃v w',(Instr.endRound l (some .ret)).run P w=.ok v w'∧K v w'
  |.exit id,_=>fun w=>∃v w',(Instr.endRound l (some (.exit id))).run P w=.ok v w'∧K v w'
  |.goto t,_=>fun w=>∃v w',(Instr.endRound l (some (.goto t))).run P w=.ok v w'∧K v w'
  |_,_=>fun _=>False
theorem xhK {e:Env}:∀(l:List (Tmp×Value)) (tmps:Array Value),(∀t,tmps.getD t undef=e t)→(∀x∈l,x.1<tmps.size)→
    (∀t,(l.foldl (fun tmps (x:Tmp×Value)=>tmps.setIfInBounds x.1 x.2) tmps).getD t undef=xd0 e l t)∧(l.foldl (fun tmps (x:Tmp×Value)=>tmps.setIfInBounds x.1 x.2) tmps).size=tmps.size
  |[],tmps,h,_=>⟨h,rfl⟩
  | (p, v)::r,tmps,h,hb=>by
    have hp:=hb (p,v) (by simp)
    obtain⟨h1,h2⟩:=xhK (e:=upd e p v) r (tmps.setIfInBounds p v) (fun t=>by
      unfold upd
      by_cases ht:t=p
      · subst ht;rw[if_pos rfl];simp[hp]
      · rw[if_neg ht,←h t]
        simp[Array.getElem?_setIfInBounds_ne (Ne.symm ht)]) (fun x hx=>by rw[Array.size_setIfInBounds];exact hb x (by simp[hx]))
    exact⟨h1,by rw[List.foldl_cons];rw[h2,Array.size_setIfInBounds]⟩
theorem xoM (hm:P.follows .mixedOrders=true) {l:Nat} {r:Loop} {e:Env} {args:Array Value} {K:Value→WP} {w:World} (hl:w.heap[l]? =some (.loop r)) (hsz:args.size=r.params.size) (hn:r.tmps.size=n) (he:∀t,r.tmps.getD t undef=e t)
    (hps:∀p∈r.params.toList,p<n) (hok:Za n T r.assign=true) (hok':Y8 T r.assign=true) (hob:Za n T r.body=true) (hob':Y8 T r.body=true)
    (h:W P T r.assign (Yj (fun e1 w1=>∃w2,(Instr.beginRound l).run P w1=.ok () w2∧W P T r.body (xuo P l K) e1 w2) xxF) (xd0 e (r.params.toList.zip args.toList)) w):xcx P l args K w:=by
  refine⟨r.fn,_,r.assign,r.body,run_yield hl hsz,Jf.of (m:=0) (roundIn_of_wpIn (F:=Fence.wide) (n:=0) trivial ?_)⟩
  have hf:=xhK (e:=e) (r.params.toList.zip args.toList) r.tmps he (fun x hx=>by rw[hn];exact hps x.1 (List.of_mem_zip hx).1)
  have hfold: (r.params.zip args).foldl (fun tmps (x:Tmp×Value)=>tmps.setIfInBounds x.1 x.2) r.tmps=(r.params.toList.zip args.toList).foldl (fun tmps (x:Tmp×Value)=>tmps.setIfInBounds x.1 x.2) r.tmps:=by
    rw[←Array.foldl_toList,Array.toList_zip]
  have henv:Y6 {tmps:=(r.params.zip args).foldl (fun tmps (x:Tmp×Value)=>tmps.setIfInBounds x.1 x.2) r.tmps,defers:=[]}=xd0 e (r.params.toList.zip args.toList):=by
    funext t
    show(Array.getD _ t undef)=_
    rw[hfold];exact hf.1 t
  rw[←henv]at h
  refine wpIn_mono (xdo (ro:=some l) (m:=0) (D:=[]) hm r.assign _ _ w hok hok' (by show(Array.size _)=n;rw[hfold,hf.2,hn]) rfl h) fun x a1 w1 hx=>?_
  obtain⟨hs1,hd1,hx⟩:=hx
  cases x with
  | normal=>
    obtain⟨w2,hb,hw⟩:=hx
    refine⟨w2,hb,wpIn_mono (xdo (ro:=some l) (m:=0) (D:=[]) hm r.body _ a1 w2 hob hob' hs1 hd1 hw) fun y a2 w3 hy=>?_⟩
    obtain⟨_,_,hy⟩:=hy
    cases y with
    |normal=>exact hy
    |ret=>exact hy
    |exit id=>exact hy
    |goto t=>exact hy
    |panic ch=>exact hy.elim
    |outgrown=>exact hy.elim
  |_=>exact hx.elim
end
section
variable {P:Program} {T:Nat→Xj} {n:Nat} {l F:List Xc} {Q:List Nat→Jh} {ms:List Nat} {e:Env}
theorem Tr.enterM (hm:P.follows .mixedOrders=true) {f:FuncId} {fn:Func} {c:Code} (hf:P.funcs[f]? =some fn) (hb:fn.body=some c) (hok:xaP fn.ntmps T c=true) {args:List Value} {rs:List ResultVar} {K:Value→WP} (hrs:fn.results=rs.toArray) (ha:args.length≤fn.ntmps)
    (h:∀u,Tr l (WM P fn.ntmps T c (Zc P rs K) [] (xc3 u 0 args))):Tr l (XI P f args.toArray K):=fun w hw=>xha hm hf hb hok hrs ha fun u=>h u w hw
theorem xj0 {a b:Code}:WM P n T (.seq a b) Q ms e=WM P n T a (fun ms'=>Yj (fun e'=>WM P n T b Q ms' e') (Q ms')) ms e:=rfl
theorem xeO {id:Nat} {b:Code}:WM P n T (.block id b) Q ms e=WM P n T b (fun ms'=>Yo id (Q ms')) ms e:=rfl
theorem xqD {g:Operand} {ps:Array Tmp} {a b:Code}:WM P n T (.rangeFunc g ps a b) Q ms e=xgA P n g ps a b Q ms e:=rfl
theorem xck {id:Nat} {ops:Array Oper} {d:Bool}:WM P n T (.region id ops d) Q ms e=W P T (.region id ops d) (Q ms) e:=rfl
theorem xjX:WM P n T .ret Q ms e=Q ms .ret e:=rfl
theorem xge {c:Operand} {x y:Code}:WM P n T (.cond c x y) Q ms e=W P T (.cond c x y) (Q ms) e:=rfl
theorem xlV:WM P n T .skip Q ms e=Q ms .normal e:=rfl
theorem xuW {rs:List ResultVar} {K:Value→WP}:Zc P rs K ms .normal e=WH ms (Ya P e rs fun vs=>K (one vs)):=rfl
theorem xvk {rs:List ResultVar} {K:Value→WP}:Zc P rs K ms .ret e=WH ms (Ya P e rs fun vs=>K (one vs)):=rfl
theorem xkr {X:WP}:WH [] X=X:=rfl
theorem Tr.mark {D:Nat} {X:WP} (ht:Xm l (blk D (.deferred (some []))) F) (h:Tr F (WH ms X)):Tr l (WH (D::ms) X):=Tr.imp ht fun w hw=>by
  have hg:=hw.get
  have hp:Sat (w.putObj D (.deferred none)) (blk D (.deferred none)::F):=hw.put rfl ⟨rfl,rfl,rfl⟩
  exact⟨hg,h _ hp.tail⟩
end
def xkt {α:Type} (P:Program) (L:Nat) (encs:α→Array Value) (ok:α→Prop) (J Jx:List α→Xc) (N:Nat):Prop:=
  ∀(pre:List α) (x:α) (G:List Xc) (K:Value→WP),pre.length<N→ok x→Tr (J (pre++[x])::G) (K (.bool true))→Tr (Jx (pre++[x])::G) (K (.bool false))→Tr (J pre::G) (xcx P L (encs x) K)
def xtw {α:Type} (P:Program) (gf:Nat) (lb:List Value) (encs:α→Array Value) (ok:α→Prop) (DL:List Xc) (S Sp:List α→Prop) (N:Nat):Prop:=
  ∀ (L:Nat) (J Jx:List α→Xc),xkt P L encs ok J Jx N→∀(F:List Xc) (K:Value→WP),(∀v xs,S xs→Tr (J xs::(DL++F)) (K v))→(∀v pre,Sp pre→Tr (Jx pre::(DL++F)) (K v))→
    Tr (J []::(DL++F)) (XI P gf (.func (.yield L) #[] #[]::lb).toArray K)
section
variable {α:Type} {P:Program} {T:Nat→Xj} {n:Nat} {l F:List Xc} {Q:List Nat→Jh} {ms:List Nat} {e:Env}
theorem Tr.yield {L:Nat} {encs:α→Array Value} {ok:α→Prop} {J Jx:List α→Xc} {N:Nat} {pre:List α} {K:Value→WP} (hR:xkt P L encs ok J Jx N) (x:α) {as:Array Value} (ha:as=encs x) (hN:pre.length<N) (hx:ok x) (ht:Xm l (J pre) F) (h1:Tr (J (pre++[x])::F) (K (.bool true))) (h2:Tr (Jx (pre++[x])::F) (K (.bool false))):
    Tr l (xcx P L as K):=by subst ha;exact Tr.imp ht (hR pre x F K hN hx h1 h2)
theorem Q5 {w:World} {A B:Xc} {l:List Xc} (h:Sat w (A::B::l)):Sat w (B::A::l):=h.perm (List.Perm.swap _ _ _)
theorem Tr.range {gf N:Nat} {lb:List Value} {g:Operand} {ps:Array Tmp} {assign body:Code} {encs:α→Array Value} {ok:α→Prop} {DL:List Xc} {S Sp:List α→Prop} {I Ix:List α→Xc} {a1:α→Env} (hm:P.follows .mixedOrders=true)
    (hit:xtw P gf lb encs ok DL S Sp N) (hg:ev e g=.func (.func gf) #[] lb.toArray) (hf:xa1 P gf=true) (ht:YK l (I []::DL) F)
    (hsz:∀x,(encs x).size=ps.size) (hps:∀p∈ps.toList,p<n) (hok:Za n T assign=true) (hok':Y8 T assign=true) (hob:Za n T body=true) (hob':Y8 T body=true)
    (hasg:∀x X,W P T assign X (xd0 e (ps.toList.zip (encs x).toList))=X .normal (a1 x))
    (hbody:∀pre x G (R:Jh),pre.length<N→ok x→(∀u,Tr (I (pre++[x])::G) (R .normal u))→(∀u,Tr (Ix (pre++[x])::G) (R .ret u))→Tr (I pre::G) (W P T body R (a1 x)))
    (hdone:∀D xs,S xs→Tr (I xs::blk D (.deferred (some []))::(DL++F)) (Q (D::ms) .normal e))
    (hstop:∀D pre,Sp pre→Tr (Ix pre::blk D (.deferred (some []))::(DL++F)) (Q (D::ms) .ret e)):Tr l (xgA P n g ps assign body Q ms e):=fun w hw0=>by
  have hw:Sat w (I []::(DL++F)):=ht.sat hw0
  refine⟨gf,lb.toArray,hg,hf,fun r hr1 hr2 hr3 hr4 hr5 hr6 hr7=>?_⟩
  have h1:=hw.alloc (.deferred (some []))
  have h2:=h1.alloc (.loop r)
  have hL: (w.alloc (.deferred (some []))).heap.size=w.heap.size+1:=by simp
  rw[hL]at h2
  have hrr: ({r with state:=.ready,pending:=none}:Loop)=r:=by rw[←hr1,←hr2]
  have hround:xkt P (w.heap.size+1) encs ok (fun pre=>sep (blk (w.heap.size+1) (.loop r)) (I pre)) (fun pre=>sep (blk (w.heap.size+1) (.loop {r with state:=.done,pending:=some .ret})) (Ix pre)) N:=by
    intro pre x G K hN hx hK1 hK2
    refine Tr.sep_iff.2 fun w1 hw1=>?_
    have hl:=hw1.get
    refine xoM (n:=n) (T:=T) (e:=e) hm hl (by rw[hsz,hr3]) hr7 hr6 (by rw[hr3];exact hps) (by rw[hr4];exact hok) (by rw[hr4];exact hok') (by rw[hr5];exact hob) (by rw[hr5];exact hob') ?_
    rw[hr3,hr4,hasg]
    refine⟨_,run_beginRound hl hr1,?_⟩
    subst hr5
    have hw2:Sat (w1.putObj (w.heap.size+1) (.loop {r with state:=.busy})) (blk (w.heap.size+1) (.loop {r with state:=.busy})::I pre::G):=hw1.put rfl ⟨rfl,rfl,rfl⟩
    refine hbody pre x (blk (w.heap.size+1) (.loop {r with state:=.busy})::G) _ hN hx (fun u w3 hw3=>?_) (fun u w3 hw3=>?_) _ (Q5 hw2)
    · have hw3:=Q5 hw3
      have hl3:=hw3.get
      refine⟨_,_,run_endRound none hl3,?_⟩
      refine hK1 _ (Imp.sepI.sat ?_)
      have:Sat (w3.putObj (w.heap.size+1) (.loop {r with state:=.ready,pending:=none})) (blk (w.heap.size+1) (.loop {r with state:=.ready,pending:=none})::I (pre++[x])::G):=hw3.put rfl ⟨rfl,rfl,rfl⟩
      rw[hrr]at this
      show Sat (w3.putObj (w.heap.size+1) (.loop {r with state:=.ready,pending:=none})) _
      rw[hrr];exact this
    · have hw3:=Q5 hw3
      have hl3:=hw3.get
      refine⟨_,_,run_endRound (some .ret) hl3,?_⟩
      refine hK2 _ (Imp.sepI.sat ?_)
      exact hw3.put rfl ⟨rfl,rfl,rfl⟩
  have hshuf:∀{A B C:Xc} {L1 L2:List Xc},List.Perm (A::B::C::(L1++L2)) (A::C::(L1++B::L2)):=fun{A B C L1 L2}=>by
    refine List.Perm.cons A ((List.Perm.swap C B _).trans (List.Perm.cons C ?_))
    exact(List.perm_middle (l₁:=L1) (l₂:=L2) (a:=B)).symm
  have hst:Sat _ (sep (blk (w.heap.size+1) (.loop r)) (I [])::(DL++(blk w.heap.size (.deferred (some []))::F))):=Imp.sepI.sat (h2.perm hshuf)
  have happ: (#[.func (.yield (w.heap.size+1)) #[] #[]]++lb.toArray:Array Value)=(.func (.yield (w.heap.size+1)) #[] #[]::lb).toArray:=by simp
  rw[happ]
  refine hit (w.heap.size+1) _ _ hround (blk w.heap.size (.deferred (some []))::F) _ (fun v xs hS=>Tr.sep_iff.2 fun w3 hw3=>?_) (fun v pre hS=>Tr.sep_iff.2 fun w3 hw3=>?_) _ hst
  · have hl3:=hw3.get
    refine⟨none,.ready,by simp,by rw[hrr];exact hl3,?_⟩
    have hp:Sat (w3.putObj (w.heap.size+1) (.loop {r with state:=.exhausted,pending:=none})) (blk (w.heap.size+1) (.loop {r with state:=.exhausted,pending:=none})::I xs::(DL++blk w.heap.size (.deferred (some []))::F)):=hw3.put rfl ⟨rfl,rfl,rfl⟩
    exact hdone _ xs hS _ (Q5 (hp.perm hshuf.symm).tail)
  · have hl3:=hw3.get
    refine⟨some .ret,.done,by simp,hl3,?_⟩
    have hp:Sat (w3.putObj (w.heap.size+1) (.loop {r with state:=.exhausted,pending:=some .ret})) (blk (w.heap.size+1) (.loop {r with state:=.exhausted,pending:=some .ret})::Ix pre::(DL++blk w.heap.size (.deferred (some []))::F)):=hw3.put rfl ⟨rfl,rfl,rfl⟩
    exact hstop _ pre hS _ (Q5 (hp.perm hshuf.symm).tail)
end
theorem xez {sz:Nat} {a:Option Addr} {n c:Nat}:Zu sz (.slice a n c) 0 n=.slice a n c:=by
  cases a<;>simp[Zu,Addr.add]
theorem xvf {α:Type} [iE:En α] {v:Value} {xs:List α} {ro:Bool} {lo hi:Nat} (h1:lo≤hi) (h2:hi≤xs.length) {R S:Jd} {w:World} (h: (sl ro v xs).h R S w): (sl ro (Zu (En.sz α) v lo hi) ((xs.take hi).drop lo)).h R S w:=by
  rcases h with⟨hn,rfl⟩|⟨b,off,cap,cs,T,fr,rfl,h3,h4,h5,h6⟩
  · simp at h2
    subst h2
    obtain rfl:lo=0:=by omega
    obtain⟨a,rfl⟩:=hn.slice
    have e:Zu (En.sz α) (.slice a 0 0) 0 0=.slice a 0 0:=xez
    rw[e]
    exact .inl ⟨hn,rfl⟩
  · have hlen: ((xs.take hi).drop lo).length=hi-lo:=by simp;omega
    have hcut:XK ((xs.take hi).drop lo)=((XK xs).drop (lo*En.sz α)).take ((hi-lo)*En.sz α):=by
      have key:∀(ys:List α) (n:Nat),XK (ys.take n)=(XK ys).take (n*En.sz α)∧XK (ys.drop n)=(XK ys).drop (n*En.sz α):=by
        intro ys
        induction ys with
        |nil=>intro n;simp[XK]
        | cons y ys ih=>
          intro n
          cases n with
          |zero=>simp[XK]
          | succ n=>
            obtain⟨i1,i2⟩:=ih n
            simp only[XK,List.take_succ_cons,List.drop_succ_cons,List.flatMap_cons]at i1 i2⊢
            have e: (n+1)*En.sz α=(En.enc y).length+n*En.sz α:=by rw[En.len,Nat.succ_mul];omega
            have t1: (En.enc y).take ((En.enc y).length+n*En.sz α)=En.enc y:=List.take_of_length_le (Nat.le_add_right _ _)
            have t2: (En.enc y).drop ((En.enc y).length+n*En.sz α)=[]:=List.drop_eq_nil_of_le (Nat.le_add_right _ _)
            rw[e,List.take_append,List.drop_append,i1,i2,t1,t2,Nat.add_sub_cancel_left]
            exact⟨rfl,rfl⟩
      rw[(key _ _).2,(key _ _).1,List.drop_take,Nat.sub_mul]
    by_cases hc:cap=lo
    · have: (xs.take hi).drop lo=[]:=List.eq_nil_of_length_eq_zero (by rw[hlen];omega)
      refine .inr ⟨b,off,0,cs,T,fr,?_,⟨by rw[hlen];omega,by rw[hlen];omega⟩,?_,h5,?_⟩
      · subst hc;simp[Zu,hlen]
      · cases ro
        · refine⟨h4.1,h4.2.1,?_⟩
          have:=h4.2.2
          rw[Nat.zero_mul]
          have:=Nat.zero_le (cap*En.sz α)
          omega
        · exact h4
      · rw[this];simp[XK]
    · refine .inr ⟨b,off+lo*En.sz α,cap-lo,cs,T,fr,?_,⟨by rw[hlen];omega,by rw[hlen];omega⟩,?_,h5,?_⟩
      · simp[Zu,hc,hlen,ZG]
      · cases ro
        · refine⟨h4.1,h4.2.1,?_⟩
          have h7:=h4.2.2
          have:lo*En.sz α+(cap-lo)*En.sz α=cap*En.sz α:=by rw[←Nat.add_mul];congr 1;omega
          omega
        · exact h4
      · rw[hlen,hcut,←h6,←List.drop_drop,List.drop_take,List.take_take]
        congr 1
        have: (hi-lo)*En.sz α≤xs.length*En.sz α-lo*En.sz α:=by rw[←Nat.sub_mul];exact Nat.mul_le_mul_right _ (by omega)
        omega
theorem xqw {α:Type} [iE:En α] {l:List Xc} {v:Value} {xs:List α} {ro:Bool} {lo hi:Nat} (h1:lo≤hi) (h2:hi≤xs.length) (hs:ZV l v ro α iE xs):ZV l (Zu (En.sz α) v lo hi) ro α iE ((xs.take hi).drop lo):=⟨fun w R U a b c=>by
  obtain⟨S,h⟩:=hs.h w R U a b c
  exact⟨S,xvf h1 h2 h⟩⟩
theorem A.copyCut {P:Program} {α:Type} [iE:En α] {v x:Value} {xs ys:List α} {l F:List Xc} {K:Value→WP} {ro:Bool} {T T2 ty e bytes lo n:Nat} {z:List Value} [hT:ZY P T e bytes (En.sz α) z] [ht:TkS l v α iE xs F] [hs:ZV F x ro α iE ys] (hlo:lo+ys.length≤xs.length) (hn:n=xs.length)
    (hk:Tr (sl false v (xs.take lo++ys++xs.drop (lo+ys.length))::F) (K (.int .i64 ys.length))):Tr l (Xt P (Builtin.copy_ #[T,T2] ty #[Zu (En.sz α) v lo n,x]) K):=fun w hw0=>by
  subst hn
  have hw:=Imp.sat ht.h hw0
  obtain⟨hu,inf,hinf,hsz,hby,hzz⟩:=hT.h
  obtain⟨Rx,Sx,hxh⟩:=(Has.next (B:=sl false v xs) hs.h).sat hw
  have hfx: (Builtin.firstCells (En.sz α) ys.length x).run P w=.ok (XK ys).toArray w:=V7 hxh
  obtain⟨ax,cx,rfl,_⟩:=Wc (Has.next (B:=sl false v xs) hs.h) hw
  have hmin:∀m,ys.length≤m→Nat.min ys.length m=ys.length:=fun m h=>Nat.min_eq_left h
  have hsize:∀w,(sizeOf e).run P w=.ok (En.sz α) w:=fun w=>by simp[sizeOf,typeInfo,hinf,hsz]
  by_cases hy:ys=[]
  · subst hy
    have e0:xs.take lo++([]:List α)++xs.drop (lo+([]:List α).length)=xs:=by simp
    rw[e0]at hk
    refine⟨.int .i64 0,w,?_,hk w hw⟩
    obtain⟨a,c,rfl,hc⟩:=Wc (l:=sl false v xs::F) Has.here hw
    have hfx': (Builtin.firstCells (En.sz α) 0 (.slice ax 0 cx)).run P w=.ok #[] w:=hfx
    cases a<;>simp[Builtin.copy_,run_underlying hu,Zu,Builtin.lenOf,hsize,hfx',goInt,storeCells]<;>(try split)<;>simp_all
  · have hpos:=List.length_pos_iff.2 hy
    rcases WA hw with⟨_,rfl,_⟩|⟨b,off,cap,cs,T',rfl,e3,e5,e7,hwb⟩
    · exact absurd (show lo+ys.length≤0 from hlo) (by omega)
    · have hm2:xs.length*En.sz α≤cap*En.sz α:=Nat.mul_le_mul_right _ e3.1
      have hm3:lo*En.sz α+ys.length*En.sz α≤xs.length*En.sz α:=by rw[←Nat.add_mul];exact Nat.mul_le_mul_right _ hlo
      have hfl: (XK ys).length=ys.length*En.sz α:=XD ys
      obtain⟨w',hr,hs'⟩:=Zo (P:=P) (T:=T') (XK ys) cs b (off+lo*En.sz α) 0 (blk b (.cells cs.toArray T' (0,0))::F) _ w
        (fun u hu=>by have:=xb8 ys;rw[List.all_eq_true]at this;exact this u hu) (by omega) hwb Upd.here
      refine⟨.int .i64 ys.length,w',?_,hk w' ?_⟩
      · have hc:¬cap=lo:=by omega
        simp only[Zu,if_neg hc,Option.map_some,ZG]
        simp[Builtin.copy_,run_underlying hu,Builtin.lenOf,hsize,hfx,hmin _ (show ys.length≤xs.length-lo by omega),goInt,hr]
      · have hlen: (xs.take lo++ys++xs.drop (lo+ys.length)).length=xs.length:=by simp;omega
        refine Vt (b:=b) (off:=off) (cap:=cap) (by rw[hlen]) ⟨by rw[hlen];exact e3.1,by rw[hlen];exact e3.2⟩ (by rw[Zz];exact e5) ?_ hs'
        rw[hlen,Nat.add_zero,xbZ _ _ _ (by omega),e7]
        exact xcp hlo
theorem A.ccV {P:Program} {α:Type} [iE:En α] {v:Value} {xs:List α} {l:List Xc} {ro:Bool} {K:Value→WP} {T n:Nat} {lo hi:Int} {k k':IntKind} [Slc P T n] [hs:ZV l v ro α iE xs] (hne:n=En.sz α) (h0:0≤lo) (h1:lo≤hi) (h2:hi≤xs.length) (hx:Tr l (K (Zu (En.sz α) v lo.toNat hi.toNat))):
    Tr l (Xq P (Instr.sliceAt T v (some (.int k lo)) (some (.int k' hi)) none) K):=fun w hw=>by
  subst hne
  obtain⟨a,c,rfl,hc⟩:=Wc hs.h hw
  exact⟨_,xc9 (m:=lo.toNat) (h:=hi.toNat) (by simp[Instr.sliceBounds,Instr.sliceBound,asIntOf,h0,show 0≤hi by omega,show hi≤(c:Int) by omega,show lo≤max hi 0 by omega]),hx w hw⟩
theorem A.clearV {P:Program} {α:Type} [iE:En α] {v:Value} {xs:List α} {l F:List Xc} {K:Value→WP} {T ty e bytes:Nat} {z:List Value} (dv:α) [hT:ZY P T e bytes (En.sz α) z] [ht:TkS l v α iE xs F] (hz:z=En.enc dv)
    (hk:Tr (sl false v (List.replicate xs.length dv)::F) (K (.tuple #[]))):Tr l (Xt P (Builtin.clear_ #[T] ty #[v]) K):=fun w hw0=>by
  have hw:=Imp.sat ht.h hw0
  obtain⟨a,c,rfl,hc⟩:=Wc (l:=sl false v xs::F) Has.here hw
  have:=A.clear (P:=P) (T:=T) (ty:=ty) (l:=l) (F:=F) (K:=K) (v:=.slice a xs.length c) (xs:=xs) (i:=0) (n:=xs.length) (dv:=dv) hz (Nat.zero_le _) rfl (by simpa using hk) w hw0
  rw[xez]at this
  exact this
section
variable {α:Type}
def xaJ (f:α→α) (xs:List α) (k:Nat):List α:=(xs.take k).map f++xs.drop k
theorem xeI {f:α→α} {xs:List α}:xaJ f xs xs.length=xs.map f:=by simp[xaJ]
theorem xb2 {f:α→α} {xs:List α} {k:Nat}: (xaJ f xs k).length=xs.length:=by simp[xaJ];omega
end
section
variable {α β:Type} [Inhabited α]
theorem xgq {f:α→α} {xs:List α} {k:Nat} (h:k<xs.length):ix (xaJ f xs k) (k:Int)=ix xs (k:Int):=by
  have h1: (xaJ f xs k)[k]? =xs[k]?:=by
    unfold xaJ
    rw[List.getElem?_append_right (by simp;omega)]
    simp[Nat.min_eq_left (Nat.le_of_lt h)]
  simp[ix,h1]
theorem xeo {f:α→α} {xs:List α} {k:Nat} (h:k<xs.length): (xaJ f xs k).set k (f (ix xs (k:Int)))=xaJ f xs (k+1):=by
  have hx:ix xs (k:Int)=xs[k]:=by simp[ix,h]
  have hl: ((xs.take k).map f).length=k:=by simp;omega
  unfold xaJ
  rw[List.set_append_right _ _ (by omega),hl,Nat.sub_self,List.take_succ_eq_append_getElem h,List.map_append,List.append_assoc,List.drop_eq_getElem_cons h,hx]
  rfl
end
def sepL:List Xc→Xc
  |[]=>fact True
  |A::l=>sep A (sepL l)
def pk {γ:Type} (f:γ→List Xc) (p:γ→Prop):Xc:=ex fun g=>sep (fact (p g)) (sepL (f g))
theorem Imp.sepL {m l:List Xc}:Imp (m++l) (Wk.sepL m::l):=by
  induction m with
  |nil=>exact Imp.factI trivial
  |cons A m ih=>exact Imp.trans (Imp.cons ih) Imp.sepI
theorem Tr.sepL {m l:List Xc} {X:WP} (h:Tr (m++l) X):Tr (Wk.sepL m::l) X:=by
  induction m generalizing l with
  |nil=>exact Tr.fact_iff.2 fun _=>h
  |cons A m ih=>exact Tr.sep_iff.2 ((ih (l:=A::l) (h.imp (Imp.of_perm (by simp)))).imp Imp.swap)
theorem Imp.pk {γ:Type} {f:γ→List Xc} {p:γ→Prop} {l:List Xc} (g:γ) (hp:p g):Imp (f g++l) (Wk.pk f p::l):=
  Imp.trans Imp.sepL (Imp.trans (Imp.factI hp) (Imp.trans Imp.sepI (Imp.exI (f:=fun g=>Wk.sep (fact (p g)) (Wk.sepL (f g))) g)))
theorem Tr.pk {γ:Type} {f:γ→List Xc} {p:γ→Prop} {l:List Xc} {X:WP} (h:∀g,p g→Tr (f g++l) X):Tr (Wk.pk f p::l) X:=
  Tr.ex_iff.2 fun g=>Tr.sep_iff.2 (Tr.fact_iff.2 fun hp=>Tr.sepL (h g hp))
theorem Xb.pk {P:Program} {fn:FuncId} {args:Array Value} {γ:Type} {f:γ→List Xc} {p:γ→Prop} {rest:List Xc} {post:Value→List Xc→Prop}
    (h:∀g,p g→∀(F:List Xc) (K:Value→WP),(∀v l',post v l'→Tr (l'++F) (K v))→Tr (f g++(rest++F)) (XI P fn args K)):Xb P fn args (Wk.pk f p::rest) post:=
  fun F K hK=>Tr.pk fun g hg=>h g hg F K hK
section
open Go Go.Conc Go.RowKit
def CW (P:Program) (n:Nat) (c:Code) (Q:Jh):Env→WP:=fun e w=>
  ∀(a:Act),a.tmps.size=n→a.defers=[]→Y6 a=e→∀(b:Frame) (k:List Item) (cs:List Frame),b.kind=.normal→∃x a' w',xwG n [] Q x a' w'∧Arrives P (lone (b.at a (.code c::k)) cs w) b k cs x a' w'
section
variable {P:Program} {n:Nat} {T:Nat→Xj}
theorem xOp (hm:P.follows .mixedOrders=true) {c:Code} {Q:Jh} {e:Env} {w:World} (hok:Za n T c=true) (hok':Y8 T c=true) (h:W P T c Q e w):CW P n c Q e w:=fun a hs hd he b k cs _=>
  (wpIn_wide (n:=0)).1 (xdo (ro:=none) (m:=0) (T:=T) hm c Q a w hok hok' hs hd (by rw[he];exact h)) b k cs
theorem xMs {x y:Code} {Q:Jh} {e:Env} {w:World} (h:CW P n x (Yj (CW P n y Q) Q) e w):CW P n (.seq x y) Q e w:=by
  intro a hs hd he b k cs hb
  obtain⟨z,a₁,w₁,⟨hs1,hd1,hq⟩,harr⟩:=h a hs hd he b (.code y::k) cs hb
  cases z with
  | normal=>
    obtain⟨e₂,a₂,w₂,hq₂,harr₂⟩:=hq a₁ hs1 hd1 rfl b k cs hb
    exact⟨e₂,a₂,w₂,hq₂,.of_steps (.head step_seq harr) harr₂⟩
  |exit id=>exact⟨_,a₁,w₁,⟨hs1,hd1,hq⟩,.of_steps (.one step_seq) (.pass (x:=.code y) rfl (fun _ _=>.inl (by simp)) harr)⟩
  |goto l=>exact⟨_,a₁,w₁,⟨hs1,hd1,hq⟩,.of_steps (.one step_seq) (.pass (x:=.code y) rfl (fun _ _=>.inl (by simp)) harr)⟩
  |ret=>exact⟨_,a₁,w₁,⟨hs1,hd1,hq⟩,.of_steps (.one step_seq) (.pass (x:=.code y) rfl (fun _ _=>.inl (by simp)) harr)⟩
  |panic ch=>exact⟨_,a₁,w₁,⟨hs1,hd1,hq⟩,.of_steps (.one step_seq) (.pass (x:=.code y) rfl (fun _ _=>.inl (by simp)) harr)⟩
  |outgrown=>exact⟨_,a₁,w₁,⟨hs1,hd1,hq⟩,.of_steps (.one step_seq) (.pass (x:=.code y) rfl (fun _ _=>.inl (by simp)) harr)⟩
theorem xLb {f:FuncId} {fn:Func} {c:Code} {args:List Value} {K:Value→WP} {w:World} {rs:List ResultVar} (hf:P.funcs[f]? =some fn) (hb:fn.body=some c) (hrs:fn.results=rs.toArray) (ha:args.length≤fn.ntmps)
    (h:∀u,CW P fn.ntmps c (Ys P rs K) (xc3 u 0 args) w):XI P f args.toArray K w:=by
  unfold XI
  intro cs
  let b:Frame:={(default:Frame)with fn:=f,kind:=.normal}
  have henter:Frame.enter P f args.toArray .normal=b.at {tmps:=args.toArray++Array.replicate (fn.ntmps-args.toArray.size) undef,defers:=[]} [.code c]:=by
    simp[Frame.enter,Frame.at,hf,hb,b]
  have h0:=h (xsW fn.ntmps args.toArray)
  rw[←xi0]at h0
  obtain⟨e,a',w',⟨hs,hd,hq⟩,harr⟩:=h0 {tmps:=args.toArray++Array.replicate (fn.ntmps-args.toArray.size) undef,defers:=[]} (by simp;omega) rfl rfl b [] cs rfl
  rw[←henter]at harr
  have fin:∀w,Ya P (Y6 a') rs (fun vs=>K (one vs)) w→∃v,(results fn a'.tmps).run P w=.ok v w∧K v w:=fun w h=>by
    obtain⟨v,hr,hk⟩:=xmd h
    refine⟨v,?_,hk⟩
    rw[←hrs]at hr
    exact hr
  cases e with
  | normal=>
    obtain⟨v,hr,hR⟩:=fin _ hq
    exact⟨.returned v,w',_,hR,Steps.trans harr (.one step_end),rfl,rfl,hd,rfl,fn,hf,hr⟩
  | ret=>
    obtain⟨v,hr,hR⟩:=fin _ hq
    obtain⟨todo,hst⟩:=harr
    exact⟨.returned v,w',_,hR,hst,rfl,rfl,hd,rfl,fn,hf,hr⟩
  |panic chain=>exact hq.elim
  |exit id=>exact hq.elim
  |goto l=>exact hq.elim
  |outgrown=>exact hq.elim
def xDP (d1 d2 d3:Nat) (cs:Array SelectCase) (ty1 ty2 ty3 ti tj:Nat) (p1 p2 p3:String) (f1 f2 f3:Array Edge):Array Oper:=
  #[⟨some d1,.select cs false,ty1,p1,f1,none⟩,⟨some d2,.extract (.tmp d1) 0,ty2,p2,f2,none⟩,⟨some d3,.binOp .eql ti (.tmp d2) (.const (.int .i64 0)) tj,ty3,p3,f3,none⟩]
theorem xEI {a:Act} {d:Nat} {v:Value} (h:d<a.tmps.size): (a.put (some d) v).eval (.tmp d)=v:=by
  simp[Act.put,Act.eval,h]
theorem xF8 {d1 d2 d3:Nat} {cs:Array SelectCase} {ty1 ty2 ty3 ti tj:Nat} {p1 p2 p3:String} {f1 f2 f3:Array Edge} {id:Nat} {Q:Jh} {e:Env} {w w₁:World} {i:Int} {vs:List Value} (h1:d1<n) (h2:d2<n) (h3:d3<n)
    (hs:∀(a:Act) (b:Frame) (k:List Item) (fs:List Frame),Y6 a=e→b.kind=.normal→step P (solo (G (b.at a (.inRegion (xDP d1 d2 d3 cs ty1 ty2 ty3 ti tj p1 p2 p3 f1 f2 f3) [0,1,2]::k)) fs) w)=.next (solo (G ((b.at a (.inRegion (xDP d1 d2 d3 cs ty1 ty2 ty3 ti tj p1 p2 p3 f1 f2 f3) [0,1,2]::k)).finish (.tuple (goInt i::vs).toArray)) fs) w₁))
    (hQ:Q .normal (upd (upd (upd e d1 (.tuple (goInt i::vs).toArray)) d2 (goInt i)) d3 (.bool (decide (i=0)))) w₁):CW P n (.region id (xDP d1 d2 d3 cs ty1 ty2 ty3 ti tj p1 p2 p3 f1 f2 f3) false) Q e w:=by
  intro a hsz hd he b k fs hb
  have hbk:b.kind≠.early:=by rw[hb];decide
  let a1:=a.put (some d1) (.tuple (goInt i::vs).toArray)
  let a2:=a1.put (some d2) (goInt i)
  let a3:=a2.put (some d3) (.bool (decide (i=0)))
  have hs1:a1.tmps.size=n:=by rw[xad];exact hsz
  have hs2:a2.tmps.size=n:=by rw[xad];exact hs1
  have hr1: (execOp a1.eval ⟨some d2,.extract (.tmp d1) 0,ty2,p2,f2,none⟩).run P w₁=.ok (.value (goInt i)) w₁:=by
    have:a1.eval (.tmp d1)=.tuple (goInt i::vs).toArray:=xEI (by omega)
    simp[execOp,this,Instr.extract]
  have hr2: (execOp a2.eval ⟨some d3,.binOp .eql ti (.tmp d2) (.const (.int .i64 0)) tj,ty3,p3,f3,none⟩).run P w₁=.ok (.value (.bool (decide (i=0)))) w₁:=by
    have h0:a2.eval (.tmp d2)=.int .i64 i:=xEI (by omega)
    have h1:a2.eval (.const (.int .i64 0))=.int .i64 0:=rfl
    have hx:opX P (.binOp .eql ti (.tmp d2) (.const (.int .i64 0)) tj) ty3 (Y6 a2) (fun v _=>v=.bool (decide (i=0))) w₁:=by
      simp only[opX,xeT,h0,h1,XO,if_true,Je,VF]
    have hy:=xcm hx
    rw[xkc rfl]at hy
    obtain⟨v,hr,rfl⟩:=hy
    rw[xeT]at hr
    exact hr
  have hl:LoneTo P (fun g' w'=>g'=G (b.at a3 k) fs∧w'=w₁) (G (b.at a (.code (.region id (xDP d1 d2 d3 cs ty1 ty2 ty3 ti tj p1 p2 p3 f1 f2 f3) false)::k)) fs) w:=by
    refine LoneTo.goes (n:=1) ?_
    s_reg
    s_stop
    refine LoneTo.step (hs a b k fs he hb) ?_
    rw[Frame.finish_at]
    refine LoneTo.goes (n:=3) ?_
    s_in
    refine goes_oper_k rfl rfl hbk (fun K hK=>?_)
    change uponK ⟨some d2,.extract (.tmp d1) 0,ty2,p2,f2,none⟩ a1 K ((execOp a1.eval ⟨some d2,.extract (.tmp d1) 0,ty2,p2,f2,none⟩).run P w₁)
    rw[hr1]
    refine hK _ _ ⟨trivial,?_⟩
    clear hK K
    s_in
    refine goes_oper_k rfl rfl hbk (fun K hK=>?_)
    change uponK ⟨some d3,.binOp .eql ti (.tmp d2) (.const (.int .i64 0)) tj,ty3,p3,f3,none⟩ a2 K ((execOp a2.eval ⟨some d3,.binOp .eql ti (.tmp d2) (.const (.int .i64 0)) tj,ty3,p3,f3,none⟩).run P w₁)
    rw[hr2]
    refine hK _ _ ⟨trivial,?_⟩
    clear hK K
    s_c stepG_region_end
    s_stop
    exact LoneTo.done ⟨rfl,rfl⟩
  obtain⟨g',w',hst,rfl,rfl⟩:=hl
  refine⟨.normal,a3,w',⟨by rw[xad];exact hs2,hd,?_⟩,hst⟩
  have e1:Y6 a1=upd e d1 (.tuple (goInt i::vs).toArray):=by
    rw[←he];exact xav (n:=n) (o:=⟨some d1,.move (.tmp 0),0, "",#[],none⟩) (by simp[xaW,h1]) hsz
  have e2:Y6 a2=upd (Y6 a1) d2 (goInt i):=xav (n:=n) (o:=⟨some d2,.move (.tmp 0),0, "",#[],none⟩) (by simp[xaW,h2]) hs1
  have e3:Y6 a3=upd (Y6 a2) d3 (.bool (decide (i=0))):=xav (n:=n) (o:=⟨some d3,.move (.tmp 0),0, "",#[],none⟩) (by simp[xaW,h3]) hs2
  rw[e3,e2,e1]
  exact hQ
def chn (c cap:Nat) (buf:List Value):Xc:=ex fun p:Nat×Nat=>blk c (.chan cap buf.toArray false p.1 p.2 false)
theorem Sat.chnGet {w:World} {c cap:Nat} {buf:List Value} {l:List Xc} (h:Sat w (chn c cap buf::l)):∃s r,Sat w (blk c (.chan cap buf.toArray false s r false)::l):=
  let ⟨p,h⟩:=Sat.ex_iff.1 h;⟨p.1,p.2,h⟩
theorem Sat.chnSet {w:World} {c cap:Nat} {buf buf':List Value} {s r s' r':Nat} {l:List Xc} (h:Sat w (blk c (.chan cap buf.toArray false s r false)::l)):Sat (w.setChan c cap buf'.toArray false s' r' false) (chn c cap buf'::l):=
  Sat.ex_iff.2 ⟨(s',r'),Sat.put (o':=.chan cap buf'.toArray false s' r' false) rfl ⟨rfl,rfl,rfl⟩ h⟩
theorem xHx {T:Nat} {z:Value} [hz:Zer P T z] (w:World): (zeroValue T).run P w=.ok z w:=by
  have h:=hz.h
  unfold xby at h
  cases hi:P.info? T with
  |none=>rw[hi]at h;cases h
  | some i=>
    rw[hi]at h
    have hz':i.zero=some z:=h
    simp[zeroValue,typeInfo,hi,hz']
section
variable {d1 d2 d3 ca xa E:Nat} {ty1 ty2 ty3 ti tj:Nat} {p1 p2 p3:String} {f1 f2 f3:Array Edge} {id:Nat} {Q:Jh} {e:Env} {c cap:Nat} {buf:List Value} {x z:Value} {l:List Xc}
theorem Tr.selSend [hz:Zer P E z] (hc:e ca=.chan (some c)) (hx:e xa=x) (h1:d1<n) (h2:d2<n) (h3:d3<n)
    (hA:buf.length<cap→Tr (chn c cap (buf++[x])::l) (Q .normal (upd (upd (upd e d1 (.tuple #[.int .i64 0,.bool false])) d2 (.int .i64 0)) d3 (.bool true))))
    (hB:cap≤buf.length→Tr (chn c cap buf::l) (Q .normal (upd (upd (upd e d1 (.tuple #[.int .i64 (-1),.bool false])) d2 (.int .i64 (-1))) d3 (.bool false)))):
    Tr (chn c cap buf::l) (CW P n (.region id (xDP d1 d2 d3 #[⟨.tmp ca,some (.tmp xa),E⟩] ty1 ty2 ty3 ti tj p1 p2 p3 f1 f2 f3) false) Q e):=by
  intro w hw
  obtain⟨s,r,hb⟩:=Sat.chnGet hw
  have hch:=hb.get
  have hrun:∀a:Act,Y6 a=e→(execOp a.eval ⟨some d1,.select #[⟨.tmp ca,some (.tmp xa),E⟩] false,ty1,p1,f1,none⟩).run P w=.ok (.comm #[scase c x z] false .select) w:=fun a he=>by
    have e1:a.eval (.tmp ca)=.chan (some c):=by rw[←xeT,he];exact hc
    have e2:a.eval (.tmp xa)=x:=by rw[←xeT,he];exact hx
    simp[execOp,e1,e2,scase,xHx]
  by_cases hroom:buf.length<cap
  · refine xF8 (i:=0) (vs:=[.bool false]) h1 h2 h3 (w₁:=w.setChan c cap (buf++[x]).toArray false (s+1) r false) (fun a b k fs he hk=>?_) (hA hroom _ (Sat.chnSet hb))
    have:=step_lone_select_send_room (v:=x) (z':=z) (stepG_comm (P:=P) (main:=true) (cs:=fs) (b:=b) (a:=a) (k:=k) (cases:=#[scase c x z]) (blocking:=false) (shape:=.select) (w':=w) (i:=0) (rest:=[1,2]) (ops:=xDP d1 d2 d3 #[⟨.tmp ca,some (.tmp xa),E⟩] ty1 ty2 ty3 ti tj p1 p2 p3 f1 f2 f3) rfl rfl (by rw[hk];decide) (hrun a he)) hch (by simpa using hroom)
    simpa using this
  · refine xF8 (i:=-1) (vs:=[.bool false]) h1 h2 h3 (w₁:=w) (fun a b k fs he hk=>?_) (hB (by omega) _ hw)
    exact step_lone_select_send_full (v:=x) (z':=z) (stepG_comm (P:=P) (cases:=#[scase c x z]) (blocking:=false) (shape:=.select) (w':=w) rfl rfl (by rw[hk];decide) (hrun a he)) hch (by simp;omega)
theorem Tr.selRecv [hz:Zer P E z] (hc:e ca=.chan (some c)) (h1:d1<n) (h2:d2<n) (h3:d3<n)
    (hA:∀x b2,buf=x::b2→Tr (chn c cap b2::l) (Q .normal (upd (upd (upd e d1 (.tuple #[.int .i64 0,.bool true,x])) d2 (.int .i64 0)) d3 (.bool true))))
    (hB:buf=[]→Tr (chn c cap []::l) (Q .normal (upd (upd (upd e d1 (.tuple #[.int .i64 (-1),.bool false,z])) d2 (.int .i64 (-1))) d3 (.bool false)))):
    Tr (chn c cap buf::l) (CW P n (.region id (xDP d1 d2 d3 #[⟨.tmp ca,none,E⟩] ty1 ty2 ty3 ti tj p1 p2 p3 f1 f2 f3) false) Q e):=by
  intro w hw
  obtain⟨s,r,hb⟩:=Sat.chnGet hw
  have hch:=hb.get
  have hrun:∀a:Act,Y6 a=e→(execOp a.eval ⟨some d1,.select #[⟨.tmp ca,none,E⟩] false,ty1,p1,f1,none⟩).run P w=.ok (.comm #[rcase c z] false .select) w:=fun a he=>by
    have e1:a.eval (.tmp ca)=.chan (some c):=by rw[←xeT,he];exact hc
    simp[execOp,e1,rcase,xHx]
  cases buf with
  | cons x b2=>
    refine xF8 (i:=0) (vs:=[.bool true,x]) h1 h2 h3 (w₁:=w.setChan c cap b2.toArray false s (r+1) false) (fun a b k fs he hk=>?_) (hA x b2 rfl _ (Sat.chnSet hb))
    have:=step_lone_select_recv_buf (z:=z) (stepG_comm (P:=P) (cases:=#[rcase c z]) (blocking:=false) (shape:=.select) (w':=w) (main:=true) (cs:=fs) (b:=b) (a:=a) (k:=k) (i:=0) (rest:=[1,2]) (ops:=xDP d1 d2 d3 #[⟨.tmp ca,none,E⟩] ty1 ty2 ty3 ti tj p1 p2 p3 f1 f2 f3) rfl rfl (by rw[hk];decide) (hrun a he)) hch (by simp)
    simpa using this
  | nil=>
    refine xF8 (i:=-1) (vs:=[.bool false,z]) h1 h2 h3 (w₁:=w) (fun a b k fs he hk=>?_) (hB rfl _ hw)
    exact step_lone_select_default (z:=z) (stepG_comm (P:=P) (cases:=#[rcase c z]) (blocking:=false) (shape:=.select) (w':=w) rfl rfl (by rw[hk];decide) (hrun a he)) hch
end
theorem Tr.cwSeq {x y:Code} {Q:Jh} {e:Env} {l:List Xc} (h:Tr l (CW P n x (Yj (CW P n y Q) Q) e)):Tr l (CW P n (.seq x y) Q e):=fun w hw=>xMs (h w hw)
theorem Tr.cwW (T:Nat→Xj) (hm:P.follows .mixedOrders=true) {c:Code} {Q:Jh} {e:Env} {l:List Xc} (hok:Za n T c=true) (hok':Y8 T c=true) (h:Tr l (W P T c Q e)):Tr l (CW P n c Q e):=fun w hw=>xOp hm hok hok' (h w hw)
theorem Tr.enterC {f:FuncId} {fn:Func} {c:Code} {args:List Value} {rs:List ResultVar} {K:Value→WP} {l:List Xc} (hf:P.funcs[f]? =some fn) (hb:fn.body=some c) (hrs:fn.results=rs.toArray) (ha:args.length≤fn.ntmps)
    (h:∀u,Tr l (CW P fn.ntmps c (Ys P rs K) (xc3 u 0 args))):Tr l (XI P f args.toArray K):=fun w hw=>xLb hf hb hrs ha fun u=>h u w hw
class ChT (P:Program) (T:Nat):Prop where
  h:∃dir e i,P.underlying T=some (.chan dir e)∧P.info? e=some i∧i.bytes≤1000000
def chB (P:Program) (T:Nat):Bool:=match P.underlying T with
  | some (.chan _ e)=>match P.info? e with
    |some i=>decide (i.bytes≤1000000)
    |none=>false
  |_=>false
theorem xJ5 {T:Nat} (h:chB P T=true):ChT P T:=by
  unfold chB at h
  split at h
  · rename_i dir e he
    split at h
    · rename_i i hi;exact⟨dir,e,i,he,hi,by simpa using h⟩
    · cases h
  · cases h
section
variable {T ty:Nat} [hT:ChT P T] {l:List Xc} {K:Value→WP} {c cap:Nat} {buf:List Value}
theorem Tr.makeChan {k:Nat} (hk:k≤100000) (hx:∀c,Tr (chn c k []::l) (K (.chan (some c)))):Tr l (Xt P (Instr.makeChan T (.int .i64 k)) K):=fun w hw=>by
  obtain⟨dir,e,i,ht,hi,hb⟩:=hT.h
  have hbi:i.bytes*k≤1000000*100000:=Nat.mul_le_mul hb hk
  refine⟨_,_,run_makeChan ht hi .i64 k (by omega) (by have: ((i.bytes*k:Nat):Int)=(i.bytes:Int)*k:=Int.natCast_mul _ _;omega),hx w.heap.size _ ?_⟩
  exact Sat.ex_iff.2 ⟨(0,0),hw.alloc _⟩
theorem xB7 {x y:Operand} {c:Nat} {K:Value→WP}:XO P .eql T x y (.chan (some c)) (.chan none) K=K (.bool false):=by
  obtain⟨dir,e,i,ht,_,_⟩:=hT.h
  refine Zm (fun w=>?_) K
  have: (Op.equal T (.chan (some c)) (.chan none)).run P w=.ok false w:=Jw fun d=>by simp[Op.equalIn,run_underlying ht]
  simp[eqGuard,binOp,this]
end
end
class TkC (l:List Xc) (c:Nat) (cap:outParam Nat) (buf:outParam (List Value)) (F:outParam (List Xc)):Prop where
  h:Xm l (chn c cap buf) F
instance xNZ {l:List Xc} {c cap:Nat} {buf:List Value}:TkC (chn c cap buf::l) c cap buf l:=⟨Xm.here⟩
instance (priority:=500) xNS {A:Xc} {l F:List Xc} {c cap:Nat} {buf:List Value} [h:TkC l c cap buf F]:TkC (A::l) c cap buf (A::F):=⟨h.h.next⟩
theorem Tr.bringC (c:Nat) {l F:List Xc} {cap:Nat} {buf:List Value} {X:WP} [h:TkC l c cap buf F] (hx:Tr (chn c cap buf::F) X):Tr l X:=hx.imp h.h
