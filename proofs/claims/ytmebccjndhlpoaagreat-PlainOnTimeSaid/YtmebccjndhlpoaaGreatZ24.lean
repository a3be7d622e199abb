import Derived.Test.YtmebccjndhlpoaaGreatZ14
import Derived.Test.YtmebccjndhlpoaaGreatZ23
namespace Go.Proofs.YtmebccjndhlpoaaGreat
open Go Go.Wk Tryz
set_option maxHeartbeats 3200000
set_option maxRecDepth 100000
structure XE where
 cycles:Int
 call:Int
 a:Int
 b:Int
 c:Int
 d:Int
instance xvx:Inhabited XE:=⟨⟨0,0,0,0,0,0⟩⟩
instance xvN:En XE:=⟨fun s=>[.int .i64 s.cycles,.int .i64 s.call,.int .i64 s.a,.int .i64 s.b,.int .i64 s.c,.int .i64 s.d],6,fun _=>rfl,fun _=>rfl,by decide⟩
def XE.ok (s:XE):Prop:=okZ s.a∧okZ s.b∧okZ s.c∧okZ s.d
structure EvC where
 part:Int
 win:Int
 proc:Int
 call:Int
 code:Int
 value:Int
instance xxh:Inhabited EvC:=⟨⟨0,0,0,0,0,0⟩⟩
instance xxs:En EvC:=⟨fun s=>[.int .i64 s.part,.int .i64 s.win,.int .i64 s.proc,.int .i64 s.call,.int .i64 s.code,.int .i64 s.value],6,fun _=>rfl,fun _=>rfl,by decide⟩
structure CC where
 conf:YF
 part:Int
 progs:List (List XE)
 pp:Nat
structure CM where
 mode:Int
 win:Int
 pos:List Int
 rest:List Int
 addr:List Int
 data:List (List UInt8)
 done:List Bool
 tb:Tb
 mem:List XH
 pts:List AP
 obs:ObM
 slk:Option SlM
 evs:List EvC
section
variable (C:CC) (c:CM) (k:Int)
def Xa (call code value:Int):CM:={c with evs:=c.evs++[⟨C.part,c.win,k,call,code,value⟩]}
def WQ (n:Int):Int:=if n<1 then 1 else if 1073741824<n then 1073741824 else n
def atM (p:List XE) (i:Int):Int:=if(p.length:Int)≤i then 0 else i
def toM (i:Int):CM:={c with pos:=c.pos.set k.toNat (atM (ix C.progs k) i),rest:=c.rest.set k.toNat (WQ (ix (ix C.progs k) (atM (ix C.progs k) i)).cycles)}
def xea:CM:={c with tb:=c.tb.park k}
def Yd (win:Int):CM:=
 let c1:={toM C c k 0 with tb:=(toM C c k 0).tb.start k win}
 if ix c.done k=true then xea c1 k else c1
def XW (st:Int):CM:={c with tb:=c.tb.set k st}
def YX:CM:={c with done:=c.done.set k.toNat true,tb:=c.tb.park k,slk:=c.slk.map fun m=>QT m k}
def X7:Nat→CM
 |0=>c
 |n+1=>XW (X7 n) (n:Int) 0
def WU:CM:=X7 {c with mode:=0} C.progs.length
def XS (win:Int):Nat→CM
 |0=>c
 |n+1=>Yd C (XS win n) (n:Int) win
def QZ (cold:Bool):CM:={c with mem:=if cold=true then c.mem.map XH.clr else c.mem,obs:=xcC C.conf,pts:=ZN c.pts}
def Qi (cold:Bool):CM:=XS C (X7 (QZ C c cold) C.progs.length) c.win C.progs.length
def Yx (kind:Int):CM:=
 let act:=Zk C.conf.acts.d kind
 let c1:=Xa C c k (-1-kind) act 0
 if act=1 then XW c1 k 0 else if act=2 then Yd C (XW c1 k 0) k c.win else if act=3 then Qi C c1 true else if act=4 then WU C c1 else c1
def Zc (call code value:Int):CM:=XW (Xa C c k call code value) k 1
def Zy (call:Int) (b:List UInt8):CM:=Zc C {c with mem:=stB c.mem (ix c.addr k) b} k call 0 b.length
end
section
variable (C:CC)
def XB (c:CM) (call what:Int):Int:=c.tb.best (One.waits call what)
def XJ (c:CM):Int:=c.tb.best One.ready
def Yy (p:Int):Nat→CM→CM
 |0,c=>c
 |n+1,c=>if XB c 11 p<0 then c else
  let c1:={c with pts:=Yh c.pts p true (ix c.data (XB c 11 p))}
  if YU c.pts p true (ix c.data (XB c 11 p)).length=0 then Yy p n (Zc C c1 (XB c 11 p) 11 0 0)else c1
def YJ (p:Int):Nat→CM→CM
 |0,c=>c
 |n+1,c=>if XB c 12 p<0 then c else
  let c1:={c with pts:=Z1 c.pts p true}
  if Y3 c.pts p true=0 then YJ p n (Zy C c1 (XB c 12 p) 12 (YS c.pts p true))else c1
def XA (c:CM):Nat→CM
 |0=>c
 |n+1=>YJ C (n:Int) 20 (Yy C (n:Int) 20 (XA c n))
def ofC (c:CM) (k:Int):Int:=match c.slk with
 |some m=>ofM m k
 |none=>0
def XM:Nat→CM→CM
 |0,c=>c
 |n+1,c=>if c.mode=3 then(if XJ c<0 then c else if 0<ofC c (XJ c)then c else XM n (Yx C (YX c (XJ c)) (XJ c) 0))else c
def W4 (c:CM) (l:List Int):Nat→CM
 |0=>c
 |n+1=>Xa C (W4 c l n) (ix l (n:Int)) 1 0 0
def YN (c:CM) (l:List Int):Nat→CM
 |0=>c
 |n+1=>if(YN c l n).mode=3 then Yx C (YN c l n) (ix l (n:Int)) 4 else YN c l n
def JA (c:CM) (l:List Int):Nat→CM
 |0=>c
 |n+1=>
  let d:=JA c l n
  let k:=ix l (n:Int)
  Zc C d k (d.tb.at k).call (if(d.tb.at k).call=2 then 0 else 5) 0
def QU (c:CM):CM:={c with win:=IntKind.i64.wrap (c.win+1),slk:=some (Z9 C.conf),tb:=c.tb.free,done:=List.replicate C.progs.length false}
def xbb (c:CM):CM:=
 let r:=c.tb.relTo c.win c.tb.d.length
 let c1:=W4 C {c with tb:=r.t} r.rel r.rel.length
 let c2:=YN C c1 r.mis r.mis.length
 let c3:=XA C c2 8
 let l:=c3.tb.dueTo c3.win c3.tb.d.length
 XM C 100 (JA C c3 l l.length)
def ZL (c:CM):CM:=if(QU C c).mode=3 then xbb C (QU C c)else QU C c
def Yl (c:CM):Int:=match c.slk with
 |some _=>if c.mode=3 then XJ c else-1
 |none=>-1
def X0 (c:CM):Int:=match c.slk with
 |some m=>if c.mode=3 then(if XJ c<0 then 0 else Zn (ix c.rest (XJ c)) (ofM m (XJ c)) m.room)else 0
 |none=>0
def JZ (c:CM):Int:=match c.slk with
 |some m=>if Yl c<0 then 0 else Wr m.room m.ms
 |none=>0
def YP (c:CM) (k:Int) (s:XE) (b:List UInt8):CM:=
 if s.d=0 then Xa C c k s.call 1 0 else
 {c with addr:=c.addr.set k.toNat s.b,data:=c.data.set k.toNat b,tb:=c.tb.wait k s.call s.a (if 1000<s.d then IntKind.i64.wrap (c.win+1000)else if 0<s.d then IntKind.i64.wrap (c.win+s.d)else-1)}
def JV (c:CM) (k:Int) (s:XE):CM:=Yx C (Xa C c k s.call 8 0) k 2
def Zx (c:CM) (s:XE) (size:Int):Bool:=decide (1≤s.c)&&decide (s.c≤size)&&ldO c.mem s.b s.c
def Jb (c:CM) (k:Int) (s:XE) (size:Int):CM:=if 1≤s.c∧s.c≤size then JV C c k s else Xa C c k s.call 2 0
def ZR (c:CM) (s:XE) (size:Int):Bool:=(fI c.mem s.b size true).isSome
def WY (c:CM) (k:Int) (s:XE) (b:List UInt8):CM:=Xa C {c with mem:=stB c.mem s.b b} k s.call 0 b.length
def XY (c:CM) (k:Int) (s:XE):CM:=
 if s.call=1 then(if 0<(ix C.conf.procs.d k).period then YX (XW c k 4) k else Xa C c k 1 4 0)
 else if s.call=3 then(if 0<(ix C.conf.procs.d k).period then Xa C c k 3 4 0 else XW (Xa C c k 3 0 0) k 3)
 else if 1≤s.a∧s.a≤1000 then YX {c with tb:=c.tb.wait k 2 0 (IntKind.i64.wrap (c.win+s.a))} k else Xa C c k 2 2 0
def Xk (c:CM) (k:Int) (s:XE):CM:=
 if¬(0≤s.a∧s.a<C.progs.length)∨(s.call=4∧s.a=k)∨(s.call=7∧(s.b<0∨63<s.b))then Xa C c k s.call 2 0
 else if s.call=7 then(if(c.tb.at s.a).state=0 then Xa C c k s.call 4 0 else Xa C {c with tb:=c.tb.rank s.a s.b} k s.call 0 0)
 else if s.call=4∧(c.tb.at s.a).state=3 then Xa C (XW c s.a 1) k s.call 0 0
 else if s.call=5∧(c.tb.at s.a).state=0 then Xa C (Yd C c s.a c.win) k s.call 0 0
 else if s.call=6∧(c.tb.at s.a).state≠0 then Xa C (XW c s.a 0) k s.call 0 0
 else Xa C c k s.call 6 0
def Yt (c:CM) (k:Int) (s:XE):CM:=
  let q:Bool:=decide (11≤s.call)
  let i:Bool:=decide (s.call=10∨s.call=12)
  if Yu c.pts s.a q i=true then
    (if i=true then
      (if ZR c s (Yb c.pts s.a)=true then
        (let c1:={c with pts:=Z1 c.pts s.a q}
         if Y3 c.pts s.a q=0 then WY C c1 k s (YS c.pts s.a q)else if q=true then YP C c1 k s []else Xa C c1 k s.call (Y3 c.pts s.a q) 0)
       else JV C c k s)
     else
      (if Zx c s (Yb c.pts s.a)=true then
        (let b:=ldB c.mem s.b s.c
         let c1:={c with pts:=Yh c.pts s.a q b}
         if q=true then(if YU c.pts s.a q b.length=0 then Xa C c1 k s.call 0 0 else YP C c1 k s b)else Xa C c1 k s.call (YU c.pts s.a q b.length) 0)
       else Jb C c k s (Yb c.pts s.a)))
  else Xa C c k s.call 3 0
def J7 (w:Int):Nat→CM→CM
 |0,c=>c
 |n+1,c=>if XB c 17 w<0 then c else J7 w n (Zc C c (XB c 17 w) 17 0 0)
def XG (c:CM) (k:Int) (s:XE):CM:=
 if s.call=13 then(let c1:={c with obs:={c.obs with sems:=xbI c.obs.sems s.a}}
  if VA c.obs.sems s.a=1 then YP C c1 k s []else Xa C c1 k 13 (VA c.obs.sems s.a) 0)
 else if s.call=14 then(if 0≤XB c 13 s.a then Zc C (Xa C c k 14 0 0) (XB c 13 s.a) 13 0 0
  else Xa C {c with obs:={c.obs with sems:=QX c.obs.sems s.a}} k 14 (QO c.obs.sems s.a) 0)
 else if s.call=15 then J7 C s.a 20 (Xa C {c with obs:={c.obs with flags:=JS c.obs.flags s.a true}} k 15 (YT c.obs.flags s.a) 0)
 else if s.call=16 then Xa C {c with obs:={c.obs with flags:=JS c.obs.flags s.a false}} k 16 (YT c.obs.flags s.a) 0
 else if upM c.obs.flags s.a=true∨YT c.obs.flags s.a≠0 then Xa C c k 17 (YT c.obs.flags s.a) 0 else YP C c k s []
def ZD (c:CM) (p:Int):CM:=
 if XB c 18 p<0 then c else
 let b:=ix c.data (XB c 18 p)
 let c1:={c with obs:={c.obs with pools:=xbK c.obs.pools p b}}
 if Vs c.obs.pools p b.length=0 then Zc C c1 (XB c 18 p) 18 0 0 else c1
def Yn (c:CM) (k:Int) (s:XE):CM:=
  if 0 ≤ s.a∧s.a<(C.conf.pools.d.length:Int)∧s.a<4 then
    (let size:=(ix C.conf.pools.d s.a).size
     if s.call=19 then
      (if ZR c s size=true then
        (let c1:={c with obs:={c.obs with pools:=xap c.obs.pools s.a}}
         if Jy c.obs.pools s.a=0 then ZD C (WY C c1 k s (Wg c.obs.pools s.a)) s.a else YP C c1 k s [])
       else JV C c k s)
     else if Zx c s size=true then
      (let b:=ldB c.mem s.b s.c
       if 0≤XB c 19 s.a then Zy C (Xa C c k 18 0 0) (XB c 19 s.a) 19 b
       else(let c1:={c with obs:={c.obs with pools:=xbK c.obs.pools s.a b}}
        if Vs c.obs.pools s.a b.length=0 then Xa C c1 k 18 0 0 else YP C c1 k s b))
     else Jb C c k s size)
  else Xa C c k s.call 3 0
def Z5 (w:Int) (b:List UInt8):Nat→CM→CM
 |0,c=>c
 |n+1,c=>if XB c 21 w<0 then c else Z5 w b n (Zy C c (XB c 21 w) 21 b)
def XN (c:CM) (k:Int) (s:XE):CM:=
  if 0 ≤s.a∧s.a<(C.conf.slates.d.length:Int)∧s.a<4 then
    (let size:=ix C.conf.slates.d s.a
     if s.call=22 then Xa C {c with obs:={c.obs with slates:=Wj c.obs.slates s.a}} k 22 (QM c.obs.slates s.a) 0
     else if s.call=21 then
      (if ZR c s size=true then(if WJ c.obs.slates s.a=0 then WY C c k s (WI c.obs.slates s.a)else YP C c k s [])else JV C c k s)
     else if Zx c s size=true then
      (let b:=ldB c.mem s.b s.c
       Z5 C s.a b 20 (Xa C {c with obs:={c.obs with slates:=QC c.obs.slates s.a b}} k 20 (Qq c.obs.slates s.a b.length) 0))
     else Jb C c k s size)
  else Xa C c k s.call 3 0
def Ze (c:CM) (k:Int) (s:XE):CM:=
 if s.call=25 then(if stO c.mem s.a 4=true then Xa C {c with mem:=stB c.mem s.a (b4 s.b)} k 25 0 0 else JV C {c with mem:=stB c.mem s.a (b4 s.b)} k s)
 else if ldO c.mem s.a 4=true then Xa C c k 24 0 (wdB c.mem s.a)else JV C c k s
def Vb (c:CM) (k:Int) (s:XE):CM:=
 if s.a=0 then WU C (Xa C c k 27 0 0)else if s.a=1∨s.a=2 then Qi C (Xa C c k 27 0 0) (decide (s.a=1))else if s.a=3 then Xa C c k 27 6 0 else Xa C c k 27 2 0
def XR (c:CM) (k:Int) (s:XE):CM:=
 if 1≤s.call∧s.call≤3 then XY C c k s else if 4≤s.call∧s.call≤7 then Xk C c k s else if s.call=8 then Xa C c k 8 0 c.win
 else if 9≤s.call∧s.call≤12 then Yt C c k s else if 13≤s.call∧s.call≤17 then XG C c k s else if s.call=18∨s.call=19 then Yn C c k s
 else if 20≤s.call∧s.call≤22 then XN C c k s else if s.call=23 then Yx C (Xa C c k 23 0 s.a) k 3 else if s.call=24∨s.call=25 then Ze C c k s
 else if s.call=26 then Xa C c k 26 0 c.mode else if s.call=27 then Vb C c k s else Yx C (Xa C c k s.call 7 0) k 1
def xan (c:CM) (k n:Int):CM:=
 let c1:={c with slk:=c.slk.map fun m=>X8 m k n,rest:=c.rest.set k.toNat (ix c.rest k-n)}
 if ix c.rest k-n=0 then XM C 100 (XR C (toM C c1 k (ix c.pos k+1)) k (ix (ix C.progs k) (ix c.pos k)))else XM C 100 c1
end
instance xxj:ElT 40 EvC:=⟨⟩
instance xvy:ElT 81 XE:=⟨⟩
instance xvF:ElT 176 Pt:=⟨⟩
instance xxf {a1 a2 a3 a4 a5 a6:Int} {l:List Xc}:De l (.agg #[.int .i64 a1,.int .i64 a2,.int .i64 a3,.int .i64 a4,.int .i64 a5,.int .i64 a6]) (EvC.mk a1 a2 a3 a4 a5 a6):=⟨rfl⟩
structure Xe where
 b:Nat
 ps:SV
 prog:List XE
 pos:Int
 rest:Int
 addr:Int
 ds:SV
 dd:List UInt8
 done:Bool
instance xvv:Inhabited Xe:=⟨⟨0,⟨none,0,0⟩,[],0,0,0,⟨none,0,0⟩,[],false⟩⟩
def Xe.pt (g:Xe):Pt:=⟨some g.b⟩
abbrev xfo (g:Xe):Xc:=blk g.b (.cells #[g.ps.v,.int .i64 g.pos,.int .i64 g.rest,.int .i64 g.addr,g.ds.v,.bool g.done] 184 (0,0))
def Zg (g:Xe):Xc:=sep (xfo g) (sep (sl true g.ps.v g.prog) (sl true g.ds.v g.dd))
theorem Y5 {g:Xe} {l:List Xc} {X:WP} (h:Tr (xfo g::sl true g.ps.v g.prog::sl true g.ds.v g.dd::l) X):Tr (Zg g::l) X:=
 Tr.sep_iff.2 ((Tr.sep_iff.2 (h.imp (Imp.of_perm (List.perm_middle (l₁:=[sl true g.ps.v g.prog,sl true g.ds.v g.dd]))))).imp Imp.swap)
structure CW where
 ts:SV
 tb:Nat
 mem:Nat
 pts:Nat
 obs:Nat
 mon:Nat
 slk:Option Nat
 ev:SV
abbrev ptr (b:Nat):Value:=.pointer (some ⟨b,0,none⟩)
def slP:Option Nat→Value
 |some b=>.pointer (some ⟨b,0,none⟩)
 |none=>.pointer none
def Zw (o:Option Nat) (m:Option SlM):Xc:=match o,m with
 |some b,some m=>slkX b m
 |_,_=>fact True
abbrev ZA (b:Nat) (C:CC) (mode win:Int) (w:CW):Xc:=blk b (.cells #[C.conf.regions.s.v,C.conf.procs.s.v,C.conf.ports.s.v,C.conf.sems.s.v,.int .i64 C.conf.flags,C.conf.pools.s.v,C.conf.slates.s.v,.int .i64 C.conf.cap,.int .i64 C.conf.budget,.int .i64 C.conf.ladder,C.conf.acts.s.v,
 .int .i64 C.part,.int .i64 mode,.int .i64 win,w.ts.v,ptr w.tb,ptr w.mem,ptr w.pts,ptr w.obs,ptr w.mon,slP w.slk,w.ev.v] 179 (0,0))
abbrev Xh (b:Nat) (C:CC) (c:CM) (w:CW) (gs:List Xe):List Xc:=[ZA b C c.mode c.win w,sl false w.ts.v (gs.map Xe.pt),fam Zg gs,YG w.tb c.tb,Y1 w.mem c.mem,X2 w.pts c.pts,objX w.obs C.conf c.obs,xsI w.mon C.conf.acts.d,Zw w.slk c.slk,sl false w.ev.v c.evs,sl true C.conf.procs.s.v C.conf.procs.d]
def JM (o:One):Prop:=o.state=2∧(o.call=11∨o.call=18)
structure okC (C:CC):Prop where
 n0:1≤C.progs.length
 n8:C.progs.length≤8
 np:C.conf.procs.d.length=C.progs.length
 pr:∀p∈C.progs,p≠[]∧p.length≤1000000∧∀s∈p,s.ok
 cap:C.conf.cap≤1000000000000
 cost:∀x∈C.conf.procs.d,x.cost≤1000000000000
 dep:∀x∈C.conf.pools.d,x.depth≤16
 pz:∀x∈C.conf.pools.d,x.size≤300
 lz:∀x∈C.conf.slates.d,x≤300
 oz:∀x∈C.conf.ports.d,x.size≤300
 od:∀x∈C.conf.ports.d,x.depth≤16
 rz:∀x∈C.conf.regions.d,0≤x.base∧x.base≤1048576
structure okM (C:CC) (c:CM):Prop where
 tb:c.tb.d.length=C.progs.length
 pos:c.pos.length=C.progs.length
 rest:c.rest.length=C.progs.length
 addr:c.addr.length=C.progs.length
 data:c.data.length=C.progs.length
 done:c.done.length=C.progs.length
 pi:∀k:Int,0≤ix c.pos k∧ix c.pos k<(ix C.progs k).length∨¬inR C.progs k
 ad:∀x∈c.addr,okZ x
 dl:∀x∈c.data,x.length≤300
structure Rel (C:CC) (c:CM) (w:CW) (gs:List Xe):Prop where
 ok:okM C c
 hp:gs.map Xe.prog=C.progs
 hi:gs.map Xe.pos=c.pos
 hr:gs.map Xe.rest=c.rest
 ha:gs.map Xe.addr=c.addr
 hd:gs.map Xe.done=c.done
 hw:∀k:Int,inR gs k→JM (c.tb.at k)→(ix gs k).dd=ix c.data k
 hs:w.slk.isSome=c.slk.isSome
 hq:w.pts=C.pp
def few (c:CM) (n:Nat):Prop:=c.evs.length+n≤1000000000000
section
attribute [local irreducible] BrK Xq Xt Xv XI FnK XZ Xw XC XV opX opK Yq Yk eqR Yj Yo Ys WL WD W X3 XO Tr drewK Ya X4 Yw Yv X1 YB mp blk rob sl sep ex fact old
section
attribute [local irreducible] Zg Zw Y1 X2 objX
section
variable {b:Nat} {C:CC} {c:CM} {w:CW} {gs:List Xe} {k call code value:Int}
theorem Zq {mode win:Int} {es:List EvC} (hf:es.length+1≤1000000000000):Xb prog 178 #[ptr b,.int .i64 k,.int .i64 call,.int .i64 code,.int .i64 value] [ZA b C mode win w,sl false w.ev.v es]
  fun v l'=>∃ev:SV,v=.tuple #[]∧l'=[ZA b C mode win {w with ev:=ev},sl false ev.v (es++[⟨C.part,win,k,call,code,value⟩])]:=by
 intro F K hK
 simp only[ap]
 refine S.I fun u=>?_
 have hX:=@xi1.eq_def;repeat' (first|intro(sv:SV)|refine S.x ?_|fail)
 all_goals exact Tr.fin hK ⟨sv,rfl,rfl⟩ S.E
theorem Xx {mode win:Int} {es:List EvC} {s:XE} (hf:es.length+1≤1000000000000):Xb prog 231 #[ptr b,.int .i64 k,.agg (En.enc s).toArray,.int .i64 code] [ZA b C mode win w,sl false w.ev.v es]
  fun v l'=>∃ev:SV,v=.tuple #[]∧l'=[ZA b C mode win {w with ev:=ev},sl false ev.v (es++[⟨C.part,win,k,s.call,code,0⟩])]:=by
 intro F K hK
 simp only[ap]
 refine S.I fun u=>?_
 repeat' (first|refine S.x ?_|(refine G.call 178 ?_;refine S.c ?_ (h:=Zq ?_))|rintro _ _ ⟨_,rfl,rfl⟩|(refine G.prop ?_;assumption)|intro hb|fail)
 all_goals
  rename_i sv
  exact Tr.fin hK ⟨sv,rfl,rfl⟩ S.E
theorem ZB {mode win:Int} (hl:gs.length=C.progs.length):Xb prog 230 #[ptr b,.int .i64 k] [ZA b C mode win w,sl false w.ts.v (gs.map Xe.pt)]
  fun v l'=>v=.bool (decide (0≤k)&&decide (k<C.progs.length))∧l'=[ZA b C mode win w,sl false w.ts.v (gs.map Xe.pt)]:=by
 intro F K hK
 simp only[ap]
 have hlm: (gs.map Xe.pt).length=C.progs.length:=by rw[List.length_map];exact hl
 refine S.I fun u=>?_
 have hX:=hlm;repeat' (first|refine S.x ?_|refine S.y ?_ ?_|intro hb|fail)
 all_goals exact S.L
end
end
section
variable {t:Tb} {k j:Int} {o:One} {st:Int}
theorem xa6 (hl:inR t.d k) {n:Int}: (Tb.mk (t.d.set k.toNat o) n).at j=if j=k then o else t.at j:=by
 unfold Tb.at
 obtain⟨h0,h1⟩:=hl
 simp only[List.getD_eq_getElem?_getD,List.getElem?_set]
 by_cases hj:j=k
 ·subst hj
  rw[if_pos h0,if_pos rfl,if_pos rfl,if_pos S.o];rfl
 ·rw[if_neg hj]
  by_cases h:0≤j
  ·rw[if_pos h,if_pos h,if_neg S.o]
  ·rw[if_neg h,if_neg h]
theorem Vw:t.has k=true↔inR t.d k:=by unfold Tb.has inR;simp
theorem xjY (hl:inR t.d k): (t.put k o st).at j=if j=k then t.putP o st else t.at j:=xa6 hl
theorem xcG: (t.putP o st).state=st∧(t.putP o st).parked=o.parked:=by
 unfold Tb.putP
 simp only
 constructor<;>(repeat' split)<;>rfl
def JY (t t':Tb):Prop:=∀j,JM (t'.at j)→JM (t.at j)
theorem V0:JY t t:=fun _ h=>h
theorem xC6 {t1 t2 t3:Tb} (h1:JY t1 t2) (h2:JY t2 t3):JY t1 t3:=fun j h=>h1 j (h2 j h)
theorem xaD (hl:inR t.d k) (hs:st≠2):JY t (t.put k o st)∧¬JM ((t.put k o st).at k):=by
 have h0:¬JM (t.putP o st):=fun h=>hs (xcG.1.symm.trans h.1)
 refine⟨fun j hj=>?_,?_⟩
 ·rw[xjY hl]at hj
  split at hj
  ·exact absurd hj h0
  ·exact hj
 ·rw[xjY hl,if_pos rfl];exact h0
theorem xlK (h:t.setB k st=true):inR t.d k∧st≠2:=by
 unfold Tb.setB at h
 simp only[Bool.and_eq_true,Bool.not_eq_true',decide_eq_true_eq,decide_eq_false_iff_not]at h
 exact⟨Vw.1 h.1,h.2.2.2⟩
theorem VQ:JY t (t.set k st):=by
 unfold Tb.set
 split
 ·rename_i h
  obtain⟨h1,h2⟩:=xlK h
  exact(xaD h1 h2).1
 ·exact V0
theorem xdq (hl:inR t.d k) (h0:0≤st) (h5:st<5) (h2:st≠2):¬JM ((t.set k st).at k):=by
 have hb:t.setB k st=true:=by
  unfold Tb.setB
  simp only[Bool.and_eq_true,Bool.not_eq_true',decide_eq_true_eq,decide_eq_false_iff_not]
  exact⟨Vw.2 hl,h0,h5,h2⟩
 unfold Tb.set
 rw[if_pos hb]
 exact(xaD hl h2).2
theorem xl6: (t.park k).at j=if j=k∧t.has k=true then{t.at k with parked:=true}else t.at j:=by
 unfold Tb.park
 by_cases h:t.has k=true
 ·rw[if_pos h]
  have:=xa6 (t:=t) (j:=j) (o:={t.at k with parked:=true}) (Vw.1 h) (n:=t.turns)
  refine this.trans ?_
  by_cases hj:j=k
  ·rw[if_pos hj,if_pos ⟨hj,h⟩]
  ·rw[if_neg hj,if_neg fun h=>hj h.1]
 ·rw[if_neg h,if_neg fun hh=>h hh.2]
theorem xbf:JY t (t.park k):=fun j hj=>by
 rw[xl6]at hj
 split at hj
 ·rename_i h;rw[h.1];exact hj
 ·exact hj
theorem Wy {win:Int}:JY t (t.start k win):=by
 unfold Tb.start
 split
 ·rename_i h
  have hb:t.has k=true:=by
   unfold Tb.startB at h
   simp only[Bool.and_eq_true]at h
   exact h.1
  exact(xaD (Vw.1 hb) (by decide)).1
 ·exact V0
theorem xj6 {p:Int}:JY t (t.rank k p):=fun j hj=>by
 unfold Tb.rank at hj
 split at hj
 ·rename_i h
  have hb:t.has k=true:=by
   unfold Tb.rankB at h
   simp only[Bool.and_eq_true]at h
   exact h.1
  have e:=xa6 (t:=t) (j:=j) (o:={t.at k with prio:=p}) (Vw.1 hb) (n:=t.turns)
  rw[show({t with d:=t.d.set k.toNat {t.at k with prio:=p}}:Tb)=Tb.mk (t.d.set k.toNat {t.at k with prio:=p}) t.turns from rfl,e]at hj
  split at hj
  ·rename_i hjk;rw[hjk];exact hj
  ·exact hj
 ·exact hj
theorem xk0 {c wh wk:Int} (hl:inR t.d k): (t.wait k c wh wk).at j=if j=k then t.putP {t.at k with call:=c,what:=wh,wake:=wk} 2 else t.at j:=by
 unfold Tb.wait
 rw[if_pos (Vw.2 hl)]
 exact xjY hl
theorem Zf: (t.set k st).d.length=t.d.length:=by unfold Tb.set Tb.put;split<;>simp
theorem xdT: (t.park k).d.length=t.d.length:=by unfold Tb.park;split<;>simp
theorem xe1 {win:Int}: (t.start k win).d.length=t.d.length:=by unfold Tb.start Tb.put;split<;>simp
theorem xhS {p:Int}: (t.rank k p).d.length=t.d.length:=by unfold Tb.rank;split<;>simp
theorem xdL {c wh wk:Int}: (t.wait k c wh wk).d.length=t.d.length:=by unfold Tb.wait Tb.put;split<;>simp
end
section
section
variable {b:Nat} {C:CC} {c:CM} {w:CW} {gs:List Xe} {k:Int} {t:Tb}
theorem JU (h:Rel C c w gs):gs.length=C.progs.length:=by rw[←h.hp,List.length_map]
theorem ZO (h:Rel C c w gs) (hk:inR C.progs k):inR gs k:=by unfold inR at*;rw[JU h];exact hk
theorem xdN (h:okM C c) (hl:t.d.length=c.tb.d.length):okM C {c with tb:=t}:=⟨hl.trans h.tb,h.pos,h.rest,h.addr,h.data,h.done,h.pi,h.ad,h.dl⟩
theorem WO (h:Rel C c w gs) (hl:t.d.length=c.tb.d.length) (hn:JY c.tb t):Rel C {c with tb:=t} w gs:=
 ⟨xdN h.ok hl,h.hp,h.hi,h.hr,h.ha,h.hd,fun k hk hw=>h.hw k hk (hn k hw),h.hs,h.hq⟩
theorem X6 {β:Type} {f:Xe→β} {x:Xe} (hk:inR gs k) (hf:f x=f (ix gs k)): (gs.set k.toNat x).map f=gs.map f:=QI hk.1 hk.2 hf
theorem YY {α:Type} [Inhabited α] {xs:List α} {k j:Int} {x:α} (hk:inR xs k) (hj:0≤j):ix (xs.set k.toNat x) j=if j=k then x else ix xs j:=by
 obtain⟨h0,h1⟩:=hk
 unfold ix
 simp only[List.getD_eq_getElem?_getD,List.getElem?_set]
 by_cases h:j=k
 ·subst h
  rw[if_pos rfl,if_pos rfl,if_pos S.o];rfl
 ·rw[if_neg h,if_neg S.o]
theorem xgU {s:SV} {d:List UInt8} (h:Rel C c w gs) (hk:inR gs k) (hn:¬JM (c.tb.at k)):Rel C c w (gs.set k.toNat {ix gs k with ds:=s,dd:=d}):=
 ⟨h.ok,(X6 (f:=Xe.prog) hk (by rfl)).trans h.hp,(X6 (f:=Xe.pos) hk (by rfl)).trans h.hi,(X6 (f:=Xe.rest) hk (by rfl)).trans h.hr,(X6 (f:=Xe.addr) hk (by rfl)).trans h.ha,(X6 (f:=Xe.done) hk (by rfl)).trans h.hd,fun j hj hw=>by
  have hj':inR gs j:=by unfold inR at*;simpa using hj
  rw[YY hk hj'.1]
  by_cases e:j=k
  ·rw[e]at hw;exact absurd hw hn
  ·rw[if_neg e];exact h.hw j hj' hw,h.hs,h.hq⟩
end
attribute [local irreducible] Zw Y1 X2 objX
section
variable {b:Nat} {C:CC} {c:CM} {w:CW} {gs:List Xe} {k:Int}
theorem WV (hr:Rel C c w gs) (hk:inR C.progs k):Xb prog 214 #[ptr b,.int .i64 k] (Xh b C c w gs)
  fun v l'=>∃gs2,Rel C (XW c k 0) w gs2∧v=.tuple #[]∧l'=Xh b C (XW c k 0) w gs2:=by
 intro F K hK
 simp only[ap]at hK⊢
 have hkg:=ZO hr hk
 obtain⟨h0,h1⟩:=hkg
 have hm:=Xp (f:=Xe.pt) (xs:=gs) (k:=k) h0 h1
 have hlm: (gs.map Xe.pt).length=gs.length:=List.length_map _
 have hpt:∀s,(gs.set k.toNat {ix gs k with ds:=s,dd:=[]}).map Xe.pt=gs.map Xe.pt:=fun s=>X6 ⟨h0,h1⟩ rfl
 have hr2:∀s,Rel C (XW c k 0) w (gs.set k.toNat {ix gs k with ds:=s,dd:=[]}):=fun s=>by
  refine xgU (WO hr Zf VQ) ⟨h0,h1⟩ (xdq ?_ (by decide) (by decide) (by decide))
  unfold inR at*
  rw[hr.ok.tb]
  exact hk
 refine S.I fun u=>?_
 refine Tr.famAt (xs:=gs) k S.K S.o S.o (Y5 ?_)
 have hX:=And.intro hm @Xe.pt.eq_def;repeat' (first|refine S.x ?_|(refine G.call 220 ?_;refine S.c ?_ (h:=xeb _ _ _ _))|rintro _ _ ⟨rfl,rfl⟩|intro hb|fail)
 all_goals
  refine Tr.fin hK ⟨gs.set k.toNat {ix gs k with ds:=⟨none,0,0⟩,dd:=[]},hr2 _,rfl,rfl⟩ ?_
  simp only[Xh,ap]
  rw[hpt]
  have hX:=I3 @Zg.eq_def @XW.eq_def @slP.eq_def
  exact S.E
end
end
section
theorem xkp {p:List XE} {i:Int} (h0:0≤i) (h1:i≤p.length) (hp:0<p.length):0≤atM p i∧atM p i<p.length∧Int.tmod i p.length=atM p i:=by
 unfold atM
 rw[Int.tmod_eq_emod_of_nonneg h0]
 by_cases h: (p.length:Int)≤i
 ·rw[if_pos h]
  have:i=p.length:=by omega
  subst this
  refine⟨by omega,by omega,?_⟩
  exact Int.emod_self
 ·rw[if_neg h]
  exact⟨h0,by omega,Int.emod_eq_of_lt h0 S.o⟩
def Xe.to (g:Xe) (i:Int):Xe:={g with pos:=atM g.prog i,rest:=WQ (ix g.prog (atM g.prog i)).cycles}
attribute [local irreducible] Zw Y1 X2 objX
section
variable {g:Xe} {i:Int}
theorem xhW (h0:0≤g.pos) (h1:g.pos<g.prog.length):Xb prog 134 #[ptr g.b] [xfo g,sl true g.ps.v g.prog]
  fun v l'=>v=.agg (En.enc (ix g.prog g.pos)).toArray∧l'=[xfo g,sl true g.ps.v g.prog]:=by
 intro F K hK
 simp only[ap]
 refine S.I fun u=>?_
 have hX:=@xL2.eq_def;repeat' (first|refine S.x ?_|intro hb|fail)
 all_goals exact Tr.fin hK ⟨rfl,rfl⟩ S.E
theorem xf7 (h0:0≤i) (h1:i≤g.prog.length) (hp:0<g.prog.length):Xb prog 115 #[ptr g.b,.int .i64 i] [xfo g,sl true g.ps.v g.prog]
  fun v l'=>v=.tuple #[]∧l'=[xfo (g.to i),sl true g.ps.v g.prog]:=by
 intro F K hK
 simp only[ap]
 obtain⟨a0,a1,a2⟩:=xkp h0 h1 hp
 have hcl:∀n:Int,(if n<1 then 1 else if 1073741824<n then 1073741824 else n)=WQ n:=fun n=>rfl
 unfold Xe.to at hK
 generalize atM g.prog i=j at*
 refine S.I fun u=>?_
 have hX:=And.intro @a2 hcl;repeat' (first|rintro _ _ ⟨rfl,rfl⟩|(refine G.call 134 ?_;refine S.c ?_ (h:=xhW (g:={g with pos:=j}) a0 a1))|refine S.x ?_|(refine G.call 173 ?_;refine S.c ?_ (h:=xp3))|fail)
 all_goals exact Tr.fin hK ⟨rfl,rfl⟩ S.E
end
section
variable {b:Nat} {C:CC} {c:CM} {w:CW} {gs:List Xe} {k i:Int}
theorem xg7 (h:Rel C c w gs) (hk:inR C.progs k): (ix gs k).prog=ix C.progs k:=by
 have hg:=ZO h hk
 rw[←h.hp,Xp (f:=Xe.prog) hg.1 hg.2]
theorem xac {xs:List (List XE)} (hk:inR xs k):ix xs k∈xs:=List.mem_of_getElem? (Yi hk.1 hk.2)
theorem W7 (hc:okC C) (hk:inR C.progs k):0<(ix C.progs k).length∧(ix C.progs k).length≤1000000:=by
 have h:=hc.pr _ (xac hk)
 exact⟨List.length_pos_iff.2 h.1,h.2.1⟩
theorem xj4 (hc:okC C) (h:okM C c) (hk:inR C.progs k) (h0:0≤i) (h1:i≤(ix C.progs k).length):okM C (toM C c k i):=by
 obtain⟨a0,a1,_⟩:=xkp h0 h1 (W7 hc hk).1
 have hkp:inR c.pos k:=by unfold inR at*;rw[h.pos];exact hk
 refine⟨h.tb,by simpa [toM]using h.pos,by simpa [toM]using h.rest,h.addr,h.data,h.done,fun j=>?_,h.ad,h.dl⟩
 by_cases hj:inR C.progs j
 ·left
  show 0≤ix (c.pos.set k.toNat _) j∧ix (c.pos.set k.toNat _) j<_
  rw[YY hkp hj.1]
  by_cases e:j=k
  ·subst e;rw[if_pos rfl];exact⟨a0,a1⟩
  ·rw[if_neg e]
   rcases h.pi j with h'|h'
   ·exact h'
   ·exact absurd hj h'
 ·exact .inr hj
theorem xoi (hc:okC C) (h:Rel C c w gs) (hk:inR C.progs k) (h0:0≤i) (h1:i≤(ix C.progs k).length):Rel C (toM C c k i) w (gs.set k.toNat ((ix gs k).to i)):=by
 have hg:=ZO h hk
 have hp:=xg7 h hk
 refine⟨xj4 hc h.ok hk h0 h1,(X6 (f:=Xe.prog) hg (by rfl)).trans h.hp,?_,?_,(X6 (f:=Xe.addr) hg (by rfl)).trans h.ha,(X6 (f:=Xe.done) hg (by rfl)).trans h.hd,fun j hj hw=>?_,h.hs,h.hq⟩
 ·rw[List.map_set,h.hi]
  show c.pos.set k.toNat (atM (ix gs k).prog i)=_
  rw[hp];rfl
 ·rw[List.map_set,h.hr]
  show c.rest.set k.toNat (WQ (ix (ix gs k).prog (atM (ix gs k).prog i)).cycles)=_
  rw[hp];rfl
 ·have hj':inR gs j:=by unfold inR at*;simpa using hj
  rw[YY hg hj'.1]
  by_cases e:j=k
  ·rw[if_pos e]
   subst e
   exact h.hw j hj' hw
  ·rw[if_neg e];exact h.hw j hj' hw
