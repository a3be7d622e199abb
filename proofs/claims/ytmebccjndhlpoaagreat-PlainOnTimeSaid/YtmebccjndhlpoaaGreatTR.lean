import Derived.Test.YtmebccjndhlpoaaGreatZ50
import Derived.Test.YtmebccjndhlpoaaGreatLQ
namespace Go.Proofs.YtmebccjndhlpoaaGreat
open Go Go.Wk Go.ChangeShapes Go.WideShapes Go.ChangeAt Go.RowKit
set_option maxRecDepth 100000
theorem Inp.mapI {P:Program} {t:Nat} {α β:Type} [En α] [Fz α] [En β] [Fz β] [hI:Inp P t α] (f:α→β) (he:∀a,En.enc a=En.enc (f a)) (hz:∀a R w,(Fz.fz a).h R (fun _=>False) w→(Fz.fz (f a)).h R (fun _=>False) w):Inp P t β:=⟨fun hsp h=>by
  obtain⟨a,e,z⟩:=hI.h hsp h
  exact⟨f a,e.trans (he a),fun R hR=>hz a R _ (z R hR)⟩⟩
abbrev xOg:=SL xaL
abbrev xNQ:=SL WZ
abbrev xNy:=SL Zd
abbrev xOc:=SL JO
abbrev xNz:=SL JC
abbrev xLA:=SL Int
abbrev xOh:=SL xCA
abbrev xMF:=SL xBH
abbrev xOb:=SL xCP
abbrev xNL:=SL YF
abbrev xNN:=SL xBJ
abbrev xNE:=SL xCz
instance:Inp Tryz.prog 119 xaL:=⟨fun{_ _ _ _ _ _ _ cs _} hsp h=>by
  obtain⟨xs,n,_,_,hl,hxl,hf⟩:=DataW.trod_struct Tryz.underlying119 h
  have g:=fun i f hi (hlt:i<xs.length)=>(hf i f hi).trans (List.getElem?_eq_getElem hlt)
  obtain⟨a0,e0,z0⟩:=(inferInstance:Inp Tryz.prog 3 Int).h hsp (g 0 _ rfl (by rw[hxl];decide))
  have d0: (cs.drop 0).take 1=En.enc a0:=by
    have hc:Tryz.prog.cellsOf 3=1:=by kernel_rfl
    have e: (cs.drop 0).take (Tryz.prog.cellsOf 3)=En.enc a0:=e0
    rw[hc]at e;exact e
  obtain⟨a1,e1,z1⟩:=(inferInstance:Inp Tryz.prog 3 Int).h hsp (g 1 _ rfl (by rw[hxl];decide))
  have d1: (cs.drop 1).take 1=En.enc a1:=by
    have hc:Tryz.prog.cellsOf 3=1:=by kernel_rfl
    have e: (cs.drop 1).take (Tryz.prog.cellsOf 3)=En.enc a1:=e1
    rw[hc]at e;exact e
  obtain⟨a2,e2,z2⟩:=(inferInstance:Inp Tryz.prog 4 Bool).h hsp (g 2 _ rfl (by rw[hxl];decide))
  have d2: (cs.drop 2).take 1=En.enc a2:=by
    have hc:Tryz.prog.cellsOf 4=1:=by kernel_rfl
    have e: (cs.drop 2).take (Tryz.prog.cellsOf 4)=En.enc a2:=e2
    rw[hc]at e;exact e
  refine⟨⟨a0,a1,a2⟩,?_,fun R hR=>sepI (z0 R hR) (sepI (z1 R hR) (sepI (z2 R hR) (trivial)))⟩
  have hp:=xCh [1,1,1] 0 cs (by rw[hl];kernel_rfl)
  have hq:cs=En.enc a0++(En.enc a1++(En.enc a2++([]))):=by rw[←d0,←d1,←d2];exact hp
  rw[hq];rfl⟩
instance:Inp Tryz.prog 53 (SL xaL):=xB2 Tryz.underlying53 (by kernel_rfl)
instance:Inp Tryz.prog 103 WZ:=⟨fun{_ _ _ _ _ _ _ cs _} hsp h=>by
  obtain⟨xs,n,_,_,hl,hxl,hf⟩:=DataW.trod_struct Tryz.underlying103 h
  have g:=fun i f hi (hlt:i<xs.length)=>(hf i f hi).trans (List.getElem?_eq_getElem hlt)
  obtain⟨a0,e0,z0⟩:=(inferInstance:Inp Tryz.prog 3 Int).h hsp (g 0 _ rfl (by rw[hxl];decide))
  have d0: (cs.drop 0).take 1=En.enc a0:=by
    have hc:Tryz.prog.cellsOf 3=1:=by kernel_rfl
    have e: (cs.drop 0).take (Tryz.prog.cellsOf 3)=En.enc a0:=e0
    rw[hc]at e;exact e
  obtain⟨a1,e1,z1⟩:=(inferInstance:Inp Tryz.prog 3 Int).h hsp (g 1 _ rfl (by rw[hxl];decide))
  have d1: (cs.drop 1).take 1=En.enc a1:=by
    have hc:Tryz.prog.cellsOf 3=1:=by kernel_rfl
    have e: (cs.drop 1).take (Tryz.prog.cellsOf 3)=En.enc a1:=e1
    rw[hc]at e;exact e
  obtain⟨a2,e2,z2⟩:=(inferInstance:Inp Tryz.prog 3 Int).h hsp (g 2 _ rfl (by rw[hxl];decide))
  have d2: (cs.drop 2).take 1=En.enc a2:=by
    have hc:Tryz.prog.cellsOf 3=1:=by kernel_rfl
    have e: (cs.drop 2).take (Tryz.prog.cellsOf 3)=En.enc a2:=e2
    rw[hc]at e;exact e
  refine⟨⟨a0,a1,a2⟩,?_,fun R hR=>sepI (z0 R hR) (sepI (z1 R hR) (sepI (z2 R hR) (trivial)))⟩
  have hp:=xCh [1,1,1] 0 cs (by rw[hl];kernel_rfl)
  have hq:cs=En.enc a0++(En.enc a1++(En.enc a2++([]))):=by rw[←d0,←d1,←d2];exact hp
  rw[hq];rfl⟩
instance:Inp Tryz.prog 54 (SL WZ):=xB2 Tryz.underlying54 (by kernel_rfl)
instance:Inp Tryz.prog 199 Zd:=⟨fun{_ _ _ _ _ _ _ cs _} hsp h=>by
  obtain⟨xs,n,_,_,hl,hxl,hf⟩:=DataW.trod_struct Tryz.underlying199 h
  have g:=fun i f hi (hlt:i<xs.length)=>(hf i f hi).trans (List.getElem?_eq_getElem hlt)
  obtain⟨a0,e0,z0⟩:=(inferInstance:Inp Tryz.prog 4 Bool).h hsp (g 0 _ rfl (by rw[hxl];decide))
  have d0: (cs.drop 0).take 1=En.enc a0:=by
    have hc:Tryz.prog.cellsOf 4=1:=by kernel_rfl
    have e: (cs.drop 0).take (Tryz.prog.cellsOf 4)=En.enc a0:=e0
    rw[hc]at e;exact e
  obtain⟨a1,e1,z1⟩:=(inferInstance:Inp Tryz.prog 4 Bool).h hsp (g 1 _ rfl (by rw[hxl];decide))
  have d1: (cs.drop 1).take 1=En.enc a1:=by
    have hc:Tryz.prog.cellsOf 4=1:=by kernel_rfl
    have e: (cs.drop 1).take (Tryz.prog.cellsOf 4)=En.enc a1:=e1
    rw[hc]at e;exact e
  obtain⟨a2,e2,z2⟩:=(inferInstance:Inp Tryz.prog 3 Int).h hsp (g 2 _ rfl (by rw[hxl];decide))
  have d2: (cs.drop 2).take 1=En.enc a2:=by
    have hc:Tryz.prog.cellsOf 3=1:=by kernel_rfl
    have e: (cs.drop 2).take (Tryz.prog.cellsOf 3)=En.enc a2:=e2
    rw[hc]at e;exact e
  obtain⟨a3,e3,z3⟩:=(inferInstance:Inp Tryz.prog 3 Int).h hsp (g 3 _ rfl (by rw[hxl];decide))
  have d3: (cs.drop 3).take 1=En.enc a3:=by
    have hc:Tryz.prog.cellsOf 3=1:=by kernel_rfl
    have e: (cs.drop 3).take (Tryz.prog.cellsOf 3)=En.enc a3:=e3
    rw[hc]at e;exact e
  refine⟨⟨a0,a1,a2,a3⟩,?_,fun R hR=>sepI (z0 R hR) (sepI (z1 R hR) (sepI (z2 R hR) (sepI (z3 R hR) (trivial))))⟩
  have hp:=xCh [1,1,1,1] 0 cs (by rw[hl];kernel_rfl)
  have hq:cs=En.enc a0++(En.enc a1++(En.enc a2++(En.enc a3++([])))):=by rw[←d0,←d1,←d2,←d3];exact hp
  rw[hq];rfl⟩
instance:Inp Tryz.prog 55 (SL Zd):=xB2 Tryz.underlying55 (by kernel_rfl)
instance:Inp Tryz.prog 279 JO:=⟨fun{_ _ _ _ _ _ _ cs _} hsp h=>by
  obtain⟨xs,n,_,_,hl,hxl,hf⟩:=DataW.trod_struct Tryz.underlying279 h
  have g:=fun i f hi (hlt:i<xs.length)=>(hf i f hi).trans (List.getElem?_eq_getElem hlt)
  obtain⟨a0,e0,z0⟩:=(inferInstance:Inp Tryz.prog 3 Int).h hsp (g 0 _ rfl (by rw[hxl];decide))
  have d0: (cs.drop 0).take 1=En.enc a0:=by
    have hc:Tryz.prog.cellsOf 3=1:=by kernel_rfl
    have e: (cs.drop 0).take (Tryz.prog.cellsOf 3)=En.enc a0:=e0
    rw[hc]at e;exact e
  obtain⟨a1,e1,z1⟩:=(inferInstance:Inp Tryz.prog 3 Int).h hsp (g 1 _ rfl (by rw[hxl];decide))
  have d1: (cs.drop 1).take 1=En.enc a1:=by
    have hc:Tryz.prog.cellsOf 3=1:=by kernel_rfl
    have e: (cs.drop 1).take (Tryz.prog.cellsOf 3)=En.enc a1:=e1
    rw[hc]at e;exact e
  refine⟨⟨a0,a1⟩,?_,fun R hR=>sepI (z0 R hR) (sepI (z1 R hR) (trivial))⟩
  have hp:=xCh [1,1] 0 cs (by rw[hl];kernel_rfl)
  have hq:cs=En.enc a0++(En.enc a1++([])):=by rw[←d0,←d1];exact hp
  rw[hq];rfl⟩
instance:Inp Tryz.prog 56 (SL JO):=xB2 Tryz.underlying56 (by kernel_rfl)
instance:Inp Tryz.prog 281 JC:=⟨fun{_ _ _ _ _ _ _ cs _} hsp h=>by
  obtain⟨xs,n,_,_,hl,hxl,hf⟩:=DataW.trod_struct Tryz.underlying281 h
  have g:=fun i f hi (hlt:i<xs.length)=>(hf i f hi).trans (List.getElem?_eq_getElem hlt)
  obtain⟨a0,e0,z0⟩:=(inferInstance:Inp Tryz.prog 3 Int).h hsp (g 0 _ rfl (by rw[hxl];decide))
  have d0: (cs.drop 0).take 1=En.enc a0:=by
    have hc:Tryz.prog.cellsOf 3=1:=by kernel_rfl
    have e: (cs.drop 0).take (Tryz.prog.cellsOf 3)=En.enc a0:=e0
    rw[hc]at e;exact e
  obtain⟨a1,e1,z1⟩:=(inferInstance:Inp Tryz.prog 3 Int).h hsp (g 1 _ rfl (by rw[hxl];decide))
  have d1: (cs.drop 1).take 1=En.enc a1:=by
    have hc:Tryz.prog.cellsOf 3=1:=by kernel_rfl
    have e: (cs.drop 1).take (Tryz.prog.cellsOf 3)=En.enc a1:=e1
    rw[hc]at e;exact e
  refine⟨⟨a0,a1⟩,?_,fun R hR=>sepI (z0 R hR) (sepI (z1 R hR) (trivial))⟩
  have hp:=xCh [1,1] 0 cs (by rw[hl];kernel_rfl)
  have hq:cs=En.enc a0++(En.enc a1++([])):=by rw[←d0,←d1];exact hp
  rw[hq];rfl⟩
instance:Inp Tryz.prog 57 (SL JC):=xB2 Tryz.underlying57 (by kernel_rfl)
instance:Inp Tryz.prog 59 YF:=⟨fun{_ _ _ _ _ _ _ cs _} hsp h=>by
  obtain⟨xs,n,_,_,hl,hxl,hf⟩:=DataW.trod_struct Tryz.underlying59 h
  have g:=fun i f hi (hlt:i<xs.length)=>(hf i f hi).trans (List.getElem?_eq_getElem hlt)
  obtain⟨a0,e0,z0⟩:=(inferInstance:Inp Tryz.prog 53 xOg).h hsp (g 0 _ rfl (by rw[hxl];decide))
  have d0: (cs.drop 0).take 1=En.enc a0:=by
    have hc:Tryz.prog.cellsOf 53=1:=by kernel_rfl
    have e: (cs.drop 0).take (Tryz.prog.cellsOf 53)=En.enc a0:=e0
    rw[hc]at e;exact e
  obtain⟨a1,e1,z1⟩:=(inferInstance:Inp Tryz.prog 54 xNQ).h hsp (g 1 _ rfl (by rw[hxl];decide))
  have d1: (cs.drop 1).take 1=En.enc a1:=by
    have hc:Tryz.prog.cellsOf 54=1:=by kernel_rfl
    have e: (cs.drop 1).take (Tryz.prog.cellsOf 54)=En.enc a1:=e1
    rw[hc]at e;exact e
  obtain⟨a2,e2,z2⟩:=(inferInstance:Inp Tryz.prog 55 xNy).h hsp (g 2 _ rfl (by rw[hxl];decide))
  have d2: (cs.drop 2).take 1=En.enc a2:=by
    have hc:Tryz.prog.cellsOf 55=1:=by kernel_rfl
    have e: (cs.drop 2).take (Tryz.prog.cellsOf 55)=En.enc a2:=e2
    rw[hc]at e;exact e
  obtain⟨a3,e3,z3⟩:=(inferInstance:Inp Tryz.prog 56 xOc).h hsp (g 3 _ rfl (by rw[hxl];decide))
  have d3: (cs.drop 3).take 1=En.enc a3:=by
    have hc:Tryz.prog.cellsOf 56=1:=by kernel_rfl
    have e: (cs.drop 3).take (Tryz.prog.cellsOf 56)=En.enc a3:=e3
    rw[hc]at e;exact e
  obtain⟨a4,e4,z4⟩:=(inferInstance:Inp Tryz.prog 3 Int).h hsp (g 4 _ rfl (by rw[hxl];decide))
  have d4: (cs.drop 4).take 1=En.enc a4:=by
    have hc:Tryz.prog.cellsOf 3=1:=by kernel_rfl
    have e: (cs.drop 4).take (Tryz.prog.cellsOf 3)=En.enc a4:=e4
    rw[hc]at e;exact e
  obtain⟨a5,e5,z5⟩:=(inferInstance:Inp Tryz.prog 57 xNz).h hsp (g 5 _ rfl (by rw[hxl];decide))
  have d5: (cs.drop 5).take 1=En.enc a5:=by
    have hc:Tryz.prog.cellsOf 57=1:=by kernel_rfl
    have e: (cs.drop 5).take (Tryz.prog.cellsOf 57)=En.enc a5:=e5
    rw[hc]at e;exact e
  obtain⟨a6,e6,z6⟩:=(inferInstance:Inp Tryz.prog 29 xLA).h hsp (g 6 _ rfl (by rw[hxl];decide))
  have d6: (cs.drop 6).take 1=En.enc a6:=by
    have hc:Tryz.prog.cellsOf 29=1:=by kernel_rfl
    have e: (cs.drop 6).take (Tryz.prog.cellsOf 29)=En.enc a6:=e6
    rw[hc]at e;exact e
  obtain⟨a7,e7,z7⟩:=(inferInstance:Inp Tryz.prog 3 Int).h hsp (g 7 _ rfl (by rw[hxl];decide))
  have d7: (cs.drop 7).take 1=En.enc a7:=by
    have hc:Tryz.prog.cellsOf 3=1:=by kernel_rfl
    have e: (cs.drop 7).take (Tryz.prog.cellsOf 3)=En.enc a7:=e7
    rw[hc]at e;exact e
  obtain⟨a8,e8,z8⟩:=(inferInstance:Inp Tryz.prog 3 Int).h hsp (g 8 _ rfl (by rw[hxl];decide))
  have d8: (cs.drop 8).take 1=En.enc a8:=by
    have hc:Tryz.prog.cellsOf 3=1:=by kernel_rfl
    have e: (cs.drop 8).take (Tryz.prog.cellsOf 3)=En.enc a8:=e8
    rw[hc]at e;exact e
  obtain⟨a9,e9,z9⟩:=(inferInstance:Inp Tryz.prog 3 Int).h hsp (g 9 _ rfl (by rw[hxl];decide))
  have d9: (cs.drop 9).take 1=En.enc a9:=by
    have hc:Tryz.prog.cellsOf 3=1:=by kernel_rfl
    have e: (cs.drop 9).take (Tryz.prog.cellsOf 3)=En.enc a9:=e9
    rw[hc]at e;exact e
  obtain⟨a10,e10,z10⟩:=(inferInstance:Inp Tryz.prog 29 xLA).h hsp (g 10 _ rfl (by rw[hxl];decide))
  have d10: (cs.drop 10).take 1=En.enc a10:=by
    have hc:Tryz.prog.cellsOf 29=1:=by kernel_rfl
    have e: (cs.drop 10).take (Tryz.prog.cellsOf 29)=En.enc a10:=e10
    rw[hc]at e;exact e
  refine⟨⟨a0,a1,a2,a3,a4,a5,a6,a7,a8,a9,a10⟩,?_,fun R hR=>sepI (z0 R hR) (sepI (z1 R hR) (sepI (z2 R hR) (sepI (z3 R hR) (sepI (z4 R hR) (sepI (z5 R hR) (sepI (z6 R hR) (sepI (z7 R hR) (sepI (z8 R hR) (sepI (z9 R hR) (sepI (z10 R hR) (trivial)))))))))))⟩
  have hp:=xCh [1,1,1,1,1,1,1,1,1,1,1] 0 cs (by rw[hl];kernel_rfl)
  have hq:cs=En.enc a0++(En.enc a1++(En.enc a2++(En.enc a3++(En.enc a4++(En.enc a5++(En.enc a6++(En.enc a7++(En.enc a8++(En.enc a9++(En.enc a10++([]))))))))))):=by rw[←d0,←d1,←d2,←d3,←d4,←d5,←d6,←d7,←d8,←d9,←d10];exact hp
  rw[hq];rfl⟩
instance:Inp Tryz.prog 22 (SL YF):=xB2 Tryz.underlying22 (by kernel_rfl)
structure xHh where
  part:Int
  port:Int
instance:En xHh:=⟨fun d=>[.int .i64 d.part,.int .i64 d.port],2,fun _=>rfl,fun _=>rfl,by decide⟩
instance:Fz xHh:=⟨fun p=>sep (Fz.fz p.part) (sep (Fz.fz p.port) (fact True)),fun _=>XX (Fz.dup _) (XX (Fz.dup _) (xBP _))⟩
instance:Inp Tryz.prog 114 xHh:=⟨fun{_ _ _ _ _ _ _ cs _} hsp h=>by
  obtain⟨xs,n,_,_,hl,hxl,hf⟩:=DataW.trod_struct Tryz.underlying114 h
  have g:=fun i f hi (hlt:i<xs.length)=>(hf i f hi).trans (List.getElem?_eq_getElem hlt)
  obtain⟨a0,e0,z0⟩:=(inferInstance:Inp Tryz.prog 3 Int).h hsp (g 0 _ rfl (by rw[hxl];decide))
  have d0: (cs.drop 0).take 1=En.enc a0:=by
    have hc:Tryz.prog.cellsOf 3=1:=by kernel_rfl
    have e: (cs.drop 0).take (Tryz.prog.cellsOf 3)=En.enc a0:=e0
    rw[hc]at e;exact e
  obtain⟨a1,e1,z1⟩:=(inferInstance:Inp Tryz.prog 3 Int).h hsp (g 1 _ rfl (by rw[hxl];decide))
  have d1: (cs.drop 1).take 1=En.enc a1:=by
    have hc:Tryz.prog.cellsOf 3=1:=by kernel_rfl
    have e: (cs.drop 1).take (Tryz.prog.cellsOf 3)=En.enc a1:=e1
    rw[hc]at e;exact e
  refine⟨⟨a0,a1⟩,?_,fun R hR=>sepI (z0 R hR) (sepI (z1 R hR) (trivial))⟩
  have hp:=xCh [1,1] 0 cs (by rw[hl];kernel_rfl)
  have hq:cs=En.enc a0++(En.enc a1++([])):=by rw[←d0,←d1];exact hp
  rw[hq];rfl⟩
structure xHN where
  f:xHh
  t:xHh
instance:En xHN:=⟨fun d=>[.int .i64 d.f.part,.int .i64 d.f.port,.int .i64 d.t.part,.int .i64 d.t.port],4,fun _=>rfl,fun _=>rfl,by decide⟩
instance:Fz xHN:=⟨fun p=>sep (Fz.fz p.f) (sep (Fz.fz p.t) (fact True)),fun _=>XX (Fz.dup _) (XX (Fz.dup _) (xBP _))⟩
instance:Inp Tryz.prog 116 xHN:=⟨fun{_ _ _ _ _ _ _ cs _} hsp h=>by
  obtain⟨xs,n,_,_,hl,hxl,hf⟩:=DataW.trod_struct Tryz.underlying116 h
  have g:=fun i f hi (hlt:i<xs.length)=>(hf i f hi).trans (List.getElem?_eq_getElem hlt)
  obtain⟨a0,e0,z0⟩:=(inferInstance:Inp Tryz.prog 114 xHh).h hsp (g 0 _ rfl (by rw[hxl];decide))
  have d0: (cs.drop 0).take 2=En.enc a0:=by
    have hc:Tryz.prog.cellsOf 114=2:=by kernel_rfl
    have e: (cs.drop 0).take (Tryz.prog.cellsOf 114)=En.enc a0:=e0
    rw[hc]at e;exact e
  obtain⟨a1,e1,z1⟩:=(inferInstance:Inp Tryz.prog 114 xHh).h hsp (g 1 _ rfl (by rw[hxl];decide))
  have d1: (cs.drop 2).take 2=En.enc a1:=by
    have hc:Tryz.prog.cellsOf 114=2:=by kernel_rfl
    have e: (cs.drop 2).take (Tryz.prog.cellsOf 114)=En.enc a1:=e1
    rw[hc]at e;exact e
  refine⟨⟨a0,a1⟩,?_,fun R hR=>sepI (z0 R hR) (sepI (z1 R hR) (trivial))⟩
  have hp:=xCh [2,2] 0 cs (by rw[hl];kernel_rfl)
  have hq:cs=En.enc a0++(En.enc a1++([])):=by rw[←d0,←d1];exact hp
  rw[hq];rfl⟩
instance:Inp Tryz.prog 116 xBJ:=Inp.mapI (fun a:xHN=>⟨a.f.part,a.f.port,a.t.part,a.t.port⟩) (fun _=>rfl) fun _ _ _ h=>sepI (xfO (xfO h)) (sepI (xfO (VB (xfO h))) (sepI (xfO (xfO (VB h))) (sepI (xfO (VB (xfO (VB h)))) trivial)))
instance:Inp Tryz.prog 23 (SL xBJ):=xB2 Tryz.underlying23 (by kernel_rfl)
instance:Inp Tryz.prog 109 xCA:=⟨fun{_ _ _ _ _ _ _ cs _} hsp h=>by
  obtain⟨xs,n,_,_,hl,hxl,hf⟩:=DataW.trod_struct Tryz.underlying109 h
  have g:=fun i f hi (hlt:i<xs.length)=>(hf i f hi).trans (List.getElem?_eq_getElem hlt)
  obtain⟨a0,e0,z0⟩:=(inferInstance:Inp Tryz.prog 3 Int).h hsp (g 0 _ rfl (by rw[hxl];decide))
  have d0: (cs.drop 0).take 1=En.enc a0:=by
    have hc:Tryz.prog.cellsOf 3=1:=by kernel_rfl
    have e: (cs.drop 0).take (Tryz.prog.cellsOf 3)=En.enc a0:=e0
    rw[hc]at e;exact e
  obtain⟨a1,e1,z1⟩:=(inferInstance:Inp Tryz.prog 3 Int).h hsp (g 1 _ rfl (by rw[hxl];decide))
  have d1: (cs.drop 1).take 1=En.enc a1:=by
    have hc:Tryz.prog.cellsOf 3=1:=by kernel_rfl
    have e: (cs.drop 1).take (Tryz.prog.cellsOf 3)=En.enc a1:=e1
    rw[hc]at e;exact e
  obtain⟨a2,e2,z2⟩:=(inferInstance:Inp Tryz.prog 3 Int).h hsp (g 2 _ rfl (by rw[hxl];decide))
  have d2: (cs.drop 2).take 1=En.enc a2:=by
    have hc:Tryz.prog.cellsOf 3=1:=by kernel_rfl
    have e: (cs.drop 2).take (Tryz.prog.cellsOf 3)=En.enc a2:=e2
    rw[hc]at e;exact e
  refine⟨⟨a0,a1,a2⟩,?_,fun R hR=>sepI (z0 R hR) (sepI (z1 R hR) (sepI (z2 R hR) (trivial)))⟩
  have hp:=xCh [1,1,1] 0 cs (by rw[hl];kernel_rfl)
  have hq:cs=En.enc a0++(En.enc a1++(En.enc a2++([]))):=by rw[←d0,←d1,←d2];exact hp
  rw[hq];rfl⟩
instance:Inp Tryz.prog 105 (SL xCA):=xB2 Tryz.underlying105 (by kernel_rfl)
instance:Inp Tryz.prog 107 xCz:=⟨fun{_ _ _ _ _ _ _ cs _} hsp h=>by
  obtain⟨xs,n,_,_,hl,hxl,hf⟩:=DataW.trod_struct Tryz.underlying107 h
  have g:=fun i f hi (hlt:i<xs.length)=>(hf i f hi).trans (List.getElem?_eq_getElem hlt)
  obtain⟨a0,e0,z0⟩:=(inferInstance:Inp Tryz.prog 3 Int).h hsp (g 0 _ rfl (by rw[hxl];decide))
  have d0: (cs.drop 0).take 1=En.enc a0:=by
    have hc:Tryz.prog.cellsOf 3=1:=by kernel_rfl
    have e: (cs.drop 0).take (Tryz.prog.cellsOf 3)=En.enc a0:=e0
    rw[hc]at e;exact e
  obtain⟨a1,e1,z1⟩:=(inferInstance:Inp Tryz.prog 105 xOh).h hsp (g 1 _ rfl (by rw[hxl];decide))
  have d1: (cs.drop 1).take 1=En.enc a1:=by
    have hc:Tryz.prog.cellsOf 105=1:=by kernel_rfl
    have e: (cs.drop 1).take (Tryz.prog.cellsOf 105)=En.enc a1:=e1
    rw[hc]at e;exact e
  refine⟨⟨a0,a1⟩,?_,fun R hR=>sepI (z0 R hR) (sepI (z1 R hR) (trivial))⟩
  have hp:=xCh [1,1] 0 cs (by rw[hl];kernel_rfl)
  have hq:cs=En.enc a0++(En.enc a1++([])):=by rw[←d0,←d1];exact hp
  rw[hq];rfl⟩
instance:Inp Tryz.prog 24 (SL xCz):=xB2 Tryz.underlying24 (by kernel_rfl)
instance:Inp Tryz.prog 98 xBH:=⟨fun{_ _ _ _ _ _ _ cs _} hsp h=>by
  obtain⟨xs,n,_,_,hl,hxl,hf⟩:=DataW.trod_struct Tryz.underlying98 h
  have g:=fun i f hi (hlt:i<xs.length)=>(hf i f hi).trans (List.getElem?_eq_getElem hlt)
  obtain⟨a0,e0,z0⟩:=(inferInstance:Inp Tryz.prog 3 Int).h hsp (g 0 _ rfl (by rw[hxl];decide))
  have d0: (cs.drop 0).take 1=En.enc a0:=by
    have hc:Tryz.prog.cellsOf 3=1:=by kernel_rfl
    have e: (cs.drop 0).take (Tryz.prog.cellsOf 3)=En.enc a0:=e0
    rw[hc]at e;exact e
  obtain⟨a1,e1,z1⟩:=(inferInstance:Inp Tryz.prog 3 Int).h hsp (g 1 _ rfl (by rw[hxl];decide))
  have d1: (cs.drop 1).take 1=En.enc a1:=by
    have hc:Tryz.prog.cellsOf 3=1:=by kernel_rfl
    have e: (cs.drop 1).take (Tryz.prog.cellsOf 3)=En.enc a1:=e1
    rw[hc]at e;exact e
  refine⟨⟨a0,a1⟩,?_,fun R hR=>sepI (z0 R hR) (sepI (z1 R hR) (trivial))⟩
  have hp:=xCh [1,1] 0 cs (by rw[hl];kernel_rfl)
  have hq:cs=En.enc a0++(En.enc a1++([])):=by rw[←d0,←d1];exact hp
  rw[hq];rfl⟩
instance:Inp Tryz.prog 25 (SL xBH):=xB2 Tryz.underlying25 (by kernel_rfl)
instance:Inp Tryz.prog 202 xCP:=⟨fun{_ _ _ _ _ _ _ cs _} hsp h=>by
  obtain⟨xs,n,_,_,hl,hxl,hf⟩:=DataW.trod_struct Tryz.underlying202 h
  have g:=fun i f hi (hlt:i<xs.length)=>(hf i f hi).trans (List.getElem?_eq_getElem hlt)
  obtain⟨a0,e0,z0⟩:=(inferInstance:Inp Tryz.prog 3 Int).h hsp (g 0 _ rfl (by rw[hxl];decide))
  have d0: (cs.drop 0).take 1=En.enc a0:=by
    have hc:Tryz.prog.cellsOf 3=1:=by kernel_rfl
    have e: (cs.drop 0).take (Tryz.prog.cellsOf 3)=En.enc a0:=e0
    rw[hc]at e;exact e
  obtain⟨a1,e1,z1⟩:=(inferInstance:Inp Tryz.prog 3 Int).h hsp (g 1 _ rfl (by rw[hxl];decide))
  have d1: (cs.drop 1).take 1=En.enc a1:=by
    have hc:Tryz.prog.cellsOf 3=1:=by kernel_rfl
    have e: (cs.drop 1).take (Tryz.prog.cellsOf 3)=En.enc a1:=e1
    rw[hc]at e;exact e
  obtain⟨a2,e2,z2⟩:=(inferInstance:Inp Tryz.prog 3 Int).h hsp (g 2 _ rfl (by rw[hxl];decide))
  have d2: (cs.drop 2).take 1=En.enc a2:=by
    have hc:Tryz.prog.cellsOf 3=1:=by kernel_rfl
    have e: (cs.drop 2).take (Tryz.prog.cellsOf 3)=En.enc a2:=e2
    rw[hc]at e;exact e
  refine⟨⟨a0,a1,a2⟩,?_,fun R hR=>sepI (z0 R hR) (sepI (z1 R hR) (sepI (z2 R hR) (trivial)))⟩
  have hp:=xCh [1,1,1] 0 cs (by rw[hl];kernel_rfl)
  have hq:cs=En.enc a0++(En.enc a1++(En.enc a2++([]))):=by rw[←d0,←d1,←d2];exact hp
  rw[hq];rfl⟩
instance:Inp Tryz.prog 26 (SL xCP):=xB2 Tryz.underlying26 (by kernel_rfl)
structure xE3 where
  levels:SL xBH
  naps:SL xCP
  sw:Int
  idle:Int
  change:Int
  quantum:Int
  slow:Int
  ppm:Int
instance:En xE3:=⟨fun d=>[d.levels.s.v,d.naps.s.v,.int .i64 d.sw,.int .i64 d.idle,.int .i64 d.change,.int .i64 d.quantum,.int .i64 d.slow,.int .i64 d.ppm],8,fun _=>rfl,fun _=>rfl,by decide⟩
instance:Fz xE3:=⟨fun p=>sep (Fz.fz p.levels) (sep (Fz.fz p.naps) (sep (Fz.fz p.sw) (sep (Fz.fz p.idle) (sep (Fz.fz p.change) (sep (Fz.fz p.quantum) (sep (Fz.fz p.slow) (sep (Fz.fz p.ppm) (fact True)))))))),fun _=>XX (Fz.dup _) (XX (Fz.dup _) (XX (Fz.dup _) (XX (Fz.dup _) (XX (Fz.dup _) (XX (Fz.dup _) (XX (Fz.dup _) (XX (Fz.dup _) (xBP _))))))))⟩
instance:Inp Tryz.prog 28 xE3:=⟨fun{_ _ _ _ _ _ _ cs _} hsp h=>by
  obtain⟨xs,n,_,_,hl,hxl,hf⟩:=DataW.trod_struct Tryz.underlying28 h
  have g:=fun i f hi (hlt:i<xs.length)=>(hf i f hi).trans (List.getElem?_eq_getElem hlt)
  obtain⟨a0,e0,z0⟩:=(inferInstance:Inp Tryz.prog 25 xMF).h hsp (g 0 _ rfl (by rw[hxl];decide))
  have d0: (cs.drop 0).take 1=En.enc a0:=by
    have hc:Tryz.prog.cellsOf 25=1:=by kernel_rfl
    have e: (cs.drop 0).take (Tryz.prog.cellsOf 25)=En.enc a0:=e0
    rw[hc]at e;exact e
  obtain⟨a1,e1,z1⟩:=(inferInstance:Inp Tryz.prog 26 xOb).h hsp (g 1 _ rfl (by rw[hxl];decide))
  have d1: (cs.drop 1).take 1=En.enc a1:=by
    have hc:Tryz.prog.cellsOf 26=1:=by kernel_rfl
    have e: (cs.drop 1).take (Tryz.prog.cellsOf 26)=En.enc a1:=e1
    rw[hc]at e;exact e
  obtain⟨a2,e2,z2⟩:=(inferInstance:Inp Tryz.prog 3 Int).h hsp (g 2 _ rfl (by rw[hxl];decide))
  have d2: (cs.drop 2).take 1=En.enc a2:=by
    have hc:Tryz.prog.cellsOf 3=1:=by kernel_rfl
    have e: (cs.drop 2).take (Tryz.prog.cellsOf 3)=En.enc a2:=e2
    rw[hc]at e;exact e
  obtain⟨a3,e3,z3⟩:=(inferInstance:Inp Tryz.prog 3 Int).h hsp (g 3 _ rfl (by rw[hxl];decide))
  have d3: (cs.drop 3).take 1=En.enc a3:=by
    have hc:Tryz.prog.cellsOf 3=1:=by kernel_rfl
    have e: (cs.drop 3).take (Tryz.prog.cellsOf 3)=En.enc a3:=e3
    rw[hc]at e;exact e
  obtain⟨a4,e4,z4⟩:=(inferInstance:Inp Tryz.prog 3 Int).h hsp (g 4 _ rfl (by rw[hxl];decide))
  have d4: (cs.drop 4).take 1=En.enc a4:=by
    have hc:Tryz.prog.cellsOf 3=1:=by kernel_rfl
    have e: (cs.drop 4).take (Tryz.prog.cellsOf 3)=En.enc a4:=e4
    rw[hc]at e;exact e
  obtain⟨a5,e5,z5⟩:=(inferInstance:Inp Tryz.prog 3 Int).h hsp (g 5 _ rfl (by rw[hxl];decide))
  have d5: (cs.drop 5).take 1=En.enc a5:=by
    have hc:Tryz.prog.cellsOf 3=1:=by kernel_rfl
    have e: (cs.drop 5).take (Tryz.prog.cellsOf 3)=En.enc a5:=e5
    rw[hc]at e;exact e
  obtain⟨a6,e6,z6⟩:=(inferInstance:Inp Tryz.prog 3 Int).h hsp (g 6 _ rfl (by rw[hxl];decide))
  have d6: (cs.drop 6).take 1=En.enc a6:=by
    have hc:Tryz.prog.cellsOf 3=1:=by kernel_rfl
    have e: (cs.drop 6).take (Tryz.prog.cellsOf 3)=En.enc a6:=e6
    rw[hc]at e;exact e
  obtain⟨a7,e7,z7⟩:=(inferInstance:Inp Tryz.prog 3 Int).h hsp (g 7 _ rfl (by rw[hxl];decide))
  have d7: (cs.drop 7).take 1=En.enc a7:=by
    have hc:Tryz.prog.cellsOf 3=1:=by kernel_rfl
    have e: (cs.drop 7).take (Tryz.prog.cellsOf 3)=En.enc a7:=e7
    rw[hc]at e;exact e
  refine⟨⟨a0,a1,a2,a3,a4,a5,a6,a7⟩,?_,fun R hR=>sepI (z0 R hR) (sepI (z1 R hR) (sepI (z2 R hR) (sepI (z3 R hR) (sepI (z4 R hR) (sepI (z5 R hR) (sepI (z6 R hR) (sepI (z7 R hR) (trivial))))))))⟩
  have hp:=xCh [1,1,1,1,1,1,1,1] 0 cs (by rw[hl];kernel_rfl)
  have hq:cs=En.enc a0++(En.enc a1++(En.enc a2++(En.enc a3++(En.enc a4++(En.enc a5++(En.enc a6++(En.enc a7++([])))))))):=by rw[←d0,←d1,←d2,←d3,←d4,←d5,←d6,←d7];exact hp
  rw[hq];rfl⟩
structure xGt where
  down:SL Int
  up:SL Int
instance:En xGt:=⟨fun d=>[d.down.s.v,d.up.s.v],2,fun _=>rfl,fun _=>rfl,by decide⟩
instance:Fz xGt:=⟨fun p=>sep (Fz.fz p.down) (sep (Fz.fz p.up) (fact True)),fun _=>XX (Fz.dup _) (XX (Fz.dup _) (xBP _))⟩
instance:Inp Tryz.prog 31 xGt:=⟨fun{_ _ _ _ _ _ _ cs _} hsp h=>by
  obtain⟨xs,n,_,_,hl,hxl,hf⟩:=DataW.trod_struct Tryz.underlying31 h
  have g:=fun i f hi (hlt:i<xs.length)=>(hf i f hi).trans (List.getElem?_eq_getElem hlt)
  obtain⟨a0,e0,z0⟩:=(inferInstance:Inp Tryz.prog 29 xLA).h hsp (g 0 _ rfl (by rw[hxl];decide))
  have d0: (cs.drop 0).take 1=En.enc a0:=by
    have hc:Tryz.prog.cellsOf 29=1:=by kernel_rfl
    have e: (cs.drop 0).take (Tryz.prog.cellsOf 29)=En.enc a0:=e0
    rw[hc]at e;exact e
  obtain⟨a1,e1,z1⟩:=(inferInstance:Inp Tryz.prog 29 xLA).h hsp (g 1 _ rfl (by rw[hxl];decide))
  have d1: (cs.drop 1).take 1=En.enc a1:=by
    have hc:Tryz.prog.cellsOf 29=1:=by kernel_rfl
    have e: (cs.drop 1).take (Tryz.prog.cellsOf 29)=En.enc a1:=e1
    rw[hc]at e;exact e
  refine⟨⟨a0,a1⟩,?_,fun R hR=>sepI (z0 R hR) (sepI (z1 R hR) (trivial))⟩
  have hp:=xCh [1,1] 0 cs (by rw[hl];kernel_rfl)
  have hq:cs=En.enc a0++(En.enc a1++([])):=by rw[←d0,←d1];exact hp
  rw[hq];rfl⟩
structure xFi where
  parts:SL YF
  chans:SL xBJ
  modes:SL xCz
  power:xE3
  shed:xGt
instance:En xFi:=⟨fun d=>[d.parts.s.v,d.chans.s.v,d.modes.s.v,d.power.levels.s.v,d.power.naps.s.v,.int .i64 d.power.sw,.int .i64 d.power.idle,.int .i64 d.power.change,.int .i64 d.power.quantum,.int .i64 d.power.slow,.int .i64 d.power.ppm,d.shed.down.s.v,d.shed.up.s.v],13,fun _=>rfl,fun _=>rfl,by decide⟩
instance:Fz xFi:=⟨fun p=>sep (Fz.fz p.parts) (sep (Fz.fz p.chans) (sep (Fz.fz p.modes) (sep (Fz.fz p.power) (sep (Fz.fz p.shed) (fact True))))),fun _=>XX (Fz.dup _) (XX (Fz.dup _) (XX (Fz.dup _) (XX (Fz.dup _) (XX (Fz.dup _) (xBP _)))))⟩
instance:Inp Tryz.prog 33 xFi:=⟨fun{_ _ _ _ _ _ _ cs _} hsp h=>by
  obtain⟨xs,n,_,_,hl,hxl,hf⟩:=DataW.trod_struct Tryz.underlying33 h
  have g:=fun i f hi (hlt:i<xs.length)=>(hf i f hi).trans (List.getElem?_eq_getElem hlt)
  obtain⟨a0,e0,z0⟩:=(inferInstance:Inp Tryz.prog 22 xNL).h hsp (g 0 _ rfl (by rw[hxl];decide))
  have d0: (cs.drop 0).take 1=En.enc a0:=by
    have hc:Tryz.prog.cellsOf 22=1:=by kernel_rfl
    have e: (cs.drop 0).take (Tryz.prog.cellsOf 22)=En.enc a0:=e0
    rw[hc]at e;exact e
  obtain⟨a1,e1,z1⟩:=(inferInstance:Inp Tryz.prog 23 xNN).h hsp (g 1 _ rfl (by rw[hxl];decide))
  have d1: (cs.drop 1).take 1=En.enc a1:=by
    have hc:Tryz.prog.cellsOf 23=1:=by kernel_rfl
    have e: (cs.drop 1).take (Tryz.prog.cellsOf 23)=En.enc a1:=e1
    rw[hc]at e;exact e
  obtain⟨a2,e2,z2⟩:=(inferInstance:Inp Tryz.prog 24 xNE).h hsp (g 2 _ rfl (by rw[hxl];decide))
  have d2: (cs.drop 2).take 1=En.enc a2:=by
    have hc:Tryz.prog.cellsOf 24=1:=by kernel_rfl
    have e: (cs.drop 2).take (Tryz.prog.cellsOf 24)=En.enc a2:=e2
    rw[hc]at e;exact e
  obtain⟨a3,e3,z3⟩:=(inferInstance:Inp Tryz.prog 28 xE3).h hsp (g 3 _ rfl (by rw[hxl];decide))
  have d3: (cs.drop 3).take 8=En.enc a3:=by
    have hc:Tryz.prog.cellsOf 28=8:=by kernel_rfl
    have e: (cs.drop 3).take (Tryz.prog.cellsOf 28)=En.enc a3:=e3
    rw[hc]at e;exact e
  obtain⟨a4,e4,z4⟩:=(inferInstance:Inp Tryz.prog 31 xGt).h hsp (g 4 _ rfl (by rw[hxl];decide))
  have d4: (cs.drop 11).take 2=En.enc a4:=by
    have hc:Tryz.prog.cellsOf 31=2:=by kernel_rfl
    have e: (cs.drop 11).take (Tryz.prog.cellsOf 31)=En.enc a4:=e4
    rw[hc]at e;exact e
  refine⟨⟨a0,a1,a2,a3,a4⟩,?_,fun R hR=>sepI (z0 R hR) (sepI (z1 R hR) (sepI (z2 R hR) (sepI (z3 R hR) (sepI (z4 R hR) (trivial)))))⟩
  have hp:=xCh [1,1,1,8,2] 0 cs (by rw[hl];kernel_rfl)
  have hq:cs=En.enc a0++(En.enc a1++(En.enc a2++(En.enc a3++(En.enc a4++([]))))):=by rw[←d0,←d1,←d2,←d3,←d4];exact hp
  rw[hq];rfl⟩
def xFi.d (a:xFi):xBG:=⟨a.parts,a.chans,a.modes,a.power.levels,a.power.naps,a.power.sw,a.power.idle,a.power.change,a.power.quantum,a.power.slow,a.power.ppm,a.shed.down,a.shed.up⟩
/-- The words of a configuration and what hangs on it. -/
theorem xKo {a:xFi} {R:Jd} {w:World} (h: (Fz.fz a).h R (fun _=>False) w):∀A∈[sl true a.d.parts.s.v a.d.parts.d,fzl a.d.parts.d,sl true a.d.chans.s.v a.d.chans.d,sl true a.d.modes.s.v a.d.modes.d,fzl a.d.modes.d,sl true a.d.levels.s.v a.d.levels.d,sl true a.d.naps.s.v a.d.naps.d,sl true a.d.down.s.v a.d.down.d,sl true a.d.up.s.v a.d.up.d],A.h R (fun _=>False) w:=by
  have hp:=xfO h
  have hc:=xfO (VB h)
  have hm:=xfO (VB (VB h))
  have hw:=xfO (VB (VB (VB h)))
  have hs:=xfO (VB (VB (VB (VB h))))
  intro A hA
  rcases List.mem_cons.1 hA with rfl|hA
  · exact xp5 hp
  rcases List.mem_cons.1 hA with rfl|hA
  · exact xfe hp
  rcases List.mem_cons.1 hA with rfl|hA
  · exact xp5 hc
  rcases List.mem_cons.1 hA with rfl|hA
  · exact xp5 hm
  rcases List.mem_cons.1 hA with rfl|hA
  · exact xfe hm
  rcases List.mem_cons.1 hA with rfl|hA
  · exact xp5 (xfO hw)
  rcases List.mem_cons.1 hA with rfl|hA
  · exact xp5 (xfO (VB hw))
  rcases List.mem_cons.1 hA with rfl|hA
  · exact xp5 (xfO hs)
  · simp only[List.mem_singleton]at hA
    subst hA
    exact xp5 (xfO (VB hs))
abbrev xON:=SL XE
abbrev xOn:=SL (SL XE)
abbrev xHY:=SL (SL (SL XE))
abbrev xKA:=SL xBR
instance:Inp Tryz.prog 80 XE:=⟨fun{_ _ _ _ _ _ _ cs _} hsp h=>by
  obtain⟨xs,n,_,_,hl,hxl,hf⟩:=DataW.trod_struct Tryz.underlying80 h
  have g:=fun i f hi (hlt:i<xs.length)=>(hf i f hi).trans (List.getElem?_eq_getElem hlt)
  obtain⟨a0,e0,z0⟩:=(inferInstance:Inp Tryz.prog 3 Int).h hsp (g 0 _ rfl (by rw[hxl];decide))
  have d0: (cs.drop 0).take 1=En.enc a0:=by
    have hc:Tryz.prog.cellsOf 3=1:=by kernel_rfl
    have e: (cs.drop 0).take (Tryz.prog.cellsOf 3)=En.enc a0:=e0
    rw[hc]at e;exact e
  obtain⟨a1,e1,z1⟩:=(inferInstance:Inp Tryz.prog 3 Int).h hsp (g 1 _ rfl (by rw[hxl];decide))
  have d1: (cs.drop 1).take 1=En.enc a1:=by
    have hc:Tryz.prog.cellsOf 3=1:=by kernel_rfl
    have e: (cs.drop 1).take (Tryz.prog.cellsOf 3)=En.enc a1:=e1
    rw[hc]at e;exact e
  obtain⟨a2,e2,z2⟩:=(inferInstance:Inp Tryz.prog 3 Int).h hsp (g 2 _ rfl (by rw[hxl];decide))
  have d2: (cs.drop 2).take 1=En.enc a2:=by
    have hc:Tryz.prog.cellsOf 3=1:=by kernel_rfl
    have e: (cs.drop 2).take (Tryz.prog.cellsOf 3)=En.enc a2:=e2
    rw[hc]at e;exact e
  obtain⟨a3,e3,z3⟩:=(inferInstance:Inp Tryz.prog 3 Int).h hsp (g 3 _ rfl (by rw[hxl];decide))
  have d3: (cs.drop 3).take 1=En.enc a3:=by
    have hc:Tryz.prog.cellsOf 3=1:=by kernel_rfl
    have e: (cs.drop 3).take (Tryz.prog.cellsOf 3)=En.enc a3:=e3
    rw[hc]at e;exact e
  obtain⟨a4,e4,z4⟩:=(inferInstance:Inp Tryz.prog 3 Int).h hsp (g 4 _ rfl (by rw[hxl];decide))
  have d4: (cs.drop 4).take 1=En.enc a4:=by
    have hc:Tryz.prog.cellsOf 3=1:=by kernel_rfl
    have e: (cs.drop 4).take (Tryz.prog.cellsOf 3)=En.enc a4:=e4
    rw[hc]at e;exact e
  obtain⟨a5,e5,z5⟩:=(inferInstance:Inp Tryz.prog 3 Int).h hsp (g 5 _ rfl (by rw[hxl];decide))
  have d5: (cs.drop 5).take 1=En.enc a5:=by
    have hc:Tryz.prog.cellsOf 3=1:=by kernel_rfl
    have e: (cs.drop 5).take (Tryz.prog.cellsOf 3)=En.enc a5:=e5
    rw[hc]at e;exact e
  refine⟨⟨a0,a1,a2,a3,a4,a5⟩,?_,fun R hR=>sepI (z0 R hR) (sepI (z1 R hR) (sepI (z2 R hR) (sepI (z3 R hR) (sepI (z4 R hR) (sepI (z5 R hR) (trivial))))))⟩
  have hp:=xCh [1,1,1,1,1,1] 0 cs (by rw[hl];kernel_rfl)
  have hq:cs=En.enc a0++(En.enc a1++(En.enc a2++(En.enc a3++(En.enc a4++(En.enc a5++([])))))):=by rw[←d0,←d1,←d2,←d3,←d4,←d5];exact hp
  rw[hq];rfl⟩
instance:Inp Tryz.prog 81 (SL XE):=xB2 Tryz.underlying81 (by kernel_rfl)
instance:Inp Tryz.prog 64 (SL (SL XE)):=xB2 Tryz.underlying64 (by kernel_rfl)
instance:Inp Tryz.prog 34 (SL (SL (SL XE))):=xB2 Tryz.underlying34 (by kernel_rfl)
instance:Fz xBR:=⟨fun p=>sep (Fz.fz p.reading) (sep (Fz.fz p.mode) (sep (Fz.fz p.drift) (sep (Fz.fz p.choice) (fact True)))),fun _=>XX (Fz.dup _) (XX (Fz.dup _) (XX (Fz.dup _) (XX (Fz.dup _) (xBP _))))⟩
instance:Inp Tryz.prog 189 xBR:=⟨fun{_ _ _ _ _ _ _ cs _} hsp h=>by
  obtain⟨xs,n,_,_,hl,hxl,hf⟩:=DataW.trod_struct Tryz.underlying189 h
  have g:=fun i f hi (hlt:i<xs.length)=>(hf i f hi).trans (List.getElem?_eq_getElem hlt)
  obtain⟨a0,e0,z0⟩:=(inferInstance:Inp Tryz.prog 3 Int).h hsp (g 0 _ rfl (by rw[hxl];decide))
  have d0: (cs.drop 0).take 1=En.enc a0:=by
    have hc:Tryz.prog.cellsOf 3=1:=by kernel_rfl
    have e: (cs.drop 0).take (Tryz.prog.cellsOf 3)=En.enc a0:=e0
    rw[hc]at e;exact e
  obtain⟨a1,e1,z1⟩:=(inferInstance:Inp Tryz.prog 3 Int).h hsp (g 1 _ rfl (by rw[hxl];decide))
  have d1: (cs.drop 1).take 1=En.enc a1:=by
    have hc:Tryz.prog.cellsOf 3=1:=by kernel_rfl
    have e: (cs.drop 1).take (Tryz.prog.cellsOf 3)=En.enc a1:=e1
    rw[hc]at e;exact e
  obtain⟨a2,e2,z2⟩:=(inferInstance:Inp Tryz.prog 3 Int).h hsp (g 2 _ rfl (by rw[hxl];decide))
  have d2: (cs.drop 2).take 1=En.enc a2:=by
    have hc:Tryz.prog.cellsOf 3=1:=by kernel_rfl
    have e: (cs.drop 2).take (Tryz.prog.cellsOf 3)=En.enc a2:=e2
    rw[hc]at e;exact e
  obtain⟨a3,e3,z3⟩:=(inferInstance:Inp Tryz.prog 3 Int).h hsp (g 3 _ rfl (by rw[hxl];decide))
  have d3: (cs.drop 3).take 1=En.enc a3:=by
    have hc:Tryz.prog.cellsOf 3=1:=by kernel_rfl
    have e: (cs.drop 3).take (Tryz.prog.cellsOf 3)=En.enc a3:=e3
    rw[hc]at e;exact e
  refine⟨⟨a0,a1,a2,a3⟩,?_,fun R hR=>sepI (z0 R hR) (sepI (z1 R hR) (sepI (z2 R hR) (sepI (z3 R hR) (trivial))))⟩
  have hp:=xCh [1,1,1,1] 0 cs (by rw[hl];kernel_rfl)
  have hq:cs=En.enc a0++(En.enc a1++(En.enc a2++(En.enc a3++([])))):=by rw[←d0,←d1,←d2,←d3];exact hp
  rw[hq];rfl⟩
instance:Inp Tryz.prog 35 (SL xBR):=xB2 Tryz.underlying35 (by kernel_rfl)
structure xD4 where
  progs:xHY
  frames:xKA
instance:En xD4:=⟨fun d=>[d.progs.s.v,d.frames.s.v],2,fun _=>rfl,fun _=>rfl,by decide⟩
instance:Fz xD4:=⟨fun p=>sep (Fz.fz p.progs) (sep (Fz.fz p.frames) (fact True)),fun _=>XX (Fz.dup _) (XX (Fz.dup _) (xBP _))⟩
instance:Inp Tryz.prog 37 xD4:=⟨fun{_ _ _ _ _ _ _ cs _} hsp h=>by
  obtain⟨xs,n,_,_,hl,hxl,hf⟩:=DataW.trod_struct Tryz.underlying37 h
  have g:=fun i f hi (hlt:i<xs.length)=>(hf i f hi).trans (List.getElem?_eq_getElem hlt)
  obtain⟨a0,e0,z0⟩:=(inferInstance:Inp Tryz.prog 34 xHY).h hsp (g 0 _ rfl (by rw[hxl];decide))
  have d0: (cs.drop 0).take 1=En.enc a0:=by
    have hc:Tryz.prog.cellsOf 34=1:=by kernel_rfl
    have e: (cs.drop 0).take (Tryz.prog.cellsOf 34)=En.enc a0:=e0
    rw[hc]at e;exact e
  obtain⟨a1,e1,z1⟩:=(inferInstance:Inp Tryz.prog 35 xKA).h hsp (g 1 _ rfl (by rw[hxl];decide))
  have d1: (cs.drop 1).take 1=En.enc a1:=by
    have hc:Tryz.prog.cellsOf 35=1:=by kernel_rfl
    have e: (cs.drop 1).take (Tryz.prog.cellsOf 35)=En.enc a1:=e1
    rw[hc]at e;exact e
  refine⟨⟨a0,a1⟩,?_,fun R hR=>sepI (z0 R hR) (sepI (z1 R hR) (trivial))⟩
  have hp:=xCh [1,1] 0 cs (by rw[hl];kernel_rfl)
  have hq:cs=En.enc a0++(En.enc a1++([])):=by rw[←d0,←d1];exact hp
  rw[hq];rfl⟩
theorem xD1 {a:xD4} {R:Jd} {w:World} (h: (Fz.fz a).h R (fun _=>False) w):∀A∈[sl true a.progs.s.v a.progs.d,fzl a.progs.d,sl true a.frames.s.v a.frames.d],A.h R (fun _=>False) w:=fun A hA=>by
  simp only[List.mem_cons,List.not_mem_nil,or_false]at hA
  rcases hA with rfl|rfl|rfl
  · exact xp5 (xfO h)
  · exact xfe (xfO h)
  · exact xp5 (xfO (VB h))
end Go.Proofs.YtmebccjndhlpoaaGreat
