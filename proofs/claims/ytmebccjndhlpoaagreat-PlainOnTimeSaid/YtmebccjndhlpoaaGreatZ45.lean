import Derived.Test.YtmebccjndhlpoaaGreatZ44
namespace Go.Proofs.YtmebccjndhlpoaaGreat
open Go Go.Wk Tryz
set_option maxHeartbeats 3200000
set_option maxRecDepth 100000
theorem xLU {c:xBG} (hp: (xCd c.levels.d c.naps.d c.pow).1=0):xDW c.levels.d∧0≤c.sw∧c.sw≤100000000:=by
 unfold xCd at hp
 obtain⟨h1,hp⟩:=xCy (fun _=>by decide) hp
 obtain⟨h2,hp⟩:=xCy (fun _=>show(27:Int)≠0 by decide) hp
 obtain⟨h3,_⟩:=xCy (fun _=>show(27:Int)≠0 by decide) hp
 simp only[Bool.not_eq_false]at h1 h3
 have hl:=xB6 h1
 have hne:¬c.levels.d.length=0:=by omega
 have hm:xBK c.levels.d∈c.levels.d:=by
  unfold xBK
  rw[if_neg hne]
  exact List.mem_of_getElem? (Yi S.o S.o)
 obtain⟨q1,q2,q3,q4⟩:=xF6 _ default 0 (Int.le_refl _) ⟨by decide,by decide⟩ h2 _ hm
 unfold xFE at h3
 simp only[Bool.and_eq_true]at h3
 exact⟨⟨q1,q2,q3,q4⟩,xB6 h3.2.1⟩
theorem xLD {l:List Int} (h:∀x∈l,0≤x∧x≤1000000000000):0≤xCs l∧xCs l≤l.length*1000000000000:=by
 induction l with
 |nil=>exact⟨Int.le_refl 0,Int.le_refl 0⟩
 |cons a l ih=>
  have h1:=h a (by simp)
  have h2:=ih fun x hx=>h x (by simp[hx])
  show 0≤a+xCs l∧a+xCs l≤((a::l).length:Int)*1000000000000
  rw[List.length_cons]
  omega
theorem xHG {ls:List xBH} {sw n:Int} (ht:xDW ls) (h0:0≤n) (h9:n≤1000000000) (s0:0≤sw) (s9:sw≤100000000):xEG ls sw n=(sw+mdV n 1000 (xBK ls).freq true,0)∧0≤mdV n 1000 (xBK ls).freq true∧mdV n 1000 (xBK ls).freq true≤1000000000000:=by
 obtain⟨f1,f9,p0,p9⟩:=ht
 have hm0:=xMH (a:=n) (b:=1000) f1 h0 (by decide)
 have hm9:mdV n 1000 (xBK ls).freq true≤1000000000000:=by
  unfold mdV
  rw[if_pos rfl]
  refine Int.le_of_lt_add_one (Int.ediv_lt_of_lt_mul S.o ?_)
  have a2: (1000000000000+1:Int)*(xBK ls).freq=1000000000000*(xBK ls).freq+(xBK ls).freq:=by rw[Int.add_mul,Int.one_mul]
  omega
 refine⟨?_,hm0,hm9⟩
 have e:xBU n 1000 (xBK ls).freq true=(mdV n 1000 (xBK ls).freq true,0):=by
  unfold xBU
  rw[if_neg S.o,if_neg S.o]
 unfold xEG
 rw[if_pos ⟨h0,s0,by omega⟩,e]
 simp only
 rw[if_pos trivial]
 unfold xIG
 have hs:xCs [sw,mdV n 1000 (xBK ls).freq true]=sw+mdV n 1000 (xBK ls).freq true:=by show sw+(_+0)=_;omega
 rw[hs,if_neg (by simp;omega),if_neg S.o]
section
attribute [local irreducible] BrK Xq Xt Xv XI FnK XZ Xw XC XV opX opK Yq Yk eqR Yj Yo Ys WL WD W X3 XO Tr drewK Ya X4 Yw Yv X1 YB mp blk rob sl sep ex fact old
section
attribute [local irreducible] xs2 inB xB0 xB9 xBI xB3
section
variable {s:SV} {l:List Int} {ls:List xBH} {u0:Value} {p:xDC} {n len:Int}
theorem xHU (ro:Bool) (hl:l.length≤100) (h:∀x∈l,0≤x∧x≤1000000000000):Xb prog 32 #[s.v] [sl ro s.v l]
  fun v l'=>v=.tuple #[.int .i64 (xCs l),.int .i64 0]∧l'=[sl ro s.v l]:=by
 intro F K hK
 simp only[ap]at hK⊢
 refine S.I fun u=>?_
 repeat' (first|refine S.x ?_|fail)
 have hs:=fun k:Nat=>xLD (l:=l.take k) fun x hx=>h x (List.mem_of_mem_take hx)
 refine Tr.loopE (α:=Nat) [2,3,4,5,6] [0] (fun k=>[.int .i64 0,.int .i64 0,.int .i64 (xCs (l.take k)),.bool false,.int .i64 k]) (fun _=>[sl ro s.v l]) (fun k=>k≤l.length) (fun k=>l.length-k) 0 S.T rfl (Nat.zero_le _) fun k u hk=>?_
 simp only[ap]
 by_cases hin:k<l.length
 ·have hw:=Xo (k:=k) S.o
  obtain⟨s0,s9⟩:=hs k
  rw[List.length_take]at s9
  obtain⟨x0,x9⟩:=h _ (xCa hin)
  have hst:xCs (l.take (k+1))=xCs (l.take k)+ix l (k:Int):=by rw[Yz hin,xEh]
  generalize xCs (l.take k)=z at*
  have hw1:IntKind.i64.wrap (9223372036854775807-z)=9223372036854775807-z:=Ye S.o S.o
  have hw2:IntKind.i64.wrap (z+ix l (k:Int))=z+ix l (k:Int):=Ye S.o S.o
  clear hs
  have hX:=I3 hw hw1 hw2;repeat' (first|refine S.x ?_|intro hb|fail)
  all_goals
   have hX:=hst
   exact S.R (k+1)
 ·have hke:k=l.length:=by omega
  subst hke
  rw[List.take_length]
  repeat' (first|refine S.x ?_|fail)
  all_goals exact S.L
theorem xJl [hd:DeA u0 p] (hl:ls.length≤1000000000) (ht:xDW ls) (h0:0≤n) (h9:n≤1000000000) (s0:0≤p.sw) (s9:p.sw≤100000000):Xb prog 142 #[u0,.int .i64 n] [sl true p.levels.v ls]
  fun v l'=>v=.tuple #[.int .i64 (p.sw+mdV n 1000 (xBK ls).freq true),.int .i64 0]∧l'=[]:=by
 intro F K hK
 simp only[ap]
 obtain⟨_,m0,m9⟩:=xHG (sw:=p.sw) ht h0 h9 s0 s9
 have hto:=xH3 (u0:=u0) (p:=p) hl
 have hmd:=xGR (a:=n) (b:=1000) (c:=(xBK ls).freq) h0 (by decide) ht.f1 (by have:=ht.f9;omega) S.o true
 have hf1:=ht.f1
 generalize mdV n 1000 (xBK ls).freq true=w at*
 have hsu:=fun s=>xHU (s:=s) (l:=[p.sw,w]) false (by simp) (fun x hx=>by
  rcases List.mem_cons.1 hx with rfl|hx
  ·exact⟨s0,by omega⟩
  ·rw[List.mem_singleton.1 hx];exact⟨m0,m9⟩)
 rw[show xCs [p.sw,w]=p.sw+w by show p.sw+(w+0)=_;omega]at hsu
 obtain rfl:=hd.h
 obtain⟨p1,p2,p3,p4,p5,p6,p7,p8⟩:=p
 simp only at*
 refine S.I fun u=>?_
 repeat' (first|(refine G.call 29 ?_;refine S.c ?_ (h:=hto);rintro _ _ ⟨rfl,rfl⟩)|(refine G.call 30 ?_;refine S.c ?_ (h:=hmd);rintro _ _ ⟨rfl,rfl⟩)|(refine G.call 32 ?_;refine S.c ?_ (h:=hsu _);rintro _ _ ⟨rfl,rfl⟩)|intro(sx:SV)|refine S.x ?_|intro hb|fail)
 trace_state
 all_goals exact S.L
end
end
section
theorem xIF {c:xBG} {m:xCz} {x a:xCA} (hn:c.parts.d.length≤1000000000) (h1:0≤x.part) (h2:x.part<c.parts.d.length) (h3:a.start+a.len≤x.start) (h0:0≤a.start+a.len) (h4:x.start≤m.frame) (h9:m.frame≤1000000000) (h5:1≤x.len) (h6:x.len≤m.frame-x.start):xCt c m x a=true:=by
 unfold xCt
 rw[Ye (n:=(c.parts.d.length:Int)-1) S.o S.o,Ye (n:=a.start+a.len) S.o S.o,Ye (n:=m.frame-x.start) S.o S.o,xBM h1 S.o,xBM h3 h4,xBM h5 h6]
 rfl
theorem xKY {c:xBG} {k:Int} (hm:c.modes.d.length≤1000000000) (h0:0≤k) (h1:k<c.modes.d.length) (h2:1≤(ix c.modes.d k).frame) (h3: (ix c.modes.d k).frame≤1000000000) (h4: (ix c.modes.d k).wins.d.length≤16) (h5:xs2 (xCt c (ix c.modes.d k)) default (ix c.modes.d k).wins.d 0<0) (h6:xs2 (fun x _=>xCx c x) default (ix c.modes.d k).wins.d 0<0):xCF c k=0:=by
 unfold xCF
 rw[Ye (n:=(c.modes.d.length:Int)-1) S.o S.o,xBM h0 S.o,if_neg (by decide),xBM h2 h3,if_neg (fun h=>by rcases h with h|h|h<;>first|cases h|omega),if_neg S.o]
attribute [local irreducible] xs2 inB xB0 xB9 xBI xB3
section
variable {ls:List xBH} {u0:Value} {p:xDC} {n len k:Int} {c:xBG}
theorem xJQ [hd:DeA u0 p] (hl:ls.length≤1000000000) (ht:xDW ls) (h0:0≤n) (h9:n≤1000000000) (s0:0≤p.sw) (s9:p.sw≤100000000):Xb prog 95 #[u0,.int .i64 n,.int .i64 len] [sl true p.levels.v ls]
  fun v l'=>v=.bool (xEH ls p.sw n len)∧l'=[]:=by
 intro F K hK
 simp only[ap]
 have e:xEH ls p.sw n len=decide (p.sw+mdV n 1000 (xBK ls).freq true≤len):=by
  unfold xEH
  rw[(xHG ht h0 h9 s0 s9).1]
  rfl
 rw[e]at hK
 have hne:=xJl (u0:=u0) (p:=p) hl ht h0 h9 s0 s9
 generalize p.sw+mdV n 1000 (xBK ls).freq true=w at*
 obtain rfl:=hd.h
 obtain⟨p1,p2,p3,p4,p5,p6,p7,p8⟩:=p
 simp only at*
 refine S.I fun u=>?_
 repeat' (first|(refine G.call 142 ?_;refine S.c ?_ (h:=hne);rintro _ _ ⟨rfl,rfl⟩)|refine S.x ?_|intro hb|fail)
 all_goals exact S.L
theorem xLI (hs:shC c) (hp:∀j:Int,0≤j→j<c.parts.d.length→xCw (ix c.parts.d j)=0) (hpw: (xCd c.levels.d c.naps.d c.pow).1=0):Xb prog 56 #[.agg (En.enc c).toArray,.int .i64 k] [sl true c.parts.s.v c.parts.d,fzl c.parts.d,sl true c.modes.s.v c.modes.d,fzl c.modes.d,sl true c.levels.s.v c.levels.d]
  fun v l'=>∃e:Int,(e=0→xCF c k=0)∧v=.int .i64 e∧l'=[]:=by
 intro F K hK
 simp only[ap]at hK⊢
 have hml:=hs.m
 have hpl:=hs.p
 by_cases h1:0≤k∧k<c.modes.d.length
 ·obtain⟨h1,h2⟩:=h1
  have hmk:=xKY (c:=c) hml h1 h2
  obtain⟨ht,s0,s9⟩:=xLU hpw
  by_cases h3: (1≤(ix c.modes.d k).frame∧(ix c.modes.d k).frame≤1000000000)∧(ix c.modes.d k).wins.d.length≤16
  ·obtain⟨⟨q1,q2⟩,q3⟩:=h3
   have e1:decide ((ix c.modes.d k).frame<1∨1000000000<(ix c.modes.d k).frame)=false:=decide_eq_false S.o
   have hmk:=hmk q1 q2 q3
   refine S.I fun u=>?_
   have hX:=And.intro @xE8.eq_def @e1;repeat' (first|refine S.x ?_|(refine G.call 52 ?_;refine S.c ?_ (h:=YA))|rintro _ _ ⟨rfl,rfl⟩|intro hb|fail)
   rename_i bc _
   obtain⟨bm,rfl⟩:∃x,x=hb:=⟨_,rfl⟩
   refine Tr.loopE (α:=Nat×Int) [4,6,7] [2,5] (fun z=>[.int .i64 0,.int .i64 z.2,.int .i64 z.1]) (fun _=>[blk bc (.cells (En.enc c).toArray 33 (0,0)),blk bm (.cells (En.enc (ix c.modes.d k)).toArray 107 (0,0))]) (fun z=>z.1≤(ix c.modes.d k).wins.d.length∧z.2=(ahd (ix c.modes.d k).wins.d z.1).start+(ahd (ix c.modes.d k).wins.d z.1).len∧0≤z.2∧z.2≤1000000000∧(∀i:Nat,i<z.1→0≤(ix (ix c.modes.d k).wins.d (i:Int)).part∧(ix (ix c.modes.d k).wins.d (i:Int)).part<c.parts.d.length)∧xs2 (xCt c (ix c.modes.d k)) default (ix c.modes.d k).wins.d 0=xs2 (xCt c (ix c.modes.d k)) (ahd (ix c.modes.d k).wins.d z.1) ((ix c.modes.d k).wins.d.drop z.1) z.1) (fun z=>(ix c.modes.d k).wins.d.length-z.1) (0,0) S.T rfl ⟨Nat.zero_le _,rfl,Int.le_refl 0,by decide,fun i hi=>absurd hi (Nat.not_lt_zero _),rfl⟩ fun z u hz=>?_
   obtain⟨j,e⟩:=z
   obtain⟨hj,he,he0,he9,hin1,hall⟩:=hz
   simp only at hj he he0 he9 hin1 hall⊢
   simp only[ap]
   by_cases hin:j<(ix c.modes.d k).wins.d.length
   ·have hw:=Xo (k:=j) S.o
    by_cases q: ((0≤(ix (ix c.modes.d k).wins.d (j:Int)).part∧(ix (ix c.modes.d k).wins.d (j:Int)).part<c.parts.d.length)∧e≤(ix (ix c.modes.d k).wins.d (j:Int)).start∧(ix (ix c.modes.d k).wins.d (j:Int)).start≤(ix c.modes.d k).frame)∧1≤(ix (ix c.modes.d k).wins.d (j:Int)).len∧(ix (ix c.modes.d k).wins.d (j:Int)).len≤(ix c.modes.d k).frame-(ix (ix c.modes.d k).wins.d (j:Int)).start
    ·obtain⟨⟨⟨g1,g2⟩,g3,g4⟩,g5,g6⟩:=q
     have w1:IntKind.i64.wrap ((ix c.modes.d k).frame-(ix (ix c.modes.d k).wins.d (j:Int)).start)=(ix c.modes.d k).frame-(ix (ix c.modes.d k).wins.d (j:Int)).start:=Ye S.o S.o
     have w2:IntKind.i64.wrap ((ix (ix c.modes.d k).wins.d (j:Int)).start+(ix (ix c.modes.d k).wins.d (j:Int)).len)=(ix (ix c.modes.d k).wins.d (j:Int)).start+(ix (ix c.modes.d k).wins.d (j:Int)).len:=Ye S.o S.o
     rw[xB1 hin,if_pos (xIF hpl g1 g2 S.o S.o g4 q2 g5 g6)]at hall
     have hin2:=JT (p:=fun i:Nat=>0≤(ix (ix c.modes.d k).wins.d (i:Int)).part∧(ix (ix c.modes.d k).wins.d (i:Int)).part<c.parts.d.length) hin1 ⟨g1,g2⟩
     have hx2: (ix (ix c.modes.d k).wins.d (j:Int)).start+(ix (ix c.modes.d k).wins.d (j:Int)).len=(ahd (ix c.modes.d k).wins.d (j+1)).start+(ahd (ix c.modes.d k).wins.d (j+1)).len:=rfl
     clear he hin1
     have hX:=I4 @xE8.eq_def hw @w1 @w2;repeat' (first|refine S.x ?_|intro hb|fail)
     all_goals exact S.R ((j+1,(ix (ix c.modes.d k).wins.d (j:Int)).start+(ix (ix c.modes.d k).wins.d (j:Int)).len):Nat×Int)
    ·by_cases q7:0≤(ix (ix c.modes.d k).wins.d (j:Int)).start∧(ix (ix c.modes.d k).wins.d (j:Int)).start≤(ix c.modes.d k).frame
     ·have w1:IntKind.i64.wrap ((ix c.modes.d k).frame-(ix (ix c.modes.d k).wins.d (j:Int)).start)=(ix c.modes.d k).frame-(ix (ix c.modes.d k).wins.d (j:Int)).start:=Ye S.o S.o
      have hX:=I3 @xE8.eq_def hw @w1;repeat' (first|refine S.x ?_|refine S.y ?_ ?_|intro hb|fail)
      all_goals first
       |exact Tr.fin hK ⟨26,(fun h=>absurd h (by decide)),rfl,rfl⟩ S.E
       |(exfalso;omega)
     ·have hX:=And.intro @xE8.eq_def hw;repeat' (first|refine S.x ?_|refine S.y ?_ ?_|intro hb|fail)
      all_goals first
       |exact Tr.fin hK ⟨26,(fun h=>absurd h (by decide)),rfl,rfl⟩ S.E
       |(exfalso;omega)
   ·have hke:j=(ix c.modes.d k).wins.d.length:=by omega
    subst hke
    rw[List.drop_length]at hall
    have hf1:xs2 (xCt c (ix c.modes.d k)) default (ix c.modes.d k).wins.d 0<0:=by
     rw[hall]
     unfold xs2
     decide
    have hmk:=hmk hf1
    clear hall he
    have hX:=@xE8.eq_def;repeat' (first|refine S.x ?_|fail)
    refine Tr.loopE (α:=Nat) [4,9] [2,5] (fun j=>[.int .i64 0,.int .i64 j]) (fun _=>[blk bc (.cells (En.enc c).toArray 33 (0,0)),blk bm (.cells (En.enc (ix c.modes.d k)).toArray 107 (0,0))]) (fun j=>j≤(ix c.modes.d k).wins.d.length∧xs2 (fun x _=>xCx c x) default (ix c.modes.d k).wins.d 0=xs2 (fun x _=>xCx c x) (ahd (ix c.modes.d k).wins.d j) ((ix c.modes.d k).wins.d.drop j) j) (fun j=>(ix c.modes.d k).wins.d.length-j) 0 S.T rfl ⟨Nat.zero_le _,rfl⟩ fun j u hj2=>?_
    obtain⟨hj2,hall⟩:=hj2
    simp only[ap]
    by_cases hin:j<(ix c.modes.d k).wins.d.length
    ·have hw:=Xo (k:=j) S.o
     obtain⟨g1,g2⟩:=hin1 j hin
     have hcp:=xDr (hp _ g1 g2)
     have hft:=xJQ (u0:=.agg (En.enc c.pow).toArray) (p:=c.pow) (hd:=⟨rfl⟩) (n:=(ix c.parts.d (ix (ix c.modes.d k).wins.d (j:Int)).part).cap) (len:=(ix (ix c.modes.d k).wins.d (j:Int)).len) hs.l ht (by have:=hcp.c1;omega) hcp.c9 s0 s9
     rw[show c.pow.levels=c.levels.s from rfl]at hft
     have hcq:List.take 8 (List.drop 3 (En.enc c))=En.enc c.pow:=rfl
     rw[xB1 hin]at hall
     have hwf:xCx c (ix (ix c.modes.d k).wins.d (j:Int))=xEH c.levels.d c.pow.sw (ix c.parts.d (ix (ix c.modes.d k).wins.d (j:Int)).part).cap (ix (ix c.modes.d k).wins.d (j:Int)).len:=rfl
     rw[←hwf]at hft
     cases hr:xCx c (ix (ix c.modes.d k).wins.d (j:Int))with
     |true=>
      rw[hr]at hft
      rw[hr,if_pos rfl]at hall
      have hX:=I3 @xE8.eq_def hw hcq;repeat' (first|(refine G.call 95 ?_;refine S.c ?_ (h:=hft);rintro _ _ ⟨rfl,rfl⟩)|refine S.x ?_|intro hb|fail)
      all_goals exact S.R (j+1)
     |false=>
      rw[hr]at hft
      have hX:=I3 @xE8.eq_def hw hcq;repeat' (first|(refine G.call 95 ?_;refine S.c ?_ (h:=hft);rintro _ _ ⟨rfl,rfl⟩)|refine S.x ?_|intro hb|fail)
      all_goals exact Tr.fin hK ⟨29,(fun h=>absurd h (by decide)),rfl,rfl⟩ S.E
    ·have hke:j=(ix c.modes.d k).wins.d.length:=by omega
     subst hke
     rw[List.drop_length]at hall
     have hf2:xs2 (fun x _=>xCx c x) default (ix c.modes.d k).wins.d 0<0:=by
      rw[hall]
      unfold xs2
      decide
     have hok:=hmk hf2
     have hX:=@xE8.eq_def;repeat' (first|refine S.x ?_|fail)
     all_goals exact Tr.fin hK ⟨0,(fun _=>hok),rfl,rfl⟩ S.E
  ·refine S.I fun u=>?_
   have hX:=@xE8.eq_def;repeat' (first|refine S.x ?_|refine S.y ?_ ?_|(refine G.call 52 ?_;refine S.c ?_ (h:=YA))|rintro _ _ ⟨rfl,rfl⟩|intro hb|fail)
   all_goals first
    |exact Tr.fin hK ⟨26,(fun h=>absurd h (by decide)),rfl,rfl⟩ S.E
    |(exfalso;simp only[decide_eq_false_iff_not,decide_eq_true_eq,Bool.not_eq_true]at*;omega)
 ·refine S.I fun u=>?_
  have hX:=@xE8.eq_def;repeat' (first|refine S.x ?_|refine S.y ?_ ?_|intro hb|fail)
  all_goals first
   |exact Tr.fin hK ⟨26,(fun h=>absurd h (by decide)),rfl,rfl⟩ S.E
   |(exfalso;omega)
end
end
end
theorem xLp {ls:List xBH} {n:Int}: (xBI ls n).1≤9223372036854775807:=by
 unfold xBI
 split
 ·exact(by decide: (0:Int)≤9223372036854775807)
 ·split
  ·exact xFB
  ·exact(by decide: (0:Int)≤9223372036854775807)
instance xNr {l:List Xc} {ls:List xBH} {gs:List xBL}:J8 l (xC8 ls gs):=Va fun _ _ _ _ _ _ x hx=>by
 obtain⟨g,_,rfl⟩:=List.mem_map.1 hx
 have h1:=xHD (ls:=ls) (n:=g.cyc)
 have h2:=xLp (ls:=ls) (n:=g.cyc)
 exact⟨by omega,h2⟩
theorem Tr.bringF {α:Type} [En α] [Fz α] (xs:List α) {l:List Xc} {X:WP} [hs:J8 l xs] (h:Tr (fzl xs::l) X):Tr l X:=Tr.imp (hs.h.imps (xg2 xs)) h
section
attribute [local irreducible] BrK Xq Xt Xv XI FnK XZ Xw XC XV opX opK Yq Yk eqR Yj Yo Ys WL WD W X3 XO Tr drewK Ya X4 Yw Yv X1 YB mp blk rob sl sep ex fact old
section
attribute [local irreducible] xs2 inB xB0 xB9 xBI xB3 Zg Zw Y1 X2 objX xCR xBX xC2 xCH xBQ xCZ xC9 xCn
section
variable {p:Nat} {c:xBG} {y:SyW} {px pg pa:List Pt} {s:SV} {E:Nat} {Cs:List CC} {g:xBV} {cr:List (SL Int)} {x:SyG}
theorem xIm (hs:shC c) (hco:xDc c) (hty:okT c.levels.d) (h:SyI c Cs px pg pa E x) (hcr:cr.map SL.d=x.t.creds) (hg:xGE c g) (hE:E≤210000000) (h1:x.t.sheds.length≤1000) (h2:x.t.modes.length≤1000) (h3:cr.length≤1000):
  Xb prog 27 #[.pointer (some ⟨p,0,none⟩),.agg (En.enc g).toArray] (xJs p c y s pa x++[sl true y.cs.v px,sl true y.ps.v pg,sl false y.sh.v x.t.sheds,sl false y.md.v x.t.modes,sl false y.cr.v cr,fzl cr,sl true c.levels.s.v c.levels.d,sl true c.chans.s.v c.chans.d,sl true c.modes.s.v c.modes.d,fzl c.modes.d,sl true c.parts.s.v c.parts.d])
  fun v l'=>∃(y2:SyW) (x2:SyG) (cr2:List (SL Int)),y2.bd=y.bd∧y2.cs=y.cs∧y2.ps=y.ps∧y2.sn=y.sn∧y2.bk=y.bk∧x2.t=xCu c Cs (c.parts.d.map YF.budget) g x.t∧SyI c Cs px pg pa (E+3200000) x2∧cr2.map SL.d=x2.t.creds∧v=.tuple #[]∧
   l'=xJs p c y2 s pa x2++[sl false y2.sh.v x2.t.sheds,sl false y2.md.v x2.t.modes,sl false y2.cr.v cr2,fzl cr2]:=by
 intro F K hK
 simp only[ap]at hK⊢
 obtain⟨xev,xms,xs,Gs,ac,seen,m,t⟩:=x
 simp only at hK h1 h2 hcr⊢
 have hR:=h.refill
 simp only at hR
 have hg1:=hg.1
 have hg2:=hg.2
 have hpq:=h.pa
 obtain⟨hm1,hm2,hm3⟩:=xEQ hco.n8 (hco.m g.mode hg1 hg2)
 have hrf:=xHg (p:=y.bk) (s:=s) (q:=qM c.quantum) (pw:=c.pow) (gs:=ac)
 have hpz:=hR.pa
 simp only at hpz hpq
 unfold xEJ at hrf
 rw[hpq,hpz]at hrf
 have hwl: (ix c.modes.d g.mode).wins.d.length≤1000000000:=by omega
 have hsp:xCD (ix c.modes.d g.mode).wins.d g.at_=xCc c g:=rfl
 refine S.I fun u=>?_
 have hX:=I3 @xnR.eq_def hsp hpq;repeat' (first|rintro _ _ ⟨rfl,rfl⟩|rintro _ _ ⟨_,rfl,rfl⟩|(refine G.call 44 ?_;refine S.c ?_ (h:=hrf))|refine S.x ?_|(refine G.call 45 ?_;refine S.c ?_ (h:=xFx ‹_›))|intro hb|fail)
 rename_i bp _
 obtain⟨ws,hws⟩:∃ws,ws=xCc c g:=⟨_,rfl⟩
 obtain⟨T,hT⟩:∃T,T=xDl c Cs (c.parts.d.map YF.budget) g.level ws {t with cyc:=t.cyc.map fun _=>0}:=⟨_,rfl⟩
 have hwn:ws.length≤16:=by rw[hws];exact xFe (xHL hco) hg
 have hwp:∀k:Int,0≤k→k<ws.length→0≤(ix ws k).part∧(ix ws k).part<c.parts.d.length:=fun k h0 h1=>by
  have hm:ix ws k∈(ix c.modes.d g.mode).wins.d.map (xEE g.at_):=(show ws=(ix c.modes.d g.mode).wins.d.map (xEE g.at_)from hws) ▸ List.mem_of_getElem? (Yi h0 h1)
  obtain⟨w,hw,e⟩:=List.mem_map.1 hm
  rw[←e]
  exact hm3 w hw
 rw[←hws]
 refine Tr.loopE (α:=Nat×SyG) [24] [0,3,22,23] (fun z=>[.int .i64 z.1]) (fun z=>blk bp (.cells (En.enc g).toArray 89 (0,0))::xJs p c y s pa z.2) (fun z=>z.1≤ws.length∧SyI c Cs px pg pa (E+z.1*200000) z.2∧xDl c Cs (c.parts.d.map YF.budget) g.level (ws.drop z.1) z.2.t=T) (fun z=>ws.length-z.1) (0,⟨xev,xms,xs,Gs,ac.map fun g=>⟨g.b,g.bud,0⟩,seen,m,{t with cyc:=t.cyc.map fun _=>0}⟩) S.T rfl ⟨Nat.zero_le _,by simp only[Nat.zero_mul,Nat.add_zero];exact hR,hT.symm⟩ fun z u hz=>?_
 obtain⟨k,vev,vms,ys,Hs,bc,sn,mm,t1⟩:=z
 obtain⟨hk,hI,hW⟩:=hz
 simp only at hk hI hW⊢
 simp only[ap]
 have hTe:=hT
 clear hrf hR hT h hpz hpq
 have hwj:ws.length≤1000000000:=by omega
 have hpx:=hI.px
 have hpg:=hI.pg
 have hpa:=hI.pa
 have hE1:=hI.ev
 have hE2:=hI.ml
 simp only at hpx hpg hpa hE1 hE2
 by_cases hin:k<ws.length
 ·have hw:=Xo (k:=k) S.o
  obtain⟨r0,r1⟩:=hwp (k:Int) S.o S.o
  have hst:xDl c Cs (c.parts.d.map YF.budget) g.level (ws.drop k) t1=xDl c Cs (c.parts.d.map YF.budget) g.level (ws.drop (k+1)) (if isM (ix c.parts.d (ix ws (k:Int)).part).ladder g.level=true then t1 else xC9 Cs (c.parts.d.map YF.budget) c.levels.d (qM c.quantum) c.chans.d (ix ws (k:Int)).part t1):=by
   rw[List.drop_eq_getElem_cons hin,show ws[k]=ix ws (k:Int) by simp[ix,hin]]
   rfl
  rw[hst]at hW
  have hsh:=xLR (ladder:=(ix c.parts.d (ix ws (k:Int)).part).ladder) (level:=g.level)
  cases hr:isM (ix c.parts.d (ix ws (k:Int)).part).ladder g.level with
  |true=>
   rw[hr,if_pos rfl]at hW
   rw[hr]at hsh
   have hI2:SyI c Cs px pg pa (E+(k+1)*200000) ⟨vev,vms,ys,Hs,bc,sn,mm,t1⟩:=hI.up S.o
   clear hI
   have hX:=And.intro @xnR.eq_def hw;repeat' (first|rintro _ _ ⟨rfl,rfl⟩|(refine G.call 46 ?_;refine S.c ?_ (h:=hsh))|refine S.x ?_|intro hb|fail)
   all_goals exact S.R ((k+1,⟨vev,vms,ys,Hs,bc,sn,mm,t1⟩):Nat×SyG)
  | false=>
   rw[hr,if_neg (by decide)]at hW
   rw[hr]at hsh
   have hk1: (ix ws (k:Int)).part<ys.length:=by have:=hI.n;simp only at this;omega
   have hwn2:=xGM (p:=p) (c:=c) (y:={y with ev:=vev,ms:=vms}) (k:=(ix ws (k:Int)).part) (q:=qM c.quantum) (pw:=c.pow) (ls:=c.levels.d) (ac:=bc) (s:=s) (xs:=ys) (Gs:=Hs) (seen:=sn) (evs:=t1.evs) (ms:=mm) hI.s.lG hI.s.lA hI.s.lS r0 hk1 (hI.s.i _ r0 hk1) (hI.s.s _ r0 hk1) hI.s.w hI.s.st (hI.s.n _ r0 hk1) (by have:=hI.s.e _ r0 hk1;simp only at this;omega) S.o S.o hs.l hty
   rw[hpx,hpg,hpa,show c.pow.levels=c.levels.s from rfl]at hwn2
   have hwin:=fun(se sm:SV) (x2:xBN) (m2:List xBY) (Gs2:List PG) (R:CM×Int)=>hI.win (k:=(ix ws (k:Int)).part) (se:=se) (sm:=sm) (x2:=x2) (m2:=m2) (Gs2:=Gs2) (R:=R) r0 hk1
   simp only at hwin
   clear hI
   have hX:=And.intro @xnR.eq_def hw;repeat' (first|rintro _ _ ⟨rfl,rfl⟩|rintro _ _ ⟨se,sm,x2,m2,Gs2,R,e1,e2,e3,e4,e5,e6,e7,e8,e9,e10,e11,rfl,rfl⟩|(refine G.call 46 ?_;refine S.c ?_ (h:=hsh))|(refine G.call 47 ?_;refine S.c ?_ (h:=hwn2))|refine S.x ?_|intro hb|fail)
   all_goals
    obtain⟨hN,hf,he,_⟩:=hwin se sm x2 m2 Gs2 R e1 e2 e3 e4 e5 e6 e7 (e8.trans hpg.symm) e9 e10 e11
    rw[←hf,←he]
    have hI2:=hN.up (E2:=E+(k+1)*200000) S.o
    clear hwin hN hf he
    exact S.R ((k+1,⟨se,sm,xCn (ys.set (ix ws (k:Int)).part.toNat x2) Gs2,Gs2,bc.set (ix ws (k:Int)).part.toNat {ix bc (ix ws (k:Int)).part with cyc:=R.2},sn.set (ix ws (k:Int)).part.toNat (R.1.evs.length:Int),mm++m2,xC9 Cs (c.parts.d.map YF.budget) c.levels.d (qM c.quantum) c.chans.d (ix ws (k:Int)).part t1⟩):Nat×SyG)
 ·have hke:k=ws.length:=by omega
  subst hke
  rw[List.drop_length]at hW
  have hla:=xLW (p:=y.bk) (s:=s) (q:=qM c.quantum) (pw:=c.pow) (gs:=bc) (ls:=c.levels.d) (by have:=hI.s.lA;have:=hI.n;have:=hco.n8;simp only at*;omega) hs.l hty (fun g hg=>by
   obtain⟨j,hj,e⟩:=List.mem_iff_getElem.1 hg
   have hla:=hI.s.lA
   have h2:=(hI.s.i (j:Int) S.o (by simp only at*;omega)).i.c1
   have e2:ix bc (j:Int)=g:=by simp[ix,hj,e]
   simp only[e2]at h2
   omega)
  unfold xEJ at hla
  rw[hpa,show c.pow.levels=c.levels.s from rfl]at hla
  obtain⟨w1,w2,w3⟩:=xE1 (c:=c) (Cs:=Cs) (buds:=c.parts.d.map YF.budget) (level:=g.level) (ws:=ws) (t:={t with cyc:=t.cyc.map fun _=>0})
  rw[←hTe]at w1 w2 w3
  have hF:xCu c Cs (c.parts.d.map YF.budget) g t={t1 with sheds:=t.sheds++[g.level],modes:=t.modes++[g.mode],creds:=t.creds++[xC8 c.levels.d bc]}:=by
   unfold xCu
   simp only
   rw[←hws,←hTe,w1,w2,w3,←hW]
   unfold xDl xC8
   simp only
   rw[←hI.t.y,List.map_map]
   rfl
  rw[hF]at hK
  have hX:=@xnR.eq_def;repeat' (first|intro(sv:SV)|(refine G.call 48 ?_;refine S.c ?_ (h:=hla))|(rintro _ _ ⟨s2,rfl,rfl⟩;simp only[ap];refine Tr.freezeAt (v:=s2.v) (xs:=xC8 c.levels.d bc) S.K ?_)|refine S.x ?_|fail)
  rename_i a1 a2 a3 a4 a5
  refine Tr.bringF (cr++[⟨s2,xC8 c.levels.d bc⟩]) ?_
  have hI3:=hI.up (E2:=E+3200000) S.o
  refine Tr.fin hK ⟨{y with sh:=a2,md:=a4,cr:=sv},⟨vev,vms,ys,Hs,bc,sn,mm,{t1 with sheds:=t.sheds++[g.level],modes:=t.modes++[g.mode],creds:=t.creds++[xC8 c.levels.d bc]}⟩,cr++[⟨s2,xC8 c.levels.d bc⟩],rfl,rfl,rfl,rfl,rfl,rfl,⟨hI3.s,⟨hI3.t.C,hI3.t.c,hI3.t.y⟩,hI3.n,hI3.b,hI3.ev,hI3.ml,hI3.ma,hI3.px,hI3.pg,hI3.pa⟩,by rw[List.map_append,hcr];rfl,rfl,rfl⟩ ?_
  exact S.E
