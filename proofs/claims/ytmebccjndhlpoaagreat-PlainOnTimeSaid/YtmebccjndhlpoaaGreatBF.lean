import Derived.Test.YtmebccjndhlpoaaGreatZ06
namespace Go.Proofs.YtmebccjndhlpoaaGreat
open Go Go.Wk Tryz
set_option maxHeartbeats 3200000
set_option maxRecDepth 100000
structure xDC where
 levels:SV
 naps:SV
 sw:Int
 idle:Int
 change:Int
 quantum:Int
 slow:Int
 ppm:Int
instance xN1:En xDC:=⟨fun d=>[d.levels.v,d.naps.v,.int .i64 d.sw,.int .i64 d.idle,.int .i64 d.change,.int .i64 d.quantum,.int .i64 d.slow,.int .i64 d.ppm],8,fun _=>rfl,fun _=>rfl,by decide⟩
instance xMl:ElT 25 xBH:=⟨⟩
def xBK (ls:List xBH):xBH:=if ls.length=0 then⟨0,0⟩else ix ls ((ls.length-1:Nat):Int)
structure okT (ls:List xBH):Prop where
 f: (xBK ls).freq≤9223372036854775807
 p: (xBK ls).power≤9223372036854775807
def xBI (ls:List xBH) (n:Int):Int×Int:=
 if n<0∨(xBK ls).freq<1∨(xBK ls).power<0 then(0,2)
 else if(xBU 1000 (xBK ls).power 1 false).2=0 then xBU n (xBU 1000 (xBK ls).power 1 false).1 (xBK ls).freq true else(0,(xBU 1000 (xBK ls).power 1 false).2)
def xEG (ls:List xBH) (sw n:Int):Int×Int:=
 if 0≤n∧0≤sw∧0<(xBK ls).freq then
  if(xBU n 1000 (xBK ls).freq true).2=0 then xIG [sw,(xBU n 1000 (xBK ls).freq true).1]else(0,(xBU n 1000 (xBK ls).freq true).2)
 else(0,2)
def xEH (ls:List xBH) (sw n len:Int):Bool:=decide ((xEG ls sw n).2=0)&&decide ((xEG ls sw n).1≤len)
theorem xFB {a b c:Int} {up:Bool}: (xBU a b c up).1≤9223372036854775807:=by
 unfold xBU
 split
 ·exact(by decide: (0:Int)≤9223372036854775807)
 ·split
  ·exact(by decide: (0:Int)≤9223372036854775807)
  ·show mdV a b c up≤_
   omega
section
attribute [local irreducible] BrK Xq Xt Xv XI FnK XZ Xw XC XV opX opK Yq Yk eqR Yj Yo Ys WL WD W X3 XO Tr drewK Ya X4 Yw Yv X1 YB mp blk rob sl sep ex fact old
section
variable {u0:Value} {p:xDC} {ls:List xBH}
theorem xGb [hd:DeA u0 p] (hl:ls.length≤1000000000):Xb prog 190 #[u0] [sl true p.levels.v ls]
  fun v l'=>v=.agg #[.int .i64 (xBK ls).freq,.int .i64 (xBK ls).power]∧l'=[]:=by
 obtain rfl:=hd.h
 intro F K hK
 simp only[ap]
 obtain⟨p1,p2,p3,p4,p5,p6,p7,p8⟩:=p
 by_cases h0:ls.length=0
 ·rw[show xBK ls=⟨0,0⟩from if_pos h0]at hK
  refine S.I fun u=>?_
  repeat' (first|refine S.x ?_|intro hb|fail)
  all_goals exact Tr.fin hK ⟨rfl,rfl⟩ S.E
 ·rw[show xBK ls=ix ls ((ls.length-1:Nat):Int)from if_neg h0]at hK
  have hw:IntKind.i64.wrap ((ls.length:Int)-1)=((ls.length-1:Nat):Int):=by rw[Ye S.o S.o];omega
  refine S.I fun u=>?_
  have hX:=hw;repeat' (first|refine S.x ?_|intro hb|fail)
  all_goals exact Tr.fin hK ⟨rfl,rfl⟩ S.E
theorem xHC [hd:DeA u0 p] {n:Int} (hl:ls.length≤1000000000) (ht:okT ls) (hn:n≤9223372036854775807):Xb prog 132 #[u0,.int .i64 n] [sl true p.levels.v ls]
  fun v l'=>v=.tuple #[.int .i64 (xBI ls n).1,.int .i64 (xBI ls n).2]∧l'=[]:=by
 obtain rfl:=hd.h
 intro F K hK
 simp only[ap]
 obtain⟨h1,h2⟩:=ht
 obtain⟨p1,p2,p3,p4,p5,p6,p7,p8⟩:=p
 unfold xBI at hK
 by_cases h0:n<0∨(xBK ls).freq<1∨(xBK ls).power<0
 ·rw[if_pos h0]at hK
  refine S.I fun u=>?_
  repeat' (first|refine S.x ?_|refine S.y ?_ ?_|(refine G.call 190 ?_;refine S.c ?_ (h:=xGb ‹_›))|rintro _ _ ⟨rfl,rfl⟩|intro hb|fail)
  all_goals exact Tr.fin hK ⟨rfl,rfl⟩ S.E
 ·rw[if_neg h0]at hK
  have hm:=xM7 (a:=1000) (b:=(xBK ls).power) (by decide) h2
  have hq:=xEk (a:=n) (b:=(xBU 1000 (xBK ls).power 1 false).1) (c:=(xBK ls).freq) (up:=true) hn xFB h1
  generalize xBU 1000 (xBK ls).power 1 false=w at*
  by_cases h3:w.2=0
  ·rw[if_pos h3]at hK
   generalize xBU n w.1 (xBK ls).freq true=z at*
   refine S.I fun u=>?_
   have hX:=h3;repeat' (first|rintro _ _ ⟨rfl,rfl⟩|(refine G.call 192 ?_;refine S.c ?_ (h:=hq))|(refine G.call 191 ?_;refine S.c ?_ (h:=hm))|refine S.x ?_|(refine G.call 190 ?_;refine S.c ?_ (h:=xGb ‹_›))|intro hb|fail)
   all_goals exact Tr.fin hK ⟨rfl,rfl⟩ S.E
  ·rw[if_neg h3]at hK
   refine S.I fun u=>?_
   repeat' (first|rintro _ _ ⟨rfl,rfl⟩|(refine G.call 191 ?_;refine S.c ?_ (h:=hm))|refine S.x ?_|(refine G.call 190 ?_;refine S.c ?_ (h:=xGb ‹_›))|intro hb|fail)
   all_goals exact Tr.fin hK ⟨rfl,rfl⟩ S.E
theorem xFU [hd:DeA u0 p] (hl:ls.length≤1000000000):Xb prog 259 #[u0] [sl true p.levels.v ls]
  fun v l'=>v=.agg #[.int .i64 (xBK ls).freq,.int .i64 (xBK ls).power,.int .i64 p.sw]∧l'=[]:=by
 obtain rfl:=hd.h
 intro F K hK
 simp only[ap]
 obtain⟨p1,p2,p3,p4,p5,p6,p7,p8⟩:=p
 refine S.I fun u=>?_
 have hX:=@xMa.eq_def;repeat' (first|refine S.x ?_|(refine G.call 190 ?_;refine S.c ?_ (h:=xGb ‹_›))|rintro _ _ ⟨rfl,rfl⟩|intro hb|fail)
 all_goals exact Tr.fin hK ⟨rfl,rfl⟩ S.E
theorem xM2 {a b:Int}:Xb prog 282 #[.agg #[.int .i64 a,.int .i64 b]] [] fun v l'=>v=.bool (decide (0<a))∧l'=[]:=by
 intro F K hK
 simp only[List.nil_append]
 refine S.I fun u=>?_
 repeat' (first|refine S.x ?_|intro hb|fail)
 all_goals exact Tr.fin hK ⟨rfl,rfl⟩ S.E
theorem xF9 {a b c n:Int}:Xb prog 260 #[.agg #[.int .i64 a,.int .i64 b,.int .i64 c],.int .i64 n] [] fun v l'=>v=.bool (decide (0≤n)&&decide (0≤c)&&decide (0<a))∧l'=[]:=by
 intro F K hK
 simp only[List.nil_append]
 refine S.I fun u=>?_
 repeat' (first|refine S.x ?_|refine S.y ?_ ?_|(refine G.call 282 ?_;refine S.c ?_ (h:=xM2))|rintro _ _ ⟨rfl,rfl⟩|intro hb|fail)
 all_goals exact Tr.fin hK ⟨S.v,rfl⟩ S.E
theorem xJp {a b n:Int} (hn:n≤9223372036854775807) (ha:a≤9223372036854775807):Xb prog 261 #[.agg #[.int .i64 a,.int .i64 b],.int .i64 n] [] fun v l'=>v=.tuple #[.int .i64 (xBU n 1000 a true).1,.int .i64 (xBU n 1000 a true).2]∧l'=[]:=by
 intro F K hK
 simp only[List.nil_append]
 have hq:=xEk (a:=n) (b:=1000) (c:=a) (up:=true) hn (by decide) ha
 refine S.I fun u=>?_
 repeat' (first|rintro _ _ ⟨rfl,rfl⟩|(refine G.call 192 ?_;refine S.c ?_ (h:=hq))|refine S.x ?_|intro hb|fail)
 all_goals exact Tr.fin hK ⟨rfl,rfl⟩ S.E
theorem xLJ [hd:DeA u0 p] {n:Int} (hl:ls.length≤1000000000) (ht:okT ls) (hn:n≤9223372036854775807):Xb prog 210 #[u0,.int .i64 n] [sl true p.levels.v ls]
  fun v l'=>v=.tuple #[.int .i64 (xEG ls p.sw n).1,.int .i64 (xEG ls p.sw n).2]∧l'=[]:=by
 obtain rfl:=hd.h
 intro F K hK
 simp only[ap]
 obtain⟨h1,h2⟩:=ht
 obtain⟨p1,p2,p3,p4,p5,p6,p7,p8⟩:=p
 unfold xEG at hK
 simp only at hK
 have ht:=xJp (b:=(xBK ls).power) hn h1
 generalize xBU n 1000 (xBK ls).freq true=w at*
 by_cases h0:0≤n∧0≤p3∧0<(xBK ls).freq
 ·rw[if_pos h0]at hK
  obtain⟨h4,h5,h6⟩:=h0
  have hd4: (decide (0≤n)&&decide (0≤p3)&&decide (0<(xBK ls).freq))=true:=by rw[decide_eq_true h4,decide_eq_true h5,decide_eq_true h6];rfl
  by_cases h3:w.2=0
  ·rw[if_pos h3]at hK
   have hs:=fun s=>xMJ (ro:=false) (s:=s) (l:=[p3,w.1]) (by simp)
   refine S.I fun u=>?_
   have hX:=And.intro hd4 h3;repeat' (first|rintro _ _ ⟨rfl,rfl⟩|(refine G.call 261 ?_;refine S.c ?_ (h:=ht))|(refine G.call 262 ?_;refine S.c ?_ (h:=hs _))|refine S.x ?_|(refine G.call 259 ?_;refine S.c ?_ (h:=xFU ‹_›))|(refine G.call 260 ?_;refine S.c ?_ (h:=xF9))|intro hb|fail)
   all_goals exact Tr.fin hK ⟨rfl,rfl⟩ S.E
  ·rw[if_neg h3]at hK
   refine S.I fun u=>?_
   have hX:=hd4;repeat' (first|rintro _ _ ⟨rfl,rfl⟩|(refine G.call 261 ?_;refine S.c ?_ (h:=ht))|refine S.x ?_|(refine G.call 259 ?_;refine S.c ?_ (h:=xFU ‹_›))|(refine G.call 260 ?_;refine S.c ?_ (h:=xF9))|intro hb|fail)
   all_goals exact Tr.fin hK ⟨rfl,rfl⟩ S.E
 ·rw[if_neg h0]at hK
  have hd4: (decide (0≤n)&&decide (0≤p3)&&decide (0<(xBK ls).freq))=false:=by
   cases h: (decide (0≤n)&&decide (0≤p3)&&decide (0<(xBK ls).freq))with
   |false=>rfl
   |true=>
    simp only[Bool.and_eq_true,decide_eq_true_eq]at h
    exact absurd ⟨h.1.1,h.1.2,h.2⟩ h0
  refine S.I fun u=>?_
  have hX:=hd4;repeat' (first|refine S.x ?_|(refine G.call 259 ?_;refine S.c ?_ (h:=xFU ‹_›))|(refine G.call 260 ?_;refine S.c ?_ (h:=xF9))|rintro _ _ ⟨rfl,rfl⟩|intro hb|fail)
  all_goals exact Tr.fin hK ⟨rfl,rfl⟩ S.E
theorem xIL [hd:DeA u0 p] {n len:Int} (hl:ls.length≤1000000000) (ht:okT ls) (hn:n≤9223372036854775807):Xb prog 164 #[u0,.int .i64 n,.int .i64 len] [sl true p.levels.v ls]
  fun v l'=>v=.bool (xEH ls p.sw n len)∧l'=[]:=by
 obtain rfl:=hd.h
 intro F K hK
 simp only[ap]
 obtain⟨p1,p2,p3,p4,p5,p6,p7,p8⟩:=p
 unfold xEH at hK
 have hne:=xLJ (u0:=.agg (En.enc (⟨p1,p2,p3,p4,p5,p6,p7,p8⟩:xDC)).toArray) (p:=⟨p1,p2,p3,p4,p5,p6,p7,p8⟩) (n:=n) hl ht hn
 simp only at hne hK
 generalize xEG ls p3 n=w at*
 refine S.I fun u=>?_
 repeat' (first|rintro _ _ ⟨rfl,rfl⟩|(refine G.call 210 ?_;refine S.c ?_ (h:=hne))|refine S.x ?_|refine S.y ?_ ?_|intro hb|fail)
 all_goals exact Tr.fin hK ⟨S.v,rfl⟩ S.E
