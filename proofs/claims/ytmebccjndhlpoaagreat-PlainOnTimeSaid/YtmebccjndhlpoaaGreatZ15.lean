import Derived.Test.YtmebccjndhlpoaaGreatZ04
namespace Go.Proofs.YtmebccjndhlpoaaGreat
open Go Go.Wk Tryz
set_option maxHeartbeats 3200000
set_option maxRecDepth 100000
def Zk (acts:List Int) (k:Int):Int:=if acts.length≤k then 0 else if ix acts k<0 then 0 else if 4<ix acts k then 0 else ix acts k
abbrev xeU (b:Nat) (a0 a1 a2 a3 a4 c0 c1 c2 c3 c4 k p:Int):Xc:=blk b (.cells #[.int .i64 a0,.int .i64 c0,.int .i64 a1,.int .i64 c1,.int .i64 a2,.int .i64 c2,.int .i64 a3,.int .i64 c3,.int .i64 a4,.int .i64 c4,.int .i64 k,.int .i64 p,.bool true] 256 (0,0))
structure xxD where
 c0:Int
 c1:Int
 c2:Int
 c3:Int
 c4:Int
 k:Int
 p:Int
def xsI (b:Nat) (acts:List Int):Xc:=ex fun m:xxD=>xeU b (Zk acts 0) (Zk acts 1) (Zk acts 2) (Zk acts 3) (Zk acts 4) m.c0 m.c1 m.c2 m.c3 m.c4 m.k m.p
section
attribute [local irreducible] BrK Xq Xt Xv XI FnK XZ Xw XC XV opX opK Yq Yk eqR Yj Yo Ys WL WD W X3 XO Tr drewK Ya X4 Yw Yv X1 YB mp blk rob sl sep ex fact old
theorem Wl {n:Int}:Xb prog 114 #[.int .i64 n] [] fun v l'=>v=.bool (decide (0≤n)&&decide (n<5))∧l'=[]:=by
 intro F K hK
 simp only[List.nil_append]
 refine S.I fun u=>?_
 repeat' (first|refine S.x ?_|refine S.y ?_ ?_|intro hb|fail)
 all_goals exact S.L
theorem xpf {b:Nat} {a0 a1 a2 a3 a4 c0 c1 c2 c3 c4 k p:Int}:Xb prog 263 #[.pointer (some ⟨b,0,none⟩)] [xeU b a0 a1 a2 a3 a4 c0 c1 c2 c3 c4 k p] fun v l'=>v=.bool false∧l'=[xeU b a0 a1 a2 a3 a4 c0 c1 c2 c3 c4 k p]:=by
 intro F K hK
 simp only[ap]
 refine S.I fun u=>?_
 repeat' (first|refine S.x ?_|fail)
 all_goals exact S.L
theorem xi3 {b:Nat} {acts:List Int} {k p:Int} (h0:0≤k) (h4:k≤4):Xb prog 213 #[.pointer (some ⟨b,0,none⟩),.int .i64 k,.int .i64 p] [xsI b acts] fun v l'=>v=.int .i64 (Zk acts k)∧l'=[xsI b acts]:=by
 intro F K hK
 simp only[ap]at hK⊢
 refine Tr.ex_iff.2 fun m=>?_
 have hk:k=0∨k=1∨k=2∨k=3∨k=4:=by omega
 rcases hk with rfl|rfl|rfl|rfl|rfl
 all_goals
  refine S.I fun u=>?_
  have hX:=@xMc.eq_def;repeat' (first|refine S.x ?_|(refine G.call 263 ?_;refine S.c ?_ (h:=xpf))|(refine G.call 114 ?_;refine S.c ?_ (h:=Wl))|rintro _ _ ⟨rfl,rfl⟩|fail)
  all_goals
   refine Tr.fin hK ⟨rfl,rfl⟩ ?_
   (try simp)
   first
    |exact Xd.ex ⟨IntKind.i64.wrap (m.c0+1),m.c1,m.c2,m.c3,m.c4,0,p⟩ (Xd.take Xm.here Xd.done)
    |exact Xd.ex ⟨m.c0,IntKind.i64.wrap (m.c1+1),m.c2,m.c3,m.c4,1,p⟩ (Xd.take Xm.here Xd.done)
    |exact Xd.ex ⟨m.c0,m.c1,IntKind.i64.wrap (m.c2+1),m.c3,m.c4,2,p⟩ (Xd.take Xm.here Xd.done)
    |exact Xd.ex ⟨m.c0,m.c1,m.c2,IntKind.i64.wrap (m.c3+1),m.c4,3,p⟩ (Xd.take Xm.here Xd.done)
    |exact Xd.ex ⟨m.c0,m.c1,m.c2,m.c3,IntKind.i64.wrap (m.c4+1),4,p⟩ (Xd.take Xm.here Xd.done)
section
def gA (acts:List Int) (k:Nat) (j:Int):Int:=if j<k then Zk acts j else 0
abbrev Qd (b:Nat) (acts:List Int) (k:Nat):Xc:=xeU b (gA acts k 0) (gA acts k 1) (gA acts k 2) (gA acts k 3) (gA acts k 4) 0 0 0 0 0 (-1) (-1)
theorem xoy {b:Nat} {acts:List Int}:Qd b acts 0=xeU b 0 0 0 0 0 0 0 0 0 0 (-1) (-1):=by simp[Qd,gA]
theorem xm8 {b:Nat} {acts:List Int}: (Qd b acts 1=xeU b (Zk acts 0) 0 0 0 0 0 0 0 0 0 (-1) (-1))∧(Qd b acts 2=xeU b (Zk acts 0) (Zk acts 1) 0 0 0 0 0 0 0 0 (-1) (-1))∧(Qd b acts 3=xeU b (Zk acts 0) (Zk acts 1) (Zk acts 2) 0 0 0 0 0 0 0 (-1) (-1))
  ∧(Qd b acts 4=xeU b (Zk acts 0) (Zk acts 1) (Zk acts 2) (Zk acts 3) 0 0 0 0 0 0 (-1) (-1))∧(Qd b acts 5=xeU b (Zk acts 0) (Zk acts 1) (Zk acts 2) (Zk acts 3) (Zk acts 4) 0 0 0 0 0 (-1) (-1)):=by simp[Qd,gA]
attribute [local irreducible] gA
theorem xsD {ro:Bool} {v:Value} {acts:List Int}:Xb prog 73 #[v] [sl ro v acts] fun u l'=>∃b,u=.pointer (some ⟨b,0,none⟩)∧l'=[xsI b acts,sl ro v acts]:=by
 intro F K hK
 simp only[ap]
 refine S.I fun u=>?_
 have hX:=@Wp.eq_def;repeat' (first|intro(nb:Nat)|refine S.x ?_|fail)
 refine Tr.loopE (α:=Nat) [7] [0,2,3] (fun k=>[.int .i64 k]) (fun k=>[Qd nb acts k,sl ro v acts]) (fun k=>k≤5) (fun k=>5-k) 0 (by show YK _ [Qd nb acts 0,_] _;rw[xoy];exact S.T) rfl (Nat.zero_le _) fun k u hk=>?_
 obtain⟨e1,e2,e3,e4,e5⟩:=@xm8 nb acts
 by_cases hin:k<5
 ·have hkk:k=0∨k=1∨k=2∨k=3∨k=4:=by omega
  by_cases hv: (k:Int)<acts.length∧0≤ix acts (k:Int)∧ix acts (k:Int)≤4
  ·obtain⟨v1,v2,v3⟩:=hv
   have ha:Zk acts (k:Int)=ix acts (k:Int):=by unfold Zk;rw[if_neg S.o,if_neg S.o,if_neg S.o]
   rcases hkk with rfl|rfl|rfl|rfl|rfl
   ·simp only[xoy]
    have hX:=@Wp.eq_def;repeat' (first|refine S.x ?_|(refine G.call 114 ?_;refine S.c ?_ (h:=Wl))|rintro _ _ ⟨rfl,rfl⟩|intro hb|fail)
    all_goals
     refine S.R 1 (hL:=?_)
     show Xd [] _ (Qd nb acts 1::sl ro v acts::F)
     have ha:Zk acts 0=_:=ha
     rw[e1,ha]
     exact Xd.take Xm.here (Xd.take Xm.here Xd.done)
   ·simp only[e1]
    have hX:=@Wp.eq_def;repeat' (first|refine S.x ?_|(refine G.call 114 ?_;refine S.c ?_ (h:=Wl))|rintro _ _ ⟨rfl,rfl⟩|intro hb|fail)
    all_goals
     refine S.R 2 (hL:=?_)
     show Xd [] _ (Qd nb acts 2::sl ro v acts::F)
     have ha:Zk acts 1=_:=ha
     rw[e2,ha]
     exact Xd.take Xm.here (Xd.take Xm.here Xd.done)
   ·simp only[e2]
    have hX:=@Wp.eq_def;repeat' (first|refine S.x ?_|(refine G.call 114 ?_;refine S.c ?_ (h:=Wl))|rintro _ _ ⟨rfl,rfl⟩|intro hb|fail)
    all_goals
     refine S.R 3 (hL:=?_)
     show Xd [] _ (Qd nb acts 3::sl ro v acts::F)
     have ha:Zk acts 2=_:=ha
     rw[e3,ha]
     exact Xd.take Xm.here (Xd.take Xm.here Xd.done)
   ·simp only[e3]
    have hX:=@Wp.eq_def;repeat' (first|refine S.x ?_|(refine G.call 114 ?_;refine S.c ?_ (h:=Wl))|rintro _ _ ⟨rfl,rfl⟩|intro hb|fail)
    all_goals
     refine S.R 4 (hL:=?_)
     show Xd [] _ (Qd nb acts 4::sl ro v acts::F)
     have ha:Zk acts 3=_:=ha
     rw[e4,ha]
     exact Xd.take Xm.here (Xd.take Xm.here Xd.done)
   ·simp only[e4]
    have hX:=@Wp.eq_def;repeat' (first|refine S.x ?_|(refine G.call 114 ?_;refine S.c ?_ (h:=Wl))|rintro _ _ ⟨rfl,rfl⟩|intro hb|fail)
    all_goals
     refine S.R 5 (hL:=?_)
     show Xd [] _ (Qd nb acts 5::sl ro v acts::F)
     have ha:Zk acts 4=_:=ha
     rw[e5,ha]
     exact Xd.take Xm.here (Xd.take Xm.here Xd.done)
  ·have ha:Zk acts (k:Int)=0:=by unfold Zk;split<;>first|rfl|(split<;>first|rfl|(split<;>first|rfl|omega))
   rcases hkk with rfl|rfl|rfl|rfl|rfl
   ·simp only[xoy]
    have hX:=@Wp.eq_def;repeat' (first|refine S.x ?_|refine S.y ?_ ?_|(refine G.call 114 ?_;refine S.c ?_ (h:=Wl))|rintro _ _ ⟨rfl,rfl⟩|intro hb|fail)
    all_goals
     refine S.R 1 (hL:=?_)
     show Xd [] _ (Qd nb acts 1::sl ro v acts::F)
     have ha:Zk acts 0=_:=ha
     rw[e1,ha]
     exact Xd.take Xm.here (Xd.take Xm.here Xd.done)
   ·simp only[e1]
    have hX:=@Wp.eq_def;repeat' (first|refine S.x ?_|refine S.y ?_ ?_|(refine G.call 114 ?_;refine S.c ?_ (h:=Wl))|rintro _ _ ⟨rfl,rfl⟩|intro hb|fail)
    all_goals
     refine S.R 2 (hL:=?_)
     show Xd [] _ (Qd nb acts 2::sl ro v acts::F)
     have ha:Zk acts 1=_:=ha
     rw[e2,ha]
     exact Xd.take Xm.here (Xd.take Xm.here Xd.done)
   ·simp only[e2]
    have hX:=@Wp.eq_def;repeat' (first|refine S.x ?_|refine S.y ?_ ?_|(refine G.call 114 ?_;refine S.c ?_ (h:=Wl))|rintro _ _ ⟨rfl,rfl⟩|intro hb|fail)
    all_goals
     refine S.R 3 (hL:=?_)
     show Xd [] _ (Qd nb acts 3::sl ro v acts::F)
     have ha:Zk acts 2=_:=ha
     rw[e3,ha]
     exact Xd.take Xm.here (Xd.take Xm.here Xd.done)
   ·simp only[e3]
    have hX:=@Wp.eq_def;repeat' (first|refine S.x ?_|refine S.y ?_ ?_|(refine G.call 114 ?_;refine S.c ?_ (h:=Wl))|rintro _ _ ⟨rfl,rfl⟩|intro hb|fail)
    all_goals
     refine S.R 4 (hL:=?_)
     show Xd [] _ (Qd nb acts 4::sl ro v acts::F)
     have ha:Zk acts 3=_:=ha
     rw[e4,ha]
     exact Xd.take Xm.here (Xd.take Xm.here Xd.done)
   ·simp only[e4]
    have hX:=@Wp.eq_def;repeat' (first|refine S.x ?_|refine S.y ?_ ?_|(refine G.call 114 ?_;refine S.c ?_ (h:=Wl))|rintro _ _ ⟨rfl,rfl⟩|intro hb|fail)
    all_goals
     refine S.R 5 (hL:=?_)
     show Xd [] _ (Qd nb acts 5::sl ro v acts::F)
     have ha:Zk acts 4=_:=ha
     rw[e5,ha]
     exact Xd.take Xm.here (Xd.take Xm.here Xd.done)
 ·have hke:k=5:=by omega
  subst hke
  rw[e5]
  have hX:=@Wp.eq_def;repeat' (first|refine S.x ?_|fail)
  all_goals
   refine Tr.fin hK ⟨_,rfl,rfl⟩ ?_
   exact Xd.ex ⟨0,0,0,0,0,-1,-1⟩ (Xd.take Xm.here (Xd.take Xm.here Xd.done))
end
abbrev Msg:=SL UInt8
structure XL where
 b:Nat
 first:Int
 most:Int
 count:Int
instance:Inhabited XL:=⟨⟨0,0,0,0⟩⟩
def XL.pt (g:XL):Pt:=⟨some g.b⟩
abbrev xc4 (g:XL):Xc:=blk g.b (.cells #[.int .i64 g.first,.int .i64 g.most,.int .i64 g.count] 309 (0,0))
structure Xr where
 b:Nat
 up:Bool
instance:Inhabited Xr:=⟨⟨0,false⟩⟩
def Xr.pt (g:Xr):Pt:=⟨some g.b⟩
abbrev QP (g:Xr):Xc:=blk g.b (.cells #[.bool g.up] 4 (0,0))
structure Xu where
 b:Nat
 size:Int
 depth:Int
 s:SV
 ms:List Msg
instance:Inhabited Xu:=⟨⟨0,0,0,⟨none,0,0⟩,[]⟩⟩
def Xu.pt (g:Xu):Pt:=⟨some g.b⟩
abbrev VD (g:Xu):Xc:=sep (blk g.b (.cells #[.int .i64 g.size,.int .i64 g.depth,g.s.v] 318 (0,0))) (sep (sl false g.s.v g.ms) (fzl g.ms))
structure Xi where
 b:Nat
 size:Int
 m:Msg
 shown:Bool
instance:Inhabited Xi:=⟨⟨0,0,default,false⟩⟩
def Xi.pt (g:Xi):Pt:=⟨some g.b⟩
abbrev YM (g:Xi):Xc:=sep (blk g.b (.cells #[.int .i64 g.size,g.m.s.v,.bool g.shown] 323 (0,0))) (Fz.fz g.m)
structure ObW where
 c:xcR
 ss:SV
 fs:SV
 ps:SV
 ls:SV
abbrev obC (b:Nat) (c:xcR) (v1 v2 v3 v4:Value):Xc:=blk b (.cells #[c.regions.v,c.procs.v,c.ports.v,c.sems.v,.int .i64 c.flags,c.pools.v,c.slates.v,.int .i64 c.cap,.int .i64 c.budget,.int .i64 c.ladder,c.acts.v,v1,v2,v3,v4] 251 (0,0))
abbrev obB (b:Nat) (o:ObW):Xc:=obC b o.c o.ss.v o.fs.v o.ps.v o.ls.v
instance:ElT 238 Pt:=⟨⟩
theorem xni {s:SV} {gs:List XL} {k:Int} (h0:0≤k) (h1:k<gs.length):Xb prog 291 #[.agg #[s.v],.int .i64 k] [sl false s.v (gs.map XL.pt)]
  fun v l'=>v=.pointer (some ⟨(ix gs k).b,0,none⟩)∧l'=[sl false s.v (gs.map XL.pt)]:=by
 intro F K hK
 simp only[ap]
 have hm:=Xp (f:=XL.pt) h0 h1
 have hl: (gs.map XL.pt).length=gs.length:=List.length_map _
 refine S.I fun u=>?_
 have hX:=hm;repeat' (first|refine S.x ?_|intro hb|fail)
 all_goals
  refine Tr.fin hK ⟨rfl,rfl⟩ ?_
  exact S.E
theorem xjV {s:SV} {gs:List XL} {k:Int} (h:¬(0≤k∧k<gs.length)):Xb prog 291 #[.agg #[s.v],.int .i64 k] [sl false s.v (gs.map XL.pt)]
  fun v l'=>v=.pointer none∧l'=[sl false s.v (gs.map XL.pt)]:=by
 intro F K hK
 simp only[ap]
 have hl: (gs.map XL.pt).length=gs.length:=List.length_map _
 refine S.I fun u=>?_
 repeat' (first|refine S.x ?_|refine S.y ?_ ?_|intro hb|fail)
 all_goals
  refine Tr.fin hK ⟨rfl,rfl⟩ ?_
  exact S.E
theorem xpe {b:Nat} {o:ObW} {gs:List XL} {k:Int} (h0:0≤k) (h1:k<gs.length):Xb prog 277 #[.pointer (some ⟨b,0,none⟩),.int .i64 k] [obB b o,sl false o.ss.v (gs.map XL.pt)]
  fun v l'=>v=.pointer (some ⟨(ix gs k).b,0,none⟩)∧l'=[obB b o,sl false o.ss.v (gs.map XL.pt)]:=by
 intro F K hK
 simp only[ap]
 refine S.I fun u=>?_
 repeat' (first|refine S.x ?_|(refine G.call 291 ?_;refine S.c ?_ (h:=xni S.o S.o))|rintro _ _ ⟨rfl,rfl⟩|fail)
 all_goals
  refine Tr.fin hK ⟨rfl,rfl⟩ ?_
  exact S.E
theorem xlT {b:Nat} {o:ObW} {gs:List XL} {k:Int} (h:¬(0≤k∧k<gs.length)):Xb prog 277 #[.pointer (some ⟨b,0,none⟩),.int .i64 k] [obB b o,sl false o.ss.v (gs.map XL.pt)]
  fun v l'=>v=.pointer none∧l'=[obB b o,sl false o.ss.v (gs.map XL.pt)]:=by
 intro F K hK
 simp only[ap]
 refine S.I fun u=>?_
 repeat' (first|refine S.x ?_|(refine G.call 291 ?_;first|refine S.c ?_ (h:=xjV S.o))|rintro _ _ ⟨rfl,rfl⟩|fail)
 all_goals
  refine Tr.fin hK ⟨rfl,rfl⟩ ?_
  exact S.E
instance:ElT 241 Pt:=⟨⟩
theorem xjx {s:SV} {gs:List Xr} {k:Int} (h0:0≤k) (h1:k<gs.length):Xb prog 290 #[.agg #[s.v],.int .i64 k] [sl false s.v (gs.map Xr.pt)]
  fun v l'=>v=.pointer (some ⟨(ix gs k).b,0,none⟩)∧l'=[sl false s.v (gs.map Xr.pt)]:=by
 intro F K hK
 simp only[ap]
 have hm:=Xp (f:=Xr.pt) h0 h1
 have hl: (gs.map Xr.pt).length=gs.length:=List.length_map _
 refine S.I fun u=>?_
 have hX:=hm;repeat' (first|refine S.x ?_|intro hb|fail)
 all_goals
  refine Tr.fin hK ⟨rfl,rfl⟩ ?_
  exact S.E
theorem xh7 {s:SV} {gs:List Xr} {k:Int} (h:¬(0≤k∧k<gs.length)):Xb prog 290 #[.agg #[s.v],.int .i64 k] [sl false s.v (gs.map Xr.pt)]
  fun v l'=>v=.pointer none∧l'=[sl false s.v (gs.map Xr.pt)]:=by
 intro F K hK
 simp only[ap]
 have hl: (gs.map Xr.pt).length=gs.length:=List.length_map _
 refine S.I fun u=>?_
 repeat' (first|refine S.x ?_|refine S.y ?_ ?_|intro hb|fail)
 all_goals
  refine Tr.fin hK ⟨rfl,rfl⟩ ?_
  exact S.E
theorem xkL {b:Nat} {o:ObW} {gs:List Xr} {k:Int} (h0:0≤k) (h1:k<gs.length):Xb prog 276 #[.pointer (some ⟨b,0,none⟩),.int .i64 k] [obB b o,sl false o.fs.v (gs.map Xr.pt)]
  fun v l'=>v=.pointer (some ⟨(ix gs k).b,0,none⟩)∧l'=[obB b o,sl false o.fs.v (gs.map Xr.pt)]:=by
 intro F K hK
 simp only[ap]
 refine S.I fun u=>?_
 repeat' (first|refine S.x ?_|(refine G.call 290 ?_;refine S.c ?_ (h:=xjx S.o S.o))|rintro _ _ ⟨rfl,rfl⟩|fail)
 all_goals
  refine Tr.fin hK ⟨rfl,rfl⟩ ?_
  exact S.E
theorem xis {b:Nat} {o:ObW} {gs:List Xr} {k:Int} (h:¬(0≤k∧k<gs.length)):Xb prog 276 #[.pointer (some ⟨b,0,none⟩),.int .i64 k] [obB b o,sl false o.fs.v (gs.map Xr.pt)]
  fun v l'=>v=.pointer none∧l'=[obB b o,sl false o.fs.v (gs.map Xr.pt)]:=by
 intro F K hK
 simp only[ap]
 refine S.I fun u=>?_
 repeat' (first|refine S.x ?_|(refine G.call 290 ?_;first|refine S.c ?_ (h:=xh7 S.o))|rintro _ _ ⟨rfl,rfl⟩|fail)
 all_goals
  refine Tr.fin hK ⟨rfl,rfl⟩ ?_
  exact S.E
instance:ElT 244 Pt:=⟨⟩
theorem xku {s:SV} {gs:List Xu} {k:Int} (h0:0≤k) (h1:k<gs.length):Xb prog 293 #[.agg #[s.v],.int .i64 k] [sl false s.v (gs.map Xu.pt)]
  fun v l'=>v=.pointer (some ⟨(ix gs k).b,0,none⟩)∧l'=[sl false s.v (gs.map Xu.pt)]:=by
 intro F K hK
 simp only[ap]
 have hm:=Xp (f:=Xu.pt) h0 h1
 have hl: (gs.map Xu.pt).length=gs.length:=List.length_map _
 refine S.I fun u=>?_
 have hX:=hm;repeat' (first|refine S.x ?_|intro hb|fail)
 all_goals
  refine Tr.fin hK ⟨rfl,rfl⟩ ?_
  exact S.E
theorem xjq {s:SV} {gs:List Xu} {k:Int} (h:¬(0≤k∧k<gs.length)):Xb prog 293 #[.agg #[s.v],.int .i64 k] [sl false s.v (gs.map Xu.pt)]
  fun v l'=>v=.pointer none∧l'=[sl false s.v (gs.map Xu.pt)]:=by
 intro F K hK
 simp only[ap]
 have hl: (gs.map Xu.pt).length=gs.length:=List.length_map _
 refine S.I fun u=>?_
 repeat' (first|refine S.x ?_|refine S.y ?_ ?_|intro hb|fail)
 all_goals
  refine Tr.fin hK ⟨rfl,rfl⟩ ?_
  exact S.E
theorem xg6 {b:Nat} {o:ObW} {gs:List Xu} {k:Int} (h0:0≤k) (h1:k<gs.length):Xb prog 279 #[.pointer (some ⟨b,0,none⟩),.int .i64 k] [obB b o,sl false o.ps.v (gs.map Xu.pt)]
  fun v l'=>v=.pointer (some ⟨(ix gs k).b,0,none⟩)∧l'=[obB b o,sl false o.ps.v (gs.map Xu.pt)]:=by
 intro F K hK
 simp only[ap]
 refine S.I fun u=>?_
 repeat' (first|refine S.x ?_|(refine G.call 293 ?_;refine S.c ?_ (h:=xku S.o S.o))|rintro _ _ ⟨rfl,rfl⟩|fail)
 all_goals
  refine Tr.fin hK ⟨rfl,rfl⟩ ?_
  exact S.E
theorem xem {b:Nat} {o:ObW} {gs:List Xu} {k:Int} (h:¬(0≤k∧k<gs.length)):Xb prog 279 #[.pointer (some ⟨b,0,none⟩),.int .i64 k] [obB b o,sl false o.ps.v (gs.map Xu.pt)]
  fun v l'=>v=.pointer none∧l'=[obB b o,sl false o.ps.v (gs.map Xu.pt)]:=by
 intro F K hK
 simp only[ap]
 refine S.I fun u=>?_
 repeat' (first|refine S.x ?_|(refine G.call 293 ?_;first|refine S.c ?_ (h:=xjq S.o))|rintro _ _ ⟨rfl,rfl⟩|fail)
 all_goals
  refine Tr.fin hK ⟨rfl,rfl⟩ ?_
  exact S.E
instance:ElT 247 Pt:=⟨⟩
theorem xhP {s:SV} {gs:List Xi} {k:Int} (h0:0≤k) (h1:k<gs.length):Xb prog 292 #[.agg #[s.v],.int .i64 k] [sl false s.v (gs.map Xi.pt)]
  fun v l'=>v=.pointer (some ⟨(ix gs k).b,0,none⟩)∧l'=[sl false s.v (gs.map Xi.pt)]:=by
 intro F K hK
 simp only[ap]
 have hm:=Xp (f:=Xi.pt) h0 h1
 have hl: (gs.map Xi.pt).length=gs.length:=List.length_map _
 refine S.I fun u=>?_
 have hX:=hm;repeat' (first|refine S.x ?_|intro hb|fail)
 all_goals
  refine Tr.fin hK ⟨rfl,rfl⟩ ?_
  exact S.E
theorem xgh {s:SV} {gs:List Xi} {k:Int} (h:¬(0≤k∧k<gs.length)):Xb prog 292 #[.agg #[s.v],.int .i64 k] [sl false s.v (gs.map Xi.pt)]
  fun v l'=>v=.pointer none∧l'=[sl false s.v (gs.map Xi.pt)]:=by
 intro F K hK
 simp only[ap]
 have hl: (gs.map Xi.pt).length=gs.length:=List.length_map _
 refine S.I fun u=>?_
 repeat' (first|refine S.x ?_|refine S.y ?_ ?_|intro hb|fail)
 all_goals
  refine Tr.fin hK ⟨rfl,rfl⟩ ?_
  exact S.E
theorem Q3 {b:Nat} {o:ObW} {gs:List Xi} {k:Int} (h0:0≤k) (h1:k<gs.length):Xb prog 278 #[.pointer (some ⟨b,0,none⟩),.int .i64 k] [obB b o,sl false o.ls.v (gs.map Xi.pt)]
  fun v l'=>v=.pointer (some ⟨(ix gs k).b,0,none⟩)∧l'=[obB b o,sl false o.ls.v (gs.map Xi.pt)]:=by
 intro F K hK
 simp only[ap]
 refine S.I fun u=>?_
 repeat' (first|refine S.x ?_|(refine G.call 292 ?_;refine S.c ?_ (h:=xhP S.o S.o))|rintro _ _ ⟨rfl,rfl⟩|fail)
 all_goals
  refine Tr.fin hK ⟨rfl,rfl⟩ ?_
  exact S.E
theorem Qg {b:Nat} {o:ObW} {gs:List Xi} {k:Int} (h:¬(0≤k∧k<gs.length)):Xb prog 278 #[.pointer (some ⟨b,0,none⟩),.int .i64 k] [obB b o,sl false o.ls.v (gs.map Xi.pt)]
  fun v l'=>v=.pointer none∧l'=[obB b o,sl false o.ls.v (gs.map Xi.pt)]:=by
 intro F K hK
 simp only[ap]
 refine S.I fun u=>?_
 repeat' (first|refine S.x ?_|(refine G.call 292 ?_;first|refine S.c ?_ (h:=xgh S.o))|rintro _ _ ⟨rfl,rfl⟩|fail)
 all_goals
  refine Tr.fin hK ⟨rfl,rfl⟩ ?_
  exact S.E
def inR {α:Type} (gs:List α) (k:Int):Prop:=0≤k∧k<gs.length
instance {α:Type} {gs:List α} {k:Int}:Decidable (inR gs k):=by unfold inR;infer_instance
def xbD (gs:List XL) (k:Int):Int:=if inR gs k then(if(ix gs k).count<1 then 1 else 0)else 3
def V1 (gs:List XL) (k:Int):List XL:=if inR gs k then(if(ix gs k).count<1 then gs else gs.set k.toNat {ix gs k with count:=IntKind.i64.wrap ((ix gs k).count-1)})else gs
def xbx (gs:List XL) (k:Int):Int:=if inR gs k then(if(ix gs k).most≤(ix gs k).count then 6 else 0)else 3
def VZ (gs:List XL) (k:Int):List XL:=if inR gs k then(if(ix gs k).most≤(ix gs k).count then gs else gs.set k.toNat {ix gs k with count:=IntKind.i64.wrap ((ix gs k).count+1)})else gs
def VC (gs:List Xr) (k:Int):Int:=if inR gs k then 0 else 3
def W0 (gs:List Xr) (k:Int) (up:Bool):List Xr:=if inR gs k then gs.set k.toNat {ix gs k with up:=up}else gs
def upB (gs:List Xr) (k:Int):Bool:=if inR gs k then(ix gs k).up else false
theorem xsn {b:Nat} {o:ObW} {gs:List XL} {k:Int}:Xb prog 244 #[.pointer (some ⟨b,0,none⟩),.int .i64 k] [obB b o,fam xc4 gs,sl false o.ss.v (gs.map XL.pt)]
  fun v l'=>v=.int .i64 (xbD gs k)∧l'=[obB b o,sl false o.ss.v ((V1 gs k).map XL.pt),fam xc4 (V1 gs k)]:=by
 intro F K hK
 simp only[ap]
 by_cases h:inR gs k
 ·have ⟨h0,h1⟩:=h
  have hs:=fun c=>YW (f:=XL.pt) h0 h1 {ix gs k with count:=c} rfl
  refine Tr.famAt (A:=xc4) k S.K h0 h1 ?_
  refine S.I fun u=>?_
  repeat' (first|refine S.x ?_|refine S.y ?_ ?_|(refine G.call 277 ?_;refine S.c ?_ (h:=xpe S.o S.o))|rintro _ _ ⟨rfl,rfl⟩|intro hb|fail)
  all_goals
   refine Tr.fin hK ⟨by simp[xbD, *],rfl⟩ ?_
   (have hX:=And.intro @V1.eq_def hs;exact S.E)
 ·have h':=h
  unfold inR at h'
  refine S.I fun u=>?_
  repeat' (first|refine S.x ?_|(refine G.call 277 ?_;first|refine S.c ?_ (h:=xlT S.o))|rintro _ _ ⟨rfl,rfl⟩|fail)
  all_goals
   refine Tr.fin hK ⟨by simp[xbD, *],rfl⟩ ?_
   (have hX:=@V1.eq_def;exact S.E)
theorem xs9 {b:Nat} {o:ObW} {gs:List XL} {k:Int}:Xb prog 245 #[.pointer (some ⟨b,0,none⟩),.int .i64 k] [obB b o,fam xc4 gs,sl false o.ss.v (gs.map XL.pt)]
  fun v l'=>v=.int .i64 (xbx gs k)∧l'=[obB b o,sl false o.ss.v ((VZ gs k).map XL.pt),fam xc4 (VZ gs k)]:=by
 intro F K hK
 simp only[ap]
 by_cases h:inR gs k
 ·have ⟨h0,h1⟩:=h
  have hs:=fun c=>YW (f:=XL.pt) h0 h1 {ix gs k with count:=c} rfl
  refine Tr.famAt (A:=xc4) k S.K h0 h1 ?_
  refine S.I fun u=>?_
  have hX:=@xli.eq_def;repeat' (first|refine S.x ?_|refine S.y ?_ ?_|(refine G.call 277 ?_;refine S.c ?_ (h:=xpe S.o S.o))|rintro _ _ ⟨rfl,rfl⟩|intro hb|fail)
  all_goals
   refine Tr.fin hK ⟨by simp[xbx, *],rfl⟩ ?_
   (have hX:=And.intro @VZ.eq_def hs;exact S.E)
 ·have h':=h
  unfold inR at h'
  refine S.I fun u=>?_
  have hX:=@xli.eq_def;repeat' (first|refine S.x ?_|(refine G.call 277 ?_;first|refine S.c ?_ (h:=xlT S.o))|rintro _ _ ⟨rfl,rfl⟩|fail)
  all_goals
   refine Tr.fin hK ⟨by simp[xbx, *],rfl⟩ ?_
   (have hX:=@VZ.eq_def;exact S.E)
theorem xr4 {b:Nat} {o:ObW} {gs:List Xr} {k:Int} {up:Bool}:Xb prog 246 #[.pointer (some ⟨b,0,none⟩),.int .i64 k,.bool up] [obB b o,fam QP gs,sl false o.fs.v (gs.map Xr.pt)]
  fun v l'=>v=.int .i64 (VC gs k)∧l'=[obB b o,sl false o.fs.v ((W0 gs k up).map Xr.pt),fam QP (W0 gs k up)]:=by
 intro F K hK
 simp only[ap]
 by_cases h:inR gs k
 ·have ⟨h0,h1⟩:=h
  have hs:=fun c=>YW (f:=Xr.pt) h0 h1 {ix gs k with up:=c} rfl
  refine Tr.famAt (A:=QP) k S.K h0 h1 ?_
  refine S.I fun u=>?_
  repeat' (first|refine S.x ?_|(refine G.call 276 ?_;refine S.c ?_ (h:=xkL S.o S.o))|rintro _ _ ⟨rfl,rfl⟩|fail)
  all_goals
   refine Tr.fin hK ⟨by simp[VC, *],rfl⟩ ?_
   (have hX:=And.intro @W0.eq_def hs;exact S.E)
 ·have h':=h
  unfold inR at h'
  refine S.I fun u=>?_
  repeat' (first|refine S.x ?_|(refine G.call 276 ?_;first|refine S.c ?_ (h:=xis S.o))|rintro _ _ ⟨rfl,rfl⟩|fail)
  all_goals
   refine Tr.fin hK ⟨by simp[VC, *],rfl⟩ ?_
   (have hX:=@W0.eq_def;exact S.E)
theorem xwF {b:Nat} {o:ObW} {gs:List Xr} {k:Int}:Xb prog 242 #[.pointer (some ⟨b,0,none⟩),.int .i64 k] [obB b o,fam QP gs,sl false o.fs.v (gs.map Xr.pt)]
  fun v l'=>v=.tuple #[.bool (upB gs k),.int .i64 (VC gs k)]∧l'=[obB b o,sl false o.fs.v ((gs).map Xr.pt),fam QP (gs)]:=by
 intro F K hK
 simp only[ap]
 by_cases h:inR gs k
 ·have ⟨h0,h1⟩:=h
  have hs:=fun c=>YW (f:=Xr.pt) h0 h1 {ix gs k with up:=c} rfl
  refine Tr.famAt (A:=QP) k S.K h0 h1 ?_
  refine S.I fun u=>?_
  repeat' (first|refine S.x ?_|(refine G.call 276 ?_;refine S.c ?_ (h:=xkL S.o S.o))|rintro _ _ ⟨rfl,rfl⟩|fail)
  all_goals
   refine Tr.fin hK ⟨by simp[upB,VC, *],rfl⟩ ?_
   (have hX:=And.intro @VC.eq_def hs;exact S.E)
 ·have h':=h
  unfold inR at h'
  refine S.I fun u=>?_
  repeat' (first|refine S.x ?_|(refine G.call 276 ?_;first|refine S.c ?_ (h:=xis S.o))|rintro _ _ ⟨rfl,rfl⟩|fail)
  all_goals
   refine Tr.fin hK ⟨by simp[upB,VC, *],rfl⟩ ?_
   (have hX:=@VC.eq_def;exact S.E)
end
instance:ElT 60 UInt8:=⟨⟩
instance:ElT 272 Msg:=⟨⟩
section
attribute [local irreducible] BrK Xq Xt Xv XI FnK XZ Xw XC XV opX opK Yq Yk eqR Yj Yo Ys WL WD W X3 XO Tr drewK Ya X4 Yw Yv X1 YB mp blk rob sl sep ex fact old Instr.storeAt Instr.loadAt Instr.fieldAt Instr.indexAt Instr.lookup Instr.mapUpdate Instr.box Instr.alloc Instr.build Instr.buildSlice Instr.makeSlice Instr.makeMap Instr.sliceAt Instr.field Instr.index Instr.makeInterface Instr.typeAssert Builtin.len_ Builtin.append_ Builtin.cap_ Builtin.min_ Builtin.max_ Builtin.copy_ Builtin.clear_ convert binOp
theorem We {s:SV} {xs:List UInt8} (hn:xs.length≤1000000000):Xb prog 35 #[s.v] [sl true s.v xs]
  fun v l'=>∃s':SV,v=s'.v∧l'=[sl true s'.v xs]:=by
 intro F K hK
 simp only[ap]
 refine S.I fun u=>?_
 repeat' (first|refine S.x ?_|refine S.y ?_ ?_|intro hb|fail)
 ·refine Tr.slNil (ro:=true) (xs:=xs) hb fun hx=>?_
  subst hx
  refine Tr.nilSl (α:=UInt8) ?_
  refine Tr.freezeAt S.K ?_
  refine Tr.fin hK ⟨⟨none,0,0⟩,rfl,rfl⟩ ?_
  exact S.E
 ·refine Tr.freezeAt S.K ?_
  apply Tr.fin hK ⟨_,rfl,rfl⟩
  exact S.E
theorem xe0 {s:SV} {xs:List Msg} {i j:Int} (h0:0≤i) (h1:i≤j) (h2:j≤xs.length):Xb prog 280 #[s.v,.int .i64 i,.int .i64 j] [sl false s.v xs]
  fun v l'=>∃s':SV,v=s'.v∧l'=[sl false s'.v (xs.take i.toNat++xs.drop j.toNat)]:=by
 intro F K hK
 simp only[ap]
 refine S.I fun u=>?_
 have hl: (xs.take i.toNat++xs.drop j.toNat++xs.drop (i.toNat+(xs.length-j.toNat))).length=xs.length:=by simp;omega
 have hz: (xs.take i.toNat++xs.drop j.toNat).length=i.toNat+(xs.length-j.toNat):=by simp;omega
 have hX:=And.intro @xMh.eq_def @Nat.sub_zero;repeat' (first|refine S.x ?_|refine S.y ?_ ?_|intro hb|(refine G.cut ?_;first|refine A.cc3 rfl S.o S.o S.o S.o fun _=>?_|refine A.ccCut rfl S.o S.o S.o ?_|refine A.ccTo rfl S.o S.o ?_|refine A.ccFrom rfl S.o S.o ?_)|(refine A.appCut S.o S.o rfl ?_)|(refine G.len ?_;refine A.lenCut ?_)|(refine G.clr ?_;refine A.clear (dv:=(default:Msg)) rfl S.o S.o ?_)|fail)
 ·refine Tr.fin hK ⟨_,rfl,rfl⟩ ?_
  have hij:i=j:=by omega
  subst hij
  rw[List.take_append_drop]
  exact S.E
 ·have he:∀(A B R:List Msg) (n:Nat),A.length=n→(((A++B).take n)++R).take n=A:=fun A B R n h=>by subst h;simp
  refine Tr.short (m:=i.toNat+(xs.length-j.toNat)) S.K (by simp;omega) fun s' hs'=>?_
  rw[Int.toNat_natCast,he _ _ _ _ hz,←hs']
  refine Tr.fin hK ⟨_,rfl,rfl⟩ ?_
  exact S.E
