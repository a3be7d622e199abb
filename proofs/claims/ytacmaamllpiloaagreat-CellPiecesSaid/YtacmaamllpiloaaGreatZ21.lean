import Derived.Test.YtacmaamllpiloaaGreatZ18
import Derived.Test.YtacmaamllpiloaaGreatZ20
namespace Go.Proofs.YtacmaamllpiloaaGreat
open Go Go.Wk Tryz
set_option maxHeartbeats 3200000
set_option maxRecDepth 100000
structure RoG where
 a : SV
 b : SV
 cc : SV
 d : SV
 gS : List XL
 gF : List Xr
 gP : List Xu
 gL : List Xi
 xs : List (SL Msg)
 ys : List (SL Msg)
def Y2 (r : Nat) (c : YF) (g : RoG) : List Xc := [rOB r ⟨c.c, g.a, g.b, g.cc, g.d⟩, sl false g.a.v (g.gS.map XL.count), sl false g.b.v (g.gF.map Xr.up), sl false g.cc.v g.xs, fzl g.xs, sl false g.d.v g.ys, fzl g.ys,
 sl true c.sems.s.v c.sems.d, sl true c.pools.s.v c.pools.d, sl true c.slates.s.v c.slates.d]
structure RoG.ok (g : RoG) (c : YF) (o : ObM) : Prop where
 hs : g.gS.map XL.mo = o.sems
 hf : g.gF.map Xr.mo = o.flags
 hp : g.gP.map Xu.mo = o.pools
 hl : g.gL.map Xi.mo = o.slates
 hx : g.xs.map omo = g.gP.map Xu.mm
 hy : g.ys.map omo = g.gL.map Xi.mm
 ho : okO c o
def robjX (r : Nat) (c : YF) (o : ObM) : Xc := pk (fun g : RoG => Y2 r c g) (fun g => g.ok c o)
theorem Xd.robjX {r : Nat} {c : YF} {o : ObM} {g : RoG} {d l l2 : List Xc} (hg : g.ok c o) (h : Xd d l (Y2 r c g ++ l2)) : Xd d l (Go.Proofs.YtacmaamllpiloaaGreat.robjX r c o :: l2) :=
 Imp.trans h (Imp.pk (f := fun g : RoG => Y2 r c g) (p := fun g => g.ok c o) g hg)
section
variable {r : Nat} {c : YF} {o : ObM} {k p : Int} {up : Bool} {m : List UInt8} {s3 : SV} {g : RoG}
theorem QG (h : g.ok c o) : g.gS.length ≤ 100000 ∧ g.gF.length ≤ 100000 ∧ g.xs.length ≤ 100000 ∧ g.ys.length ≤ 100000 := by
 have e1 := congrArg List.length h.hs
 have e2 := congrArg List.length h.hf
 have e3 := congrArg List.length h.hp
 have e4 := congrArg List.length h.hl
 have e5 := congrArg List.length h.hx
 have e6 := congrArg List.length h.hy
 have e7 := congrArg List.length h.ho.s
 have e8 := h.ho.f
 have e9 := congrArg List.length h.ho.p
 have e10 := congrArg List.length h.ho.l
 simp only [List.length_map, List.length_take] at e1 e2 e3 e4 e5 e6 e7 e8 e9 e10
 omega
theorem xxz (h : g.ok c o) : ∀ k : Int, inR g.gS k → k < c.sems.d.length ∧ (ix c.sems.d k).most = (ix g.gS k).most := fun k hk => by
 have e1 : g.gS.map XL.most = (c.sems.d.take 4).map JO.most := by rw [← h.ho.s, ← h.hs, List.map_map]; rfl
 have e2 := congrArg List.length e1
 simp only [List.length_map, List.length_take] at e2
 have hk1 := hk.1
 have hk2 := hk.2
 refine ⟨by omega, ?_⟩
 have e3 : ix (g.gS.map XL.most) k = ix ((c.sems.d.take 4).map JO.most) k := by rw [e1]
 rw [Xp hk1 hk2, Xp hk1 (by simp; omega)] at e3
 rw [e3]
 have e4 : ix (c.sems.d.take 4) k = ix c.sems.d k := by simp [ix, show k.toNat < 4 by omega]
 rw [e4]
theorem xxE (h : g.ok c o) : ∀ k : Int, inR g.gP k → k < c.pools.d.length ∧ (ix c.pools.d k).size = (ix g.gP k).size ∧ (ix c.pools.d k).depth = (ix g.gP k).depth := fun k hk => by
 have e1 : g.gP.map (fun x => (x.size, x.depth)) = (c.pools.d.take 4).map (fun x => (x.size, x.depth)) := by rw [← h.ho.p, ← h.hp, List.map_map]; rfl
 have e2 := congrArg List.length e1
 simp only [List.length_map, List.length_take] at e2
 have hk1 := hk.1
 have hk2 := hk.2
 refine ⟨by omega, ?_⟩
 have e3 : ix (g.gP.map (fun x => (x.size, x.depth))) k = ix ((c.pools.d.take 4).map (fun x => (x.size, x.depth))) k := by rw [e1]
 rw [Xp hk1 hk2, Xp hk1 (by simp; omega)] at e3
 have e4 : ix (c.pools.d.take 4) k = ix c.pools.d k := by simp [ix, show k.toNat < 4 by omega]
 rw [e4] at e3
 exact ⟨(congrArg Prod.fst e3).symm, (congrArg Prod.snd e3).symm⟩
theorem xxB (h : g.ok c o) : ∀ k : Int, inR g.gL k → k < c.slates.d.length ∧ ix c.slates.d k = (ix g.gL k).size := fun k hk => by
 have e1 : g.gL.map Xi.size = c.slates.d.take 4 := by rw [← h.ho.l, ← h.hl, List.map_map]; rfl
 have e2 := congrArg List.length e1
 simp only [List.length_map, List.length_take] at e2
 have hk1 := hk.1
 have hk2 := hk.2
 refine ⟨by omega, ?_⟩
 have e3 : ix (g.gL.map Xi.size) k = ix (c.slates.d.take 4) k := by rw [e1]
 rw [Xp hk1 hk2] at e3
 rw [e3]
 simp [ix, show k.toNat < 4 by omega]
theorem xtL (h : g.ok c o) (k : Int) : (ix g.gP k).ms.length ≤ 100000 := by
 rcases ZH g.gP k with hm | hm
 ·have h1 : (ix g.gP k).mo ∈ o.pools := by rw [← h.hp]; exact List.mem_map_of_mem hm
  have := (h.ho.n _ h1).2
  simp only [Xu.mo, List.length_map] at this
  omega
 ·rw [hm]; exact Nat.zero_le _
end
section
attribute [local irreducible] BrK Xq Xt Xv XI FnK XZ Xw XC XV opX opK Yq Yk eqR Yj Yo Ys WL WD W X3 XO Tr drewK Ya X4 Yw Yv X1 YB mp blk rob sl sep ex fact old
section
variable {r : Nat} {c : YF} {o : ObM} {k p : Int} {up : Bool} {m : List UInt8} {s3 : SV}
theorem xjp : Xb prog 211 #[.pointer (some ⟨r, 0, none⟩), .int .i64 k] [robjX r c o]
  fun v l' => v = .int .i64 (VA o.sems k) ∧ l' = [robjX r c { o with sems := xbI o.sems k }] := by
 refine Xb.pk fun g hg F K hK => ?_
 obtain ⟨l1, l2, l3, l4⟩ := QG hg
 simp only [Y2, ap]
 refine S.c ?_ (h := xpi (o := ⟨c.c, g.a, g.b, g.cc, g.d⟩) (gS := g.gS) (gF := g.gF) l1 l2 l3 l4)
 rintro _ _ ⟨a, b, cc, d, rfl, rfl⟩
 refine Tr.fin hK ⟨by rw [xdC.1, hg.hs], rfl⟩ ?_
 simp only [ap]
 refine Xd.robjX (g := { g with a := a, b := b, cc := cc, d := d, gS := V1 g.gS k }) ⟨by rw [xdC.2, hg.hs], hg.hf, hg.hp, hg.hl, hg.hx, hg.hy, xh2 hg.ho⟩ ?_
 simp only [Y2, ap]
 exact S.E
theorem xor : Xb prog 212 #[.pointer (some ⟨r, 0, none⟩), .int .i64 k] [robjX r c o]
  fun v l' => v = .int .i64 (QO o.sems k) ∧ l' = [robjX r c { o with sems := QX o.sems k }] := by
 refine Xb.pk fun g hg F K hK => ?_
 obtain ⟨l1, l2, l3, l4⟩ := QG hg
 simp only [Y2, ap]
 refine Tr.imp (Xm.dupS (v := c.sems.s.v) (xs := c.sems.d)) ?_
 refine S.c ?_ (h := xqW (o := ⟨c.c, g.a, g.b, g.cc, g.d⟩) (gS := g.gS) (gF := g.gF) (cs := c.sems.d) l1 l2 l3 l4 (xxz hg))
 rintro _ _ ⟨a, b, cc, d, rfl, rfl⟩
 refine Tr.fin hK ⟨by rw [xdk.1, hg.hs], rfl⟩ ?_
 simp only [ap]
 refine Xd.robjX (g := { g with a := a, b := b, cc := cc, d := d, gS := VZ g.gS k }) ⟨by rw [xdk.2, hg.hs], hg.hf, hg.hp, hg.hl, hg.hx, hg.hy, xjj hg.ho⟩ ?_
 simp only [Y2, ap]
 exact S.E
theorem xhB : Xb prog 213 #[.pointer (some ⟨r, 0, none⟩), .int .i64 k, .bool up] [robjX r c o]
  fun v l' => v = .int .i64 (YT o.flags k) ∧ l' = [robjX r c { o with flags := JS o.flags k up }] := by
 refine Xb.pk fun g hg F K hK => ?_
 obtain ⟨l1, l2, l3, l4⟩ := QG hg
 simp only [Y2, ap]
 refine S.c ?_ (h := xn1 (o := ⟨c.c, g.a, g.b, g.cc, g.d⟩) (gS := g.gS) (gF := g.gF) l1 l2 l3 l4)
 rintro _ _ ⟨a, b, cc, d, rfl, rfl⟩
 refine Tr.fin hK ⟨by rw [(Wx (up := up)).1, hg.hf], rfl⟩ ?_
 simp only [ap]
 refine Xd.robjX (g := { g with a := a, b := b, cc := cc, d := d, gF := W0 g.gF k up }) ⟨hg.hs, by rw [Wx.2.1, hg.hf], hg.hp, hg.hl, hg.hx, hg.hy, xio hg.ho⟩ ?_
 simp only [Y2, ap]
 exact S.E
theorem xjC : Xb prog 214 #[.pointer (some ⟨r, 0, none⟩), .int .i64 k] [robjX r c o]
  fun v l' => v = .tuple #[.bool (upM o.flags k), .int .i64 (YT o.flags k)] ∧ l' = [robjX r c o] := by
 refine Xb.pk fun g hg F K hK => ?_
 obtain ⟨l1, l2, l3, l4⟩ := QG hg
 simp only [Y2, ap]
 refine S.c ?_ (h := xuh (o := ⟨c.c, g.a, g.b, g.cc, g.d⟩) (gF := g.gF))
 rintro _ _ ⟨rfl, rfl⟩
 refine Tr.fin hK ⟨by rw [(Wx (up := true)).1, (Wx (up := true)).2.2, hg.hf], rfl⟩ ?_
 simp only [ap]
 refine Xd.robjX (g := g) hg ?_
 simp only [Y2, ap]
 exact S.E
theorem xcd : Xb prog 216 #[.pointer (some ⟨r, 0, none⟩), .int .i64 k, s3.v] [robjX r c o, sl true s3.v m]
  fun v l' => v = .int .i64 (Vs o.pools k m.length) ∧ l' = [robjX r c { o with pools := xbK o.pools k m }] := by
 refine Xb.pk fun g hg F K hK => ?_
 obtain ⟨l1, l2, l3, l4⟩ := QG hg
 simp only [Y2, ap]
 refine Tr.imp (Xm.dupS (v := c.pools.s.v) (xs := c.pools.d)) ?_
 refine S.c ?_ (h := xmS (o := ⟨c.c, g.a, g.b, g.cc, g.d⟩) (gS := g.gS) (gF := g.gF) (gP := g.gP) (cp := c.pools.d) l1 l2 l3 l4 hg.hx (xtL hg k) (xxE hg))
 rintro _ _ ⟨a, b, cc, d, xs2, hx2, rfl, rfl⟩
 refine Tr.fin hK ⟨by rw [xdA, hg.hp], rfl⟩ ?_
 simp only [ap]
 refine Xd.robjX (g := { g with a := a, b := b, cc := cc, d := d, gP := QS g.gP k g.a ⟨g.a, m⟩, xs := xs2 }) ⟨hg.hs, hg.hf, by rw [xjs, hg.hp], hg.hl, hx2 _ _, hg.hy, xkI hg.ho⟩ ?_
 simp only [Y2, ap]
 exact S.E
theorem xmq : Xb prog 215 #[.pointer (some ⟨r, 0, none⟩), .int .i64 k] [robjX r c o]
  fun v l' => ∃ t : SV, v = .tuple #[t.v, .int .i64 (Jy o.pools k)] ∧ l' = [robjX r c { o with pools := xap o.pools k }, Fz.fz (SL.mk t (Wg o.pools k) : Msg)] := by
 refine Xb.pk fun g hg F K hK => ?_
 obtain ⟨l1, l2, l3, l4⟩ := QG hg
 simp only [Y2, ap]
 refine S.c ?_ (h := xsu (o := ⟨c.c, g.a, g.b, g.cc, g.d⟩) (gS := g.gS) (gF := g.gF) (gP := g.gP) l1 l2 l3 l4 hg.hx (xtL hg k))
 rintro _ _ ⟨a, b, cc, d, xs2, t, hx2, rfl, rfl⟩
 refine Tr.fin hK ⟨t, by rw [xdl, hg.hp], rfl⟩ ?_
 simp only [ap]
 refine Xd.robjX (g := { g with a := a, b := b, cc := cc, d := d, gP := xaK g.gP k g.a, xs := xs2 }) ⟨hg.hs, hg.hf, by rw [xgG.1, hg.hp], hg.hl, hx2 _, hg.hy, xle hg.ho⟩ ?_
 simp only [Y2, ap]
 have hX : Wg o.pools k = (W1 g.gP k).d := by rw [(xgG (s1 := g.a)).2, hg.hp]
 exact S.E
theorem xoY : Xb prog 217 #[.pointer (some ⟨r, 0, none⟩), .int .i64 k, s3.v] [robjX r c o, sl true s3.v m]
  fun v l' => v = .int .i64 (Qq o.slates k m.length) ∧ l' = [robjX r c { o with slates := QC o.slates k m }] := by
 refine Xb.pk fun g hg F K hK => ?_
 obtain ⟨l1, l2, l3, l4⟩ := QG hg
 simp only [Y2, ap]
 refine Tr.imp (Xm.dupS (v := c.slates.s.v) (xs := c.slates.d)) ?_
 refine S.c ?_ (h := xoX (o := ⟨c.c, g.a, g.b, g.cc, g.d⟩) (gS := g.gS) (gF := g.gF) (gL := g.gL) (cl := c.slates.d) l1 l2 l3 l4 hg.hy (xxB hg))
 rintro _ _ ⟨a, b, cc, d, ys2, hy2, rfl, rfl⟩
 refine Tr.fin hK ⟨by rw [xca, hg.hl], rfl⟩ ?_
 simp only [ap]
 refine Xd.robjX (g := { g with a := a, b := b, cc := cc, d := d, gL := Vm g.gL k ⟨g.a, m⟩, ys := ys2 }) ⟨hg.hs, hg.hf, hg.hp, by rw [xmv, hg.hl], hg.hx, hy2 _, xhE hg.ho⟩ ?_
 simp only [Y2, ap]
 exact S.E
theorem xij : Xb prog 218 #[.pointer (some ⟨r, 0, none⟩), .int .i64 k] [robjX r c o]
  fun v l' => ∃ t : SV, v = .tuple #[t.v, .int .i64 (WJ o.slates k)] ∧ l' = [robjX r c o, Fz.fz (SL.mk t (WI o.slates k) : Msg)] := by
 refine Xb.pk fun g hg F K hK => ?_
 obtain ⟨l1, l2, l3, l4⟩ := QG hg
 simp only [Y2, ap]
 refine S.c ?_ (h := xqC (o := ⟨c.c, g.a, g.b, g.cc, g.d⟩) (gL := g.gL) hg.hy)
 rintro _ _ ⟨t, rfl, rfl⟩
 refine Tr.fin hK ⟨t, by rw [xak, hg.hl], rfl⟩ ?_
 simp only [ap]
 refine Xd.robjX (g := g) hg ?_
 simp only [Y2, ap]
 have hX : WI o.slates k = Jz g.gL k := by rw [xlB, hg.hl]
 exact S.E
theorem xob : Xb prog 219 #[.pointer (some ⟨r, 0, none⟩), .int .i64 k] [robjX r c o]
  fun v l' => v = .int .i64 (QM o.slates k) ∧ l' = [robjX r c { o with slates := Wj o.slates k }] := by
 refine Xb.pk fun g hg F K hK => ?_
 obtain ⟨l1, l2, l3, l4⟩ := QG hg
 simp only [Y2, ap]
 refine S.c ?_ (h := xoG (o := ⟨c.c, g.a, g.b, g.cc, g.d⟩) (gS := g.gS) (gF := g.gF) (gL := g.gL) l1 l2 l3 l4 hg.hy)
 rintro _ _ ⟨a, b, cc, d, ys2, hy2, rfl, rfl⟩
 refine Tr.fin hK ⟨by rw [xda.1, hg.hl], rfl⟩ ?_
 simp only [ap]
 refine Xd.robjX (g := { g with a := a, b := b, cc := cc, d := d, gL := V2 g.gL k, ys := ys2 }) ⟨hg.hs, hg.hf, hg.hp, by rw [xda.2, hg.hl], hg.hx, hy2, xhC hg.ho⟩ ?_
 simp only [Y2, ap]
 exact S.E
def Xu.can (c : JC) : Xu := ⟨0, c.size, c.depth, ⟨none, 0, 0⟩, []⟩
def Xi.can (n : Int) : Xi := ⟨0, n, default, false⟩
theorem xqs {a b cc d : SV} (hd : ∀ x ∈ c.pools.d, x.depth ≤ 16) : (RoG.mk a b cc d ((c.sems.d.take 4).map fun x => XL.mk' 0 x) ((List.replicate (ZF c.flags) false).map (Xr.mk 0)) ((c.pools.d.take 4).map Xu.can) ((c.slates.d.take 4).map Xi.can)
  (List.replicate (min 4 c.pools.d.length) default) (List.replicate (min 4 c.slates.d.length) default)).ok c (xcC c) := by
 refine ⟨?_, ?_, ?_, ?_, ?_, ?_, xgm hd⟩
 ·simp only [List.map_map]; rfl
 ·simp only [List.map_map]
  show List.map id _ = _
  rw [List.map_id]; rfl
 ·simp only [List.map_map]; rfl
 ·simp only [List.map_map]; rfl
 ·simp only [List.map_map, List.map_replicate]
  show _ = List.map (fun _ => []) _
  simp only [List.map_const', List.length_take]
  rfl
 ·simp only [List.map_map, List.map_replicate]
  show _ = List.map (fun _ => []) _
  simp only [List.map_const', List.length_take]
  rfl
theorem xtF {cs : List JO} : (cs.map fun x => XL.mk' 0 x).map XL.count = cs.map JO.first := by simp only [List.map_map]; rfl
theorem xtx {n : Nat} : ((List.replicate n false).map (Xr.mk 0)).map Xr.up = List.replicate n false := by simp
theorem xj8 (hd : ∀ x ∈ c.pools.d, x.depth ≤ 16) : Xb prog 196 #[.pointer (some ⟨r, 0, none⟩)] [robjX r c o]
  fun v l' => v = .tuple #[] ∧ l' = [robjX r c (xcC c)] := by
 refine Xb.pk fun g hg F K hK => ?_
 simp only [Y2, ap]
 refine Tr.imp (Xm.dupS (v := c.sems.s.v) (xs := c.sems.d)) ?_
 refine Tr.imp (Xm.dupS (v := c.pools.s.v) (xs := c.pools.d)) ?_
 refine Tr.imp (Xm.dupS (v := c.slates.s.v) (xs := c.slates.d)) ?_
 refine S.c ?_ (h := xjd (o := ⟨c.c, g.a, g.b, g.cc, g.d⟩) (gS := g.gS) (gF := g.gF) (cs := c.sems.d) (cp := c.pools.d) (cl := c.slates.d))
 rintro _ _ ⟨a, b, cc, d, rfl, rfl⟩
 refine Tr.fin hK ⟨rfl, rfl⟩ ?_
 simp only [ap]
 refine Xd.robjX (xqs (a := a) (b := b) (cc := cc) (d := d) hd) ?_
 simp only [Y2, ap, xtF, xtx]
 have hX : c.c.flags = c.flags := rfl
 exact S.E
theorem xo0 {u0 : Value} [hu : DeA u0 c] (hd : ∀ x ∈ c.pools.d, x.depth ≤ 16) : Xb prog 63 #[u0] [sl true c.sems.s.v c.sems.d, sl true c.pools.s.v c.pools.d, sl true c.slates.s.v c.slates.d]
  fun v l' => ∃ b : Nat, v = .pointer (some ⟨b, 0, none⟩) ∧ l' = [robjX b c (xcC c)] := by
 intro F K hK
 simp only [ap]
 haveI : DeA u0 c.c := ⟨hu.h⟩
 have h0 : Xb prog 63 #[u0] [sl true c.sems.s.v c.sems.d, sl true c.pools.s.v c.pools.d, sl true c.slates.s.v c.slates.d] _ := xcB (u0 := u0) (c := c.c) (cs := c.sems.d) (cp := c.pools.d) (cl := c.slates.d)
 refine Tr.imp (Xm.dupS (v := c.sems.s.v) (xs := c.sems.d)) ?_
 refine Tr.imp (Xm.dupS (v := c.pools.s.v) (xs := c.pools.d)) ?_
 refine Tr.imp (Xm.dupS (v := c.slates.s.v) (xs := c.slates.d)) ?_
 refine S.c ?_ (h := h0)
 rintro _ _ ⟨b, s1, s2, s3, s4, rfl, rfl⟩
 refine Tr.fin hK ⟨b, rfl, rfl⟩ ?_
 simp only [ap]
 refine Xd.robjX (xqs (a := s1) (b := s2) (cc := s3) (d := s4) hd) ?_
 simp only [Y2, ap, xtF, xtx]
 have hX : c.c.flags = c.flags := rfl
 exact S.E
end
section
abbrev xbJ (r : Nat) (room : Int) (s1 s2 : SV) : Xc := blk r (.cells #[.int .i64 room, s1.v, s2.v] 110 (0, 0))
abbrev Jc (ms : List (Int × Bool)) : List Int := ms.map fun m => m.1
abbrev Zp (ms : List (Int × Bool)) : List Bool := ms.map fun m => m.2
theorem xn7 {ms : List (Int × Bool)} {k : Int} (h0 : 0 ≤ k) (h1 : k < ms.length) : ix (Jc ms) k = (ix ms k).1 := Xp h0 h1
theorem xsl {ms : List (Int × Bool)} {k : Int} (h0 : 0 ≤ k) (h1 : k < ms.length) : ix (Zp ms) k = (ix ms k).2 := Xp h0 h1
theorem xn9 {ms : List (Int × Bool)} {k : Nat} (hk : k < ms.length) (h : (ix ms (k : Int)).2 = true) : YZ (ms.take (k + 1)) = YZ (ms.take k) := by
 unfold YZ
 rw [Yz hk, List.filter_append]
 simp [h]
theorem xpz {ms : List (Int × Bool)} {k : Nat} (hk : k < ms.length) (h : (ix ms (k : Int)).2 = false) : YZ (ms.take (k + 1)) = YZ (ms.take k) ++ [(ix ms (k : Int)).1] := by
 unfold YZ
 rw [Yz hk, List.filter_append]
 simp [h]
theorem xsR {a b : Int} (h : b ≤ 9223372036854775807 - a) : QR a b = a + b := if_pos S.o
theorem xro {a b : Int} (h : 9223372036854775807 - a < b) : QR a b = 9223372036854775807 := if_neg S.o
attribute [local irreducible] YZ QR
theorem Wz {r : Nat} {room : Int} {s1 s2 : SV} {ms : List (Int × Bool)} {k : Int} : Xb prog 134 #[.pointer (some ⟨r, 0, none⟩), .int .i64 k] [xbJ r room s1 s2, sl false s1.v (Jc ms)]
  fun v l' => v = .bool (decide (0 ≤ k) && decide (k < ms.length)) ∧ l' = [xbJ r room s1 s2, sl false s1.v (Jc ms)] := by
 intro F K hK
 simp only [ap]
 have hl : (Jc ms).length = ms.length := List.length_map _
 refine S.I fun u => ?_
 have hX := hl; repeat' (first | refine S.x ?_ | refine S.y ?_ ?_ | intro hb | fail)
 all_goals exact S.L
theorem xd3 {r : Nat} {room : Int} {s1 s2 : SV} {ms : List (Int × Bool)} (hh : ∀ k : Nat, k < ms.length → okI (ix ms (k : Int)).1) (hl : ms.length ≤ 100000) : Xb prog 23 #[.pointer (some ⟨r, 0, none⟩)] [xbJ r room s1 s2, sl false s1.v (Jc ms), sl false s2.v (Zp ms)]
  fun v l' => v = .int .i64 (Wr room ms) ∧ l' = [xbJ r room s1 s2, sl false s1.v (Jc ms), sl false s2.v (Zp ms)] := by
 intro F K hK
 simp only [ap]
 have hl1 : (Jc ms).length = ms.length := List.length_map _
 have hl2 : (Zp ms).length = ms.length := List.length_map _
 have h00 : Vi (YZ (ms.take 0)) = 0 := by unfold YZ; rfl
 refine S.I fun u => ?_
 repeat' (first | refine S.x ?_ | fail)
 refine Tr.loopE (α := Nat) [3, 4] [0, 2] (fun k => [.int .i64 (Vi (YZ (ms.take k))), .int .i64 k]) (fun k => [xbJ r room s1 s2, sl false s1.v (Jc ms), sl false s2.v (Zp ms)]) (fun k => k ≤ ms.length ∧ 0 ≤ Vi (YZ (ms.take k)) ∧ Vi (YZ (ms.take k)) ≤ 9223372036854775807) (fun k => ms.length - k) 0 S.T (by rw [h00]; rfl) ⟨Nat.zero_le _, by rw [h00]; decide, by rw [h00]; decide⟩ fun k u hx => ?_
 obtain ⟨hk, p0, p1⟩ := hx
 by_cases hin : k < ms.length
 ·have hw := Xo (k := k) S.o
  have i1 := xn7 (ms := ms) (k := (k : Int)) S.o S.o
  have i2 := xsl (ms := ms) (k := (k : Int)) S.o S.o
  obtain ⟨q0, q1⟩ := hh k hin
  cases hd : (ix ms (k : Int)).2 with
  | true =>
   have hz := xn9 hin hd
   have hX := I3 hw @i2 hd; repeat' (first | refine S.x ?_ | intro hb | fail)
   all_goals
    rw [← hz] at p0 p1
    exact S.R (k + 1)
  | false =>
   have hz : Vi (YZ (ms.take (k + 1))) = QR (Vi (YZ (ms.take k))) (ix ms (k : Int)).1 := by rw [xpz hin hd, xcF]
   obtain ⟨t0, t1⟩ := xk7 p0 q0
   rw [← hz] at t0 t1
   have hw2 : IntKind.i64.wrap (9223372036854775807 - Vi (YZ (ms.take k))) = 9223372036854775807 - Vi (YZ (ms.take k)) := Ye S.o S.o
   by_cases hb2 : (ix ms (k : Int)).1 ≤ 9223372036854775807 - Vi (YZ (ms.take k))
   ·have hz2 := hz.trans (xsR hb2)
    have hw3 : IntKind.i64.wrap (Vi (YZ (ms.take k)) + (ix ms (k : Int)).1) = Vi (YZ (ms.take (k + 1))) := by rw [hz2]; exact Ye S.o S.o
    clear hz hz2
    have hX := I6 hw @i1 @i2 hd hw2 hw3; repeat' (first | refine S.x ?_ | intro hb | fail)
    all_goals exact S.R (k + 1)
   ·have hz2 := hz.trans (xro S.o)
    clear hz
    have hX := I5 hw @i1 @i2 hd hw2; repeat' (first | refine S.x ?_ | intro hb | fail)
    all_goals exact S.R (k + 1)
 ·have hke : k = ms.length := by omega
  have hz : ms.take k = ms := by rw [hke]; exact List.take_length
  rw [hz]
  rw [hz] at p0 p1
  repeat' (first | refine S.x ?_ | refine S.y ?_ ?_ | intro hb | fail)
  all_goals
   have hX := @Wr.eq_def
   exact S.L
end
section
def spM (room : Int) (ms : List (Int × Bool)) (k n : Int) : Int := if inR ms k then (if n < 1 then 0 else Zn n room (ix ms k).1) else 0
def VJ (room : Int) (ms : List (Int × Bool)) (k n : Int) : List (Int × Bool) := if inR ms k then (if n < 1 then ms else ms.set k.toNat ((ix ms k).1 - Zn n room (ix ms k).1, (ix ms k).2)) else ms
def Qm (ms : List (Int × Bool)) (k : Int) (d : Bool) : List (Int × Bool) := if inR ms k then ms.set k.toNat ((ix ms k).1, d) else ms
instance xvC : ElT 69 Bool := ⟨⟩
instance xvJ : ElT 28 Int := ⟨⟩
theorem xrU {ms : List (Int × Bool)} {i : Nat} {x : Int × Bool} : Jc (ms.set i x) = (Jc ms).set i x.1 := List.map_set
theorem xok {ms : List (Int × Bool)} {i : Nat} {x : Int × Bool} : Zp (ms.set i x) = (Zp ms).set i x.2 := List.map_set
theorem xrd {ms : List (Int × Bool)} {k : Int} {d : Bool} (h0 : 0 ≤ k) (h1 : k < ms.length) : Jc (ms.set k.toNat ((ix ms k).1, d)) = Jc ms := QI h0 h1 rfl
theorem xm4 {ms : List (Int × Bool)} {k n : Int} (h0 : 0 ≤ k) (h1 : k < ms.length) : Zp (ms.set k.toNat (n, (ix ms k).2)) = Zp ms := QI h0 h1 rfl
attribute [local irreducible] YZ QR Wr
theorem xnA {r : Nat} {room : Int} {s1 s2 : SV} {ms : List (Int × Bool)} {k n : Int} (hr : 0 ≤ room ∧ room ≤ 1000000000000) (hh : 0 ≤ (ix ms k).1 ∧ (ix ms k).1 ≤ 1000000000000) (hl : ms.length ≤ 100000) : Xb prog 83 #[.pointer (some ⟨r, 0, none⟩), .int .i64 k, .int .i64 n] [xbJ r room s1 s2, sl false s1.v (Jc ms)]
  fun v l' => ∃ s : SV, v = .int .i64 (spM room ms k n) ∧ l' = [xbJ r (room - spM room ms k n) s s2, sl false s.v (Jc (VJ room ms k n))] := by
 intro F K hK
 simp only [ap]
 have hl1 : (Jc ms).length = ms.length := List.length_map _
 by_cases h : inR ms k
 ·have ⟨h0, h1⟩ := h
  have i1 := xn7 h0 h1
  by_cases hn : n < 1
  ·have e1 : spM room ms k n = 0 := by unfold spM; rw [if_pos h, if_pos hn]
   have e2 : VJ room ms k n = ms := by unfold VJ; rw [if_pos h, if_pos hn]
   rw [e1, e2, Int.sub_zero] at hK
   refine S.I fun u => ?_
   repeat' (first | refine S.x ?_ | (refine G.call 134 ?_; refine S.c ?_ (h := Wz)) | rintro _ _ ⟨rfl, rfl⟩ | fail)
   all_goals first
    | (exfalso; omega)
    | exact S.L
  ·have e1 : spM room ms k n = Zn n room (ix ms k).1 := by unfold spM; rw [if_pos h, if_neg hn]
   have e2 : VJ room ms k n = ms.set k.toNat ((ix ms k).1 - Zn n room (ix ms k).1, (ix ms k).2) := by unfold VJ; rw [if_pos h, if_neg hn]
   rw [e1, e2, xrU] at hK
   obtain ⟨m1, m2, m3, m4⟩ := @Qu n room (ix ms k).1
   have m5 := m4 S.o hr.1 hh.1
   have w1 : IntKind.i64.wrap ((ix ms k).1 - Zn n room (ix ms k).1) = (ix ms k).1 - Zn n room (ix ms k).1 := Ye S.o S.o
   have w2 : IntKind.i64.wrap (room - Zn n room (ix ms k).1) = room - Zn n room (ix ms k).1 := Ye S.o S.o
   have hdef : ∀ m : Int, (if (ix ms k).1 < (if room < n then room else n) then (ix ms k).1 else (if room < n then room else n)) = m → Zn n room (ix ms k).1 = m := fun m h => h
   clear m1 m2 m3 m4 m5
   refine S.I fun u => ?_
   by_cases c1 : room < n
   ·by_cases c2 : (ix ms k).1 < room
    ·rw [hdef (ix ms k).1 (by rw [if_pos c1, if_pos c2])] at hK w1 w2
     clear hdef
     have hX := I3 @i1 @w1 @w2; repeat' (first | refine S.x ?_ | (refine G.call 134 ?_; refine S.c ?_ (h := Wz)) | rintro _ _ ⟨rfl, rfl⟩ | intro hb | fail)
     all_goals first
      | (exfalso; omega)
      | exact S.L
    ·rw [hdef room (by rw [if_pos c1, if_neg c2])] at hK w1 w2
     clear hdef
     have hX := I3 @i1 @w1 @w2; repeat' (first | refine S.x ?_ | (refine G.call 134 ?_; refine S.c ?_ (h := Wz)) | rintro _ _ ⟨rfl, rfl⟩ | intro hb | fail)
     all_goals first
      | (exfalso; omega)
      | exact S.L
   ·by_cases c2 : (ix ms k).1 < n
    ·rw [hdef (ix ms k).1 (by rw [if_neg c1, if_pos c2])] at hK w1 w2
     clear hdef
     have hX := I3 @i1 @w1 @w2; repeat' (first | refine S.x ?_ | (refine G.call 134 ?_; refine S.c ?_ (h := Wz)) | rintro _ _ ⟨rfl, rfl⟩ | intro hb | fail)
     all_goals first
      | (exfalso; omega)
      | exact S.L
    ·rw [hdef n (by rw [if_neg c1, if_neg c2])] at hK w1 w2
     clear hdef
     have hX := I3 @i1 @w1 @w2; repeat' (first | refine S.x ?_ | (refine G.call 134 ?_; refine S.c ?_ (h := Wz)) | rintro _ _ ⟨rfl, rfl⟩ | intro hb | fail)
     all_goals first
      | (exfalso; omega)
      | exact S.L
 ·have e1 : spM room ms k n = 0 := if_neg h
  have e2 : VJ room ms k n = ms := if_neg h
  rw [e1, e2, Int.sub_zero] at hK
  have h' := h
  unfold inR at h'
  refine S.I fun u => ?_
  repeat' (first | refine S.x ?_ | (refine G.call 134 ?_; refine S.c ?_ (h := Wz)) | rintro _ _ ⟨rfl, rfl⟩ | fail)
  all_goals first
   | (exfalso; omega)
   | exact S.L
theorem xqg {r : Nat} {room : Int} {s1 s2 : SV} {ms : List (Int × Bool)} {k : Int} {d : Bool} (hh : ∀ k : Nat, k < ms.length → okI (ix ms (k : Int)).1) (hl : ms.length ≤ 100000) : Xb prog 201 #[.pointer (some ⟨r, 0, none⟩), .int .i64 k, .bool d] [xbJ r room s1 s2, sl false s1.v (Jc ms), sl false s2.v (Zp ms)]
  fun v l' => ∃ (n : Int) (s : SV), v = .int .i64 n ∧ l' = [xbJ r room s1 s, sl false s1.v (Jc (Qm ms k d)), sl false s.v (Zp (Qm ms k d))] := by
 intro F K hK
 simp only [ap]
 have hl2 : (Zp ms).length = ms.length := List.length_map _
 by_cases h : inR ms k
 ·have ⟨h0, h1⟩ := h
  have e2 : Qm ms k d = ms.set k.toNat ((ix ms k).1, d) := if_pos h
  have hl3 : (ms.set k.toNat ((ix ms k).1, d)).length ≤ 100000 := by rw [List.length_set]; exact hl
  have hh2 : ∀ j : Nat, j < (ms.set k.toNat ((ix ms k).1, d)).length → okI (ix (ms.set k.toNat ((ix ms k).1, d)) (j : Int)).1 := fun j hj => by
   rw [List.length_set] at hj
   rw [xqO S.o]
   split
   ·have := hh k.toNat S.o
    rwa [show ((k.toNat : Nat) : Int) = k from by omega] at this
   ·exact hh j hj
  have hhs := xrd (d := d) h0 h1
  have hds := @xok ms k.toNat ((ix ms k).1, d)
  simp only at hds
  rw [e2] at hK
  refine S.I fun u => ?_
  (repeat' (first | refine S.x ?_ | (refine G.call 134 ?_; refine S.c ?_ (h := Wz)) | (refine G.call 23 ?_; refine S.c ?_ (h := xd3 hh hl)) | (refine G.call 23 ?_; rw [← hhs, ← hds]; refine S.c ?_ (h := xd3 hh2 hl3)) | rintro _ _ ⟨rfl, rfl⟩ | intro (sv : SV) | intro hb))
  all_goals first
   | (exfalso; omega)
   | exact Tr.fin hK ⟨_, _, rfl, rfl⟩ S.E
 ·have e2 : Qm ms k d = ms := if_neg h
  rw [e2] at hK
  have h' := h
  unfold inR at h'
  refine S.I fun u => ?_
  repeat' (first | refine S.x ?_ | (refine G.call 134 ?_; refine S.c ?_ (h := Wz)) | rintro _ _ ⟨rfl, rfl⟩ | fail)
  all_goals first
   | (exfalso; omega)
   | exact S.L
