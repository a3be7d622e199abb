import Derived.Test.YtacmaamllpiloaaGreatZ17
namespace Go.Proofs.YtacmaamllpiloaaGreat
open Go Go.Wk Tryz
set_option maxHeartbeats 3200000
set_option maxRecDepth 100000
structure ObM where
 sems : List xiH
 flags : List Bool
 pools : List xag
 slates : List Q1
section
variable (ss : List xiH) (fs : List Bool) (ps : List xag) (ls : List Q1) (k : Int)
def VA : Int := if inR ss k then (if (ix ss k).2.2 < 1 then 1 else 0) else 3
def xbI : List xiH := if inR ss k then (if (ix ss k).2.2 < 1 then ss else ss.set k.toNat ((ix ss k).1, (ix ss k).2.1, IntKind.i64.wrap ((ix ss k).2.2 - 1))) else ss
def QO : Int := if inR ss k then (if (ix ss k).2.1 ≤ (ix ss k).2.2 then 6 else 0) else 3
def QX : List xiH := if inR ss k then (if (ix ss k).2.1 ≤ (ix ss k).2.2 then ss else ss.set k.toNat ((ix ss k).1, (ix ss k).2.1, IntKind.i64.wrap ((ix ss k).2.2 + 1))) else ss
def YT : Int := if inR fs k then 0 else 3
def JS (up : Bool) : List Bool := if inR fs k then fs.set k.toNat up else fs
def upM : Bool := if inR fs k then ix fs k else false
def Vs (n : Nat) : Int := if inR ps k then (if xa0 n (ix ps k).1 then (if (ix ps k).2.1 ≤ (ix ps k).2.2.length then 1 else 0) else 2) else 3
def xbK (m : List UInt8) : List xag := if Vs ps k m.length = 0 then ps.set k.toNat ((ix ps k).1, (ix ps k).2.1, (ix ps k).2.2 ++ [m]) else ps
def Jy : Int := if inR ps k then (if ((ix ps k).2.2.length : Int) = 0 then 1 else 0) else 3
def Wg : List UInt8 := if Jy ps k = 0 then ix (ix ps k).2.2 0 else []
def xap : List xag := if Jy ps k = 0 then ps.set k.toNat ((ix ps k).1, (ix ps k).2.1, (ix ps k).2.2.drop 1) else ps
def Qq (n : Nat) : Int := if inR ls k then (if xa0 n (ix ls k).1 then 0 else 2) else 3
def QC (m : List UInt8) : List Q1 := if Qq ls k m.length = 0 then ls.set k.toNat ((ix ls k).1, some m) else ls
def WJ : Int := if inR ls k then (if (ix ls k).2.isSome then 0 else 1) else 3
def WI : List UInt8 := if WJ ls k = 0 then (ix ls k).2.getD [] else []
def QM : Int := if inR ls k then 0 else 3
def Wj : List Q1 := if inR ls k then ls.set k.toNat ((ix ls k).1, none) else ls
def J4 (p : Int) : Int := if 0 ≤ k then (if inR ls k then (ix ls k).1 else 0) else (if inR ps p then (ix ps p).1 else 0)
end
theorem Z6 {α β : Type} {f : α → β} {xs : List α} {k : Int} : inR (xs.map f) k = inR xs k := by unfold inR; rw [List.length_map]
theorem ixR {α β : Type} [Inhabited α] [Inhabited β] {f : α → β} {xs : List α} {k : Int} (h : inR xs k) : ix (xs.map f) k = f (ix xs k) := Xp h.1 h.2
section
variable {gS : List XL} {gF : List Xr} {gP : List Xu} {gL : List Xi} {k : Int} {s1 : SV} {m : Msg} {n : Nat} {up : Bool}
theorem xdC : xbD gS k = VA (gS.map XL.mo) k ∧ (V1 gS k).map XL.mo = xbI (gS.map XL.mo) k := by
 unfold xbD V1 VA xbI
 simp only [Z6]
 by_cases h : inR gS k
 ·simp only [h, if_true, ixR h]
  refine ⟨rfl, ?_⟩
  show List.map XL.mo (if (ix gS k).count < 1 then _ else _) = (if (ix gS k).count < 1 then _ else _)
  split
  ·rfl
  ·exact List.map_set
 ·simp only [h, if_false, and_self]
theorem xdk : xbx gS k = QO (gS.map XL.mo) k ∧ (VZ gS k).map XL.mo = QX (gS.map XL.mo) k := by
 unfold xbx VZ QO QX
 simp only [Z6]
 by_cases h : inR gS k
 ·simp only [h, if_true, ixR h]
  refine ⟨rfl, ?_⟩
  show List.map XL.mo (if (ix gS k).most ≤ (ix gS k).count then _ else _) = (if (ix gS k).most ≤ (ix gS k).count then _ else _)
  split
  ·rfl
  ·exact List.map_set
 ·simp only [h, if_false, and_self]
theorem Wx : VC gF k = YT (gF.map Xr.mo) k ∧ (W0 gF k up).map Xr.mo = JS (gF.map Xr.mo) k up ∧ upB gF k = upM (gF.map Xr.mo) k := by
 unfold VC W0 YT JS upB upM
 simp only [Z6]
 by_cases h : inR gF k
 ·simp only [h, if_true, ixR h]
  exact ⟨trivial, List.map_set, rfl⟩
 ·simp only [h, if_false, and_self]
theorem xdA : Qt gP k n = Vs (gP.map Xu.mo) k n := by
 unfold Qt Vs
 simp only [Z6]
 by_cases h : inR gP k
 ·simp only [h, if_true, ixR h]
  simp only [Xu.mo, List.length_map]
 ·simp only [h, if_false]
theorem xsH (h : Qt gP k n = 0) : inR gP k := by
 unfold Qt at h
 split at h
 ·assumption
 ·cases h
theorem xjs : (QS gP k s1 m).map Xu.mo = xbK (gP.map Xu.mo) k m.d := by
 unfold QS xbK
 rw [xdA]
 split
 ·rename_i h
  rw [← xdA] at h
  rw [ixR (xsH h), List.map_set]
  congr 1
  simp [Xu.mo]
 ·rfl
theorem xdl : Wn gP k = Jy (gP.map Xu.mo) k := by
 unfold Wn Jy
 simp only [Z6]
 by_cases h : inR gP k
 ·simp only [h, if_true, ixR h]
  simp only [Xu.mo, List.length_map]
 ·simp only [h, if_false]
theorem xta (h : Wn gP k = 0) : inR gP k ∧ 0 < (ix gP k).ms.length := by
 unfold Wn at h
 split at h
 ·rename_i hr
  refine ⟨hr, ?_⟩
  split at h
  ·cases h
  ·omega
 ·cases h
theorem xgG : (xaK gP k s1).map Xu.mo = xap (gP.map Xu.mo) k ∧ (W1 gP k).d = Wg (gP.map Xu.mo) k := by
 unfold xaK xap W1 Wg
 rw [xdl]
 split
 ·rename_i h
  rw [← xdl] at h
  obtain ⟨h1, h2⟩ := xta h
  rw [ixR h1, List.map_set]
  refine ⟨?_, ?_⟩
  ·congr 1
   simp [Xu.mo]
  ·exact (Xp (f := SL.d) S.o S.o).symm
 ·exact ⟨rfl, rfl⟩
theorem xca : Vl gL k n = Qq (gL.map Xi.mo) k n := by
 unfold Vl Qq
 simp only [Z6]
 by_cases h : inR gL k
 ·simp only [h, if_true, ixR h]; rfl
 ·simp only [h, if_false]
theorem xol (h : Vl gL k n = 0) : inR gL k := by
 unfold Vl at h
 split at h
 ·assumption
 ·cases h
theorem xmv : (Vm gL k m).map Xi.mo = QC (gL.map Xi.mo) k m.d := by
 unfold Vm QC
 rw [xca]
 split
 ·rename_i h
  rw [← xca] at h
  rw [ixR (xol h), List.map_set]
  congr 1
 ·rfl
theorem xak : ZZ gL k = WJ (gL.map Xi.mo) k := by
 unfold ZZ WJ
 simp only [Z6]
 by_cases h : inR gL k
 ·simp only [h, if_true, ixR h]
  simp only [Xi.mo]
  by_cases hs : (ix gL k).shown = true <;> simp [hs]
 ·simp only [h, if_false]
theorem xlB : Jz gL k = WI (gL.map Xi.mo) k := by
 unfold Jz WI
 rw [xak]
 split
 ·rename_i h
  rw [← xak] at h
  unfold ZZ at h
  split at h
  ·rename_i hr
   rw [ixR hr]
   simp only [Xi.mo]
   by_cases hs : (ix gL k).shown = true
   ·simp [hs]
   ·rw [if_neg hs] at h; cases h
  ·cases h
 ·rfl
theorem xda : xcT gL k = QM (gL.map Xi.mo) k ∧ (V2 gL k).map Xi.mo = Wj (gL.map Xi.mo) k := by
 unfold xcT V2 QM Wj
 simp only [Z6]
 by_cases h : inR gL k
 ·simp only [h, if_true, ixR h]
  exact ⟨trivial, List.map_set⟩
 ·simp only [h, if_false, and_self]
theorem xsE {p : Int} : xeB gP gL p k = J4 (gP.map Xu.mo) (gL.map Xi.mo) k p := by
 unfold xeB J4
 simp only [Z6]
 split
 ·by_cases h : inR gL k
  ·simp only [h, if_true, ixR h]; rfl
  ·simp only [h, if_false]
 ·by_cases h : inR gP p
  ·simp only [h, if_true, ixR h]; rfl
  ·simp only [h, if_false]
end
structure okO (c : YF) (o : ObM) : Prop where
 s : o.sems.map (fun x => x.2.1) = (c.sems.d.take 4).map JO.most
 f : o.flags.length ≤ 8
 p : o.pools.map (fun x => (x.1, x.2.1)) = (c.pools.d.take 4).map (fun x => (x.size, x.depth))
 l : o.slates.map (fun x => x.1) = c.slates.d.take 4
 n : ∀ x ∈ o.pools, x.2.1 ≤ 16 ∧ x.2.2.length ≤ 16
def xcC (c : YF) : ObM := ⟨(c.sems.d.take 4).map xjD, List.replicate (ZF c.flags) false, (c.pools.d.take 4).map xd1, (c.slates.d.take 4).map QJ⟩
section
variable {c : YF} {o : ObM} {k : Int} {up : Bool} {m : List UInt8}
theorem Qb {α β : Type} [Inhabited α] {f : α → β} {xs : List α} {k : Int} {x : α} (h : inR xs k) (hx : f x = f (ix xs k)) : (xs.set k.toNat x).map f = xs.map f := QI h.1 h.2 hx
theorem xh2 (h : okO c o) : okO c { o with sems := xbI o.sems k } := ⟨by
 unfold xbI
 split
 ·rename_i hr
  split
  ·exact h.s
  ·exact (by refine Eq.trans (Qb (f := fun x : xiH => x.2.1) hr ?_) h.s; rfl)
 ·exact h.s, h.f, h.p, h.l, h.n⟩
theorem xjj (h : okO c o) : okO c { o with sems := QX o.sems k } := ⟨by
 unfold QX
 split
 ·rename_i hr
  split
  ·exact h.s
  ·exact (by refine Eq.trans (Qb (f := fun x : xiH => x.2.1) hr ?_) h.s; rfl)
 ·exact h.s, h.f, h.p, h.l, h.n⟩
theorem xio (h : okO c o) : okO c { o with flags := JS o.flags k up } := ⟨h.s, by
 unfold JS
 split
 ·simpa using h.f
 ·exact h.f, h.p, h.l, h.n⟩
theorem xrj {ps : List xag} {n : Nat} (h : Vs ps k n = 0) : inR ps k ∧ ((ix ps k).2.2.length : Int) < (ix ps k).2.1 := by
 unfold Vs at h
 split at h
 ·rename_i hr
  refine ⟨hr, ?_⟩
  split at h
  ·split at h
   ·cases h
   ·omega
  ·cases h
 ·cases h
theorem xo5 {ps : List xag} (h : ∀ x ∈ ps, x.2.1 ≤ 16 ∧ x.2.2.length ≤ 16) (hr : inR ps k) : (ix ps k).2.1 ≤ 16 ∧ (ix ps k).2.2.length ≤ 16 := h _ (List.mem_of_getElem? (Yi hr.1 hr.2))
theorem xkI (h : okO c o) : okO c { o with pools := xbK o.pools k m } := by
 unfold xbK
 split
 ·rename_i hc
  obtain ⟨hr, hlt⟩ := xrj hc
  refine ⟨h.s, h.f, (by refine Eq.trans (Qb (f := fun x : xag => (x.1, x.2.1)) hr ?_) h.p; rfl), h.l, fun x hx => ?_⟩
  rcases List.mem_or_eq_of_mem_set hx with h' | rfl
  ·exact h.n x h'
  ·have := xo5 h.n hr
   refine ⟨this.1, ?_⟩
   simp only [List.length_append, List.length_singleton]
   omega
 ·exact ⟨h.s, h.f, h.p, h.l, h.n⟩
theorem xp8 {ps : List xag} (h : Jy ps k = 0) : inR ps k := by
 unfold Jy at h
 split at h
 ·assumption
 ·cases h
theorem xle (h : okO c o) : okO c { o with pools := xap o.pools k } := by
 unfold xap
 split
 ·rename_i hc
  have hr := xp8 hc
  refine ⟨h.s, h.f, (by refine Eq.trans (Qb (f := fun x : xag => (x.1, x.2.1)) hr ?_) h.p; rfl), h.l, fun x hx => ?_⟩
  rcases List.mem_or_eq_of_mem_set hx with h' | rfl
  ·exact h.n x h'
  ·have := xo5 h.n hr
   refine ⟨this.1, ?_⟩
   simp only [List.length_drop]
   omega
 ·exact ⟨h.s, h.f, h.p, h.l, h.n⟩
theorem xhE (h : okO c o) : okO c { o with slates := QC o.slates k m } := ⟨h.s, h.f, h.p, by
 unfold QC
 split
 ·rename_i hc
  have hr : inR o.slates k := by
   unfold Qq at hc
   split at hc
   ·assumption
   ·cases hc
  exact (by refine Eq.trans (Qb (f := fun x : Q1 => x.1) hr ?_) h.l; rfl)
 ·exact h.l, h.n⟩
theorem xhC (h : okO c o) : okO c { o with slates := Wj o.slates k } := ⟨h.s, h.f, h.p, by
 unfold Wj
 split
 ·rename_i hr
  exact (by refine Eq.trans (Qb (f := fun x : Q1 => x.1) hr ?_) h.l; rfl)
 ·exact h.l, h.n⟩
theorem xgm (h : ∀ x ∈ c.pools.d, x.depth ≤ 16) : okO c (xcC c) := ⟨by simp [xcC, xjD, Function.comp_def], by simp [xcC]; exact xcf _, by simp [xcC, xd1, Function.comp_def], by simp [xcC, QJ, Function.comp_def], fun x hx => by
 obtain ⟨y, hy, rfl⟩ := List.mem_map.1 hx
 exact ⟨h y (List.mem_of_mem_take hy), Nat.zero_le _⟩⟩
end
structure ObG where
 ss : SV
 fs : SV
 ps : SV
 ls : SV
 gS : List XL
 gF : List Xr
 gP : List Xu
 gL : List Xi
def JL (b : Nat) (c : YF) (g : ObG) : List Xc := [obB b ⟨c.c, g.ss, g.fs, g.ps, g.ls⟩, sl false g.ss.v (g.gS.map XL.pt), fam xc4 g.gS, sl false g.fs.v (g.gF.map Xr.pt), fam QP g.gF, sl false g.ps.v (g.gP.map Xu.pt), fam VD g.gP, sl false g.ls.v (g.gL.map Xi.pt), fam YM g.gL,
 sl true c.sems.s.v c.sems.d, sl true c.pools.s.v c.pools.d, sl true c.slates.s.v c.slates.d]
structure ObG.ok (g : ObG) (c : YF) (o : ObM) : Prop where
 hs : g.gS.map XL.mo = o.sems
 hf : g.gF.map Xr.mo = o.flags
 hp : g.gP.map Xu.mo = o.pools
 hl : g.gL.map Xi.mo = o.slates
 hm : ∀ x ∈ g.gL, x.shown = true → x.m.d.length ≤ 300
 ho : okO c o
def objX (b : Nat) (c : YF) (o : ObM) : Xc := pk (fun g : ObG => JL b c g) (fun g => g.ok c o)
theorem Xd.objX {b : Nat} {c : YF} {o : ObM} {g : ObG} {d l l2 : List Xc} (hg : g.ok c o) (h : Xd d l (JL b c g ++ l2)) : Xd d l (Go.Proofs.YtacmaamllpiloaaGreat.objX b c o :: l2) :=
 Imp.trans h (Imp.pk (f := fun g : ObG => JL b c g) (p := fun g => g.ok c o) g hg)
section
attribute [local irreducible] BrK Xq Xt Xv XI FnK XZ Xw XC XV opX opK Yq Yk eqR Yj Yo Ys WL WD W X3 XO Tr drewK Ya X4 Yw Yv X1 YB mp blk rob sl sep ex fact old
section
variable {b : Nat} {c : YF} {o : ObM} {k p : Int} {up : Bool} {m : List UInt8} {s3 : SV}
theorem xvS {g : ObG} (h : g.ok c o) (k : Int) : (ix g.gP k).ms.length ≤ 1000000 := by
 rcases ZH g.gP k with hm | hm
 ·have h1 : (ix g.gP k).mo ∈ o.pools := by rw [← h.hp]; exact List.mem_map_of_mem hm
  have := (h.ho.n _ h1).2
  simp only [Xu.mo, List.length_map] at this
  omega
 ·rw [hm]; exact Nat.zero_le _
theorem xwl {g : ObG} (h : g.ok c o) (k : Int) (hs : (ix g.gL k).shown = true) : (ix g.gL k).m.d.length ≤ 1000000 := by
 rcases ZH g.gL k with hm | hm
 ·have := h.hm _ hm hs; omega
 ·rw [hm]; exact Nat.zero_le _
theorem xwk {gL : List Xi} {k : Int} {x : Xi} (h : ∀ x ∈ gL, x.shown = true → x.m.d.length ≤ 300) (hx : x.m.d.length ≤ 300) : ∀ y ∈ gL.set k.toNat x, y.shown = true → y.m.d.length ≤ 300 := fun y hy => by
 rcases List.mem_or_eq_of_mem_set hy with h' | rfl
 ·exact h y h'
 ·exact fun _ => hx
theorem xpy : Xb prog 172 #[.pointer (some ⟨b, 0, none⟩), .int .i64 k] [objX b c o]
  fun v l' => v = .int .i64 (VA o.sems k) ∧ l' = [objX b c { o with sems := xbI o.sems k }] := by
 refine Xb.pk fun g hg F K hK => ?_
 simp only [JL, ap]
 refine S.c ?_ (h := xsn)
 rintro _ _ ⟨rfl, rfl⟩
 refine Tr.fin hK ⟨by rw [xdC.1, hg.hs], rfl⟩ ?_
 refine Xd.objX (g := { g with gS := V1 g.gS k }) ⟨by rw [xdC.2, hg.hs], hg.hf, hg.hp, hg.hl, hg.hm, xh2 hg.ho⟩ ?_
 simp only [JL, List.append_eq, ap]
 exact S.E
theorem xn6 : Xb prog 173 #[.pointer (some ⟨b, 0, none⟩), .int .i64 k] [objX b c o]
  fun v l' => v = .int .i64 (QO o.sems k) ∧ l' = [objX b c { o with sems := QX o.sems k }] := by
 refine Xb.pk fun g hg F K hK => ?_
 simp only [JL, ap]
 refine S.c ?_ (h := xs9)
 rintro _ _ ⟨rfl, rfl⟩
 refine Tr.fin hK ⟨by rw [xdk.1, hg.hs], rfl⟩ ?_
 refine Xd.objX (g := { g with gS := VZ g.gS k }) ⟨by rw [xdk.2, hg.hs], hg.hf, hg.hp, hg.hl, hg.hm, xjj hg.ho⟩ ?_
 simp only [JL, List.append_eq, ap]
 exact S.E
theorem xhI : Xb prog 174 #[.pointer (some ⟨b, 0, none⟩), .int .i64 k, .bool up] [objX b c o]
  fun v l' => v = .int .i64 (YT o.flags k) ∧ l' = [objX b c { o with flags := JS o.flags k up }] := by
 refine Xb.pk fun g hg F K hK => ?_
 simp only [JL, ap]
 refine S.c ?_ (h := xr4)
 rintro _ _ ⟨rfl, rfl⟩
 refine Tr.fin hK ⟨by rw [(Wx (up := up)).1, hg.hf], rfl⟩ ?_
 refine Xd.objX (g := { g with gF := W0 g.gF k up }) ⟨hg.hs, by rw [Wx.2.1, hg.hf], hg.hp, hg.hl, hg.hm, xio hg.ho⟩ ?_
 simp only [JL, List.append_eq, ap]
 exact S.E
theorem xaq : Xb prog 170 #[.pointer (some ⟨b, 0, none⟩), .int .i64 k] [objX b c o]
  fun v l' => v = .tuple #[.bool (upM o.flags k), .int .i64 (YT o.flags k)] ∧ l' = [objX b c o] := by
 refine Xb.pk fun g hg F K hK => ?_
 simp only [JL, ap]
 refine S.c ?_ (h := xwF)
 rintro _ _ ⟨rfl, rfl⟩
 refine Tr.fin hK ⟨by rw [(Wx (up := true)).1, (Wx (up := true)).2.2, hg.hf], rfl⟩ ?_
 refine Xd.objX (g := g) hg ?_
 simp only [JL, List.append_eq, ap]
 exact S.E
theorem xce (hm : m.length ≤ 300) : Xb prog 179 #[.pointer (some ⟨b, 0, none⟩), .int .i64 k, s3.v] [objX b c o, sl true s3.v m]
  fun v l' => v = .int .i64 (Vs o.pools k m.length) ∧ l' = [objX b c { o with pools := xbK o.pools k m }] := by
 refine Xb.pk fun g hg F K hK => ?_
 simp only [JL, ap]
 refine S.c ?_ (h := xst S.o (xvS hg k))
 rintro _ _ ⟨s1, s2, rfl, rfl⟩
 refine Tr.fin hK ⟨by rw [xdA, hg.hp], rfl⟩ ?_
 refine Xd.objX (g := { g with gP := QS g.gP k s1 ⟨s2, m⟩ }) ⟨hg.hs, hg.hf, by rw [xjs, hg.hp], hg.hl, hg.hm, xkI hg.ho⟩ ?_
 simp only [JL, List.append_eq, ap]
 exact S.E
theorem xr6 : Xb prog 177 #[.pointer (some ⟨b, 0, none⟩), .int .i64 k] [objX b c o]
  fun v l' => ∃ t : SV, v = .tuple #[t.v, .int .i64 (Jy o.pools k)] ∧ l' = [objX b c { o with pools := xap o.pools k }, Fz.fz (SL.mk t (Wg o.pools k) : Msg)] := by
 refine Xb.pk fun g hg F K hK => ?_
 simp only [JL, ap]
 refine S.c ?_ (h := xud)
 rintro _ _ ⟨s1, rfl, rfl⟩
 refine Tr.fin hK ⟨(W1 g.gP k).s, by rw [xdl, hg.hp], rfl⟩ ?_
 refine Xd.objX (g := { g with gP := xaK g.gP k s1 }) ⟨hg.hs, hg.hf, by rw [xgG.1, hg.hp], hg.hl, hg.hm, xle hg.ho⟩ ?_
 simp only [JL, List.append_eq, ap]
 have hX : Wg o.pools k = (W1 g.gP k).d := by rw [(xgG (s1 := s1)).2, hg.hp]
 exact S.E
theorem xoN (hm : m.length ≤ 300) : Xb prog 182 #[.pointer (some ⟨b, 0, none⟩), .int .i64 k, s3.v] [objX b c o, sl true s3.v m]
  fun v l' => v = .int .i64 (Qq o.slates k m.length) ∧ l' = [objX b c { o with slates := QC o.slates k m }] := by
 refine Xb.pk fun g hg F K hK => ?_
 simp only [JL, ap]
 refine S.c ?_ (h := xte S.o)
 rintro _ _ ⟨s2, rfl, rfl⟩
 refine Tr.fin hK ⟨by rw [xca, hg.hl], rfl⟩ ?_
 refine Xd.objX (g := { g with gL := Vm g.gL k ⟨s2, m⟩ }) ⟨hg.hs, hg.hf, hg.hp, by rw [xmv, hg.hl], by unfold Vm; split; exact xwk hg.hm hm; exact hg.hm, xhE hg.ho⟩ ?_
 simp only [JL, List.append_eq, ap]
 exact S.E
theorem xs3 {ob : ObW} {gs : List Xi} (hu : ¬ (ix gs k).shown = true) : Xb prog 181 #[.pointer (some ⟨b, 0, none⟩), .int .i64 k] [obB b ob, fam YM gs, sl false ob.ls.v (gs.map Xi.pt)]
  fun v l' => ∃ s2 : SV, v = .tuple #[s2.v, .int .i64 (ZZ gs k)] ∧ l' = [obB b ob, fam YM gs, sl false ob.ls.v (gs.map Xi.pt), sl true s2.v (Jz gs k)] := by
 intro F K hK
 simp only [ap]
 have hu' : (ix gs k).shown = false := by simpa using hu
 by_cases h : inR gs k
 ·have ⟨h0, h1⟩ := h
  have hc : ZZ gs k = 1 := by unfold ZZ; rw [if_pos h, hu']; rfl
  have hd : Jz gs k = [] := by unfold Jz; rw [hc]; rfl
  rw [hc, hd] at hK
  refine Tr.famAt (A := YM) k S.K h0 h1 ?_
  refine Vr ?_
  refine S.I fun u => ?_
  have hX := @hu'; repeat' (first | refine S.x ?_ | (refine G.call 234 ?_; refine S.c ?_ (h := Q3 S.o S.o)) | rintro _ _ ⟨rfl, rfl⟩ | fail)
  all_goals
   refine Tr.fin hK ⟨⟨none, 0, 0⟩, rfl, rfl⟩ ?_
   have hX := And.intro hu' @YM.eq_def
   exact S.E
 ·have hc : ZZ gs k = 3 := by unfold ZZ; rw [if_neg h]
  have hd : Jz gs k = [] := by unfold Jz; rw [hc]; rfl
  rw [hc, hd] at hK
  have h' := h
  unfold inR at h'
  refine S.I fun u => ?_
  repeat' (first | refine S.x ?_ | (refine G.call 234 ?_; first | refine S.c ?_ (h := Qg S.o)) | rintro _ _ ⟨rfl, rfl⟩ | fail)
  all_goals exact Tr.fin hK ⟨⟨none, 0, 0⟩, rfl, rfl⟩ S.E
theorem xq7 : Xb prog 181 #[.pointer (some ⟨b, 0, none⟩), .int .i64 k] [objX b c o]
  fun v l' => ∃ t : SV, v = .tuple #[t.v, .int .i64 (WJ o.slates k)] ∧ l' = [objX b c o, sl true t.v (WI o.slates k)] := by
 refine Xb.pk fun g hg F K hK => ?_
 simp only [JL, ap]
 have hX : WI o.slates k = Jz g.gL k := by rw [xlB, hg.hl]
 by_cases hs : (ix g.gL k).shown = true
 ·refine S.c ?_ (h := xrD (xwl hg k hs))
  rintro _ _ ⟨t, rfl, rfl⟩
  refine Tr.fin hK ⟨t, by rw [xak, hg.hl], rfl⟩ ?_
  refine Xd.objX (g := g) hg ?_
  simp only [JL, List.append_eq, ap]
  exact S.E
 ·refine S.c ?_ (h := xs3 hs)
  rintro _ _ ⟨t, rfl, rfl⟩
  refine Tr.fin hK ⟨t, by rw [xak, hg.hl], rfl⟩ ?_
  refine Xd.objX (g := g) hg ?_
  simp only [JL, List.append_eq, ap]
  exact S.E
theorem xpJ : Xb prog 180 #[.pointer (some ⟨b, 0, none⟩), .int .i64 k] [objX b c o]
  fun v l' => v = .int .i64 (QM o.slates k) ∧ l' = [objX b c { o with slates := Wj o.slates k }] := by
 refine Xb.pk fun g hg F K hK => ?_
 simp only [JL, ap]
 refine S.c ?_ (h := xsi)
 rintro _ _ ⟨rfl, rfl⟩
 refine Tr.fin hK ⟨by rw [xda.1, hg.hl], rfl⟩ ?_
 refine Xd.objX (g := { g with gL := V2 g.gL k }) ⟨hg.hs, hg.hf, hg.hp, by rw [xda.2, hg.hl], by unfold V2; split; exact xwk hg.hm (Nat.zero_le _); exact hg.hm, xhC hg.ho⟩ ?_
 simp only [JL, List.append_eq, ap]
 exact S.E
theorem Y4 : Xb prog 175 #[.pointer (some ⟨b, 0, none⟩), .int .i64 p, .int .i64 k] [objX b c o]
  fun v l' => v = .int .i64 (J4 o.pools o.slates k p) ∧ l' = [objX b c o] := by
 refine Xb.pk fun g hg F K hK => ?_
 simp only [JL, ap]
 refine S.c ?_ (h := xrM)
 rintro _ _ ⟨rfl, rfl⟩
 refine Tr.fin hK ⟨by rw [xsE, hg.hp, hg.hl], rfl⟩ ?_
 refine Xd.objX (g := g) hg ?_
 simp only [JL, List.append_eq, ap]
 exact S.E
end
section
variable {b : Nat} {c : YF} {o : ObM}
theorem xmg {cs : List Int} {g4 : List Xi} (h : g4.map Xi.mo = (cs.take 4).map QJ) : ∀ x ∈ g4, x.shown = true → x.m.d.length ≤ 300 := fun x hx hs => by
 have h1 : x.mo ∈ g4.map Xi.mo := List.mem_map_of_mem hx
 rw [h] at h1
 obtain ⟨y, _, he⟩ := List.mem_map.1 h1
 have h2 := congrArg (fun p => p.2) he
 simp only [QJ, Xi.mo, hs, if_true] at h2
 cases h2
theorem xjQ (hd : ∀ x ∈ c.pools.d, x.depth ≤ 16) : Xb prog 115 #[.pointer (some ⟨b, 0, none⟩)] [objX b c o]
  fun v l' => v = .tuple #[] ∧ l' = [objX b c (xcC c)] := by
 refine Xb.pk fun g hg F K hK => ?_
 simp only [JL, ap]
 have h0 : Xb prog 115 #[.pointer (some ⟨b, 0, none⟩)] [obB b ⟨c.c, g.ss, g.fs, g.ps, g.ls⟩, sl true c.sems.s.v c.sems.d, sl true c.pools.s.v c.pools.d, sl true c.slates.s.v c.slates.d] _ := xh0 (b := b) (c := c.c) (cs := c.sems.d) (ps := c.pools.d) (ls := c.slates.d)
 refine S.c ?_ (h := h0)
 rintro _ _ ⟨s1, s2, s3, s4, g1, g2, g3, g4, h1, h2, h3, h4, rfl, rfl⟩
 refine Tr.fin hK ⟨rfl, rfl⟩ ?_
 refine Xd.objX (g := ⟨s1, s2, s3, s4, g1, g2, g3, g4⟩) ⟨h1, h2, h3, h4, xmg h4, xgm hd⟩ ?_
 simp only [JL, List.append_eq, ap]
 exact S.E
theorem xqX {u0 : Value} [hu : DeA u0 c] (hd : ∀ x ∈ c.pools.d, x.depth ≤ 16) : Xb prog 54 #[u0] [sl true c.sems.s.v c.sems.d, sl true c.pools.s.v c.pools.d, sl true c.slates.s.v c.slates.d]
  fun v l' => ∃ b : Nat, v = .pointer (some ⟨b, 0, none⟩) ∧ l' = [objX b c (xcC c)] := by
 intro F K hK
 simp only [ap]
 haveI : DeA u0 c.c := ⟨hu.h⟩
 have h0 : Xb prog 54 #[u0] [sl true c.sems.s.v c.sems.d, sl true c.pools.s.v c.pools.d, sl true c.slates.s.v c.slates.d] _ := xr3 (u0 := u0) (c := c.c) (cs := c.sems.d) (ps := c.pools.d) (ls := c.slates.d)
 refine S.c ?_ (h := h0)
 rintro _ _ ⟨b, s1, s2, s3, s4, g1, g2, g3, g4, h1, h2, h3, h4, rfl, rfl⟩
 refine Tr.fin hK ⟨b, rfl, rfl⟩ ?_
 refine Xd.objX (g := ⟨s1, s2, s3, s4, g1, g2, g3, g4⟩) ⟨h1, h2, h3, h4, xmg h4, xgm hd⟩ ?_
 simp only [JL, List.append_eq, ap]
 exact S.E
