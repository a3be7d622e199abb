import Derived.Test.YtacmaamllpiloaaGreatZ26
import Derived.Test.YtacmaamllpiloaaGreatZ22
import Derived.Test.YtacmaamllpiloaaGreatZ21
import Derived.Test.YtacmaamllpiloaaGreatZ06
import Derived.KernelRfl
namespace Go.Proofs.YtacmaamllpiloaaGreat
open Go Go.Wk
set_option maxHeartbeats 3200000
set_option maxRecDepth 100000
structure ObM where
 sems : List SemM
 flags : List Bool
 pools : List PoolM
 slates : List SlateM
section
variable (ss : List SemM) (fs : List Bool) (ps : List PoolM) (ls : List SlateM) (k : Int)
def takeMC : Int := if inR ss k then (if (ix ss k).2.2 < 1 then 1 else 0) else 3
def takeM : List SemM := if inR ss k then (if (ix ss k).2.2 < 1 then ss else ss.set k.toNat ((ix ss k).1, (ix ss k).2.1, IntKind.i64.wrap ((ix ss k).2.2 - 1))) else ss
def giveMC : Int := if inR ss k then (if (ix ss k).2.1 ≤ (ix ss k).2.2 then 6 else 0) else 3
def giveM : List SemM := if inR ss k then (if (ix ss k).2.1 ≤ (ix ss k).2.2 then ss else ss.set k.toNat ((ix ss k).1, (ix ss k).2.1, IntKind.i64.wrap ((ix ss k).2.2 + 1))) else ss
def flagMC : Int := if inR fs k then 0 else 3
def flagMs (up : Bool) : List Bool := if inR fs k then fs.set k.toNat up else fs
def upM : Bool := if inR fs k then ix fs k else false
def putMC (n : Nat) : Int := if inR ps k then (if fitsB n (ix ps k).1 then (if (ix ps k).2.1 ≤ (ix ps k).2.2.length then 1 else 0) else 2) else 3
def putM (m : List UInt8) : List PoolM := if putMC ps k m.length = 0 then ps.set k.toNat ((ix ps k).1, (ix ps k).2.1, (ix ps k).2.2 ++ [m]) else ps
def getMC : Int := if inR ps k then (if ((ix ps k).2.2.length : Int) = 0 then 1 else 0) else 3
def getMD : List UInt8 := if getMC ps k = 0 then ix (ix ps k).2.2 0 else []
def getMs : List PoolM := if getMC ps k = 0 then ps.set k.toNat ((ix ps k).1, (ix ps k).2.1, (ix ps k).2.2.drop 1) else ps
def showMC (n : Nat) : Int := if inR ls k then (if fitsB n (ix ls k).1 then 0 else 2) else 3
def showMs (m : List UInt8) : List SlateM := if showMC ls k m.length = 0 then ls.set k.toNat ((ix ls k).1, some m) else ls
def lookMC : Int := if inR ls k then (if (ix ls k).2.isSome then 0 else 1) else 3
def lookMD : List UInt8 := if lookMC ls k = 0 then (ix ls k).2.getD [] else []
def wipeMC : Int := if inR ls k then 0 else 3
def wipeMs : List SlateM := if inR ls k then ls.set k.toNat ((ix ls k).1, none) else ls
def sizeMC (p : Int) : Int := if 0 ≤ k then (if inR ls k then (ix ls k).1 else 0) else (if inR ps p then (ix ps p).1 else 0)
end
theorem inR_map {α β : Type} {f : α → β} {xs : List α} {k : Int} : inR (xs.map f) k = inR xs k := by unfold inR; rw [List.length_map]
theorem ixR {α β : Type} [Inhabited α] [Inhabited β] {f : α → β} {xs : List α} {k : Int} (h : inR xs k) : ix (xs.map f) k = f (ix xs k) := ix_map h.1 h.2
section
variable {gS : List SemG} {gF : List FlagG} {gP : List PoolG} {gL : List SlateG} {k : Int} {s1 : SV} {m : Msg} {n : Nat} {up : Bool}
theorem take_mo : takeC gS k = takeMC (gS.map SemG.mo) k ∧ (takeG gS k).map SemG.mo = takeM (gS.map SemG.mo) k := by
 unfold takeC takeG takeMC takeM
 simp only [inR_map]
 by_cases h : inR gS k
 ·simp only [h, if_true, ixR h]
  refine ⟨rfl, ?_⟩
  show List.map SemG.mo (if (ix gS k).count < 1 then _ else _) = (if (ix gS k).count < 1 then _ else _)
  split
  ·rfl
  ·exact List.map_set
 ·simp only [h, if_false, and_self]
theorem give_mo : giveC gS k = giveMC (gS.map SemG.mo) k ∧ (giveG gS k).map SemG.mo = giveM (gS.map SemG.mo) k := by
 unfold giveC giveG giveMC giveM
 simp only [inR_map]
 by_cases h : inR gS k
 ·simp only [h, if_true, ixR h]
  refine ⟨rfl, ?_⟩
  show List.map SemG.mo (if (ix gS k).most ≤ (ix gS k).count then _ else _) = (if (ix gS k).most ≤ (ix gS k).count then _ else _)
  split
  ·rfl
  ·exact List.map_set
 ·simp only [h, if_false, and_self]
theorem flag_mo : flagC gF k = flagMC (gF.map FlagG.mo) k ∧ (flagG gF k up).map FlagG.mo = flagMs (gF.map FlagG.mo) k up ∧ upB gF k = upM (gF.map FlagG.mo) k := by
 unfold flagC flagG flagMC flagMs upB upM
 simp only [inR_map]
 by_cases h : inR gF k
 ·simp only [h, if_true, ixR h]
  exact ⟨trivial, List.map_set, rfl⟩
 ·simp only [h, if_false, and_self]
theorem putC_mo : putC gP k n = putMC (gP.map PoolG.mo) k n := by
 unfold putC putMC
 simp only [inR_map]
 by_cases h : inR gP k
 ·simp only [h, if_true, ixR h]
  simp only [PoolG.mo, List.length_map]
 ·simp only [h, if_false]
theorem putC_in (h : putC gP k n = 0) : inR gP k := by
 unfold putC at h
 split at h
 ·assumption
 ·cases h
theorem put20_mo : (putG gP k s1 m).map PoolG.mo = putM (gP.map PoolG.mo) k m.d := by
 unfold putG putM
 rw [putC_mo]
 split
 ·rename_i h
  rw [← putC_mo] at h
  rw [ixR (putC_in h), List.map_set]
  congr 1
  simp [PoolG.mo]
 ·rfl
theorem getC_mo : getC gP k = getMC (gP.map PoolG.mo) k := by
 unfold getC getMC
 simp only [inR_map]
 by_cases h : inR gP k
 ·simp only [h, if_true, ixR h]
  simp only [PoolG.mo, List.length_map]
 ·simp only [h, if_false]
theorem getC_in (h : getC gP k = 0) : inR gP k ∧ 0 < (ix gP k).ms.length := by
 unfold getC at h
 split at h
 ·rename_i hr
  refine ⟨hr, ?_⟩
  split at h
  ·cases h
  ·omega
 ·cases h
theorem get_mo : (getG gP k s1).map PoolG.mo = getMs (gP.map PoolG.mo) k ∧ (getM gP k).d = getMD (gP.map PoolG.mo) k := by
 unfold getG getMs getM getMD
 rw [getC_mo]
 split
 ·rename_i h
  rw [← getC_mo] at h
  obtain ⟨h1, h2⟩ := getC_in h
  rw [ixR h1, List.map_set]
  refine ⟨?_, ?_⟩
  ·congr 1
   simp [PoolG.mo]
  ·exact (ix_map (f := SL.d) (by omega) (by omega)).symm
 ·exact ⟨rfl, rfl⟩
theorem showC_mo : showC gL k n = showMC (gL.map SlateG.mo) k n := by
 unfold showC showMC
 simp only [inR_map]
 by_cases h : inR gL k
 ·simp only [h, if_true, ixR h]; rfl
 ·simp only [h, if_false]
theorem showC_in (h : showC gL k n = 0) : inR gL k := by
 unfold showC at h
 split at h
 ·assumption
 ·cases h
theorem show_mo : (showG gL k m).map SlateG.mo = showMs (gL.map SlateG.mo) k m.d := by
 unfold showG showMs
 rw [showC_mo]
 split
 ·rename_i h
  rw [← showC_mo] at h
  rw [ixR (showC_in h), List.map_set]
  congr 1
 ·rfl
theorem lookC_mo : lookC gL k = lookMC (gL.map SlateG.mo) k := by
 unfold lookC lookMC
 simp only [inR_map]
 by_cases h : inR gL k
 ·simp only [h, if_true, ixR h]
  simp only [SlateG.mo]
  by_cases hs : (ix gL k).shown = true <;> simp [hs]
 ·simp only [h, if_false]
theorem look_mo : lookD gL k = lookMD (gL.map SlateG.mo) k := by
 unfold lookD lookMD
 rw [lookC_mo]
 split
 ·rename_i h
  rw [← lookC_mo] at h
  unfold lookC at h
  split at h
  ·rename_i hr
   rw [ixR hr]
   simp only [SlateG.mo]
   by_cases hs : (ix gL k).shown = true
   ·simp [hs]
   ·rw [if_neg hs] at h; cases h
  ·cases h
 ·rfl
theorem wipe_mo : wipeC gL k = wipeMC (gL.map SlateG.mo) k ∧ (wipeG gL k).map SlateG.mo = wipeMs (gL.map SlateG.mo) k := by
 unfold wipeC wipeG wipeMC wipeMs
 simp only [inR_map]
 by_cases h : inR gL k
 ·simp only [h, if_true, ixR h]
  exact ⟨trivial, List.map_set⟩
 ·simp only [h, if_false, and_self]
theorem size_mo {p : Int} : sizeC gP gL p k = sizeMC (gP.map PoolG.mo) (gL.map SlateG.mo) k p := by
 unfold sizeC sizeMC
 simp only [inR_map]
 split
 ·by_cases h : inR gL k
  ·simp only [h, if_true, ixR h]; rfl
  ·simp only [h, if_false]
 ·by_cases h : inR gP p
  ·simp only [h, if_true, ixR h]; rfl
  ·simp only [h, if_false]
end
end Go.Proofs.YtacmaamllpiloaaGreat
namespace Go.Proofs.YtacmaamllpiloaaGreat
open Go Go.Wk
set_option maxHeartbeats 3200000
set_option maxRecDepth 100000
structure okO (c : PartD) (o : ObM) : Prop where
 s : o.sems.map (fun x => x.2.1) = (c.sems.d.take 4).map SemC.most
 f : o.flags.length ≤ 8
 p : o.pools.map (fun x => (x.1, x.2.1)) = (c.pools.d.take 4).map (fun x => (x.size, x.depth))
 l : o.slates.map (fun x => x.1) = c.slates.d.take 4
 n : ∀ x ∈ o.pools, x.2.1 ≤ 16 ∧ x.2.2.length ≤ 16
def newO (c : PartD) : ObM := ⟨(c.sems.d.take 4).map semM, List.replicate (nflags c.flags) false, (c.pools.d.take 4).map poolM, (c.slates.d.take 4).map slateM⟩
section
variable {c : PartD} {o : ObM} {k : Int} {up : Bool} {m : List UInt8}
theorem set_same {α β : Type} [Inhabited α] {f : α → β} {xs : List α} {k : Int} {x : α} (h : inR xs k) (hx : f x = f (ix xs k)) : (xs.set k.toNat x).map f = xs.map f := pt_set h.1 h.2 hx
theorem okO_take (h : okO c o) : okO c { o with sems := takeM o.sems k } := ⟨by
 unfold takeM
 split
 ·rename_i hr
  split
  ·exact h.s
  ·exact (by refine Eq.trans (set_same (f := fun x : SemM => x.2.1) hr ?_) h.s; rfl)
 ·exact h.s, h.f, h.p, h.l, h.n⟩
theorem okO_give (h : okO c o) : okO c { o with sems := giveM o.sems k } := ⟨by
 unfold giveM
 split
 ·rename_i hr
  split
  ·exact h.s
  ·exact (by refine Eq.trans (set_same (f := fun x : SemM => x.2.1) hr ?_) h.s; rfl)
 ·exact h.s, h.f, h.p, h.l, h.n⟩
theorem okO_flag (h : okO c o) : okO c { o with flags := flagMs o.flags k up } := ⟨h.s, by
 unfold flagMs
 split
 ·simpa using h.f
 ·exact h.f, h.p, h.l, h.n⟩
theorem putMC_in {ps : List PoolM} {n : Nat} (h : putMC ps k n = 0) : inR ps k ∧ ((ix ps k).2.2.length : Int) < (ix ps k).2.1 := by
 unfold putMC at h
 split at h
 ·rename_i hr
  refine ⟨hr, ?_⟩
  split at h
  ·split at h
   ·cases h
   ·omega
  ·cases h
 ·cases h
theorem pool_n {ps : List PoolM} (h : ∀ x ∈ ps, x.2.1 ≤ 16 ∧ x.2.2.length ≤ 16) (hr : inR ps k) : (ix ps k).2.1 ≤ 16 ∧ (ix ps k).2.2.length ≤ 16 := h _ (List.mem_of_getElem? (ix_some hr.1 hr.2))
theorem okO_put (h : okO c o) : okO c { o with pools := putM o.pools k m } := by
 unfold putM
 split
 ·rename_i hc
  obtain ⟨hr, hlt⟩ := putMC_in hc
  refine ⟨h.s, h.f, (by refine Eq.trans (set_same (f := fun x : PoolM => (x.1, x.2.1)) hr ?_) h.p; rfl), h.l, fun x hx => ?_⟩
  rcases List.mem_or_eq_of_mem_set hx with h' | rfl
  ·exact h.n x h'
  ·have := pool_n h.n hr
   refine ⟨this.1, ?_⟩
   simp only [List.length_append, List.length_singleton]
   omega
 ·exact ⟨h.s, h.f, h.p, h.l, h.n⟩
theorem getMC_in {ps : List PoolM} (h : getMC ps k = 0) : inR ps k := by
 unfold getMC at h
 split at h
 ·assumption
 ·cases h
theorem okO_get (h : okO c o) : okO c { o with pools := getMs o.pools k } := by
 unfold getMs
 split
 ·rename_i hc
  have hr := getMC_in hc
  refine ⟨h.s, h.f, (by refine Eq.trans (set_same (f := fun x : PoolM => (x.1, x.2.1)) hr ?_) h.p; rfl), h.l, fun x hx => ?_⟩
  rcases List.mem_or_eq_of_mem_set hx with h' | rfl
  ·exact h.n x h'
  ·have := pool_n h.n hr
   refine ⟨this.1, ?_⟩
   simp only [List.length_drop]
   omega
 ·exact ⟨h.s, h.f, h.p, h.l, h.n⟩
theorem okO_show (h : okO c o) : okO c { o with slates := showMs o.slates k m } := ⟨h.s, h.f, h.p, by
 unfold showMs
 split
 ·rename_i hc
  have hr : inR o.slates k := by
   unfold showMC at hc
   split at hc
   ·assumption
   ·cases hc
  exact (by refine Eq.trans (set_same (f := fun x : SlateM => x.1) hr ?_) h.l; rfl)
 ·exact h.l, h.n⟩
theorem okO_wipe (h : okO c o) : okO c { o with slates := wipeMs o.slates k } := ⟨h.s, h.f, h.p, by
 unfold wipeMs
 split
 ·rename_i hr
  exact (by refine Eq.trans (set_same (f := fun x : SlateM => x.1) hr ?_) h.l; rfl)
 ·exact h.l, h.n⟩
theorem okO_new (h : ∀ x ∈ c.pools.d, x.depth ≤ 16) : okO c (newO c) := ⟨by simp [newO, semM, Function.comp_def], by simp [newO]; exact nflags_le _, by simp [newO, poolM, Function.comp_def], by simp [newO, slateM, Function.comp_def], fun x hx => by
 obtain ⟨y, hy, rfl⟩ := List.mem_map.1 hx
 exact ⟨h y (List.mem_of_mem_take hy), Nat.zero_le _⟩⟩
end
structure ObG where
 ss : SV
 fs : SV
 ps : SV
 ls : SV
 gS : List SemG
 gF : List FlagG
 gP : List PoolG
 gL : List SlateG
def objL (b : Nat) (c : PartD) (g : ObG) : List Asrt := [obB b ⟨c.c, g.ss, g.fs, g.ps, g.ls⟩, sl false g.ss.v (g.gS.map SemG.pt), fam semA g.gS, sl false g.fs.v (g.gF.map FlagG.pt), fam flagA g.gF, sl false g.ps.v (g.gP.map PoolG.pt), fam poolA g.gP, sl false g.ls.v (g.gL.map SlateG.pt), fam slateA g.gL,
 sl true c.sems.s.v c.sems.d, sl true c.pools.s.v c.pools.d, sl true c.slates.s.v c.slates.d]
structure ObG.ok (g : ObG) (c : PartD) (o : ObM) : Prop where
 hs : g.gS.map SemG.mo = o.sems
 hf : g.gF.map FlagG.mo = o.flags
 hp : g.gP.map PoolG.mo = o.pools
 hl : g.gL.map SlateG.mo = o.slates
 hm : ∀ x ∈ g.gL, x.shown = true → x.m.d.length ≤ 300
 ho : okO c o
def objX (b : Nat) (c : PartD) (o : ObM) : Asrt := pk (fun g : ObG => objL b c g) (fun g => g.ok c o)
theorem EntR.objX {b : Nat} {c : PartD} {o : ObM} {g : ObG} {d l l2 : List Asrt} (hg : g.ok c o) (h : EntR d l (objL b c g ++ l2)) : EntR d l (Go.Proofs.YtacmaamllpiloaaGreat.objX b c o :: l2) :=
 Imp.trans h (Imp.pk (f := fun g : ObG => objL b c g) (p := fun g => g.ok c o) g hg)
end Go.Proofs.YtacmaamllpiloaaGreat
namespace Go.Proofs.YtacmaamllpiloaaGreat
open Go Go.Wk
set_option maxHeartbeats 3200000
set_option maxRecDepth 100000
attribute [local irreducible] BrK GenK EGenK EUnitK CallK FnK CallV GuardO GuardC CondW opX opK opKc chkR eqR seqK blkK endL WL WD W LoopW BinK Tr drewK resL PickK NotK NilK ExtrK getK Instr.storeAt Instr.loadAt Instr.fieldAt Instr.indexAt Instr.lookup Instr.mapUpdate Instr.box Instr.alloc Instr.build Instr.buildSlice Instr.makeSlice Instr.makeMap Instr.sliceAt Instr.field Instr.index Instr.makeInterface Instr.typeAssert Builtin.len_ Builtin.append_ Builtin.cap_ Builtin.min_ Builtin.max_ Builtin.copy_ Builtin.clear_ convert binOp mp blk rob sl sep ex fact old
section
variable {b : Nat} {c : PartD} {o : ObM} {k p : Int} {up : Bool} {m : List UInt8} {s3 : SV}
theorem ob_pn {g : ObG} (h : g.ok c o) (k : Int) : (ix g.gP k).ms.length ≤ 1000000 := by
 rcases ix_cases g.gP k with hm | hm
 ·have h1 : (ix g.gP k).mo ∈ o.pools := by rw [← h.hp]; exact List.mem_map_of_mem hm
  have := (h.ho.n _ h1).2
  simp only [PoolG.mo, List.length_map] at this
  omega
 ·rw [hm]; exact Nat.zero_le _
theorem ob_ln {g : ObG} (h : g.ok c o) (k : Int) (hs : (ix g.gL k).shown = true) : (ix g.gL k).m.d.length ≤ 1000000 := by
 rcases ix_cases g.gL k with hm | hm
 ·have := h.hm _ hm hs; omega
 ·rw [hm]; exact Nat.zero_le _
theorem sl_m {gL : List SlateG} {k : Int} {x : SlateG} (h : ∀ x ∈ gL, x.shown = true → x.m.d.length ≤ 300) (hx : x.m.d.length ≤ 300) : ∀ y ∈ gL.set k.toNat x, y.shown = true → y.m.d.length ≤ 300 := fun y hy => by
 rcases List.mem_or_eq_of_mem_set hy with h' | rfl
 ·exact h y h'
 ·exact fun _ => hx
theorem xtake_ok : Trip Tryz.prog 172 [.pointer (some ⟨b, 0, none⟩), .int .i64 k].toArray [objX b c o]
  fun v l' => v = .int .i64 (takeMC o.sems k) ∧ l' = [objX b c { o with sems := takeM o.sems k }] := by
 refine Trip.pk fun g hg F K hK => ?_
 simp only [objL, List.cons_append, List.nil_append]
 refine S.c ?_ (h := take_ok)
 rintro _ _ ⟨rfl, rfl⟩
 refine Tr.fin hK ⟨by rw [take_mo.1, hg.hs], rfl⟩ ?_
 refine EntR.objX (g := { g with gS := takeG g.gS k }) ⟨by rw [take_mo.2, hg.hs], hg.hf, hg.hp, hg.hl, hg.hm, okO_take hg.ho⟩ ?_
 simp only [objL, List.append_eq, List.cons_append, List.nil_append]
 exact S.E
theorem xgive_ok : Trip Tryz.prog 173 [.pointer (some ⟨b, 0, none⟩), .int .i64 k].toArray [objX b c o]
  fun v l' => v = .int .i64 (giveMC o.sems k) ∧ l' = [objX b c { o with sems := giveM o.sems k }] := by
 refine Trip.pk fun g hg F K hK => ?_
 simp only [objL, List.cons_append, List.nil_append]
 refine S.c ?_ (h := give_ok)
 rintro _ _ ⟨rfl, rfl⟩
 refine Tr.fin hK ⟨by rw [give_mo.1, hg.hs], rfl⟩ ?_
 refine EntR.objX (g := { g with gS := giveG g.gS k }) ⟨by rw [give_mo.2, hg.hs], hg.hf, hg.hp, hg.hl, hg.hm, okO_give hg.ho⟩ ?_
 simp only [objL, List.append_eq, List.cons_append, List.nil_append]
 exact S.E
theorem xflag_ok : Trip Tryz.prog 174 [.pointer (some ⟨b, 0, none⟩), .int .i64 k, .bool up].toArray [objX b c o]
  fun v l' => v = .int .i64 (flagMC o.flags k) ∧ l' = [objX b c { o with flags := flagMs o.flags k up }] := by
 refine Trip.pk fun g hg F K hK => ?_
 simp only [objL, List.cons_append, List.nil_append]
 refine S.c ?_ (h := flag_ok)
 rintro _ _ ⟨rfl, rfl⟩
 refine Tr.fin hK ⟨by rw [(flag_mo (up := up)).1, hg.hf], rfl⟩ ?_
 refine EntR.objX (g := { g with gF := flagG g.gF k up }) ⟨hg.hs, by rw [flag_mo.2.1, hg.hf], hg.hp, hg.hl, hg.hm, okO_flag hg.ho⟩ ?_
 simp only [objL, List.append_eq, List.cons_append, List.nil_append]
 exact S.E
theorem xup_ok : Trip Tryz.prog 170 [.pointer (some ⟨b, 0, none⟩), .int .i64 k].toArray [objX b c o]
  fun v l' => v = .tuple #[.bool (upM o.flags k), .int .i64 (flagMC o.flags k)] ∧ l' = [objX b c o] := by
 refine Trip.pk fun g hg F K hK => ?_
 simp only [objL, List.cons_append, List.nil_append]
 refine S.c ?_ (h := up_ok)
 rintro _ _ ⟨rfl, rfl⟩
 refine Tr.fin hK ⟨by rw [(flag_mo (up := true)).1, (flag_mo (up := true)).2.2, hg.hf], rfl⟩ ?_
 refine EntR.objX (g := g) hg ?_
 simp only [objL, List.append_eq, List.cons_append, List.nil_append]
 exact S.E
theorem xoput_ok (hm : m.length ≤ 300) : Trip Tryz.prog 179 [.pointer (some ⟨b, 0, none⟩), .int .i64 k, s3.v].toArray [objX b c o, sl true s3.v m]
  fun v l' => v = .int .i64 (putMC o.pools k m.length) ∧ l' = [objX b c { o with pools := putM o.pools k m }] := by
 refine Trip.pk fun g hg F K hK => ?_
 simp only [objL, List.cons_append, List.nil_append]
 refine S.c ?_ (h := oput_ok (by omega) (ob_pn hg k))
 rintro _ _ ⟨s1, s2, rfl, rfl⟩
 refine Tr.fin hK ⟨by rw [putC_mo, hg.hp], rfl⟩ ?_
 refine EntR.objX (g := { g with gP := putG g.gP k s1 ⟨s2, m⟩ }) ⟨hg.hs, hg.hf, by rw [put20_mo, hg.hp], hg.hl, hg.hm, okO_put hg.ho⟩ ?_
 simp only [objL, List.append_eq, List.cons_append, List.nil_append]
 exact S.E
theorem xget_ok : Trip Tryz.prog 177 [.pointer (some ⟨b, 0, none⟩), .int .i64 k].toArray [objX b c o]
  fun v l' => ∃ t : SV, v = .tuple #[t.v, .int .i64 (getMC o.pools k)] ∧ l' = [objX b c { o with pools := getMs o.pools k }, Fz.fz (SL.mk t (getMD o.pools k) : Msg)] := by
 refine Trip.pk fun g hg F K hK => ?_
 simp only [objL, List.cons_append, List.nil_append]
 refine S.c ?_ (h := get_ok)
 rintro _ _ ⟨s1, rfl, rfl⟩
 refine Tr.fin hK ⟨(getM g.gP k).s, by rw [getC_mo, hg.hp], rfl⟩ ?_
 refine EntR.objX (g := { g with gP := getG g.gP k s1 }) ⟨hg.hs, hg.hf, by rw [get_mo.1, hg.hp], hg.hl, hg.hm, okO_get hg.ho⟩ ?_
 simp only [objL, List.append_eq, List.cons_append, List.nil_append]
 have hX : getMD o.pools k = (getM g.gP k).d := by rw [(get_mo (s1 := s1)).2, hg.hp]
 exact S.E
theorem xshow_ok (hm : m.length ≤ 300) : Trip Tryz.prog 182 [.pointer (some ⟨b, 0, none⟩), .int .i64 k, s3.v].toArray [objX b c o, sl true s3.v m]
  fun v l' => v = .int .i64 (showMC o.slates k m.length) ∧ l' = [objX b c { o with slates := showMs o.slates k m }] := by
 refine Trip.pk fun g hg F K hK => ?_
 simp only [objL, List.cons_append, List.nil_append]
 refine S.c ?_ (h := show_ok (by omega))
 rintro _ _ ⟨s2, rfl, rfl⟩
 refine Tr.fin hK ⟨by rw [showC_mo, hg.hl], rfl⟩ ?_
 refine EntR.objX (g := { g with gL := showG g.gL k ⟨s2, m⟩ }) ⟨hg.hs, hg.hf, hg.hp, by rw [show_mo, hg.hl], by unfold showG; split; exact sl_m hg.hm hm; exact hg.hm, okO_show hg.ho⟩ ?_
 simp only [objL, List.append_eq, List.cons_append, List.nil_append]
 exact S.E
theorem look_un {ob : ObW} {gs : List SlateG} (hu : ¬ (ix gs k).shown = true) : Trip Tryz.prog 181 [.pointer (some ⟨b, 0, none⟩), .int .i64 k].toArray [obB b ob, fam slateA gs, sl false ob.ls.v (gs.map SlateG.pt)]
  fun v l' => ∃ s2 : SV, v = .tuple #[s2.v, .int .i64 (lookC gs k)] ∧ l' = [obB b ob, fam slateA gs, sl false ob.ls.v (gs.map SlateG.pt), sl true s2.v (lookD gs k)] := by
 intro F K hK
 simp only [List.cons_append, List.nil_append]
 have hu' : (ix gs k).shown = false := by simpa using hu
 by_cases h : inR gs k
 ·have ⟨h0, h1⟩ := h
  have hc : lookC gs k = 1 := by unfold lookC; rw [if_pos h, hu']; rfl
  have hd : lookD gs k = [] := by unfold lookD; rw [hc]; rfl
  rw [hc, hd] at hK
  refine Tr.famAt (A := slateA) k S.K h0 h1 ?_
  refine slateA_open ?_
  (refine Tr.enter (rs := [.tmp 4, .tmp 5]) mixed fn181 rfl (by simp +arith [Tryz.ntmps181]) fun u => ?_; simp only [cd181, Tryz.f181])
  have hX := And.intro @pl181.eq_def @hu'; repeat' (first | refine S.x ?_ | (refine G.call 234 ?_; first | refine S.c ?_ (h := slate_in (by omega) (by omega)) | fail) | rintro _ _ ⟨rfl, rfl⟩ | fail)
  all_goals
   refine Tr.fin hK ⟨⟨none, 0, 0⟩, rfl, rfl⟩ ?_
   have hX := And.intro hu' @slateA.eq_def
   exact S.E
 ·have hc : lookC gs k = 3 := by unfold lookC; rw [if_neg h]
  have hd : lookD gs k = [] := by unfold lookD; rw [hc]; rfl
  rw [hc, hd] at hK
  have h' := h
  unfold inR at h'
  (refine Tr.enter (rs := [.tmp 4, .tmp 5]) mixed fn181 rfl (by simp +arith [Tryz.ntmps181]) fun u => ?_; simp only [cd181, Tryz.f181])
  have hX := @pl181.eq_def; repeat' (first | refine S.x ?_ | (refine G.call 234 ?_; first | refine S.c ?_ (h := slate_out (by omega))) | rintro _ _ ⟨rfl, rfl⟩ | fail)
  all_goals exact Tr.fin hK ⟨⟨none, 0, 0⟩, rfl, rfl⟩ S.E
theorem xlook_ok : Trip Tryz.prog 181 [.pointer (some ⟨b, 0, none⟩), .int .i64 k].toArray [objX b c o]
  fun v l' => ∃ t : SV, v = .tuple #[t.v, .int .i64 (lookMC o.slates k)] ∧ l' = [objX b c o, sl true t.v (lookMD o.slates k)] := by
 refine Trip.pk fun g hg F K hK => ?_
 simp only [objL, List.cons_append, List.nil_append]
 have hX : lookMD o.slates k = lookD g.gL k := by rw [look_mo, hg.hl]
 by_cases hs : (ix g.gL k).shown = true
 ·refine S.c ?_ (h := look_ok (ob_ln hg k hs))
  rintro _ _ ⟨t, rfl, rfl⟩
  refine Tr.fin hK ⟨t, by rw [lookC_mo, hg.hl], rfl⟩ ?_
  refine EntR.objX (g := g) hg ?_
  simp only [objL, List.append_eq, List.cons_append, List.nil_append]
  exact S.E
 ·refine S.c ?_ (h := look_un hs)
  rintro _ _ ⟨t, rfl, rfl⟩
  refine Tr.fin hK ⟨t, by rw [lookC_mo, hg.hl], rfl⟩ ?_
  refine EntR.objX (g := g) hg ?_
  simp only [objL, List.append_eq, List.cons_append, List.nil_append]
  exact S.E
theorem xwipe_ok : Trip Tryz.prog 180 [.pointer (some ⟨b, 0, none⟩), .int .i64 k].toArray [objX b c o]
  fun v l' => v = .int .i64 (wipeMC o.slates k) ∧ l' = [objX b c { o with slates := wipeMs o.slates k }] := by
 refine Trip.pk fun g hg F K hK => ?_
 simp only [objL, List.cons_append, List.nil_append]
 refine S.c ?_ (h := wipe_ok)
 rintro _ _ ⟨rfl, rfl⟩
 refine Tr.fin hK ⟨by rw [wipe_mo.1, hg.hl], rfl⟩ ?_
 refine EntR.objX (g := { g with gL := wipeG g.gL k }) ⟨hg.hs, hg.hf, hg.hp, by rw [wipe_mo.2, hg.hl], by unfold wipeG; split; exact sl_m hg.hm (Nat.zero_le _); exact hg.hm, okO_wipe hg.ho⟩ ?_
 simp only [objL, List.append_eq, List.cons_append, List.nil_append]
 exact S.E
theorem xosize_ok : Trip Tryz.prog 175 [.pointer (some ⟨b, 0, none⟩), .int .i64 p, .int .i64 k].toArray [objX b c o]
  fun v l' => v = .int .i64 (sizeMC o.pools o.slates k p) ∧ l' = [objX b c o] := by
 refine Trip.pk fun g hg F K hK => ?_
 simp only [objL, List.cons_append, List.nil_append]
 refine S.c ?_ (h := size_ok)
 rintro _ _ ⟨rfl, rfl⟩
 refine Tr.fin hK ⟨by rw [size_mo, hg.hp, hg.hl], rfl⟩ ?_
 refine EntR.objX (g := g) hg ?_
 simp only [objL, List.append_eq, List.cons_append, List.nil_append]
 exact S.E
end
end Go.Proofs.YtacmaamllpiloaaGreat
namespace Go.Proofs.YtacmaamllpiloaaGreat
open Go Go.Wk
set_option maxHeartbeats 3200000
set_option maxRecDepth 100000
attribute [local irreducible] BrK GenK EGenK EUnitK CallK FnK CallV GuardO GuardC CondW opX opK opKc chkR eqR seqK blkK endL WL WD W LoopW BinK Tr drewK resL PickK NotK NilK ExtrK getK Instr.storeAt Instr.loadAt Instr.fieldAt Instr.indexAt Instr.lookup Instr.mapUpdate Instr.box Instr.alloc Instr.build Instr.buildSlice Instr.makeSlice Instr.makeMap Instr.sliceAt Instr.field Instr.index Instr.makeInterface Instr.typeAssert Builtin.len_ Builtin.append_ Builtin.cap_ Builtin.min_ Builtin.max_ Builtin.copy_ Builtin.clear_ convert binOp mp blk rob sl sep ex fact old
section
variable {b : Nat} {c : PartD} {o : ObM}
theorem mo_none {cs : List Int} {g4 : List SlateG} (h : g4.map SlateG.mo = (cs.take 4).map slateM) : ∀ x ∈ g4, x.shown = true → x.m.d.length ≤ 300 := fun x hx hs => by
 have h1 : x.mo ∈ g4.map SlateG.mo := List.mem_map_of_mem hx
 rw [h] at h1
 obtain ⟨y, _, he⟩ := List.mem_map.1 h1
 have h2 := congrArg (fun p => p.2) he
 simp only [slateM, SlateG.mo, hs, if_true] at h2
 cases h2
theorem xoclear_ok (hd : ∀ x ∈ c.pools.d, x.depth ≤ 16) : Trip Tryz.prog 115 [.pointer (some ⟨b, 0, none⟩)].toArray [objX b c o]
  fun v l' => v = .tuple #[] ∧ l' = [objX b c (newO c)] := by
 refine Trip.pk fun g hg F K hK => ?_
 simp only [objL, List.cons_append, List.nil_append]
 have h0 : Trip Tryz.prog 115 [.pointer (some ⟨b, 0, none⟩)].toArray [obB b ⟨c.c, g.ss, g.fs, g.ps, g.ls⟩, sl true c.sems.s.v c.sems.d, sl true c.pools.s.v c.pools.d, sl true c.slates.s.v c.slates.d] _ := clear_ok (b := b) (c := c.c) (cs := c.sems.d) (ps := c.pools.d) (ls := c.slates.d)
 refine S.c ?_ (h := h0)
 rintro _ _ ⟨s1, s2, s3, s4, g1, g2, g3, g4, h1, h2, h3, h4, rfl, rfl⟩
 refine Tr.fin hK ⟨rfl, rfl⟩ ?_
 refine EntR.objX (g := ⟨s1, s2, s3, s4, g1, g2, g3, g4⟩) ⟨h1, h2, h3, h4, mo_none h4, okO_new hd⟩ ?_
 simp only [objL, List.append_eq, List.cons_append, List.nil_append]
 exact S.E
theorem xonew_ok {u0 : Value} [hu : DeA u0 c] (hd : ∀ x ∈ c.pools.d, x.depth ≤ 16) : Trip Tryz.prog 54 [u0].toArray [sl true c.sems.s.v c.sems.d, sl true c.pools.s.v c.pools.d, sl true c.slates.s.v c.slates.d]
  fun v l' => ∃ b : Nat, v = .pointer (some ⟨b, 0, none⟩) ∧ l' = [objX b c (newO c)] := by
 intro F K hK
 simp only [List.cons_append, List.nil_append]
 haveI : DeA u0 c.c := ⟨hu.h⟩
 have h0 : Trip Tryz.prog 54 [u0].toArray [sl true c.sems.s.v c.sems.d, sl true c.pools.s.v c.pools.d, sl true c.slates.s.v c.slates.d] _ := onew_ok (u0 := u0) (c := c.c) (cs := c.sems.d) (ps := c.pools.d) (ls := c.slates.d)
 refine S.c ?_ (h := h0)
 rintro _ _ ⟨b, s1, s2, s3, s4, g1, g2, g3, g4, h1, h2, h3, h4, rfl, rfl⟩
 refine Tr.fin hK ⟨b, rfl, rfl⟩ ?_
 refine EntR.objX (g := ⟨s1, s2, s3, s4, g1, g2, g3, g4⟩) ⟨h1, h2, h3, h4, mo_none h4, okO_new hd⟩ ?_
 simp only [objL, List.append_eq, List.cons_append, List.nil_append]
 exact S.E
end
end Go.Proofs.YtacmaamllpiloaaGreat
namespace Go.Proofs.YtacmaamllpiloaaGreat
open Go Go.Wk
set_option maxHeartbeats 64000000
set_option maxRecDepth 10000
instance elt_msgss_o : ElT 137 (SL Msg) := ⟨⟩
abbrev rOB (b : Nat) (o : ObW) : Asrt := blk b (.cells [o.c.regions.v, o.c.procs.v, o.c.ports.v, o.c.sems.v, .int .i64 o.c.flags, o.c.pools.v, o.c.slates.v, .int .i64 o.c.cap, .int .i64 o.c.budget, .int .i64 o.c.ladder, o.c.acts.v, o.ss.v, o.fs.v, o.ps.v, o.ls.v].toArray 201 (0, 0))
attribute [local irreducible] BrK GenK EGenK EUnitK CallK FnK CallV GuardO GuardC CondW opX opK opKc chkR eqR seqK blkK endL WL WD W LoopW BinK Tr drewK resL PickK NotK NilK ExtrK getK Instr.storeAt Instr.loadAt Instr.fieldAt Instr.indexAt Instr.lookup Instr.mapUpdate Instr.box Instr.alloc Instr.build Instr.buildSlice Instr.makeSlice Instr.makeMap Instr.sliceAt Instr.field Instr.index Instr.makeInterface Instr.typeAssert Builtin.len_ Builtin.append_ Builtin.cap_ Builtin.min_ Builtin.max_ Builtin.copy_ Builtin.clear_ convert binOp mp blk rob sl sep ex fact old
end Go.Proofs.YtacmaamllpiloaaGreat
namespace Go.Proofs.YtacmaamllpiloaaGreat
open Go Go.Wk
set_option maxHeartbeats 6400000
set_option maxRecDepth 10000
def omo (x : SL Msg) : List (List UInt8) := x.d.map SL.d
def PoolG.mm (g : PoolG) : List (List UInt8) := g.ms.map SL.d
def SlateG.mm (g : SlateG) : List (List UInt8) := if g.shown = true then [g.m.d] else []
attribute [local irreducible] BrK GenK EGenK EUnitK CallK FnK CallV GuardO GuardC CondW opX opK opKc chkR eqR seqK blkK endL WL WD W LoopW BinK Tr drewK resL PickK NotK NilK ExtrK getK Instr.storeAt Instr.loadAt Instr.fieldAt Instr.indexAt Instr.lookup Instr.mapUpdate Instr.box Instr.alloc Instr.build Instr.buildSlice Instr.makeSlice Instr.makeMap Instr.sliceAt Instr.field Instr.index Instr.makeInterface Instr.typeAssert Builtin.len_ Builtin.append_ Builtin.cap_ Builtin.min_ Builtin.max_ Builtin.copy_ Builtin.clear_ convert binOp mp blk rob sl sep ex fact old
end Go.Proofs.YtacmaamllpiloaaGreat
namespace Go.Proofs.YtacmaamllpiloaaGreat
open Go Go.Wk
set_option maxHeartbeats 6400000
set_option maxRecDepth 10000
attribute [local irreducible] BrK GenK EGenK EUnitK CallK FnK CallV GuardO GuardC CondW opX opK opKc chkR eqR seqK blkK endL WL WD W LoopW BinK Tr drewK resL PickK NotK NilK ExtrK getK Instr.storeAt Instr.loadAt Instr.fieldAt Instr.indexAt Instr.lookup Instr.mapUpdate Instr.box Instr.alloc Instr.build Instr.buildSlice Instr.makeSlice Instr.makeMap Instr.sliceAt Instr.field Instr.index Instr.makeInterface Instr.typeAssert Builtin.len_ Builtin.append_ Builtin.cap_ Builtin.min_ Builtin.max_ Builtin.copy_ Builtin.clear_ convert binOp mp blk rob sl sep ex fact old
theorem rleast_ok {a b : Int} : Trip Tryz.prog 119 [.int .i64 a, .int .i64 b].toArray [] fun v l' => v = .int .i64 (if a < b then a else b) ∧ l' = [] := by
 intro F K hK
 simp only [List.nil_append]
 (refine Tr.enter (rs := [.tmp 4]) mixed fn119 rfl (by simp +arith [Tryz.ntmps119]) fun u => ?_; simp only [cd119, Tryz.f119])
 ((try simp only [WKb, ↓reduceIte, Nat.reduceEqDiff, Nat.reduceAdd]) <;> (repeat' ((first
  | (refine G.tr ?_; first | (refine S.s (fun hb => ?_) (fun hb => ?_) <;> ((try simp only [hb]) <;> (try (have hp := hb; simp only [WKs] at hp; (try have hq := Int.not_le.2 hp); (try have hq := Int.not_lt.2 hp))))))
  | fail) <;> (try simp only [WKb, ↓reduceIte, Nat.reduceEqDiff]))))
 all_goals
  refine Tr.fin hK ⟨(by first | (simp [*]; done) | fail), rfl⟩ ?_
  ((try clear hK) <;> (try simp only [WKe, *]) <;> repeat (first | with_reducible exact EntR.done | fail))
end Go.Proofs.YtacmaamllpiloaaGreat
