import Derived.Test.YtacmaamllpiloaaGreatZ27
import Derived.Test.YtacmaamllpiloaaGreatZ19
namespace Go.Proofs.YtacmaamllpiloaaGreat
open Go Go.Wk
set_option maxHeartbeats 6400000
set_option maxRecDepth 10000
theorem least4 (n : Nat) : (if (n : Int) < 4 then (n : Int) else 4) = ((min 4 n : Nat) : Int) := by split <;> omega
theorem least8 (n : Int) : (if n < 8 then n else 8) = min n 8 := by split <;> omega
attribute [local irreducible] BrK GenK EGenK EUnitK CallK FnK CallV GuardO GuardC CondW opX opK opKc chkR eqR seqK blkK endL WL WD W LoopW BinK Tr drewK resL PickK NotK NilK ExtrK getK Instr.storeAt Instr.loadAt Instr.fieldAt Instr.indexAt Instr.lookup Instr.mapUpdate Instr.box Instr.alloc Instr.build Instr.buildSlice Instr.makeSlice Instr.makeMap Instr.sliceAt Instr.field Instr.index Instr.makeInterface Instr.typeAssert Builtin.len_ Builtin.append_ Builtin.cap_ Builtin.min_ Builtin.max_ Builtin.copy_ Builtin.clear_ convert binOp mp blk rob sl sep ex fact old
theorem rnew20_ok {u0 : Value} {c : PartC} [hd : DeA u0 c] {cs : List SemC} {cp : List PoolC} {cl : List Int} : Trip Tryz.prog 63 [u0].toArray [sl true c.sems.v cs, sl true c.pools.v cp, sl true c.slates.v cl]
  fun v l' => ∃ r s1 s2 s3 s4, v = .pointer (some ⟨r, 0, none⟩) ∧ l' = [rOB r ⟨c, s1, s2, s3, s4⟩, sl false (SV.v s1) ((cs.take 4).map SemC.first), sl false (SV.v s2) (List.replicate (nflags c.flags) false),
   sl false (SV.v s3) (List.replicate (min 4 cp.length) (default : SL Msg)), fzl (List.replicate (min 4 cp.length) (default : SL Msg)), sl false (SV.v s4) (List.replicate (min 4 cl.length) (default : SL Msg)), fzl (List.replicate (min 4 cl.length) (default : SL Msg))] := by
 obtain rfl := hd.h
 intro F K hK
 simp only [List.cons_append, List.nil_append]
 obtain ⟨c1, c2, c3, c4, c5, c6, c7, c8, c9, c10, c11⟩ := c
 (refine Tr.enter (rs := [.tmp 2]) mixed fn63 rfl (by simp +arith [Tryz.ntmps63]) fun u => ?_; simp only [cd63, Tryz.f63])
 ((try simp only [WKb, ↓reduceIte]) <;> (repeat' ((first
  | (refine G.tr ?_; first | refine S.a ?_ | refine S.n fun _ => ?_ | fail)
  | fail) <;> (try simp only [WKb, WKh, ↓reduceIte, Nat.reduceEqDiff]))))
 rename_i pb r
 refine Tr.loopE (α := Nat × SV) [4] [1, 2, 3] (fun x => [.int .i64 x.1]) (fun x => [rOB r ⟨⟨c1, c2, c3, c4, c5, c6, c7, c8, c9, c10, c11⟩, x.2, ⟨none, 0, 0⟩, ⟨none, 0, 0⟩, ⟨none, 0, 0⟩⟩, sl false x.2.v ((cs.take x.1).map SemC.first)])
  (fun x => x.1 ≤ min 4 cs.length) (fun x => min 4 cs.length - x.1) (0, ⟨none, 0, 0⟩) (by (repeat (first | exact TakeL.nil | (apply TakeL.cons; focus ((first | ((repeat (first | exact TakeA.here | apply TakeA.next)); done) | exact TakeA.nilS))) | fail)); done) rfl (by simp) fun x u hx => ?_
 obtain ⟨k, sa⟩ := x
 simp only at hx ⊢
 by_cases hk : k < min 4 cs.length
 ·have hw := wrapSucc (k := k) (by omega)
  have htk : (cs.take (k + 1)).map SemC.first = (cs.take k).map SemC.first ++ [(ix cs (k : Int)).first] := by rw [take_ix (by omega), List.map_append]; rfl
  have hlk : ((cs.take k).map SemC.first).length = k := by simp; omega
  ((try simp only [WKb, ↓reduceIte, Nat.reduceEqDiff]) <;> (repeat' ((first
  | (refine G.tr ?_; first | refine S.a ?_ | (refine G.call 119 ?_; refine S.c ?_ (h := rleast_ok)) | refine S.n fun _ => ?_ | refine S.i fun hix => ?_ | fail)
  | rintro _ _ ⟨rfl, rfl⟩
  | fail) <;> (try simp only [WKb, ↓reduceIte, Nat.reduceEqDiff, Nat.reduceAdd, pl63, least4, hw]))))
  all_goals (apply Tr.againE (k + 1, _); (focus (simp only [WKb, ↓reduceIte, Nat.reduceEqDiff])); (focus ((try simp only [WKb, ↓reduceIte]); (all_goals ((repeat (refine cons_eq (by first | rfl | ((try clear hK) <;> first | (simp [*, htk]; done) | (simp [*, htk]; omega) | (simp [*, htk] <;> (try split) <;> simp_all <;> omega))) ?_)); rfl)); done)); (focus (first | omega | fail)); (focus (first | omega | fail)); (focus (((try clear hK) <;> (try simp only [WKe, *]) <;> repeat (first | with_reducible exact EntR.done | refine S.e ?_ | refine EntR.drop (F := F) ?_ | fail)))))
 ·have hkk : k = min 4 cs.length := by omega
  have ht4 : cs.take k = cs.take 4 := by subst hkk; exact (List.take_eq_take_min).symm
  ((try simp only [WKb, ↓reduceIte, Nat.reduceEqDiff]) <;> (repeat' ((first
  | (refine G.tr ?_; first | refine S.a ?_ | (refine G.call 119 ?_; refine S.c ?_ (h := rleast_ok)) | fail)
  | rintro _ _ ⟨rfl, rfl⟩
  | fail) <;> (try simp only [WKb, ↓reduceIte, Nat.reduceEqDiff, least4]))))
  refine Tr.loopE (α := Nat × SV) [5] [1, 2, 3] (fun x => [.int .i64 x.1]) (fun x => [rOB r ⟨⟨c1, c2, c3, c4, c5, c6, c7, c8, c9, c10, c11⟩, sa, x.2, ⟨none, 0, 0⟩, ⟨none, 0, 0⟩⟩, sl false x.2.v (List.replicate x.1 false)])
   (fun x => x.1 ≤ nflags c5) (fun x => nflags c5 - x.1) (0, ⟨none, 0, 0⟩) (by (repeat (first | exact TakeL.nil | (apply TakeL.cons; focus ((first | ((repeat (first | with_reducible exact TakeA.here | with_reducible apply TakeA.next)); done) | exact TakeA.nilS))) | fail)); done) rfl (by simp) fun y u2 hy => ?_
  obtain ⟨j, sb⟩ := y
  simp only at hy ⊢
  have hn8 := nflags_le c5
  have hnf : (nflags c5 : Int) = max 0 (min c5 8) := by unfold nflags; omega
  by_cases hj : j < nflags c5
  ·have hw := wrapSucc (k := j) (by omega)
   have hrp : List.replicate (j + 1) false = List.replicate j false ++ [false] := List.replicate_succ'
   ((try simp only [WKb, ↓reduceIte, Nat.reduceEqDiff]) <;> (repeat' ((first
  | (refine G.tr ?_; first | refine S.a ?_ | (refine G.call 119 ?_; refine S.c ?_ (h := rleast_ok)) | refine S.n fun _ => ?_ | fail)
  | rintro _ _ ⟨rfl, rfl⟩
  | fail) <;> (try simp only [WKb, ↓reduceIte, Nat.reduceEqDiff, Nat.reduceAdd, least8, hw]))))
   all_goals (apply Tr.againE (j + 1, _); (focus (simp only [WKb, ↓reduceIte, Nat.reduceEqDiff])); (focus ((try simp only [WKb, ↓reduceIte]); (all_goals ((repeat (refine cons_eq (by first | rfl | ((try clear hK) <;> first | (simp [*, hrp]; done) | (simp [*, hrp]; omega) | (simp [*, hrp] <;> (try split) <;> simp_all <;> omega))) ?_)); rfl)); done)); (focus (first | omega | fail)); (focus (first | omega | fail)); (focus (((try clear hK) <;> (try simp only [WKe, *]) <;> repeat (first | with_reducible exact EntR.done | refine S.e ?_ | refine EntR.drop (F := F) ?_ | fail)))))
  ·have hjj : j = nflags c5 := by omega
   have hd0 : (((min 4 cp.length : Nat) : Int)).toNat = min 4 cp.length := rfl
   ((try simp only [WKb, ↓reduceIte, Nat.reduceEqDiff]) <;> (repeat' ((first
  | (refine G.tr ?_; first | refine S.a ?_ | (refine G.call 119 ?_; refine S.c ?_ (h := rleast_ok)) | refine S.n fun _ => ?_ | fail)
  | rintro _ _ ⟨rfl, rfl⟩
  | fail) <;> (try simp only [WKb, ↓reduceIte, Nat.reduceEqDiff, Nat.reduceAdd, least8, least4]))))
   all_goals
    clear hkk hk hx
    apply Tr.fin hK ⟨_, _, _, _, _, rfl, rfl⟩
    ((try clear hK) <;> (try simp only [WKe, *]) <;> repeat (first | with_reducible exact EntR.done | refine S.e ?_ | refine EntR.drop (F := F) ?_ | fail))
end Go.Proofs.YtacmaamllpiloaaGreat
namespace Go.Proofs.YtacmaamllpiloaaGreat
open Go Go.Wk
set_option maxHeartbeats 3200000
set_option maxRecDepth 100000
structure RoG where
 a : SV
 b : SV
 cc : SV
 d : SV
 gS : List SemG
 gF : List FlagG
 gP : List PoolG
 gL : List SlateG
 xs : List (SL Msg)
 ys : List (SL Msg)
def robjL (r : Nat) (c : PartD) (g : RoG) : List Asrt := [rOB r ⟨c.c, g.a, g.b, g.cc, g.d⟩, sl false g.a.v (g.gS.map SemG.count), sl false g.b.v (g.gF.map FlagG.up), sl false g.cc.v g.xs, fzl g.xs, sl false g.d.v g.ys, fzl g.ys,
 sl true c.sems.s.v c.sems.d, sl true c.pools.s.v c.pools.d, sl true c.slates.s.v c.slates.d]
structure RoG.ok (g : RoG) (c : PartD) (o : ObM) : Prop where
 hs : g.gS.map SemG.mo = o.sems
 hf : g.gF.map FlagG.mo = o.flags
 hp : g.gP.map PoolG.mo = o.pools
 hl : g.gL.map SlateG.mo = o.slates
 hx : g.xs.map omo = g.gP.map PoolG.mm
 hy : g.ys.map omo = g.gL.map SlateG.mm
 ho : okO c o
def robjX (r : Nat) (c : PartD) (o : ObM) : Asrt := pk (fun g : RoG => robjL r c g) (fun g => g.ok c o)
theorem EntR.robjX {r : Nat} {c : PartD} {o : ObM} {g : RoG} {d l l2 : List Asrt} (hg : g.ok c o) (h : EntR d l (robjL r c g ++ l2)) : EntR d l (Go.Proofs.YtacmaamllpiloaaGreat.robjX r c o :: l2) :=
 Imp.trans h (Imp.pk (f := fun g : RoG => robjL r c g) (p := fun g => g.ok c o) g hg)
attribute [local irreducible] BrK GenK EGenK EUnitK CallK FnK CallV GuardO GuardC CondW opX opK opKc chkR eqR seqK blkK endL WL WD W LoopW BinK Tr drewK resL PickK NotK NilK ExtrK getK Instr.storeAt Instr.loadAt Instr.fieldAt Instr.indexAt Instr.lookup Instr.mapUpdate Instr.box Instr.alloc Instr.build Instr.buildSlice Instr.makeSlice Instr.makeMap Instr.sliceAt Instr.field Instr.index Instr.makeInterface Instr.typeAssert Builtin.len_ Builtin.append_ Builtin.cap_ Builtin.min_ Builtin.max_ Builtin.copy_ Builtin.clear_ convert binOp mp blk rob sl sep ex fact old
section
variable {r : Nat} {c : PartD} {o : ObM} {k p : Int} {up : Bool} {m : List UInt8} {s3 : SV}
def PoolG.can (c : PoolC) : PoolG := ⟨0, c.size, c.depth, ⟨none, 0, 0⟩, []⟩
def SlateG.can (n : Int) : SlateG := ⟨0, n, default, false⟩
theorem ro_new {a b cc d : SV} (hd : ∀ x ∈ c.pools.d, x.depth ≤ 16) : (RoG.mk a b cc d ((c.sems.d.take 4).map fun x => SemG.mk' 0 x) ((List.replicate (nflags c.flags) false).map (FlagG.mk 0)) ((c.pools.d.take 4).map PoolG.can) ((c.slates.d.take 4).map SlateG.can)
  (List.replicate (min 4 c.pools.d.length) default) (List.replicate (min 4 c.slates.d.length) default)).ok c (newO c) := by
 refine ⟨?_, ?_, ?_, ?_, ?_, ?_, okO_new hd⟩
 ·simp only [List.map_map]; rfl
 ·simp only [List.map_map]
  show List.map id _ = _
  rw [List.map_id]; rfl
 ·simp only [List.map_map]; rfl
 ·simp only [List.map_map]; rfl
 ·simp only [List.map_map, List.map_replicate]
  show _ = List.map (fun _ => []) _
  simp only [List.map_const', List.length_take]
  rfl
 ·simp only [List.map_map, List.map_replicate]
  show _ = List.map (fun _ => []) _
  simp only [List.map_const', List.length_take]
  rfl
theorem ro_f1 {cs : List SemC} : (cs.map fun x => SemG.mk' 0 x).map SemG.count = cs.map SemC.first := by simp only [List.map_map]; rfl
theorem ro_f2 {n : Nat} : ((List.replicate n false).map (FlagG.mk 0)).map FlagG.up = List.replicate n false := by simp
theorem yonew_ok {u0 : Value} [hu : DeA u0 c] (hd : ∀ x ∈ c.pools.d, x.depth ≤ 16) : Trip Tryz.prog 63 [u0].toArray [sl true c.sems.s.v c.sems.d, sl true c.pools.s.v c.pools.d, sl true c.slates.s.v c.slates.d]
  fun v l' => ∃ b : Nat, v = .pointer (some ⟨b, 0, none⟩) ∧ l' = [robjX b c (newO c)] := by
 intro F K hK
 simp only [List.cons_append, List.nil_append]
 haveI : DeA u0 c.c := ⟨hu.h⟩
 have h0 : Trip Tryz.prog 63 [u0].toArray [sl true c.sems.s.v c.sems.d, sl true c.pools.s.v c.pools.d, sl true c.slates.s.v c.slates.d] _ := rnew20_ok (u0 := u0) (c := c.c) (cs := c.sems.d) (cp := c.pools.d) (cl := c.slates.d)
 refine Tr.imp (TakeA.dupS (v := c.sems.s.v) (xs := c.sems.d)) ?_
 refine Tr.imp (TakeA.dupS (v := c.pools.s.v) (xs := c.pools.d)) ?_
 refine Tr.imp (TakeA.dupS (v := c.slates.s.v) (xs := c.slates.d)) ?_
 refine S.c ?_ (h := h0)
 rintro _ _ ⟨b, s1, s2, s3, s4, rfl, rfl⟩
 refine Tr.fin hK ⟨b, rfl, rfl⟩ ?_
 simp only [List.cons_append, List.nil_append]
 refine EntR.robjX (ro_new (a := s1) (b := s2) (cc := s3) (d := s4) hd) ?_
 simp only [robjL, List.cons_append, List.nil_append, ro_f1, ro_f2]
 have hX : c.c.flags = c.flags := rfl
 exact S.E
end
end Go.Proofs.YtacmaamllpiloaaGreat
namespace Go.Proofs.YtacmaamllpiloaaGreat
open Go Go.Wk
set_option maxHeartbeats 3200000
set_option maxRecDepth 100000
abbrev rslB (r : Nat) (room : Int) (s1 s2 : SV) : Asrt := blk r (.cells [.int .i64 room, s1.v, s2.v].toArray 110 (0, 0))
abbrev hasL (ms : List (Int × Bool)) : List Int := ms.map fun m => m.1
abbrev doneL (ms : List (Int × Bool)) : List Bool := ms.map fun m => m.2
attribute [local irreducible] BrK GenK EGenK EUnitK CallK FnK CallV GuardO GuardC CondW opX opK opKc chkR eqR seqK blkK endL WL WD W LoopW BinK Tr drewK resL PickK NotK NilK ExtrK getK Instr.storeAt Instr.loadAt Instr.fieldAt Instr.indexAt Instr.lookup Instr.mapUpdate Instr.box Instr.alloc Instr.build Instr.buildSlice Instr.makeSlice Instr.makeMap Instr.sliceAt Instr.field Instr.index Instr.makeInterface Instr.typeAssert Builtin.len_ Builtin.append_ Builtin.cap_ Builtin.min_ Builtin.max_ Builtin.copy_ Builtin.clear_ convert binOp mp blk rob sl sep ex fact old
attribute [local irreducible] runL satA
end Go.Proofs.YtacmaamllpiloaaGreat
namespace Go.Proofs.YtacmaamllpiloaaGreat
open Go Go.Wk
set_option maxHeartbeats 3200000
set_option maxRecDepth 100000
def spM (room : Int) (ms : List (Int × Bool)) (k n : Int) : Int := if inR ms k then (if n < 1 then 0 else min3 n room (ix ms k).1) else 0
def spMs (room : Int) (ms : List (Int × Bool)) (k n : Int) : List (Int × Bool) := if inR ms k then (if n < 1 then ms else ms.set k.toNat ((ix ms k).1 - min3 n room (ix ms k).1, (ix ms k).2)) else ms
def setM (ms : List (Int × Bool)) (k : Int) (d : Bool) : List (Int × Bool) := if inR ms k then ms.set k.toNat ((ix ms k).1, d) else ms
instance elt_bools : ElT 69 Bool := ⟨⟩
instance elt_ints : ElT 28 Int := ⟨⟩
theorem done_same {ms : List (Int × Bool)} {k n : Int} (h0 : 0 ≤ k) (h1 : k < ms.length) : doneL (ms.set k.toNat (n, (ix ms k).2)) = doneL ms := pt_set h0 h1 rfl
attribute [local irreducible] BrK GenK EGenK EUnitK CallK FnK CallV GuardO GuardC CondW opX opK opKc chkR eqR seqK blkK endL WL WD W LoopW BinK Tr drewK resL PickK NotK NilK ExtrK getK Instr.storeAt Instr.loadAt Instr.fieldAt Instr.indexAt Instr.lookup Instr.mapUpdate Instr.box Instr.alloc Instr.build Instr.buildSlice Instr.makeSlice Instr.makeMap Instr.sliceAt Instr.field Instr.index Instr.makeInterface Instr.typeAssert Builtin.len_ Builtin.append_ Builtin.cap_ Builtin.min_ Builtin.max_ Builtin.copy_ Builtin.clear_ convert binOp mp blk rob sl sep ex fact old
attribute [local irreducible] runL satA leftA
end Go.Proofs.YtacmaamllpiloaaGreat
namespace Go.Proofs.YtacmaamllpiloaaGreat
open Go Go.Wk
set_option maxHeartbeats 3200000
set_option maxRecDepth 100000
structure SlM where
 room : Int
 ms : List (Int × Bool)
structure okSl (m : SlM) : Prop where
 r : 0 ≤ m.room ∧ m.room ≤ 1000000000000
 h : ∀ x ∈ m.ms, 0 ≤ x.1 ∧ x.1 ≤ 1000000000000
 l : m.ms.length ≤ 100000
def ofM (m : SlM) (k : Int) : Int := if inR m.ms k then (ix m.ms k).1 else 0
def spendM (m : SlM) (k n : Int) : SlM := ⟨m.room - spM m.room m.ms k n, spMs m.room m.ms k n⟩
def finM (m : SlM) (k : Int) : SlM := ⟨m.room, setM m.ms k true⟩
def newSl (c : PartD) : SlM := ⟨if 0 < c.cap then c.cap else 0, c.procs.d.map newS⟩
theorem sl_ix {m : SlM} (h : okSl m) (k : Int) : 0 ≤ (ix m.ms k).1 ∧ (ix m.ms k).1 ≤ 1000000000000 := by
 rcases ix_cases m.ms k with hm | hm
 ·exact h.h _ hm
 ·rw [hm]; exact ⟨by decide, by decide⟩
theorem okSl_spend {m : SlM} {k n : Int} (h : okSl m) : okSl (spendM m k n) := by
 have hi := sl_ix h k
 unfold spendM spM spMs
 split
 ·rename_i hr
  split
  ·exact ⟨by simpa using h.r, h.h, h.l⟩
  ·obtain ⟨m1, m2, m3, m4⟩ := @min3_le n m.room (ix m.ms k).1
   have m5 := m4 (by omega) h.r.1 hi.1
   have := h.r
   refine ⟨by simp only; omega, fun x hx => ?_, by simpa using h.l⟩
   rcases List.mem_or_eq_of_mem_set hx with h' | rfl
   ·exact h.h x h'
   ·simp only; omega
 ·exact ⟨by simpa using h.r, h.h, h.l⟩
theorem okSl_fin {m : SlM} {k : Int} (h : okSl m) : okSl (finM m k) := ⟨h.r, by
 unfold finM setM
 split
 ·intro x hx
  rcases List.mem_or_eq_of_mem_set hx with h' | rfl
  ·exact h.h x h'
  ·exact sl_ix h k
 ·exact h.h, by
 unfold finM setM
 split
 ·simpa using h.l
 ·exact h.l⟩
theorem okSl_new {c : PartD} (h1 : c.cap ≤ 1000000000000) (h2 : ∀ x ∈ c.procs.d, x.cost ≤ 1000000000000) (h3 : c.procs.d.length ≤ 100000) : okSl (newSl c) := ⟨by unfold newSl; simp only; split <;> omega, fun x hx => by
 obtain ⟨y, hy, rfl⟩ := List.mem_map.1 hx
 have := h2 y hy
 unfold newS
 simp only
 split <;> omega, by simpa [newSl] using h3⟩
def slkL (b : Nat) (room : Int) (s : SV) (gs : List OneS) : List Asrt := [slkB b room s, sl false s.v (gs.map OneS.pt), fam oneS gs]
def slkX (b : Nat) (m : SlM) : Asrt := pk (fun g : SV × List OneS => slkL b m.room g.1 g.2) (fun g => g.2.map OneS.mo = m.ms ∧ okSl m)
theorem EntR.slkX {b : Nat} {m : SlM} {s : SV} {gs : List OneS} {d l l2 : List Asrt} (h1 : gs.map OneS.mo = m.ms) (h2 : okSl m) (h : EntR d l (slkL b m.room s gs ++ l2)) : EntR d l (Go.Proofs.YtacmaamllpiloaaGreat.slkX b m :: l2) :=
 Imp.trans h (Imp.pk (f := fun g : SV × List OneS => slkL b m.room g.1 g.2) (p := fun g => g.2.map OneS.mo = m.ms ∧ okSl m) (s, gs) ⟨h1, h2⟩)
def rslkL (r : Nat) (m : SlM) (s1 s2 : SV) : List Asrt := [rslB r m.room s1 s2, sl false s1.v (hasL m.ms), sl false s2.v (doneL m.ms)]
def rslkX (r : Nat) (m : SlM) : Asrt := pk (fun g : SV × SV => rslkL r m g.1 g.2) (fun _ => okSl m)
section
variable {gs : List OneS} {m : SlM} {k n : Int}
theorem os_len (h : gs.map OneS.mo = m.ms) : gs.length = m.ms.length := by rw [← h, List.length_map]
theorem os_of (h : gs.map OneS.mo = m.ms) : ofA gs k = ofM m k := by
 unfold ofA ofM
 rw [← h]
 simp only [inR_map]
 split
 ·rename_i hr; rw [ixR hr]; rfl
 ·rfl
theorem os_ix (h : gs.map OneS.mo = m.ms) (hk : okSl m) : 0 ≤ (ix gs k).has ∧ (ix gs k).has ≤ 1000000000000 := by
 rcases ix_cases gs k with hm | hm
 ·exact hk.h (OneS.mo (ix gs k)) (by rw [← h]; exact List.mem_map_of_mem hm)
 ·rw [hm]; exact ⟨by decide, by decide⟩
theorem os_okI (h : gs.map OneS.mo = m.ms) (hk : okSl m) : ∀ k : Nat, k < gs.length → okI (ix gs (k : Int)).has := fun k _ => by
 have := os_ix (k := (k : Int)) h hk
 unfold okI
 omega
theorem os_sp (h : gs.map OneS.mo = m.ms) : spA m.room gs k n = spM m.room m.ms k n ∧ (spG m.room gs k n).map OneS.mo = spMs m.room m.ms k n := by
 unfold spA spG spM spMs
 rw [← h]
 simp only [inR_map]
 split
 ·rename_i hr
  rw [ixR hr]
  split
  ·exact ⟨rfl, rfl⟩
  ·exact ⟨rfl, List.map_set⟩
 ·exact ⟨rfl, rfl⟩
theorem os_fin (h : gs.map OneS.mo = m.ms) : (finG gs k).map OneS.mo = setM m.ms k true := by
 unfold finG setM
 rw [← h]
 simp only [inR_map]
 split
 ·rename_i hr
  rw [ixR hr, List.map_set]
  rfl
 ·rfl
end
end Go.Proofs.YtacmaamllpiloaaGreat
namespace Go.Proofs.YtacmaamllpiloaaGreat
open Go Go.Wk
set_option maxHeartbeats 3200000
set_option maxRecDepth 100000
attribute [local irreducible] BrK GenK EGenK EUnitK CallK FnK CallV GuardO GuardC CondW opX opK opKc chkR eqR seqK blkK endL WL WD W LoopW BinK Tr drewK resL PickK NotK NilK ExtrK getK Instr.storeAt Instr.loadAt Instr.fieldAt Instr.indexAt Instr.lookup Instr.mapUpdate Instr.box Instr.alloc Instr.build Instr.buildSlice Instr.makeSlice Instr.makeMap Instr.sliceAt Instr.field Instr.index Instr.makeInterface Instr.typeAssert Builtin.len_ Builtin.append_ Builtin.cap_ Builtin.min_ Builtin.max_ Builtin.copy_ Builtin.clear_ convert binOp mp blk rob sl sep ex fact old
section
variable {b r : Nat} {m : SlM} {k n : Int} {c : PartD}
theorem xof_ok : Trip Tryz.prog 40 [.pointer (some ⟨b, 0, none⟩), .int .i64 k].toArray [slkX b m]
  fun v l' => v = .int .i64 (ofM m k) ∧ l' = [slkX b m] := by
 refine Trip.pk fun g hg F K hK => ?_
 obtain ⟨h1, h2⟩ := hg
 simp only [slkL, List.cons_append, List.nil_append]
 refine S.c ?_ (h := of_ok (gs := g.2))
 rintro _ _ ⟨rfl, rfl⟩
 refine Tr.fin hK ⟨by rw [os_of h1], rfl⟩ ?_
 refine EntR.slkX (s := g.1) h1 h2 ?_
 simp only [slkL, List.append_eq, List.cons_append, List.nil_append]
 exact S.E
theorem xroom_ok : Trip Tryz.prog 41 [.pointer (some ⟨b, 0, none⟩)].toArray [slkX b m]
  fun v l' => v = .int .i64 m.room ∧ l' = [slkX b m] := by
 refine Trip.pk fun g hg F K hK => ?_
 obtain ⟨h1, h2⟩ := hg
 simp only [slkL, List.cons_append, List.nil_append]
 refine S.c ?_ (h := sroom_ok)
 rintro _ _ ⟨rfl, rfl⟩
 refine Tr.fin hK ⟨rfl, rfl⟩ ?_
 refine EntR.slkX (s := g.1) h1 h2 ?_
 simp only [slkL, List.append_eq, List.cons_append, List.nil_append]
 exact S.E
theorem xspend_ok : Trip Tryz.prog 43 [.pointer (some ⟨b, 0, none⟩), .int .i64 k, .int .i64 n].toArray [slkX b m]
  fun v l' => v = .int .i64 (spM m.room m.ms k n) ∧ l' = [slkX b (spendM m k n)] := by
 refine Trip.pk fun g hg F K hK => ?_
 obtain ⟨h1, h2⟩ := hg
 simp only [slkL, List.cons_append, List.nil_append]
 refine S.c ?_ (h := spend_ok (gs := g.2) h2.r (os_ix h1 h2))
 rintro _ _ ⟨rfl, rfl⟩
 have e := os_sp (k := k) (n := n) h1
 refine Tr.fin hK ⟨by rw [e.1], rfl⟩ ?_
 refine EntR.slkX (s := g.1) (m := spendM m k n) e.2 (okSl_spend h2) ?_
 simp only [slkL, spendM, List.append_eq, List.cons_append, List.nil_append]
 rw [e.1]
 exact S.E
theorem xfin_ok : Trip Tryz.prog 155 [.pointer (some ⟨b, 0, none⟩), .int .i64 k].toArray [slkX b m]
  fun v l' => ∃ n : Int, v = .int .i64 n ∧ l' = [slkX b (finM m k)] := by
 refine Trip.pk fun g hg F K hK => ?_
 obtain ⟨h1, h2⟩ := hg
 simp only [slkL, List.cons_append, List.nil_append]
 refine S.c ?_ (h := finish_ok (gs := g.2) (os_okI h1 h2) (by rw [os_len h1]; exact h2.l))
 rintro _ _ ⟨n, rfl, rfl⟩
 refine Tr.fin hK ⟨n, rfl, rfl⟩ ?_
 refine EntR.slkX (s := g.1) (m := finM m k) (os_fin h1) (okSl_fin h2) ?_
 simp only [slkL, finM, List.append_eq, List.cons_append, List.nil_append]
 exact S.E
theorem xsnew_ok {u0 : Value} [hd : DeA u0 c] (h1 : c.cap ≤ 1000000000000) (h2 : ∀ x ∈ c.procs.d, x.cost ≤ 1000000000000) (h3 : c.procs.d.length ≤ 100000) : Trip Tryz.prog 32 [u0].toArray [sl true c.procs.s.v c.procs.d]
  fun v l' => ∃ b : Nat, v = .pointer (some ⟨b, 0, none⟩) ∧ l' = [slkX b (newSl c)] := by
 intro F K hK
 simp only [List.cons_append, List.nil_append]
 refine S.c ?_ (h := snew_ok (c := c) h3)
 rintro _ _ ⟨b, s, gs, hg, rfl, rfl⟩
 refine Tr.fin hK ⟨b, rfl, rfl⟩ ?_
 refine EntR.slkX (s := s) (m := newSl c) hg (okSl_new h1 h2 h3) ?_
 simp only [slkL, newSl, List.append_eq, List.cons_append, List.nil_append]
 exact S.E
theorem spMs_done : doneL (spMs m.room m.ms k n) = doneL m.ms := by
 unfold spMs
 split
 ·rename_i hr
  split
  ·rfl
  ·exact done_same hr.1 hr.2
 ·rfl
end
end Go.Proofs.YtacmaamllpiloaaGreat
