import Derived.Test.YtlhmbcmkpafjoaaTb2
import Derived.Test.YtlhmbcmkpafjoaaWky
import Derived.Test.YtlhmbcmkpafjoaaCF
namespace Go.Proofs.Ytlhmbcmkpafjoaa
open Go Go.Wk
set_option maxHeartbeats 800000
set_option maxRecDepth 10000
abbrev Msg := SL UInt8
structure SemG where
  b : Nat
  first : Int
  most : Int
  count : Int
instance : Inhabited SemG := ⟨⟨0, 0, 0, 0⟩⟩
def SemG.pt (g : SemG) : Pt := ⟨some g.b⟩
structure FlagG where
  b : Nat
  up : Bool
instance : Inhabited FlagG := ⟨⟨0, false⟩⟩
def FlagG.pt (g : FlagG) : Pt := ⟨some g.b⟩
abbrev flagA (g : FlagG) : Asrt := blk g.b (.cells [.bool g.up].toArray 4 (0, 0))
structure PoolG where
  b : Nat
  size : Int
  depth : Int
  s : SV
  ms : List Msg
instance : Inhabited PoolG := ⟨⟨0, 0, 0, ⟨none, 0, 0⟩, []⟩⟩
def PoolG.pt (g : PoolG) : Pt := ⟨some g.b⟩
structure SlateG where
  b : Nat
  size : Int
  m : Msg
  shown : Bool
instance : Inhabited SlateG := ⟨⟨0, 0, default, false⟩⟩
def SlateG.pt (g : SlateG) : Pt := ⟨some g.b⟩
structure ObW where
  c : PartC
  ss : SV
  fs : SV
  ps : SV
  ls : SV
attribute [local irreducible] BrK GenK EGenK EUnitK CallK FnK CallV GuardO GuardC CondW opX opK opKc chkR eqR seqK blkK endL WL WD W LoopW BinK Tr drewK resL PickK NotK NilK ExtrK getK Instr.storeAt Instr.loadAt Instr.fieldAt Instr.indexAt Instr.lookup Instr.mapUpdate Instr.box Instr.alloc Instr.build Instr.buildSlice Instr.makeSlice Instr.makeMap Instr.sliceAt Instr.field Instr.index Instr.makeInterface Instr.typeAssert Builtin.len_ Builtin.append_ Builtin.cap_ Builtin.min_ Builtin.max_ Builtin.copy_ Builtin.clear_ convert binOp mp blk rob sl sep ex fact old

end Go.Proofs.Ytlhmbcmkpafjoaa

namespace Go.Proofs.Ytlhmbcmkpafjoaa
open Go Go.Wk
set_option maxHeartbeats 800000
set_option maxRecDepth 10000
def inR {α : Type} (gs : List α) (k : Int) : Prop := 0 ≤ k ∧ k < gs.length
instance {α : Type} {gs : List α} {k : Int} : Decidable (inR gs k) := by unfold inR; infer_instance
def takeC (gs : List SemG) (k : Int) : Int := if inR gs k then (if (ix gs k).count < 1 then 1 else 0) else 3
def takeG (gs : List SemG) (k : Int) : List SemG := if inR gs k then (if (ix gs k).count < 1 then gs else gs.set k.toNat { ix gs k with count := IntKind.i64.wrap ((ix gs k).count - 1) }) else gs
def giveC (gs : List SemG) (k : Int) : Int := if inR gs k then (if (ix gs k).most ≤ (ix gs k).count then 6 else 0) else 3
def giveG (gs : List SemG) (k : Int) : List SemG := if inR gs k then (if (ix gs k).most ≤ (ix gs k).count then gs else gs.set k.toNat { ix gs k with count := IntKind.i64.wrap ((ix gs k).count + 1) }) else gs
def countC (gs : List SemG) (k : Int) : Int := if inR gs k then (ix gs k).count else 0
def flagC (gs : List FlagG) (k : Int) : Int := if inR gs k then 0 else 3
def flagG (gs : List FlagG) (k : Int) (up : Bool) : List FlagG := if inR gs k then gs.set k.toNat { ix gs k with up := up } else gs
def upB (gs : List FlagG) (k : Int) : Bool := if inR gs k then (ix gs k).up else false
attribute [local irreducible] BrK GenK EGenK EUnitK CallK FnK CallV GuardO GuardC CondW opX opK opKc chkR eqR seqK blkK endL WL WD W LoopW BinK Tr drewK resL PickK NotK NilK ExtrK getK Instr.storeAt Instr.loadAt Instr.fieldAt Instr.indexAt Instr.lookup Instr.mapUpdate Instr.box Instr.alloc Instr.build Instr.buildSlice Instr.makeSlice Instr.makeMap Instr.sliceAt Instr.field Instr.index Instr.makeInterface Instr.typeAssert Builtin.len_ Builtin.append_ Builtin.cap_ Builtin.min_ Builtin.max_ Builtin.copy_ Builtin.clear_ convert binOp mp blk rob sl sep ex fact old
end Go.Proofs.Ytlhmbcmkpafjoaa

namespace Go.Proofs.Ytlhmbcmkpafjoaa
open Go Go.Wk
set_option maxHeartbeats 800000
set_option maxRecDepth 10000
instance : ElT 65 UInt8 := ⟨⟩
instance : ElT 119 Msg := ⟨⟩
attribute [local irreducible] BrK GenK EGenK EUnitK CallK FnK CallV GuardO GuardC CondW opX opK opKc chkR eqR seqK blkK endL WL WD W LoopW BinK Tr drewK resL PickK NotK NilK ExtrK getK Instr.storeAt Instr.loadAt Instr.fieldAt Instr.indexAt Instr.lookup Instr.mapUpdate Instr.box Instr.alloc Instr.build Instr.buildSlice Instr.makeSlice Instr.makeMap Instr.sliceAt Instr.field Instr.index Instr.makeInterface Instr.typeAssert Builtin.len_ Builtin.append_ Builtin.cap_ Builtin.min_ Builtin.max_ Builtin.copy_ Builtin.clear_ convert binOp mp blk rob sl sep ex fact old
theorem clone_ok {s : SV} {xs : List UInt8} (hn : xs.length ≤ 1000000000) : Trip Try.prog 57 [s.v].toArray [sl true s.v xs]
    fun v l' => ∃ s' : SV, v = s'.v ∧ l' = [sl true s'.v xs] := by
  intro F K hK
  simp only [List.cons_append, List.nil_append]
  (refine Tr.enter (rs := [.tmp 2]) mixed fn57 rfl (by simp +arith [Try.ntmps57]) fun u => ?_; simp only [cd57, Try.f57])
  ((try simp only [WKb, WKh, ↓reduceIte, Nat.reduceEqDiff]) <;> (repeat' ((first
    | (refine G.tr ?_; first | refine S.a ?_ | refine Tr.brK ?_ ?_ | refine S.n fun _ => ?_ | refine S.i fun hix => ?_ | (refine S.g fun hb => ?_; (try simp only [hb])) | (refine S.s (fun hb => ?_) (fun hb => ?_) <;> ((try simp only [hb]) <;> (try (have hp := hb; simp only [WKs] at hp; (try have hq := Int.not_le.2 hp); (try have hq := Int.not_lt.2 hp))))))
    | ((fail_if_success refine G.tr ?_); exact G.prop S.p)
    | fail) <;> (try simp only [WKb, ↓reduceIte, Nat.reduceEqDiff]))))
  · refine Tr.slNil (ro := true) (xs := xs) hb fun hx => ?_
    subst hx
    refine Tr.nilSl (α := UInt8) ?_
    refine Tr.freezeAt (by (repeat (first | exact TakeA.here | apply TakeA.next)); done) ?_
    refine Tr.fin hK ⟨⟨none, 0, 0⟩, rfl, rfl⟩ ?_
    ((try clear hK) <;> (try simp only [WKe, *]) <;> repeat (first | with_reducible exact EntR.done | refine S.e ?_ | (refine S.f ?_ <;> (try simp only [WKe, ↓reduceIte, reduceCtorEq, Int.reduceEq, *])) | with_reducible apply EntR.ex | refine EntR.drop (F := F) ?_ | refine EntR.drop ?_))
  · refine Tr.freezeAt (by (repeat (first | exact TakeA.here | apply TakeA.next)); done) ?_
    apply Tr.fin hK ⟨_, rfl, rfl⟩
    ((try clear hK) <;> (try simp only [WKe, *]) <;> repeat (first | with_reducible exact EntR.done | refine S.e ?_ | (refine S.f ?_ <;> (try simp only [WKe, ↓reduceIte, reduceCtorEq, Int.reduceEq, *])) | with_reducible apply EntR.ex | refine EntR.drop (F := F) ?_ | refine EntR.drop ?_))
theorem delete_ok {s : SV} {xs : List Msg} {i j : Int} (h0 : 0 ≤ i) (h1 : i ≤ j) (h2 : j ≤ xs.length) : Trip Try.prog 79 [s.v, .int .i64 i, .int .i64 j].toArray [sl false s.v xs]
    fun v l' => ∃ s' : SV, v = s'.v ∧ l' = [sl false s'.v (xs.take i.toNat ++ xs.drop j.toNat)] := by
  intro F K hK
  simp only [List.cons_append, List.nil_append]
  (refine Tr.enter (rs := [.tmp 6]) mixed fn79 rfl (by simp +arith [Try.ntmps79]) fun u => ?_; simp only [cd79, Try.f79])
  have hl : (xs.take i.toNat ++ xs.drop j.toNat ++ xs.drop (i.toNat + (xs.length - j.toNat))).length = xs.length := by simp; omega
  have hz : (xs.take i.toNat ++ xs.drop j.toNat).length = i.toNat + (xs.length - j.toNat) := by simp; omega
  ((try simp only [WKb, ↓reduceIte, Nat.reduceEqDiff, Nat.reduceAdd]) <;> (repeat' ((first
    | (refine G.tr ?_; first | refine S.a ?_ | refine Tr.brK ?_ ?_ | refine S.n fun _ => ?_ | refine S.i fun hix => ?_ | (refine S.g fun hb => ?_; (try simp only [hb])) | (refine S.s (fun hb => ?_) (fun hb => ?_) <;> ((try simp only [hb]) <;> (try (have hp := hb; simp only [WKs] at hp; (try have hq := Int.not_le.2 hp); (try have hq := Int.not_lt.2 hp))))))
    | (refine G.cut ?_; first | refine A.cc3 rfl (by omega) (by omega) (by omega) (by omega) fun _ => ?_ | refine A.ccCut rfl (by omega) (by omega) (by omega) ?_ | refine A.ccTo rfl (by omega) (by omega) ?_ | refine A.ccFrom rfl (by omega) (by omega) ?_)
    | (refine A.appCut (by omega) (by omega) rfl ?_)
    | (refine G.len ?_; refine A.lenCut ?_)
    | (refine G.clr ?_; refine A.clear (dv := (default : Msg)) rfl (by omega) (by omega) ?_)
    | ((fail_if_success refine G.tr ?_); exact G.prop S.p)
    | fail) <;> (try simp only [WKb, ↓reduceIte, Nat.reduceEqDiff, pl79, Nat.sub_zero]))))
  · refine Tr.fin hK ⟨_, rfl, rfl⟩ ?_
    have hij : i = j := hp
    subst hij
    rw [List.take_append_drop]
    ((try clear hK) <;> (try simp only [WKe, *]) <;> repeat (first | with_reducible exact EntR.done | refine S.e ?_ | (refine S.f ?_ <;> (try simp only [WKe, ↓reduceIte, reduceCtorEq, Int.reduceEq, *])) | with_reducible apply EntR.ex | refine EntR.drop (F := F) ?_ | refine EntR.drop ?_))
  · have he : ∀ (A B R : List Msg) (n : Nat), A.length = n → (((A ++ B).take n) ++ R).take n = A := fun A B R n h => by subst h; simp
    refine Tr.short (m := i.toNat + (xs.length - j.toNat)) (by (repeat (first | exact TakeA.here | apply TakeA.next)); done) (by simp; omega) fun s' hs' => ?_
    rw [Int.toNat_natCast, he _ _ _ _ hz, ← hs']
    refine Tr.fin hK ⟨_, rfl, rfl⟩ ?_
    ((try clear hK) <;> (try simp only [WKe, *]) <;> repeat (first | with_reducible exact EntR.done | refine S.e ?_ | (refine S.f ?_ <;> (try simp only [WKe, ↓reduceIte, reduceCtorEq, Int.reduceEq, *])) | with_reducible apply EntR.ex | refine EntR.drop (F := F) ?_ | refine EntR.drop ?_))

end Go.Proofs.Ytlhmbcmkpafjoaa

namespace Go.Proofs.Ytlhmbcmkpafjoaa
open Go Go.Wk
set_option maxHeartbeats 800000
set_option maxRecDepth 10000

def fitsB (n : Nat) (size : Int) : Bool := decide (0 < n) && decide ((n : Int) ≤ size)
def putC (gs : List PoolG) (k : Int) (n : Nat) : Int := if inR gs k then (if fitsB n (ix gs k).size then (if (ix gs k).depth ≤ (ix gs k).ms.length then 1 else 0) else 2) else 3
def putG (gs : List PoolG) (k : Int) (s : SV) (m : Msg) : List PoolG := if putC gs k m.d.length = 0 then gs.set k.toNat { ix gs k with s := s, ms := (ix gs k).ms ++ [m] } else gs
def getC (gs : List PoolG) (k : Int) : Int := if inR gs k then (if ((ix gs k).ms.length : Int) = 0 then 1 else 0) else 3
def getM (gs : List PoolG) (k : Int) : Msg := if getC gs k = 0 then ix (ix gs k).ms 0 else default
def getG (gs : List PoolG) (k : Int) (s : SV) : List PoolG := if getC gs k = 0 then gs.set k.toNat { ix gs k with s := s, ms := (ix gs k).ms.drop 1 } else gs
def showC (gs : List SlateG) (k : Int) (n : Nat) : Int := if inR gs k then (if fitsB n (ix gs k).size then 0 else 2) else 3
def showG (gs : List SlateG) (k : Int) (m : Msg) : List SlateG := if showC gs k m.d.length = 0 then gs.set k.toNat { ix gs k with m := m, shown := true } else gs
def lookC (gs : List SlateG) (k : Int) : Int := if inR gs k then (if (ix gs k).shown then 0 else 1) else 3
def lookD (gs : List SlateG) (k : Int) : List UInt8 := if lookC gs k = 0 then (ix gs k).m.d else []
def wipeC (gs : List SlateG) (k : Int) : Int := if inR gs k then 0 else 3
def wipeG (gs : List SlateG) (k : Int) : List SlateG := if inR gs k then gs.set k.toNat { ix gs k with m := ⟨⟨none, 0, 0⟩, []⟩, shown := false } else gs
attribute [local irreducible] BrK GenK EGenK EUnitK CallK FnK CallV GuardO GuardC CondW opX opK opKc chkR eqR seqK blkK endL WL WD W LoopW BinK Tr drewK resL PickK NotK NilK ExtrK getK Instr.storeAt Instr.loadAt Instr.fieldAt Instr.indexAt Instr.lookup Instr.mapUpdate Instr.box Instr.alloc Instr.build Instr.buildSlice Instr.makeSlice Instr.makeMap Instr.sliceAt Instr.field Instr.index Instr.makeInterface Instr.typeAssert Builtin.len_ Builtin.append_ Builtin.cap_ Builtin.min_ Builtin.max_ Builtin.copy_ Builtin.clear_ convert binOp mp blk rob sl sep ex fact old
def sizeC (ps : List PoolG) (ls : List SlateG) (p k : Int) : Int := if 0 ≤ k then (if inR ls k then (ix ls k).size else 0) else (if inR ps p then (ix ps p).size else 0)
end Go.Proofs.Ytlhmbcmkpafjoaa

namespace Go.Proofs.Ytlhmbcmkpafjoaa
open Go Go.Wk
set_option maxHeartbeats 800000
set_option maxRecDepth 10000
def SemG.mk' (b : Nat) (c : SemC) : SemG := ⟨b, c.first, c.most, c.first⟩
abbrev SemM := Int × Int × Int
def SemG.mo (g : SemG) : SemM := (g.first, g.most, g.count)
def semM (c : SemC) : SemM := (c.first, c.most, c.first)
theorem semM_mk {b : Nat} {c : SemC} : (SemG.mk' b c).mo = semM c := rfl
def FlagG.mk' (b : Nat) (c : Bool) : FlagG := ⟨b, c⟩
abbrev FlagM := Bool
def FlagG.mo (g : FlagG) : FlagM := g.up
def flagM (c : Bool) : FlagM := c
theorem flagM_mk {b : Nat} {c : Bool} : (FlagG.mk' b c).mo = flagM c := rfl
def PoolG.mk' (b : Nat) (c : PoolC) : PoolG := ⟨b, c.size, c.depth, ⟨none, 0, 0⟩, []⟩
abbrev PoolM := Int × Int × List (List UInt8)
def PoolG.mo (g : PoolG) : PoolM := (g.size, g.depth, g.ms.map SL.d)
def poolM (c : PoolC) : PoolM := (c.size, c.depth, [])
theorem poolM_mk {b : Nat} {c : PoolC} : (PoolG.mk' b c).mo = poolM c := rfl
def SlateG.mk' (b : Nat) (c : Int) : SlateG := ⟨b, c, default, false⟩
abbrev SlateM := Int × Option (List UInt8)
def SlateG.mo (g : SlateG) : SlateM := (g.size, if g.shown then some g.m.d else none)
def slateM (c : Int) : SlateM := (c, none)
theorem slateM_mk {b : Nat} {c : Int} : (SlateG.mk' b c).mo = slateM c := rfl
attribute [local irreducible] BrK GenK EGenK EUnitK CallK FnK CallV GuardO GuardC CondW opX opK opKc chkR eqR seqK blkK endL WL WD W LoopW BinK Tr drewK resL PickK NotK NilK ExtrK getK Instr.storeAt Instr.loadAt Instr.fieldAt Instr.indexAt Instr.lookup Instr.mapUpdate Instr.box Instr.alloc Instr.build Instr.buildSlice Instr.makeSlice Instr.makeMap Instr.sliceAt Instr.field Instr.index Instr.makeInterface Instr.typeAssert Builtin.len_ Builtin.append_ Builtin.cap_ Builtin.min_ Builtin.max_ Builtin.copy_ Builtin.clear_ convert binOp mp blk rob sl sep ex fact old
end Go.Proofs.Ytlhmbcmkpafjoaa

namespace Go.Proofs.Ytlhmbcmkpafjoaa
open Go Go.Wk
set_option maxHeartbeats 1600000
set_option maxRecDepth 10000
instance : ElT 138 Bool := ⟨⟩
instance : ElT 86 SemC := ⟨⟩
instance : ElT 87 PoolC := ⟨⟩
instance : ElT 22 Int := ⟨⟩
def nflags (f : Int) : Nat := (min f 8).toNat
theorem nflags_le (f : Int) : nflags f ≤ 8 := by unfold nflags; omega
theorem nflags_if (f : Int) : (if (0 : Int) < (if 8 < f then 8 else f) then (if 8 < f then 8 else f) else 0) = ((nflags f : Nat) : Int) := by
  unfold nflags
  by_cases h : 8 < f
  · rw [if_pos h, if_pos (by omega)]; omega
  · rw [if_neg h]
    by_cases h2 : 0 < f
    · rw [if_pos h2]; omega
    · rw [if_neg h2]; omega
attribute [local irreducible] BrK GenK EGenK EUnitK CallK FnK CallV GuardO GuardC CondW opX opK opKc chkR eqR seqK blkK endL WL WD W LoopW BinK Tr drewK resL PickK NotK NilK ExtrK getK Instr.storeAt Instr.loadAt Instr.fieldAt Instr.indexAt Instr.lookup Instr.mapUpdate Instr.box Instr.alloc Instr.build Instr.buildSlice Instr.makeSlice Instr.makeMap Instr.sliceAt Instr.field Instr.index Instr.makeInterface Instr.typeAssert Builtin.len_ Builtin.append_ Builtin.cap_ Builtin.min_ Builtin.max_ Builtin.copy_ Builtin.clear_ convert binOp mp blk rob sl sep ex fact old
theorem sem_one {gs : List SemG} {f m c : Int} (h : gs.map SemG.mo = [(f, m, c)]) : ∃ b, gs = [⟨b, f, m, c⟩] := by
  obtain ⟨g, rfl⟩ : ∃ g, gs = [g] := List.length_eq_one_iff.1 (by simpa using congrArg List.length h)
  simp only [List.map_cons, List.map_nil, SemG.mo, List.cons.injEq, Prod.mk.injEq, and_true] at h
  obtain ⟨b, f', m', c'⟩ := g
  simp only at h
  obtain ⟨rfl, rfl, rfl⟩ := h
  exact ⟨b, rfl⟩
theorem pool_one {gs : List PoolG} {s d : Int} (h : gs.map PoolG.mo = [(s, d, [])]) : ∃ b sv, gs = [⟨b, s, d, sv, []⟩] := by
  obtain ⟨g, rfl⟩ : ∃ g, gs = [g] := List.length_eq_one_iff.1 (by simpa using congrArg List.length h)
  simp only [List.map_cons, List.map_nil, PoolG.mo, List.cons.injEq, Prod.mk.injEq, and_true, List.map_eq_nil_iff] at h
  obtain ⟨b, s', d', sv, ms⟩ := g
  simp only at h
  obtain ⟨rfl, rfl, rfl⟩ := h
  exact ⟨b, sv, rfl⟩
theorem slate_one {gs : List SlateG} {s : Int} (h : gs.map SlateG.mo = [(s, none)]) : ∃ b m, gs = [⟨b, s, m, false⟩] := by
  obtain ⟨g, rfl⟩ : ∃ g, gs = [g] := List.length_eq_one_iff.1 (by simpa using congrArg List.length h)
  simp only [List.map_cons, List.map_nil, SlateG.mo, List.cons.injEq, Prod.mk.injEq, and_true] at h
  obtain ⟨b, s', m, sh⟩ := g
  simp only at h
  obtain ⟨rfl, h2⟩ := h
  cases sh
  · exact ⟨b, m, rfl⟩
  · simp at h2
end Go.Proofs.Ytlhmbcmkpafjoaa

namespace Go.Proofs.Ytlhmbcmkpafjoaa
open Go Go.Wk
set_option maxHeartbeats 3200000
set_option maxRecDepth 10000
theorem take1 {b : Nat} {f m c : Int} : takeC [⟨b, f, m, c⟩] 0 = (if c < 1 then 1 else 0) ∧ takeG [⟨b, f, m, c⟩] 0 = (if c < 1 then [⟨b, f, m, c⟩] else [⟨b, f, m, IntKind.i64.wrap (c - 1)⟩]) := ⟨rfl, rfl⟩
theorem give1 {b : Nat} {f m c : Int} : giveC [⟨b, f, m, c⟩] 0 = (if m ≤ c then 6 else 0) ∧ giveG [⟨b, f, m, c⟩] 0 = (if m ≤ c then [⟨b, f, m, c⟩] else [⟨b, f, m, IntKind.i64.wrap (c + 1)⟩]) := ⟨rfl, rfl⟩
theorem give2 {b : Nat} {f m c : Int} : giveC [⟨b, f, m, c⟩] 1 = 3 ∧ giveG [⟨b, f, m, c⟩] 1 = [⟨b, f, m, c⟩] := ⟨rfl, rfl⟩
theorem count1 {b : Nat} {f m c : Int} : countC [⟨b, f, m, c⟩] 0 = c := rfl
theorem wrap01 : IntKind.i64.wrap (1 - 1) = 0 ∧ IntKind.i64.wrap (0 + 1) = 1 ∧ IntKind.i64.wrap 0 = 0 ∧ IntKind.i64.wrap 1 = 1 := ⟨rfl, rfl, rfl, rfl⟩
attribute [local irreducible] BrK GenK EGenK EUnitK CallK FnK CallV GuardO GuardC CondW opX opK opKc chkR eqR seqK blkK endL WL WD W LoopW BinK Tr drewK resL PickK NotK NilK ExtrK getK Instr.storeAt Instr.loadAt Instr.fieldAt Instr.indexAt Instr.lookup Instr.mapUpdate Instr.box Instr.alloc Instr.build Instr.buildSlice Instr.makeSlice Instr.makeMap Instr.sliceAt Instr.field Instr.index Instr.makeInterface Instr.typeAssert Builtin.len_ Builtin.append_ Builtin.cap_ Builtin.min_ Builtin.max_ Builtin.copy_ Builtin.clear_ convert binOp mp blk rob sl sep ex fact old
end Go.Proofs.Ytlhmbcmkpafjoaa
