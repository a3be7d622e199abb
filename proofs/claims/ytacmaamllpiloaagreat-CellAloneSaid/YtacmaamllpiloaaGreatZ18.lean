import Derived.Test.YtacmaamllpiloaaGreatZ17
import Derived.Test.YtacmaamllpiloaaGreatZ16
import Derived.Test.YtacmaamllpiloaaGreatZ07
import Derived.Test.YtacmaamllpiloaaGreatZ06
namespace Go.Proofs.YtacmaamllpiloaaGreat
open Go Go.Wk
set_option maxHeartbeats 800000
set_option maxRecDepth 10000
instance : ElT 76 UInt8 := ⟨⟩
instance : ElT 58 Msg := ⟨⟩
attribute [local irreducible] BrK GenK EGenK EUnitK CallK FnK CallV GuardO GuardC CondW opX opK opKc chkR eqR seqK blkK endL WL WD W LoopW BinK Tr drewK resL PickK NotK NilK ExtrK getK Instr.storeAt Instr.loadAt Instr.fieldAt Instr.indexAt Instr.lookup Instr.mapUpdate Instr.box Instr.alloc Instr.build Instr.buildSlice Instr.makeSlice Instr.makeMap Instr.sliceAt Instr.field Instr.index Instr.makeInterface Instr.typeAssert Builtin.len_ Builtin.append_ Builtin.cap_ Builtin.min_ Builtin.max_ Builtin.copy_ Builtin.clear_ convert binOp mp blk rob sl sep ex fact old
theorem clone_ok {s : SV} {xs : List UInt8} (hn : xs.length ≤ 1000000000) : Trip Tryz.prog 68 [s.v].toArray [sl true s.v xs]
  fun v l' => ∃ s' : SV, v = s'.v ∧ l' = [sl true s'.v xs] := by
 intro F K hK
 simp only [List.cons_append, List.nil_append]
 (refine Tr.enter (rs := [.tmp 2]) mixed fn68 rfl (by simp +arith [Tryz.ntmps68]) fun u => ?_; simp only [cd68, Tryz.f68])
 ((try simp only [WKb, WKh, ↓reduceIte, Nat.reduceEqDiff]) <;> (repeat' ((first
  | (refine G.tr ?_; first | refine S.n fun _ => ?_ | (refine S.s (fun hb => ?_) (fun hb => ?_) <;> ((try simp only [hb]) <;> (try (have hp := hb; simp only [WKs] at hp; (try have hq := Int.not_le.2 hp); (try have hq := Int.not_lt.2 hp))))))
  | fail) <;> (try simp only [WKb, ↓reduceIte, Nat.reduceEqDiff]))))
 ·refine Tr.slNil (ro := true) (xs := xs) hb fun hx => ?_
  subst hx
  refine Tr.nilSl (α := UInt8) ?_
  refine Tr.freezeAt (by (repeat (first | exact TakeA.here | fail)); done) ?_
  refine Tr.fin hK ⟨⟨none, 0, 0⟩, rfl, rfl⟩ ?_
  ((try clear hK) <;> (try simp only [WKe, *]) <;> repeat (first | with_reducible exact EntR.done | refine S.e ?_ | refine EntR.drop (F := F) ?_ | fail))
 ·refine Tr.freezeAt (by (repeat (first | exact TakeA.here | fail)); done) ?_
  apply Tr.fin hK ⟨_, rfl, rfl⟩
  ((try clear hK) <;> (try simp only [WKe, *]) <;> repeat (first | with_reducible exact EntR.done | refine S.e ?_ | refine EntR.drop (F := F) ?_ | fail))
theorem delete_ok {s : SV} {xs : List Msg} {i j : Int} (h0 : 0 ≤ i) (h1 : i ≤ j) (h2 : j ≤ xs.length) : Trip Tryz.prog 236 [s.v, .int .i64 i, .int .i64 j].toArray [sl false s.v xs]
  fun v l' => ∃ s' : SV, v = s'.v ∧ l' = [sl false s'.v (xs.take i.toNat ++ xs.drop j.toNat)] := by
 intro F K hK
 simp only [List.cons_append, List.nil_append]
 (refine Tr.enter (rs := [.tmp 6]) mixed fn236 rfl (by simp +arith [Tryz.ntmps236]) fun u => ?_; simp only [cd236, Tryz.f236])
 have hl : (xs.take i.toNat ++ xs.drop j.toNat ++ xs.drop (i.toNat + (xs.length - j.toNat))).length = xs.length := by simp; omega
 have hz : (xs.take i.toNat ++ xs.drop j.toNat).length = i.toNat + (xs.length - j.toNat) := by simp; omega
 ((try simp only [WKb, ↓reduceIte, Nat.reduceEqDiff, Nat.reduceAdd]) <;> (repeat' ((first
  | (refine G.tr ?_; first | refine S.a ?_ | (refine S.s (fun hb => ?_) (fun hb => ?_) <;> ((try simp only [hb]) <;> (try (have hp := hb; simp only [WKs] at hp; (try have hq := Int.not_le.2 hp); (try have hq := Int.not_lt.2 hp))))))
  | (refine G.cut ?_; first | refine A.cc3 rfl (by omega) (by omega) (by omega) (by omega) fun _ => ?_ | refine A.ccCut rfl (by omega) (by omega) (by omega) ?_ | refine A.ccTo rfl (by omega) (by omega) ?_ | refine A.ccFrom rfl (by omega) (by omega) ?_)
  | (refine A.appCut (by omega) (by omega) rfl ?_)
  | (refine G.len ?_; refine A.lenCut ?_)
  | (refine G.clr ?_; refine A.clear (dv := (default : Msg)) rfl (by omega) (by omega) ?_)
  | fail) <;> (try simp only [WKb, ↓reduceIte, Nat.reduceEqDiff, pl236, Nat.sub_zero]))))
 ·refine Tr.fin hK ⟨_, rfl, rfl⟩ ?_
  have hij : i = j := hp
  subst hij
  rw [List.take_append_drop]
  ((try clear hK) <;> (try simp only [WKe, *]) <;> repeat (first | with_reducible exact EntR.done | fail))
 ·have he : ∀ (A B R : List Msg) (n : Nat), A.length = n → (((A ++ B).take n) ++ R).take n = A := fun A B R n h => by subst h; simp
  refine Tr.short (m := i.toNat + (xs.length - j.toNat)) (by (repeat (first | exact TakeA.here | fail)); done) (by simp; omega) fun s' hs' => ?_
  rw [Int.toNat_natCast, he _ _ _ _ hz, ← hs']
  refine Tr.fin hK ⟨_, rfl, rfl⟩ ?_
  ((try clear hK) <;> (try simp only [WKe, *]) <;> repeat (first | with_reducible exact EntR.done | fail))
end Go.Proofs.YtacmaamllpiloaaGreat
namespace Go.Proofs.YtacmaamllpiloaaGreat
open Go Go.Wk
set_option maxHeartbeats 3200000
set_option maxRecDepth 100000
structure RegG where
 b : Nat
 base : Int
 size : Int
 w : Bool
 s : SV
 d : List UInt8
instance inh_RegG : Inhabited RegG := ⟨⟨0, 0, 0, false, ⟨none, 0, 0⟩, []⟩⟩
def RegG.pt (g : RegG) : Pt := ⟨some g.b⟩
structure RegM where
 base : Int
 size : Int
 w : Bool
 d : List UInt8
instance inh_RegM : Inhabited RegM := ⟨⟨0, 0, false, []⟩⟩
def RegG.mo (g : RegG) : RegM := ⟨g.base, g.size, g.w, g.d⟩
abbrev regB (g : RegG) : Asrt := blk g.b (.cells [.int .i64 g.base, .int .i64 g.size, .bool g.w, g.s.v].toArray 176 (0, 0))
def regA (g : RegG) : Asrt := sep (regB g) (sl false g.s.v g.d)
abbrev memB (p : Nat) (s : SV) : Asrt := blk p (.cells [s.v, .bool true].toArray 173 (0, 0))
instance elt_mreg : ElT 171 Pt := ⟨⟩
def hasB (m : RegM) (a n : Int) (wr : Bool) : Bool := decide (0 ≤ n ∧ m.base ≤ a ∧ a - m.base ≤ m.d.length ∧ n ≤ (m.d.length : Int) - (a - m.base)) && (m.w || !wr)
def okR (m : RegM) : Prop := 0 ≤ m.base ∧ m.base ≤ 1048576 ∧ m.d.length ≤ 256
theorem regA_open {g : RegG} {l : List Asrt} {X : WP} (h : Tr (regB g :: sl false g.s.v g.d :: l) X) : Tr (regA g :: l) X := Tr.sep_iff.2 h
attribute [local irreducible] BrK GenK EGenK EUnitK CallK FnK CallV GuardO GuardC CondW opX opK opKc chkR eqR seqK blkK endL WL WD W LoopW BinK Tr drewK resL PickK NotK NilK ExtrK getK Instr.storeAt Instr.loadAt Instr.fieldAt Instr.indexAt Instr.lookup Instr.mapUpdate Instr.box Instr.alloc Instr.build Instr.buildSlice Instr.makeSlice Instr.makeMap Instr.sliceAt Instr.field Instr.index Instr.makeInterface Instr.typeAssert Builtin.len_ Builtin.append_ Builtin.cap_ Builtin.min_ Builtin.max_ Builtin.copy_ Builtin.clear_ convert binOp mp blk rob sl sep ex fact old
theorem rhas_ok {g : RegG} {a n : Int} (hr : okR g.mo) (ha : a ≤ 9223372036854775807) (ha2 : -9223372036854775808 ≤ a) : Trip Tryz.prog 245 [.pointer (some ⟨g.b, 0, none⟩), .int .i64 a, .int .i64 n].toArray [regB g, sl false g.s.v g.d]
  fun v l' => v = .bool (decide (0 ≤ n ∧ g.base ≤ a ∧ a - g.base ≤ g.d.length ∧ n ≤ (g.d.length : Int) - (a - g.base))) ∧ l' = [regB g, sl false g.s.v g.d] := by
 intro F K hK
 simp only [List.cons_append, List.nil_append]
 obtain ⟨b0, b1, hl⟩ := hr
 simp only [RegG.mo] at b0 b1 hl
 (refine Tr.enter (rs := [.tmp 6]) mixed fn245 rfl (by simp +arith [Tryz.ntmps245]) fun u => ?_; simp only [cd245, Tryz.f245])
 by_cases h0 : 0 ≤ n ∧ g.base ≤ a
 ·have hw : IntKind.i64.wrap (a - g.base) = a - g.base := wrapId (by omega) (by omega)
  by_cases h1 : a - g.base ≤ g.d.length
  ·have hw2 : IntKind.i64.wrap ((g.d.length : Int) - (a - g.base)) = (g.d.length : Int) - (a - g.base) := wrapId (by omega) (by omega)
   have hX := And.intro @pl245.eq_def (And.intro hw hw2); repeat' (first | refine S.x ?_ | fail)
   all_goals first
    | (exfalso; omega)
    | (refine Tr.fin hK ⟨congrArg Value.bool ?_, rfl⟩ S.E; rw [Bool.eq_iff_iff]; simp only [decide_eq_true_eq]; omega)
  ·have hX := And.intro @pl245.eq_def hw; repeat' (first | refine S.x ?_ | fail)
   all_goals first
    | (exfalso; omega)
    | (refine Tr.fin hK ⟨congrArg Value.bool ?_, rfl⟩ S.E; symm; simp only [decide_eq_false_iff_not]; omega)
 ·have hX := @pl245.eq_def; repeat' (first | refine S.x ?_ | refine S.y ?_ ?_ | intro hb | fail)
  all_goals first
   | (exfalso; omega)
   | (refine Tr.fin hK ⟨congrArg Value.bool ?_, rfl⟩ S.E; symm; simp only [decide_eq_false_iff_not]; omega)
abbrev capA (b1 b2 b3 : Nat) (a n : Int) (wr : Bool) : List Asrt := [blk b1 (.cells [.int .i64 a].toArray 3 (0, 0)), blk b2 (.cells [.int .i64 n].toArray 3 (0, 0)), blk b3 (.cells [.bool wr].toArray 4 (0, 0))]
theorem isr_ok {g : RegG} {b1 b2 b3 : Nat} {a n : Int} {wr : Bool} (hr : okR g.mo) (ha : a ≤ 9223372036854775807) (ha2 : -9223372036854775808 ≤ a) : Trip Tryz.prog 244 [.pointer (some ⟨g.b, 0, none⟩), .pointer (some ⟨b1, 0, none⟩), .pointer (some ⟨b2, 0, none⟩), .pointer (some ⟨b3, 0, none⟩)].toArray (regB g :: sl false g.s.v g.d :: capA b1 b2 b3 a n wr)
  fun v l' => v = .bool (hasB g.mo a n wr) ∧ l' = regB g :: sl false g.s.v g.d :: capA b1 b2 b3 a n wr := by
 intro F K hK
 simp only [List.cons_append, List.nil_append]
 (refine Tr.enter (rs := [.tmp 5]) mixed fn244 rfl (by simp +arith [Tryz.ntmps244]) fun u => ?_; simp only [cd244, Tryz.f244])
 have hv : hasB g.mo a n wr = (decide (0 ≤ n ∧ g.base ≤ a ∧ a - g.base ≤ g.d.length ∧ n ≤ (g.d.length : Int) - (a - g.base)) && (g.w || !wr)) := rfl
 cases hb : decide (0 ≤ n ∧ g.base ≤ a ∧ a - g.base ≤ g.d.length ∧ n ≤ (g.d.length : Int) - (a - g.base)) with
 | false =>
  rw [hb, Bool.false_and] at hv
  have hX := And.intro @pl244.eq_def hb; repeat' (first | refine S.x ?_ | (refine G.call 245 ?_; refine S.c ?_ (h := rhas_ok (by assumption) (by assumption) (by assumption))) | rintro _ _ ⟨rfl, rfl⟩ | fail)
  all_goals exact Tr.fin hK ⟨by rw [hv], rfl⟩ S.E
 | true =>
  rw [hb, Bool.true_and] at hv
  cases hw : g.w <;> cases wr
  all_goals
   have hX := And.intro @pl244.eq_def (And.intro hb hw); repeat' (first | refine S.x ?_ | (refine G.call 245 ?_; refine S.c ?_ (h := rhas_ok (by assumption) (by assumption) (by assumption))) | rintro _ _ ⟨rfl, rfl⟩ | fail)
   all_goals exact Tr.fin hK ⟨by rw [hv, hw]; rfl, rfl⟩ S.E
end Go.Proofs.YtacmaamllpiloaaGreat
namespace Go.Proofs.YtacmaamllpiloaaGreat
open Go Go.Wk
set_option maxHeartbeats 3200000
set_option maxRecDepth 100000
def fI (ms : List RegM) (a n : Int) (wr : Bool) : Option Nat := ms.findIdx? fun m => hasB m a n wr
theorem fI_hit {ms : List RegM} {a n : Int} {wr : Bool} {k : Nat} (hk : k < ms.length) (h : hasB (ix ms (k : Int)) a n wr = true) (hno : ∀ j : Nat, j < k → hasB (ix ms (j : Int)) a n wr = false) : fI ms a n wr = some k := by
 unfold fI
 rw [List.findIdx?_eq_some_iff_getElem]
 have e : ∀ j : Nat, ∀ hj : j < ms.length, ms[j] = ix ms (j : Int) := fun j hj => by simp [ix, hj]
 exact ⟨hk, by rw [e k hk]; exact h, fun j hj => by rw [e j (by omega), hno j hj]; decide⟩
theorem fI_miss {ms : List RegM} {a n : Int} {wr : Bool} (hno : ∀ j : Nat, j < ms.length → hasB (ix ms (j : Int)) a n wr = false) : fI ms a n wr = none := by
 unfold fI
 rw [List.findIdx?_eq_none_iff]
 intro x hx
 obtain ⟨j, hj, rfl⟩ := List.getElem_of_mem hx
 have := hno j hj
 simpa [ix, hj] using this
theorem fI_some {ms : List RegM} {a n : Int} {wr : Bool} {k : Nat} (h : fI ms a n wr = some k) : k < ms.length ∧ hasB (ix ms (k : Int)) a n wr = true := by
 unfold fI at h
 rw [List.findIdx?_eq_some_iff_getElem] at h
 obtain ⟨hk, h1, _⟩ := h
 exact ⟨hk, by simpa [ix, hk] using h1⟩
def fV (ms : List RegM) (a n : Int) (wr : Bool) : Int := match fI ms a n wr with
 | some k => (k : Int)
 | none => -1
theorem mo_ix {gs : List RegG} {k : Nat} (h : k < gs.length) : ix (gs.map RegG.mo) (k : Int) = (ix gs (k : Int)).mo := ix_map (by omega) (by omega)
theorem ix_memR {α : Type} [Inhabited α] {xs : List α} {k : Nat} (h : k < xs.length) : ix xs (k : Int) ∈ xs := List.mem_of_getElem? (ix_some (by omega) (by omega))
attribute [local irreducible] BrK GenK EGenK EUnitK CallK FnK CallV GuardO GuardC CondW opX opK opKc chkR eqR seqK blkK endL WL WD W LoopW BinK Tr drewK resL PickK NotK NilK ExtrK getK Instr.storeAt Instr.loadAt Instr.fieldAt Instr.indexAt Instr.lookup Instr.mapUpdate Instr.box Instr.alloc Instr.build Instr.buildSlice Instr.makeSlice Instr.makeMap Instr.sliceAt Instr.field Instr.index Instr.makeInterface Instr.typeAssert Builtin.len_ Builtin.append_ Builtin.cap_ Builtin.min_ Builtin.max_ Builtin.copy_ Builtin.clear_ convert binOp mp blk rob sl sep ex fact old
attribute [local irreducible] hasB
theorem idxf_ok {s : SV} {gs : List RegG} {b1 b2 b3 : Nat} {a n : Int} {wr : Bool} (hr : ∀ g ∈ gs, okR g.mo) (ha : a ≤ 9223372036854775807) (ha2 : -9223372036854775808 ≤ a) :
  Trip Tryz.prog 250 [s.v, .func (.func 244) #[] [.pointer (some ⟨b1, 0, none⟩), .pointer (some ⟨b2, 0, none⟩), .pointer (some ⟨b3, 0, none⟩)].toArray].toArray (sl false s.v (gs.map RegG.pt) :: fam regA gs :: capA b1 b2 b3 a n wr)
  fun v l' => v = .int .i64 (fV (gs.map RegG.mo) a n wr) ∧ l' = sl false s.v (gs.map RegG.pt) :: fam regA gs :: capA b1 b2 b3 a n wr := by
 intro F K hK
 simp only [List.cons_append, List.nil_append]
 have hlm : (gs.map RegG.pt).length = gs.length := List.length_map _
 refine Tr.bound (ro := false) (v := s.v) (xs := gs.map RegG.pt) (by (repeat (first | exact Has.here | fail)); done) fun hbd => ?_
 (refine Tr.enter (rs := [.tmp 4]) mixed fn250 rfl (by simp +arith [Tryz.ntmps250]) fun u => ?_; simp only [cd250, Tryz.f250])
 have hX := @pl250.eq_def; repeat' (first | refine S.x ?_ | fail)
 refine Tr.loopE (α := Nat) [4, 8] [0, 1, 7] (fun k => [.int .i64 0, .int .i64 k]) (fun k => sl false s.v (gs.map RegG.pt) :: fam regA gs :: capA b1 b2 b3 a n wr) (fun k => k ≤ gs.length ∧ ∀ j : Nat, j < k → hasB (ix gs (j : Int)).mo a n wr = false) (fun k => gs.length - k) 0 S.T rfl ⟨Nat.zero_le _, fun j hj => by omega⟩ fun k u hx => ?_
 obtain ⟨hk, hno⟩ := hx
 by_cases hin : k < gs.length
 ·have hw := wrapSucc (k := k) (by omega)
  have hm := ix_map (f := RegG.pt) (xs := gs) (k := (k : Int)) (by omega) (by omega)
  have hok := hr _ (ix_memR hin)
  simp only [List.cons_append, List.nil_append]
  refine Tr.famAt (xs := gs) (k : Int) S.K (by omega) (by omega) (regA_open ?_)
  cases hd : hasB (ix gs (k : Int)).mo a n wr with
  | true =>
   have hfv : fV (gs.map RegG.mo) a n wr = (k : Int) := by
    unfold fV
    rw [fI_hit (k := k) (by rw [List.length_map]; exact hin) (by rw [mo_ix hin]; exact hd) (fun j hj => by rw [mo_ix (by omega)]; exact hno j hj)]
   clear hno
   have hX := And.intro @pl250.eq_def (And.intro hm (And.intro @RegG.pt.eq_def hd)); repeat' (first | refine S.x ?_ | (refine G.call 244 ?_; refine S.c ?_ (h := isr_ok (by assumption) (by assumption) (by assumption))) | rintro _ _ ⟨rfl, rfl⟩ | intro hb | fail)
   all_goals
    refine Tr.fin hK ⟨by rw [hfv], rfl⟩ ?_
    have hX := @regA.eq_def
    exact S.E
  | false =>
   have hno2 : ∀ j : Nat, j < k + 1 → hasB (ix gs (j : Int)).mo a n wr = false := fun j hj => by
    by_cases e : j = k
    ·subst e; exact hd
    ·exact hno j (by omega)
   clear hno
   have hX := And.intro @pl250.eq_def (And.intro hw (And.intro hm (And.intro @RegG.pt.eq_def hd))); repeat' (first | refine S.x ?_ | (refine G.call 244 ?_; refine S.c ?_ (h := isr_ok (by assumption) (by assumption) (by assumption))) | rintro _ _ ⟨rfl, rfl⟩ | intro hb | fail)
   all_goals
    have hX := @regA.eq_def
    exact S.R (k + 1)
 ·have hke : k = gs.length := by omega
  subst hke
  have hfv : fV (gs.map RegG.mo) a n wr = -1 := by
   unfold fV
   rw [fI_miss (fun j hj => by rw [List.length_map] at hj; rw [mo_ix hj]; exact hno j hj)]
  clear hno
  have hX := @pl250.eq_def; repeat' (first | refine S.x ?_ | fail)
  all_goals exact Tr.fin hK ⟨by rw [hfv], rfl⟩ S.E
end Go.Proofs.YtacmaamllpiloaaGreat
namespace Go.Proofs.YtacmaamllpiloaaGreat
open Go Go.Wk
set_option maxHeartbeats 3200000
set_option maxRecDepth 100000
theorem cut_SV {s : SV} {lo hi : Nat} {sz : Nat} : ∃ s' : SV, cutV sz s.v lo hi = s'.v := ⟨⟨if s.c = lo then s.a else s.a.map (·.add (lo * sz)), hi - lo, s.c - lo⟩, rfl⟩
attribute [local irreducible] BrK GenK EGenK EUnitK CallK FnK CallV GuardO GuardC CondW opX opK opKc chkR eqR seqK blkK endL WL WD W LoopW BinK Tr drewK resL PickK NotK NilK ExtrK getK Instr.storeAt Instr.loadAt Instr.fieldAt Instr.indexAt Instr.lookup Instr.mapUpdate Instr.box Instr.alloc Instr.build Instr.buildSlice Instr.makeSlice Instr.makeMap Instr.sliceAt Instr.field Instr.index Instr.makeInterface Instr.typeAssert Builtin.len_ Builtin.append_ Builtin.cap_ Builtin.min_ Builtin.max_ Builtin.copy_ Builtin.clear_ convert binOp mp blk rob sl sep ex fact old
theorem cloneC_ok {s : SV} {xs : List UInt8} {lo hi : Nat} (h1 : lo ≤ hi) (h2 : hi ≤ xs.length) (hn : xs.length ≤ 1000000000) : Trip Tryz.prog 68 [cutV (En.sz UInt8) s.v lo hi].toArray [sl false s.v xs]
  fun v l' => ∃ s' : SV, v = s'.v ∧ l' = [sl true s'.v ((xs.take hi).drop lo), sl false s.v xs] := by
 intro F K hK
 simp only [List.cons_append, List.nil_append] at hK ⊢
 obtain ⟨s2, e2⟩ := cut_SV (s := s) (lo := lo) (hi := hi) (sz := En.sz UInt8)
 have hc := fun l => hass_cut (l := sl false s.v xs :: l) h1 h2 hass_here
 rw [e2] at hc ⊢
 have hl : ((xs.take hi).drop lo).length ≤ 1000000000 := by simp; omega
 generalize (xs.take hi).drop lo = ys at hK hc hl
 (refine Tr.enter (rs := [.tmp 2]) mixed fn68 rfl (by simp +arith [Tryz.ntmps68]) fun u => ?_; simp only [cd68, Tryz.f68])
 have hc' := fun l A => @hass_next A _ _ _ _ _ _ (hc l)
 refine S.x ?_
 refine S.y ?_ ?_
 all_goals intro hb
 ·refine Tr.slNil (ro := false) (xs := ys) hb fun hx => ?_
  subst hx
  have hX := @pl68.eq_def; repeat' (first | refine S.x ?_ | refine S.y ?_ ?_ | (refine G.prop ?_; assumption) | intro hb | ((fail_if_success refine G.tr ?_); exact G.prop S.p) | fail)
  refine Tr.nilSl (α := UInt8) ?_
  refine Tr.freezeAt S.K ?_
  refine Tr.fin hK ⟨⟨none, 0, 0⟩, rfl, rfl⟩ ?_
  exact S.E
 ·have hX := @pl68.eq_def; repeat' (first | refine S.x ?_ | intro hb | fail)
  refine Tr.freezeAt (v := hb.v) (xs := ys) S.K ?_
  exact Tr.fin hK ⟨hb, rfl, rfl⟩ S.E
end Go.Proofs.YtacmaamllpiloaaGreat
namespace Go.Proofs.YtacmaamllpiloaaGreat
open Go Go.Wk
set_option maxHeartbeats 3200000
set_option maxRecDepth 100000
def rgP (gs : List RegG) : Option Nat → Value
 | some k => .pointer (some ⟨(ix gs (k : Int)).b, 0, none⟩)
 | none => .pointer none
abbrev memL (p : Nat) (s : SV) (gs : List RegG) : List Asrt := [memB p s, sl false s.v (gs.map RegG.pt), fam regA gs]
def ldB (ms : List RegM) (a n : Int) : List UInt8 := match fI ms a n false with
 | some k => ((ix ms (k : Int)).d.take ((a - (ix ms (k : Int)).base).toNat + n.toNat)).drop (a - (ix ms (k : Int)).base).toNat
 | none => []
def ldO (ms : List RegM) (a n : Int) : Bool := (fI ms a n false).isSome
def stO (ms : List RegM) (a n : Int) : Bool := (fI ms a n true).isSome
theorem hasB_dec {m : RegM} {a n : Int} {wr : Bool} (h : hasB m a n wr = true) : 0 ≤ n ∧ m.base ≤ a ∧ a - m.base ≤ m.d.length ∧ n ≤ (m.d.length : Int) - (a - m.base) := by
 unfold hasB at h
 simp only [Bool.and_eq_true, decide_eq_true_eq] at h
 exact h.1
attribute [local irreducible] BrK GenK EGenK EUnitK CallK FnK CallV GuardO GuardC CondW opX opK opKc chkR eqR seqK blkK endL WL WD W LoopW BinK Tr drewK resL PickK NotK NilK ExtrK getK Instr.storeAt Instr.loadAt Instr.fieldAt Instr.indexAt Instr.lookup Instr.mapUpdate Instr.box Instr.alloc Instr.build Instr.buildSlice Instr.makeSlice Instr.makeMap Instr.sliceAt Instr.field Instr.index Instr.makeInterface Instr.typeAssert Builtin.len_ Builtin.append_ Builtin.cap_ Builtin.min_ Builtin.max_ Builtin.copy_ Builtin.clear_ convert binOp mp blk rob sl sep ex fact old
attribute [local irreducible] hasB fI
theorem mfind_ok {p : Nat} {s : SV} {gs : List RegG} {b1 b2 b3 : Nat} {a n : Int} {wr : Bool} (hr : ∀ g ∈ gs, okR g.mo) (ha : a ≤ 9223372036854775807) (ha2 : -9223372036854775808 ≤ a) :
  Trip Tryz.prog 243 [.pointer (some ⟨p, 0, none⟩), .func (.func 244) #[] [.pointer (some ⟨b1, 0, none⟩), .pointer (some ⟨b2, 0, none⟩), .pointer (some ⟨b3, 0, none⟩)].toArray].toArray (memL p s gs ++ capA b1 b2 b3 a n wr)
  fun v l' => v = rgP gs (fI (gs.map RegG.mo) a n wr) ∧ l' = memL p s gs ++ capA b1 b2 b3 a n wr := by
 intro F K hK
 simp only [List.cons_append, List.nil_append] at hK ⊢
 have hlm : (gs.map RegG.pt).length = gs.length := List.length_map _
 (refine Tr.enter (rs := [.tmp 4]) mixed fn243 rfl (by simp +arith [Tryz.ntmps243]) fun u => ?_; simp only [cd243, Tryz.f243])
 cases hf : fI (gs.map RegG.mo) a n wr with
 | none =>
  have hv : fV (gs.map RegG.mo) a n wr = -1 := by unfold fV; rw [hf]
  rw [hf] at hK
  have hX := And.intro @pl243.eq_def hv; repeat' (first | refine S.x ?_ | (refine G.call 250 ?_; refine S.c ?_ (h := idxf_ok (by assumption) (by assumption) (by assumption))) | rintro _ _ ⟨rfl, rfl⟩ | fail)
  all_goals exact Tr.fin hK ⟨rfl, rfl⟩ S.E
 | some k =>
  have hv : fV (gs.map RegG.mo) a n wr = (k : Int) := by unfold fV; rw [hf]
  rw [hf] at hK
  have hk := (fI_some hf).1
  rw [List.length_map] at hk
  have hm := ix_map (f := RegG.pt) (xs := gs) (k := (k : Int)) (by omega) (by omega)
  have hX := And.intro @pl243.eq_def (And.intro hv hm); repeat' (first | refine S.x ?_ | (refine G.call 250 ?_; refine S.c ?_ (h := idxf_ok (by assumption) (by assumption) (by assumption))) | rintro _ _ ⟨rfl, rfl⟩ | intro hb | fail)
  all_goals exact Tr.fin hK ⟨rfl, rfl⟩ S.E
theorem mof_ok {p : Nat} {s : SV} {gs : List RegG} {a n : Int} {wr : Bool} (hr : ∀ g ∈ gs, okR g.mo) (ha : a ≤ 9223372036854775807) (ha2 : -9223372036854775808 ≤ a) :
  Trip Tryz.prog 228 [.pointer (some ⟨p, 0, none⟩), .int .i64 a, .int .i64 n, .bool wr].toArray (memL p s gs)
  fun v l' => v = rgP gs (fI (gs.map RegG.mo) a n wr) ∧ l' = memL p s gs := by
 intro F K hK
 simp only [List.cons_append, List.nil_append] at hK ⊢
 (refine Tr.enter (rs := [.tmp 8]) mixed fn228 rfl (by simp +arith [Tryz.ntmps228]) fun u => ?_; simp only [cd228, Tryz.f228])
 have hX := @pl228.eq_def; repeat' (first | refine S.x ?_ | (refine G.call 243 ?_; refine S.c ?_ (h := mfind_ok (by assumption) (by assumption) (by assumption))) | rintro _ _ ⟨rfl, rfl⟩ | intro hb | fail)
 all_goals exact Tr.fin hK ⟨rfl, rfl⟩ S.E
theorem mmay_ok {p : Nat} {s : SV} {gs : List RegG} {a n : Int} {wr : Bool} (hr : ∀ g ∈ gs, okR g.mo) (ha : a ≤ 9223372036854775807) (ha2 : -9223372036854775808 ≤ a) :
  Trip Tryz.prog 230 [.pointer (some ⟨p, 0, none⟩), .int .i64 a, .int .i64 n, .bool wr].toArray (memL p s gs)
  fun v l' => v = .bool (fI (gs.map RegG.mo) a n wr).isSome ∧ l' = memL p s gs := by
 intro F K hK
 simp only [List.cons_append, List.nil_append] at hK ⊢
 (refine Tr.enter (rs := [.tmp 8]) mixed fn230 rfl (by simp +arith [Tryz.ntmps230]) fun u => ?_; simp only [cd230, Tryz.f230])
 cases hf : fI (gs.map RegG.mo) a n wr
 all_goals
  have hX := And.intro @pl230.eq_def (And.intro hf @rgP.eq_def); repeat' (first | refine S.x ?_ | (refine G.call 228 ?_; refine S.c ?_ (h := mof_ok (by assumption) (by assumption) (by assumption))) | rintro _ _ ⟨rfl, rfl⟩ | fail)
  all_goals exact Tr.fin hK ⟨by rw [hf]; rfl, rfl⟩ S.E
theorem mload_ok {p : Nat} {s : SV} {gs : List RegG} {a n : Int} (hr : ∀ g ∈ gs, okR g.mo) (ha : a ≤ 9223372036854775807) (ha2 : -9223372036854775808 ≤ a) :
  Trip Tryz.prog 231 [.pointer (some ⟨p, 0, none⟩), .int .i64 a, .int .i64 n].toArray (memL p s gs)
  fun v l' => ∃ s' : SV, v = .tuple [s'.v, .bool (ldO (gs.map RegG.mo) a n)].toArray ∧ l' = memL p s gs ++ [sl true s'.v (ldB (gs.map RegG.mo) a n)] := by
 intro F K hK
 simp only [List.cons_append, List.nil_append] at hK ⊢
 (refine Tr.enter (rs := [.tmp 6, .tmp 7]) mixed fn231 rfl (by simp +arith [Tryz.ntmps231]) fun u => ?_; simp only [cd231, Tryz.f231])
 cases hf : fI (gs.map RegG.mo) a n false with
 | none =>
  have e1 : ldO (gs.map RegG.mo) a n = false := by unfold ldO; rw [hf]; rfl
  have e2 : ldB (gs.map RegG.mo) a n = [] := by unfold ldB; rw [hf]
  rw [e1, e2] at hK
  have hX := And.intro @pl231.eq_def (And.intro hf @rgP.eq_def); repeat' (first | refine S.x ?_ | (refine G.call 228 ?_; refine S.c ?_ (h := mof_ok (by assumption) (by assumption) (by assumption))) | rintro _ _ ⟨rfl, rfl⟩ | fail)
  all_goals exact Tr.fin hK ⟨⟨none, 0, 0⟩, rfl, rfl⟩ S.E
 | some k =>
  obtain ⟨hk, hb0⟩ := fI_some hf
  rw [List.length_map] at hk
  have e1 : ldO (gs.map RegG.mo) a n = true := by unfold ldO; rw [hf]; rfl
  have e2 : ldB (gs.map RegG.mo) a n = (((ix gs (k : Int)).d.take ((a - (ix gs (k : Int)).base).toNat + n.toNat)).drop (a - (ix gs (k : Int)).base).toNat) := by unfold ldB; rw [hf]; simp only []; rw [mo_ix hk]; rfl
  rw [e1, e2] at hK
  rw [mo_ix hk] at hb0
  obtain ⟨p0, p1, p2, p3⟩ := hasB_dec hb0
  obtain ⟨b0, b1, hl⟩ := hr _ (ix_memR hk)
  simp only [RegG.mo] at p1 p2 p3 b0 b1 hl
  have hw1 : IntKind.i64.wrap (a - (ix gs (k : Int)).base) = a - (ix gs (k : Int)).base := wrapId (by omega) (by omega)
  have hw2 : IntKind.i64.wrap (a - (ix gs (k : Int)).base + n) = a - (ix gs (k : Int)).base + n := wrapId (by omega) (by omega)
  have hn : (a - (ix gs (k : Int)).base + n).toNat = (a - (ix gs (k : Int)).base).toNat + n.toNat := by omega
  have h1 : (a - (ix gs (k : Int)).base).toNat ≤ (a - (ix gs (k : Int)).base).toNat + n.toNat := by omega
  have h2 : (a - (ix gs (k : Int)).base).toNat + n.toNat ≤ (ix gs (k : Int)).d.length := by omega
  have h3 : (ix gs (k : Int)).d.length ≤ 1000000000 := by omega
  have hX := And.intro @pl231.eq_def (And.intro hf @rgP.eq_def); repeat' (first | refine S.x ?_ | (refine G.call 228 ?_; refine S.c ?_ (h := mof_ok (by assumption) (by assumption) (by assumption))) | rintro _ _ ⟨rfl, rfl⟩ | fail)
  refine Tr.famAt (xs := gs) (k : Int) S.K (by omega) (by omega) (regA_open ?_)
  have hX := And.intro @pl231.eq_def (And.intro hw1 hw2); repeat' (first | refine S.x ?_ | (refine G.call 68 ?_; first | refine S.c ?_ (h := cloneC_ok (by assumption) (by assumption) (by assumption)) | fail) | rintro _ _ ⟨_, rfl, rfl⟩ | (refine G.cut ?_; refine A.ccV rfl (by omega) (by omega) (by omega) ?_; rw [hn]) | fail)
  all_goals
   apply Tr.fin hK ⟨_, rfl, rfl⟩
   have hX := @regA.eq_def
   exact S.E
end Go.Proofs.YtacmaamllpiloaaGreat
namespace Go.Proofs.YtacmaamllpiloaaGreat
open Go Go.Wk
set_option maxHeartbeats 3200000
set_option maxRecDepth 100000
structure OneS where
 b : Nat
 has : Int
 done : Bool
instance inh_OneS : Inhabited OneS := ⟨⟨0, 0, false⟩⟩
def OneS.pt (g : OneS) : Pt := ⟨some g.b⟩
def OneS.mo (g : OneS) : Int × Bool := (g.has, g.done)
def oneS (g : OneS) : Asrt := blk g.b (.cells [.int .i64 g.has, .bool g.done].toArray 148 (0, 0))
abbrev slkB (p : Nat) (room : Int) (s : SV) : Asrt := blk p (.cells [.int .i64 room, s.v, .bool true].toArray 145 (0, 0))
instance elt_slk : ElT 143 Pt := ⟨⟩
def satA (a b : Int) : Int := if a + b ≤ 9223372036854775807 then a + b else 9223372036854775807
attribute [local irreducible] BrK GenK EGenK EUnitK CallK FnK CallV GuardO GuardC CondW opX opK opKc chkR eqR seqK blkK endL WL WD W LoopW BinK Tr drewK resL PickK NotK NilK ExtrK getK Instr.storeAt Instr.loadAt Instr.fieldAt Instr.indexAt Instr.lookup Instr.mapUpdate Instr.box Instr.alloc Instr.build Instr.buildSlice Instr.makeSlice Instr.makeMap Instr.sliceAt Instr.field Instr.index Instr.makeInterface Instr.typeAssert Builtin.len_ Builtin.append_ Builtin.cap_ Builtin.min_ Builtin.max_ Builtin.copy_ Builtin.clear_ convert binOp mp blk rob sl sep ex fact old
theorem sat_ok {a b : Int} (h0 : 0 ≤ a) (h1 : a ≤ 9223372036854775807) (h2 : 0 ≤ b) (h3 : b ≤ 9223372036854775807) : Trip Tryz.prog 103 [.int .i64 a, .int .i64 b].toArray [] fun v l' => v = .int .i64 (satA a b) ∧ l' = [] := by
 intro F K hK
 simp only [List.nil_append]
 by_cases hs : a + b ≤ 9223372036854775807
 ·have hw : IntKind.i64.wrap (a + b) = a + b := wrapId (by omega) (by omega)
  have hv : satA a b = a + b := if_pos hs
  (refine Tr.enter (rs := [.tmp 4]) mixed fn103 rfl (by simp +arith [Tryz.ntmps103]) fun u => ?_; simp only [cd103, Tryz.f103])
  have hX := And.intro @pl103.eq_def hw; repeat' (first | refine S.x ?_ | refine S.y ?_ ?_ | intro hb | fail)
  all_goals first
   | (exfalso; omega)
   | exact Tr.fin hK ⟨by rw [hv], rfl⟩ S.E
 ·have hw : IntKind.i64.wrap (a + b) = a + b - 18446744073709551616 := by
   unfold IntKind.wrap
   rw [show (2 ^ IntKind.i64.bits : Int) = 18446744073709551616 from by decide]
   simp only [show IntKind.i64.signed = true from rfl, Bool.true_and, decide_eq_true_eq]
   rw [show (2 ^ (IntKind.i64.bits - 1) : Int) = 9223372036854775808 from by decide]
   rw [if_pos (by omega)]
   omega
  have hv : satA a b = 9223372036854775807 := if_neg hs
  (refine Tr.enter (rs := [.tmp 4]) mixed fn103 rfl (by simp +arith [Tryz.ntmps103]) fun u => ?_; simp only [cd103, Tryz.f103])
  have hX := And.intro @pl103.eq_def hw; repeat' (first | refine S.x ?_ | fail)
  all_goals first
   | (exfalso; omega)
   | exact Tr.fin hK ⟨by rw [hv], rfl⟩ S.E
theorem clamp_ok {n a b : Int} : Trip Tryz.prog 104 [.int .i64 n, .int .i64 a, .int .i64 b].toArray [] fun v l' => v = .int .i64 (if n < a then a else if b < n then b else n) ∧ l' = [] := by
 intro F K hK
 simp only [List.nil_append]
 (refine Tr.enter (rs := [.tmp 6]) mixed fn104 rfl (by simp +arith [Tryz.ntmps104]) fun u => ?_; simp only [cd104, Tryz.f104])
 have hX := @pl104.eq_def; repeat' (first | refine S.x ?_ | refine S.y ?_ ?_ | intro hb | fail)
 all_goals exact S.L
theorem sfind_in {p : Nat} {room : Int} {s : SV} {gs : List OneS} {k : Int} (h0 : 0 ≤ k) (h1 : k < gs.length) : Trip Tryz.prog 101 [.pointer (some ⟨p, 0, none⟩), .int .i64 k].toArray [slkB p room s, sl false s.v (gs.map OneS.pt)]
  fun v l' => v = .pointer (some ⟨(ix gs k).b, 0, none⟩) ∧ l' = [slkB p room s, sl false s.v (gs.map OneS.pt)] := by
 intro F K hK
 simp only [List.cons_append, List.nil_append]
 have hm := ix_map (f := OneS.pt) h0 h1
 have hl : (gs.map OneS.pt).length = gs.length := List.length_map _
 (refine Tr.enter (rs := [.tmp 4]) mixed fn101 rfl (by simp +arith [Tryz.ntmps101]) fun u => ?_; simp only [cd101, Tryz.f101])
 have hX := And.intro @pl101.eq_def hm; repeat' (first | refine S.x ?_ | intro hb | fail)
 all_goals first
  | (exfalso; omega)
  | exact S.L
theorem sfind_out {p : Nat} {room : Int} {s : SV} {gs : List OneS} {k : Int} (h : ¬ (0 ≤ k ∧ k < gs.length)) : Trip Tryz.prog 101 [.pointer (some ⟨p, 0, none⟩), .int .i64 k].toArray [slkB p room s, sl false s.v (gs.map OneS.pt)]
  fun v l' => v = .pointer none ∧ l' = [slkB p room s, sl false s.v (gs.map OneS.pt)] := by
 intro F K hK
 simp only [List.cons_append, List.nil_append]
 have hl : (gs.map OneS.pt).length = gs.length := List.length_map _
 (refine Tr.enter (rs := [.tmp 4]) mixed fn101 rfl (by simp +arith [Tryz.ntmps101]) fun u => ?_; simp only [cd101, Tryz.f101])
 have hX := @pl101.eq_def; repeat' (first | refine S.x ?_ | refine S.y ?_ ?_ | intro hb | fail)
 all_goals first
  | (exfalso; omega)
  | exact S.L
end Go.Proofs.YtacmaamllpiloaaGreat
