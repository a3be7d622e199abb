import Derived.Test.YtacmaamllpiloaaGreatZ24
import Derived.Test.YtacmaamllpiloaaGreatZ06
namespace Go.Proofs.YtacmaamllpiloaaGreat
open Go Go.Wk
set_option maxHeartbeats 6400000
set_option maxRecDepth 10000
structure AP where
 c : PortC
 ms : List (List UInt8)
 fresh : Bool
 lost : Int
instance : Inhabited AP := ⟨⟨default, [], false, 0⟩⟩
instance : ElT 137 (SL Msg) := ⟨⟩
def mo (x : SL Msg) : List (List UInt8) := x.d.map SL.d
abbrev rB (r : Nat) (a b c d : SV) : Asrt := blk r (.cells [a.v, b.v, c.v, d.v].toArray 139 (0, 0))
def canA (ps : List AP) (k : Int) (q i : Bool) : Bool := if inR ps k then (((ix ps k).c.q == q) && ((ix ps k).c.i == i)) else false
def intoCA (ps : List AP) (k : Int) (q : Bool) (n : Nat) : Int := if canA ps k q false = true then (if lenOK n (ix ps k).c.size = true then (if q = true then (if (ix ps k).c.depth ≤ (ix ps k).ms.length then 1 else 0) else 0) else 2) else 3
def intoA (ps : List AP) (k : Int) (q : Bool) (m : List UInt8) : List AP := if canA ps k q false = true then (if lenOK m.length (ix ps k).c.size = true then (if q = true then (if (ix ps k).c.depth ≤ (ix ps k).ms.length then ps else ps.set k.toNat { ix ps k with ms := (ix ps k).ms ++ [m], fresh := false }) else ps.set k.toNat { ix ps k with ms := [m], fresh := true }) else ps) else ps
def outCA (ps : List AP) (k : Int) (q : Bool) : Int := if canA ps k q true = true then (if ((ix ps k).ms.length : Int) = 0 then 1 else 0) else 3
def outDA (ps : List AP) (k : Int) (q : Bool) : List UInt8 := if canA ps k q true = true then (if ((ix ps k).ms.length : Int) = 0 then [] else ix (ix ps k).ms 0) else []
def outA (ps : List AP) (k : Int) (q : Bool) : List AP := if canA ps k q true = true then (if q = true then (if ((ix ps k).ms.length : Int) = 0 then ps else ps.set k.toNat { ix ps k with ms := (ix ps k).ms.drop 1, fresh := false }) else ps) else ps
def drainDA (ps : List AP) (k : Int) : List (List UInt8) := if canA ps k true false = true then (ix ps k).ms else if canA ps k false false = true then (if (ix ps k).fresh = true then (ix ps k).ms else []) else []
def drainA (ps : List AP) (k : Int) : List AP := if canA ps k true false = true then ps.set k.toNat { ix ps k with ms := [], fresh := false } else if canA ps k false false = true then (if (ix ps k).fresh = true then ps.set k.toNat { ix ps k with fresh := false } else ps) else ps
def delBA (ps : List AP) (k : Int) : Bool := if canA ps k false true = true then true else if canA ps k true true = true then !decide ((ix ps k).c.depth ≤ (ix ps k).ms.length) else false
def delA (ps : List AP) (k : Int) (m : List UInt8) : List AP := if canA ps k false true = true then ps.set k.toNat { ix ps k with ms := [m], fresh := false } else if canA ps k true true = true then (if (ix ps k).c.depth ≤ (ix ps k).ms.length then ps.set k.toNat { ix ps k with fresh := false, lost := IntKind.i64.wrap ((ix ps k).lost + 1) } else ps.set k.toNat { ix ps k with ms := (ix ps k).ms ++ [m], fresh := false }) else ps
theorem ap_len {ps : List AP} {xs : List (SL Msg)} (h : xs.map mo = ps.map AP.ms) : xs.length = ps.length := by simpa using congrArg List.length h
theorem ap_ms {ps : List AP} {xs : List (SL Msg)} (h : xs.map mo = ps.map AP.ms) {k : Int} (h0 : 0 ≤ k) (h1 : k < ps.length) : (ix xs k).d.map SL.d = (ix ps k).ms := by
 have hl := ap_len h
 rw [← ix_map (f := AP.ms) h0 h1, ← h, ix_map (f := mo) h0 (by omega)]; rfl
theorem ap_mlen {ps : List AP} {xs : List (SL Msg)} (h : xs.map mo = ps.map AP.ms) {k : Int} (h0 : 0 ≤ k) (h1 : k < ps.length) : (ix xs k).d.length = (ix ps k).ms.length := by
 rw [← ap_ms h h0 h1]; simp
attribute [local irreducible] BrK GenK EGenK EUnitK CallK FnK CallV GuardO GuardC CondW opX opK opKc chkR eqR seqK blkK endL WL WD W LoopW BinK Tr drewK resL PickK NotK NilK ExtrK getK Instr.storeAt Instr.loadAt Instr.fieldAt Instr.indexAt Instr.lookup Instr.mapUpdate Instr.box Instr.alloc Instr.build Instr.buildSlice Instr.makeSlice Instr.makeMap Instr.sliceAt Instr.field Instr.index Instr.makeInterface Instr.typeAssert Builtin.len_ Builtin.append_ Builtin.cap_ Builtin.min_ Builtin.max_ Builtin.copy_ Builtin.clear_ convert binOp mp blk rob sl sep ex fact old
theorem rcan_ok {r : Nat} {a b c d : SV} {ps : List AP} {k : Int} {q i : Bool} : Trip Tryz.prog 87 [.pointer (some ⟨r, 0, none⟩), .int .i64 k, .bool q, .bool i].toArray [rB r a b c d, sl true a.v (ps.map AP.c)]
  fun v l' => v = .bool (canA ps k q i) ∧ l' = [rB r a b c d, sl true a.v (ps.map AP.c)] := by
 intro F K hK
 simp only [List.cons_append, List.nil_append]
 have hl : (ps.map AP.c).length = ps.length := List.length_map _
 (refine Tr.enter (rs := [.tmp 8]) mixed fn87 rfl (by simp +arith [Tryz.ntmps87]) fun u => ?_; simp only [cd87, Tryz.f87])
 by_cases h : inR ps k
 ·have ⟨h0, h1⟩ := h
  have hm := ix_map (f := AP.c) h0 h1
  ((try simp only [WKb, ↓reduceIte, Nat.reduceEqDiff, Nat.reduceAdd]) <;> (repeat' ((first
  | (refine G.tr ?_; first | refine S.a ?_ | refine S.i fun hix => ?_ | (refine S.g fun hb => ?_; (try simp only [hb])) | (refine S.s (fun hb => ?_) (fun hb => ?_) <;> ((try simp only [hb]) <;> (try (have hp := hb; simp only [WKs] at hp; (try have hq := Int.not_le.2 hp); (try have hq := Int.not_lt.2 hp))))))
  | fail) <;> (try simp only [WKb, ↓reduceIte, Nat.reduceEqDiff, hm]))))
  all_goals
   refine Tr.fin hK ⟨(by first | (simp [*, canA]; done) | fail), rfl⟩ ?_
   ((try clear hK) <;> (try simp only [WKe, *]) <;> repeat (first | with_reducible exact EntR.done | fail))
 ·have h' := h
  unfold inR at h'
  ((try simp only [WKb, ↓reduceIte, Nat.reduceEqDiff, Nat.reduceAdd]) <;> (repeat' ((first
  | (refine G.tr ?_; first | refine S.a ?_ | (refine S.g fun hb => ?_; (try simp only [hb])) | (refine S.s (fun hb => ?_) (fun hb => ?_) <;> ((try simp only [hb]) <;> (try (have hp := hb; simp only [WKs] at hp; (try have hq := Int.not_le.2 hp); (try have hq := Int.not_lt.2 hp))))))
  | fail) <;> (try simp only [WKb, ↓reduceIte, Nat.reduceEqDiff]))))
  all_goals
   refine Tr.fin hK ⟨(by first | (simp [*, canA]; done) | fail), rfl⟩ ?_
   ((try clear hK) <;> (try simp only [WKe, *]) <;> repeat (first | with_reducible exact EntR.done | fail))
theorem rpset_ok {r : Nat} {a b c d s : SV} {xs : List (SL Msg)} {fs : List Bool} {os : List Int} {k lo : Int} {fr : Bool} {ms : List Msg} (h0 : 0 ≤ k) (h1 : k < xs.length) (h2 : fs.length = xs.length) (h3 : os.length = xs.length) (hb : xs.length ≤ 1000000) :
  Trip Tryz.prog 88 [.pointer (some ⟨r, 0, none⟩), .int .i64 k, s.v, .bool fr, .int .i64 lo].toArray [rB r a b c d, sl false b.v xs, fzl xs, sl false c.v fs, sl false d.v os, sl true s.v ms, fzl ms]
  fun v l' => ∃ b2 c2 d2, v = .tuple #[] ∧ l' = [rB r a b2 c2 d2, sl false b2.v (xs.set k.toNat (SL.mk s ms)), fzl (xs.set k.toNat (SL.mk s ms)), sl false c2.v (fs.set k.toNat fr), sl false d2.v (os.set k.toNat lo)] := by
 intro F K hK
 simp only [List.cons_append, List.nil_append]
 (refine Tr.enter (rs := []) mixed fn88 rfl (by simp +arith [Tryz.ntmps88]) fun u => ?_; simp only [cd88, Tryz.f88])
 ((try simp only [WKb, Nat.reduceAdd]) <;> (repeat' ((first
  | (refine G.tr ?_; first | refine S.a ?_ | refine S.n fun _ => ?_ | refine S.i fun hix => ?_ | fail)
  | fail) <;> (try simp only [WKb, ↓reduceIte, Nat.reduceEqDiff, Nat.reduceAdd]))))
 all_goals
  apply Tr.fin hK ⟨_, _, _, rfl, rfl⟩
  ((try clear hK) <;> (try simp only [WKe, *]) <;> repeat (first | with_reducible exact EntR.done | refine S.e ?_ | refine EntR.drop (F := F) ?_ | fail))
theorem canA_t {ps : List AP} {k : Int} {q i : Bool} (h : canA ps k q i = true) : 0 ≤ k ∧ k < ps.length ∧ (ix ps k).c.q = q ∧ (ix ps k).c.i = i := by
 unfold canA at h
 split at h
 ·rename_i hr
  simp only [Bool.and_eq_true, beq_iff_eq] at h
  exact ⟨hr.1, hr.2, h.1, h.2⟩
 ·cases h
theorem ap_set {ps : List AP} {xs : List (SL Msg)} (h : xs.map mo = ps.map AP.ms) {k : Nat} {y : SL Msg} {g : AP} (hg : mo y = g.ms) : (xs.set k y).map mo = (ps.set k g).map AP.ms := by rw [List.map_set, List.map_set, h, hg]
theorem ap_keep {β : Type} {f : AP → β} {ps : List AP} {k : Int} (h0 : 0 ≤ k) (h1 : k < ps.length) : (ps.map f).set k.toNat (f (ix ps k)) = ps.map f := by rw [← List.map_set]; exact map_same h0 h1 _ rfl
end Go.Proofs.YtacmaamllpiloaaGreat
namespace Go.Proofs.YtacmaamllpiloaaGreat
open Go Go.Wk
set_option maxHeartbeats 6400000
set_option maxRecDepth 10000
attribute [local irreducible] BrK GenK EGenK EUnitK CallK FnK CallV GuardO GuardC CondW opX opK opKc chkR eqR seqK blkK endL WL WD W LoopW BinK Tr drewK resL PickK NotK NilK ExtrK getK Instr.storeAt Instr.loadAt Instr.fieldAt Instr.indexAt Instr.lookup Instr.mapUpdate Instr.box Instr.alloc Instr.build Instr.buildSlice Instr.makeSlice Instr.makeMap Instr.sliceAt Instr.field Instr.index Instr.makeInterface Instr.typeAssert Builtin.len_ Builtin.append_ Builtin.cap_ Builtin.min_ Builtin.max_ Builtin.copy_ Builtin.clear_ convert binOp mp blk rob sl sep ex fact old
theorem rdeliver_ok {r : Nat} {a b c d s : SV} {ps : List AP} {xs : List (SL Msg)} {k : Int} {m : List UInt8} (hx : xs.map mo = ps.map AP.ms) (hb : ps.length ≤ 1000000) (hm : (ix ps k).ms.length ≤ 1000000) :
  Trip Tryz.prog 66 [.pointer (some ⟨r, 0, none⟩), .int .i64 k, s.v].toArray [rB r a b c d, sl true a.v (ps.map AP.c), sl false b.v xs, fzl xs, sl false c.v (ps.map AP.fresh), sl false d.v (ps.map AP.lost), sl true s.v m]
  fun v l' => ∃ b2 c2 d2 xs2, xs2.map mo = (delA ps k m).map AP.ms ∧ v = .bool (delBA ps k) ∧ l' = [rB r a b2 c2 d2, sl true a.v ((delA ps k m).map AP.c), sl false b2.v xs2, fzl xs2, sl false c2.v ((delA ps k m).map AP.fresh), sl false d2.v ((delA ps k m).map AP.lost)] := by
 intro F K hK
 simp only [List.cons_append, List.nil_append]
 have hdm : (⟨⟨none, 0, 0⟩, []⟩ : Msg) = default := rfl
 have hl := ap_len hx
 have hlc : (ps.map AP.c).length = ps.length := List.length_map _
 have hlo : (ps.map AP.lost).length = ps.length := List.length_map _
 have hlf : (ps.map AP.fresh).length = ps.length := List.length_map _
 (refine Tr.enter (rs := [.tmp 6]) mixed fn66 rfl (by simp +arith [Tryz.ntmps66]) fun u => ?_; simp only [cd66, Tryz.f66])
 cases hc : canA ps k false true
 ·cases hc2 : canA ps k true true
  ·have hI : delA ps k m = ps := by simp [delA, hc, hc2]
   ((try simp only [WKb, ↓reduceIte, Nat.reduceEqDiff, Nat.reduceAdd]) <;> (repeat' ((first
  | (refine G.tr ?_; first | (refine G.call 87 ?_; refine S.c ?_ (h := rcan_ok)) | fail)
  | rintro _ _ ⟨rfl, rfl⟩
  | fail) <;> (try simp only [WKb, ↓reduceIte, Nat.reduceEqDiff, hc, hc2]))))
   all_goals
    apply Tr.fin hK ⟨b, c, d, xs, by rw [hI]; exact hx, (by first | (simp [*, delBA]; done) | fail), rfl⟩
    ((try clear hK) <;> (try simp only [WKe, *]) <;> repeat (first | with_reducible exact EntR.done | refine S.e ?_ | refine EntR.drop (F := F) ?_ | fail))
  ·obtain ⟨h0, h1, hq, hi⟩ := canA_t hc2
   have hmc := ix_map (f := AP.c) h0 h1
   have hmo := ix_map (f := AP.lost) h0 h1
   have hlm := ap_mlen hx h0 h1
   have hms := ap_ms hx h0 h1
   have hkc := ap_keep (f := AP.c) h0 h1
   have hkl := ap_keep (f := AP.lost) h0 h1
   by_cases hf : (ix ps k).c.depth ≤ (ix ps k).ms.length
   ·have hI : delA ps k m = ps.set k.toNat { ix ps k with fresh := false, lost := IntKind.i64.wrap ((ix ps k).lost + 1) } := by simp [delA, hc, hc2, hf]
    have hS : (xs.set k.toNat ⟨(ix xs k).s, (ix xs k).d⟩).map mo = (delA ps k m).map AP.ms := by
     rw [hI]; exact ap_set hx (by simp [mo, hms])
    ((try simp only [WKb, ↓reduceIte, Nat.reduceEqDiff, Nat.reduceAdd]) <;> (repeat' ((first
  | (refine G.tr ?_; first | refine S.a ?_ | (refine G.call 87 ?_; refine S.c ?_ (h := rcan_ok)) | (refine G.call 88 ?_; refine S.c ?_ (h := rpset_ok ?_ ?_ ?_ ?_ ?_)) | refine S.i fun hix => ?_ | fail)
  | rintro _ _ ⟨rfl, rfl⟩
  | rintro _ _ ⟨_, _, _, rfl, rfl⟩
  | ((fail_if_success refine G.tr ?_); exact G.prop S.p)
  | fail) <;> (try simp only [WKb, ↓reduceIte, Nat.reduceEqDiff, pl66, hc, hc2, hmc, hmo, hlm]))))
    all_goals
     apply Tr.fin hK ⟨_, _, _, _, hS, (by first | (simp [*, delBA]; done) | fail), rfl⟩
     ((try clear hK) <;> (try simp only [WKe, List.map_set, *]) <;> repeat (first | with_reducible exact EntR.done | refine S.e ?_ | refine EntR.drop (F := F) ?_ | fail))
   ·have hI : delA ps k m = ps.set k.toNat { ix ps k with ms := (ix ps k).ms ++ [m], fresh := false } := by simp [delA, hc, hc2, hf]
    have hS : ∀ t, (xs.set k.toNat ⟨t, (ix xs k).d ++ [⟨s, m⟩]⟩).map mo = (delA ps k m).map AP.ms := fun t => by
     rw [hI]; exact ap_set hx (by simp [mo, hms])
    ((try simp only [WKb, ↓reduceIte, Nat.reduceEqDiff, Nat.reduceAdd]) <;> (repeat' ((first
  | (refine G.tr ?_; first | refine S.a ?_ | refine Tr.brK ?_ ?_ | (refine G.call 87 ?_; refine S.c ?_ (h := rcan_ok)) | (refine G.call 88 ?_; refine S.c ?_ (h := rpset_ok ?_ ?_ ?_ ?_ ?_)) | refine S.n fun _ => ?_ | refine S.i fun hix => ?_ | fail)
  | rintro _ _ ⟨rfl, rfl⟩
  | rintro _ _ ⟨_, _, _, rfl, rfl⟩
  | (refine G.call 88 ?_; refine Tr.freezeAt (α := Msg) (by (repeat (first | exact TakeA.here | fail)); done) ?_)
  | ((fail_if_success refine G.tr ?_); exact G.prop S.p)
  | fail) <;> (try simp only [WKb, ↓reduceIte, Nat.reduceEqDiff, pl66, hc, hc2, hmc, hmo, hlm]))))
    all_goals
     apply Tr.fin hK ⟨_, _, _, _, hS _, (by first | (simp [*, delBA]; done) | fail), rfl⟩
     ((try clear hK) <;> (try simp only [WKe, List.map_set, *]) <;> repeat (first | with_reducible exact EntR.done | refine S.e ?_ | refine EntR.drop (F := F) ?_ | fail))
 ·obtain ⟨h0, h1, hq, hi⟩ := canA_t hc
  have hmc := ix_map (f := AP.c) h0 h1
  have hmo := ix_map (f := AP.lost) h0 h1
  have hmf := ix_map (f := AP.fresh) h0 h1
  have hlm := ap_mlen hx h0 h1
  have hms := ap_ms hx h0 h1
  have hkc := ap_keep (f := AP.c) h0 h1
  have hkl := ap_keep (f := AP.lost) h0 h1
  have hI : delA ps k m = ps.set k.toNat { ix ps k with ms := [m], fresh := false } := by simp [delA, hc]
  have hS : ∀ t, (xs.set k.toNat ⟨t, [⟨s, m⟩]⟩).map mo = (delA ps k m).map AP.ms := fun t => by rw [hI]; exact ap_set hx rfl
  ((try simp only [WKb, ↓reduceIte, Nat.reduceEqDiff, Nat.reduceAdd]) <;> (repeat' ((first
  | (refine G.tr ?_; first | refine S.a ?_ | (refine G.call 87 ?_; refine S.c ?_ (h := rcan_ok)) | (refine G.call 88 ?_; refine S.c ?_ (h := rpset_ok ?_ ?_ ?_ ?_ ?_)) | refine S.n fun _ => ?_ | refine S.i fun hix => ?_ | fail)
  | rintro _ _ ⟨rfl, rfl⟩
  | rintro _ _ ⟨_, _, _, rfl, rfl⟩
  | (refine G.call 88 ?_; refine Tr.freezeAt (α := Msg) (by (repeat (first | exact TakeA.here | fail)); done) ?_)
  | ((fail_if_success refine G.tr ?_); exact G.prop S.p)
  | fail) <;> (try simp only [WKb, ↓reduceIte, Nat.reduceEqDiff, hc, hmo]))))
  all_goals
   apply Tr.fin hK ⟨_, _, _, _, hS _, (by first | (simp [*, delBA]; done) | fail), rfl⟩
   ((try clear hK) <;> (try simp only [WKe, List.map_set, *]) <;> repeat (first | with_reducible exact EntR.done | refine S.e ?_ | refine EntR.drop (F := F) ?_ | fail))
end Go.Proofs.YtacmaamllpiloaaGreat
namespace Go.Proofs.YtacmaamllpiloaaGreat
open Go Go.Wk
set_option maxHeartbeats 64000000
set_option maxRecDepth 10000
def newA (cs : List PortC) : List AP := (cs.take 8).map fun c => ⟨c, [], false, 0⟩
theorem newA_c {cs : List PortC} : (newA cs).map AP.c = cs.take 8 := by simp [newA, Function.comp_def]
theorem newA_f {cs : List PortC} : (newA cs).map AP.fresh = List.replicate (min 8 cs.length) false := by simp [newA, Function.comp_def, List.map_const']
theorem newA_l {cs : List PortC} : (newA cs).map AP.lost = List.replicate (min 8 cs.length) 0 := by simp [newA, Function.comp_def, List.map_const']
theorem newA_m {cs : List PortC} : (List.replicate (min 8 cs.length) (default : SL Msg)).map mo = (newA cs).map AP.ms := by simp [newA, Function.comp_def, List.map_const']; exact .inr rfl
theorem newA_len {cs : List PortC} : (newA cs).length = min 8 cs.length := by simp [newA]
attribute [local irreducible] BrK GenK EGenK EUnitK CallK FnK CallV GuardO GuardC CondW opX opK opKc chkR eqR seqK blkK endL WL WD W LoopW BinK Tr drewK resL PickK NotK NilK ExtrK getK Instr.storeAt Instr.loadAt Instr.fieldAt Instr.indexAt Instr.lookup Instr.mapUpdate Instr.box Instr.alloc Instr.build Instr.buildSlice Instr.makeSlice Instr.makeMap Instr.sliceAt Instr.field Instr.index Instr.makeInterface Instr.typeAssert Builtin.len_ Builtin.append_ Builtin.cap_ Builtin.min_ Builtin.max_ Builtin.copy_ Builtin.clear_ convert binOp mp blk rob sl sep ex fact old
theorem rpnew_ok {s : SV} {cs : List PortC} : Trip Tryz.prog 62 [s.v].toArray [sl true s.v cs]
  fun v l' => ∃ r a b c d xs, xs.map mo = (newA cs).map AP.ms ∧ v = .pointer (some ⟨r, 0, none⟩) ∧ l' = [rB r a b c d, sl true a.v ((newA cs).map AP.c), sl false b.v xs, fzl xs, sl false c.v ((newA cs).map AP.fresh), sl false d.v ((newA cs).map AP.lost)] := by
 intro F K hK
 simp only [List.cons_append, List.nil_append]
 have hd0 : (default : Int) = 0 := rfl
 have hd1 : (default : Bool) = false := rfl
 refine Tr.bound (xs := cs) Has.here fun hbx => ?_
 (refine Tr.enter (rs := [.tmp 2]) mixed fn62 rfl (by simp +arith [Tryz.ntmps62]) fun u => ?_; simp only [cd62, Tryz.f62])
 by_cases hn : 8 < cs.length
 ·have hm : min 8 cs.length = 8 := by omega
  have leaf : ∀ (r : Nat) (a b c d : SV), Tr ([blk r (.cells [a.v, b.v, c.v, d.v].toArray 139 (0, 0)), sl false d.v (List.replicate (Int.toNat 8) (default : Int)), sl false c.v (List.replicate (Int.toNat 8) (default : Bool)), sl false b.v (List.replicate (Int.toNat 8) (default : SL Msg)), sl false a.v (cs.take (Int.toNat 8))] ++ F) (K (.pointer (some ⟨r, 0, none⟩))) := by
   intro r a b c d
   simp only [List.cons_append, List.nil_append]
   refine Tr.freezeAt (α := PortC) (by (repeat (first | exact TakeA.here | apply TakeA.next)); done) ?_
   apply Tr.fin hK ⟨_, _, _, _, _, _, newA_m, rfl, rfl⟩
   ((try clear hK) <;> (try simp only [WKe, newA_c, newA_f, newA_l, *]) <;> repeat (first | with_reducible exact EntR.done | refine S.e ?_ | fail))
  ((try simp only [WKb, ↓reduceIte, Nat.reduceEqDiff]) <;> (repeat' ((first
  | (refine G.tr ?_; first | refine S.d ?_ | refine S.a ?_ | refine Tr.brK ?_ ?_ | refine S.n fun _ => ?_ | fail)
  | fail) <;> (try simp only [WKb, WKh, ↓reduceIte, Nat.reduceEqDiff, Nat.reduceAdd, pl62]))))
  all_goals (apply Tr.ent2 ?hh (leaf _ _ _ _ _); case hh => (repeat (first | with_reducible exact EntR.done | refine S.e ?_ | refine EntR.drop (F := F) ?_ | fail)))
 ·have hm : min 8 cs.length = cs.length := by omega
  have ht : cs.take 8 = cs := List.take_of_length_le (by omega)
  have ht2 : cs.take ((cs.length : Int)).toNat = cs := List.take_of_length_le (by simp)
  have leaf : ∀ (r : Nat) (a b c d : SV), Tr ([blk r (.cells [a.v, b.v, c.v, d.v].toArray 139 (0, 0)), sl false d.v (List.replicate (Int.toNat (cs.length : Int)) (default : Int)), sl false c.v (List.replicate (Int.toNat (cs.length : Int)) (default : Bool)), sl false b.v (List.replicate (Int.toNat (cs.length : Int)) (default : SL Msg)), sl false a.v (cs.take (Int.toNat (cs.length : Int)))] ++ F) (K (.pointer (some ⟨r, 0, none⟩))) := by
   intro r a b c d
   simp only [List.cons_append, List.nil_append]
   refine Tr.freezeAt (α := PortC) (by (repeat (first | exact TakeA.here | apply TakeA.next)); done) ?_
   apply Tr.fin hK ⟨_, _, _, _, _, _, newA_m, rfl, rfl⟩
   ((try clear hK) <;> (try simp only [WKe, newA_c, newA_f, newA_l, List.take_length, *]) <;> repeat (first | with_reducible exact EntR.done | refine S.e ?_ | fail))
  ((try simp only [WKb, ↓reduceIte, Nat.reduceEqDiff]) <;> (repeat' ((first
  | (refine G.tr ?_; first | refine S.d ?_ | refine S.a ?_ | refine Tr.brK ?_ ?_ | refine S.n fun _ => ?_ | fail)
  | fail) <;> (try simp only [WKb, WKh, ↓reduceIte, Nat.reduceEqDiff, Nat.reduceAdd, pl62]))))
  all_goals (apply Tr.ent2 ?hh (leaf _ _ _ _ _); case hh => (repeat (first | with_reducible exact EntR.done | refine S.e ?_ | refine EntR.drop (F := F) ?_ | fail)))
end Go.Proofs.YtacmaamllpiloaaGreat
namespace Go.Proofs.YtacmaamllpiloaaGreat
open Go Go.Wk
set_option maxHeartbeats 3200000
set_option maxRecDepth 10000
section
variable {b c b2 c2 : Nat} {s s2 : SV} {m m2 m3 : Msg} {n : Nat} {t f t2 f2 : Bool}
abbrev sA (b c : Nat) (m : Msg) (t f : Bool) : OneG := ⟨b, false, true, 300, 0, 0, c, ⟨none, 0, 0⟩, [], m, t, f⟩
abbrev sB (b c : Nat) (m : Msg) (t f : Bool) : OneG := ⟨b, false, false, 300, 0, 0, c, ⟨none, 0, 0⟩, [], m, t, f⟩
end
attribute [local irreducible] BrK GenK EGenK EUnitK CallK FnK CallV GuardO GuardC CondW opX opK opKc chkR eqR seqK blkK endL WL WD W LoopW BinK Tr drewK resL PickK NotK NilK ExtrK getK Instr.storeAt Instr.loadAt Instr.fieldAt Instr.indexAt Instr.lookup Instr.mapUpdate Instr.box Instr.alloc Instr.build Instr.buildSlice Instr.makeSlice Instr.makeMap Instr.sliceAt Instr.field Instr.index Instr.makeInterface Instr.typeAssert Builtin.len_ Builtin.append_ Builtin.cap_ Builtin.min_ Builtin.max_ Builtin.copy_ Builtin.clear_ convert binOp mp blk rob sl sep ex fact old
end Go.Proofs.YtacmaamllpiloaaGreat
namespace Go.Proofs.YtacmaamllpiloaaGreat
open Go Go.Wk
set_option maxHeartbeats 3200000
set_option maxRecDepth 10000
def OneG.conf (g : OneG) : PortC := ⟨g.q, g.i, g.size, g.depth⟩
theorem mk0_core {b c : Nat} {x : PortC} : (OneG.mk0 b c x).core = portM x := rfl
theorem ix_set_self {xs : List OneG} {k : Nat} {x : OneG} (h : k < xs.length) : ix (xs.set k x) (k : Int) = x := by rw [ix_nat (by simpa using h)]; simp
theorem ix_set_ne {xs : List OneG} {k j : Nat} {x : OneG} (h : j ≠ k) (hj : j < xs.length) : ix (xs.set k x) (j : Int) = ix xs (j : Int) := by
 rw [ix_nat (by simpa using hj), ix_nat hj, List.getElem_set_ne (Ne.symm h)]
theorem one_open {g : OneG} {l : List Asrt} {X : WP} (hx : ∀ v0, Tr (onB g.b g.q g.i g.size g.depth v0 g.lost :: l) X) : Tr (oneA g :: l) X := by
 cases hq : g.q
 ·refine oneS_open hq ?_
  have := hx (.iface 124 (.pointer (some ⟨g.c, 0, none⟩)))
  rw [hq] at this
  exact this.imp (Imp.cons (Imp.trans Imp.tail Imp.tail))
 ·refine oneQ_open hq ?_
  have := hx (.iface 121 (.pointer (some ⟨g.c, 0, none⟩)))
  rw [hq] at this
  exact this.imp (Imp.cons (Imp.trans Imp.tail (Imp.trans Imp.tail Imp.tail)))
theorem clear_core {gs g2 : List OneG} (hl : g2.length = gs.length) (_hcf : g2.map OneG.conf = gs.map OneG.conf) (h : ∀ j : Nat, j < gs.length → (ix g2 (j : Int)).core = portM (ix gs (j : Int)).conf) : g2.map OneG.core = gs.map fun g => portM g.conf :=
 List.ext_getElem (by simp [hl]) fun i h1 h2 => by
  have h1' : i < gs.length := by simpa using h2
  have := h i h1'
  rw [ix_nat (by omega), ix_nat h1'] at this
  simpa using this
attribute [local irreducible] BrK GenK EGenK EUnitK CallK FnK CallV GuardO GuardC CondW opX opK opKc chkR eqR seqK blkK endL WL WD W LoopW BinK Tr drewK resL PickK NotK NilK ExtrK getK Instr.storeAt Instr.loadAt Instr.fieldAt Instr.indexAt Instr.lookup Instr.mapUpdate Instr.box Instr.alloc Instr.build Instr.buildSlice Instr.makeSlice Instr.makeMap Instr.sliceAt Instr.field Instr.index Instr.makeInterface Instr.typeAssert Builtin.len_ Builtin.append_ Builtin.cap_ Builtin.min_ Builtin.max_ Builtin.copy_ Builtin.clear_ convert binOp mp blk rob sl sep ex fact old
theorem pclear_ok {p : Nat} {s : SV} {gs : List OneG} : Trip Tryz.prog 225 [.pointer (some ⟨p, 0, none⟩)].toArray [poB p s, fam oneA gs, sl false s.v (gs.map OneG.pt)]
  fun v l' => ∃ gs', gs'.map OneG.pt = gs.map OneG.pt ∧ gs'.map OneG.core = gs.map (fun g => portM g.conf) ∧ v = .tuple #[] ∧ l' = [poB p s, fam oneA gs', sl false s.v (gs.map OneG.pt)] := by
 intro F K hK
 simp only [List.cons_append, List.nil_append]
 refine Tr.bound (xs := gs.map OneG.pt) (Has.next (Has.next Has.here)) fun hbx => ?_
 have hlp : (gs.map OneG.pt).length = gs.length := List.length_map _
 (refine Tr.enter (rs := []) mixed fn225 rfl (by simp +arith [Tryz.ntmps225]) fun u => ?_; simp only [cd225, Tryz.f225])
 ((try simp only [WKb, ↓reduceIte, Nat.reduceEqDiff]) <;> (repeat' ((first
  | (refine G.tr ?_; first | refine S.a ?_ | fail)
  | fail) <;> (try simp only [WKb, ↓reduceIte]))))
 refine Tr.loopE (α := Nat × List OneG) [11] [9, 10] (fun x => [.int .i64 x.1]) (fun x => [fam oneA x.2])
  (fun x => x.1 ≤ gs.length ∧ x.2.length = gs.length ∧ x.2.map OneG.pt = gs.map OneG.pt ∧ x.2.map OneG.conf = gs.map OneG.conf ∧ ∀ j : Nat, j < x.1 → (ix x.2 (j : Int)).core = portM (ix gs (j : Int)).conf) (fun x => gs.length - x.1) (0, gs) (by (repeat (first | exact TakeL.nil | (apply TakeL.cons; focus ((first | ((repeat (first | with_reducible exact TakeA.here | with_reducible apply TakeA.next)); done) | fail))) | fail)); done) rfl ⟨by omega, rfl, rfl, rfl, fun j hj => by omega⟩ fun x u hx => ?_
 obtain ⟨k, g2⟩ := x
 simp only at hx ⊢
 obtain ⟨hk, hl, hpt, hcf, hco⟩ := hx
 by_cases hkn : k < gs.length
 ·have hw := wrapSucc (k := k) (by omega)
  have hm : ix (gs.map OneG.pt) (k : Int) = (ix gs (k : Int)).pt := ix_map (f := OneG.pt) (by omega) (by omega)
  have hm2 : ix (gs.map OneG.pt) (k : Int) = ⟨some (ix g2 (k : Int)).b⟩ := by rw [← hpt, ix_map (f := OneG.pt) (by omega) (by omega)]; rfl
  have hlp2 : (gs.map OneG.pt).length = gs.length := List.length_map _
  have hc2 : (ix g2 (k : Int)).conf = (ix gs (k : Int)).conf := by rw [← ix_map (f := OneG.conf) (by omega) (by omega), hcf, ix_map (f := OneG.conf) (by omega) (by omega)]
  simp only [List.cons_append, List.nil_append]
  refine Tr.famAt (A := oneA) k (by (repeat (first | exact TakeA.here | fail)); done) (by omega) (by omega) ?_
  refine one_open fun v0 => ?_
  ((try simp only [WKb, ↓reduceIte, Nat.reduceEqDiff]) <;> (repeat' ((first
  | (refine G.tr ?_; first | refine S.a ?_ | (refine G.call 114 ?_; refine S.c ?_ (h := fill_ok)) | refine S.i fun hix => ?_ | fail)
  | rintro _ _ ⟨_, rfl, rfl⟩
  | fail) <;> (try simp only [WKb, WKh, ↓reduceIte, Nat.reduceEqDiff, hw, hm2]))))
  all_goals
   rename_i w
   have hA : (g2.set k (OneG.mk0 (ix g2 (k : Int)).b w (ix g2 (k : Int)).conf)).length = gs.length := by simp [hl]
   have hB : (g2.set k (OneG.mk0 (ix g2 (k : Int)).b w (ix g2 (k : Int)).conf)).map OneG.pt = gs.map OneG.pt := by
    rw [← hpt]; exact map_same (f := OneG.pt) (k := (k : Int)) (by omega) (by omega) _ rfl
   have hC : (g2.set k (OneG.mk0 (ix g2 (k : Int)).b w (ix g2 (k : Int)).conf)).map OneG.conf = gs.map OneG.conf := by
    rw [← hcf]; exact map_same (f := OneG.conf) (k := (k : Int)) (by omega) (by omega) _ rfl
   have hD : ∀ j : Nat, j < k + 1 → (ix (g2.set k (OneG.mk0 (ix g2 (k : Int)).b w (ix g2 (k : Int)).conf)) (j : Int)).core = portM (ix gs (j : Int)).conf := fun j hj => by
    by_cases he : j = k
    ·subst he
     rw [ix_set_self (by omega), mk0_core, hc2]
    ·rw [ix_set_ne he (by omega)]
     exact hco j (by omega)
   clear hm2 hm hpt hcf
   (apply Tr.againE (k + 1, g2.set k (OneG.mk0 (ix g2 (k : Int)).b w (ix g2 (k : Int)).conf)); (focus (simp only [WKb, ↓reduceIte, Nat.reduceEqDiff])); (focus ((try simp only [WKb, ↓reduceIte]); (all_goals ((repeat (refine cons_eq (by first | rfl | ((try clear hK) <;> first | (simp [*, OneG.conf]; done) | (simp [*, OneG.conf]; omega) | (simp [*, OneG.conf] <;> (try split) <;> simp_all <;> omega))) ?_)); rfl)); done)); (focus (first | ((try simp only []); (repeat' (first | omega | refine And.intro ?_ ?_)); done))); (focus (first | omega | fail)); (focus (((try clear hK) <;> (try simp only [WKe, OneG.conf, *]) <;> repeat (first | with_reducible exact EntR.done | (refine S.f ?_ <;> (try simp only [WKe, OneG.conf, ↓reduceIte, reduceCtorEq, Int.reduceEq, *])) | fail)))))
 ·have hkk : k = gs.length := by omega
  ((try simp only [WKb, ↓reduceIte, Nat.reduceEqDiff]) <;> (repeat' ((first
  | (refine G.tr ?_; first | refine S.a ?_ | fail)
  | fail) <;> (try simp only [WKb, ↓reduceIte]))))
  all_goals
   apply Tr.fin hK ⟨g2, hpt, clear_core hl hcf (fun j hj => hco j (by omega)), rfl, rfl⟩
   ((try clear hK) <;> (try simp only [WKe, *]) <;> repeat (first | with_reducible exact EntR.done | refine S.e ?_ | fail))
end Go.Proofs.YtacmaamllpiloaaGreat
