import Derived.Test.YtacmaamllpiloaaGreatZ15
import Derived.Test.YtacmaamllpiloaaGreatTab
import Derived.Test.YtacmaamllpiloaaGreatZ06
import Derived.Test.YtacmaamllpiloaaGreatZ08
namespace Go.Proofs.YtacmaamllpiloaaGreat
open Go Go.Wk
set_option maxHeartbeats 1600000
set_option maxRecDepth 10000
theorem take_map_snoc {l : List PConf} {k : Nat} (h : k < l.length) : (List.map One.new (l.take (k + 1))).map ROne.mk = ((l.take k).map One.new).map ROne.mk ++ [ROne.mk (One.new (ix l k))] := by
 rw [List.take_succ_eq_append_getElem h, List.map_append, List.map_append]; simp [ix, h]
attribute [local irreducible] BrK GenK EGenK EUnitK CallK FnK CallV GuardO GuardC CondW opX opK opKc chkR eqR seqK blkK endL WL WD W LoopW BinK Tr drewK resL PickK NotK NilK ExtrK getK Instr.storeAt Instr.loadAt Instr.fieldAt Instr.indexAt Instr.lookup Instr.mapUpdate Instr.box Instr.alloc Instr.build Instr.buildSlice Instr.makeSlice Instr.makeMap Instr.sliceAt Instr.field Instr.index Instr.makeInterface Instr.typeAssert Builtin.len_ Builtin.append_ Builtin.cap_ Builtin.min_ Builtin.max_ Builtin.copy_ Builtin.clear_ convert binOp mp blk rob sl sep ex fact old
theorem rnew_ok (s : SV) (l : List PConf) : Trip Tryz.prog 60 [s.v].toArray [sl true s.v l]
  fun v l' => ∃ a, v = .pointer (some ⟨a, 0, none⟩) ∧ l' = [refA a (Tb.new l), sl true s.v l] := by
 intro F K hK
 simp only [List.cons_append, List.nil_append]
 (refine Tr.enter (rs := [.tmp 2]) mixed fn60 rfl (by simp +arith [Tryz.ntmps60]) fun u => ?_; simp only [cd60, Tryz.f60])
 ((try simp only [WKb]) <;> (repeat' ((first
  | (refine G.tr ?_; first | refine S.a ?_ | refine S.n fun _ => ?_ | fail)
  | fail) <;> (try simp only [WKb, ↓reduceIte]))))
 rename_i a
 refine Tr.nilSl (α := ROne) ?_
 refine Tr.loopE (α := Nat × SV) [4] [0, 2, 3] (fun x => [.int .i64 x.1]) (fun x => [refB a x.2 0, refS x.2 ((l.take x.1).map One.new), sl true s.v l]) (fun x => x.1 ≤ l.length ∧ x.1 ≤ 8) (fun x => 8 - x.1) (0, ⟨none, 0, 0⟩) (by (repeat (first | exact TakeL.nil | (apply TakeL.cons; focus ((first | ((repeat (first | exact TakeA.here | apply TakeA.next)); done) | fail))) | fail)); done) rfl (by simp) fun x u hk => ?_
 obtain ⟨k, s1⟩ := x
 simp only at hk ⊢
 have hw := wrap_succ (k := k) (by omega)
 have hl1 : (l.take k).length = k := by rw [List.length_take]; omega
 ((try simp only [WKb, ↓reduceIte, Nat.reduceEqDiff]) <;> (repeat' ((first
  | (refine G.tr ?_; first | refine S.a ?_ | refine S.n fun _ => ?_ | refine S.i fun hix => ?_ | (refine S.s (fun hb => ?_) (fun hb => ?_) <;> ((try simp only [hb]) <;> (try (have hp := hb; simp only [WKs] at hp; (try have hq := Int.not_le.2 hp); (try have hq := Int.not_lt.2 hp))))))
  | refine Tr.build1 (ROne.mk (One.new _)) rfl rfl (by decide) fun _ => ?_
  | fail) <;> (try simp only [WKb, WKh, ↓reduceIte, Nat.reduceEqDiff, Nat.reduceAdd, pl60, hw]))))
 all_goals first
  | (have htk := take_map_snoc (l := l) (k := k) (by omega); (apply Tr.againE (k + 1, _); (focus (simp only [WKb, ↓reduceIte, Nat.reduceEqDiff])); (focus ((try simp only [WKb, ↓reduceIte]); (all_goals ((repeat (refine cons_eq (by first | rfl | ((try clear hK) <;> first | (simp [*, refB, refS, htk]; done) | (simp [*, refB, refS, htk]; omega) | (simp [*, refB, refS, htk] <;> (try split) <;> simp_all <;> omega))) ?_)); rfl)); done)); (focus (first | omega | fail)); (focus (first | omega | fail)); (focus (((try clear hK) <;> (try simp only [WKe, refB, refS, *]) <;> repeat (first | with_reducible exact EntR.done | refine S.e ?_ | refine EntR.drop (F := F) ?_ | fail))))))
  | ((have hkk : l.take k = l.take 8 := by first | (rw [show k = 8 by omega]) | (rw [List.take_of_length_le (by omega), List.take_of_length_le (by omega)])); apply Tr.fin hK ⟨_, rfl, rfl⟩; ((try clear hK) <;> (try simp only [WKe, refA, refS, refB, Tb.new, *]) <;> repeat (first | with_reducible exact EntR.done | refine S.e ?_ | with_reducible apply EntR.ex | fail)))
end Go.Proofs.YtacmaamllpiloaaGreat
namespace Go.Proofs.YtacmaamllpiloaaGreat
open Go Go.Wk
instance intt_3 : IntT Tryz.prog 3 .i64 := ⟨Tryz.underlying3⟩
instance intt_5 : IntT Tryz.prog 5 .u8 := ⟨Tryz.underlying5⟩
instance fldp_86_0 : FldP Tryz.prog 86 0 0 1 false := ⟨by kernel_rfl⟩
instance arrt_196 : ArrT Tryz.prog 196 5 2 := arrB_spec (by kernel_rfl)
instance meth_121_269 : MethT Tryz.prog 121 "anchorhold/port.put" 269 := ⟨by kernel_rfl⟩
instance meth_124_271 : MethT Tryz.prog 124 "anchorhold/port.put" 271 := ⟨by kernel_rfl⟩
instance zera_121 : Zer Tryz.prog 121 (.pointer none) := ⟨by kernel_rfl⟩
instance cont_121 : ConT Tryz.prog 121 := ⟨by kernel_rfl⟩
instance zera_124 : Zer Tryz.prog 124 (.pointer none) := ⟨by kernel_rfl⟩
instance cont_124 : ConT Tryz.prog 124 := ⟨by kernel_rfl⟩
end Go.Proofs.YtacmaamllpiloaaGreat
namespace Go.Proofs.YtacmaamllpiloaaGreat
open Go Go.Wk
set_option maxHeartbeats 3200000
set_option maxRecDepth 100000
def actA (acts : List Int) (k : Int) : Int := if acts.length ≤ k then 0 else if ix acts k < 0 then 0 else if 4 < ix acts k then 0 else ix acts k
abbrev monB (b : Nat) (a0 a1 a2 a3 a4 c0 c1 c2 c3 c4 k p : Int) : Asrt := blk b (.cells [.int .i64 a0, .int .i64 c0, .int .i64 a1, .int .i64 c1, .int .i64 a2, .int .i64 c2, .int .i64 a3, .int .i64 c3, .int .i64 a4, .int .i64 c4, .int .i64 k, .int .i64 p, .bool true].toArray 198 (0, 0))
structure MonC where
 c0 : Int
 c1 : Int
 c2 : Int
 c3 : Int
 c4 : Int
 k : Int
 p : Int
def monA (b : Nat) (acts : List Int) : Asrt := ex fun m : MonC => monB b (actA acts 0) (actA acts 1) (actA acts 2) (actA acts 3) (actA acts 4) m.c0 m.c1 m.c2 m.c3 m.c4 m.k m.p
attribute [local irreducible] BrK GenK EGenK EUnitK CallK FnK CallV GuardO GuardC CondW opX opK opKc chkR eqR seqK blkK endL WL WD W LoopW BinK Tr drewK resL PickK NotK NilK ExtrK getK Instr.storeAt Instr.loadAt Instr.fieldAt Instr.indexAt Instr.lookup Instr.mapUpdate Instr.box Instr.alloc Instr.build Instr.buildSlice Instr.makeSlice Instr.makeMap Instr.sliceAt Instr.field Instr.index Instr.makeInterface Instr.typeAssert Builtin.len_ Builtin.append_ Builtin.cap_ Builtin.min_ Builtin.max_ Builtin.copy_ Builtin.clear_ convert binOp mp blk rob sl sep ex fact old
theorem mis_ok {n : Int} : Trip Tryz.prog 116 [.int .i64 n].toArray [] fun v l' => v = .bool (decide (0 ≤ n) && decide (n < 5)) ∧ l' = [] := by
 intro F K hK
 simp only [List.nil_append]
 (refine Tr.enter (rs := [.tmp 2]) mixed fn116 rfl (by simp +arith [Tryz.ntmps116]) fun u => ?_; simp only [cd116, Tryz.f116])
 have hX := @pl116.eq_def; repeat' (first | refine S.x ?_ | refine S.y ?_ ?_ | intro hb | fail)
 all_goals exact S.L
theorem mdead_ok {b : Nat} {a0 a1 a2 a3 a4 c0 c1 c2 c3 c4 k p : Int} : Trip Tryz.prog 223 [.pointer (some ⟨b, 0, none⟩)].toArray [monB b a0 a1 a2 a3 a4 c0 c1 c2 c3 c4 k p] fun v l' => v = .bool false ∧ l' = [monB b a0 a1 a2 a3 a4 c0 c1 c2 c3 c4 k p] := by
 intro F K hK
 simp only [List.cons_append, List.nil_append]
 (refine Tr.enter (rs := [.tmp 2]) mixed fn223 rfl (by simp +arith [Tryz.ntmps223]) fun u => ?_; simp only [cd223, Tryz.f223])
 have hX := @pl223.eq_def; repeat' (first | refine S.x ?_ | fail)
 all_goals exact S.L
theorem fault_ok {b : Nat} {acts : List Int} {k p : Int} (h0 : 0 ≤ k) (h4 : k ≤ 4) : Trip Tryz.prog 143 [.pointer (some ⟨b, 0, none⟩), .int .i64 k, .int .i64 p].toArray [monA b acts] fun v l' => v = .int .i64 (actA acts k) ∧ l' = [monA b acts] := by
 intro F K hK
 simp only [List.cons_append, List.nil_append] at hK ⊢
 refine Tr.ex_iff.2 fun m => ?_
 have hk : k = 0 ∨ k = 1 ∨ k = 2 ∨ k = 3 ∨ k = 4 := by omega
 rcases hk with rfl | rfl | rfl | rfl | rfl
 all_goals
  (refine Tr.enter (rs := [.tmp 6]) mixed fn143 rfl (by simp +arith [Tryz.ntmps143]) fun u => ?_; simp only [cd143, Tryz.f143])
  have hX := @pl143.eq_def; repeat' (first | refine S.x ?_ | (refine G.call 223 ?_; refine S.c ?_ (h := mdead_ok)) | (refine G.call 116 ?_; refine S.c ?_ (h := mis_ok)) | rintro _ _ ⟨rfl, rfl⟩ | fail)
  all_goals
   refine Tr.fin hK ⟨rfl, rfl⟩ ?_
   (try simp)
   first
    | exact EntR.ex ⟨IntKind.i64.wrap (m.c0 + 1), m.c1, m.c2, m.c3, m.c4, 0, p⟩ (EntR.take TakeA.here EntR.done)
    | exact EntR.ex ⟨m.c0, IntKind.i64.wrap (m.c1 + 1), m.c2, m.c3, m.c4, 1, p⟩ (EntR.take TakeA.here EntR.done)
    | exact EntR.ex ⟨m.c0, m.c1, IntKind.i64.wrap (m.c2 + 1), m.c3, m.c4, 2, p⟩ (EntR.take TakeA.here EntR.done)
    | exact EntR.ex ⟨m.c0, m.c1, m.c2, IntKind.i64.wrap (m.c3 + 1), m.c4, 3, p⟩ (EntR.take TakeA.here EntR.done)
    | exact EntR.ex ⟨m.c0, m.c1, m.c2, m.c3, IntKind.i64.wrap (m.c4 + 1), 4, p⟩ (EntR.take TakeA.here EntR.done)
end Go.Proofs.YtacmaamllpiloaaGreat
namespace Go.Proofs.YtacmaamllpiloaaGreat
open Go Go.Wk
set_option maxHeartbeats 3200000
set_option maxRecDepth 100000
def gA (acts : List Int) (k : Nat) (j : Int) : Int := if j < k then actA acts j else 0
abbrev monG (b : Nat) (acts : List Int) (k : Nat) : Asrt := monB b (gA acts k 0) (gA acts k 1) (gA acts k 2) (gA acts k 3) (gA acts k 4) 0 0 0 0 0 (-1) (-1)
theorem monG0 {b : Nat} {acts : List Int} : monG b acts 0 = monB b 0 0 0 0 0 0 0 0 0 0 (-1) (-1) := by simp [monG, gA]
theorem monG_next {b : Nat} {acts : List Int} : (monG b acts 1 = monB b (actA acts 0) 0 0 0 0 0 0 0 0 0 (-1) (-1)) ∧ (monG b acts 2 = monB b (actA acts 0) (actA acts 1) 0 0 0 0 0 0 0 0 (-1) (-1)) ∧ (monG b acts 3 = monB b (actA acts 0) (actA acts 1) (actA acts 2) 0 0 0 0 0 0 0 (-1) (-1))
  ∧ (monG b acts 4 = monB b (actA acts 0) (actA acts 1) (actA acts 2) (actA acts 3) 0 0 0 0 0 0 (-1) (-1)) ∧ (monG b acts 5 = monB b (actA acts 0) (actA acts 1) (actA acts 2) (actA acts 3) (actA acts 4) 0 0 0 0 0 (-1) (-1)) := by simp [monG, gA]
attribute [local irreducible] BrK GenK EGenK EUnitK CallK FnK CallV GuardO GuardC CondW opX opK opKc chkR eqR seqK blkK endL WL WD W LoopW BinK Tr drewK resL PickK NotK NilK ExtrK getK Instr.storeAt Instr.loadAt Instr.fieldAt Instr.indexAt Instr.lookup Instr.mapUpdate Instr.box Instr.alloc Instr.build Instr.buildSlice Instr.makeSlice Instr.makeMap Instr.sliceAt Instr.field Instr.index Instr.makeInterface Instr.typeAssert Builtin.len_ Builtin.append_ Builtin.cap_ Builtin.min_ Builtin.max_ Builtin.copy_ Builtin.clear_ convert binOp mp blk rob sl sep ex fact old
attribute [local irreducible] gA
theorem mnew_ok {ro : Bool} {v : Value} {acts : List Int} : Trip Tryz.prog 55 [v].toArray [sl ro v acts] fun u l' => ∃ b, u = .pointer (some ⟨b, 0, none⟩) ∧ l' = [monA b acts, sl ro v acts] := by
 intro F K hK
 simp only [List.cons_append, List.nil_append]
 (refine Tr.enter (rs := [.tmp 2]) mixed fn55 rfl (by simp +arith [Tryz.ntmps55]) fun u => ?_; simp only [cd55, Tryz.f55])
 have hX := @pl55.eq_def; repeat' (first | intro (nb : Nat) | refine S.x ?_ | fail)
 refine Tr.loopE (α := Nat) [7] [0, 2, 3] (fun k => [.int .i64 k]) (fun k => [monG nb acts k, sl ro v acts]) (fun k => k ≤ 5) (fun k => 5 - k) 0 (by show TakeL _ [monG nb acts 0, _] _; rw [monG0]; exact S.T) rfl (Nat.zero_le _) fun k u hk => ?_
 obtain ⟨e1, e2, e3, e4, e5⟩ := @monG_next nb acts
 by_cases hin : k < 5
 ·have hkk : k = 0 ∨ k = 1 ∨ k = 2 ∨ k = 3 ∨ k = 4 := by omega
  by_cases hv : (k : Int) < acts.length ∧ 0 ≤ ix acts (k : Int) ∧ ix acts (k : Int) ≤ 4
  ·obtain ⟨v1, v2, v3⟩ := hv
   have ha : actA acts (k : Int) = ix acts (k : Int) := by unfold actA; rw [if_neg (by omega), if_neg (by omega), if_neg (by omega)]
   rcases hkk with rfl | rfl | rfl | rfl | rfl
   ·simp only [monG0]
    have hX := @pl55.eq_def; repeat' (first | refine S.x ?_ | (refine G.call 116 ?_; refine S.c ?_ (h := mis_ok)) | rintro _ _ ⟨rfl, rfl⟩ | intro hb | fail)
    all_goals
     refine S.R 1 (hL := ?_)
     show EntR [] _ (monG nb acts 1 :: sl ro v acts :: F)
     have ha : actA acts 0 = _ := ha
     rw [e1, ha]
     exact EntR.take TakeA.here (EntR.take TakeA.here EntR.done)
   ·simp only [e1]
    have hX := @pl55.eq_def; repeat' (first | refine S.x ?_ | (refine G.call 116 ?_; refine S.c ?_ (h := mis_ok)) | rintro _ _ ⟨rfl, rfl⟩ | intro hb | fail)
    all_goals
     refine S.R 2 (hL := ?_)
     show EntR [] _ (monG nb acts 2 :: sl ro v acts :: F)
     have ha : actA acts 1 = _ := ha
     rw [e2, ha]
     exact EntR.take TakeA.here (EntR.take TakeA.here EntR.done)
   ·simp only [e2]
    have hX := @pl55.eq_def; repeat' (first | refine S.x ?_ | (refine G.call 116 ?_; refine S.c ?_ (h := mis_ok)) | rintro _ _ ⟨rfl, rfl⟩ | intro hb | fail)
    all_goals
     refine S.R 3 (hL := ?_)
     show EntR [] _ (monG nb acts 3 :: sl ro v acts :: F)
     have ha : actA acts 2 = _ := ha
     rw [e3, ha]
     exact EntR.take TakeA.here (EntR.take TakeA.here EntR.done)
   ·simp only [e3]
    have hX := @pl55.eq_def; repeat' (first | refine S.x ?_ | (refine G.call 116 ?_; refine S.c ?_ (h := mis_ok)) | rintro _ _ ⟨rfl, rfl⟩ | intro hb | fail)
    all_goals
     refine S.R 4 (hL := ?_)
     show EntR [] _ (monG nb acts 4 :: sl ro v acts :: F)
     have ha : actA acts 3 = _ := ha
     rw [e4, ha]
     exact EntR.take TakeA.here (EntR.take TakeA.here EntR.done)
   ·simp only [e4]
    have hX := @pl55.eq_def; repeat' (first | refine S.x ?_ | (refine G.call 116 ?_; refine S.c ?_ (h := mis_ok)) | rintro _ _ ⟨rfl, rfl⟩ | intro hb | fail)
    all_goals
     refine S.R 5 (hL := ?_)
     show EntR [] _ (monG nb acts 5 :: sl ro v acts :: F)
     have ha : actA acts 4 = _ := ha
     rw [e5, ha]
     exact EntR.take TakeA.here (EntR.take TakeA.here EntR.done)
  ·have ha : actA acts (k : Int) = 0 := by unfold actA; split <;> first | rfl | (split <;> first | rfl | (split <;> first | rfl | omega))
   rcases hkk with rfl | rfl | rfl | rfl | rfl
   ·simp only [monG0]
    have hX := @pl55.eq_def; repeat' (first | refine S.x ?_ | refine S.y ?_ ?_ | (refine G.call 116 ?_; refine S.c ?_ (h := mis_ok)) | rintro _ _ ⟨rfl, rfl⟩ | intro hb | fail)
    all_goals
     refine S.R 1 (hL := ?_)
     show EntR [] _ (monG nb acts 1 :: sl ro v acts :: F)
     have ha : actA acts 0 = _ := ha
     rw [e1, ha]
     exact EntR.take TakeA.here (EntR.take TakeA.here EntR.done)
   ·simp only [e1]
    have hX := @pl55.eq_def; repeat' (first | refine S.x ?_ | refine S.y ?_ ?_ | (refine G.call 116 ?_; refine S.c ?_ (h := mis_ok)) | rintro _ _ ⟨rfl, rfl⟩ | intro hb | fail)
    all_goals
     refine S.R 2 (hL := ?_)
     show EntR [] _ (monG nb acts 2 :: sl ro v acts :: F)
     have ha : actA acts 1 = _ := ha
     rw [e2, ha]
     exact EntR.take TakeA.here (EntR.take TakeA.here EntR.done)
   ·simp only [e2]
    have hX := @pl55.eq_def; repeat' (first | refine S.x ?_ | refine S.y ?_ ?_ | (refine G.call 116 ?_; refine S.c ?_ (h := mis_ok)) | rintro _ _ ⟨rfl, rfl⟩ | intro hb | fail)
    all_goals
     refine S.R 3 (hL := ?_)
     show EntR [] _ (monG nb acts 3 :: sl ro v acts :: F)
     have ha : actA acts 2 = _ := ha
     rw [e3, ha]
     exact EntR.take TakeA.here (EntR.take TakeA.here EntR.done)
   ·simp only [e3]
    have hX := @pl55.eq_def; repeat' (first | refine S.x ?_ | refine S.y ?_ ?_ | (refine G.call 116 ?_; refine S.c ?_ (h := mis_ok)) | rintro _ _ ⟨rfl, rfl⟩ | intro hb | fail)
    all_goals
     refine S.R 4 (hL := ?_)
     show EntR [] _ (monG nb acts 4 :: sl ro v acts :: F)
     have ha : actA acts 3 = _ := ha
     rw [e4, ha]
     exact EntR.take TakeA.here (EntR.take TakeA.here EntR.done)
   ·simp only [e4]
    have hX := @pl55.eq_def; repeat' (first | refine S.x ?_ | refine S.y ?_ ?_ | (refine G.call 116 ?_; refine S.c ?_ (h := mis_ok)) | rintro _ _ ⟨rfl, rfl⟩ | intro hb | fail)
    all_goals
     refine S.R 5 (hL := ?_)
     show EntR [] _ (monG nb acts 5 :: sl ro v acts :: F)
     have ha : actA acts 4 = _ := ha
     rw [e5, ha]
     exact EntR.take TakeA.here (EntR.take TakeA.here EntR.done)
 ·have hke : k = 5 := by omega
  subst hke
  rw [e5]
  have hX := @pl55.eq_def; repeat' (first | refine S.x ?_ | fail)
  all_goals
   refine Tr.fin hK ⟨_, rfl, rfl⟩ ?_
   exact EntR.ex ⟨0, 0, 0, 0, 0, -1, -1⟩ (EntR.take TakeA.here (EntR.take TakeA.here EntR.done))
end Go.Proofs.YtacmaamllpiloaaGreat
