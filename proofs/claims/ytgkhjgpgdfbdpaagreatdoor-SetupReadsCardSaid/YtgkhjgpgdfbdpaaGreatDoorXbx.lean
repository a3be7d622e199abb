import Derived.Test.YtgkhjgpgdfbdpaaGreatDoorXax
import Derived.Test.YtgkhjgpgdfbdpaaGreatDoorXS
namespace Go.Proofs.YtgkhjgpgdfbdpaaGreatDoor
open Go Go.Wk
set_option maxHeartbeats 6400000
set_option maxRecDepth 100000
/-- A call's name, and of how many numbers it is. -/
structure KindC where
  name : List UInt8
  args : Int
instance : Inhabited KindC := ⟨⟨[], 0⟩⟩
instance : En KindC := ⟨fun k => [.string (bstr k.name), .int .i64 k.args], 2, fun _ => rfl, fun _ => rfl, by decide⟩
def kindsA : List KindC := [⟨[], 0⟩, ⟨[112, 101, 114, 105, 111, 100, 105, 99, 45, 119, 97, 105, 116], 0⟩, ⟨[116, 105, 109, 101, 100, 45, 119, 97, 105, 116], 1⟩, ⟨[115, 117, 115, 112, 101, 110, 100], 0⟩, ⟨[114, 101, 115, 117, 109, 101], 1⟩, ⟨[115, 116, 97, 114, 116], 1⟩, ⟨[115, 116, 111, 112], 1⟩,
  ⟨[115, 101, 116, 45, 112, 114, 105, 111, 114, 105, 116, 121], 2⟩, ⟨[103, 101, 116, 45, 116, 105, 109, 101], 0⟩, ⟨[119, 114, 105, 116, 101, 45, 115, 97, 109, 112, 108, 105, 110, 103], 3⟩, ⟨[114, 101, 97, 100, 45, 115, 97, 109, 112, 108, 105, 110, 103], 2⟩, ⟨[115, 101, 110, 100], 4⟩, ⟨[114, 101, 99, 101, 105, 118, 101], 4⟩,
  ⟨[115, 101, 109, 45, 119, 97, 105, 116], 4⟩, ⟨[115, 101, 109, 45, 115, 105, 103, 110, 97, 108], 1⟩, ⟨[102, 108, 97, 103, 45, 115, 101, 116], 1⟩, ⟨[102, 108, 97, 103, 45, 114, 101, 115, 101, 116], 1⟩, ⟨[102, 108, 97, 103, 45, 119, 97, 105, 116], 4⟩, ⟨[112, 111, 111, 108, 45, 112, 117, 116], 4⟩, ⟨[112, 111, 111, 108, 45, 103, 101, 116], 4⟩,
  ⟨[115, 108, 97, 116, 101, 45, 115, 104, 111, 119], 3⟩, ⟨[115, 108, 97, 116, 101, 45, 114, 101, 97, 100], 4⟩, ⟨[115, 108, 97, 116, 101, 45, 99, 108, 101, 97, 114], 1⟩, ⟨[114, 97, 105, 115, 101, 45, 101, 114, 114, 111, 114], 1⟩, ⟨[108, 111, 97, 100], 1⟩, ⟨[115, 116, 111, 114, 101], 2⟩, ⟨[103, 101, 116, 45, 109, 111, 100, 101], 0⟩, ⟨[115, 101, 116, 45, 109, 111, 100, 101], 1⟩]
def isA (no : Int) : Prop := 1 ≤ no ∧ no < 28
instance (no : Int) : Decidable (isA no) := by unfold isA; infer_instance
def kindA (no : Int) : KindC := if isA no then ix kindsA no else ⟨[], 4⟩
def nameA (no : Int) : List UInt8 := (kindA no).name
def argsA (no : Int) : Int := (kindA no).args
def timedA (no : Int) : Prop := no = 11 ∨ no = 12 ∨ no = 13 ∨ no = 17 ∨ no = 18 ∨ no = 19 ∨ no = 21
instance (no : Int) : Decidable (timedA no) := by unfold timedA; infer_instance
theorem kindA_yes {no : Int} (h : isA no) : kindA no = ix kindsA no := if_pos h
theorem kindA_no {no : Int} (h : ¬ isA no) : kindA no = ⟨[], 4⟩ := if_neg h
theorem isA_cases {no : Int} (h : isA no) : ∃ k : Nat, k < 27 ∧ no = ((k + 1 : Nat) : Int) := ⟨(no - 1).toNat, by have := h.1; have := h.2; omega, by have := h.1; omega⟩

attribute [local irreducible] BrK GenK EGenK EUnitK CallK FnK CallV GuardO GuardC CondW opX opK opKc chkR eqR seqK blkK endL WL WD W LoopW BinK Tr drewK resL PickK NotK NilK ExtrK getK Instr.storeAt Instr.loadAt Instr.fieldAt Instr.indexAt Instr.lookup Instr.mapUpdate Instr.box Instr.alloc Instr.build Instr.buildSlice Instr.makeSlice Instr.makeMap Instr.sliceAt Instr.field Instr.index Instr.makeInterface Instr.typeAssert Builtin.len_ Builtin.append_ Builtin.cap_ Builtin.min_ Builtin.max_ Builtin.copy_ Builtin.clear_ convert binOp mp blk rob sl sep ex fact old
attribute [local irreducible] NegK
attribute [local irreducible] kindsA flat
theorem kinds_len : 28 = kindsA.length := by unfold kindsA; rfl
end Go.Proofs.YtgkhjgpgdfbdpaaGreatDoor

namespace Go.Proofs.YtgkhjgpgdfbdpaaGreatDoor
open Go Go.Wk
set_option maxHeartbeats 6400000
set_option maxRecDepth 100000

instance elt_int22 : ElT 29 Int := ⟨⟩
instance elt_str22 : ElT 73 Str := ⟨⟩
theorem argsR_eq (no : Int) : argsA no = (if no = 1 ∨ no = 3 ∨ no = 8 ∨ no = 26 then 0 else if no = 2 ∨ no = 4 ∨ no = 5 ∨ no = 6 ∨ no = 14 ∨ no = 15 ∨ no = 16 ∨ no = 22 ∨ no = 23 ∨ no = 24 ∨ no = 27 then 1 else if no = 7 ∨ no = 10 ∨ no = 25 then 2 else if no = 9 ∨ no = 20 then 3 else 4) := by
  unfold argsA
  by_cases h : isA no
  · rw [kindA_yes h]
    obtain ⟨k, hk, rfl⟩ := isA_cases h
    iterate 27 (rcases k with _ | k; · rfl)
    omega
  · rw [kindA_no h]
    unfold isA at h
    repeat (rw [if_neg (by omega)])
theorem argsA_le (no : Int) : 0 ≤ argsA no ∧ argsA no ≤ 4 := by rw [argsR_eq]; (repeat' split) <;> omega
attribute [local irreducible] BrK GenK EGenK EUnitK CallK FnK CallV GuardO GuardC CondW opX opK opKc chkR eqR seqK blkK endL WL WD W LoopW BinK Tr drewK resL PickK NotK NilK ExtrK getK Instr.storeAt Instr.loadAt Instr.fieldAt Instr.indexAt Instr.lookup Instr.mapUpdate Instr.box Instr.alloc Instr.build Instr.buildSlice Instr.makeSlice Instr.makeMap Instr.sliceAt Instr.field Instr.index Instr.makeInterface Instr.typeAssert Builtin.len_ Builtin.append_ Builtin.cap_ Builtin.min_ Builtin.max_ Builtin.copy_ Builtin.clear_ convert binOp mp blk rob sl sep ex fact old
attribute [local irreducible] NegK kindsA flat
end Go.Proofs.YtgkhjgpgdfbdpaaGreatDoor

namespace Go.Proofs.YtgkhjgpgdfbdpaaGreatDoor
open Go Go.Wk
set_option maxHeartbeats 6400000
set_option maxRecDepth 100000

theorem name_inj {i j : Int} (hi : isA i) (hj : isA j) (h : nameA i = nameA j) : i = j := by
  obtain ⟨a, ha, rfl⟩ := isA_cases hi
  obtain ⟨b, hb, rfl⟩ := isA_cases hj
  have : ∀ a, a < 27 → ∀ b, b < 27 → nameA ((a + 1 : Nat) : Int) = nameA ((b + 1 : Nat) : Int) → a = b := by decide +kernel
  rw [this a ha b hb h]
theorem name_ne {i : Int} (hi : isA i) : nameA i ≠ [] := by
  obtain ⟨a, ha, rfl⟩ := isA_cases hi
  have : ∀ a, a < 27 → nameA ((a + 1 : Nat) : Int) ≠ [] := by decide +kernel
  exact this a ha
/-- A name's number. -/
def numberA (name : List UInt8) : Int := match (List.range 27).find? fun k : Nat => decide (nameA ((k + 1 : Nat) : Int) = name) with
  | some k => ((k + 1 : Nat) : Int)
  | none => 0
theorem numberA_eq {k : Int} {name : List UInt8} (hk : isA k) (h : nameA k = name) : numberA name = k := by
  unfold numberA
  split
  · rename_i j hj
    have h1 := List.find?_some hj
    have h2 := List.mem_range.1 (List.mem_of_find?_eq_some hj)
    simp only [decide_eq_true_eq] at h1
    exact name_inj (by unfold isA; omega) hk (h1.trans h.symm)
  · rename_i hn
    obtain ⟨a, ha, rfl⟩ := isA_cases hk
    have := List.find?_eq_none.1 hn a (List.mem_range.2 ha)
    simp only [decide_eq_true_eq] at this
    exact absurd h this
theorem numberA_zero {name : List UInt8} (h : ∀ k, isA k → nameA k ≠ name) : numberA name = 0 := by
  unfold numberA
  split
  · rename_i j hj
    have h1 := List.find?_some hj
    have h2 := List.mem_range.1 (List.mem_of_find?_eq_some hj)
    simp only [decide_eq_true_eq] at h1
    exact absurd h1 (h _ (by unfold isA; omega))
  · rfl
theorem numberA_spec (name : List UInt8) : (numberA name = 0 ∧ ∀ k, isA k → nameA k ≠ name) ∨ (isA (numberA name) ∧ nameA (numberA name) = name) := by
  by_cases h : ∃ k, isA k ∧ nameA k = name
  · obtain ⟨k, h1, h2⟩ := h
    have := numberA_eq h1 h2
    exact .inr ⟨by rw [this]; exact h1, by rw [this]; exact h2⟩
  · have hz : ∀ k, isA k → nameA k ≠ name := fun k h1 h2 => h ⟨k, h1, h2⟩
    exact .inl ⟨numberA_zero hz, hz⟩
def namesA : List Str := kindsA.tail.map fun k => ⟨k.name⟩
theorem names_ix {no : Int} (h : isA no) : (ix namesA (no - 1)).d = nameA no := by
  obtain ⟨k, hk, rfl⟩ := isA_cases h
  have : ∀ k, k < 27 → (ix namesA (((k + 1 : Nat) : Int) - 1)).d = nameA ((k + 1 : Nat) : Int) := by decide +kernel
  exact this k hk
attribute [local irreducible] BrK GenK EGenK EUnitK CallK FnK CallV GuardO GuardC CondW opX opK opKc chkR eqR seqK blkK endL WL WD W LoopW BinK Tr drewK resL PickK NotK NilK ExtrK getK Instr.storeAt Instr.loadAt Instr.fieldAt Instr.indexAt Instr.lookup Instr.mapUpdate Instr.box Instr.alloc Instr.build Instr.buildSlice Instr.makeSlice Instr.makeMap Instr.sliceAt Instr.field Instr.index Instr.makeInterface Instr.typeAssert Builtin.len_ Builtin.append_ Builtin.cap_ Builtin.min_ Builtin.max_ Builtin.copy_ Builtin.clear_ convert binOp mp blk rob sl sep ex fact old
attribute [local irreducible] NegK
abbrev nmB (b : Nat) (name : List UInt8) : Asrt := blk b (.cells [.string (bstr name)].toArray 9 (0, 0))
theorem kinds_name {k : Nat} (h : k < 27) : (ix kindsA ((k + 1 : Nat) : Int)).name = nameA ((k + 1 : Nat) : Int) := by
  unfold nameA
  rw [kindA_yes (by unfold isA; omega)]
theorem kinds_zero : (ix kindsA 0).name = [] := rfl
theorem flat56 : (flat kindsA).length = 56 := rfl
attribute [local irreducible] kindsA flat
end Go.Proofs.YtgkhjgpgdfbdpaaGreatDoor

namespace Go.Proofs.YtgkhjgpgdfbdpaaGreatDoor
open Go Go.Wk
set_option maxHeartbeats 6400000
set_option maxRecDepth 100000

attribute [local irreducible] BrK GenK EGenK EUnitK CallK FnK CallV GuardO GuardC CondW opX opK opKc chkR eqR seqK blkK endL WL WD W LoopW BinK Tr drewK resL PickK NotK NilK ExtrK getK Instr.storeAt Instr.loadAt Instr.fieldAt Instr.indexAt Instr.lookup Instr.mapUpdate Instr.box Instr.alloc Instr.build Instr.buildSlice Instr.makeSlice Instr.makeMap Instr.sliceAt Instr.field Instr.index Instr.makeInterface Instr.typeAssert Builtin.len_ Builtin.append_ Builtin.cap_ Builtin.min_ Builtin.max_ Builtin.copy_ Builtin.clear_ convert binOp mp blk rob sl sep ex fact old
attribute [local irreducible] NegK mxV
theorem wordsR_ok {s : List UInt8} (hs : s.length ≤ 1000000) : Trip Tryz.prog 25 [.string (bstr s)].toArray [] fun v l' => ∃ t : SV, v = t.v ∧ l' = [sl false t.v (wordsS s)] := by
  intro F K hK
  simp only [List.nil_append]
  (refine Tr.enter (rs := [.tmp 2]) mixed fn25 rfl (by simp +arith [Tryz.ntmps25]) fun u => ?_; simp only [cd25, Tryz.f25])
  ((try simp only [WKb]) <;> (repeat' ((first
    | (refine G.tr ?_; first | refine S.a ?_ | refine S.t ?_ | refine Tr.brK ?_ ?_ | refine S.n fun _ => ?_ | refine S.i fun hix => ?_ | (refine S.g fun hb => ?_; (try simp only [hb])) | (refine S.s (fun hb => ?_) (fun hb => ?_) <;> ((try simp only [hb]) <;> (try (have hp := hb; simp only [WKs] at hp; (try have hq := Int.not_le.2 hp); (try have hq := Int.not_lt.2 hp))))))
    | ((fail_if_success refine G.tr ?_); exact G.prop S.p)
    | fail) <;> (try simp only [WKb, WKh, ↓reduceIte, Nat.reduceEqDiff, Nat.reduceAdd, Nat.reduceSub, Int.reduceEq, Int.reduceLT, Int.reduceLE, WKt, pl25]))))
  refine Tr.nilSl (α := Str) ?_
  refine Tr.loopE (α := Nat × SV × List Str × Nat) [3, 4, 5] [0, 2] (fun x => [x.2.1.v, .int .i64 x.2.2.2, .int .i64 x.1]) (fun x => [sl false x.2.1.v x.2.2.1])
    (fun x => x.1 ≤ s.length + 1 ∧ x.2.2.1.length ≤ x.1 ∧ x.2.2.2 ≤ x.1 ∧ (x.1 ≤ s.length → x.2.2.1 ++ (wordsA 32 (s.drop x.2.2.2)).map Str.mk = wordsS s ∧ ∀ j : Nat, x.2.2.2 ≤ j → j < x.1 → bix s (j : Int) ≠ 32) ∧ (s.length < x.1 → x.2.2.1 = wordsS s)) (fun x => s.length + 1 - x.1)
    (0, ⟨none, 0, 0⟩, [], 0) (by (repeat (first | exact TakeL.nil | (apply TakeL.cons; focus ((first | exact TakeA.dupS | exact TakeA.dupF | ((repeat (first | with_reducible exact TakeA.here | exact TakeA.fam (by omega) (by omega) | with_reducible apply TakeA.next)); done) | ((repeat (first | exact TakeA.here | apply TakeA.next)); done) | exact TakeA.famNil | exact TakeA.nilS))) | fail)); done) rfl ⟨Nat.zero_le _, Nat.le_refl _, Nat.le_refl _, fun _ => ⟨rfl, fun j _ h => absurd h (Nat.not_lt_zero _)⟩, fun h => absurd h (Nat.not_lt_zero _)⟩ fun x u hx => ?_
  obtain ⟨k, t, ws, p⟩ := x
  simp only at hx ⊢
  obtain ⟨hk, hwl, hpk, hI, hJ⟩ := hx
  have hw := wrapSucc (k := k) (by omega)
  by_cases hin : k < s.length
  · obtain ⟨hI1, hI2⟩ := hI (by omega)
    have hl' : ∀ x : Str, (ws ++ [x]).length ≤ k + 1 := fun x => by simp; omega
    by_cases hb : bix s (k : Int) = 32
    · have hst := words_step hpk hin hI2 hb
      have hn1 : k + 1 ≤ s.length → ws ++ [⟨(s.take k).drop p⟩] ++ (wordsA 32 (s.drop (k + 1))).map Str.mk = wordsS s ∧ ∀ j : Nat, k + 1 ≤ j → j < k + 1 → bix s (j : Int) ≠ 32 := fun _ => by
        refine ⟨?_, fun j h1 h2 => by omega⟩
        rw [← hI1, hst]; simp
      have hn2 : s.length < k + 1 → ws ++ [⟨(s.take k).drop p⟩] = wordsS s := fun h => by omega
      have hd : (((bix s (k : Int)).toNat : Int) = 32) = True := by rw [hb]; simp
      clear hI1 hI hJ
      ((try simp only [WKb, ↓reduceIte, Nat.reduceEqDiff, WKt]) <;> (repeat' ((first
    | (refine G.tr ?_; first | refine S.a ?_ | refine S.t ?_ | refine Tr.brK ?_ ?_ | refine S.n fun _ => ?_ | refine S.i fun hix => ?_ | (refine S.g fun hb => ?_; (try simp only [hb])) | (refine S.s (fun hb => ?_) (fun hb => ?_) <;> ((try simp only [hb]) <;> (try (have hp := hb; simp only [WKs] at hp; (try have hq := Int.not_le.2 hp); (try have hq := Int.not_lt.2 hp))))))
    | ((fail_if_success refine G.tr ?_); exact G.prop S.p)
    | fail) <;> (try simp only [WKb, ↓reduceIte, Nat.reduceEqDiff, WKt, hw, hd, Int.toNat_natCast]))))
      all_goals (apply Tr.againE ((k + 1, _, _, _)); (focus (simp only [WKb, ↓reduceIte, Nat.reduceEqDiff])); (focus ((try simp only [WKb, ↓reduceIte, Nat.reduceEqDiff]); (all_goals ((repeat (refine cons_eq (by first | rfl | (simp [*]; done)) ?_)); rfl)); done)); (focus (first | omega | assumption | (simp only []; omega) | (refine ⟨by omega, by assumption⟩) | (simp only []; refine ⟨by omega, by assumption⟩) | ((try simp only []); (repeat' (first | omega | assumption | apply hn1 | apply hn2 | apply hl' | refine And.intro ?_ ?_)); done))); (focus (first | omega | (simp only []; omega))); (focus (((try clear hK) <;> (try simp only [WKe, *]) <;> repeat (first | with_reducible exact EntR.done | refine S.e ?_ | (refine S.f ?_ <;> (try simp only [WKe, ↓reduceIte, reduceCtorEq, Int.reduceEq, *])) | with_reducible apply EntR.ex | refine EntR.drop (F := F) ?_ | refine EntR.drop ?_)))))
    · have hn1 : k + 1 ≤ s.length → ws ++ (wordsA 32 (s.drop p)).map Str.mk = wordsS s ∧ ∀ j : Nat, p ≤ j → j < k + 1 → bix s (j : Int) ≠ 32 := fun _ => by
        refine ⟨hI1, fun j h1 h2 => ?_⟩
        by_cases hjk : j < k
        · exact hI2 j h1 hjk
        · have : j = k := by omega
          subst this; exact hb
      have hn2 : s.length < k + 1 → ws = wordsS s := fun h => by omega
      have hd : (((bix s (k : Int)).toNat : Int) = 32) = False := eq_false fun h => hb (UInt8.toNat_inj.1 (by have : (32 : UInt8).toNat = 32 := rfl; omega))
      have hwl' : ws.length ≤ k + 1 := by omega
      have hpk' : p ≤ k + 1 := by omega
      clear hI1 hI hJ
      ((try simp only [WKb, ↓reduceIte, Nat.reduceEqDiff, WKt]) <;> (repeat' ((first
    | (refine G.tr ?_; first | refine S.a ?_ | refine S.t ?_ | refine Tr.brK ?_ ?_ | refine S.n fun _ => ?_ | refine S.i fun hix => ?_ | (refine S.g fun hb => ?_; (try simp only [hb])) | (refine S.s (fun hb => ?_) (fun hb => ?_) <;> ((try simp only [hb]) <;> (try (have hp := hb; simp only [WKs] at hp; (try have hq := Int.not_le.2 hp); (try have hq := Int.not_lt.2 hp))))))
    | ((fail_if_success refine G.tr ?_); exact G.prop S.p)
    | fail) <;> (try simp only [WKb, ↓reduceIte, Nat.reduceEqDiff, WKt, hw, hd]))))
      all_goals (apply Tr.againE ((k + 1, _, _, _)); (focus (simp only [WKb, ↓reduceIte, Nat.reduceEqDiff])); (focus ((try simp only [WKb, ↓reduceIte, Nat.reduceEqDiff]); (all_goals ((repeat (refine cons_eq (by first | rfl | (simp [*]; done)) ?_)); rfl)); done)); (focus (first | omega | assumption | (simp only []; omega) | (refine ⟨by omega, by assumption⟩) | (simp only []; refine ⟨by omega, by assumption⟩) | ((try simp only []); (repeat' (first | omega | assumption | apply hn1 | apply hn2 | apply hwl' | apply hpk' | refine And.intro ?_ ?_)); done))); (focus (first | omega | (simp only []; omega))); (focus (((try clear hK) <;> (try simp only [WKe, *]) <;> repeat (first | with_reducible exact EntR.done | refine S.e ?_ | (refine S.f ?_ <;> (try simp only [WKe, ↓reduceIte, reduceCtorEq, Int.reduceEq, *])) | with_reducible apply EntR.ex | refine EntR.drop (F := F) ?_ | refine EntR.drop ?_)))))
  · by_cases he : k = s.length
    · obtain ⟨hI1, hI2⟩ := hI (by omega)
      subst he
      have hst := words_last hpk hI2
      have hl' : ∀ x : Str, (ws ++ [x]).length ≤ s.length + 1 := fun x => by simp; omega
      have hn1 : s.length + 1 ≤ s.length → ws ++ [⟨(s.take s.length).drop p⟩] ++ (wordsA 32 (s.drop (s.length + 1))).map Str.mk = wordsS s ∧ ∀ j : Nat, s.length + 1 ≤ j → j < s.length + 1 → bix s (j : Int) ≠ 32 := fun h => by omega
      have hn2 : s.length < s.length + 1 → ws ++ [⟨(s.take s.length).drop p⟩] = wordsS s := fun _ => by
        rw [← hI1, hst]; simp
      clear hI1 hI hJ
      ((try simp only [WKb, ↓reduceIte, Nat.reduceEqDiff, WKt]) <;> (repeat' ((first
    | (refine G.tr ?_; first | refine S.a ?_ | refine S.t ?_ | refine Tr.brK ?_ ?_ | refine S.n fun _ => ?_ | refine S.i fun hix => ?_ | (refine S.g fun hb => ?_; (try simp only [hb])) | (refine S.s (fun hb => ?_) (fun hb => ?_) <;> ((try simp only [hb]) <;> (try (have hp := hb; simp only [WKs] at hp; (try have hq := Int.not_le.2 hp); (try have hq := Int.not_lt.2 hp))))))
    | ((fail_if_success refine G.tr ?_); exact G.prop S.p)
    | fail) <;> (try simp only [WKb, ↓reduceIte, Nat.reduceEqDiff, WKt, hw, Int.toNat_natCast]))))
      all_goals (apply Tr.againE ((s.length + 1, _, _, _)); (focus (simp only [WKb, ↓reduceIte, Nat.reduceEqDiff])); (focus ((try simp only [WKb, ↓reduceIte, Nat.reduceEqDiff]); (all_goals ((repeat (refine cons_eq (by first | rfl | (simp [*]; done)) ?_)); rfl)); done)); (focus (first | omega | assumption | (simp only []; omega) | (refine ⟨by omega, by assumption⟩) | (simp only []; refine ⟨by omega, by assumption⟩) | ((try simp only []); (repeat' (first | omega | assumption | apply hn1 | apply hn2 | apply hl' | refine And.intro ?_ ?_)); done))); (focus (first | omega | (simp only []; omega))); (focus (((try clear hK) <;> (try simp only [WKe, *]) <;> repeat (first | with_reducible exact EntR.done | refine S.e ?_ | (refine S.f ?_ <;> (try simp only [WKe, ↓reduceIte, reduceCtorEq, Int.reduceEq, *])) | with_reducible apply EntR.ex | refine EntR.drop (F := F) ?_ | refine EntR.drop ?_)))))
    · have hfin := hJ (by omega)
      ((try simp only [WKb, ↓reduceIte, Nat.reduceEqDiff, WKt]) <;> (repeat' ((first
    | (refine G.tr ?_; first | refine S.a ?_ | refine S.t ?_ | refine Tr.brK ?_ ?_ | refine S.n fun _ => ?_ | refine S.i fun hix => ?_ | (refine S.g fun hb => ?_; (try simp only [hb])) | (refine S.s (fun hb => ?_) (fun hb => ?_) <;> ((try simp only [hb]) <;> (try (have hp := hb; simp only [WKs] at hp; (try have hq := Int.not_le.2 hp); (try have hq := Int.not_lt.2 hp))))))
    | ((fail_if_success refine G.tr ?_); exact G.prop S.p)
    | fail) <;> (try simp only [WKb, ↓reduceIte, Nat.reduceEqDiff]))))
      all_goals
        apply Tr.fin hK ⟨_, rfl, rfl⟩
        ((try clear hK) <;> (try simp only [WKe, *]) <;> repeat (first | with_reducible exact EntR.done | refine S.e ?_ | (refine S.f ?_ <;> (try simp only [WKe, hfin, ↓reduceIte, reduceCtorEq, Int.reduceEq, *])) | with_reducible apply EntR.ex | refine EntR.drop (F := F) ?_ | refine EntR.drop ?_))

end Go.Proofs.YtgkhjgpgdfbdpaaGreatDoor
