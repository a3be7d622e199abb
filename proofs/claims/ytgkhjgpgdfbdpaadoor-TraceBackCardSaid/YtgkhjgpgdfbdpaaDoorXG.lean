import Derived.Test.YtgkhjgpgdfbdpaaDoorXF
namespace Go.Proofs.YtgkhjgpgdfbdpaaDoor
open Go Go.Wk
set_option maxHeartbeats 6400000
set_option maxRecDepth 100000

instance : ElT 154 KindC := ⟨⟩
theorem name_inj {i j : Int} (hi : isA i) (hj : isA j) (h : nameA i = nameA j) : i = j := by
  obtain ⟨a, ha, rfl⟩ := isA_cases hi
  obtain ⟨b, hb, rfl⟩ := isA_cases hj
  have : ∀ a, a < 27 → ∀ b, b < 27 → nameA ((a + 1 : Nat) : Int) = nameA ((b + 1 : Nat) : Int) → a = b := by decide +kernel
  rw [this a ha b hb h]
theorem name_ne {i : Int} (hi : isA i) : nameA i ≠ [] := by
  obtain ⟨a, ha, rfl⟩ := isA_cases hi
  have : ∀ a, a < 27 → nameA ((a + 1 : Nat) : Int) ≠ [] := by decide +kernel
  exact this a ha
/-- A name's number. -/
def numberA (name : List UInt8) : Int := match (List.range 27).find? fun k : Nat => decide (nameA ((k + 1 : Nat) : Int) = name) with
  | some k => ((k + 1 : Nat) : Int)
  | none => 0
theorem numberA_eq {k : Int} {name : List UInt8} (hk : isA k) (h : nameA k = name) : numberA name = k := by
  unfold numberA
  split
  · rename_i j hj
    have h1 := List.find?_some hj
    have h2 := List.mem_range.1 (List.mem_of_find?_eq_some hj)
    simp only [decide_eq_true_eq] at h1
    exact name_inj (by unfold isA; omega) hk (h1.trans h.symm)
  · rename_i hn
    obtain ⟨a, ha, rfl⟩ := isA_cases hk
    have := List.find?_eq_none.1 hn a (List.mem_range.2 ha)
    simp only [decide_eq_true_eq] at this
    exact absurd h this
theorem numberA_zero {name : List UInt8} (h : ∀ k, isA k → nameA k ≠ name) : numberA name = 0 := by
  unfold numberA
  split
  · rename_i j hj
    have h1 := List.find?_some hj
    have h2 := List.mem_range.1 (List.mem_of_find?_eq_some hj)
    simp only [decide_eq_true_eq] at h1
    exact absurd h1 (h _ (by unfold isA; omega))
  · rfl
theorem numberA_spec (name : List UInt8) : (numberA name = 0 ∧ ∀ k, isA k → nameA k ≠ name) ∨ (isA (numberA name) ∧ nameA (numberA name) = name) := by
  by_cases h : ∃ k, isA k ∧ nameA k = name
  · obtain ⟨k, h1, h2⟩ := h
    have := numberA_eq h1 h2
    exact .inr ⟨by rw [this]; exact h1, by rw [this]; exact h2⟩
  · have hz : ∀ k, isA k → nameA k ≠ name := fun k h1 h2 => h ⟨k, h1, h2⟩
    exact .inl ⟨numberA_zero hz, hz⟩
def namesA : List Str := kindsA.tail.map fun k => ⟨k.name⟩
theorem names_ix {no : Int} (h : isA no) : (ix namesA (no - 1)).d = nameA no := by
  obtain ⟨k, hk, rfl⟩ := isA_cases h
  have : ∀ k, k < 27 → (ix namesA (((k + 1 : Nat) : Int) - 1)).d = nameA ((k + 1 : Nat) : Int) := by decide +kernel
  exact this k hk
attribute [local irreducible] BrK GenK EGenK EUnitK CallK FnK CallV GuardO GuardC CondW opX opK opKc chkR eqR seqK blkK endL WL WD W LoopW BinK Tr drewK resL PickK NotK NilK ExtrK getK Instr.storeAt Instr.loadAt Instr.fieldAt Instr.indexAt Instr.lookup Instr.mapUpdate Instr.box Instr.alloc Instr.build Instr.buildSlice Instr.makeSlice Instr.makeMap Instr.sliceAt Instr.field Instr.index Instr.makeInterface Instr.typeAssert Builtin.len_ Builtin.append_ Builtin.cap_ Builtin.min_ Builtin.max_ Builtin.copy_ Builtin.clear_ convert binOp mp blk rob sl sep ex fact old
attribute [local irreducible] NegK
theorem nameR_ok {no : Int} : Trip Tryd.prog 60 [.int .i64 no].toArray [] fun v l' => v = .string (bstr (nameA no)) ∧ l' = [] := by
  intro F K hK
  simp only [List.nil_append]
  (refine Tr.enter (rs := [.tmp 2]) mixed fn60 rfl (by simp +arith [Tryd.ntmps60]) fun u => ?_; simp only [cd60, Tryd.f60])
  by_cases h : isA no
  · have ⟨h1, h2⟩ := h
    have hw : IntKind.i64.wrap (no - 1) = no - 1 := wrapId (by omega) (by omega)
    have hd : decide (isA no) = true := decide_eq_true h
    have hn := names_ix h
    ((try simp only [WKb, ↓reduceIte, Nat.reduceEqDiff, WKt]) <;> (repeat' ((first
    | (refine G.tr ?_; first | refine S.a ?_ | refine S.t ?_ | refine Tr.brK ?_ ?_ | (refine G.call 59 ?_; refine S.c ?_ (h := isR_ok)) | refine S.n fun _ => ?_ | refine S.i fun hix => ?_ | (refine S.g fun hb => ?_; (try simp only [hb])) | (refine S.s (fun hb => ?_) (fun hb => ?_) <;> ((try simp only [hb]) <;> (try (have hp := hb; simp only [WKs] at hp; (try have hq := Int.not_le.2 hp); (try have hq := Int.not_lt.2 hp))))))
    | rintro _ _ ⟨rfl, rfl⟩
    | ((fail_if_success refine G.tr ?_); exact G.prop S.p)
    | fail) <;> (try simp only [WKb, ↓reduceIte, Nat.reduceEqDiff, hd, hw]))))
    all_goals
      refine Tr.fin hK ⟨by rw [← hn]; try rfl, rfl⟩ ?_
      ((try clear hK) <;> (try simp only [WKe, *]) <;> repeat (first | with_reducible exact EntR.done | refine S.e ?_ | (refine S.f ?_ <;> (try simp only [WKe, ↓reduceIte, reduceCtorEq, Int.reduceEq, *])) | with_reducible apply EntR.ex | refine EntR.drop (F := F) ?_ | refine EntR.drop ?_))
  · have hd : decide (isA no) = false := decide_eq_false h
    have hy := kindA_no h
    ((try simp only [WKb, ↓reduceIte, Nat.reduceEqDiff, WKt]) <;> (repeat' ((first
    | (refine G.tr ?_; first | refine S.a ?_ | refine S.t ?_ | refine Tr.brK ?_ ?_ | (refine G.call 59 ?_; refine S.c ?_ (h := isR_ok)) | refine S.n fun _ => ?_ | refine S.i fun hix => ?_ | (refine S.g fun hb => ?_; (try simp only [hb])) | (refine S.s (fun hb => ?_) (fun hb => ?_) <;> ((try simp only [hb]) <;> (try (have hp := hb; simp only [WKs] at hp; (try have hq := Int.not_le.2 hp); (try have hq := Int.not_lt.2 hp))))))
    | rintro _ _ ⟨rfl, rfl⟩
    | ((fail_if_success refine G.tr ?_); exact G.prop S.p)
    | fail) <;> (try simp only [WKb, ↓reduceIte, hd]))))
    all_goals
      refine Tr.fin hK ⟨by unfold nameA; rw [hy], rfl⟩ ?_
      ((try clear hK) <;> (try simp only [WKe, *]) <;> repeat (first | with_reducible exact EntR.done | refine S.e ?_ | (refine S.f ?_ <;> (try simp only [WKe, ↓reduceIte, reduceCtorEq, Int.reduceEq, *])) | with_reducible apply EntR.ex | refine EntR.drop (F := F) ?_ | refine EntR.drop ?_))

theorem numberR_ok {name : List UInt8} : Trip Tryd.prog 108 [.string (bstr name)].toArray [] fun v l' => v = .int .i64 (numberA name) ∧ l' = [] := by
  intro F K hK
  simp only [List.nil_append]
  (refine Tr.enter (rs := [.tmp 2]) mixed fn108 rfl (by simp +arith [Tryd.ntmps108]) fun u => ?_; simp only [cd108, Tryd.f108])
  ((try simp only [WKb]) <;> (repeat' ((first
    | (refine G.tr ?_; first | refine S.a ?_ | refine S.t ?_ | refine Tr.brK ?_ ?_ | (refine G.call 60 ?_; refine S.c ?_ (h := nameR_ok)) | refine S.n fun _ => ?_ | refine S.i fun hix => ?_ | (refine S.g fun hb => ?_; (try simp only [hb])) | (refine S.s (fun hb => ?_) (fun hb => ?_) <;> ((try simp only [hb]) <;> (try (have hp := hb; simp only [WKs] at hp; (try have hq := Int.not_le.2 hp); (try have hq := Int.not_lt.2 hp))))))
    | rintro _ _ ⟨rfl, rfl⟩
    | ((fail_if_success refine G.tr ?_); exact G.prop S.p)
    | fail) <;> (try simp only [WKb, WKh, ↓reduceIte, Nat.reduceEqDiff, Nat.reduceAdd, Nat.reduceSub, Int.reduceEq, Int.reduceLT, Int.reduceLE, WKt, pl108]))))
  refine Tr.loopE (α := Nat) [2, 3] [0] (fun k => [.int .i64 0, .int .i64 ((k : Int) + 1)]) (fun _ => []) (fun k => k ≤ 27 ∧ ∀ j : Nat, j < k → nameA ((j + 1 : Nat) : Int) ≠ name) (fun k => 27 - k) 0 (by (repeat (first | exact TakeL.nil | (apply TakeL.cons; focus ((first | exact TakeA.dupS | exact TakeA.dupF | ((repeat (first | with_reducible exact TakeA.here | exact TakeA.fam (by omega) (by omega) | with_reducible apply TakeA.next)); done) | ((repeat (first | exact TakeA.here | apply TakeA.next)); done) | exact TakeA.famNil | exact TakeA.nilS))) | fail)); done) rfl ⟨by omega, fun j hj => by omega⟩ fun k u hx => ?_
  obtain ⟨hk, hn⟩ := hx
  have hw : IntKind.i64.wrap ((k : Int) + 1 + 1) = ((k + 1 : Nat) : Int) + 1 := by rw [wrapId (by omega) (by omega)]; omega
  by_cases hin : k < 27
  · by_cases he : nameA ((k : Int) + 1) = name
    · have hz := numberA_eq (k := (k : Int) + 1) (by unfold isA; omega) he
      ((try simp only [WKb, ↓reduceIte, Nat.reduceEqDiff]) <;> (repeat' ((first
    | (refine G.tr ?_; first | refine S.a ?_ | refine S.t ?_ | refine Tr.brK ?_ ?_ | (refine G.call 60 ?_; refine S.c ?_ (h := nameR_ok)) | refine S.n fun _ => ?_ | refine S.i fun hix => ?_ | (refine S.g fun hb => ?_; (try simp only [hb])) | (refine S.s (fun hb => ?_) (fun hb => ?_) <;> ((try simp only [hb]) <;> (try (have hp := hb; simp only [WKs] at hp; (try have hq := Int.not_le.2 hp); (try have hq := Int.not_lt.2 hp))))))
    | rintro _ _ ⟨rfl, rfl⟩
    | ((fail_if_success refine G.tr ?_); exact G.prop S.p)
    | fail) <;> (try simp only [WKb, WKh, ↓reduceIte, Nat.reduceEqDiff, he]))))
      all_goals
        refine Tr.fin hK ⟨by rw [hz], rfl⟩ ?_
        ((try clear hK) <;> (try simp only [WKe, *]) <;> repeat (first | with_reducible exact EntR.done | refine S.e ?_ | (refine S.f ?_ <;> (try simp only [WKe, ↓reduceIte, reduceCtorEq, Int.reduceEq, *])) | with_reducible apply EntR.ex | refine EntR.drop (F := F) ?_ | refine EntR.drop ?_))
    · have hn' : ∀ j : Nat, j < k + 1 → nameA ((j + 1 : Nat) : Int) ≠ name := fun j hj => by
        by_cases hjk : j < k
        · exact hn j hjk
        · have : j = k := by omega
          subst this; exact he
      ((try simp only [WKb, ↓reduceIte, Nat.reduceEqDiff]) <;> (repeat' ((first
    | (refine G.tr ?_; first | refine S.a ?_ | refine S.t ?_ | refine Tr.brK ?_ ?_ | (refine G.call 60 ?_; refine S.c ?_ (h := nameR_ok)) | refine S.n fun _ => ?_ | refine S.i fun hix => ?_ | (refine S.g fun hb => ?_; (try simp only [hb])) | (refine S.s (fun hb => ?_) (fun hb => ?_) <;> ((try simp only [hb]) <;> (try (have hp := hb; simp only [WKs] at hp; (try have hq := Int.not_le.2 hp); (try have hq := Int.not_lt.2 hp))))))
    | rintro _ _ ⟨rfl, rfl⟩
    | ((fail_if_success refine G.tr ?_); exact G.prop S.p)
    | fail) <;> (try simp only [WKb, WKh, ↓reduceIte, Nat.reduceEqDiff, hw]))))
      all_goals (apply Tr.againE (k + 1); (focus (simp only [WKb, ↓reduceIte, Nat.reduceEqDiff])); (focus ((try simp only [WKb, ↓reduceIte, Nat.reduceEqDiff]); (all_goals ((repeat (refine cons_eq (by first | rfl | (simp [*]; done)) ?_)); rfl)); done)); (focus (first | omega | assumption | (simp only []; omega) | (refine ⟨by omega, by assumption⟩) | (simp only []; refine ⟨by omega, by assumption⟩) | ((try simp only []); (repeat' (first | omega | assumption | apply hn' | refine And.intro ?_ ?_)); done))); (focus (first | omega | (simp only []; omega))); (focus (((try clear hK) <;> (try simp only [WKe, *]) <;> repeat (first | with_reducible exact EntR.done | refine S.e ?_ | (refine S.f ?_ <;> (try simp only [WKe, ↓reduceIte, reduceCtorEq, Int.reduceEq, *])) | with_reducible apply EntR.ex | refine EntR.drop (F := F) ?_ | refine EntR.drop ?_)))))
  · have hz : numberA name = 0 := numberA_zero fun j hj h => by
      obtain ⟨a, ha, rfl⟩ := isA_cases hj
      exact hn a (by omega) h
    ((try simp only [WKb, ↓reduceIte, Nat.reduceEqDiff]) <;> (repeat' ((first
    | (refine G.tr ?_; first | refine S.a ?_ | refine S.t ?_ | refine Tr.brK ?_ ?_ | (refine G.call 60 ?_; refine S.c ?_ (h := nameR_ok)) | refine S.n fun _ => ?_ | refine S.i fun hix => ?_ | (refine S.g fun hb => ?_; (try simp only [hb])) | (refine S.s (fun hb => ?_) (fun hb => ?_) <;> ((try simp only [hb]) <;> (try (have hp := hb; simp only [WKs] at hp; (try have hq := Int.not_le.2 hp); (try have hq := Int.not_lt.2 hp))))))
    | rintro _ _ ⟨rfl, rfl⟩
    | ((fail_if_success refine G.tr ?_); exact G.prop S.p)
    | fail) <;> (try simp only [WKb, ↓reduceIte]))))
    all_goals
      refine Tr.fin hK ⟨by rw [hz], rfl⟩ ?_
      ((try clear hK) <;> (try simp only [WKe, *]) <;> repeat (first | with_reducible exact EntR.done | refine S.e ?_ | (refine S.f ?_ <;> (try simp only [WKe, ↓reduceIte, reduceCtorEq, Int.reduceEq, *])) | with_reducible apply EntR.ex | refine EntR.drop (F := F) ?_ | refine EntR.drop ?_))

abbrev nmB (b : Nat) (name : List UInt8) : Asrt := blk b (.cells [.string (bstr name)].toArray 9 (0, 0))
theorem same_ok {k : KindC} {b : Nat} {name : List UInt8} : Trip Tryd.prog 90 [.agg (En.enc k).toArray, .pointer (some ⟨b, 0, none⟩)].toArray [nmB b name] fun v l' => v = .bool (decide (k.name = name)) ∧ l' = [nmB b name] := by
  intro F K hK
  simp only [List.cons_append, List.nil_append]
  obtain ⟨kn, ka⟩ := k
  (refine Tr.enter (rs := [.tmp 3]) mixed fn90 rfl (by simp +arith [Tryd.ntmps90]) fun u => ?_; simp only [cd90, Tryd.f90])
  ((try simp only [WKb, ↓reduceIte, Nat.reduceEqDiff, Nat.reduceAdd]) <;> (repeat' ((first
    | (refine G.tr ?_; first | refine S.a ?_ | refine S.t ?_ | refine Tr.brK ?_ ?_ | refine S.n fun _ => ?_ | refine S.i fun hix => ?_ | (refine S.g fun hb => ?_; (try simp only [hb])) | (refine S.s (fun hb => ?_) (fun hb => ?_) <;> ((try simp only [hb]) <;> (try (have hp := hb; simp only [WKs] at hp; (try have hq := Int.not_le.2 hp); (try have hq := Int.not_lt.2 hp))))))
    | ((fail_if_success refine G.tr ?_); exact G.prop S.p)
    | fail) <;> (try simp only [WKb, WKh, ↓reduceIte, Nat.reduceEqDiff]))))
  all_goals
    refine Tr.fin hK ⟨rfl, rfl⟩ ?_
    ((try clear hK) <;> (try simp only [WKe, *]) <;> repeat (first | with_reducible exact EntR.done | refine S.e ?_ | (refine S.f ?_ <;> (try simp only [WKe, ↓reduceIte, reduceCtorEq, Int.reduceEq, *])) | with_reducible apply EntR.ex | refine EntR.drop (F := F) ?_ | refine EntR.drop ?_))

theorem kinds_name {k : Nat} (h : k < 27) : (ix kindsA ((k + 1 : Nat) : Int)).name = nameA ((k + 1 : Nat) : Int) := by
  unfold nameA
  rw [kindA_yes (by unfold isA; omega)]
theorem kinds_zero : (ix kindsA 0).name = [] := rfl
theorem flat56 : (flat kindsA).length = 56 := rfl
attribute [local irreducible] kindsA flat
theorem indexFn_ok {s : SV} {b : Nat} {name : List UInt8} : Trip Tryd.prog 89 [s.v, .func (.func 90) #[] [.pointer (some ⟨b, 0, none⟩)].toArray].toArray [sl false s.v kindsA, nmB b name]
    fun v l' => ∃ n : Int, (if 0 < n then n else 0) = numberA name ∧ v = .int .i64 n ∧ l' = [] := by
  intro F K hK
  simp only [List.cons_append, List.nil_append]
  have hkl := kinds_len
  
  (refine Tr.enter (rs := [.tmp 4]) mixed fn89 rfl (by simp +arith [Tryd.ntmps89]) fun u => ?_; simp only [cd89, Tryd.f89])
  
  ((try simp only [WKb, ↓reduceIte, Nat.reduceEqDiff, Nat.reduceAdd]) <;> (repeat' ((first
    | (refine G.tr ?_; first | refine S.a ?_ | refine S.t ?_ | refine Tr.brK ?_ ?_ | (refine G.call 90 ?_; refine S.c ?_ (h := same_ok)) | refine S.n fun _ => ?_ | refine S.i fun hix => ?_ | (refine S.g fun hb => ?_; (try simp only [hb])) | (refine S.s (fun hb => ?_) (fun hb => ?_) <;> ((try simp only [hb]) <;> (try (have hp := hb; simp only [WKs] at hp; (try have hq := Int.not_le.2 hp); (try have hq := Int.not_lt.2 hp))))))
    | rintro _ _ ⟨rfl, rfl⟩
    | ((fail_if_success refine G.tr ?_); exact G.prop S.p)
    | fail) <;> (try simp only [WKb]))))
  refine Tr.loopE (α := Nat) [4, 8] [0, 1, 7] (fun k => [.int .i64 0, .int .i64 k]) (fun _ => [sl false s.v kindsA, nmB b name]) (fun k => k ≤ 28 ∧ ∀ j : Nat, j < k → (ix kindsA (j : Int)).name ≠ name) (fun k => 28 - k) 0 (by (repeat (first | exact TakeL.nil | (apply TakeL.cons; focus ((first | exact TakeA.dupS | exact TakeA.dupF | ((repeat (first | with_reducible exact TakeA.here | exact TakeA.fam (by omega) (by omega) | with_reducible apply TakeA.next)); done) | ((repeat (first | exact TakeA.here | apply TakeA.next)); done) | exact TakeA.famNil | exact TakeA.nilS))) | fail)); done) rfl ⟨by omega, fun j hj => by omega⟩ fun k u hx => ?_
  obtain ⟨hk, hn⟩ := hx
  have hw := wrapSucc (k := k) (by omega)
  by_cases hin : k < 28
  · by_cases he : (ix kindsA (k : Int)).name = name
    · have hz : (if 0 < (k : Int) then (k : Int) else 0) = numberA name := by
        rcases k with _ | k
        · have : numberA name = 0 := numberA_zero fun j hj h => by
            rw [show ((0 : Nat) : Int) = 0 from rfl, kinds_zero] at he
            exact name_ne hj (h.trans he.symm)
          rw [this]; rfl
        · rw [kinds_name (by omega)] at he
          rw [numberA_eq (k := ((k + 1 : Nat) : Int)) (by unfold isA; omega) he, if_pos (by omega)]
      have hd : decide ((ix kindsA (k : Int)).name = name) = true := decide_eq_true he
      ((try simp only [WKb, ↓reduceIte, Nat.reduceEqDiff]) <;> (repeat' ((first
    | (refine G.tr ?_; first | refine S.a ?_ | refine S.t ?_ | refine Tr.brK ?_ ?_ | (refine G.call 90 ?_; refine S.c ?_ (h := same_ok)) | refine S.n fun _ => ?_ | refine S.i fun hix => ?_ | (refine S.g fun hb => ?_; (try simp only [hb])) | (refine S.s (fun hb => ?_) (fun hb => ?_) <;> ((try simp only [hb]) <;> (try (have hp := hb; simp only [WKs] at hp; (try have hq := Int.not_le.2 hp); (try have hq := Int.not_lt.2 hp))))))
    | rintro _ _ ⟨rfl, rfl⟩
    | ((fail_if_success refine G.tr ?_); exact G.prop S.p)
    | fail) <;> (try simp only [WKb, ↓reduceIte, Nat.reduceEqDiff, hd]))))
      all_goals
        apply Tr.fin hK ⟨_, hz, rfl, rfl⟩
        ((try clear hK) <;> (try simp only [WKe, *]) <;> repeat (first | with_reducible exact EntR.done | refine S.e ?_ | (refine S.f ?_ <;> (try simp only [WKe, ↓reduceIte, reduceCtorEq, Int.reduceEq, *])) | with_reducible apply EntR.ex | refine EntR.drop (F := F) ?_ | refine EntR.drop ?_))
    · have hn' : ∀ j : Nat, j < k + 1 → (ix kindsA (j : Int)).name ≠ name := fun j hj => by
        by_cases hjk : j < k
        · exact hn j hjk
        · have : j = k := by omega
          subst this; exact he
      have hd : decide ((ix kindsA (k : Int)).name = name) = false := decide_eq_false he
      ((try simp only [WKb, ↓reduceIte, Nat.reduceEqDiff]) <;> (repeat' ((first
    | (refine G.tr ?_; first | refine S.a ?_ | refine S.t ?_ | refine Tr.brK ?_ ?_ | (refine G.call 90 ?_; refine S.c ?_ (h := same_ok)) | refine S.n fun _ => ?_ | refine S.i fun hix => ?_ | (refine S.g fun hb => ?_; (try simp only [hb])) | (refine S.s (fun hb => ?_) (fun hb => ?_) <;> ((try simp only [hb]) <;> (try (have hp := hb; simp only [WKs] at hp; (try have hq := Int.not_le.2 hp); (try have hq := Int.not_lt.2 hp))))))
    | rintro _ _ ⟨rfl, rfl⟩
    | ((fail_if_success refine G.tr ?_); exact G.prop S.p)
    | fail) <;> (try simp only [WKb, ↓reduceIte, Nat.reduceEqDiff, hw, hd]))))
      all_goals (apply Tr.againE (k + 1); (focus (simp only [WKb, ↓reduceIte, Nat.reduceEqDiff])); (focus ((try simp only [WKb, ↓reduceIte, Nat.reduceEqDiff]); (all_goals ((repeat (refine cons_eq (by first | rfl | (simp [*]; done)) ?_)); rfl)); done)); (focus (first | omega | assumption | (simp only []; omega) | (refine ⟨by omega, by assumption⟩) | (simp only []; refine ⟨by omega, by assumption⟩) | ((try simp only []); (repeat' (first | omega | assumption | apply hn' | refine And.intro ?_ ?_)); done))); (focus (first | omega | (simp only []; omega))); (focus (((try clear hK) <;> (try simp only [WKe, *]) <;> repeat (first | with_reducible exact EntR.done | refine S.e ?_ | (refine S.f ?_ <;> (try simp only [WKe, ↓reduceIte, reduceCtorEq, Int.reduceEq, *])) | with_reducible apply EntR.ex | refine EntR.drop (F := F) ?_ | refine EntR.drop ?_)))))
  · have hz : (if 0 < (-1 : Int) then (-1 : Int) else 0) = numberA name := by
      have : numberA name = 0 := numberA_zero fun j hj h => by
        obtain ⟨a, ha, rfl⟩ := isA_cases hj
        exact hn (a + 1) (by omega) ((kinds_name ha).trans h)
      rw [this]; rfl
    ((try simp only [WKb, ↓reduceIte, Nat.reduceEqDiff]) <;> (repeat' ((first
    | (refine G.tr ?_; first | refine S.a ?_ | refine S.t ?_ | refine Tr.brK ?_ ?_ | (refine G.call 90 ?_; refine S.c ?_ (h := same_ok)) | refine S.n fun _ => ?_ | refine S.i fun hix => ?_ | (refine S.g fun hb => ?_; (try simp only [hb])) | (refine S.s (fun hb => ?_) (fun hb => ?_) <;> ((try simp only [hb]) <;> (try (have hp := hb; simp only [WKs] at hp; (try have hq := Int.not_le.2 hp); (try have hq := Int.not_lt.2 hp))))))
    | rintro _ _ ⟨rfl, rfl⟩
    | ((fail_if_success refine G.tr ?_); exact G.prop S.p)
    | fail) <;> (try simp only [WKb, ↓reduceIte]))))
    all_goals
      apply Tr.fin hK ⟨_, hz, rfl, rfl⟩
      ((try clear hK) <;> (try simp only [WKe, *]) <;> repeat (first | with_reducible exact EntR.done | refine S.e ?_ | (refine S.f ?_ <;> (try simp only [WKe, ↓reduceIte, reduceCtorEq, Int.reduceEq, *])) | with_reducible apply EntR.ex | refine EntR.drop (F := F) ?_ | refine EntR.drop ?_))

theorem number_of_ok {name : List UInt8} : Trip Tryd.prog 50 [.string (bstr name)].toArray [] fun v l' => v = .int .i64 (numberA name) ∧ l' = [] := by
  intro F K hK
  simp only [List.nil_append]
  have hkl := kinds_len
  (refine Tr.enter (rs := [.tmp 2]) mixed fn50 rfl (by simp +arith [Tryd.ntmps50]) fun u => ?_; simp only [cd50, Tryd.f50])
  ((try simp only [WKb, ↓reduceIte]) <;> (repeat' ((first
    | (refine G.tr ?_; first | refine S.a ?_ | refine S.t ?_ | refine Tr.brK ?_ ?_ | (refine G.call 88 ?_; refine S.c ?_ (h := kinds_ok)) | (refine G.call 89 ?_; refine S.c ?_ (h := indexFn_ok)) | refine S.n fun _ => ?_ | refine S.i fun hix => ?_ | (refine S.g fun hb => ?_; (try simp only [hb])) | (refine S.s (fun hb => ?_) (fun hb => ?_) <;> ((try simp only [hb]) <;> (try (have hp := hb; simp only [WKs] at hp; (try have hq := Int.not_le.2 hp); (try have hq := Int.not_lt.2 hp))))))
    | rintro _ _ ⟨rfl, rfl⟩
    | rintro _ _ ⟨_, hidx, rfl, rfl⟩
    | (refine Tr.cutArr (xs := kindsA) (by (repeat (first | exact TakeA.here | apply TakeA.next)); done) (by rfl) kinds_len (by omega) ?_)
    | (refine G.store ?_; refine A.stW (vs := flat kindsA) (by rfl) flat56 (flat_one _) (by rfl) ?_)
    | ((fail_if_success refine G.tr ?_); exact G.prop S.p)
    | fail) <;> (try simp only [WKb, WKh, ↓reduceIte, Nat.reduceEqDiff, WKt]))))
  all_goals
    refine Tr.fin hK ⟨by rw [← hidx], rfl⟩ ?_
    ((try clear hK) <;> (try simp only [WKe, *]) <;> repeat (first | with_reducible exact EntR.done | refine S.e ?_ | (refine S.f ?_ <;> (try simp only [WKe, ↓reduceIte, reduceCtorEq, Int.reduceEq, *])) | with_reducible apply EntR.ex | refine EntR.drop (F := F) ?_ | refine EntR.drop ?_))

end Go.Proofs.YtgkhjgpgdfbdpaaDoor
