import Derived.Test.YtgkhjgpgdfbdpaaDoorXK
namespace Go.Proofs.YtgkhjgpgdfbdpaaDoor
open Go Go.Wk
set_option maxHeartbeats 6400000
set_option maxRecDepth 100000

theorem fields_set {rest : List Str} {i : Nat} (h : i < 4) : [fieldN rest i 0, fieldN rest i 1, fieldN rest i 2, fieldN rest i 3].set i (nthN rest i) = [fieldN rest (i + 1) 0, fieldN rest (i + 1) 1, fieldN rest (i + 1) 2, fieldN rest (i + 1) 3] := by
  rcases i with _ | _ | _ | _ | i <;> first | omega | simp [fieldN]
theorem field_all {rest : List Str} {j : Nat} : fieldN rest rest.length j = nthN rest j := by
  unfold fieldN
  split
  · rfl
  · unfold nthN
    rw [ix_out (by omega), numA_nil]; rfl
theorem ix_from {ws : List Str} {f i : Nat} : ix (ws.drop f) (i : Int) = ix ws ((f + i : Nat) : Int) := by unfold ix; rw [Int.toNat_natCast, Int.toNat_natCast, List.getD_eq_getElem?_getD, List.getD_eq_getElem?_getD, List.getElem?_drop]
theorem call_word : numberA [99, 97, 108, 108] = 0 := by decide +kernel
theorem callA_call {ws : List Str} (h : (ix ws 0).d = [99, 97, 108, 108]) : callA ws = ((match numA (ix (ws.drop 1) 0).d with
    | some n => if isA n then none else some n
    | none => none), (ws.drop 1).drop 1) := if_pos h
theorem callA_name {ws : List Str} (h : ¬ (ix ws 0).d = [99, 97, 108, 108]) : callA ws = (if numberA (ix ws 0).d = 0 then none else some (numberA (ix ws 0).d), ws.drop 1) := if_neg h
theorem readA_short {ws : List Str} (h : ws.length < 2) : readA ws = none := by
  refine readA_none2 ?_
  have h0 : ws.drop 1 = [] := List.drop_eq_nil_of_le (by omega)
  rw [h0, callA_name (by rw [ix_nil0]; simp), ix_nil0]
  simp only [numberA_zero (name := []) fun k hk => name_ne hk, ↓reduceIte]
attribute [local irreducible] BrK GenK EGenK EUnitK CallK FnK CallV GuardO GuardC CondW opX opK opKc chkR eqR seqK blkK endL WL WD W LoopW BinK Tr drewK resL PickK NotK NilK ExtrK getK Instr.storeAt Instr.loadAt Instr.fieldAt Instr.indexAt Instr.lookup Instr.mapUpdate Instr.box Instr.alloc Instr.build Instr.buildSlice Instr.makeSlice Instr.makeMap Instr.sliceAt Instr.field Instr.index Instr.makeInterface Instr.typeAssert Builtin.len_ Builtin.append_ Builtin.cap_ Builtin.min_ Builtin.max_ Builtin.copy_ Builtin.clear_ convert binOp mp blk rob sl sep ex fact old
attribute [local irreducible] NegK mxV
theorem readR_ok {s : List UInt8} (hs : s.length ≤ 1000000) : Trip Tryd.prog 74 [.string (bstr s)].toArray []
    fun v l' => v = .tuple #[.agg (En.enc (errS (readA (wordsS s)))).toArray, .int .i64 (errN (readA (wordsS s)))] ∧ l' = [] := by
  intro F K hK
  simp only [List.nil_append]
  have fin0 : ∀ l : List Asrt, readA (wordsS s) = none → EntR [] l F → Tr l (K (.tuple #[.agg [.int .i64 0, .int .i64 0, .int .i64 0, .int .i64 0, .int .i64 0, .int .i64 0].toArray, .int .i64 13])) := fun l hno he => Tr.fin hK ⟨by rw [hno]; rfl, rfl⟩ he
  have hsm : bnd (wordsS s) := words_small hs
  obtain ⟨ws, hws⟩ : ∃ ws, wordsS s = ws := ⟨_, rfl⟩
  rw [hws] at hsm fin0 hK
  have hb0 : (ix ws 0).d.length ≤ 1000000 := hsm 0
  have hb1 : (ix ws 1).d.length ≤ 1000000 := hsm 1
  have hb2 : (ix ws 2).d.length ≤ 1000000 := hsm 2
  (refine Tr.enter (rs := [.cell 2 108, .tmp 3]) mixed fn74 rfl (by simp +arith [Tryd.ntmps74]) fun u => ?_; simp only [cd74, Tryd.f74])
  by_cases hL : ws.length < 2
  · have hR := readA_short hL
    ((try simp only [WKb, WKt]) <;> (repeat' ((first
    | (refine G.tr ?_; first | refine S.a ?_ | refine S.t ?_ | refine Tr.brK ?_ ?_ | (refine G.call 98 ?_; refine S.c ?_ (h := wordsR_ok ?_)) | (refine G.call 53 ?_; refine S.c ?_ (h := number10_ok ?_)) | (refine G.call 108 ?_; refine S.c ?_ (h := numberR_ok)) | (refine G.call 59 ?_; refine S.c ?_ (h := isR_ok)) | (refine G.call 104 ?_; refine S.c ?_ (h := argsR_ok)) | refine S.n fun _ => ?_ | refine S.i fun hix => ?_ | (refine S.g fun hb => ?_; (try simp only [hb])) | (refine S.s (fun hb => ?_) (fun hb => ?_) <;> ((try simp only [hb]) <;> (try (have hp := hb; simp only [WKs] at hp; (try have hq := Int.not_le.2 hp); (try have hq := Int.not_lt.2 hp))))))
    | rintro _ _ ⟨rfl, rfl⟩
    | rintro _ _ ⟨_, rfl, rfl⟩
    | rintro _ _ ⟨_, hi64, hnum, rfl, rfl⟩
    | ((fail_if_success refine G.tr ?_); exact G.prop S.p)
    | fail) <;> (try simp only [WKb, ↓reduceIte, Nat.reduceEqDiff, hws]))))
    all_goals
      refine fin0 _ hR ?_
      ((try clear hK) <;> (try simp only [WKe, ↓reduceIte, reduceCtorEq, Int.reduceEq, *]) <;> repeat (first | with_reducible exact EntR.done | refine S.e ?_ | (refine S.f ?_ <;> (try simp only [WKe, ↓reduceIte, reduceCtorEq, Int.reduceEq, *])) | with_reducible apply EntR.ex | refine EntR.drop (F := F) ?_ | refine EntR.drop ?_))
  · have hx1 : ix (ws.drop 1) 0 = ix ws 1 := ix_from (f := 1) (i := 0)
    have hx2 : ix ((ws.drop 1).drop 1) 0 = ix ws 2 := by rw [List.drop_drop]; exact ix_from (f := 2) (i := 0)
    by_cases hB : (ix ws 1).d = [99, 97, 108, 108] ∧ 2 < ws.length
    · obtain ⟨hB1, hB2⟩ := hB
      have hcd : decide ((ix ws 1).d = [99, 97, 108, 108]) = true := decide_eq_true hB1
      have hca := callA_call (ws := ws.drop 1) (by rw [hx1]; exact hB1)
      rw [hx2] at hca
      cases hn2 : numA (ix ws 2).d with
      | none =>
        rw [hn2] at hca
        have hR := readA_none2 (ws := ws) (by rw [hca])
        have hn2s : (numA (ix ws 2).d).isSome = false := by rw [hn2]; rfl
        ((try simp only [WKb, WKt]) <;> (repeat' ((first
    | (refine G.tr ?_; first | refine S.a ?_ | refine S.t ?_ | refine Tr.brK ?_ ?_ | (refine G.call 98 ?_; refine S.c ?_ (h := wordsR_ok ?_)) | (refine G.call 53 ?_; refine S.c ?_ (h := number10_ok ?_)) | (refine G.call 108 ?_; refine S.c ?_ (h := numberR_ok)) | (refine G.call 59 ?_; refine S.c ?_ (h := isR_ok)) | (refine G.call 104 ?_; refine S.c ?_ (h := argsR_ok)) | refine S.n fun _ => ?_ | refine S.i fun hix => ?_ | (refine S.g fun hb => ?_; (try simp only [hb])) | (refine S.s (fun hb => ?_) (fun hb => ?_) <;> ((try simp only [hb]) <;> (try (have hp := hb; simp only [WKs] at hp; (try have hq := Int.not_le.2 hp); (try have hq := Int.not_lt.2 hp))))))
    | rintro _ _ ⟨rfl, rfl⟩
    | rintro _ _ ⟨_, rfl, rfl⟩
    | rintro _ _ ⟨_, hi64, hnum, rfl, rfl⟩
    | ((fail_if_success refine G.tr ?_); exact G.prop S.p)
    | fail) <;> (try simp only [WKb, WKh, ↓reduceIte, Nat.reduceEqDiff, hws, hcd, hn2s]))))
        all_goals
          refine fin0 _ hR ?_
          ((try clear hK) <;> (try simp only [WKe, ↓reduceIte, reduceCtorEq, Int.reduceEq, *]) <;> repeat (first | with_reducible exact EntR.done | refine S.e ?_ | (refine S.f ?_ <;> (try simp only [WKe, ↓reduceIte, reduceCtorEq, Int.reduceEq, *])) | with_reducible apply EntR.ex | refine EntR.drop (F := F) ?_ | refine EntR.drop ?_))
      | some no =>
        have hn2s : (numA (ix ws 2).d).isSome = true := by rw [hn2]; rfl
        rw [hn2] at hca
        simp only at hca
        by_cases hi : isA no
        · rw [if_pos hi] at hca
          have hR := readA_none2 (ws := ws) (by rw [hca])
          have hid : decide (isA no) = true := decide_eq_true hi
          have hsub : ∀ n : Int, (∀ m, numA (ix ws 2).d = some m → n = m) → n = no := fun n h => h no hn2
          ((try simp only [WKb, WKt]) <;> (repeat' ((first
    | (refine G.tr ?_; first | ((fail_if_success have := hdone); have hdone := hsub _ (by assumption); subst hdone) | refine S.a ?_ | refine S.t ?_ | refine Tr.brK ?_ ?_ | (refine G.call 98 ?_; refine S.c ?_ (h := wordsR_ok ?_)) | (refine G.call 53 ?_; refine S.c ?_ (h := number10_ok ?_)) | (refine G.call 108 ?_; refine S.c ?_ (h := numberR_ok)) | (refine G.call 59 ?_; refine S.c ?_ (h := isR_ok)) | (refine G.call 104 ?_; refine S.c ?_ (h := argsR_ok)) | refine S.n fun _ => ?_ | refine S.i fun hix => ?_ | (refine S.g fun hb => ?_; (try simp only [hb])) | (refine S.s (fun hb => ?_) (fun hb => ?_) <;> ((try simp only [hb]) <;> (try (have hp := hb; simp only [WKs] at hp; (try have hq := Int.not_le.2 hp); (try have hq := Int.not_lt.2 hp))))))
    | rintro _ _ ⟨rfl, rfl⟩
    | rintro _ _ ⟨_, rfl, rfl⟩
    | rintro _ _ ⟨_, hi64, hnum, rfl, rfl⟩
    | ((fail_if_success refine G.tr ?_); exact G.prop S.p)
    | fail) <;> (try simp only [WKb, WKh, ↓reduceIte, Nat.reduceEqDiff, hws, hcd, hn2s, hid]))))
          all_goals
            refine fin0 _ hR ?_
            ((try clear hK) <;> (try simp only [WKe, ↓reduceIte, reduceCtorEq, Int.reduceEq, *]) <;> repeat (first | with_reducible exact EntR.done | refine S.e ?_ | (refine S.f ?_ <;> (try simp only [WKe, ↓reduceIte, reduceCtorEq, Int.reduceEq, *])) | with_reducible apply EntR.ex | refine EntR.drop (F := F) ?_ | refine EntR.drop ?_))
        · rw [if_neg hi] at hca
          have hid : decide (isA no) = false := decide_eq_false hi
          have hsub : ∀ n : Int, (∀ m, numA (ix ws 2).d = some m → n = m) → n = no := fun n h => h no hn2
          have hR1 : (numA (ix ws 0).d).isSome = false → readA ws = none := fun h => readA_none1 (by cases hj : numA (ix ws 0).d; rfl; rw [hj] at h; cases h)
          have hca1 : (callA (ws.drop 1)).1 = some no := by rw [hca]
          have hca2 : (callA (ws.drop 1)).2 = ws.drop 3 := by rw [hca]; simp only [List.drop_drop]
          have hA4 := argsA_le no
          have hwr : IntKind.i64.wrap (3 + argsA no) = 3 + argsA no := wrapId (by omega) (by omega)
          obtain ⟨rest, hrest⟩ : ∃ r, ws.drop 3 = r := ⟨_, rfl⟩
          rw [hrest] at hca2
          have hrl : rest.length = ws.length - 3 := by rw [← hrest, List.length_drop]
          clear hca
          cases hb1s : (numA (ix ws 0).d).isSome with
          | false =>
            have hR := hR1 hb1s
            ((try simp only [WKb, WKt]) <;> (repeat' ((first
    | (refine G.tr ?_; first | ((fail_if_success have := hdone); have hdone := hsub _ (by assumption); subst hdone) | refine S.a ?_ | refine S.t ?_ | refine Tr.brK ?_ ?_ | (refine G.call 98 ?_; refine S.c ?_ (h := wordsR_ok ?_)) | (refine G.call 53 ?_; refine S.c ?_ (h := number10_ok ?_)) | (refine G.call 108 ?_; refine S.c ?_ (h := numberR_ok)) | (refine G.call 59 ?_; refine S.c ?_ (h := isR_ok)) | (refine G.call 104 ?_; refine S.c ?_ (h := argsR_ok)) | refine S.n fun _ => ?_ | refine S.i fun hix => ?_ | (refine S.g fun hb => ?_; (try simp only [hb])) | (refine S.s (fun hb => ?_) (fun hb => ?_) <;> ((try simp only [hb]) <;> (try (have hp := hb; simp only [WKs] at hp; (try have hq := Int.not_le.2 hp); (try have hq := Int.not_lt.2 hp))))))
    | rintro _ _ ⟨rfl, rfl⟩
    | rintro _ _ ⟨_, rfl, rfl⟩
    | rintro _ _ ⟨_, hi64, hnum, rfl, rfl⟩
    | ((fail_if_success refine G.tr ?_); exact G.prop S.p)
    | fail) <;> (try simp only [WKb, WKh, ↓reduceIte, Nat.reduceEqDiff, hws, hcd, hn2s, hid, hb1s]))))
            all_goals
              refine fin0 _ hR ?_
              ((try clear hK) <;> (try simp only [WKe, ↓reduceIte, reduceCtorEq, Int.reduceEq, *]) <;> repeat (first | with_reducible exact EntR.done | refine S.e ?_ | (refine S.f ?_ <;> (try simp only [WKe, ↓reduceIte, reduceCtorEq, Int.reduceEq, *])) | with_reducible apply EntR.ex | refine EntR.drop (F := F) ?_ | refine EntR.drop ?_))
          | true =>
            obtain ⟨c, hc⟩ : ∃ c, numA (ix ws 0).d = some c := Option.isSome_iff_exists.1 hb1s
            by_cases hlen : (ws.length : Int) = 3 + argsA no
            · have hsubc : ∀ n : Int, (∀ m, numA (ix ws 0).d = some m → n = m) → n = c := fun n h => h c hc
              ((try simp only [WKb, WKt]) <;> (repeat' ((first
    | (refine G.tr ?_; first | ((fail_if_success have := hdonc); have hdonc := hsubc _ (by assumption); subst hdonc) | ((fail_if_success have := hdone); have hdone := hsub _ (by assumption); subst hdone) | refine S.a ?_ | refine S.t ?_ | refine Tr.brK ?_ ?_ | (refine G.call 98 ?_; refine S.c ?_ (h := wordsR_ok ?_)) | (refine G.call 53 ?_; refine S.c ?_ (h := number10_ok ?_)) | (refine G.call 108 ?_; refine S.c ?_ (h := numberR_ok)) | (refine G.call 59 ?_; refine S.c ?_ (h := isR_ok)) | (refine G.call 104 ?_; refine S.c ?_ (h := argsR_ok)) | refine S.n fun _ => ?_ | refine S.i fun hix => ?_ | (refine S.g fun hb => ?_; (try simp only [hb])) | (refine S.s (fun hb => ?_) (fun hb => ?_) <;> ((try simp only [hb]) <;> (try (have hp := hb; simp only [WKs] at hp; (try have hq := Int.not_le.2 hp); (try have hq := Int.not_lt.2 hp))))))
    | rintro _ _ ⟨rfl, rfl⟩
    | rintro _ _ ⟨_, rfl, rfl⟩
    | rintro _ _ ⟨_, hi64, hnum, rfl, rfl⟩
    | ((fail_if_success refine G.tr ?_); exact G.prop S.p)
    | fail) <;> (try simp only [WKb, WKh, ↓reduceIte, Nat.reduceEqDiff, hws, hcd, hn2s, hid, hb1s, hwr]))))
              have hrl4 : rest.length ≤ 4 := by omega
              refine Tr.loopE (α := Nat) [3, 12] [2, 4, 5, 7, 8, 11] (fun i => [.int .i64 0, .int .i64 ((3 + i : Nat) : Int)]) (fun i => [sl false _ ws, sl false _ [fieldN rest i 0, fieldN rest i 1, fieldN rest i 2, fieldN rest i 3]]) (fun i => i ≤ rest.length ∧ ∀ j : Nat, j < i → (numA (ix rest (j : Int)).d).isSome = true) (fun i => rest.length - i) 0 (by (repeat (first | exact TakeL.nil | (apply TakeL.cons; focus ((first | exact TakeA.dupS | exact TakeA.dupF | ((repeat (first | with_reducible exact TakeA.here | exact TakeA.fam (by omega) (by omega) | with_reducible apply TakeA.next)); done) | ((repeat (first | exact TakeA.here | apply TakeA.next)); done) | exact TakeA.famNil | exact TakeA.nilS))) | fail)); done) rfl ⟨Nat.zero_le _, fun j hj => absurd hj (Nat.not_lt_zero _)⟩ fun i u hx => ?_
              obtain ⟨hi, hsome⟩ := hx
              have hw : IntKind.i64.wrap (((3 + i : Nat) : Int) + 1) = ((3 + (i + 1) : Nat) : Int) := by rw [wrapId (by omega) (by omega)]; omega
              have hw2 : IntKind.i64.wrap (((3 + i : Nat) : Int) - 3) = (i : Int) := by rw [wrapId (by omega) (by omega)]; omega
              have hxw : ix ws ((3 + i : Nat) : Int) = ix rest (i : Int) := by rw [← hrest, ix_from]
              have hbi : (ix rest (i : Int)).d.length ≤ 1000000 := by rw [← hxw]; exact hsm _
              by_cases hin : i < rest.length
              · cases his : (numA (ix rest (i : Int)).d).isSome with
                | false =>
                  have hR := readA_none hca1 hca2 fun hg => by
                    have := hg.2 i hin
                    rw [this] at his; cases his
                  ((try simp only [WKb, ↓reduceIte, Nat.reduceEqDiff]) <;> (repeat' ((first
    | (refine G.tr ?_; first | refine S.a ?_ | refine S.t ?_ | refine Tr.brK ?_ ?_ | (refine G.call 98 ?_; refine S.c ?_ (h := wordsR_ok ?_)) | (refine G.call 53 ?_; refine S.c ?_ (h := number10_ok ?_)) | (refine G.call 108 ?_; refine S.c ?_ (h := numberR_ok)) | (refine G.call 59 ?_; refine S.c ?_ (h := isR_ok)) | (refine G.call 104 ?_; refine S.c ?_ (h := argsR_ok)) | refine S.n fun _ => ?_ | refine S.i fun hix => ?_ | (refine S.g fun hb => ?_; (try simp only [hb])) | (refine S.s (fun hb => ?_) (fun hb => ?_) <;> ((try simp only [hb]) <;> (try (have hp := hb; simp only [WKs] at hp; (try have hq := Int.not_le.2 hp); (try have hq := Int.not_lt.2 hp))))))
    | rintro _ _ ⟨rfl, rfl⟩
    | rintro _ _ ⟨_, rfl, rfl⟩
    | rintro _ _ ⟨_, hi64, hnum, rfl, rfl⟩
    | ((fail_if_success refine G.tr ?_); exact G.prop S.p)
    | fail) <;> (try simp only [WKb, ↓reduceIte, Nat.reduceEqDiff, hxw, his]))))
                  all_goals
                    refine fin0 _ hR ?_
                    ((try clear hK) <;> (try simp only [WKe, ↓reduceIte, reduceCtorEq, Int.reduceEq, *]) <;> repeat (first | with_reducible exact EntR.done | refine S.e ?_ | (refine S.f ?_ <;> (try simp only [WKe, ↓reduceIte, reduceCtorEq, Int.reduceEq, *])) | with_reducible apply EntR.ex | refine EntR.drop (F := F) ?_ | refine EntR.drop ?_))
                | true =>
                  have hset : [fieldN rest i 0, fieldN rest i 1, fieldN rest i 2, fieldN rest i 3].set ((i : Nat) : Int).toNat (nthN rest i) = [fieldN rest (i + 1) 0, fieldN rest (i + 1) 1, fieldN rest (i + 1) 2, fieldN rest (i + 1) 3] := by rw [Int.toNat_natCast]; exact fields_set (by omega)
                  have hset2 := fields_set (rest := rest) (i := i) (by omega)
                  have hsome' : ∀ j : Nat, j < i + 1 → (numA (ix rest (j : Int)).d).isSome = true := fun j hj => by
                    by_cases hji : j < i
                    · exact hsome j hji
                    · have : j = i := by omega
                      subst this; exact his
                  ((try simp only [WKb, ↓reduceIte, Nat.reduceEqDiff]) <;> (repeat' ((first
    | (refine G.tr ?_; first | refine S.a ?_ | refine S.t ?_ | refine Tr.brK ?_ ?_ | (refine G.call 98 ?_; refine S.c ?_ (h := wordsR_ok ?_)) | (refine G.call 53 ?_; refine S.c ?_ (h := number10_ok ?_)) | (refine G.call 108 ?_; refine S.c ?_ (h := numberR_ok)) | (refine G.call 59 ?_; refine S.c ?_ (h := isR_ok)) | (refine G.call 104 ?_; refine S.c ?_ (h := argsR_ok)) | refine S.n fun _ => ?_ | refine S.i fun hix => ?_ | (refine S.g fun hb => ?_; (try simp only [hb])) | (refine S.s (fun hb => ?_) (fun hb => ?_) <;> ((try simp only [hb]) <;> (try (have hp := hb; simp only [WKs] at hp; (try have hq := Int.not_le.2 hp); (try have hq := Int.not_lt.2 hp))))))
    | rintro _ _ ⟨rfl, rfl⟩
    | rintro _ _ ⟨_, rfl, rfl⟩
    | rintro _ _ ⟨_, hi64, hnum, rfl, rfl⟩
    | ((fail_if_success refine G.tr ?_); exact G.prop S.p)
    | fail) <;> (try simp only [WKb, ↓reduceIte, Nat.reduceEqDiff, hw, hw2, hxw, his]))))
                  all_goals
                    rename_i nn
                    have e : nn = nthN rest i := by
                      unfold nthN
                      cases hj : numA (ix rest (i : Int)).d with
                      | none => rw [hj] at his; cases his
                      | some j => exact hnum j hj
                    subst e
                    clear hset
                    (apply Tr.againE (i + 1); (focus (simp only [WKb, ↓reduceIte, Nat.reduceEqDiff])); (focus ((try simp only [WKb, ↓reduceIte, Nat.reduceEqDiff]); (all_goals ((repeat (refine cons_eq (by first | rfl | ((try clear hK) <;> first | (simp [*, hset2]; done) | (simp [*, hset2]; omega) | (simp [*, hset2] <;> (try split) <;> simp_all <;> omega))) ?_)); rfl)); done)); (focus (first | omega | assumption | (simp only []; omega) | (refine ⟨by omega, by assumption⟩) | (simp only []; refine ⟨by omega, by assumption⟩) | ((try simp only []); (repeat' (first | omega | assumption | apply hsome' | refine And.intro ?_ ?_)); done))); (focus (first | omega | (simp only []; omega))); (focus (((try clear hK) <;> (try simp only [WKe, *]) <;> repeat (first | with_reducible exact EntR.done | refine S.e ?_ | (refine S.f ?_ <;> (try simp only [WKe, hset2, ↓reduceIte, reduceCtorEq, Int.reduceEq, *])) | with_reducible apply EntR.ex | refine EntR.drop (F := F) ?_ | refine EntR.drop ?_)))))
              · have hie : i = rest.length := by omega
                subst hie
                have hR := readA_some hc hca1 hca2 ⟨by omega, hsome⟩
                have hf := @field_all rest
                ((try simp only [WKb, ↓reduceIte, Nat.reduceEqDiff, hf]) <;> (repeat' ((first
    | (refine G.tr ?_; first | refine S.a ?_ | refine S.t ?_ | refine Tr.brK ?_ ?_ | (refine G.call 98 ?_; refine S.c ?_ (h := wordsR_ok ?_)) | (refine G.call 53 ?_; refine S.c ?_ (h := number10_ok ?_)) | (refine G.call 108 ?_; refine S.c ?_ (h := numberR_ok)) | (refine G.call 59 ?_; refine S.c ?_ (h := isR_ok)) | (refine G.call 104 ?_; refine S.c ?_ (h := argsR_ok)) | refine S.n fun _ => ?_ | refine S.i fun hix => ?_ | (refine S.g fun hb => ?_; (try simp only [hb])) | (refine S.s (fun hb => ?_) (fun hb => ?_) <;> ((try simp only [hb]) <;> (try (have hp := hb; simp only [WKs] at hp; (try have hq := Int.not_le.2 hp); (try have hq := Int.not_lt.2 hp))))))
    | rintro _ _ ⟨rfl, rfl⟩
    | rintro _ _ ⟨_, rfl, rfl⟩
    | rintro _ _ ⟨_, hi64, hnum, rfl, rfl⟩
    | ((fail_if_success refine G.tr ?_); exact G.prop S.p)
    | fail) <;> (try simp only [WKb, WKh, ↓reduceIte, Nat.reduceEqDiff, Nat.reduceAdd, pl74]))))
                all_goals
                  refine Tr.fin hK ⟨by rw [hR]; rfl, rfl⟩ ?_
                  ((try clear hK) <;> (try simp only [WKe, *]) <;> repeat (first | with_reducible exact EntR.done | refine S.e ?_ | (refine S.f ?_ <;> (try simp only [WKe, ↓reduceIte, reduceCtorEq, Int.reduceEq, *])) | with_reducible apply EntR.ex | refine EntR.drop (F := F) ?_ | refine EntR.drop ?_))
            · have hR := readA_none hca1 hca2 fun hg => hlen (by have := hg.1; omega)
              ((try simp only [WKb, WKt]) <;> (repeat' ((first
    | (refine G.tr ?_; first | ((fail_if_success have := hdone); have hdone := hsub _ (by assumption); subst hdone) | refine S.a ?_ | refine S.t ?_ | refine Tr.brK ?_ ?_ | (refine G.call 98 ?_; refine S.c ?_ (h := wordsR_ok ?_)) | (refine G.call 53 ?_; refine S.c ?_ (h := number10_ok ?_)) | (refine G.call 108 ?_; refine S.c ?_ (h := numberR_ok)) | (refine G.call 59 ?_; refine S.c ?_ (h := isR_ok)) | (refine G.call 104 ?_; refine S.c ?_ (h := argsR_ok)) | refine S.n fun _ => ?_ | refine S.i fun hix => ?_ | (refine S.g fun hb => ?_; (try simp only [hb])) | (refine S.s (fun hb => ?_) (fun hb => ?_) <;> ((try simp only [hb]) <;> (try (have hp := hb; simp only [WKs] at hp; (try have hq := Int.not_le.2 hp); (try have hq := Int.not_lt.2 hp))))))
    | rintro _ _ ⟨rfl, rfl⟩
    | rintro _ _ ⟨_, rfl, rfl⟩
    | rintro _ _ ⟨_, hi64, hnum, rfl, rfl⟩
    | ((fail_if_success refine G.tr ?_); exact G.prop S.p)
    | fail) <;> (try simp only [WKb, WKh, ↓reduceIte, Nat.reduceEqDiff, hws, hcd, hn2s, hid, hb1s, hwr]))))
              all_goals
                refine fin0 _ hR ?_
                ((try clear hK) <;> (try simp only [WKe, ↓reduceIte, reduceCtorEq, Int.reduceEq, *]) <;> repeat (first | with_reducible exact EntR.done | refine S.e ?_ | (refine S.f ?_ <;> (try simp only [WKe, ↓reduceIte, reduceCtorEq, Int.reduceEq, *])) | with_reducible apply EntR.ex | refine EntR.drop (F := F) ?_ | refine EntR.drop ?_))
    · obtain ⟨no, hno⟩ : ∃ no, numberA (ix ws 1).d = no := ⟨_, rfl⟩
      have hcn : (ix ws 1).d = [99, 97, 108, 108] → no = 0 := fun h => by rw [← hno, h]; exact call_word
      by_cases hz : no = 0
      · have hR : readA ws = none := by
          refine readA_none2 ?_
          by_cases hc : (ix ws 1).d = [99, 97, 108, 108]
          · have h0 : (ws.drop 1).drop 1 = [] := by
              rw [List.drop_drop]
              exact List.drop_eq_nil_of_le (by have : ¬ 2 < ws.length := fun h => hB ⟨hc, h⟩; omega)
            rw [callA_call (by rw [hx1]; exact hc), h0, ix_nil0, numA_nil]
          · rw [callA_name (by rw [hx1]; exact hc), hx1, hno, if_pos hz]
        by_cases hc : (ix ws 1).d = [99, 97, 108, 108]
        · have hB2 : ¬ (2 : Int) < ws.length := fun h => hB ⟨hc, by omega⟩
          have hcd : decide ((ix ws 1).d = [99, 97, 108, 108]) = true := decide_eq_true hc
          ((try simp only [WKb, WKt]) <;> (repeat' ((first
    | (refine G.tr ?_; first | refine S.a ?_ | refine S.t ?_ | refine Tr.brK ?_ ?_ | (refine G.call 98 ?_; refine S.c ?_ (h := wordsR_ok ?_)) | (refine G.call 53 ?_; refine S.c ?_ (h := number10_ok ?_)) | (refine G.call 108 ?_; refine S.c ?_ (h := numberR_ok)) | (refine G.call 59 ?_; refine S.c ?_ (h := isR_ok)) | (refine G.call 104 ?_; refine S.c ?_ (h := argsR_ok)) | refine S.n fun _ => ?_ | refine S.i fun hix => ?_ | (refine S.g fun hb => ?_; (try simp only [hb])) | (refine S.s (fun hb => ?_) (fun hb => ?_) <;> ((try simp only [hb]) <;> (try (have hp := hb; simp only [WKs] at hp; (try have hq := Int.not_le.2 hp); (try have hq := Int.not_lt.2 hp))))))
    | rintro _ _ ⟨rfl, rfl⟩
    | rintro _ _ ⟨_, rfl, rfl⟩
    | rintro _ _ ⟨_, hi64, hnum, rfl, rfl⟩
    | ((fail_if_success refine G.tr ?_); exact G.prop S.p)
    | fail) <;> (try simp only [WKb, WKh, ↓reduceIte, Nat.reduceEqDiff, hws, hcd, hno]))))
          all_goals
            refine fin0 _ hR ?_
            ((try clear hK) <;> (try simp only [WKe, ↓reduceIte, reduceCtorEq, Int.reduceEq, *]) <;> repeat (first | with_reducible exact EntR.done | refine S.e ?_ | (refine S.f ?_ <;> (try simp only [WKe, ↓reduceIte, reduceCtorEq, Int.reduceEq, *])) | with_reducible apply EntR.ex | refine EntR.drop (F := F) ?_ | refine EntR.drop ?_))
        · have hcd : decide ((ix ws 1).d = [99, 97, 108, 108]) = false := decide_eq_false hc
          ((try simp only [WKb, WKt]) <;> (repeat' ((first
    | (refine G.tr ?_; first | refine S.a ?_ | refine S.t ?_ | refine Tr.brK ?_ ?_ | (refine G.call 98 ?_; refine S.c ?_ (h := wordsR_ok ?_)) | (refine G.call 53 ?_; refine S.c ?_ (h := number10_ok ?_)) | (refine G.call 108 ?_; refine S.c ?_ (h := numberR_ok)) | (refine G.call 59 ?_; refine S.c ?_ (h := isR_ok)) | (refine G.call 104 ?_; refine S.c ?_ (h := argsR_ok)) | refine S.n fun _ => ?_ | refine S.i fun hix => ?_ | (refine S.g fun hb => ?_; (try simp only [hb])) | (refine S.s (fun hb => ?_) (fun hb => ?_) <;> ((try simp only [hb]) <;> (try (have hp := hb; simp only [WKs] at hp; (try have hq := Int.not_le.2 hp); (try have hq := Int.not_lt.2 hp))))))
    | rintro _ _ ⟨rfl, rfl⟩
    | rintro _ _ ⟨_, rfl, rfl⟩
    | rintro _ _ ⟨_, hi64, hnum, rfl, rfl⟩
    | ((fail_if_success refine G.tr ?_); exact G.prop S.p)
    | fail) <;> (try simp only [WKb, WKh, ↓reduceIte, Nat.reduceEqDiff, hws, hcd, hno]))))
          all_goals
            refine fin0 _ hR ?_
            ((try clear hK) <;> (try simp only [WKe, ↓reduceIte, reduceCtorEq, Int.reduceEq, *]) <;> repeat (first | with_reducible exact EntR.done | refine S.e ?_ | (refine S.f ?_ <;> (try simp only [WKe, ↓reduceIte, reduceCtorEq, Int.reduceEq, *])) | with_reducible apply EntR.ex | refine EntR.drop (F := F) ?_ | refine EntR.drop ?_))
      · have hc : ¬ (ix ws 1).d = [99, 97, 108, 108] := fun h => hz (hcn h)
        have hcd : decide ((ix ws 1).d = [99, 97, 108, 108]) = false := decide_eq_false hc
        have hca := callA_name (ws := ws.drop 1) (by rw [hx1]; exact hc)
        rw [hx1, hno, if_neg hz] at hca
        have hR1 : (numA (ix ws 0).d).isSome = false → readA ws = none := fun h => readA_none1 (by cases hj : numA (ix ws 0).d; rfl; rw [hj] at h; cases h)
        have hca1 : (callA (ws.drop 1)).1 = some no := by rw [hca]
        have hca2 : (callA (ws.drop 1)).2 = ws.drop 2 := by rw [hca]; simp only [List.drop_drop]
        have hA4 := argsA_le no
        have hwr : IntKind.i64.wrap (2 + argsA no) = 2 + argsA no := wrapId (by omega) (by omega)
        obtain ⟨rest, hrest⟩ : ∃ r, ws.drop 2 = r := ⟨_, rfl⟩
        rw [hrest] at hca2
        have hrl : rest.length = ws.length - 2 := by rw [← hrest, List.length_drop]
        clear hca
        cases hb1s : (numA (ix ws 0).d).isSome with
        | false =>
          have hR := hR1 hb1s
          ((try simp only [WKb, WKt]) <;> (repeat' ((first
    | (refine G.tr ?_; first | refine S.a ?_ | refine S.t ?_ | refine Tr.brK ?_ ?_ | (refine G.call 98 ?_; refine S.c ?_ (h := wordsR_ok ?_)) | (refine G.call 53 ?_; refine S.c ?_ (h := number10_ok ?_)) | (refine G.call 108 ?_; refine S.c ?_ (h := numberR_ok)) | (refine G.call 59 ?_; refine S.c ?_ (h := isR_ok)) | (refine G.call 104 ?_; refine S.c ?_ (h := argsR_ok)) | refine S.n fun _ => ?_ | refine S.i fun hix => ?_ | (refine S.g fun hb => ?_; (try simp only [hb])) | (refine S.s (fun hb => ?_) (fun hb => ?_) <;> ((try simp only [hb]) <;> (try (have hp := hb; simp only [WKs] at hp; (try have hq := Int.not_le.2 hp); (try have hq := Int.not_lt.2 hp))))))
    | rintro _ _ ⟨rfl, rfl⟩
    | rintro _ _ ⟨_, rfl, rfl⟩
    | rintro _ _ ⟨_, hi64, hnum, rfl, rfl⟩
    | ((fail_if_success refine G.tr ?_); exact G.prop S.p)
    | fail) <;> (try simp only [WKb, WKh, ↓reduceIte, Nat.reduceEqDiff, hws, hcd, hno, hb1s]))))
          all_goals
            refine fin0 _ hR ?_
            ((try clear hK) <;> (try simp only [WKe, ↓reduceIte, reduceCtorEq, Int.reduceEq, *]) <;> repeat (first | with_reducible exact EntR.done | refine S.e ?_ | (refine S.f ?_ <;> (try simp only [WKe, ↓reduceIte, reduceCtorEq, Int.reduceEq, *])) | with_reducible apply EntR.ex | refine EntR.drop (F := F) ?_ | refine EntR.drop ?_))
        | true =>
          obtain ⟨c, hc⟩ : ∃ c, numA (ix ws 0).d = some c := Option.isSome_iff_exists.1 hb1s
          by_cases hlen : (ws.length : Int) = 2 + argsA no
          · have hsubc : ∀ n : Int, (∀ m, numA (ix ws 0).d = some m → n = m) → n = c := fun n h => h c hc
            ((try simp only [WKb, WKt]) <;> (repeat' ((first
    | (refine G.tr ?_; first | ((fail_if_success have := hdonc); have hdonc := hsubc _ (by assumption); subst hdonc) | refine S.a ?_ | refine S.t ?_ | refine Tr.brK ?_ ?_ | (refine G.call 98 ?_; refine S.c ?_ (h := wordsR_ok ?_)) | (refine G.call 53 ?_; refine S.c ?_ (h := number10_ok ?_)) | (refine G.call 108 ?_; refine S.c ?_ (h := numberR_ok)) | (refine G.call 59 ?_; refine S.c ?_ (h := isR_ok)) | (refine G.call 104 ?_; refine S.c ?_ (h := argsR_ok)) | refine S.n fun _ => ?_ | refine S.i fun hix => ?_ | (refine S.g fun hb => ?_; (try simp only [hb])) | (refine S.s (fun hb => ?_) (fun hb => ?_) <;> ((try simp only [hb]) <;> (try (have hp := hb; simp only [WKs] at hp; (try have hq := Int.not_le.2 hp); (try have hq := Int.not_lt.2 hp))))))
    | rintro _ _ ⟨rfl, rfl⟩
    | rintro _ _ ⟨_, rfl, rfl⟩
    | rintro _ _ ⟨_, hi64, hnum, rfl, rfl⟩
    | ((fail_if_success refine G.tr ?_); exact G.prop S.p)
    | fail) <;> (try simp only [WKb, WKh, ↓reduceIte, Nat.reduceEqDiff, hws, hcd, hno, hb1s, hwr]))))
            have hrl4 : rest.length ≤ 4 := by omega
            refine Tr.loopE (α := Nat) [3, 12] [2, 4, 5, 7, 8, 11] (fun i => [.int .i64 0, .int .i64 ((2 + i : Nat) : Int)]) (fun i => [sl false _ ws, sl false _ [fieldN rest i 0, fieldN rest i 1, fieldN rest i 2, fieldN rest i 3]]) (fun i => i ≤ rest.length ∧ ∀ j : Nat, j < i → (numA (ix rest (j : Int)).d).isSome = true) (fun i => rest.length - i) 0 (by (repeat (first | exact TakeL.nil | (apply TakeL.cons; focus ((first | exact TakeA.dupS | exact TakeA.dupF | ((repeat (first | with_reducible exact TakeA.here | exact TakeA.fam (by omega) (by omega) | with_reducible apply TakeA.next)); done) | ((repeat (first | exact TakeA.here | apply TakeA.next)); done) | exact TakeA.famNil | exact TakeA.nilS))) | fail)); done) rfl ⟨Nat.zero_le _, fun j hj => absurd hj (Nat.not_lt_zero _)⟩ fun i u hx => ?_
            obtain ⟨hi, hsome⟩ := hx
            have hw : IntKind.i64.wrap (((2 + i : Nat) : Int) + 1) = ((2 + (i + 1) : Nat) : Int) := by rw [wrapId (by omega) (by omega)]; omega
            have hw2 : IntKind.i64.wrap (((2 + i : Nat) : Int) - 2) = (i : Int) := by rw [wrapId (by omega) (by omega)]; omega
            have hxw : ix ws ((2 + i : Nat) : Int) = ix rest (i : Int) := by rw [← hrest, ix_from]
            have hbi : (ix rest (i : Int)).d.length ≤ 1000000 := by rw [← hxw]; exact hsm _
            by_cases hin : i < rest.length
            · cases his : (numA (ix rest (i : Int)).d).isSome with
              | false =>
                have hR := readA_none hca1 hca2 fun hg => by
                  have := hg.2 i hin
                  rw [this] at his; cases his
                ((try simp only [WKb, ↓reduceIte, Nat.reduceEqDiff]) <;> (repeat' ((first
    | (refine G.tr ?_; first | refine S.a ?_ | refine S.t ?_ | refine Tr.brK ?_ ?_ | (refine G.call 98 ?_; refine S.c ?_ (h := wordsR_ok ?_)) | (refine G.call 53 ?_; refine S.c ?_ (h := number10_ok ?_)) | (refine G.call 108 ?_; refine S.c ?_ (h := numberR_ok)) | (refine G.call 59 ?_; refine S.c ?_ (h := isR_ok)) | (refine G.call 104 ?_; refine S.c ?_ (h := argsR_ok)) | refine S.n fun _ => ?_ | refine S.i fun hix => ?_ | (refine S.g fun hb => ?_; (try simp only [hb])) | (refine S.s (fun hb => ?_) (fun hb => ?_) <;> ((try simp only [hb]) <;> (try (have hp := hb; simp only [WKs] at hp; (try have hq := Int.not_le.2 hp); (try have hq := Int.not_lt.2 hp))))))
    | rintro _ _ ⟨rfl, rfl⟩
    | rintro _ _ ⟨_, rfl, rfl⟩
    | rintro _ _ ⟨_, hi64, hnum, rfl, rfl⟩
    | ((fail_if_success refine G.tr ?_); exact G.prop S.p)
    | fail) <;> (try simp only [WKb, ↓reduceIte, Nat.reduceEqDiff, hxw, his]))))
                all_goals
                  refine fin0 _ hR ?_
                  ((try clear hK) <;> (try simp only [WKe, ↓reduceIte, reduceCtorEq, Int.reduceEq, *]) <;> repeat (first | with_reducible exact EntR.done | refine S.e ?_ | (refine S.f ?_ <;> (try simp only [WKe, ↓reduceIte, reduceCtorEq, Int.reduceEq, *])) | with_reducible apply EntR.ex | refine EntR.drop (F := F) ?_ | refine EntR.drop ?_))
              | true =>
                have hset : [fieldN rest i 0, fieldN rest i 1, fieldN rest i 2, fieldN rest i 3].set ((i : Nat) : Int).toNat (nthN rest i) = [fieldN rest (i + 1) 0, fieldN rest (i + 1) 1, fieldN rest (i + 1) 2, fieldN rest (i + 1) 3] := by rw [Int.toNat_natCast]; exact fields_set (by omega)
                have hset2 := fields_set (rest := rest) (i := i) (by omega)
                have hsome' : ∀ j : Nat, j < i + 1 → (numA (ix rest (j : Int)).d).isSome = true := fun j hj => by
                  by_cases hji : j < i
                  · exact hsome j hji
                  · have : j = i := by omega
                    subst this; exact his
                ((try simp only [WKb, ↓reduceIte, Nat.reduceEqDiff]) <;> (repeat' ((first
    | (refine G.tr ?_; first | refine S.a ?_ | refine S.t ?_ | refine Tr.brK ?_ ?_ | (refine G.call 98 ?_; refine S.c ?_ (h := wordsR_ok ?_)) | (refine G.call 53 ?_; refine S.c ?_ (h := number10_ok ?_)) | (refine G.call 108 ?_; refine S.c ?_ (h := numberR_ok)) | (refine G.call 59 ?_; refine S.c ?_ (h := isR_ok)) | (refine G.call 104 ?_; refine S.c ?_ (h := argsR_ok)) | refine S.n fun _ => ?_ | refine S.i fun hix => ?_ | (refine S.g fun hb => ?_; (try simp only [hb])) | (refine S.s (fun hb => ?_) (fun hb => ?_) <;> ((try simp only [hb]) <;> (try (have hp := hb; simp only [WKs] at hp; (try have hq := Int.not_le.2 hp); (try have hq := Int.not_lt.2 hp))))))
    | rintro _ _ ⟨rfl, rfl⟩
    | rintro _ _ ⟨_, rfl, rfl⟩
    | rintro _ _ ⟨_, hi64, hnum, rfl, rfl⟩
    | ((fail_if_success refine G.tr ?_); exact G.prop S.p)
    | fail) <;> (try simp only [WKb, ↓reduceIte, Nat.reduceEqDiff, hw, hw2, hxw, his]))))
                all_goals
                  rename_i nn
                  have e : nn = nthN rest i := by
                    unfold nthN
                    cases hj : numA (ix rest (i : Int)).d with
                    | none => rw [hj] at his; cases his
                    | some j => exact hnum j hj
                  subst e
                  clear hset
                  (apply Tr.againE (i + 1); (focus (simp only [WKb, ↓reduceIte, Nat.reduceEqDiff])); (focus ((try simp only [WKb, ↓reduceIte, Nat.reduceEqDiff]); (all_goals ((repeat (refine cons_eq (by first | rfl | ((try clear hK) <;> first | (simp [*, hset2]; done) | (simp [*, hset2]; omega) | (simp [*, hset2] <;> (try split) <;> simp_all <;> omega))) ?_)); rfl)); done)); (focus (first | omega | assumption | (simp only []; omega) | (refine ⟨by omega, by assumption⟩) | (simp only []; refine ⟨by omega, by assumption⟩) | ((try simp only []); (repeat' (first | omega | assumption | apply hsome' | refine And.intro ?_ ?_)); done))); (focus (first | omega | (simp only []; omega))); (focus (((try clear hK) <;> (try simp only [WKe, *]) <;> repeat (first | with_reducible exact EntR.done | refine S.e ?_ | (refine S.f ?_ <;> (try simp only [WKe, hset2, ↓reduceIte, reduceCtorEq, Int.reduceEq, *])) | with_reducible apply EntR.ex | refine EntR.drop (F := F) ?_ | refine EntR.drop ?_)))))
            · have hie : i = rest.length := by omega
              subst hie
              have hR := readA_some hc hca1 hca2 ⟨by omega, hsome⟩
              have hf := @field_all rest
              ((try simp only [WKb, ↓reduceIte, Nat.reduceEqDiff, hf]) <;> (repeat' ((first
    | (refine G.tr ?_; first | refine S.a ?_ | refine S.t ?_ | refine Tr.brK ?_ ?_ | (refine G.call 98 ?_; refine S.c ?_ (h := wordsR_ok ?_)) | (refine G.call 53 ?_; refine S.c ?_ (h := number10_ok ?_)) | (refine G.call 108 ?_; refine S.c ?_ (h := numberR_ok)) | (refine G.call 59 ?_; refine S.c ?_ (h := isR_ok)) | (refine G.call 104 ?_; refine S.c ?_ (h := argsR_ok)) | refine S.n fun _ => ?_ | refine S.i fun hix => ?_ | (refine S.g fun hb => ?_; (try simp only [hb])) | (refine S.s (fun hb => ?_) (fun hb => ?_) <;> ((try simp only [hb]) <;> (try (have hp := hb; simp only [WKs] at hp; (try have hq := Int.not_le.2 hp); (try have hq := Int.not_lt.2 hp))))))
    | rintro _ _ ⟨rfl, rfl⟩
    | rintro _ _ ⟨_, rfl, rfl⟩
    | rintro _ _ ⟨_, hi64, hnum, rfl, rfl⟩
    | ((fail_if_success refine G.tr ?_); exact G.prop S.p)
    | fail) <;> (try simp only [WKb, WKh, ↓reduceIte, Nat.reduceEqDiff, Nat.reduceAdd, pl74]))))
              all_goals
                refine Tr.fin hK ⟨by rw [hR]; rfl, rfl⟩ ?_
                ((try clear hK) <;> (try simp only [WKe, *]) <;> repeat (first | with_reducible exact EntR.done | refine S.e ?_ | (refine S.f ?_ <;> (try simp only [WKe, ↓reduceIte, reduceCtorEq, Int.reduceEq, *])) | with_reducible apply EntR.ex | refine EntR.drop (F := F) ?_ | refine EntR.drop ?_))
          · have hR := readA_none hca1 hca2 fun hg => hlen (by have := hg.1; omega)
            ((try simp only [WKb, WKt]) <;> (repeat' ((first
    | (refine G.tr ?_; first | refine S.a ?_ | refine S.t ?_ | refine Tr.brK ?_ ?_ | (refine G.call 98 ?_; refine S.c ?_ (h := wordsR_ok ?_)) | (refine G.call 53 ?_; refine S.c ?_ (h := number10_ok ?_)) | (refine G.call 108 ?_; refine S.c ?_ (h := numberR_ok)) | (refine G.call 59 ?_; refine S.c ?_ (h := isR_ok)) | (refine G.call 104 ?_; refine S.c ?_ (h := argsR_ok)) | refine S.n fun _ => ?_ | refine S.i fun hix => ?_ | (refine S.g fun hb => ?_; (try simp only [hb])) | (refine S.s (fun hb => ?_) (fun hb => ?_) <;> ((try simp only [hb]) <;> (try (have hp := hb; simp only [WKs] at hp; (try have hq := Int.not_le.2 hp); (try have hq := Int.not_lt.2 hp))))))
    | rintro _ _ ⟨rfl, rfl⟩
    | rintro _ _ ⟨_, rfl, rfl⟩
    | rintro _ _ ⟨_, hi64, hnum, rfl, rfl⟩
    | ((fail_if_success refine G.tr ?_); exact G.prop S.p)
    | fail) <;> (try simp only [WKb, WKh, ↓reduceIte, Nat.reduceEqDiff, hws, hcd, hno, hb1s, hwr]))))
            all_goals
              refine fin0 _ hR ?_
              ((try clear hK) <;> (try simp only [WKe, ↓reduceIte, reduceCtorEq, Int.reduceEq, *]) <;> repeat (first | with_reducible exact EntR.done | refine S.e ?_ | (refine S.f ?_ <;> (try simp only [WKe, ↓reduceIte, reduceCtorEq, Int.reduceEq, *])) | with_reducible apply EntR.ex | refine EntR.drop (F := F) ?_ | refine EntR.drop ?_))

end Go.Proofs.YtgkhjgpgdfbdpaaDoor
