import Derived.Test.YtlhmbcmkpafjoaaDoorXM
namespace Go.Proofs.YtlhmbcmkpafjoaaDoor
open Go Go.Wk
set_option maxHeartbeats 6400000
set_option maxRecDepth 100000
theorem stepEq {P : Program} {T : Nat} {K : Value → WP} [IntsT P T 6] {x y : Operand} {s t : StepC} : BinK P .eql T x y (.agg (En.enc s).toArray) (.agg (En.enc t).toArray) K = K (.bool (decide (s = t))) := by
  obtain ⟨a1, a2, a3, a4, a5, a6⟩ := s
  obtain ⟨b1, b2, b3, b4, b5, b6⟩ := t
  have h : ([a1, a2, a3, a4, a5, a6] = [b1, b2, b3, b4, b5, b6]) = ((⟨a1, a2, a3, a4, a5, a6⟩ : StepC) = ⟨b1, b2, b3, b4, b5, b6⟩) := by simp
  refine (BinK_ints (P := P) (T := T) (K := K) (x := x) (y := y) (k := .i64) (xs := [a1, a2, a3, a4, a5, a6]) (ys := [b1, b2, b3, b4, b5, b6]) rfl rfl).trans ?_
  simp only [h]
theorem stepEqL {P : Program} {T : Nat} {K : Value → WP} [IntsT P T 6] {x y : Operand} {s : StepC} {b1 b2 b3 b4 b5 b6 : Int} : BinK P .eql T x y (.agg (En.enc s).toArray) (.agg [.int .i64 b1, .int .i64 b2, .int .i64 b3, .int .i64 b4, .int .i64 b5, .int .i64 b6].toArray) K = K (.bool (decide (s = ⟨b1, b2, b3, b4, b5, b6⟩))) := stepEq (s := s) (t := ⟨b1, b2, b3, b4, b5, b6⟩)
theorem stepSets : (∀ c k a b e d x : Int, (En.enc (StepC.mk c k a b e d)).set 2 (.int .i64 x) = En.enc (StepC.mk c k x b e d)) ∧ (∀ c k a b e d x : Int, (En.enc (StepC.mk c k a b e d)).set 3 (.int .i64 x) = En.enc (StepC.mk c k a x e d)) ∧
    (∀ c k a b e d x : Int, (En.enc (StepC.mk c k a b e d)).set 4 (.int .i64 x) = En.enc (StepC.mk c k a b x d)) ∧ (∀ c k a b e d x : Int, (En.enc (StepC.mk c k a b e d)).set 5 (.int .i64 x) = En.enc (StepC.mk c k a b e x)) := ⟨fun _ _ _ _ _ _ _ => rfl, fun _ _ _ _ _ _ _ => rfl, fun _ _ _ _ _ _ _ => rfl, fun _ _ _ _ _ _ _ => rfl⟩
theorem errS_some {x : StepC} : errS (some x) = x := nr rfl
theorem errN_some {x : StepC} : errN (some x) = 0 := nr rfl



attribute [local irreducible] BrK GenK EGenK EUnitK CallK FnK CallV GuardO GuardC CondW opX opK opKc chkR eqR seqK blkK endL WL WD W LoopW BinK Tr drewK resL PickK NotK NilK ExtrK getK Instr.storeAt Instr.loadAt Instr.fieldAt Instr.indexAt Instr.lookup Instr.mapUpdate Instr.box Instr.alloc Instr.build Instr.buildSlice Instr.makeSlice Instr.makeMap Instr.sliceAt Instr.field Instr.index Instr.makeInterface Instr.typeAssert Builtin.len_ Builtin.append_ Builtin.cap_ Builtin.min_ Builtin.max_ Builtin.copy_ Builtin.clear_ convert binOp mp blk rob sl sep ex fact old
attribute [local irreducible] NegK mxV
theorem works22_ok {m : Int} : Trip Tryd.prog 7 [].toArray [mxB m] fun v l' => v = .bool true ∧ l' = [] := by
  intro F K hK
  simp only [List.cons_append, List.nil_append]
  have h1 : readA (wordsS [53, 32, 115, 101, 110, 100, 32, 48, 32, 49, 54, 32, 52, 32, 45, 49]) = some workS := work_read
  have h2 : printA workS = [53, 32, 115, 101, 110, 100, 32, 48, 32, 49, 54, 32, 52, 32, 45, 49] := work_print
  have h3 : workS.ok := workS_ok
  have h5 : decide (workS = ⟨5, 11, 0, 16, 4, -1⟩) = true := rfl
  have h6 := name_one
  have hl : ([53, 32, 115, 101, 110, 100, 32, 48, 32, 49, 54, 32, 52, 32, 45, 49] : List UInt8).length ≤ 1000000 := by decide
  (refine Tr.enter (rs := [.tmp 0]) mixed fn7 rfl (by simp +arith [Tryd.ntmps7]) fun u => ?_; simp only [cd7, Tryd.f7])
  ((try simp only [WKb, WKt]) <;> (repeat' ((first
    | (refine G.tr ?_; first | refine S.a ?_ | refine S.t ?_ | refine Tr.brK ?_ ?_ | (refine G.call 8 ?_; refine S.c ?_ (h := read_ok ?_)) | (refine G.call 10 ?_; refine S.c ?_ (h := print_ok ?_)) | (refine G.call 15 ?_; refine S.c ?_ (h := name_ok)) | refine S.n fun _ => ?_ | refine S.i fun hix => ?_ | (refine S.g fun hb => ?_; (try simp only [hb])) | (refine S.s (fun hb => ?_) (fun hb => ?_) <;> ((try simp only [hb]) <;> (try (have hp := hb; simp only [WKs] at hp; (try have hq := Int.not_le.2 hp); (try have hq := Int.not_lt.2 hp))))))
    | rintro _ _ ⟨rfl, rfl⟩
    | ((fail_if_success refine G.tr ?_); exact G.prop S.p)
    | fail) <;> (try simp only [WKb, WKh, ↓reduceIte, Nat.reduceEqDiff, Nat.reduceAdd, stepEqL, errS_some, errN_some, h1, h2, h5, h6]))))
  all_goals
    refine Tr.fin hK ⟨rfl, rfl⟩ ?_
    ((try clear hK) <;> (try simp only [WKe, *]) <;> repeat (first | with_reducible exact EntR.done | refine S.e ?_ | (refine S.f ?_ <;> (try simp only [WKe, ↓reduceIte, reduceCtorEq, Int.reduceEq, *])) | with_reducible apply EntR.ex | refine EntR.drop (F := F) ?_ | refine EntR.drop ?_))

theorem kinds22_ok {no : Int} {name : List UInt8} {m : Int} : Trip Tryd.prog 6 [.int .i64 no, .string (bstr name)].toArray [mxB m] fun v l' => v = .bool true ∧ l' = [] := by
  intro F K hK
  simp only [List.cons_append, List.nil_append]
  (refine Tr.enter (rs := [.tmp 4]) mixed fn6 rfl (by simp +arith [Tryd.ntmps6]) fun u => ?_; simp only [cd6, Tryd.f6])
  by_cases h : name.length ≤ 100
  · ((try simp only [WKb, ↓reduceIte, Nat.reduceEqDiff, Nat.reduceAdd, WKt]) <;> (repeat' ((first
    | (refine G.tr ?_; first | refine S.a ?_ | refine S.t ?_ | refine Tr.brK ?_ ?_ | (refine G.call 7 ?_; refine S.c ?_ (h := works22_ok)) | (refine G.call 13 ?_; refine S.c ?_ (h := is_ok)) | (refine G.call 14 ?_; refine S.c ?_ (h := isR_ok)) | (refine G.call 15 ?_; refine S.c ?_ (h := name_ok)) | (refine G.call 16 ?_; refine S.c ?_ (h := nameR_ok)) | (refine G.call 17 ?_; refine S.c ?_ (h := args_ok)) | (refine G.call 12 ?_; refine S.c ?_ (h := argsR_ok)) | (refine G.call 18 ?_; refine S.c ?_ (h := timed_ok)) | (refine G.call 19 ?_; refine S.c ?_ (h := timedR_ok)) | (refine G.call 20 ?_; refine S.c ?_ (h := number_of_ok)) | (refine G.call 21 ?_; refine S.c ?_ (h := numberR_ok)) | refine S.n fun _ => ?_ | refine S.i fun hix => ?_ | (refine S.g fun hb => ?_; (try simp only [hb])) | (refine S.s (fun hb => ?_) (fun hb => ?_) <;> ((try simp only [hb]) <;> (try (have hp := hb; simp only [WKs] at hp; (try have hq := Int.not_le.2 hp); (try have hq := Int.not_lt.2 hp))))))
    | rintro _ _ ⟨rfl, rfl⟩
    | ((fail_if_success refine G.tr ?_); exact G.prop S.p)
    | fail) <;> (try simp only [WKb, WKh, ↓reduceIte, Nat.reduceEqDiff]))))
    all_goals
      refine Tr.fin hK ⟨rfl, rfl⟩ ?_
      ((try clear hK) <;> (try simp only [WKe, *]) <;> repeat (first | with_reducible exact EntR.done | refine S.e ?_ | (refine S.f ?_ <;> (try simp only [WKe, ↓reduceIte, reduceCtorEq, Int.reduceEq, *])) | with_reducible apply EntR.ex | refine EntR.drop (F := F) ?_ | refine EntR.drop ?_))
  · have h' : (100 : Int) < name.length := by omega
    ((try simp only [WKb, ↓reduceIte, Nat.reduceEqDiff, Nat.reduceAdd, WKt]) <;> (repeat' ((first
    | (refine G.tr ?_; first | refine S.a ?_ | refine S.t ?_ | refine Tr.brK ?_ ?_ | (refine G.call 7 ?_; refine S.c ?_ (h := works22_ok)) | (refine G.call 13 ?_; refine S.c ?_ (h := is_ok)) | (refine G.call 14 ?_; refine S.c ?_ (h := isR_ok)) | (refine G.call 15 ?_; refine S.c ?_ (h := name_ok)) | (refine G.call 16 ?_; refine S.c ?_ (h := nameR_ok)) | (refine G.call 17 ?_; refine S.c ?_ (h := args_ok)) | (refine G.call 12 ?_; refine S.c ?_ (h := argsR_ok)) | (refine G.call 18 ?_; refine S.c ?_ (h := timed_ok)) | (refine G.call 19 ?_; refine S.c ?_ (h := timedR_ok)) | (refine G.call 20 ?_; refine S.c ?_ (h := number_of_ok)) | (refine G.call 21 ?_; refine S.c ?_ (h := numberR_ok)) | refine S.n fun _ => ?_ | refine S.i fun hix => ?_ | (refine S.g fun hb => ?_; (try simp only [hb])) | (refine S.s (fun hb => ?_) (fun hb => ?_) <;> ((try simp only [hb]) <;> (try (have hp := hb; simp only [WKs] at hp; (try have hq := Int.not_le.2 hp); (try have hq := Int.not_lt.2 hp))))))
    | rintro _ _ ⟨rfl, rfl⟩
    | ((fail_if_success refine G.tr ?_); exact G.prop S.p)
    | fail) <;> (try simp only [WKb, ↓reduceIte]))))
    all_goals
      refine Tr.fin hK ⟨rfl, rfl⟩ ?_
      ((try clear hK) <;> (try simp only [WKe, *]) <;> repeat (first | with_reducible exact EntR.done | refine S.e ?_ | (refine S.f ?_ <;> (try simp only [WKe, ↓reduceIte, reduceCtorEq, Int.reduceEq, *])) | with_reducible apply EntR.ex | refine EntR.drop (F := F) ?_ | refine EntR.drop ?_))
theorem texts22_ok {u0 : Value} {s : StepC} [hd : DeA u0 s] {text : List UInt8} {m : Int} (hs : s.ok) : Trip Tryd.prog 3 [u0, .string (bstr text)].toArray [mxB m] fun v l' => v = .bool true ∧ l' = [] := by
  obtain rfl := hd.h
  intro F K hK
  simp only [List.cons_append, List.nil_append]
  (refine Tr.enter (rs := [.tmp 4]) mixed fn3 rfl (by simp +arith [Tryd.ntmps3]) fun u => ?_; simp only [cd3, Tryd.f3])
  by_cases h : text.length ≤ 300
  · ((try simp only [WKb, ↓reduceIte, Nat.reduceEqDiff, Nat.reduceAdd]) <;> (repeat' ((first
    | (refine G.tr ?_; first | refine S.a ?_ | refine S.t ?_ | refine Tr.brK ?_ ?_ | (refine G.call 7 ?_; refine S.c ?_ (h := works22_ok)) | (refine G.call 8 ?_; refine S.c ?_ (h := read_ok ?_)) | (refine G.call 9 ?_; refine S.c ?_ (h := readR_ok ?_)) | (refine G.call 10 ?_; refine S.c ?_ (h := print_ok ?_)) | (refine G.call 11 ?_; refine S.c ?_ (h := printR_ok ?_)) | refine S.n fun _ => ?_ | refine S.i fun hix => ?_ | (refine S.g fun hb => ?_; (try simp only [hb])) | (refine S.s (fun hb => ?_) (fun hb => ?_) <;> ((try simp only [hb]) <;> (try (have hp := hb; simp only [WKs] at hp; (try have hq := Int.not_le.2 hp); (try have hq := Int.not_lt.2 hp))))))
    | rintro _ _ ⟨rfl, rfl⟩
    | ((fail_if_success refine G.tr ?_); exact G.prop S.p)
    | fail) <;> (try simp only [WKb, WKh, ↓reduceIte, Nat.reduceEqDiff, WKt, stepEq, pl3]))))
    all_goals
      refine Tr.fin hK ⟨rfl, rfl⟩ ?_
      ((try clear hK) <;> (try simp only [WKe, *]) <;> repeat (first | with_reducible exact EntR.done | refine S.e ?_ | (refine S.f ?_ <;> (try simp only [WKe, ↓reduceIte, reduceCtorEq, Int.reduceEq, *])) | with_reducible apply EntR.ex | refine EntR.drop (F := F) ?_ | refine EntR.drop ?_))
  · have h' : (300 : Int) < text.length := by omega
    ((try simp only [WKb, ↓reduceIte, Nat.reduceEqDiff, Nat.reduceAdd]) <;> (repeat' ((first
    | (refine G.tr ?_; first | refine S.a ?_ | refine S.t ?_ | refine Tr.brK ?_ ?_ | (refine G.call 7 ?_; refine S.c ?_ (h := works22_ok)) | (refine G.call 8 ?_; refine S.c ?_ (h := read_ok ?_)) | (refine G.call 9 ?_; refine S.c ?_ (h := readR_ok ?_)) | (refine G.call 10 ?_; refine S.c ?_ (h := print_ok ?_)) | (refine G.call 11 ?_; refine S.c ?_ (h := printR_ok ?_)) | refine S.n fun _ => ?_ | refine S.i fun hix => ?_ | (refine S.g fun hb => ?_; (try simp only [hb])) | (refine S.s (fun hb => ?_) (fun hb => ?_) <;> ((try simp only [hb]) <;> (try (have hp := hb; simp only [WKs] at hp; (try have hq := Int.not_le.2 hp); (try have hq := Int.not_lt.2 hp))))))
    | rintro _ _ ⟨rfl, rfl⟩
    | ((fail_if_success refine G.tr ?_); exact G.prop S.p)
    | fail) <;> (try simp only [WKb, ↓reduceIte, Nat.reduceEqDiff, WKt]))))
    all_goals
      refine Tr.fin hK ⟨rfl, rfl⟩ ?_
      ((try clear hK) <;> (try simp only [WKe, *]) <;> repeat (first | with_reducible exact EntR.done | refine S.e ?_ | (refine S.f ?_ <;> (try simp only [WKe, ↓reduceIte, reduceCtorEq, Int.reduceEq, *])) | with_reducible apply EntR.ex | refine EntR.drop (F := F) ?_ | refine EntR.drop ?_))
theorem once22_ok {text : List UInt8} {m : Int} : Trip Tryd.prog 5 [.string (bstr text)].toArray [mxB m] fun v l' => v = .bool true ∧ l' = [] := by
  intro F K hK
  simp only [List.cons_append, List.nil_append]
  (refine Tr.enter (rs := [.tmp 2]) mixed fn5 rfl (by simp +arith [Tryd.ntmps5]) fun u => ?_; simp only [cd5, Tryd.f5])
  by_cases h : text.length ≤ 300
  · cases hr : readA (wordsS text) with
    | none =>
      have h1 : errN (none : Option StepC) = 13 := rfl
      have h2 : decide (errS none = ⟨0, 0, 0, 0, 0, 0⟩) = true := rfl
      ((try simp only [WKb, ↓reduceIte, Nat.reduceEqDiff, WKt]) <;> (repeat' ((first
    | (refine G.tr ?_; first | refine S.a ?_ | refine S.t ?_ | refine Tr.brK ?_ ?_ | (refine G.call 7 ?_; refine S.c ?_ (h := works22_ok)) | (refine G.call 8 ?_; refine S.c ?_ (h := read_ok ?_)) | (refine G.call 10 ?_; refine S.c ?_ (h := print_ok ?_)) | refine S.n fun _ => ?_ | refine S.i fun hix => ?_ | (refine S.g fun hb => ?_; (try simp only [hb])) | (refine S.s (fun hb => ?_) (fun hb => ?_) <;> ((try simp only [hb]) <;> (try (have hp := hb; simp only [WKs] at hp; (try have hq := Int.not_le.2 hp); (try have hq := Int.not_lt.2 hp))))))
    | rintro _ _ ⟨rfl, rfl⟩
    | ((fail_if_success refine G.tr ?_); exact G.prop S.p)
    | fail) <;> (try simp only [WKb, ↓reduceIte, Nat.reduceEqDiff, Int.reduceEq, stepEqL, hr, h1, h2]))))
      all_goals
        refine Tr.fin hK ⟨rfl, rfl⟩ ?_
        ((try clear hK) <;> (try simp only [WKe, *]) <;> repeat (first | with_reducible exact EntR.done | refine S.e ?_ | (refine S.f ?_ <;> (try simp only [WKe, ↓reduceIte, reduceCtorEq, Int.reduceEq, *])) | with_reducible apply EntR.ex | refine EntR.drop (F := F) ?_ | refine EntR.drop ?_))
    | some s =>
      obtain ⟨hs, hp⟩ := print_read hr
      ((try simp only [WKb, ↓reduceIte, Nat.reduceEqDiff, WKt]) <;> (repeat' ((first
    | (refine G.tr ?_; first | refine S.a ?_ | refine S.t ?_ | refine Tr.brK ?_ ?_ | (refine G.call 7 ?_; refine S.c ?_ (h := works22_ok)) | (refine G.call 8 ?_; refine S.c ?_ (h := read_ok ?_)) | (refine G.call 10 ?_; refine S.c ?_ (h := print_ok ?_)) | refine S.n fun _ => ?_ | refine S.i fun hix => ?_ | (refine S.g fun hb => ?_; (try simp only [hb])) | (refine S.s (fun hb => ?_) (fun hb => ?_) <;> ((try simp only [hb]) <;> (try (have hp := hb; simp only [WKs] at hp; (try have hq := Int.not_le.2 hp); (try have hq := Int.not_lt.2 hp))))))
    | rintro _ _ ⟨rfl, rfl⟩
    | ((fail_if_success refine G.tr ?_); exact G.prop S.p)
    | fail) <;> (try simp only [WKb, WKh, ↓reduceIte, Nat.reduceEqDiff, errS_some, errN_some, hr, hp]))))
      all_goals
        refine Tr.fin hK ⟨rfl, rfl⟩ ?_
        ((try clear hK) <;> (try simp only [WKe, *]) <;> repeat (first | with_reducible exact EntR.done | refine S.e ?_ | (refine S.f ?_ <;> (try simp only [WKe, ↓reduceIte, reduceCtorEq, Int.reduceEq, *])) | with_reducible apply EntR.ex | refine EntR.drop (F := F) ?_ | refine EntR.drop ?_))
  · have h' : (300 : Int) < text.length := by omega
    ((try simp only [WKb, ↓reduceIte, Nat.reduceEqDiff, WKt]) <;> (repeat' ((first
    | (refine G.tr ?_; first | refine S.a ?_ | refine S.t ?_ | refine Tr.brK ?_ ?_ | (refine G.call 7 ?_; refine S.c ?_ (h := works22_ok)) | (refine G.call 8 ?_; refine S.c ?_ (h := read_ok ?_)) | (refine G.call 10 ?_; refine S.c ?_ (h := print_ok ?_)) | refine S.n fun _ => ?_ | refine S.i fun hix => ?_ | (refine S.g fun hb => ?_; (try simp only [hb])) | (refine S.s (fun hb => ?_) (fun hb => ?_) <;> ((try simp only [hb]) <;> (try (have hp := hb; simp only [WKs] at hp; (try have hq := Int.not_le.2 hp); (try have hq := Int.not_lt.2 hp))))))
    | rintro _ _ ⟨rfl, rfl⟩
    | ((fail_if_success refine G.tr ?_); exact G.prop S.p)
    | fail) <;> (try simp only [WKb, ↓reduceIte]))))
    all_goals
      refine Tr.fin hK ⟨rfl, rfl⟩ ?_
      ((try clear hK) <;> (try simp only [WKe, *]) <;> repeat (first | with_reducible exact EntR.done | refine S.e ?_ | (refine S.f ?_ <;> (try simp only [WKe, ↓reduceIte, reduceCtorEq, Int.reduceEq, *])) | with_reducible apply EntR.ex | refine EntR.drop (F := F) ?_ | refine EntR.drop ?_))
theorem back22_ok {u0 : Value} {s : StepC} [hd : DeA u0 s] {m : Int} (hs : s.ok) : Trip Tryd.prog 4 [u0].toArray [mxB m] fun v l' => v = .bool true ∧ l' = [] := by
  obtain rfl := hd.h
  intro F K hK
  simp only [List.cons_append, List.nil_append]
  have hrb := read_back hs
  have hpl : (printA s).length ≤ 1000000 := Nat.le_trans (printA_len hs) (by decide)
  have h4' := argsA_le s.call
  have hnm : normS s = ⟨s.cycles, s.call, if argsA s.call < 1 then 0 else s.a, if argsA s.call < 2 then 0 else s.b, if argsA s.call < 3 then 0 else s.c, if argsA s.call < 4 then 0 else s.d⟩ := rfl
  obtain ⟨n, hn4, hn⟩ : ∃ n : Nat, n ≤ 4 ∧ argsA s.call = (n : Int) := ⟨(argsA s.call).toNat, by omega, by omega⟩
  rw [hn] at hnm
  clear h4'
  obtain ⟨c, k, a, b, e, d⟩ := s
  simp only at hnm hn
  (refine Tr.enter (rs := [.tmp 2]) mixed fn4 rfl (by simp +arith [Tryd.ntmps4]) fun u => ?_; simp only [cd4, Tryd.f4])
  obtain rfl | rfl | rfl | rfl | rfl : n = 0 ∨ n = 1 ∨ n = 2 ∨ n = 3 ∨ n = 4 := by omega
  all_goals
    simp +decide only [↓reduceIte] at hnm
    ((try simp only [WKb, ↓reduceIte]) <;> (repeat' ((first
    | (refine G.tr ?_; first | refine S.a ?_ | refine S.t ?_ | refine Tr.brK ?_ ?_ | (refine G.call 10 ?_; refine S.c ?_ (h := print_ok ?_)) | (refine G.call 8 ?_; refine S.c ?_ (h := read_ok ?_)) | (refine G.call 12 ?_; refine S.c ?_ (h := argsR_ok)) | (refine G.call 7 ?_; refine S.c ?_ (h := works22_ok)) | refine S.n fun _ => ?_ | refine S.i fun hix => ?_ | (refine S.g fun hb => ?_; (try simp only [hb])) | (refine S.s (fun hb => ?_) (fun hb => ?_) <;> ((try simp only [hb]) <;> (try (have hp := hb; simp only [WKs] at hp; (try have hq := Int.not_le.2 hp); (try have hq := Int.not_lt.2 hp))))))
    | rintro _ _ ⟨rfl, rfl⟩
    | ((fail_if_success refine G.tr ?_); exact G.prop S.p)
    | fail) <;> (try simp only [WKb, ↓reduceIte, Nat.reduceEqDiff, Nat.reduceAdd, stepEq, stepSets, errS_some, errN_some, hrb, hn, hnm]))))
    all_goals
      refine Tr.fin hK ⟨rfl, rfl⟩ ?_
      ((try clear hK) <;> (try simp only [WKe, *]) <;> repeat (first | with_reducible exact EntR.done | refine S.e ?_ | (refine S.f ?_ <;> (try simp only [WKe, ↓reduceIte, reduceCtorEq, Int.reduceEq, *])) | with_reducible apply EntR.ex | refine EntR.drop (F := F) ?_ | refine EntR.drop ?_))
end Go.Proofs.YtlhmbcmkpafjoaaDoor
