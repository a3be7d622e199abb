import Derived.Test.YtgkhjgpgdfbdpaaDoorYG
namespace Go.Proofs.YtgkhjgpgdfbdpaaDoor
open Go Go.Wk
set_option maxHeartbeats 6400000
set_option maxRecDepth 100000

def workE : EvC := ⟨0, 3, 1, -1, 0, 0⟩
def workL : List UInt8 := [48, 32, 51, 32, 49, 32, 33, 111, 118, 101, 114, 114, 117, 110, 32, 48, 32, 48]
theorem dec_e : decA 0 = [48] ∧ decA 3 = [51] ∧ decA 1 = [49] := by
  refine ⟨?_, ?_, ?_⟩
  · rw [decA_pos (by omega)]; exact digA_lt (by decide)
  · rw [decA_pos (by omega)]; exact digA_lt (by decide)
  · rw [decA_pos (by omega)]; exact digA_lt (by decide)
theorem workE_ok : workE.ok := by unfold EvC.ok workE I64; simp
theorem workE_line : lineE workE = workL := by
  obtain ⟨h1, h2, h3⟩ := dec_e
  have hw : wordA (-1) = [33, 111, 118, 101, 114, 114, 117, 110] := by
    rw [wordA_fault (by decide)]; decide +kernel
  unfold lineE evW workE
  simp only [h1, h2, h3, hw]
  rfl
theorem workE_text : textE [workE] = workL ++ [10] := by
  have : textE [workE] = lineE workE ++ [10] := by simp [textE]
  rw [this, workE_line]
theorem workE_read : readE (workL ++ [10]) = ([workE], 0, 0) := by
  rw [← workE_text]
  refine read_text (fun e he => ?_) (by rw [workE_text]; decide)
  simp only [List.mem_singleton] at he
  rw [he]; exact workE_ok
theorem word_eight : wordA 8 = [103, 101, 116, 45, 116, 105, 109, 101] := by
  rw [wordA_name (by decide)]; decide +kernel
attribute [local irreducible] BrK GenK EGenK EUnitK CallK FnK CallV GuardO GuardC CondW opX opK opKc chkR eqR seqK blkK endL WL WD W LoopW BinK Tr drewK resL PickK NotK NilK ExtrK getK Instr.storeAt Instr.loadAt Instr.fieldAt Instr.indexAt Instr.lookup Instr.mapUpdate Instr.box Instr.alloc Instr.build Instr.buildSlice Instr.makeSlice Instr.makeMap Instr.sliceAt Instr.field Instr.index Instr.makeInterface Instr.typeAssert Builtin.len_ Builtin.append_ Builtin.cap_ Builtin.min_ Builtin.max_ Builtin.copy_ Builtin.clear_ convert binOp mp blk rob sl sep ex fact old
attribute [local irreducible] NegK mxV bufT bldB okW valW
theorem works28_ok {m : Int} : Trip Tryd.prog 13 [].toArray [mxB m] fun v l' => v = .bool true ∧ l' = [] := by
  intro F K hK
  simp only [List.cons_append, List.nil_append]
  have h1 : readE [48, 32, 51, 32, 49, 32, 33, 111, 118, 101, 114, 114, 117, 110, 32, 48, 32, 48, 10] = ([⟨0, 3, 1, -1, 0, 0⟩], 0, 0) := workE_read
  have h2 : lineE ⟨0, 3, 1, -1, 0, 0⟩ = [48, 32, 51, 32, 49, 32, 33, 111, 118, 101, 114, 114, 117, 110, 32, 48, 32, 48] := workE_line
  have h3 : (EvC.mk 0 3 1 (-1) 0 0).ok := workE_ok
  have h4 : I64 8 := by unfold I64; omega
  have h5 := word_eight
  (refine Tr.enter (rs := [.tmp 0]) mixed fn13 rfl (by simp +arith [Tryd.ntmps13]) fun u => ?_; simp only [cd13, Tryd.f13])
  ((try simp only [WKb, WKt]) <;> (repeat' ((first
    | (refine G.tr ?_; first | refine S.a ?_ | refine S.t ?_ | refine Tr.brK ?_ ?_ | (refine G.call 20 ?_; refine S.c ?_ (h := tread_ok)) | (refine G.call 44 ?_; refine S.c ?_ (h := tline_ok (by assumption))) | (refine G.call 22 ?_; refine S.c ?_ (h := sameEv_ok)) | (refine G.call 18 ?_; refine S.c ?_ (h := tword_ok (by assumption))) | refine S.n fun _ => ?_ | refine S.i fun hix => ?_ | (refine S.g fun hb => ?_; (try simp only [hb])) | (refine S.s (fun hb => ?_) (fun hb => ?_) <;> ((try simp only [hb]) <;> (try (have hp := hb; simp only [WKs] at hp; (try have hq := Int.not_le.2 hp); (try have hq := Int.not_lt.2 hp))))))
    | rintro _ _ ⟨rfl, rfl⟩
    | rintro _ _ ⟨_, rfl, rfl⟩
    | ((fail_if_success refine G.tr ?_); exact G.prop S.p)
    | fail) <;> (try simp only [WKb, WKh, ↓reduceIte, Nat.reduceEqDiff, Nat.reduceAdd, h1, h2, h5]))))
  all_goals
    refine Tr.fin hK ⟨rfl, rfl⟩ ?_
    ((try clear hK) <;> (try simp only [WKe, *]) <;> repeat (first | with_reducible exact EntR.done | refine S.e ?_ | (refine S.f ?_ <;> (try simp only [WKe, ↓reduceIte, reduceCtorEq, Int.reduceEq, *])) | with_reducible apply EntR.ex | refine EntR.drop (F := F) ?_ | refine EntR.drop ?_))

theorem prints28_ok {v : Value} {xs : List EvC} {call : Int} {word : List UInt8} {m : Int} (hok : ∀ e ∈ xs, e.ok) (hc : I64 call) : Trip Tryd.prog 3 [v, .int .i64 call, .string (bstr word)].toArray [mxB m, sl true v xs] fun u l' => u = .bool true ∧ l' = [] := by
  intro F K hK
  simp only [List.cons_append, List.nil_append]
  (refine Tr.enter (rs := [.tmp 6]) mixed fn3 rfl (by simp +arith [Tryd.ntmps3]) fun u => ?_; simp only [cd3, Tryd.f3])
  by_cases h : xs.length ≤ 3000
  · by_cases h2 : word.length ≤ 100
    · ((try simp only [WKb, ↓reduceIte, Nat.reduceEqDiff, Nat.reduceAdd]) <;> (repeat' ((first
    | (refine G.tr ?_; first | refine S.a ?_ | refine S.t ?_ | refine Tr.brK ?_ ?_ | (refine G.call 13 ?_; refine S.c ?_ (h := works28_ok)) | (refine G.call 14 ?_; refine S.c ?_ (h := tprint_ok (by assumption))) | (refine G.call 15 ?_; refine S.c ?_ (h := tprintR_ok (by assumption))) | (refine G.call 16 ?_; refine S.c ?_ (h := tcall_ok ?_)) | (refine G.call 17 ?_; refine S.c ?_ (h := tcallR_ok ?_)) | (refine G.call 18 ?_; refine S.c ?_ (h := tword_ok (by assumption))) | (refine G.call 19 ?_; refine S.c ?_ (h := twordR_ok (by assumption))) | refine S.n fun _ => ?_ | refine S.i fun hix => ?_ | (refine S.g fun hb => ?_; (try simp only [hb])) | (refine S.s (fun hb => ?_) (fun hb => ?_) <;> ((try simp only [hb]) <;> (try (have hp := hb; simp only [WKs] at hp; (try have hq := Int.not_le.2 hp); (try have hq := Int.not_lt.2 hp))))))
    | rintro _ _ ⟨rfl, rfl⟩
    | ((fail_if_success refine G.tr ?_); exact G.prop S.p)
    | fail) <;> (try simp only [WKb, WKh, ↓reduceIte, Nat.reduceEqDiff, WKt]))))
      all_goals
        refine Tr.fin hK ⟨rfl, rfl⟩ ?_
        ((try clear hK) <;> (try simp only [WKe, *]) <;> repeat (first | with_reducible exact EntR.done | refine S.e ?_ | (refine S.f ?_ <;> (try simp only [WKe, ↓reduceIte, reduceCtorEq, Int.reduceEq, *])) | with_reducible apply EntR.ex | refine EntR.drop (F := F) ?_ | refine EntR.drop ?_))
    · have h2' : (100 : Int) < word.length := by omega
      ((try simp only [WKb, ↓reduceIte, Nat.reduceEqDiff, Nat.reduceAdd]) <;> (repeat' ((first
    | (refine G.tr ?_; first | refine S.a ?_ | refine S.t ?_ | refine Tr.brK ?_ ?_ | (refine G.call 13 ?_; refine S.c ?_ (h := works28_ok)) | (refine G.call 14 ?_; refine S.c ?_ (h := tprint_ok (by assumption))) | (refine G.call 15 ?_; refine S.c ?_ (h := tprintR_ok (by assumption))) | (refine G.call 16 ?_; refine S.c ?_ (h := tcall_ok ?_)) | (refine G.call 17 ?_; refine S.c ?_ (h := tcallR_ok ?_)) | (refine G.call 18 ?_; refine S.c ?_ (h := tword_ok (by assumption))) | (refine G.call 19 ?_; refine S.c ?_ (h := twordR_ok (by assumption))) | refine S.n fun _ => ?_ | refine S.i fun hix => ?_ | (refine S.g fun hb => ?_; (try simp only [hb])) | (refine S.s (fun hb => ?_) (fun hb => ?_) <;> ((try simp only [hb]) <;> (try (have hp := hb; simp only [WKs] at hp; (try have hq := Int.not_le.2 hp); (try have hq := Int.not_lt.2 hp))))))
    | rintro _ _ ⟨rfl, rfl⟩
    | ((fail_if_success refine G.tr ?_); exact G.prop S.p)
    | fail) <;> (try simp only [WKb, ↓reduceIte, Nat.reduceEqDiff, WKt]))))
      all_goals
        refine Tr.fin hK ⟨rfl, rfl⟩ ?_
        ((try clear hK) <;> (try simp only [WKe, *]) <;> repeat (first | with_reducible exact EntR.done | refine S.e ?_ | (refine S.f ?_ <;> (try simp only [WKe, ↓reduceIte, reduceCtorEq, Int.reduceEq, *])) | with_reducible apply EntR.ex | refine EntR.drop (F := F) ?_ | refine EntR.drop ?_))
  · have h' : (3000 : Int) < xs.length := by omega
    ((try simp only [WKb, ↓reduceIte, Nat.reduceEqDiff, Nat.reduceAdd]) <;> (repeat' ((first
    | (refine G.tr ?_; first | refine S.a ?_ | refine S.t ?_ | refine Tr.brK ?_ ?_ | (refine G.call 13 ?_; refine S.c ?_ (h := works28_ok)) | (refine G.call 14 ?_; refine S.c ?_ (h := tprint_ok (by assumption))) | (refine G.call 15 ?_; refine S.c ?_ (h := tprintR_ok (by assumption))) | (refine G.call 16 ?_; refine S.c ?_ (h := tcall_ok ?_)) | (refine G.call 17 ?_; refine S.c ?_ (h := tcallR_ok ?_)) | (refine G.call 18 ?_; refine S.c ?_ (h := tword_ok (by assumption))) | (refine G.call 19 ?_; refine S.c ?_ (h := twordR_ok (by assumption))) | refine S.n fun _ => ?_ | refine S.i fun hix => ?_ | (refine S.g fun hb => ?_; (try simp only [hb])) | (refine S.s (fun hb => ?_) (fun hb => ?_) <;> ((try simp only [hb]) <;> (try (have hp := hb; simp only [WKs] at hp; (try have hq := Int.not_le.2 hp); (try have hq := Int.not_lt.2 hp))))))
    | rintro _ _ ⟨rfl, rfl⟩
    | ((fail_if_success refine G.tr ?_); exact G.prop S.p)
    | fail) <;> (try simp only [WKb, ↓reduceIte, Nat.reduceEqDiff]))))
    all_goals
      refine Tr.fin hK ⟨rfl, rfl⟩ ?_
      ((try clear hK) <;> (try simp only [WKe, *]) <;> repeat (first | with_reducible exact EntR.done | refine S.e ?_ | (refine S.f ?_ <;> (try simp only [WKe, ↓reduceIte, reduceCtorEq, Int.reduceEq, *])) | with_reducible apply EntR.ex | refine EntR.drop (F := F) ?_ | refine EntR.drop ?_))
theorem reads28_ok {s : List UInt8} {m : Int} : Trip Tryd.prog 4 [.string (bstr s)].toArray [mxB m] fun u l' => u = .bool true ∧ l' = [] := by
  intro F K hK
  simp only [List.cons_append, List.nil_append]
  (refine Tr.enter (rs := [.tmp 2]) mixed fn4 rfl (by simp +arith [Tryd.ntmps4]) fun u => ?_; simp only [cd4, Tryd.f4])
  by_cases h : s.length ≤ 4000
  · have hw := @words_ok_of s
    have ht := @text_read s
    obtain ⟨l, a, e, hr⟩ : ∃ l a e, readE s = (l, a, e) := ⟨_, _, _, rfl⟩
    have hok := hw hr
    by_cases he : e = 0
    · subst he
      obtain ⟨h1, h2, h3⟩ := ht hr
      have hpr : printE l = (s, 0) := by rw [printE_ok (by rw [h1]; exact h3), h1]
      ((try simp only [WKb, ↓reduceIte, Nat.reduceEqDiff, WKt]) <;> (repeat' ((first
    | (refine G.tr ?_; first | refine S.a ?_ | refine S.t ?_ | refine Tr.brK ?_ ?_ | (refine G.call 13 ?_; refine S.c ?_ (h := works28_ok)) | (refine G.call 20 ?_; refine S.c ?_ (h := tread_ok)) | (refine G.call 21 ?_; refine S.c ?_ (h := treadR_ok)) | (refine G.call 22 ?_; refine S.c ?_ (h := sameEv_ok)) | (refine G.call 14 ?_; refine S.c ?_ (h := tprint_ok (by assumption))) | refine S.n fun _ => ?_ | refine S.i fun hix => ?_ | (refine S.g fun hb => ?_; (try simp only [hb])) | (refine S.s (fun hb => ?_) (fun hb => ?_) <;> ((try simp only [hb]) <;> (try (have hp := hb; simp only [WKs] at hp; (try have hq := Int.not_le.2 hp); (try have hq := Int.not_lt.2 hp))))))
    | rintro _ _ ⟨rfl, rfl⟩
    | rintro _ _ ⟨_, rfl, rfl⟩
    | ((fail_if_success refine G.tr ?_); exact G.prop S.p)
    | fail) <;> (try simp only [WKb, WKh, ↓reduceIte, Nat.reduceEqDiff, hr, hpr]))))
      all_goals
        refine Tr.fin hK ⟨rfl, rfl⟩ ?_
        ((try clear hK) <;> (try simp only [WKe, *]) <;> repeat (first | with_reducible exact EntR.done | refine S.e ?_ | (refine S.f ?_ <;> (try simp only [WKe, ↓reduceIte, reduceCtorEq, Int.reduceEq, *])) | with_reducible apply EntR.ex | refine EntR.drop (F := F) ?_ | refine EntR.drop ?_))
    · ((try simp only [WKb, ↓reduceIte, Nat.reduceEqDiff, WKt]) <;> (repeat' ((first
    | (refine G.tr ?_; first | refine S.a ?_ | refine S.t ?_ | refine Tr.brK ?_ ?_ | (refine G.call 13 ?_; refine S.c ?_ (h := works28_ok)) | (refine G.call 20 ?_; refine S.c ?_ (h := tread_ok)) | (refine G.call 21 ?_; refine S.c ?_ (h := treadR_ok)) | (refine G.call 22 ?_; refine S.c ?_ (h := sameEv_ok)) | (refine G.call 14 ?_; refine S.c ?_ (h := tprint_ok (by assumption))) | refine S.n fun _ => ?_ | refine S.i fun hix => ?_ | (refine S.g fun hb => ?_; (try simp only [hb])) | (refine S.s (fun hb => ?_) (fun hb => ?_) <;> ((try simp only [hb]) <;> (try (have hp := hb; simp only [WKs] at hp; (try have hq := Int.not_le.2 hp); (try have hq := Int.not_lt.2 hp))))))
    | rintro _ _ ⟨rfl, rfl⟩
    | rintro _ _ ⟨_, rfl, rfl⟩
    | ((fail_if_success refine G.tr ?_); exact G.prop S.p)
    | fail) <;> (try simp only [WKb, ↓reduceIte, Nat.reduceEqDiff, hr]))))
      all_goals
        refine Tr.fin hK ⟨rfl, rfl⟩ ?_
        ((try clear hK) <;> (try simp only [WKe, *]) <;> repeat (first | with_reducible exact EntR.done | refine S.e ?_ | (refine S.f ?_ <;> (try simp only [WKe, ↓reduceIte, reduceCtorEq, Int.reduceEq, *])) | with_reducible apply EntR.ex | refine EntR.drop (F := F) ?_ | refine EntR.drop ?_))
  · have h' : (4000 : Int) < s.length := by omega
    ((try simp only [WKb, ↓reduceIte, Nat.reduceEqDiff, WKt]) <;> (repeat' ((first
    | (refine G.tr ?_; first | refine S.a ?_ | refine S.t ?_ | refine Tr.brK ?_ ?_ | (refine G.call 13 ?_; refine S.c ?_ (h := works28_ok)) | (refine G.call 20 ?_; refine S.c ?_ (h := tread_ok)) | (refine G.call 21 ?_; refine S.c ?_ (h := treadR_ok)) | (refine G.call 22 ?_; refine S.c ?_ (h := sameEv_ok)) | (refine G.call 14 ?_; refine S.c ?_ (h := tprint_ok (by assumption))) | refine S.n fun _ => ?_ | refine S.i fun hix => ?_ | (refine S.g fun hb => ?_; (try simp only [hb])) | (refine S.s (fun hb => ?_) (fun hb => ?_) <;> ((try simp only [hb]) <;> (try (have hp := hb; simp only [WKs] at hp; (try have hq := Int.not_le.2 hp); (try have hq := Int.not_lt.2 hp))))))
    | rintro _ _ ⟨rfl, rfl⟩
    | rintro _ _ ⟨_, rfl, rfl⟩
    | ((fail_if_success refine G.tr ?_); exact G.prop S.p)
    | fail) <;> (try simp only [WKb, ↓reduceIte]))))
    all_goals
      refine Tr.fin hK ⟨rfl, rfl⟩ ?_
      ((try clear hK) <;> (try simp only [WKe, *]) <;> repeat (first | with_reducible exact EntR.done | refine S.e ?_ | (refine S.f ?_ <;> (try simp only [WKe, ↓reduceIte, reduceCtorEq, Int.reduceEq, *])) | with_reducible apply EntR.ex | refine EntR.drop (F := F) ?_ | refine EntR.drop ?_))
theorem back28_ok {v : Value} {xs : List EvC} {call : Int} {m : Int} (hok : ∀ e ∈ xs, e.ok) (hc : I64 call) : Trip Tryd.prog 5 [v, .int .i64 call].toArray [mxB m, sl true v xs] fun u l' => u = .bool true ∧ l' = [] := by
  intro F K hK
  simp only [List.cons_append, List.nil_append]
  have hcw1 : (callW (wordA call)).getD 0 = call := by rw [callW_word hc]; rfl
  have hcw2 : (callW (wordA call)).isSome = true := by rw [callW_word hc]; rfl
  have hwl : (wordA call).length ≤ 1000000 := Nat.le_trans (wordA_len hc) (by decide)
  (refine Tr.enter (rs := [.tmp 4]) mixed fn5 rfl (by simp +arith [Tryd.ntmps5]) fun u => ?_; simp only [cd5, Tryd.f5])
  by_cases h : xs.length ≤ 3000
  · by_cases hb2 : (textE xs).length ≤ 65536
    · have hpr := printE_ok hb2
      have hrd := read_text hok hb2
      ((try simp only [WKb, ↓reduceIte, Nat.reduceEqDiff, Nat.reduceAdd, WKt]) <;> (repeat' ((first
    | (refine G.tr ?_; first | refine S.a ?_ | refine S.t ?_ | refine Tr.brK ?_ ?_ | (refine G.call 13 ?_; refine S.c ?_ (h := works28_ok)) | (refine G.call 18 ?_; refine S.c ?_ (h := tword_ok (by assumption))) | (refine G.call 16 ?_; refine S.c ?_ (h := tcall_ok ?_)) | (refine G.call 14 ?_; refine S.c ?_ (h := tprint_ok (by assumption))) | (refine G.call 20 ?_; refine S.c ?_ (h := tread_ok)) | (refine G.call 22 ?_; refine S.c ?_ (h := sameEv_ok)) | refine S.n fun _ => ?_ | refine S.i fun hix => ?_ | (refine S.g fun hb => ?_; (try simp only [hb])) | (refine S.s (fun hb => ?_) (fun hb => ?_) <;> ((try simp only [hb]) <;> (try (have hp := hb; simp only [WKs] at hp; (try have hq := Int.not_le.2 hp); (try have hq := Int.not_lt.2 hp))))))
    | rintro _ _ ⟨rfl, rfl⟩
    | rintro _ _ ⟨_, rfl, rfl⟩
    | ((fail_if_success refine G.tr ?_); exact G.prop S.p)
    | fail) <;> (try simp only [WKb, ↓reduceIte, Nat.reduceEqDiff, hcw1, hcw2, hpr, hrd]))))
      all_goals
        refine Tr.fin hK ⟨rfl, rfl⟩ ?_
        ((try clear hK) <;> (try simp only [WKe, *]) <;> repeat (first | with_reducible exact EntR.done | refine S.e ?_ | (refine S.f ?_ <;> (try simp only [WKe, ↓reduceIte, reduceCtorEq, Int.reduceEq, *])) | with_reducible apply EntR.ex | refine EntR.drop (F := F) ?_ | refine EntR.drop ?_))
    · have hpr : printE xs = ([], 3) := if_pos (by omega)
      ((try simp only [WKb, ↓reduceIte, Nat.reduceEqDiff, Nat.reduceAdd, WKt]) <;> (repeat' ((first
    | (refine G.tr ?_; first | refine S.a ?_ | refine S.t ?_ | refine Tr.brK ?_ ?_ | (refine G.call 13 ?_; refine S.c ?_ (h := works28_ok)) | (refine G.call 18 ?_; refine S.c ?_ (h := tword_ok (by assumption))) | (refine G.call 16 ?_; refine S.c ?_ (h := tcall_ok ?_)) | (refine G.call 14 ?_; refine S.c ?_ (h := tprint_ok (by assumption))) | (refine G.call 20 ?_; refine S.c ?_ (h := tread_ok)) | (refine G.call 22 ?_; refine S.c ?_ (h := sameEv_ok)) | refine S.n fun _ => ?_ | refine S.i fun hix => ?_ | (refine S.g fun hb => ?_; (try simp only [hb])) | (refine S.s (fun hb => ?_) (fun hb => ?_) <;> ((try simp only [hb]) <;> (try (have hp := hb; simp only [WKs] at hp; (try have hq := Int.not_le.2 hp); (try have hq := Int.not_lt.2 hp))))))
    | rintro _ _ ⟨rfl, rfl⟩
    | rintro _ _ ⟨_, rfl, rfl⟩
    | ((fail_if_success refine G.tr ?_); exact G.prop S.p)
    | fail) <;> (try simp only [WKb, WKh, ↓reduceIte, Nat.reduceEqDiff, Int.reduceEq, hcw1, hcw2, hpr]))))
      all_goals
        refine Tr.fin hK ⟨rfl, rfl⟩ ?_
        ((try clear hK) <;> (try simp only [WKe, *]) <;> repeat (first | with_reducible exact EntR.done | refine S.e ?_ | (refine S.f ?_ <;> (try simp only [WKe, ↓reduceIte, reduceCtorEq, Int.reduceEq, *])) | with_reducible apply EntR.ex | refine EntR.drop (F := F) ?_ | refine EntR.drop ?_))
  · have h' : (3000 : Int) < xs.length := by omega
    ((try simp only [WKb, ↓reduceIte, Nat.reduceEqDiff, Nat.reduceAdd, WKt]) <;> (repeat' ((first
    | (refine G.tr ?_; first | refine S.a ?_ | refine S.t ?_ | refine Tr.brK ?_ ?_ | (refine G.call 13 ?_; refine S.c ?_ (h := works28_ok)) | (refine G.call 18 ?_; refine S.c ?_ (h := tword_ok (by assumption))) | (refine G.call 16 ?_; refine S.c ?_ (h := tcall_ok ?_)) | (refine G.call 14 ?_; refine S.c ?_ (h := tprint_ok (by assumption))) | (refine G.call 20 ?_; refine S.c ?_ (h := tread_ok)) | (refine G.call 22 ?_; refine S.c ?_ (h := sameEv_ok)) | refine S.n fun _ => ?_ | refine S.i fun hix => ?_ | (refine S.g fun hb => ?_; (try simp only [hb])) | (refine S.s (fun hb => ?_) (fun hb => ?_) <;> ((try simp only [hb]) <;> (try (have hp := hb; simp only [WKs] at hp; (try have hq := Int.not_le.2 hp); (try have hq := Int.not_lt.2 hp))))))
    | rintro _ _ ⟨rfl, rfl⟩
    | rintro _ _ ⟨_, rfl, rfl⟩
    | ((fail_if_success refine G.tr ?_); exact G.prop S.p)
    | fail) <;> (try simp only [WKb, ↓reduceIte]))))
    all_goals
      refine Tr.fin hK ⟨rfl, rfl⟩ ?_
      ((try clear hK) <;> (try simp only [WKe, *]) <;> repeat (first | with_reducible exact EntR.done | refine S.e ?_ | (refine S.f ?_ <;> (try simp only [WKe, ↓reduceIte, reduceCtorEq, Int.reduceEq, *])) | with_reducible apply EntR.ex | refine EntR.drop (F := F) ?_ | refine EntR.drop ?_))
end Go.Proofs.YtgkhjgpgdfbdpaaDoor
