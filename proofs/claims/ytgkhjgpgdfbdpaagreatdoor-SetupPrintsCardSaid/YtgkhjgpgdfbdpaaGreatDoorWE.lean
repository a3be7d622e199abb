import Derived.Test.YtgkhjgpgdfbdpaaGreatDoorWD
namespace Go.Proofs.YtgkhjgpgdfbdpaaGreatDoor
open Go Go.Wk
set_option maxHeartbeats 6400000
set_option maxRecDepth 100000

/-! ### the document prints and cuts lines as the program does -/
theorem uprintP_ok {u0 : Value} {d : ConfD} {t : List UInt8} {e : Int} [hd : DeA u0 d] (hv : printU d.v = (t, e)) (ho : okU d.v) (hp : d.parts.d.length ≤ 100) (hm : d.modes.d.length ≤ 100) :
    Trip Tryz.prog 7 [u0].toArray [fzl [d]] fun v l' => v = .tuple #[.string (bstr t), .int .i64 e] ∧ l' = [] := by
  have h := uprint_ok (u0 := u0) ho hp hm
  rw [hv] at h
  exact h
theorem dprintP_ok {u0 : Value} {d : ConfD} {t : List UInt8} {e : Int} [hd : DeA u0 d] (hv : printU d.v = (t, e)) (ho : okU d.v) :
    Trip Tryz.prog 8 [u0].toArray [fzl [d]] fun v l' => v = .tuple #[.string (bstr t), .int .i64 e] ∧ l' = [] := by
  have h := dprint_ok (u0 := u0) ho
  rw [hv] at h
  exact h
theorem uwordsP_ok {s w : List UInt8} {l : List Int} {b : Bool} {m : Int} (hw : wordsV s = (w, l, b)) (hs : s.length ≤ 1000000) : Trip Tryz.prog 9 [.string (bstr s)].toArray [mxB m]
    fun v l' => ∃ t : SV, v = .tuple #[.string (bstr w), t.v, .bool b] ∧ l' = [sl false t.v l] := by
  have h := uwords_ok (m := m) hs
  rw [hw] at h
  exact h
theorem dwordsP_ok {s w : List UInt8} {l : List Int} {b : Bool} (hw : wordsV s = (w, l, b)) (hs : s.length ≤ 1000000) : Trip Tryz.prog 10 [.string (bstr s)].toArray []
    fun v l' => ∃ t : SV, v = .tuple #[.string (bstr w), t.v, .bool b] ∧ l' = [sl false t.v l] := by
  have h := dwords_ok hs
  rw [hw] at h
  exact h







attribute [local irreducible] BrK GenK EGenK EUnitK CallK FnK CallV GuardO GuardC CondW opX opK opKc chkR eqR seqK blkK endL WL WD W LoopW BinK Tr drewK resL PickK NotK NilK ExtrK getK Instr.storeAt Instr.loadAt Instr.fieldAt Instr.indexAt Instr.lookup Instr.mapUpdate Instr.box Instr.alloc Instr.build Instr.buildSlice Instr.makeSlice Instr.makeMap Instr.sliceAt Instr.field Instr.index Instr.makeInterface Instr.typeAssert Builtin.len_ Builtin.append_ Builtin.cap_ Builtin.min_ Builtin.max_ Builtin.copy_ Builtin.clear_ convert binOp mp blk rob sl sep ex fact old
attribute [local irreducible] NegK mxV confB8 printU readU
theorem prints34_ok {u0 : Value} {c : ConfD} {line : List UInt8} {m : Int} [hd : DeA u0 c] (ho : okU c.v) : Trip Tryz.prog 3 [u0, .string (bstr line)].toArray [mxB m, fzl [c]] fun v l' => v = .bool true ∧ l' = [] := by
  obtain rfl := hd.h
  intro F K hK
  simp only [List.cons_append, List.nil_append]
  by_cases h : confS c
  · have hp := h.1.1
    have hm := h.1.2.2.1
    obtain ⟨⟨t, e⟩, hpr⟩ : ∃ x, printU c.v = x := ⟨_, rfl⟩
    obtain ⟨⟨w, l, b⟩, hw⟩ : ∃ x, wordsV line = x := ⟨_, rfl⟩
    (refine Tr.enter (rs := [.tmp 4]) mixed fn3 rfl (by simp +arith [Tryz.ntmps3]) fun u => ?_; simp only [cd3, Tryz.f3])
    by_cases hl : line.length ≤ 300
    · have hl6 : line.length ≤ 1000000 := by omega
      ((try simp only [WKb, ↓reduceIte, Nat.reduceEqDiff, Nat.reduceAdd]) <;> (repeat' ((first
    | (refine G.tr ?_; first | refine S.a ?_ | refine S.t ?_ | refine Tr.brK ?_ ?_ | (refine G.call 5 ?_; first | refine S.c ?_ (h := short100_yes (by assumption)) | refine S.c ?_ (h := short100_no (by assumption))) | (refine G.call 6 ?_; refine S.c ?_ (h := works34_ok)) | (refine G.call 7 ?_; refine S.c ?_ (h := uprintP_ok (by assumption) (by assumption) (by assumption) (by assumption))) | (refine G.call 8 ?_; refine S.c ?_ (h := dprintP_ok (by assumption) (by assumption))) | (refine G.call 9 ?_; refine S.c ?_ (h := uwordsP_ok (by assumption) (by assumption))) | (refine G.call 10 ?_; refine S.c ?_ (h := dwordsP_ok (by assumption) (by assumption))) | (refine G.call 11 ?_; refine S.c ?_ (h := usame07_ok)) | refine S.n fun _ => ?_ | refine S.i fun hix => ?_ | (refine S.g fun hb => ?_; (try simp only [hb])) | (refine S.s (fun hb => ?_) (fun hb => ?_) <;> ((try simp only [hb]) <;> (try (have hp := hb; simp only [WKs] at hp; (try have hq := Int.not_le.2 hp); (try have hq := Int.not_lt.2 hp))))))
    | rintro _ _ ⟨rfl, rfl⟩
    | rintro _ _ ⟨_, rfl, rfl⟩
    | ((fail_if_success refine G.tr ?_); exact G.prop S.p)
    | fail) <;> (try simp only [WKb, WKh, ↓reduceIte, Nat.reduceEqDiff, WKt]))))
      all_goals
        refine Tr.fin hK ⟨rfl, rfl⟩ ?_
        ((try clear hK) <;> (try simp only [WKe, *]) <;> repeat (first | with_reducible exact EntR.done | refine S.e ?_ | (refine S.f ?_ <;> (try simp only [WKe, ↓reduceIte, reduceCtorEq, Int.reduceEq, *])) | with_reducible apply EntR.ex | refine EntR.drop (F := F) ?_ | refine EntR.drop ?_))
    · have hl' : (300 : Int) < line.length := by omega
      ((try simp only [WKb, ↓reduceIte, Nat.reduceEqDiff, Nat.reduceAdd]) <;> (repeat' ((first
    | (refine G.tr ?_; first | refine S.a ?_ | refine S.t ?_ | refine Tr.brK ?_ ?_ | (refine G.call 5 ?_; first | refine S.c ?_ (h := short100_yes (by assumption)) | refine S.c ?_ (h := short100_no (by assumption))) | (refine G.call 6 ?_; refine S.c ?_ (h := works34_ok)) | (refine G.call 7 ?_; refine S.c ?_ (h := uprintP_ok (by assumption) (by assumption) (by assumption) (by assumption))) | (refine G.call 8 ?_; refine S.c ?_ (h := dprintP_ok (by assumption) (by assumption))) | (refine G.call 9 ?_; refine S.c ?_ (h := uwordsP_ok (by assumption) (by assumption))) | (refine G.call 10 ?_; refine S.c ?_ (h := dwordsP_ok (by assumption) (by assumption))) | (refine G.call 11 ?_; refine S.c ?_ (h := usame07_ok)) | refine S.n fun _ => ?_ | refine S.i fun hix => ?_ | (refine S.g fun hb => ?_; (try simp only [hb])) | (refine S.s (fun hb => ?_) (fun hb => ?_) <;> ((try simp only [hb]) <;> (try (have hp := hb; simp only [WKs] at hp; (try have hq := Int.not_le.2 hp); (try have hq := Int.not_lt.2 hp))))))
    | rintro _ _ ⟨rfl, rfl⟩
    | rintro _ _ ⟨_, rfl, rfl⟩
    | ((fail_if_success refine G.tr ?_); exact G.prop S.p)
    | fail) <;> (try simp only [WKb, ↓reduceIte, Nat.reduceEqDiff, WKt]))))
      all_goals
        refine Tr.fin hK ⟨rfl, rfl⟩ ?_
        ((try clear hK) <;> (try simp only [WKe, *]) <;> repeat (first | with_reducible exact EntR.done | refine S.e ?_ | (refine S.f ?_ <;> (try simp only [WKe, ↓reduceIte, reduceCtorEq, Int.reduceEq, *])) | with_reducible apply EntR.ex | refine EntR.drop (F := F) ?_ | refine EntR.drop ?_))
  · (refine Tr.enter (rs := [.tmp 4]) mixed fn3 rfl (by simp +arith [Tryz.ntmps3]) fun u => ?_; simp only [cd3, Tryz.f3])
    ((try simp only [WKb, ↓reduceIte, Nat.reduceEqDiff, Nat.reduceAdd]) <;> (repeat' ((first
    | (refine G.tr ?_; first | refine S.a ?_ | refine S.t ?_ | refine Tr.brK ?_ ?_ | (refine G.call 5 ?_; first | refine S.c ?_ (h := short100_yes (by assumption)) | refine S.c ?_ (h := short100_no (by assumption))) | (refine G.call 6 ?_; refine S.c ?_ (h := works34_ok)) | (refine G.call 7 ?_; refine S.c ?_ (h := uprintP_ok (by assumption) (by assumption) (by assumption) (by assumption))) | (refine G.call 8 ?_; refine S.c ?_ (h := dprintP_ok (by assumption) (by assumption))) | (refine G.call 9 ?_; refine S.c ?_ (h := uwordsP_ok (by assumption) (by assumption))) | (refine G.call 10 ?_; refine S.c ?_ (h := dwordsP_ok (by assumption) (by assumption))) | (refine G.call 11 ?_; refine S.c ?_ (h := usame07_ok)) | refine S.n fun _ => ?_ | refine S.i fun hix => ?_ | (refine S.g fun hb => ?_; (try simp only [hb])) | (refine S.s (fun hb => ?_) (fun hb => ?_) <;> ((try simp only [hb]) <;> (try (have hp := hb; simp only [WKs] at hp; (try have hq := Int.not_le.2 hp); (try have hq := Int.not_lt.2 hp))))))
    | rintro _ _ ⟨rfl, rfl⟩
    | rintro _ _ ⟨_, rfl, rfl⟩
    | ((fail_if_success refine G.tr ?_); exact G.prop S.p)
    | fail) <;> (try simp only [WKb, ↓reduceIte, Nat.reduceEqDiff]))))
    all_goals
      refine Tr.fin hK ⟨rfl, rfl⟩ ?_
      ((try clear hK) <;> (try simp only [WKe, *]) <;> repeat (first | with_reducible exact EntR.done | refine S.e ?_ | (refine S.f ?_ <;> (try simp only [WKe, ↓reduceIte, reduceCtorEq, Int.reduceEq, *])) | with_reducible apply EntR.ex | refine EntR.drop (F := F) ?_ | refine EntR.drop ?_))
end Go.Proofs.YtgkhjgpgdfbdpaaGreatDoor
