import Derived.Test.YtgkhjgpgdfbdpaaDoorYA
namespace Go.Proofs.YtgkhjgpgdfbdpaaDoor
open Go Go.Wk
set_option maxHeartbeats 6400000
set_option maxRecDepth 100000

instance {x1 x2 x3 x4 x5 x6 : Int} : DeA (.agg [.int .i64 x1, .int .i64 x2, .int .i64 x3, .int .i64 x4, .int .i64 x5, .int .i64 x6].toArray) (EvC.mk x1 x2 x3 x4 x5 x6) := ⟨rfl⟩
theorem ok_ev {e : EvC} (h : e.ok) : I64 e.part ∧ I64 e.win ∧ I64 e.proc ∧ I64 e.call ∧ I64 e.code ∧ I64 e.value := h
attribute [local irreducible] BrK GenK EGenK EUnitK CallK FnK CallV GuardO GuardC CondW opX opK opKc chkR eqR seqK blkK endL WL WD W LoopW BinK Tr drewK resL PickK NotK NilK ExtrK getK Instr.storeAt Instr.loadAt Instr.fieldAt Instr.indexAt Instr.lookup Instr.mapUpdate Instr.box Instr.alloc Instr.build Instr.buildSlice Instr.makeSlice Instr.makeMap Instr.sliceAt Instr.field Instr.index Instr.makeInterface Instr.typeAssert Builtin.len_ Builtin.append_ Builtin.cap_ Builtin.min_ Builtin.max_ Builtin.copy_ Builtin.clear_ convert binOp mp blk rob sl sep ex fact old
attribute [local irreducible] NegK mxV
theorem tline_ok {u0 : Value} {e : EvC} [hd : DeA u0 e] (he : e.ok) : Trip Tryd.prog 44 [u0].toArray [] fun v l' => v = .string (bstr (lineE e)) ∧ l' = [] := by
  obtain rfl := hd.h
  intro F K hK
  simp only [List.nil_append]
  have hll := lineE_len he
  have hj3 : (joinA 32 (([⟨decA e.part⟩, ⟨decA e.win⟩, ⟨decA e.proc⟩, ⟨wordA e.call⟩, ⟨decA e.code⟩, ⟨decA e.value⟩] : List Str).map Str.d)).length ≤ 140737488355328 := Nat.le_trans hll (by decide)
  obtain ⟨h1, h2, h3, h4, h5, h6⟩ := he
  (refine Tr.enter (rs := [.tmp 2]) mixed fn44 rfl (by simp +arith [Tryd.ntmps44]) fun u => ?_; simp only [cd44, Tryd.f44])
  ((try simp only [WKb, ↓reduceIte, WKt]) <;> (repeat' ((first
    | (refine G.tr ?_; first | refine S.a ?_ | refine S.t ?_ | refine Tr.brK ?_ ?_ | (refine G.call 58 ?_; refine S.c ?_ (h := decimalT_ok (by assumption))) | (refine G.call 18 ?_; refine S.c ?_ (h := tword_ok (by assumption))) | (refine G.call 86 ?_; refine S.c ?_ (h := join_ok ?_ ?_ ?_)) | refine S.n fun _ => ?_ | refine S.i fun hix => ?_ | (refine S.g fun hb => ?_; (try simp only [hb])) | (refine S.s (fun hb => ?_) (fun hb => ?_) <;> ((try simp only [hb]) <;> (try (have hp := hb; simp only [WKs] at hp; (try have hq := Int.not_le.2 hp); (try have hq := Int.not_lt.2 hp))))))
    | rintro _ _ ⟨rfl, rfl⟩
    | ((fail_if_success refine G.tr ?_); exact G.prop S.p)
    | fail) <;> (try simp only [WKb, ↓reduceIte, Nat.reduceEqDiff, pl44]))))
  all_goals
    refine Tr.fin hK ⟨rfl, rfl⟩ ?_
    ((try clear hK) <;> (try simp only [WKe, *]) <;> repeat (first | with_reducible exact EntR.done | refine S.e ?_ | (refine S.f ?_ <;> (try simp only [WKe, ↓reduceIte, reduceCtorEq, Int.reduceEq, *])) | with_reducible apply EntR.ex | refine EntR.drop (F := F) ?_ | refine EntR.drop ?_))

/-- So many words of an event's line. -/
def lineK (e : EvC) (k : Nat) : List UInt8 := joinA 32 ((evW e).take k)
theorem lineK_len {e : EvC} (h : e.ok) (k : Nat) : (lineK e k).length ≤ 132 := by
  obtain ⟨h1, h2, h3, h4, h5, h6⟩ := h
  have := joinA_bound (c := 32) (n := 21) (ws := (evW e).take k) fun w hw => by
    have hw := List.mem_of_mem_take hw
    simp only [evW, List.mem_cons, List.mem_nil_iff, or_false] at hw
    rcases hw with rfl | rfl | rfl | rfl | rfl | rfl
    · have := decA_len h1; omega
    · have := decA_len h2; omega
    · have := decA_len h3; omega
    · exact wordA_len h4
    · have := decA_len h5; omega
    · have := decA_len h6; omega
  have hl : ((evW e).take k).length ≤ 6 := by rw [List.length_take]; exact Nat.min_le_right _ _
  unfold lineK; omega
theorem tlineR_ok {u0 : Value} {e : EvC} [hd : DeA u0 e] (he : e.ok) : Trip Tryd.prog 49 [u0].toArray [] fun v l' => v = .string (bstr (lineE e)) ∧ l' = [] := by
  obtain rfl := hd.h
  intro F K hK
  simp only [List.nil_append]
  have hll := lineK_len he
  obtain ⟨h1, h2, h3, h4, h5, h6⟩ := he
  have d1 := decA_len h1
  have d2 := decA_len h2
  have d3 := decA_len h3
  have d4 := wordA_len h4
  have d5 := decA_len h5
  have d6 := decA_len h6
  have k0 : decA e.part = lineK e (0 + 1) := rfl
  have k1 : lineK e 1 ++ [32] ++ decA e.win = lineK e (1 + 1) := by simp [lineK, evW, joinA]
  have k2 : lineK e 2 ++ [32] ++ decA e.proc = lineK e (2 + 1) := by simp [lineK, evW, joinA]
  have k3 : lineK e 3 ++ [32] ++ wordA e.call = lineK e (3 + 1) := by simp [lineK, evW, joinA]
  have k4 : lineK e 4 ++ [32] ++ decA e.code = lineK e (4 + 1) := by simp [lineK, evW, joinA]
  have k5 : lineK e 5 ++ [32] ++ decA e.value = lineK e (5 + 1) := by simp [lineK, evW, joinA]
  have k6 : lineK e 6 = lineE e := rfl
  (refine Tr.enter (rs := [.tmp 2]) mixed fn49 rfl (by simp +arith [Tryd.ntmps49]) fun u => ?_; simp only [cd49, Tryd.f49])
  ((try simp only [WKb, ↓reduceIte, WKt]) <;> (repeat' ((first
    | (refine G.tr ?_; first | refine S.a ?_ | refine S.t ?_ | refine Tr.brK ?_ ?_ | (refine G.call 19 ?_; refine S.c ?_ (h := twordR_ok (by assumption))) | (refine G.call 62 ?_; first | refine S.c ?_ (h := decimalR_ok (by assumption)) | refine S.c ?_ (h := decimalR_ok ?_)) | refine S.n fun _ => ?_ | refine S.i fun hix => ?_ | (refine S.g fun hb => ?_; (try simp only [hb])) | (refine S.s (fun hb => ?_) (fun hb => ?_) <;> ((try simp only [hb]) <;> (try (have hp := hb; simp only [WKs] at hp; (try have hq := Int.not_le.2 hp); (try have hq := Int.not_lt.2 hp))))))
    | rintro _ _ ⟨rfl, rfl⟩
    | ((fail_if_success refine G.tr ?_); exact G.prop S.p)
    | fail) <;> (try simp only [WKb, ↓reduceIte, Nat.reduceEqDiff]))))
  rename_i b t
  refine Tr.loopE (α := Nat) [4, 5] [1, 2, 3] (fun k => [.string (bstr (lineK e k)), .int .i64 k]) (fun _ => [sl false t.v [e.part, e.win, e.proc, 0, e.code, e.value], blk b (.cells (En.enc e).toArray 78 (0, 0))]) (fun k => k ≤ 6) (fun k => 6 - k) 0 (by (repeat (first | exact TakeL.nil | (apply TakeL.cons; focus ((first | exact TakeA.dupS | exact TakeA.dupF | ((repeat (first | with_reducible exact TakeA.here | exact TakeA.fam (by omega) (by omega) | with_reducible apply TakeA.next)); done) | ((repeat (first | exact TakeA.here | apply TakeA.next)); done) | exact TakeA.famNil | exact TakeA.nilS))) | fail)); done) rfl (Nat.zero_le _) fun k u hx => ?_
  have hl := hll k
  obtain rfl | rfl | rfl | rfl | rfl | rfl | rfl : k = 0 ∨ k = 1 ∨ k = 2 ∨ k = 3 ∨ k = 4 ∨ k = 5 ∨ k = 6 := by omega
  · have hw := wrapSucc (k := 0) (by omega)
    have z0 : lineK e 0 = [] := rfl
    have i0 : ix [e.part, e.win, e.proc, 0, e.code, e.value] ((0 : Nat) : Int) = e.part := rfl
    ((try simp only [WKb, ↓reduceIte, Nat.reduceEqDiff, z0]) <;> (repeat' ((first
    | (refine G.tr ?_; first | refine S.a ?_ | refine S.t ?_ | refine Tr.brK ?_ ?_ | (refine G.call 19 ?_; refine S.c ?_ (h := twordR_ok (by assumption))) | (refine G.call 62 ?_; first | refine S.c ?_ (h := decimalR_ok (by assumption)) | refine S.c ?_ (h := decimalR_ok ?_)) | refine S.n fun _ => ?_ | refine S.i fun hix => ?_ | (refine S.g fun hb => ?_; (try simp only [hb])) | (refine S.s (fun hb => ?_) (fun hb => ?_) <;> ((try simp only [hb]) <;> (try (have hp := hb; simp only [WKs] at hp; (try have hq := Int.not_le.2 hp); (try have hq := Int.not_lt.2 hp))))))
    | rintro _ _ ⟨rfl, rfl⟩
    | ((fail_if_success refine G.tr ?_); exact G.prop S.p)
    | fail) <;> (try simp only [WKb, ↓reduceIte, Nat.reduceEqDiff, hw, i0]))))
    all_goals (apply Tr.againE (0 + 1); (focus (simp only [WKb, ↓reduceIte, Nat.reduceEqDiff])); (focus ((try simp only [WKb, ↓reduceIte, Nat.reduceEqDiff]); (all_goals ((repeat (refine cons_eq (by first | rfl | ((try clear hK) <;> first | (simp [*, k0]; done) | (simp [*, k0]; omega) | (simp [*, k0] <;> (try split) <;> simp_all <;> omega))) ?_)); rfl)); done)); (focus (first | omega | assumption | (simp only []; omega) | (refine ⟨by omega, by assumption⟩) | (simp only []; refine ⟨by omega, by assumption⟩) | ((try simp only []); (repeat' (first | omega | assumption | refine And.intro ?_ ?_)); done))); (focus (first | omega | (simp only []; omega))); (focus (((try clear hK) <;> (try simp only [WKe, *]) <;> repeat (first | with_reducible exact EntR.done | refine S.e ?_ | (refine S.f ?_ <;> (try simp only [WKe, k0, ↓reduceIte, reduceCtorEq, Int.reduceEq, *])) | with_reducible apply EntR.ex | refine EntR.drop (F := F) ?_ | refine EntR.drop ?_)))))
  · have hw := wrapSucc (k := 1) (by omega)
    have i0 : ix [e.part, e.win, e.proc, 0, e.code, e.value] ((1 : Nat) : Int) = e.win := rfl
    ((try simp only [WKb, ↓reduceIte, Nat.reduceEqDiff]) <;> (repeat' ((first
    | (refine G.tr ?_; first | refine S.a ?_ | refine S.t ?_ | refine Tr.brK ?_ ?_ | (refine G.call 19 ?_; refine S.c ?_ (h := twordR_ok (by assumption))) | (refine G.call 62 ?_; first | refine S.c ?_ (h := decimalR_ok (by assumption)) | refine S.c ?_ (h := decimalR_ok ?_)) | refine S.n fun _ => ?_ | refine S.i fun hix => ?_ | (refine S.g fun hb => ?_; (try simp only [hb])) | (refine S.s (fun hb => ?_) (fun hb => ?_) <;> ((try simp only [hb]) <;> (try (have hp := hb; simp only [WKs] at hp; (try have hq := Int.not_le.2 hp); (try have hq := Int.not_lt.2 hp))))))
    | rintro _ _ ⟨rfl, rfl⟩
    | ((fail_if_success refine G.tr ?_); exact G.prop S.p)
    | fail) <;> (try simp only [WKb, ↓reduceIte, Nat.reduceEqDiff, Nat.reduceAdd, hw, i0]))))
    all_goals (apply Tr.againE (1 + 1); (focus (simp only [WKb, ↓reduceIte, Nat.reduceEqDiff])); (focus ((try simp only [WKb, ↓reduceIte, Nat.reduceEqDiff, Nat.reduceAdd]); (all_goals ((repeat (refine cons_eq (by first | rfl | ((try clear hK) <;> first | (simp [*]; done) | (simp [*, k1]; omega) | (simp [*, k1] <;> (try split) <;> simp_all <;> omega))) ?_)); rfl)); done)); (focus (first | omega | assumption | (simp only []; omega) | (refine ⟨by omega, by assumption⟩) | (simp only []; refine ⟨by omega, by assumption⟩) | ((try simp only []); (repeat' (first | omega | assumption | refine And.intro ?_ ?_)); done))); (focus (first | omega | (simp only []; omega))); (focus (((try clear hK) <;> (try simp only [WKe, *]) <;> repeat (first | with_reducible exact EntR.done | refine S.e ?_ | (refine S.f ?_ <;> (try simp only [WKe, k1, ↓reduceIte, reduceCtorEq, Int.reduceEq, *])) | with_reducible apply EntR.ex | refine EntR.drop (F := F) ?_ | refine EntR.drop ?_)))))
  · have hw := wrapSucc (k := 2) (by omega)
    have i0 : ix [e.part, e.win, e.proc, 0, e.code, e.value] ((2 : Nat) : Int) = e.proc := rfl
    ((try simp only [WKb, ↓reduceIte, Nat.reduceEqDiff]) <;> (repeat' ((first
    | (refine G.tr ?_; first | refine S.a ?_ | refine S.t ?_ | refine Tr.brK ?_ ?_ | (refine G.call 19 ?_; refine S.c ?_ (h := twordR_ok (by assumption))) | (refine G.call 62 ?_; first | refine S.c ?_ (h := decimalR_ok (by assumption)) | refine S.c ?_ (h := decimalR_ok ?_)) | refine S.n fun _ => ?_ | refine S.i fun hix => ?_ | (refine S.g fun hb => ?_; (try simp only [hb])) | (refine S.s (fun hb => ?_) (fun hb => ?_) <;> ((try simp only [hb]) <;> (try (have hp := hb; simp only [WKs] at hp; (try have hq := Int.not_le.2 hp); (try have hq := Int.not_lt.2 hp))))))
    | rintro _ _ ⟨rfl, rfl⟩
    | ((fail_if_success refine G.tr ?_); exact G.prop S.p)
    | fail) <;> (try simp only [WKb, ↓reduceIte, Nat.reduceEqDiff, Nat.reduceAdd, hw, i0]))))
    all_goals (apply Tr.againE (2 + 1); (focus (simp only [WKb, ↓reduceIte, Nat.reduceEqDiff])); (focus ((try simp only [WKb, ↓reduceIte, Nat.reduceEqDiff, Nat.reduceAdd]); (all_goals ((repeat (refine cons_eq (by first | rfl | ((try clear hK) <;> first | (simp [*]; done) | (simp [*, k2]; omega) | (simp [*, k2] <;> (try split) <;> simp_all <;> omega))) ?_)); rfl)); done)); (focus (first | omega | assumption | (simp only []; omega) | (refine ⟨by omega, by assumption⟩) | (simp only []; refine ⟨by omega, by assumption⟩) | ((try simp only []); (repeat' (first | omega | assumption | refine And.intro ?_ ?_)); done))); (focus (first | omega | (simp only []; omega))); (focus (((try clear hK) <;> (try simp only [WKe, *]) <;> repeat (first | with_reducible exact EntR.done | refine S.e ?_ | (refine S.f ?_ <;> (try simp only [WKe, k2, ↓reduceIte, reduceCtorEq, Int.reduceEq, *])) | with_reducible apply EntR.ex | refine EntR.drop (F := F) ?_ | refine EntR.drop ?_)))))
  · have hw := wrapSucc (k := 3) (by omega)
    ((try simp only [WKb, ↓reduceIte, Nat.reduceEqDiff]) <;> (repeat' ((first
    | (refine G.tr ?_; first | refine S.a ?_ | refine S.t ?_ | refine Tr.brK ?_ ?_ | (refine G.call 19 ?_; refine S.c ?_ (h := twordR_ok (by assumption))) | (refine G.call 62 ?_; first | refine S.c ?_ (h := decimalR_ok (by assumption)) | refine S.c ?_ (h := decimalR_ok ?_)) | refine S.n fun _ => ?_ | refine S.i fun hix => ?_ | (refine S.g fun hb => ?_; (try simp only [hb])) | (refine S.s (fun hb => ?_) (fun hb => ?_) <;> ((try simp only [hb]) <;> (try (have hp := hb; simp only [WKs] at hp; (try have hq := Int.not_le.2 hp); (try have hq := Int.not_lt.2 hp))))))
    | rintro _ _ ⟨rfl, rfl⟩
    | ((fail_if_success refine G.tr ?_); exact G.prop S.p)
    | fail) <;> (try simp only [WKb, ↓reduceIte, Nat.reduceEqDiff, Nat.reduceAdd, hw]))))
    all_goals (apply Tr.againE (3 + 1); (focus (simp only [WKb, ↓reduceIte, Nat.reduceEqDiff])); (focus ((try simp only [WKb, ↓reduceIte, Nat.reduceEqDiff, Nat.reduceAdd]); (all_goals ((repeat (refine cons_eq (by first | rfl | ((try clear hK) <;> first | (simp [*]; done) | (simp [*, k3]; omega) | (simp [*, k3] <;> (try split) <;> simp_all <;> omega))) ?_)); rfl)); done)); (focus (first | omega | assumption | (simp only []; omega) | (refine ⟨by omega, by assumption⟩) | (simp only []; refine ⟨by omega, by assumption⟩) | ((try simp only []); (repeat' (first | omega | assumption | refine And.intro ?_ ?_)); done))); (focus (first | omega | (simp only []; omega))); (focus (((try clear hK) <;> (try simp only [WKe, *]) <;> repeat (first | with_reducible exact EntR.done | refine S.e ?_ | (refine S.f ?_ <;> (try simp only [WKe, k3, ↓reduceIte, reduceCtorEq, Int.reduceEq, *])) | with_reducible apply EntR.ex | refine EntR.drop (F := F) ?_ | refine EntR.drop ?_)))))
  · have hw := wrapSucc (k := 4) (by omega)
    have i0 : ix [e.part, e.win, e.proc, 0, e.code, e.value] ((4 : Nat) : Int) = e.code := rfl
    ((try simp only [WKb, ↓reduceIte, Nat.reduceEqDiff]) <;> (repeat' ((first
    | (refine G.tr ?_; first | refine S.a ?_ | refine S.t ?_ | refine Tr.brK ?_ ?_ | (refine G.call 19 ?_; refine S.c ?_ (h := twordR_ok (by assumption))) | (refine G.call 62 ?_; first | refine S.c ?_ (h := decimalR_ok (by assumption)) | refine S.c ?_ (h := decimalR_ok ?_)) | refine S.n fun _ => ?_ | refine S.i fun hix => ?_ | (refine S.g fun hb => ?_; (try simp only [hb])) | (refine S.s (fun hb => ?_) (fun hb => ?_) <;> ((try simp only [hb]) <;> (try (have hp := hb; simp only [WKs] at hp; (try have hq := Int.not_le.2 hp); (try have hq := Int.not_lt.2 hp))))))
    | rintro _ _ ⟨rfl, rfl⟩
    | ((fail_if_success refine G.tr ?_); exact G.prop S.p)
    | fail) <;> (try simp only [WKb, ↓reduceIte, Nat.reduceEqDiff, Nat.reduceAdd, hw, i0]))))
    all_goals (apply Tr.againE (4 + 1); (focus (simp only [WKb, ↓reduceIte, Nat.reduceEqDiff])); (focus ((try simp only [WKb, ↓reduceIte, Nat.reduceEqDiff, Nat.reduceAdd]); (all_goals ((repeat (refine cons_eq (by first | rfl | ((try clear hK) <;> first | (simp [*]; done) | (simp [*, k4]; omega) | (simp [*, k4] <;> (try split) <;> simp_all <;> omega))) ?_)); rfl)); done)); (focus (first | omega | assumption | (simp only []; omega) | (refine ⟨by omega, by assumption⟩) | (simp only []; refine ⟨by omega, by assumption⟩) | ((try simp only []); (repeat' (first | omega | assumption | refine And.intro ?_ ?_)); done))); (focus (first | omega | (simp only []; omega))); (focus (((try clear hK) <;> (try simp only [WKe, *]) <;> repeat (first | with_reducible exact EntR.done | refine S.e ?_ | (refine S.f ?_ <;> (try simp only [WKe, k4, ↓reduceIte, reduceCtorEq, Int.reduceEq, *])) | with_reducible apply EntR.ex | refine EntR.drop (F := F) ?_ | refine EntR.drop ?_)))))
  · have hw := wrapSucc (k := 5) (by omega)
    have i0 : ix [e.part, e.win, e.proc, 0, e.code, e.value] ((5 : Nat) : Int) = e.value := rfl
    ((try simp only [WKb, ↓reduceIte, Nat.reduceEqDiff]) <;> (repeat' ((first
    | (refine G.tr ?_; first | refine S.a ?_ | refine S.t ?_ | refine Tr.brK ?_ ?_ | (refine G.call 19 ?_; refine S.c ?_ (h := twordR_ok (by assumption))) | (refine G.call 62 ?_; first | refine S.c ?_ (h := decimalR_ok (by assumption)) | refine S.c ?_ (h := decimalR_ok ?_)) | refine S.n fun _ => ?_ | refine S.i fun hix => ?_ | (refine S.g fun hb => ?_; (try simp only [hb])) | (refine S.s (fun hb => ?_) (fun hb => ?_) <;> ((try simp only [hb]) <;> (try (have hp := hb; simp only [WKs] at hp; (try have hq := Int.not_le.2 hp); (try have hq := Int.not_lt.2 hp))))))
    | rintro _ _ ⟨rfl, rfl⟩
    | ((fail_if_success refine G.tr ?_); exact G.prop S.p)
    | fail) <;> (try simp only [WKb, ↓reduceIte, Nat.reduceEqDiff, Nat.reduceAdd, hw, i0]))))
    all_goals (apply Tr.againE (5 + 1); (focus (simp only [WKb, ↓reduceIte, Nat.reduceEqDiff])); (focus ((try simp only [WKb, ↓reduceIte, Nat.reduceEqDiff, Nat.reduceAdd]); (all_goals ((repeat (refine cons_eq (by first | rfl | ((try clear hK) <;> first | (simp [*]; done) | (simp [*, k5]; omega) | (simp [*, k5] <;> (try split) <;> simp_all <;> omega))) ?_)); rfl)); done)); (focus (first | omega | assumption | (simp only []; omega) | (refine ⟨by omega, by assumption⟩) | (simp only []; refine ⟨by omega, by assumption⟩) | ((try simp only []); (repeat' (first | omega | assumption | refine And.intro ?_ ?_)); done))); (focus (first | omega | (simp only []; omega))); (focus (((try clear hK) <;> (try simp only [WKe, *]) <;> repeat (first | with_reducible exact EntR.done | refine S.e ?_ | (refine S.f ?_ <;> (try simp only [WKe, k5, ↓reduceIte, reduceCtorEq, Int.reduceEq, *])) | with_reducible apply EntR.ex | refine EntR.drop (F := F) ?_ | refine EntR.drop ?_)))))
  · ((try simp only [WKb, ↓reduceIte, Nat.reduceEqDiff]) <;> (repeat' ((first
    | (refine G.tr ?_; first | refine S.a ?_ | refine S.t ?_ | refine Tr.brK ?_ ?_ | (refine G.call 19 ?_; refine S.c ?_ (h := twordR_ok (by assumption))) | (refine G.call 62 ?_; first | refine S.c ?_ (h := decimalR_ok (by assumption)) | refine S.c ?_ (h := decimalR_ok ?_)) | refine S.n fun _ => ?_ | refine S.i fun hix => ?_ | (refine S.g fun hb => ?_; (try simp only [hb])) | (refine S.s (fun hb => ?_) (fun hb => ?_) <;> ((try simp only [hb]) <;> (try (have hp := hb; simp only [WKs] at hp; (try have hq := Int.not_le.2 hp); (try have hq := Int.not_lt.2 hp))))))
    | rintro _ _ ⟨rfl, rfl⟩
    | ((fail_if_success refine G.tr ?_); exact G.prop S.p)
    | fail) <;> (try simp only [WKb, ↓reduceIte, Nat.reduceEqDiff]))))
    all_goals
      refine Tr.fin hK ⟨by rw [k6], rfl⟩ ?_
      ((try clear hK) <;> (try simp only [WKe, *]) <;> repeat (first | with_reducible exact EntR.done | refine S.e ?_ | (refine S.f ?_ <;> (try simp only [WKe, ↓reduceIte, reduceCtorEq, Int.reduceEq, *])) | with_reducible apply EntR.ex | refine EntR.drop (F := F) ?_ | refine EntR.drop ?_))

end Go.Proofs.YtgkhjgpgdfbdpaaDoor
