import Derived.Test.YtgkhjgpgdfbdpaaDoorYW
import Derived.Test.YtgkhjgpgdfbdpaaDoorYL
import Derived.Test.YtgkhjgpgdfbdpaaDoorYax
namespace Go.Proofs.YtgkhjgpgdfbdpaaDoor
open Go Go.Wk
set_option maxHeartbeats 6400000
set_option maxRecDepth 100000

instance : ElT 22 EvC := ⟨⟩
theorem ev_mem {xs : List EvC} {k : Nat} (h : k < xs.length) : ix xs (k : Int) ∈ xs := List.mem_of_getElem? (ix_some (by omega) (by omega))
theorem ev_take {xs : List EvC} {k : Nat} (h : k < xs.length) : textE (xs.take (k + 1)) = textE (xs.take k) ++ lineE (ix xs (k : Int)) ++ [10] := by
  rw [textE_take h]
  have : ix xs (k : Int) = xs[k] := by
    have := ix_some (xs := xs) (k := (k : Int)) (by omega) (by omega)
    rw [Int.toNat_natCast, List.getElem?_eq_getElem h] at this
    exact (Option.some.inj this).symm
  rw [this]
attribute [local irreducible] BrK GenK EGenK EUnitK CallK FnK CallV GuardO GuardC CondW opX opK opKc chkR eqR seqK blkK endL WL WD W LoopW BinK Tr drewK resL PickK NotK NilK ExtrK getK Instr.storeAt Instr.loadAt Instr.fieldAt Instr.indexAt Instr.lookup Instr.mapUpdate Instr.box Instr.alloc Instr.build Instr.buildSlice Instr.makeSlice Instr.makeMap Instr.sliceAt Instr.field Instr.index Instr.makeInterface Instr.typeAssert Builtin.len_ Builtin.append_ Builtin.cap_ Builtin.min_ Builtin.max_ Builtin.copy_ Builtin.clear_ convert binOp mp blk rob sl sep ex fact old
attribute [local irreducible] NegK mxV bufT bldB
theorem tprint_ok {ro : Bool} {v : Value} {xs : List EvC} (hok : ∀ e ∈ xs, e.ok) : Trip Tryd.prog 14 [v].toArray [sl ro v xs] fun u l' => u = .tuple #[.string (bstr (printE xs).1), .int .i64 (printE xs).2] ∧ l' = [sl ro v xs] := by
  intro F K hK
  simp only [List.cons_append, List.nil_append]
  refine Tr.bound (ro := ro) (v := v) (xs := xs) (by (repeat (first | exact Has.here | apply Has.next)); done) fun hbd => ?_
  (refine Tr.enter (rs := [.tmp 2, .tmp 3]) mixed fn14 rfl (by simp +arith [Tryd.ntmps14]) fun u => ?_; simp only [cd14, Tryd.f14])
  ((try simp only [WKb, WKt]) <;> (repeat' ((first
    | (refine G.tr ?_; first | refine S.a ?_ | refine S.t ?_ | refine Tr.brK ?_ ?_ | (refine G.call 44 ?_; refine S.c ?_ (h := tline_ok (by assumption))) | (refine G.call 45 ?_; refine S.c ?_ (h := wstr_ok ?_)) | (refine G.call 46 ?_; first | refine S.c ?_ (h := wbyte_ok ?_) | refine S.c ?_ (h := wbyte_ok (c := 10) ?_)) | (refine G.call 47 ?_; refine S.c ?_ (h := blen_ok)) | (refine G.call 48 ?_; refine S.c ?_ (h := bstr_ok)) | refine S.n fun _ => ?_ | refine S.i fun hix => ?_ | (refine S.g fun hb => ?_; (try simp only [hb])) | (refine S.s (fun hb => ?_) (fun hb => ?_) <;> ((try simp only [hb]) <;> (try (have hp := hb; simp only [WKs] at hp; (try have hq := Int.not_le.2 hp); (try have hq := Int.not_lt.2 hp))))))
    | rintro _ _ ⟨rfl, rfl⟩
    | ((fail_if_success refine G.tr ?_); exact G.prop S.p)
    | fail) <;> (try simp only [WKb, ↓reduceIte, Nat.reduceEqDiff]))))
  rename_i b
  refine bld_init (e := 5) ?_
  refine Tr.loopE (α := Nat) [2, 3, 9] [4, 7, 8] (fun k => [.string (bstr []), .int .i64 0, .int .i64 k]) (fun k => [bld b (textE (xs.take k)), sl ro v xs]) (fun k => k ≤ xs.length ∧ (textE (xs.take k)).length ≤ 65536) (fun k => xs.length - k) 0 (by (repeat (first | exact TakeL.nil | (apply TakeL.cons; focus ((first | exact TakeA.dupS | exact TakeA.dupF | ((repeat (first | with_reducible exact TakeA.here | exact TakeA.fam (by omega) (by omega) | with_reducible apply TakeA.next)); done) | ((repeat (first | exact TakeA.here | apply TakeA.next)); done) | exact TakeA.famNil | exact TakeA.nilS))) | fail)); done) rfl ⟨Nat.zero_le _, Nat.zero_le _⟩ fun k u hx => ?_
  obtain ⟨hk, hl⟩ := hx
  by_cases hin : k < xs.length
  · have hw := wrapSucc (k := k) (by omega)
    have he := hok _ (ev_mem hin)
    have hll := lineE_len he
    have hnx := (ev_take hin).symm
    have hln := congrArg List.length hnx
    simp only [List.length_append, List.length_singleton] at hln
    have hln2 : (textE (xs.take k) ++ lineE (ix xs (k : Int))).length + 1 ≤ 100000000 := by rw [List.length_append]; omega
    by_cases hbig : 65536 < (textE (xs.take (k + 1))).length
    · have hp2 := printE_big hbig
      ((try simp only [WKb, ↓reduceIte, Nat.reduceEqDiff]) <;> (repeat' ((first
    | (refine G.tr ?_; first | refine S.a ?_ | refine S.t ?_ | refine Tr.brK ?_ ?_ | (refine G.call 44 ?_; refine S.c ?_ (h := tline_ok (by assumption))) | (refine G.call 45 ?_; refine S.c ?_ (h := wstr_ok ?_)) | (refine G.call 46 ?_; first | refine S.c ?_ (h := wbyte_ok ?_) | refine S.c ?_ (h := wbyte_ok (c := 10) ?_)) | (refine G.call 47 ?_; refine S.c ?_ (h := blen_ok)) | (refine G.call 48 ?_; refine S.c ?_ (h := bstr_ok)) | refine S.n fun _ => ?_ | refine S.i fun hix => ?_ | (refine S.g fun hb => ?_; (try simp only [hb])) | (refine S.s (fun hb => ?_) (fun hb => ?_) <;> ((try simp only [hb]) <;> (try (have hp := hb; simp only [WKs] at hp; (try have hq := Int.not_le.2 hp); (try have hq := Int.not_lt.2 hp))))))
    | rintro _ _ ⟨rfl, rfl⟩
    | ((fail_if_success refine G.tr ?_); exact G.prop S.p)
    | fail) <;> (try simp only [WKb, ↓reduceIte, Nat.reduceEqDiff, hnx]))))
      all_goals
        refine Tr.fin hK ⟨by rw [hp2], rfl⟩ ?_
        ((try clear hK) <;> (try simp only [WKe, *]) <;> repeat (first | with_reducible exact EntR.done | refine S.e ?_ | (refine S.f ?_ <;> (try simp only [WKe, ↓reduceIte, reduceCtorEq, Int.reduceEq, *])) | with_reducible apply EntR.ex | refine EntR.drop (F := F) ?_ | refine EntR.drop ?_))
    · ((try simp only [WKb, ↓reduceIte, Nat.reduceEqDiff]) <;> (repeat' ((first
    | (refine G.tr ?_; first | refine S.a ?_ | refine S.t ?_ | refine Tr.brK ?_ ?_ | (refine G.call 44 ?_; refine S.c ?_ (h := tline_ok (by assumption))) | (refine G.call 45 ?_; refine S.c ?_ (h := wstr_ok ?_)) | (refine G.call 46 ?_; first | refine S.c ?_ (h := wbyte_ok ?_) | refine S.c ?_ (h := wbyte_ok (c := 10) ?_)) | (refine G.call 47 ?_; refine S.c ?_ (h := blen_ok)) | (refine G.call 48 ?_; refine S.c ?_ (h := bstr_ok)) | refine S.n fun _ => ?_ | refine S.i fun hix => ?_ | (refine S.g fun hb => ?_; (try simp only [hb])) | (refine S.s (fun hb => ?_) (fun hb => ?_) <;> ((try simp only [hb]) <;> (try (have hp := hb; simp only [WKs] at hp; (try have hq := Int.not_le.2 hp); (try have hq := Int.not_lt.2 hp))))))
    | rintro _ _ ⟨rfl, rfl⟩
    | ((fail_if_success refine G.tr ?_); exact G.prop S.p)
    | fail) <;> (try simp only [WKb, ↓reduceIte, Nat.reduceEqDiff, hw, hnx]))))
      all_goals (apply Tr.againE (k + 1); (focus (simp only [WKb, ↓reduceIte, Nat.reduceEqDiff])); (focus ((try simp only [WKb, ↓reduceIte, Nat.reduceEqDiff]); (all_goals ((repeat (refine cons_eq (by first | rfl | (simp [*]; done)) ?_)); rfl)); done)); (focus (first | omega | assumption | (simp only []; omega) | (refine ⟨by omega, by assumption⟩) | (simp only []; refine ⟨by omega, by assumption⟩) | ((try simp only []); (repeat' (first | omega | assumption | refine And.intro ?_ ?_)); done))); (focus (first | omega | (simp only []; omega))); (focus (((try clear hK) <;> (try simp only [WKe, *]) <;> repeat (first | with_reducible exact EntR.done | refine S.e ?_ | (refine S.f ?_ <;> (try simp only [WKe, ↓reduceIte, reduceCtorEq, Int.reduceEq, *])) | with_reducible apply EntR.ex | refine EntR.drop (F := F) ?_ | refine EntR.drop ?_)))))
  · have hke : k = xs.length := by omega
    subst hke
    rw [List.take_length] at hl
    have hp2 := printE_ok hl
    have ht : xs.take xs.length = xs := List.take_length
    ((try simp only [WKb, ↓reduceIte, Nat.reduceEqDiff, ht]) <;> (repeat' ((first
    | (refine G.tr ?_; first | refine S.a ?_ | refine S.t ?_ | refine Tr.brK ?_ ?_ | (refine G.call 44 ?_; refine S.c ?_ (h := tline_ok (by assumption))) | (refine G.call 45 ?_; refine S.c ?_ (h := wstr_ok ?_)) | (refine G.call 46 ?_; first | refine S.c ?_ (h := wbyte_ok ?_) | refine S.c ?_ (h := wbyte_ok (c := 10) ?_)) | (refine G.call 47 ?_; refine S.c ?_ (h := blen_ok)) | (refine G.call 48 ?_; refine S.c ?_ (h := bstr_ok)) | refine S.n fun _ => ?_ | refine S.i fun hix => ?_ | (refine S.g fun hb => ?_; (try simp only [hb])) | (refine S.s (fun hb => ?_) (fun hb => ?_) <;> ((try simp only [hb]) <;> (try (have hp := hb; simp only [WKs] at hp; (try have hq := Int.not_le.2 hp); (try have hq := Int.not_lt.2 hp))))))
    | rintro _ _ ⟨rfl, rfl⟩
    | ((fail_if_success refine G.tr ?_); exact G.prop S.p)
    | fail) <;> (try simp only [WKb, ↓reduceIte, Nat.reduceEqDiff]))))
    all_goals
      refine Tr.fin hK ⟨by rw [hp2], rfl⟩ ?_
      ((try clear hK) <;> (try simp only [WKe, *]) <;> repeat (first | with_reducible exact EntR.done | refine S.e ?_ | (refine S.f ?_ <;> (try simp only [WKe, ↓reduceIte, reduceCtorEq, Int.reduceEq, *])) | with_reducible apply EntR.ex | refine EntR.drop (F := F) ?_ | refine EntR.drop ?_))

theorem tprintR_ok {ro : Bool} {v : Value} {xs : List EvC} (hok : ∀ e ∈ xs, e.ok) : Trip Tryd.prog 15 [v].toArray [sl ro v xs] fun u l' => u = .tuple #[.string (bstr (printE xs).1), .int .i64 (printE xs).2] ∧ l' = [sl ro v xs] := by
  intro F K hK
  simp only [List.cons_append, List.nil_append]
  refine Tr.bound (ro := ro) (v := v) (xs := xs) (by (repeat (first | exact Has.here | apply Has.next)); done) fun hbd => ?_
  (refine Tr.enter (rs := [.tmp 2, .tmp 3]) mixed fn15 rfl (by simp +arith [Tryd.ntmps15]) fun u => ?_; simp only [cd15, Tryd.f15])
  ((try simp only [WKb, WKt]) <;> (repeat' ((first
    | (refine G.tr ?_; first | refine S.a ?_ | refine S.t ?_ | refine Tr.brK ?_ ?_ | (refine G.call 49 ?_; refine S.c ?_ (h := tlineR_ok (by assumption))) | refine S.n fun _ => ?_ | refine S.i fun hix => ?_ | (refine S.g fun hb => ?_; (try simp only [hb])) | (refine S.s (fun hb => ?_) (fun hb => ?_) <;> ((try simp only [hb]) <;> (try (have hp := hb; simp only [WKs] at hp; (try have hq := Int.not_le.2 hp); (try have hq := Int.not_lt.2 hp))))))
    | rintro _ _ ⟨rfl, rfl⟩
    | ((fail_if_success refine G.tr ?_); exact G.prop S.p)
    | fail) <;> (try simp only [WKb, WKh, ↓reduceIte, Nat.reduceEqDiff, Nat.reduceAdd, Nat.reduceSub, Int.reduceEq, Int.reduceLT, Int.reduceLE, WKt, pl15]))))
  refine Tr.loopE (α := Nat) [2, 3, 4, 5] [0] (fun k => [.string (bstr []), .int .i64 0, .string (bstr (textE (xs.take k))), .int .i64 k]) (fun _ => [sl ro v xs]) (fun k => k ≤ xs.length ∧ (textE (xs.take k)).length ≤ 65536) (fun k => xs.length - k) 0 (by (repeat (first | exact TakeL.nil | (apply TakeL.cons; focus ((first | exact TakeA.dupS | exact TakeA.dupF | ((repeat (first | with_reducible exact TakeA.here | exact TakeA.fam (by omega) (by omega) | with_reducible apply TakeA.next)); done) | ((repeat (first | exact TakeA.here | apply TakeA.next)); done) | exact TakeA.famNil | exact TakeA.nilS))) | fail)); done) rfl ⟨Nat.zero_le _, Nat.zero_le _⟩ fun k u hx => ?_
  obtain ⟨hk, hl⟩ := hx
  by_cases hin : k < xs.length
  · have hw := wrapSucc (k := k) (by omega)
    have he := hok _ (ev_mem hin)
    have hll := lineE_len he
    have hnx := (ev_take hin).symm
    have hln := congrArg List.length hnx
    simp only [List.length_append, List.length_singleton] at hln
    by_cases hbig : 65536 < (textE (xs.take (k + 1))).length
    · have hp2 := printE_big hbig
      ((try simp only [WKb, ↓reduceIte, Nat.reduceEqDiff]) <;> (repeat' ((first
    | (refine G.tr ?_; first | refine S.a ?_ | refine S.t ?_ | refine Tr.brK ?_ ?_ | (refine G.call 49 ?_; refine S.c ?_ (h := tlineR_ok (by assumption))) | refine S.n fun _ => ?_ | refine S.i fun hix => ?_ | (refine S.g fun hb => ?_; (try simp only [hb])) | (refine S.s (fun hb => ?_) (fun hb => ?_) <;> ((try simp only [hb]) <;> (try (have hp := hb; simp only [WKs] at hp; (try have hq := Int.not_le.2 hp); (try have hq := Int.not_lt.2 hp))))))
    | rintro _ _ ⟨rfl, rfl⟩
    | ((fail_if_success refine G.tr ?_); exact G.prop S.p)
    | fail) <;> (try simp only [WKb, ↓reduceIte, Nat.reduceEqDiff, WKt, hnx]))))
      all_goals
        refine Tr.fin hK ⟨by rw [hp2], rfl⟩ ?_
        ((try clear hK) <;> (try simp only [WKe, *]) <;> repeat (first | with_reducible exact EntR.done | refine S.e ?_ | (refine S.f ?_ <;> (try simp only [WKe, ↓reduceIte, reduceCtorEq, Int.reduceEq, *])) | with_reducible apply EntR.ex | refine EntR.drop (F := F) ?_ | refine EntR.drop ?_))
    · ((try simp only [WKb, ↓reduceIte, Nat.reduceEqDiff]) <;> (repeat' ((first
    | (refine G.tr ?_; first | refine S.a ?_ | refine S.t ?_ | refine Tr.brK ?_ ?_ | (refine G.call 49 ?_; refine S.c ?_ (h := tlineR_ok (by assumption))) | refine S.n fun _ => ?_ | refine S.i fun hix => ?_ | (refine S.g fun hb => ?_; (try simp only [hb])) | (refine S.s (fun hb => ?_) (fun hb => ?_) <;> ((try simp only [hb]) <;> (try (have hp := hb; simp only [WKs] at hp; (try have hq := Int.not_le.2 hp); (try have hq := Int.not_lt.2 hp))))))
    | rintro _ _ ⟨rfl, rfl⟩
    | ((fail_if_success refine G.tr ?_); exact G.prop S.p)
    | fail) <;> (try simp only [WKb, ↓reduceIte, Nat.reduceEqDiff, WKt, hw, hnx]))))
      all_goals (apply Tr.againE (k + 1); (focus (simp only [WKb, ↓reduceIte, Nat.reduceEqDiff])); (focus ((try simp only [WKb, ↓reduceIte, Nat.reduceEqDiff]); (all_goals ((repeat (refine cons_eq (by first | rfl | (simp [*]; done)) ?_)); rfl)); done)); (focus (first | omega | assumption | (simp only []; omega) | (refine ⟨by omega, by assumption⟩) | (simp only []; refine ⟨by omega, by assumption⟩) | ((try simp only []); (repeat' (first | omega | assumption | refine And.intro ?_ ?_)); done))); (focus (first | omega | (simp only []; omega))); (focus (((try clear hK) <;> (try simp only [WKe, *]) <;> repeat (first | with_reducible exact EntR.done | refine S.e ?_ | (refine S.f ?_ <;> (try simp only [WKe, ↓reduceIte, reduceCtorEq, Int.reduceEq, *])) | with_reducible apply EntR.ex | refine EntR.drop (F := F) ?_ | refine EntR.drop ?_)))))
  · have hke : k = xs.length := by omega
    subst hke
    rw [List.take_length] at hl
    have hp2 := printE_ok hl
    have ht : xs.take xs.length = xs := List.take_length
    ((try simp only [WKb, ↓reduceIte, Nat.reduceEqDiff, ht]) <;> (repeat' ((first
    | (refine G.tr ?_; first | refine S.a ?_ | refine S.t ?_ | refine Tr.brK ?_ ?_ | (refine G.call 49 ?_; refine S.c ?_ (h := tlineR_ok (by assumption))) | refine S.n fun _ => ?_ | refine S.i fun hix => ?_ | (refine S.g fun hb => ?_; (try simp only [hb])) | (refine S.s (fun hb => ?_) (fun hb => ?_) <;> ((try simp only [hb]) <;> (try (have hp := hb; simp only [WKs] at hp; (try have hq := Int.not_le.2 hp); (try have hq := Int.not_lt.2 hp))))))
    | rintro _ _ ⟨rfl, rfl⟩
    | ((fail_if_success refine G.tr ?_); exact G.prop S.p)
    | fail) <;> (try simp only [WKb, ↓reduceIte, Nat.reduceEqDiff]))))
    all_goals
      refine Tr.fin hK ⟨by rw [hp2], rfl⟩ ?_
      ((try clear hK) <;> (try simp only [WKe, *]) <;> repeat (first | with_reducible exact EntR.done | refine S.e ?_ | (refine S.f ?_ <;> (try simp only [WKe, ↓reduceIte, reduceCtorEq, Int.reduceEq, *])) | with_reducible apply EntR.ex | refine EntR.drop (F := F) ?_ | refine EntR.drop ?_))

end Go.Proofs.YtgkhjgpgdfbdpaaDoor
