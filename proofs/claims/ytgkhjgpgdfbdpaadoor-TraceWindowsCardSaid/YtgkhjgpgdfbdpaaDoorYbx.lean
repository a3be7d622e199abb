import Derived.Test.YtgkhjgpgdfbdpaaDoorYR
namespace Go.Proofs.YtgkhjgpgdfbdpaaDoor
open Go Go.Wk
set_option maxHeartbeats 6400000
set_option maxRecDepth 100000

theorem drop_cut {c : UInt8} {s : List UInt8} {a k : Nat} (h1 : a ≤ k) (h2 : k < s.length) (hb : bix s (k : Int) = c) : s.drop a = (s.take k).drop a ++ c :: s.drop (k + 1) := by
  rw [bix_nat h2] at hb
  have hs : s = s.take k ++ s[k] :: s.drop (k + 1) := by
    rw [← List.drop_eq_getElem_cons h2, List.take_append_drop]
  have hl : a ≤ (s.take k).length := by rw [List.length_take]; omega
  calc s.drop a = (s.take k ++ s[k] :: s.drop (k + 1)).drop a := by rw [← hs]
    _ = _ := by rw [List.drop_append_of_le_length hl, hb]
theorem not_in {c : UInt8} {s : List UInt8} {a k : Nat} (h2 : k ≤ s.length) (hn : ∀ j : Nat, a ≤ j → j < k → bix s (j : Int) ≠ c) : c ∉ (s.take k).drop a := fun hm => by
  obtain ⟨j, hj, he⟩ := List.getElem_of_mem hm
  rw [List.length_drop, List.length_take] at hj
  rw [List.getElem_drop, List.getElem_take] at he
  exact hn (a + j) (by omega) (by omega) (by rw [bix_nat (by omega)]; exact he)
theorem tcut_ok {s : List UInt8} {m : Int} (hs : s.length ≤ 4294967280) : Trip Tryd.prog 63 [.string (bstr s), .string (bstr [10])].toArray [mxB m] fun v l' => v = .tuple #[.string (bstr (cutA 10 s).1), .string (bstr (cutA 10 s).2.1), .bool (cutA 10 s).2.2] ∧ l' = [] := trip_cut Tryd.strings_Cut hs

instance {x1 x2 x3 x4 x5 x6 : Int} {l : List Asrt} : De l (.agg [.int .i64 x1, .int .i64 x2, .int .i64 x3, .int .i64 x4, .int .i64 x5, .int .i64 x6].toArray) (EvC.mk x1 x2 x3 x4 x5 x6) := ⟨rfl⟩
attribute [local irreducible] BrK GenK EGenK EUnitK CallK FnK CallV GuardO GuardC CondW opX opK opKc chkR eqR seqK blkK endL WL WD W LoopW BinK Tr drewK resL PickK NotK NilK ExtrK getK Instr.storeAt Instr.loadAt Instr.fieldAt Instr.indexAt Instr.lookup Instr.mapUpdate Instr.box Instr.alloc Instr.build Instr.buildSlice Instr.makeSlice Instr.makeMap Instr.sliceAt Instr.field Instr.index Instr.makeInterface Instr.typeAssert Builtin.len_ Builtin.append_ Builtin.cap_ Builtin.min_ Builtin.max_ Builtin.copy_ Builtin.clear_ convert binOp mp blk rob sl sep ex fact old
attribute [local irreducible] NegK mxV bufT bldB okW valW
theorem tread_ok {s : List UInt8} {m : Int} : Trip Tryd.prog 20 [.string (bstr s)].toArray [mxB m]
    fun v l' => ∃ t : SV, v = .tuple #[t.v, .int .i64 (readE s).2.1, .int .i64 (readE s).2.2] ∧ l' = [sl false t.v (readE s).1] := by
  intro F K hK
  simp only [List.cons_append, List.nil_append]
  have fin0 : ∀ (l : List Asrt) (a e : Int), readE s = ([], a, e) → EntR [] l F → Tr l (K (.tuple #[.slice none 0 0, .int .i64 a, .int .i64 e])) := fun l a e h he => by
    refine Tr.nilSl (α := EvC) ?_
    refine Tr.fin hK ⟨⟨none, 0, 0⟩, by rw [h]; rfl, rfl⟩ ?_
    rw [h]
    exact EntR.take TakeA.here he
  (refine Tr.enter (rs := [.tmp 2, .tmp 3, .tmp 4]) mixed fn20 rfl (by simp +arith [Tryd.ntmps20]) fun u => ?_; simp only [cd20, Tryd.f20])
  by_cases hbig : 65536 < s.length
  · have hR := readE_big hbig
    ((try simp only [WKb, ↓reduceIte, Nat.reduceEqDiff, WKt]) <;> (repeat' ((first
    | (refine G.tr ?_; first | refine S.a ?_ | refine S.t ?_ | refine Tr.brK ?_ ?_ | (refine G.call 63 ?_; refine S.c ?_ (h := tcut_ok ?_)) | (refine G.call 64 ?_; refine S.c ?_ (h := tone_ok ?_)) | refine S.n fun _ => ?_ | refine S.i fun hix => ?_ | (refine S.g fun hb => ?_; (try simp only [hb])) | (refine S.s (fun hb => ?_) (fun hb => ?_) <;> ((try simp only [hb]) <;> (try (have hp := hb; simp only [WKs] at hp; (try have hq := Int.not_le.2 hp); (try have hq := Int.not_lt.2 hp))))))
    | rintro _ _ ⟨rfl, rfl⟩
    | rintro _ _ ⟨_, hone, rfl, rfl⟩
    | ((fail_if_success refine G.tr ?_); exact G.prop S.p)
    | fail) <;> (try simp only [WKb, ↓reduceIte, Nat.reduceEqDiff]))))
    all_goals
      refine fin0 _ _ _ hR ?_
      ((try clear hK) <;> (try simp only [WKe, ↓reduceIte, reduceCtorEq, Int.reduceEq, *]) <;> repeat (first | with_reducible exact EntR.done | refine S.e ?_ | (refine S.f ?_ <;> (try simp only [WKe, ↓reduceIte, reduceCtorEq, Int.reduceEq, *])) | with_reducible apply EntR.ex | refine EntR.drop (F := F) ?_ | refine EntR.drop ?_))
  · have hsl : s.length ≤ 65536 := by omega
    ((try simp only [WKb, ↓reduceIte, Nat.reduceEqDiff, WKt]) <;> (repeat' ((first
    | (refine G.tr ?_; first | refine S.a ?_ | refine S.t ?_ | refine Tr.brK ?_ ?_ | (refine G.call 63 ?_; refine S.c ?_ (h := tcut_ok ?_)) | (refine G.call 64 ?_; refine S.c ?_ (h := tone_ok ?_)) | refine S.n fun _ => ?_ | refine S.i fun hix => ?_ | (refine S.g fun hb => ?_; (try simp only [hb])) | (refine S.s (fun hb => ?_) (fun hb => ?_) <;> ((try simp only [hb]) <;> (try (have hp := hb; simp only [WKs] at hp; (try have hq := Int.not_le.2 hp); (try have hq := Int.not_lt.2 hp))))))
    | rintro _ _ ⟨rfl, rfl⟩
    | rintro _ _ ⟨_, hone, rfl, rfl⟩
    | ((fail_if_success refine G.tr ?_); exact G.prop S.p)
    | fail) <;> (try simp only [WKb]))))
    refine Tr.nilSl (α := EvC) ?_
    refine Tr.loopE (α := SV × List EvC × List UInt8) [0, 2, 3, 4, 5] [] (fun x => [.string (bstr x.2.2), .slice none 0 0, .int .i64 0, .int .i64 0, x.1.v]) (fun x => [sl false x.1.v x.2.1, mxB m])
      (fun x => rdS s x.2.1 x.2.2 ∧ x.2.1.length + x.2.2.length ≤ s.length) (fun x => x.2.2.length) (⟨none, 0, 0⟩, [], s) (by (repeat (first | exact TakeL.nil | (apply TakeL.cons; focus ((first | exact TakeA.dupS | exact TakeA.dupF | ((repeat (first | with_reducible exact TakeA.here | exact TakeA.fam (by omega) (by omega) | with_reducible apply TakeA.next)); done) | ((repeat (first | exact TakeA.here | apply TakeA.next)); done) | exact TakeA.famNil | exact TakeA.nilS))) | fail)); done) rfl ⟨rdS_init, by simp⟩ fun x u hx => ?_
    obtain ⟨t, done, r0⟩ := x
    simp only at hx ⊢
    obtain ⟨hI, hln⟩ := hx
    by_cases hz : r0 = []
    · have hd : decide (r0 = []) = true := decide_eq_true hz
      subst hz
      have hR := rdS_end hsl hI
      ((try simp only [WKb, WKh, ↓reduceIte, Nat.reduceEqDiff]) <;> (repeat' ((first
    | (refine G.tr ?_; first | refine S.a ?_ | refine S.t ?_ | refine Tr.brK ?_ ?_ | (refine G.call 63 ?_; refine S.c ?_ (h := tcut_ok ?_)) | (refine G.call 64 ?_; refine S.c ?_ (h := tone_ok ?_)) | refine S.n fun _ => ?_ | refine S.i fun hix => ?_ | (refine S.g fun hb => ?_; (try simp only [hb])) | (refine S.s (fun hb => ?_) (fun hb => ?_) <;> ((try simp only [hb]) <;> (try (have hp := hb; simp only [WKs] at hp; (try have hq := Int.not_le.2 hp); (try have hq := Int.not_lt.2 hp))))))
    | rintro _ _ ⟨rfl, rfl⟩
    | rintro _ _ ⟨_, hone, rfl, rfl⟩
    | ((fail_if_success refine G.tr ?_); exact G.prop S.p)
    | fail) <;> (try simp only [WKb, WKh, ↓reduceIte, Nat.reduceEqDiff, Nat.reduceAdd, Nat.reduceSub, Int.reduceEq, Int.reduceLT, Int.reduceLE, WKt, pl20, hd]))))
      all_goals
        apply Tr.fin hK ⟨_, by rw [hR], rfl⟩
        rw [hR]
        ((try clear hK) <;> (try simp only [WKe, *]) <;> repeat (first | with_reducible exact EntR.done | refine S.e ?_ | (refine S.f ?_ <;> (try simp only [WKe, ↓reduceIte, reduceCtorEq, Int.reduceEq, *])) | with_reducible apply EntR.ex | refine EntR.drop (F := F) ?_ | refine EntR.drop ?_))
    · have hd : decide (r0 = []) = false := decide_eq_false hz
      rcases cut_split (c := 10) r0 with hno | ⟨w, r, hr, hnw⟩
      · have hc := cutA_miss hno
        have hR := rdS_open hsl hI hno hz
        have hwl : IntKind.i64.wrap ((done.length : Int) + 1) = (done.length : Int) + 1 := wrapId (by omega) (by omega)
        ((try simp only [WKb, WKh, ↓reduceIte, Nat.reduceEqDiff, hd]) <;> (repeat' ((first
    | (refine G.tr ?_; first | refine S.a ?_ | refine S.t ?_ | refine Tr.brK ?_ ?_ | (refine G.call 63 ?_; refine S.c ?_ (h := tcut_ok ?_)) | (refine G.call 64 ?_; refine S.c ?_ (h := tone_ok ?_)) | refine S.n fun _ => ?_ | refine S.i fun hix => ?_ | (refine S.g fun hb => ?_; (try simp only [hb])) | (refine S.s (fun hb => ?_) (fun hb => ?_) <;> ((try simp only [hb]) <;> (try (have hp := hb; simp only [WKs] at hp; (try have hq := Int.not_le.2 hp); (try have hq := Int.not_lt.2 hp))))))
    | rintro _ _ ⟨rfl, rfl⟩
    | rintro _ _ ⟨_, hone, rfl, rfl⟩
    | ((fail_if_success refine G.tr ?_); exact G.prop S.p)
    | fail) <;> (try simp only [WKb, ↓reduceIte, Nat.reduceEqDiff, hc, hwl]))))
        all_goals
          refine fin0 _ _ _ hR ?_
          ((try clear hK) <;> (try simp only [WKe, ↓reduceIte, reduceCtorEq, Int.reduceEq, *]) <;> repeat (first | with_reducible exact EntR.done | refine S.e ?_ | (refine S.f ?_ <;> (try simp only [WKe, ↓reduceIte, reduceCtorEq, Int.reduceEq, *])) | with_reducible apply EntR.ex | refine EntR.drop (F := F) ?_ | refine EntR.drop ?_))
      · have hc : cutA 10 r0 = (w, r, true) := by rw [hr]; exact cutA_hit hnw
        have hrl : r0.length = w.length + r.length + 1 := by rw [hr]; simp; omega
        have hwl : IntKind.i64.wrap ((done.length : Int) + 1) = (done.length : Int) + 1 := wrapId (by omega) (by omega)
        cases ho : oneE w with
        | none =>
          have hos : (oneE w).isSome = false := by rw [ho]; rfl
          have hR := rdS_bad hsl (hr ▸ hI) hnw ho
          ((try simp only [WKb, WKh, ↓reduceIte, Nat.reduceEqDiff, hd]) <;> (repeat' ((first
    | (refine G.tr ?_; first | refine S.a ?_ | refine S.t ?_ | refine Tr.brK ?_ ?_ | (refine G.call 63 ?_; refine S.c ?_ (h := tcut_ok ?_)) | (refine G.call 64 ?_; refine S.c ?_ (h := tone_ok ?_)) | refine S.n fun _ => ?_ | refine S.i fun hix => ?_ | (refine S.g fun hb => ?_; (try simp only [hb])) | (refine S.s (fun hb => ?_) (fun hb => ?_) <;> ((try simp only [hb]) <;> (try (have hp := hb; simp only [WKs] at hp; (try have hq := Int.not_le.2 hp); (try have hq := Int.not_lt.2 hp))))))
    | rintro _ _ ⟨rfl, rfl⟩
    | rintro _ _ ⟨_, hone, rfl, rfl⟩
    | ((fail_if_success refine G.tr ?_); exact G.prop S.p)
    | fail) <;> (try simp only [WKb, ↓reduceIte, Nat.reduceEqDiff, hc, hos, hwl]))))
          all_goals
            refine fin0 _ _ _ hR ?_
            ((try clear hK) <;> (try simp only [WKe, ↓reduceIte, reduceCtorEq, Int.reduceEq, *]) <;> repeat (first | with_reducible exact EntR.done | refine S.e ?_ | (refine S.f ?_ <;> (try simp only [WKe, ↓reduceIte, reduceCtorEq, Int.reduceEq, *])) | with_reducible apply EntR.ex | refine EntR.drop (F := F) ?_ | refine EntR.drop ?_))
        | some e =>
          have hos : (oneE w).isSome = true := by rw [ho]; rfl
          have hI' := rdS_next (hr ▸ hI) hnw ho
          have hln' : (done ++ [e]).length + r.length ≤ s.length := by simp; omega
          ((try simp only [WKb, WKh, ↓reduceIte, Nat.reduceEqDiff, hd]) <;> (repeat' ((first
    | (refine G.tr ?_; first | refine S.a ?_ | refine S.t ?_ | refine Tr.brK ?_ ?_ | (refine G.call 63 ?_; refine S.c ?_ (h := tcut_ok ?_)) | (refine G.call 64 ?_; refine S.c ?_ (h := tone_ok ?_)) | refine S.n fun _ => ?_ | refine S.i fun hix => ?_ | (refine S.g fun hb => ?_; (try simp only [hb])) | (refine S.s (fun hb => ?_) (fun hb => ?_) <;> ((try simp only [hb]) <;> (try (have hp := hb; simp only [WKs] at hp; (try have hq := Int.not_le.2 hp); (try have hq := Int.not_lt.2 hp))))))
    | rintro _ _ ⟨rfl, rfl⟩
    | rintro _ _ ⟨_, hone, rfl, rfl⟩
    | ((fail_if_success refine G.tr ?_); exact G.prop S.p)
    | fail) <;> (try simp only [WKb, ↓reduceIte, Nat.reduceEqDiff, hc, hos]))))
          all_goals
            obtain rfl := hone _ ho
            (apply Tr.againE ((_, _, _)); (focus (simp only [WKb])); (focus ((try simp only [WKb, ↓reduceIte, Nat.reduceEqDiff, Nat.reduceAdd, Nat.reduceSub, hw]); (all_goals ((repeat (refine cons_eq (by first | rfl | (simp [*]; done)) ?_)); rfl)); done)); (focus (first | omega | assumption | (simp only []; omega) | (refine ⟨by omega, by assumption⟩) | (simp only []; refine ⟨by omega, by assumption⟩) | ((try simp only []); (repeat' (first | omega | assumption | apply hI' | apply hln' | refine And.intro ?_ ?_)); done))); (focus (first | omega | (simp only []; omega))); (focus (((try clear hK) <;> (try simp only [WKe, *]) <;> repeat (first | with_reducible exact EntR.done | refine S.e ?_ | (refine S.f ?_ <;> (try simp only [WKe, ↓reduceIte, reduceCtorEq, Int.reduceEq, *])) | with_reducible apply EntR.ex | refine EntR.drop (F := F) ?_ | refine EntR.drop ?_)))))

end Go.Proofs.YtgkhjgpgdfbdpaaDoor

namespace Go.Proofs.YtgkhjgpgdfbdpaaDoor
open Go Go.Wk
set_option maxHeartbeats 6400000
set_option maxRecDepth 100000

attribute [local irreducible] BrK GenK EGenK EUnitK CallK FnK CallV GuardO GuardC CondW opX opK opKc chkR eqR seqK blkK endL WL WD W LoopW BinK Tr drewK resL PickK NotK NilK ExtrK getK Instr.storeAt Instr.loadAt Instr.fieldAt Instr.indexAt Instr.lookup Instr.mapUpdate Instr.box Instr.alloc Instr.build Instr.buildSlice Instr.makeSlice Instr.makeMap Instr.sliceAt Instr.field Instr.index Instr.makeInterface Instr.typeAssert Builtin.len_ Builtin.append_ Builtin.cap_ Builtin.min_ Builtin.max_ Builtin.copy_ Builtin.clear_ convert binOp mp blk rob sl sep ex fact old
attribute [local irreducible] NegK mxV bufT bldB okW valW
theorem treadR_ok {s : List UInt8} : Trip Tryd.prog 21 [.string (bstr s)].toArray []
    fun v l' => ∃ t : SV, v = .tuple #[t.v, .int .i64 (readE s).2.1, .int .i64 (readE s).2.2] ∧ l' = [sl false t.v (readE s).1] := by
  intro F K hK
  simp only [List.nil_append]
  have fin0 : ∀ (l : List Asrt) (a e : Int), readE s = ([], a, e) → EntR [] l F → Tr l (K (.tuple #[.slice none 0 0, .int .i64 a, .int .i64 e])) := fun l a e h he => by
    refine Tr.nilSl (α := EvC) ?_
    refine Tr.fin hK ⟨⟨none, 0, 0⟩, by rw [h]; rfl, rfl⟩ ?_
    rw [h]
    exact EntR.take TakeA.here he
  (refine Tr.enter (rs := [.tmp 2, .tmp 3, .tmp 4]) mixed fn21 rfl (by simp +arith [Tryd.ntmps21]) fun u => ?_; simp only [cd21, Tryd.f21])
  by_cases hbig : 65536 < s.length
  · have hR := readE_big hbig
    ((try simp only [WKb, ↓reduceIte, Nat.reduceEqDiff, WKt]) <;> (repeat' ((first
    | (refine G.tr ?_; first | refine S.a ?_ | refine S.t ?_ | refine Tr.brK ?_ ?_ | (refine G.call 65 ?_; refine S.c ?_ (h := toneR_ok ?_)) | refine S.n fun _ => ?_ | refine S.i fun hix => ?_ | (refine S.g fun hb => ?_; (try simp only [hb])) | (refine S.s (fun hb => ?_) (fun hb => ?_) <;> ((try simp only [hb]) <;> (try (have hp := hb; simp only [WKs] at hp; (try have hq := Int.not_le.2 hp); (try have hq := Int.not_lt.2 hp))))))
    | rintro _ _ ⟨_, hone, rfl, rfl⟩
    | ((fail_if_success refine G.tr ?_); exact G.prop S.p)
    | fail) <;> (try simp only [WKb, ↓reduceIte, Nat.reduceEqDiff]))))
    all_goals
      refine fin0 _ _ _ hR ?_
      ((try clear hK) <;> (try simp only [WKe, ↓reduceIte, reduceCtorEq, Int.reduceEq, *]) <;> repeat (first | with_reducible exact EntR.done | refine S.e ?_ | (refine S.f ?_ <;> (try simp only [WKe, ↓reduceIte, reduceCtorEq, Int.reduceEq, *])) | with_reducible apply EntR.ex | refine EntR.drop (F := F) ?_ | refine EntR.drop ?_))
  · have hsl : s.length ≤ 65536 := by omega
    ((try simp only [WKb, ↓reduceIte, Nat.reduceEqDiff, WKt]) <;> (repeat' ((first
    | (refine G.tr ?_; first | refine S.a ?_ | refine S.t ?_ | refine Tr.brK ?_ ?_ | (refine G.call 65 ?_; refine S.c ?_ (h := toneR_ok ?_)) | refine S.n fun _ => ?_ | refine S.i fun hix => ?_ | (refine S.g fun hb => ?_; (try simp only [hb])) | (refine S.s (fun hb => ?_) (fun hb => ?_) <;> ((try simp only [hb]) <;> (try (have hp := hb; simp only [WKs] at hp; (try have hq := Int.not_le.2 hp); (try have hq := Int.not_lt.2 hp))))))
    | rintro _ _ ⟨_, hone, rfl, rfl⟩
    | ((fail_if_success refine G.tr ?_); exact G.prop S.p)
    | fail) <;> (try simp only [WKb]))))
    refine Tr.nilSl (α := EvC) ?_
    refine Tr.loopE (α := SV × List EvC × Nat × Nat) [2, 3, 4, 5, 6, 7] [0] (fun x => [.slice none 0 0, .int .i64 0, .int .i64 0, x.1.v, .int .i64 x.2.2.1, .int .i64 x.2.2.2]) (fun x => [sl false x.1.v x.2.1])
      (fun x => rdS s x.2.1 (s.drop x.2.2.1) ∧ x.2.1.length ≤ x.2.2.1 ∧ x.2.2.1 ≤ x.2.2.2 ∧ x.2.2.2 ≤ s.length ∧ ∀ j : Nat, x.2.2.1 ≤ j → j < x.2.2.2 → bix s (j : Int) ≠ 10) (fun x => s.length - x.2.2.2) (⟨none, 0, 0⟩, [], 0, 0) (by (repeat (first | exact TakeL.nil | (apply TakeL.cons; focus ((first | exact TakeA.dupS | exact TakeA.dupF | ((repeat (first | with_reducible exact TakeA.here | exact TakeA.fam (by omega) (by omega) | with_reducible apply TakeA.next)); done) | ((repeat (first | exact TakeA.here | apply TakeA.next)); done) | exact TakeA.famNil | exact TakeA.nilS))) | fail)); done) rfl ⟨rdS_init, Nat.le_refl _, Nat.le_refl _, Nat.zero_le _, fun j _ h => absurd h (Nat.not_lt_zero _)⟩ fun x u hx => ?_
    obtain ⟨t, done, p, k⟩ := x
    simp only at hx ⊢
    obtain ⟨hI, hdl, hpk, hks, hn⟩ := hx
    have hw := wrapSucc (k := k) (by omega)
    have hwl : IntKind.i64.wrap ((done.length : Int) + 1) = (done.length : Int) + 1 := wrapId (by omega) (by omega)
    by_cases hin : k < s.length
    · by_cases hb : bix s (k : Int) = 10
      · have hd : (((bix s (k : Int)).toNat : Int) = 10) = True := by rw [hb]; simp
        have hr := drop_cut hpk hin hb
        have hnw := not_in (by omega) hn
        have hwl2 : ((s.take k).drop p).length ≤ 1000000 := by rw [List.length_drop, List.length_take]; omega
        obtain ⟨w, hwd⟩ : ∃ w, (s.take k).drop p = w := ⟨_, rfl⟩
        rw [hwd] at hr hnw hwl2
        cases ho : oneE w with
        | none =>
          have hos : (oneE w).isSome = false := by rw [ho]; rfl
          have hR := rdS_bad hsl (hr ▸ hI) hnw ho
          ((try simp only [WKb, ↓reduceIte, Nat.reduceEqDiff, WKt]) <;> (repeat' ((first
    | (refine G.tr ?_; first | refine S.a ?_ | refine S.t ?_ | refine Tr.brK ?_ ?_ | (refine G.call 65 ?_; refine S.c ?_ (h := toneR_ok ?_)) | refine S.n fun _ => ?_ | refine S.i fun hix => ?_ | (refine S.g fun hb => ?_; (try simp only [hb])) | (refine S.s (fun hb => ?_) (fun hb => ?_) <;> ((try simp only [hb]) <;> (try (have hp := hb; simp only [WKs] at hp; (try have hq := Int.not_le.2 hp); (try have hq := Int.not_lt.2 hp))))))
    | rintro _ _ ⟨_, hone, rfl, rfl⟩
    | ((fail_if_success refine G.tr ?_); exact G.prop S.p)
    | fail) <;> (try simp only [WKb, ↓reduceIte, Nat.reduceEqDiff, hd, hwd, hos, hwl, Int.toNat_natCast]))))
          all_goals
            refine fin0 _ _ _ hR ?_
            ((try clear hK) <;> (try simp only [WKe, ↓reduceIte, reduceCtorEq, Int.reduceEq, *]) <;> repeat (first | with_reducible exact EntR.done | refine S.e ?_ | (refine S.f ?_ <;> (try simp only [WKe, ↓reduceIte, reduceCtorEq, Int.reduceEq, *])) | with_reducible apply EntR.ex | refine EntR.drop (F := F) ?_ | refine EntR.drop ?_))
        | some e =>
          have hos : (oneE w).isSome = true := by rw [ho]; rfl
          have hI' := rdS_next (hr ▸ hI) hnw ho
          have hln' : (done ++ [e]).length ≤ k + 1 := by simp; omega
          have hn' : ∀ j : Nat, k + 1 ≤ j → j < k + 1 → bix s (j : Int) ≠ 10 := fun j h1 h2 => by omega
          ((try simp only [WKb, ↓reduceIte, Nat.reduceEqDiff, WKt]) <;> (repeat' ((first
    | (refine G.tr ?_; first | refine S.a ?_ | refine S.t ?_ | refine Tr.brK ?_ ?_ | (refine G.call 65 ?_; refine S.c ?_ (h := toneR_ok ?_)) | refine S.n fun _ => ?_ | refine S.i fun hix => ?_ | (refine S.g fun hb => ?_; (try simp only [hb])) | (refine S.s (fun hb => ?_) (fun hb => ?_) <;> ((try simp only [hb]) <;> (try (have hp := hb; simp only [WKs] at hp; (try have hq := Int.not_le.2 hp); (try have hq := Int.not_lt.2 hp))))))
    | rintro _ _ ⟨_, hone, rfl, rfl⟩
    | ((fail_if_success refine G.tr ?_); exact G.prop S.p)
    | fail) <;> (try simp only [WKb, ↓reduceIte, Nat.reduceEqDiff, hd, hwd, hos, hw, Int.toNat_natCast]))))
          all_goals
            obtain rfl := hone _ ho
            (apply Tr.againE ((_, _, k + 1, k + 1)); (focus (simp only [WKb, ↓reduceIte, Nat.reduceEqDiff])); (focus ((try simp only [WKb, ↓reduceIte, Nat.reduceEqDiff]); (all_goals ((repeat (refine cons_eq (by first | rfl | (simp [*]; done)) ?_)); rfl)); done)); (focus (first | omega | assumption | (simp only []; omega) | (refine ⟨by omega, by assumption⟩) | (simp only []; refine ⟨by omega, by assumption⟩) | ((try simp only []); (repeat' (first | omega | assumption | apply hI' | apply hln' | apply hn' | refine And.intro ?_ ?_)); done))); (focus (first | omega | (simp only []; omega))); (focus (((try clear hK) <;> (try simp only [WKe, *]) <;> repeat (first | with_reducible exact EntR.done | refine S.e ?_ | (refine S.f ?_ <;> (try simp only [WKe, ↓reduceIte, reduceCtorEq, Int.reduceEq, *])) | with_reducible apply EntR.ex | refine EntR.drop (F := F) ?_ | refine EntR.drop ?_)))))
      · have hd : (((bix s (k : Int)).toNat : Int) = 10) = False := eq_false fun h => hb (UInt8.toNat_inj.1 (by have : (10 : UInt8).toNat = 10 := rfl; omega))
        have hn' : ∀ j : Nat, p ≤ j → j < k + 1 → bix s (j : Int) ≠ 10 := fun j h1 h2 => by
          by_cases hjk : j < k
          · exact hn j h1 hjk
          · have : j = k := by omega
            subst this; exact hb
        clear hb
        ((try simp only [WKb, ↓reduceIte, Nat.reduceEqDiff, WKt]) <;> (repeat' ((first
    | (refine G.tr ?_; first | refine S.a ?_ | refine S.t ?_ | refine Tr.brK ?_ ?_ | (refine G.call 65 ?_; refine S.c ?_ (h := toneR_ok ?_)) | refine S.n fun _ => ?_ | refine S.i fun hix => ?_ | (refine S.g fun hb => ?_; (try simp only [hb])) | (refine S.s (fun hb => ?_) (fun hb => ?_) <;> ((try simp only [hb]) <;> (try (have hp := hb; simp only [WKs] at hp; (try have hq := Int.not_le.2 hp); (try have hq := Int.not_lt.2 hp))))))
    | rintro _ _ ⟨_, hone, rfl, rfl⟩
    | ((fail_if_success refine G.tr ?_); exact G.prop S.p)
    | fail) <;> (try simp only [WKb, ↓reduceIte, Nat.reduceEqDiff, hd, hw]))))
        all_goals (apply Tr.againE ((_, _, p, k + 1)); (focus (simp only [WKb, ↓reduceIte, Nat.reduceEqDiff])); (focus ((try simp only [WKb, ↓reduceIte, Nat.reduceEqDiff]); (all_goals ((repeat (refine cons_eq (by first | rfl | (simp [*]; done)) ?_)); rfl)); done)); (focus (first | omega | assumption | (simp only []; omega) | (refine ⟨by omega, by assumption⟩) | (simp only []; refine ⟨by omega, by assumption⟩) | ((try simp only []); (repeat' (first | omega | assumption | apply hI | apply hn' | refine And.intro ?_ ?_)); done))); (focus (first | omega | (simp only []; omega))); (focus (((try clear hK) <;> (try simp only [WKe, *]) <;> repeat (first | with_reducible exact EntR.done | refine S.e ?_ | (refine S.f ?_ <;> (try simp only [WKe, ↓reduceIte, reduceCtorEq, Int.reduceEq, *])) | with_reducible apply EntR.ex | refine EntR.drop (F := F) ?_ | refine EntR.drop ?_)))))
    · have hke : k = s.length := by omega
      subst hke
      by_cases hp2 : p < s.length
      · have hnw := not_in (Nat.le_refl _) hn
        rw [List.take_length] at hnw
        have hne : s.drop p ≠ [] := fun h => by
          have := congrArg List.length h
          simp at this; omega
        have hR := rdS_open hsl hI hnw hne
        ((try simp only [WKb, ↓reduceIte, Nat.reduceEqDiff, WKt]) <;> (repeat' ((first
    | (refine G.tr ?_; first | refine S.a ?_ | refine S.t ?_ | refine Tr.brK ?_ ?_ | (refine G.call 65 ?_; refine S.c ?_ (h := toneR_ok ?_)) | refine S.n fun _ => ?_ | refine S.i fun hix => ?_ | (refine S.g fun hb => ?_; (try simp only [hb])) | (refine S.s (fun hb => ?_) (fun hb => ?_) <;> ((try simp only [hb]) <;> (try (have hp := hb; simp only [WKs] at hp; (try have hq := Int.not_le.2 hp); (try have hq := Int.not_lt.2 hp))))))
    | rintro _ _ ⟨_, hone, rfl, rfl⟩
    | ((fail_if_success refine G.tr ?_); exact G.prop S.p)
    | fail) <;> (try simp only [WKb, ↓reduceIte, Nat.reduceEqDiff, WKt, hwl]))))
        all_goals
          refine fin0 _ _ _ hR ?_
          ((try clear hK) <;> (try simp only [WKe, ↓reduceIte, reduceCtorEq, Int.reduceEq, *]) <;> repeat (first | with_reducible exact EntR.done | refine S.e ?_ | (refine S.f ?_ <;> (try simp only [WKe, ↓reduceIte, reduceCtorEq, Int.reduceEq, *])) | with_reducible apply EntR.ex | refine EntR.drop (F := F) ?_ | refine EntR.drop ?_))
      · have hz : s.drop p = [] := List.drop_of_length_le (by omega)
        have hR := rdS_end hsl (hz ▸ hI)
        ((try simp only [WKb, ↓reduceIte, Nat.reduceEqDiff, WKt]) <;> (repeat' ((first
    | (refine G.tr ?_; first | refine S.a ?_ | refine S.t ?_ | refine Tr.brK ?_ ?_ | (refine G.call 65 ?_; refine S.c ?_ (h := toneR_ok ?_)) | refine S.n fun _ => ?_ | refine S.i fun hix => ?_ | (refine S.g fun hb => ?_; (try simp only [hb])) | (refine S.s (fun hb => ?_) (fun hb => ?_) <;> ((try simp only [hb]) <;> (try (have hp := hb; simp only [WKs] at hp; (try have hq := Int.not_le.2 hp); (try have hq := Int.not_lt.2 hp))))))
    | rintro _ _ ⟨_, hone, rfl, rfl⟩
    | ((fail_if_success refine G.tr ?_); exact G.prop S.p)
    | fail) <;> (try simp only [WKb, ↓reduceIte, Nat.reduceEqDiff, WKt]))))
        all_goals
          apply Tr.fin hK ⟨_, by rw [hR], rfl⟩
          rw [hR]
          ((try clear hK) <;> (try simp only [WKe, *]) <;> repeat (first | with_reducible exact EntR.done | refine S.e ?_ | (refine S.f ?_ <;> (try simp only [WKe, ↓reduceIte, reduceCtorEq, Int.reduceEq, *])) | with_reducible apply EntR.ex | refine EntR.drop (F := F) ?_ | refine EntR.drop ?_))

end Go.Proofs.YtgkhjgpgdfbdpaaDoor

namespace Go.Proofs.YtgkhjgpgdfbdpaaDoor
open Go Go.Wk
set_option maxHeartbeats 6400000
set_option maxRecDepth 100000

attribute [local irreducible] BrK GenK EGenK EUnitK CallK FnK CallV GuardO GuardC CondW opX opK opKc chkR eqR seqK blkK endL WL WD W LoopW BinK Tr drewK resL PickK NotK NilK ExtrK getK Instr.storeAt Instr.loadAt Instr.fieldAt Instr.indexAt Instr.lookup Instr.mapUpdate Instr.box Instr.alloc Instr.build Instr.buildSlice Instr.makeSlice Instr.makeMap Instr.sliceAt Instr.field Instr.index Instr.makeInterface Instr.typeAssert Builtin.len_ Builtin.append_ Builtin.cap_ Builtin.min_ Builtin.max_ Builtin.copy_ Builtin.clear_ convert binOp mp blk rob sl sep ex fact old
attribute [local irreducible] NegK mxV bufT bldB okW valW
theorem sameEv_ok {ro r2 : Bool} {v v2 : Value} {xs : List EvC} : Trip Tryd.prog 22 [v, v2].toArray [sl ro v xs, sl r2 v2 xs] fun u l' => u = .bool true ∧ l' = [sl ro v xs, sl r2 v2 xs] := by
  intro F K hK
  simp only [List.cons_append, List.nil_append]
  refine Tr.bound (ro := ro) (v := v) (xs := xs) (by (repeat (first | exact Has.here | apply Has.next)); done) fun hbd => ?_
  (refine Tr.enter (rs := [.tmp 4]) mixed fn22 rfl (by simp +arith [Tryd.ntmps22]) fun u => ?_; simp only [cd22, Tryd.f22])
  ((try simp only [WKb, ↓reduceIte, Nat.reduceEqDiff, Nat.reduceAdd]) <;> (repeat' ((first
    | (refine G.tr ?_; first | refine S.a ?_ | refine S.t ?_ | refine Tr.brK ?_ ?_ | refine S.n fun _ => ?_ | refine S.i fun hix => ?_ | (refine S.g fun hb => ?_; (try simp only [hb])) | (refine S.s (fun hb => ?_) (fun hb => ?_) <;> ((try simp only [hb]) <;> (try (have hp := hb; simp only [WKs] at hp; (try have hq := Int.not_le.2 hp); (try have hq := Int.not_lt.2 hp))))))
    | ((fail_if_success refine G.tr ?_); exact G.prop S.p)
    | fail) <;> (try simp only [WKb, ↓reduceIte, Nat.reduceEqDiff]))))
  refine Tr.loopE (α := Nat) [4, 5] [0, 1] (fun k => [.bool false, .int .i64 k]) (fun _ => [sl ro v xs, sl r2 v2 xs]) (fun k => k ≤ xs.length) (fun k => xs.length - k) 0 (by (repeat (first | exact TakeL.nil | (apply TakeL.cons; focus ((first | exact TakeA.dupS | exact TakeA.dupF | ((repeat (first | with_reducible exact TakeA.here | exact TakeA.fam (by omega) (by omega) | with_reducible apply TakeA.next)); done) | ((repeat (first | exact TakeA.here | apply TakeA.next)); done) | exact TakeA.famNil | exact TakeA.nilS))) | fail)); done) rfl (Nat.zero_le _) fun k u hx => ?_
  by_cases hin : k < xs.length
  · have hw := wrapSucc (k := k) (by omega)
    ((try simp only [WKb, ↓reduceIte, Nat.reduceEqDiff]) <;> (repeat' ((first
    | (refine G.tr ?_; first | refine S.a ?_ | refine S.t ?_ | refine Tr.brK ?_ ?_ | refine S.n fun _ => ?_ | refine S.i fun hix => ?_ | (refine S.g fun hb => ?_; (try simp only [hb])) | (refine S.s (fun hb => ?_) (fun hb => ?_) <;> ((try simp only [hb]) <;> (try (have hp := hb; simp only [WKs] at hp; (try have hq := Int.not_le.2 hp); (try have hq := Int.not_lt.2 hp))))))
    | ((fail_if_success refine G.tr ?_); exact G.prop S.p)
    | fail) <;> (try simp only [WKb, ↓reduceIte, Nat.reduceEqDiff, pl22, hw]))))
    all_goals (apply Tr.againE (k + 1); (focus (simp only [WKb, ↓reduceIte, Nat.reduceEqDiff])); (focus ((try simp only [WKb, ↓reduceIte, Nat.reduceEqDiff]); (all_goals ((repeat (refine cons_eq (by first | rfl | (simp [*]; done)) ?_)); rfl)); done)); (focus (first | omega | assumption | (simp only []; omega) | (refine ⟨by omega, by assumption⟩) | (simp only []; refine ⟨by omega, by assumption⟩) | ((try simp only []); (repeat' (first | omega | assumption | refine And.intro ?_ ?_)); done))); (focus (first | omega | (simp only []; omega))); (focus (((try clear hK) <;> (try simp only [WKe, *]) <;> repeat (first | with_reducible exact EntR.done | refine S.e ?_ | (refine S.f ?_ <;> (try simp only [WKe, ↓reduceIte, reduceCtorEq, Int.reduceEq, *])) | with_reducible apply EntR.ex | refine EntR.drop (F := F) ?_ | refine EntR.drop ?_)))))
  · have hke : k = xs.length := by omega
    subst hke
    ((try simp only [WKb, ↓reduceIte, Nat.reduceEqDiff]) <;> (repeat' ((first
    | (refine G.tr ?_; first | refine S.a ?_ | refine S.t ?_ | refine Tr.brK ?_ ?_ | refine S.n fun _ => ?_ | refine S.i fun hix => ?_ | (refine S.g fun hb => ?_; (try simp only [hb])) | (refine S.s (fun hb => ?_) (fun hb => ?_) <;> ((try simp only [hb]) <;> (try (have hp := hb; simp only [WKs] at hp; (try have hq := Int.not_le.2 hp); (try have hq := Int.not_lt.2 hp))))))
    | ((fail_if_success refine G.tr ?_); exact G.prop S.p)
    | fail) <;> (try simp only [WKb, ↓reduceIte, Nat.reduceEqDiff]))))
    all_goals
      refine Tr.fin hK ⟨rfl, rfl⟩ ?_
      ((try clear hK) <;> (try simp only [WKe, *]) <;> repeat (first | with_reducible exact EntR.done | refine S.e ?_ | (refine S.f ?_ <;> (try simp only [WKe, ↓reduceIte, reduceCtorEq, Int.reduceEq, *])) | with_reducible apply EntR.ex | refine EntR.drop (F := F) ?_ | refine EntR.drop ?_))

theorem sameInt_ok {ro r2 : Bool} {v v2 : Value} {xs : List Int} : Trip Tryd.prog 25 [v, v2].toArray [sl ro v xs, sl r2 v2 xs] fun u l' => u = .bool true ∧ l' = [sl ro v xs, sl r2 v2 xs] := by
  intro F K hK
  simp only [List.cons_append, List.nil_append]
  refine Tr.bound (ro := ro) (v := v) (xs := xs) (by (repeat (first | exact Has.here | apply Has.next)); done) fun hbd => ?_
  (refine Tr.enter (rs := [.tmp 4]) mixed fn25 rfl (by simp +arith [Tryd.ntmps25]) fun u => ?_; simp only [cd25, Tryd.f25])
  ((try simp only [WKb, ↓reduceIte, Nat.reduceEqDiff, Nat.reduceAdd]) <;> (repeat' ((first
    | (refine G.tr ?_; first | refine S.a ?_ | refine S.t ?_ | refine Tr.brK ?_ ?_ | refine S.n fun _ => ?_ | refine S.i fun hix => ?_ | (refine S.g fun hb => ?_; (try simp only [hb])) | (refine S.s (fun hb => ?_) (fun hb => ?_) <;> ((try simp only [hb]) <;> (try (have hp := hb; simp only [WKs] at hp; (try have hq := Int.not_le.2 hp); (try have hq := Int.not_lt.2 hp))))))
    | ((fail_if_success refine G.tr ?_); exact G.prop S.p)
    | fail) <;> (try simp only [WKb, ↓reduceIte, Nat.reduceEqDiff]))))
  refine Tr.loopE (α := Nat) [4, 5] [0, 1] (fun k => [.bool false, .int .i64 k]) (fun _ => [sl ro v xs, sl r2 v2 xs]) (fun k => k ≤ xs.length) (fun k => xs.length - k) 0 (by (repeat (first | exact TakeL.nil | (apply TakeL.cons; focus ((first | exact TakeA.dupS | exact TakeA.dupF | ((repeat (first | with_reducible exact TakeA.here | exact TakeA.fam (by omega) (by omega) | with_reducible apply TakeA.next)); done) | ((repeat (first | exact TakeA.here | apply TakeA.next)); done) | exact TakeA.famNil | exact TakeA.nilS))) | fail)); done) rfl (Nat.zero_le _) fun k u hx => ?_
  by_cases hin : k < xs.length
  · have hw := wrapSucc (k := k) (by omega)
    ((try simp only [WKb, ↓reduceIte, Nat.reduceEqDiff]) <;> (repeat' ((first
    | (refine G.tr ?_; first | refine S.a ?_ | refine S.t ?_ | refine Tr.brK ?_ ?_ | refine S.n fun _ => ?_ | refine S.i fun hix => ?_ | (refine S.g fun hb => ?_; (try simp only [hb])) | (refine S.s (fun hb => ?_) (fun hb => ?_) <;> ((try simp only [hb]) <;> (try (have hp := hb; simp only [WKs] at hp; (try have hq := Int.not_le.2 hp); (try have hq := Int.not_lt.2 hp))))))
    | ((fail_if_success refine G.tr ?_); exact G.prop S.p)
    | fail) <;> (try simp only [WKb, ↓reduceIte, Nat.reduceEqDiff, pl25, hw]))))
    all_goals (apply Tr.againE (k + 1); (focus (simp only [WKb, ↓reduceIte, Nat.reduceEqDiff])); (focus ((try simp only [WKb, ↓reduceIte, Nat.reduceEqDiff]); (all_goals ((repeat (refine cons_eq (by first | rfl | (simp [*]; done)) ?_)); rfl)); done)); (focus (first | omega | assumption | (simp only []; omega) | (refine ⟨by omega, by assumption⟩) | (simp only []; refine ⟨by omega, by assumption⟩) | ((try simp only []); (repeat' (first | omega | assumption | refine And.intro ?_ ?_)); done))); (focus (first | omega | (simp only []; omega))); (focus (((try clear hK) <;> (try simp only [WKe, *]) <;> repeat (first | with_reducible exact EntR.done | refine S.e ?_ | (refine S.f ?_ <;> (try simp only [WKe, ↓reduceIte, reduceCtorEq, Int.reduceEq, *])) | with_reducible apply EntR.ex | refine EntR.drop (F := F) ?_ | refine EntR.drop ?_)))))
  · have hke : k = xs.length := by omega
    subst hke
    ((try simp only [WKb, ↓reduceIte, Nat.reduceEqDiff]) <;> (repeat' ((first
    | (refine G.tr ?_; first | refine S.a ?_ | refine S.t ?_ | refine Tr.brK ?_ ?_ | refine S.n fun _ => ?_ | refine S.i fun hix => ?_ | (refine S.g fun hb => ?_; (try simp only [hb])) | (refine S.s (fun hb => ?_) (fun hb => ?_) <;> ((try simp only [hb]) <;> (try (have hp := hb; simp only [WKs] at hp; (try have hq := Int.not_le.2 hp); (try have hq := Int.not_lt.2 hp))))))
    | ((fail_if_success refine G.tr ?_); exact G.prop S.p)
    | fail) <;> (try simp only [WKb, ↓reduceIte, Nat.reduceEqDiff]))))
    all_goals
      refine Tr.fin hK ⟨rfl, rfl⟩ ?_
      ((try clear hK) <;> (try simp only [WKe, *]) <;> repeat (first | with_reducible exact EntR.done | refine S.e ?_ | (refine S.f ?_ <;> (try simp only [WKe, ↓reduceIte, reduceCtorEq, Int.reduceEq, *])) | with_reducible apply EntR.ex | refine EntR.drop (F := F) ?_ | refine EntR.drop ?_))

end Go.Proofs.YtgkhjgpgdfbdpaaDoor

namespace Go.Proofs.YtgkhjgpgdfbdpaaDoor
open Go Go.Wk
set_option maxHeartbeats 6400000
set_option maxRecDepth 100000

def workE : EvC := ⟨0, 3, 1, -1, 0, 0⟩
def workL : List UInt8 := [48, 32, 51, 32, 49, 32, 33, 111, 118, 101, 114, 114, 117, 110, 32, 48, 32, 48]
theorem dec_e : decA 0 = [48] ∧ decA 3 = [51] ∧ decA 1 = [49] := by
  refine ⟨?_, ?_, ?_⟩
  · rw [decA_pos (by omega)]; exact digA_lt (by decide)
  · rw [decA_pos (by omega)]; exact digA_lt (by decide)
  · rw [decA_pos (by omega)]; exact digA_lt (by decide)
theorem workE_ok : workE.ok := by unfold EvC.ok workE I64; simp
theorem workE_line : lineE workE = workL := by
  obtain ⟨h1, h2, h3⟩ := dec_e
  have hw : wordA (-1) = [33, 111, 118, 101, 114, 114, 117, 110] := by
    rw [wordA_fault (by decide)]; decide +kernel
  unfold lineE evW workE
  simp only [h1, h2, h3, hw]
  rfl
theorem workE_text : textE [workE] = workL ++ [10] := by
  have : textE [workE] = lineE workE ++ [10] := by simp [textE]
  rw [this, workE_line]
theorem workE_read : readE (workL ++ [10]) = ([workE], 0, 0) := by
  rw [← workE_text]
  refine read_text (fun e he => ?_) (by rw [workE_text]; decide)
  simp only [List.mem_singleton] at he
  rw [he]; exact workE_ok
theorem word_eight : wordA 8 = [103, 101, 116, 45, 116, 105, 109, 101] := by
  rw [wordA_name (by decide)]; decide +kernel
attribute [local irreducible] BrK GenK EGenK EUnitK CallK FnK CallV GuardO GuardC CondW opX opK opKc chkR eqR seqK blkK endL WL WD W LoopW BinK Tr drewK resL PickK NotK NilK ExtrK getK Instr.storeAt Instr.loadAt Instr.fieldAt Instr.indexAt Instr.lookup Instr.mapUpdate Instr.box Instr.alloc Instr.build Instr.buildSlice Instr.makeSlice Instr.makeMap Instr.sliceAt Instr.field Instr.index Instr.makeInterface Instr.typeAssert Builtin.len_ Builtin.append_ Builtin.cap_ Builtin.min_ Builtin.max_ Builtin.copy_ Builtin.clear_ convert binOp mp blk rob sl sep ex fact old
attribute [local irreducible] NegK mxV bufT bldB okW valW
theorem works28_ok {m : Int} : Trip Tryd.prog 13 [].toArray [mxB m] fun v l' => v = .bool true ∧ l' = [] := by
  intro F K hK
  simp only [List.cons_append, List.nil_append]
  have h1 : readE [48, 32, 51, 32, 49, 32, 33, 111, 118, 101, 114, 114, 117, 110, 32, 48, 32, 48, 10] = ([⟨0, 3, 1, -1, 0, 0⟩], 0, 0) := workE_read
  have h2 : lineE ⟨0, 3, 1, -1, 0, 0⟩ = [48, 32, 51, 32, 49, 32, 33, 111, 118, 101, 114, 114, 117, 110, 32, 48, 32, 48] := workE_line
  have h3 : (EvC.mk 0 3 1 (-1) 0 0).ok := workE_ok
  have h4 : I64 8 := by unfold I64; omega
  have h5 := word_eight
  (refine Tr.enter (rs := [.tmp 0]) mixed fn13 rfl (by simp +arith [Tryd.ntmps13]) fun u => ?_; simp only [cd13, Tryd.f13])
  ((try simp only [WKb, WKt]) <;> (repeat' ((first
    | (refine G.tr ?_; first | refine S.a ?_ | refine S.t ?_ | refine Tr.brK ?_ ?_ | (refine G.call 20 ?_; refine S.c ?_ (h := tread_ok)) | (refine G.call 44 ?_; refine S.c ?_ (h := tline_ok (by assumption))) | (refine G.call 22 ?_; refine S.c ?_ (h := sameEv_ok)) | (refine G.call 18 ?_; refine S.c ?_ (h := tword_ok (by assumption))) | refine S.n fun _ => ?_ | refine S.i fun hix => ?_ | (refine S.g fun hb => ?_; (try simp only [hb])) | (refine S.s (fun hb => ?_) (fun hb => ?_) <;> ((try simp only [hb]) <;> (try (have hp := hb; simp only [WKs] at hp; (try have hq := Int.not_le.2 hp); (try have hq := Int.not_lt.2 hp))))))
    | rintro _ _ ⟨rfl, rfl⟩
    | rintro _ _ ⟨_, rfl, rfl⟩
    | ((fail_if_success refine G.tr ?_); exact G.prop S.p)
    | fail) <;> (try simp only [WKb, WKh, ↓reduceIte, Nat.reduceEqDiff, Nat.reduceAdd, h1, h2, h5]))))
  all_goals
    refine Tr.fin hK ⟨rfl, rfl⟩ ?_
    ((try clear hK) <;> (try simp only [WKe, *]) <;> repeat (first | with_reducible exact EntR.done | refine S.e ?_ | (refine S.f ?_ <;> (try simp only [WKe, ↓reduceIte, reduceCtorEq, Int.reduceEq, *])) | with_reducible apply EntR.ex | refine EntR.drop (F := F) ?_ | refine EntR.drop ?_))

theorem prints28_ok {v : Value} {xs : List EvC} {call : Int} {word : List UInt8} {m : Int} (hok : ∀ e ∈ xs, e.ok) (hc : I64 call) : Trip Tryd.prog 3 [v, .int .i64 call, .string (bstr word)].toArray [mxB m, sl true v xs] fun u l' => u = .bool true ∧ l' = [] := by
  intro F K hK
  simp only [List.cons_append, List.nil_append]
  (refine Tr.enter (rs := [.tmp 6]) mixed fn3 rfl (by simp +arith [Tryd.ntmps3]) fun u => ?_; simp only [cd3, Tryd.f3])
  by_cases h : xs.length ≤ 3000
  · by_cases h2 : word.length ≤ 100
    · ((try simp only [WKb, ↓reduceIte, Nat.reduceEqDiff, Nat.reduceAdd]) <;> (repeat' ((first
    | (refine G.tr ?_; first | refine S.a ?_ | refine S.t ?_ | refine Tr.brK ?_ ?_ | (refine G.call 13 ?_; refine S.c ?_ (h := works28_ok)) | (refine G.call 14 ?_; refine S.c ?_ (h := tprint_ok (by assumption))) | (refine G.call 15 ?_; refine S.c ?_ (h := tprintR_ok (by assumption))) | (refine G.call 16 ?_; refine S.c ?_ (h := tcall_ok ?_)) | (refine G.call 17 ?_; refine S.c ?_ (h := tcallR_ok ?_)) | (refine G.call 18 ?_; refine S.c ?_ (h := tword_ok (by assumption))) | (refine G.call 19 ?_; refine S.c ?_ (h := twordR_ok (by assumption))) | refine S.n fun _ => ?_ | refine S.i fun hix => ?_ | (refine S.g fun hb => ?_; (try simp only [hb])) | (refine S.s (fun hb => ?_) (fun hb => ?_) <;> ((try simp only [hb]) <;> (try (have hp := hb; simp only [WKs] at hp; (try have hq := Int.not_le.2 hp); (try have hq := Int.not_lt.2 hp))))))
    | rintro _ _ ⟨rfl, rfl⟩
    | ((fail_if_success refine G.tr ?_); exact G.prop S.p)
    | fail) <;> (try simp only [WKb, WKh, ↓reduceIte, Nat.reduceEqDiff, WKt]))))
      all_goals
        refine Tr.fin hK ⟨rfl, rfl⟩ ?_
        ((try clear hK) <;> (try simp only [WKe, *]) <;> repeat (first | with_reducible exact EntR.done | refine S.e ?_ | (refine S.f ?_ <;> (try simp only [WKe, ↓reduceIte, reduceCtorEq, Int.reduceEq, *])) | with_reducible apply EntR.ex | refine EntR.drop (F := F) ?_ | refine EntR.drop ?_))
    · have h2' : (100 : Int) < word.length := by omega
      ((try simp only [WKb, ↓reduceIte, Nat.reduceEqDiff, Nat.reduceAdd]) <;> (repeat' ((first
    | (refine G.tr ?_; first | refine S.a ?_ | refine S.t ?_ | refine Tr.brK ?_ ?_ | (refine G.call 13 ?_; refine S.c ?_ (h := works28_ok)) | (refine G.call 14 ?_; refine S.c ?_ (h := tprint_ok (by assumption))) | (refine G.call 15 ?_; refine S.c ?_ (h := tprintR_ok (by assumption))) | (refine G.call 16 ?_; refine S.c ?_ (h := tcall_ok ?_)) | (refine G.call 17 ?_; refine S.c ?_ (h := tcallR_ok ?_)) | (refine G.call 18 ?_; refine S.c ?_ (h := tword_ok (by assumption))) | (refine G.call 19 ?_; refine S.c ?_ (h := twordR_ok (by assumption))) | refine S.n fun _ => ?_ | refine S.i fun hix => ?_ | (refine S.g fun hb => ?_; (try simp only [hb])) | (refine S.s (fun hb => ?_) (fun hb => ?_) <;> ((try simp only [hb]) <;> (try (have hp := hb; simp only [WKs] at hp; (try have hq := Int.not_le.2 hp); (try have hq := Int.not_lt.2 hp))))))
    | rintro _ _ ⟨rfl, rfl⟩
    | ((fail_if_success refine G.tr ?_); exact G.prop S.p)
    | fail) <;> (try simp only [WKb, ↓reduceIte, Nat.reduceEqDiff, WKt]))))
      all_goals
        refine Tr.fin hK ⟨rfl, rfl⟩ ?_
        ((try clear hK) <;> (try simp only [WKe, *]) <;> repeat (first | with_reducible exact EntR.done | refine S.e ?_ | (refine S.f ?_ <;> (try simp only [WKe, ↓reduceIte, reduceCtorEq, Int.reduceEq, *])) | with_reducible apply EntR.ex | refine EntR.drop (F := F) ?_ | refine EntR.drop ?_))
  · have h' : (3000 : Int) < xs.length := by omega
    ((try simp only [WKb, ↓reduceIte, Nat.reduceEqDiff, Nat.reduceAdd]) <;> (repeat' ((first
    | (refine G.tr ?_; first | refine S.a ?_ | refine S.t ?_ | refine Tr.brK ?_ ?_ | (refine G.call 13 ?_; refine S.c ?_ (h := works28_ok)) | (refine G.call 14 ?_; refine S.c ?_ (h := tprint_ok (by assumption))) | (refine G.call 15 ?_; refine S.c ?_ (h := tprintR_ok (by assumption))) | (refine G.call 16 ?_; refine S.c ?_ (h := tcall_ok ?_)) | (refine G.call 17 ?_; refine S.c ?_ (h := tcallR_ok ?_)) | (refine G.call 18 ?_; refine S.c ?_ (h := tword_ok (by assumption))) | (refine G.call 19 ?_; refine S.c ?_ (h := twordR_ok (by assumption))) | refine S.n fun _ => ?_ | refine S.i fun hix => ?_ | (refine S.g fun hb => ?_; (try simp only [hb])) | (refine S.s (fun hb => ?_) (fun hb => ?_) <;> ((try simp only [hb]) <;> (try (have hp := hb; simp only [WKs] at hp; (try have hq := Int.not_le.2 hp); (try have hq := Int.not_lt.2 hp))))))
    | rintro _ _ ⟨rfl, rfl⟩
    | ((fail_if_success refine G.tr ?_); exact G.prop S.p)
    | fail) <;> (try simp only [WKb, ↓reduceIte, Nat.reduceEqDiff]))))
    all_goals
      refine Tr.fin hK ⟨rfl, rfl⟩ ?_
      ((try clear hK) <;> (try simp only [WKe, *]) <;> repeat (first | with_reducible exact EntR.done | refine S.e ?_ | (refine S.f ?_ <;> (try simp only [WKe, ↓reduceIte, reduceCtorEq, Int.reduceEq, *])) | with_reducible apply EntR.ex | refine EntR.drop (F := F) ?_ | refine EntR.drop ?_))
theorem reads28_ok {s : List UInt8} {m : Int} : Trip Tryd.prog 4 [.string (bstr s)].toArray [mxB m] fun u l' => u = .bool true ∧ l' = [] := by
  intro F K hK
  simp only [List.cons_append, List.nil_append]
  (refine Tr.enter (rs := [.tmp 2]) mixed fn4 rfl (by simp +arith [Tryd.ntmps4]) fun u => ?_; simp only [cd4, Tryd.f4])
  by_cases h : s.length ≤ 4000
  · have hw := @words_ok_of s
    have ht := @text_read s
    obtain ⟨l, a, e, hr⟩ : ∃ l a e, readE s = (l, a, e) := ⟨_, _, _, rfl⟩
    have hok := hw hr
    by_cases he : e = 0
    · subst he
      obtain ⟨h1, h2, h3⟩ := ht hr
      have hpr : printE l = (s, 0) := by rw [printE_ok (by rw [h1]; exact h3), h1]
      ((try simp only [WKb, ↓reduceIte, Nat.reduceEqDiff, WKt]) <;> (repeat' ((first
    | (refine G.tr ?_; first | refine S.a ?_ | refine S.t ?_ | refine Tr.brK ?_ ?_ | (refine G.call 13 ?_; refine S.c ?_ (h := works28_ok)) | (refine G.call 20 ?_; refine S.c ?_ (h := tread_ok)) | (refine G.call 21 ?_; refine S.c ?_ (h := treadR_ok)) | (refine G.call 22 ?_; refine S.c ?_ (h := sameEv_ok)) | (refine G.call 14 ?_; refine S.c ?_ (h := tprint_ok (by assumption))) | refine S.n fun _ => ?_ | refine S.i fun hix => ?_ | (refine S.g fun hb => ?_; (try simp only [hb])) | (refine S.s (fun hb => ?_) (fun hb => ?_) <;> ((try simp only [hb]) <;> (try (have hp := hb; simp only [WKs] at hp; (try have hq := Int.not_le.2 hp); (try have hq := Int.not_lt.2 hp))))))
    | rintro _ _ ⟨rfl, rfl⟩
    | rintro _ _ ⟨_, rfl, rfl⟩
    | ((fail_if_success refine G.tr ?_); exact G.prop S.p)
    | fail) <;> (try simp only [WKb, WKh, ↓reduceIte, Nat.reduceEqDiff, hr, hpr]))))
      all_goals
        refine Tr.fin hK ⟨rfl, rfl⟩ ?_
        ((try clear hK) <;> (try simp only [WKe, *]) <;> repeat (first | with_reducible exact EntR.done | refine S.e ?_ | (refine S.f ?_ <;> (try simp only [WKe, ↓reduceIte, reduceCtorEq, Int.reduceEq, *])) | with_reducible apply EntR.ex | refine EntR.drop (F := F) ?_ | refine EntR.drop ?_))
    · ((try simp only [WKb, ↓reduceIte, Nat.reduceEqDiff, WKt]) <;> (repeat' ((first
    | (refine G.tr ?_; first | refine S.a ?_ | refine S.t ?_ | refine Tr.brK ?_ ?_ | (refine G.call 13 ?_; refine S.c ?_ (h := works28_ok)) | (refine G.call 20 ?_; refine S.c ?_ (h := tread_ok)) | (refine G.call 21 ?_; refine S.c ?_ (h := treadR_ok)) | (refine G.call 22 ?_; refine S.c ?_ (h := sameEv_ok)) | (refine G.call 14 ?_; refine S.c ?_ (h := tprint_ok (by assumption))) | refine S.n fun _ => ?_ | refine S.i fun hix => ?_ | (refine S.g fun hb => ?_; (try simp only [hb])) | (refine S.s (fun hb => ?_) (fun hb => ?_) <;> ((try simp only [hb]) <;> (try (have hp := hb; simp only [WKs] at hp; (try have hq := Int.not_le.2 hp); (try have hq := Int.not_lt.2 hp))))))
    | rintro _ _ ⟨rfl, rfl⟩
    | rintro _ _ ⟨_, rfl, rfl⟩
    | ((fail_if_success refine G.tr ?_); exact G.prop S.p)
    | fail) <;> (try simp only [WKb, ↓reduceIte, Nat.reduceEqDiff, hr]))))
      all_goals
        refine Tr.fin hK ⟨rfl, rfl⟩ ?_
        ((try clear hK) <;> (try simp only [WKe, *]) <;> repeat (first | with_reducible exact EntR.done | refine S.e ?_ | (refine S.f ?_ <;> (try simp only [WKe, ↓reduceIte, reduceCtorEq, Int.reduceEq, *])) | with_reducible apply EntR.ex | refine EntR.drop (F := F) ?_ | refine EntR.drop ?_))
  · have h' : (4000 : Int) < s.length := by omega
    ((try simp only [WKb, ↓reduceIte, Nat.reduceEqDiff, WKt]) <;> (repeat' ((first
    | (refine G.tr ?_; first | refine S.a ?_ | refine S.t ?_ | refine Tr.brK ?_ ?_ | (refine G.call 13 ?_; refine S.c ?_ (h := works28_ok)) | (refine G.call 20 ?_; refine S.c ?_ (h := tread_ok)) | (refine G.call 21 ?_; refine S.c ?_ (h := treadR_ok)) | (refine G.call 22 ?_; refine S.c ?_ (h := sameEv_ok)) | (refine G.call 14 ?_; refine S.c ?_ (h := tprint_ok (by assumption))) | refine S.n fun _ => ?_ | refine S.i fun hix => ?_ | (refine S.g fun hb => ?_; (try simp only [hb])) | (refine S.s (fun hb => ?_) (fun hb => ?_) <;> ((try simp only [hb]) <;> (try (have hp := hb; simp only [WKs] at hp; (try have hq := Int.not_le.2 hp); (try have hq := Int.not_lt.2 hp))))))
    | rintro _ _ ⟨rfl, rfl⟩
    | rintro _ _ ⟨_, rfl, rfl⟩
    | ((fail_if_success refine G.tr ?_); exact G.prop S.p)
    | fail) <;> (try simp only [WKb, ↓reduceIte]))))
    all_goals
      refine Tr.fin hK ⟨rfl, rfl⟩ ?_
      ((try clear hK) <;> (try simp only [WKe, *]) <;> repeat (first | with_reducible exact EntR.done | refine S.e ?_ | (refine S.f ?_ <;> (try simp only [WKe, ↓reduceIte, reduceCtorEq, Int.reduceEq, *])) | with_reducible apply EntR.ex | refine EntR.drop (F := F) ?_ | refine EntR.drop ?_))
theorem back28_ok {v : Value} {xs : List EvC} {call : Int} {m : Int} (hok : ∀ e ∈ xs, e.ok) (hc : I64 call) : Trip Tryd.prog 5 [v, .int .i64 call].toArray [mxB m, sl true v xs] fun u l' => u = .bool true ∧ l' = [] := by
  intro F K hK
  simp only [List.cons_append, List.nil_append]
  have hcw1 : (callW (wordA call)).getD 0 = call := by rw [callW_word hc]; rfl
  have hcw2 : (callW (wordA call)).isSome = true := by rw [callW_word hc]; rfl
  have hwl : (wordA call).length ≤ 1000000 := Nat.le_trans (wordA_len hc) (by decide)
  (refine Tr.enter (rs := [.tmp 4]) mixed fn5 rfl (by simp +arith [Tryd.ntmps5]) fun u => ?_; simp only [cd5, Tryd.f5])
  by_cases h : xs.length ≤ 3000
  · by_cases hb2 : (textE xs).length ≤ 65536
    · have hpr := printE_ok hb2
      have hrd := read_text hok hb2
      ((try simp only [WKb, ↓reduceIte, Nat.reduceEqDiff, Nat.reduceAdd, WKt]) <;> (repeat' ((first
    | (refine G.tr ?_; first | refine S.a ?_ | refine S.t ?_ | refine Tr.brK ?_ ?_ | (refine G.call 13 ?_; refine S.c ?_ (h := works28_ok)) | (refine G.call 18 ?_; refine S.c ?_ (h := tword_ok (by assumption))) | (refine G.call 16 ?_; refine S.c ?_ (h := tcall_ok ?_)) | (refine G.call 14 ?_; refine S.c ?_ (h := tprint_ok (by assumption))) | (refine G.call 20 ?_; refine S.c ?_ (h := tread_ok)) | (refine G.call 22 ?_; refine S.c ?_ (h := sameEv_ok)) | refine S.n fun _ => ?_ | refine S.i fun hix => ?_ | (refine S.g fun hb => ?_; (try simp only [hb])) | (refine S.s (fun hb => ?_) (fun hb => ?_) <;> ((try simp only [hb]) <;> (try (have hp := hb; simp only [WKs] at hp; (try have hq := Int.not_le.2 hp); (try have hq := Int.not_lt.2 hp))))))
    | rintro _ _ ⟨rfl, rfl⟩
    | rintro _ _ ⟨_, rfl, rfl⟩
    | ((fail_if_success refine G.tr ?_); exact G.prop S.p)
    | fail) <;> (try simp only [WKb, ↓reduceIte, Nat.reduceEqDiff, hcw1, hcw2, hpr, hrd]))))
      all_goals
        refine Tr.fin hK ⟨rfl, rfl⟩ ?_
        ((try clear hK) <;> (try simp only [WKe, *]) <;> repeat (first | with_reducible exact EntR.done | refine S.e ?_ | (refine S.f ?_ <;> (try simp only [WKe, ↓reduceIte, reduceCtorEq, Int.reduceEq, *])) | with_reducible apply EntR.ex | refine EntR.drop (F := F) ?_ | refine EntR.drop ?_))
    · have hpr : printE xs = ([], 3) := if_pos (by omega)
      ((try simp only [WKb, ↓reduceIte, Nat.reduceEqDiff, Nat.reduceAdd, WKt]) <;> (repeat' ((first
    | (refine G.tr ?_; first | refine S.a ?_ | refine S.t ?_ | refine Tr.brK ?_ ?_ | (refine G.call 13 ?_; refine S.c ?_ (h := works28_ok)) | (refine G.call 18 ?_; refine S.c ?_ (h := tword_ok (by assumption))) | (refine G.call 16 ?_; refine S.c ?_ (h := tcall_ok ?_)) | (refine G.call 14 ?_; refine S.c ?_ (h := tprint_ok (by assumption))) | (refine G.call 20 ?_; refine S.c ?_ (h := tread_ok)) | (refine G.call 22 ?_; refine S.c ?_ (h := sameEv_ok)) | refine S.n fun _ => ?_ | refine S.i fun hix => ?_ | (refine S.g fun hb => ?_; (try simp only [hb])) | (refine S.s (fun hb => ?_) (fun hb => ?_) <;> ((try simp only [hb]) <;> (try (have hp := hb; simp only [WKs] at hp; (try have hq := Int.not_le.2 hp); (try have hq := Int.not_lt.2 hp))))))
    | rintro _ _ ⟨rfl, rfl⟩
    | rintro _ _ ⟨_, rfl, rfl⟩
    | ((fail_if_success refine G.tr ?_); exact G.prop S.p)
    | fail) <;> (try simp only [WKb, WKh, ↓reduceIte, Nat.reduceEqDiff, Int.reduceEq, hcw1, hcw2, hpr]))))
      all_goals
        refine Tr.fin hK ⟨rfl, rfl⟩ ?_
        ((try clear hK) <;> (try simp only [WKe, *]) <;> repeat (first | with_reducible exact EntR.done | refine S.e ?_ | (refine S.f ?_ <;> (try simp only [WKe, ↓reduceIte, reduceCtorEq, Int.reduceEq, *])) | with_reducible apply EntR.ex | refine EntR.drop (F := F) ?_ | refine EntR.drop ?_))
  · have h' : (3000 : Int) < xs.length := by omega
    ((try simp only [WKb, ↓reduceIte, Nat.reduceEqDiff, Nat.reduceAdd, WKt]) <;> (repeat' ((first
    | (refine G.tr ?_; first | refine S.a ?_ | refine S.t ?_ | refine Tr.brK ?_ ?_ | (refine G.call 13 ?_; refine S.c ?_ (h := works28_ok)) | (refine G.call 18 ?_; refine S.c ?_ (h := tword_ok (by assumption))) | (refine G.call 16 ?_; refine S.c ?_ (h := tcall_ok ?_)) | (refine G.call 14 ?_; refine S.c ?_ (h := tprint_ok (by assumption))) | (refine G.call 20 ?_; refine S.c ?_ (h := tread_ok)) | (refine G.call 22 ?_; refine S.c ?_ (h := sameEv_ok)) | refine S.n fun _ => ?_ | refine S.i fun hix => ?_ | (refine S.g fun hb => ?_; (try simp only [hb])) | (refine S.s (fun hb => ?_) (fun hb => ?_) <;> ((try simp only [hb]) <;> (try (have hp := hb; simp only [WKs] at hp; (try have hq := Int.not_le.2 hp); (try have hq := Int.not_lt.2 hp))))))
    | rintro _ _ ⟨rfl, rfl⟩
    | rintro _ _ ⟨_, rfl, rfl⟩
    | ((fail_if_success refine G.tr ?_); exact G.prop S.p)
    | fail) <;> (try simp only [WKb, ↓reduceIte]))))
    all_goals
      refine Tr.fin hK ⟨rfl, rfl⟩ ?_
      ((try clear hK) <;> (try simp only [WKe, *]) <;> repeat (first | with_reducible exact EntR.done | refine S.e ?_ | (refine S.f ?_ <;> (try simp only [WKe, ↓reduceIte, reduceCtorEq, Int.reduceEq, *])) | with_reducible apply EntR.ex | refine EntR.drop (F := F) ?_ | refine EntR.drop ?_))
end Go.Proofs.YtgkhjgpgdfbdpaaDoor
