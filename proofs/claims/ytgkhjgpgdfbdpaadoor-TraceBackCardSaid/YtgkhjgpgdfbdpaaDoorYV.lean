import Derived.Test.YtgkhjgpgdfbdpaaDoorYU
namespace Go.Proofs.YtgkhjgpgdfbdpaaDoor
open Go Go.Wk
set_option maxHeartbeats 6400000
set_option maxRecDepth 100000

attribute [local irreducible] BrK GenK EGenK EUnitK CallK FnK CallV GuardO GuardC CondW opX opK opKc chkR eqR seqK blkK endL WL WD W LoopW BinK Tr drewK resL PickK NotK NilK ExtrK getK Instr.storeAt Instr.loadAt Instr.fieldAt Instr.indexAt Instr.lookup Instr.mapUpdate Instr.box Instr.alloc Instr.build Instr.buildSlice Instr.makeSlice Instr.makeMap Instr.sliceAt Instr.field Instr.index Instr.makeInterface Instr.typeAssert Builtin.len_ Builtin.append_ Builtin.cap_ Builtin.min_ Builtin.max_ Builtin.copy_ Builtin.clear_ convert binOp mp blk rob sl sep ex fact old
attribute [local irreducible] NegK mxV bufT bldB okW valW
theorem treadR_ok {s : List UInt8} : Trip Tryd.prog 21 [.string (bstr s)].toArray []
    fun v l' => ∃ t : SV, v = .tuple #[t.v, .int .i64 (readE s).2.1, .int .i64 (readE s).2.2] ∧ l' = [sl false t.v (readE s).1] := by
  intro F K hK
  simp only [List.nil_append]
  have fin0 : ∀ (l : List Asrt) (a e : Int), readE s = ([], a, e) → EntR [] l F → Tr l (K (.tuple #[.slice none 0 0, .int .i64 a, .int .i64 e])) := fun l a e h he => by
    refine Tr.nilSl (α := EvC) ?_
    refine Tr.fin hK ⟨⟨none, 0, 0⟩, by rw [h]; rfl, rfl⟩ ?_
    rw [h]
    exact EntR.take TakeA.here he
  (refine Tr.enter (rs := [.tmp 2, .tmp 3, .tmp 4]) mixed fn21 rfl (by simp +arith [Tryd.ntmps21]) fun u => ?_; simp only [cd21, Tryd.f21])
  by_cases hbig : 65536 < s.length
  · have hR := readE_big hbig
    ((try simp only [WKb, ↓reduceIte, Nat.reduceEqDiff, WKt]) <;> (repeat' ((first
    | (refine G.tr ?_; first | refine S.a ?_ | refine S.t ?_ | refine Tr.brK ?_ ?_ | (refine G.call 65 ?_; refine S.c ?_ (h := toneR_ok ?_)) | refine S.n fun _ => ?_ | refine S.i fun hix => ?_ | (refine S.g fun hb => ?_; (try simp only [hb])) | (refine S.s (fun hb => ?_) (fun hb => ?_) <;> ((try simp only [hb]) <;> (try (have hp := hb; simp only [WKs] at hp; (try have hq := Int.not_le.2 hp); (try have hq := Int.not_lt.2 hp))))))
    | rintro _ _ ⟨_, hone, rfl, rfl⟩
    | ((fail_if_success refine G.tr ?_); exact G.prop S.p)
    | fail) <;> (try simp only [WKb, ↓reduceIte, Nat.reduceEqDiff]))))
    all_goals
      refine fin0 _ _ _ hR ?_
      ((try clear hK) <;> (try simp only [WKe, ↓reduceIte, reduceCtorEq, Int.reduceEq, *]) <;> repeat (first | with_reducible exact EntR.done | refine S.e ?_ | (refine S.f ?_ <;> (try simp only [WKe, ↓reduceIte, reduceCtorEq, Int.reduceEq, *])) | with_reducible apply EntR.ex | refine EntR.drop (F := F) ?_ | refine EntR.drop ?_))
  · have hsl : s.length ≤ 65536 := by omega
    ((try simp only [WKb, ↓reduceIte, Nat.reduceEqDiff, WKt]) <;> (repeat' ((first
    | (refine G.tr ?_; first | refine S.a ?_ | refine S.t ?_ | refine Tr.brK ?_ ?_ | (refine G.call 65 ?_; refine S.c ?_ (h := toneR_ok ?_)) | refine S.n fun _ => ?_ | refine S.i fun hix => ?_ | (refine S.g fun hb => ?_; (try simp only [hb])) | (refine S.s (fun hb => ?_) (fun hb => ?_) <;> ((try simp only [hb]) <;> (try (have hp := hb; simp only [WKs] at hp; (try have hq := Int.not_le.2 hp); (try have hq := Int.not_lt.2 hp))))))
    | rintro _ _ ⟨_, hone, rfl, rfl⟩
    | ((fail_if_success refine G.tr ?_); exact G.prop S.p)
    | fail) <;> (try simp only [WKb]))))
    refine Tr.nilSl (α := EvC) ?_
    refine Tr.loopE (α := SV × List EvC × Nat × Nat) [2, 3, 4, 5, 6, 7] [0] (fun x => [.slice none 0 0, .int .i64 0, .int .i64 0, x.1.v, .int .i64 x.2.2.1, .int .i64 x.2.2.2]) (fun x => [sl false x.1.v x.2.1])
      (fun x => rdS s x.2.1 (s.drop x.2.2.1) ∧ x.2.1.length ≤ x.2.2.1 ∧ x.2.2.1 ≤ x.2.2.2 ∧ x.2.2.2 ≤ s.length ∧ ∀ j : Nat, x.2.2.1 ≤ j → j < x.2.2.2 → bix s (j : Int) ≠ 10) (fun x => s.length - x.2.2.2) (⟨none, 0, 0⟩, [], 0, 0) (by (repeat (first | exact TakeL.nil | (apply TakeL.cons; focus ((first | exact TakeA.dupS | exact TakeA.dupF | ((repeat (first | with_reducible exact TakeA.here | exact TakeA.fam (by omega) (by omega) | with_reducible apply TakeA.next)); done) | ((repeat (first | exact TakeA.here | apply TakeA.next)); done) | exact TakeA.famNil | exact TakeA.nilS))) | fail)); done) rfl ⟨rdS_init, Nat.le_refl _, Nat.le_refl _, Nat.zero_le _, fun j _ h => absurd h (Nat.not_lt_zero _)⟩ fun x u hx => ?_
    obtain ⟨t, done, p, k⟩ := x
    simp only at hx ⊢
    obtain ⟨hI, hdl, hpk, hks, hn⟩ := hx
    have hw := wrapSucc (k := k) (by omega)
    have hwl : IntKind.i64.wrap ((done.length : Int) + 1) = (done.length : Int) + 1 := wrapId (by omega) (by omega)
    by_cases hin : k < s.length
    · by_cases hb : bix s (k : Int) = 10
      · have hd : (((bix s (k : Int)).toNat : Int) = 10) = True := by rw [hb]; simp
        have hr := drop_cut hpk hin hb
        have hnw := not_in (by omega) hn
        have hwl2 : ((s.take k).drop p).length ≤ 1000000 := by rw [List.length_drop, List.length_take]; omega
        obtain ⟨w, hwd⟩ : ∃ w, (s.take k).drop p = w := ⟨_, rfl⟩
        rw [hwd] at hr hnw hwl2
        cases ho : oneE w with
        | none =>
          have hos : (oneE w).isSome = false := by rw [ho]; rfl
          have hR := rdS_bad hsl (hr ▸ hI) hnw ho
          ((try simp only [WKb, ↓reduceIte, Nat.reduceEqDiff, WKt]) <;> (repeat' ((first
    | (refine G.tr ?_; first | refine S.a ?_ | refine S.t ?_ | refine Tr.brK ?_ ?_ | (refine G.call 65 ?_; refine S.c ?_ (h := toneR_ok ?_)) | refine S.n fun _ => ?_ | refine S.i fun hix => ?_ | (refine S.g fun hb => ?_; (try simp only [hb])) | (refine S.s (fun hb => ?_) (fun hb => ?_) <;> ((try simp only [hb]) <;> (try (have hp := hb; simp only [WKs] at hp; (try have hq := Int.not_le.2 hp); (try have hq := Int.not_lt.2 hp))))))
    | rintro _ _ ⟨_, hone, rfl, rfl⟩
    | ((fail_if_success refine G.tr ?_); exact G.prop S.p)
    | fail) <;> (try simp only [WKb, ↓reduceIte, Nat.reduceEqDiff, hd, hwd, hos, hwl, Int.toNat_natCast]))))
          all_goals
            refine fin0 _ _ _ hR ?_
            ((try clear hK) <;> (try simp only [WKe, ↓reduceIte, reduceCtorEq, Int.reduceEq, *]) <;> repeat (first | with_reducible exact EntR.done | refine S.e ?_ | (refine S.f ?_ <;> (try simp only [WKe, ↓reduceIte, reduceCtorEq, Int.reduceEq, *])) | with_reducible apply EntR.ex | refine EntR.drop (F := F) ?_ | refine EntR.drop ?_))
        | some e =>
          have hos : (oneE w).isSome = true := by rw [ho]; rfl
          have hI' := rdS_next (hr ▸ hI) hnw ho
          have hln' : (done ++ [e]).length ≤ k + 1 := by simp; omega
          have hn' : ∀ j : Nat, k + 1 ≤ j → j < k + 1 → bix s (j : Int) ≠ 10 := fun j h1 h2 => by omega
          ((try simp only [WKb, ↓reduceIte, Nat.reduceEqDiff, WKt]) <;> (repeat' ((first
    | (refine G.tr ?_; first | refine S.a ?_ | refine S.t ?_ | refine Tr.brK ?_ ?_ | (refine G.call 65 ?_; refine S.c ?_ (h := toneR_ok ?_)) | refine S.n fun _ => ?_ | refine S.i fun hix => ?_ | (refine S.g fun hb => ?_; (try simp only [hb])) | (refine S.s (fun hb => ?_) (fun hb => ?_) <;> ((try simp only [hb]) <;> (try (have hp := hb; simp only [WKs] at hp; (try have hq := Int.not_le.2 hp); (try have hq := Int.not_lt.2 hp))))))
    | rintro _ _ ⟨_, hone, rfl, rfl⟩
    | ((fail_if_success refine G.tr ?_); exact G.prop S.p)
    | fail) <;> (try simp only [WKb, ↓reduceIte, Nat.reduceEqDiff, hd, hwd, hos, hw, Int.toNat_natCast]))))
          all_goals
            obtain rfl := hone _ ho
            (apply Tr.againE ((_, _, k + 1, k + 1)); (focus (simp only [WKb, ↓reduceIte, Nat.reduceEqDiff])); (focus ((try simp only [WKb, ↓reduceIte, Nat.reduceEqDiff]); (all_goals ((repeat (refine cons_eq (by first | rfl | (simp [*]; done)) ?_)); rfl)); done)); (focus (first | omega | assumption | (simp only []; omega) | (refine ⟨by omega, by assumption⟩) | (simp only []; refine ⟨by omega, by assumption⟩) | ((try simp only []); (repeat' (first | omega | assumption | apply hI' | apply hln' | apply hn' | refine And.intro ?_ ?_)); done))); (focus (first | omega | (simp only []; omega))); (focus (((try clear hK) <;> (try simp only [WKe, *]) <;> repeat (first | with_reducible exact EntR.done | refine S.e ?_ | (refine S.f ?_ <;> (try simp only [WKe, ↓reduceIte, reduceCtorEq, Int.reduceEq, *])) | with_reducible apply EntR.ex | refine EntR.drop (F := F) ?_ | refine EntR.drop ?_)))))
      · have hd : (((bix s (k : Int)).toNat : Int) = 10) = False := eq_false fun h => hb (UInt8.toNat_inj.1 (by have : (10 : UInt8).toNat = 10 := rfl; omega))
        have hn' : ∀ j : Nat, p ≤ j → j < k + 1 → bix s (j : Int) ≠ 10 := fun j h1 h2 => by
          by_cases hjk : j < k
          · exact hn j h1 hjk
          · have : j = k := by omega
            subst this; exact hb
        clear hb
        ((try simp only [WKb, ↓reduceIte, Nat.reduceEqDiff, WKt]) <;> (repeat' ((first
    | (refine G.tr ?_; first | refine S.a ?_ | refine S.t ?_ | refine Tr.brK ?_ ?_ | (refine G.call 65 ?_; refine S.c ?_ (h := toneR_ok ?_)) | refine S.n fun _ => ?_ | refine S.i fun hix => ?_ | (refine S.g fun hb => ?_; (try simp only [hb])) | (refine S.s (fun hb => ?_) (fun hb => ?_) <;> ((try simp only [hb]) <;> (try (have hp := hb; simp only [WKs] at hp; (try have hq := Int.not_le.2 hp); (try have hq := Int.not_lt.2 hp))))))
    | rintro _ _ ⟨_, hone, rfl, rfl⟩
    | ((fail_if_success refine G.tr ?_); exact G.prop S.p)
    | fail) <;> (try simp only [WKb, ↓reduceIte, Nat.reduceEqDiff, hd, hw]))))
        all_goals (apply Tr.againE ((_, _, p, k + 1)); (focus (simp only [WKb, ↓reduceIte, Nat.reduceEqDiff])); (focus ((try simp only [WKb, ↓reduceIte, Nat.reduceEqDiff]); (all_goals ((repeat (refine cons_eq (by first | rfl | (simp [*]; done)) ?_)); rfl)); done)); (focus (first | omega | assumption | (simp only []; omega) | (refine ⟨by omega, by assumption⟩) | (simp only []; refine ⟨by omega, by assumption⟩) | ((try simp only []); (repeat' (first | omega | assumption | apply hI | apply hn' | refine And.intro ?_ ?_)); done))); (focus (first | omega | (simp only []; omega))); (focus (((try clear hK) <;> (try simp only [WKe, *]) <;> repeat (first | with_reducible exact EntR.done | refine S.e ?_ | (refine S.f ?_ <;> (try simp only [WKe, ↓reduceIte, reduceCtorEq, Int.reduceEq, *])) | with_reducible apply EntR.ex | refine EntR.drop (F := F) ?_ | refine EntR.drop ?_)))))
    · have hke : k = s.length := by omega
      subst hke
      by_cases hp2 : p < s.length
      · have hnw := not_in (Nat.le_refl _) hn
        rw [List.take_length] at hnw
        have hne : s.drop p ≠ [] := fun h => by
          have := congrArg List.length h
          simp at this; omega
        have hR := rdS_open hsl hI hnw hne
        ((try simp only [WKb, ↓reduceIte, Nat.reduceEqDiff, WKt]) <;> (repeat' ((first
    | (refine G.tr ?_; first | refine S.a ?_ | refine S.t ?_ | refine Tr.brK ?_ ?_ | (refine G.call 65 ?_; refine S.c ?_ (h := toneR_ok ?_)) | refine S.n fun _ => ?_ | refine S.i fun hix => ?_ | (refine S.g fun hb => ?_; (try simp only [hb])) | (refine S.s (fun hb => ?_) (fun hb => ?_) <;> ((try simp only [hb]) <;> (try (have hp := hb; simp only [WKs] at hp; (try have hq := Int.not_le.2 hp); (try have hq := Int.not_lt.2 hp))))))
    | rintro _ _ ⟨_, hone, rfl, rfl⟩
    | ((fail_if_success refine G.tr ?_); exact G.prop S.p)
    | fail) <;> (try simp only [WKb, ↓reduceIte, Nat.reduceEqDiff, WKt, hwl]))))
        all_goals
          refine fin0 _ _ _ hR ?_
          ((try clear hK) <;> (try simp only [WKe, ↓reduceIte, reduceCtorEq, Int.reduceEq, *]) <;> repeat (first | with_reducible exact EntR.done | refine S.e ?_ | (refine S.f ?_ <;> (try simp only [WKe, ↓reduceIte, reduceCtorEq, Int.reduceEq, *])) | with_reducible apply EntR.ex | refine EntR.drop (F := F) ?_ | refine EntR.drop ?_))
      · have hz : s.drop p = [] := List.drop_of_length_le (by omega)
        have hR := rdS_end hsl (hz ▸ hI)
        ((try simp only [WKb, ↓reduceIte, Nat.reduceEqDiff, WKt]) <;> (repeat' ((first
    | (refine G.tr ?_; first | refine S.a ?_ | refine S.t ?_ | refine Tr.brK ?_ ?_ | (refine G.call 65 ?_; refine S.c ?_ (h := toneR_ok ?_)) | refine S.n fun _ => ?_ | refine S.i fun hix => ?_ | (refine S.g fun hb => ?_; (try simp only [hb])) | (refine S.s (fun hb => ?_) (fun hb => ?_) <;> ((try simp only [hb]) <;> (try (have hp := hb; simp only [WKs] at hp; (try have hq := Int.not_le.2 hp); (try have hq := Int.not_lt.2 hp))))))
    | rintro _ _ ⟨_, hone, rfl, rfl⟩
    | ((fail_if_success refine G.tr ?_); exact G.prop S.p)
    | fail) <;> (try simp only [WKb, ↓reduceIte, Nat.reduceEqDiff, WKt]))))
        all_goals
          apply Tr.fin hK ⟨_, by rw [hR], rfl⟩
          rw [hR]
          ((try clear hK) <;> (try simp only [WKe, *]) <;> repeat (first | with_reducible exact EntR.done | refine S.e ?_ | (refine S.f ?_ <;> (try simp only [WKe, ↓reduceIte, reduceCtorEq, Int.reduceEq, *])) | with_reducible apply EntR.ex | refine EntR.drop (F := F) ?_ | refine EntR.drop ?_))

end Go.Proofs.YtgkhjgpgdfbdpaaDoor
