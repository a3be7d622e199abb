import Derived.Test.YtgkhjgpgdfbdpaaDoorXG
namespace Go.Proofs.YtgkhjgpgdfbdpaaDoor
open Go Go.Wk
set_option maxHeartbeats 6400000
set_option maxRecDepth 100000

abbrev mxB (m : Int) : Asrt := sl true (mxV 0) [m]
def wordsS (s : List UInt8) : List Str := (wordsA 32 s).map Str.mk
theorem split_ok {s : List UInt8} {m : Int} (hs : s.length ≤ 4294967280) : Trip Tryd.prog 97 [.string (bstr s), .string (bstr [32])].toArray [mxB m] fun v l' => ∃ t : SV, v = t.v ∧ l' = [sl false t.v (wordsS s)] := trip_split Tryd.strings_Split hs

theorem join_ok {ro : Bool} {v : Value} {xs : List Str} (h0 : 0 < xs.length) (hn : xs.length ≤ 140737488355328) (hl : (joinA 32 (xs.map Str.d)).length ≤ 140737488355328) :
    Trip Tryd.prog 86 [v, .string (bstr [32])].toArray [sl ro v xs] fun v l' => v = .string (bstr (joinA 32 (xs.map Str.d))) ∧ l' = [] := trip_join Tryd.strings_Join h0 hn hl

attribute [local irreducible] BrK GenK EGenK EUnitK CallK FnK CallV GuardO GuardC CondW opX opK opKc chkR eqR seqK blkK endL WL WD W LoopW BinK Tr drewK resL PickK NotK NilK ExtrK getK Instr.storeAt Instr.loadAt Instr.fieldAt Instr.indexAt Instr.lookup Instr.mapUpdate Instr.box Instr.alloc Instr.build Instr.buildSlice Instr.makeSlice Instr.makeMap Instr.sliceAt Instr.field Instr.index Instr.makeInterface Instr.typeAssert Builtin.len_ Builtin.append_ Builtin.cap_ Builtin.min_ Builtin.max_ Builtin.copy_ Builtin.clear_ convert binOp mp blk rob sl sep ex fact old
attribute [local irreducible] NegK mxV
theorem wordsR_ok {s : List UInt8} (hs : s.length ≤ 1000000) : Trip Tryd.prog 98 [.string (bstr s)].toArray [] fun v l' => ∃ t : SV, v = t.v ∧ l' = [sl false t.v (wordsS s)] := by
  intro F K hK
  simp only [List.nil_append]
  (refine Tr.enter (rs := [.tmp 2]) mixed fn98 rfl (by simp +arith [Tryd.ntmps98]) fun u => ?_; simp only [cd98, Tryd.f98])
  ((try simp only [WKb]) <;> (repeat' ((first
    | (refine G.tr ?_; first | refine S.a ?_ | refine S.t ?_ | refine Tr.brK ?_ ?_ | refine S.n fun _ => ?_ | refine S.i fun hix => ?_ | (refine S.g fun hb => ?_; (try simp only [hb])) | (refine S.s (fun hb => ?_) (fun hb => ?_) <;> ((try simp only [hb]) <;> (try (have hp := hb; simp only [WKs] at hp; (try have hq := Int.not_le.2 hp); (try have hq := Int.not_lt.2 hp))))))
    | ((fail_if_success refine G.tr ?_); exact G.prop S.p)
    | fail) <;> (try simp only [WKb, WKh, ↓reduceIte, Nat.reduceEqDiff, Nat.reduceAdd, Nat.reduceSub, Int.reduceEq, Int.reduceLT, Int.reduceLE, WKt, pl98]))))
  refine Tr.nilSl (α := Str) ?_
  refine Tr.loopE (α := Nat × SV × List Str × Nat) [3, 4, 5] [0, 2] (fun x => [x.2.1.v, .int .i64 x.2.2.2, .int .i64 x.1]) (fun x => [sl false x.2.1.v x.2.2.1])
    (fun x => x.1 ≤ s.length + 1 ∧ x.2.2.1.length ≤ x.1 ∧ x.2.2.2 ≤ x.1 ∧ (x.1 ≤ s.length → x.2.2.1 ++ (wordsA 32 (s.drop x.2.2.2)).map Str.mk = wordsS s ∧ ∀ j : Nat, x.2.2.2 ≤ j → j < x.1 → bix s (j : Int) ≠ 32) ∧ (s.length < x.1 → x.2.2.1 = wordsS s)) (fun x => s.length + 1 - x.1)
    (0, ⟨none, 0, 0⟩, [], 0) (by (repeat (first | exact TakeL.nil | (apply TakeL.cons; focus ((first | exact TakeA.dupS | exact TakeA.dupF | ((repeat (first | with_reducible exact TakeA.here | exact TakeA.fam (by omega) (by omega) | with_reducible apply TakeA.next)); done) | ((repeat (first | exact TakeA.here | apply TakeA.next)); done) | exact TakeA.famNil | exact TakeA.nilS))) | fail)); done) rfl ⟨Nat.zero_le _, Nat.le_refl _, Nat.le_refl _, fun _ => ⟨rfl, fun j _ h => absurd h (Nat.not_lt_zero _)⟩, fun h => absurd h (Nat.not_lt_zero _)⟩ fun x u hx => ?_
  obtain ⟨k, t, ws, p⟩ := x
  simp only at hx ⊢
  obtain ⟨hk, hwl, hpk, hI, hJ⟩ := hx
  have hw := wrapSucc (k := k) (by omega)
  by_cases hin : k < s.length
  · obtain ⟨hI1, hI2⟩ := hI (by omega)
    have hl' : ∀ x : Str, (ws ++ [x]).length ≤ k + 1 := fun x => by simp; omega
    by_cases hb : bix s (k : Int) = 32
    · have hst := words_step hpk hin hI2 hb
      have hn1 : k + 1 ≤ s.length → ws ++ [⟨(s.take k).drop p⟩] ++ (wordsA 32 (s.drop (k + 1))).map Str.mk = wordsS s ∧ ∀ j : Nat, k + 1 ≤ j → j < k + 1 → bix s (j : Int) ≠ 32 := fun _ => by
        refine ⟨?_, fun j h1 h2 => by omega⟩
        rw [← hI1, hst]; simp
      have hn2 : s.length < k + 1 → ws ++ [⟨(s.take k).drop p⟩] = wordsS s := fun h => by omega
      have hd : (((bix s (k : Int)).toNat : Int) = 32) = True := by rw [hb]; simp
      clear hI1 hI hJ
      ((try simp only [WKb, ↓reduceIte, Nat.reduceEqDiff, WKt]) <;> (repeat' ((first
    | (refine G.tr ?_; first | refine S.a ?_ | refine S.t ?_ | refine Tr.brK ?_ ?_ | refine S.n fun _ => ?_ | refine S.i fun hix => ?_ | (refine S.g fun hb => ?_; (try simp only [hb])) | (refine S.s (fun hb => ?_) (fun hb => ?_) <;> ((try simp only [hb]) <;> (try (have hp := hb; simp only [WKs] at hp; (try have hq := Int.not_le.2 hp); (try have hq := Int.not_lt.2 hp))))))
    | ((fail_if_success refine G.tr ?_); exact G.prop S.p)
    | fail) <;> (try simp only [WKb, ↓reduceIte, Nat.reduceEqDiff, WKt, hw, hd, Int.toNat_natCast]))))
      all_goals (apply Tr.againE ((k + 1, _, _, _)); (focus (simp only [WKb, ↓reduceIte, Nat.reduceEqDiff])); (focus ((try simp only [WKb, ↓reduceIte, Nat.reduceEqDiff]); (all_goals ((repeat (refine cons_eq (by first | rfl | (simp [*]; done)) ?_)); rfl)); done)); (focus (first | omega | assumption | (simp only []; omega) | (refine ⟨by omega, by assumption⟩) | (simp only []; refine ⟨by omega, by assumption⟩) | ((try simp only []); (repeat' (first | omega | assumption | apply hn1 | apply hn2 | apply hl' | refine And.intro ?_ ?_)); done))); (focus (first | omega | (simp only []; omega))); (focus (((try clear hK) <;> (try simp only [WKe, *]) <;> repeat (first | with_reducible exact EntR.done | refine S.e ?_ | (refine S.f ?_ <;> (try simp only [WKe, ↓reduceIte, reduceCtorEq, Int.reduceEq, *])) | with_reducible apply EntR.ex | refine EntR.drop (F := F) ?_ | refine EntR.drop ?_)))))
    · have hn1 : k + 1 ≤ s.length → ws ++ (wordsA 32 (s.drop p)).map Str.mk = wordsS s ∧ ∀ j : Nat, p ≤ j → j < k + 1 → bix s (j : Int) ≠ 32 := fun _ => by
        refine ⟨hI1, fun j h1 h2 => ?_⟩
        by_cases hjk : j < k
        · exact hI2 j h1 hjk
        · have : j = k := by omega
          subst this; exact hb
      have hn2 : s.length < k + 1 → ws = wordsS s := fun h => by omega
      have hd : (((bix s (k : Int)).toNat : Int) = 32) = False := eq_false fun h => hb (UInt8.toNat_inj.1 (by have : (32 : UInt8).toNat = 32 := rfl; omega))
      have hwl' : ws.length ≤ k + 1 := by omega
      have hpk' : p ≤ k + 1 := by omega
      clear hI1 hI hJ
      ((try simp only [WKb, ↓reduceIte, Nat.reduceEqDiff, WKt]) <;> (repeat' ((first
    | (refine G.tr ?_; first | refine S.a ?_ | refine S.t ?_ | refine Tr.brK ?_ ?_ | refine S.n fun _ => ?_ | refine S.i fun hix => ?_ | (refine S.g fun hb => ?_; (try simp only [hb])) | (refine S.s (fun hb => ?_) (fun hb => ?_) <;> ((try simp only [hb]) <;> (try (have hp := hb; simp only [WKs] at hp; (try have hq := Int.not_le.2 hp); (try have hq := Int.not_lt.2 hp))))))
    | ((fail_if_success refine G.tr ?_); exact G.prop S.p)
    | fail) <;> (try simp only [WKb, ↓reduceIte, Nat.reduceEqDiff, WKt, hw, hd]))))
      all_goals (apply Tr.againE ((k + 1, _, _, _)); (focus (simp only [WKb, ↓reduceIte, Nat.reduceEqDiff])); (focus ((try simp only [WKb, ↓reduceIte, Nat.reduceEqDiff]); (all_goals ((repeat (refine cons_eq (by first | rfl | (simp [*]; done)) ?_)); rfl)); done)); (focus (first | omega | assumption | (simp only []; omega) | (refine ⟨by omega, by assumption⟩) | (simp only []; refine ⟨by omega, by assumption⟩) | ((try simp only []); (repeat' (first | omega | assumption | apply hn1 | apply hn2 | apply hwl' | apply hpk' | refine And.intro ?_ ?_)); done))); (focus (first | omega | (simp only []; omega))); (focus (((try clear hK) <;> (try simp only [WKe, *]) <;> repeat (first | with_reducible exact EntR.done | refine S.e ?_ | (refine S.f ?_ <;> (try simp only [WKe, ↓reduceIte, reduceCtorEq, Int.reduceEq, *])) | with_reducible apply EntR.ex | refine EntR.drop (F := F) ?_ | refine EntR.drop ?_)))))
  · by_cases he : k = s.length
    · obtain ⟨hI1, hI2⟩ := hI (by omega)
      subst he
      have hst := words_last hpk hI2
      have hl' : ∀ x : Str, (ws ++ [x]).length ≤ s.length + 1 := fun x => by simp; omega
      have hn1 : s.length + 1 ≤ s.length → ws ++ [⟨(s.take s.length).drop p⟩] ++ (wordsA 32 (s.drop (s.length + 1))).map Str.mk = wordsS s ∧ ∀ j : Nat, s.length + 1 ≤ j → j < s.length + 1 → bix s (j : Int) ≠ 32 := fun h => by omega
      have hn2 : s.length < s.length + 1 → ws ++ [⟨(s.take s.length).drop p⟩] = wordsS s := fun _ => by
        rw [← hI1, hst]; simp
      clear hI1 hI hJ
      ((try simp only [WKb, ↓reduceIte, Nat.reduceEqDiff, WKt]) <;> (repeat' ((first
    | (refine G.tr ?_; first | refine S.a ?_ | refine S.t ?_ | refine Tr.brK ?_ ?_ | refine S.n fun _ => ?_ | refine S.i fun hix => ?_ | (refine S.g fun hb => ?_; (try simp only [hb])) | (refine S.s (fun hb => ?_) (fun hb => ?_) <;> ((try simp only [hb]) <;> (try (have hp := hb; simp only [WKs] at hp; (try have hq := Int.not_le.2 hp); (try have hq := Int.not_lt.2 hp))))))
    | ((fail_if_success refine G.tr ?_); exact G.prop S.p)
    | fail) <;> (try simp only [WKb, ↓reduceIte, Nat.reduceEqDiff, WKt, hw, Int.toNat_natCast]))))
      all_goals (apply Tr.againE ((s.length + 1, _, _, _)); (focus (simp only [WKb, ↓reduceIte, Nat.reduceEqDiff])); (focus ((try simp only [WKb, ↓reduceIte, Nat.reduceEqDiff]); (all_goals ((repeat (refine cons_eq (by first | rfl | (simp [*]; done)) ?_)); rfl)); done)); (focus (first | omega | assumption | (simp only []; omega) | (refine ⟨by omega, by assumption⟩) | (simp only []; refine ⟨by omega, by assumption⟩) | ((try simp only []); (repeat' (first | omega | assumption | apply hn1 | apply hn2 | apply hl' | refine And.intro ?_ ?_)); done))); (focus (first | omega | (simp only []; omega))); (focus (((try clear hK) <;> (try simp only [WKe, *]) <;> repeat (first | with_reducible exact EntR.done | refine S.e ?_ | (refine S.f ?_ <;> (try simp only [WKe, ↓reduceIte, reduceCtorEq, Int.reduceEq, *])) | with_reducible apply EntR.ex | refine EntR.drop (F := F) ?_ | refine EntR.drop ?_)))))
    · have hfin := hJ (by omega)
      ((try simp only [WKb, ↓reduceIte, Nat.reduceEqDiff, WKt]) <;> (repeat' ((first
    | (refine G.tr ?_; first | refine S.a ?_ | refine S.t ?_ | refine Tr.brK ?_ ?_ | refine S.n fun _ => ?_ | refine S.i fun hix => ?_ | (refine S.g fun hb => ?_; (try simp only [hb])) | (refine S.s (fun hb => ?_) (fun hb => ?_) <;> ((try simp only [hb]) <;> (try (have hp := hb; simp only [WKs] at hp; (try have hq := Int.not_le.2 hp); (try have hq := Int.not_lt.2 hp))))))
    | ((fail_if_success refine G.tr ?_); exact G.prop S.p)
    | fail) <;> (try simp only [WKb, ↓reduceIte, Nat.reduceEqDiff]))))
      all_goals
        apply Tr.fin hK ⟨_, rfl, rfl⟩
        ((try clear hK) <;> (try simp only [WKe, *]) <;> repeat (first | with_reducible exact EntR.done | refine S.e ?_ | (refine S.f ?_ <;> (try simp only [WKe, hfin, ↓reduceIte, reduceCtorEq, Int.reduceEq, *])) | with_reducible apply EntR.ex | refine EntR.drop (F := F) ?_ | refine EntR.drop ?_))

end Go.Proofs.YtgkhjgpgdfbdpaaDoor
