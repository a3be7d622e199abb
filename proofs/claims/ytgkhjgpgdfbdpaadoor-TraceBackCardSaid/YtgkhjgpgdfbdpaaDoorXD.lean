import Derived.Test.YtgkhjgpgdfbdpaaDoorXC
namespace Go.Proofs.YtgkhjgpgdfbdpaaDoor
open Go Go.Wk
set_option maxHeartbeats 6400000
set_option maxRecDepth 100000

attribute [local irreducible] BrK GenK EGenK EUnitK CallK FnK CallV GuardO GuardC CondW opX opK opKc chkR eqR seqK blkK endL WL WD W LoopW BinK Tr drewK resL PickK NotK NilK ExtrK getK Instr.storeAt Instr.loadAt Instr.fieldAt Instr.indexAt Instr.lookup Instr.mapUpdate Instr.box Instr.alloc Instr.build Instr.buildSlice Instr.makeSlice Instr.makeMap Instr.sliceAt Instr.field Instr.index Instr.makeInterface Instr.typeAssert Builtin.len_ Builtin.append_ Builtin.cap_ Builtin.min_ Builtin.max_ Builtin.copy_ Builtin.clear_ convert binOp mp blk rob sl sep ex fact old
attribute [local irreducible] NegK
theorem trim_case (s : List UInt8) : (∃ r, s = 45 :: r ∧ trimA s = r ∧ ¬ trimA s = s) ∨ ((s = [] ∨ (0 < s.length ∧ ¬ ((bix s 0).toNat : Int) = 45)) ∧ trimA s = s) := by
  cases s with
  | nil => exact .inr ⟨.inl rfl, rfl⟩
  | cons b r =>
    by_cases hb : b = 45
    · subst hb
      refine .inl ⟨r, rfl, rfl, fun h => ?_⟩
      have := congrArg List.length h
      simp [trimA] at this
    · refine .inr ⟨.inr ⟨by simp, fun h => hb ?_⟩, trimA_ne fun x hx => hb (List.cons.inj hx).1⟩
      have h2 : b.toNat = 45 := by
        have : bix (b :: r) 0 = b := rfl
        rw [this] at h; omega
      exact UInt8.toNat_inj.1 h2
theorem bix_drop1 {r : List UInt8} {k : Nat} : bix (45 :: r) ((k + 1 : Nat) : Int) = bix r (k : Int) := by simp [bix]
theorem number10_ok {s : List UInt8} (hs : s.length ≤ 1000000) : Trip Tryd.prog 53 [.string (bstr s)].toArray [] fun v l' => ∃ n, I64 n ∧ (∀ m, numA s = some m → n = m) ∧ v = .tuple #[.int .i64 n, .bool (numA s).isSome] ∧ l' = [] := by
  intro F K hK
  simp only [List.nil_append]
  have h0 : I64 0 := by unfold I64; omega
  have fin0 : ∀ l : List Asrt, numA s = none → EntR [] l F → Tr l (K (.tuple #[.int .i64 0, .bool false])) := fun l hno he => by
    refine Tr.fin hK ⟨0, h0, fun m hm => ?_, ?_, rfl⟩ he
    · rw [hno] at hm; cases hm
    · rw [hno]; rfl
  have hbad := num_bad (s := s)
  have hc45 : decide (((45 : UInt8).toNat : Int) = 45) = true := rfl
  (refine Tr.enter (rs := [.tmp 2, .tmp 3]) mixed fn53 rfl (by simp +arith [Tryd.ntmps53]) fun u => ?_; simp only [cd53, Tryd.f53])
  rcases trim_case s with ⟨r, hsr, htr, hne⟩ | ⟨hsr, htr⟩
  · have hb0 : bix s 0 = 45 := by rw [hsr]; rfl
    have hlen : s.length = r.length + 1 := by rw [hsr]; rfl
    have hbx : ∀ k : Nat, bix s ((k : Int) + 1) = bix r (k : Int) := fun k => by rw [hsr]; exact bix_drop1
    rw [htr] at hbad
    by_cases hl : r.length = 0 ∨ 20 < s.length
    · have hno : numA s = none := hbad (by rcases hl with h | h; exact .inl (List.eq_nil_of_length_eq_zero h); exact .inr (.inr (.inl h)))
      rcases hl with hl | hl
      · ((try simp only [WKb, ↓reduceIte, Nat.reduceEqDiff, WKt]) <;> (repeat' ((first
    | (refine G.tr ?_; first | refine S.a ?_ | refine S.t ?_ | refine Tr.brK ?_ ?_ | (refine G.call 62 ?_; refine S.c ?_ (h := decimalR_ok (by assumption))) | refine S.n fun _ => ?_ | refine S.i fun hix => ?_ | (refine S.g fun hb => ?_; (try simp only [hb])) | (refine S.s (fun hb => ?_) (fun hb => ?_) <;> ((try simp only [hb]) <;> (try (have hp := hb; simp only [WKs] at hp; (try have hq := Int.not_le.2 hp); (try have hq := Int.not_lt.2 hp))))))
    | rintro _ _ ⟨rfl, rfl⟩
    | ((fail_if_success refine G.tr ?_); exact G.prop S.p)
    | fail) <;> (try simp only [WKb, ↓reduceIte, Nat.reduceEqDiff, WKt, hb0, hc45]))))
        all_goals
          refine fin0 _ hno ?_
          ((try clear hK) <;> (try simp only [WKe, ↓reduceIte, reduceCtorEq, Int.reduceEq, *]) <;> repeat (first | with_reducible exact EntR.done | refine S.e ?_ | (refine S.f ?_ <;> (try simp only [WKe, ↓reduceIte, reduceCtorEq, Int.reduceEq, *])) | with_reducible apply EntR.ex | refine EntR.drop (F := F) ?_ | refine EntR.drop ?_))
      · ((try simp only [WKb, ↓reduceIte, Nat.reduceEqDiff, WKt]) <;> (repeat' ((first
    | (refine G.tr ?_; first | refine S.a ?_ | refine S.t ?_ | refine Tr.brK ?_ ?_ | (refine G.call 62 ?_; refine S.c ?_ (h := decimalR_ok (by assumption))) | refine S.n fun _ => ?_ | refine S.i fun hix => ?_ | (refine S.g fun hb => ?_; (try simp only [hb])) | (refine S.s (fun hb => ?_) (fun hb => ?_) <;> ((try simp only [hb]) <;> (try (have hp := hb; simp only [WKs] at hp; (try have hq := Int.not_le.2 hp); (try have hq := Int.not_lt.2 hp))))))
    | rintro _ _ ⟨rfl, rfl⟩
    | ((fail_if_success refine G.tr ?_); exact G.prop S.p)
    | fail) <;> (try simp only [WKb, ↓reduceIte, Nat.reduceEqDiff, WKt, hb0, hc45]))))
        all_goals
          refine fin0 _ hno ?_
          ((try clear hK) <;> (try simp only [WKe, ↓reduceIte, reduceCtorEq, Int.reduceEq, *]) <;> repeat (first | with_reducible exact EntR.done | refine S.e ?_ | (refine S.f ?_ <;> (try simp only [WKe, ↓reduceIte, reduceCtorEq, Int.reduceEq, *])) | with_reducible apply EntR.ex | refine EntR.drop (F := F) ?_ | refine EntR.drop ?_))
    · have hl1 : 0 < r.length := by omega
      have hl2 : s.length ≤ 20 := by omega
      ((try simp only [WKb, ↓reduceIte, Nat.reduceEqDiff, WKt]) <;> (repeat' ((first
    | (refine G.tr ?_; first | refine S.a ?_ | refine S.t ?_ | refine Tr.brK ?_ ?_ | (refine G.call 62 ?_; refine S.c ?_ (h := decimalR_ok (by assumption))) | refine S.n fun _ => ?_ | refine S.i fun hix => ?_ | (refine S.g fun hb => ?_; (try simp only [hb])) | (refine S.s (fun hb => ?_) (fun hb => ?_) <;> ((try simp only [hb]) <;> (try (have hp := hb; simp only [WKs] at hp; (try have hq := Int.not_le.2 hp); (try have hq := Int.not_lt.2 hp))))))
    | rintro _ _ ⟨rfl, rfl⟩
    | ((fail_if_success refine G.tr ?_); exact G.prop S.p)
    | fail) <;> (try simp only [WKb, ↓reduceIte, Nat.reduceEqDiff, WKt, hb0, hc45]))))
      refine Tr.loopE (α := Nat × Nat) [2, 3, 4, 6] [0, 5] (fun x => [.int .i64 0, .bool false, .int .i64 (-(x.2 : Int)), .int .i64 ((x.1 : Int) + 1)]) (fun x => []) (fun x => x.1 ≤ r.length ∧ x.2 = valA (r.take x.1) ∧ (∀ b ∈ r.take x.1, isDig b) ∧ x.2 ≤ 9223372036854775808) (fun x => r.length - x.1) (0, 0) (by (repeat (first | exact TakeL.nil | (apply TakeL.cons; focus ((first | exact TakeA.dupS | exact TakeA.dupF | ((repeat (first | with_reducible exact TakeA.here | exact TakeA.fam (by omega) (by omega) | with_reducible apply TakeA.next)); done) | ((repeat (first | exact TakeA.here | apply TakeA.next)); done) | exact TakeA.famNil | exact TakeA.nilS))) | fail)); done) rfl ⟨by omega, rfl, by simp, by omega⟩ fun x u hx => ?_
      obtain ⟨k, v⟩ := x
      simp only at hx ⊢
      obtain ⟨hk, hv, hd, hv2⟩ := hx
      have hws : IntKind.i64.wrap ((k : Int) + 1 + 1) = ((k + 1 : Nat) : Int) + 1 := by rw [wrapId (by omega) (by omega)]; omega
      by_cases hin : k < r.length
      · have hbk := hbx k
        by_cases hdg : isDig (bix r (k : Int))
        · have hdn := dig_next hin hd hdg
          have hvn := valA_next hin
          rw [← hv] at hvn
          have hdg' := hdg
          unfold isDig at hdg'
          have e1 : IntKind.i64.wrap ((bix r (k : Int)).toNat : Int) = (bix r (k : Int)).toNat := wrapId (by omega) (by omega)
          have e2 : IntKind.i64.wrap (((bix r (k : Int)).toNat : Int) - 48) = (((bix r (k : Int)).toNat - 48 : Nat) : Int) := by rw [wrapId (by omega) (by omega)]; omega
          by_cases hov : 9223372036854775808 < 10 * v + ((bix r (k : Int)).toNat - 48)
          · have hno : numA s = none := hbad (.inr (.inr (.inr (.inr (.inl (by have := valA_take r (k + 1); omega))))))
            clear hv hvn
            by_cases ho1 : v = 922337203685477580
            · have ho2 : (8 : Int) < (((bix r (k : Int)).toNat - 48 : Nat) : Int) := by omega
              subst ho1
              ((try simp only [WKb, ↓reduceIte, Nat.reduceEqDiff, WKt]) <;> (repeat' ((first
    | (refine G.tr ?_; first | refine S.a ?_ | refine S.t ?_ | refine Tr.brK ?_ ?_ | (refine G.call 62 ?_; refine S.c ?_ (h := decimalR_ok (by assumption))) | refine S.n fun _ => ?_ | refine S.i fun hix => ?_ | (refine S.g fun hb => ?_; (try simp only [hb])) | (refine S.s (fun hb => ?_) (fun hb => ?_) <;> ((try simp only [hb]) <;> (try (have hp := hb; simp only [WKs] at hp; (try have hq := Int.not_le.2 hp); (try have hq := Int.not_lt.2 hp))))))
    | rintro _ _ ⟨rfl, rfl⟩
    | ((fail_if_success refine G.tr ?_); exact G.prop S.p)
    | fail) <;> (try simp only [WKb, WKh, ↓reduceIte, Nat.reduceEqDiff, hbk, e1, e2]))))
              all_goals
                refine fin0 _ hno ?_
                ((try clear hK) <;> (try simp only [WKe, ↓reduceIte, reduceCtorEq, Int.reduceEq, *]) <;> repeat (first | with_reducible exact EntR.done | refine S.e ?_ | (refine S.f ?_ <;> (try simp only [WKe, ↓reduceIte, reduceCtorEq, Int.reduceEq, *])) | with_reducible apply EntR.ex | refine EntR.drop (F := F) ?_ | refine EntR.drop ?_))
            · have ho3 : 922337203685477580 < v := by omega
              ((try simp only [WKb, ↓reduceIte, Nat.reduceEqDiff, WKt]) <;> (repeat' ((first
    | (refine G.tr ?_; first | refine S.a ?_ | refine S.t ?_ | refine Tr.brK ?_ ?_ | (refine G.call 62 ?_; refine S.c ?_ (h := decimalR_ok (by assumption))) | refine S.n fun _ => ?_ | refine S.i fun hix => ?_ | (refine S.g fun hb => ?_; (try simp only [hb])) | (refine S.s (fun hb => ?_) (fun hb => ?_) <;> ((try simp only [hb]) <;> (try (have hp := hb; simp only [WKs] at hp; (try have hq := Int.not_le.2 hp); (try have hq := Int.not_lt.2 hp))))))
    | rintro _ _ ⟨rfl, rfl⟩
    | ((fail_if_success refine G.tr ?_); exact G.prop S.p)
    | fail) <;> (try simp only [WKb, WKh, ↓reduceIte, Nat.reduceEqDiff, hbk, e1, e2]))))
              all_goals
                refine fin0 _ hno ?_
                ((try clear hK) <;> (try simp only [WKe, ↓reduceIte, reduceCtorEq, Int.reduceEq, *]) <;> repeat (first | with_reducible exact EntR.done | refine S.e ?_ | (refine S.f ?_ <;> (try simp only [WKe, ↓reduceIte, reduceCtorEq, Int.reduceEq, *])) | with_reducible apply EntR.ex | refine EntR.drop (F := F) ?_ | refine EntR.drop ?_))
          · have hvn' : 10 * v + ((bix r (k : Int)).toNat - 48) = valA (r.take (k + 1)) := hvn.symm
            have hov' : 10 * v + ((bix r (k : Int)).toNat - 48) ≤ 9223372036854775808 := by omega
            have e3 : IntKind.i64.wrap (10 * -(v : Int)) = 10 * -(v : Int) := wrapId (by omega) (by omega)
            have e4 : IntKind.i64.wrap (10 * -(v : Int) - (((bix r (k : Int)).toNat - 48 : Nat) : Int)) = -((10 * v + ((bix r (k : Int)).toNat - 48) : Nat) : Int) := by rw [wrapId (by omega) (by omega)]; omega
            clear hv hvn
            by_cases ho1 : v = 922337203685477580
            · have ho2 : (((bix r (k : Int)).toNat - 48 : Nat) : Int) ≤ 8 := by omega
              ((try simp only [WKb, ↓reduceIte, Nat.reduceEqDiff, WKt]) <;> (repeat' ((first
    | (refine G.tr ?_; first | refine S.a ?_ | refine S.t ?_ | refine Tr.brK ?_ ?_ | (refine G.call 62 ?_; refine S.c ?_ (h := decimalR_ok (by assumption))) | refine S.n fun _ => ?_ | refine S.i fun hix => ?_ | (refine S.g fun hb => ?_; (try simp only [hb])) | (refine S.s (fun hb => ?_) (fun hb => ?_) <;> ((try simp only [hb]) <;> (try (have hp := hb; simp only [WKs] at hp; (try have hq := Int.not_le.2 hp); (try have hq := Int.not_lt.2 hp))))))
    | rintro _ _ ⟨rfl, rfl⟩
    | ((fail_if_success refine G.tr ?_); exact G.prop S.p)
    | fail) <;> (try simp only [WKb, WKh, ↓reduceIte, Nat.reduceEqDiff, hbk, hws, e1, e2, e3, e4]))))
              all_goals
                clear e1 e2 e3
                (apply Tr.againE ((k + 1, _)); (focus (simp only [WKb, ↓reduceIte, Nat.reduceEqDiff])); (focus ((try simp only [WKb, ↓reduceIte, Nat.reduceEqDiff, Nat.reduceAdd, Nat.reduceSub, hw]); (all_goals ((repeat (refine cons_eq (by first | rfl | (simp [*]; done)) ?_)); rfl)); done)); (focus (first | omega | assumption | (simp only []; omega) | (refine ⟨by omega, by assumption⟩) | (simp only []; refine ⟨by omega, by assumption⟩) | ((try simp only []); (repeat' (first | omega | assumption | apply hvn' | apply hdn | apply hov' | refine And.intro ?_ ?_)); done))); (focus (first | omega | (simp only []; omega))); (focus (((try clear hK) <;> (try simp only [WKe, *]) <;> repeat (first | with_reducible exact EntR.done | refine S.e ?_ | (refine S.f ?_ <;> (try simp only [WKe, ↓reduceIte, reduceCtorEq, Int.reduceEq, *])) | with_reducible apply EntR.ex | refine EntR.drop (F := F) ?_ | refine EntR.drop ?_)))))
            · have ho3 : v < 922337203685477580 := by omega
              ((try simp only [WKb, ↓reduceIte, Nat.reduceEqDiff, WKt]) <;> (repeat' ((first
    | (refine G.tr ?_; first | refine S.a ?_ | refine S.t ?_ | refine Tr.brK ?_ ?_ | (refine G.call 62 ?_; refine S.c ?_ (h := decimalR_ok (by assumption))) | refine S.n fun _ => ?_ | refine S.i fun hix => ?_ | (refine S.g fun hb => ?_; (try simp only [hb])) | (refine S.s (fun hb => ?_) (fun hb => ?_) <;> ((try simp only [hb]) <;> (try (have hp := hb; simp only [WKs] at hp; (try have hq := Int.not_le.2 hp); (try have hq := Int.not_lt.2 hp))))))
    | rintro _ _ ⟨rfl, rfl⟩
    | ((fail_if_success refine G.tr ?_); exact G.prop S.p)
    | fail) <;> (try simp only [WKb, WKh, ↓reduceIte, Nat.reduceEqDiff, hbk, hws, e1, e2, e3, e4]))))
              all_goals
                clear e1 e2 e3
                (apply Tr.againE ((k + 1, _)); (focus (simp only [WKb, ↓reduceIte, Nat.reduceEqDiff])); (focus ((try simp only [WKb, ↓reduceIte, Nat.reduceEqDiff, Nat.reduceAdd, Nat.reduceSub, hw]); (all_goals ((repeat (refine cons_eq (by first | rfl | (simp [*]; done)) ?_)); rfl)); done)); (focus (first | omega | assumption | (simp only []; omega) | (refine ⟨by omega, by assumption⟩) | (simp only []; refine ⟨by omega, by assumption⟩) | ((try simp only []); (repeat' (first | omega | assumption | apply hvn' | apply hdn | apply hov' | refine And.intro ?_ ?_)); done))); (focus (first | omega | (simp only []; omega))); (focus (((try clear hK) <;> (try simp only [WKe, *]) <;> repeat (first | with_reducible exact EntR.done | refine S.e ?_ | (refine S.f ?_ <;> (try simp only [WKe, ↓reduceIte, reduceCtorEq, Int.reduceEq, *])) | with_reducible apply EntR.ex | refine EntR.drop (F := F) ?_ | refine EntR.drop ?_)))))
        · have hno : numA s = none := hbad (.inr (.inr (.inr (.inl ⟨_, bix_mem hin, hdg⟩))))
          have hdg' := hdg
          unfold isDig at hdg'
          clear hv
          by_cases hlo : (bix r (k : Int)).toNat < 48
          · ((try simp only [WKb, ↓reduceIte, Nat.reduceEqDiff, WKt]) <;> (repeat' ((first
    | (refine G.tr ?_; first | refine S.a ?_ | refine S.t ?_ | refine Tr.brK ?_ ?_ | (refine G.call 62 ?_; refine S.c ?_ (h := decimalR_ok (by assumption))) | refine S.n fun _ => ?_ | refine S.i fun hix => ?_ | (refine S.g fun hb => ?_; (try simp only [hb])) | (refine S.s (fun hb => ?_) (fun hb => ?_) <;> ((try simp only [hb]) <;> (try (have hp := hb; simp only [WKs] at hp; (try have hq := Int.not_le.2 hp); (try have hq := Int.not_lt.2 hp))))))
    | rintro _ _ ⟨rfl, rfl⟩
    | ((fail_if_success refine G.tr ?_); exact G.prop S.p)
    | fail) <;> (try simp only [WKb, ↓reduceIte, Nat.reduceEqDiff, hbk]))))
            all_goals
              refine fin0 _ hno ?_
              ((try clear hK) <;> (try simp only [WKe, ↓reduceIte, reduceCtorEq, Int.reduceEq, *]) <;> repeat (first | with_reducible exact EntR.done | refine S.e ?_ | (refine S.f ?_ <;> (try simp only [WKe, ↓reduceIte, reduceCtorEq, Int.reduceEq, *])) | with_reducible apply EntR.ex | refine EntR.drop (F := F) ?_ | refine EntR.drop ?_))
          · have hhi : 57 < (bix r (k : Int)).toNat := by omega
            ((try simp only [WKb, ↓reduceIte, Nat.reduceEqDiff, WKt]) <;> (repeat' ((first
    | (refine G.tr ?_; first | refine S.a ?_ | refine S.t ?_ | refine Tr.brK ?_ ?_ | (refine G.call 62 ?_; refine S.c ?_ (h := decimalR_ok (by assumption))) | refine S.n fun _ => ?_ | refine S.i fun hix => ?_ | (refine S.g fun hb => ?_; (try simp only [hb])) | (refine S.s (fun hb => ?_) (fun hb => ?_) <;> ((try simp only [hb]) <;> (try (have hp := hb; simp only [WKs] at hp; (try have hq := Int.not_le.2 hp); (try have hq := Int.not_lt.2 hp))))))
    | rintro _ _ ⟨rfl, rfl⟩
    | ((fail_if_success refine G.tr ?_); exact G.prop S.p)
    | fail) <;> (try simp only [WKb, ↓reduceIte, Nat.reduceEqDiff, hbk]))))
            all_goals
              refine fin0 _ hno ?_
              ((try clear hK) <;> (try simp only [WKe, ↓reduceIte, reduceCtorEq, Int.reduceEq, *]) <;> repeat (first | with_reducible exact EntR.done | refine S.e ?_ | (refine S.f ?_ <;> (try simp only [WKe, ↓reduceIte, reduceCtorEq, Int.reduceEq, *])) | with_reducible apply EntR.ex | refine EntR.drop (F := F) ?_ | refine EntR.drop ?_))
      · have hke : k = r.length := by omega
        subst hke
        rw [List.take_length] at hv
        subst hv
        have hiw : I64 (-((valA r : Nat) : Int)) := by unfold I64; omega
        have hm : ∀ m, numA s = some m → -((valA r : Nat) : Int) = m := fun m hm => by
          obtain ⟨h1, h2, _⟩ := num_law hm
          rw [htr] at h1 h2
          have hvv : valA r = m.natAbs := by rw [h1, digA_val]
          have : m < 0 := by
            by_cases h : m < 0
            · exact h
            · exact absurd (htr.trans (h2.2 h)) hne
          omega
        have hsome : (numA s).isSome = decide (decA (-((valA r : Nat) : Int)) = s) := num_isSome hiw hm
        ((try simp only [WKb, ↓reduceIte, Nat.reduceEqDiff, WKt]) <;> (repeat' ((first
    | (refine G.tr ?_; first | refine S.a ?_ | refine S.t ?_ | refine Tr.brK ?_ ?_ | (refine G.call 62 ?_; refine S.c ?_ (h := decimalR_ok (by assumption))) | refine S.n fun _ => ?_ | refine S.i fun hix => ?_ | (refine S.g fun hb => ?_; (try simp only [hb])) | (refine S.s (fun hb => ?_) (fun hb => ?_) <;> ((try simp only [hb]) <;> (try (have hp := hb; simp only [WKs] at hp; (try have hq := Int.not_le.2 hp); (try have hq := Int.not_lt.2 hp))))))
    | rintro _ _ ⟨rfl, rfl⟩
    | ((fail_if_success refine G.tr ?_); exact G.prop S.p)
    | fail) <;> (try simp only [WKb, WKh, ↓reduceIte, Nat.reduceEqDiff, Int.reduceEq]))))
        all_goals
          apply Tr.fin hK ⟨_, hiw, hm, (by rw [hsome]), rfl⟩
          ((try clear hK) <;> (try simp only [WKe, *]) <;> repeat (first | with_reducible exact EntR.done | refine S.e ?_ | (refine S.f ?_ <;> (try simp only [WKe, ↓reduceIte, reduceCtorEq, Int.reduceEq, *])) | with_reducible apply EntR.ex | refine EntR.drop (F := F) ?_ | refine EntR.drop ?_))
  · rw [htr] at hbad
    by_cases hl : s.length = 0 ∨ 20 < s.length
    · have hno : numA s = none := hbad (by rcases hl with h | h; exact .inl (List.eq_nil_of_length_eq_zero h); exact .inr (.inr (.inl h)))
      rcases hsr with rfl | ⟨hs0, hsb⟩
      · ((try simp only [WKb, ↓reduceIte, Nat.reduceEqDiff, WKt]) <;> (repeat' ((first
    | (refine G.tr ?_; first | refine S.a ?_ | refine S.t ?_ | refine Tr.brK ?_ ?_ | (refine G.call 62 ?_; refine S.c ?_ (h := decimalR_ok (by assumption))) | refine S.n fun _ => ?_ | refine S.i fun hix => ?_ | (refine S.g fun hb => ?_; (try simp only [hb])) | (refine S.s (fun hb => ?_) (fun hb => ?_) <;> ((try simp only [hb]) <;> (try (have hp := hb; simp only [WKs] at hp; (try have hq := Int.not_le.2 hp); (try have hq := Int.not_lt.2 hp))))))
    | rintro _ _ ⟨rfl, rfl⟩
    | ((fail_if_success refine G.tr ?_); exact G.prop S.p)
    | fail) <;> (try simp only [WKb, ↓reduceIte, Nat.reduceEqDiff, WKt]))))
        all_goals
          refine fin0 _ hno ?_
          ((try clear hK) <;> (try simp only [WKe, ↓reduceIte, reduceCtorEq, Int.reduceEq, *]) <;> repeat (first | with_reducible exact EntR.done | refine S.e ?_ | (refine S.f ?_ <;> (try simp only [WKe, ↓reduceIte, reduceCtorEq, Int.reduceEq, *])) | with_reducible apply EntR.ex | refine EntR.drop (F := F) ?_ | refine EntR.drop ?_))
      · have hl : 20 < s.length := by omega
        ((try simp only [WKb, ↓reduceIte, Nat.reduceEqDiff, WKt]) <;> (repeat' ((first
    | (refine G.tr ?_; first | refine S.a ?_ | refine S.t ?_ | refine Tr.brK ?_ ?_ | (refine G.call 62 ?_; refine S.c ?_ (h := decimalR_ok (by assumption))) | refine S.n fun _ => ?_ | refine S.i fun hix => ?_ | (refine S.g fun hb => ?_; (try simp only [hb])) | (refine S.s (fun hb => ?_) (fun hb => ?_) <;> ((try simp only [hb]) <;> (try (have hp := hb; simp only [WKs] at hp; (try have hq := Int.not_le.2 hp); (try have hq := Int.not_lt.2 hp))))))
    | rintro _ _ ⟨rfl, rfl⟩
    | ((fail_if_success refine G.tr ?_); exact G.prop S.p)
    | fail) <;> (try simp only [WKb, ↓reduceIte, Nat.reduceEqDiff, WKt]))))
        all_goals
          refine fin0 _ hno ?_
          ((try clear hK) <;> (try simp only [WKe, ↓reduceIte, reduceCtorEq, Int.reduceEq, *]) <;> repeat (first | with_reducible exact EntR.done | refine S.e ?_ | (refine S.f ?_ <;> (try simp only [WKe, ↓reduceIte, reduceCtorEq, Int.reduceEq, *])) | with_reducible apply EntR.ex | refine EntR.drop (F := F) ?_ | refine EntR.drop ?_))
    · have hs0 : 0 < s.length := by omega
      have hl2 : s.length ≤ 20 := by omega
      have hsb : ¬ ((bix s 0).toNat : Int) = 45 := by
        rcases hsr with h | h
        · rw [h] at hs0; simp at hs0
        · exact h.2
      ((try simp only [WKb, ↓reduceIte, Nat.reduceEqDiff, WKt]) <;> (repeat' ((first
    | (refine G.tr ?_; first | refine S.a ?_ | refine S.t ?_ | refine Tr.brK ?_ ?_ | (refine G.call 62 ?_; refine S.c ?_ (h := decimalR_ok (by assumption))) | refine S.n fun _ => ?_ | refine S.i fun hix => ?_ | (refine S.g fun hb => ?_; (try simp only [hb])) | (refine S.s (fun hb => ?_) (fun hb => ?_) <;> ((try simp only [hb]) <;> (try (have hp := hb; simp only [WKs] at hp; (try have hq := Int.not_le.2 hp); (try have hq := Int.not_lt.2 hp))))))
    | rintro _ _ ⟨rfl, rfl⟩
    | ((fail_if_success refine G.tr ?_); exact G.prop S.p)
    | fail) <;> (try simp only [WKb, ↓reduceIte, Nat.reduceEqDiff, WKt]))))
      refine Tr.loopE (α := Nat × Nat) [2, 3, 4, 6] [0, 5] (fun x => [.int .i64 0, .bool false, .int .i64 (-(x.2 : Int)), .int .i64 (x.1 : Int)]) (fun x => []) (fun x => x.1 ≤ s.length ∧ x.2 = valA (s.take x.1) ∧ (∀ b ∈ s.take x.1, isDig b) ∧ x.2 ≤ 9223372036854775808) (fun x => s.length - x.1) (0, 0) (by (repeat (first | exact TakeL.nil | (apply TakeL.cons; focus ((first | exact TakeA.dupS | exact TakeA.dupF | ((repeat (first | with_reducible exact TakeA.here | exact TakeA.fam (by omega) (by omega) | with_reducible apply TakeA.next)); done) | ((repeat (first | exact TakeA.here | apply TakeA.next)); done) | exact TakeA.famNil | exact TakeA.nilS))) | fail)); done) rfl ⟨by omega, rfl, by simp, by omega⟩ fun x u hx => ?_
      obtain ⟨k, v⟩ := x
      simp only at hx ⊢
      obtain ⟨hk, hv, hd, hv2⟩ := hx
      have hws : IntKind.i64.wrap ((k : Int) + 1) = ((k + 1 : Nat) : Int) := wrapSucc (by omega)
      by_cases hin : k < s.length
      · by_cases hdg : isDig (bix s (k : Int))
        · have hdn := dig_next hin hd hdg
          have hvn := valA_next hin
          rw [← hv] at hvn
          have hdg' := hdg
          unfold isDig at hdg'
          have e1 : IntKind.i64.wrap ((bix s (k : Int)).toNat : Int) = (bix s (k : Int)).toNat := wrapId (by omega) (by omega)
          have e2 : IntKind.i64.wrap (((bix s (k : Int)).toNat : Int) - 48) = (((bix s (k : Int)).toNat - 48 : Nat) : Int) := by rw [wrapId (by omega) (by omega)]; omega
          by_cases hov : 9223372036854775808 < 10 * v + ((bix s (k : Int)).toNat - 48)
          · have hno : numA s = none := hbad (.inr (.inr (.inr (.inr (.inl (by have := valA_take s (k + 1); omega))))))
            clear hv hvn
            by_cases ho1 : v = 922337203685477580
            · have ho2 : (8 : Int) < (((bix s (k : Int)).toNat - 48 : Nat) : Int) := by omega
              subst ho1
              ((try simp only [WKb, ↓reduceIte, Nat.reduceEqDiff, WKt]) <;> (repeat' ((first
    | (refine G.tr ?_; first | refine S.a ?_ | refine S.t ?_ | refine Tr.brK ?_ ?_ | (refine G.call 62 ?_; refine S.c ?_ (h := decimalR_ok (by assumption))) | refine S.n fun _ => ?_ | refine S.i fun hix => ?_ | (refine S.g fun hb => ?_; (try simp only [hb])) | (refine S.s (fun hb => ?_) (fun hb => ?_) <;> ((try simp only [hb]) <;> (try (have hp := hb; simp only [WKs] at hp; (try have hq := Int.not_le.2 hp); (try have hq := Int.not_lt.2 hp))))))
    | rintro _ _ ⟨rfl, rfl⟩
    | ((fail_if_success refine G.tr ?_); exact G.prop S.p)
    | fail) <;> (try simp only [WKb, WKh, ↓reduceIte, Nat.reduceEqDiff, e1, e2]))))
              all_goals
                refine fin0 _ hno ?_
                ((try clear hK) <;> (try simp only [WKe, ↓reduceIte, reduceCtorEq, Int.reduceEq, *]) <;> repeat (first | with_reducible exact EntR.done | refine S.e ?_ | (refine S.f ?_ <;> (try simp only [WKe, ↓reduceIte, reduceCtorEq, Int.reduceEq, *])) | with_reducible apply EntR.ex | refine EntR.drop (F := F) ?_ | refine EntR.drop ?_))
            · have ho3 : 922337203685477580 < v := by omega
              ((try simp only [WKb, ↓reduceIte, Nat.reduceEqDiff, WKt]) <;> (repeat' ((first
    | (refine G.tr ?_; first | refine S.a ?_ | refine S.t ?_ | refine Tr.brK ?_ ?_ | (refine G.call 62 ?_; refine S.c ?_ (h := decimalR_ok (by assumption))) | refine S.n fun _ => ?_ | refine S.i fun hix => ?_ | (refine S.g fun hb => ?_; (try simp only [hb])) | (refine S.s (fun hb => ?_) (fun hb => ?_) <;> ((try simp only [hb]) <;> (try (have hp := hb; simp only [WKs] at hp; (try have hq := Int.not_le.2 hp); (try have hq := Int.not_lt.2 hp))))))
    | rintro _ _ ⟨rfl, rfl⟩
    | ((fail_if_success refine G.tr ?_); exact G.prop S.p)
    | fail) <;> (try simp only [WKb, WKh, ↓reduceIte, Nat.reduceEqDiff, e1, e2]))))
              all_goals
                refine fin0 _ hno ?_
                ((try clear hK) <;> (try simp only [WKe, ↓reduceIte, reduceCtorEq, Int.reduceEq, *]) <;> repeat (first | with_reducible exact EntR.done | refine S.e ?_ | (refine S.f ?_ <;> (try simp only [WKe, ↓reduceIte, reduceCtorEq, Int.reduceEq, *])) | with_reducible apply EntR.ex | refine EntR.drop (F := F) ?_ | refine EntR.drop ?_))
          · have hvn' : 10 * v + ((bix s (k : Int)).toNat - 48) = valA (s.take (k + 1)) := hvn.symm
            have hov' : 10 * v + ((bix s (k : Int)).toNat - 48) ≤ 9223372036854775808 := by omega
            have e3 : IntKind.i64.wrap (10 * -(v : Int)) = 10 * -(v : Int) := wrapId (by omega) (by omega)
            have e4 : IntKind.i64.wrap (10 * -(v : Int) - (((bix s (k : Int)).toNat - 48 : Nat) : Int)) = -((10 * v + ((bix s (k : Int)).toNat - 48) : Nat) : Int) := by rw [wrapId (by omega) (by omega)]; omega
            clear hv hvn
            by_cases ho1 : v = 922337203685477580
            · have ho2 : (((bix s (k : Int)).toNat - 48 : Nat) : Int) ≤ 8 := by omega
              ((try simp only [WKb, ↓reduceIte, Nat.reduceEqDiff, WKt]) <;> (repeat' ((first
    | (refine G.tr ?_; first | refine S.a ?_ | refine S.t ?_ | refine Tr.brK ?_ ?_ | (refine G.call 62 ?_; refine S.c ?_ (h := decimalR_ok (by assumption))) | refine S.n fun _ => ?_ | refine S.i fun hix => ?_ | (refine S.g fun hb => ?_; (try simp only [hb])) | (refine S.s (fun hb => ?_) (fun hb => ?_) <;> ((try simp only [hb]) <;> (try (have hp := hb; simp only [WKs] at hp; (try have hq := Int.not_le.2 hp); (try have hq := Int.not_lt.2 hp))))))
    | rintro _ _ ⟨rfl, rfl⟩
    | ((fail_if_success refine G.tr ?_); exact G.prop S.p)
    | fail) <;> (try simp only [WKb, WKh, ↓reduceIte, Nat.reduceEqDiff, hws, e1, e2, e3, e4]))))
              all_goals
                clear e1 e2 e3
                (apply Tr.againE ((k + 1, _)); (focus (simp only [WKb, ↓reduceIte, Nat.reduceEqDiff])); (focus ((try simp only [WKb, ↓reduceIte, Nat.reduceEqDiff, Nat.reduceAdd, Nat.reduceSub, hw]); (all_goals ((repeat (refine cons_eq (by first | rfl | (simp [*]; done)) ?_)); rfl)); done)); (focus (first | omega | assumption | (simp only []; omega) | (refine ⟨by omega, by assumption⟩) | (simp only []; refine ⟨by omega, by assumption⟩) | ((try simp only []); (repeat' (first | omega | assumption | apply hvn' | apply hdn | apply hov' | refine And.intro ?_ ?_)); done))); (focus (first | omega | (simp only []; omega))); (focus (((try clear hK) <;> (try simp only [WKe, *]) <;> repeat (first | with_reducible exact EntR.done | refine S.e ?_ | (refine S.f ?_ <;> (try simp only [WKe, ↓reduceIte, reduceCtorEq, Int.reduceEq, *])) | with_reducible apply EntR.ex | refine EntR.drop (F := F) ?_ | refine EntR.drop ?_)))))
            · have ho3 : v < 922337203685477580 := by omega
              ((try simp only [WKb, ↓reduceIte, Nat.reduceEqDiff, WKt]) <;> (repeat' ((first
    | (refine G.tr ?_; first | refine S.a ?_ | refine S.t ?_ | refine Tr.brK ?_ ?_ | (refine G.call 62 ?_; refine S.c ?_ (h := decimalR_ok (by assumption))) | refine S.n fun _ => ?_ | refine S.i fun hix => ?_ | (refine S.g fun hb => ?_; (try simp only [hb])) | (refine S.s (fun hb => ?_) (fun hb => ?_) <;> ((try simp only [hb]) <;> (try (have hp := hb; simp only [WKs] at hp; (try have hq := Int.not_le.2 hp); (try have hq := Int.not_lt.2 hp))))))
    | rintro _ _ ⟨rfl, rfl⟩
    | ((fail_if_success refine G.tr ?_); exact G.prop S.p)
    | fail) <;> (try simp only [WKb, WKh, ↓reduceIte, Nat.reduceEqDiff, hws, e1, e2, e3, e4]))))
              all_goals
                clear e1 e2 e3
                (apply Tr.againE ((k + 1, _)); (focus (simp only [WKb, ↓reduceIte, Nat.reduceEqDiff])); (focus ((try simp only [WKb, ↓reduceIte, Nat.reduceEqDiff, Nat.reduceAdd, Nat.reduceSub, hw]); (all_goals ((repeat (refine cons_eq (by first | rfl | (simp [*]; done)) ?_)); rfl)); done)); (focus (first | omega | assumption | (simp only []; omega) | (refine ⟨by omega, by assumption⟩) | (simp only []; refine ⟨by omega, by assumption⟩) | ((try simp only []); (repeat' (first | omega | assumption | apply hvn' | apply hdn | apply hov' | refine And.intro ?_ ?_)); done))); (focus (first | omega | (simp only []; omega))); (focus (((try clear hK) <;> (try simp only [WKe, *]) <;> repeat (first | with_reducible exact EntR.done | refine S.e ?_ | (refine S.f ?_ <;> (try simp only [WKe, ↓reduceIte, reduceCtorEq, Int.reduceEq, *])) | with_reducible apply EntR.ex | refine EntR.drop (F := F) ?_ | refine EntR.drop ?_)))))
        · have hno : numA s = none := hbad (.inr (.inr (.inr (.inl ⟨_, bix_mem hin, hdg⟩))))
          have hdg' := hdg
          unfold isDig at hdg'
          clear hv
          by_cases hlo : (bix s (k : Int)).toNat < 48
          · ((try simp only [WKb, ↓reduceIte, Nat.reduceEqDiff, WKt]) <;> (repeat' ((first
    | (refine G.tr ?_; first | refine S.a ?_ | refine S.t ?_ | refine Tr.brK ?_ ?_ | (refine G.call 62 ?_; refine S.c ?_ (h := decimalR_ok (by assumption))) | refine S.n fun _ => ?_ | refine S.i fun hix => ?_ | (refine S.g fun hb => ?_; (try simp only [hb])) | (refine S.s (fun hb => ?_) (fun hb => ?_) <;> ((try simp only [hb]) <;> (try (have hp := hb; simp only [WKs] at hp; (try have hq := Int.not_le.2 hp); (try have hq := Int.not_lt.2 hp))))))
    | rintro _ _ ⟨rfl, rfl⟩
    | ((fail_if_success refine G.tr ?_); exact G.prop S.p)
    | fail) <;> (try simp only [WKb, ↓reduceIte, Nat.reduceEqDiff]))))
            all_goals
              refine fin0 _ hno ?_
              ((try clear hK) <;> (try simp only [WKe, ↓reduceIte, reduceCtorEq, Int.reduceEq, *]) <;> repeat (first | with_reducible exact EntR.done | refine S.e ?_ | (refine S.f ?_ <;> (try simp only [WKe, ↓reduceIte, reduceCtorEq, Int.reduceEq, *])) | with_reducible apply EntR.ex | refine EntR.drop (F := F) ?_ | refine EntR.drop ?_))
          · have hhi : 57 < (bix s (k : Int)).toNat := by omega
            ((try simp only [WKb, ↓reduceIte, Nat.reduceEqDiff, WKt]) <;> (repeat' ((first
    | (refine G.tr ?_; first | refine S.a ?_ | refine S.t ?_ | refine Tr.brK ?_ ?_ | (refine G.call 62 ?_; refine S.c ?_ (h := decimalR_ok (by assumption))) | refine S.n fun _ => ?_ | refine S.i fun hix => ?_ | (refine S.g fun hb => ?_; (try simp only [hb])) | (refine S.s (fun hb => ?_) (fun hb => ?_) <;> ((try simp only [hb]) <;> (try (have hp := hb; simp only [WKs] at hp; (try have hq := Int.not_le.2 hp); (try have hq := Int.not_lt.2 hp))))))
    | rintro _ _ ⟨rfl, rfl⟩
    | ((fail_if_success refine G.tr ?_); exact G.prop S.p)
    | fail) <;> (try simp only [WKb, ↓reduceIte, Nat.reduceEqDiff]))))
            all_goals
              refine fin0 _ hno ?_
              ((try clear hK) <;> (try simp only [WKe, ↓reduceIte, reduceCtorEq, Int.reduceEq, *]) <;> repeat (first | with_reducible exact EntR.done | refine S.e ?_ | (refine S.f ?_ <;> (try simp only [WKe, ↓reduceIte, reduceCtorEq, Int.reduceEq, *])) | with_reducible apply EntR.ex | refine EntR.drop (F := F) ?_ | refine EntR.drop ?_))
      · have hke : k = s.length := by omega
        subst hke
        rw [List.take_length] at hv
        subst hv
        by_cases hmin : valA s = 9223372036854775808
        · have hno : numA s = none := hbad (.inr (.inr (.inr (.inr (.inr ⟨rfl, by omega⟩)))))
          ((try simp only [WKb, ↓reduceIte, Nat.reduceEqDiff, WKt]) <;> (repeat' ((first
    | (refine G.tr ?_; first | refine S.a ?_ | refine S.t ?_ | refine Tr.brK ?_ ?_ | (refine G.call 62 ?_; refine S.c ?_ (h := decimalR_ok (by assumption))) | refine S.n fun _ => ?_ | refine S.i fun hix => ?_ | (refine S.g fun hb => ?_; (try simp only [hb])) | (refine S.s (fun hb => ?_) (fun hb => ?_) <;> ((try simp only [hb]) <;> (try (have hp := hb; simp only [WKs] at hp; (try have hq := Int.not_le.2 hp); (try have hq := Int.not_lt.2 hp))))))
    | rintro _ _ ⟨rfl, rfl⟩
    | ((fail_if_success refine G.tr ?_); exact G.prop S.p)
    | fail) <;> (try simp only [WKb, ↓reduceIte, Nat.reduceEqDiff]))))
          all_goals
            refine fin0 _ hno ?_
            ((try clear hK) <;> (try simp only [WKe, ↓reduceIte, reduceCtorEq, Int.reduceEq, *]) <;> repeat (first | with_reducible exact EntR.done | refine S.e ?_ | (refine S.f ?_ <;> (try simp only [WKe, ↓reduceIte, reduceCtorEq, Int.reduceEq, *])) | with_reducible apply EntR.ex | refine EntR.drop (F := F) ?_ | refine EntR.drop ?_))
        · have e5 : IntKind.i64.wrap (0 - -((valA s : Nat) : Int)) = ((valA s : Nat) : Int) := by rw [wrapId (by omega) (by omega)]; omega
          have hiw : I64 ((valA s : Nat) : Int) := by unfold I64; omega
          have hm : ∀ m, numA s = some m → ((valA s : Nat) : Int) = m := fun m hm => by
            obtain ⟨h1, h2, _⟩ := num_law hm
            rw [htr] at h1 h2
            have hvv : valA s = m.natAbs := by rw [h1, digA_val]
            have := h2.1 rfl
            omega
          have hsome : (numA s).isSome = decide (decA ((valA s : Nat) : Int) = s) := num_isSome hiw hm
          ((try simp only [WKb, ↓reduceIte, Nat.reduceEqDiff, WKt]) <;> (repeat' ((first
    | (refine G.tr ?_; first | refine S.a ?_ | refine S.t ?_ | refine Tr.brK ?_ ?_ | (refine G.call 62 ?_; refine S.c ?_ (h := decimalR_ok (by assumption))) | refine S.n fun _ => ?_ | refine S.i fun hix => ?_ | (refine S.g fun hb => ?_; (try simp only [hb])) | (refine S.s (fun hb => ?_) (fun hb => ?_) <;> ((try simp only [hb]) <;> (try (have hp := hb; simp only [WKs] at hp; (try have hq := Int.not_le.2 hp); (try have hq := Int.not_lt.2 hp))))))
    | rintro _ _ ⟨rfl, rfl⟩
    | ((fail_if_success refine G.tr ?_); exact G.prop S.p)
    | fail) <;> (try simp only [WKb, WKh, ↓reduceIte, Nat.reduceEqDiff, e5]))))
          all_goals
            apply Tr.fin hK ⟨_, hiw, hm, (by rw [hsome]), rfl⟩
            ((try clear hK) <;> (try simp only [WKe, *]) <;> repeat (first | with_reducible exact EntR.done | refine S.e ?_ | (refine S.f ?_ <;> (try simp only [WKe, ↓reduceIte, reduceCtorEq, Int.reduceEq, *])) | with_reducible apply EntR.ex | refine EntR.drop (F := F) ?_ | refine EntR.drop ?_))

end Go.Proofs.YtgkhjgpgdfbdpaaDoor
