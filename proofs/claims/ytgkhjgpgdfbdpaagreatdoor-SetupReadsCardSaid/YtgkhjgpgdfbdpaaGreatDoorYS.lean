import Derived.Test.YtgkhjgpgdfbdpaaGreatDoorXax
namespace Go.Proofs.YtgkhjgpgdfbdpaaGreatDoor
open Go Go.Wk
set_option maxHeartbeats 6400000
set_option maxRecDepth 100000

attribute [local irreducible] BrK GenK EGenK EUnitK CallK FnK CallV GuardO GuardC CondW opX opK opKc chkR eqR seqK blkK endL WL WD W LoopW BinK Tr drewK resL PickK NotK NilK ExtrK getK Instr.storeAt Instr.loadAt Instr.fieldAt Instr.indexAt Instr.lookup Instr.mapUpdate Instr.box Instr.alloc Instr.build Instr.buildSlice Instr.makeSlice Instr.makeMap Instr.sliceAt Instr.field Instr.index Instr.makeInterface Instr.typeAssert Builtin.len_ Builtin.append_ Builtin.cap_ Builtin.min_ Builtin.max_ Builtin.copy_ Builtin.clear_ convert binOp mp blk rob sl sep ex fact old
attribute [local irreducible] NegK


theorem digitsS_ok : ∀ (n : Nat), n < 18446744073709551616 → Trip Tryz.prog 76 [.int .u64 n].toArray [] fun v l' => v = .string (bstr (digA n)) ∧ l' = [] := by
  intro n
  induction n using Nat.strongRecOn with
  | _ n ih0 =>
  intro hn F K hK
  have ih : ∀ m : Nat, m < n → m < 18446744073709551616 → Trip Tryz.prog 76 [.int .u64 (m : Int)].toArray [] fun v l' => v = .string (bstr (digA m)) ∧ l' = [] := ih0
  clear ih0
  simp only [List.nil_append]
  have hqu : IntKind.u64.wrap ((n : Int).tdiv 10) = ((n / 10 : Nat) : Int) := by
    rw [show (n : Int).tdiv 10 = ((n / 10 : Nat) : Int) from rfl]
    exact wrapN64 (by omega) (by omega)
  have hm : (n : Int).tmod 10 = ((n % 10 : Nat) : Int) := rfl
  have hw1 : IntKind.u64.wrap (((n % 10 : Nat) : Int) + 1) = ((n % 10 + 1 : Nat) : Int) := by rw [wrapN64 (by omega) (by omega)]; rfl
  have hc := dig_at (d := n % 10) (by omega)
  have hl9 : n / 10 < n ∨ n < 10 := by omega
  have hl20 := digA_len20 (n := n / 10) (by omega)
  (refine Tr.enter (rs := [.tmp 2]) mixed fn76 rfl (by simp +arith [Tryz.ntmps76]) fun u => ?_; simp only [cd76, Tryz.f76])
  by_cases h10 : n < 10
  · have hw0 : IntKind.u64.wrap ((n : Int) + 1) = ((n + 1 : Nat) : Int) := by rw [wrapN64 (by omega) (by omega)]; rfl
    have hc0 := dig_at h10
    ((try simp only [WKb, ↓reduceIte, Nat.reduceEqDiff, WKt]) <;> (repeat' ((first
    | (refine G.tr ?_; first | refine S.a ?_ | refine S.t ?_ | refine Tr.brK ?_ ?_ | (refine G.call 76 ?_; refine S.c ?_ (h := ih _ (by omega) (by omega))) | refine S.n fun _ => ?_ | refine S.i fun hix => ?_ | (refine S.g fun hb => ?_; (try simp only [hb])) | (refine S.s (fun hb => ?_) (fun hb => ?_) <;> ((try simp only [hb]) <;> (try (have hp := hb; simp only [WKs] at hp; (try have hq := Int.not_le.2 hp); (try have hq := Int.not_lt.2 hp))))))
    | rintro _ _ ⟨rfl, rfl⟩
    | ((fail_if_success refine G.tr ?_); exact G.prop S.p)
    | fail) <;> (try simp only [WKb, ↓reduceIte, Nat.reduceEqDiff, hw0]))))
    all_goals
      refine Tr.fin hK ⟨by rw [digA_lt h10, ← hc0]; rfl, rfl⟩ ?_
      ((try clear hK) <;> (try simp only [WKe, *]) <;> repeat (first | with_reducible exact EntR.done | refine S.e ?_ | (refine S.f ?_ <;> (try simp only [WKe, ↓reduceIte, reduceCtorEq, Int.reduceEq, *])) | with_reducible apply EntR.ex | refine EntR.drop (F := F) ?_ | refine EntR.drop ?_))
  · ((try simp only [WKb, ↓reduceIte, Nat.reduceEqDiff, WKt]) <;> (repeat' ((first
    | (refine G.tr ?_; first | refine S.a ?_ | refine S.t ?_ | refine Tr.brK ?_ ?_ | (refine G.call 76 ?_; refine S.c ?_ (h := ih _ (by omega) (by omega))) | refine S.n fun _ => ?_ | refine S.i fun hix => ?_ | (refine S.g fun hb => ?_; (try simp only [hb])) | (refine S.s (fun hb => ?_) (fun hb => ?_) <;> ((try simp only [hb]) <;> (try (have hp := hb; simp only [WKs] at hp; (try have hq := Int.not_le.2 hp); (try have hq := Int.not_lt.2 hp))))))
    | rintro _ _ ⟨rfl, rfl⟩
    | ((fail_if_success refine G.tr ?_); exact G.prop S.p)
    | fail) <;> (try simp only [WKb, ↓reduceIte, Nat.reduceEqDiff, pl76, hqu, hm, hw1]))))
    all_goals
      refine Tr.fin hK ⟨by rw [digA_ge h10, ← hc]; rfl, rfl⟩ ?_
      ((try clear hK) <;> (try simp only [WKe, *]) <;> repeat (first | with_reducible exact EntR.done | refine S.e ?_ | (refine S.f ?_ <;> (try simp only [WKe, ↓reduceIte, reduceCtorEq, Int.reduceEq, *])) | with_reducible apply EntR.ex | refine EntR.drop (F := F) ?_ | refine EntR.drop ?_))


theorem decimalS_ok {n : Int} (hn : I64 n) : Trip Tryz.prog 47 [.int .i64 n].toArray [] fun v l' => v = .string (bstr (decA n)) ∧ l' = [] := by
  intro F K hK
  simp only [List.nil_append]
  have h1 := hn.1
  have h2 := hn.2
  have hl := digA_len20 (n := n.natAbs) (by omega)
  (refine Tr.enter (rs := [.tmp 2]) mixed fn47 rfl (by simp +arith [Tryz.ntmps47]) fun u => ?_; simp only [cd47, Tryz.f47])
  by_cases hneg : n < 0
  · have hw : IntKind.u64.wrap (0 - IntKind.u64.wrap n) = ((n.natAbs : Nat) : Int) := by rw [wrapNeg (by omega) hneg, wrapNeg (by omega) (by omega)]; omega
    ((try simp only [WKb, ↓reduceIte, Nat.reduceEqDiff, WKt]) <;> (repeat' ((first
    | (refine G.tr ?_; first | refine S.a ?_ | refine S.t ?_ | refine Tr.brK ?_ ?_ | (refine G.call 76 ?_; refine S.c ?_ (h := digitsS_ok _ (by omega))) | refine S.n fun _ => ?_ | refine S.i fun hix => ?_ | (refine S.g fun hb => ?_; (try simp only [hb])) | (refine S.s (fun hb => ?_) (fun hb => ?_) <;> ((try simp only [hb]) <;> (try (have hp := hb; simp only [WKs] at hp; (try have hq := Int.not_le.2 hp); (try have hq := Int.not_lt.2 hp))))))
    | rintro _ _ ⟨rfl, rfl⟩
    | ((fail_if_success refine G.tr ?_); exact G.prop S.p)
    | fail) <;> (try simp only [WKb, WKh, ↓reduceIte, Nat.reduceEqDiff, WKt, hw]))))
    all_goals
      refine Tr.fin hK ⟨by rw [decA_neg hneg]; try rfl, rfl⟩ ?_
      ((try clear hK) <;> (try simp only [WKe, *]) <;> repeat (first | with_reducible exact EntR.done | refine S.e ?_ | (refine S.f ?_ <;> (try simp only [WKe, ↓reduceIte, reduceCtorEq, Int.reduceEq, *])) | with_reducible apply EntR.ex | refine EntR.drop (F := F) ?_ | refine EntR.drop ?_))
  · have hw : IntKind.u64.wrap n = ((n.natAbs : Nat) : Int) := by rw [wrapN64 (by omega) (by omega)]; omega
    ((try simp only [WKb, ↓reduceIte, Nat.reduceEqDiff, WKt]) <;> (repeat' ((first
    | (refine G.tr ?_; first | refine S.a ?_ | refine S.t ?_ | refine Tr.brK ?_ ?_ | (refine G.call 76 ?_; refine S.c ?_ (h := digitsS_ok _ (by omega))) | refine S.n fun _ => ?_ | refine S.i fun hix => ?_ | (refine S.g fun hb => ?_; (try simp only [hb])) | (refine S.s (fun hb => ?_) (fun hb => ?_) <;> ((try simp only [hb]) <;> (try (have hp := hb; simp only [WKs] at hp; (try have hq := Int.not_le.2 hp); (try have hq := Int.not_lt.2 hp))))))
    | rintro _ _ ⟨rfl, rfl⟩
    | ((fail_if_success refine G.tr ?_); exact G.prop S.p)
    | fail) <;> (try simp only [WKb, WKh, ↓reduceIte, Nat.reduceEqDiff, hw]))))
    all_goals
      refine Tr.fin hK ⟨by rw [decA_pos hneg], rfl⟩ ?_
      ((try clear hK) <;> (try simp only [WKe, *]) <;> repeat (first | with_reducible exact EntR.done | refine S.e ?_ | (refine S.f ?_ <;> (try simp only [WKe, ↓reduceIte, reduceCtorEq, Int.reduceEq, *])) | with_reducible apply EntR.ex | refine EntR.drop (F := F) ?_ | refine EntR.drop ?_))

theorem numberS_ok {s : List UInt8} (_hs : s.length ≤ 1000000) : Trip Tryz.prog 24 [.string (bstr s)].toArray [] fun v l' => ∃ n, I64 n ∧ (∀ m, numA s = some m → n = m) ∧ v = .tuple #[.int .i64 n, .bool (numA s).isSome] ∧ l' = [] := by
  intro F K hK
  simp only [List.nil_append]
  have htl := trimA_len s
  have h0 : I64 0 := by unfold I64; omega
  obtain ⟨t, ht⟩ : ∃ t, trimA s = t := ⟨_, rfl⟩
  rw [ht] at htl
  have hbad : (t = [] ∨ 19 < t.length ∨ 20 < s.length ∨ (∃ b ∈ t, ¬ isDig b) ∨ 9223372036854775808 < valA t ∨ (t = s ∧ 9223372036854775808 ≤ valA t)) → numA s = none := by rw [← ht]; exact num_bad
  have hnN : numN s = if t = s then IntKind.i64.wrap (valA t : Nat) else IntKind.i64.wrap (0 - IntKind.i64.wrap (valA t : Nat)) := by rw [← ht]; rfl
  have hN := numN_spec (s := s)
  have hNs := numN_isSome (s := s)
  (refine Tr.enter (rs := [.tmp 2, .tmp 3]) mixed fn24 rfl (by simp +arith [Tryz.ntmps24]) fun u => ?_; simp only [cd24, Tryz.f24])
  by_cases hbd : t = [] ∨ 19 < t.length
  · have hno : numA s = none := hbad (hbd.imp_right .inl)
    rcases hbd with hbd | hbd
    · ((try simp only [WKb, ↓reduceIte, Nat.reduceEqDiff, WKt]) <;> (repeat' ((first
    | (refine G.tr ?_; first | refine S.a ?_ | refine S.t ?_ | refine Tr.brK ?_ ?_ | (refine G.call 46 ?_; refine S.c ?_ (h := trim_ok)) | (refine G.call 47 ?_; refine S.c ?_ (h := decimalS_ok (by assumption))) | refine S.n fun _ => ?_ | refine S.i fun hix => ?_ | (refine S.g fun hb => ?_; (try simp only [hb])) | (refine S.s (fun hb => ?_) (fun hb => ?_) <;> ((try simp only [hb]) <;> (try (have hp := hb; simp only [WKs] at hp; (try have hq := Int.not_le.2 hp); (try have hq := Int.not_lt.2 hp))))))
    | rintro _ _ ⟨rfl, rfl⟩
    | ((fail_if_success refine G.tr ?_); exact G.prop S.p)
    | fail) <;> (try simp only [WKb, WKh, ↓reduceIte, Nat.reduceEqDiff, ht, hbd]))))
      all_goals
        apply Tr.fin hK ⟨0, h0, fun m hm => (by rw [hno] at hm; cases hm), (by rw [hno]; rfl), rfl⟩
        ((try clear hK) <;> (try simp only [WKe, *]) <;> repeat (first | with_reducible exact EntR.done | refine S.e ?_ | (refine S.f ?_ <;> (try simp only [WKe, ↓reduceIte, reduceCtorEq, Int.reduceEq, *])) | with_reducible apply EntR.ex | refine EntR.drop (F := F) ?_ | refine EntR.drop ?_))
    · ((try simp only [WKb, ↓reduceIte, Nat.reduceEqDiff, WKt]) <;> (repeat' ((first
    | (refine G.tr ?_; first | refine S.a ?_ | refine S.t ?_ | refine Tr.brK ?_ ?_ | (refine G.call 46 ?_; refine S.c ?_ (h := trim_ok)) | (refine G.call 47 ?_; refine S.c ?_ (h := decimalS_ok (by assumption))) | refine S.n fun _ => ?_ | refine S.i fun hix => ?_ | (refine S.g fun hb => ?_; (try simp only [hb])) | (refine S.s (fun hb => ?_) (fun hb => ?_) <;> ((try simp only [hb]) <;> (try (have hp := hb; simp only [WKs] at hp; (try have hq := Int.not_le.2 hp); (try have hq := Int.not_lt.2 hp))))))
    | rintro _ _ ⟨rfl, rfl⟩
    | ((fail_if_success refine G.tr ?_); exact G.prop S.p)
    | fail) <;> (try simp only [WKb, WKh, ↓reduceIte, Nat.reduceEqDiff, WKt, ht]))))
      all_goals
        apply Tr.fin hK ⟨0, h0, fun m hm => (by rw [hno] at hm; cases hm), (by rw [hno]; rfl), rfl⟩
        ((try clear hK) <;> (try simp only [WKe, *]) <;> repeat (first | with_reducible exact EntR.done | refine S.e ?_ | (refine S.f ?_ <;> (try simp only [WKe, ↓reduceIte, reduceCtorEq, Int.reduceEq, *])) | with_reducible apply EntR.ex | refine EntR.drop (F := F) ?_ | refine EntR.drop ?_))
  · have hb1 : ¬ t = [] := fun h => hbd (.inl h)
    have hb2 : t.length ≤ 19 := by
      have : ¬ 19 < t.length := fun h => hbd (.inr h)
      omega
    ((try simp only [WKb, ↓reduceIte, Nat.reduceEqDiff, WKt]) <;> (repeat' ((first
    | (refine G.tr ?_; first | refine S.a ?_ | refine S.t ?_ | refine Tr.brK ?_ ?_ | (refine G.call 46 ?_; refine S.c ?_ (h := trim_ok)) | (refine G.call 47 ?_; refine S.c ?_ (h := decimalS_ok (by assumption))) | refine S.n fun _ => ?_ | refine S.i fun hix => ?_ | (refine S.g fun hb => ?_; (try simp only [hb])) | (refine S.s (fun hb => ?_) (fun hb => ?_) <;> ((try simp only [hb]) <;> (try (have hp := hb; simp only [WKs] at hp; (try have hq := Int.not_le.2 hp); (try have hq := Int.not_lt.2 hp))))))
    | rintro _ _ ⟨rfl, rfl⟩
    | ((fail_if_success refine G.tr ?_); exact G.prop S.p)
    | fail) <;> (try simp only [WKb, WKh, ↓reduceIte, Nat.reduceEqDiff, WKt, ht]))))
    refine Tr.loopE (α := Nat × Nat) [2, 3, 5, 19] [0, 4, 18] (fun x => [.int .i64 0, .bool false, .int .u64 x.2, .int .i64 x.1]) (fun x => []) (fun x => x.1 ≤ t.length ∧ x.2 = valA (t.take x.1) ∧ ∀ b ∈ t.take x.1, isDig b) (fun x => t.length - x.1) (0, 0) (by (repeat (first | exact TakeL.nil | (apply TakeL.cons; focus ((first | exact TakeA.dupS | exact TakeA.dupF | ((repeat (first | with_reducible exact TakeA.here | exact TakeA.fam (by omega) (by omega) | with_reducible apply TakeA.next)); done) | ((repeat (first | exact TakeA.here | apply TakeA.next)); done) | exact TakeA.famNil | exact TakeA.nilS))) | fail)); done) rfl ⟨by omega, rfl, by simp⟩ fun x u hx => ?_
    obtain ⟨k, v⟩ := x
    simp only at hx ⊢
    obtain ⟨hk, hv, hd⟩ := hx
    have hws := wrapSucc (k := k) (by omega)
    by_cases hin : k < t.length
    · by_cases hdg : isDig (bix t (k : Int))
      · have hdn := dig_next hin hd hdg
        have hvn := valA_next hin
        rw [← hv] at hvn
        have hvl := valA_lt _ hd
        rw [← hv, List.length_take, Nat.min_eq_left hk] at hvl
        have hv18 : v < 1000000000000000000 := Nat.lt_of_lt_of_le hvl (Nat.pow_le_pow_right (n := 10) (i := k) (j := 18) (by decide) (by omega))
        have hdg' := hdg
        unfold isDig at hdg'
        have e1 : IntKind.u64.wrap (10 * (v : Int)) = 10 * (v : Int) := wrapN64 (by omega) (by omega)
        have e2 : IntKind.u8.wrap (((bix t (k : Int)).toNat : Int) - 48) = (((bix t (k : Int)).toNat - 48 : Nat) : Int) := by rw [wrapN8 (by omega) (by omega)]; omega
        have e3 : IntKind.u64.wrap (((bix t (k : Int)).toNat - 48 : Nat) : Int) = (((bix t (k : Int)).toNat - 48 : Nat) : Int) := wrapN64 (by omega) (by omega)
        have e4 : IntKind.u64.wrap (10 * (v : Int) + (((bix t (k : Int)).toNat - 48 : Nat) : Int)) = ((10 * v + ((bix t (k : Int)).toNat - 48) : Nat) : Int) := by rw [wrapN64 (by omega) (by omega)]; omega
        have hvn' : 10 * v + ((bix t (k : Int)).toNat - 48) = valA (t.take (k + 1)) := hvn.symm
        ((try simp only [WKb, ↓reduceIte, Nat.reduceEqDiff]) <;> (repeat' ((first
    | (refine G.tr ?_; first | refine S.a ?_ | refine S.t ?_ | refine Tr.brK ?_ ?_ | (refine G.call 46 ?_; refine S.c ?_ (h := trim_ok)) | (refine G.call 47 ?_; refine S.c ?_ (h := decimalS_ok (by assumption))) | refine S.n fun _ => ?_ | refine S.i fun hix => ?_ | (refine S.g fun hb => ?_; (try simp only [hb])) | (refine S.s (fun hb => ?_) (fun hb => ?_) <;> ((try simp only [hb]) <;> (try (have hp := hb; simp only [WKs] at hp; (try have hq := Int.not_le.2 hp); (try have hq := Int.not_lt.2 hp))))))
    | rintro _ _ ⟨rfl, rfl⟩
    | ((fail_if_success refine G.tr ?_); exact G.prop S.p)
    | fail) <;> (try simp only [WKb, WKh, ↓reduceIte, Nat.reduceEqDiff, hws, e1, e2, e3, e4]))))
        all_goals
          clear hv e1 e2 e3
          (apply Tr.againE ((k + 1, _)); (focus (simp only [WKb, ↓reduceIte, Nat.reduceEqDiff])); (focus ((try simp only [WKb, ↓reduceIte, Nat.reduceEqDiff, Nat.reduceAdd, Nat.reduceSub, hw]); (all_goals ((repeat (refine cons_eq (by first | rfl | (simp [*]; done)) ?_)); rfl)); done)); (focus (first | omega | assumption | (simp only []; omega) | (refine ⟨by omega, by assumption⟩) | (simp only []; refine ⟨by omega, by assumption⟩) | ((try simp only []); (repeat' (first | omega | assumption | apply hvn' | apply hdn | refine And.intro ?_ ?_)); done))); (focus (first | omega | (simp only []; omega))); (focus (((try clear hK) <;> (try simp only [WKe, *]) <;> repeat (first | with_reducible exact EntR.done | refine S.e ?_ | (refine S.f ?_ <;> (try simp only [WKe, ↓reduceIte, reduceCtorEq, Int.reduceEq, *])) | with_reducible apply EntR.ex | refine EntR.drop (F := F) ?_ | refine EntR.drop ?_)))))
      · have hno : numA s = none := hbad (.inr (.inr (.inr (.inl ⟨_, bix_mem hin, hdg⟩))))
        have hdg' := hdg
        unfold isDig at hdg'
        clear hv
        by_cases hlo : (bix t (k : Int)).toNat < 48
        · ((try simp only [WKb, ↓reduceIte, Nat.reduceEqDiff]) <;> (repeat' ((first
    | (refine G.tr ?_; first | refine S.a ?_ | refine S.t ?_ | refine Tr.brK ?_ ?_ | (refine G.call 46 ?_; refine S.c ?_ (h := trim_ok)) | (refine G.call 47 ?_; refine S.c ?_ (h := decimalS_ok (by assumption))) | refine S.n fun _ => ?_ | refine S.i fun hix => ?_ | (refine S.g fun hb => ?_; (try simp only [hb])) | (refine S.s (fun hb => ?_) (fun hb => ?_) <;> ((try simp only [hb]) <;> (try (have hp := hb; simp only [WKs] at hp; (try have hq := Int.not_le.2 hp); (try have hq := Int.not_lt.2 hp))))))
    | rintro _ _ ⟨rfl, rfl⟩
    | ((fail_if_success refine G.tr ?_); exact G.prop S.p)
    | fail) <;> (try simp only [WKb, ↓reduceIte, Nat.reduceEqDiff]))))
          all_goals
            apply Tr.fin hK ⟨0, h0, fun m hm => (by rw [hno] at hm; cases hm), (by rw [hno]; rfl), rfl⟩
            ((try clear hK) <;> (try simp only [WKe, *]) <;> repeat (first | with_reducible exact EntR.done | refine S.e ?_ | (refine S.f ?_ <;> (try simp only [WKe, ↓reduceIte, reduceCtorEq, Int.reduceEq, *])) | with_reducible apply EntR.ex | refine EntR.drop (F := F) ?_ | refine EntR.drop ?_))
        · have hhi : 57 < (bix t (k : Int)).toNat := by omega
          ((try simp only [WKb, ↓reduceIte, Nat.reduceEqDiff]) <;> (repeat' ((first
    | (refine G.tr ?_; first | refine S.a ?_ | refine S.t ?_ | refine Tr.brK ?_ ?_ | (refine G.call 46 ?_; refine S.c ?_ (h := trim_ok)) | (refine G.call 47 ?_; refine S.c ?_ (h := decimalS_ok (by assumption))) | refine S.n fun _ => ?_ | refine S.i fun hix => ?_ | (refine S.g fun hb => ?_; (try simp only [hb])) | (refine S.s (fun hb => ?_) (fun hb => ?_) <;> ((try simp only [hb]) <;> (try (have hp := hb; simp only [WKs] at hp; (try have hq := Int.not_le.2 hp); (try have hq := Int.not_lt.2 hp))))))
    | rintro _ _ ⟨rfl, rfl⟩
    | ((fail_if_success refine G.tr ?_); exact G.prop S.p)
    | fail) <;> (try simp only [WKb, ↓reduceIte, Nat.reduceEqDiff]))))
          all_goals
            apply Tr.fin hK ⟨0, h0, fun m hm => (by rw [hno] at hm; cases hm), (by rw [hno]; rfl), rfl⟩
            ((try clear hK) <;> (try simp only [WKe, *]) <;> repeat (first | with_reducible exact EntR.done | refine S.e ?_ | (refine S.f ?_ <;> (try simp only [WKe, ↓reduceIte, reduceCtorEq, Int.reduceEq, *])) | with_reducible apply EntR.ex | refine EntR.drop (F := F) ?_ | refine EntR.drop ?_))
    · have hke : k = t.length := by omega
      subst hke
      rw [List.take_length] at hv
      subst hv
      have hiw := i64_I64 ((valA t : Nat) : Int)
      have hiw2 := i64_I64 (0 - IntKind.i64.wrap ((valA t : Nat) : Int))
      by_cases hts : t = s
      · rw [if_pos hts] at hnN
        rw [hnN] at hN hNs
        ((try simp only [WKb, ↓reduceIte, Nat.reduceEqDiff]) <;> (repeat' ((first
    | (refine G.tr ?_; first | refine S.a ?_ | refine S.t ?_ | refine Tr.brK ?_ ?_ | (refine G.call 46 ?_; refine S.c ?_ (h := trim_ok)) | (refine G.call 47 ?_; refine S.c ?_ (h := decimalS_ok (by assumption))) | refine S.n fun _ => ?_ | refine S.i fun hix => ?_ | (refine S.g fun hb => ?_; (try simp only [hb])) | (refine S.s (fun hb => ?_) (fun hb => ?_) <;> ((try simp only [hb]) <;> (try (have hp := hb; simp only [WKs] at hp; (try have hq := Int.not_le.2 hp); (try have hq := Int.not_lt.2 hp))))))
    | rintro _ _ ⟨rfl, rfl⟩
    | ((fail_if_success refine G.tr ?_); exact G.prop S.p)
    | fail) <;> (try simp only [WKb, WKh, ↓reduceIte, Nat.reduceEqDiff]))))
        all_goals
          apply Tr.fin hK ⟨_, hiw, hN.2, (by rw [hNs]), rfl⟩
          ((try clear hK) <;> (try simp only [WKe, *]) <;> repeat (first | with_reducible exact EntR.done | refine S.e ?_ | (refine S.f ?_ <;> (try simp only [WKe, ↓reduceIte, reduceCtorEq, Int.reduceEq, *])) | with_reducible apply EntR.ex | refine EntR.drop (F := F) ?_ | refine EntR.drop ?_))
      · rw [if_neg hts] at hnN
        rw [hnN] at hN hNs
        ((try simp only [WKb, ↓reduceIte, Nat.reduceEqDiff]) <;> (repeat' ((first
    | (refine G.tr ?_; first | refine S.a ?_ | refine S.t ?_ | refine Tr.brK ?_ ?_ | (refine G.call 46 ?_; refine S.c ?_ (h := trim_ok)) | (refine G.call 47 ?_; refine S.c ?_ (h := decimalS_ok (by assumption))) | refine S.n fun _ => ?_ | refine S.i fun hix => ?_ | (refine S.g fun hb => ?_; (try simp only [hb])) | (refine S.s (fun hb => ?_) (fun hb => ?_) <;> ((try simp only [hb]) <;> (try (have hp := hb; simp only [WKs] at hp; (try have hq := Int.not_le.2 hp); (try have hq := Int.not_lt.2 hp))))))
    | rintro _ _ ⟨rfl, rfl⟩
    | ((fail_if_success refine G.tr ?_); exact G.prop S.p)
    | fail) <;> (try simp only [WKb, WKh, ↓reduceIte, Nat.reduceEqDiff, WKt]))))
        all_goals
          apply Tr.fin hK ⟨_, hiw2, hN.2, (by rw [hNs]), rfl⟩
          ((try clear hK) <;> (try simp only [WKe, *]) <;> repeat (first | with_reducible exact EntR.done | refine S.e ?_ | (refine S.f ?_ <;> (try simp only [WKe, ↓reduceIte, reduceCtorEq, Int.reduceEq, *])) | with_reducible apply EntR.ex | refine EntR.drop (F := F) ?_ | refine EntR.drop ?_))

end Go.Proofs.YtgkhjgpgdfbdpaaGreatDoor
