import Derived.Test.YtgkhjgpgdfbdpaaDoorXax
import Derived.Test.YtgkhjgpgdfbdpaaDoorTb2
import Derived.Test.YtgkhjgpgdfbdpaaDoorSh
import Derived.Test.YtgkhjgpgdfbdpaaDoorWkX
import Derived.Test.YtgkhjgpgdfbdpaaDoorWkY
namespace Go.Proofs.YtgkhjgpgdfbdpaaDoor
open Go Go.Wk
set_option maxHeartbeats 6400000
set_option maxRecDepth 100000

attribute [local irreducible] BrK GenK EGenK EUnitK CallK FnK CallV GuardO GuardC CondW opX opK opKc chkR eqR seqK blkK endL WL WD W LoopW BinK Tr drewK resL PickK NotK NilK ExtrK getK Instr.storeAt Instr.loadAt Instr.fieldAt Instr.indexAt Instr.lookup Instr.mapUpdate Instr.box Instr.alloc Instr.build Instr.buildSlice Instr.makeSlice Instr.makeMap Instr.sliceAt Instr.field Instr.index Instr.makeInterface Instr.typeAssert Builtin.len_ Builtin.append_ Builtin.cap_ Builtin.min_ Builtin.max_ Builtin.copy_ Builtin.clear_ convert binOp mp blk rob sl sep ex fact old
attribute [local irreducible] NegK


theorem digitsC_ok : ∀ (n : Nat), n < 18446744073709551616 → Trip Tryd.prog 137 [.int .u64 n].toArray [] fun v l' => v = .string (bstr (digA n)) ∧ l' = [] := by
  intro n
  induction n using Nat.strongRecOn with
  | _ n ih0 =>
  intro hn F K hK
  have ih : ∀ m : Nat, m < n → m < 18446744073709551616 → Trip Tryd.prog 137 [.int .u64 (m : Int)].toArray [] fun v l' => v = .string (bstr (digA m)) ∧ l' = [] := ih0
  clear ih0
  simp only [List.nil_append]
  have hqu : IntKind.u64.wrap ((n : Int).tdiv 10) = ((n / 10 : Nat) : Int) := by
    rw [show (n : Int).tdiv 10 = ((n / 10 : Nat) : Int) from rfl]
    exact wrapN64 (by omega) (by omega)
  have hm : (n : Int).tmod 10 = ((n % 10 : Nat) : Int) := rfl
  have hw1 : IntKind.u64.wrap (((n % 10 : Nat) : Int) + 1) = ((n % 10 + 1 : Nat) : Int) := by rw [wrapN64 (by omega) (by omega)]; rfl
  have hc := dig_at (d := n % 10) (by omega)
  have hl9 : n / 10 < n ∨ n < 10 := by omega
  have hl20 := digA_len20 (n := n / 10) (by omega)
  (refine Tr.enter (rs := [.tmp 2]) mixed fn137 rfl (by simp +arith [Tryd.ntmps137]) fun u => ?_; simp only [cd137, Tryd.f137])
  by_cases h10 : n < 10
  · have hw0 : IntKind.u64.wrap ((n : Int) + 1) = ((n + 1 : Nat) : Int) := by rw [wrapN64 (by omega) (by omega)]; rfl
    have hc0 := dig_at h10
    ((try simp only [WKb, ↓reduceIte, Nat.reduceEqDiff, WKt]) <;> (repeat' ((first
    | (refine G.tr ?_; first | refine S.a ?_ | refine S.t ?_ | refine Tr.brK ?_ ?_ | (refine G.call 137 ?_; refine S.c ?_ (h := ih _ (by omega) (by omega))) | refine S.n fun _ => ?_ | refine S.i fun hix => ?_ | (refine S.g fun hb => ?_; (try simp only [hb])) | (refine S.s (fun hb => ?_) (fun hb => ?_) <;> ((try simp only [hb]) <;> (try (have hp := hb; simp only [WKs] at hp; (try have hq := Int.not_le.2 hp); (try have hq := Int.not_lt.2 hp))))))
    | rintro _ _ ⟨rfl, rfl⟩
    | ((fail_if_success refine G.tr ?_); exact G.prop S.p)
    | fail) <;> (try simp only [WKb, ↓reduceIte, Nat.reduceEqDiff, hw0]))))
    all_goals
      refine Tr.fin hK ⟨by rw [digA_lt h10, ← hc0]; rfl, rfl⟩ ?_
      ((try clear hK) <;> (try simp only [WKe, *]) <;> repeat (first | with_reducible exact EntR.done | refine S.e ?_ | (refine S.f ?_ <;> (try simp only [WKe, ↓reduceIte, reduceCtorEq, Int.reduceEq, *])) | with_reducible apply EntR.ex | refine EntR.drop (F := F) ?_ | refine EntR.drop ?_))
  · ((try simp only [WKb, ↓reduceIte, Nat.reduceEqDiff, WKt]) <;> (repeat' ((first
    | (refine G.tr ?_; first | refine S.a ?_ | refine S.t ?_ | refine Tr.brK ?_ ?_ | (refine G.call 137 ?_; refine S.c ?_ (h := ih _ (by omega) (by omega))) | refine S.n fun _ => ?_ | refine S.i fun hix => ?_ | (refine S.g fun hb => ?_; (try simp only [hb])) | (refine S.s (fun hb => ?_) (fun hb => ?_) <;> ((try simp only [hb]) <;> (try (have hp := hb; simp only [WKs] at hp; (try have hq := Int.not_le.2 hp); (try have hq := Int.not_lt.2 hp))))))
    | rintro _ _ ⟨rfl, rfl⟩
    | ((fail_if_success refine G.tr ?_); exact G.prop S.p)
    | fail) <;> (try simp only [WKb, ↓reduceIte, Nat.reduceEqDiff, pl137, hqu, hm, hw1]))))
    all_goals
      refine Tr.fin hK ⟨by rw [digA_ge h10, ← hc]; rfl, rfl⟩ ?_
      ((try clear hK) <;> (try simp only [WKe, *]) <;> repeat (first | with_reducible exact EntR.done | refine S.e ?_ | (refine S.f ?_ <;> (try simp only [WKe, ↓reduceIte, reduceCtorEq, Int.reduceEq, *])) | with_reducible apply EntR.ex | refine EntR.drop (F := F) ?_ | refine EntR.drop ?_))


theorem decimalC_ok {n : Int} (hn : I64 n) : Trip Tryd.prog 101 [.int .i64 n].toArray [] fun v l' => v = .string (bstr (decA n)) ∧ l' = [] := by
  intro F K hK
  simp only [List.nil_append]
  have h1 := hn.1
  have h2 := hn.2
  have hl := digA_len20 (n := n.natAbs) (by omega)
  (refine Tr.enter (rs := [.tmp 2]) mixed fn101 rfl (by simp +arith [Tryd.ntmps101]) fun u => ?_; simp only [cd101, Tryd.f101])
  by_cases hneg : n < 0
  · have hw : IntKind.u64.wrap (0 - IntKind.u64.wrap n) = ((n.natAbs : Nat) : Int) := by rw [wrapNeg (by omega) hneg, wrapNeg (by omega) (by omega)]; omega
    ((try simp only [WKb, ↓reduceIte, Nat.reduceEqDiff, WKt]) <;> (repeat' ((first
    | (refine G.tr ?_; first | refine S.a ?_ | refine S.t ?_ | refine Tr.brK ?_ ?_ | (refine G.call 137 ?_; refine S.c ?_ (h := digitsC_ok _ (by omega))) | refine S.n fun _ => ?_ | refine S.i fun hix => ?_ | (refine S.g fun hb => ?_; (try simp only [hb])) | (refine S.s (fun hb => ?_) (fun hb => ?_) <;> ((try simp only [hb]) <;> (try (have hp := hb; simp only [WKs] at hp; (try have hq := Int.not_le.2 hp); (try have hq := Int.not_lt.2 hp))))))
    | rintro _ _ ⟨rfl, rfl⟩
    | ((fail_if_success refine G.tr ?_); exact G.prop S.p)
    | fail) <;> (try simp only [WKb, WKh, ↓reduceIte, Nat.reduceEqDiff, WKt, hw]))))
    all_goals
      refine Tr.fin hK ⟨by rw [decA_neg hneg]; try rfl, rfl⟩ ?_
      ((try clear hK) <;> (try simp only [WKe, *]) <;> repeat (first | with_reducible exact EntR.done | refine S.e ?_ | (refine S.f ?_ <;> (try simp only [WKe, ↓reduceIte, reduceCtorEq, Int.reduceEq, *])) | with_reducible apply EntR.ex | refine EntR.drop (F := F) ?_ | refine EntR.drop ?_))
  · have hw : IntKind.u64.wrap n = ((n.natAbs : Nat) : Int) := by rw [wrapN64 (by omega) (by omega)]; omega
    ((try simp only [WKb, ↓reduceIte, Nat.reduceEqDiff, WKt]) <;> (repeat' ((first
    | (refine G.tr ?_; first | refine S.a ?_ | refine S.t ?_ | refine Tr.brK ?_ ?_ | (refine G.call 137 ?_; refine S.c ?_ (h := digitsC_ok _ (by omega))) | refine S.n fun _ => ?_ | refine S.i fun hix => ?_ | (refine S.g fun hb => ?_; (try simp only [hb])) | (refine S.s (fun hb => ?_) (fun hb => ?_) <;> ((try simp only [hb]) <;> (try (have hp := hb; simp only [WKs] at hp; (try have hq := Int.not_le.2 hp); (try have hq := Int.not_lt.2 hp))))))
    | rintro _ _ ⟨rfl, rfl⟩
    | ((fail_if_success refine G.tr ?_); exact G.prop S.p)
    | fail) <;> (try simp only [WKb, WKh, ↓reduceIte, Nat.reduceEqDiff, hw]))))
    all_goals
      refine Tr.fin hK ⟨by rw [decA_pos hneg], rfl⟩ ?_
      ((try clear hK) <;> (try simp only [WKe, *]) <;> repeat (first | with_reducible exact EntR.done | refine S.e ?_ | (refine S.f ?_ <;> (try simp only [WKe, ↓reduceIte, reduceCtorEq, Int.reduceEq, *])) | with_reducible apply EntR.ex | refine EntR.drop (F := F) ?_ | refine EntR.drop ?_))

theorem numberC_ok {s : List UInt8} (_hs : s.length ≤ 1000000) : Trip Tryd.prog 138 [.string (bstr s)].toArray [] fun v l' => ∃ n, I64 n ∧ (∀ m, numA s = some m → n = m) ∧ v = .tuple #[.int .i64 n, .bool (numA s).isSome] ∧ l' = [] := by
  intro F K hK
  simp only [List.nil_append]
  have htl := trimA_len s
  have h0 : I64 0 := by unfold I64; omega
  obtain ⟨t, ht⟩ : ∃ t, trimA s = t := ⟨_, rfl⟩
  rw [ht] at htl
  have hbad : (t = [] ∨ 19 < t.length ∨ 20 < s.length ∨ (∃ b ∈ t, ¬ isDig b) ∨ 9223372036854775808 < valA t ∨ (t = s ∧ 9223372036854775808 ≤ valA t)) → numA s = none := by rw [← ht]; exact num_bad
  have hnN : numN s = if t = s then IntKind.i64.wrap (valA t : Nat) else IntKind.i64.wrap (0 - IntKind.i64.wrap (valA t : Nat)) := by rw [← ht]; rfl
  have hN := numN_spec (s := s)
  have hNs := numN_isSome (s := s)
  (refine Tr.enter (rs := [.tmp 2, .tmp 3]) mixed fn138 rfl (by simp +arith [Tryd.ntmps138]) fun u => ?_; simp only [cd138, Tryd.f138])
  by_cases hbd : t = [] ∨ 19 < t.length
  · have hno : numA s = none := hbad (hbd.imp_right .inl)
    rcases hbd with hbd | hbd
    · ((try simp only [WKb, ↓reduceIte, Nat.reduceEqDiff, WKt]) <;> (repeat' ((first
    | (refine G.tr ?_; first | refine S.a ?_ | refine S.t ?_ | refine Tr.brK ?_ ?_ | (refine G.call 92 ?_; refine S.c ?_ (h := trim_ok)) | (refine G.call 101 ?_; refine S.c ?_ (h := decimalC_ok (by assumption))) | refine S.n fun _ => ?_ | refine S.i fun hix => ?_ | (refine S.g fun hb => ?_; (try simp only [hb])) | (refine S.s (fun hb => ?_) (fun hb => ?_) <;> ((try simp only [hb]) <;> (try (have hp := hb; simp only [WKs] at hp; (try have hq := Int.not_le.2 hp); (try have hq := Int.not_lt.2 hp))))))
    | rintro _ _ ⟨rfl, rfl⟩
    | ((fail_if_success refine G.tr ?_); exact G.prop S.p)
    | fail) <;> (try simp only [WKb, WKh, ↓reduceIte, Nat.reduceEqDiff, ht, hbd]))))
      all_goals
        apply Tr.fin hK ⟨0, h0, fun m hm => (by rw [hno] at hm; cases hm), (by rw [hno]; rfl), rfl⟩
        ((try clear hK) <;> (try simp only [WKe, *]) <;> repeat (first | with_reducible exact EntR.done | refine S.e ?_ | (refine S.f ?_ <;> (try simp only [WKe, ↓reduceIte, reduceCtorEq, Int.reduceEq, *])) | with_reducible apply EntR.ex | refine EntR.drop (F := F) ?_ | refine EntR.drop ?_))
    · ((try simp only [WKb, ↓reduceIte, Nat.reduceEqDiff, WKt]) <;> (repeat' ((first
    | (refine G.tr ?_; first | refine S.a ?_ | refine S.t ?_ | refine Tr.brK ?_ ?_ | (refine G.call 92 ?_; refine S.c ?_ (h := trim_ok)) | (refine G.call 101 ?_; refine S.c ?_ (h := decimalC_ok (by assumption))) | refine S.n fun _ => ?_ | refine S.i fun hix => ?_ | (refine S.g fun hb => ?_; (try simp only [hb])) | (refine S.s (fun hb => ?_) (fun hb => ?_) <;> ((try simp only [hb]) <;> (try (have hp := hb; simp only [WKs] at hp; (try have hq := Int.not_le.2 hp); (try have hq := Int.not_lt.2 hp))))))
    | rintro _ _ ⟨rfl, rfl⟩
    | ((fail_if_success refine G.tr ?_); exact G.prop S.p)
    | fail) <;> (try simp only [WKb, WKh, ↓reduceIte, Nat.reduceEqDiff, WKt, ht]))))
      all_goals
        apply Tr.fin hK ⟨0, h0, fun m hm => (by rw [hno] at hm; cases hm), (by rw [hno]; rfl), rfl⟩
        ((try clear hK) <;> (try simp only [WKe, *]) <;> repeat (first | with_reducible exact EntR.done | refine S.e ?_ | (refine S.f ?_ <;> (try simp only [WKe, ↓reduceIte, reduceCtorEq, Int.reduceEq, *])) | with_reducible apply EntR.ex | refine EntR.drop (F := F) ?_ | refine EntR.drop ?_))
  · have hb1 : ¬ t = [] := fun h => hbd (.inl h)
    have hb2 : t.length ≤ 19 := by
      have : ¬ 19 < t.length := fun h => hbd (.inr h)
      omega
    ((try simp only [WKb, ↓reduceIte, Nat.reduceEqDiff, WKt]) <;> (repeat' ((first
    | (refine G.tr ?_; first | refine S.a ?_ | refine S.t ?_ | refine Tr.brK ?_ ?_ | (refine G.call 92 ?_; refine S.c ?_ (h := trim_ok)) | (refine G.call 101 ?_; refine S.c ?_ (h := decimalC_ok (by assumption))) | refine S.n fun _ => ?_ | refine S.i fun hix => ?_ | (refine S.g fun hb => ?_; (try simp only [hb])) | (refine S.s (fun hb => ?_) (fun hb => ?_) <;> ((try simp only [hb]) <;> (try (have hp := hb; simp only [WKs] at hp; (try have hq := Int.not_le.2 hp); (try have hq := Int.not_lt.2 hp))))))
    | rintro _ _ ⟨rfl, rfl⟩
    | ((fail_if_success refine G.tr ?_); exact G.prop S.p)
    | fail) <;> (try simp only [WKb, WKh, ↓reduceIte, Nat.reduceEqDiff, WKt, ht]))))
    refine Tr.loopE (α := Nat × Nat) [2, 3, 5, 19] [0, 4, 18] (fun x => [.int .i64 0, .bool false, .int .u64 x.2, .int .i64 x.1]) (fun x => []) (fun x => x.1 ≤ t.length ∧ x.2 = valA (t.take x.1) ∧ ∀ b ∈ t.take x.1, isDig b) (fun x => t.length - x.1) (0, 0) (by (repeat (first | exact TakeL.nil | (apply TakeL.cons; focus ((first | exact TakeA.dupS | exact TakeA.dupF | ((repeat (first | with_reducible exact TakeA.here | exact TakeA.fam (by omega) (by omega) | with_reducible apply TakeA.next)); done) | ((repeat (first | exact TakeA.here | apply TakeA.next)); done) | exact TakeA.famNil | exact TakeA.nilS))) | fail)); done) rfl ⟨by omega, rfl, by simp⟩ fun x u hx => ?_
    obtain ⟨k, v⟩ := x
    simp only at hx ⊢
    obtain ⟨hk, hv, hd⟩ := hx
    have hws := wrapSucc (k := k) (by omega)
    by_cases hin : k < t.length
    · by_cases hdg : isDig (bix t (k : Int))
      · have hdn := dig_next hin hd hdg
        have hvn := valA_next hin
        rw [← hv] at hvn
        have hvl := valA_lt _ hd
        rw [← hv, List.length_take, Nat.min_eq_left hk] at hvl
        have hv18 : v < 1000000000000000000 := Nat.lt_of_lt_of_le hvl (Nat.pow_le_pow_right (n := 10) (i := k) (j := 18) (by decide) (by omega))
        have hdg' := hdg
        unfold isDig at hdg'
        have e1 : IntKind.u64.wrap (10 * (v : Int)) = 10 * (v : Int) := wrapN64 (by omega) (by omega)
        have e2 : IntKind.u8.wrap (((bix t (k : Int)).toNat : Int) - 48) = (((bix t (k : Int)).toNat - 48 : Nat) : Int) := by rw [wrapN8 (by omega) (by omega)]; omega
        have e3 : IntKind.u64.wrap (((bix t (k : Int)).toNat - 48 : Nat) : Int) = (((bix t (k : Int)).toNat - 48 : Nat) : Int) := wrapN64 (by omega) (by omega)
        have e4 : IntKind.u64.wrap (10 * (v : Int) + (((bix t (k : Int)).toNat - 48 : Nat) : Int)) = ((10 * v + ((bix t (k : Int)).toNat - 48) : Nat) : Int) := by rw [wrapN64 (by omega) (by omega)]; omega
        have hvn' : 10 * v + ((bix t (k : Int)).toNat - 48) = valA (t.take (k + 1)) := hvn.symm
        ((try simp only [WKb, ↓reduceIte, Nat.reduceEqDiff]) <;> (repeat' ((first
    | (refine G.tr ?_; first | refine S.a ?_ | refine S.t ?_ | refine Tr.brK ?_ ?_ | (refine G.call 92 ?_; refine S.c ?_ (h := trim_ok)) | (refine G.call 101 ?_; refine S.c ?_ (h := decimalC_ok (by assumption))) | refine S.n fun _ => ?_ | refine S.i fun hix => ?_ | (refine S.g fun hb => ?_; (try simp only [hb])) | (refine S.s (fun hb => ?_) (fun hb => ?_) <;> ((try simp only [hb]) <;> (try (have hp := hb; simp only [WKs] at hp; (try have hq := Int.not_le.2 hp); (try have hq := Int.not_lt.2 hp))))))
    | rintro _ _ ⟨rfl, rfl⟩
    | ((fail_if_success refine G.tr ?_); exact G.prop S.p)
    | fail) <;> (try simp only [WKb, WKh, ↓reduceIte, Nat.reduceEqDiff, hws, e1, e2, e3, e4]))))
        all_goals
          clear hv e1 e2 e3
          (apply Tr.againE ((k + 1, _)); (focus (simp only [WKb, ↓reduceIte, Nat.reduceEqDiff])); (focus ((try simp only [WKb, ↓reduceIte, Nat.reduceEqDiff, Nat.reduceAdd, Nat.reduceSub, hw]); (all_goals ((repeat (refine cons_eq (by first | rfl | (simp [*]; done)) ?_)); rfl)); done)); (focus (first | omega | assumption | (simp only []; omega) | (refine ⟨by omega, by assumption⟩) | (simp only []; refine ⟨by omega, by assumption⟩) | ((try simp only []); (repeat' (first | omega | assumption | apply hvn' | apply hdn | refine And.intro ?_ ?_)); done))); (focus (first | omega | (simp only []; omega))); (focus (((try clear hK) <;> (try simp only [WKe, *]) <;> repeat (first | with_reducible exact EntR.done | refine S.e ?_ | (refine S.f ?_ <;> (try simp only [WKe, ↓reduceIte, reduceCtorEq, Int.reduceEq, *])) | with_reducible apply EntR.ex | refine EntR.drop (F := F) ?_ | refine EntR.drop ?_)))))
      · have hno : numA s = none := hbad (.inr (.inr (.inr (.inl ⟨_, bix_mem hin, hdg⟩))))
        have hdg' := hdg
        unfold isDig at hdg'
        clear hv
        by_cases hlo : (bix t (k : Int)).toNat < 48
        · ((try simp only [WKb, ↓reduceIte, Nat.reduceEqDiff]) <;> (repeat' ((first
    | (refine G.tr ?_; first | refine S.a ?_ | refine S.t ?_ | refine Tr.brK ?_ ?_ | (refine G.call 92 ?_; refine S.c ?_ (h := trim_ok)) | (refine G.call 101 ?_; refine S.c ?_ (h := decimalC_ok (by assumption))) | refine S.n fun _ => ?_ | refine S.i fun hix => ?_ | (refine S.g fun hb => ?_; (try simp only [hb])) | (refine S.s (fun hb => ?_) (fun hb => ?_) <;> ((try simp only [hb]) <;> (try (have hp := hb; simp only [WKs] at hp; (try have hq := Int.not_le.2 hp); (try have hq := Int.not_lt.2 hp))))))
    | rintro _ _ ⟨rfl, rfl⟩
    | ((fail_if_success refine G.tr ?_); exact G.prop S.p)
    | fail) <;> (try simp only [WKb, ↓reduceIte, Nat.reduceEqDiff]))))
          all_goals
            apply Tr.fin hK ⟨0, h0, fun m hm => (by rw [hno] at hm; cases hm), (by rw [hno]; rfl), rfl⟩
            ((try clear hK) <;> (try simp only [WKe, *]) <;> repeat (first | with_reducible exact EntR.done | refine S.e ?_ | (refine S.f ?_ <;> (try simp only [WKe, ↓reduceIte, reduceCtorEq, Int.reduceEq, *])) | with_reducible apply EntR.ex | refine EntR.drop (F := F) ?_ | refine EntR.drop ?_))
        · have hhi : 57 < (bix t (k : Int)).toNat := by omega
          ((try simp only [WKb, ↓reduceIte, Nat.reduceEqDiff]) <;> (repeat' ((first
    | (refine G.tr ?_; first | refine S.a ?_ | refine S.t ?_ | refine Tr.brK ?_ ?_ | (refine G.call 92 ?_; refine S.c ?_ (h := trim_ok)) | (refine G.call 101 ?_; refine S.c ?_ (h := decimalC_ok (by assumption))) | refine S.n fun _ => ?_ | refine S.i fun hix => ?_ | (refine S.g fun hb => ?_; (try simp only [hb])) | (refine S.s (fun hb => ?_) (fun hb => ?_) <;> ((try simp only [hb]) <;> (try (have hp := hb; simp only [WKs] at hp; (try have hq := Int.not_le.2 hp); (try have hq := Int.not_lt.2 hp))))))
    | rintro _ _ ⟨rfl, rfl⟩
    | ((fail_if_success refine G.tr ?_); exact G.prop S.p)
    | fail) <;> (try simp only [WKb, ↓reduceIte, Nat.reduceEqDiff]))))
          all_goals
            apply Tr.fin hK ⟨0, h0, fun m hm => (by rw [hno] at hm; cases hm), (by rw [hno]; rfl), rfl⟩
            ((try clear hK) <;> (try simp only [WKe, *]) <;> repeat (first | with_reducible exact EntR.done | refine S.e ?_ | (refine S.f ?_ <;> (try simp only [WKe, ↓reduceIte, reduceCtorEq, Int.reduceEq, *])) | with_reducible apply EntR.ex | refine EntR.drop (F := F) ?_ | refine EntR.drop ?_))
    · have hke : k = t.length := by omega
      subst hke
      rw [List.take_length] at hv
      subst hv
      have hiw := i64_I64 ((valA t : Nat) : Int)
      have hiw2 := i64_I64 (0 - IntKind.i64.wrap ((valA t : Nat) : Int))
      by_cases hts : t = s
      · rw [if_pos hts] at hnN
        rw [hnN] at hN hNs
        ((try simp only [WKb, ↓reduceIte, Nat.reduceEqDiff]) <;> (repeat' ((first
    | (refine G.tr ?_; first | refine S.a ?_ | refine S.t ?_ | refine Tr.brK ?_ ?_ | (refine G.call 92 ?_; refine S.c ?_ (h := trim_ok)) | (refine G.call 101 ?_; refine S.c ?_ (h := decimalC_ok (by assumption))) | refine S.n fun _ => ?_ | refine S.i fun hix => ?_ | (refine S.g fun hb => ?_; (try simp only [hb])) | (refine S.s (fun hb => ?_) (fun hb => ?_) <;> ((try simp only [hb]) <;> (try (have hp := hb; simp only [WKs] at hp; (try have hq := Int.not_le.2 hp); (try have hq := Int.not_lt.2 hp))))))
    | rintro _ _ ⟨rfl, rfl⟩
    | ((fail_if_success refine G.tr ?_); exact G.prop S.p)
    | fail) <;> (try simp only [WKb, WKh, ↓reduceIte, Nat.reduceEqDiff]))))
        all_goals
          apply Tr.fin hK ⟨_, hiw, hN.2, (by rw [hNs]), rfl⟩
          ((try clear hK) <;> (try simp only [WKe, *]) <;> repeat (first | with_reducible exact EntR.done | refine S.e ?_ | (refine S.f ?_ <;> (try simp only [WKe, ↓reduceIte, reduceCtorEq, Int.reduceEq, *])) | with_reducible apply EntR.ex | refine EntR.drop (F := F) ?_ | refine EntR.drop ?_))
      · rw [if_neg hts] at hnN
        rw [hnN] at hN hNs
        ((try simp only [WKb, ↓reduceIte, Nat.reduceEqDiff]) <;> (repeat' ((first
    | (refine G.tr ?_; first | refine S.a ?_ | refine S.t ?_ | refine Tr.brK ?_ ?_ | (refine G.call 92 ?_; refine S.c ?_ (h := trim_ok)) | (refine G.call 101 ?_; refine S.c ?_ (h := decimalC_ok (by assumption))) | refine S.n fun _ => ?_ | refine S.i fun hix => ?_ | (refine S.g fun hb => ?_; (try simp only [hb])) | (refine S.s (fun hb => ?_) (fun hb => ?_) <;> ((try simp only [hb]) <;> (try (have hp := hb; simp only [WKs] at hp; (try have hq := Int.not_le.2 hp); (try have hq := Int.not_lt.2 hp))))))
    | rintro _ _ ⟨rfl, rfl⟩
    | ((fail_if_success refine G.tr ?_); exact G.prop S.p)
    | fail) <;> (try simp only [WKb, WKh, ↓reduceIte, Nat.reduceEqDiff, WKt]))))
        all_goals
          apply Tr.fin hK ⟨_, hiw2, hN.2, (by rw [hNs]), rfl⟩
          ((try clear hK) <;> (try simp only [WKe, *]) <;> repeat (first | with_reducible exact EntR.done | refine S.e ?_ | (refine S.f ?_ <;> (try simp only [WKe, ↓reduceIte, reduceCtorEq, Int.reduceEq, *])) | with_reducible apply EntR.ex | refine EntR.drop (F := F) ?_ | refine EntR.drop ?_))

end Go.Proofs.YtgkhjgpgdfbdpaaDoor

namespace Go.Proofs.YtgkhjgpgdfbdpaaDoor
open Go Go.Wk
/-- A pointer to a number, as an element. -/
structure PtF where
  x : Option Addr
instance : Inhabited PtF := ⟨⟨none⟩⟩
instance : En PtF := ⟨fun p => [.pointer p.x], 1, fun _ => rfl, fun _ => rfl, by decide⟩
instance : ElT 164 PtF := ⟨⟩
instance {l : List Asrt} {a : Option Addr} : De l (.pointer a) (PtF.mk a) := ⟨rfl⟩
end Go.Proofs.YtgkhjgpgdfbdpaaDoor

namespace Go.Proofs.YtgkhjgpgdfbdpaaDoor
open Go Go.Wk
set_option maxHeartbeats 6400000
set_option maxRecDepth 100000


instance : ElT 81 UInt8 := ⟨⟩
abbrev bld (b : Nat) (bs : List UInt8) : Asrt := bldB 83 5 b bs
theorem lays240 : Lays.n240 Tryd.prog Tryd.lays156_ren := { Tryd.lays156 with }
theorem copy_ok {b : Nat} {p : Option Addr} {v : Value} (hp : p = none ∨ p = some ⟨b, 0, none⟩) : Trip Tryd.prog 87 [.pointer (some ⟨b, 0, none⟩)].toArray [blk b (.cells [.pointer p, v].toArray 83 (0, 0))] fun u l' => u = .tuple #[] ∧ l' = [blk b (.cells [.pointer (some ⟨b, 0, none⟩), v].toArray 83 (0, 0))] :=
  trip_copy (Go.Proofs.Any.Builder_copyCheck_used lays240 Tryd.Builder_Extra_156.toX72) (Go.Proofs.Any.Builder_copyCheck_fresh lays240 Tryd.Builder_Extra_156.toX72) hp

attribute [local irreducible] BrK GenK EGenK EUnitK CallK FnK CallV GuardO GuardC CondW opX opK opKc chkR eqR seqK blkK endL WL WD W LoopW BinK Tr drewK resL PickK NotK NilK ExtrK getK Instr.storeAt Instr.loadAt Instr.fieldAt Instr.indexAt Instr.lookup Instr.mapUpdate Instr.box Instr.alloc Instr.build Instr.buildSlice Instr.makeSlice Instr.makeMap Instr.sliceAt Instr.field Instr.index Instr.makeInterface Instr.typeAssert Builtin.len_ Builtin.append_ Builtin.cap_ Builtin.min_ Builtin.max_ Builtin.copy_ Builtin.clear_ convert binOp mp blk rob sl sep ex fact old
attribute [local irreducible] NegK mxV bufT
theorem wstr_ok {b : Nat} {bs x : List UInt8} (hl : bs.length + x.length ≤ 100000000) : Trip Tryd.prog 45 [.pointer (some ⟨b, 0, none⟩), .string (bstr x)].toArray [bld b bs] fun v l' => v = .tuple #[.int .i64 (x.length : Int), .nilIface] ∧ l' = [bld b (bs ++ x)] := by
  intro F K hK
  simp only [List.cons_append, List.nil_append]
  refine bld_open fun p t hps => ?_
  (refine Tr.enter (rs := [.tmp 4, .tmp 5]) mixed fn45 rfl (by simp +arith [Tryd.ntmps45]) fun u => ?_; simp only [cd45, Tryd.f45])
  ((try simp only [WKb, ↓reduceIte, Nat.reduceEqDiff, Nat.reduceAdd]) <;> (repeat' ((first
    | (refine G.tr ?_; first | (refine G.app ?_; refine A.appS rfl (by (repeat (first | exact TakeA.here | apply TakeA.next)); done) (by decide) (by omega) fun t2 => ?_) | refine S.a ?_ | refine S.t ?_ | refine Tr.brK ?_ ?_ | (refine G.call 87 ?_; refine S.c ?_ (h := copy_ok (by assumption))) | refine S.n fun _ => ?_ | refine S.i fun hix => ?_ | (refine S.g fun hb => ?_; (try simp only [hb])) | (refine S.s (fun hb => ?_) (fun hb => ?_) <;> ((try simp only [hb]) <;> (try (have hp := hb; simp only [WKs] at hp; (try have hq := Int.not_le.2 hp); (try have hq := Int.not_lt.2 hp))))))
    | rintro _ _ ⟨rfl, rfl⟩
    | ((fail_if_success refine G.tr ?_); exact G.prop S.p)
    | fail) <;> (try simp only [WKb, ↓reduceIte, Nat.reduceEqDiff, Nat.reduceAdd, WKt]))))
  all_goals
    refine Tr.fin hK ⟨rfl, rfl⟩ ?_
    show EntR [] _ (bld b _ :: F)
    refine bld_mk _ t2 (.inr rfl) ?_
    ((try clear hK) <;> (try simp only [WKe, ↓reduceIte, reduceCtorEq, Int.reduceEq, *]) <;> repeat (first | with_reducible exact EntR.done | refine S.e ?_ | (refine S.f ?_ <;> (try simp only [WKe, ↓reduceIte, reduceCtorEq, Int.reduceEq, *])) | with_reducible apply EntR.ex | refine EntR.drop (F := F) ?_ | refine EntR.drop ?_))

theorem wbyte_ok {b : Nat} {bs : List UInt8} {c : UInt8} (hl : bs.length + 1 ≤ 100000000) : Trip Tryd.prog 46 [.pointer (some ⟨b, 0, none⟩), .int .u8 (c.toNat : Int)].toArray [bld b bs] fun v l' => v = .nilIface ∧ l' = [bld b (bs ++ [c])] := by
  intro F K hK
  simp only [List.cons_append, List.nil_append]
  refine bld_open fun p t hps => ?_
  (refine Tr.enter (rs := [.tmp 4]) mixed fn46 rfl (by simp +arith [Tryd.ntmps46]) fun u => ?_; simp only [cd46, Tryd.f46])
  ((try simp only [WKb, ↓reduceIte, Nat.reduceEqDiff, Nat.reduceAdd]) <;> (repeat' ((first
    | (refine G.tr ?_; first | (refine G.bs ?_; refine Tr.build1 c rfl rfl (by decide) fun _ => ?_) | (refine G.app ?_; refine A.appY rfl (by (repeat (first | exact TakeA.here | apply TakeA.next)); done) (by (repeat (first | exact Has.here | apply Has.next)); done) (by decide) (by simp only [List.length_singleton]; omega) fun t2 => ?_) | refine S.a ?_ | refine S.t ?_ | refine Tr.brK ?_ ?_ | (refine G.call 87 ?_; refine S.c ?_ (h := copy_ok (by assumption))) | refine S.n fun _ => ?_ | refine S.i fun hix => ?_ | (refine S.g fun hb => ?_; (try simp only [hb])) | (refine S.s (fun hb => ?_) (fun hb => ?_) <;> ((try simp only [hb]) <;> (try (have hp := hb; simp only [WKs] at hp; (try have hq := Int.not_le.2 hp); (try have hq := Int.not_lt.2 hp))))))
    | rintro _ _ ⟨rfl, rfl⟩
    | ((fail_if_success refine G.tr ?_); exact G.prop S.p)
    | fail) <;> (try simp only [WKb, ↓reduceIte, Nat.reduceEqDiff, Nat.reduceAdd]))))
  all_goals
    refine Tr.fin hK ⟨rfl, rfl⟩ ?_
    show EntR [] _ (bld b _ :: F)
    refine bld_mk _ t2 (.inr rfl) ?_
    ((try clear hK) <;> (try simp only [WKe, ↓reduceIte, reduceCtorEq, Int.reduceEq, *]) <;> repeat (first | with_reducible exact EntR.done | refine S.e ?_ | (refine S.f ?_ <;> (try simp only [WKe, ↓reduceIte, reduceCtorEq, Int.reduceEq, *])) | with_reducible apply EntR.ex | refine EntR.drop (F := F) ?_ | refine EntR.drop ?_))

theorem blen_ok {b : Nat} {bs : List UInt8} : Trip Tryd.prog 47 [.pointer (some ⟨b, 0, none⟩)].toArray [bld b bs] fun v l' => v = .int .i64 (bs.length : Int) ∧ l' = [bld b bs] := by
  intro F K hK
  simp only [List.cons_append, List.nil_append]
  refine bld_open fun p t hps => ?_
  (refine Tr.enter (rs := [.tmp 2]) mixed fn47 rfl (by simp +arith [Tryd.ntmps47]) fun u => ?_; simp only [cd47, Tryd.f47])
  ((try simp only [WKb, ↓reduceIte, Nat.reduceEqDiff]) <;> (repeat' ((first
    | (refine G.tr ?_; first | (refine G.len ?_; refine Tr.bufLen (by (repeat (first | exact Has.here | apply Has.next)); done) ?_) | refine S.a ?_ | refine S.t ?_ | refine Tr.brK ?_ ?_ | refine S.n fun _ => ?_ | refine S.i fun hix => ?_ | (refine S.g fun hb => ?_; (try simp only [hb])) | (refine S.s (fun hb => ?_) (fun hb => ?_) <;> ((try simp only [hb]) <;> (try (have hp := hb; simp only [WKs] at hp; (try have hq := Int.not_le.2 hp); (try have hq := Int.not_lt.2 hp))))))
    | ((fail_if_success refine G.tr ?_); exact G.prop S.p)
    | fail) <;> (try simp only [WKb, ↓reduceIte]))))
  all_goals
    refine Tr.fin hK ⟨rfl, rfl⟩ ?_
    show EntR [] _ (bld b _ :: F)
    refine bld_mk _ t hps ?_
    ((try clear hK) <;> (try simp only [WKe, ↓reduceIte, reduceCtorEq, Int.reduceEq, *]) <;> repeat (first | with_reducible exact EntR.done | refine S.e ?_ | (refine S.f ?_ <;> (try simp only [WKe, ↓reduceIte, reduceCtorEq, Int.reduceEq, *])) | with_reducible apply EntR.ex | refine EntR.drop (F := F) ?_ | refine EntR.drop ?_))

theorem bstr_ok {b : Nat} {bs : List UInt8} : Trip Tryd.prog 48 [.pointer (some ⟨b, 0, none⟩)].toArray [bld b bs] fun v l' => v = .string (bstr bs) ∧ l' = [] := by
  intro F K hK
  simp only [List.cons_append, List.nil_append]
  refine bld_open fun p t hps => ?_
  (refine Tr.enter (rs := [.tmp 2]) mixed fn48 rfl (by simp +arith [Tryd.ntmps48]) fun u => ?_; simp only [cd48, Tryd.f48])
  ((try simp only [WKb, ↓reduceIte, Nat.reduceEqDiff, WKt, pl48]) <;> (repeat' ((first
    | (refine G.tr ?_; first | (refine G.len ?_; refine Tr.bufLen (by (repeat (first | exact Has.here | apply Has.next)); done) ?_) | (refine G.usd ?_; refine A.usd (by (repeat (first | exact Has.here | apply Has.next)); done) ?_) | (refine G.ust ?_; refine A.ust rfl rfl (by (repeat (first | exact TakeA.here | apply TakeA.next)); done) ?_) | refine S.a ?_ | refine S.t ?_ | refine Tr.brK ?_ ?_ | refine S.n fun _ => ?_ | refine S.i fun hix => ?_ | (refine S.g fun hb => ?_; (try simp only [hb])) | (refine S.s (fun hb => ?_) (fun hb => ?_) <;> ((try simp only [hb]) <;> (try (have hp := hb; simp only [WKs] at hp; (try have hq := Int.not_le.2 hp); (try have hq := Int.not_lt.2 hp))))))
    | ((fail_if_success refine G.tr ?_); exact G.prop S.p)
    | fail) <;> (try simp only [WKb, ↓reduceIte, Nat.reduceEqDiff, opX_usd, opX_ust]))))
  all_goals
    refine Tr.fin hK ⟨rfl, rfl⟩ ?_
    ((try clear hK) <;> (try simp only [WKe, *]) <;> repeat (first | with_reducible exact EntR.done | refine S.e ?_ | (refine S.f ?_ <;> (try simp only [WKe, ↓reduceIte, reduceCtorEq, Int.reduceEq, *])) | with_reducible apply EntR.ex | refine EntR.drop (F := F) ?_ | refine EntR.drop ?_))

end Go.Proofs.YtgkhjgpgdfbdpaaDoor
