import Derived.Test.YtgkhjgpgdfbdpaaGreatDoorWhx
import Derived.Test.YtgkhjgpgdfbdpaaGreatDoorWgx
import Derived.Test.YtgkhjgpgdfbdpaaGreatDoorWC
namespace Go.Proofs.YtgkhjgpgdfbdpaaGreatDoor
open Go Go.Wk
set_option maxHeartbeats 6400000
set_option maxRecDepth 100000

/-! ### the document's configuration of a text -/
theorem tok_yes {w : List UInt8} {k : Nat} {l : List Int} (h : tokU w = some (k, l)) : k < 16 ∧ (∀ n ∈ l, I64 n) ∧ wordsV w = (wordU k, l, true) ∧ ordI (wordU k) = (k : Int) := by
  obtain ⟨h1, _, h3, h4⟩ := tokU_some h
  exact ⟨h1, h3, by unfold wordsV; rw [h4], ordI_at h1 rfl⟩
theorem tok_no {w : List UInt8} (h : tokU w = none) : (wordsV w).2.2 = false ∨ ordI (wordsV w).1 = -1 := by
  unfold tokU at h
  unfold wordsV
  cases hw : wordsU w with
  | none => exact .inl rfl
  | some p =>
    rw [hw] at h
    refine .inr ?_
    unfold ordI
    simp only at h ⊢
    cases ho : orderU p.1 with
    | none => rfl
    | some k => rw [ho] at h; cases h
theorem run_more {c : ConfV} {was : Nat} {n : Int} {w : List UInt8} {r : List (List UInt8)} (hr : r ≠ []) : runU c was n (w :: r) = match tokU w with
    | none => (ConfV.none, n, 13)
    | some t => match stepU c was t with
      | none => (ConfV.none, n, 13)
      | some c' => runU c' t.1 (n + 1) r := by
  conv => lhs; unfold runU
  rw [if_neg hr]
  rfl
theorem step_no {c : ConfV} {was : Nat} {t : Tok} (h : mayU c was t = false) : stepU c was t = none := by unfold stepU; rw [h]; rfl
theorem may_no {c : ConfV} {was k : Nat} {l : List Int} (h : ¬ (canU k was = true ∧ (manyU k < 0 ∨ (l.length : Int) = manyU k) ∧ l.length ≤ 64 ∧ countU c k < 64)) : mayU c was (k, l) = false := by
  cases hm : mayU c was (k, l) with
  | false => rfl
  | true => exact absurd (may_all hm) h
theorem dwordsQ_ok {s w : List UInt8} {l : List Int} {b : Bool} (hw : wordsV s = (w, l, b)) (hs : s.length ≤ 1000000) : Trip Tryz.prog 10 [.string (bstr s)].toArray []
    fun v l' => ∃ t : SV, v = .tuple #[.string (bstr w), t.v, .bool b] ∧ l' = [sl false t.v l] := by
  have h := dwords_ok hs
  rw [hw] at h
  exact h


attribute [local irreducible] BrK GenK EGenK EUnitK CallK FnK CallV GuardO GuardC CondW opX opK opKc chkR eqR seqK blkK endL WL WD W LoopW BinK Tr drewK resL PickK NotK NilK ExtrK getK Instr.storeAt Instr.loadAt Instr.fieldAt Instr.indexAt Instr.lookup Instr.mapUpdate Instr.box Instr.alloc Instr.build Instr.buildSlice Instr.makeSlice Instr.makeMap Instr.sliceAt Instr.field Instr.index Instr.makeInterface Instr.typeAssert Builtin.len_ Builtin.append_ Builtin.cap_ Builtin.min_ Builtin.max_ Builtin.copy_ Builtin.clear_ convert binOp mp blk rob sl sep ex fact old
attribute [local irreducible] NegK gU wordU ordI manyU canU countU
theorem entr_conf {F : List Asrt} : EntR [] F (confL default ++ F) := EntR.nilS (EntR.dupF (EntR.nilS (EntR.nilS (EntR.famNil (EntR.nilS (EntR.nilS (EntR.nilS (EntR.nilS EntR.done))))))))
theorem dread_ok {s : List UInt8} : Trip Tryz.prog 13 [.string (bstr s)].toArray []
    fun v l' => ∃ c : ConfD, okU c.v ∧ c.v = (readD s).1 ∧ v = .tuple #[.agg (En.enc c).toArray, .int .i64 (readD s).2.1, .int .i64 (readD s).2.2] ∧ l' = confL c := by
  intro F K hK
  simp only [List.nil_append]
  generalize hz : readD s = z at hK
  have fin0 : ∀ (l : List Asrt) (n e : Int), z = (ConfV.none, n, e) → EntR [] l F → Tr l (K (.tuple #[.agg (En.enc (default : ConfD)).toArray, .int .i64 n, .int .i64 e])) := fun l n e h he => by
    subst h
    exact Tr.fin hK ⟨default, none_ok, rfl, rfl, rfl⟩ (Imp.trans he entr_conf)
  (refine Tr.enter (rs := [.cell 2 33, .tmp 3, .tmp 4]) mixed fn13 rfl (by simp +arith [Tryz.ntmps13]) fun u => ?_; simp only [cd13, Tryz.f13])
  by_cases hl : s.length ≤ 65536
  · have hz0 : runU ConfV.none 16 1 (wordsA 10 s) = z := by rw [← hz]; unfold readD; rw [if_neg (by omega)]
    clear hz
    have hX := pl13.eq_def; repeat' (first | intro (nb : Nat) | refine S.x ?_ | refine S.y ?_ ?_ | (refine G.call 10 ?_; refine S.c ?_ (h := dwordsQ_ok (by assumption) (by assumption))) | (refine G.call 28 ?_; refine S.c ?_ (h := order_ok)) | (refine G.call 29 ?_; refine S.c ?_ (h := can_ok ?_ ?_)) | (refine G.call 30 ?_; refine S.c ?_ (h := many_ok ?_)) | (refine G.call 31 ?_; refine S.c ?_ (h := room_ok (by assumption) (by assumption) (by assumption))) | (refine G.call 32 ?_; refine S.c ?_ (h := put_ok (by assumption) (by assumption) (by assumption) (by assumption))) | rintro _ _ ⟨rfl, rfl⟩ | rintro _ _ ⟨_, rfl, rfl⟩ | rintro _ _ ⟨cc, hcv, rfl, rfl⟩ | (refine G.prop ?_; assumption) | intro hb | ((fail_if_success refine G.tr ?_); exact G.prop S.p) | fail)
    refine Tr.loopE (α := ConfD × Nat × Nat × Nat × Nat) [3, 4, 6, 7, 8, 9] [0, 2, 5] (fun x => [.int .i64 0, .int .i64 0, .int .i64 x.2.1, .int .i64 x.2.2.1, .int .i64 x.2.2.2.1, .int .i64 x.2.2.2.2]) (fun x => blk nb (.cells (En.enc x.1).toArray 33 (0, 0)) :: confL x.1)
      (fun x => okJ x.1.v x.2.1 ∧ x.2.2.2.1 ≤ x.2.2.2.2 ∧ x.2.2.2.2 ≤ s.length ∧ x.2.2.1 ≤ x.2.2.2.2 ∧ (∀ j : Nat, x.2.2.2.1 ≤ j → j < x.2.2.2.2 → bix s (j : Int) ≠ 10) ∧ runU x.1.v x.2.1 ((x.2.2.1 : Int) + 1) (wordsA 10 (s.drop x.2.2.2.1)) = z) (fun x => s.length - x.2.2.2.2) (default, 16, 0, 0, 0) S.T rfl
      ⟨okJ_none, Nat.le_refl _, Nat.zero_le _, Nat.le_refl _, fun j h1 h2 => absurd h2 (Nat.not_lt_zero _), hz0⟩ fun x u hx => ?_
    obtain ⟨c, was, n, fr, k⟩ := x
    obtain ⟨hj, hfk, hks, hnk, hno, hI⟩ := hx
    simp only at hj hfk hks hnk hno hI ⊢
    have hwas := hj.2.2.2.2
    have hwk := wrapSucc (k := k) (by omega)
    have hwn := wrapSucc (k := n) (by omega)
    by_cases hin : k < s.length
    · by_cases hbn : (bix s (k : Int)).toNat = 10
      · have hb10 : bix s (k : Int) = 10 := UInt8.toNat_inj.1 hbn
        have hst := words_step hfk hin hno hb10
        have hne := wordsA_ne 10 (s.drop (k + 1))
        rw [hst, run_more hne] at hI
        have hwl : ((s.take k).drop fr).length ≤ 1000000 := by simp; omega
        generalize hw : (s.take k).drop fr = w at hI hwl
        have hw2 : List.drop ((fr : Int)).toNat (List.take ((k : Int)).toNat s) = w := hw
        have hno2 : ∀ j : Nat, k + 1 ≤ j → j < k + 1 → bix s (j : Int) ≠ 10 := fun j h1 h2 => by omega
        clear hno hst hne
        have hnp : ((n + 1 : Nat) : Int) = (n : Int) + 1 := rfl
        cases ht : tokU w with
        | none =>
          rw [ht] at hI
          have hI2 : z = (ConfV.none, ((n + 1 : Nat) : Int), 13) := hI.symm
          clear hI
          have hno3 := tok_no ht
          obtain ⟨⟨wd, ls, is⟩, hwv⟩ : ∃ x, wordsV w = x := ⟨_, rfl⟩
          rw [hwv] at hno3
          rcases hno3 with h3 | h3
          · simp only at h3
            subst h3
            have hX := And.intro pl13.eq_def (And.intro hwk (And.intro hwn hw2)); repeat' (first | refine S.x ?_ | refine S.y ?_ ?_ | (refine G.call 10 ?_; refine S.c ?_ (h := dwordsQ_ok (by assumption) (by assumption))) | (refine G.call 28 ?_; refine S.c ?_ (h := order_ok)) | (refine G.call 29 ?_; refine S.c ?_ (h := can_ok ?_ ?_)) | (refine G.call 30 ?_; refine S.c ?_ (h := many_ok ?_)) | (refine G.call 31 ?_; refine S.c ?_ (h := room_ok (by assumption) (by assumption) (by assumption))) | (refine G.call 32 ?_; refine S.c ?_ (h := put_ok (by assumption) (by assumption) (by assumption) (by assumption))) | rintro _ _ ⟨rfl, rfl⟩ | rintro _ _ ⟨_, rfl, rfl⟩ | rintro _ _ ⟨cc, hcv, rfl, rfl⟩ | (refine G.prop ?_; assumption) | intro hb | ((fail_if_success refine G.tr ?_); exact G.prop S.p) | fail)
            all_goals exact fin0 _ _ _ hI2 S.E
          · simp only at h3
            have hX := And.intro pl13.eq_def (And.intro hwk (And.intro hwn (And.intro hw2 h3))); repeat' (first | refine S.x ?_ | refine S.y ?_ ?_ | (refine G.call 10 ?_; refine S.c ?_ (h := dwordsQ_ok (by assumption) (by assumption))) | (refine G.call 28 ?_; refine S.c ?_ (h := order_ok)) | (refine G.call 29 ?_; refine S.c ?_ (h := can_ok ?_ ?_)) | (refine G.call 30 ?_; refine S.c ?_ (h := many_ok ?_)) | (refine G.call 31 ?_; refine S.c ?_ (h := room_ok (by assumption) (by assumption) (by assumption))) | (refine G.call 32 ?_; refine S.c ?_ (h := put_ok (by assumption) (by assumption) (by assumption) (by assumption))) | rintro _ _ ⟨rfl, rfl⟩ | rintro _ _ ⟨_, rfl, rfl⟩ | rintro _ _ ⟨cc, hcv, rfl, rfl⟩ | (refine G.prop ?_; assumption) | intro hb | ((fail_if_success refine G.tr ?_); exact G.prop S.p) | fail)
            all_goals exact fin0 _ _ _ hI2 S.E
        | some t =>
          obtain ⟨kk, ls⟩ := t
          obtain ⟨hk16, h64, hwv, hoi⟩ := tok_yes ht
          rw [ht] at hI
          simp only at hI
          by_cases hmy : mayU c.v was (kk, ls) = true
          · obtain ⟨hc1, hc2, hc3, hc4⟩ := may_all hmy
            have hroom : decide (countU c.v kk < 64) = true := decide_eq_true hc4
            have hsh := hj.2.1
            have hm10 : kk = 10 → c.modes.d ≠ [] := fun e he => hj.2.2.2.1 (by have := (can_spec kk was).1 hc1; omega) (by show c.modes.d.map ModeD.v = []; rw [he]; rfl)
            have hjn := put_okJ hj hmy hk16 h64
            cases hf : fineU kk ls with
            | false =>
              have hI2 : z = (ConfV.none, ((n + 1 : Nat) : Int), 13) := by
                rw [← hI]
                unfold stepU
                rw [hmy, hf]
                rfl
              clear hI
              have hX := And.intro pl13.eq_def (And.intro hwk (And.intro hwn (And.intro hw2 (And.intro hoi (And.intro hc1 (And.intro hroom hf)))))); repeat' (first | refine S.x ?_ | refine S.y ?_ ?_ | (refine G.call 10 ?_; refine S.c ?_ (h := dwordsQ_ok (by assumption) (by assumption))) | (refine G.call 28 ?_; refine S.c ?_ (h := order_ok)) | (refine G.call 29 ?_; refine S.c ?_ (h := can_ok ?_ ?_)) | (refine G.call 30 ?_; refine S.c ?_ (h := many_ok ?_)) | (refine G.call 31 ?_; refine S.c ?_ (h := room_ok (by assumption) (by assumption) (by assumption))) | (refine G.call 32 ?_; refine S.c ?_ (h := put_ok (by assumption) (by assumption) (by assumption) (by assumption))) | rintro _ _ ⟨rfl, rfl⟩ | rintro _ _ ⟨_, rfl, rfl⟩ | rintro _ _ ⟨cc, hcv, rfl, rfl⟩ | (refine G.prop ?_; assumption) | intro hb | ((fail_if_success refine G.tr ?_); exact G.prop S.p) | fail)
              all_goals first
                | exact fin0 _ _ _ hI2 S.E
                | (exfalso; omega)
            | true =>
              have hI2 : runU (putU c.v kk ls) kk (((n + 1 : Nat) : Int) + 1) (wordsA 10 (s.drop (k + 1))) = z := by
                rw [← hI]
                unfold stepU
                rw [hmy, hf]
                rfl
              clear hI
              have hX := And.intro pl13.eq_def (And.intro hwk (And.intro hwn (And.intro hw2 (And.intro hoi (And.intro hc1 (And.intro hroom hf)))))); repeat' (first | refine S.x ?_ | refine S.y ?_ ?_ | (refine G.call 10 ?_; refine S.c ?_ (h := dwordsQ_ok (by assumption) (by assumption))) | (refine G.call 28 ?_; refine S.c ?_ (h := order_ok)) | (refine G.call 29 ?_; refine S.c ?_ (h := can_ok ?_ ?_)) | (refine G.call 30 ?_; refine S.c ?_ (h := many_ok ?_)) | (refine G.call 31 ?_; refine S.c ?_ (h := room_ok (by assumption) (by assumption) (by assumption))) | (refine G.call 32 ?_; refine S.c ?_ (h := put_ok (by assumption) (by assumption) (by assumption) (by assumption))) | rintro _ _ ⟨rfl, rfl⟩ | rintro _ _ ⟨_, rfl, rfl⟩ | rintro _ _ ⟨cc, hcv, rfl, rfl⟩ | (refine G.prop ?_; assumption) | intro hb | ((fail_if_success refine G.tr ?_); exact G.prop S.p) | fail)
              all_goals first
                | (exfalso; omega)
                | (rw [← hcv] at hjn hI2
                   exact S.R (cc, kk, n + 1, k + 1, k + 1))
          · have hI2 : z = (ConfV.none, ((n + 1 : Nat) : Int), 13) := by
              rw [← hI, step_no (Bool.eq_false_iff.2 hmy)]
              rfl
            clear hI
            have hsh := hj.2.1
            have hq : ¬ (canU kk was = true ∧ (manyU kk < 0 ∨ (ls.length : Int) = manyU kk) ∧ ls.length ≤ 64 ∧ countU c.v kk < 64) := fun ⟨a1, a2, a3, a4⟩ => hmy (by
              unfold mayU
              simp only [a1, Bool.true_and, Bool.and_eq_true, Bool.or_eq_true, decide_eq_true_eq, beq_iff_eq]
              exact ⟨⟨a2, a3⟩, a4⟩)
            clear hmy
            cases hc1 : canU kk was with
            | false =>
              have hX := And.intro pl13.eq_def (And.intro hwk (And.intro hwn (And.intro hw2 (And.intro hoi hc1)))); repeat' (first | refine S.x ?_ | refine S.y ?_ ?_ | (refine G.call 10 ?_; refine S.c ?_ (h := dwordsQ_ok (by assumption) (by assumption))) | (refine G.call 28 ?_; refine S.c ?_ (h := order_ok)) | (refine G.call 29 ?_; refine S.c ?_ (h := can_ok ?_ ?_)) | (refine G.call 30 ?_; refine S.c ?_ (h := many_ok ?_)) | (refine G.call 31 ?_; refine S.c ?_ (h := room_ok (by assumption) (by assumption) (by assumption))) | (refine G.call 32 ?_; refine S.c ?_ (h := put_ok (by assumption) (by assumption) (by assumption) (by assumption))) | rintro _ _ ⟨rfl, rfl⟩ | rintro _ _ ⟨_, rfl, rfl⟩ | rintro _ _ ⟨cc, hcv, rfl, rfl⟩ | (refine G.prop ?_; assumption) | intro hb | ((fail_if_success refine G.tr ?_); exact G.prop S.p) | fail)
              all_goals exact fin0 _ _ _ hI2 S.E
            | true =>
              have hm10 : kk = 10 → c.modes.d ≠ [] := fun e he => hj.2.2.2.1 (by have := (can_spec kk was).1 hc1; omega) (by show c.modes.d.map ModeD.v = []; rw [he]; rfl)
              by_cases hc2 : manyU kk < 0 ∨ (ls.length : Int) = manyU kk
              · by_cases hc3 : ls.length ≤ 64
                · have hroom : decide (countU c.v kk < 64) = false := decide_eq_false fun a4 => hq ⟨hc1, hc2, hc3, a4⟩
                  have hX := And.intro pl13.eq_def (And.intro hwk (And.intro hwn (And.intro hw2 (And.intro hoi (And.intro hc1 hroom))))); repeat' (first | refine S.x ?_ | refine S.y ?_ ?_ | (refine G.call 10 ?_; refine S.c ?_ (h := dwordsQ_ok (by assumption) (by assumption))) | (refine G.call 28 ?_; refine S.c ?_ (h := order_ok)) | (refine G.call 29 ?_; refine S.c ?_ (h := can_ok ?_ ?_)) | (refine G.call 30 ?_; refine S.c ?_ (h := many_ok ?_)) | (refine G.call 31 ?_; refine S.c ?_ (h := room_ok (by assumption) (by assumption) (by assumption))) | (refine G.call 32 ?_; refine S.c ?_ (h := put_ok (by assumption) (by assumption) (by assumption) (by assumption))) | rintro _ _ ⟨rfl, rfl⟩ | rintro _ _ ⟨_, rfl, rfl⟩ | rintro _ _ ⟨cc, hcv, rfl, rfl⟩ | (refine G.prop ?_; assumption) | intro hb | ((fail_if_success refine G.tr ?_); exact G.prop S.p) | fail)
                  all_goals first
                    | exact fin0 _ _ _ hI2 S.E
                    | (exfalso; omega)
                · have hc4 : (64 : Int) < ls.length := by omega
                  have hX := And.intro pl13.eq_def (And.intro hwk (And.intro hwn (And.intro hw2 (And.intro hoi hc1)))); repeat' (first | refine S.x ?_ | refine S.y ?_ ?_ | (refine G.call 10 ?_; refine S.c ?_ (h := dwordsQ_ok (by assumption) (by assumption))) | (refine G.call 28 ?_; refine S.c ?_ (h := order_ok)) | (refine G.call 29 ?_; refine S.c ?_ (h := can_ok ?_ ?_)) | (refine G.call 30 ?_; refine S.c ?_ (h := many_ok ?_)) | (refine G.call 31 ?_; refine S.c ?_ (h := room_ok (by assumption) (by assumption) (by assumption))) | (refine G.call 32 ?_; refine S.c ?_ (h := put_ok (by assumption) (by assumption) (by assumption) (by assumption))) | rintro _ _ ⟨rfl, rfl⟩ | rintro _ _ ⟨_, rfl, rfl⟩ | rintro _ _ ⟨cc, hcv, rfl, rfl⟩ | (refine G.prop ?_; assumption) | intro hb | ((fail_if_success refine G.tr ?_); exact G.prop S.p) | fail)
                  all_goals first
                    | exact fin0 _ _ _ hI2 S.E
                    | (exfalso; omega)
              · have hc4 : 0 ≤ manyU kk ∧ (ls.length : Int) ≠ manyU kk := by omega
                obtain ⟨hc5, hc6⟩ := hc4
                have hX := And.intro pl13.eq_def (And.intro hwk (And.intro hwn (And.intro hw2 (And.intro hoi hc1)))); repeat' (first | refine S.x ?_ | refine S.y ?_ ?_ | (refine G.call 10 ?_; refine S.c ?_ (h := dwordsQ_ok (by assumption) (by assumption))) | (refine G.call 28 ?_; refine S.c ?_ (h := order_ok)) | (refine G.call 29 ?_; refine S.c ?_ (h := can_ok ?_ ?_)) | (refine G.call 30 ?_; refine S.c ?_ (h := many_ok ?_)) | (refine G.call 31 ?_; refine S.c ?_ (h := room_ok (by assumption) (by assumption) (by assumption))) | (refine G.call 32 ?_; refine S.c ?_ (h := put_ok (by assumption) (by assumption) (by assumption) (by assumption))) | rintro _ _ ⟨rfl, rfl⟩ | rintro _ _ ⟨_, rfl, rfl⟩ | rintro _ _ ⟨cc, hcv, rfl, rfl⟩ | (refine G.prop ?_; assumption) | intro hb | ((fail_if_success refine G.tr ?_); exact G.prop S.p) | fail)
                all_goals first
                  | exact fin0 _ _ _ hI2 S.E
                  | (exfalso; omega)
      · have hb10 : bix s (k : Int) ≠ 10 := fun e => hbn (by rw [e]; rfl)
        have hno2 : ∀ j : Nat, fr ≤ j → j < k + 1 → bix s (j : Int) ≠ 10 := fun j h1 h2 => by
          by_cases e : j = k
          · subst e; exact hb10
          · exact hno j h1 (by omega)
        clear hno
        have hX := And.intro pl13.eq_def hwk; repeat' (first | refine S.x ?_ | refine S.y ?_ ?_ | (refine G.call 10 ?_; refine S.c ?_ (h := dwordsQ_ok (by assumption) (by assumption))) | (refine G.call 28 ?_; refine S.c ?_ (h := order_ok)) | (refine G.call 29 ?_; refine S.c ?_ (h := can_ok ?_ ?_)) | (refine G.call 30 ?_; refine S.c ?_ (h := many_ok ?_)) | (refine G.call 31 ?_; refine S.c ?_ (h := room_ok (by assumption) (by assumption) (by assumption))) | (refine G.call 32 ?_; refine S.c ?_ (h := put_ok (by assumption) (by assumption) (by assumption) (by assumption))) | rintro _ _ ⟨rfl, rfl⟩ | rintro _ _ ⟨_, rfl, rfl⟩ | rintro _ _ ⟨cc, hcv, rfl, rfl⟩ | (refine G.prop ?_; assumption) | intro hb | ((fail_if_success refine G.tr ?_); exact G.prop S.p) | fail)
        all_goals (exact S.R ((c, was, n, fr, k + 1)))
    · have hke : k = s.length := by omega
      subst hke
      have hst := words_last hfk hno
      rw [hst] at hI
      clear hno hst
      by_cases hf : fr = s.length ∧ was = 15
      · obtain ⟨rfl, rfl⟩ := hf
        have hI2 : z = (c.v, 0, 0) := by
          rw [← hI]
          unfold runU
          rw [if_pos rfl, if_pos ⟨by simp, rfl⟩]
        clear hI
        subst hI2
        have hX := pl13.eq_def; repeat' (first | refine S.x ?_ | refine S.y ?_ ?_ | (refine G.call 10 ?_; refine S.c ?_ (h := dwordsQ_ok (by assumption) (by assumption))) | (refine G.call 28 ?_; refine S.c ?_ (h := order_ok)) | (refine G.call 29 ?_; refine S.c ?_ (h := can_ok ?_ ?_)) | (refine G.call 30 ?_; refine S.c ?_ (h := many_ok ?_)) | (refine G.call 31 ?_; refine S.c ?_ (h := room_ok (by assumption) (by assumption) (by assumption))) | (refine G.call 32 ?_; refine S.c ?_ (h := put_ok (by assumption) (by assumption) (by assumption) (by assumption))) | rintro _ _ ⟨rfl, rfl⟩ | rintro _ _ ⟨_, rfl, rfl⟩ | rintro _ _ ⟨cc, hcv, rfl, rfl⟩ | (refine G.prop ?_; assumption) | intro hb | ((fail_if_success refine G.tr ?_); exact G.prop S.p) | fail)
        all_goals
          refine Tr.fin hK ⟨c, hj.1, rfl, rfl, rfl⟩ ?_
          exact S.E
      · have hI2 : z = (ConfV.none, ((n + 1 : Nat) : Int), 13) := by
          rw [← hI]
          unfold runU
          rw [if_pos rfl, if_neg (fun h => hf ⟨by have := h.1; simp at this; omega, h.2⟩)]
          simp
        clear hI
        have hX := And.intro pl13.eq_def hwn; repeat' (first | refine S.x ?_ | refine S.y ?_ ?_ | (refine G.call 10 ?_; refine S.c ?_ (h := dwordsQ_ok (by assumption) (by assumption))) | (refine G.call 28 ?_; refine S.c ?_ (h := order_ok)) | (refine G.call 29 ?_; refine S.c ?_ (h := can_ok ?_ ?_)) | (refine G.call 30 ?_; refine S.c ?_ (h := many_ok ?_)) | (refine G.call 31 ?_; refine S.c ?_ (h := room_ok (by assumption) (by assumption) (by assumption))) | (refine G.call 32 ?_; refine S.c ?_ (h := put_ok (by assumption) (by assumption) (by assumption) (by assumption))) | rintro _ _ ⟨rfl, rfl⟩ | rintro _ _ ⟨_, rfl, rfl⟩ | rintro _ _ ⟨cc, hcv, rfl, rfl⟩ | (refine G.prop ?_; assumption) | intro hb | ((fail_if_success refine G.tr ?_); exact G.prop S.p) | fail)
        all_goals first
          | exact fin0 _ _ _ hI2 S.E
          | (exfalso; omega)
  · have hI2 : z = (ConfV.none, 0, 3) := by
      rw [← hz]
      unfold readD
      rw [if_pos (by omega)]
    have hl' : (65536 : Int) < s.length := by omega
    have hX := pl13.eq_def; repeat' (first | refine S.x ?_ | refine S.y ?_ ?_ | (refine G.call 10 ?_; refine S.c ?_ (h := dwordsQ_ok (by assumption) (by assumption))) | (refine G.call 28 ?_; refine S.c ?_ (h := order_ok)) | (refine G.call 29 ?_; refine S.c ?_ (h := can_ok ?_ ?_)) | (refine G.call 30 ?_; refine S.c ?_ (h := many_ok ?_)) | (refine G.call 31 ?_; refine S.c ?_ (h := room_ok (by assumption) (by assumption) (by assumption))) | (refine G.call 32 ?_; refine S.c ?_ (h := put_ok (by assumption) (by assumption) (by assumption) (by assumption))) | rintro _ _ ⟨rfl, rfl⟩ | rintro _ _ ⟨_, rfl, rfl⟩ | rintro _ _ ⟨cc, hcv, rfl, rfl⟩ | (refine G.prop ?_; assumption) | intro hb | ((fail_if_success refine G.tr ?_); exact G.prop S.p) | fail)
    all_goals exact fin0 _ _ _ hI2 S.E

end Go.Proofs.YtgkhjgpgdfbdpaaGreatDoor
