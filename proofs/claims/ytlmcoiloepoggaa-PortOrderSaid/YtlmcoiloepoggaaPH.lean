import Derived.Test.YtlmcoiloepoggaaPG
namespace Go.Proofs.Ytlmcoiloepoggaa
open Go Go.Wk
set_option maxHeartbeats 6400000
set_option maxRecDepth 10000
section
variable {b c b2 c2 : Nat} {s s2 s3 : SV} {m : Msg} {d lo : Int} {ms ms2 : List Msg} {x y : OneG} {n : Nat}
abbrev qI (b c : Nat) (d lo : Int) (s : SV) (ms : List Msg) : OneG := ⟨b, true, true, 300, d, lo, c, s, ms, default, false, false⟩
abbrev qO (b c : Nat) (d : Int) (s : SV) (ms : List Msg) : OneG := ⟨b, true, false, 300, d, 0, c, s, ms, default, false, false⟩
theorem qIO_mk1 : OneG.mk0 b c ⟨true, true, 300, d⟩ = qI b c d 0 ⟨none, 0, 0⟩ [] := rfl
theorem qIO_mk2 : OneG.mk0 b c ⟨true, false, 300, d⟩ = qO b c d ⟨none, 0, 0⟩ [] := rfl
theorem qIO_del1 : delB [qI b c d lo s ms, y] 0 = !decide (d ≤ ms.length) := rfl
theorem qIO_del2 (h : d ≤ ms.length) : delG [qI b c d lo s ms, y] 0 s2 m = [qI b c d (IntKind.i64.wrap (lo + 1)) s2 ms, y] := by
  show [if d ≤ ms.length then _ else _, y] = _
  rw [if_pos h]; rfl
theorem qIO_del3 (h : ¬ d ≤ ms.length) : delG [qI b c d lo s ms, y] 0 s2 m = [qI b c d lo s2 (ms ++ [m]), y] := by
  show [if d ≤ ms.length then _ else _, y] = _
  rw [if_neg h]; rfl
theorem qIO_into1 : intoC [x, qO b c d s ms] 1 true n = (if lenOK n 300 = true then (if d ≤ ms.length then 1 else 0) else 2) := rfl
theorem qIO_into2 : intoG [x, qO b c d s ms] 1 true s2 m = (if lenOK m.d.length 300 = true then [x, qO b c d s2 (qput ms d m)] else [x, qO b c d s ms]) := rfl
theorem qIO_out1 : outC [qI b c d lo s ms, y] 0 true = (if (ms.length : Int) = 0 then 1 else 0) := rfl
theorem qIO_out2 : outD [qI b c d lo s ms, y] 0 true = (if (if (ms.length : Int) = 0 then (1 : Int) else 0) = 0 then (ix ms 0).d else []) := rfl
theorem qIO_out3 : outG [qI b c d lo s ms, y] 0 true s2 = [qI b c d lo s2 (ms.drop 1), y] := rfl
theorem qIO_dr2 : drainG [x, qO b c d s ms] 1 = [x, qO b c d ⟨none, 0, 0⟩ []] := rfl
theorem qIO_dr1 : drainD [x, qO b c d s ms] 1 = ms.map SL.d := rfl
theorem qIO_len : lenP [x, qO b c d s ms] 1 = ms.length := rfl
theorem qIO_pt1 : (qI b c d lo s ms).pt = ⟨some b⟩ := rfl
theorem qIO_pt2 : (qO b c d s ms).pt = ⟨some b⟩ := rfl
end
theorem tmodP (a : UInt8) : Int.tmod (a.toNat : Int) 20 = ((a.toNat % 20 : Nat) : Int) := by rw [Int.tmod_eq_emod_of_nonneg (by omega)]; rfl
attribute [local irreducible] BrK GenK EGenK EUnitK CallK FnK CallV GuardO GuardC CondW opX opK opKc chkR eqR seqK blkK endL WL WD W LoopW BinK Tr drewK resL PickK NotK NilK ExtrK getK Instr.storeAt Instr.loadAt Instr.fieldAt Instr.indexAt Instr.lookup Instr.mapUpdate Instr.box Instr.alloc Instr.build Instr.buildSlice Instr.makeSlice Instr.makeMap Instr.sliceAt Instr.field Instr.index Instr.makeInterface Instr.typeAssert Builtin.len_ Builtin.append_ Builtin.cap_ Builtin.min_ Builtin.max_ Builtin.copy_ Builtin.clear_ convert binOp mp blk rob sl sep ex fact old
theorem order18_ok {dp : UInt8} {s0 : SV} {l : List Msg} : Trip Try.prog 9 [.int .u8 dp.toNat, s0.v].toArray [sl true s0.v l, fzl l] fun v l' => v = .bool true ∧ l' = [] := by
  intro F K hK
  simp only [List.cons_append, List.nil_append]
  generalize hdd : dp.toNat % 20 = d
  have hd : d < 20 := by omega
  (refine Tr.enter (rs := [.tmp 4]) mixed fn9 rfl (by simp +arith [Try.ntmps9]) fun u => ?_; simp only [cd9, Try.f9])
  have hwd : IntKind.i64.wrap (d : Int) = d := wrapId (by omega) (by omega)
  ((try simp only [WKb, ↓reduceIte, Nat.reduceEqDiff, Nat.reduceAdd]) <;> (repeat' ((first
    | (refine G.tr ?_; first | refine S.a ?_ | refine Tr.brK ?_ ?_ | (refine G.call 43 ?_; first | refine S.c ?_ (h := pnew2_ok) | refine S.c ?_ (h := pnew1_ok)) | (refine G.call 44 ?_; refine S.c ?_ (h := works18_ok)) | (refine G.call 45 ?_; refine S.c ?_ (h := deliver_ok ?_ ?_)) | (refine G.call 46 ?_; refine S.c ?_ (h := send_ok ?_ ?_)) | (refine G.call 47 ?_; refine S.c ?_ (h := receive2_ok ?_)) | (refine G.call 48 ?_; first | refine S.c ?_ (h := same2_ok ?_) | refine S.c ?_ (h := same18_ok)) | (refine G.call 49 ?_; first | refine S.c ?_ (h := drain0_ok (by rfl) ?_) | refine S.c ?_ (h := drain1_ok ?_)) | (refine G.call 50 ?_; refine S.c ?_ (h := plen_ok)) | refine S.n fun _ => ?_ | refine S.i fun hix => ?_ | (refine S.g fun hb => ?_; (try simp only [hb])) | (refine S.s (fun hb => ?_) (fun hb => ?_) <;> ((try simp only [hb]) <;> (try (have hp := hb; simp only [WKs] at hp; (try have hq := Int.not_le.2 hp); (try have hq := Int.not_lt.2 hp))))))
    | rintro _ _ ⟨rfl, rfl⟩
    | rintro _ _ ⟨_, rfl, rfl⟩
    | rintro _ _ ⟨_, _, rfl, rfl⟩
    | rintro _ _ ⟨_, _, hrd, rfl, rfl⟩
    | rintro _ _ ⟨_, _, _, _, rfl, rfl⟩
    | rintro _ _ ⟨_, _, _, _, _, _, rfl, rfl⟩
    | ((fail_if_success refine G.tr ?_); exact G.prop S.p)
    | fail) <;> (try simp only [WKb, WKh, ↓reduceIte, Nat.reduceEqDiff, Nat.reduceAdd, tmodP, hdd, hwd]))))
  refine Tr.freezeAt (α := PortC) (by (repeat (first | exact TakeA.here | apply TakeA.next)); done) ?_
  ((try simp only [WKb, WKh, ↓reduceIte, Nat.reduceEqDiff, Nat.reduceAdd, Nat.reduceSub, Int.reduceEq, Int.reduceLT, Int.reduceLE, pl9, tmodP, hdd, hwd, qIO_mk1, qIO_mk2, qIO_pt1, qIO_pt2]) <;> (repeat' ((first
    | (refine G.tr ?_; first | refine S.a ?_ | refine Tr.brK ?_ ?_ | (refine G.call 43 ?_; first | refine S.c ?_ (h := pnew2_ok) | refine S.c ?_ (h := pnew1_ok)) | (refine G.call 44 ?_; refine S.c ?_ (h := works18_ok)) | (refine G.call 45 ?_; refine S.c ?_ (h := deliver_ok ?_ ?_)) | (refine G.call 46 ?_; refine S.c ?_ (h := send_ok ?_ ?_)) | (refine G.call 47 ?_; refine S.c ?_ (h := receive2_ok ?_)) | (refine G.call 48 ?_; first | refine S.c ?_ (h := same2_ok ?_) | refine S.c ?_ (h := same18_ok)) | (refine G.call 49 ?_; first | refine S.c ?_ (h := drain0_ok (by rfl) ?_) | refine S.c ?_ (h := drain1_ok ?_)) | (refine G.call 50 ?_; refine S.c ?_ (h := plen_ok)) | refine S.n fun _ => ?_ | refine S.i fun hix => ?_ | (refine S.g fun hb => ?_; (try simp only [hb])) | (refine S.s (fun hb => ?_) (fun hb => ?_) <;> ((try simp only [hb]) <;> (try (have hp := hb; simp only [WKs] at hp; (try have hq := Int.not_le.2 hp); (try have hq := Int.not_lt.2 hp))))))
    | rintro _ _ ⟨rfl, rfl⟩
    | rintro _ _ ⟨_, rfl, rfl⟩
    | rintro _ _ ⟨_, _, rfl, rfl⟩
    | rintro _ _ ⟨_, _, hrd, rfl, rfl⟩
    | rintro _ _ ⟨_, _, _, _, rfl, rfl⟩
    | rintro _ _ ⟨_, _, _, _, _, _, rfl, rfl⟩
    | ((fail_if_success refine G.tr ?_); exact G.prop S.p)
    | fail) <;> (try simp only [WKb, ↓reduceIte, qIO_mk1, qIO_mk2]))))
  rename_i s00 p s1 pb pc pb2 pc2
  refine Tr.loopE (α := Nat × (SV × List Msg) × (SV × List Msg) × (Int × SV × List Msg) × (SV × List Msg)) [4, 7, 8, 9] [1, 5, 6] (fun x => [.bool false, x.2.1.1.v, x.2.2.1.1.v, .int .i64 x.1])
    (fun x => [sl false x.2.1.1.v x.2.1.2, fzl x.2.1.2, sl false x.2.2.1.1.v x.2.2.1.2, fzl x.2.2.1.2, fam oneA [qI pb pc d x.2.2.2.1.1 x.2.2.2.1.2.1 x.2.2.2.1.2.2, qO pb2 pc2 d x.2.2.2.2.1 x.2.2.2.2.2]])
    (fun x => x.1 ≤ 40 ∧ x.2.1.2.map SL.d = x.2.2.2.1.2.2.map SL.d ∧ x.2.2.1.2.map SL.d = x.2.2.2.2.2.map SL.d ∧ x.2.1.2.length = x.2.2.2.1.2.2.length ∧ x.2.2.1.2.length = x.2.2.2.2.2.length ∧ x.2.1.2.length = x.2.2.1.2.length ∧ x.2.1.2.length ≤ d)
    (fun x => 40 - x.1) (0, (⟨none, 0, 0⟩, []), (⟨none, 0, 0⟩, []), (0, ⟨none, 0, 0⟩, []), (⟨none, 0, 0⟩, [])) (by (repeat (first | exact TakeL.nil | (apply TakeL.cons; focus ((first | exact TakeA.dupS | exact TakeA.dupF | ((repeat (first | with_reducible exact TakeA.here | exact TakeA.fam (by omega) (by omega) | with_reducible apply TakeA.next)); done) | ((repeat (first | exact TakeA.here | apply TakeA.next)); done) | exact TakeA.famNil | exact TakeA.nilS))) | fail)); done) rfl ⟨by omega, rfl, rfl, rfl, rfl, rfl, by simp⟩ fun x u hx => ?_
  obtain ⟨k, ⟨si, mi⟩, ⟨so, mo⟩, ⟨lo, sq, mq⟩, ⟨sr, mr⟩⟩ := x
  simp only at hx ⊢
  obtain ⟨hk, hmi, hmo, hli, hlo, hlio, hld⟩ := hx
  have hw := wrapSucc (k := k) (by omega)
  by_cases hin : (k : Int) < l.length ∧ (k : Int) < 40
  · obtain ⟨hi1, hi2⟩ := hin
    have hd3 : decide ((k : Int) < l.length) = true := by simpa using hi1
    have hd4 : decide ((k : Int) < 40) = true := by simpa using hi2
    by_cases hft : 1 ≤ (ix l (k : Int)).d.length ∧ (ix l (k : Int)).d.length ≤ 300
    · obtain ⟨hf1, hf2⟩ := hft
      have hok : lenOK (ix l (k : Int)).d.length 300 = true := by unfold lenOK; simp; omega
      by_cases hlt : mi.length < d
      · have hd1 : decide ((mi.length : Int) < d) = true := by simpa using hlt
        have hd2 : decide ((mo.length : Int) < d) = true := by simp; omega
        have hq1 : ¬ (d : Int) ≤ mq.length := by omega
        have hq2 : decide ((d : Int) ≤ mq.length) = false := by simp; omega
        have hr1 : ¬ (d : Int) ≤ mr.length := by omega
        have hr2 : (if (d : Int) ≤ mr.length then (1 : Int) else 0) = 0 := if_neg hr1
        have hr3 : ∀ m, qput mr d m = mr ++ [m] := fun m => if_neg hr1
        have hg3 : ∀ s2 m, delG [qI pb pc d lo sq mq, qO pb2 pc2 d sr mr] 0 s2 m = [qI pb pc d lo s2 (mq ++ [m]), qO pb2 pc2 d sr mr] := fun _ _ => qIO_del3 hq1
        ((try simp only [WKb, ↓reduceIte, Nat.reduceEqDiff]) <;> (repeat' ((first
    | (refine G.tr ?_; first | refine S.a ?_ | refine Tr.brK ?_ ?_ | (refine G.call 43 ?_; first | refine S.c ?_ (h := pnew2_ok) | refine S.c ?_ (h := pnew1_ok)) | (refine G.call 44 ?_; refine S.c ?_ (h := works18_ok)) | (refine G.call 45 ?_; refine S.c ?_ (h := deliver_ok ?_ ?_)) | (refine G.call 46 ?_; refine S.c ?_ (h := send_ok ?_ ?_)) | (refine G.call 47 ?_; refine S.c ?_ (h := receive2_ok ?_)) | (refine G.call 48 ?_; first | refine S.c ?_ (h := same2_ok ?_) | refine S.c ?_ (h := same18_ok)) | (refine G.call 49 ?_; first | refine S.c ?_ (h := drain0_ok (by rfl) ?_) | refine S.c ?_ (h := drain1_ok ?_)) | (refine G.call 50 ?_; refine S.c ?_ (h := plen_ok)) | refine S.n fun _ => ?_ | refine S.i fun hix => ?_ | (refine S.g fun hb => ?_; (try simp only [hb])) | (refine S.s (fun hb => ?_) (fun hb => ?_) <;> ((try simp only [hb]) <;> (try (have hp := hb; simp only [WKs] at hp; (try have hq := Int.not_le.2 hp); (try have hq := Int.not_lt.2 hp))))))
    | rintro _ _ ⟨rfl, rfl⟩
    | rintro _ _ ⟨_, rfl, rfl⟩
    | rintro _ _ ⟨_, _, rfl, rfl⟩
    | rintro _ _ ⟨_, _, hrd, rfl, rfl⟩
    | rintro _ _ ⟨_, _, _, _, rfl, rfl⟩
    | rintro _ _ ⟨_, _, _, _, _, _, rfl, rfl⟩
    | ((fail_if_success refine G.tr ?_); exact G.prop S.p)
    | fail) <;> (try simp only [WKb, ↓reduceIte, Nat.reduceEqDiff, hw, hd1, hd2, hd3, hd4, hq2, hr2, hr3, hok, hg3, ix_20, ix_21, qIO_del1, qIO_into1, qIO_into2, qIO_pt1, qIO_pt2]))))
        all_goals clear hd1 hd2 hd3 hd4 hq2 hr2 hr3 hg3
        have hA : ∀ s, List.map SL.d (mi ++ [SL.mk (ix l (k : Int)).s (ix l (k : Int)).d]) = List.map SL.d (mq ++ [SL.mk s (ix l (k : Int)).d]) := fun s => by rw [List.map_append, List.map_append, hmi]; rfl
        have hB : ∀ s, List.map SL.d (mo ++ [SL.mk (ix l (k : Int)).s (ix l (k : Int)).d]) = List.map SL.d (mr ++ [SL.mk s (ix l (k : Int)).d]) := fun s => by rw [List.map_append, List.map_append, hmo]; rfl
        have hC : ∀ s, (mi ++ [SL.mk (ix l (k : Int)).s (ix l (k : Int)).d]).length = (mq ++ [SL.mk s (ix l (k : Int)).d]).length := fun s => by simp [hli]
        have hD : ∀ s, (mo ++ [SL.mk (ix l (k : Int)).s (ix l (k : Int)).d]).length = (mr ++ [SL.mk s (ix l (k : Int)).d]).length := fun s => by simp [hlo]
        have hE : (mi ++ [SL.mk (ix l (k : Int)).s (ix l (k : Int)).d]).length = (mo ++ [SL.mk (ix l (k : Int)).s (ix l (k : Int)).d]).length := by simp [hlio]
        have hG : (mi ++ [SL.mk (ix l (k : Int)).s (ix l (k : Int)).d]).length ≤ d := by simp; omega
        all_goals (apply Tr.againE (k + 1, ⟨_, mi ++ [SL.mk (ix l (k : Int)).s (ix l (k : Int)).d]⟩, ⟨_, mo ++ [SL.mk (ix l (k : Int)).s (ix l (k : Int)).d]⟩, ⟨lo, _, mq ++ [SL.mk _ (ix l (k : Int)).d]⟩, ⟨_, mr ++ [SL.mk _ (ix l (k : Int)).d]⟩); (focus (simp only [WKb, ↓reduceIte, Nat.reduceEqDiff])); (focus ((try simp only [WKb, ↓reduceIte, Nat.reduceEqDiff]); (all_goals ((repeat (refine cons_eq (by first | rfl | (simp [*]; done)) ?_)); rfl)); done)); (focus (first | omega | assumption | (simp only []; omega) | (refine ⟨by omega, by assumption⟩) | (simp only []; refine ⟨by omega, by assumption⟩) | ((try simp only []); (repeat' (first | omega | assumption | apply hA | apply hB | apply hC | apply hD | refine And.intro ?_ ?_)); done))); (focus (first | omega | (simp only []; omega))); (focus (((try clear hK) <;> (try simp only [WKe, *]) <;> repeat (first | with_reducible exact EntR.done | refine S.e ?_ | (refine S.f ?_ <;> (try simp only [WKe, ↓reduceIte, reduceCtorEq, Int.reduceEq, *])) | with_reducible apply EntR.ex | refine EntR.drop (F := F) ?_ | refine EntR.drop ?_)))))
      · have hd1 : decide ((mi.length : Int) < d) = false := by simpa using hlt
        have hd2 : decide ((mo.length : Int) < d) = false := by simp; omega
        have hq1 : (d : Int) ≤ mq.length := by omega
        have hq2 : decide ((d : Int) ≤ mq.length) = true := by simp; omega
        have hr1 : (d : Int) ≤ mr.length := by omega
        have hr2 : (if (d : Int) ≤ mr.length then (1 : Int) else 0) = 1 := if_pos hr1
        have hr3 : ∀ m, qput mr d m = mr := fun m => if_pos hr1
        have hg3 : ∀ s2 m, delG [qI pb pc d lo sq mq, qO pb2 pc2 d sr mr] 0 s2 m = [qI pb pc d (IntKind.i64.wrap (lo + 1)) s2 mq, qO pb2 pc2 d sr mr] := fun _ _ => qIO_del2 hq1
        ((try simp only [WKb, ↓reduceIte, Nat.reduceEqDiff]) <;> (repeat' ((first
    | (refine G.tr ?_; first | refine S.a ?_ | refine Tr.brK ?_ ?_ | (refine G.call 43 ?_; first | refine S.c ?_ (h := pnew2_ok) | refine S.c ?_ (h := pnew1_ok)) | (refine G.call 44 ?_; refine S.c ?_ (h := works18_ok)) | (refine G.call 45 ?_; refine S.c ?_ (h := deliver_ok ?_ ?_)) | (refine G.call 46 ?_; refine S.c ?_ (h := send_ok ?_ ?_)) | (refine G.call 47 ?_; refine S.c ?_ (h := receive2_ok ?_)) | (refine G.call 48 ?_; first | refine S.c ?_ (h := same2_ok ?_) | refine S.c ?_ (h := same18_ok)) | (refine G.call 49 ?_; first | refine S.c ?_ (h := drain0_ok (by rfl) ?_) | refine S.c ?_ (h := drain1_ok ?_)) | (refine G.call 50 ?_; refine S.c ?_ (h := plen_ok)) | refine S.n fun _ => ?_ | refine S.i fun hix => ?_ | (refine S.g fun hb => ?_; (try simp only [hb])) | (refine S.s (fun hb => ?_) (fun hb => ?_) <;> ((try simp only [hb]) <;> (try (have hp := hb; simp only [WKs] at hp; (try have hq := Int.not_le.2 hp); (try have hq := Int.not_lt.2 hp))))))
    | rintro _ _ ⟨rfl, rfl⟩
    | rintro _ _ ⟨_, rfl, rfl⟩
    | rintro _ _ ⟨_, _, rfl, rfl⟩
    | rintro _ _ ⟨_, _, hrd, rfl, rfl⟩
    | rintro _ _ ⟨_, _, _, _, rfl, rfl⟩
    | rintro _ _ ⟨_, _, _, _, _, _, rfl, rfl⟩
    | ((fail_if_success refine G.tr ?_); exact G.prop S.p)
    | fail) <;> (try simp only [WKb, ↓reduceIte, Nat.reduceEqDiff, Int.reduceEq, hw, hd1, hd2, hd3, hd4, hq2, hr2, hr3, hok, hg3, ix_20, ix_21, qIO_del1, qIO_into1, qIO_into2, qIO_pt1, qIO_pt2]))))
        all_goals clear hd1 hd2 hd3 hd4 hq2 hr2 hr3 hg3
        all_goals (apply Tr.againE (k + 1, ⟨si, mi⟩, ⟨so, mo⟩, ⟨_, _, mq⟩, ⟨_, mr⟩); (focus (simp only [WKb, ↓reduceIte, Nat.reduceEqDiff])); (focus ((try simp only [WKb, ↓reduceIte, Nat.reduceEqDiff]); (all_goals ((repeat (refine cons_eq (by first | rfl | (simp [*]; done)) ?_)); rfl)); done)); (focus (first | omega | assumption | (simp only []; omega) | (refine ⟨by omega, by assumption⟩) | (simp only []; refine ⟨by omega, by assumption⟩) | ((try simp only []); (repeat' (first | omega | assumption | refine And.intro ?_ ?_)); done))); (focus (first | omega | (simp only []; omega))); (focus (((try clear hK) <;> (try simp only [WKe, *]) <;> repeat (first | with_reducible exact EntR.done | refine S.e ?_ | (refine S.f ?_ <;> (try simp only [WKe, ↓reduceIte, reduceCtorEq, Int.reduceEq, *])) | with_reducible apply EntR.ex | refine EntR.drop (F := F) ?_ | refine EntR.drop ?_)))))
    · have hff2 : (ix l (k : Int)).d.length < 1 ∨ 300 < (ix l (k : Int)).d.length := by omega
      ((try simp only [WKb, ↓reduceIte, Nat.reduceEqDiff]) <;> (repeat' ((first
    | (refine G.tr ?_; first | refine S.a ?_ | refine Tr.brK ?_ ?_ | (refine G.call 43 ?_; first | refine S.c ?_ (h := pnew2_ok) | refine S.c ?_ (h := pnew1_ok)) | (refine G.call 44 ?_; refine S.c ?_ (h := works18_ok)) | (refine G.call 45 ?_; refine S.c ?_ (h := deliver_ok ?_ ?_)) | (refine G.call 46 ?_; refine S.c ?_ (h := send_ok ?_ ?_)) | (refine G.call 47 ?_; refine S.c ?_ (h := receive2_ok ?_)) | (refine G.call 48 ?_; first | refine S.c ?_ (h := same2_ok ?_) | refine S.c ?_ (h := same18_ok)) | (refine G.call 49 ?_; first | refine S.c ?_ (h := drain0_ok (by rfl) ?_) | refine S.c ?_ (h := drain1_ok ?_)) | (refine G.call 50 ?_; refine S.c ?_ (h := plen_ok)) | refine S.n fun _ => ?_ | refine S.i fun hix => ?_ | (refine S.g fun hb => ?_; (try simp only [hb])) | (refine S.s (fun hb => ?_) (fun hb => ?_) <;> ((try simp only [hb]) <;> (try (have hp := hb; simp only [WKs] at hp; (try have hq := Int.not_le.2 hp); (try have hq := Int.not_lt.2 hp))))))
    | rintro _ _ ⟨rfl, rfl⟩
    | rintro _ _ ⟨_, rfl, rfl⟩
    | rintro _ _ ⟨_, _, rfl, rfl⟩
    | rintro _ _ ⟨_, _, hrd, rfl, rfl⟩
    | rintro _ _ ⟨_, _, _, _, rfl, rfl⟩
    | rintro _ _ ⟨_, _, _, _, _, _, rfl, rfl⟩
    | ((fail_if_success refine G.tr ?_); exact G.prop S.p)
    | fail) <;> (try simp only [WKb, ↓reduceIte, Nat.reduceEqDiff, hd3, hd4]))))
      all_goals
        refine Tr.fin hK ⟨rfl, rfl⟩ ?_
        ((try clear hK) <;> (try simp only [WKe, *]) <;> repeat (first | with_reducible exact EntR.done | refine S.e ?_ | (refine S.f ?_ <;> (try simp only [WKe, ↓reduceIte, reduceCtorEq, Int.reduceEq, *])) | with_reducible apply EntR.ex | refine EntR.drop (F := F) ?_ | refine EntR.drop ?_))
  · ((try simp only [WKb, ↓reduceIte, Nat.reduceEqDiff]) <;> (repeat' ((first
    | (refine G.tr ?_; first | refine S.a ?_ | refine Tr.brK ?_ ?_ | (refine G.call 43 ?_; first | refine S.c ?_ (h := pnew2_ok) | refine S.c ?_ (h := pnew1_ok)) | (refine G.call 44 ?_; refine S.c ?_ (h := works18_ok)) | (refine G.call 45 ?_; refine S.c ?_ (h := deliver_ok ?_ ?_)) | (refine G.call 46 ?_; refine S.c ?_ (h := send_ok ?_ ?_)) | (refine G.call 47 ?_; refine S.c ?_ (h := receive2_ok ?_)) | (refine G.call 48 ?_; first | refine S.c ?_ (h := same2_ok ?_) | refine S.c ?_ (h := same18_ok)) | (refine G.call 49 ?_; first | refine S.c ?_ (h := drain0_ok (by rfl) ?_) | refine S.c ?_ (h := drain1_ok ?_)) | (refine G.call 50 ?_; refine S.c ?_ (h := plen_ok)) | refine S.n fun _ => ?_ | refine S.i fun hix => ?_ | (refine S.g fun hb => ?_; (try simp only [hb])) | (refine S.s (fun hb => ?_) (fun hb => ?_) <;> ((try simp only [hb]) <;> (try (have hp := hb; simp only [WKs] at hp; (try have hq := Int.not_le.2 hp); (try have hq := Int.not_lt.2 hp))))))
    | rintro _ _ ⟨rfl, rfl⟩
    | rintro _ _ ⟨_, rfl, rfl⟩
    | rintro _ _ ⟨_, _, rfl, rfl⟩
    | rintro _ _ ⟨_, _, hrd, rfl, rfl⟩
    | rintro _ _ ⟨_, _, _, _, rfl, rfl⟩
    | rintro _ _ ⟨_, _, _, _, _, _, rfl, rfl⟩
    | ((fail_if_success refine G.tr ?_); exact G.prop S.p)
    | fail) <;> (try simp only [WKb, ↓reduceIte, Nat.reduceEqDiff]))))
    all_goals
      refine Tr.loopE (α := Nat × (SV × List Msg) × SV) [4, 10, 11] [6, 7, 8] (fun x => [.bool false, x.2.1.1.v, .int .i64 x.1]) (fun x => [sl false x.2.1.1.v x.2.1.2, fzl x.2.1.2, fam oneA [qI pb pc d lo x.2.2 (mq.drop x.1), qO pb2 pc2 d sr mr]])
        (fun x => x.1 ≤ mi.length ∧ x.2.1.2.length = x.1 ∧ x.2.1.2.map SL.d = (mi.map SL.d).take x.1) (fun x => mi.length - x.1) (0, (⟨none, 0, 0⟩, []), sq) (by (repeat (first | exact TakeL.nil | (apply TakeL.cons; focus ((first | exact TakeA.dupS | exact TakeA.dupF | ((repeat (first | with_reducible exact TakeA.here | exact TakeA.fam (by omega) (by omega) | with_reducible apply TakeA.next)); done) | ((repeat (first | exact TakeA.here | apply TakeA.next)); done) | exact TakeA.famNil | exact TakeA.nilS))) | fail)); done) rfl ⟨by omega, rfl, rfl⟩ fun y u2 hy => ?_
      obtain ⟨j, ⟨sg, mg⟩, sq2⟩ := y
      simp only at hy ⊢
      obtain ⟨hy, hgl, hgm⟩ := hy
      by_cases hj : j < mi.length
      · have hw2 := wrapSucc (k := j) (by omega)
        have hc : (if ((mq.drop j).length : Int) = 0 then (1 : Int) else 0) = 0 := if_neg (by rw [List.length_drop]; omega)
        have hxd : (ix (mq.drop j) 0).d = (ix mi (j : Int)).d := by
          have h1 : (ix mi (j : Int)).d = (mi.map SL.d)[j]'(by simpa using hj) := by rw [ix_nat hj]; simp
          have h2 : ix (mq.drop j) 0 = mq[j]'(by omega) := by simp [ix, show j < mq.length by omega]
          rw [h2, h1]; simp [hmi]
        have hdr : (mq.drop j).drop 1 = mq.drop (j + 1) := by rw [List.drop_drop]
        ((try simp only [WKb, ↓reduceIte, Nat.reduceEqDiff]) <;> (repeat' ((first
    | (refine G.tr ?_; first | refine S.a ?_ | refine Tr.brK ?_ ?_ | (refine G.call 43 ?_; first | refine S.c ?_ (h := pnew2_ok) | refine S.c ?_ (h := pnew1_ok)) | (refine G.call 44 ?_; refine S.c ?_ (h := works18_ok)) | (refine G.call 45 ?_; refine S.c ?_ (h := deliver_ok ?_ ?_)) | (refine G.call 46 ?_; refine S.c ?_ (h := send_ok ?_ ?_)) | (refine G.call 47 ?_; refine S.c ?_ (h := receive2_ok ?_)) | (refine G.call 48 ?_; first | refine S.c ?_ (h := same2_ok ?_) | refine S.c ?_ (h := same18_ok)) | (refine G.call 49 ?_; first | refine S.c ?_ (h := drain0_ok (by rfl) ?_) | refine S.c ?_ (h := drain1_ok ?_)) | (refine G.call 50 ?_; refine S.c ?_ (h := plen_ok)) | refine S.n fun _ => ?_ | refine S.i fun hix => ?_ | (refine S.g fun hb => ?_; (try simp only [hb])) | (refine S.s (fun hb => ?_) (fun hb => ?_) <;> ((try simp only [hb]) <;> (try (have hp := hb; simp only [WKs] at hp; (try have hq := Int.not_le.2 hp); (try have hq := Int.not_lt.2 hp))))))
    | rintro _ _ ⟨rfl, rfl⟩
    | rintro _ _ ⟨_, rfl, rfl⟩
    | rintro _ _ ⟨_, _, rfl, rfl⟩
    | rintro _ _ ⟨_, _, hrd, rfl, rfl⟩
    | rintro _ _ ⟨_, _, _, _, rfl, rfl⟩
    | rintro _ _ ⟨_, _, _, _, _, _, rfl, rfl⟩
    | ((fail_if_success refine G.tr ?_); exact G.prop S.p)
    | fail) <;> (try simp only [WKb, ↓reduceIte, Nat.reduceEqDiff, hw2, hc, hxd, hdr, qIO_out1, qIO_out2, qIO_out3, ix_zero, qIO_pt1, qIO_pt2]))))
        all_goals clear hc hdr
        have hA : ∀ s, List.map SL.d (mg ++ [SL.mk s (ix mi (j : Int)).d]) = (mi.map SL.d).take (j + 1) := fun s => by
          rw [List.map_append, hgm, List.take_succ_eq_append_getElem (by simpa using hj)]
          congr 1
          rw [List.getElem_map, ix_nat hj]; rfl
        have hB : ∀ s, (mg ++ [SL.mk s (ix mi (j : Int)).d]).length = j + 1 := fun s => by simp [hgl]
        all_goals (apply Tr.againE (j + 1, ⟨_, mg ++ [SL.mk _ (ix mi (j : Int)).d]⟩, _); (focus (simp only [WKb, ↓reduceIte, Nat.reduceEqDiff])); (focus ((try simp only [WKb, ↓reduceIte, Nat.reduceEqDiff]); (all_goals ((repeat (refine cons_eq (by first | rfl | (simp [*]; done)) ?_)); rfl)); done)); (focus (first | omega | assumption | (simp only []; omega) | (refine ⟨by omega, by assumption⟩) | (simp only []; refine ⟨by omega, by assumption⟩) | ((try simp only []); (repeat' (first | omega | assumption | apply hA | apply hB | refine And.intro ?_ ?_)); done))); (focus (first | omega | (simp only []; omega))); (focus (((try clear hK) <;> (try simp only [WKe, *]) <;> repeat (first | with_reducible exact EntR.done | refine S.e ?_ | (refine S.f ?_ <;> (try simp only [WKe, ↓reduceIte, reduceCtorEq, Int.reduceEq, *])) | with_reducible apply EntR.ex | refine EntR.drop (F := F) ?_ | refine EntR.drop ?_)))))
      · have hc : (if ((mq.drop j).length : Int) = 0 then (1 : Int) else 0) = 1 := if_pos (by rw [List.length_drop]; omega)
        have hgm' : mg.map SL.d = mi.map SL.d := by rw [hgm]; exact List.take_of_length_le (by simp; omega)
        ((try simp only [WKb, ↓reduceIte, Nat.reduceEqDiff]) <;> (repeat' ((first
    | (refine G.tr ?_; first | refine S.a ?_ | refine Tr.brK ?_ ?_ | (refine G.call 43 ?_; first | refine S.c ?_ (h := pnew2_ok) | refine S.c ?_ (h := pnew1_ok)) | (refine G.call 44 ?_; refine S.c ?_ (h := works18_ok)) | (refine G.call 45 ?_; refine S.c ?_ (h := deliver_ok ?_ ?_)) | (refine G.call 46 ?_; refine S.c ?_ (h := send_ok ?_ ?_)) | (refine G.call 47 ?_; refine S.c ?_ (h := receive2_ok ?_)) | (refine G.call 48 ?_; first | refine S.c ?_ (h := same2_ok ?_) | refine S.c ?_ (h := same18_ok)) | (refine G.call 49 ?_; first | refine S.c ?_ (h := drain0_ok (by rfl) ?_) | refine S.c ?_ (h := drain1_ok ?_)) | (refine G.call 50 ?_; refine S.c ?_ (h := plen_ok)) | refine S.n fun _ => ?_ | refine S.i fun hix => ?_ | (refine S.g fun hb => ?_; (try simp only [hb])) | (refine S.s (fun hb => ?_) (fun hb => ?_) <;> ((try simp only [hb]) <;> (try (have hp := hb; simp only [WKs] at hp; (try have hq := Int.not_le.2 hp); (try have hq := Int.not_lt.2 hp))))))
    | rintro _ _ ⟨rfl, rfl⟩
    | rintro _ _ ⟨_, rfl, rfl⟩
    | rintro _ _ ⟨_, _, rfl, rfl⟩
    | rintro _ _ ⟨_, _, hrd, rfl, rfl⟩
    | rintro _ _ ⟨_, _, _, _, rfl, rfl⟩
    | rintro _ _ ⟨_, _, _, _, _, _, rfl, rfl⟩
    | ((fail_if_success refine G.tr ?_); exact G.prop S.p)
    | fail) <;> (try simp only [WKb, ↓reduceIte, Nat.reduceEqDiff, Int.reduceEq, hc, qIO_out1, qIO_out2, qIO_out3, ix_zero, qIO_pt1, qIO_pt2]))))
        refine Tr.freezeAt (α := Msg) (by (repeat (first | exact TakeA.here | apply TakeA.next)); done) ?_
        refine Tr.freezeAt (α := Msg) (by (repeat (first | exact TakeA.here | apply TakeA.next)); done) ?_
        refine Tr.freezeAt (α := Msg) (by (repeat (first | exact TakeA.here | apply TakeA.next)); done) ?_
        ((try simp only [WKb, WKh, ↓reduceIte, Nat.reduceEqDiff, Nat.reduceAdd, Nat.reduceSub, Int.reduceEq, Int.reduceLT, Int.reduceLE, pl9, hc, qIO_out1, qIO_out2, qIO_out3, qIO_dr2, qIO_len, ix_20, ix_21, ix_zero, qIO_pt1, qIO_pt2]) <;> (repeat' ((first
    | (refine G.tr ?_; first | refine S.a ?_ | refine Tr.brK ?_ ?_ | (refine G.call 43 ?_; first | refine S.c ?_ (h := pnew2_ok) | refine S.c ?_ (h := pnew1_ok)) | (refine G.call 44 ?_; refine S.c ?_ (h := works18_ok)) | (refine G.call 45 ?_; refine S.c ?_ (h := deliver_ok ?_ ?_)) | (refine G.call 46 ?_; refine S.c ?_ (h := send_ok ?_ ?_)) | (refine G.call 47 ?_; refine S.c ?_ (h := receive2_ok ?_)) | (refine G.call 48 ?_; first | refine S.c ?_ (h := same2_ok ?_) | refine S.c ?_ (h := same18_ok)) | (refine G.call 49 ?_; first | refine S.c ?_ (h := drain0_ok (by rfl) ?_) | refine S.c ?_ (h := drain1_ok ?_)) | (refine G.call 50 ?_; refine S.c ?_ (h := plen_ok)) | refine S.n fun _ => ?_ | refine S.i fun hix => ?_ | (refine S.g fun hb => ?_; (try simp only [hb])) | (refine S.s (fun hb => ?_) (fun hb => ?_) <;> ((try simp only [hb]) <;> (try (have hp := hb; simp only [WKs] at hp; (try have hq := Int.not_le.2 hp); (try have hq := Int.not_lt.2 hp))))))
    | rintro _ _ ⟨rfl, rfl⟩
    | rintro _ _ ⟨_, rfl, rfl⟩
    | rintro _ _ ⟨_, _, rfl, rfl⟩
    | rintro _ _ ⟨_, _, hrd, rfl, rfl⟩
    | rintro _ _ ⟨_, _, _, _, rfl, rfl⟩
    | rintro _ _ ⟨_, _, _, _, _, _, rfl, rfl⟩
    | ((fail_if_success refine G.tr ?_); exact G.prop S.p)
    | fail) <;> (try simp only [WKb, ↓reduceIte, Nat.reduceEqDiff, qIO_dr2, ix_21, qIO_pt1, qIO_pt2]))))
        refine Tr.freezeAt (α := Msg) (by (repeat (first | exact TakeA.here | apply TakeA.next)); done) ?_
        ((try simp only [WKb, WKh, ↓reduceIte, Nat.reduceEqDiff, Nat.reduceAdd, Nat.reduceSub, Int.reduceEq, Int.reduceLT, Int.reduceLE, pl9, hc, qIO_out1, qIO_out2, qIO_out3, qIO_dr2, qIO_len, ix_20, ix_21, ix_zero, qIO_pt1, qIO_pt2]) <;> (repeat' ((first
    | (refine G.tr ?_; first | refine S.a ?_ | refine Tr.brK ?_ ?_ | (refine G.call 43 ?_; first | refine S.c ?_ (h := pnew2_ok) | refine S.c ?_ (h := pnew1_ok)) | (refine G.call 44 ?_; refine S.c ?_ (h := works18_ok)) | (refine G.call 45 ?_; refine S.c ?_ (h := deliver_ok ?_ ?_)) | (refine G.call 46 ?_; refine S.c ?_ (h := send_ok ?_ ?_)) | (refine G.call 47 ?_; refine S.c ?_ (h := receive2_ok ?_)) | (refine G.call 48 ?_; first | refine S.c ?_ (h := same2_ok ?_) | refine S.c ?_ (h := same18_ok)) | (refine G.call 49 ?_; first | refine S.c ?_ (h := drain0_ok (by rfl) ?_) | refine S.c ?_ (h := drain1_ok ?_)) | (refine G.call 50 ?_; refine S.c ?_ (h := plen_ok)) | refine S.n fun _ => ?_ | refine S.i fun hix => ?_ | (refine S.g fun hb => ?_; (try simp only [hb])) | (refine S.s (fun hb => ?_) (fun hb => ?_) <;> ((try simp only [hb]) <;> (try (have hp := hb; simp only [WKs] at hp; (try have hq := Int.not_le.2 hp); (try have hq := Int.not_lt.2 hp))))))
    | rintro _ _ ⟨rfl, rfl⟩
    | rintro _ _ ⟨_, rfl, rfl⟩
    | rintro _ _ ⟨_, _, rfl, rfl⟩
    | rintro _ _ ⟨_, _, hrd, rfl, rfl⟩
    | rintro _ _ ⟨_, _, _, _, rfl, rfl⟩
    | rintro _ _ ⟨_, _, _, _, _, _, rfl, rfl⟩
    | ((fail_if_success refine G.tr ?_); exact G.prop S.p)
    | fail) <;> (try simp only [WKb, ↓reduceIte, Nat.reduceEqDiff, qIO_len, qIO_pt1, qIO_pt2]))))
        all_goals first | exact (hrd : _ = mr.map SL.d).trans hmo.symm | skip
        all_goals
          refine Tr.fin hK ⟨rfl, rfl⟩ ?_
          ((try clear hK) <;> (try simp only [WKe, *]) <;> repeat (first | with_reducible exact EntR.done | refine S.e ?_ | (refine S.f ?_ <;> (try simp only [WKe, ↓reduceIte, reduceCtorEq, Int.reduceEq, *])) | with_reducible apply EntR.ex | refine EntR.drop (F := F) ?_ | refine EntR.drop ?_))
end Go.Proofs.Ytlmcoiloepoggaa
