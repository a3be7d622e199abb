import Derived.Test.YtlhmbcmkpafjoaaRC
namespace Go.Proofs.Ytlhmbcmkpafjoaa
open Go Go.Wk
set_option maxHeartbeats 6400000
set_option maxRecDepth 100000
instance : PtrTo Try.prog 23 98 := ⟨Try.underlying23⟩
instance : Siz Try.prog 98 1 := ⟨by kernel_rfl⟩

attribute [local irreducible] BrK GenK EGenK EUnitK CallK FnK CallV GuardO GuardC CondW opX opK opKc chkR eqR seqK blkK endL WL WD W LoopW BinK Tr drewK resL PickK NotK NilK ExtrK getK Instr.storeAt Instr.loadAt Instr.fieldAt Instr.indexAt Instr.lookup Instr.mapUpdate Instr.box Instr.alloc Instr.build Instr.buildSlice Instr.makeSlice Instr.makeMap Instr.sliceAt Instr.field Instr.index Instr.makeInterface Instr.typeAssert Builtin.len_ Builtin.append_ Builtin.cap_ Builtin.min_ Builtin.max_ Builtin.copy_ Builtin.clear_ convert binOp mp blk rob sl sep ex fact old
attribute [local irreducible] chn CW chI
theorem rdead0_ok : Trip Try.prog 38 [.pointer none].toArray [] fun v l' => v = .bool true ∧ l' = [] := by
  intro F K hK
  simp only [List.nil_append]
  (refine Tr.enter (rs := [.tmp 2]) mixed fn38 rfl (by simp +arith [Try.ntmps38]) fun u => ?_; simp only [cd38, Try.f38])
  ((try simp only [WKb, ↓reduceIte, Nat.reduceEqDiff]) <;> (repeat' ((first
    | (refine G.tr ?_; first | refine S.a ?_ | refine Tr.brK ?_ ?_ | refine S.n fun _ => ?_ | refine S.i fun hix => ?_ | (refine S.g fun hb => ?_; (try simp only [hb])) | (refine S.s (fun hb => ?_) (fun hb => ?_) <;> ((try simp only [hb]) <;> (try (have hp := hb; simp only [WKs] at hp; (try have hq := Int.not_le.2 hp); (try have hq := Int.not_lt.2 hp))))))
    | ((fail_if_success refine G.tr ?_); exact G.prop S.p)
    | fail) <;> (try simp only [WKb, WKh, ↓reduceIte, Nat.reduceEqDiff, Nat.reduceAdd, Nat.reduceSub, Int.reduceEq, Int.reduceLT, Int.reduceLE, BinK_chan1, BinK_ptrSS, pl38]))))
  all_goals
    refine Tr.fin hK ⟨rfl, rfl⟩ ?_
    ((try clear hK) <;> (try simp only [WKe, *]) <;> repeat (first | with_reducible exact EntR.done | refine S.e ?_ | (refine S.f ?_ <;> (try simp only [WKe, ↓reduceIte, reduceCtorEq, Int.reduceEq, *])) | with_reducible apply EntR.ex | refine EntR.drop (F := F) ?_ | refine EntR.drop ?_))

theorem rput0_ok {x : Int} : Trip Try.prog 12 [.pointer none, .int .i64 x].toArray [] fun v l' => v = .bool false ∧ l' = [] := by
  intro F K hK
  simp only [List.nil_append]
  (refine Tr.enterC (rs := [.tmp 4]) (c := cd12) Try.func12 rfl rfl (by simp +arith [Try.ntmps12]) fun u => ?_; simp only [cd12, Try.f12])
  (iterate 2 (refine Tr.cwSeq ?_; refine Tr.cwW pl12 mixed (by kernel_rfl) (by kernel_rfl) ?_; ((try simp only [WKb, ↓reduceIte, Nat.reduceEqDiff, Nat.reduceAdd]) <;> (repeat' ((first
    | (refine G.tr ?_; first | refine S.a ?_ | refine Tr.brK ?_ ?_ | (refine G.call 38 ?_; first | refine S.c ?_ (h := rdead_ok) | refine S.c ?_ (h := rdead0_ok)) | refine S.n fun _ => ?_ | refine S.i fun hix => ?_ | (refine S.g fun hb => ?_; (try simp only [hb])) | (refine S.s (fun hb => ?_) (fun hb => ?_) <;> ((try simp only [hb]) <;> (try (have hp := hb; simp only [WKs] at hp; (try have hq := Int.not_le.2 hp); (try have hq := Int.not_lt.2 hp))))))
    | rintro _ _ ⟨rfl, rfl⟩
    | ((fail_if_success refine G.tr ?_); exact G.prop S.p)
    | fail) <;> (try simp only [WKb, ↓reduceIte]))))))
  all_goals
    refine Tr.fin hK ⟨rfl, rfl⟩ ?_
    ((try clear hK) <;> (try simp only [WKe, *]) <;> repeat (first | with_reducible exact EntR.done | refine S.e ?_ | (refine S.f ?_ <;> (try simp only [WKe, ↓reduceIte, reduceCtorEq, Int.reduceEq, *])) | with_reducible apply EntR.ex | refine EntR.drop (F := F) ?_ | refine EntR.drop ?_))

theorem rtake0_ok : Trip Try.prog 13 [.pointer none].toArray [] fun v l' => v = .tuple #[.int .i64 0, .bool false] ∧ l' = [] := by
  intro F K hK
  simp only [List.nil_append]
  (refine Tr.enterC (rs := [.tmp 2, .tmp 3]) (c := cd13) Try.func13 rfl rfl (by simp +arith [Try.ntmps13]) fun u => ?_; simp only [cd13, Try.f13])
  (iterate 3 (refine Tr.cwSeq ?_; refine Tr.cwW pl13 mixed (by kernel_rfl) (by kernel_rfl) ?_; ((try simp only [WKb, ↓reduceIte, Nat.reduceEqDiff]) <;> (repeat' ((first
    | (refine G.tr ?_; first | refine S.a ?_ | refine Tr.brK ?_ ?_ | (refine G.call 38 ?_; first | refine S.c ?_ (h := rdead_ok) | refine S.c ?_ (h := rdead0_ok)) | refine S.n fun _ => ?_ | refine S.i fun hix => ?_ | (refine S.g fun hb => ?_; (try simp only [hb])) | (refine S.s (fun hb => ?_) (fun hb => ?_) <;> ((try simp only [hb]) <;> (try (have hp := hb; simp only [WKs] at hp; (try have hq := Int.not_le.2 hp); (try have hq := Int.not_lt.2 hp))))))
    | rintro _ _ ⟨rfl, rfl⟩
    | ((fail_if_success refine G.tr ?_); exact G.prop S.p)
    | fail) <;> (try simp only [WKb, ↓reduceIte, Nat.reduceEqDiff]))))))
  all_goals
    refine Tr.fin hK ⟨rfl, rfl⟩ ?_
    ((try clear hK) <;> (try simp only [WKe, *]) <;> repeat (first | with_reducible exact EntR.done | refine S.e ?_ | (refine S.f ?_ <;> (try simp only [WKe, ↓reduceIte, reduceCtorEq, Int.reduceEq, *])) | with_reducible apply EntR.ex | refine EntR.drop (F := F) ?_ | refine EntR.drop ?_))

theorem rlen0_ok : Trip Try.prog 14 [.pointer none].toArray [] fun v l' => v = .int .i64 0 ∧ l' = [] := by
  intro F K hK
  simp only [List.nil_append]
  (refine Tr.enter (rs := [.tmp 2]) mixed fn14 rfl (by simp +arith [Try.ntmps14]) fun u => ?_; simp only [cd14, Try.f14])
  ((try simp only [WKb, ↓reduceIte, Nat.reduceEqDiff]) <;> (repeat' ((first
    | (refine G.tr ?_; first | refine S.a ?_ | refine Tr.brK ?_ ?_ | (refine G.call 38 ?_; first | refine S.c ?_ (h := rdead_ok) | refine S.c ?_ (h := rdead0_ok)) | refine S.n fun _ => ?_ | refine S.i fun hix => ?_ | (refine S.g fun hb => ?_; (try simp only [hb])) | (refine S.s (fun hb => ?_) (fun hb => ?_) <;> ((try simp only [hb]) <;> (try (have hp := hb; simp only [WKs] at hp; (try have hq := Int.not_le.2 hp); (try have hq := Int.not_lt.2 hp))))))
    | rintro _ _ ⟨rfl, rfl⟩
    | ((fail_if_success refine G.tr ?_); exact G.prop S.p)
    | fail) <;> (try simp only [WKb, ↓reduceIte]))))
  all_goals
    refine Tr.fin hK ⟨rfl, rfl⟩ ?_
    ((try clear hK) <;> (try simp only [WKe, *]) <;> repeat (first | with_reducible exact EntR.done | refine S.e ?_ | (refine S.f ?_ <;> (try simp only [WKe, ↓reduceIte, reduceCtorEq, Int.reduceEq, *])) | with_reducible apply EntR.ex | refine EntR.drop (F := F) ?_ | refine EntR.drop ?_))

theorem rsize0I_ok : Trip Try.prog 16 [.pointer none].toArray [] fun v l' => v = .int .i64 0 ∧ l' = [] := by
  intro F K hK
  simp only [List.nil_append]
  (refine Tr.enter (rs := [.tmp 2]) mixed fn16 rfl (by simp +arith [Try.ntmps16]) fun u => ?_; simp only [cd16, Try.f16])
  ((try simp only [WKb, ↓reduceIte, Nat.reduceEqDiff]) <;> (repeat' ((first
    | (refine G.tr ?_; first | refine S.a ?_ | refine Tr.brK ?_ ?_ | (refine G.call 38 ?_; first | refine S.c ?_ (h := rdead_ok) | refine S.c ?_ (h := rdead0_ok)) | refine S.n fun _ => ?_ | refine S.i fun hix => ?_ | (refine S.g fun hb => ?_; (try simp only [hb])) | (refine S.s (fun hb => ?_) (fun hb => ?_) <;> ((try simp only [hb]) <;> (try (have hp := hb; simp only [WKs] at hp; (try have hq := Int.not_le.2 hp); (try have hq := Int.not_lt.2 hp))))))
    | rintro _ _ ⟨rfl, rfl⟩
    | ((fail_if_success refine G.tr ?_); exact G.prop S.p)
    | fail) <;> (try simp only [WKb, ↓reduceIte]))))
  all_goals
    refine Tr.fin hK ⟨rfl, rfl⟩ ?_
    ((try clear hK) <;> (try simp only [WKe, *]) <;> repeat (first | with_reducible exact EntR.done | refine S.e ?_ | (refine S.f ?_ <;> (try simp only [WKe, ↓reduceIte, reduceCtorEq, Int.reduceEq, *])) | with_reducible apply EntR.ex | refine EntR.drop (F := F) ?_ | refine EntR.drop ?_))

def inI (xs : List Int) (i : Int) : Prop := 0 ≤ i ∧ i < xs.length
instance (xs : List Int) (i : Int) : Decidable (inI xs i) := by unfold inI; infer_instance
def atV (xs : List Int) (i : Int) (k : Int) : Int := if 0 ≤ i ∧ i < k then ix xs i else 0
theorem rot_len {xs : List Int} {k : Nat} (h : k < xs.length) : (xs.drop (k + 1) ++ xs.take k).length = xs.length - 1 := by simp; omega
theorem rot_head {xs : List Int} {k : Nat} (h : k < xs.length) : xs.drop k ++ xs.take k = ix xs (k : Int) :: (xs.drop (k + 1) ++ xs.take k) := by
  rw [List.drop_eq_getElem_cons h, List.cons_append]; congr 1; simp [ix, h]
theorem rot_next {xs : List Int} {k : Nat} (h : k < xs.length) : xs.drop (k + 1) ++ xs.take k ++ [ix xs (k : Int)] = xs.drop (k + 1) ++ xs.take (k + 1) := by
  rw [List.take_add_one]; simp [ix, h]
theorem rat_ok {r c cap : Nat} {xs : List Int} {i : Int} (hcap : xs.length ≤ cap) (hc4 : cap ≤ 4096) : Trip Try.prog 20 [.pointer (some ⟨r, 0, none⟩), .int .i64 i].toArray [rngB r c, chI c cap xs]
    fun v l' => v = .tuple #[.int .i64 (atV xs i xs.length), .bool (decide (0 ≤ i ∧ i < xs.length))] ∧ l' = [rngB r c, chI c cap xs] := by
  intro F K hK
  simp only [List.cons_append, List.nil_append]
  (refine Tr.enter (rs := [.tmp 4, .tmp 5]) mixed fn20 rfl (by simp +arith [Try.ntmps20]) fun u => ?_; simp only [cd20, Try.f20])
  have h00 : atV xs i ((0 : Nat) : Int) = 0 := by unfold atV; rw [if_neg (by omega)]
  have h01 : decide (0 ≤ i ∧ i < ((0 : Nat) : Int)) = false := by simp
  ((try simp only [WKb, ↓reduceIte, Nat.reduceEqDiff, Nat.reduceAdd]) <;> (repeat' ((first
    | (refine G.tr ?_; first | refine S.a ?_ | refine Tr.brK ?_ ?_ | (refine G.call 14 ?_; first | refine S.c ?_ (h := rlen_ok) | refine S.c ?_ (h := rlen0_ok)) | (refine G.call 13 ?_; first | refine S.c ?_ (h := rtake_ok) | refine S.c ?_ (h := rtake0_ok)) | (refine G.call 12 ?_; first | refine S.c ?_ (h := rput_ok) | refine S.c ?_ (h := rput0_ok)) | refine S.n fun _ => ?_ | refine S.i fun hix => ?_ | (refine S.g fun hb => ?_; (try simp only [hb])) | (refine S.s (fun hb => ?_) (fun hb => ?_) <;> ((try simp only [hb]) <;> (try (have hp := hb; simp only [WKs] at hp; (try have hq := Int.not_le.2 hp); (try have hq := Int.not_lt.2 hp))))))
    | rintro _ _ ⟨rfl, rfl⟩
    | ((fail_if_success refine G.tr ?_); exact G.prop S.p)
    | fail) <;> (try simp only [WKb]))))
  refine Tr.loopE (α := Nat) [6, 7, 13] [0, 1, 4, 5, 12] (fun k => [.int .i64 (atV xs i k), .bool (decide (0 ≤ i ∧ i < (k : Int))), .int .i64 k]) (fun k => [chI c cap (xs.drop k ++ xs.take k), rngB r c]) (fun k => k ≤ xs.length) (fun k => xs.length - k) 0 (by simp only [List.drop_zero, List.take_zero, List.append_nil]; exact (by (repeat (first | exact TakeL.nil | (apply TakeL.cons; focus ((first | exact TakeA.dupS | exact TakeA.dupF | ((repeat (first | with_reducible exact TakeA.here | exact TakeA.fam (by omega) (by omega) | with_reducible apply TakeA.next)); done) | ((repeat (first | exact TakeA.here | apply TakeA.next)); done) | exact TakeA.famNil | exact TakeA.nilS))) | fail)); done)) (by simp only [WKb, h00, h01]; rfl) (by omega) fun k u hk => ?_
  have hw := wrapSucc (k := k) (by omega)
  by_cases hin : k < xs.length
  · have h1 := rot_head hin
    have h2 := rot_next hin
    have h3 := rot_len hin
    have hlt : (xs.drop (k + 1) ++ xs.take k).length < cap := by omega
    have hlt' : decide ((xs.drop (k + 1) ++ xs.take k).length < cap) = true := by simpa using hlt
    have hT1 : (xs.drop k ++ xs.take k).headD 0 = ix xs (k : Int) := by rw [h1]; rfl
    have hT2 : (xs.drop k ++ xs.take k).tail = xs.drop (k + 1) ++ xs.take k := by rw [h1]; rfl
    clear h1
    by_cases hki : (k : Int) = i
    · have ha : atV xs i ((k : Int) + 1) = ix xs (k : Int) := by unfold atV; rw [if_pos (by omega), hki]
      have hd : decide (0 ≤ i ∧ i < ((k + 1 : Nat) : Int)) = true := by simp; omega
      ((try simp only [WKb, ↓reduceIte, Nat.reduceEqDiff]) <;> (repeat' ((first
    | (refine G.tr ?_; first | refine S.a ?_ | refine Tr.brK ?_ ?_ | (refine G.call 14 ?_; first | refine S.c ?_ (h := rlen_ok) | refine S.c ?_ (h := rlen0_ok)) | (refine G.call 13 ?_; first | refine S.c ?_ (h := rtake_ok) | refine S.c ?_ (h := rtake0_ok)) | (refine G.call 12 ?_; first | refine S.c ?_ (h := rput_ok) | refine S.c ?_ (h := rput0_ok)) | refine S.n fun _ => ?_ | refine S.i fun hix => ?_ | (refine S.g fun hb => ?_; (try simp only [hb])) | (refine S.s (fun hb => ?_) (fun hb => ?_) <;> ((try simp only [hb]) <;> (try (have hp := hb; simp only [WKs] at hp; (try have hq := Int.not_le.2 hp); (try have hq := Int.not_lt.2 hp))))))
    | rintro _ _ ⟨rfl, rfl⟩
    | ((fail_if_success refine G.tr ?_); exact G.prop S.p)
    | fail) <;> (try simp only [WKb, ↓reduceIte, Nat.reduceEqDiff, hw, hT1, hT2, hlt, h2]))))
      all_goals (apply Tr.againE (k + 1); (focus (simp only [WKb, ↓reduceIte, Nat.reduceEqDiff])); (focus ((try simp only [WKb, ↓reduceIte, Nat.reduceEqDiff]); (all_goals ((repeat (refine cons_eq (by first | rfl | ((try clear hK) <;> first | (simp [*]; done) | (simp [*]; omega) | (simp [*] <;> (try split) <;> simp_all <;> omega))) ?_)); rfl)); done)); (focus (first | omega | assumption | (simp only []; omega) | (refine ⟨by omega, by assumption⟩) | (simp only []; refine ⟨by omega, by assumption⟩) | ((try simp only []); (repeat' (first | omega | assumption | refine And.intro ?_ ?_)); done))); (focus (first | omega | (simp only []; omega))); (focus (((try clear hK) <;> (try simp only [WKe, *]) <;> repeat (first | with_reducible exact EntR.done | refine S.e ?_ | (refine S.f ?_ <;> (try simp only [WKe, ha, hd, ↓reduceIte, reduceCtorEq, Int.reduceEq, *])) | with_reducible apply EntR.ex | refine EntR.drop (F := F) ?_ | refine EntR.drop ?_)))))
    · have ha : atV xs i ((k : Int) + 1) = atV xs i k := by unfold atV; (repeat' split) <;> first | rfl | omega
      have hd : decide (0 ≤ i ∧ i < ((k + 1 : Nat) : Int)) = decide (0 ≤ i ∧ i < (k : Int)) := by rw [decide_eq_decide]; omega
      ((try simp only [WKb, ↓reduceIte, Nat.reduceEqDiff]) <;> (repeat' ((first
    | (refine G.tr ?_; first | refine S.a ?_ | refine Tr.brK ?_ ?_ | (refine G.call 14 ?_; first | refine S.c ?_ (h := rlen_ok) | refine S.c ?_ (h := rlen0_ok)) | (refine G.call 13 ?_; first | refine S.c ?_ (h := rtake_ok) | refine S.c ?_ (h := rtake0_ok)) | (refine G.call 12 ?_; first | refine S.c ?_ (h := rput_ok) | refine S.c ?_ (h := rput0_ok)) | refine S.n fun _ => ?_ | refine S.i fun hix => ?_ | (refine S.g fun hb => ?_; (try simp only [hb])) | (refine S.s (fun hb => ?_) (fun hb => ?_) <;> ((try simp only [hb]) <;> (try (have hp := hb; simp only [WKs] at hp; (try have hq := Int.not_le.2 hp); (try have hq := Int.not_lt.2 hp))))))
    | rintro _ _ ⟨rfl, rfl⟩
    | ((fail_if_success refine G.tr ?_); exact G.prop S.p)
    | fail) <;> (try simp only [WKb, ↓reduceIte, Nat.reduceEqDiff, hw, hT1, hT2, hlt, h2]))))
      all_goals (apply Tr.againE (k + 1); (focus (simp only [WKb, ↓reduceIte, Nat.reduceEqDiff])); (focus ((try simp only [WKb, ↓reduceIte, Nat.reduceEqDiff]); (all_goals ((repeat (refine cons_eq (by first | rfl | ((try clear hK) <;> first | (simp [*]; done) | (simp [*]; omega) | (simp [*] <;> (try split) <;> simp_all <;> omega))) ?_)); rfl)); done)); (focus (first | omega | assumption | (simp only []; omega) | (refine ⟨by omega, by assumption⟩) | (simp only []; refine ⟨by omega, by assumption⟩) | ((try simp only []); (repeat' (first | omega | assumption | refine And.intro ?_ ?_)); done))); (focus (first | omega | (simp only []; omega))); (focus (((try clear hK) <;> (try simp only [WKe, *]) <;> repeat (first | with_reducible exact EntR.done | refine S.e ?_ | (refine S.f ?_ <;> (try simp only [WKe, ha, hd, ↓reduceIte, reduceCtorEq, Int.reduceEq, *])) | with_reducible apply EntR.ex | refine EntR.drop (F := F) ?_ | refine EntR.drop ?_)))))
  · have hk' : k = xs.length := by omega
    subst hk'
    ((try simp only [WKb, ↓reduceIte, Nat.reduceEqDiff, List.drop_length, List.take_length]) <;> (repeat' ((first
    | (refine G.tr ?_; first | refine S.a ?_ | refine Tr.brK ?_ ?_ | (refine G.call 14 ?_; first | refine S.c ?_ (h := rlen_ok) | refine S.c ?_ (h := rlen0_ok)) | (refine G.call 13 ?_; first | refine S.c ?_ (h := rtake_ok) | refine S.c ?_ (h := rtake0_ok)) | (refine G.call 12 ?_; first | refine S.c ?_ (h := rput_ok) | refine S.c ?_ (h := rput0_ok)) | refine S.n fun _ => ?_ | refine S.i fun hix => ?_ | (refine S.g fun hb => ?_; (try simp only [hb])) | (refine S.s (fun hb => ?_) (fun hb => ?_) <;> ((try simp only [hb]) <;> (try (have hp := hb; simp only [WKs] at hp; (try have hq := Int.not_le.2 hp); (try have hq := Int.not_lt.2 hp))))))
    | rintro _ _ ⟨rfl, rfl⟩
    | ((fail_if_success refine G.tr ?_); exact G.prop S.p)
    | fail) <;> (try simp only [WKb, ↓reduceIte, Nat.reduceEqDiff]))))
    all_goals
      refine Tr.fin hK ⟨(by first | (simp [*]; done) | (simp only [WKe, ↓reduceIte, reduceCtorEq, Int.reduceEq, eq_self, *]; done) | (simp only [WKe, ↓reduceIte, reduceCtorEq, Int.reduceEq, *]; rfl)), rfl⟩ ?_
      ((try clear hK) <;> (try simp only [WKe, *]) <;> repeat (first | with_reducible exact EntR.done | refine S.e ?_ | (refine S.f ?_ <;> (try simp only [WKe, ↓reduceIte, reduceCtorEq, Int.reduceEq, *])) | with_reducible apply EntR.ex | refine EntR.drop (F := F) ?_ | refine EntR.drop ?_))

theorem rclearI_ok {r c cap : Nat} {xs : List Int} (hc4 : xs.length ≤ 4096) : Trip Try.prog 22 [.pointer (some ⟨r, 0, none⟩)].toArray [rngB r c, chI c cap xs]
    fun v l' => v = .int .i64 xs.length ∧ l' = [chI c cap ([] : List Int), rngB r c] := by
  intro F K hK
  simp only [List.cons_append, List.nil_append]
  (refine Tr.enter (rs := [.tmp 2]) mixed fn22 rfl (by simp +arith [Try.ntmps22]) fun u => ?_; simp only [cd22, Try.f22])
  ((try simp only [WKb, ↓reduceIte, Nat.reduceEqDiff]) <;> (repeat' ((first
    | (refine G.tr ?_; first | refine S.a ?_ | refine Tr.brK ?_ ?_ | (refine G.call 14 ?_; first | refine S.c ?_ (h := rlen_ok) | refine S.c ?_ (h := rlen0_ok)) | (refine G.call 13 ?_; first | refine S.c ?_ (h := rtake_ok) | refine S.c ?_ (h := rtake0_ok)) | refine S.n fun _ => ?_ | refine S.i fun hix => ?_ | (refine S.g fun hb => ?_; (try simp only [hb])) | (refine S.s (fun hb => ?_) (fun hb => ?_) <;> ((try simp only [hb]) <;> (try (have hp := hb; simp only [WKs] at hp; (try have hq := Int.not_le.2 hp); (try have hq := Int.not_lt.2 hp))))))
    | rintro _ _ ⟨rfl, rfl⟩
    | ((fail_if_success refine G.tr ?_); exact G.prop S.p)
    | fail) <;> (try simp only [WKb, ↓reduceIte]))))
  refine Tr.loopE (α := Nat) [7] [0, 2, 3, 6] (fun k => [.int .i64 k]) (fun k => [chI c cap (xs.drop k), rngB r c]) (fun k => k ≤ xs.length) (fun k => xs.length - k) 0 (by simp only [List.drop_zero]; exact (by (repeat (first | exact TakeL.nil | (apply TakeL.cons; focus ((first | exact TakeA.dupS | exact TakeA.dupF | ((repeat (first | with_reducible exact TakeA.here | exact TakeA.fam (by omega) (by omega) | with_reducible apply TakeA.next)); done) | ((repeat (first | exact TakeA.here | apply TakeA.next)); done) | exact TakeA.famNil | exact TakeA.nilS))) | fail)); done)) rfl (by omega) fun k u hk => ?_
  have hw := wrapSucc (k := k) (by omega)
  by_cases hin : k < xs.length
  · have ht : (xs.drop k).tail = xs.drop (k + 1) := by simp
    ((try simp only [WKb, ↓reduceIte, Nat.reduceEqDiff]) <;> (repeat' ((first
    | (refine G.tr ?_; first | refine S.a ?_ | refine Tr.brK ?_ ?_ | (refine G.call 14 ?_; first | refine S.c ?_ (h := rlen_ok) | refine S.c ?_ (h := rlen0_ok)) | (refine G.call 13 ?_; first | refine S.c ?_ (h := rtake_ok) | refine S.c ?_ (h := rtake0_ok)) | refine S.n fun _ => ?_ | refine S.i fun hix => ?_ | (refine S.g fun hb => ?_; (try simp only [hb])) | (refine S.s (fun hb => ?_) (fun hb => ?_) <;> ((try simp only [hb]) <;> (try (have hp := hb; simp only [WKs] at hp; (try have hq := Int.not_le.2 hp); (try have hq := Int.not_lt.2 hp))))))
    | rintro _ _ ⟨rfl, rfl⟩
    | ((fail_if_success refine G.tr ?_); exact G.prop S.p)
    | fail) <;> (try simp only [WKb, ↓reduceIte, Nat.reduceEqDiff, hw, ht]))))
    all_goals (apply Tr.againE (k + 1); (focus (simp only [WKb, ↓reduceIte, Nat.reduceEqDiff])); (focus ((try simp only [WKb, ↓reduceIte]); (all_goals ((repeat (refine cons_eq (by first | rfl | (simp [*]; done)) ?_)); rfl)); done)); (focus (first | omega | assumption | (simp only []; omega) | (refine ⟨by omega, by assumption⟩) | (simp only []; refine ⟨by omega, by assumption⟩) | ((try simp only []); (repeat' (first | omega | assumption | refine And.intro ?_ ?_)); done))); (focus (first | omega | (simp only []; omega))); (focus (((try clear hK) <;> (try simp only [WKe, *]) <;> repeat (first | with_reducible exact EntR.done | refine S.e ?_ | (refine S.f ?_ <;> (try simp only [WKe, ↓reduceIte, reduceCtorEq, Int.reduceEq, *])) | with_reducible apply EntR.ex | refine EntR.drop (F := F) ?_ | refine EntR.drop ?_)))))
  · have hk' : k = xs.length := by omega
    subst hk'
    ((try simp only [WKb, ↓reduceIte, Nat.reduceEqDiff, List.drop_length]) <;> (repeat' ((first
    | (refine G.tr ?_; first | refine S.a ?_ | refine Tr.brK ?_ ?_ | (refine G.call 14 ?_; first | refine S.c ?_ (h := rlen_ok) | refine S.c ?_ (h := rlen0_ok)) | (refine G.call 13 ?_; first | refine S.c ?_ (h := rtake_ok) | refine S.c ?_ (h := rtake0_ok)) | refine S.n fun _ => ?_ | refine S.i fun hix => ?_ | (refine S.g fun hb => ?_; (try simp only [hb])) | (refine S.s (fun hb => ?_) (fun hb => ?_) <;> ((try simp only [hb]) <;> (try (have hp := hb; simp only [WKs] at hp; (try have hq := Int.not_le.2 hp); (try have hq := Int.not_lt.2 hp))))))
    | rintro _ _ ⟨rfl, rfl⟩
    | ((fail_if_success refine G.tr ?_); exact G.prop S.p)
    | fail) <;> (try simp only [WKb, ↓reduceIte, Nat.reduceEqDiff]))))
    all_goals
      refine Tr.fin hK ⟨(by first | (simp [*]; done) | (simp only [WKe, ↓reduceIte, reduceCtorEq, Int.reduceEq, eq_self, *]; done) | (simp only [WKe, ↓reduceIte, reduceCtorEq, Int.reduceEq, *]; rfl)), rfl⟩ ?_
      ((try clear hK) <;> (try simp only [WKe, *]) <;> repeat (first | with_reducible exact EntR.done | refine S.e ?_ | (refine S.f ?_ <;> (try simp only [WKe, ↓reduceIte, reduceCtorEq, Int.reduceEq, *])) | with_reducible apply EntR.ex | refine EntR.drop (F := F) ?_ | refine EntR.drop ?_))

theorem rclear0I_ok : Trip Try.prog 22 [.pointer none].toArray [] fun v l' => v = .int .i64 0 ∧ l' = [] := by
  intro F K hK
  simp only [List.nil_append]
  (refine Tr.enter (rs := [.tmp 2]) mixed fn22 rfl (by simp +arith [Try.ntmps22]) fun u => ?_; simp only [cd22, Try.f22])
  ((try simp only [WKb, ↓reduceIte, Nat.reduceEqDiff]) <;> (repeat' ((first
    | (refine G.tr ?_; first | refine S.a ?_ | refine Tr.brK ?_ ?_ | (refine G.call 14 ?_; first | refine S.c ?_ (h := rlen_ok) | refine S.c ?_ (h := rlen0_ok)) | (refine G.call 13 ?_; first | refine S.c ?_ (h := rtake_ok) | refine S.c ?_ (h := rtake0_ok)) | refine S.n fun _ => ?_ | refine S.i fun hix => ?_ | (refine S.g fun hb => ?_; (try simp only [hb])) | (refine S.s (fun hb => ?_) (fun hb => ?_) <;> ((try simp only [hb]) <;> (try (have hp := hb; simp only [WKs] at hp; (try have hq := Int.not_le.2 hp); (try have hq := Int.not_lt.2 hp))))))
    | rintro _ _ ⟨rfl, rfl⟩
    | ((fail_if_success refine G.tr ?_); exact G.prop S.p)
    | fail) <;> (try simp only [WKb, ↓reduceIte]))))
  refine Tr.loopE (α := Nat) [7] [0, 2, 3, 6] (fun k => [.int .i64 k]) (fun k => []) (fun k => k ≤ 0) (fun k => k) 0 (by (repeat (first | exact TakeL.nil | (apply TakeL.cons; focus ((first | exact TakeA.dupS | exact TakeA.dupF | ((repeat (first | with_reducible exact TakeA.here | exact TakeA.fam (by omega) (by omega) | with_reducible apply TakeA.next)); done) | ((repeat (first | exact TakeA.here | apply TakeA.next)); done) | exact TakeA.famNil | exact TakeA.nilS))) | fail)); done) rfl (by omega) fun k u hk => ?_
  obtain rfl : k = 0 := by omega
  ((try simp only [WKb, ↓reduceIte, Nat.reduceEqDiff]) <;> (repeat' ((first
    | (refine G.tr ?_; first | refine S.a ?_ | refine Tr.brK ?_ ?_ | (refine G.call 14 ?_; first | refine S.c ?_ (h := rlen_ok) | refine S.c ?_ (h := rlen0_ok)) | (refine G.call 13 ?_; first | refine S.c ?_ (h := rtake_ok) | refine S.c ?_ (h := rtake0_ok)) | refine S.n fun _ => ?_ | refine S.i fun hix => ?_ | (refine S.g fun hb => ?_; (try simp only [hb])) | (refine S.s (fun hb => ?_) (fun hb => ?_) <;> ((try simp only [hb]) <;> (try (have hp := hb; simp only [WKs] at hp; (try have hq := Int.not_le.2 hp); (try have hq := Int.not_lt.2 hp))))))
    | rintro _ _ ⟨rfl, rfl⟩
    | ((fail_if_success refine G.tr ?_); exact G.prop S.p)
    | fail) <;> (try simp only [WKb, ↓reduceIte, Nat.reduceEqDiff]))))
  all_goals
    refine Tr.fin hK ⟨(by first | (simp [*]; done) | (simp only [WKe, ↓reduceIte, reduceCtorEq, Int.reduceEq, eq_self, *]; done) | (simp only [WKe, ↓reduceIte, reduceCtorEq, Int.reduceEq, *]; rfl)), rfl⟩ ?_
    ((try clear hK) <;> (try simp only [WKe, *]) <;> repeat (first | with_reducible exact EntR.done | refine S.e ?_ | (refine S.f ?_ <;> (try simp only [WKe, ↓reduceIte, reduceCtorEq, Int.reduceEq, *])) | with_reducible apply EntR.ex | refine EntR.drop (F := F) ?_ | refine EntR.drop ?_))

theorem rat0_ok {i : Int} : Trip Try.prog 20 [.pointer none, .int .i64 i].toArray [] fun v l' => v = .tuple #[.int .i64 0, .bool false] ∧ l' = [] := by
  intro F K hK
  simp only [List.nil_append]
  (refine Tr.enter (rs := [.tmp 4, .tmp 5]) mixed fn20 rfl (by simp +arith [Try.ntmps20]) fun u => ?_; simp only [cd20, Try.f20])
  ((try simp only [WKb, ↓reduceIte, Nat.reduceEqDiff, Nat.reduceAdd]) <;> (repeat' ((first
    | (refine G.tr ?_; first | refine S.a ?_ | refine Tr.brK ?_ ?_ | (refine G.call 14 ?_; first | refine S.c ?_ (h := rlen_ok) | refine S.c ?_ (h := rlen0_ok)) | (refine G.call 13 ?_; first | refine S.c ?_ (h := rtake_ok) | refine S.c ?_ (h := rtake0_ok)) | (refine G.call 12 ?_; first | refine S.c ?_ (h := rput_ok) | refine S.c ?_ (h := rput0_ok)) | refine S.n fun _ => ?_ | refine S.i fun hix => ?_ | (refine S.g fun hb => ?_; (try simp only [hb])) | (refine S.s (fun hb => ?_) (fun hb => ?_) <;> ((try simp only [hb]) <;> (try (have hp := hb; simp only [WKs] at hp; (try have hq := Int.not_le.2 hp); (try have hq := Int.not_lt.2 hp))))))
    | rintro _ _ ⟨rfl, rfl⟩
    | ((fail_if_success refine G.tr ?_); exact G.prop S.p)
    | fail) <;> (try simp only [WKb]))))
  refine Tr.loopE (α := Nat) [6, 7, 13] [0, 1, 4, 5, 12] (fun k => [.int .i64 0, .bool false, .int .i64 k]) (fun k => []) (fun k => k ≤ 0) (fun k => k) 0 (by (repeat (first | exact TakeL.nil | (apply TakeL.cons; focus ((first | exact TakeA.dupS | exact TakeA.dupF | ((repeat (first | with_reducible exact TakeA.here | exact TakeA.fam (by omega) (by omega) | with_reducible apply TakeA.next)); done) | ((repeat (first | exact TakeA.here | apply TakeA.next)); done) | exact TakeA.famNil | exact TakeA.nilS))) | fail)); done) rfl (by omega) fun k u hk => ?_
  obtain rfl : k = 0 := by omega
  ((try simp only [WKb, ↓reduceIte, Nat.reduceEqDiff]) <;> (repeat' ((first
    | (refine G.tr ?_; first | refine S.a ?_ | refine Tr.brK ?_ ?_ | (refine G.call 14 ?_; first | refine S.c ?_ (h := rlen_ok) | refine S.c ?_ (h := rlen0_ok)) | (refine G.call 13 ?_; first | refine S.c ?_ (h := rtake_ok) | refine S.c ?_ (h := rtake0_ok)) | (refine G.call 12 ?_; first | refine S.c ?_ (h := rput_ok) | refine S.c ?_ (h := rput0_ok)) | refine S.n fun _ => ?_ | refine S.i fun hix => ?_ | (refine S.g fun hb => ?_; (try simp only [hb])) | (refine S.s (fun hb => ?_) (fun hb => ?_) <;> ((try simp only [hb]) <;> (try (have hp := hb; simp only [WKs] at hp; (try have hq := Int.not_le.2 hp); (try have hq := Int.not_lt.2 hp))))))
    | rintro _ _ ⟨rfl, rfl⟩
    | ((fail_if_success refine G.tr ?_); exact G.prop S.p)
    | fail) <;> (try simp only [WKb, ↓reduceIte, Nat.reduceEqDiff]))))
  all_goals
    refine Tr.fin hK ⟨(by first | (simp [*]; done) | (simp only [WKe, ↓reduceIte, reduceCtorEq, Int.reduceEq, eq_self, *]; done) | (simp only [WKe, ↓reduceIte, reduceCtorEq, Int.reduceEq, *]; rfl)), rfl⟩ ?_
    ((try clear hK) <;> (try simp only [WKe, *]) <;> repeat (first | with_reducible exact EntR.done | refine S.e ?_ | (refine S.f ?_ <;> (try simp only [WKe, ↓reduceIte, reduceCtorEq, Int.reduceEq, *])) | with_reducible apply EntR.ex | refine EntR.drop (F := F) ?_ | refine EntR.drop ?_))

end Go.Proofs.Ytlhmbcmkpafjoaa
