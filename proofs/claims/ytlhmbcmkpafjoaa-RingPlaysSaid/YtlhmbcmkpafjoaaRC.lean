import Derived.Test.YtlhmbcmkpafjoaaCF
import Derived.Test.YtlhmbcmkpafjoaaTb2
import Derived.Test.YtlhmbcmkpafjoaaWkQ
import Derived.KernelRfl
namespace Go.Proofs.Ytlhmbcmkpafjoaa
open Go Go.Wk
set_option maxHeartbeats 6400000
set_option maxRecDepth 100000
instance : ChT Try.prog 96 := chB_spec (by kernel_rfl)
instance : Zer Try.prog 3 (.int .i64 0) := ⟨by kernel_rfl⟩
abbrev iv (x : Int) : Value := .int .i64 x
abbrev rngB (r c : Nat) : Asrt := blk r (.cells [.chan (some c)].toArray 98 (0, 0))
def chI (c cap : Nat) (xs : List Int) : Asrt := chn c cap (xs.map iv)

attribute [local irreducible] BrK GenK EGenK EUnitK CallK FnK CallV GuardO GuardC CondW opX opK opKc chkR eqR seqK blkK endL WL WD W LoopW BinK Tr drewK resL PickK NotK NilK ExtrK getK Instr.storeAt Instr.loadAt Instr.fieldAt Instr.indexAt Instr.lookup Instr.mapUpdate Instr.box Instr.alloc Instr.build Instr.buildSlice Instr.makeSlice Instr.makeMap Instr.sliceAt Instr.field Instr.index Instr.makeInterface Instr.typeAssert Builtin.len_ Builtin.append_ Builtin.cap_ Builtin.min_ Builtin.max_ Builtin.copy_ Builtin.clear_ convert binOp mp blk rob sl sep ex fact old
attribute [local irreducible] chn CW
theorem rdead_ok {r c : Nat} : Trip Try.prog 38 [.pointer (some ⟨r, 0, none⟩)].toArray [rngB r c] fun v l' => v = .bool false ∧ l' = [rngB r c] := by
  intro F K hK
  simp only [List.cons_append, List.nil_append]
  (refine Tr.enter (rs := [.tmp 2]) mixed fn38 rfl (by simp +arith [Try.ntmps38]) fun u => ?_; simp only [cd38, Try.f38])
  ((try simp only [WKb, ↓reduceIte, Nat.reduceEqDiff]) <;> (repeat' ((first
    | (refine G.tr ?_; first | refine S.a ?_ | refine Tr.brK ?_ ?_ | refine S.n fun _ => ?_ | refine S.i fun hix => ?_ | (refine S.g fun hb => ?_; (try simp only [hb])) | (refine S.s (fun hb => ?_) (fun hb => ?_) <;> ((try simp only [hb]) <;> (try (have hp := hb; simp only [WKs] at hp; (try have hq := Int.not_le.2 hp); (try have hq := Int.not_lt.2 hp))))))
    | ((fail_if_success refine G.tr ?_); exact G.prop S.p)
    | fail) <;> (try simp only [WKb, ↓reduceIte, Nat.reduceEqDiff, BinK_chan1]))))
  all_goals
    refine Tr.fin hK ⟨rfl, rfl⟩ ?_
    ((try clear hK) <;> (try simp only [WKe, *]) <;> repeat (first | with_reducible exact EntR.done | refine S.e ?_ | (refine S.f ?_ <;> (try simp only [WKe, ↓reduceIte, reduceCtorEq, Int.reduceEq, *])) | with_reducible apply EntR.ex | refine EntR.drop (F := F) ?_ | refine EntR.drop ?_))

theorem rput_ok {r c cap : Nat} {xs : List Int} {x : Int} : Trip Try.prog 12 [.pointer (some ⟨r, 0, none⟩), .int .i64 x].toArray [rngB r c, chI c cap xs]
    fun v l' => v = .bool (decide (xs.length < cap)) ∧ l' = [chI c cap (if xs.length < cap then xs ++ [x] else xs), rngB r c] := by
  intro F K hK
  simp only [List.cons_append, List.nil_append, chI]
  have hl : (xs.map iv).length = xs.length := List.length_map _
  have hap : xs.map iv ++ [.int .i64 x] = (xs ++ [x]).map iv := by simp
  (refine Tr.enterC (rs := [.tmp 4]) (c := cd12) Try.func12 rfl rfl (by simp +arith [Try.ntmps12]) fun u => ?_; simp only [cd12, Try.f12])
  (iterate 3 (refine Tr.cwSeq ?_; refine Tr.cwW pl12 mixed (by kernel_rfl) (by kernel_rfl) ?_; ((try simp only [WKb, ↓reduceIte, Nat.reduceEqDiff, Nat.reduceAdd]) <;> (repeat' ((first
    | (refine G.tr ?_; first | refine S.a ?_ | refine Tr.brK ?_ ?_ | (refine G.call 38 ?_; first | refine S.c ?_ (h := rdead0_ok) | refine S.c ?_ (h := rdead_ok)) | refine S.n fun _ => ?_ | refine S.i fun hix => ?_ | (refine S.g fun hb => ?_; (try simp only [hb])) | (refine S.s (fun hb => ?_) (fun hb => ?_) <;> ((try simp only [hb]) <;> (try (have hp := hb; simp only [WKs] at hp; (try have hq := Int.not_le.2 hp); (try have hq := Int.not_lt.2 hp))))))
    | rintro _ _ ⟨rfl, rfl⟩
    | ((fail_if_success refine G.tr ?_); exact G.prop S.p)
    | fail) <;> (try simp only [WKb, ↓reduceIte, Nat.reduceEqDiff]))))))
  refine Tr.cwSeq ?_
  refine Tr.imp (Imp.of_perm (List.Perm.swap _ _ _)) ?_
  refine Tr.selSend (by rfl) (by rfl) (by decide) (by decide) (by decide) (fun hr => ?_) (fun hr => ?_)
  · simp only [seqK_n]
    (refine Tr.cwW pl12 mixed (by kernel_rfl) (by kernel_rfl) ?_)
    rw [hl] at hr
    ((try simp only [WKb, ↓reduceIte]) <;> (repeat' ((first
    | (refine G.tr ?_; first | refine S.a ?_ | refine Tr.brK ?_ ?_ | (refine G.call 38 ?_; first | refine S.c ?_ (h := rdead0_ok) | refine S.c ?_ (h := rdead_ok)) | refine S.n fun _ => ?_ | refine S.i fun hix => ?_ | (refine S.g fun hb => ?_; (try simp only [hb])) | (refine S.s (fun hb => ?_) (fun hb => ?_) <;> ((try simp only [hb]) <;> (try (have hp := hb; simp only [WKs] at hp; (try have hq := Int.not_le.2 hp); (try have hq := Int.not_lt.2 hp))))))
    | rintro _ _ ⟨rfl, rfl⟩
    | ((fail_if_success refine G.tr ?_); exact G.prop S.p)
    | fail) <;> (try simp only [WKb, WKh, ↓reduceIte, Nat.reduceEqDiff, Nat.reduceAdd, Nat.reduceSub, Int.reduceEq, Int.reduceLT, Int.reduceLE, BinK_chan1, pl12]))))
    all_goals
      refine Tr.fin hK ⟨(by first | (simp [*]; done) | (simp only [WKe, ↓reduceIte, reduceCtorEq, Int.reduceEq, eq_self, *]; done) | (simp only [WKe, ↓reduceIte, reduceCtorEq, Int.reduceEq, *]; rfl)), rfl⟩ ?_
      ((try clear hK) <;> (try simp only [WKe, ↓reduceIte, *]) <;> repeat (first | with_reducible exact EntR.done | refine S.e ?_ | (refine S.f ?_ <;> (try simp only [WKe, hr, hap, ↓reduceIte, reduceCtorEq, Int.reduceEq, *])) | with_reducible apply EntR.ex | refine EntR.drop (F := F) ?_ | refine EntR.drop ?_))
  · simp only [seqK_n]
    (refine Tr.cwW pl12 mixed (by kernel_rfl) (by kernel_rfl) ?_)
    rw [hl] at hr
    have hr' : ¬ xs.length < cap := by omega
    ((try simp only [WKb, ↓reduceIte]) <;> (repeat' ((first
    | (refine G.tr ?_; first | refine S.a ?_ | refine Tr.brK ?_ ?_ | (refine G.call 38 ?_; first | refine S.c ?_ (h := rdead0_ok) | refine S.c ?_ (h := rdead_ok)) | refine S.n fun _ => ?_ | refine S.i fun hix => ?_ | (refine S.g fun hb => ?_; (try simp only [hb])) | (refine S.s (fun hb => ?_) (fun hb => ?_) <;> ((try simp only [hb]) <;> (try (have hp := hb; simp only [WKs] at hp; (try have hq := Int.not_le.2 hp); (try have hq := Int.not_lt.2 hp))))))
    | rintro _ _ ⟨rfl, rfl⟩
    | ((fail_if_success refine G.tr ?_); exact G.prop S.p)
    | fail) <;> (try simp only [WKb, WKh, ↓reduceIte, Nat.reduceEqDiff, Nat.reduceAdd, Nat.reduceSub, Int.reduceEq, Int.reduceLT, Int.reduceLE, BinK_chan1, pl12]))))
    all_goals
      refine Tr.fin hK ⟨(by first | (simp [*]; done) | (simp only [WKe, ↓reduceIte, reduceCtorEq, Int.reduceEq, eq_self, *, hr']; done) | (simp only [WKe, ↓reduceIte, reduceCtorEq, Int.reduceEq, *, hr']; rfl)), rfl⟩ ?_
      ((try clear hK) <;> (try simp only [WKe, ↓reduceIte, *]) <;> repeat (first | with_reducible exact EntR.done | refine S.e ?_ | (refine S.f ?_ <;> (try simp only [WKe, hr', ↓reduceIte, reduceCtorEq, Int.reduceEq, *])) | with_reducible apply EntR.ex | refine EntR.drop (F := F) ?_ | refine EntR.drop ?_))

theorem rtake_ok {r c cap : Nat} {xs : List Int} : Trip Try.prog 13 [.pointer (some ⟨r, 0, none⟩)].toArray [rngB r c, chI c cap xs]
    fun v l' => v = .tuple #[.int .i64 (xs.headD 0), .bool (decide (0 < xs.length))] ∧ l' = [chI c cap xs.tail, rngB r c] := by
  intro F K hK
  simp only [List.cons_append, List.nil_append, chI]
  (refine Tr.enterC (rs := [.tmp 2, .tmp 3]) (c := cd13) Try.func13 rfl rfl (by simp +arith [Try.ntmps13]) fun u => ?_; simp only [cd13, Try.f13])
  (iterate 4 (refine Tr.cwSeq ?_; refine Tr.cwW pl13 mixed (by kernel_rfl) (by kernel_rfl) ?_; ((try simp only [WKb, ↓reduceIte, Nat.reduceEqDiff]) <;> (repeat' ((first
    | (refine G.tr ?_; first | refine S.a ?_ | refine Tr.brK ?_ ?_ | (refine G.call 38 ?_; first | refine S.c ?_ (h := rdead0_ok) | refine S.c ?_ (h := rdead_ok)) | refine S.n fun _ => ?_ | refine S.i fun hix => ?_ | (refine S.g fun hb => ?_; (try simp only [hb])) | (refine S.s (fun hb => ?_) (fun hb => ?_) <;> ((try simp only [hb]) <;> (try (have hp := hb; simp only [WKs] at hp; (try have hq := Int.not_le.2 hp); (try have hq := Int.not_lt.2 hp))))))
    | rintro _ _ ⟨rfl, rfl⟩
    | ((fail_if_success refine G.tr ?_); exact G.prop S.p)
    | fail) <;> (try simp only [WKb, ↓reduceIte]))))))
  refine Tr.cwSeq ?_
  refine Tr.imp (Imp.of_perm (List.Perm.swap _ _ _)) ?_
  refine Tr.selRecv (by rfl) (by decide) (by decide) (by decide) (fun x b2 hr => ?_) (fun hr => ?_)
  · simp only [seqK_n]
    (refine Tr.cwW pl13 mixed (by kernel_rfl) (by kernel_rfl) ?_)
    obtain ⟨y, ys, rfl, rfl, rfl⟩ : ∃ y ys, xs = y :: ys ∧ x = iv y ∧ b2 = ys.map iv := by
      cases xs with
      | nil => simp at hr
      | cons y ys => simp at hr; exact ⟨y, ys, rfl, hr.1.symm, hr.2.symm⟩
    ((try simp only [WKb, ↓reduceIte, Nat.reduceEqDiff]) <;> (repeat' ((first
    | (refine G.tr ?_; first | refine S.a ?_ | refine Tr.brK ?_ ?_ | (refine G.call 38 ?_; first | refine S.c ?_ (h := rdead0_ok) | refine S.c ?_ (h := rdead_ok)) | refine S.n fun _ => ?_ | refine S.i fun hix => ?_ | (refine S.g fun hb => ?_; (try simp only [hb])) | (refine S.s (fun hb => ?_) (fun hb => ?_) <;> ((try simp only [hb]) <;> (try (have hp := hb; simp only [WKs] at hp; (try have hq := Int.not_le.2 hp); (try have hq := Int.not_lt.2 hp))))))
    | rintro _ _ ⟨rfl, rfl⟩
    | ((fail_if_success refine G.tr ?_); exact G.prop S.p)
    | fail) <;> (try simp only [WKb, WKh, ↓reduceIte, Nat.reduceEqDiff, Nat.reduceAdd, Nat.reduceSub, Int.reduceEq, Int.reduceLT, Int.reduceLE, BinK_chan1, pl13]))))
    all_goals
      refine Tr.fin hK ⟨(by first | (simp [*]; done) | (simp only [WKe, ↓reduceIte, reduceCtorEq, Int.reduceEq, eq_self, *]; done) | (simp only [WKe, ↓reduceIte, reduceCtorEq, Int.reduceEq, *]; rfl)), rfl⟩ ?_
      ((try clear hK) <;> (try simp only [WKe, List.tail_cons, *]) <;> repeat (first | with_reducible exact EntR.done | refine S.e ?_ | (refine S.f ?_ <;> (try simp only [WKe, List.tail_cons, ↓reduceIte, reduceCtorEq, Int.reduceEq, *])) | with_reducible apply EntR.ex | refine EntR.drop (F := F) ?_ | refine EntR.drop ?_))
  · simp only [seqK_n]
    (refine Tr.cwW pl13 mixed (by kernel_rfl) (by kernel_rfl) ?_)
    obtain rfl : xs = [] := by simpa using hr
    ((try simp only [WKb, ↓reduceIte, Nat.reduceEqDiff]) <;> (repeat' ((first
    | (refine G.tr ?_; first | refine S.a ?_ | refine Tr.brK ?_ ?_ | (refine G.call 38 ?_; first | refine S.c ?_ (h := rdead0_ok) | refine S.c ?_ (h := rdead_ok)) | refine S.n fun _ => ?_ | refine S.i fun hix => ?_ | (refine S.g fun hb => ?_; (try simp only [hb])) | (refine S.s (fun hb => ?_) (fun hb => ?_) <;> ((try simp only [hb]) <;> (try (have hp := hb; simp only [WKs] at hp; (try have hq := Int.not_le.2 hp); (try have hq := Int.not_lt.2 hp))))))
    | rintro _ _ ⟨rfl, rfl⟩
    | ((fail_if_success refine G.tr ?_); exact G.prop S.p)
    | fail) <;> (try simp only [WKb, WKh, ↓reduceIte, Nat.reduceEqDiff, Nat.reduceAdd, Nat.reduceSub, Int.reduceEq, Int.reduceLT, Int.reduceLE, BinK_chan1, pl13]))))
    all_goals
      refine Tr.fin hK ⟨(by first | (simp [*]; done) | (simp only [WKe, ↓reduceIte, reduceCtorEq, Int.reduceEq, eq_self, *]; done) | (simp only [WKe, ↓reduceIte, reduceCtorEq, Int.reduceEq, *]; rfl)), rfl⟩ ?_
      ((try clear hK) <;> (try simp only [WKe, *]) <;> repeat (first | with_reducible exact EntR.done | refine S.e ?_ | (refine S.f ?_ <;> (try simp only [WKe, ↓reduceIte, reduceCtorEq, Int.reduceEq, *])) | with_reducible apply EntR.ex | refine EntR.drop (F := F) ?_ | refine EntR.drop ?_))

theorem rlen_ok {r c cap : Nat} {xs : List Int} : Trip Try.prog 14 [.pointer (some ⟨r, 0, none⟩)].toArray [rngB r c, chI c cap xs]
    fun v l' => v = .int .i64 xs.length ∧ l' = [rngB r c, chI c cap xs] := by
  intro F K hK
  have hl : ((xs.map iv).length : Int) = xs.length := by rw [List.length_map]
  simp only [List.cons_append, List.nil_append, chI]
  (refine Tr.enter (rs := [.tmp 2]) mixed fn14 rfl (by simp +arith [Try.ntmps14]) fun u => ?_; simp only [cd14, Try.f14])
  ((try simp only [WKb, ↓reduceIte, Nat.reduceEqDiff]) <;> (repeat' ((first
    | (refine G.tr ?_; first | refine S.a ?_ | refine Tr.brK ?_ ?_ | (refine G.call 38 ?_; first | refine S.c ?_ (h := rdead0_ok) | refine S.c ?_ (h := rdead_ok)) | refine S.n fun _ => ?_ | refine S.i fun hix => ?_ | (refine S.g fun hb => ?_; (try simp only [hb])) | (refine S.s (fun hb => ?_) (fun hb => ?_) <;> ((try simp only [hb]) <;> (try (have hp := hb; simp only [WKs] at hp; (try have hq := Int.not_le.2 hp); (try have hq := Int.not_lt.2 hp))))))
    | rintro _ _ ⟨rfl, rfl⟩
    | (refine G.len ?_; refine Tr.imp (Imp.of_perm (List.Perm.swap _ _ _)) ?_; refine Tr.lenChan ?_)
    | ((fail_if_success refine G.tr ?_); exact G.prop S.p)
    | fail) <;> (try simp only [WKb, ↓reduceIte, Nat.reduceEqDiff]))))
  all_goals
    refine Tr.fin hK ⟨(by first | (simp [*]; done) | (simp only [WKe, ↓reduceIte, reduceCtorEq, Int.reduceEq, eq_self, *]; done) | (simp only [WKe, ↓reduceIte, reduceCtorEq, Int.reduceEq, *]; rfl)), rfl⟩ ?_
    ((try clear hK) <;> (try simp only [WKe, *]) <;> repeat (first | with_reducible exact EntR.done | refine S.e ?_ | (refine S.f ?_ <;> (try simp only [WKe, ↓reduceIte, reduceCtorEq, Int.reduceEq, *])) | with_reducible apply EntR.ex | refine EntR.drop (F := F) ?_ | refine EntR.drop ?_))

theorem rsizeI_ok {r c cap : Nat} {xs : List Int} : Trip Try.prog 16 [.pointer (some ⟨r, 0, none⟩)].toArray [rngB r c, chI c cap xs]
    fun v l' => v = .int .i64 cap ∧ l' = [rngB r c, chI c cap xs] := by
  intro F K hK
  simp only [List.cons_append, List.nil_append, chI]
  (refine Tr.enter (rs := [.tmp 2]) mixed fn16 rfl (by simp +arith [Try.ntmps16]) fun u => ?_; simp only [cd16, Try.f16])
  ((try simp only [WKb, ↓reduceIte, Nat.reduceEqDiff]) <;> (repeat' ((first
    | (refine G.tr ?_; first | refine S.a ?_ | refine Tr.brK ?_ ?_ | (refine G.call 38 ?_; first | refine S.c ?_ (h := rdead0_ok) | refine S.c ?_ (h := rdead_ok)) | refine S.n fun _ => ?_ | refine S.i fun hix => ?_ | (refine S.g fun hb => ?_; (try simp only [hb])) | (refine S.s (fun hb => ?_) (fun hb => ?_) <;> ((try simp only [hb]) <;> (try (have hp := hb; simp only [WKs] at hp; (try have hq := Int.not_le.2 hp); (try have hq := Int.not_lt.2 hp))))))
    | rintro _ _ ⟨rfl, rfl⟩
    | (refine Tr.imp (Imp.of_perm (List.Perm.swap _ _ _)) ?_; refine Tr.capChan ?_)
    | ((fail_if_success refine G.tr ?_); exact G.prop S.p)
    | fail) <;> (try simp only [WKb, ↓reduceIte, Nat.reduceEqDiff]))))
  all_goals
    refine Tr.fin hK ⟨(by first | (simp [*]; done) | (simp only [WKe, ↓reduceIte, reduceCtorEq, Int.reduceEq, eq_self, *]; done) | (simp only [WKe, ↓reduceIte, reduceCtorEq, Int.reduceEq, *]; rfl)), rfl⟩ ?_
    ((try clear hK) <;> (try simp only [WKe, *]) <;> repeat (first | with_reducible exact EntR.done | refine S.e ?_ | (refine S.f ?_ <;> (try simp only [WKe, ↓reduceIte, reduceCtorEq, Int.reduceEq, *])) | with_reducible apply EntR.ex | refine EntR.drop (F := F) ?_ | refine EntR.drop ?_))

def ringN (n : Int) : Nat := (max 0 (min n 4096)).toNat
theorem ringN_le (n : Int) : ringN n ≤ 4096 := by unfold ringN; omega
theorem rnewI_ok {n : Int} : Trip Try.prog 11 [.int .i64 n].toArray []
    fun v l' => ∃ r c, v = .pointer (some ⟨r, 0, none⟩) ∧ l' = [chI c (ringN n) ([] : List Int), rngB r c] := by
  intro F K hK
  simp only [List.nil_append]
  have hn : (if 0 < if 4096 < n then 4096 else n then if 4096 < n then 4096 else n else 0) = ((ringN n : Nat) : Int) := by unfold ringN; (repeat' split) <;> omega
  have h4 := ringN_le n
  (refine Tr.enter (rs := [.tmp 2]) mixed fn11 rfl (by simp +arith [Try.ntmps11]) fun u => ?_; simp only [cd11, Try.f11])
  ((try simp only [WKb, WKh, ↓reduceIte, Nat.reduceEqDiff, hn]) <;> (repeat' ((first
    | (refine G.tr ?_; first | refine S.a ?_ | refine Tr.brK ?_ ?_ | refine S.n fun _ => ?_ | refine S.i fun hix => ?_ | (refine S.g fun hb => ?_; (try simp only [hb])) | (refine S.s (fun hb => ?_) (fun hb => ?_) <;> ((try simp only [hb]) <;> (try (have hp := hb; simp only [WKs] at hp; (try have hq := Int.not_le.2 hp); (try have hq := Int.not_lt.2 hp))))))
    | refine Tr.makeChan (by omega) fun _ => ?_
    | ((fail_if_success refine G.tr ?_); exact G.prop S.p)
    | fail) <;> (try simp only [WKb, WKh, ↓reduceIte]))))
  all_goals
    apply Tr.fin hK ⟨_, _, rfl, rfl⟩
    ((try clear hK) <;> (try simp only [WKe, *]) <;> repeat (first | with_reducible exact EntR.done | refine S.e ?_ | (refine S.f ?_ <;> (try simp only [WKe, ↓reduceIte, reduceCtorEq, Int.reduceEq, *])) | with_reducible apply EntR.ex | refine EntR.drop (F := F) ?_ | refine EntR.drop ?_))

end Go.Proofs.Ytlhmbcmkpafjoaa
