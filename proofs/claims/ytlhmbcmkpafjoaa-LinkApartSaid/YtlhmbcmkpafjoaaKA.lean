import Derived.Test.YtlhmbcmkpafjoaaCF
import Derived.Test.YtlhmbcmkpafjoaaTb2
import Derived.Test.YtlhmbcmkpafjoaaWkQ
import Derived.KernelRfl
namespace Go.Proofs.Ytlhmbcmkpafjoaa
open Go Go.Wk
set_option maxHeartbeats 6400000
set_option maxRecDepth 100000
instance : ChT Try.prog 147 := chB_spec (by kernel_rfl)
instance : Zer Try.prog 74 (.agg #[.int .i64 0, .int .i64 0, .slice none 0 0]) := ⟨by kernel_rfl⟩
/-- A message's words. -/
structure MsgW where
  ch : Int
  win : Int
  s : SV
instance : Inhabited MsgW := ⟨⟨0, 0, ⟨none, 0, 0⟩⟩⟩
instance : En MsgW := ⟨fun d => [.int .i64 d.ch, .int .i64 d.win, d.s.v], 3, fun _ => rfl, fun _ => rfl, by decide⟩
def mv (m : MsgW) : Value := .agg [.int .i64 m.ch, .int .i64 m.win, m.s.v].toArray
abbrev rngM (r c : Nat) : Asrt := blk r (.cells [.chan (some c)].toArray 149 (0, 0))
def chM (c cap : Nat) (ws : List MsgW) : Asrt := chn c cap (ws.map mv)

attribute [local irreducible] BrK GenK EGenK EUnitK CallK FnK CallV GuardO GuardC CondW opX opK opKc chkR eqR seqK blkK endL WL WD W LoopW BinK Tr drewK resL PickK NotK NilK ExtrK getK Instr.storeAt Instr.loadAt Instr.fieldAt Instr.indexAt Instr.lookup Instr.mapUpdate Instr.box Instr.alloc Instr.build Instr.buildSlice Instr.makeSlice Instr.makeMap Instr.sliceAt Instr.field Instr.index Instr.makeInterface Instr.typeAssert Builtin.len_ Builtin.append_ Builtin.cap_ Builtin.min_ Builtin.max_ Builtin.copy_ Builtin.clear_ convert binOp mp blk rob sl sep ex fact old
attribute [local irreducible] chn CW
theorem mdead_ok {r c : Nat} : Trip Try.prog 74 [.pointer (some ⟨r, 0, none⟩)].toArray [rngM r c] fun v l' => v = .bool false ∧ l' = [rngM r c] := by
  intro F K hK
  simp only [List.cons_append, List.nil_append]
  (refine Tr.enter (rs := [.tmp 2]) mixed fn74 rfl (by simp +arith [Try.ntmps74]) fun u => ?_; simp only [cd74, Try.f74])
  ((try simp only [WKb, ↓reduceIte, Nat.reduceEqDiff]) <;> (repeat' ((first
    | (refine G.tr ?_; first | refine S.a ?_ | refine Tr.brK ?_ ?_ | refine S.n fun _ => ?_ | refine S.i fun hix => ?_ | (refine S.g fun hb => ?_; (try simp only [hb])) | (refine S.s (fun hb => ?_) (fun hb => ?_) <;> ((try simp only [hb]) <;> (try (have hp := hb; simp only [WKs] at hp; (try have hq := Int.not_le.2 hp); (try have hq := Int.not_lt.2 hp))))))
    | ((fail_if_success refine G.tr ?_); exact G.prop S.p)
    | fail) <;> (try simp only [WKb, ↓reduceIte, Nat.reduceEqDiff, BinK_chan1]))))
  all_goals
    refine Tr.fin hK ⟨rfl, rfl⟩ ?_
    ((try clear hK) <;> (try simp only [WKe, *]) <;> repeat (first | with_reducible exact EntR.done | refine S.e ?_ | (refine S.f ?_ <;> (try simp only [WKe, ↓reduceIte, reduceCtorEq, Int.reduceEq, *])) | with_reducible apply EntR.ex | refine EntR.drop (F := F) ?_ | refine EntR.drop ?_))

theorem mput_ok {r c cap : Nat} {ws : List MsgW} {ch wn : Int} {s : SV} : Trip Try.prog 56 [.pointer (some ⟨r, 0, none⟩), .agg [.int .i64 ch, .int .i64 wn, s.v].toArray].toArray [rngM r c, chM c cap ws]
    fun v l' => v = .bool (decide (ws.length < cap)) ∧ l' = [rngM r c, chM c cap (if ws.length < cap then ws ++ [⟨ch, wn, s⟩] else ws)] := by
  intro F K hK
  simp only [List.cons_append, List.nil_append, chM]
  have hl : (ws.map mv).length = ws.length := List.length_map _
  have hap : ws.map mv ++ [.agg [.int .i64 ch, .int .i64 wn, s.v].toArray] = (ws ++ [(⟨ch, wn, s⟩ : MsgW)]).map mv := by simp [mv]
  (refine Tr.enterC (rs := [.tmp 4]) (c := cd56) Try.func56 rfl rfl (by simp +arith [Try.ntmps56]) fun u => ?_; simp only [cd56, Try.f56])
  (iterate 3 (refine Tr.cwSeq ?_; refine Tr.cwW pl56 mixed (by kernel_rfl) (by kernel_rfl) ?_; ((try simp only [WKb, ↓reduceIte, Nat.reduceEqDiff, Nat.reduceAdd]) <;> (repeat' ((first
    | (refine G.tr ?_; first | refine S.a ?_ | refine Tr.brK ?_ ?_ | (refine G.call 74 ?_; refine S.c ?_ (h := mdead_ok)) | refine S.n fun _ => ?_ | refine S.i fun hix => ?_ | (refine S.g fun hb => ?_; (try simp only [hb])) | (refine S.s (fun hb => ?_) (fun hb => ?_) <;> ((try simp only [hb]) <;> (try (have hp := hb; simp only [WKs] at hp; (try have hq := Int.not_le.2 hp); (try have hq := Int.not_lt.2 hp))))))
    | rintro _ _ ⟨rfl, rfl⟩
    | ((fail_if_success refine G.tr ?_); exact G.prop S.p)
    | fail) <;> (try simp only [WKb, ↓reduceIte, Nat.reduceEqDiff]))))))
  refine Tr.cwSeq ?_
  refine Tr.bringC c ?_
  refine Tr.selSend (by rfl) (by rfl) (by decide) (by decide) (by decide) (fun hr => ?_) (fun hr => ?_)
  · simp only [seqK_n]
    (refine Tr.cwW pl56 mixed (by kernel_rfl) (by kernel_rfl) ?_)
    rw [hl] at hr
    ((try simp only [WKb, ↓reduceIte]) <;> (repeat' ((first
    | (refine G.tr ?_; first | refine S.a ?_ | refine Tr.brK ?_ ?_ | (refine G.call 74 ?_; refine S.c ?_ (h := mdead_ok)) | refine S.n fun _ => ?_ | refine S.i fun hix => ?_ | (refine S.g fun hb => ?_; (try simp only [hb])) | (refine S.s (fun hb => ?_) (fun hb => ?_) <;> ((try simp only [hb]) <;> (try (have hp := hb; simp only [WKs] at hp; (try have hq := Int.not_le.2 hp); (try have hq := Int.not_lt.2 hp))))))
    | rintro _ _ ⟨rfl, rfl⟩
    | ((fail_if_success refine G.tr ?_); exact G.prop S.p)
    | fail) <;> (try simp only [WKb, WKh, ↓reduceIte, Nat.reduceEqDiff, Nat.reduceAdd, Nat.reduceSub, Int.reduceEq, Int.reduceLT, Int.reduceLE, BinK_chan1, pl56]))))
    all_goals
      refine Tr.fin hK ⟨(by first | (simp [*]; done) | (simp only [WKe, ↓reduceIte, reduceCtorEq, Int.reduceEq, eq_self, *]; done) | (simp only [WKe, ↓reduceIte, reduceCtorEq, Int.reduceEq, *]; rfl)), rfl⟩ ?_
      ((try clear hK) <;> (try simp only [WKe, ↓reduceIte, *]) <;> repeat (first | with_reducible exact EntR.done | refine S.e ?_ | (refine S.f ?_ <;> (try simp only [WKe, hr, hap, ↓reduceIte, reduceCtorEq, Int.reduceEq, *])) | with_reducible apply EntR.ex | refine EntR.drop (F := F) ?_ | refine EntR.drop ?_))
  · simp only [seqK_n]
    (refine Tr.cwW pl56 mixed (by kernel_rfl) (by kernel_rfl) ?_)
    rw [hl] at hr
    have hr' : ¬ ws.length < cap := by omega
    ((try simp only [WKb, ↓reduceIte]) <;> (repeat' ((first
    | (refine G.tr ?_; first | refine S.a ?_ | refine Tr.brK ?_ ?_ | (refine G.call 74 ?_; refine S.c ?_ (h := mdead_ok)) | refine S.n fun _ => ?_ | refine S.i fun hix => ?_ | (refine S.g fun hb => ?_; (try simp only [hb])) | (refine S.s (fun hb => ?_) (fun hb => ?_) <;> ((try simp only [hb]) <;> (try (have hp := hb; simp only [WKs] at hp; (try have hq := Int.not_le.2 hp); (try have hq := Int.not_lt.2 hp))))))
    | rintro _ _ ⟨rfl, rfl⟩
    | ((fail_if_success refine G.tr ?_); exact G.prop S.p)
    | fail) <;> (try simp only [WKb, WKh, ↓reduceIte, Nat.reduceEqDiff, Nat.reduceAdd, Nat.reduceSub, Int.reduceEq, Int.reduceLT, Int.reduceLE, BinK_chan1, pl56]))))
    all_goals
      refine Tr.fin hK ⟨(by first | (simp [*]; done) | (simp only [WKe, ↓reduceIte, reduceCtorEq, Int.reduceEq, eq_self, *, hr']; done) | (simp only [WKe, ↓reduceIte, reduceCtorEq, Int.reduceEq, *, hr']; rfl)), rfl⟩ ?_
      ((try clear hK) <;> (try simp only [WKe, ↓reduceIte, *]) <;> repeat (first | with_reducible exact EntR.done | refine S.e ?_ | (refine S.f ?_ <;> (try simp only [WKe, hr', ↓reduceIte, reduceCtorEq, Int.reduceEq, *])) | with_reducible apply EntR.ex | refine EntR.drop (F := F) ?_ | refine EntR.drop ?_))

theorem mtake_ok {r c cap : Nat} {ws : List MsgW} : Trip Try.prog 58 [.pointer (some ⟨r, 0, none⟩)].toArray [rngM r c, chM c cap ws]
    fun v l' => v = .tuple #[mv (ws.headD default), .bool (decide (0 < ws.length))] ∧ l' = [rngM r c, chM c cap ws.tail] := by
  intro F K hK
  simp only [List.cons_append, List.nil_append, chM]
  (refine Tr.enterC (rs := [.cell 2 74, .tmp 3]) (c := cd58) Try.func58 rfl rfl (by simp +arith [Try.ntmps58]) fun u => ?_; simp only [cd58, Try.f58])
  (iterate 4 (refine Tr.cwSeq ?_; refine Tr.cwW pl58 mixed (by kernel_rfl) (by kernel_rfl) ?_; ((try simp only [WKb, ↓reduceIte, Nat.reduceEqDiff]) <;> (repeat' ((first
    | (refine G.tr ?_; first | refine S.a ?_ | refine Tr.brK ?_ ?_ | (refine G.call 74 ?_; refine S.c ?_ (h := mdead_ok)) | refine S.n fun _ => ?_ | refine S.i fun hix => ?_ | (refine S.g fun hb => ?_; (try simp only [hb])) | (refine S.s (fun hb => ?_) (fun hb => ?_) <;> ((try simp only [hb]) <;> (try (have hp := hb; simp only [WKs] at hp; (try have hq := Int.not_le.2 hp); (try have hq := Int.not_lt.2 hp))))))
    | rintro _ _ ⟨rfl, rfl⟩
    | ((fail_if_success refine G.tr ?_); exact G.prop S.p)
    | fail) <;> (try simp only [WKb, ↓reduceIte]))))))
  refine Tr.cwSeq ?_
  refine Tr.bringC c ?_
  refine Tr.selRecv (by rfl) (by decide) (by decide) (by decide) (fun x b2 hr => ?_) (fun hr => ?_)
  · simp only [seqK_n]
    (refine Tr.cwW pl58 mixed (by kernel_rfl) (by kernel_rfl) ?_)
    obtain ⟨⟨a1, a2, a3⟩, ys, rfl, rfl, rfl⟩ : ∃ y ys, ws = y :: ys ∧ x = mv y ∧ b2 = ys.map mv := by
      cases ws with
      | nil => simp at hr
      | cons y ys => simp at hr; exact ⟨y, ys, rfl, hr.1.symm, hr.2.symm⟩
    simp only [mv]
    ((try simp only [WKb, ↓reduceIte, Nat.reduceEqDiff]) <;> (repeat' ((first
    | (refine G.tr ?_; first | refine S.a ?_ | refine Tr.brK ?_ ?_ | (refine G.call 74 ?_; refine S.c ?_ (h := mdead_ok)) | refine S.n fun _ => ?_ | refine S.i fun hix => ?_ | (refine S.g fun hb => ?_; (try simp only [hb])) | (refine S.s (fun hb => ?_) (fun hb => ?_) <;> ((try simp only [hb]) <;> (try (have hp := hb; simp only [WKs] at hp; (try have hq := Int.not_le.2 hp); (try have hq := Int.not_lt.2 hp))))))
    | rintro _ _ ⟨rfl, rfl⟩
    | ((fail_if_success refine G.tr ?_); exact G.prop S.p)
    | fail) <;> (try simp only [WKb, ↓reduceIte, Nat.reduceEqDiff]))))
    all_goals
      refine Tr.fin hK ⟨(by first | (simp [*, mv]; done) | (simp only [WKe, ↓reduceIte, reduceCtorEq, Int.reduceEq, eq_self, *, mv]; done) | (simp only [WKe, ↓reduceIte, reduceCtorEq, Int.reduceEq, *, mv]; rfl)), rfl⟩ ?_
      ((try clear hK) <;> (try simp only [WKe, List.tail_cons, *]) <;> repeat (first | with_reducible exact EntR.done | refine S.e ?_ | (refine S.f ?_ <;> (try simp only [WKe, List.tail_cons, ↓reduceIte, reduceCtorEq, Int.reduceEq, *])) | with_reducible apply EntR.ex | refine EntR.drop (F := F) ?_ | refine EntR.drop ?_))
  · simp only [seqK_n]
    (refine Tr.cwW pl58 mixed (by kernel_rfl) (by kernel_rfl) ?_)
    obtain rfl : ws = [] := by simpa using hr
    have hz : mv default = .agg [.int .i64 0, .int .i64 0, .slice none 0 0].toArray := rfl
    ((try simp only [WKb, ↓reduceIte, Nat.reduceEqDiff]) <;> (repeat' ((first
    | (refine G.tr ?_; first | refine S.a ?_ | refine Tr.brK ?_ ?_ | (refine G.call 74 ?_; refine S.c ?_ (h := mdead_ok)) | refine S.n fun _ => ?_ | refine S.i fun hix => ?_ | (refine S.g fun hb => ?_; (try simp only [hb])) | (refine S.s (fun hb => ?_) (fun hb => ?_) <;> ((try simp only [hb]) <;> (try (have hp := hb; simp only [WKs] at hp; (try have hq := Int.not_le.2 hp); (try have hq := Int.not_lt.2 hp))))))
    | rintro _ _ ⟨rfl, rfl⟩
    | ((fail_if_success refine G.tr ?_); exact G.prop S.p)
    | fail) <;> (try simp only [WKb, ↓reduceIte, Nat.reduceEqDiff]))))
    all_goals
      refine Tr.fin hK ⟨(by first | (simp [*]; done) | (simp only [WKe, ↓reduceIte, reduceCtorEq, Int.reduceEq, eq_self, *, hz]; done) | (simp only [WKe, ↓reduceIte, reduceCtorEq, Int.reduceEq, *, hz]; rfl)), rfl⟩ ?_
      ((try clear hK) <;> (try simp only [WKe, *]) <;> repeat (first | with_reducible exact EntR.done | refine S.e ?_ | (refine S.f ?_ <;> (try simp only [WKe, ↓reduceIte, reduceCtorEq, Int.reduceEq, *])) | with_reducible apply EntR.ex | refine EntR.drop (F := F) ?_ | refine EntR.drop ?_))

theorem mnew_ok {n : Nat} (hn : n ≤ 4096) : Trip Try.prog 54 [.int .i64 n].toArray []
    fun v l' => ∃ r c, v = .pointer (some ⟨r, 0, none⟩) ∧ l' = [rngM r c, chM c n ([] : List MsgW)] := by
  intro F K hK
  simp only [List.nil_append]
  have h1 : (if 0 < if 4096 < (n : Int) then 4096 else (n : Int) then if 4096 < (n : Int) then 4096 else (n : Int) else 0) = ((n : Nat) : Int) := by (repeat' split) <;> omega
  (refine Tr.enter (rs := [.tmp 2]) mixed fn54 rfl (by simp +arith [Try.ntmps54]) fun u => ?_; simp only [cd54, Try.f54])
  ((try simp only [WKb, WKh, ↓reduceIte, Nat.reduceEqDiff, h1]) <;> (repeat' ((first
    | (refine G.tr ?_; first | refine S.a ?_ | refine Tr.brK ?_ ?_ | refine S.n fun _ => ?_ | refine S.i fun hix => ?_ | (refine S.g fun hb => ?_; (try simp only [hb])) | (refine S.s (fun hb => ?_) (fun hb => ?_) <;> ((try simp only [hb]) <;> (try (have hp := hb; simp only [WKs] at hp; (try have hq := Int.not_le.2 hp); (try have hq := Int.not_lt.2 hp))))))
    | refine Tr.makeChan (by omega) fun _ => ?_
    | ((fail_if_success refine G.tr ?_); exact G.prop S.p)
    | fail) <;> (try simp only [WKb, WKh, ↓reduceIte]))))
  all_goals
    apply Tr.fin hK ⟨_, _, rfl, rfl⟩
    ((try clear hK) <;> (try simp only [WKe, *]) <;> repeat (first | with_reducible exact EntR.done | refine S.e ?_ | (refine S.f ?_ <;> (try simp only [WKe, ↓reduceIte, reduceCtorEq, Int.reduceEq, *])) | with_reducible apply EntR.ex | refine EntR.drop (F := F) ?_ | refine EntR.drop ?_))
end Go.Proofs.Ytlhmbcmkpafjoaa
