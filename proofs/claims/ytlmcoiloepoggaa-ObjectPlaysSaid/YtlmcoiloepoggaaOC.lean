import Derived.Test.YtlmcoiloepoggaaOB
namespace Go.Proofs.Ytlmcoiloepoggaa
open Go Go.Wk
set_option maxHeartbeats 800000
set_option maxRecDepth 10000
instance : ElT 63 UInt8 := ⟨⟩
instance : ElT 60 Msg := ⟨⟩
attribute [local irreducible] BrK GenK EGenK EUnitK CallK FnK CallV GuardO GuardC CondW opX opK opKc chkR eqR seqK blkK endL WL WD W LoopW BinK Tr drewK resL PickK NotK NilK ExtrK getK Instr.storeAt Instr.loadAt Instr.fieldAt Instr.indexAt Instr.lookup Instr.mapUpdate Instr.box Instr.alloc Instr.build Instr.buildSlice Instr.makeSlice Instr.makeMap Instr.sliceAt Instr.field Instr.index Instr.makeInterface Instr.typeAssert Builtin.len_ Builtin.append_ Builtin.cap_ Builtin.min_ Builtin.max_ Builtin.copy_ Builtin.clear_ convert binOp mp blk rob sl sep ex fact old
theorem clone_ok {s : SV} {xs : List UInt8} (hn : xs.length ≤ 1000000000) : Trip Try.prog 85 [s.v].toArray [sl true s.v xs]
    fun v l' => ∃ s' : SV, v = s'.v ∧ l' = [sl true s'.v xs] := by
  intro F K hK
  simp only [List.cons_append, List.nil_append]
  (refine Tr.enter (rs := [.tmp 2]) mixed fn85 rfl (by simp +arith [Try.ntmps85]) fun u => ?_; simp only [cd85, Try.f85])
  ((try simp only [WKb, WKh, ↓reduceIte, Nat.reduceEqDiff]) <;> (repeat' ((first
    | (refine G.tr ?_; first | refine S.a ?_ | refine Tr.brK ?_ ?_ | refine S.n fun _ => ?_ | refine S.i fun hix => ?_ | (refine S.g fun hb => ?_; (try simp only [hb])) | (refine S.s (fun hb => ?_) (fun hb => ?_) <;> ((try simp only [hb]) <;> (try (have hp := hb; simp only [WKs] at hp; (try have hq := Int.not_le.2 hp); (try have hq := Int.not_lt.2 hp))))))
    | ((fail_if_success refine G.tr ?_); exact G.prop S.p)
    | fail) <;> (try simp only [WKb, ↓reduceIte, Nat.reduceEqDiff]))))
  · refine Tr.slNil (ro := true) (xs := xs) hb fun hx => ?_
    subst hx
    refine Tr.nilSl (α := UInt8) ?_
    refine Tr.freezeAt (by (repeat (first | exact TakeA.here | apply TakeA.next)); done) ?_
    refine Tr.fin hK ⟨⟨none, 0, 0⟩, rfl, rfl⟩ ?_
    ((try clear hK) <;> (try simp only [WKe, *]) <;> repeat (first | with_reducible exact EntR.done | refine S.e ?_ | (refine S.f ?_ <;> (try simp only [WKe, ↓reduceIte, reduceCtorEq, Int.reduceEq, *])) | with_reducible apply EntR.ex | refine EntR.drop (F := F) ?_ | refine EntR.drop ?_))
  · refine Tr.freezeAt (by (repeat (first | exact TakeA.here | apply TakeA.next)); done) ?_
    apply Tr.fin hK ⟨_, rfl, rfl⟩
    ((try clear hK) <;> (try simp only [WKe, *]) <;> repeat (first | with_reducible exact EntR.done | refine S.e ?_ | (refine S.f ?_ <;> (try simp only [WKe, ↓reduceIte, reduceCtorEq, Int.reduceEq, *])) | with_reducible apply EntR.ex | refine EntR.drop (F := F) ?_ | refine EntR.drop ?_))
theorem delete_ok {s : SV} {xs : List Msg} {i j : Int} (h0 : 0 ≤ i) (h1 : i ≤ j) (h2 : j ≤ xs.length) : Trip Try.prog 87 [s.v, .int .i64 i, .int .i64 j].toArray [sl false s.v xs]
    fun v l' => ∃ s' : SV, v = s'.v ∧ l' = [sl false s'.v (xs.take i.toNat ++ xs.drop j.toNat)] := by
  intro F K hK
  simp only [List.cons_append, List.nil_append]
  (refine Tr.enter (rs := [.tmp 6]) mixed fn87 rfl (by simp +arith [Try.ntmps87]) fun u => ?_; simp only [cd87, Try.f87])
  have hl : (xs.take i.toNat ++ xs.drop j.toNat ++ xs.drop (i.toNat + (xs.length - j.toNat))).length = xs.length := by simp; omega
  have hz : (xs.take i.toNat ++ xs.drop j.toNat).length = i.toNat + (xs.length - j.toNat) := by simp; omega
  ((try simp only [WKb, ↓reduceIte, Nat.reduceEqDiff, Nat.reduceAdd]) <;> (repeat' ((first
    | (refine G.tr ?_; first | refine S.a ?_ | refine Tr.brK ?_ ?_ | refine S.n fun _ => ?_ | refine S.i fun hix => ?_ | (refine S.g fun hb => ?_; (try simp only [hb])) | (refine S.s (fun hb => ?_) (fun hb => ?_) <;> ((try simp only [hb]) <;> (try (have hp := hb; simp only [WKs] at hp; (try have hq := Int.not_le.2 hp); (try have hq := Int.not_lt.2 hp))))))
    | (refine G.cut ?_; first | refine A.cc3 rfl (by omega) (by omega) (by omega) (by omega) fun _ => ?_ | refine A.ccCut rfl (by omega) (by omega) (by omega) ?_ | refine A.ccTo rfl (by omega) (by omega) ?_ | refine A.ccFrom rfl (by omega) (by omega) ?_)
    | (refine A.appCut (by omega) (by omega) rfl ?_)
    | (refine G.len ?_; refine A.lenCut ?_)
    | (refine G.clr ?_; refine A.clear (dv := (default : Msg)) rfl (by omega) (by omega) ?_)
    | ((fail_if_success refine G.tr ?_); exact G.prop S.p)
    | fail) <;> (try simp only [WKb, ↓reduceIte, Nat.reduceEqDiff, pl87, Nat.sub_zero]))))
  · refine Tr.fin hK ⟨_, rfl, rfl⟩ ?_
    have hij : i = j := hp
    subst hij
    rw [List.take_append_drop]
    ((try clear hK) <;> (try simp only [WKe, *]) <;> repeat (first | with_reducible exact EntR.done | refine S.e ?_ | (refine S.f ?_ <;> (try simp only [WKe, ↓reduceIte, reduceCtorEq, Int.reduceEq, *])) | with_reducible apply EntR.ex | refine EntR.drop (F := F) ?_ | refine EntR.drop ?_))
  · have he : ∀ (A B R : List Msg) (n : Nat), A.length = n → (((A ++ B).take n) ++ R).take n = A := fun A B R n h => by subst h; simp
    refine Tr.short (m := i.toNat + (xs.length - j.toNat)) (by (repeat (first | exact TakeA.here | apply TakeA.next)); done) (by simp; omega) fun s' hs' => ?_
    rw [Int.toNat_natCast, he _ _ _ _ hz, ← hs']
    refine Tr.fin hK ⟨_, rfl, rfl⟩ ?_
    ((try clear hK) <;> (try simp only [WKe, *]) <;> repeat (first | with_reducible exact EntR.done | refine S.e ?_ | (refine S.f ?_ <;> (try simp only [WKe, ↓reduceIte, reduceCtorEq, Int.reduceEq, *])) | with_reducible apply EntR.ex | refine EntR.drop (F := F) ?_ | refine EntR.drop ?_))

end Go.Proofs.Ytlmcoiloepoggaa
