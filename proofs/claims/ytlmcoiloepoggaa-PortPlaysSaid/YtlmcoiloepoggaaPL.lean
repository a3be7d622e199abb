import Derived.Test.YtlmcoiloepoggaaPK
namespace Go.Proofs.Ytlmcoiloepoggaa
open Go Go.Wk
set_option maxHeartbeats 64000000
set_option maxRecDepth 10000
def newA (cs : List PortC) : List AP := (cs.take 8).map fun c => ⟨c, [], false, 0⟩
theorem newA_c {cs : List PortC} : (newA cs).map AP.c = cs.take 8 := by simp [newA, Function.comp_def]
theorem newA_f {cs : List PortC} : (newA cs).map AP.fresh = List.replicate (min 8 cs.length) false := by simp [newA, Function.comp_def, List.map_const']
theorem newA_l {cs : List PortC} : (newA cs).map AP.lost = List.replicate (min 8 cs.length) 0 := by simp [newA, Function.comp_def, List.map_const']
theorem newA_m {cs : List PortC} : (List.replicate (min 8 cs.length) (default : SL Msg)).map mo = (newA cs).map AP.ms := by simp [newA, Function.comp_def, List.map_const']; exact .inr rfl
theorem newA_len {cs : List PortC} : (newA cs).length = min 8 cs.length := by simp [newA]
attribute [local irreducible] BrK GenK EGenK EUnitK CallK FnK CallV GuardO GuardC CondW opX opK opKc chkR eqR seqK blkK endL WL WD W LoopW BinK Tr drewK resL PickK NotK NilK ExtrK getK Instr.storeAt Instr.loadAt Instr.fieldAt Instr.indexAt Instr.lookup Instr.mapUpdate Instr.box Instr.alloc Instr.build Instr.buildSlice Instr.makeSlice Instr.makeMap Instr.sliceAt Instr.field Instr.index Instr.makeInterface Instr.typeAssert Builtin.len_ Builtin.append_ Builtin.cap_ Builtin.min_ Builtin.max_ Builtin.copy_ Builtin.clear_ convert binOp mp blk rob sl sep ex fact old
theorem rnew_ok {s : SV} {cs : List PortC} : Trip Try.prog 53 [s.v].toArray [sl true s.v cs]
    fun v l' => ∃ r a b c d xs, xs.map mo = (newA cs).map AP.ms ∧ v = .pointer (some ⟨r, 0, none⟩) ∧ l' = [rB r a b c d, sl true a.v ((newA cs).map AP.c), sl false b.v xs, fzl xs, sl false c.v ((newA cs).map AP.fresh), sl false d.v ((newA cs).map AP.lost)] := by
  intro F K hK
  simp only [List.cons_append, List.nil_append]
  have hd0 : (default : Int) = 0 := rfl
  have hd1 : (default : Bool) = false := rfl
  refine Tr.bound (xs := cs) Has.here fun hbx => ?_
  (refine Tr.enter (rs := [.tmp 2]) mixed fn53 rfl (by simp +arith [Try.ntmps53]) fun u => ?_; simp only [cd53, Try.f53])
  by_cases hn : 8 < cs.length
  · have hm : min 8 cs.length = 8 := by omega
    have leaf : ∀ (r : Nat) (a b c d : SV), Tr ([blk r (.cells [a.v, b.v, c.v, d.v].toArray 172 (0, 0)), sl false d.v (List.replicate (Int.toNat 8) (default : Int)), sl false c.v (List.replicate (Int.toNat 8) (default : Bool)), sl false b.v (List.replicate (Int.toNat 8) (default : SL Msg)), sl false a.v (cs.take (Int.toNat 8))] ++ F) (K (.pointer (some ⟨r, 0, none⟩))) := by
      intro r a b c d
      simp only [List.cons_append, List.nil_append]
      refine Tr.freezeAt (α := PortC) (by (repeat (first | exact TakeA.here | apply TakeA.next)); done) ?_
      apply Tr.fin hK ⟨_, _, _, _, _, _, newA_m, rfl, rfl⟩
      ((try clear hK) <;> (try simp only [WKe, newA_c, newA_f, newA_l, *]) <;> repeat (first | with_reducible exact EntR.done | refine S.e ?_ | (refine S.f ?_ <;> (try simp only [WKe, newA_c, newA_f, newA_l, hm, hd0, hd1, ↓reduceIte, reduceCtorEq, Int.reduceEq, *])) | with_reducible apply EntR.ex | refine EntR.drop (F := F) ?_ | refine EntR.drop ?_))
    ((try simp only [WKb, ↓reduceIte, Nat.reduceEqDiff]) <;> (repeat' ((first
    | (refine G.tr ?_; first | refine S.d ?_ | refine S.a ?_ | refine Tr.brK ?_ ?_ | refine S.n fun _ => ?_ | refine S.i fun hix => ?_ | (refine S.g fun hb => ?_; (try simp only [hb])) | (refine S.s (fun hb => ?_) (fun hb => ?_) <;> ((try simp only [hb]) <;> (try (have hp := hb; simp only [WKs] at hp; (try have hq := Int.not_le.2 hp); (try have hq := Int.not_lt.2 hp))))))
    | ((fail_if_success refine G.tr ?_); exact G.prop S.p)
    | fail) <;> (try simp only [WKb, WKh, ↓reduceIte, Nat.reduceEqDiff, Nat.reduceAdd, pl53]))))
    all_goals (apply Tr.ent2 ?hh (leaf _ _ _ _ _); case hh => (repeat (first | with_reducible exact EntR.done | refine S.e ?_ | refine EntR.drop (F := F) ?_ | refine EntR.drop ?_)))
  · have hm : min 8 cs.length = cs.length := by omega
    have ht : cs.take 8 = cs := List.take_of_length_le (by omega)
    have ht2 : cs.take ((cs.length : Int)).toNat = cs := List.take_of_length_le (by simp)
    have leaf : ∀ (r : Nat) (a b c d : SV), Tr ([blk r (.cells [a.v, b.v, c.v, d.v].toArray 172 (0, 0)), sl false d.v (List.replicate (Int.toNat (cs.length : Int)) (default : Int)), sl false c.v (List.replicate (Int.toNat (cs.length : Int)) (default : Bool)), sl false b.v (List.replicate (Int.toNat (cs.length : Int)) (default : SL Msg)), sl false a.v (cs.take (Int.toNat (cs.length : Int)))] ++ F) (K (.pointer (some ⟨r, 0, none⟩))) := by
      intro r a b c d
      simp only [List.cons_append, List.nil_append]
      refine Tr.freezeAt (α := PortC) (by (repeat (first | exact TakeA.here | apply TakeA.next)); done) ?_
      apply Tr.fin hK ⟨_, _, _, _, _, _, newA_m, rfl, rfl⟩
      ((try clear hK) <;> (try simp only [WKe, newA_c, newA_f, newA_l, List.take_length, *]) <;> repeat (first | with_reducible exact EntR.done | refine S.e ?_ | (refine S.f ?_ <;> (try simp only [WKe, newA_c, newA_f, newA_l, hm, hd0, hd1, ht, List.take_length, ↓reduceIte, reduceCtorEq, Int.reduceEq, *])) | with_reducible apply EntR.ex | refine EntR.drop (F := F) ?_ | refine EntR.drop ?_))
    ((try simp only [WKb, ↓reduceIte, Nat.reduceEqDiff]) <;> (repeat' ((first
    | (refine G.tr ?_; first | refine S.d ?_ | refine S.a ?_ | refine Tr.brK ?_ ?_ | refine S.n fun _ => ?_ | refine S.i fun hix => ?_ | (refine S.g fun hb => ?_; (try simp only [hb])) | (refine S.s (fun hb => ?_) (fun hb => ?_) <;> ((try simp only [hb]) <;> (try (have hp := hb; simp only [WKs] at hp; (try have hq := Int.not_le.2 hp); (try have hq := Int.not_lt.2 hp))))))
    | ((fail_if_success refine G.tr ?_); exact G.prop S.p)
    | fail) <;> (try simp only [WKb, WKh, ↓reduceIte, Nat.reduceEqDiff, Nat.reduceAdd, pl53]))))
    all_goals (apply Tr.ent2 ?hh (leaf _ _ _ _ _); case hh => (repeat (first | with_reducible exact EntR.done | refine S.e ?_ | refine EntR.drop (F := F) ?_ | refine EntR.drop ?_)))

end Go.Proofs.Ytlmcoiloepoggaa
