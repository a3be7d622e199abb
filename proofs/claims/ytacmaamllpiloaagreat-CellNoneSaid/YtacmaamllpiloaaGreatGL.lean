import Derived.Test.YtacmaamllpiloaaGreatZ48
namespace Go.Proofs.YtacmaamllpiloaaGreat
open Go Go.Wk
set_option maxHeartbeats 3200000
set_option maxRecDepth 100000
abbrev zcellB (b : Nat) : Asrt := blk b (.cells [.slice none 0 0, .slice none 0 0, .slice none 0 0, .slice none 0 0, .int .i64 0, .slice none 0 0, .slice none 0 0, .int .i64 0, .int .i64 0, .int .i64 0, .slice none 0 0,
  .int .i64 0, .int .i64 0, .int .i64 0, .slice none 0 0, .pointer none, .pointer none, .pointer none, .pointer none, .pointer none, .pointer none, .slice none 0 0].toArray 40 (0, 0))
instance elt_cells : ElT 41 Pt := ⟨⟩
attribute [local irreducible] BrK GenK EGenK EUnitK CallK FnK CallV GuardO GuardC CondW opX opK opKc chkR eqR seqK blkK endL WL WD W LoopW BinK Tr drewK resL PickK NotK NilK ExtrK getK Instr.storeAt Instr.loadAt Instr.fieldAt Instr.indexAt Instr.lookup Instr.mapUpdate Instr.box Instr.alloc Instr.build Instr.buildSlice Instr.makeSlice Instr.makeMap Instr.sliceAt Instr.field Instr.index Instr.makeInterface Instr.typeAssert Builtin.len_ Builtin.append_ Builtin.cap_ Builtin.min_ Builtin.max_ Builtin.copy_ Builtin.clear_ convert binOp mp blk rob sl sep ex fact old
section
variable {b : Nat} {n : Int}
theorem ndead_ok : Trip Tryz.prog 31 [.pointer none].toArray []
    fun v l' => v = .bool true ∧ l' = [] := by
  intro F K hK
  simp only [List.nil_append] at hK ⊢
  (refine Tr.enter (rs := [.tmp 2]) mixed fn31 rfl (by simp +arith [Tryz.ntmps31]) fun u => ?_; simp only [cd31, Tryz.f31])
  have hX := @pl31.eq_def; repeat' (first | refine S.x ?_ | fail)
  all_goals exact Tr.fin hK ⟨rfl, rfl⟩ S.E
theorem nnext_ok : Trip Tryz.prog 39 [.pointer none].toArray []
    fun v l' => v = .int .i64 (-1) ∧ l' = [] := by
  intro F K hK
  simp only [List.nil_append] at hK ⊢
  (refine Tr.enter (rs := [.tmp 2]) mixed fn39 rfl (by simp +arith [Tryz.ntmps39]) fun u => ?_; simp only [cd39, Tryz.f39])
  have hX := @pl39.eq_def; repeat' (first | rintro _ _ ⟨rfl, rfl⟩ | (refine G.call 31 ?_; refine S.c ?_ (h := ndead_ok)) | refine S.x ?_ | fail)
  all_goals exact Tr.fin hK ⟨rfl, rfl⟩ S.E
theorem nwant_ok : Trip Tryz.prog 9 [.pointer none].toArray []
    fun v l' => v = .int .i64 0 ∧ l' = [] := by
  intro F K hK
  simp only [List.nil_append] at hK ⊢
  (refine Tr.enter (rs := [.tmp 2]) mixed fn9 rfl (by simp +arith [Tryz.ntmps9]) fun u => ?_; simp only [cd9, Tryz.f9])
  have hX := @pl9.eq_def; repeat' (first | rintro _ _ ⟨rfl, rfl⟩ | (refine G.call 39 ?_; refine S.c ?_ (h := nnext_ok)) | refine S.x ?_ | fail)
  all_goals exact Tr.fin hK ⟨rfl, rfl⟩ S.E
theorem nleft_ok : Trip Tryz.prog 10 [.pointer none].toArray []
    fun v l' => v = .int .i64 0 ∧ l' = [] := by
  intro F K hK
  simp only [List.nil_append] at hK ⊢
  (refine Tr.enter (rs := [.tmp 2]) mixed fn10 rfl (by simp +arith [Tryz.ntmps10]) fun u => ?_; simp only [cd10, Tryz.f10])
  have hX := @pl10.eq_def; repeat' (first | rintro _ _ ⟨rfl, rfl⟩ | (refine G.call 39 ?_; refine S.c ?_ (h := nnext_ok)) | refine S.x ?_ | fail)
  all_goals exact Tr.fin hK ⟨rfl, rfl⟩ S.E
theorem nran_ok : Trip Tryz.prog 11 [.pointer none, .int .i64 n].toArray []
    fun v l' => v = .int .i64 0 ∧ l' = [] := by
  intro F K hK
  simp only [List.nil_append] at hK ⊢
  by_cases hn : n < 0
  · (refine Tr.enter (rs := [.tmp 4]) mixed fn11 rfl (by simp +arith [Tryz.ntmps11]) fun u => ?_; simp only [cd11, Tryz.f11])
    have hX := @pl11.eq_def; repeat' (first | rintro _ _ ⟨rfl, rfl⟩ | (refine G.call 9 ?_; refine S.c ?_ (h := nwant_ok)) | refine S.x ?_ | fail)
    all_goals exact Tr.fin hK ⟨rfl, rfl⟩ S.E
  · (refine Tr.enter (rs := [.tmp 4]) mixed fn11 rfl (by simp +arith [Tryz.ntmps11]) fun u => ?_; simp only [cd11, Tryz.f11])
    have hX := @pl11.eq_def; repeat' (first | rintro _ _ ⟨rfl, rfl⟩ | (refine G.call 9 ?_; refine S.c ?_ (h := nwant_ok)) | refine S.x ?_ | fail)
    all_goals exact Tr.fin hK ⟨rfl, rfl⟩ S.E
theorem nevents_ok : Trip Tryz.prog 12 [.pointer none].toArray []
    fun v l' => v = .slice none 0 0 ∧ l' = [] := by
  intro F K hK
  simp only [List.nil_append] at hK ⊢
  (refine Tr.enter (rs := [.tmp 2]) mixed fn12 rfl (by simp +arith [Tryz.ntmps12]) fun u => ?_; simp only [cd12, Tryz.f12])
  have hX := @pl12.eq_def; repeat' (first | rintro _ _ ⟨rfl, rfl⟩ | (refine G.call 31 ?_; refine S.c ?_ (h := ndead_ok)) | refine S.x ?_ | fail)
  all_goals exact Tr.fin hK ⟨rfl, rfl⟩ S.E
theorem nports_ok : Trip Tryz.prog 13 [.pointer none].toArray []
    fun v l' => v = .pointer none ∧ l' = [] := by
  intro F K hK
  simp only [List.nil_append] at hK ⊢
  (refine Tr.enter (rs := [.tmp 2]) mixed fn13 rfl (by simp +arith [Tryz.ntmps13]) fun u => ?_; simp only [cd13, Tryz.f13])
  have hX := @pl13.eq_def; repeat' (first | rintro _ _ ⟨rfl, rfl⟩ | (refine G.call 31 ?_; refine S.c ?_ (h := ndead_ok)) | refine S.x ?_ | fail)
  all_goals exact Tr.fin hK ⟨rfl, rfl⟩ S.E
theorem nmems_ok : Trip Tryz.prog 14 [.pointer none].toArray []
    fun v l' => v = .pointer none ∧ l' = [] := by
  intro F K hK
  simp only [List.nil_append] at hK ⊢
  (refine Tr.enter (rs := [.tmp 2]) mixed fn14 rfl (by simp +arith [Tryz.ntmps14]) fun u => ?_; simp only [cd14, Tryz.f14])
  have hX := @pl14.eq_def; repeat' (first | rintro _ _ ⟨rfl, rfl⟩ | (refine G.call 31 ?_; refine S.c ?_ (h := ndead_ok)) | refine S.x ?_ | fail)
  all_goals exact Tr.fin hK ⟨rfl, rfl⟩ S.E
theorem nwin_ok : Trip Tryz.prog 15 [.pointer none].toArray []
    fun v l' => v = .int .i64 (-1) ∧ l' = [] := by
  intro F K hK
  simp only [List.nil_append] at hK ⊢
  (refine Tr.enter (rs := [.tmp 2]) mixed fn15 rfl (by simp +arith [Tryz.ntmps15]) fun u => ?_; simp only [cd15, Tryz.f15])
  have hX := @pl15.eq_def; repeat' (first | rintro _ _ ⟨rfl, rfl⟩ | (refine G.call 31 ?_; refine S.c ?_ (h := ndead_ok)) | refine S.x ?_ | fail)
  all_goals exact Tr.fin hK ⟨rfl, rfl⟩ S.E
theorem nmode_ok : Trip Tryz.prog 16 [.pointer none].toArray []
    fun v l' => v = .int .i64 0 ∧ l' = [] := by
  intro F K hK
  simp only [List.nil_append] at hK ⊢
  (refine Tr.enter (rs := [.tmp 2]) mixed fn16 rfl (by simp +arith [Tryz.ntmps16]) fun u => ?_; simp only [cd16, Tryz.f16])
  have hX := @pl16.eq_def; repeat' (first | rintro _ _ ⟨rfl, rfl⟩ | (refine G.call 31 ?_; refine S.c ?_ (h := ndead_ok)) | refine S.x ?_ | fail)
  all_goals exact Tr.fin hK ⟨rfl, rfl⟩ S.E
theorem nbegin_ok : Trip Tryz.prog 8 [.pointer none].toArray []
    fun v l' => v = .tuple #[] ∧ l' = [] := by
  intro F K hK
  simp only [List.nil_append] at hK ⊢
  (refine Tr.enter (rs := []) mixed fn8 rfl (by simp +arith [Tryz.ntmps8]) fun u => ?_; simp only [cd8, Tryz.f8])
  have hX := @pl8.eq_def; repeat' (first | rintro _ _ ⟨rfl, rfl⟩ | (refine G.call 31 ?_; refine S.c ?_ (h := ndead_ok)) | refine S.x ?_ | fail)
  all_goals exact Tr.fin hK ⟨rfl, rfl⟩ S.E
theorem zdead_ok : Trip Tryz.prog 31 [ptr b].toArray [zcellB b]
    fun v l' => v = .bool true ∧ l' = [zcellB b] := by
  intro F K hK
  simp only [List.cons_append, List.nil_append] at hK ⊢
  (refine Tr.enter (rs := [.tmp 2]) mixed fn31 rfl (by simp +arith [Tryz.ntmps31]) fun u => ?_; simp only [cd31, Tryz.f31])
  have hX := @pl31.eq_def; repeat' (first | refine S.x ?_ | fail)
  all_goals exact Tr.fin hK ⟨rfl, rfl⟩ S.E
theorem znext_ok : Trip Tryz.prog 39 [ptr b].toArray [zcellB b]
    fun v l' => v = .int .i64 (-1) ∧ l' = [zcellB b] := by
  intro F K hK
  simp only [List.cons_append, List.nil_append] at hK ⊢
  (refine Tr.enter (rs := [.tmp 2]) mixed fn39 rfl (by simp +arith [Tryz.ntmps39]) fun u => ?_; simp only [cd39, Tryz.f39])
  have hX := @pl39.eq_def; repeat' (first | rintro _ _ ⟨rfl, rfl⟩ | (refine G.call 31 ?_; refine S.c ?_ (h := zdead_ok)) | refine S.x ?_ | fail)
  all_goals exact Tr.fin hK ⟨rfl, rfl⟩ S.E
theorem zwant_ok : Trip Tryz.prog 9 [ptr b].toArray [zcellB b]
    fun v l' => v = .int .i64 0 ∧ l' = [zcellB b] := by
  intro F K hK
  simp only [List.cons_append, List.nil_append] at hK ⊢
  (refine Tr.enter (rs := [.tmp 2]) mixed fn9 rfl (by simp +arith [Tryz.ntmps9]) fun u => ?_; simp only [cd9, Tryz.f9])
  have hX := @pl9.eq_def; repeat' (first | rintro _ _ ⟨rfl, rfl⟩ | (refine G.call 39 ?_; refine S.c ?_ (h := znext_ok)) | refine S.x ?_ | fail)
  all_goals exact Tr.fin hK ⟨rfl, rfl⟩ S.E
theorem zleft_ok : Trip Tryz.prog 10 [ptr b].toArray [zcellB b]
    fun v l' => v = .int .i64 0 ∧ l' = [zcellB b] := by
  intro F K hK
  simp only [List.cons_append, List.nil_append] at hK ⊢
  (refine Tr.enter (rs := [.tmp 2]) mixed fn10 rfl (by simp +arith [Tryz.ntmps10]) fun u => ?_; simp only [cd10, Tryz.f10])
  have hX := @pl10.eq_def; repeat' (first | rintro _ _ ⟨rfl, rfl⟩ | (refine G.call 39 ?_; refine S.c ?_ (h := znext_ok)) | refine S.x ?_ | fail)
  all_goals exact Tr.fin hK ⟨rfl, rfl⟩ S.E
theorem zran_ok : Trip Tryz.prog 11 [ptr b, .int .i64 n].toArray [zcellB b]
    fun v l' => v = .int .i64 0 ∧ l' = [zcellB b] := by
  intro F K hK
  simp only [List.cons_append, List.nil_append] at hK ⊢
  by_cases hn : n < 0
  · (refine Tr.enter (rs := [.tmp 4]) mixed fn11 rfl (by simp +arith [Tryz.ntmps11]) fun u => ?_; simp only [cd11, Tryz.f11])
    have hX := @pl11.eq_def; repeat' (first | rintro _ _ ⟨rfl, rfl⟩ | (refine G.call 9 ?_; refine S.c ?_ (h := zwant_ok)) | refine S.x ?_ | fail)
    all_goals exact Tr.fin hK ⟨rfl, rfl⟩ S.E
  · (refine Tr.enter (rs := [.tmp 4]) mixed fn11 rfl (by simp +arith [Tryz.ntmps11]) fun u => ?_; simp only [cd11, Tryz.f11])
    have hX := @pl11.eq_def; repeat' (first | rintro _ _ ⟨rfl, rfl⟩ | (refine G.call 9 ?_; refine S.c ?_ (h := zwant_ok)) | refine S.x ?_ | fail)
    all_goals exact Tr.fin hK ⟨rfl, rfl⟩ S.E
theorem zevents_ok : Trip Tryz.prog 12 [ptr b].toArray [zcellB b]
    fun v l' => v = .slice none 0 0 ∧ l' = [zcellB b] := by
  intro F K hK
  simp only [List.cons_append, List.nil_append] at hK ⊢
  (refine Tr.enter (rs := [.tmp 2]) mixed fn12 rfl (by simp +arith [Tryz.ntmps12]) fun u => ?_; simp only [cd12, Tryz.f12])
  have hX := @pl12.eq_def; repeat' (first | rintro _ _ ⟨rfl, rfl⟩ | (refine G.call 31 ?_; refine S.c ?_ (h := zdead_ok)) | refine S.x ?_ | fail)
  all_goals exact Tr.fin hK ⟨rfl, rfl⟩ S.E
theorem zports_ok : Trip Tryz.prog 13 [ptr b].toArray [zcellB b]
    fun v l' => v = .pointer none ∧ l' = [zcellB b] := by
  intro F K hK
  simp only [List.cons_append, List.nil_append] at hK ⊢
  (refine Tr.enter (rs := [.tmp 2]) mixed fn13 rfl (by simp +arith [Tryz.ntmps13]) fun u => ?_; simp only [cd13, Tryz.f13])
  have hX := @pl13.eq_def; repeat' (first | rintro _ _ ⟨rfl, rfl⟩ | (refine G.call 31 ?_; refine S.c ?_ (h := zdead_ok)) | refine S.x ?_ | fail)
  all_goals exact Tr.fin hK ⟨rfl, rfl⟩ S.E
theorem zmems_ok : Trip Tryz.prog 14 [ptr b].toArray [zcellB b]
    fun v l' => v = .pointer none ∧ l' = [zcellB b] := by
  intro F K hK
  simp only [List.cons_append, List.nil_append] at hK ⊢
  (refine Tr.enter (rs := [.tmp 2]) mixed fn14 rfl (by simp +arith [Tryz.ntmps14]) fun u => ?_; simp only [cd14, Tryz.f14])
  have hX := @pl14.eq_def; repeat' (first | rintro _ _ ⟨rfl, rfl⟩ | (refine G.call 31 ?_; refine S.c ?_ (h := zdead_ok)) | refine S.x ?_ | fail)
  all_goals exact Tr.fin hK ⟨rfl, rfl⟩ S.E
theorem zwin_ok : Trip Tryz.prog 15 [ptr b].toArray [zcellB b]
    fun v l' => v = .int .i64 (-1) ∧ l' = [zcellB b] := by
  intro F K hK
  simp only [List.cons_append, List.nil_append] at hK ⊢
  (refine Tr.enter (rs := [.tmp 2]) mixed fn15 rfl (by simp +arith [Tryz.ntmps15]) fun u => ?_; simp only [cd15, Tryz.f15])
  have hX := @pl15.eq_def; repeat' (first | rintro _ _ ⟨rfl, rfl⟩ | (refine G.call 31 ?_; refine S.c ?_ (h := zdead_ok)) | refine S.x ?_ | fail)
  all_goals exact Tr.fin hK ⟨rfl, rfl⟩ S.E
theorem zmode_ok : Trip Tryz.prog 16 [ptr b].toArray [zcellB b]
    fun v l' => v = .int .i64 0 ∧ l' = [zcellB b] := by
  intro F K hK
  simp only [List.cons_append, List.nil_append] at hK ⊢
  (refine Tr.enter (rs := [.tmp 2]) mixed fn16 rfl (by simp +arith [Tryz.ntmps16]) fun u => ?_; simp only [cd16, Tryz.f16])
  have hX := @pl16.eq_def; repeat' (first | rintro _ _ ⟨rfl, rfl⟩ | (refine G.call 31 ?_; refine S.c ?_ (h := zdead_ok)) | refine S.x ?_ | fail)
  all_goals exact Tr.fin hK ⟨rfl, rfl⟩ S.E
theorem zbegin_ok : Trip Tryz.prog 8 [ptr b].toArray [zcellB b]
    fun v l' => v = .tuple #[] ∧ l' = [zcellB b] := by
  intro F K hK
  simp only [List.cons_append, List.nil_append] at hK ⊢
  (refine Tr.enter (rs := []) mixed fn8 rfl (by simp +arith [Tryz.ntmps8]) fun u => ?_; simp only [cd8, Tryz.f8])
  have hX := @pl8.eq_def; repeat' (first | rintro _ _ ⟨rfl, rfl⟩ | (refine G.call 31 ?_; refine S.c ?_ (h := zdead_ok)) | refine S.x ?_ | fail)
  all_goals exact Tr.fin hK ⟨rfl, rfl⟩ S.E
theorem cnone_ok : Trip Tryz.prog 3 [.int .i64 n].toArray []
    fun v l' => v = .bool true ∧ l' = [] := by
  intro F K hK
  simp only [List.nil_append] at hK ⊢
  (refine Tr.enter (rs := [.tmp 2]) mixed fn3 rfl (by simp +arith [Tryz.ntmps3]) fun u => ?_; simp only [cd3, Tryz.f3])
  have hX := @pl3.eq_def; repeat' (first | intro (zb : Nat) | intro (sv : SV) | refine S.x ?_ | fail)
  refine Tr.loopE (α := Nat) [2, 5] [0, 4] (fun k => [.bool false, .int .i64 k]) (fun _ => [sl false sv.v [Pt.mk none, Pt.mk (some zb)], zcellB zb]) (fun k => k ≤ 2) (fun k => 2 - k) 0 S.T rfl (Nat.zero_le _) fun k u hk => ?_
  simp only [List.cons_append, List.nil_append]
  by_cases h0 : k = 0
  · subst h0
    have hX := @pl3.eq_def; repeat' (first | rintro _ _ ⟨rfl, rfl⟩ | (refine G.call 9 ?_; refine S.c ?_ (h := nwant_ok)) | (refine G.call 10 ?_; refine S.c ?_ (h := nleft_ok)) | (refine G.call 11 ?_; refine S.c ?_ (h := nran_ok)) | (refine G.call 12 ?_; refine S.c ?_ (h := nevents_ok)) | (refine G.call 13 ?_; refine S.c ?_ (h := nports_ok)) | (refine G.call 14 ?_; refine S.c ?_ (h := nmems_ok)) | (refine G.call 15 ?_; refine S.c ?_ (h := nwin_ok)) | (refine G.call 16 ?_; refine S.c ?_ (h := nmode_ok)) | (refine G.call 8 ?_; refine S.c ?_ (h := nbegin_ok)) | refine S.x ?_ | intro hb | fail)
    all_goals exact S.R (1 : Nat)
  · by_cases h1 : k = 1
    · subst h1
      have hX := @pl3.eq_def; repeat' (first | rintro _ _ ⟨rfl, rfl⟩ | (refine G.call 9 ?_; refine S.c ?_ (h := zwant_ok)) | (refine G.call 10 ?_; refine S.c ?_ (h := zleft_ok)) | (refine G.call 11 ?_; refine S.c ?_ (h := zran_ok)) | (refine G.call 12 ?_; refine S.c ?_ (h := zevents_ok)) | (refine G.call 13 ?_; refine S.c ?_ (h := zports_ok)) | (refine G.call 14 ?_; refine S.c ?_ (h := zmems_ok)) | (refine G.call 15 ?_; refine S.c ?_ (h := zwin_ok)) | (refine G.call 16 ?_; refine S.c ?_ (h := zmode_ok)) | (refine G.call 8 ?_; refine S.c ?_ (h := zbegin_ok)) | refine S.x ?_ | intro hb | fail)
      all_goals exact S.R (2 : Nat)
    · have h2 : k = 2 := by omega
      subst h2
      have hX := @pl3.eq_def; repeat' (first | refine S.x ?_ | (refine G.call 17 ?_; refine S.c ?_ (h := works24_ok)) | rintro _ _ ⟨rfl, rfl⟩ | fail)
      all_goals exact Tr.fin hK ⟨rfl, rfl⟩ S.E
end
end Go.Proofs.YtacmaamllpiloaaGreat
