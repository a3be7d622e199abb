import Derived.Test.YtacmaamllpiloaaGreatZ36
namespace Go.Proofs.YtacmaamllpiloaaGreat
open Go Go.Wk
set_option maxHeartbeats 3200000
set_option maxRecDepth 100000
def gotsM (C : CC) (c : CM) (k : Int) (s : StepC) (b : List UInt8) (code : Int) : CM := if code = 0 then gotM C c k s b else if s.call = 10 then noteM C c k s.call code 0 else waitM C c k s []
def takenM (C : CC) (c : CM) (k : Int) (s : StepC) (code : Int) : CM := if code = 1 then waitM C c k s [] else noteM C c k s.call code 0
attribute [local irreducible] BrK GenK EGenK EUnitK CallK FnK CallV GuardO GuardC CondW opX opK opKc chkR eqR seqK blkK endL WL WD W LoopW BinK Tr drewK resL PickK NotK NilK ExtrK getK Instr.storeAt Instr.loadAt Instr.fieldAt Instr.indexAt Instr.lookup Instr.mapUpdate Instr.box Instr.alloc Instr.build Instr.buildSlice Instr.makeSlice Instr.makeMap Instr.sliceAt Instr.field Instr.index Instr.makeInterface Instr.typeAssert Builtin.len_ Builtin.append_ Builtin.cap_ Builtin.min_ Builtin.max_ Builtin.copy_ Builtin.clear_ convert binOp mp blk rob sl sep ex fact old
attribute [local irreducible] memX portX objX slkO
section
variable {b : Nat} {C : CC} {c : CM} {w : CW} {gs : List TaskG} {k p size code : Int} {s : StepC} {s3 : SV} {bs : List UInt8}
theorem cinto_t (hs : s.ok) (h : intoB c s size = true) :
    Trip Tryz.prog 164 [ptr b, .int .i64 k, .agg (En.enc s).toArray, .int .i64 size].toArray (cellL b C c w gs)
    fun v l' => v = .bool true ∧ l' = cellL b C c w gs := by
  intro F K hK
  simp only [List.cons_append, List.nil_append] at hK ⊢
  have hz := hs.2.1
  unfold intoB at h
  (refine Tr.enter (rs := [.tmp 8]) mixed fn164 rfl (by simp +arith [Tryz.ntmps164]) fun u => ?_; simp only [cd164, Tryz.f164])
  have hX := And.intro @pl164.eq_def h; repeat' (first | refine S.x ?_ | (refine G.call 230 ?_; first | refine S.c ?_ (h := xmay_ok (by assumption)) | fail) | rintro _ _ ⟨rfl, rfl⟩ | intro hb | fail)
  all_goals exact Tr.fin hK ⟨rfl, rfl⟩ S.E
theorem cinto_f (hc : okC C) (hr : Rel C c w gs) (hk : inR C.progs k) (hf : few c 2) (hs : s.ok) (h : intoB c s size = false) :
    Trip Tryz.prog 164 [ptr b, .int .i64 k, .agg (En.enc s).toArray, .int .i64 size].toArray (cellL b C c w gs)
    fun v l' => ∃ w2 gs2, Rel C (badM C c k s) w2 gs2 ∧ v = .bool false ∧ l' = cellL b C (badM C c k s) w2 gs2 := by
  intro F K hK
  simp only [List.cons_append, List.nil_append] at hK ⊢
  have hz := hs.2.1
  unfold intoB at h
  have hcb := cbad_ok (b := b) (s := s) hc hr hk hf
  (refine Tr.enter (rs := [.tmp 8]) mixed fn164 rfl (by simp +arith [Tryz.ntmps164]) fun u => ?_; simp only [cd164, Tryz.f164])
  have hX := And.intro @pl164.eq_def h; repeat' (first | rintro _ _ ⟨rfl, rfl⟩ | rintro _ _ ⟨w3, g3, hr3, rfl, rfl⟩ | (refine G.call 185 ?_; refine S.c ?_ (h := hcb)) | refine S.x ?_ | (refine G.call 230 ?_; first | refine S.c ?_ (h := xmay_ok (by assumption)) | fail) | intro hb | fail)
  all_goals exact Tr.fin hK ⟨w3, g3, hr3, rfl, rfl⟩ S.E
theorem cfrom_t (hs : s.ok) (h : fromB c s size = true) :
    Trip Tryz.prog 167 [ptr b, .int .i64 k, .agg (En.enc s).toArray, .int .i64 size].toArray (cellL b C c w gs)
    fun v l' => ∃ s4 : SV, v = .tuple #[s4.v, .bool true] ∧ l' = sl true s4.v (ldB c.mem s.b s.c) :: cellL b C c w gs := by
  intro F K hK
  simp only [List.cons_append, List.nil_append] at hK ⊢
  have hz := hs.2.1
  unfold fromB at h
  simp only [Bool.and_eq_true, decide_eq_true_eq] at h
  obtain ⟨⟨h1, h2⟩, h3⟩ := h
  (refine Tr.enter (rs := [.tmp 8, .tmp 9]) mixed fn167 rfl (by simp +arith [Tryz.ntmps167]) fun u => ?_; simp only [cd167, Tryz.f167])
  have hX := And.intro @pl167.eq_def h3; repeat' (first | refine S.x ?_ | (refine G.call 231 ?_; first | refine S.c ?_ (h := xload_ok (by assumption)) | fail) | rintro _ _ ⟨_, rfl, rfl⟩ | intro hb | fail)
  all_goals
    rename_i s4
    exact Tr.fin hK ⟨s4, rfl, rfl⟩ S.E
theorem cfrom_f (hc : okC C) (hr : Rel C c w gs) (hk : inR C.progs k) (hf : few c 2) (hs : s.ok) (h : fromB c s size = false) :
    Trip Tryz.prog 167 [ptr b, .int .i64 k, .agg (En.enc s).toArray, .int .i64 size].toArray (cellL b C c w gs)
    fun v l' => ∃ (s4 : SV) (w2 : CW) (gs2 : List TaskG), Rel C (fromM C c k s size) w2 gs2 ∧ v = .tuple #[s4.v, .bool false] ∧ l' = cellL b C (fromM C c k s size) w2 gs2 := by
  intro F K hK
  simp only [List.cons_append, List.nil_append] at hK ⊢
  have hz := hs.2.1
  have hf1 : few c 1 := by unfold few at *; omega
  unfold few at hf1
  by_cases h1 : 1 ≤ s.c ∧ s.c ≤ size
  · have h3 : ldO c.mem s.b s.c = false := by
      unfold fromB at h
      rw [decide_eq_true h1.1, decide_eq_true h1.2] at h
      exact h
    obtain ⟨h4, h5⟩ := h1
    have hfm : fromM C c k s size = badM C c k s := by unfold fromM; rw [if_pos ⟨h4, h5⟩]
    rw [hfm] at hK
    have hcb := cbad_ok (b := b) (s := s) hc hr hk hf
    (refine Tr.enter (rs := [.tmp 8, .tmp 9]) mixed fn167 rfl (by simp +arith [Tryz.ntmps167]) fun u => ?_; simp only [cd167, Tryz.f167])
    have hX := And.intro @pl167.eq_def h3; repeat' (first | rintro _ _ ⟨_, rfl, rfl⟩ | rintro _ _ ⟨w3, g3, hr3, rfl, rfl⟩ | (refine G.call 185 ?_; refine S.c ?_ (h := hcb)) | refine S.x ?_ | (refine G.call 231 ?_; first | refine S.c ?_ (h := xload_ok (by assumption)) | fail) | intro hb | fail)
    all_goals exact Tr.fin hK ⟨_, w3, g3, hr3, rfl, rfl⟩ S.E
  · have hfm : fromM C c k s size = noteM C c k s.call 2 0 := by unfold fromM; rw [if_neg h1]
    rw [hfm] at hK
    have hrn := fun s' => rel_note (k := k) (call := s.call) (code := 2) (value := 0) (s := s') hr
    (refine Tr.enter (rs := [.tmp 8, .tmp 9]) mixed fn167 rfl (by simp +arith [Tryz.ntmps167]) fun u => ?_; simp only [cd167, Tryz.f167])
    by_cases h4 : s.c < 1
    · have hX := @pl167.eq_def; repeat' (first | refine S.x ?_ | (refine G.call 159 ?_; refine S.c ?_ (h := ctell_ok ?_)) | rintro _ _ ⟨_, rfl, rfl⟩ | (refine G.prop ?_; assumption) | intro hb | fail)
      all_goals
        rename_i sv
        refine Tr.fin hK ⟨⟨none, 0, 0⟩, { w with ev := sv }, gs, hrn sv, rfl, rfl⟩ ?_
        have hX := @noteM.eq_def
        simp only [List.cons_append, List.nil_append]
        exact S.E
    · have h5 : size < s.c := by omega
      have hX := @pl167.eq_def; repeat' (first | refine S.x ?_ | (refine G.call 159 ?_; refine S.c ?_ (h := ctell_ok ?_)) | rintro _ _ ⟨_, rfl, rfl⟩ | (refine G.prop ?_; assumption) | intro hb | fail)
      all_goals
        rename_i sv
        refine Tr.fin hK ⟨⟨none, 0, 0⟩, { w with ev := sv }, gs, hrn sv, rfl, rfl⟩ ?_
        have hX := @noteM.eq_def
        simp only [List.cons_append, List.nil_append]
        exact S.E
theorem cgot_ok (hr : Rel C c w gs) (hk : inR C.progs k) (hf : few c 1) (hs : s.ok) :
    Trip Tryz.prog 166 [ptr b, .int .i64 k, .agg (En.enc s).toArray, s3.v, .int .i64 code].toArray (sl true s3.v bs :: cellL b C c w gs)
    fun v l' => ∃ w2 gs2, Rel C (gotsM C c k s bs code) w2 gs2 ∧ v = .bool (decide (code = 0)) ∧ l' = cellL b C (gotsM C c k s bs code) w2 gs2 := by
  intro F K hK
  simp only [List.cons_append, List.nil_append] at hK ⊢
  have hz := hs.2.1
  have hf1 := hf
  unfold few at hf1
  by_cases h0 : code = 0
  · have hgm : gotsM C c k s bs code = gotM C c k s bs := by unfold gotsM; rw [if_pos h0]
    rw [hgm] at hK
    have hrn := fun s' => rel_note (k := k) (call := s.call) (code := 0) (value := (bs.length : Int)) (s := s') (rel_mem (ms := stB c.mem s.b bs) hr)
    (refine Tr.enter (rs := [.tmp 10]) mixed fn166 rfl (by simp +arith [Tryz.ntmps166]) fun u => ?_; simp only [cd166, Tryz.f166])
    have hX := @pl166.eq_def; repeat' (first | refine S.x ?_ | (refine G.call 152 ?_; first | refine S.c ?_ (h := xstore_ok (by assumption))) | (refine G.call 90 ?_; refine S.c ?_ (h := cnote_ok ?_)) | rintro _ _ ⟨rfl, rfl⟩ | rintro _ _ ⟨_, rfl, rfl⟩ | (refine G.prop ?_; assumption) | intro hb | fail)
    all_goals
      rename_i sv
      refine Tr.fin hK ⟨{ w with ev := sv }, gs, hrn sv, by rw [h0]; rfl, rfl⟩ ?_
      have hX := And.intro @gotM.eq_def @noteM.eq_def
      simp only [List.cons_append, List.nil_append]
      exact S.E
  · by_cases h1 : s.call = 10
    · have hgm : gotsM C c k s bs code = noteM C c k s.call code 0 := by unfold gotsM; rw [if_neg h0, if_pos h1]
      rw [hgm] at hK
      have hrn := fun s' => rel_note (k := k) (call := s.call) (code := code) (value := 0) (s := s') hr
      have hd0 : decide (code = 0) = false := decide_eq_false h0
      (refine Tr.enter (rs := [.tmp 10]) mixed fn166 rfl (by simp +arith [Tryz.ntmps166]) fun u => ?_; simp only [cd166, Tryz.f166])
      have hX := @pl166.eq_def; repeat' (first | refine S.x ?_ | (refine G.call 159 ?_; refine S.c ?_ (h := ctell_ok ?_)) | rintro _ _ ⟨_, rfl, rfl⟩ | (refine G.prop ?_; assumption) | intro hb | fail)
      all_goals
        rename_i sv
        refine Tr.fin hK ⟨{ w with ev := sv }, gs, hrn sv, by rw [hd0], rfl⟩ ?_
        have hX := @noteM.eq_def
        simp only [List.cons_append, List.nil_append]
        exact S.E
    · have hgm : gotsM C c k s bs code = waitM C c k s [] := by unfold gotsM; rw [if_neg h0, if_neg h1]
      rw [hgm] at hK
      have hd0 : decide (code = 0) = false := decide_eq_false h0
      have hcw := cwait_ok (b := b) (s3 := ⟨none, 0, 0⟩) (bs := []) hr hk hf hs (Nat.zero_le _)
      (refine Tr.enter (rs := [.tmp 10]) mixed fn166 rfl (by simp +arith [Tryz.ntmps166]) fun u => ?_; simp only [cd166, Tryz.f166])
      have hX := @pl166.eq_def; repeat' (first | rintro _ _ ⟨w3, g3, hr3, rfl, rfl⟩ | (refine G.call 169 ?_; refine S.c ?_ (h := hcw)) | refine S.x ?_ | intro hb | fail)
      all_goals exact Tr.fin hK ⟨w3, g3, hr3, by rw [hd0], rfl⟩ S.E
theorem ctaken_ok (hr : Rel C c w gs) (hk : inR C.progs k) (hf : few c 1) (hs : s.ok) :
    Trip Tryz.prog 171 [ptr b, .int .i64 k, .agg (En.enc s).toArray, .int .i64 code].toArray (cellL b C c w gs)
    fun v l' => ∃ w2 gs2, Rel C (takenM C c k s code) w2 gs2 ∧ v = .tuple #[] ∧ l' = cellL b C (takenM C c k s code) w2 gs2 := by
  intro F K hK
  simp only [List.cons_append, List.nil_append] at hK ⊢
  have hf1 := hf
  unfold few at hf1
  by_cases h1 : code = 1
  · have hgm : takenM C c k s code = waitM C c k s [] := by unfold takenM; rw [if_pos h1]
    rw [hgm] at hK
    have hcw := cwait_ok (b := b) (s3 := ⟨none, 0, 0⟩) (bs := []) hr hk hf hs (Nat.zero_le _)
    (refine Tr.enter (rs := []) mixed fn171 rfl (by simp +arith [Tryz.ntmps171]) fun u => ?_; simp only [cd171, Tryz.f171])
    have hX := @pl171.eq_def; repeat' (first | rintro _ _ ⟨w3, g3, hr3, rfl, rfl⟩ | (refine G.call 169 ?_; refine S.c ?_ (h := hcw)) | refine S.x ?_ | intro hb | fail)
    all_goals exact Tr.fin hK ⟨w3, g3, hr3, rfl, rfl⟩ S.E
  · have hgm : takenM C c k s code = noteM C c k s.call code 0 := by unfold takenM; rw [if_neg h1]
    rw [hgm] at hK
    have hrn := fun s' => rel_note (k := k) (call := s.call) (code := code) (value := 0) (s := s') hr
    (refine Tr.enter (rs := []) mixed fn171 rfl (by simp +arith [Tryz.ntmps171]) fun u => ?_; simp only [cd171, Tryz.f171])
    have hX := @pl171.eq_def; repeat' (first | refine S.x ?_ | (refine G.call 159 ?_; refine S.c ?_ (h := ctell_ok ?_)) | rintro _ _ ⟨_, rfl, rfl⟩ | (refine G.prop ?_; assumption) | intro hb | fail)
    all_goals
      rename_i sv
      refine Tr.fin hK ⟨{ w with ev := sv }, gs, hrn sv, rfl, rfl⟩ ?_
      have hX := @noteM.eq_def
      simp only [List.cons_append, List.nil_append]
      exact S.E
end
end Go.Proofs.YtacmaamllpiloaaGreat
