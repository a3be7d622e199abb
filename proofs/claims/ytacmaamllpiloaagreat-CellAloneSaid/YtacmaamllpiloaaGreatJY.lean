import Derived.Test.YtacmaamllpiloaaGreatZ36
namespace Go.Proofs.YtacmaamllpiloaaGreat
open Go Go.Wk
set_option maxHeartbeats 3200000
set_option maxRecDepth 100000
attribute [local irreducible] BrK GenK EGenK EUnitK CallK FnK CallV GuardO GuardC CondW opX opK opKc chkR eqR seqK blkK endL WL WD W LoopW BinK Tr drewK resL PickK NotK NilK ExtrK getK Instr.storeAt Instr.loadAt Instr.fieldAt Instr.indexAt Instr.lookup Instr.mapUpdate Instr.box Instr.alloc Instr.build Instr.buildSlice Instr.makeSlice Instr.makeMap Instr.sliceAt Instr.field Instr.index Instr.makeInterface Instr.typeAssert Builtin.len_ Builtin.append_ Builtin.cap_ Builtin.min_ Builtin.max_ Builtin.copy_ Builtin.clear_ convert binOp mp blk rob sl sep ex fact old
attribute [local irreducible] memX portX objX slkO
section
variable {b : Nat} {C : CC} {c : CM} {w : CW} {gs : List TaskG} {k : Int} {s : StepC}
theorem cpool19 (hc : okC C) (hr : Rel C c w gs) (hk : inR C.progs k) (hf : few c 22) (hs : s.ok) (hz : (ix C.conf.pools.d s.a).size ≤ 300) (h : s.call = 19) :
    Trip Tryz.prog 108 [ptr b, .int .i64 k, .agg (En.enc s).toArray].toArray (cellL b C c w gs)
    fun v l' => ∃ w2 gs2, Rel C (poolCM C c k s) w2 gs2 ∧ v = .tuple #[] ∧ l' = cellL b C (poolCM C c k s) w2 gs2 := by
  intro F K hK
  simp only [List.cons_append, List.nil_append] at hK ⊢
  refine Tr.okX (b := w.obs) (c := C.conf) (o := c.obs) S.K fun hoo => ?_
  have hf1 : few c 1 := by unfold few at *; omega
  have hf2 : few c 2 := by unfold few at *; omega
  have hf3 := hf1
  unfold few at hf3
  have h8 := hc.n8
  have htl : c.tb.d.length ≤ 1000000 := by rw [hr.ok.tb]; omega
  have hca : decide (s.call = 19) = true := by rw [h]; rfl
  by_cases hrg : 0 ≤ s.a ∧ s.a < (C.conf.pools.d.length : Int) ∧ s.a < 4
  · obtain ⟨hir, hiz⟩ := okO_pool hoo hrg
    obtain ⟨r1, r2, r3⟩ := hrg
    have hth : (decide (0 ≤ s.a) && decide (s.a < (if (4 : Int) < (C.conf.pools.d.length : Int) then 4 else (C.conf.pools.d.length : Int)))) = true := by
      rw [Bool.and_eq_true, decide_eq_true_eq, decide_eq_true_eq]
      by_cases h5 : (4 : Int) < (C.conf.pools.d.length : Int)
      · rw [if_pos h5]; omega
      · rw [if_neg h5]; omega
    have hsz : sizeMC c.obs.pools c.obs.slates (-1) s.a = (ix C.conf.pools.d s.a).size := by
      unfold sizeMC
      rw [if_neg (by decide), if_pos hir, hiz]
    obtain ⟨sz, hsz2⟩ : ∃ sz, sz = (ix C.conf.pools.d s.a).size := ⟨_, rfl⟩
    rw [← hsz2] at hsz hz
    have hsm : poolCM C c k s = if intoB c s sz = true then
        (if getMC c.obs.pools s.a = 0 then refillM C (gotM C { c with obs := { c.obs with pools := getMs c.obs.pools s.a } } k s (getMD c.obs.pools s.a)) s.a else waitM C { c with obs := { c.obs with pools := getMs c.obs.pools s.a } } k s [])
       else badM C c k s := by
      unfold poolCM
      rw [if_pos ⟨r1, r2, r3⟩, ← hsz2]
      simp only
      rw [if_pos h]
    rw [hsm] at hK
    clear hsm hsz2
    cases hin : intoB c s sz with
    | true =>
      rw [hin, if_pos rfl] at hK
      obtain ⟨c1, hc1⟩ : ∃ c1 : CM, c1 = { c with obs := { c.obs with pools := getMs c.obs.pools s.a } } := ⟨_, rfl⟩
      have hr1 : Rel C c1 w gs := by rw [hc1]; exact rel_obs hr
      have hf4 : few c1 1 := by rw [hc1]; exact hf1
      have hf5 : few c1 2 := by rw [hc1]; exact hf2
      have hci := cinto_t (b := b) (C := C) (w := w) (gs := gs) (k := k) hs hin
      have hcg := fun s3 => cgot_ok (b := b) (s3 := s3) (bs := getMD c.obs.pools s.a) (code := getMC c.obs.pools s.a) hr1 hk hf4 hs
      rw [← hc1] at hK
      clear hr
      (refine Tr.enter (rs := []) mixed fn108 rfl (by simp +arith [Tryz.ntmps108]) fun u => ?_; simp only [cd108, Tryz.f108])
      have hX := And.intro @pl108.eq_def (And.intro hca (And.intro hth hsz)); repeat' (first | rintro _ _ ⟨rfl, rfl⟩ | rintro _ _ ⟨_, rfl, rfl⟩ | (refine G.call 164 ?_; refine S.c ?_ (h := hci)) | refine S.x ?_ | (refine G.call 175 ?_; first | refine S.c ?_ (h := xosize_ok) | fail) | (refine G.call 176 ?_; refine S.c ?_ (h := cthere_ok)) | (refine G.call 177 ?_; first | refine S.c ?_ (h := xget_ok) | fail) | intro hb | fail)
      rename_i s4
      refine Tr.imp (l' := blk hb (.cells (En.enc s).toArray 86 (0, 0)) :: sl true s4.v (getMD c.obs.pools s.a) :: cellL b C c1 w gs ++ F) ?_ ?_
      · subst hc1
        clear h hca hth hsz
        simp only [List.cons_append, List.nil_append]
        show EntR [] _ _
        exact S.E
      clear hsz hth
      by_cases hcd : getMC c.obs.pools s.a = 0
      · rw [if_pos hcd] at hK
        have hgm : gotsM C c1 k s (getMD c.obs.pools s.a) (getMC c.obs.pools s.a) = gotM C c1 k s (getMD c.obs.pools s.a) := by unfold gotsM; rw [if_pos hcd]
        have hd0 : decide (getMC c.obs.pools s.a = 0) = true := decide_eq_true hcd
        rw [hgm, hd0] at hcg
        obtain ⟨c2, hc2⟩ : ∃ c2, c2 = gotM C c1 k s (getMD c.obs.pools s.a) := ⟨_, rfl⟩
        have hf6 : few c2 1 := by
          unfold few at *
          rw [hc2]; simp only [gotM, noteM, List.length_append, List.length_cons, List.length_nil]; omega
        rw [← hc2] at hcg hK
        have hcr := fun w g (hh : Rel C c2 w g) => crefill_ok (b := b) (p := s.a) hc hh hf6
        clear hc1 hc2 hr1 hgm hd0
        generalize getMC c.obs.pools s.a = cde at *
        simp only [List.cons_append, List.nil_append]
        have hX := @pl108.eq_def; repeat' (first | rintro _ _ ⟨w3, g3, hr3, rfl, rfl⟩ | (refine G.call 166 ?_; refine S.c ?_ (h := hcg s4)) | (refine G.call 178 ?_; refine S.c ?_ (h := hcr _ _ hr3)) | refine S.x ?_ | fail)
        all_goals exact Tr.fin hK ⟨w3, g3, hr3, rfl, rfl⟩ S.E
      · rw [if_neg hcd] at hK
        have hgm : gotsM C c1 k s (getMD c.obs.pools s.a) (getMC c.obs.pools s.a) = waitM C c1 k s [] := by unfold gotsM; rw [if_neg hcd, if_neg (by rw [h]; decide)]
        have hd0 : decide (getMC c.obs.pools s.a = 0) = false := decide_eq_false hcd
        rw [hgm, hd0] at hcg
        clear hc1 hr1 hgm hd0
        generalize getMC c.obs.pools s.a = cde at *
        simp only [List.cons_append, List.nil_append]
        have hX := @pl108.eq_def; repeat' (first | rintro _ _ ⟨w3, g3, hr3, rfl, rfl⟩ | (refine G.call 166 ?_; refine S.c ?_ (h := hcg s4)) | refine S.x ?_ | fail)
        all_goals exact Tr.fin hK ⟨w3, g3, hr3, rfl, rfl⟩ S.E
    | false =>
      rw [hin, if_neg (by decide)] at hK
      have hci := cinto_f (b := b) hc hr hk hf2 hs hin
      (refine Tr.enter (rs := []) mixed fn108 rfl (by simp +arith [Tryz.ntmps108]) fun u => ?_; simp only [cd108, Tryz.f108])
      have hX := And.intro @pl108.eq_def (And.intro hca (And.intro hth hsz)); repeat' (first | rintro _ _ ⟨rfl, rfl⟩ | rintro _ _ ⟨w3, g3, hr3, rfl, rfl⟩ | (refine G.call 164 ?_; refine S.c ?_ (h := hci)) | refine S.x ?_ | (refine G.call 175 ?_; first | refine S.c ?_ (h := xosize_ok) | fail) | (refine G.call 176 ?_; refine S.c ?_ (h := cthere_ok)) | intro hb | fail)
      all_goals exact Tr.fin hK ⟨w3, g3, hr3, rfl, rfl⟩ S.E
  · have hsm : poolCM C c k s = noteM C c k s.call 3 0 := by unfold poolCM; rw [if_neg hrg]
    rw [hsm] at hK
    have hrn := fun s' => rel_note (k := k) (call := s.call) (code := 3) (value := 0) (s := s') hr
    have hth : (decide (0 ≤ s.a) && decide (s.a < (if (4 : Int) < (C.conf.pools.d.length : Int) then 4 else (C.conf.pools.d.length : Int)))) = false := by
      rw [Bool.and_eq_false_iff, decide_eq_false_iff_not, decide_eq_false_iff_not]
      by_cases h5 : (4 : Int) < (C.conf.pools.d.length : Int)
      · rw [if_pos h5]; omega
      · rw [if_neg h5]; omega
    (refine Tr.enter (rs := []) mixed fn108 rfl (by simp +arith [Tryz.ntmps108]) fun u => ?_; simp only [cd108, Tryz.f108])
    have hX := And.intro @pl108.eq_def (And.intro hca hth); repeat' (first | refine S.x ?_ | (refine G.call 175 ?_; first | refine S.c ?_ (h := xosize_ok) | fail) | (refine G.call 176 ?_; refine S.c ?_ (h := cthere_ok)) | (refine G.call 159 ?_; refine S.c ?_ (h := ctell_ok ?_)) | rintro _ _ ⟨rfl, rfl⟩ | rintro _ _ ⟨_, rfl, rfl⟩ | (refine G.prop ?_; assumption) | intro hb | fail)
    all_goals
      rename_i sv
      refine Tr.fin hK ⟨{ w with ev := sv }, gs, hrn sv, rfl, rfl⟩ ?_
      have hX := @noteM.eq_def
      clear h hca hth
      simp only [List.cons_append, List.nil_append]
      exact S.E
theorem cpool18 (hc : okC C) (hr : Rel C c w gs) (hk : inR C.progs k) (hf : few c 22) (hs : s.ok) (hz : (ix C.conf.pools.d s.a).size ≤ 300) (h : s.call = 18) :
    Trip Tryz.prog 108 [ptr b, .int .i64 k, .agg (En.enc s).toArray].toArray (cellL b C c w gs)
    fun v l' => ∃ w2 gs2, Rel C (poolCM C c k s) w2 gs2 ∧ v = .tuple #[] ∧ l' = cellL b C (poolCM C c k s) w2 gs2 := by
  intro F K hK
  simp only [List.cons_append, List.nil_append] at hK ⊢
  refine Tr.okX (b := w.obs) (c := C.conf) (o := c.obs) S.K fun hoo => ?_
  have hf1 : few c 1 := by unfold few at *; omega
  have hf2 : few c 2 := by unfold few at *; omega
  have hf3 := hf1
  unfold few at hf3
  have h8 := hc.n8
  have htl : c.tb.d.length ≤ 1000000 := by rw [hr.ok.tb]; omega
  have hca : decide (s.call = 19) = false := by rw [h]; rfl
  by_cases hrg : 0 ≤ s.a ∧ s.a < (C.conf.pools.d.length : Int) ∧ s.a < 4
  · obtain ⟨hir, hiz⟩ := okO_pool hoo hrg
    obtain ⟨r1, r2, r3⟩ := hrg
    have hth : (decide (0 ≤ s.a) && decide (s.a < (if (4 : Int) < (C.conf.pools.d.length : Int) then 4 else (C.conf.pools.d.length : Int)))) = true := by
      rw [Bool.and_eq_true, decide_eq_true_eq, decide_eq_true_eq]
      by_cases h5 : (4 : Int) < (C.conf.pools.d.length : Int)
      · rw [if_pos h5]; omega
      · rw [if_neg h5]; omega
    have hsz : sizeMC c.obs.pools c.obs.slates (-1) s.a = (ix C.conf.pools.d s.a).size := by
      unfold sizeMC
      rw [if_neg (by decide), if_pos hir, hiz]
    obtain ⟨sz, hsz2⟩ : ∃ sz, sz = (ix C.conf.pools.d s.a).size := ⟨_, rfl⟩
    rw [← hsz2] at hsz hz
    have hsm : poolCM C c k s = if fromB c s sz = true then
        (if 0 ≤ c.tb.best (One.waits 19 s.a) then getsM C (noteM C c k s.call 0 0) (c.tb.best (One.waits 19 s.a)) 19 (ldB c.mem s.b s.c)
         else if putMC c.obs.pools s.a (ldB c.mem s.b s.c).length = 0 then noteM C { c with obs := { c.obs with pools := putM c.obs.pools s.a (ldB c.mem s.b s.c) } } k s.call 0 0 else waitM C { c with obs := { c.obs with pools := putM c.obs.pools s.a (ldB c.mem s.b s.c) } } k s (ldB c.mem s.b s.c))
       else fromM C c k s sz := by
      unfold poolCM firstM
      rw [if_pos ⟨r1, r2, r3⟩, ← hsz2]
      simp only
      rw [if_neg (by rw [h]; decide), h]
    rw [hsm] at hK
    clear hsm hsz2
    cases hfr : fromB c s sz with
    | true =>
      rw [hfr, if_pos rfl] at hK
      have hle : (ldB c.mem s.b s.c).length ≤ 300 := from_len hfr hz
      have hcf := cfrom_t (b := b) (C := C) (w := w) (gs := gs) (k := k) hs hfr
      by_cases h0 : 0 ≤ c.tb.best (One.waits 19 s.a)
      · rw [if_pos h0] at hK
        have hkw := first_prog (call := 19) (p := s.a) hr (Int.not_lt.2 h0)
        obtain ⟨c1, hc1⟩ : ∃ c1 : CM, c1 = noteM C c k s.call 0 0 := ⟨_, rfl⟩
        have hr1 : ∀ s, Rel C c1 { w with ev := s } gs := fun s => by rw [hc1]; exact rel_note hr
        have hf4 : few c1 1 := by unfold few at *; rw [hc1]; simp only [noteM, List.length_append, List.length_cons, List.length_nil]; omega
        have hca2 := fun sv s4 => carrive_ok (b := b) (call := 19) (s3 := s4) (bs := ldB c.mem s.b s.c) (hr1 sv) hkw hf4
        rw [← hc1] at hK
        (refine Tr.enter (rs := []) mixed fn108 rfl (by simp +arith [Tryz.ntmps108]) fun u => ?_; simp only [cd108, Tryz.f108])
        have hX := And.intro @pl108.eq_def (And.intro hca (And.intro hth hsz)); repeat' (first | rintro _ _ ⟨rfl, rfl⟩ | rintro _ _ ⟨_, rfl, rfl⟩ | (refine G.call 167 ?_; refine S.c ?_ (h := hcf)) | refine S.x ?_ | (refine G.call 175 ?_; first | refine S.c ?_ (h := xosize_ok) | fail) | (refine G.call 176 ?_; refine S.c ?_ (h := cthere_ok)) | (refine G.call 159 ?_; refine S.c ?_ (h := ctell_ok ?_)) | (refine G.call 92 ?_; refine S.c ?_ (h := first_ok _ _ _ _ ?_)) | (refine G.prop ?_; assumption) | intro hb | fail)
        rename_i s4 sv
        refine Tr.imp (l' := sl true s4.v (ldB c.mem s.b s.c) :: cellL b C c1 { w with ev := sv } gs ++ F) ?_ ?_
        · subst hc1
          clear h hca hth hsz
          simp only [List.cons_append, List.nil_append]
          have hX := @noteM.eq_def
          show EntR [] _ _
          exact S.E
        clear hc1 hr1 hr hth hsz
        simp only [List.cons_append, List.nil_append]
        have hX := @pl108.eq_def; repeat' (first | rintro _ _ ⟨w3, g3, hr3, rfl, rfl⟩ | (refine G.call 96 ?_; refine S.c ?_ (h := hca2 sv s4)) | refine S.x ?_ | fail)
        all_goals exact Tr.fin hK ⟨w3, g3, hr3, rfl, rfl⟩ S.E
      · rw [if_neg h0] at hK
        obtain ⟨c1, hc1⟩ : ∃ c1 : CM, c1 = { c with obs := { c.obs with pools := putM c.obs.pools s.a (ldB c.mem s.b s.c) } } := ⟨_, rfl⟩
        have hr1 : Rel C c1 w gs := by rw [hc1]; exact rel_obs hr
        have hf4 : few c1 1 := by rw [hc1]; exact hf1
        rw [← hc1] at hK
        (refine Tr.enter (rs := []) mixed fn108 rfl (by simp +arith [Tryz.ntmps108]) fun u => ?_; simp only [cd108, Tryz.f108])
        by_cases hcd : putMC c.obs.pools s.a (ldB c.mem s.b s.c).length = 0
        · rw [if_pos hcd] at hK
          have hrn := fun s' => rel_note (k := k) (call := s.call) (code := 0) (value := 0) (s := s') hr1
          have hX := And.intro @pl108.eq_def (And.intro hca (And.intro hth hsz)); repeat' (first | rintro _ _ ⟨rfl, rfl⟩ | rintro _ _ ⟨_, rfl, rfl⟩ | (refine G.call 167 ?_; refine S.c ?_ (h := hcf)) | refine S.x ?_ | (refine G.call 175 ?_; first | refine S.c ?_ (h := xosize_ok) | fail) | (refine G.call 176 ?_; refine S.c ?_ (h := cthere_ok)) | (refine G.call 159 ?_; refine S.c ?_ (h := ctell_ok ?_)) | (refine G.call 92 ?_; refine S.c ?_ (h := first_ok _ _ _ _ ?_)) | (refine G.call 179 ?_; first | refine S.c ?_ (h := xoput_ok (by assumption)) | fail) | (refine G.prop ?_; assumption) | intro hb | fail)
          all_goals
            rename_i s4 sv
            refine Tr.fin hK ⟨{ w with ev := sv }, gs, hrn sv, rfl, rfl⟩ ?_
            subst hc1
            clear h hca hth hsz
            have hX := @noteM.eq_def
            simp only [List.cons_append, List.nil_append]
            exact S.E
        · rw [if_neg hcd] at hK
          have hcw := fun s3 => cwait_ok (b := b) (s3 := s3) (bs := ldB c.mem s.b s.c) hr1 hk hf4 hs hle
          have hX := And.intro @pl108.eq_def (And.intro hca (And.intro hth hsz)); repeat' (first | rintro _ _ ⟨rfl, rfl⟩ | rintro _ _ ⟨s4, rfl, rfl⟩ | (refine G.call 167 ?_; refine S.c ?_ (h := hcf)) | refine S.x ?_ | (refine G.call 175 ?_; first | refine S.c ?_ (h := xosize_ok) | fail) | (refine G.call 176 ?_; refine S.c ?_ (h := cthere_ok)) | (refine G.call 92 ?_; refine S.c ?_ (h := first_ok _ _ _ _ ?_)) | (refine G.call 179 ?_; first | refine S.c ?_ (h := xoput_ok (by assumption)) | fail) | (refine G.prop ?_; assumption) | intro hb | fail)
          refine Tr.imp (l' := sl true s4.v (ldB c.mem s.b s.c) :: cellL b C c1 w gs ++ F) ?_ ?_
          · subst hc1
            clear h hca hth hsz
            simp only [List.cons_append, List.nil_append]
            show EntR [] _ _
            exact S.E
          clear hc1 hr1 hr hth hsz
          simp only [List.cons_append, List.nil_append]
          have hX := @pl108.eq_def; repeat' (first | rintro _ _ ⟨w3, g3, hr3, rfl, rfl⟩ | (refine G.call 169 ?_; refine S.c ?_ (h := hcw s4)) | refine S.x ?_ | fail)
          all_goals exact Tr.fin hK ⟨w3, g3, hr3, rfl, rfl⟩ S.E
    | false =>
      rw [hfr, if_neg (by decide)] at hK
      have hcf := cfrom_f (b := b) hc hr hk hf2 hs hfr
      (refine Tr.enter (rs := []) mixed fn108 rfl (by simp +arith [Tryz.ntmps108]) fun u => ?_; simp only [cd108, Tryz.f108])
      have hX := And.intro @pl108.eq_def (And.intro hca (And.intro hth hsz)); repeat' (first | rintro _ _ ⟨rfl, rfl⟩ | rintro _ _ ⟨s4, w3, g3, hr3, rfl, rfl⟩ | (refine G.call 167 ?_; refine S.c ?_ (h := hcf)) | refine S.x ?_ | (refine G.call 175 ?_; first | refine S.c ?_ (h := xosize_ok) | fail) | (refine G.call 176 ?_; refine S.c ?_ (h := cthere_ok)) | intro hb | fail)
      all_goals exact Tr.fin hK ⟨w3, g3, hr3, rfl, rfl⟩ S.E
  · have hsm : poolCM C c k s = noteM C c k s.call 3 0 := by unfold poolCM; rw [if_neg hrg]
    rw [hsm] at hK
    have hrn := fun s' => rel_note (k := k) (call := s.call) (code := 3) (value := 0) (s := s') hr
    have hth : (decide (0 ≤ s.a) && decide (s.a < (if (4 : Int) < (C.conf.pools.d.length : Int) then 4 else (C.conf.pools.d.length : Int)))) = false := by
      rw [Bool.and_eq_false_iff, decide_eq_false_iff_not, decide_eq_false_iff_not]
      by_cases h5 : (4 : Int) < (C.conf.pools.d.length : Int)
      · rw [if_pos h5]; omega
      · rw [if_neg h5]; omega
    (refine Tr.enter (rs := []) mixed fn108 rfl (by simp +arith [Tryz.ntmps108]) fun u => ?_; simp only [cd108, Tryz.f108])
    have hX := And.intro @pl108.eq_def (And.intro hca hth); repeat' (first | refine S.x ?_ | (refine G.call 175 ?_; first | refine S.c ?_ (h := xosize_ok) | fail) | (refine G.call 176 ?_; refine S.c ?_ (h := cthere_ok)) | (refine G.call 159 ?_; refine S.c ?_ (h := ctell_ok ?_)) | rintro _ _ ⟨rfl, rfl⟩ | rintro _ _ ⟨_, rfl, rfl⟩ | (refine G.prop ?_; assumption) | intro hb | fail)
    all_goals
      rename_i sv
      refine Tr.fin hK ⟨{ w with ev := sv }, gs, hrn sv, rfl, rfl⟩ ?_
      have hX := @noteM.eq_def
      clear h hca hth
      simp only [List.cons_append, List.nil_append]
      exact S.E
end
end Go.Proofs.YtacmaamllpiloaaGreat
