import Derived.Test.YtacmaamllpiloaaGreatIF
namespace Go.Proofs.YtacmaamllpiloaaGreat
open Go Go.Wk
set_option maxHeartbeats 3200000
set_option maxRecDepth 100000
def okP (C : CC) (c : CM) : Prop := c.pts.map AP.c = C.conf.ports.d.take 8
section
variable {C : CC} {c c' : CM} {k : Int} {s : StepC} {n : Nat}
theorem Rch.pt (h : Rch C n c c') : c'.pts.map AP.c = c.pts.map AP.c := by
  induction h with
  | trans _ _ h1 h2 => exact h2.trans h1
  | le _ _ h1 => exact h1
  | pts c ps h => exact h
  | _ => rfl
theorem Rch.okP (h : Rch C n c c') (hp : okP C c) : Go.Proofs.YtacmaamllpiloaaGreat.okP C c' := h.pt.trans hp
theorem size_le (hc : okC C) (hp : okP C c) (a : Int) : sizePA c.pts a ≤ 300 := by
  unfold sizePA
  split
  · rename_i hr
    have e := congrArg (fun l => (ix l a).size) hp
    simp only [ixR hr] at e
    rw [e]
    rcases ix_cases (C.conf.ports.d.take 8) a with h | h
    · exact hc.oz _ (List.mem_of_mem_take h)
    · rw [h]; decide
  · decide
theorem pool_le (hc : okC C) (a : Int) : (ix C.conf.pools.d a).size ≤ 300 := by
  rcases ix_cases C.conf.pools.d a with h | h
  · exact hc.pz _ h
  · rw [h]; decide
theorem slate_le (hc : okC C) (a : Int) : ix C.conf.slates.d a ≤ 300 := by
  rcases ix_cases C.conf.slates.d a with h | h
  · exact hc.lz _ h
  · rw [h]; decide
theorem rch_call (hc : okC C) (hk : inR C.progs k) (hs : s.ok) (hp : okP C c) : Rch C 22 c (callCM C c k s) := by
  unfold callCM
  split
  · exact .le (rch_sleep hk) (by omega)
  · split
    · exact .le rch_others (by omega)
    · split
      · exact .le (.note c _ _ _ _) (by omega)
      · split
        · exact .le (rch_port hk hs (size_le hc hp _)) (by omega)
        · split
          · exact rch_signal hk hs
          · split
            · exact .le (rch_pool hc hk hs (pool_le hc _)) (by omega)
            · split
              · exact .le (rch_slateC hk hs) (by omega)
              · split
                · exact .le (.trans (.note c _ _ _ _) (rch_fault hk)) (by omega)
                · split
                  · exact .le (rch_memory hk) (by omega)
                  · split
                    · exact .le (.note c _ _ _ _) (by omega)
                    · split
                      · exact .le rch_become (by omega)
                      · exact .le (.trans (.note c _ _ _ _) (rch_fault hk)) (by omega)
end
attribute [local irreducible] BrK GenK EGenK EUnitK CallK FnK CallV GuardO GuardC CondW opX opK opKc chkR eqR seqK blkK endL WL WD W LoopW BinK Tr drewK resL PickK NotK NilK ExtrK getK Instr.storeAt Instr.loadAt Instr.fieldAt Instr.indexAt Instr.lookup Instr.mapUpdate Instr.box Instr.alloc Instr.build Instr.buildSlice Instr.makeSlice Instr.makeMap Instr.sliceAt Instr.field Instr.index Instr.makeInterface Instr.typeAssert Builtin.len_ Builtin.append_ Builtin.cap_ Builtin.min_ Builtin.max_ Builtin.copy_ Builtin.clear_ convert binOp mp blk rob sl sep ex fact old
attribute [local irreducible] memX portX objX slkO
section
variable {b : Nat} {C : CC} {c : CM} {w : CW} {gs : List TaskG} {k : Int} {s : StepC}
theorem cpool_ok (hc : okC C) (hr : Rel C c w gs) (hk : inR C.progs k) (hf : few c 22) (hs : s.ok) (hz : (ix C.conf.pools.d s.a).size ≤ 300) (h0 : 18 ≤ s.call) (h1 : s.call ≤ 19) :
    Trip Tryz.prog 108 [ptr b, .int .i64 k, .agg (En.enc s).toArray].toArray (cellL b C c w gs)
    fun v l' => ∃ w2 gs2, Rel C (poolCM C c k s) w2 gs2 ∧ v = .tuple #[] ∧ l' = cellL b C (poolCM C c k s) w2 gs2 := by
  by_cases e : s.call = 18
  · exact cpool18 hc hr hk hf hs hz e
  · exact cpool19 hc hr hk hf hs hz (by omega)
theorem cslate_ok (hc : okC C) (hr : Rel C c w gs) (hk : inR C.progs k) (hf : few c 22) (hs : s.ok) (hz : ix C.conf.slates.d s.a ≤ 300) (h0 : 20 ≤ s.call) (h1 : s.call ≤ 22) :
    Trip Tryz.prog 109 [ptr b, .int .i64 k, .agg (En.enc s).toArray].toArray (cellL b C c w gs)
    fun v l' => ∃ w2 gs2, Rel C (slateCM C c k s) w2 gs2 ∧ v = .tuple #[] ∧ l' = cellL b C (slateCM C c k s) w2 gs2 := by
  by_cases e : s.call = 20
  · exact cslate20 hc hr hk hf hs hz e
  · by_cases e2 : s.call = 21
    · exact cslate21 hc hr hk hf hs hz e2
    · exact cslate22 hc hr hk hf hs hz (by omega)
theorem cmemory_ok (hc : okC C) (hr : Rel C c w gs) (hk : inR C.progs k) (hf : few c 22) (hs : s.ok) (h0 : 24 ≤ s.call) (h1 : s.call ≤ 25) :
    Trip Tryz.prog 110 [ptr b, .int .i64 k, .agg (En.enc s).toArray].toArray (cellL b C c w gs)
    fun v l' => ∃ w2 gs2, Rel C (memoryM C c k s) w2 gs2 ∧ v = .tuple #[] ∧ l' = cellL b C (memoryM C c k s) w2 gs2 := by
  by_cases e : s.call = 24
  · exact cmem24 hc hr hk hf hs e
  · exact cmem25 hc hr hk hf hs (by omega)
theorem ccall_ok (hc : okC C) (hr : Rel C c w gs) (hk : inR C.progs k) (hf : few c 22) (hs : s.ok) (hsl : c.slk.isSome = true) (hp : okP C c) :
    Trip Tryz.prog 46 [ptr b, .int .i64 k, .agg (En.enc s).toArray].toArray (cellL b C c w gs)
    fun v l' => ∃ w2 gs2, Rel C (callCM C c k s) w2 gs2 ∧ v = .tuple #[] ∧ l' = cellL b C (callCM C c k s) w2 gs2 := by
  intro F K hK
  simp only [List.cons_append, List.nil_append] at hK ⊢
  have hf1 : few c 1 := by unfold few at *; omega
  have hf2 : few c 2 := by unfold few at *; omega
  have hf3 := hf1
  unfold few at hf3
  have hpz := size_le hc hp
  have hoz := pool_le hc s.a
  have hlz := slate_le hc s.a
  by_cases h7 : 1 ≤ s.call ∧ s.call ≤ 7
  · obtain ⟨a1, a2⟩ := h7
    have hsm : callCM C c k s = if s.call ≤ 3 then sleepM C c k s else othersM C c k s := by
      unfold callCM
      by_cases h3 : s.call ≤ 3
      · rw [if_pos ⟨a1, h3⟩, if_pos h3]
      · rw [if_neg (fun hh => h3 hh.2), if_pos ⟨by omega, a2⟩, if_neg h3]
    rw [hsm] at hK
    have hcp := cprocess_ok (b := b) hc hr hk hf hs hsl a1 a2
    (refine Tr.enter (rs := []) mixed fn46 rfl (by simp +arith [Tryz.ntmps46]) fun u => ?_; simp only [cd46, Tryz.f46])
    have hX := @pl46.eq_def; repeat' (first | rintro _ _ ⟨w3, g3, hr3, rfl, rfl⟩ | (refine G.call 105 ?_; refine S.c ?_ (h := hcp)) | refine S.x ?_ | refine S.y ?_ ?_ | intro hb | fail)
    all_goals exact Tr.fin hK ⟨w3, g3, hr3, rfl, rfl⟩ S.E
  · by_cases hg : 9 ≤ s.call ∧ s.call ≤ 12
    · obtain ⟨a1, a2⟩ := hg
      have hsm : callCM C c k s = portM2 C c k s := by
        unfold callCM
        rw [if_neg (by omega), if_neg (by omega), if_neg (by omega), if_pos ⟨a1, a2⟩]
      rw [hsm] at hK
      have hcp := ctraffic_ok (b := b) hc hr hk hf2 hs (hpz _) a1 a2
      (refine Tr.enter (rs := []) mixed fn46 rfl (by simp +arith [Tryz.ntmps46]) fun u => ?_; simp only [cd46, Tryz.f46])
      have hX := @pl46.eq_def; repeat' (first | rintro _ _ ⟨w3, g3, hr3, rfl, rfl⟩ | (refine G.call 106 ?_; refine S.c ?_ (h := hcp)) | refine S.x ?_ | refine S.y ?_ ?_ | intro hb | fail)
      all_goals exact Tr.fin hK ⟨w3, g3, hr3, rfl, rfl⟩ S.E
    · by_cases hg : 13 ≤ s.call ∧ s.call ≤ 17
      · obtain ⟨a1, a2⟩ := hg
        have hsm : callCM C c k s = signalM C c k s := by
          unfold callCM
          rw [if_neg (by omega), if_neg (by omega), if_neg (by omega), if_neg (by omega), if_pos ⟨a1, a2⟩]
        rw [hsm] at hK
        have hcp := csignal_ok (b := b) hc hr hk hf hs a1 a2
        (refine Tr.enter (rs := []) mixed fn46 rfl (by simp +arith [Tryz.ntmps46]) fun u => ?_; simp only [cd46, Tryz.f46])
        have hX := @pl46.eq_def; repeat' (first | rintro _ _ ⟨w3, g3, hr3, rfl, rfl⟩ | (refine G.call 107 ?_; refine S.c ?_ (h := hcp)) | refine S.x ?_ | refine S.y ?_ ?_ | intro hb | fail)
        all_goals exact Tr.fin hK ⟨w3, g3, hr3, rfl, rfl⟩ S.E
      · by_cases hg : 18 ≤ s.call ∧ s.call ≤ 19
        · obtain ⟨a1, a2⟩ := hg
          have hsm : callCM C c k s = poolCM C c k s := by
            unfold callCM
            rw [if_neg (by omega), if_neg (by omega), if_neg (by omega), if_neg (by omega), if_neg (by omega), if_pos (by omega)]
          rw [hsm] at hK
          have hcp := cpool_ok (b := b) hc hr hk hf hs hoz a1 a2
          (refine Tr.enter (rs := []) mixed fn46 rfl (by simp +arith [Tryz.ntmps46]) fun u => ?_; simp only [cd46, Tryz.f46])
          have hX := @pl46.eq_def; repeat' (first | rintro _ _ ⟨w3, g3, hr3, rfl, rfl⟩ | (refine G.call 108 ?_; refine S.c ?_ (h := hcp)) | refine S.x ?_ | refine S.y ?_ ?_ | intro hb | fail)
          all_goals exact Tr.fin hK ⟨w3, g3, hr3, rfl, rfl⟩ S.E
        · by_cases hg : 20 ≤ s.call ∧ s.call ≤ 22
          · obtain ⟨a1, a2⟩ := hg
            have hsm : callCM C c k s = slateCM C c k s := by
              unfold callCM
              rw [if_neg (by omega), if_neg (by omega), if_neg (by omega), if_neg (by omega), if_neg (by omega), if_neg (by omega), if_pos ⟨a1, a2⟩]
            rw [hsm] at hK
            have hcp := cslate_ok (b := b) hc hr hk hf hs hlz a1 a2
            (refine Tr.enter (rs := []) mixed fn46 rfl (by simp +arith [Tryz.ntmps46]) fun u => ?_; simp only [cd46, Tryz.f46])
            have hX := @pl46.eq_def; repeat' (first | rintro _ _ ⟨w3, g3, hr3, rfl, rfl⟩ | (refine G.call 109 ?_; refine S.c ?_ (h := hcp)) | refine S.x ?_ | refine S.y ?_ ?_ | intro hb | fail)
            all_goals exact Tr.fin hK ⟨w3, g3, hr3, rfl, rfl⟩ S.E
          · by_cases hg : 24 ≤ s.call ∧ s.call ≤ 25
            · obtain ⟨a1, a2⟩ := hg
              have hsm : callCM C c k s = memoryM C c k s := by
                unfold callCM
                rw [if_neg (by omega), if_neg (by omega), if_neg (by omega), if_neg (by omega), if_neg (by omega), if_neg (by omega), if_neg (by omega), if_neg (by omega), if_pos (by omega)]
              rw [hsm] at hK
              have hcp := cmemory_ok (b := b) hc hr hk hf hs a1 a2
              (refine Tr.enter (rs := []) mixed fn46 rfl (by simp +arith [Tryz.ntmps46]) fun u => ?_; simp only [cd46, Tryz.f46])
              have hX := @pl46.eq_def; repeat' (first | rintro _ _ ⟨w3, g3, hr3, rfl, rfl⟩ | (refine G.call 110 ?_; refine S.c ?_ (h := hcp)) | refine S.x ?_ | refine S.y ?_ ?_ | intro hb | fail)
              all_goals exact Tr.fin hK ⟨w3, g3, hr3, rfl, rfl⟩ S.E
            · by_cases hg : 27 ≤ s.call ∧ s.call ≤ 27
              · obtain ⟨a1, a2⟩ := hg
                have hsm : callCM C c k s = becomeM C c k s := by
                  unfold callCM
                  rw [if_neg (by omega), if_neg (by omega), if_neg (by omega), if_neg (by omega), if_neg (by omega), if_neg (by omega), if_neg (by omega), if_neg (by omega), if_neg (by omega), if_neg (by omega), if_pos (by omega)]
                rw [hsm] at hK
                have hcp := cbecome_ok (b := b) hc hr hk hf hs (Int.le_antisymm a2 a1)
                (refine Tr.enter (rs := []) mixed fn46 rfl (by simp +arith [Tryz.ntmps46]) fun u => ?_; simp only [cd46, Tryz.f46])
                have hX := @pl46.eq_def; repeat' (first | rintro _ _ ⟨w3, g3, hr3, rfl, rfl⟩ | (refine G.call 111 ?_; refine S.c ?_ (h := hcp)) | refine S.x ?_ | intro hb | fail)
                all_goals exact Tr.fin hK ⟨w3, g3, hr3, rfl, rfl⟩ S.E
              · by_cases hg : s.call = 8
                · have hsm : callCM C c k s = noteM C c k s.call 0 (c.win) := by
                    unfold callCM
                    rw [if_neg (by omega), if_neg (by omega), if_pos hg, hg]
                  rw [hsm] at hK
                  have hrn := fun s' => rel_note (k := k) (call := s.call) (code := 0) (value := c.win) (s := s') hr
                  (refine Tr.enter (rs := []) mixed fn46 rfl (by simp +arith [Tryz.ntmps46]) fun u => ?_; simp only [cd46, Tryz.f46])
                  have hX := @pl46.eq_def; repeat' (first | refine S.x ?_ | (refine G.call 90 ?_; refine S.c ?_ (h := cnote_ok ?_)) | rintro _ _ ⟨_, rfl, rfl⟩ | (refine G.prop ?_; assumption) | intro hb | fail)
                  all_goals
                    rename_i sv
                    refine Tr.fin hK ⟨{ w with ev := sv }, gs, hrn sv, rfl, rfl⟩ ?_
                    have hX := @noteM.eq_def
                    clear hg
                    simp only [List.cons_append, List.nil_append]
                    exact S.E
                · by_cases hg : s.call = 26
                  · have hsm : callCM C c k s = noteM C c k s.call 0 (c.mode) := by
                      unfold callCM
                      rw [if_neg (by omega), if_neg (by omega), if_neg (by omega), if_neg (by omega), if_neg (by omega), if_neg (by omega), if_neg (by omega), if_neg (by omega), if_neg (by omega), if_pos hg, hg]
                    rw [hsm] at hK
                    have hrn := fun s' => rel_note (k := k) (call := s.call) (code := 0) (value := c.mode) (s := s') hr
                    (refine Tr.enter (rs := []) mixed fn46 rfl (by simp +arith [Tryz.ntmps46]) fun u => ?_; simp only [cd46, Tryz.f46])
                    have hX := @pl46.eq_def; repeat' (first | refine S.x ?_ | (refine G.call 90 ?_; refine S.c ?_ (h := cnote_ok ?_)) | rintro _ _ ⟨_, rfl, rfl⟩ | (refine G.prop ?_; assumption) | intro hb | fail)
                    all_goals
                      rename_i sv
                      refine Tr.fin hK ⟨{ w with ev := sv }, gs, hrn sv, rfl, rfl⟩ ?_
                      have hX := @noteM.eq_def
                      clear hg
                      simp only [List.cons_append, List.nil_append]
                      exact S.E
                  · by_cases hg : s.call = 23
                    · obtain ⟨c1, hc1⟩ : ∃ c1 : CM, c1 = noteM C c k s.call 0 s.a := ⟨_, rfl⟩
                      have hr1 : ∀ s, Rel C c1 { w with ev := s } gs := fun s => by rw [hc1]; exact rel_note hr
                      have hf4 : few c1 1 := by unfold few at *; rw [hc1]; simp only [noteM, List.length_append, List.length_cons, List.length_nil]; omega
                      have hsm : callCM C c k s = faultM C c1 k 3 := by
                        unfold callCM
                        rw [if_neg (by omega), if_neg (by omega), if_neg (by omega), if_neg (by omega), if_neg (by omega), if_neg (by omega), if_neg (by omega), if_pos hg, hc1, hg]
                      rw [hsm] at hK
                      have hcf := fun s => cfault_ok (b := b) (kind := 3) hc (hr1 s) hk hf4 (by decide) (by decide)
                      (refine Tr.enter (rs := []) mixed fn46 rfl (by simp +arith [Tryz.ntmps46]) fun u => ?_; simp only [cd46, Tryz.f46])
                      have hX := @pl46.eq_def; repeat' (first | refine S.x ?_ | (refine G.call 90 ?_; refine S.c ?_ (h := cnote_ok ?_)) | rintro _ _ ⟨_, rfl, rfl⟩ | (refine G.prop ?_; assumption) | intro hb | fail)
                      all_goals
                        rename_i sv
                        refine Tr.imp (l' := cellL b C c1 { w with ev := sv } gs ++ F) ?_ ?_
                        · subst hc1
                          clear hg
                          simp only [List.cons_append, List.nil_append]
                          have hX := @noteM.eq_def
                          show EntR [] _ _
                          exact S.E
                        clear hc1 hr1 hr hsm
                        simp only [List.cons_append, List.nil_append]
                        have hX := @pl46.eq_def; repeat' (first | rintro _ _ ⟨w3, g3, hr3, rfl, rfl⟩ | (refine G.call 91 ?_; refine S.c ?_ (h := hcf sv)) | refine S.x ?_ | fail)
                        all_goals exact Tr.fin hK ⟨w3, g3, hr3, rfl, rfl⟩ S.E
                    · obtain ⟨c1, hc1⟩ : ∃ c1 : CM, c1 = noteM C c k s.call 7 0 := ⟨_, rfl⟩
                      have hr1 : ∀ s, Rel C c1 { w with ev := s } gs := fun s => by rw [hc1]; exact rel_note hr
                      have hf4 : few c1 1 := by unfold few at *; rw [hc1]; simp only [noteM, List.length_append, List.length_cons, List.length_nil]; omega
                      have hsm : callCM C c k s = faultM C c1 k 1 := by
                        unfold callCM
                        rw [if_neg (by omega), if_neg (by omega), if_neg (by omega), if_neg (by omega), if_neg (by omega), if_neg (by omega), if_neg (by omega), if_neg (by omega), if_neg (by omega), if_neg (by omega), if_neg (by omega), hc1]
                      rw [hsm] at hK
                      have hcf := fun s => cfault_ok (b := b) (kind := 1) hc (hr1 s) hk hf4 (by decide) (by decide)
                      (refine Tr.enter (rs := []) mixed fn46 rfl (by simp +arith [Tryz.ntmps46]) fun u => ?_; simp only [cd46, Tryz.f46])
                      have hX := @pl46.eq_def; repeat' (first | refine S.x ?_ | (refine G.call 90 ?_; refine S.c ?_ (h := cnote_ok ?_)) | rintro _ _ ⟨_, rfl, rfl⟩ | (refine G.prop ?_; assumption) | intro hb | fail)
                      all_goals
                        rename_i sv
                        refine Tr.imp (l' := cellL b C c1 { w with ev := sv } gs ++ F) ?_ ?_
                        · subst hc1
                          simp only [List.cons_append, List.nil_append]
                          have hX := @noteM.eq_def
                          show EntR [] _ _
                          exact S.E
                        clear hc1 hr1 hr hsm
                        simp only [List.cons_append, List.nil_append]
                        have hX := @pl46.eq_def; repeat' (first | rintro _ _ ⟨w3, g3, hr3, rfl, rfl⟩ | (refine G.call 91 ?_; refine S.c ?_ (h := hcf sv)) | refine S.x ?_ | fail)
                        all_goals exact Tr.fin hK ⟨w3, g3, hr3, rfl, rfl⟩ S.E
end
end Go.Proofs.YtacmaamllpiloaaGreat
