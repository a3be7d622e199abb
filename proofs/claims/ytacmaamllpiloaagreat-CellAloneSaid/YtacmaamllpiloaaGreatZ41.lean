import Derived.Test.YtacmaamllpiloaaGreatIF
namespace Go.Proofs.YtacmaamllpiloaaGreat
open Go Go.Wk
set_option maxHeartbeats 3200000
set_option maxRecDepth 100000
def okP (C : CC) (c : CM) : Prop := c.pts.map AP.c = C.conf.ports.d.take 8
section
variable {C : CC} {c c' : CM} {k : Int} {s : StepC} {n : Nat}
theorem Rch.pt (h : Rch C n c c') : c'.pts.map AP.c = c.pts.map AP.c := by
 induction h with
 | trans _ _ h1 h2 => exact h2.trans h1
 | le _ _ h1 => exact h1
 | pts c ps h => exact h
 | _ => rfl
theorem Rch.okP (h : Rch C n c c') (hp : okP C c) : Go.Proofs.YtacmaamllpiloaaGreat.okP C c' := h.pt.trans hp
theorem size_le (hc : okC C) (hp : okP C c) (a : Int) : sizePA c.pts a ≤ 300 := by
 unfold sizePA
 split
 ·rename_i hr
  have e := congrArg (fun l => (ix l a).size) hp
  simp only [ixR hr] at e
  rw [e]
  rcases ix_cases (C.conf.ports.d.take 8) a with h | h
  ·exact hc.oz _ (List.mem_of_mem_take h)
  ·rw [h]; decide
 ·decide
theorem pool_le (hc : okC C) (a : Int) : (ix C.conf.pools.d a).size ≤ 300 := by
 rcases ix_cases C.conf.pools.d a with h | h
 ·exact hc.pz _ h
 ·rw [h]; decide
theorem slate_le (hc : okC C) (a : Int) : ix C.conf.slates.d a ≤ 300 := by
 rcases ix_cases C.conf.slates.d a with h | h
 ·exact hc.lz _ h
 ·rw [h]; decide
theorem rch_call (hc : okC C) (hk : inR C.progs k) (hs : s.ok) (hp : okP C c) : Rch C 22 c (callCM C c k s) := by
 unfold callCM
 split
 ·exact .le (rch_sleep hk) (by omega)
 ·split
  ·exact .le rch_others (by omega)
  ·split
   ·exact .le (.note c _ _ _ _) (by omega)
   ·split
    ·exact .le (rch_port hk hs (size_le hc hp _)) (by omega)
    ·split
     ·exact rch_signal hk hs
     ·split
      ·exact .le (rch_pool hc hk hs (pool_le hc _)) (by omega)
      ·split
       ·exact .le (rch_slateC hk hs) (by omega)
       ·split
        ·exact .le (.trans (.note c _ _ _ _) (rch_fault hk)) (by omega)
        ·split
         ·exact .le (rch_memory hk) (by omega)
         ·split
          ·exact .le (.note c _ _ _ _) (by omega)
          ·split
           ·exact .le rch_become (by omega)
           ·exact .le (.trans (.note c _ _ _ _) (rch_fault hk)) (by omega)
end
attribute [local irreducible] BrK GenK EGenK EUnitK CallK FnK CallV GuardO GuardC CondW opX opK opKc chkR eqR seqK blkK endL WL WD W LoopW BinK Tr drewK resL PickK NotK NilK ExtrK getK Instr.storeAt Instr.loadAt Instr.fieldAt Instr.indexAt Instr.lookup Instr.mapUpdate Instr.box Instr.alloc Instr.build Instr.buildSlice Instr.makeSlice Instr.makeMap Instr.sliceAt Instr.field Instr.index Instr.makeInterface Instr.typeAssert Builtin.len_ Builtin.append_ Builtin.cap_ Builtin.min_ Builtin.max_ Builtin.copy_ Builtin.clear_ convert binOp mp blk rob sl sep ex fact old
attribute [local irreducible] memX portX objX slkO
section
variable {b : Nat} {C : CC} {c : CM} {w : CW} {gs : List TaskG} {k : Int} {s : StepC}
theorem cpool_ok (hc : okC C) (hr : Rel C c w gs) (hk : inR C.progs k) (hf : few c 22) (hs : s.ok) (hz : (ix C.conf.pools.d s.a).size ≤ 300) (h0 : 18 ≤ s.call) (h1 : s.call ≤ 19) :
  Trip Tryz.prog 108 [ptr b, .int .i64 k, .agg (En.enc s).toArray].toArray (cellL b C c w gs)
  fun v l' => ∃ w2 gs2, Rel C (poolCM C c k s) w2 gs2 ∧ v = .tuple #[] ∧ l' = cellL b C (poolCM C c k s) w2 gs2 := by
 by_cases e : s.call = 18
 ·exact cpool18 hc hr hk hf hs hz e
 ·exact cpool19 hc hr hk hf hs hz (by omega)
theorem cslate_ok (hc : okC C) (hr : Rel C c w gs) (hk : inR C.progs k) (hf : few c 22) (hs : s.ok) (hz : ix C.conf.slates.d s.a ≤ 300) (h0 : 20 ≤ s.call) (h1 : s.call ≤ 22) :
  Trip Tryz.prog 109 [ptr b, .int .i64 k, .agg (En.enc s).toArray].toArray (cellL b C c w gs)
  fun v l' => ∃ w2 gs2, Rel C (slateCM C c k s) w2 gs2 ∧ v = .tuple #[] ∧ l' = cellL b C (slateCM C c k s) w2 gs2 := by
 by_cases e : s.call = 20
 ·exact cslate20 hc hr hk hf hs hz e
 ·by_cases e2 : s.call = 21
  ·exact cslate21 hc hr hk hf hs hz e2
  ·exact cslate22 hc hr hk hf hs hz (by omega)
theorem cmemory_ok (hc : okC C) (hr : Rel C c w gs) (hk : inR C.progs k) (hf : few c 22) (hs : s.ok) (h0 : 24 ≤ s.call) (h1 : s.call ≤ 25) :
  Trip Tryz.prog 110 [ptr b, .int .i64 k, .agg (En.enc s).toArray].toArray (cellL b C c w gs)
  fun v l' => ∃ w2 gs2, Rel C (memoryM C c k s) w2 gs2 ∧ v = .tuple #[] ∧ l' = cellL b C (memoryM C c k s) w2 gs2 := by
 by_cases e : s.call = 24
 ·exact cmem24 hc hr hk hf hs e
 ·exact cmem25 hc hr hk hf hs (by omega)
theorem ccall_ok (hc : okC C) (hr : Rel C c w gs) (hk : inR C.progs k) (hf : few c 22) (hs : s.ok) (hsl : c.slk.isSome = true) (hp : okP C c) :
  Trip Tryz.prog 46 [ptr b, .int .i64 k, .agg (En.enc s).toArray].toArray (cellL b C c w gs)
  fun v l' => ∃ w2 gs2, Rel C (callCM C c k s) w2 gs2 ∧ v = .tuple #[] ∧ l' = cellL b C (callCM C c k s) w2 gs2 := by
 intro F K hK
 simp only [List.cons_append, List.nil_append] at hK ⊢
 have hf1 : few c 1 := by unfold few at *; omega
 have hf2 : few c 2 := by unfold few at *; omega
 have hf3 := hf1
 unfold few at hf3
 have hpz := size_le hc hp
 have hoz := pool_le hc s.a
 have hlz := slate_le hc s.a
 by_cases h7 : 1 ≤ s.call ∧ s.call ≤ 7
 ·obtain ⟨a1, a2⟩ := h7
  have hsm : callCM C c k s = if s.call ≤ 3 then sleepM C c k s else othersM C c k s := by
   unfold callCM
   by_cases h3 : s.call ≤ 3
   ·rw [if_pos ⟨a1, h3⟩, if_pos h3]
   ·rw [if_neg (fun hh => h3 hh.2), if_pos ⟨by omega, a2⟩, if_neg h3]
  rw [hsm] at hK
  have hcp := cprocess_ok (b := b) hc hr hk hf hs hsl a1 a2
  (refine Tr.enter (rs := []) mixed fn46 rfl (by simp +arith [Tryz.ntmps46]) fun u => ?_; simp only [cd46, Tryz.f46])
  have hX := @pl46.eq_def; repeat' (first | rintro _ _ ⟨w3, g3, hr3, rfl, rfl⟩ | (refine G.call 105 ?_; refine S.c ?_ (h := hcp)) | refine S.x ?_ | refine S.y ?_ ?_ | intro hb | fail)
  all_goals exact Tr.fin hK ⟨w3, g3, hr3, rfl, rfl⟩ S.E
 ·by_cases hg : 9 ≤ s.call ∧ s.call ≤ 12
  ·obtain ⟨a1, a2⟩ := hg
   have hsm : callCM C c k s = portM2 C c k s := by
    unfold callCM
    rw [if_neg (by omega), if_neg (by omega), if_neg (by omega), if_pos ⟨a1, a2⟩]
   rw [hsm] at hK
   have hcp := ctraffic_ok (b := b) hc hr hk hf2 hs (hpz _) a1 a2
   (refine Tr.enter (rs := []) mixed fn46 rfl (by simp +arith [Tryz.ntmps46]) fun u => ?_; simp only [cd46, Tryz.f46])
   have hX := @pl46.eq_def; repeat' (first | rintro _ _ ⟨w3, g3, hr3, rfl, rfl⟩ | (refine G.call 106 ?_; refine S.c ?_ (h := hcp)) | refine S.x ?_ | refine S.y ?_ ?_ | intro hb | fail)
   all_goals exact Tr.fin hK ⟨w3, g3, hr3, rfl, rfl⟩ S.E
  ·by_cases hg : 13 ≤ s.call ∧ s.call ≤ 17
   ·obtain ⟨a1, a2⟩ := hg
    have hsm : callCM C c k s = signalM C c k s := by
     unfold callCM
     rw [if_neg (by omega), if_neg (by omega), if_neg (by omega), if_neg (by omega), if_pos ⟨a1, a2⟩]
    rw [hsm] at hK
    have hcp := csignal_ok (b := b) hc hr hk hf hs a1 a2
    (refine Tr.enter (rs := []) mixed fn46 rfl (by simp +arith [Tryz.ntmps46]) fun u => ?_; simp only [cd46, Tryz.f46])
    have hX := @pl46.eq_def; repeat' (first | rintro _ _ ⟨w3, g3, hr3, rfl, rfl⟩ | (refine G.call 107 ?_; refine S.c ?_ (h := hcp)) | refine S.x ?_ | refine S.y ?_ ?_ | intro hb | fail)
    all_goals exact Tr.fin hK ⟨w3, g3, hr3, rfl, rfl⟩ S.E
   ·by_cases hg : 18 ≤ s.call ∧ s.call ≤ 19
    ·obtain ⟨a1, a2⟩ := hg
     have hsm : callCM C c k s = poolCM C c k s := by
      unfold callCM
      rw [if_neg (by omega), if_neg (by omega), if_neg (by omega), if_neg (by omega), if_neg (by omega), if_pos (by omega)]
     rw [hsm] at hK
     have hcp := cpool_ok (b := b) hc hr hk hf hs hoz a1 a2
     (refine Tr.enter (rs := []) mixed fn46 rfl (by simp +arith [Tryz.ntmps46]) fun u => ?_; simp only [cd46, Tryz.f46])
     have hX := @pl46.eq_def; repeat' (first | rintro _ _ ⟨w3, g3, hr3, rfl, rfl⟩ | (refine G.call 108 ?_; refine S.c ?_ (h := hcp)) | refine S.x ?_ | refine S.y ?_ ?_ | intro hb | fail)
     all_goals exact Tr.fin hK ⟨w3, g3, hr3, rfl, rfl⟩ S.E
    ·by_cases hg : 20 ≤ s.call ∧ s.call ≤ 22
     ·obtain ⟨a1, a2⟩ := hg
      have hsm : callCM C c k s = slateCM C c k s := by
       unfold callCM
       rw [if_neg (by omega), if_neg (by omega), if_neg (by omega), if_neg (by omega), if_neg (by omega), if_neg (by omega), if_pos ⟨a1, a2⟩]
      rw [hsm] at hK
      have hcp := cslate_ok (b := b) hc hr hk hf hs hlz a1 a2
      (refine Tr.enter (rs := []) mixed fn46 rfl (by simp +arith [Tryz.ntmps46]) fun u => ?_; simp only [cd46, Tryz.f46])
      have hX := @pl46.eq_def; repeat' (first | rintro _ _ ⟨w3, g3, hr3, rfl, rfl⟩ | (refine G.call 109 ?_; refine S.c ?_ (h := hcp)) | refine S.x ?_ | refine S.y ?_ ?_ | intro hb | fail)
      all_goals exact Tr.fin hK ⟨w3, g3, hr3, rfl, rfl⟩ S.E
     ·by_cases hg : 24 ≤ s.call ∧ s.call ≤ 25
      ·obtain ⟨a1, a2⟩ := hg
       have hsm : callCM C c k s = memoryM C c k s := by
        unfold callCM
        rw [if_neg (by omega), if_neg (by omega), if_neg (by omega), if_neg (by omega), if_neg (by omega), if_neg (by omega), if_neg (by omega), if_neg (by omega), if_pos (by omega)]
       rw [hsm] at hK
       have hcp := cmemory_ok (b := b) hc hr hk hf hs a1 a2
       (refine Tr.enter (rs := []) mixed fn46 rfl (by simp +arith [Tryz.ntmps46]) fun u => ?_; simp only [cd46, Tryz.f46])
       have hX := @pl46.eq_def; repeat' (first | rintro _ _ ⟨w3, g3, hr3, rfl, rfl⟩ | (refine G.call 110 ?_; refine S.c ?_ (h := hcp)) | refine S.x ?_ | refine S.y ?_ ?_ | intro hb | fail)
       all_goals exact Tr.fin hK ⟨w3, g3, hr3, rfl, rfl⟩ S.E
      ·by_cases hg : 27 ≤ s.call ∧ s.call ≤ 27
       ·obtain ⟨a1, a2⟩ := hg
        have hsm : callCM C c k s = becomeM C c k s := by
         unfold callCM
         rw [if_neg (by omega), if_neg (by omega), if_neg (by omega), if_neg (by omega), if_neg (by omega), if_neg (by omega), if_neg (by omega), if_neg (by omega), if_neg (by omega), if_neg (by omega), if_pos (by omega)]
        rw [hsm] at hK
        have hcp := cbecome_ok (b := b) hc hr hk hf hs (Int.le_antisymm a2 a1)
        (refine Tr.enter (rs := []) mixed fn46 rfl (by simp +arith [Tryz.ntmps46]) fun u => ?_; simp only [cd46, Tryz.f46])
        have hX := @pl46.eq_def; repeat' (first | rintro _ _ ⟨w3, g3, hr3, rfl, rfl⟩ | (refine G.call 111 ?_; refine S.c ?_ (h := hcp)) | refine S.x ?_ | intro hb | fail)
        all_goals exact Tr.fin hK ⟨w3, g3, hr3, rfl, rfl⟩ S.E
       ·by_cases hg : s.call = 8
        ·have hsm : callCM C c k s = noteM C c k s.call 0 (c.win) := by
          unfold callCM
          rw [if_neg (by omega), if_neg (by omega), if_pos hg, hg]
         rw [hsm] at hK
         have hrn := fun s' => rel_note (k := k) (call := s.call) (code := 0) (value := c.win) (s := s') hr
         (refine Tr.enter (rs := []) mixed fn46 rfl (by simp +arith [Tryz.ntmps46]) fun u => ?_; simp only [cd46, Tryz.f46])
         have hX := @pl46.eq_def; repeat' (first | refine S.x ?_ | (refine G.call 90 ?_; refine S.c ?_ (h := cnote_ok ?_)) | rintro _ _ ⟨_, rfl, rfl⟩ | (refine G.prop ?_; assumption) | intro hb | fail)
         all_goals
          rename_i sv
          refine Tr.fin hK ⟨{ w with ev := sv }, gs, hrn sv, rfl, rfl⟩ ?_
          have hX := @noteM.eq_def
          clear hg
          simp only [List.cons_append, List.nil_append]
          exact S.E
        ·by_cases hg : s.call = 26
         ·have hsm : callCM C c k s = noteM C c k s.call 0 (c.mode) := by
           unfold callCM
           rw [if_neg (by omega), if_neg (by omega), if_neg (by omega), if_neg (by omega), if_neg (by omega), if_neg (by omega), if_neg (by omega), if_neg (by omega), if_neg (by omega), if_pos hg, hg]
          rw [hsm] at hK
          have hrn := fun s' => rel_note (k := k) (call := s.call) (code := 0) (value := c.mode) (s := s') hr
          (refine Tr.enter (rs := []) mixed fn46 rfl (by simp +arith [Tryz.ntmps46]) fun u => ?_; simp only [cd46, Tryz.f46])
          have hX := @pl46.eq_def; repeat' (first | refine S.x ?_ | (refine G.call 90 ?_; refine S.c ?_ (h := cnote_ok ?_)) | rintro _ _ ⟨_, rfl, rfl⟩ | (refine G.prop ?_; assumption) | intro hb | fail)
          all_goals
           rename_i sv
           refine Tr.fin hK ⟨{ w with ev := sv }, gs, hrn sv, rfl, rfl⟩ ?_
           have hX := @noteM.eq_def
           clear hg
           simp only [List.cons_append, List.nil_append]
           exact S.E
         ·by_cases hg : s.call = 23
          ·obtain ⟨c1, hc1⟩ : ∃ c1 : CM, c1 = noteM C c k s.call 0 s.a := ⟨_, rfl⟩
           have hr1 : ∀ s, Rel C c1 { w with ev := s } gs := fun s => by rw [hc1]; exact rel_note hr
           have hf4 : few c1 1 := by unfold few at *; rw [hc1]; simp only [noteM, List.length_append, List.length_cons, List.length_nil]; omega
           have hsm : callCM C c k s = faultM C c1 k 3 := by
            unfold callCM
            rw [if_neg (by omega), if_neg (by omega), if_neg (by omega), if_neg (by omega), if_neg (by omega), if_neg (by omega), if_neg (by omega), if_pos hg, hc1, hg]
           rw [hsm] at hK
           have hcf := fun s => cfault_ok (b := b) (kind := 3) hc (hr1 s) hk hf4 (by decide) (by decide)
           (refine Tr.enter (rs := []) mixed fn46 rfl (by simp +arith [Tryz.ntmps46]) fun u => ?_; simp only [cd46, Tryz.f46])
           have hX := @pl46.eq_def; repeat' (first | refine S.x ?_ | (refine G.call 90 ?_; refine S.c ?_ (h := cnote_ok ?_)) | rintro _ _ ⟨_, rfl, rfl⟩ | (refine G.prop ?_; assumption) | intro hb | fail)
           all_goals
            rename_i sv
            refine Tr.imp (l' := cellL b C c1 { w with ev := sv } gs ++ F) ?_ ?_
            ·subst hc1
             clear hg
             simp only [List.cons_append, List.nil_append]
             have hX := @noteM.eq_def
             show EntR [] _ _
             exact S.E
            clear hc1 hr1 hr hsm
            simp only [List.cons_append, List.nil_append]
            have hX := @pl46.eq_def; repeat' (first | rintro _ _ ⟨w3, g3, hr3, rfl, rfl⟩ | (refine G.call 91 ?_; refine S.c ?_ (h := hcf sv)) | refine S.x ?_ | fail)
            all_goals exact Tr.fin hK ⟨w3, g3, hr3, rfl, rfl⟩ S.E
          ·obtain ⟨c1, hc1⟩ : ∃ c1 : CM, c1 = noteM C c k s.call 7 0 := ⟨_, rfl⟩
           have hr1 : ∀ s, Rel C c1 { w with ev := s } gs := fun s => by rw [hc1]; exact rel_note hr
           have hf4 : few c1 1 := by unfold few at *; rw [hc1]; simp only [noteM, List.length_append, List.length_cons, List.length_nil]; omega
           have hsm : callCM C c k s = faultM C c1 k 1 := by
            unfold callCM
            rw [if_neg (by omega), if_neg (by omega), if_neg (by omega), if_neg (by omega), if_neg (by omega), if_neg (by omega), if_neg (by omega), if_neg (by omega), if_neg (by omega), if_neg (by omega), if_neg (by omega), hc1]
           rw [hsm] at hK
           have hcf := fun s => cfault_ok (b := b) (kind := 1) hc (hr1 s) hk hf4 (by decide) (by decide)
           (refine Tr.enter (rs := []) mixed fn46 rfl (by simp +arith [Tryz.ntmps46]) fun u => ?_; simp only [cd46, Tryz.f46])
           have hX := @pl46.eq_def; repeat' (first | refine S.x ?_ | (refine G.call 90 ?_; refine S.c ?_ (h := cnote_ok ?_)) | rintro _ _ ⟨_, rfl, rfl⟩ | (refine G.prop ?_; assumption) | intro hb | fail)
           all_goals
            rename_i sv
            refine Tr.imp (l' := cellL b C c1 { w with ev := sv } gs ++ F) ?_ ?_
            ·subst hc1
             simp only [List.cons_append, List.nil_append]
             have hX := @noteM.eq_def
             show EntR [] _ _
             exact S.E
            clear hc1 hr1 hr hsm
            simp only [List.cons_append, List.nil_append]
            have hX := @pl46.eq_def; repeat' (first | rintro _ _ ⟨w3, g3, hr3, rfl, rfl⟩ | (refine G.call 91 ?_; refine S.c ?_ (h := hcf sv)) | refine S.x ?_ | fail)
            all_goals exact Tr.fin hK ⟨w3, g3, hr3, rfl, rfl⟩ S.E
end
end Go.Proofs.YtacmaamllpiloaaGreat
namespace Go.Proofs.YtacmaamllpiloaaGreat
open Go Go.Wk
set_option maxHeartbeats 3200000
set_option maxRecDepth 100000
def okRs (c : CM) : Prop := ∀ x ∈ c.rest, 0 ≤ x ∧ x ≤ 1073741824
def ranN (c : CM) (cyc : Int) : Int := if wantM c < cyc then wantM c else cyc
def ranR (c : CM) (cyc : Int) : Int := if ranN c cyc < 1 then 0 else ranN c cyc
def ranA (C : CC) (c : CM) (cyc : Int) : CM := if ranN c cyc < 1 then c else ranM C c (pickM c) (ranN c cyc)
def spentM (c : CM) (m : SlM) (k n : Int) : CM := { c with slk := some (spendM m k n), rest := c.rest.set k.toNat (ix c.rest k - n) }
section
variable {C : CC} {c c' : CM} {w : CW} {gs : List TaskG} {k n : Int} {m : SlM} {j : Nat}
theorem clampC_in {n : Int} : 1 ≤ clampC n ∧ clampC n ≤ 1073741824 := by
 unfold clampC
 split
 ·exact ⟨by decide, by decide⟩
 ·split
  ·exact ⟨by decide, by decide⟩
  ·omega
theorem rel_spent {o : Option Nat} (ho : o.isSome = true) (h : Rel C c w gs) (hk : inR C.progs k) : Rel C (spentM c m k n) { w with slk := o } (gs.set k.toNat { ix gs k with rest := ix c.rest k - n }) := by
 have hg := rel_in h hk
 refine ⟨⟨h.ok.tb, h.ok.pos, by simpa [spentM] using h.ok.rest, h.ok.addr, h.ok.data, h.ok.done, h.ok.pi, h.ok.ad, h.ok.dl⟩, (map_setE (f := TaskG.prog) hg (by rfl)).trans h.hp, (map_setE (f := TaskG.pos) hg (by rfl)).trans h.hi, ?_, (map_setE (f := TaskG.addr) hg (by rfl)).trans h.ha, (map_setE (f := TaskG.done) hg (by rfl)).trans h.hd, fun j hj hw => ?_, ho⟩
 ·rw [List.map_set, h.hr]; rfl
 ·have hj' : inR gs j := by unfold inR at *; simpa using hj
  rw [ix_setR hg hj'.1]
  by_cases e : j = k
  ·rw [if_pos e]; subst e; exact h.hw j hj' hw
  ·rw [if_neg e]; exact h.hw j hj' hw
theorem want_of (h : ¬ wantM c < 1) : ∃ m, c.slk = some m ∧ c.mode = 3 ∧ ¬ pickM c < 0 ∧ wantM c = min3 (ix c.rest (pickM c)) (ofM m (pickM c)) m.room := by
 rcases Option.eq_none_or_eq_some c.slk with hm | ⟨m, hm⟩
 ·refine absurd (show wantM c < 1 from ?_) h
  unfold wantM; rw [hm]; exact Int.zero_lt_one
 ·by_cases h3 : c.mode = 3
  ·by_cases hp : pickM c < 0
   ·refine absurd (show wantM c < 1 from ?_) h
    unfold wantM; rw [hm]; simp only; rw [if_pos h3, if_pos hp]; decide
   ·refine ⟨m, hm, h3, hp, ?_⟩
    unfold wantM; rw [hm]; simp only; rw [if_pos h3, if_neg hp]
  ·refine absurd (show wantM c < 1 from ?_) h
   unfold wantM; rw [hm]; simp only; rw [if_neg h3]; decide
end
attribute [local irreducible] BrK GenK EGenK EUnitK CallK FnK CallV GuardO GuardC CondW opX opK opKc chkR eqR seqK blkK endL WL WD W LoopW BinK Tr drewK resL PickK NotK NilK ExtrK getK Instr.storeAt Instr.loadAt Instr.fieldAt Instr.indexAt Instr.lookup Instr.mapUpdate Instr.box Instr.alloc Instr.build Instr.buildSlice Instr.makeSlice Instr.makeMap Instr.sliceAt Instr.field Instr.index Instr.makeInterface Instr.typeAssert Builtin.len_ Builtin.append_ Builtin.cap_ Builtin.min_ Builtin.max_ Builtin.copy_ Builtin.clear_ convert binOp mp blk rob sl sep ex fact old
attribute [local irreducible] memX portX objX slkX
section
variable {b : Nat} {C : CC} {c : CM} {w : CW} {gs : List TaskG} {k cyc : Int} {s : StepC}
theorem cran_ok (hc : okC C) (hr : Rel C c w gs) (hf : few c 40) (hd : dP c) (hp : okP C c) (hrs : okRs c) :
  Trip Tryz.prog 11 [ptr b, .int .i64 cyc].toArray (cellL b C c w gs)
  fun v l' => ∃ w2 gs2, Rel C (ranA C c cyc) w2 gs2 ∧ v = .int .i64 (ranR c cyc) ∧ l' = cellL b C (ranA C c cyc) w2 gs2 := by
 intro F K hK
 simp only [List.cons_append, List.nil_append] at hK ⊢
 have hcw := cwant_ok (b := b) hc hr
 obtain ⟨n, hn⟩ : ∃ n, n = ranN c cyc := ⟨_, rfl⟩
 have hmi : (if wantM c < cyc then wantM c else cyc) = n := hn.symm
 by_cases h1 : n < 1
 ·have e1 : ranA C c cyc = c := by unfold ranA; rw [← hn, if_pos h1]
  have e2 : ranR c cyc = 0 := by unfold ranR; rw [← hn, if_pos h1]
  rw [e1, e2] at hK
  (refine Tr.enter (rs := [.tmp 4]) mixed fn11 rfl (by simp +arith [Tryz.ntmps11]) fun u => ?_; simp only [cd11, Tryz.f11])
  have hX := And.intro @pl11.eq_def hmi; repeat' (first | rintro _ _ ⟨rfl, rfl⟩ | (refine G.call 9 ?_; refine S.c ?_ (h := hcw)) | refine S.x ?_ | fail)
  all_goals exact Tr.fin hK ⟨w, gs, hr, rfl, rfl⟩ S.E
 ·have hwn : n ≤ wantM c := by rw [hn]; unfold ranN; split <;> omega
  obtain ⟨m, hm, h3, hp0, hwm⟩ := want_of (c := c) (by omega)
  obtain ⟨q1, q2, q3, _⟩ := @min3_le (ix c.rest (pickM c)) (ofM m (pickM c)) m.room
  have hk := pick_prog hr hp0
  have hwho : whoM c = pickM c := by unfold whoM; rw [hm]; simp only; rw [if_pos h3]
  have e1 : ranA C c cyc = ranM C c (pickM c) n := by unfold ranA; rw [← hn, if_neg h1]
  have e2 : ranR c cyc = n := by unfold ranR; rw [← hn, if_neg h1]
  rw [e1, e2] at hK
  have hnx := cnext_ok (b := b) hc hr
  rw [hwho] at hnx
  obtain ⟨sb, hsb⟩ := slk_some hr hm
  have hsp : slP w.slk = .pointer (some ⟨sb, 0, none⟩) := by rw [hsb]; rfl
  have hsl : slkO w.slk c.slk = slkX sb m := by rw [hsb, hm]; rfl
  have hn1 : n ≤ ix c.rest (pickM c) := by omega
  generalize pickM c = k at *
  obtain ⟨g0, g9⟩ := rel_in hr hk
  have hmp := ix_map (f := TaskG.pt) (xs := gs) (k := k) g0 g9
  have hlm : (gs.map TaskG.pt).length = gs.length := List.length_map _
  have hre : (ix gs k).rest = ix c.rest k := by rw [← hr.hr, ix_map (f := TaskG.rest) g0 g9]
  have hpo : (ix gs k).pos = ix c.pos k := by rw [← hr.hi, ix_map (f := TaskG.pos) g0 g9]
  have hrk : inR c.rest k := by unfold inR at *; rw [hr.ok.rest]; exact hk
  have hrb := hrs _ (List.mem_of_getElem? (ix_some hrk.1 hrk.2))
  have hwr : IntKind.i64.wrap (ix c.rest k - n) = ix c.rest k - n := wrapId (by omega) (by omega)
  obtain ⟨c1, hc1⟩ : ∃ c1, c1 = spentM c m k n := ⟨_, rfl⟩
  have hrm : ranM C c k n = if ix c.rest k - n = 0 then settleTo C 100 (callCM C (toM C c1 k (ix c.pos k + 1)) k (ix (ix C.progs k) (ix c.pos k))) else settleTo C 100 c1 := by
   rw [hc1]; unfold ranM spentM; rw [hm]; rfl
  rw [hrm] at hK
  have hr1 : Rel C c1 w (gs.set k.toNat { ix gs k with rest := ix c.rest k - n }) := by
   rw [hc1]
   have := rel_spent (m := m) (n := n) (o := some sb) rfl hr hk
   rw [← hsb] at this
   exact this
  (refine Tr.enter (rs := [.tmp 4]) mixed fn11 rfl (by simp +arith [Tryz.ntmps11]) fun u => ?_; simp only [cd11, Tryz.f11])
  have hX := And.intro @pl11.eq_def hmi; repeat' (first | rintro _ _ ⟨rfl, rfl⟩ | (refine G.call 9 ?_; refine S.c ?_ (h := hcw)) | (refine G.call 39 ?_; refine S.c ?_ (h := hnx)) | refine S.x ?_ | intro hb | fail)
  obtain ⟨g1, hg1⟩ : ∃ g1 : TaskG, g1 = { ix gs k with rest := ix c.rest k - n } := ⟨_, rfl⟩
  rw [← hg1] at hr1
  have hpt1 : (gs.set k.toNat g1).map TaskG.pt = gs.map TaskG.pt := map_setE ⟨g0, g9⟩ (by rw [hg1]; rfl)
  have hs1 : slkO w.slk c1.slk = slkX sb (spendM m k n) := by rw [hsb, hc1]; rfl
  have hsi : c1.slk.isSome = true := by rw [hc1]; rfl
  have hd1 : dP c1 := by rw [hc1]; exact hd
  have hp1 : okP C c1 := by rw [hc1]; exact hp
  have hf1 : few c1 40 := by rw [hc1]; exact hf
  simp only [hsl]
  have hX := And.intro @pl11.eq_def (And.intro hsp (And.intro hmp @TaskG.pt.eq_def)); repeat' (first | rintro _ _ ⟨rfl, rfl⟩ | (refine G.call 43 ?_; refine S.c ?_ (h := xspend_ok)) | refine S.x ?_ | fail)
  refine Tr.famAt (xs := gs) k S.K (by omega) (by omega) (taskA_open ?_)
  have hpr := prog_ix hr hk
  generalize hgk : ix gs k = gk at *
  obtain ⟨gb, gps, gprog, gpos, grest, gaddr, gds, gdd, gdone⟩ := gk
  simp only at hre hpo hpr hg1
  subst hre hpo hpr
  have hsx : (gs.set k.toNat g1).map TaskG.pt = gs.map TaskG.pt := hpt1
  by_cases he : ix c.rest k - n = 0
  ·rw [if_pos he] at hK
   have hpi : 0 ≤ ix c.pos k ∧ ix c.pos k < (ix C.progs k).length := by
    rcases hr.ok.pi k with h | h
    ·exact h
    ·exact absurd hk h
   have hpl := prog_len hc hk
   have hwp : IntKind.i64.wrap (ix c.pos k + 1) = ix c.pos k + 1 := wrapId (by omega) (by omega)
   have hst := tstep_ok (g := g1) (by rw [hg1]; exact hpi.1) (by rw [hg1]; exact hpi.2)
   have hse := tset_ok (g := g1) (i := ix c.pos k + 1) (by omega) (by rw [hg1]; simp only; omega) (by rw [hg1]; simp only; omega)
   obtain ⟨g2, hg2⟩ : ∃ g2, g2 = g1.to (ix c.pos k + 1) := ⟨_, rfl⟩
   obtain ⟨c2, hc2⟩ : ∃ c2, c2 = toM C c1 k (ix c.pos k + 1) := ⟨_, rfl⟩
   have hR2 : Rch C 0 c1 c2 := by rw [hc2]; exact .to c1 k _ hk (by omega) (by omega)
   have hr2 : Rel C c2 w (gs.set k.toNat g2) := by
    have h := rel_to (i := ix c.pos k + 1) hc hr1 hk (by omega) (by omega)
    rw [ix_setR ⟨g0, g9⟩ g0, if_pos rfl, List.set_set] at h
    rw [hc2, hg2]; exact h
   have hpt2 : (gs.set k.toNat g2).map TaskG.pt = gs.map TaskG.pt := map_setE ⟨g0, g9⟩ (by rw [hg2, hgk, hg1]; rfl)
   have hsok : (ix (ix C.progs k) (ix c.pos k)).ok := (hc.pr _ (progs_in hk)).2.2 _ (List.mem_of_getElem? (ix_some hpi.1 hpi.2))
   have hcc := ccall_ok (b := b) hc hr2 hk (hR2.few (k := 22) (by unfold few at *; omega)) hsok (by rw [hR2.sk]; exact hsi) (hR2.okP hp1)
   have hR3 := Rch.trans hR2 (rch_call (c := c2) hc hk hsok (hR2.okP hp1))
   rw [← hc2] at hK
   generalize hsc : ix (ix C.progs k) (ix c.pos k) = sc at *
   obtain ⟨c3, hc3⟩ : ∃ c3, c3 = callCM C c2 k sc := ⟨_, rfl⟩
   rw [← hc3] at hcc hK hR3
   have hcs := fun w g (h : Rel C c3 w g) => csettle_ok (b := b) hc h (hR3.few (k := 8) (by unfold few at *; omega)) (hR3.dP hc hr1.ok hd1) (by rw [hR3.sk]; exact hsi)
   obtain ⟨cR, hcR⟩ : ∃ cR, cR = settleTo C 100 c3 := ⟨_, rfl⟩
   rw [← hcR] at hcs hK
   have hsx2 : ∀ sl2 : Asrt, slkO w.slk c2.slk = slkO w.slk c1.slk := fun _ => by rw [hc2]; rfl
   subst hg1
   simp only at hst hse
   rw [hsc] at hst
   have hX := And.intro @pl11.eq_def (And.intro hsp (And.intro hmp (And.intro @TaskG.pt.eq_def (And.intro hwr hwp)))); repeat' (first | rintro _ _ ⟨rfl, rfl⟩ | (refine G.call 44 ?_; refine S.c ?_ (h := hst)) | (refine G.call 45 ?_; refine S.c ?_ (h := hse)) | refine S.x ?_ | intro hb | fail)
   refine Tr.imp (l' := cellL b C c2 w (gs.set k.toNat g2) ++ F) ?_ ?_
   ·simp only [List.cons_append, List.nil_append]
    rw [hpt2, hsx2 (fact True), hs1]
    subst hc2 hc1 hg2
    have hX := And.intro @taskA.eq_def (And.intro @TaskG.to.eq_def (And.intro @toM.eq_def @spentM.eq_def))
    clear he hR2 hR3 hrm hcc
    show EntR [] _ _
    exact S.E
   clear hc1 hc2 hc3 hcR hr hr1 hrm hs1 hsl hgk hR2 hR3 hst hse hsx hsx2 hg2
   simp only [List.cons_append, List.nil_append]
   have hX := @pl11.eq_def; repeat' (first | rintro _ _ ⟨w3, g3, hr3, rfl, rfl⟩ | (refine G.call 46 ?_; refine S.c ?_ (h := hcc)) | (refine G.call 38 ?_; refine S.c ?_ (h := hcs _ _ hr3)) | refine S.x ?_ | fail)
   all_goals exact Tr.fin hK ⟨w3, g3, hr3, rfl, rfl⟩ S.E
  ·rw [if_neg he] at hK
   have hcs := csettle_ok (b := b) hc hr1 (by unfold few at *; omega) hd1 hsi
   have hX := And.intro @pl11.eq_def (And.intro hsp (And.intro hmp (And.intro @TaskG.pt.eq_def hwr))); repeat' (first | refine S.x ?_ | fail)
   refine Tr.imp (l' := cellL b C c1 w (gs.set k.toNat g1) ++ F) ?_ ?_
   ·simp only [List.cons_append, List.nil_append]
    rw [hpt1, hs1]
    subst hc1 hg1
    have hX := And.intro @taskA.eq_def @spentM.eq_def
    show EntR [] _ _
    exact S.E
   obtain ⟨cR, hcR⟩ : ∃ cR, cR = settleTo C 100 c1 := ⟨_, rfl⟩
   rw [← hcR] at hcs hK
   clear hc1 hg1 hr hr1 hrm hcR hs1 hsl hgk
   simp only [List.cons_append, List.nil_append]
   have hX := @pl11.eq_def; repeat' (first | rintro _ _ ⟨w3, g3, hr3, rfl, rfl⟩ | (refine G.call 38 ?_; refine S.c ?_ (h := hcs)) | refine S.x ?_ | fail)
   all_goals exact Tr.fin hK ⟨w3, g3, hr3, rfl, rfl⟩ S.E
end
end Go.Proofs.YtacmaamllpiloaaGreat
