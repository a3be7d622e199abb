import Derived.Test.YtacmaamllpiloaaGreatIE
namespace Go.Proofs.YtacmaamllpiloaaGreat
open Go Go.Wk
set_option maxHeartbeats 3200000
set_option maxRecDepth 100000
attribute [local irreducible] BrK GenK EGenK EUnitK CallK FnK CallV GuardO GuardC CondW opX opK opKc chkR eqR seqK blkK endL WL WD W LoopW BinK Tr drewK resL PickK NotK NilK ExtrK getK Instr.storeAt Instr.loadAt Instr.fieldAt Instr.indexAt Instr.lookup Instr.mapUpdate Instr.box Instr.alloc Instr.build Instr.buildSlice Instr.makeSlice Instr.makeMap Instr.sliceAt Instr.field Instr.index Instr.makeInterface Instr.typeAssert Builtin.len_ Builtin.append_ Builtin.cap_ Builtin.min_ Builtin.max_ Builtin.copy_ Builtin.clear_ convert binOp mp blk rob sl sep ex fact old
attribute [local irreducible] memX portX objX slkO
section
variable {b : Nat} {C : CC} {c : CM} {w : CW} {gs : List TaskG} {k : Int} {s : StepC}
theorem cprc4 (hc : okC C) (hr : Rel C c w gs) (_hk : inR C.progs k) (hf : few c 22) (_hs : s.ok) (h : s.call = 4) :
  Trip Tryz.prog 105 [ptr b, .int .i64 k, .agg (En.enc s).toArray].toArray (cellL b C c w gs)
  fun v l' => ∃ w2 gs2, Rel C (othersM C c k s) w2 gs2 ∧ v = .tuple #[] ∧ l' = cellL b C (othersM C c k s) w2 gs2 := by
 intro F K hK
 simp only [List.cons_append, List.nil_append] at hK ⊢
 have hf1 : few c 1 := by unfold few at *; omega
 have hf2 : few c 2 := by unfold few at *; omega
 have hf3 := hf1
 unfold few at hf3
 have h8 := hc.n8
 have htl : c.tb.d.length ≤ 1000000 := by rw [hr.ok.tb]; omega
 have hc1 : decide (s.call = 1) = false := by rw [h]; rfl
 have hc2 : decide (s.call = 2) = false := by rw [h]; rfl
 have hc3 : decide (s.call = 3) = false := by rw [h]; rfl
 have hc4 : decide (s.call = 4) = true := by rw [h]; rfl
 have hc5 : decide (s.call = 5) = false := by rw [h]; rfl
 have hc6 : decide (s.call = 6) = false := by rw [h]; rfl
 have hc7 : decide (s.call = 7) = false := by rw [h]; rfl
 have hlg := rel_len hr
 by_cases hin : 0 ≤ s.a ∧ s.a < (C.progs.length : Int)
 ·have hia : inR C.progs s.a := hin
  have hih : (decide (0 ≤ s.a) && decide (s.a < (C.progs.length : Int))) = true := by rw [decide_eq_true hin.1, decide_eq_true hin.2]; rfl
  by_cases hak : s.a = k
  ·have hsm : othersM C c k s = noteM C c k s.call 2 0 := by
    unfold othersM; rw [if_pos (.inr (.inl ⟨h, hak⟩))]
   rw [hsm] at hK
   have hrn := fun s' => rel_note (k := k) (call := s.call) (code := 2) (value := 0) (s := s') hr
   (refine Tr.enter (rs := []) mixed fn105 rfl (by simp +arith [Tryz.ntmps105]) fun u => ?_; simp only [cd105, Tryz.f105])
   have hX := And.intro @pl105.eq_def (And.intro hc1 (And.intro hc2 (And.intro hc3 (And.intro hc4 (And.intro hc5 (And.intro hc6 (And.intro hc7 hih))))))); repeat' (first | refine S.x ?_ | (refine G.call 158 ?_; first | refine S.c ?_ (h := chas_ok ?_) | fail) | (refine G.call 159 ?_; refine S.c ?_ (h := ctell_ok ?_)) | rintro _ _ ⟨rfl, rfl⟩ | rintro _ _ ⟨_, rfl, rfl⟩ | (refine G.prop ?_; assumption) | intro hb | fail)
   all_goals
    rename_i sv
    refine Tr.fin hK ⟨{ w with ev := sv }, gs, hrn sv, rfl, rfl⟩ ?_
    have hX := @noteM.eq_def
    clear h hih hc1 hc2 hc3 hc4 hc5 hc6 hc7
    simp only [List.cons_append, List.nil_append]
    exact S.E
  ·have hbd : ¬ (¬ (0 ≤ s.a ∧ s.a < (C.progs.length : Int)) ∨ (s.call = 4 ∧ s.a = k) ∨ (s.call = 7 ∧ (s.b < 0 ∨ 63 < s.b))) := by omega
   by_cases hst : (c.tb.at s.a).state = 3
   ·have hsm : othersM C c k s = noteM C (setTM c s.a 1) k s.call 0 0 := by unfold othersM; rw [if_neg hbd, if_neg (by rw [h]; decide), if_pos ⟨h, hst⟩]
    rw [hsm] at hK
    have hrn := fun s' => rel_note (k := k) (call := s.call) (code := 0) (value := 0) (s := s') (rel_tb hr (t := c.tb.set s.a 1) set_len set_noNew)
    (refine Tr.enter (rs := []) mixed fn105 rfl (by simp +arith [Tryz.ntmps105]) fun u => ?_; simp only [cd105, Tryz.f105])
    have hX := And.intro @pl105.eq_def (And.intro hc1 (And.intro hc2 (And.intro hc3 (And.intro hc4 (And.intro hc5 (And.intro hc6 (And.intro hc7 hih))))))); repeat' (first | refine S.x ?_ | (refine G.call 158 ?_; first | refine S.c ?_ (h := chas_ok ?_) | fail) | (refine G.call 159 ?_; refine S.c ?_ (h := ctell_ok ?_)) | (refine G.call 160 ?_; refine S.c ?_ (h := state_ok _ _ _)) | (refine G.call 150 ?_; refine S.c ?_ (h := set_ok _ _ _ _)) | rintro _ _ ⟨rfl, rfl⟩ | rintro _ _ ⟨_, rfl, rfl⟩ | (refine G.prop ?_; assumption) | intro hb | fail)
    all_goals
     rename_i sv
     refine Tr.fin hK ⟨{ w with ev := sv }, gs, hrn sv, rfl, rfl⟩ ?_
     have hX := And.intro @noteM.eq_def @setTM.eq_def
     clear h hih hc1 hc2 hc3 hc4 hc5 hc6 hc7
     simp only [List.cons_append, List.nil_append]
     exact S.E
   ·have hsm : othersM C c k s = noteM C c k s.call 6 0 := by
     unfold othersM; rw [if_neg hbd, if_neg (by rw [h]; decide), if_neg (fun hh => hst hh.2), if_neg (fun hh => absurd (h.symm.trans hh.1) (by decide)), if_neg (fun hh => absurd (h.symm.trans hh.1) (by decide))]
    rw [hsm] at hK
    have hrn := fun s' => rel_note (k := k) (call := s.call) (code := 6) (value := 0) (s := s') hr
    (refine Tr.enter (rs := []) mixed fn105 rfl (by simp +arith [Tryz.ntmps105]) fun u => ?_; simp only [cd105, Tryz.f105])
    have hX := And.intro @pl105.eq_def (And.intro hc1 (And.intro hc2 (And.intro hc3 (And.intro hc4 (And.intro hc5 (And.intro hc6 (And.intro hc7 hih))))))); repeat' (first | refine S.x ?_ | (refine G.call 158 ?_; first | refine S.c ?_ (h := chas_ok ?_) | fail) | (refine G.call 159 ?_; refine S.c ?_ (h := ctell_ok ?_)) | (refine G.call 160 ?_; refine S.c ?_ (h := state_ok _ _ _)) | rintro _ _ ⟨rfl, rfl⟩ | rintro _ _ ⟨_, rfl, rfl⟩ | (refine G.prop ?_; assumption) | intro hb | fail)
    all_goals
     rename_i sv
     refine Tr.fin hK ⟨{ w with ev := sv }, gs, hrn sv, rfl, rfl⟩ ?_
     have hX := @noteM.eq_def
     clear h hih hc1 hc2 hc3 hc4 hc5 hc6 hc7
     simp only [List.cons_append, List.nil_append]
     exact S.E
 ·have hsm : othersM C c k s = noteM C c k s.call 2 0 := by unfold othersM; rw [if_pos (.inl hin)]
  rw [hsm] at hK
  have hih : (decide (0 ≤ s.a) && decide (s.a < (C.progs.length : Int))) = false := by
   rw [Bool.and_eq_false_iff, decide_eq_false_iff_not, decide_eq_false_iff_not]
   omega
  have hrn := fun s' => rel_note (k := k) (call := s.call) (code := 2) (value := 0) (s := s') hr
  (refine Tr.enter (rs := []) mixed fn105 rfl (by simp +arith [Tryz.ntmps105]) fun u => ?_; simp only [cd105, Tryz.f105])
  have hX := And.intro @pl105.eq_def (And.intro hc1 (And.intro hc2 (And.intro hc3 (And.intro hc4 (And.intro hc5 (And.intro hc6 (And.intro hc7 hih))))))); repeat' (first | refine S.x ?_ | (refine G.call 158 ?_; first | refine S.c ?_ (h := chas_ok ?_) | fail) | (refine G.call 159 ?_; refine S.c ?_ (h := ctell_ok ?_)) | rintro _ _ ⟨rfl, rfl⟩ | rintro _ _ ⟨_, rfl, rfl⟩ | (refine G.prop ?_; assumption) | intro hb | fail)
  all_goals
   rename_i sv
   refine Tr.fin hK ⟨{ w with ev := sv }, gs, hrn sv, rfl, rfl⟩ ?_
   have hX := @noteM.eq_def
   clear h hih hc1 hc2 hc3 hc4 hc5 hc6 hc7
   simp only [List.cons_append, List.nil_append]
   exact S.E
theorem cprc5 (hc : okC C) (hr : Rel C c w gs) (_hk : inR C.progs k) (hf : few c 22) (_hs : s.ok) (h : s.call = 5) :
  Trip Tryz.prog 105 [ptr b, .int .i64 k, .agg (En.enc s).toArray].toArray (cellL b C c w gs)
  fun v l' => ∃ w2 gs2, Rel C (othersM C c k s) w2 gs2 ∧ v = .tuple #[] ∧ l' = cellL b C (othersM C c k s) w2 gs2 := by
 intro F K hK
 simp only [List.cons_append, List.nil_append] at hK ⊢
 have hf1 : few c 1 := by unfold few at *; omega
 have hf2 : few c 2 := by unfold few at *; omega
 have hf3 := hf1
 unfold few at hf3
 have h8 := hc.n8
 have htl : c.tb.d.length ≤ 1000000 := by rw [hr.ok.tb]; omega
 have hc1 : decide (s.call = 1) = false := by rw [h]; rfl
 have hc2 : decide (s.call = 2) = false := by rw [h]; rfl
 have hc3 : decide (s.call = 3) = false := by rw [h]; rfl
 have hc4 : decide (s.call = 4) = false := by rw [h]; rfl
 have hc5 : decide (s.call = 5) = true := by rw [h]; rfl
 have hc6 : decide (s.call = 6) = false := by rw [h]; rfl
 have hc7 : decide (s.call = 7) = false := by rw [h]; rfl
 have hlg := rel_len hr
 by_cases hin : 0 ≤ s.a ∧ s.a < (C.progs.length : Int)
 ·have hia : inR C.progs s.a := hin
  have hih : (decide (0 ≤ s.a) && decide (s.a < (C.progs.length : Int))) = true := by rw [decide_eq_true hin.1, decide_eq_true hin.2]; rfl
  have hbd : ¬ (¬ (0 ≤ s.a ∧ s.a < (C.progs.length : Int)) ∨ (s.call = 4 ∧ s.a = k) ∨ (s.call = 7 ∧ (s.b < 0 ∨ 63 < s.b))) := by omega
  by_cases hst : (c.tb.at s.a).state = 0
  ·obtain ⟨c1, hc1'⟩ : ∃ c1 : CM, c1 = startM C c s.a c.win := ⟨_, rfl⟩
   have hsm : othersM C c k s = noteM C c1 k s.call 0 0 := by unfold othersM; rw [if_neg hbd, if_neg (by rw [h]; decide), if_neg (fun hh => absurd (h.symm.trans hh.1) (by decide)), if_pos ⟨h, hst⟩, hc1']
   rw [hsm] at hK
   have hcs := cstart_ok (b := b) (win := c.win) hc hr hia (fun hh => by have := hh.1; omega)
   have hev : c1.evs = c.evs := by rw [hc1']; unfold startM; simp only; split <;> rfl
   rw [← hc1'] at hcs
   have hf4 : c1.evs.length + 1 ≤ 1000000000000 := by rw [hev]; exact hf3
   clear hc1' hsm hev
   (refine Tr.enter (rs := []) mixed fn105 rfl (by simp +arith [Tryz.ntmps105]) fun u => ?_; simp only [cd105, Tryz.f105])
   have hX := And.intro @pl105.eq_def (And.intro hc1 (And.intro hc2 (And.intro hc3 (And.intro hc4 (And.intro hc5 (And.intro hc6 (And.intro hc7 hih))))))); repeat' (first | rintro _ _ ⟨rfl, rfl⟩ | rintro _ _ ⟨_, rfl, rfl⟩ | rintro _ _ ⟨g3, hr3, rfl, rfl⟩ | (refine G.call 59 ?_; refine S.c ?_ (h := hcs)) | refine S.x ?_ | (refine G.call 158 ?_; first | refine S.c ?_ (h := chas_ok ?_) | fail) | (refine G.call 159 ?_; refine S.c ?_ (h := ctell_ok ?_)) | (refine G.call 160 ?_; refine S.c ?_ (h := state_ok _ _ _)) | (refine G.prop ?_; assumption) | intro hb | fail)
   all_goals
    rename_i sv
    refine Tr.fin hK ⟨_, g3, rel_note (s := sv) hr3, rfl, rfl⟩ ?_
    have hX := @noteM.eq_def
    clear h hih hc1 hc2 hc3 hc4 hc5 hc6 hc7
    simp only [List.cons_append, List.nil_append]
    exact S.E
  ·have hsm : othersM C c k s = noteM C c k s.call 6 0 := by
    unfold othersM; rw [if_neg hbd, if_neg (by rw [h]; decide), if_neg (fun hh => absurd (h.symm.trans hh.1) (by decide)), if_neg (fun hh => hst hh.2), if_neg (fun hh => absurd (h.symm.trans hh.1) (by decide))]
   rw [hsm] at hK
   have hrn := fun s' => rel_note (k := k) (call := s.call) (code := 6) (value := 0) (s := s') hr
   (refine Tr.enter (rs := []) mixed fn105 rfl (by simp +arith [Tryz.ntmps105]) fun u => ?_; simp only [cd105, Tryz.f105])
   have hX := And.intro @pl105.eq_def (And.intro hc1 (And.intro hc2 (And.intro hc3 (And.intro hc4 (And.intro hc5 (And.intro hc6 (And.intro hc7 hih))))))); repeat' (first | refine S.x ?_ | (refine G.call 158 ?_; first | refine S.c ?_ (h := chas_ok ?_) | fail) | (refine G.call 159 ?_; refine S.c ?_ (h := ctell_ok ?_)) | (refine G.call 160 ?_; refine S.c ?_ (h := state_ok _ _ _)) | rintro _ _ ⟨rfl, rfl⟩ | rintro _ _ ⟨_, rfl, rfl⟩ | (refine G.prop ?_; assumption) | intro hb | fail)
   all_goals
    rename_i sv
    refine Tr.fin hK ⟨{ w with ev := sv }, gs, hrn sv, rfl, rfl⟩ ?_
    have hX := @noteM.eq_def
    clear h hih hc1 hc2 hc3 hc4 hc5 hc6 hc7
    simp only [List.cons_append, List.nil_append]
    exact S.E
 ·have hsm : othersM C c k s = noteM C c k s.call 2 0 := by unfold othersM; rw [if_pos (.inl hin)]
  rw [hsm] at hK
  have hih : (decide (0 ≤ s.a) && decide (s.a < (C.progs.length : Int))) = false := by
   rw [Bool.and_eq_false_iff, decide_eq_false_iff_not, decide_eq_false_iff_not]
   omega
  have hrn := fun s' => rel_note (k := k) (call := s.call) (code := 2) (value := 0) (s := s') hr
  (refine Tr.enter (rs := []) mixed fn105 rfl (by simp +arith [Tryz.ntmps105]) fun u => ?_; simp only [cd105, Tryz.f105])
  have hX := And.intro @pl105.eq_def (And.intro hc1 (And.intro hc2 (And.intro hc3 (And.intro hc4 (And.intro hc5 (And.intro hc6 (And.intro hc7 hih))))))); repeat' (first | refine S.x ?_ | (refine G.call 158 ?_; first | refine S.c ?_ (h := chas_ok ?_) | fail) | (refine G.call 159 ?_; refine S.c ?_ (h := ctell_ok ?_)) | rintro _ _ ⟨rfl, rfl⟩ | rintro _ _ ⟨_, rfl, rfl⟩ | (refine G.prop ?_; assumption) | intro hb | fail)
  all_goals
   rename_i sv
   refine Tr.fin hK ⟨{ w with ev := sv }, gs, hrn sv, rfl, rfl⟩ ?_
   have hX := @noteM.eq_def
   clear h hih hc1 hc2 hc3 hc4 hc5 hc6 hc7
   simp only [List.cons_append, List.nil_append]
   exact S.E
theorem cprc6 (hc : okC C) (hr : Rel C c w gs) (_hk : inR C.progs k) (hf : few c 22) (_hs : s.ok) (h : s.call = 6) :
  Trip Tryz.prog 105 [ptr b, .int .i64 k, .agg (En.enc s).toArray].toArray (cellL b C c w gs)
  fun v l' => ∃ w2 gs2, Rel C (othersM C c k s) w2 gs2 ∧ v = .tuple #[] ∧ l' = cellL b C (othersM C c k s) w2 gs2 := by
 intro F K hK
 simp only [List.cons_append, List.nil_append] at hK ⊢
 have hf1 : few c 1 := by unfold few at *; omega
 have hf2 : few c 2 := by unfold few at *; omega
 have hf3 := hf1
 unfold few at hf3
 have h8 := hc.n8
 have htl : c.tb.d.length ≤ 1000000 := by rw [hr.ok.tb]; omega
 have hc1 : decide (s.call = 1) = false := by rw [h]; rfl
 have hc2 : decide (s.call = 2) = false := by rw [h]; rfl
 have hc3 : decide (s.call = 3) = false := by rw [h]; rfl
 have hc4 : decide (s.call = 4) = false := by rw [h]; rfl
 have hc5 : decide (s.call = 5) = false := by rw [h]; rfl
 have hc6 : decide (s.call = 6) = true := by rw [h]; rfl
 have hc7 : decide (s.call = 7) = false := by rw [h]; rfl
 have hlg := rel_len hr
 by_cases hin : 0 ≤ s.a ∧ s.a < (C.progs.length : Int)
 ·have hia : inR C.progs s.a := hin
  have hih : (decide (0 ≤ s.a) && decide (s.a < (C.progs.length : Int))) = true := by rw [decide_eq_true hin.1, decide_eq_true hin.2]; rfl
  have hbd : ¬ (¬ (0 ≤ s.a ∧ s.a < (C.progs.length : Int)) ∨ (s.call = 4 ∧ s.a = k) ∨ (s.call = 7 ∧ (s.b < 0 ∨ 63 < s.b))) := by omega
  by_cases hst : (c.tb.at s.a).state = 0
  ·have hsm : othersM C c k s = noteM C c k s.call 6 0 := by
    unfold othersM; rw [if_neg hbd, if_neg (by rw [h]; decide), if_neg (fun hh => absurd (h.symm.trans hh.1) (by decide)), if_neg (fun hh => absurd (h.symm.trans hh.1) (by decide)), if_neg (fun hh => hh.2 hst)]
   rw [hsm] at hK
   have hrn := fun s' => rel_note (k := k) (call := s.call) (code := 6) (value := 0) (s := s') hr
   (refine Tr.enter (rs := []) mixed fn105 rfl (by simp +arith [Tryz.ntmps105]) fun u => ?_; simp only [cd105, Tryz.f105])
   have hX := And.intro @pl105.eq_def (And.intro hc1 (And.intro hc2 (And.intro hc3 (And.intro hc4 (And.intro hc5 (And.intro hc6 (And.intro hc7 hih))))))); repeat' (first | refine S.x ?_ | (refine G.call 158 ?_; first | refine S.c ?_ (h := chas_ok ?_) | fail) | (refine G.call 159 ?_; refine S.c ?_ (h := ctell_ok ?_)) | (refine G.call 160 ?_; refine S.c ?_ (h := state_ok _ _ _)) | rintro _ _ ⟨rfl, rfl⟩ | rintro _ _ ⟨_, rfl, rfl⟩ | (refine G.prop ?_; assumption) | intro hb | fail)
   all_goals
    rename_i sv
    refine Tr.fin hK ⟨{ w with ev := sv }, gs, hrn sv, rfl, rfl⟩ ?_
    have hX := @noteM.eq_def
    clear h hih hc1 hc2 hc3 hc4 hc5 hc6 hc7
    simp only [List.cons_append, List.nil_append]
    exact S.E
  ·obtain ⟨c1, hc1'⟩ : ∃ c1 : CM, c1 = setTM c s.a 0 := ⟨_, rfl⟩
   have hsm : othersM C c k s = noteM C c1 k s.call 0 0 := by unfold othersM; rw [if_neg hbd, if_neg (by rw [h]; decide), if_neg (fun hh => absurd (h.symm.trans hh.1) (by decide)), if_neg (fun hh => absurd (h.symm.trans hh.1) (by decide)), if_pos ⟨h, hst⟩, hc1']
   rw [hsm] at hK
   have hcs := cstop_ok (b := b) hr hia
   rw [← hc1'] at hcs
   have hf4 : c1.evs.length + 1 ≤ 1000000000000 := by rw [hc1']; exact hf3
   clear hc1' hsm
   (refine Tr.enter (rs := []) mixed fn105 rfl (by simp +arith [Tryz.ntmps105]) fun u => ?_; simp only [cd105, Tryz.f105])
   have hX := And.intro @pl105.eq_def (And.intro hc1 (And.intro hc2 (And.intro hc3 (And.intro hc4 (And.intro hc5 (And.intro hc6 (And.intro hc7 hih))))))); repeat' (first | rintro _ _ ⟨rfl, rfl⟩ | rintro _ _ ⟨_, rfl, rfl⟩ | rintro _ _ ⟨g3, hr3, rfl, rfl⟩ | (refine G.call 144 ?_; refine S.c ?_ (h := hcs)) | refine S.x ?_ | (refine G.call 158 ?_; first | refine S.c ?_ (h := chas_ok ?_) | fail) | (refine G.call 159 ?_; refine S.c ?_ (h := ctell_ok ?_)) | (refine G.call 160 ?_; refine S.c ?_ (h := state_ok _ _ _)) | (refine G.prop ?_; assumption) | intro hb | fail)
   all_goals
    rename_i sv
    refine Tr.fin hK ⟨_, g3, rel_note (s := sv) hr3, rfl, rfl⟩ ?_
    have hX := @noteM.eq_def
    clear h hih hc1 hc2 hc3 hc4 hc5 hc6 hc7
    simp only [List.cons_append, List.nil_append]
    exact S.E
 ·have hsm : othersM C c k s = noteM C c k s.call 2 0 := by unfold othersM; rw [if_pos (.inl hin)]
  rw [hsm] at hK
  have hih : (decide (0 ≤ s.a) && decide (s.a < (C.progs.length : Int))) = false := by
   rw [Bool.and_eq_false_iff, decide_eq_false_iff_not, decide_eq_false_iff_not]
   omega
  have hrn := fun s' => rel_note (k := k) (call := s.call) (code := 2) (value := 0) (s := s') hr
  (refine Tr.enter (rs := []) mixed fn105 rfl (by simp +arith [Tryz.ntmps105]) fun u => ?_; simp only [cd105, Tryz.f105])
  have hX := And.intro @pl105.eq_def (And.intro hc1 (And.intro hc2 (And.intro hc3 (And.intro hc4 (And.intro hc5 (And.intro hc6 (And.intro hc7 hih))))))); repeat' (first | refine S.x ?_ | (refine G.call 158 ?_; first | refine S.c ?_ (h := chas_ok ?_) | fail) | (refine G.call 159 ?_; refine S.c ?_ (h := ctell_ok ?_)) | rintro _ _ ⟨rfl, rfl⟩ | rintro _ _ ⟨_, rfl, rfl⟩ | (refine G.prop ?_; assumption) | intro hb | fail)
  all_goals
   rename_i sv
   refine Tr.fin hK ⟨{ w with ev := sv }, gs, hrn sv, rfl, rfl⟩ ?_
   have hX := @noteM.eq_def
   clear h hih hc1 hc2 hc3 hc4 hc5 hc6 hc7
   simp only [List.cons_append, List.nil_append]
   exact S.E
theorem cprc7 (hc : okC C) (hr : Rel C c w gs) (_hk : inR C.progs k) (hf : few c 22) (_hs : s.ok) (h : s.call = 7) :
  Trip Tryz.prog 105 [ptr b, .int .i64 k, .agg (En.enc s).toArray].toArray (cellL b C c w gs)
  fun v l' => ∃ w2 gs2, Rel C (othersM C c k s) w2 gs2 ∧ v = .tuple #[] ∧ l' = cellL b C (othersM C c k s) w2 gs2 := by
 intro F K hK
 simp only [List.cons_append, List.nil_append] at hK ⊢
 have hf1 : few c 1 := by unfold few at *; omega
 have hf2 : few c 2 := by unfold few at *; omega
 have hf3 := hf1
 unfold few at hf3
 have h8 := hc.n8
 have htl : c.tb.d.length ≤ 1000000 := by rw [hr.ok.tb]; omega
 have hc1 : decide (s.call = 1) = false := by rw [h]; rfl
 have hc2 : decide (s.call = 2) = false := by rw [h]; rfl
 have hc3 : decide (s.call = 3) = false := by rw [h]; rfl
 have hc4 : decide (s.call = 4) = false := by rw [h]; rfl
 have hc5 : decide (s.call = 5) = false := by rw [h]; rfl
 have hc6 : decide (s.call = 6) = false := by rw [h]; rfl
 have hc7 : decide (s.call = 7) = true := by rw [h]; rfl
 have hlg := rel_len hr
 by_cases hin : 0 ≤ s.a ∧ s.a < (C.progs.length : Int)
 ·have hia : inR C.progs s.a := hin
  have hih : (decide (0 ≤ s.a) && decide (s.a < (C.progs.length : Int))) = true := by rw [decide_eq_true hin.1, decide_eq_true hin.2]; rfl
  by_cases hb1 : s.b < 0
  ·have hsm : othersM C c k s = noteM C c k s.call 2 0 := by
    unfold othersM; rw [if_pos (.inr (.inr ⟨h, .inl hb1⟩))]
   rw [hsm] at hK
   have hrn := fun s' => rel_note (k := k) (call := s.call) (code := 2) (value := 0) (s := s') hr
   (refine Tr.enter (rs := []) mixed fn105 rfl (by simp +arith [Tryz.ntmps105]) fun u => ?_; simp only [cd105, Tryz.f105])
   have hX := And.intro @pl105.eq_def (And.intro hc1 (And.intro hc2 (And.intro hc3 (And.intro hc4 (And.intro hc5 (And.intro hc6 (And.intro hc7 hih))))))); repeat' (first | refine S.x ?_ | (refine G.call 158 ?_; first | refine S.c ?_ (h := chas_ok ?_) | fail) | (refine G.call 159 ?_; refine S.c ?_ (h := ctell_ok ?_)) | rintro _ _ ⟨rfl, rfl⟩ | rintro _ _ ⟨_, rfl, rfl⟩ | (refine G.prop ?_; assumption) | intro hb | fail)
   all_goals
    rename_i sv
    refine Tr.fin hK ⟨{ w with ev := sv }, gs, hrn sv, rfl, rfl⟩ ?_
    have hX := @noteM.eq_def
    clear h hih hc1 hc2 hc3 hc4 hc5 hc6 hc7
    simp only [List.cons_append, List.nil_append]
    exact S.E
  ·by_cases hb2 : 63 < s.b
   ·have hsm : othersM C c k s = noteM C c k s.call 2 0 := by
     unfold othersM; rw [if_pos (.inr (.inr ⟨h, .inr hb2⟩))]
    rw [hsm] at hK
    have hrn := fun s' => rel_note (k := k) (call := s.call) (code := 2) (value := 0) (s := s') hr
    (refine Tr.enter (rs := []) mixed fn105 rfl (by simp +arith [Tryz.ntmps105]) fun u => ?_; simp only [cd105, Tryz.f105])
    have hX := And.intro @pl105.eq_def (And.intro hc1 (And.intro hc2 (And.intro hc3 (And.intro hc4 (And.intro hc5 (And.intro hc6 (And.intro hc7 hih))))))); repeat' (first | refine S.x ?_ | (refine G.call 158 ?_; first | refine S.c ?_ (h := chas_ok ?_) | fail) | (refine G.call 159 ?_; refine S.c ?_ (h := ctell_ok ?_)) | rintro _ _ ⟨rfl, rfl⟩ | rintro _ _ ⟨_, rfl, rfl⟩ | (refine G.prop ?_; assumption) | intro hb | fail)
    all_goals
     rename_i sv
     refine Tr.fin hK ⟨{ w with ev := sv }, gs, hrn sv, rfl, rfl⟩ ?_
     have hX := @noteM.eq_def
     clear h hih hc1 hc2 hc3 hc4 hc5 hc6 hc7
     simp only [List.cons_append, List.nil_append]
     exact S.E
   ·have hbd : ¬ (¬ (0 ≤ s.a ∧ s.a < (C.progs.length : Int)) ∨ (s.call = 4 ∧ s.a = k) ∨ (s.call = 7 ∧ (s.b < 0 ∨ 63 < s.b))) := by omega
    by_cases hst : (c.tb.at s.a).state = 0
    ·have hsm : othersM C c k s = noteM C c k s.call 4 0 := by
      unfold othersM; rw [if_neg hbd, if_pos h, if_pos hst]
     rw [hsm] at hK
     have hrn := fun s' => rel_note (k := k) (call := s.call) (code := 4) (value := 0) (s := s') hr
     (refine Tr.enter (rs := []) mixed fn105 rfl (by simp +arith [Tryz.ntmps105]) fun u => ?_; simp only [cd105, Tryz.f105])
     have hX := And.intro @pl105.eq_def (And.intro hc1 (And.intro hc2 (And.intro hc3 (And.intro hc4 (And.intro hc5 (And.intro hc6 (And.intro hc7 hih))))))); repeat' (first | refine S.x ?_ | (refine G.call 158 ?_; first | refine S.c ?_ (h := chas_ok ?_) | fail) | (refine G.call 159 ?_; refine S.c ?_ (h := ctell_ok ?_)) | (refine G.call 160 ?_; refine S.c ?_ (h := state_ok _ _ _)) | rintro _ _ ⟨rfl, rfl⟩ | rintro _ _ ⟨_, rfl, rfl⟩ | (refine G.prop ?_; assumption) | intro hb | fail)
     all_goals
      rename_i sv
      refine Tr.fin hK ⟨{ w with ev := sv }, gs, hrn sv, rfl, rfl⟩ ?_
      have hX := @noteM.eq_def
      clear h hih hc1 hc2 hc3 hc4 hc5 hc6 hc7
      simp only [List.cons_append, List.nil_append]
      exact S.E
    ·have hsm : othersM C c k s = noteM C { c with tb := c.tb.rank s.a s.b } k s.call 0 0 := by unfold othersM; rw [if_neg hbd, if_pos h, if_neg hst]
     rw [hsm] at hK
     have hrn := fun s' => rel_note (k := k) (call := s.call) (code := 0) (value := 0) (s := s') (rel_tb hr (t := c.tb.rank s.a s.b) rank_len rank_noNew)
     (refine Tr.enter (rs := []) mixed fn105 rfl (by simp +arith [Tryz.ntmps105]) fun u => ?_; simp only [cd105, Tryz.f105])
     have hX := And.intro @pl105.eq_def (And.intro hc1 (And.intro hc2 (And.intro hc3 (And.intro hc4 (And.intro hc5 (And.intro hc6 (And.intro hc7 hih))))))); repeat' (first | refine S.x ?_ | (refine G.call 158 ?_; first | refine S.c ?_ (h := chas_ok ?_) | fail) | (refine G.call 159 ?_; refine S.c ?_ (h := ctell_ok ?_)) | (refine G.call 160 ?_; refine S.c ?_ (h := state_ok _ _ _)) | (refine G.call 161 ?_; refine S.c ?_ (h := rank_ok _ _ _ _)) | rintro _ _ ⟨rfl, rfl⟩ | rintro _ _ ⟨_, rfl, rfl⟩ | (refine G.prop ?_; assumption) | intro hb | fail)
     all_goals
      rename_i sv
      refine Tr.fin hK ⟨{ w with ev := sv }, gs, hrn sv, rfl, rfl⟩ ?_
      have hX := @noteM.eq_def
      clear h hih hc1 hc2 hc3 hc4 hc5 hc6 hc7
      simp only [List.cons_append, List.nil_append]
      exact S.E
 ·have hsm : othersM C c k s = noteM C c k s.call 2 0 := by unfold othersM; rw [if_pos (.inl hin)]
  rw [hsm] at hK
  have hih : (decide (0 ≤ s.a) && decide (s.a < (C.progs.length : Int))) = false := by
   rw [Bool.and_eq_false_iff, decide_eq_false_iff_not, decide_eq_false_iff_not]
   omega
  have hrn := fun s' => rel_note (k := k) (call := s.call) (code := 2) (value := 0) (s := s') hr
  (refine Tr.enter (rs := []) mixed fn105 rfl (by simp +arith [Tryz.ntmps105]) fun u => ?_; simp only [cd105, Tryz.f105])
  have hX := And.intro @pl105.eq_def (And.intro hc1 (And.intro hc2 (And.intro hc3 (And.intro hc4 (And.intro hc5 (And.intro hc6 (And.intro hc7 hih))))))); repeat' (first | refine S.x ?_ | (refine G.call 158 ?_; first | refine S.c ?_ (h := chas_ok ?_) | fail) | (refine G.call 159 ?_; refine S.c ?_ (h := ctell_ok ?_)) | rintro _ _ ⟨rfl, rfl⟩ | rintro _ _ ⟨_, rfl, rfl⟩ | (refine G.prop ?_; assumption) | intro hb | fail)
  all_goals
   rename_i sv
   refine Tr.fin hK ⟨{ w with ev := sv }, gs, hrn sv, rfl, rfl⟩ ?_
   have hX := @noteM.eq_def
   clear h hih hc1 hc2 hc3 hc4 hc5 hc6 hc7
   simp only [List.cons_append, List.nil_append]
   exact S.E
theorem cprocess_ok (hc : okC C) (hr : Rel C c w gs) (hk : inR C.progs k) (hf : few c 22) (hs : s.ok) (hsl : c.slk.isSome = true) (h0 : 1 ≤ s.call) (h1 : s.call ≤ 7) :
  Trip Tryz.prog 105 [ptr b, .int .i64 k, .agg (En.enc s).toArray].toArray (cellL b C c w gs)
  fun v l' => ∃ w2 gs2, Rel C (if s.call ≤ 3 then sleepM C c k s else othersM C c k s) w2 gs2 ∧ v = .tuple #[] ∧ l' = cellL b C (if s.call ≤ 3 then sleepM C c k s else othersM C c k s) w2 gs2 := by
 by_cases e3 : s.call ≤ 3
 ·simp only [if_pos e3]
  have hcs := csleep_ok (b := b) hc hr hk hf hs hsl h0 e3
  intro F K hK
  simp only [List.cons_append, List.nil_append] at hK ⊢
  (refine Tr.enter (rs := []) mixed fn105 rfl (by simp +arith [Tryz.ntmps105]) fun u => ?_; simp only [cd105, Tryz.f105])
  by_cases e1 : s.call = 1
  ·have hX := @pl105.eq_def; repeat' (first | rintro _ _ ⟨w3, g3, hr3, rfl, rfl⟩ | (refine G.call 157 ?_; refine S.c ?_ (h := hcs)) | refine S.x ?_ | intro hb | fail)
   all_goals exact Tr.fin hK ⟨w3, g3, hr3, rfl, rfl⟩ S.E
  ·by_cases e2 : s.call = 2
   ·have hX := @pl105.eq_def; repeat' (first | rintro _ _ ⟨w3, g3, hr3, rfl, rfl⟩ | (refine G.call 157 ?_; refine S.c ?_ (h := hcs)) | refine S.x ?_ | intro hb | fail)
    all_goals exact Tr.fin hK ⟨w3, g3, hr3, rfl, rfl⟩ S.E
   ·have e4 : s.call = 3 := by omega
    have hX := @pl105.eq_def; repeat' (first | rintro _ _ ⟨w3, g3, hr3, rfl, rfl⟩ | (refine G.call 157 ?_; refine S.c ?_ (h := hcs)) | refine S.x ?_ | intro hb | fail)
    all_goals exact Tr.fin hK ⟨w3, g3, hr3, rfl, rfl⟩ S.E
 ·simp only [if_neg e3]
  by_cases e4 : s.call = 4
  ·exact cprc4 hc hr hk hf hs e4
  ·by_cases e5 : s.call = 5
   ·exact cprc5 hc hr hk hf hs e5
   ·by_cases e6 : s.call = 6
    ·exact cprc6 hc hr hk hf hs e6
    ·exact cprc7 hc hr hk hf hs (by omega)
end
end Go.Proofs.YtacmaamllpiloaaGreat
