import Derived.Test.YtacmaamllpiloaaGreatZ38
namespace Go.Proofs.YtacmaamllpiloaaGreat
open Go Go.Wk
set_option maxHeartbeats 3200000
set_option maxRecDepth 100000
section
variable {C : CC} {c : CM} {w : CW} {gs : List TaskG} {k wk : Int} {t : Tb}
theorem wait2_noNew (hl : inR t.d k) : noNew t (t.wait k 2 0 wk) := fun j hj => by
 rw [wait_at hl] at hj
 by_cases e : j = k
 ·rw [if_pos e] at hj
  have h1 : (t.putP { t.at k with call := 2, what := 0, wake := wk } 2).call = 2 := by unfold Tb.putP; simp
  rcases hj.2 with h | h
  ·rw [h1] at h; omega
  ·rw [h1] at h; omega
 ·rw [if_neg e] at hj; exact hj
end
attribute [local irreducible] BrK GenK EGenK EUnitK CallK FnK CallV GuardO GuardC CondW opX opK opKc chkR eqR seqK blkK endL WL WD W LoopW BinK Tr drewK resL PickK NotK NilK ExtrK getK Instr.storeAt Instr.loadAt Instr.fieldAt Instr.indexAt Instr.lookup Instr.mapUpdate Instr.box Instr.alloc Instr.build Instr.buildSlice Instr.makeSlice Instr.makeMap Instr.sliceAt Instr.field Instr.index Instr.makeInterface Instr.typeAssert Builtin.len_ Builtin.append_ Builtin.cap_ Builtin.min_ Builtin.max_ Builtin.copy_ Builtin.clear_ convert binOp mp blk rob sl sep ex fact old
attribute [local irreducible] memX portX objX slkO
section
variable {b : Nat} {C : CC} {c : CM} {w : CW} {gs : List TaskG} {k : Int} {s : StepC}
theorem cslp1 (hc : okC C) (hr : Rel C c w gs) (hk : inR C.progs k) (hf : few c 22) (_hs : s.ok) (hsl : c.slk.isSome = true) (h : s.call = 1) :
  Trip Tryz.prog 157 [ptr b, .int .i64 k, .agg (En.enc s).toArray].toArray (cellL b C c w gs)
  fun v l' => ∃ w2 gs2, Rel C (sleepM C c k s) w2 gs2 ∧ v = .tuple #[] ∧ l' = cellL b C (sleepM C c k s) w2 gs2 := by
 intro F K hK
 simp only [List.cons_append, List.nil_append] at hK ⊢
 have hf1 : few c 1 := by unfold few at *; omega
 have hf2 : few c 2 := by unfold few at *; omega
 have hf3 := hf1
 unfold few at hf3
 have h8 := hc.n8
 have htl : c.tb.d.length ≤ 1000000 := by rw [hr.ok.tb]; omega
 have hca : decide (s.call = 1) = true := by rw [h]; rfl
 have hcb : decide (s.call = 3) = false := by rw [h]; rfl
 obtain ⟨m, hm⟩ := Option.isSome_iff_exists.1 hsl
 have hpk : inR C.conf.procs.d k := by unfold inR at *; rw [hc.np]; exact hk
 obtain ⟨p0, p1⟩ := hpk
 (refine Tr.enter (rs := []) mixed fn157 rfl (by simp +arith [Tryz.ntmps157]) fun u => ?_; simp only [cd157, Tryz.f157])
 by_cases hp : 0 < (ix C.conf.procs.d k).period
 ·obtain ⟨c1, hc1⟩ : ∃ c1 : CM, c1 = setTM c k 4 := ⟨_, rfl⟩
  have hr1 : Rel C c1 w gs := by rw [hc1]; exact rel_tb hr set_len set_noNew
  have hm1 : c1.slk = some m := by rw [hc1]; exact hm
  have hsm : sleepM C c k s = restM c1 k := by unfold sleepM; rw [if_pos h, if_pos hp, hc1]
  rw [hsm] at hK
  have hcr := crest_ok (b := b) hr1 hk hm1
  have hX := And.intro @pl157.eq_def (And.intro hca hcb); repeat' (first | refine S.x ?_ | (refine G.call 150 ?_; refine S.c ?_ (h := set_ok _ _ _ _)) | rintro _ _ ⟨rfl, rfl⟩ | intro hb | fail)
  refine Tr.imp (l' := cellL b C c1 w gs ++ F) ?_ ?_
  ·subst hc1
   clear h hca hcb
   simp only [List.cons_append, List.nil_append]
   have hX := @setTM.eq_def
   show EntR [] _ _
   exact S.E
  clear hc1 hr1 hr hsm
  simp only [List.cons_append, List.nil_append]
  have hX := @pl157.eq_def; repeat' (first | rintro _ _ ⟨g3, hr3, rfl, rfl⟩ | (refine G.call 100 ?_; refine S.c ?_ (h := hcr)) | refine S.x ?_ | fail)
  all_goals exact Tr.fin hK ⟨_, g3, hr3, rfl, rfl⟩ S.E
 ·have hsm : sleepM C c k s = noteM C c k s.call 4 0 := by unfold sleepM; rw [if_pos h, if_neg hp, h]
  rw [hsm] at hK
  have hrn := fun s' => rel_note (k := k) (call := s.call) (code := 4) (value := 0) (s := s') hr
  have hX := And.intro @pl157.eq_def (And.intro hca hcb); repeat' (first | refine S.x ?_ | (refine G.call 159 ?_; refine S.c ?_ (h := ctell_ok ?_)) | rintro _ _ ⟨_, rfl, rfl⟩ | (refine G.prop ?_; assumption) | intro hb | fail)
  all_goals
   rename_i sv
   refine Tr.fin hK ⟨{ w with ev := sv }, gs, hrn sv, rfl, rfl⟩ ?_
   have hX := @noteM.eq_def
   clear h hca hcb
   simp only [List.cons_append, List.nil_append]
   exact S.E
theorem cslp3 (hc : okC C) (hr : Rel C c w gs) (hk : inR C.progs k) (hf : few c 22) (_hs : s.ok) (hsl : c.slk.isSome = true) (h : s.call = 3) :
  Trip Tryz.prog 157 [ptr b, .int .i64 k, .agg (En.enc s).toArray].toArray (cellL b C c w gs)
  fun v l' => ∃ w2 gs2, Rel C (sleepM C c k s) w2 gs2 ∧ v = .tuple #[] ∧ l' = cellL b C (sleepM C c k s) w2 gs2 := by
 intro F K hK
 simp only [List.cons_append, List.nil_append] at hK ⊢
 have hf1 : few c 1 := by unfold few at *; omega
 have hf2 : few c 2 := by unfold few at *; omega
 have hf3 := hf1
 unfold few at hf3
 have h8 := hc.n8
 have htl : c.tb.d.length ≤ 1000000 := by rw [hr.ok.tb]; omega
 have hca : decide (s.call = 1) = false := by rw [h]; rfl
 have hcb : decide (s.call = 3) = true := by rw [h]; rfl
 obtain ⟨m, hm⟩ := Option.isSome_iff_exists.1 hsl
 have hpk : inR C.conf.procs.d k := by unfold inR at *; rw [hc.np]; exact hk
 obtain ⟨p0, p1⟩ := hpk
 (refine Tr.enter (rs := []) mixed fn157 rfl (by simp +arith [Tryz.ntmps157]) fun u => ?_; simp only [cd157, Tryz.f157])
 by_cases hp : 0 < (ix C.conf.procs.d k).period
 ·have hsm : sleepM C c k s = noteM C c k s.call 4 0 := by unfold sleepM; rw [if_neg (by rw [h]; decide), if_pos h, if_pos hp, h]
  rw [hsm] at hK
  have hrn := fun s' => rel_note (k := k) (call := s.call) (code := 4) (value := 0) (s := s') hr
  have hX := And.intro @pl157.eq_def (And.intro hca hcb); repeat' (first | refine S.x ?_ | (refine G.call 159 ?_; refine S.c ?_ (h := ctell_ok ?_)) | rintro _ _ ⟨_, rfl, rfl⟩ | (refine G.prop ?_; assumption) | intro hb | fail)
  all_goals
   rename_i sv
   refine Tr.fin hK ⟨{ w with ev := sv }, gs, hrn sv, rfl, rfl⟩ ?_
   have hX := @noteM.eq_def
   clear h hca hcb
   simp only [List.cons_append, List.nil_append]
   exact S.E
 ·have hsm : sleepM C c k s = setTM (noteM C c k s.call 0 0) k 3 := by unfold sleepM; rw [if_neg (by rw [h]; decide), if_pos h, if_neg hp, h]
  rw [hsm] at hK
  have hrn := fun s' => rel_tb (rel_note (k := k) (call := s.call) (code := 0) (value := 0) (s := s') hr) (t := c.tb.set k 3) set_len set_noNew
  have hX := And.intro @pl157.eq_def (And.intro hca hcb); repeat' (first | refine S.x ?_ | (refine G.call 159 ?_; refine S.c ?_ (h := ctell_ok ?_)) | (refine G.call 150 ?_; refine S.c ?_ (h := set_ok _ _ _ _)) | rintro _ _ ⟨rfl, rfl⟩ | rintro _ _ ⟨_, rfl, rfl⟩ | (refine G.prop ?_; assumption) | intro hb | fail)
  all_goals
   rename_i sv
   refine Tr.fin hK ⟨{ w with ev := sv }, gs, hrn sv, rfl, rfl⟩ ?_
   have hX := And.intro @noteM.eq_def @setTM.eq_def
   clear h hca hcb
   simp only [List.cons_append, List.nil_append]
   exact S.E
theorem cslp2 (hc : okC C) (hr : Rel C c w gs) (hk : inR C.progs k) (hf : few c 22) (_hs : s.ok) (hsl : c.slk.isSome = true) (h : s.call = 2) :
  Trip Tryz.prog 157 [ptr b, .int .i64 k, .agg (En.enc s).toArray].toArray (cellL b C c w gs)
  fun v l' => ∃ w2 gs2, Rel C (sleepM C c k s) w2 gs2 ∧ v = .tuple #[] ∧ l' = cellL b C (sleepM C c k s) w2 gs2 := by
 intro F K hK
 simp only [List.cons_append, List.nil_append] at hK ⊢
 have hf1 : few c 1 := by unfold few at *; omega
 have hf2 : few c 2 := by unfold few at *; omega
 have hf3 := hf1
 unfold few at hf3
 have h8 := hc.n8
 have htl : c.tb.d.length ≤ 1000000 := by rw [hr.ok.tb]; omega
 have hca : decide (s.call = 1) = false := by rw [h]; rfl
 have hcb : decide (s.call = 3) = false := by rw [h]; rfl
 obtain ⟨m, hm⟩ := Option.isSome_iff_exists.1 hsl
 have hpk : inR C.conf.procs.d k := by unfold inR at *; rw [hc.np]; exact hk
 obtain ⟨p0, p1⟩ := hpk
 (refine Tr.enter (rs := []) mixed fn157 rfl (by simp +arith [Tryz.ntmps157]) fun u => ?_; simp only [cd157, Tryz.f157])
 by_cases ha : 1 ≤ s.a ∧ s.a ≤ 1000
 ·obtain ⟨a1, a2⟩ := ha
  obtain ⟨c1, hc1⟩ : ∃ c1 : CM, c1 = { c with tb := c.tb.wait k 2 0 (IntKind.i64.wrap (c.win + s.a)) } := ⟨_, rfl⟩
  have hr1 : Rel C c1 w gs := by rw [hc1]; exact rel_tb hr wait_len (wait2_noNew (tb_in hr hk))
  have hm1 : c1.slk = some m := by rw [hc1]; exact hm
  have hsm : sleepM C c k s = restM c1 k := by unfold sleepM; rw [if_neg (by rw [h]; decide), if_neg (by rw [h]; decide), if_pos ⟨a1, a2⟩, hc1]
  rw [hsm] at hK
  have hcr := crest_ok (b := b) hr1 hk hm1
  have hX := And.intro @pl157.eq_def (And.intro hca (And.intro hcb h)); repeat' (first | refine S.x ?_ | (refine G.call 229 ?_; refine S.c ?_ (h := wait_ok _ _ _ _ _ _)) | rintro _ _ ⟨rfl, rfl⟩ | intro hb | fail)
  refine Tr.imp (l' := cellL b C c1 w gs ++ F) ?_ ?_
  ·subst hc1
   clear h hca hcb
   simp only [List.cons_append, List.nil_append]
   have hX := @setTM.eq_def
   show EntR [] _ _
   exact S.E
  clear hc1 hr1 hr hsm
  simp only [List.cons_append, List.nil_append]
  have hX := @pl157.eq_def; repeat' (first | rintro _ _ ⟨g3, hr3, rfl, rfl⟩ | (refine G.call 100 ?_; refine S.c ?_ (h := hcr)) | refine S.x ?_ | fail)
  all_goals exact Tr.fin hK ⟨_, g3, hr3, rfl, rfl⟩ S.E
 ·have hsm : sleepM C c k s = noteM C c k s.call 2 0 := by unfold sleepM; rw [if_neg (by rw [h]; decide), if_neg (by rw [h]; decide), if_neg ha, h]
  rw [hsm] at hK
  have hrn := fun s' => rel_note (k := k) (call := s.call) (code := 2) (value := 0) (s := s') hr
  by_cases h4 : s.a < 1
  ·have hX := And.intro @pl157.eq_def (And.intro hca hcb); repeat' (first | refine S.x ?_ | (refine G.call 159 ?_; refine S.c ?_ (h := ctell_ok ?_)) | rintro _ _ ⟨_, rfl, rfl⟩ | (refine G.prop ?_; assumption) | intro hb | fail)
   all_goals
    rename_i sv
    refine Tr.fin hK ⟨{ w with ev := sv }, gs, hrn sv, rfl, rfl⟩ ?_
    have hX := @noteM.eq_def
    clear h hca hcb
    simp only [List.cons_append, List.nil_append]
    exact S.E
  ·have h5 : 1000 < s.a := by omega
   have hX := And.intro @pl157.eq_def (And.intro hca hcb); repeat' (first | refine S.x ?_ | (refine G.call 159 ?_; refine S.c ?_ (h := ctell_ok ?_)) | rintro _ _ ⟨_, rfl, rfl⟩ | (refine G.prop ?_; assumption) | intro hb | fail)
   all_goals
    rename_i sv
    refine Tr.fin hK ⟨{ w with ev := sv }, gs, hrn sv, rfl, rfl⟩ ?_
    have hX := @noteM.eq_def
    clear h hca hcb
    simp only [List.cons_append, List.nil_append]
    exact S.E
theorem csleep_ok (hc : okC C) (hr : Rel C c w gs) (hk : inR C.progs k) (hf : few c 22) (hs : s.ok) (hsl : c.slk.isSome = true) (h0 : 1 ≤ s.call) (h1 : s.call ≤ 3) :
  Trip Tryz.prog 157 [ptr b, .int .i64 k, .agg (En.enc s).toArray].toArray (cellL b C c w gs)
  fun v l' => ∃ w2 gs2, Rel C (sleepM C c k s) w2 gs2 ∧ v = .tuple #[] ∧ l' = cellL b C (sleepM C c k s) w2 gs2 := by
 by_cases e1 : s.call = 1
 ·exact cslp1 hc hr hk hf hs hsl e1
 ·by_cases e3 : s.call = 3
  ·exact cslp3 hc hr hk hf hs hsl e3
  ·exact cslp2 hc hr hk hf hs hsl (by omega)
end
end Go.Proofs.YtacmaamllpiloaaGreat
