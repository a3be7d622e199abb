import Derived.Test.YtacmaamllpiloaaGreatZ34
namespace Go.Proofs.YtacmaamllpiloaaGreat
open Go Go.Wk
set_option maxHeartbeats 3200000
set_option maxRecDepth 100000
section
variable {C : CC} {c : CM} {k : Int} {s : StepC}
theorem outA_false {ps : List AP} {a : Int} : outA ps a false = ps := by
 unfold outA
 split
 ·rfl
 ·rfl
theorem port_in {q : Bool} (hq : (s.call = 10 ∧ q = false) ∨ (s.call = 12 ∧ q = true)) : portM2 C c k s = if canA c.pts s.a q true = true then (if intoB c s (sizePA c.pts s.a) = true then gotsM C { c with pts := outA c.pts s.a q } k s (outDA c.pts s.a q) (outCA c.pts s.a q) else badM C c k s) else noteM C c k s.call 3 0 := by
 rcases hq with ⟨h, rfl⟩ | ⟨h, rfl⟩
 ·have h1 : decide (11 ≤ s.call) = false := by rw [h]; rfl
  have h2 : decide (s.call = 10 ∨ s.call = 12) = true := by rw [h]; rfl
  unfold portM2 gotsM
  simp only [h1, h2, if_true, Bool.false_eq_true, if_false]
  split
  ·split
   ·split
    ·rfl
    ·first | rfl | rw [if_pos h]
   ·rfl
  ·rfl
 ·have h1 : decide (11 ≤ s.call) = true := by rw [h]; rfl
  have h2 : decide (s.call = 10 ∨ s.call = 12) = true := by rw [h]; rfl
  unfold portM2 gotsM
  simp only [h1, h2, if_true]
  split
  ·split
   ·split
    ·rfl
    ·first | rfl | rw [if_neg (by rw [h]; decide)]
   ·rfl
  ·rfl
theorem port_out {q : Bool} (hq : (s.call = 9 ∧ q = false) ∨ (s.call = 11 ∧ q = true)) : portM2 C c k s = if canA c.pts s.a q false = true then (if fromB c s (sizePA c.pts s.a) = true then
      (if q = true then (if intoCA c.pts s.a q (ldB c.mem s.b s.c).length = 0 then noteM C { c with pts := intoA c.pts s.a q (ldB c.mem s.b s.c) } k s.call 0 0 else waitM C { c with pts := intoA c.pts s.a q (ldB c.mem s.b s.c) } k s (ldB c.mem s.b s.c))
       else noteM C { c with pts := intoA c.pts s.a q (ldB c.mem s.b s.c) } k s.call (intoCA c.pts s.a q (ldB c.mem s.b s.c).length) 0)
    else fromM C c k s (sizePA c.pts s.a)) else noteM C c k s.call 3 0 := by
  rcases hq with ⟨h, rfl⟩ | ⟨h, rfl⟩
  · have h1 : decide (11 ≤ s.call) = false := by rw [h]; rfl
    have h2 : decide (s.call = 10 ∨ s.call = 12) = false := by rw [h]; rfl
    unfold portM2
    simp only [h1, h2, Bool.false_eq_true, if_false]
  · have h1 : decide (11 ≤ s.call) = true := by rw [h]; rfl
    have h2 : decide (s.call = 10 ∨ s.call = 12) = false := by rw [h]; rfl
    unfold portM2
    simp only [h1, h2, if_true, Bool.false_eq_true, if_false]
end
attribute [local irreducible] BrK GenK EGenK EUnitK CallK FnK CallV GuardO GuardC CondW opX opK opKc chkR eqR seqK blkK endL WL WD W LoopW BinK Tr drewK resL PickK NotK NilK ExtrK getK Instr.storeAt Instr.loadAt Instr.fieldAt Instr.indexAt Instr.lookup Instr.mapUpdate Instr.box Instr.alloc Instr.build Instr.buildSlice Instr.makeSlice Instr.makeMap Instr.sliceAt Instr.field Instr.index Instr.makeInterface Instr.typeAssert Builtin.len_ Builtin.append_ Builtin.cap_ Builtin.min_ Builtin.max_ Builtin.copy_ Builtin.clear_ convert binOp mp blk rob sl sep ex fact old
attribute [local irreducible] memX portX objX slkO
section
variable {b : Nat} {C : CC} {c : CM} {w : CW} {gs : List TaskG} {k : Int} {s : StepC}
theorem ctraf10 (hc : okC C) (hr : Rel C c w gs) (hk : inR C.progs k) (hf : few c 2) (hs : s.ok) (_hz : sizePA c.pts s.a ≤ 300) (h : s.call = 10) :
  Trip Tryz.prog 106 [ptr b, .int .i64 k, .agg (En.enc s).toArray].toArray (cellL b C c w gs)
  fun v l' => ∃ w2 gs2, Rel C (portM2 C c k s) w2 gs2 ∧ v = .tuple #[] ∧ l' = cellL b C (portM2 C c k s) w2 gs2 := by
 intro F K hK
 simp only [List.cons_append, List.nil_append] at hK ⊢
 have hf1 : few c 1 := by unfold few at *; omega
 have hf3 := hf1
 unfold few at hf3
 have hca : decide (s.call = 10) = true := by rw [h]; rfl
 have hcb : decide (s.call = 11) = false := by rw [h]; rfl
 have hcc : decide (s.call = 12) = false := by rw [h]; rfl
 rw [port_in (q := false) (.inl ⟨h, rfl⟩)] at hK
 have ho := outA_false (ps := c.pts) (a := s.a)
 cases hcn : canA c.pts s.a false true with
 | true =>
  rw [hcn, if_pos rfl] at hK
  cases hin : intoB c s (sizePA c.pts s.a) with
  | true =>
   rw [hin, if_pos rfl] at hK
   obtain ⟨c1, hc1⟩ : ∃ c1 : CM, c1 = { c with pts := outA c.pts s.a false } := ⟨_, rfl⟩
   have hr1 : Rel C c1 w gs := by rw [hc1]; exact rel_pts hr
   have hf4 : few c1 1 := by rw [hc1]; exact hf1
   have hci := cinto_t (b := b) (C := C) (w := w) (gs := gs) (k := k) hs hin
   have hcg := fun s3 => cgot_ok (b := b) (s3 := s3) (bs := outDA c.pts s.a false) (code := outCA c.pts s.a false) hr1 hk hf4 hs
   rw [← hc1] at hK
   clear hr hr1
   (refine Tr.enter (rs := []) mixed fn106 rfl (by simp +arith [Tryz.ntmps106]) fun u => ?_; simp only [cd106, Tryz.f106])
   have hX := And.intro @pl106.eq_def (And.intro hca (And.intro hcb (And.intro hcc (And.intro hcn ho)))); repeat' (first | rintro _ _ ⟨rfl, rfl⟩ | rintro _ _ ⟨_, rfl, rfl⟩ | (refine G.call 164 ?_; refine S.c ?_ (h := hci)) | refine S.x ?_ | (refine G.call 162 ?_; first | refine S.c ?_ (h := xsize_ok) | fail) | (refine G.call 163 ?_; first | refine S.c ?_ (h := xcan_ok) | fail) | (refine G.call 165 ?_; first | refine S.c ?_ (h := xread_ok) | fail) | intro hb | fail)
   rename_i s4
   refine Tr.imp (l' := sl true s4.v (outDA c.pts s.a false) :: cellL b C c1 w gs ++ F) ?_ ?_
   ·subst hc1
    simp only [List.cons_append, List.nil_append]
    have hX := ho
    show EntR [] _ _
    exact S.E
   clear hc1 ho
   simp only [List.cons_append, List.nil_append]
   have hX := @pl106.eq_def; repeat' (first | rintro _ _ ⟨w3, g3, hr3, rfl, rfl⟩ | (refine G.call 166 ?_; refine S.c ?_ (h := hcg s4)) | refine S.x ?_ | fail)
   all_goals exact Tr.fin hK ⟨w3, g3, hr3, rfl, rfl⟩ S.E
  | false =>
   rw [hin, if_neg (by decide)] at hK
   have hci := cinto_f (b := b) hc hr hk hf hs hin
   (refine Tr.enter (rs := []) mixed fn106 rfl (by simp +arith [Tryz.ntmps106]) fun u => ?_; simp only [cd106, Tryz.f106])
   have hX := And.intro @pl106.eq_def (And.intro hca (And.intro hcb (And.intro hcc hcn))); repeat' (first | rintro _ _ ⟨rfl, rfl⟩ | rintro _ _ ⟨w3, g3, hr3, rfl, rfl⟩ | (refine G.call 164 ?_; refine S.c ?_ (h := hci)) | refine S.x ?_ | (refine G.call 162 ?_; first | refine S.c ?_ (h := xsize_ok) | fail) | (refine G.call 163 ?_; first | refine S.c ?_ (h := xcan_ok) | fail) | intro hb | fail)
   all_goals exact Tr.fin hK ⟨w3, g3, hr3, rfl, rfl⟩ S.E
 | false =>
  rw [hcn, if_neg (by decide)] at hK
  have hrn := fun s' => rel_note (k := k) (call := s.call) (code := 3) (value := 0) (s := s') hr
  (refine Tr.enter (rs := []) mixed fn106 rfl (by simp +arith [Tryz.ntmps106]) fun u => ?_; simp only [cd106, Tryz.f106])
  have hX := And.intro @pl106.eq_def (And.intro hca (And.intro hcb (And.intro hcc hcn))); repeat' (first | refine S.x ?_ | (refine G.call 162 ?_; first | refine S.c ?_ (h := xsize_ok) | fail) | (refine G.call 163 ?_; first | refine S.c ?_ (h := xcan_ok) | fail) | (refine G.call 159 ?_; refine S.c ?_ (h := ctell_ok ?_)) | rintro _ _ ⟨rfl, rfl⟩ | rintro _ _ ⟨_, rfl, rfl⟩ | (refine G.prop ?_; assumption) | intro hb | fail)
  all_goals
   rename_i sv
   refine Tr.fin hK ⟨{ w with ev := sv }, gs, hrn sv, rfl, rfl⟩ ?_
   have hX := @noteM.eq_def
   clear h hca hcb hcc
   simp only [List.cons_append, List.nil_append]
   exact S.E
theorem ctraf12 (hc : okC C) (hr : Rel C c w gs) (hk : inR C.progs k) (hf : few c 2) (hs : s.ok) (_hz : sizePA c.pts s.a ≤ 300) (h : s.call = 12) :
  Trip Tryz.prog 106 [ptr b, .int .i64 k, .agg (En.enc s).toArray].toArray (cellL b C c w gs)
  fun v l' => ∃ w2 gs2, Rel C (portM2 C c k s) w2 gs2 ∧ v = .tuple #[] ∧ l' = cellL b C (portM2 C c k s) w2 gs2 := by
 intro F K hK
 simp only [List.cons_append, List.nil_append] at hK ⊢
 have hf1 : few c 1 := by unfold few at *; omega
 have hf3 := hf1
 unfold few at hf3
 have hca : decide (s.call = 10) = false := by rw [h]; rfl
 have hcb : decide (s.call = 11) = false := by rw [h]; rfl
 have hcc : decide (s.call = 12) = true := by rw [h]; rfl
 rw [port_in (q := true) (.inr ⟨h, rfl⟩)] at hK
 have ho := outA_false (ps := c.pts) (a := s.a)
 cases hcn : canA c.pts s.a true true with
 | true =>
  rw [hcn, if_pos rfl] at hK
  cases hin : intoB c s (sizePA c.pts s.a) with
  | true =>
   rw [hin, if_pos rfl] at hK
   obtain ⟨c1, hc1⟩ : ∃ c1 : CM, c1 = { c with pts := outA c.pts s.a true } := ⟨_, rfl⟩
   have hr1 : Rel C c1 w gs := by rw [hc1]; exact rel_pts hr
   have hf4 : few c1 1 := by rw [hc1]; exact hf1
   have hci := cinto_t (b := b) (C := C) (w := w) (gs := gs) (k := k) hs hin
   have hcg := fun s3 => cgot_ok (b := b) (s3 := s3) (bs := outDA c.pts s.a true) (code := outCA c.pts s.a true) hr1 hk hf4 hs
   rw [← hc1] at hK
   clear hr hr1
   (refine Tr.enter (rs := []) mixed fn106 rfl (by simp +arith [Tryz.ntmps106]) fun u => ?_; simp only [cd106, Tryz.f106])
   have hX := And.intro @pl106.eq_def (And.intro hca (And.intro hcb (And.intro hcc (And.intro hcn ho)))); repeat' (first | rintro _ _ ⟨rfl, rfl⟩ | rintro _ _ ⟨_, rfl, rfl⟩ | (refine G.call 164 ?_; refine S.c ?_ (h := hci)) | refine S.x ?_ | (refine G.call 162 ?_; first | refine S.c ?_ (h := xsize_ok) | fail) | (refine G.call 163 ?_; first | refine S.c ?_ (h := xcan_ok) | fail) | (refine G.call 165 ?_; first | refine S.c ?_ (h := xread_ok) | fail) | (refine G.call 95 ?_; first | refine S.c ?_ (h := xrecv_ok) | fail) | intro hb | fail)
   rename_i s4
   refine Tr.imp (l' := sl true s4.v (outDA c.pts s.a true) :: cellL b C c1 w gs ++ F) ?_ ?_
   ·subst hc1
    simp only [List.cons_append, List.nil_append]
    have hX := ho
    show EntR [] _ _
    exact S.E
   clear hc1 ho
   simp only [List.cons_append, List.nil_append]
   have hX := @pl106.eq_def; repeat' (first | rintro _ _ ⟨w3, g3, hr3, rfl, rfl⟩ | (refine G.call 166 ?_; refine S.c ?_ (h := hcg s4)) | refine S.x ?_ | fail)
   all_goals exact Tr.fin hK ⟨w3, g3, hr3, rfl, rfl⟩ S.E
  | false =>
   rw [hin, if_neg (by decide)] at hK
   have hci := cinto_f (b := b) hc hr hk hf hs hin
   (refine Tr.enter (rs := []) mixed fn106 rfl (by simp +arith [Tryz.ntmps106]) fun u => ?_; simp only [cd106, Tryz.f106])
   have hX := And.intro @pl106.eq_def (And.intro hca (And.intro hcb (And.intro hcc hcn))); repeat' (first | rintro _ _ ⟨rfl, rfl⟩ | rintro _ _ ⟨w3, g3, hr3, rfl, rfl⟩ | (refine G.call 164 ?_; refine S.c ?_ (h := hci)) | refine S.x ?_ | (refine G.call 162 ?_; first | refine S.c ?_ (h := xsize_ok) | fail) | (refine G.call 163 ?_; first | refine S.c ?_ (h := xcan_ok) | fail) | intro hb | fail)
   all_goals exact Tr.fin hK ⟨w3, g3, hr3, rfl, rfl⟩ S.E
 | false =>
  rw [hcn, if_neg (by decide)] at hK
  have hrn := fun s' => rel_note (k := k) (call := s.call) (code := 3) (value := 0) (s := s') hr
  (refine Tr.enter (rs := []) mixed fn106 rfl (by simp +arith [Tryz.ntmps106]) fun u => ?_; simp only [cd106, Tryz.f106])
  have hX := And.intro @pl106.eq_def (And.intro hca (And.intro hcb (And.intro hcc hcn))); repeat' (first | refine S.x ?_ | (refine G.call 162 ?_; first | refine S.c ?_ (h := xsize_ok) | fail) | (refine G.call 163 ?_; first | refine S.c ?_ (h := xcan_ok) | fail) | (refine G.call 159 ?_; refine S.c ?_ (h := ctell_ok ?_)) | rintro _ _ ⟨rfl, rfl⟩ | rintro _ _ ⟨_, rfl, rfl⟩ | (refine G.prop ?_; assumption) | intro hb | fail)
  all_goals
   rename_i sv
   refine Tr.fin hK ⟨{ w with ev := sv }, gs, hrn sv, rfl, rfl⟩ ?_
   have hX := @noteM.eq_def
   clear h hca hcb hcc
   simp only [List.cons_append, List.nil_append]
   exact S.E
theorem ctraf9 (hc : okC C) (hr : Rel C c w gs) (hk : inR C.progs k) (hf : few c 2) (hs : s.ok) (hz : sizePA c.pts s.a ≤ 300) (h : s.call = 9) :
  Trip Tryz.prog 106 [ptr b, .int .i64 k, .agg (En.enc s).toArray].toArray (cellL b C c w gs)
  fun v l' => ∃ w2 gs2, Rel C (portM2 C c k s) w2 gs2 ∧ v = .tuple #[] ∧ l' = cellL b C (portM2 C c k s) w2 gs2 := by
 intro F K hK
 simp only [List.cons_append, List.nil_append] at hK ⊢
 have hf1 : few c 1 := by unfold few at *; omega
 have hf3 := hf1
 unfold few at hf3
 have hca : decide (s.call = 10) = false := by rw [h]; rfl
 have hcb : decide (s.call = 11) = false := by rw [h]; rfl
 have hcc : decide (s.call = 12) = false := by rw [h]; rfl
 rw [port_out (q := false) (.inl ⟨h, rfl⟩)] at hK
 cases hcn : canA c.pts s.a false false with
 | true =>
  rw [hcn, if_pos rfl] at hK
  cases hfr : fromB c s (sizePA c.pts s.a) with
  | true =>
   rw [hfr, if_pos rfl] at hK
   have hle : (ldB c.mem s.b s.c).length ≤ 300 := from_len hfr hz
   have hcf := cfrom_t (b := b) (C := C) (w := w) (gs := gs) (k := k) hs hfr
   rw [if_neg (by decide)] at hK
   have hrn := fun s' => rel_note (k := k) (call := s.call) (code := intoCA c.pts s.a false (ldB c.mem s.b s.c).length) (value := 0) (s := s') (rel_pts (ps := intoA c.pts s.a false (ldB c.mem s.b s.c)) hr)
   (refine Tr.enter (rs := []) mixed fn106 rfl (by simp +arith [Tryz.ntmps106]) fun u => ?_; simp only [cd106, Tryz.f106])
   have hX := And.intro @pl106.eq_def (And.intro hca (And.intro hcb (And.intro hcc hcn))); repeat' (first | rintro _ _ ⟨rfl, rfl⟩ | rintro _ _ ⟨_, rfl, rfl⟩ | (refine G.call 167 ?_; refine S.c ?_ (h := hcf)) | refine S.x ?_ | (refine G.call 162 ?_; first | refine S.c ?_ (h := xsize_ok) | fail) | (refine G.call 163 ?_; first | refine S.c ?_ (h := xcan_ok) | fail) | (refine G.call 159 ?_; refine S.c ?_ (h := ctell_ok ?_)) | (refine G.call 168 ?_; first | refine S.c ?_ (h := xwrite_ok (by assumption)) | fail) | (refine G.prop ?_; assumption) | intro hb | fail)
   all_goals
    rename_i s4 sv
    refine Tr.fin hK ⟨{ w with ev := sv }, gs, hrn sv, rfl, rfl⟩ ?_
    have hX := @noteM.eq_def
    clear h hca hcb hcc
    simp only [List.cons_append, List.nil_append]
    exact S.E
  | false =>
   rw [hfr, if_neg (by decide)] at hK
   have hcf := cfrom_f (b := b) hc hr hk hf hs hfr
   (refine Tr.enter (rs := []) mixed fn106 rfl (by simp +arith [Tryz.ntmps106]) fun u => ?_; simp only [cd106, Tryz.f106])
   have hX := And.intro @pl106.eq_def (And.intro hca (And.intro hcb (And.intro hcc hcn))); repeat' (first | rintro _ _ ⟨rfl, rfl⟩ | rintro _ _ ⟨s4, w3, g3, hr3, rfl, rfl⟩ | (refine G.call 167 ?_; refine S.c ?_ (h := hcf)) | refine S.x ?_ | (refine G.call 162 ?_; first | refine S.c ?_ (h := xsize_ok) | fail) | (refine G.call 163 ?_; first | refine S.c ?_ (h := xcan_ok) | fail) | intro hb | fail)
   all_goals exact Tr.fin hK ⟨w3, g3, hr3, rfl, rfl⟩ S.E
 | false =>
  rw [hcn, if_neg (by decide)] at hK
  have hrn := fun s' => rel_note (k := k) (call := s.call) (code := 3) (value := 0) (s := s') hr
  (refine Tr.enter (rs := []) mixed fn106 rfl (by simp +arith [Tryz.ntmps106]) fun u => ?_; simp only [cd106, Tryz.f106])
  have hX := And.intro @pl106.eq_def (And.intro hca (And.intro hcb (And.intro hcc hcn))); repeat' (first | refine S.x ?_ | (refine G.call 162 ?_; first | refine S.c ?_ (h := xsize_ok) | fail) | (refine G.call 163 ?_; first | refine S.c ?_ (h := xcan_ok) | fail) | (refine G.call 159 ?_; refine S.c ?_ (h := ctell_ok ?_)) | rintro _ _ ⟨rfl, rfl⟩ | rintro _ _ ⟨_, rfl, rfl⟩ | (refine G.prop ?_; assumption) | intro hb | fail)
  all_goals
   rename_i sv
   refine Tr.fin hK ⟨{ w with ev := sv }, gs, hrn sv, rfl, rfl⟩ ?_
   have hX := @noteM.eq_def
   clear h hca hcb hcc
   simp only [List.cons_append, List.nil_append]
   exact S.E
theorem ctraf11 (hc : okC C) (hr : Rel C c w gs) (hk : inR C.progs k) (hf : few c 2) (hs : s.ok) (hz : sizePA c.pts s.a ≤ 300) (h : s.call = 11) :
  Trip Tryz.prog 106 [ptr b, .int .i64 k, .agg (En.enc s).toArray].toArray (cellL b C c w gs)
  fun v l' => ∃ w2 gs2, Rel C (portM2 C c k s) w2 gs2 ∧ v = .tuple #[] ∧ l' = cellL b C (portM2 C c k s) w2 gs2 := by
 intro F K hK
 simp only [List.cons_append, List.nil_append] at hK ⊢
 have hf1 : few c 1 := by unfold few at *; omega
 have hf3 := hf1
 unfold few at hf3
 have hca : decide (s.call = 10) = false := by rw [h]; rfl
 have hcb : decide (s.call = 11) = true := by rw [h]; rfl
 have hcc : decide (s.call = 12) = false := by rw [h]; rfl
 rw [port_out (q := true) (.inr ⟨h, rfl⟩)] at hK
 cases hcn : canA c.pts s.a true false with
 | true =>
  rw [hcn, if_pos rfl] at hK
  cases hfr : fromB c s (sizePA c.pts s.a) with
  | true =>
   rw [hfr, if_pos rfl] at hK
   have hle : (ldB c.mem s.b s.c).length ≤ 300 := from_len hfr hz
   have hcf := cfrom_t (b := b) (C := C) (w := w) (gs := gs) (k := k) hs hfr
   rw [if_pos rfl] at hK
   obtain ⟨c1, hc1⟩ : ∃ c1 : CM, c1 = { c with pts := intoA c.pts s.a true (ldB c.mem s.b s.c) } := ⟨_, rfl⟩
   have hr1 : Rel C c1 w gs := by rw [hc1]; exact rel_pts hr
   have hf4 : few c1 1 := by rw [hc1]; exact hf1
   rw [← hc1] at hK
   (refine Tr.enter (rs := []) mixed fn106 rfl (by simp +arith [Tryz.ntmps106]) fun u => ?_; simp only [cd106, Tryz.f106])
   by_cases hcd : intoCA c.pts s.a true (ldB c.mem s.b s.c).length = 0
   ·rw [if_pos hcd] at hK
    have hrn := fun s' => rel_note (k := k) (call := s.call) (code := 0) (value := 0) (s := s') hr1
    have hX := And.intro @pl106.eq_def (And.intro hca (And.intro hcb (And.intro hcc hcn))); repeat' (first | rintro _ _ ⟨rfl, rfl⟩ | rintro _ _ ⟨_, rfl, rfl⟩ | (refine G.call 167 ?_; refine S.c ?_ (h := hcf)) | refine S.x ?_ | (refine G.call 162 ?_; first | refine S.c ?_ (h := xsize_ok) | fail) | (refine G.call 163 ?_; first | refine S.c ?_ (h := xcan_ok) | fail) | (refine G.call 159 ?_; refine S.c ?_ (h := ctell_ok ?_)) | (refine G.call 93 ?_; first | refine S.c ?_ (h := xsend_ok (by assumption)) | fail) | (refine G.prop ?_; assumption) | intro hb | fail)
    all_goals
     rename_i s4 sv
     refine Tr.fin hK ⟨{ w with ev := sv }, gs, hrn sv, rfl, rfl⟩ ?_
     subst hc1
     have hX := @noteM.eq_def
     clear h hca hcb hcc
     simp only [List.cons_append, List.nil_append]
     exact S.E
   ·rw [if_neg hcd] at hK
    have hcw := fun s3 => cwait_ok (b := b) (s3 := s3) (bs := ldB c.mem s.b s.c) hr1 hk hf4 hs hle
    have hX := And.intro @pl106.eq_def (And.intro hca (And.intro hcb (And.intro hcc hcn))); repeat' (first | rintro _ _ ⟨rfl, rfl⟩ | rintro _ _ ⟨s4, rfl, rfl⟩ | (refine G.call 167 ?_; refine S.c ?_ (h := hcf)) | refine S.x ?_ | (refine G.call 162 ?_; first | refine S.c ?_ (h := xsize_ok) | fail) | (refine G.call 163 ?_; first | refine S.c ?_ (h := xcan_ok) | fail) | (refine G.call 93 ?_; first | refine S.c ?_ (h := xsend_ok (by assumption)) | fail) | intro hb | fail)
    refine Tr.imp (l' := sl true s4.v (ldB c.mem s.b s.c) :: cellL b C c1 w gs ++ F) ?_ ?_
    ·subst hc1
     simp only [List.cons_append, List.nil_append]
     show EntR [] _ _
     exact S.E
    clear hc1 hr1 hr
    simp only [List.cons_append, List.nil_append]
    have hX := @pl106.eq_def; repeat' (first | rintro _ _ ⟨w3, g3, hr3, rfl, rfl⟩ | (refine G.call 169 ?_; refine S.c ?_ (h := hcw s4)) | refine S.x ?_ | fail)
    all_goals exact Tr.fin hK ⟨w3, g3, hr3, rfl, rfl⟩ S.E
  | false =>
   rw [hfr, if_neg (by decide)] at hK
   have hcf := cfrom_f (b := b) hc hr hk hf hs hfr
   (refine Tr.enter (rs := []) mixed fn106 rfl (by simp +arith [Tryz.ntmps106]) fun u => ?_; simp only [cd106, Tryz.f106])
   have hX := And.intro @pl106.eq_def (And.intro hca (And.intro hcb (And.intro hcc hcn))); repeat' (first | rintro _ _ ⟨rfl, rfl⟩ | rintro _ _ ⟨s4, w3, g3, hr3, rfl, rfl⟩ | (refine G.call 167 ?_; refine S.c ?_ (h := hcf)) | refine S.x ?_ | (refine G.call 162 ?_; first | refine S.c ?_ (h := xsize_ok) | fail) | (refine G.call 163 ?_; first | refine S.c ?_ (h := xcan_ok) | fail) | intro hb | fail)
   all_goals exact Tr.fin hK ⟨w3, g3, hr3, rfl, rfl⟩ S.E
 | false =>
  rw [hcn, if_neg (by decide)] at hK
  have hrn := fun s' => rel_note (k := k) (call := s.call) (code := 3) (value := 0) (s := s') hr
  (refine Tr.enter (rs := []) mixed fn106 rfl (by simp +arith [Tryz.ntmps106]) fun u => ?_; simp only [cd106, Tryz.f106])
  have hX := And.intro @pl106.eq_def (And.intro hca (And.intro hcb (And.intro hcc hcn))); repeat' (first | refine S.x ?_ | (refine G.call 162 ?_; first | refine S.c ?_ (h := xsize_ok) | fail) | (refine G.call 163 ?_; first | refine S.c ?_ (h := xcan_ok) | fail) | (refine G.call 159 ?_; refine S.c ?_ (h := ctell_ok ?_)) | rintro _ _ ⟨rfl, rfl⟩ | rintro _ _ ⟨_, rfl, rfl⟩ | (refine G.prop ?_; assumption) | intro hb | fail)
  all_goals
   rename_i sv
   refine Tr.fin hK ⟨{ w with ev := sv }, gs, hrn sv, rfl, rfl⟩ ?_
   have hX := @noteM.eq_def
   clear h hca hcb hcc
   simp only [List.cons_append, List.nil_append]
   exact S.E
theorem ctraffic_ok (hc : okC C) (hr : Rel C c w gs) (hk : inR C.progs k) (hf : few c 2) (hs : s.ok) (hz : sizePA c.pts s.a ≤ 300) (h0 : 9 ≤ s.call) (h1 : s.call ≤ 12) :
  Trip Tryz.prog 106 [ptr b, .int .i64 k, .agg (En.enc s).toArray].toArray (cellL b C c w gs)
  fun v l' => ∃ w2 gs2, Rel C (portM2 C c k s) w2 gs2 ∧ v = .tuple #[] ∧ l' = cellL b C (portM2 C c k s) w2 gs2 := by
 by_cases e9 : s.call = 9
 ·exact ctraf9 hc hr hk hf hs hz e9
 ·by_cases e10 : s.call = 10
  ·exact ctraf10 hc hr hk hf hs hz e10
  ·by_cases e11 : s.call = 11
   ·exact ctraf11 hc hr hk hf hs hz e11
   ·exact ctraf12 hc hr hk hf hs hz (by omega)
end
end Go.Proofs.YtacmaamllpiloaaGreat
