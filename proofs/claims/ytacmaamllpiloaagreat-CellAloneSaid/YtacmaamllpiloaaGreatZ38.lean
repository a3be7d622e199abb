import Derived.Test.YtacmaamllpiloaaGreatJY
namespace Go.Proofs.YtacmaamllpiloaaGreat
open Go Go.Wk
set_option maxHeartbeats 3200000
set_option maxRecDepth 100000
attribute [local irreducible] BrK GenK EGenK EUnitK CallK FnK CallV GuardO GuardC CondW opX opK opKc chkR eqR seqK blkK endL WL WD W LoopW BinK Tr drewK resL PickK NotK NilK ExtrK getK Instr.storeAt Instr.loadAt Instr.fieldAt Instr.indexAt Instr.lookup Instr.mapUpdate Instr.box Instr.alloc Instr.build Instr.buildSlice Instr.makeSlice Instr.makeMap Instr.sliceAt Instr.field Instr.index Instr.makeInterface Instr.typeAssert Builtin.len_ Builtin.append_ Builtin.cap_ Builtin.min_ Builtin.max_ Builtin.copy_ Builtin.clear_ convert binOp mp blk rob sl sep ex fact old
attribute [local irreducible] memX portX objX slkO
section
variable {b : Nat} {C : CC} {c : CM} {w : CW} {gs : List TaskG} {k : Int} {s : StepC}
theorem cslate22 (hc : okC C) (hr : Rel C c w gs) (hk : inR C.progs k) (hf : few c 22) (hs : s.ok) (hz : ix C.conf.slates.d s.a ≤ 300) (h : s.call = 22) :
  Trip Tryz.prog 109 [ptr b, .int .i64 k, .agg (En.enc s).toArray].toArray (cellL b C c w gs)
  fun v l' => ∃ w2 gs2, Rel C (slateCM C c k s) w2 gs2 ∧ v = .tuple #[] ∧ l' = cellL b C (slateCM C c k s) w2 gs2 := by
 intro F K hK
 simp only [List.cons_append, List.nil_append] at hK ⊢
 refine Tr.okX (b := w.obs) (c := C.conf) (o := c.obs) S.K fun hoo => ?_
 have hf1 : few c 1 := by unfold few at *; omega
 have hf2 : few c 2 := by unfold few at *; omega
 have hf3 := hf1
 unfold few at hf3
 have h8 := hc.n8
 have htl : c.tb.d.length ≤ 1000000 := by rw [hr.ok.tb]; omega
 have hca : decide (s.call = 22) = true := by rw [h]; rfl
 have hcb : decide (s.call = 21) = false := by rw [h]; rfl
 by_cases hrg : 0 ≤ s.a ∧ s.a < (C.conf.slates.d.length : Int) ∧ s.a < 4
 ·obtain ⟨hir, hiz⟩ := okO_slate hoo hrg
  obtain ⟨r1, r2, r3⟩ := hrg
  have hth : (decide (0 ≤ s.a) && decide (s.a < (if (4 : Int) < (C.conf.slates.d.length : Int) then 4 else (C.conf.slates.d.length : Int)))) = true := by
   rw [Bool.and_eq_true, decide_eq_true_eq, decide_eq_true_eq]
   by_cases h5 : (4 : Int) < (C.conf.slates.d.length : Int)
   ·rw [if_pos h5]; omega
   ·rw [if_neg h5]; omega
  have hsz : sizeMC c.obs.pools c.obs.slates s.a 0 = ix C.conf.slates.d s.a := by
   unfold sizeMC
   rw [if_pos r1, if_pos hir, hiz]
  obtain ⟨sz, hsz2⟩ : ∃ sz, sz = ix C.conf.slates.d s.a := ⟨_, rfl⟩
  rw [← hsz2] at hsz hz
  have hsm : slateCM C c k s = noteM C { c with obs := { c.obs with slates := wipeMs c.obs.slates s.a } } k s.call (wipeMC c.obs.slates s.a) 0 := by
   unfold slateCM
   rw [if_pos ⟨r1, r2, r3⟩]
   simp only
   rw [if_pos h, h]
  rw [hsm] at hK
  have hrn := fun s' => rel_note (k := k) (call := s.call) (code := wipeMC c.obs.slates s.a) (value := 0) (s := s') (rel_obs (o := { c.obs with slates := wipeMs c.obs.slates s.a }) hr)
  (refine Tr.enter (rs := []) mixed fn109 rfl (by simp +arith [Tryz.ntmps109]) fun u => ?_; simp only [cd109, Tryz.f109])
  have hX := And.intro @pl109.eq_def (And.intro hca (And.intro hcb (And.intro hth hsz))); repeat' (first | refine S.x ?_ | (refine G.call 176 ?_; refine S.c ?_ (h := cthere_ok)) | (refine G.call 159 ?_; refine S.c ?_ (h := ctell_ok ?_)) | (refine G.call 175 ?_; first | refine S.c ?_ (h := xosize_ok) | fail) | (refine G.call 180 ?_; first | refine S.c ?_ (h := xwipe_ok) | fail) | rintro _ _ ⟨rfl, rfl⟩ | rintro _ _ ⟨_, rfl, rfl⟩ | (refine G.prop ?_; assumption) | intro hb | fail)
  all_goals
   rename_i sv
   refine Tr.fin hK ⟨{ w with ev := sv }, gs, hrn sv, rfl, rfl⟩ ?_
   have hX := @noteM.eq_def
   clear h hca hcb hth hsz
   simp only [List.cons_append, List.nil_append]
   exact S.E
 ·have hsm : slateCM C c k s = noteM C c k s.call 3 0 := by unfold slateCM; rw [if_neg hrg]
  rw [hsm] at hK
  have hrn := fun s' => rel_note (k := k) (call := s.call) (code := 3) (value := 0) (s := s') hr
  have hth : (decide (0 ≤ s.a) && decide (s.a < (if (4 : Int) < (C.conf.slates.d.length : Int) then 4 else (C.conf.slates.d.length : Int)))) = false := by
   rw [Bool.and_eq_false_iff, decide_eq_false_iff_not, decide_eq_false_iff_not]
   by_cases h5 : (4 : Int) < (C.conf.slates.d.length : Int)
   ·rw [if_pos h5]; omega
   ·rw [if_neg h5]; omega
  (refine Tr.enter (rs := []) mixed fn109 rfl (by simp +arith [Tryz.ntmps109]) fun u => ?_; simp only [cd109, Tryz.f109])
  have hX := And.intro @pl109.eq_def (And.intro hca (And.intro hcb hth)); repeat' (first | refine S.x ?_ | (refine G.call 176 ?_; refine S.c ?_ (h := cthere_ok)) | (refine G.call 159 ?_; refine S.c ?_ (h := ctell_ok ?_)) | rintro _ _ ⟨rfl, rfl⟩ | rintro _ _ ⟨_, rfl, rfl⟩ | (refine G.prop ?_; assumption) | intro hb | fail)
  all_goals
   rename_i sv
   refine Tr.fin hK ⟨{ w with ev := sv }, gs, hrn sv, rfl, rfl⟩ ?_
   have hX := @noteM.eq_def
   clear h hca hcb hth
   simp only [List.cons_append, List.nil_append]
   exact S.E
theorem cslate21 (hc : okC C) (hr : Rel C c w gs) (hk : inR C.progs k) (hf : few c 22) (hs : s.ok) (hz : ix C.conf.slates.d s.a ≤ 300) (h : s.call = 21) :
  Trip Tryz.prog 109 [ptr b, .int .i64 k, .agg (En.enc s).toArray].toArray (cellL b C c w gs)
  fun v l' => ∃ w2 gs2, Rel C (slateCM C c k s) w2 gs2 ∧ v = .tuple #[] ∧ l' = cellL b C (slateCM C c k s) w2 gs2 := by
 intro F K hK
 simp only [List.cons_append, List.nil_append] at hK ⊢
 refine Tr.okX (b := w.obs) (c := C.conf) (o := c.obs) S.K fun hoo => ?_
 have hf1 : few c 1 := by unfold few at *; omega
 have hf2 : few c 2 := by unfold few at *; omega
 have hf3 := hf1
 unfold few at hf3
 have h8 := hc.n8
 have htl : c.tb.d.length ≤ 1000000 := by rw [hr.ok.tb]; omega
 have hca : decide (s.call = 22) = false := by rw [h]; rfl
 have hcb : decide (s.call = 21) = true := by rw [h]; rfl
 by_cases hrg : 0 ≤ s.a ∧ s.a < (C.conf.slates.d.length : Int) ∧ s.a < 4
 ·obtain ⟨hir, hiz⟩ := okO_slate hoo hrg
  obtain ⟨r1, r2, r3⟩ := hrg
  have hth : (decide (0 ≤ s.a) && decide (s.a < (if (4 : Int) < (C.conf.slates.d.length : Int) then 4 else (C.conf.slates.d.length : Int)))) = true := by
   rw [Bool.and_eq_true, decide_eq_true_eq, decide_eq_true_eq]
   by_cases h5 : (4 : Int) < (C.conf.slates.d.length : Int)
   ·rw [if_pos h5]; omega
   ·rw [if_neg h5]; omega
  have hsz : sizeMC c.obs.pools c.obs.slates s.a 0 = ix C.conf.slates.d s.a := by
   unfold sizeMC
   rw [if_pos r1, if_pos hir, hiz]
  obtain ⟨sz, hsz2⟩ : ∃ sz, sz = ix C.conf.slates.d s.a := ⟨_, rfl⟩
  rw [← hsz2] at hsz hz
  have hsm : slateCM C c k s = if intoB c s sz = true then gotsM C c k s (lookMD c.obs.slates s.a) (lookMC c.obs.slates s.a) else badM C c k s := by
   unfold slateCM gotsM
   rw [if_pos ⟨r1, r2, r3⟩, ← hsz2]
   simp only
   rw [if_neg (by rw [h]; decide), if_pos h, if_neg (show ¬ s.call = 10 by rw [h]; decide)]
  rw [hsm] at hK
  clear hsm hsz2
  cases hin : intoB c s sz with
  | true =>
   rw [hin, if_pos rfl] at hK
   have hci := cinto_t (b := b) (C := C) (w := w) (gs := gs) (k := k) hs hin
   have hcg := fun s3 => cgot_ok (b := b) (s3 := s3) (bs := lookMD c.obs.slates s.a) (code := lookMC c.obs.slates s.a) hr hk hf1 hs
   (refine Tr.enter (rs := []) mixed fn109 rfl (by simp +arith [Tryz.ntmps109]) fun u => ?_; simp only [cd109, Tryz.f109])
   have hX := And.intro @pl109.eq_def (And.intro hca (And.intro hcb (And.intro hth hsz))); repeat' (first | rintro _ _ ⟨rfl, rfl⟩ | rintro _ _ ⟨_, rfl, rfl⟩ | rintro _ _ ⟨w3, g3, hr3, rfl, rfl⟩ | (refine G.call 164 ?_; refine S.c ?_ (h := hci)) | (refine G.call 166 ?_; refine S.c ?_ (h := hcg _)) | refine S.x ?_ | (refine G.call 176 ?_; refine S.c ?_ (h := cthere_ok)) | (refine G.call 175 ?_; first | refine S.c ?_ (h := xosize_ok) | fail) | (refine G.call 181 ?_; first | refine S.c ?_ (h := xlook_ok) | fail) | intro hb | fail)
   all_goals exact Tr.fin hK ⟨w3, g3, hr3, rfl, rfl⟩ S.E
  | false =>
   rw [hin, if_neg (by decide)] at hK
   have hci := cinto_f (b := b) hc hr hk hf2 hs hin
   (refine Tr.enter (rs := []) mixed fn109 rfl (by simp +arith [Tryz.ntmps109]) fun u => ?_; simp only [cd109, Tryz.f109])
   have hX := And.intro @pl109.eq_def (And.intro hca (And.intro hcb (And.intro hth hsz))); repeat' (first | rintro _ _ ⟨rfl, rfl⟩ | rintro _ _ ⟨w3, g3, hr3, rfl, rfl⟩ | (refine G.call 164 ?_; refine S.c ?_ (h := hci)) | refine S.x ?_ | (refine G.call 176 ?_; refine S.c ?_ (h := cthere_ok)) | (refine G.call 175 ?_; first | refine S.c ?_ (h := xosize_ok) | fail) | intro hb | fail)
   all_goals exact Tr.fin hK ⟨w3, g3, hr3, rfl, rfl⟩ S.E
 ·have hsm : slateCM C c k s = noteM C c k s.call 3 0 := by unfold slateCM; rw [if_neg hrg]
  rw [hsm] at hK
  have hrn := fun s' => rel_note (k := k) (call := s.call) (code := 3) (value := 0) (s := s') hr
  have hth : (decide (0 ≤ s.a) && decide (s.a < (if (4 : Int) < (C.conf.slates.d.length : Int) then 4 else (C.conf.slates.d.length : Int)))) = false := by
   rw [Bool.and_eq_false_iff, decide_eq_false_iff_not, decide_eq_false_iff_not]
   by_cases h5 : (4 : Int) < (C.conf.slates.d.length : Int)
   ·rw [if_pos h5]; omega
   ·rw [if_neg h5]; omega
  (refine Tr.enter (rs := []) mixed fn109 rfl (by simp +arith [Tryz.ntmps109]) fun u => ?_; simp only [cd109, Tryz.f109])
  have hX := And.intro @pl109.eq_def (And.intro hca (And.intro hcb hth)); repeat' (first | refine S.x ?_ | (refine G.call 176 ?_; refine S.c ?_ (h := cthere_ok)) | (refine G.call 159 ?_; refine S.c ?_ (h := ctell_ok ?_)) | rintro _ _ ⟨rfl, rfl⟩ | rintro _ _ ⟨_, rfl, rfl⟩ | (refine G.prop ?_; assumption) | intro hb | fail)
  all_goals
   rename_i sv
   refine Tr.fin hK ⟨{ w with ev := sv }, gs, hrn sv, rfl, rfl⟩ ?_
   have hX := @noteM.eq_def
   clear h hca hcb hth
   simp only [List.cons_append, List.nil_append]
   exact S.E
theorem cslate20 (hc : okC C) (hr : Rel C c w gs) (hk : inR C.progs k) (hf : few c 22) (hs : s.ok) (hz : ix C.conf.slates.d s.a ≤ 300) (h : s.call = 20) :
  Trip Tryz.prog 109 [ptr b, .int .i64 k, .agg (En.enc s).toArray].toArray (cellL b C c w gs)
  fun v l' => ∃ w2 gs2, Rel C (slateCM C c k s) w2 gs2 ∧ v = .tuple #[] ∧ l' = cellL b C (slateCM C c k s) w2 gs2 := by
 intro F K hK
 simp only [List.cons_append, List.nil_append] at hK ⊢
 refine Tr.okX (b := w.obs) (c := C.conf) (o := c.obs) S.K fun hoo => ?_
 have hf1 : few c 1 := by unfold few at *; omega
 have hf2 : few c 2 := by unfold few at *; omega
 have hf3 := hf1
 unfold few at hf3
 have h8 := hc.n8
 have htl : c.tb.d.length ≤ 1000000 := by rw [hr.ok.tb]; omega
 have hca : decide (s.call = 22) = false := by rw [h]; rfl
 have hcb : decide (s.call = 21) = false := by rw [h]; rfl
 by_cases hrg : 0 ≤ s.a ∧ s.a < (C.conf.slates.d.length : Int) ∧ s.a < 4
 ·obtain ⟨hir, hiz⟩ := okO_slate hoo hrg
  obtain ⟨r1, r2, r3⟩ := hrg
  have hth : (decide (0 ≤ s.a) && decide (s.a < (if (4 : Int) < (C.conf.slates.d.length : Int) then 4 else (C.conf.slates.d.length : Int)))) = true := by
   rw [Bool.and_eq_true, decide_eq_true_eq, decide_eq_true_eq]
   by_cases h5 : (4 : Int) < (C.conf.slates.d.length : Int)
   ·rw [if_pos h5]; omega
   ·rw [if_neg h5]; omega
  have hsz : sizeMC c.obs.pools c.obs.slates s.a 0 = ix C.conf.slates.d s.a := by
   unfold sizeMC
   rw [if_pos r1, if_pos hir, hiz]
  obtain ⟨sz, hsz2⟩ : ∃ sz, sz = ix C.conf.slates.d s.a := ⟨_, rfl⟩
  rw [← hsz2] at hsz hz
  obtain ⟨bs, hbs⟩ : ∃ bs, bs = ldB c.mem s.b s.c := ⟨_, rfl⟩
  obtain ⟨c0, hc0⟩ : ∃ c0 : CM, c0 = noteM C { c with obs := { c.obs with slates := showMs c.obs.slates s.a bs } } k s.call (showMC c.obs.slates s.a bs.length) 0 := ⟨_, rfl⟩
  obtain ⟨R, hR⟩ : ∃ R, R = slateTo C s.a bs 20 c0 := ⟨_, rfl⟩
  have hsm : slateCM C c k s = if fromB c s sz = true then R else fromM C c k s sz := by
   rw [hR, hc0, hbs]
   unfold slateCM
   rw [if_pos ⟨r1, r2, r3⟩, ← hsz2]
   simp only
   rw [if_neg (by rw [h]; decide), if_neg (by rw [h]; decide), h]
  rw [hsm] at hK
  clear hsm hsz2
  cases hfr : fromB c s sz with
  | true =>
   rw [hfr, if_pos rfl] at hK
   have hle : bs.length ≤ 300 := by rw [hbs]; exact from_len hfr hz
   have hcf := cfrom_t (b := b) (C := C) (w := w) (gs := gs) (k := k) hs hfr
   have hr0 : ∀ s, Rel C c0 { w with ev := s } gs := fun s => by rw [hc0]; exact rel_note (rel_obs hr)
   have hf4 : few c0 8 := by unfold few at *; rw [hc0]; simp only [noteM, List.length_append, List.length_cons, List.length_nil]; omega
   rw [← hbs] at hcf
   (refine Tr.enter (rs := []) mixed fn109 rfl (by simp +arith [Tryz.ntmps109]) fun u => ?_; simp only [cd109, Tryz.f109])
   have hX := And.intro @pl109.eq_def (And.intro hca (And.intro hcb (And.intro hth hsz))); repeat' (first | rintro _ _ ⟨rfl, rfl⟩ | rintro _ _ ⟨_, rfl, rfl⟩ | (refine G.call 167 ?_; refine S.c ?_ (h := hcf)) | refine S.x ?_ | (refine G.call 176 ?_; refine S.c ?_ (h := cthere_ok)) | (refine G.call 159 ?_; refine S.c ?_ (h := ctell_ok ?_)) | (refine G.call 175 ?_; first | refine S.c ?_ (h := xosize_ok) | fail) | (refine G.call 182 ?_; first | refine S.c ?_ (h := xshow_ok (by assumption)) | fail) | (refine G.call 92 ?_; refine S.c ?_ (h := first_ok _ _ _ _ ?_)) | (refine G.prop ?_; assumption) | intro hb | fail)
   rename_i s4 sv
   refine Tr.imp (l' := blk hb (.cells (En.enc s).toArray 86 (0, 0)) :: sl true s4.v bs :: cellL b C c0 { w with ev := sv } gs ++ F) ?_ ?_
   ·subst hc0
    clear h hca hcb hth hsz
    simp only [List.cons_append, List.nil_append]
    have hX := @noteM.eq_def
    show EntR [] _ _
    exact S.E
   have htb0 : c.tb = c0.tb := by rw [hc0]; rfl
   rw [htb0]
   have hcn : cnt (One.waits 21 s.a) c0.tb ≤ 8 := Nat.le_trans cnt_le (by rw [← htb0, hr.ok.tb]; omega)
   have hf5 : few c0 (cnt (One.waits 21 s.a) c0.tb) := by unfold few at *; omega
   have hrs := hr0 sv
   clear hc0 hr0 htb0 hf4 hr htl hf hf1 hf2 hf3 hth hsz hcf hbs
   simp only [List.cons_append, List.nil_append]
   refine Tr.loopE (α := CM × Nat × CW × List TaskG) [11] [0, 5, 9] (fun x => [.int .i64 (firstM x.1 21 s.a)]) (fun x => cellL b C x.1 x.2.2.1 x.2.2.2) (fun x => slateTo C s.a bs x.2.1 x.1 = R ∧ cnt (One.waits 21 s.a) x.1.tb < x.2.1 ∧ few x.1 (cnt (One.waits 21 s.a) x.1.tb) ∧ Rel C x.1 x.2.2.1 x.2.2.2) (fun x => x.2.1) (c0, 20, { w with ev := sv }, gs) S.T rfl ⟨hR.symm, by simp only; omega, hf5, hrs⟩ fun x u hx => ?_
   obtain ⟨c1, n, w1, g1⟩ := x
   obtain ⟨he, hn, hf1, hr1⟩ := hx
   simp only at he hn hf1 hr1 ⊢
   simp only [List.cons_append, List.nil_append]
   have htb1 := hr1.ok.tb
   clear hrs hf5 hcn hR
   by_cases h0 : firstM c1 21 s.a < 0
   ·rw [slateTo_stop h0] at he
    rw [← he] at hK
    have hX := @pl109.eq_def; repeat' (first | refine S.x ?_ | fail)
    all_goals
     refine Tr.fin hK ⟨w1, g1, hr1, rfl, rfl⟩ ?_
     clear h hca hcb
     exact S.E
   ·obtain ⟨m, rfl⟩ : ∃ m, n = m + 1 := ⟨n - 1, by omega⟩
    have hkw := first_prog hr1 h0
    have hce : cnt (One.waits 21 s.a) (getsM C c1 (firstM c1 21 s.a) 21 bs).tb + 1 = cnt (One.waits 21 s.a) c1.tb := cnt_end (c2 := { c1 with mem := stB c1.mem (ix c1.addr (firstM c1 21 s.a)) bs }) h0 rfl
    unfold slateTo at he
    rw [if_neg h0] at he
    generalize firstM c1 21 s.a = kw at *
    obtain ⟨c3, hc3⟩ : ∃ c3 : CM, c3 = getsM C c1 kw 21 bs := ⟨_, rfl⟩
    have hl3 : c3.tb.d.length ≤ 1000000 := by rw [hc3, getsM_tb, set_len, hr1.ok.tb]; omega
    have hf2 : few c1 1 := by unfold few at *; omega
    have hf3 : few c3 (cnt (One.waits 21 s.a) c3.tb) := by
     rw [← hc3] at hce
     have : c3.evs.length = c1.evs.length + 1 := by rw [hc3]; simp [getsM, endM, noteM, setTM]
     unfold few at *
     rw [this]; omega
    rw [← hc3] at hce he
    have hco := carrive_ok (b := b) (call := 21) (s3 := s4) (bs := bs) hr1 hkw hf2
    rw [← hc3] at hco
    clear hr1 hc3
    have hX := @pl109.eq_def; repeat' (first | rintro _ _ ⟨rfl, rfl⟩ | rintro _ _ ⟨w2, gs2, hrel, rfl, rfl⟩ | (refine G.call 96 ?_; refine S.c ?_ (h := hco)) | refine S.x ?_ | (refine G.call 92 ?_; refine S.c ?_ (h := first_ok _ _ _ _ ?_)) | (refine G.prop ?_; assumption) | fail)
    all_goals
     clear h hca hcb
     exact S.R ((c3, m, w2, gs2) : CM × Nat × CW × List TaskG)
  | false =>
   rw [hfr, if_neg (by decide)] at hK
   have hcf := cfrom_f (b := b) hc hr hk hf2 hs hfr
   (refine Tr.enter (rs := []) mixed fn109 rfl (by simp +arith [Tryz.ntmps109]) fun u => ?_; simp only [cd109, Tryz.f109])
   have hX := And.intro @pl109.eq_def (And.intro hca (And.intro hcb (And.intro hth hsz))); repeat' (first | rintro _ _ ⟨rfl, rfl⟩ | rintro _ _ ⟨s4, w3, g3, hr3, rfl, rfl⟩ | (refine G.call 167 ?_; refine S.c ?_ (h := hcf)) | refine S.x ?_ | (refine G.call 176 ?_; refine S.c ?_ (h := cthere_ok)) | (refine G.call 175 ?_; first | refine S.c ?_ (h := xosize_ok) | fail) | intro hb | fail)
   all_goals exact Tr.fin hK ⟨w3, g3, hr3, rfl, rfl⟩ S.E
 ·have hsm : slateCM C c k s = noteM C c k s.call 3 0 := by unfold slateCM; rw [if_neg hrg]
  rw [hsm] at hK
  have hrn := fun s' => rel_note (k := k) (call := s.call) (code := 3) (value := 0) (s := s') hr
  have hth : (decide (0 ≤ s.a) && decide (s.a < (if (4 : Int) < (C.conf.slates.d.length : Int) then 4 else (C.conf.slates.d.length : Int)))) = false := by
   rw [Bool.and_eq_false_iff, decide_eq_false_iff_not, decide_eq_false_iff_not]
   by_cases h5 : (4 : Int) < (C.conf.slates.d.length : Int)
   ·rw [if_pos h5]; omega
   ·rw [if_neg h5]; omega
  (refine Tr.enter (rs := []) mixed fn109 rfl (by simp +arith [Tryz.ntmps109]) fun u => ?_; simp only [cd109, Tryz.f109])
  have hX := And.intro @pl109.eq_def (And.intro hca (And.intro hcb hth)); repeat' (first | refine S.x ?_ | (refine G.call 176 ?_; refine S.c ?_ (h := cthere_ok)) | (refine G.call 159 ?_; refine S.c ?_ (h := ctell_ok ?_)) | rintro _ _ ⟨rfl, rfl⟩ | rintro _ _ ⟨_, rfl, rfl⟩ | (refine G.prop ?_; assumption) | intro hb | fail)
  all_goals
   rename_i sv
   refine Tr.fin hK ⟨{ w with ev := sv }, gs, hrn sv, rfl, rfl⟩ ?_
   have hX := @noteM.eq_def
   clear h hca hcb hth
   simp only [List.cons_append, List.nil_append]
   exact S.E
end
end Go.Proofs.YtacmaamllpiloaaGreat
namespace Go.Proofs.YtacmaamllpiloaaGreat
open Go Go.Wk
set_option maxHeartbeats 3200000
set_option maxRecDepth 100000
attribute [local irreducible] BrK GenK EGenK EUnitK CallK FnK CallV GuardO GuardC CondW opX opK opKc chkR eqR seqK blkK endL WL WD W LoopW BinK Tr drewK resL PickK NotK NilK ExtrK getK Instr.storeAt Instr.loadAt Instr.fieldAt Instr.indexAt Instr.lookup Instr.mapUpdate Instr.box Instr.alloc Instr.build Instr.buildSlice Instr.makeSlice Instr.makeMap Instr.sliceAt Instr.field Instr.index Instr.makeInterface Instr.typeAssert Builtin.len_ Builtin.append_ Builtin.cap_ Builtin.min_ Builtin.max_ Builtin.copy_ Builtin.clear_ convert binOp mp blk rob sl sep ex fact old
attribute [local irreducible] memX portX objX slkO
section
variable {b : Nat} {C : CC} {c : CM} {w : CW} {gs : List TaskG} {k : Int} {s : StepC}
theorem cmem25 (hc : okC C) (hr : Rel C c w gs) (hk : inR C.progs k) (hf : few c 22) (hs : s.ok) (h : s.call = 25) :
  Trip Tryz.prog 110 [ptr b, .int .i64 k, .agg (En.enc s).toArray].toArray (cellL b C c w gs)
  fun v l' => ∃ w2 gs2, Rel C (memoryM C c k s) w2 gs2 ∧ v = .tuple #[] ∧ l' = cellL b C (memoryM C c k s) w2 gs2 := by
 intro F K hK
 simp only [List.cons_append, List.nil_append] at hK ⊢
 have hf1 : few c 1 := by unfold few at *; omega
 have hf2 : few c 2 := by unfold few at *; omega
 have hf3 := hf1
 unfold few at hf3
 have h8 := hc.n8
 have htl : c.tb.d.length ≤ 1000000 := by rw [hr.ok.tb]; omega
 have hca : decide (s.call = 25) = true := by rw [h]; rfl
 have hz := hs.1
 obtain ⟨c1, hc1⟩ : ∃ c1 : CM, c1 = { c with mem := stB c.mem s.a (b4 s.b) } := ⟨_, rfl⟩
 have hr1 : Rel C c1 w gs := by rw [hc1]; exact rel_mem hr
 have hf4 : few c1 2 := by rw [hc1]; exact hf2
 have hsm : memoryM C c k s = if stO c.mem s.a 4 = true then noteM C c1 k s.call 0 0 else badM C c1 k s := by
  unfold memoryM
  rw [if_pos h, hc1, h]
 rw [hsm] at hK
 (refine Tr.enter (rs := []) mixed fn110 rfl (by simp +arith [Tryz.ntmps110]) fun u => ?_; simp only [cd110, Tryz.f110])
 cases hst : stO c.mem s.a 4 with
 | true =>
  rw [hst, if_pos rfl] at hK
  have hrn := fun s' => rel_note (k := k) (call := s.call) (code := 0) (value := 0) (s := s') hr1
  have hX := And.intro @pl110.eq_def (And.intro hca hst); repeat' (first | refine S.x ?_ | (refine G.call 183 ?_; refine S.c ?_ (h := xword_ok (by assumption))) | (refine G.call 184 ?_; refine S.c ?_ (h := xput_ok (by assumption))) | (refine G.call 90 ?_; refine S.c ?_ (h := cnote_ok ?_)) | rintro _ _ ⟨rfl, rfl⟩ | rintro _ _ ⟨_, rfl, rfl⟩ | (refine G.prop ?_; assumption) | intro hb | fail)
  all_goals
   rename_i sv
   refine Tr.fin hK ⟨{ w with ev := sv }, gs, hrn sv, rfl, rfl⟩ ?_
   subst hc1
   have hX := @noteM.eq_def
   clear h hca
   simp only [List.cons_append, List.nil_append]
   exact S.E
 | false =>
  rw [hst, if_neg (by decide)] at hK
  have hcb := cbad_ok (b := b) (s := s) hc hr1 hk hf4
  have hX := And.intro @pl110.eq_def (And.intro hca hst); repeat' (first | refine S.x ?_ | (refine G.call 183 ?_; refine S.c ?_ (h := xword_ok (by assumption))) | (refine G.call 184 ?_; refine S.c ?_ (h := xput_ok (by assumption))) | rintro _ _ ⟨rfl, rfl⟩ | intro hb | fail)
  refine Tr.imp (l' := cellL b C c1 w gs ++ F) ?_ ?_
  ·subst hc1
   clear h hca
   simp only [List.cons_append, List.nil_append]
   show EntR [] _ _
   exact S.E
  clear hc1 hr1 hr hsm
  simp only [List.cons_append, List.nil_append]
  have hX := @pl110.eq_def; repeat' (first | rintro _ _ ⟨w3, g3, hr3, rfl, rfl⟩ | (refine G.call 185 ?_; refine S.c ?_ (h := hcb)) | refine S.x ?_ | fail)
  all_goals exact Tr.fin hK ⟨w3, g3, hr3, rfl, rfl⟩ S.E
theorem cmem24 (hc : okC C) (hr : Rel C c w gs) (hk : inR C.progs k) (hf : few c 22) (hs : s.ok) (h : s.call = 24) :
  Trip Tryz.prog 110 [ptr b, .int .i64 k, .agg (En.enc s).toArray].toArray (cellL b C c w gs)
  fun v l' => ∃ w2 gs2, Rel C (memoryM C c k s) w2 gs2 ∧ v = .tuple #[] ∧ l' = cellL b C (memoryM C c k s) w2 gs2 := by
 intro F K hK
 simp only [List.cons_append, List.nil_append] at hK ⊢
 have hf1 : few c 1 := by unfold few at *; omega
 have hf2 : few c 2 := by unfold few at *; omega
 have hf3 := hf1
 unfold few at hf3
 have h8 := hc.n8
 have htl : c.tb.d.length ≤ 1000000 := by rw [hr.ok.tb]; omega
 have hca : decide (s.call = 25) = false := by rw [h]; rfl
 have hz := hs.1
 have hsm : memoryM C c k s = if ldO c.mem s.a 4 = true then noteM C c k s.call 0 (wdB c.mem s.a) else badM C c k s := by
  unfold memoryM
  rw [if_neg (by rw [h]; decide), h]
 rw [hsm] at hK
 (refine Tr.enter (rs := []) mixed fn110 rfl (by simp +arith [Tryz.ntmps110]) fun u => ?_; simp only [cd110, Tryz.f110])
 cases hst : ldO c.mem s.a 4 with
 | true =>
  rw [hst, if_pos rfl] at hK
  have hrn := fun s' => rel_note (k := k) (call := s.call) (code := 0) (value := wdB c.mem s.a) (s := s') hr
  have hX := And.intro @pl110.eq_def (And.intro hca hst); repeat' (first | refine S.x ?_ | (refine G.call 183 ?_; refine S.c ?_ (h := xword_ok (by assumption))) | (refine G.call 90 ?_; refine S.c ?_ (h := cnote_ok ?_)) | rintro _ _ ⟨rfl, rfl⟩ | rintro _ _ ⟨_, rfl, rfl⟩ | (refine G.prop ?_; assumption) | intro hb | fail)
  all_goals
   rename_i sv
   refine Tr.fin hK ⟨{ w with ev := sv }, gs, hrn sv, rfl, rfl⟩ ?_
   have hX := @noteM.eq_def
   clear h hca
   simp only [List.cons_append, List.nil_append]
   exact S.E
 | false =>
  rw [hst, if_neg (by decide)] at hK
  have hcb := cbad_ok (b := b) (s := s) hc hr hk hf2
  have hX := And.intro @pl110.eq_def (And.intro hca hst); repeat' (first | rintro _ _ ⟨rfl, rfl⟩ | rintro _ _ ⟨w3, g3, hr3, rfl, rfl⟩ | (refine G.call 185 ?_; refine S.c ?_ (h := hcb)) | refine S.x ?_ | (refine G.call 183 ?_; refine S.c ?_ (h := xword_ok (by assumption))) | intro hb | fail)
  all_goals exact Tr.fin hK ⟨w3, g3, hr3, rfl, rfl⟩ S.E
theorem cbecome_ok (hc : okC C) (hr : Rel C c w gs) (_hk : inR C.progs k) (hf : few c 22) (_hs : s.ok) (h : s.call = 27) :
  Trip Tryz.prog 111 [ptr b, .int .i64 k, .agg (En.enc s).toArray].toArray (cellL b C c w gs)
  fun v l' => ∃ w2 gs2, Rel C (becomeM C c k s) w2 gs2 ∧ v = .tuple #[] ∧ l' = cellL b C (becomeM C c k s) w2 gs2 := by
 intro F K hK
 simp only [List.cons_append, List.nil_append] at hK ⊢
 have hf1 : few c 1 := by unfold few at *; omega
 have hf2 : few c 2 := by unfold few at *; omega
 have hf3 := hf1
 unfold few at hf3
 have h8 := hc.n8
 have htl : c.tb.d.length ≤ 1000000 := by rw [hr.ok.tb]; omega
 obtain ⟨c1, hc1⟩ : ∃ c1 : CM, c1 = noteM C c k s.call 0 0 := ⟨_, rfl⟩
 have hr1 : ∀ s, Rel C c1 { w with ev := s } gs := fun s => by rw [hc1]; exact rel_note hr
 have hsm : becomeM C c k s = if s.a = 0 then idleM C c1 else if s.a = 1 ∨ s.a = 2 then anewM C c1 (decide (s.a = 1)) else if s.a = 3 then noteM C c k s.call 6 0 else noteM C c k s.call 2 0 := by
  unfold becomeM
  rw [hc1, h]
 rw [hsm] at hK
 (refine Tr.enter (rs := []) mixed fn111 rfl (by simp +arith [Tryz.ntmps111]) fun u => ?_; simp only [cd111, Tryz.f111])
 by_cases h0 : s.a = 0
 ·rw [if_pos h0] at hK
  have hci := fun s => cidle_ok (b := b) hc (hr1 s)
  have hX := @pl111.eq_def; repeat' (first | refine S.x ?_ | (refine G.call 159 ?_; refine S.c ?_ (h := ctell_ok ?_)) | rintro _ _ ⟨_, rfl, rfl⟩ | (refine G.prop ?_; assumption) | intro hb | fail)
  rename_i sv
  refine Tr.imp (l' := cellL b C c1 { w with ev := sv } gs ++ F) ?_ ?_
  ·subst hc1
   clear h
   simp only [List.cons_append, List.nil_append]
   have hX := @noteM.eq_def
   show EntR [] _ _
   exact S.E
  clear hc1 hr1 hr hsm
  simp only [List.cons_append, List.nil_append]
  have hX := @pl111.eq_def; repeat' (first | rintro _ _ ⟨g3, hr3, rfl, rfl⟩ | (refine G.call 146 ?_; refine S.c ?_ (h := hci sv)) | refine S.x ?_ | fail)
  all_goals exact Tr.fin hK ⟨_, g3, hr3, rfl, rfl⟩ S.E
 ·rw [if_neg h0] at hK
  by_cases h12 : s.a = 1 ∨ s.a = 2
  ·rw [if_pos h12] at hK
   have hci := fun s cold => crestart_ok (b := b) (cold := cold) hc (hr1 s)
   have hX := @pl111.eq_def; repeat' (first | refine S.x ?_ | refine S.y ?_ ?_ | (refine G.call 159 ?_; refine S.c ?_ (h := ctell_ok ?_)) | rintro _ _ ⟨_, rfl, rfl⟩ | (refine G.prop ?_; assumption) | intro hb | fail)
   all_goals
    rename_i sv
    refine Tr.imp (l' := cellL b C c1 { w with ev := sv } gs ++ F) ?_ ?_
    ·subst hc1
     clear h
     simp only [List.cons_append, List.nil_append]
     have hX := @noteM.eq_def
     show EntR [] _ _
     exact S.E
    clear hc1 hr1 hr hsm
    simp only [List.cons_append, List.nil_append]
    have hX := @pl111.eq_def; repeat' (first | rintro _ _ ⟨g3, hr3, rfl, rfl⟩ | (refine G.call 145 ?_; refine S.c ?_ (h := hci sv _)) | refine S.x ?_ | fail)
    all_goals exact Tr.fin hK ⟨_, g3, hr3, rfl, rfl⟩ S.E
  ·rw [if_neg h12] at hK
   by_cases h3 : s.a = 3
   ·rw [if_pos h3] at hK
    have hrn := fun s' => rel_note (k := k) (call := s.call) (code := 6) (value := 0) (s := s') hr
    have hX := @pl111.eq_def; repeat' (first | refine S.x ?_ | (refine G.call 159 ?_; refine S.c ?_ (h := ctell_ok ?_)) | rintro _ _ ⟨_, rfl, rfl⟩ | (refine G.prop ?_; assumption) | intro hb | fail)
    all_goals
     rename_i sv
     refine Tr.fin hK ⟨{ w with ev := sv }, gs, hrn sv, rfl, rfl⟩ ?_
     have hX := @noteM.eq_def
     clear h
     simp only [List.cons_append, List.nil_append]
     exact S.E
   ·rw [if_neg h3] at hK
    have hrn := fun s' => rel_note (k := k) (call := s.call) (code := 2) (value := 0) (s := s') hr
    have hX := @pl111.eq_def; repeat' (first | refine S.x ?_ | (refine G.call 159 ?_; refine S.c ?_ (h := ctell_ok ?_)) | rintro _ _ ⟨_, rfl, rfl⟩ | (refine G.prop ?_; assumption) | intro hb | fail)
    all_goals
     rename_i sv
     refine Tr.fin hK ⟨{ w with ev := sv }, gs, hrn sv, rfl, rfl⟩ ?_
     have hX := @noteM.eq_def
     clear h
     simp only [List.cons_append, List.nil_append]
     exact S.E
end
end Go.Proofs.YtacmaamllpiloaaGreat
