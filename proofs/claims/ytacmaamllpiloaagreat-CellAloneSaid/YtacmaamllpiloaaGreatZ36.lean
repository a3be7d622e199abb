import Derived.Test.YtacmaamllpiloaaGreatJV
namespace Go.Proofs.YtacmaamllpiloaaGreat
open Go Go.Wk
set_option maxHeartbeats 3200000
set_option maxRecDepth 100000
section
variable {b : Nat} {C : CC} {c : CM} {w : CW} {gs : List TaskG} {k : Int} {s : StepC}
theorem rel_obs {o : ObM} (h : Rel C c w gs) : Rel C { c with obs := o } w gs :=
 ⟨⟨h.ok.tb, h.ok.pos, h.ok.rest, h.ok.addr, h.ok.data, h.ok.done, h.ok.pi, h.ok.ad, h.ok.dl⟩, h.hp, h.hi, h.hr, h.ha, h.hd, h.hw, h.hs⟩
theorem flagMC_ne {l : List Bool} {a : Int} : flagMC l a ≠ 1 := by
 unfold flagMC
 split <;> decide
end
attribute [local irreducible] BrK GenK EGenK EUnitK CallK FnK CallV GuardO GuardC CondW opX opK opKc chkR eqR seqK blkK endL WL WD W LoopW BinK Tr drewK resL PickK NotK NilK ExtrK getK Instr.storeAt Instr.loadAt Instr.fieldAt Instr.indexAt Instr.lookup Instr.mapUpdate Instr.box Instr.alloc Instr.build Instr.buildSlice Instr.makeSlice Instr.makeMap Instr.sliceAt Instr.field Instr.index Instr.makeInterface Instr.typeAssert Builtin.len_ Builtin.append_ Builtin.cap_ Builtin.min_ Builtin.max_ Builtin.copy_ Builtin.clear_ convert binOp mp blk rob sl sep ex fact old
attribute [local irreducible] memX portX objX slkO
section
variable {b : Nat} {C : CC} {c : CM} {w : CW} {gs : List TaskG} {k : Int} {s : StepC}
theorem csig13 (hc : okC C) (hr : Rel C c w gs) (hk : inR C.progs k) (hf : few c 22) (hs : s.ok) (h : s.call = 13) :
  Trip Tryz.prog 107 [ptr b, .int .i64 k, .agg (En.enc s).toArray].toArray (cellL b C c w gs)
  fun v l' => ∃ w2 gs2, Rel C (signalM C c k s) w2 gs2 ∧ v = .tuple #[] ∧ l' = cellL b C (signalM C c k s) w2 gs2 := by
 intro F K hK
 simp only [List.cons_append, List.nil_append] at hK ⊢
 have hf1 : few c 1 := by unfold few at *; omega
 have hf3 := hf1
 unfold few at hf3
 have h8 := hc.n8
 have htl : c.tb.d.length ≤ 1000000 := by rw [hr.ok.tb]; omega
 have hca : decide (s.call = 13) = true := by rw [h]; rfl
 have hcb : decide (s.call = 14) = false := by rw [h]; rfl
 have hcc : decide (s.call = 15) = false := by rw [h]; rfl
 have hcd : decide (s.call = 16) = false := by rw [h]; rfl
 obtain ⟨c1, hc1⟩ : ∃ c1 : CM, c1 = { c with obs := { c.obs with sems := takeM c.obs.sems s.a } } := ⟨_, rfl⟩
 have hr1 : Rel C c1 w gs := by rw [hc1]; exact rel_obs hr
 have hf4 : few c1 1 := by rw [hc1]; exact hf1
 have hsm : signalM C c k s = takenM C c1 k s (takeMC c.obs.sems s.a) := by
  unfold signalM takenM
  rw [if_pos h, h, hc1]
 rw [hsm] at hK
 have hct := ctaken_ok (b := b) (code := takeMC c.obs.sems s.a) hr1 hk hf4 hs
 (refine Tr.enter (rs := []) mixed fn107 rfl (by simp +arith [Tryz.ntmps107]) fun u => ?_; simp only [cd107, Tryz.f107])
 have hX := And.intro @pl107.eq_def (And.intro hca (And.intro hcb (And.intro hcc hcd))); repeat' (first | refine S.x ?_ | (refine G.call 170 ?_; first | refine S.c ?_ (h := xup_ok) | fail) | (refine G.call 172 ?_; first | refine S.c ?_ (h := xtake_ok) | fail) | rintro _ _ ⟨rfl, rfl⟩ | intro hb | fail)
 refine Tr.imp (l' := cellL b C c1 w gs ++ F) ?_ ?_
 ·subst hc1
  clear h hca hcb hcc hcd
  simp only [List.cons_append, List.nil_append]
  show EntR [] _ _
  exact S.E
 clear hc1 hr1 hr hsm
 simp only [List.cons_append, List.nil_append]
 have hX := @pl107.eq_def; repeat' (first | rintro _ _ ⟨w3, g3, hr3, rfl, rfl⟩ | (refine G.call 171 ?_; refine S.c ?_ (h := hct)) | refine S.x ?_ | fail)
 all_goals exact Tr.fin hK ⟨w3, g3, hr3, rfl, rfl⟩ S.E
theorem csig14 (hc : okC C) (hr : Rel C c w gs) (_hk : inR C.progs k) (hf : few c 22) (_hs : s.ok) (h : s.call = 14) :
  Trip Tryz.prog 107 [ptr b, .int .i64 k, .agg (En.enc s).toArray].toArray (cellL b C c w gs)
  fun v l' => ∃ w2 gs2, Rel C (signalM C c k s) w2 gs2 ∧ v = .tuple #[] ∧ l' = cellL b C (signalM C c k s) w2 gs2 := by
 intro F K hK
 simp only [List.cons_append, List.nil_append] at hK ⊢
 have hf1 : few c 1 := by unfold few at *; omega
 have hf3 := hf1
 unfold few at hf3
 have h8 := hc.n8
 have htl : c.tb.d.length ≤ 1000000 := by rw [hr.ok.tb]; omega
 have hca : decide (s.call = 13) = false := by rw [h]; rfl
 have hcb : decide (s.call = 14) = true := by rw [h]; rfl
 have hcc : decide (s.call = 15) = false := by rw [h]; rfl
 have hcd : decide (s.call = 16) = false := by rw [h]; rfl
 have hsm : signalM C c k s = if 0 ≤ c.tb.best (One.waits 13 s.a) then endM C (noteM C c k s.call 0 0) (c.tb.best (One.waits 13 s.a)) 13 0 0
  else noteM C { c with obs := { c.obs with sems := giveM c.obs.sems s.a } } k s.call (giveMC c.obs.sems s.a) 0 := by
  unfold signalM firstM
  rw [if_neg (by rw [h]; decide), if_pos h, h]
 rw [hsm] at hK
 by_cases h0 : 0 ≤ c.tb.best (One.waits 13 s.a)
 ·rw [if_pos h0] at hK
  have hkw := first_prog (call := 13) (p := s.a) hr (Int.not_lt.2 h0)
  obtain ⟨c1, hc1⟩ : ∃ c1 : CM, c1 = noteM C c k s.call 0 0 := ⟨_, rfl⟩
  have hr1 : ∀ s, Rel C c1 { w with ev := s } gs := fun s => by rw [hc1]; exact rel_note hr
  have hf4 : few c1 1 := by unfold few at *; rw [hc1]; simp only [noteM, List.length_append, List.length_cons, List.length_nil]; omega
  have hcc2 := fun s => ccomplete_ok (b := b) (call := 13) (code := 0) (value := 0) (hr1 s) hkw hf4
  rw [← hc1] at hK
  (refine Tr.enter (rs := []) mixed fn107 rfl (by simp +arith [Tryz.ntmps107]) fun u => ?_; simp only [cd107, Tryz.f107])
  have hX := And.intro @pl107.eq_def (And.intro hca (And.intro hcb (And.intro hcc hcd))); repeat' (first | refine S.x ?_ | (refine G.call 170 ?_; first | refine S.c ?_ (h := xup_ok) | fail) | (refine G.call 92 ?_; refine S.c ?_ (h := first_ok _ _ _ _ ?_)) | (refine G.call 159 ?_; refine S.c ?_ (h := ctell_ok ?_)) | rintro _ _ ⟨rfl, rfl⟩ | rintro _ _ ⟨_, rfl, rfl⟩ | (refine G.prop ?_; assumption) | intro hb | fail)
  rename_i sv
  refine Tr.imp (l' := cellL b C c1 { w with ev := sv } gs ++ F) ?_ ?_
  ·subst hc1
   clear h hca hcb hcc hcd
   simp only [List.cons_append, List.nil_append]
   have hX := @noteM.eq_def
   show EntR [] _ _
   exact S.E
  clear hc1 hr1 hr hsm
  simp only [List.cons_append, List.nil_append]
  have hX := @pl107.eq_def; repeat' (first | rintro _ _ ⟨w3, g3, hr3, rfl, rfl⟩ | (refine G.call 94 ?_; refine S.c ?_ (h := hcc2 sv)) | refine S.x ?_ | fail)
  all_goals exact Tr.fin hK ⟨w3, g3, hr3, rfl, rfl⟩ S.E
 ·rw [if_neg h0] at hK
  have hrn := fun s' => rel_note (k := k) (call := s.call) (code := giveMC c.obs.sems s.a) (value := 0) (s := s') (rel_obs (o := { c.obs with sems := giveM c.obs.sems s.a }) hr)
  (refine Tr.enter (rs := []) mixed fn107 rfl (by simp +arith [Tryz.ntmps107]) fun u => ?_; simp only [cd107, Tryz.f107])
  have hX := And.intro @pl107.eq_def (And.intro hca (And.intro hcb (And.intro hcc hcd))); repeat' (first | refine S.x ?_ | (refine G.call 170 ?_; first | refine S.c ?_ (h := xup_ok) | fail) | (refine G.call 92 ?_; refine S.c ?_ (h := first_ok _ _ _ _ ?_)) | (refine G.call 159 ?_; refine S.c ?_ (h := ctell_ok ?_)) | (refine G.call 173 ?_; first | refine S.c ?_ (h := xgive_ok) | fail) | rintro _ _ ⟨rfl, rfl⟩ | rintro _ _ ⟨_, rfl, rfl⟩ | (refine G.prop ?_; assumption) | intro hb | fail)
  all_goals
   rename_i sv
   refine Tr.fin hK ⟨{ w with ev := sv }, gs, hrn sv, rfl, rfl⟩ ?_
   have hX := @noteM.eq_def
   clear h hca hcb hcc hcd
   simp only [List.cons_append, List.nil_append]
   exact S.E
theorem csig16 (hc : okC C) (hr : Rel C c w gs) (_hk : inR C.progs k) (hf : few c 22) (_hs : s.ok) (h : s.call = 16) :
  Trip Tryz.prog 107 [ptr b, .int .i64 k, .agg (En.enc s).toArray].toArray (cellL b C c w gs)
  fun v l' => ∃ w2 gs2, Rel C (signalM C c k s) w2 gs2 ∧ v = .tuple #[] ∧ l' = cellL b C (signalM C c k s) w2 gs2 := by
 intro F K hK
 simp only [List.cons_append, List.nil_append] at hK ⊢
 have hf1 : few c 1 := by unfold few at *; omega
 have hf3 := hf1
 unfold few at hf3
 have h8 := hc.n8
 have htl : c.tb.d.length ≤ 1000000 := by rw [hr.ok.tb]; omega
 have hca : decide (s.call = 13) = false := by rw [h]; rfl
 have hcb : decide (s.call = 14) = false := by rw [h]; rfl
 have hcc : decide (s.call = 15) = false := by rw [h]; rfl
 have hcd : decide (s.call = 16) = true := by rw [h]; rfl
 have hsm : signalM C c k s = noteM C { c with obs := { c.obs with flags := flagMs c.obs.flags s.a false } } k s.call (flagMC c.obs.flags s.a) 0 := by
  unfold signalM
  rw [if_neg (by rw [h]; decide), if_neg (by rw [h]; decide), if_neg (by rw [h]; decide), if_pos h, h]
 rw [hsm] at hK
 have hrn := fun s' => rel_note (k := k) (call := s.call) (code := flagMC c.obs.flags s.a) (value := 0) (s := s') (rel_obs (o := { c.obs with flags := flagMs c.obs.flags s.a false }) hr)
 (refine Tr.enter (rs := []) mixed fn107 rfl (by simp +arith [Tryz.ntmps107]) fun u => ?_; simp only [cd107, Tryz.f107])
 have hX := And.intro @pl107.eq_def (And.intro hca (And.intro hcb (And.intro hcc hcd))); repeat' (first | refine S.x ?_ | (refine G.call 170 ?_; first | refine S.c ?_ (h := xup_ok) | fail) | (refine G.call 159 ?_; refine S.c ?_ (h := ctell_ok ?_)) | (refine G.call 174 ?_; first | refine S.c ?_ (h := xflag_ok) | fail) | rintro _ _ ⟨rfl, rfl⟩ | rintro _ _ ⟨_, rfl, rfl⟩ | (refine G.prop ?_; assumption) | intro hb | fail)
 all_goals
  rename_i sv
  refine Tr.fin hK ⟨{ w with ev := sv }, gs, hrn sv, rfl, rfl⟩ ?_
  have hX := @noteM.eq_def
  clear h hca hcb hcc hcd
  simp only [List.cons_append, List.nil_append]
  exact S.E
theorem csig17 (hc : okC C) (hr : Rel C c w gs) (hk : inR C.progs k) (hf : few c 22) (hs : s.ok) (h : s.call = 17) :
  Trip Tryz.prog 107 [ptr b, .int .i64 k, .agg (En.enc s).toArray].toArray (cellL b C c w gs)
  fun v l' => ∃ w2 gs2, Rel C (signalM C c k s) w2 gs2 ∧ v = .tuple #[] ∧ l' = cellL b C (signalM C c k s) w2 gs2 := by
 intro F K hK
 simp only [List.cons_append, List.nil_append] at hK ⊢
 have hf1 : few c 1 := by unfold few at *; omega
 have hf3 := hf1
 unfold few at hf3
 have h8 := hc.n8
 have htl : c.tb.d.length ≤ 1000000 := by rw [hr.ok.tb]; omega
 have hca : decide (s.call = 13) = false := by rw [h]; rfl
 have hcb : decide (s.call = 14) = false := by rw [h]; rfl
 have hcc : decide (s.call = 15) = false := by rw [h]; rfl
 have hcd : decide (s.call = 16) = false := by rw [h]; rfl
 have hsm : signalM C c k s = takenM C c k s (if upM c.obs.flags s.a = true ∨ flagMC c.obs.flags s.a ≠ 0 then flagMC c.obs.flags s.a else 1) := by
  unfold signalM takenM
  rw [if_neg (by rw [h]; decide), if_neg (by rw [h]; decide), if_neg (by rw [h]; decide), if_neg (by rw [h]; decide), h]
  split
  ·rw [if_neg flagMC_ne]
  ·rw [if_pos rfl]
 rw [hsm] at hK
 have hct := fun code => ctaken_ok (b := b) (code := code) hr hk hf1 hs
 (refine Tr.enter (rs := []) mixed fn107 rfl (by simp +arith [Tryz.ntmps107]) fun u => ?_; simp only [cd107, Tryz.f107])
 by_cases h0 : flagMC c.obs.flags s.a = 0
 ·cases hup : upM c.obs.flags s.a with
  | true =>
   rw [hup, if_pos (.inl rfl)] at hK
   have hX := And.intro @pl107.eq_def (And.intro hca (And.intro hcb (And.intro hcc (And.intro hcd hup)))); repeat' (first | rintro _ _ ⟨rfl, rfl⟩ | rintro _ _ ⟨w3, g3, hr3, rfl, rfl⟩ | (refine G.call 171 ?_; refine S.c ?_ (h := hct _)) | refine S.x ?_ | (refine G.call 170 ?_; first | refine S.c ?_ (h := xup_ok) | fail) | intro hb | fail)
   all_goals exact Tr.fin hK ⟨w3, g3, hr3, rfl, rfl⟩ S.E
  | false =>
   rw [hup, if_neg (by rw [h0]; intro hh; rcases hh with hh | hh; cases hh; exact hh rfl)] at hK
   have hX := And.intro @pl107.eq_def (And.intro hca (And.intro hcb (And.intro hcc (And.intro hcd hup)))); repeat' (first | rintro _ _ ⟨rfl, rfl⟩ | rintro _ _ ⟨w3, g3, hr3, rfl, rfl⟩ | (refine G.call 171 ?_; refine S.c ?_ (h := hct _)) | refine S.x ?_ | (refine G.call 170 ?_; first | refine S.c ?_ (h := xup_ok) | fail) | intro hb | fail)
   all_goals exact Tr.fin hK ⟨w3, g3, hr3, rfl, rfl⟩ S.E
 ·rw [if_pos (.inr h0)] at hK
  have hX := And.intro @pl107.eq_def (And.intro hca (And.intro hcb (And.intro hcc hcd))); repeat' (first | rintro _ _ ⟨rfl, rfl⟩ | rintro _ _ ⟨w3, g3, hr3, rfl, rfl⟩ | (refine G.call 171 ?_; refine S.c ?_ (h := hct _)) | refine S.x ?_ | (refine G.call 170 ?_; first | refine S.c ?_ (h := xup_ok) | fail) | intro hb | fail)
  all_goals exact Tr.fin hK ⟨w3, g3, hr3, rfl, rfl⟩ S.E
theorem csig15 (hc : okC C) (hr : Rel C c w gs) (_hk : inR C.progs k) (hf : few c 22) (_hs : s.ok) (h : s.call = 15) :
  Trip Tryz.prog 107 [ptr b, .int .i64 k, .agg (En.enc s).toArray].toArray (cellL b C c w gs)
  fun v l' => ∃ w2 gs2, Rel C (signalM C c k s) w2 gs2 ∧ v = .tuple #[] ∧ l' = cellL b C (signalM C c k s) w2 gs2 := by
 intro F K hK
 simp only [List.cons_append, List.nil_append] at hK ⊢
 have hf1 : few c 1 := by unfold few at *; omega
 have hf3 := hf1
 unfold few at hf3
 have h8 := hc.n8
 have htl : c.tb.d.length ≤ 1000000 := by rw [hr.ok.tb]; omega
 have hca : decide (s.call = 13) = false := by rw [h]; rfl
 have hcb : decide (s.call = 14) = false := by rw [h]; rfl
 have hcc : decide (s.call = 15) = true := by rw [h]; rfl
 have hcd : decide (s.call = 16) = false := by rw [h]; rfl
 obtain ⟨c0, hc0⟩ : ∃ c0 : CM, c0 = noteM C { c with obs := { c.obs with flags := flagMs c.obs.flags s.a true } } k s.call (flagMC c.obs.flags s.a) 0 := ⟨_, rfl⟩
 have hr0 : ∀ s, Rel C c0 { w with ev := s } gs := fun s => by rw [hc0]; exact rel_note (rel_obs hr)
 have hf4 : few c0 8 := by unfold few at *; rw [hc0]; simp only [noteM, List.length_append, List.length_cons, List.length_nil]; omega
 obtain ⟨R, hR⟩ : ∃ R, R = flagTo C s.a 20 c0 := ⟨_, rfl⟩
 have hsm : signalM C c k s = R := by
  rw [hR]
  unfold signalM
  rw [if_neg (by rw [h]; decide), if_neg (by rw [h]; decide), if_pos h, hc0, h]
 rw [hsm] at hK
 (refine Tr.enter (rs := []) mixed fn107 rfl (by simp +arith [Tryz.ntmps107]) fun u => ?_; simp only [cd107, Tryz.f107])
 have hX := And.intro @pl107.eq_def (And.intro hca (And.intro hcb (And.intro hcc hcd))); repeat' (first | refine S.x ?_ | (refine G.call 170 ?_; first | refine S.c ?_ (h := xup_ok) | fail) | (refine G.call 92 ?_; refine S.c ?_ (h := first_ok _ _ _ _ ?_)) | (refine G.call 159 ?_; refine S.c ?_ (h := ctell_ok ?_)) | (refine G.call 174 ?_; first | refine S.c ?_ (h := xflag_ok) | fail) | rintro _ _ ⟨rfl, rfl⟩ | rintro _ _ ⟨_, rfl, rfl⟩ | (refine G.prop ?_; assumption) | intro hb | fail)
 rename_i sv
 refine Tr.imp (l' := blk hb (.cells (En.enc s).toArray 86 (0, 0)) :: cellL b C c0 { w with ev := sv } gs ++ F) ?_ ?_
 ·subst hc0
  clear h hca hcb hcc hcd
  simp only [List.cons_append, List.nil_append]
  have hX := @noteM.eq_def
  show EntR [] _ _
  exact S.E
 have htb0 : c.tb = c0.tb := by rw [hc0]; rfl
 rw [htb0]
 have hcn : cnt (One.waits 17 s.a) c0.tb ≤ 8 := Nat.le_trans cnt_le (by rw [← htb0, hr.ok.tb]; omega)
 have hf5 : few c0 (cnt (One.waits 17 s.a) c0.tb) := by unfold few at *; omega
 have hrs := hr0 sv
 clear hc0 hr0 hsm htb0 hf4 hr htl hf hf1 hf3
 simp only [List.cons_append, List.nil_append]
 refine Tr.loopE (α := CM × Nat × CW × List TaskG) [9] [0, 1, 5, 6, 7, 21] (fun x => [.int .i64 (firstM x.1 17 s.a)]) (fun x => cellL b C x.1 x.2.2.1 x.2.2.2) (fun x => flagTo C s.a x.2.1 x.1 = R ∧ cnt (One.waits 17 s.a) x.1.tb < x.2.1 ∧ few x.1 (cnt (One.waits 17 s.a) x.1.tb) ∧ Rel C x.1 x.2.2.1 x.2.2.2) (fun x => x.2.1) (c0, 20, { w with ev := sv }, gs) S.T rfl ⟨hR.symm, by simp only; omega, hf5, hrs⟩ fun x u hx => ?_
 obtain ⟨c1, n, w1, g1⟩ := x
 obtain ⟨he, hn, hf1, hr1⟩ := hx
 simp only at he hn hf1 hr1 ⊢
 simp only [List.cons_append, List.nil_append]
 have htb1 := hr1.ok.tb
 clear hrs hf5 hcn hR
 by_cases h0 : firstM c1 17 s.a < 0
 ·rw [flagTo_stop h0] at he
  rw [← he] at hK
  have hX := @pl107.eq_def; repeat' (first | refine S.x ?_ | fail)
  all_goals
   refine Tr.fin hK ⟨w1, g1, hr1, rfl, rfl⟩ ?_
   clear h hca hcb hcc hcd
   exact S.E
 ·obtain ⟨m, rfl⟩ : ∃ m, n = m + 1 := ⟨n - 1, by omega⟩
  have hkw := first_prog hr1 h0
  have hce := cnt_end (C := C) (c2 := c1) (code := 0) (value := 0) h0 rfl
  unfold flagTo at he
  rw [if_neg h0] at he
  generalize firstM c1 17 s.a = kw at *
  obtain ⟨c3, hc3⟩ : ∃ c3 : CM, c3 = endM C c1 kw 17 0 0 := ⟨_, rfl⟩
  have hl3 : c3.tb.d.length ≤ 1000000 := by rw [hc3, endM_tb, set_len, hr1.ok.tb]; omega
  have hf2 : few c1 1 := by unfold few at *; omega
  have hf3 : few c3 (cnt (One.waits 17 s.a) c3.tb) := by
   rw [← hc3] at hce
   have : c3.evs.length = c1.evs.length + 1 := by rw [hc3]; simp [endM, noteM, setTM]
   unfold few at *
   rw [this]; omega
  rw [← hc3] at hce he
  have hco := ccomplete_ok (b := b) (call := 17) (code := 0) (value := 0) hr1 hkw hf2
  rw [← hc3] at hco
  clear hr1 hc3
  have hX := @pl107.eq_def; repeat' (first | rintro _ _ ⟨rfl, rfl⟩ | rintro _ _ ⟨w2, gs2, hrel, rfl, rfl⟩ | (refine G.call 94 ?_; refine S.c ?_ (h := hco)) | refine S.x ?_ | (refine G.call 92 ?_; refine S.c ?_ (h := first_ok _ _ _ _ ?_)) | (refine G.prop ?_; assumption) | fail)
  all_goals
   clear h hca hcb hcc hcd
   exact S.R ((c3, m, w2, gs2) : CM × Nat × CW × List TaskG)
theorem csignal_ok (hc : okC C) (hr : Rel C c w gs) (hk : inR C.progs k) (hf : few c 22) (hs : s.ok) (h0 : 13 ≤ s.call) (h1 : s.call ≤ 17) :
  Trip Tryz.prog 107 [ptr b, .int .i64 k, .agg (En.enc s).toArray].toArray (cellL b C c w gs)
  fun v l' => ∃ w2 gs2, Rel C (signalM C c k s) w2 gs2 ∧ v = .tuple #[] ∧ l' = cellL b C (signalM C c k s) w2 gs2 := by
 by_cases e9 : s.call = 13
 ·exact csig13 hc hr hk hf hs e9
 ·by_cases e10 : s.call = 14
  ·exact csig14 hc hr hk hf hs e10
  ·by_cases e11 : s.call = 15
   ·exact csig15 hc hr hk hf hs e11
   ·by_cases e12 : s.call = 16
    ·exact csig16 hc hr hk hf hs e12
    ·exact csig17 hc hr hk hf hs (by omega)
end
end Go.Proofs.YtacmaamllpiloaaGreat
namespace Go.Proofs.YtacmaamllpiloaaGreat
open Go Go.Wk
set_option maxHeartbeats 3200000
set_option maxRecDepth 100000
theorem Tr.okX {b : Nat} {c : PartD} {o : ObM} {l F : List Asrt} {X : WP} (ht : TakeA l (objX b c o) F) (h : okO c o → Tr (objX b c o :: sl true c.pools.s.v c.pools.d :: sl true c.slates.s.v c.slates.d :: F) X) : Tr l X := by
 refine Tr.imp ht (Tr.pk fun g hg => ?_)
 simp only [objL, List.cons_append, List.nil_append]
 refine Tr.imp (TakeA.dupS (v := c.pools.s.v) (xs := c.pools.d)) ?_
 refine Tr.imp (TakeA.dupS (v := c.slates.s.v) (xs := c.slates.d)) ?_
 refine Tr.imp ?_ (h hg.ho)
 show EntR [] _ _
 refine EntR.objX (g := g) hg ?_
 simp only [objL, List.cons_append, List.nil_append]
 exact S.E
section
variable {c : PartD} {o : ObM} {k : Int}
theorem okO_pool (h : okO c o) (hk : 0 ≤ k ∧ k < (c.pools.d.length : Int) ∧ k < 4) : inR o.pools k ∧ (ix o.pools k).1 = (ix c.pools.d k).size := by
 have hl : o.pools.length = min 4 c.pools.d.length := by have := congrArg List.length h.p; simpa using this
 have hr : inR o.pools k := ⟨hk.1, by omega⟩
 refine ⟨hr, ?_⟩
 have e := congrArg (fun l => (ix l k).1) h.p
 rw [ixR hr] at e
 have ht : inR (c.pools.d.take 4) k := ⟨hk.1, by rw [List.length_take]; omega⟩
 rw [ixR ht] at e
 have e2 : ix (c.pools.d.take 4) k = ix c.pools.d k := by
  unfold ix
  rw [List.getD_eq_getElem?_getD, List.getD_eq_getElem?_getD, List.getElem?_take, if_pos (by omega)]
 rw [e2] at e
 exact e
theorem okO_slate (h : okO c o) (hk : 0 ≤ k ∧ k < (c.slates.d.length : Int) ∧ k < 4) : inR o.slates k ∧ (ix o.slates k).1 = ix c.slates.d k := by
 have hl : o.slates.length = min 4 c.slates.d.length := by have := congrArg List.length h.l; simpa using this
 have hr : inR o.slates k := ⟨hk.1, by omega⟩
 refine ⟨hr, ?_⟩
 have e := congrArg (fun l => ix l k) h.l
 rw [ixR hr] at e
 have e2 : ix (c.slates.d.take 4) k = ix c.slates.d k := by
  unfold ix
  rw [List.getD_eq_getElem?_getD, List.getD_eq_getElem?_getD, List.getElem?_take, if_pos (by omega)]
 rw [e2] at e
 exact e
end
attribute [local irreducible] BrK GenK EGenK EUnitK CallK FnK CallV GuardO GuardC CondW opX opK opKc chkR eqR seqK blkK endL WL WD W LoopW BinK Tr drewK resL PickK NotK NilK ExtrK getK Instr.storeAt Instr.loadAt Instr.fieldAt Instr.indexAt Instr.lookup Instr.mapUpdate Instr.box Instr.alloc Instr.build Instr.buildSlice Instr.makeSlice Instr.makeMap Instr.sliceAt Instr.field Instr.index Instr.makeInterface Instr.typeAssert Builtin.len_ Builtin.append_ Builtin.cap_ Builtin.min_ Builtin.max_ Builtin.copy_ Builtin.clear_ convert binOp mp blk rob sl sep ex fact old
attribute [local irreducible] memX portX objX slkO
section
variable {b : Nat} {C : CC} {c : CM} {w : CW} {gs : List TaskG} {k p n most : Int} {s : StepC}
theorem cthere_ok : Trip Tryz.prog 176 [ptr b, .int .i64 k, .int .i64 n, .int .i64 most].toArray []
  fun v l' => v = .bool (decide (0 ≤ k) && decide (k < (if most < n then most else n))) ∧ l' = [] := by
 intro F K hK
 simp only [List.nil_append] at hK ⊢
 (refine Tr.enter (rs := [.tmp 8]) mixed fn176 rfl (by simp +arith [Tryz.ntmps176]) fun u => ?_; simp only [cd176, Tryz.f176])
 have hX := @pl176.eq_def; repeat' (first | refine S.x ?_ | refine S.y ?_ ?_ | intro hb | fail)
 all_goals exact S.L
theorem crefill_ok (hc : okC C) (hr : Rel C c w gs) (hf : few c 1) : Trip Tryz.prog 178 [ptr b, .int .i64 p].toArray (cellL b C c w gs)
  fun v l' => ∃ w2 gs2, Rel C (refillM C c p) w2 gs2 ∧ v = .tuple #[] ∧ l' = cellL b C (refillM C c p) w2 gs2 := by
 intro F K hK
 simp only [List.cons_append, List.nil_append] at hK ⊢
 have h8 := hc.n8
 have htl : c.tb.d.length ≤ 1000000 := by rw [hr.ok.tb]; omega
 by_cases h0 : firstM c 18 p < 0
 ·have hrm : refillM C c p = c := by unfold refillM; rw [if_pos h0]
  rw [hrm] at hK
  unfold firstM at h0
  (refine Tr.enter (rs := []) mixed fn178 rfl (by simp +arith [Tryz.ntmps178]) fun u => ?_; simp only [cd178, Tryz.f178])
  have hX := @pl178.eq_def; repeat' (first | refine S.x ?_ | (refine G.call 92 ?_; refine S.c ?_ (h := first_ok _ _ _ _ ?_)) | rintro _ _ ⟨rfl, rfl⟩ | (refine G.prop ?_; assumption) | fail)
  all_goals exact Tr.fin hK ⟨w, gs, hr, rfl, rfl⟩ S.E
 ·have hkw := first_prog hr h0
  have hdd := wait_dd hr (.inr rfl) h0
  have hle := data_le hr hkw
  obtain ⟨g0, g9⟩ := rel_in hr hkw
  have hmp := ix_map (f := TaskG.pt) (xs := gs) (k := firstM c 18 p) g0 g9
  have hlm : (gs.map TaskG.pt).length = gs.length := List.length_map _
  obtain ⟨c1, hc1⟩ : ∃ c1 : CM, c1 = { c with obs := { c.obs with pools := putM c.obs.pools p (ix c.data (firstM c 18 p)) } } := ⟨_, rfl⟩
  have hr1 : Rel C c1 w gs := by rw [hc1]; exact rel_obs hr
  have hf1 : few c1 1 := by rw [hc1]; exact hf
  have hrm : refillM C c p = if putMC c.obs.pools p (ix c.data (firstM c 18 p)).length = 0 then endM C c1 (firstM c 18 p) 18 0 0 else c1 := by
   unfold refillM
   rw [if_neg h0, hc1]
  rw [hrm] at hK
  have hfe : c.tb.best (One.waits 18 p) = firstM c 18 p := rfl
  clear hrm
  generalize firstM c 18 p = kw at *
  have hco := ccomplete_ok (b := b) (call := 18) (code := 0) (value := 0) hr1 hkw hf1
  (refine Tr.enter (rs := []) mixed fn178 rfl (by simp +arith [Tryz.ntmps178]) fun u => ?_; simp only [cd178, Tryz.f178])
  refine Tr.famAt (xs := gs) kw S.K (by omega) (by omega) (taskA_open ?_)
  rw [hdd]
  by_cases hcd : putMC c.obs.pools p (ix c.data kw).length = 0
  ·rw [if_pos hcd] at hK
   have hX := And.intro @pl178.eq_def (And.intro hmp (And.intro @TaskG.pt.eq_def hfe)); repeat' (first | refine S.x ?_ | (refine G.call 92 ?_; refine S.c ?_ (h := first_ok _ _ _ _ ?_)) | (refine G.call 179 ?_; first | refine S.c ?_ (h := xoput_ok (by assumption)) | fail) | rintro _ _ ⟨rfl, rfl⟩ | (refine G.prop ?_; assumption) | intro hb | fail)
   refine Tr.imp (l' := cellL b C c1 w gs ++ F) ?_ ?_
   ·subst hc1
    simp only [List.cons_append, List.nil_append]
    have hX := And.intro hdd @taskA.eq_def
    show EntR [] _ _
    exact S.E
   clear hr hr1 hc1 hfe
   simp only [List.cons_append, List.nil_append]
   have hX := @pl178.eq_def; repeat' (first | rintro _ _ ⟨w2, gs2, hrel, rfl, rfl⟩ | (refine G.call 94 ?_; refine S.c ?_ (h := hco)) | refine S.x ?_ | fail)
   all_goals exact Tr.fin hK ⟨w2, gs2, hrel, rfl, rfl⟩ S.E
  ·rw [if_neg hcd] at hK
   have hX := And.intro @pl178.eq_def (And.intro hmp (And.intro @TaskG.pt.eq_def hfe)); repeat' (first | refine S.x ?_ | (refine G.call 92 ?_; refine S.c ?_ (h := first_ok _ _ _ _ ?_)) | (refine G.call 179 ?_; first | refine S.c ?_ (h := xoput_ok (by assumption)) | fail) | rintro _ _ ⟨rfl, rfl⟩ | (refine G.prop ?_; assumption) | intro hb | fail)
   all_goals
    refine Tr.fin hK ⟨w, gs, hr1, rfl, rfl⟩ ?_
    subst hc1
    simp only [List.cons_append, List.nil_append]
    have hX := And.intro hdd @taskA.eq_def
    exact S.E
end
end Go.Proofs.YtacmaamllpiloaaGreat
