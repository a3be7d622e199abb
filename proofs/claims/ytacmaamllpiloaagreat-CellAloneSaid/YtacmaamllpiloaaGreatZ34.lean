import Derived.Test.YtacmaamllpiloaaGreatZ33
namespace Go.Proofs.YtacmaamllpiloaaGreat
open Go Go.Wk
set_option maxHeartbeats 3200000
set_option maxRecDepth 100000
section
variable {b : Nat} {C : CC} {c : CM} {w : CW} {gs : List TaskG} {k p wk : Int} {s : StepC} {s3 : SV} {bs : List UInt8}
theorem rel_wait (h : Rel C c w gs) (hk : inR C.progs k) (hs : s.ok) (hb : bs.length ≤ 300) :
  Rel C { c with addr := c.addr.set k.toNat s.b, data := c.data.set k.toNat bs, tb := c.tb.wait k s.call s.a wk } w (gs.set k.toNat { ix gs k with addr := s.b, ds := s3, dd := bs }) := by
 have hg := rel_in h hk
 have hd : inR c.data k := by unfold inR at *; rw [h.ok.data]; exact hk
 have hR : Rch C 0 c { c with addr := c.addr.set k.toNat s.b, data := c.data.set k.toNat bs } := .wait c k s.b bs hk hs.2.1 hb
 have hR2 : Rch C 0 c { c with addr := c.addr.set k.toNat s.b, data := c.data.set k.toNat bs, tb := c.tb.wait k s.call s.a wk } := hR.one (.tb _ (c.tb.wait k s.call s.a wk) wait_more)
 have hok : okM C { c with addr := c.addr.set k.toNat s.b, data := c.data.set k.toNat bs, tb := c.tb.wait k s.call s.a wk } := by
  refine ⟨wait_len.trans h.ok.tb, h.ok.pos, h.ok.rest, by simpa using h.ok.addr, by simpa using h.ok.data, h.ok.done, h.ok.pi, fun x hx => ?_, fun x hx => ?_⟩
  ·rcases List.mem_or_eq_of_mem_set hx with h' | rfl
   ·exact h.ok.ad x h'
   ·exact hs.2.1
  ·rcases List.mem_or_eq_of_mem_set hx with h' | rfl
   ·exact h.ok.dl x h'
   ·exact hb
 refine ⟨hok, (map_setE (f := TaskG.prog) hg (by rfl)).trans h.hp, (map_setE (f := TaskG.pos) hg (by rfl)).trans h.hi, (map_setE (f := TaskG.rest) hg (by rfl)).trans h.hr, ?_, (map_setE (f := TaskG.done) hg (by rfl)).trans h.hd, fun j hj hw => ?_, h.hs⟩
 ·rw [List.map_set, h.ha]
 ·have hj' : inR gs j := by unfold inR at *; simpa using hj
  rw [ix_setR hg hj'.1]
  show _ = ix (c.data.set k.toNat bs) j
  rw [ix_setR hd hj'.1]
  by_cases e : j = k
  ·rw [if_pos e, if_pos e]
  ·rw [if_neg e, if_neg e]
   have hw' : waitD ((c.tb.wait k s.call s.a wk).at j) := hw
   rw [wait_at (tb_in h hk), if_neg e] at hw'
   exact h.hw j hj' hw'
end
attribute [local irreducible] BrK GenK EGenK EUnitK CallK FnK CallV GuardO GuardC CondW opX opK opKc chkR eqR seqK blkK endL WL WD W LoopW BinK Tr drewK resL PickK NotK NilK ExtrK getK Instr.storeAt Instr.loadAt Instr.fieldAt Instr.indexAt Instr.lookup Instr.mapUpdate Instr.box Instr.alloc Instr.build Instr.buildSlice Instr.makeSlice Instr.makeMap Instr.sliceAt Instr.field Instr.index Instr.makeInterface Instr.typeAssert Builtin.len_ Builtin.append_ Builtin.cap_ Builtin.min_ Builtin.max_ Builtin.copy_ Builtin.clear_ convert binOp mp blk rob sl sep ex fact old
attribute [local irreducible] memX portX objX slkO
section
variable {b : Nat} {C : CC} {c : CM} {w : CW} {gs : List TaskG} {k p size : Int} {s : StepC} {s3 : SV} {bs : List UInt8}
theorem cwait_ok (hr : Rel C c w gs) (hk : inR C.progs k) (hf : few c 1) (hs : s.ok) (hb : bs.length ≤ 300) :
  Trip Tryz.prog 169 [ptr b, .int .i64 k, .agg (En.enc s).toArray, s3.v].toArray (sl true s3.v bs :: cellL b C c w gs)
  fun v l' => ∃ w2 gs2, Rel C (waitM C c k s bs) w2 gs2 ∧ v = .tuple #[] ∧ l' = cellL b C (waitM C c k s bs) w2 gs2 := by
 intro F K hK
 simp only [List.cons_append, List.nil_append] at hK ⊢
 unfold few at hf
 obtain ⟨h0, h1⟩ := rel_in hr hk
 have hmp := ix_map (f := TaskG.pt) (xs := gs) (k := k) h0 h1
 have hlm : (gs.map TaskG.pt).length = gs.length := List.length_map _
 have hpt : (gs.set k.toNat { ix gs k with addr := s.b, ds := s3, dd := bs }).map TaskG.pt = gs.map TaskG.pt := map_setE ⟨h0, h1⟩ (by rfl)
 by_cases hd : s.d = 0
 ·have hwm : waitM C c k s bs = noteM C c k s.call 1 0 := by unfold waitM; rw [if_pos hd]
  rw [hwm] at hK
  (refine Tr.enter (rs := []) mixed fn169 rfl (by simp +arith [Tryz.ntmps169]) fun u => ?_; simp only [cd169, Tryz.f169])
  have hX := @pl169.eq_def; repeat' (first | refine S.x ?_ | (refine G.call 159 ?_; refine S.c ?_ (h := ctell_ok ?_)) | rintro _ _ ⟨_, rfl, rfl⟩ | (refine G.prop ?_; assumption) | intro hb | fail)
  all_goals
   rename_i sv
   refine Tr.fin hK ⟨{ w with ev := sv }, gs, rel_note hr, rfl, rfl⟩ ?_
   simp only [List.cons_append, List.nil_append]
   have hX := @noteM.eq_def
   exact S.E
 ·obtain ⟨wk, hwk⟩ : ∃ wk, wk = (if 1000 < s.d then IntKind.i64.wrap (c.win + 1000) else if 0 < s.d then IntKind.i64.wrap (c.win + s.d) else -1) := ⟨_, rfl⟩
  have hwm : waitM C c k s bs = { c with addr := c.addr.set k.toNat s.b, data := c.data.set k.toNat bs, tb := c.tb.wait k s.call s.a wk } := by unfold waitM; rw [if_neg hd, hwk]
  rw [hwm] at hK
  have hrel := rel_wait (s3 := s3) (wk := wk) hr hk hs hb
  (refine Tr.enter (rs := []) mixed fn169 rfl (by simp +arith [Tryz.ntmps169]) fun u => ?_; simp only [cd169, Tryz.f169])
  refine Tr.famAt (xs := gs) k S.K (by omega) (by omega) (taskA_open ?_)
  by_cases h2 : 1000 < s.d
  ·have hmi : (if (1000 : Int) < s.d then (1000 : Int) else s.d) = 1000 := if_pos h2
   rw [if_pos h2] at hwk
   have hwk' := hwk.symm
   clear hwk
   have hX := And.intro @pl169.eq_def (And.intro hmp (And.intro @TaskG.pt.eq_def (And.intro hmi @hwk'))); repeat' (first | refine S.x ?_ | (refine G.call 229 ?_; refine S.c ?_ (h := wait_ok _ _ _ _ _ _)) | rintro _ _ ⟨rfl, rfl⟩ | intro hb | fail)
   all_goals
    refine Tr.fin hK ⟨w, _, hrel, rfl, rfl⟩ ?_
    simp only [List.cons_append, List.nil_append]
    rw [hpt]
    have hX := @taskA.eq_def
    exact S.E
  ·have hmi : (if (1000 : Int) < s.d then (1000 : Int) else s.d) = s.d := if_neg h2
   rw [if_neg h2] at hwk
   by_cases h3 : 0 < s.d
   ·rw [if_pos h3] at hwk
    have hwk' := hwk.symm
    clear hwk
    have hX := And.intro @pl169.eq_def (And.intro hmp (And.intro @TaskG.pt.eq_def (And.intro hmi @hwk'))); repeat' (first | refine S.x ?_ | (refine G.call 229 ?_; refine S.c ?_ (h := wait_ok _ _ _ _ _ _)) | rintro _ _ ⟨rfl, rfl⟩ | intro hb | fail)
    all_goals
     refine Tr.fin hK ⟨w, _, hrel, rfl, rfl⟩ ?_
     simp only [List.cons_append, List.nil_append]
     rw [hpt]
     have hX := @taskA.eq_def
     exact S.E
   ·rw [if_neg h3] at hwk
    subst hwk
    have hX := And.intro @pl169.eq_def (And.intro hmp (And.intro @TaskG.pt.eq_def hmi)); repeat' (first | refine S.x ?_ | (refine G.call 229 ?_; refine S.c ?_ (h := wait_ok _ _ _ _ _ _)) | rintro _ _ ⟨rfl, rfl⟩ | intro hb | fail)
    all_goals
     refine Tr.fin hK ⟨w, _, hrel, rfl, rfl⟩ ?_
     simp only [List.cons_append, List.nil_append]
     rw [hpt]
     have hX := @taskA.eq_def
     exact S.E
theorem cbad_ok (hc : okC C) (hr : Rel C c w gs) (hk : inR C.progs k) (hf : few c 2) :
  Trip Tryz.prog 185 [ptr b, .int .i64 k, .agg (En.enc s).toArray].toArray (cellL b C c w gs)
  fun v l' => ∃ w2 gs2, Rel C (badM C c k s) w2 gs2 ∧ v = .tuple #[] ∧ l' = cellL b C (badM C c k s) w2 gs2 := by
 intro F K hK
 simp only [List.cons_append, List.nil_append] at hK ⊢
 have hf1 : few c 1 := by unfold few at *; omega
 unfold few at hf1
 obtain ⟨c1, hc1⟩ : ∃ c1, c1 = noteM C c k s.call 8 0 := ⟨_, rfl⟩
 have hf2 : few c1 1 := by unfold few at *; rw [hc1]; simp only [noteM, List.length_append, List.length_cons, List.length_nil]; omega
 have hr1 : ∀ s, Rel C c1 { w with ev := s } gs := fun s => by rw [hc1]; exact rel_note hr
 have hbm : badM C c k s = faultM C c1 k 2 := by rw [hc1]; rfl
 rw [hbm] at hK
 (refine Tr.enter (rs := []) mixed fn185 rfl (by simp +arith [Tryz.ntmps185]) fun u => ?_; simp only [cd185, Tryz.f185])
 have hX := @pl185.eq_def; repeat' (first | refine S.x ?_ | (refine G.call 159 ?_; refine S.c ?_ (h := ctell_ok ?_)) | rintro _ _ ⟨_, rfl, rfl⟩ | (refine G.prop ?_; assumption) | intro hb | fail)
 rename_i sv
 refine Tr.imp (l' := cellL b C c1 { w with ev := sv } gs ++ F) ?_ ?_
 ·subst hc1
  simp only [List.cons_append, List.nil_append]
  have hX := @noteM.eq_def
  show EntR [] _ _
  exact S.E
 have hcf := cfault_ok (b := b) (kind := 2) hc (hr1 sv) hk hf2 (by decide) (by decide)
 clear hc1 hr1 hbm
 simp only [List.cons_append, List.nil_append]
 have hX := @pl185.eq_def; repeat' (first | rintro _ _ ⟨w3, g3, hr3, rfl, rfl⟩ | (refine G.call 91 ?_; refine S.c ?_ (h := hcf)) | refine S.x ?_ | fail)
 all_goals exact Tr.fin hK ⟨w3, g3, hr3, rfl, rfl⟩ S.E
end
end Go.Proofs.YtacmaamllpiloaaGreat
namespace Go.Proofs.YtacmaamllpiloaaGreat
open Go Go.Wk
set_option maxHeartbeats 3200000
set_option maxRecDepth 100000
def gotsM (C : CC) (c : CM) (k : Int) (s : StepC) (b : List UInt8) (code : Int) : CM := if code = 0 then gotM C c k s b else if s.call = 10 then noteM C c k s.call code 0 else waitM C c k s []
def takenM (C : CC) (c : CM) (k : Int) (s : StepC) (code : Int) : CM := if code = 1 then waitM C c k s [] else noteM C c k s.call code 0
attribute [local irreducible] BrK GenK EGenK EUnitK CallK FnK CallV GuardO GuardC CondW opX opK opKc chkR eqR seqK blkK endL WL WD W LoopW BinK Tr drewK resL PickK NotK NilK ExtrK getK Instr.storeAt Instr.loadAt Instr.fieldAt Instr.indexAt Instr.lookup Instr.mapUpdate Instr.box Instr.alloc Instr.build Instr.buildSlice Instr.makeSlice Instr.makeMap Instr.sliceAt Instr.field Instr.index Instr.makeInterface Instr.typeAssert Builtin.len_ Builtin.append_ Builtin.cap_ Builtin.min_ Builtin.max_ Builtin.copy_ Builtin.clear_ convert binOp mp blk rob sl sep ex fact old
attribute [local irreducible] memX portX objX slkO
section
variable {b : Nat} {C : CC} {c : CM} {w : CW} {gs : List TaskG} {k p size code : Int} {s : StepC} {s3 : SV} {bs : List UInt8}
theorem cinto_t (hs : s.ok) (h : intoB c s size = true) :
  Trip Tryz.prog 164 [ptr b, .int .i64 k, .agg (En.enc s).toArray, .int .i64 size].toArray (cellL b C c w gs)
  fun v l' => v = .bool true ∧ l' = cellL b C c w gs := by
 intro F K hK
 simp only [List.cons_append, List.nil_append] at hK ⊢
 have hz := hs.2.1
 unfold intoB at h
 (refine Tr.enter (rs := [.tmp 8]) mixed fn164 rfl (by simp +arith [Tryz.ntmps164]) fun u => ?_; simp only [cd164, Tryz.f164])
 have hX := And.intro @pl164.eq_def h; repeat' (first | refine S.x ?_ | (refine G.call 230 ?_; first | refine S.c ?_ (h := xmay_ok (by assumption)) | fail) | rintro _ _ ⟨rfl, rfl⟩ | intro hb | fail)
 all_goals exact Tr.fin hK ⟨rfl, rfl⟩ S.E
theorem cinto_f (hc : okC C) (hr : Rel C c w gs) (hk : inR C.progs k) (hf : few c 2) (hs : s.ok) (h : intoB c s size = false) :
  Trip Tryz.prog 164 [ptr b, .int .i64 k, .agg (En.enc s).toArray, .int .i64 size].toArray (cellL b C c w gs)
  fun v l' => ∃ w2 gs2, Rel C (badM C c k s) w2 gs2 ∧ v = .bool false ∧ l' = cellL b C (badM C c k s) w2 gs2 := by
 intro F K hK
 simp only [List.cons_append, List.nil_append] at hK ⊢
 have hz := hs.2.1
 unfold intoB at h
 have hcb := cbad_ok (b := b) (s := s) hc hr hk hf
 (refine Tr.enter (rs := [.tmp 8]) mixed fn164 rfl (by simp +arith [Tryz.ntmps164]) fun u => ?_; simp only [cd164, Tryz.f164])
 have hX := And.intro @pl164.eq_def h; repeat' (first | rintro _ _ ⟨rfl, rfl⟩ | rintro _ _ ⟨w3, g3, hr3, rfl, rfl⟩ | (refine G.call 185 ?_; refine S.c ?_ (h := hcb)) | refine S.x ?_ | (refine G.call 230 ?_; first | refine S.c ?_ (h := xmay_ok (by assumption)) | fail) | intro hb | fail)
 all_goals exact Tr.fin hK ⟨w3, g3, hr3, rfl, rfl⟩ S.E
theorem cfrom_t (hs : s.ok) (h : fromB c s size = true) :
  Trip Tryz.prog 167 [ptr b, .int .i64 k, .agg (En.enc s).toArray, .int .i64 size].toArray (cellL b C c w gs)
  fun v l' => ∃ s4 : SV, v = .tuple #[s4.v, .bool true] ∧ l' = sl true s4.v (ldB c.mem s.b s.c) :: cellL b C c w gs := by
 intro F K hK
 simp only [List.cons_append, List.nil_append] at hK ⊢
 have hz := hs.2.1
 unfold fromB at h
 simp only [Bool.and_eq_true, decide_eq_true_eq] at h
 obtain ⟨⟨h1, h2⟩, h3⟩ := h
 (refine Tr.enter (rs := [.tmp 8, .tmp 9]) mixed fn167 rfl (by simp +arith [Tryz.ntmps167]) fun u => ?_; simp only [cd167, Tryz.f167])
 have hX := And.intro @pl167.eq_def h3; repeat' (first | refine S.x ?_ | (refine G.call 231 ?_; first | refine S.c ?_ (h := xload_ok (by assumption)) | fail) | rintro _ _ ⟨_, rfl, rfl⟩ | intro hb | fail)
 all_goals
  rename_i s4
  exact Tr.fin hK ⟨s4, rfl, rfl⟩ S.E
theorem cfrom_f (hc : okC C) (hr : Rel C c w gs) (hk : inR C.progs k) (hf : few c 2) (hs : s.ok) (h : fromB c s size = false) :
  Trip Tryz.prog 167 [ptr b, .int .i64 k, .agg (En.enc s).toArray, .int .i64 size].toArray (cellL b C c w gs)
  fun v l' => ∃ (s4 : SV) (w2 : CW) (gs2 : List TaskG), Rel C (fromM C c k s size) w2 gs2 ∧ v = .tuple #[s4.v, .bool false] ∧ l' = cellL b C (fromM C c k s size) w2 gs2 := by
 intro F K hK
 simp only [List.cons_append, List.nil_append] at hK ⊢
 have hz := hs.2.1
 have hf1 : few c 1 := by unfold few at *; omega
 unfold few at hf1
 by_cases h1 : 1 ≤ s.c ∧ s.c ≤ size
 ·have h3 : ldO c.mem s.b s.c = false := by
   unfold fromB at h
   rw [decide_eq_true h1.1, decide_eq_true h1.2] at h
   exact h
  obtain ⟨h4, h5⟩ := h1
  have hfm : fromM C c k s size = badM C c k s := by unfold fromM; rw [if_pos ⟨h4, h5⟩]
  rw [hfm] at hK
  have hcb := cbad_ok (b := b) (s := s) hc hr hk hf
  (refine Tr.enter (rs := [.tmp 8, .tmp 9]) mixed fn167 rfl (by simp +arith [Tryz.ntmps167]) fun u => ?_; simp only [cd167, Tryz.f167])
  have hX := And.intro @pl167.eq_def h3; repeat' (first | rintro _ _ ⟨_, rfl, rfl⟩ | rintro _ _ ⟨w3, g3, hr3, rfl, rfl⟩ | (refine G.call 185 ?_; refine S.c ?_ (h := hcb)) | refine S.x ?_ | (refine G.call 231 ?_; first | refine S.c ?_ (h := xload_ok (by assumption)) | fail) | intro hb | fail)
  all_goals exact Tr.fin hK ⟨_, w3, g3, hr3, rfl, rfl⟩ S.E
 ·have hfm : fromM C c k s size = noteM C c k s.call 2 0 := by unfold fromM; rw [if_neg h1]
  rw [hfm] at hK
  have hrn := fun s' => rel_note (k := k) (call := s.call) (code := 2) (value := 0) (s := s') hr
  (refine Tr.enter (rs := [.tmp 8, .tmp 9]) mixed fn167 rfl (by simp +arith [Tryz.ntmps167]) fun u => ?_; simp only [cd167, Tryz.f167])
  by_cases h4 : s.c < 1
  ·have hX := @pl167.eq_def; repeat' (first | refine S.x ?_ | (refine G.call 159 ?_; refine S.c ?_ (h := ctell_ok ?_)) | rintro _ _ ⟨_, rfl, rfl⟩ | (refine G.prop ?_; assumption) | intro hb | fail)
   all_goals
    rename_i sv
    refine Tr.fin hK ⟨⟨none, 0, 0⟩, { w with ev := sv }, gs, hrn sv, rfl, rfl⟩ ?_
    have hX := @noteM.eq_def
    simp only [List.cons_append, List.nil_append]
    exact S.E
  ·have h5 : size < s.c := by omega
   have hX := @pl167.eq_def; repeat' (first | refine S.x ?_ | (refine G.call 159 ?_; refine S.c ?_ (h := ctell_ok ?_)) | rintro _ _ ⟨_, rfl, rfl⟩ | (refine G.prop ?_; assumption) | intro hb | fail)
   all_goals
    rename_i sv
    refine Tr.fin hK ⟨⟨none, 0, 0⟩, { w with ev := sv }, gs, hrn sv, rfl, rfl⟩ ?_
    have hX := @noteM.eq_def
    simp only [List.cons_append, List.nil_append]
    exact S.E
theorem cgot_ok (hr : Rel C c w gs) (hk : inR C.progs k) (hf : few c 1) (hs : s.ok) :
  Trip Tryz.prog 166 [ptr b, .int .i64 k, .agg (En.enc s).toArray, s3.v, .int .i64 code].toArray (sl true s3.v bs :: cellL b C c w gs)
  fun v l' => ∃ w2 gs2, Rel C (gotsM C c k s bs code) w2 gs2 ∧ v = .bool (decide (code = 0)) ∧ l' = cellL b C (gotsM C c k s bs code) w2 gs2 := by
 intro F K hK
 simp only [List.cons_append, List.nil_append] at hK ⊢
 have hz := hs.2.1
 have hf1 := hf
 unfold few at hf1
 by_cases h0 : code = 0
 ·have hgm : gotsM C c k s bs code = gotM C c k s bs := by unfold gotsM; rw [if_pos h0]
  rw [hgm] at hK
  have hrn := fun s' => rel_note (k := k) (call := s.call) (code := 0) (value := (bs.length : Int)) (s := s') (rel_mem (ms := stB c.mem s.b bs) hr)
  (refine Tr.enter (rs := [.tmp 10]) mixed fn166 rfl (by simp +arith [Tryz.ntmps166]) fun u => ?_; simp only [cd166, Tryz.f166])
  have hX := @pl166.eq_def; repeat' (first | refine S.x ?_ | (refine G.call 152 ?_; first | refine S.c ?_ (h := xstore_ok (by assumption))) | (refine G.call 90 ?_; refine S.c ?_ (h := cnote_ok ?_)) | rintro _ _ ⟨rfl, rfl⟩ | rintro _ _ ⟨_, rfl, rfl⟩ | (refine G.prop ?_; assumption) | intro hb | fail)
  all_goals
   rename_i sv
   refine Tr.fin hK ⟨{ w with ev := sv }, gs, hrn sv, by rw [h0]; rfl, rfl⟩ ?_
   have hX := And.intro @gotM.eq_def @noteM.eq_def
   simp only [List.cons_append, List.nil_append]
   exact S.E
 ·by_cases h1 : s.call = 10
  ·have hgm : gotsM C c k s bs code = noteM C c k s.call code 0 := by unfold gotsM; rw [if_neg h0, if_pos h1]
   rw [hgm] at hK
   have hrn := fun s' => rel_note (k := k) (call := s.call) (code := code) (value := 0) (s := s') hr
   have hd0 : decide (code = 0) = false := decide_eq_false h0
   (refine Tr.enter (rs := [.tmp 10]) mixed fn166 rfl (by simp +arith [Tryz.ntmps166]) fun u => ?_; simp only [cd166, Tryz.f166])
   have hX := @pl166.eq_def; repeat' (first | refine S.x ?_ | (refine G.call 159 ?_; refine S.c ?_ (h := ctell_ok ?_)) | rintro _ _ ⟨_, rfl, rfl⟩ | (refine G.prop ?_; assumption) | intro hb | fail)
   all_goals
    rename_i sv
    refine Tr.fin hK ⟨{ w with ev := sv }, gs, hrn sv, by rw [hd0], rfl⟩ ?_
    have hX := @noteM.eq_def
    simp only [List.cons_append, List.nil_append]
    exact S.E
  ·have hgm : gotsM C c k s bs code = waitM C c k s [] := by unfold gotsM; rw [if_neg h0, if_neg h1]
   rw [hgm] at hK
   have hd0 : decide (code = 0) = false := decide_eq_false h0
   have hcw := cwait_ok (b := b) (s3 := ⟨none, 0, 0⟩) (bs := []) hr hk hf hs (Nat.zero_le _)
   (refine Tr.enter (rs := [.tmp 10]) mixed fn166 rfl (by simp +arith [Tryz.ntmps166]) fun u => ?_; simp only [cd166, Tryz.f166])
   have hX := @pl166.eq_def; repeat' (first | rintro _ _ ⟨w3, g3, hr3, rfl, rfl⟩ | (refine G.call 169 ?_; refine S.c ?_ (h := hcw)) | refine S.x ?_ | intro hb | fail)
   all_goals exact Tr.fin hK ⟨w3, g3, hr3, by rw [hd0], rfl⟩ S.E
theorem ctaken_ok (hr : Rel C c w gs) (hk : inR C.progs k) (hf : few c 1) (hs : s.ok) :
  Trip Tryz.prog 171 [ptr b, .int .i64 k, .agg (En.enc s).toArray, .int .i64 code].toArray (cellL b C c w gs)
  fun v l' => ∃ w2 gs2, Rel C (takenM C c k s code) w2 gs2 ∧ v = .tuple #[] ∧ l' = cellL b C (takenM C c k s code) w2 gs2 := by
 intro F K hK
 simp only [List.cons_append, List.nil_append] at hK ⊢
 have hf1 := hf
 unfold few at hf1
 by_cases h1 : code = 1
 ·have hgm : takenM C c k s code = waitM C c k s [] := by unfold takenM; rw [if_pos h1]
  rw [hgm] at hK
  have hcw := cwait_ok (b := b) (s3 := ⟨none, 0, 0⟩) (bs := []) hr hk hf hs (Nat.zero_le _)
  (refine Tr.enter (rs := []) mixed fn171 rfl (by simp +arith [Tryz.ntmps171]) fun u => ?_; simp only [cd171, Tryz.f171])
  have hX := @pl171.eq_def; repeat' (first | rintro _ _ ⟨w3, g3, hr3, rfl, rfl⟩ | (refine G.call 169 ?_; refine S.c ?_ (h := hcw)) | refine S.x ?_ | intro hb | fail)
  all_goals exact Tr.fin hK ⟨w3, g3, hr3, rfl, rfl⟩ S.E
 ·have hgm : takenM C c k s code = noteM C c k s.call code 0 := by unfold takenM; rw [if_neg h1]
  rw [hgm] at hK
  have hrn := fun s' => rel_note (k := k) (call := s.call) (code := code) (value := 0) (s := s') hr
  (refine Tr.enter (rs := []) mixed fn171 rfl (by simp +arith [Tryz.ntmps171]) fun u => ?_; simp only [cd171, Tryz.f171])
  have hX := @pl171.eq_def; repeat' (first | refine S.x ?_ | (refine G.call 159 ?_; refine S.c ?_ (h := ctell_ok ?_)) | rintro _ _ ⟨_, rfl, rfl⟩ | (refine G.prop ?_; assumption) | intro hb | fail)
  all_goals
   rename_i sv
   refine Tr.fin hK ⟨{ w with ev := sv }, gs, hrn sv, rfl, rfl⟩ ?_
   have hX := @noteM.eq_def
   simp only [List.cons_append, List.nil_append]
   exact S.E
end
end Go.Proofs.YtacmaamllpiloaaGreat
