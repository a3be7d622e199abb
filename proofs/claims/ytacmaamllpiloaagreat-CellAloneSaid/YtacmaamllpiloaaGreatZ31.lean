import Derived.Test.YtacmaamllpiloaaGreatZ30
namespace Go.Proofs.YtacmaamllpiloaaGreat
open Go Go.Wk
set_option maxHeartbeats 3200000
set_option maxRecDepth 100000
attribute [local irreducible] BrK GenK EGenK EUnitK CallK FnK CallV GuardO GuardC CondW opX opK opKc chkR eqR seqK blkK endL WL WD W LoopW BinK Tr drewK resL PickK NotK NilK ExtrK getK Instr.storeAt Instr.loadAt Instr.fieldAt Instr.indexAt Instr.lookup Instr.mapUpdate Instr.box Instr.alloc Instr.build Instr.buildSlice Instr.makeSlice Instr.makeMap Instr.sliceAt Instr.field Instr.index Instr.makeInterface Instr.typeAssert Builtin.len_ Builtin.append_ Builtin.cap_ Builtin.min_ Builtin.max_ Builtin.copy_ Builtin.clear_ convert binOp mp blk rob sl sep ex fact old
attribute [local irreducible] memX portX objX slkO
section
variable {b : Nat} {C : CC} {c : CM} {w : CW} {gs : List TaskG} {k kind : Int}
theorem cfault_ok (hc : okC C) (hr : Rel C c w gs) (hk : inR C.progs k) (hf : few c 1) (h0 : 0 ≤ kind) (h4 : kind ≤ 4) : Trip Tryz.prog 91 [ptr b, .int .i64 kind, .int .i64 k].toArray (cellL b C c w gs)
  fun v l' => ∃ w2 gs2, Rel C (faultM C c k kind) w2 gs2 ∧ v = .tuple #[] ∧ l' = cellL b C (faultM C c k kind) w2 gs2 := by
 intro F K hK
 simp only [List.cons_append, List.nil_append] at hK ⊢
 unfold few at hf
 have hwk : IntKind.i64.wrap (-1 - kind) = -1 - kind := wrapId (by omega) (by omega)
 obtain ⟨act, hact⟩ : ∃ act, act = actA C.conf.acts.d kind := ⟨_, rfl⟩
 obtain ⟨c1, hc1⟩ : ∃ c1, c1 = noteM C c k (-1 - kind) act 0 := ⟨_, rfl⟩
 have hfm : faultM C c k kind = (if act = 1 then setTM c1 k 0 else if act = 2 then startM C (setTM c1 k 0) k c1.win else if act = 3 then anewM C c1 true else if act = 4 then idleM C c1 else c1) := by rw [hc1, hact]; rfl
 have hr1 : ∀ s, Rel C c1 { w with ev := s } gs := fun s => by rw [hc1]; exact rel_note hr
 have hev : c1.evs = c.evs ++ [⟨C.part, c.win, k, -1 - kind, act, 0⟩] := by rw [hc1]; rfl
 have hfl : c1.mode = c.mode ∧ c1.win = c.win ∧ c1.tb = c.tb ∧ c1.mem = c.mem ∧ c1.pts = c.pts ∧ c1.obs = c.obs ∧ c1.slk = c.slk := by rw [hc1]; exact ⟨rfl, rfl, rfl, rfl, rfl, rfl, rfl⟩
 rw [hfm] at hK
 (refine Tr.enter (rs := []) mixed fn91 rfl (by simp +arith [Tryz.ntmps91]) fun u => ?_; simp only [cd91, Tryz.f91])
 have hX := And.intro @pl91.eq_def (And.intro hwk @hact.symm); repeat' (first | rintro _ _ ⟨rfl, rfl⟩ | rintro _ _ ⟨sv, rfl, rfl⟩ | (refine G.call 90 ?_; refine S.c ?_ (h := cnote_ok hf)) | refine S.x ?_ | refine S.y ?_ ?_ | (refine G.call 143 ?_; refine S.c ?_ (h := fault_ok ?_ ?_)) | (refine G.prop ?_; assumption) | intro hb | fail)
 all_goals
  have hrs := hr1 sv
  refine Tr.imp (l' := cellL b C c1 { w with ev := sv } gs ++ F) ?_ ?_
  ·clear hev hfl hfm hr1 hrs hK
   subst hc1
   simp only [List.cons_append, List.nil_append]
   have hX := @noteM.eq_def
   show EntR [] _ _
   exact S.E
  clear hev hfl hc1 hfm hr1
  simp only [List.cons_append, List.nil_append]
 ·rw [if_pos hb] at hK
  have hX := @pl91.eq_def; repeat' (first | rintro _ _ ⟨g3, hr3, rfl, rfl⟩ | (refine G.call 144 ?_; refine S.c ?_ (h := cstop_ok hrs hk)) | refine S.x ?_ | fail)
  all_goals exact Tr.fin hK ⟨_, g3, hr3, rfl, rfl⟩ S.E
 ·rw [if_neg (by omega), if_pos hb] at hK
  have hnw : ¬ waitD ((setTM c1 k 0).tb.at k) := set_not (t := c1.tb) (tb_in hrs hk) (by decide) (by decide) (by decide)
  have hwn : (setTM c1 k 0).win = c1.win := rfl
  have hX := @pl91.eq_def; repeat' (first | rintro _ _ ⟨g3, hr3, rfl, rfl⟩ | (refine G.call 144 ?_; refine S.c ?_ (h := cstop_ok hrs hk)) | (refine G.call 59 ?_; refine S.c ?_ (h := cstart_ok hc hr3 hk hnw)) | refine S.x ?_ | fail)
  all_goals exact Tr.fin hK ⟨_, g3, hr3, rfl, rfl⟩ S.E
 ·rw [if_neg (by omega), if_neg (by omega), if_pos hb] at hK
  have hX := @pl91.eq_def; repeat' (first | rintro _ _ ⟨g3, hr3, rfl, rfl⟩ | (refine G.call 145 ?_; refine S.c ?_ (h := crestart_ok hc hrs)) | refine S.x ?_ | fail)
  all_goals exact Tr.fin hK ⟨_, g3, hr3, rfl, rfl⟩ S.E
 ·rw [if_neg (by omega), if_neg (by omega), if_neg (by omega), if_pos hb] at hK
  have hX := @pl91.eq_def; repeat' (first | rintro _ _ ⟨g3, hr3, rfl, rfl⟩ | (refine G.call 146 ?_; refine S.c ?_ (h := cidle_ok hc hrs)) | refine S.x ?_ | fail)
  all_goals exact Tr.fin hK ⟨_, g3, hr3, rfl, rfl⟩ S.E
 ·rw [if_neg (by omega), if_neg (by omega), if_neg (by omega), if_neg (by omega)] at hK
  have hX := @pl91.eq_def; repeat' (first | refine S.x ?_ | refine S.y ?_ ?_ | (refine G.call 143 ?_; refine S.c ?_ (h := fault_ok ?_ ?_)) | (refine G.call 90 ?_; refine S.c ?_ (h := cnote_ok ?_)) | (refine G.call 144 ?_; refine S.c ?_ (h := cstop_ok (by assumption) (by assumption))) | (refine G.call 59 ?_; refine S.c ?_ (h := cstart_ok (by assumption) (by assumption) (by assumption) (by assumption))) | (refine G.call 145 ?_; refine S.c ?_ (h := crestart_ok (by assumption) (by assumption))) | (refine G.call 146 ?_; refine S.c ?_ (h := cidle_ok (by assumption) (by assumption))) | rintro _ _ ⟨rfl, rfl⟩ | rintro _ _ ⟨_, rfl, rfl⟩ | rintro _ _ ⟨_, hrel, rfl, rfl⟩ | (refine G.prop ?_; assumption) | intro hb | ((fail_if_success refine G.tr ?_); exact G.prop S.p) | fail)
  all_goals exact Tr.fin hK ⟨_, gs, hrs, rfl, rfl⟩ S.E
end
end Go.Proofs.YtacmaamllpiloaaGreat
namespace Go.Proofs.YtacmaamllpiloaaGreat
open Go Go.Wk
section
variable {t : Tb} {q : One → Bool} {k : Int} {o : One}
theorem best_in (h : 0 ≤ t.best q) : inR t.d (t.best q) := ⟨h, (bestTo_ge t q t.d.length).2⟩
theorem bestTo_sat : ∀ n, 0 ≤ t.bestTo q n → q (t.at (t.bestTo q n)) = true
 | 0, h => by simp [Tb.bestTo] at h
 | n + 1, h => by
  have ih := bestTo_sat n
  unfold Tb.bestTo at h ⊢
  split
  ·rename_i hb
   simp only [Bool.and_eq_true] at hb
   exact hb.1
  ·rename_i hb
   rw [if_neg hb] at h
   exact ih h
theorem best_sat (h : 0 ≤ t.best q) : q (t.at (t.best q)) = true := bestTo_sat _ h
def cnt (q : One → Bool) (t : Tb) : Nat := t.d.countP q
theorem cnt_le : cnt q t ≤ t.d.length := List.countP_le_length
theorem at_get (hk : inR t.d k) : t.d[k.toNat]'(by have := hk.1; have := hk.2; omega) = t.at k := by
 have h1 : k.toNat < t.d.length := by have := hk.1; have := hk.2; omega
 unfold Tb.at
 rw [if_pos hk.1, List.getD_eq_getElem?_getD, List.getElem?_eq_getElem h1]; rfl
theorem cnt_set {n : Int} (hk : inR t.d k) (h1 : q (t.at k) = true) (h2 : q o = false) : cnt q (Tb.mk (t.d.set k.toNat o) n) + 1 = cnt q t := by
 have hl : k.toNat < t.d.length := by have := hk.1; have := hk.2; omega
 have h3 : q (t.d[k.toNat]'hl) = true := by rw [at_get hk]; exact h1
 have h4 : 0 < t.d.countP q := List.countP_pos_iff.2 ⟨_, List.getElem_mem hl, h3⟩
 unfold cnt
 simp only
 rw [List.countP_set hl, if_pos h3, if_neg (by rw [h2]; decide)]
 omega
theorem waits_of {call what : Int} {d : One} (h : One.waits call what d = true) : d.state = 2 ∧ d.call = call ∧ d.what = what := by
 unfold One.waits at h
 simp only [Bool.and_eq_true, decide_eq_true_eq] at h
 exact ⟨h.1.1, h.1.2, h.2⟩
theorem cnt_on {call what : Int} (h : 0 ≤ t.best (One.waits call what)) : cnt (One.waits call what) (t.set (t.best (One.waits call what)) 1) + 1 = cnt (One.waits call what) t := by
 have hin := best_in h
 have hs := best_sat h
 unfold Tb.set
 rw [if_pos (by unfold Tb.setB; simp only [Bool.and_eq_true]; exact ⟨has_in.2 hin, by decide⟩)]
 refine cnt_set hin hs ?_
 unfold One.waits
 rw [putP_wait.1]
 rfl
end
section
variable {C : CC} {c : CM} {p : Int}
theorem endM_tb {k call code value : Int} : (endM C c k call code value).tb = c.tb.set k 1 := rfl
theorem getsM_tb {k call : Int} {b : List UInt8} : (getsM C c k call b).tb = c.tb.set k 1 := rfl
theorem sendTo_stop (h : firstM c 11 p < 0) : ∀ n, sendTo C p n c = c
 | 0 => rfl
 | n + 1 => by unfold sendTo; rw [if_pos h]
theorem recvTo_stop (h : firstM c 12 p < 0) : ∀ n, recvTo C p n c = c
 | 0 => rfl
 | n + 1 => by unfold recvTo; rw [if_pos h]
theorem flagTo_stop (h : firstM c 17 p < 0) : ∀ n, flagTo C p n c = c
 | 0 => rfl
 | n + 1 => by unfold flagTo; rw [if_pos h]
theorem slateTo_stop {b : List UInt8} (h : firstM c 21 p < 0) : ∀ n, slateTo C p b n c = c
 | 0 => rfl
 | n + 1 => by unfold slateTo; rw [if_pos h]
end
end Go.Proofs.YtacmaamllpiloaaGreat
namespace Go.Proofs.YtacmaamllpiloaaGreat
open Go Go.Wk
set_option maxHeartbeats 3200000
set_option maxRecDepth 100000
section
variable {b : Nat} {C : CC} {c : CM} {w : CW} {gs : List TaskG} {k call p : Int}
theorem rel_pts {ps : List AP} (h : Rel C c w gs) : Rel C { c with pts := ps } w gs :=
 ⟨⟨h.ok.tb, h.ok.pos, h.ok.rest, h.ok.addr, h.ok.data, h.ok.done, h.ok.pi, h.ok.ad, h.ok.dl⟩, h.hp, h.hi, h.hr, h.ha, h.hd, h.hw, h.hs⟩
theorem data_le (h : Rel C c w gs) (hk : inR C.progs k) : (ix c.data k).length ≤ 300 := by
 have hd : inR c.data k := by unfold inR at *; rw [h.ok.data]; exact hk
 exact h.ok.dl _ (List.mem_of_getElem? (ix_some hd.1 hd.2))
theorem tb_prog (h : Rel C c w gs) (hk : inR c.tb.d k) : inR C.progs k := by unfold inR at *; rw [← h.ok.tb]; exact hk
theorem first_prog (h : Rel C c w gs) (h0 : ¬ firstM c call p < 0) : inR C.progs (firstM c call p) := tb_prog h (best_in (q := One.waits call p) (by unfold firstM at h0; omega))
theorem wait_dd (h : Rel C c w gs) (hcall : call = 11 ∨ call = 18) (h0 : ¬ firstM c call p < 0) : (ix gs (firstM c call p)).dd = ix c.data (firstM c call p) := by
 have hs := waits_of (best_sat (t := c.tb) (q := One.waits call p) (by unfold firstM at h0; omega))
 refine h.hw _ (rel_in h (first_prog h h0)) ⟨hs.1, ?_⟩
 unfold firstM
 rw [hs.2.1]; exact hcall
theorem cnt_end {c2 : CM} {code value : Int} (h0 : ¬ firstM c call p < 0) (ht : c2.tb = c.tb) : cnt (One.waits call p) (endM C c2 (firstM c call p) call code value).tb + 1 = cnt (One.waits call p) c.tb := by
 rw [endM_tb, ht]
 exact cnt_on (by unfold firstM at h0; omega)
end
attribute [local irreducible] BrK GenK EGenK EUnitK CallK FnK CallV GuardO GuardC CondW opX opK opKc chkR eqR seqK blkK endL WL WD W LoopW BinK Tr drewK resL PickK NotK NilK ExtrK getK Instr.storeAt Instr.loadAt Instr.fieldAt Instr.indexAt Instr.lookup Instr.mapUpdate Instr.box Instr.alloc Instr.build Instr.buildSlice Instr.makeSlice Instr.makeMap Instr.sliceAt Instr.field Instr.index Instr.makeInterface Instr.typeAssert Builtin.len_ Builtin.append_ Builtin.cap_ Builtin.min_ Builtin.max_ Builtin.copy_ Builtin.clear_ convert binOp mp blk rob sl sep ex fact old
attribute [local irreducible] memX portX objX slkO
section
variable {b : Nat} {C : CC} {c : CM} {w : CW} {gs : List TaskG} {k p : Int}
theorem csenders_ok (hc : okC C) (hr : Rel C c w gs) (hf : few c 8) : Trip Tryz.prog 35 [ptr b, .int .i64 p].toArray (cellL b C c w gs)
  fun v l' => ∃ w2 gs2, Rel C (sendTo C p 20 c) w2 gs2 ∧ v = .tuple #[] ∧ l' = cellL b C (sendTo C p 20 c) w2 gs2 := by
 intro F K hK
 simp only [List.cons_append, List.nil_append] at hK ⊢
 have h8 := hc.n8
 have htb := hr.ok.tb
 have hcn : cnt (One.waits 11 p) c.tb ≤ 8 := Nat.le_trans cnt_le (by omega)
 have hf0 : few c (cnt (One.waits 11 p) c.tb) := by unfold few at *; omega
 obtain ⟨R, hR⟩ : ∃ R, R = sendTo C p 20 c := ⟨_, rfl⟩
 rw [← hR] at hK
 (refine Tr.enter (rs := []) mixed fn35 rfl (by simp +arith [Tryz.ntmps35]) fun u => ?_; simp only [cd35, Tryz.f35])
 have hX := @pl35.eq_def; repeat' (first | refine S.x ?_ | (refine G.call 92 ?_; refine S.c ?_ (h := first_ok _ _ _ _ ?_)) | rintro _ _ ⟨rfl, rfl⟩ | ((fail_if_success refine G.tr ?_); exact G.prop S.p) | fail)
 refine Tr.loopE (α := CM × Nat × CW × List TaskG) [4] [0, 1] (fun x => [.int .i64 (firstM x.1 11 p)]) (fun x => cellL b C x.1 x.2.2.1 x.2.2.2) (fun x => sendTo C p x.2.1 x.1 = R ∧ cnt (One.waits 11 p) x.1.tb < x.2.1 ∧ few x.1 (cnt (One.waits 11 p) x.1.tb) ∧ Rel C x.1 x.2.2.1 x.2.2.2) (fun x => x.2.1) (c, 20, w, gs) S.T rfl ⟨hR.symm, by simp only; omega, hf0, hr⟩ fun x u hx => ?_
 obtain ⟨c1, n, w1, g1⟩ := x
 obtain ⟨he, hn, hf1, hr1⟩ := hx
 simp only at he hn hf1 hr1 ⊢
 simp only [List.cons_append, List.nil_append]
 have htb1 := hr1.ok.tb
 clear hr hf hf0 htb hcn hR
 by_cases h0 : firstM c1 11 p < 0
 ·rw [sendTo_stop h0] at he
  rw [← he] at hK
  have hX := @pl35.eq_def; repeat' (first | refine S.x ?_ | fail)
  all_goals exact Tr.fin hK ⟨w1, g1, hr1, rfl, rfl⟩ S.E
 ·obtain ⟨m, rfl⟩ : ∃ m, n = m + 1 := ⟨n - 1, by omega⟩
  have hk := first_prog hr1 h0
  have hdd := wait_dd hr1 (.inl rfl) h0
  have hle := data_le hr1 hk
  obtain ⟨g0, g9⟩ := rel_in hr1 hk
  have hmp := ix_map (f := TaskG.pt) (xs := g1) (k := firstM c1 11 p) g0 g9
  have hlm : (g1.map TaskG.pt).length = g1.length := List.length_map _
  obtain ⟨c2, hc2⟩ : ∃ c2 : CM, c2 = { c1 with pts := intoA c1.pts p true (ix c1.data (firstM c1 11 p)) } := ⟨_, rfl⟩
  have hrp : Rel C c2 w1 g1 := by rw [hc2]; exact rel_pts hr1
  have hce := cnt_end (C := C) (c2 := c2) (code := 0) (value := 0) h0 (by rw [hc2])
  have hev : c2.evs = c1.evs := by rw [hc2]
  unfold sendTo at he
  rw [if_neg h0] at he
  simp only at he
  rw [← hc2] at he
  generalize firstM c1 11 p = k at *
  obtain ⟨c3, hc3⟩ : ∃ c3 : CM, c3 = endM C c2 k 11 0 0 := ⟨_, rfl⟩
  have hl3 : c3.tb.d.length ≤ 1000000 := by rw [hc3, endM_tb, set_len, hrp.ok.tb]; omega
  have hf2 : few c2 1 := by unfold few at *; rw [hev]; omega
  have hf3 : few c3 (cnt (One.waits 11 p) c3.tb) := by
   rw [← hc3] at hce
   unfold few at *
   rw [hc3]
   simp only [endM, noteM, setTM, List.length_append, List.length_cons, List.length_nil]
   rw [hc3] at hce
   simp only [endM, noteM, setTM] at hce
   rw [hev]; omega
  rw [← hc3] at hce he
  refine Tr.famAt (xs := g1) k S.K (by omega) (by omega) (taskA_open ?_)
  rw [hdd]
  by_cases hcode : intoCA c1.pts p true (ix c1.data k).length = 0
  ·rw [if_pos hcode] at he
   have hX := And.intro @pl35.eq_def (And.intro hmp @TaskG.pt.eq_def); repeat' (first | refine S.x ?_ | (refine G.call 93 ?_; first | refine S.c ?_ (h := xsend_ok (by assumption)) | fail) | rintro _ _ ⟨rfl, rfl⟩ | intro hb | fail)
   refine Tr.imp (l' := cellL b C c2 w1 g1 ++ F) ?_ ?_
   ·subst hc2
    simp only [List.cons_append, List.nil_append]
    have hX := And.intro hdd @taskA.eq_def
    show EntR [] _ _
    exact S.E
   simp only [List.cons_append, List.nil_append]
   have hco := ccomplete_ok (b := b) (call := 11) (code := 0) (value := 0) hrp hk hf2
   rw [← hc3] at hco
   clear hrp hr1 hc2 hc3 hev
   have hX := @pl35.eq_def; repeat' (first | rintro _ _ ⟨rfl, rfl⟩ | rintro _ _ ⟨w2, gs2, hrel, rfl, rfl⟩ | (refine G.call 94 ?_; refine S.c ?_ (h := hco)) | refine S.x ?_ | (refine G.call 92 ?_; refine S.c ?_ (h := first_ok _ _ _ _ ?_)) | (refine G.prop ?_; assumption) | fail)
   all_goals exact S.R ((c3, m, w2, gs2) : CM × Nat × CW × List TaskG)
  ·rw [if_neg hcode] at he
   rw [← he] at hK
   have hX := And.intro @pl35.eq_def (And.intro hmp @TaskG.pt.eq_def); repeat' (first | refine S.x ?_ | (refine G.call 93 ?_; first | refine S.c ?_ (h := xsend_ok (by assumption)) | fail) | rintro _ _ ⟨rfl, rfl⟩ | intro hb | fail)
   all_goals
    refine Tr.fin hK ⟨w1, g1, hrp, rfl, rfl⟩ ?_
    subst hc2
    simp only [List.cons_append, List.nil_append]
    have hX := And.intro hdd @taskA.eq_def
    exact S.E
end
end Go.Proofs.YtacmaamllpiloaaGreat
namespace Go.Proofs.YtacmaamllpiloaaGreat
open Go Go.Wk
set_option maxHeartbeats 3200000
set_option maxRecDepth 100000
attribute [local irreducible] BrK GenK EGenK EUnitK CallK FnK CallV GuardO GuardC CondW opX opK opKc chkR eqR seqK blkK endL WL WD W LoopW BinK Tr drewK resL PickK NotK NilK ExtrK getK Instr.storeAt Instr.loadAt Instr.fieldAt Instr.indexAt Instr.lookup Instr.mapUpdate Instr.box Instr.alloc Instr.build Instr.buildSlice Instr.makeSlice Instr.makeMap Instr.sliceAt Instr.field Instr.index Instr.makeInterface Instr.typeAssert Builtin.len_ Builtin.append_ Builtin.cap_ Builtin.min_ Builtin.max_ Builtin.copy_ Builtin.clear_ convert binOp mp blk rob sl sep ex fact old
attribute [local irreducible] memX portX objX slkO
section
variable {b : Nat} {C : CC} {c : CM} {w : CW} {gs : List TaskG} {k p : Int}
theorem creceivers_ok (hc : okC C) (hr : Rel C c w gs) (hf : few c 8) : Trip Tryz.prog 36 [ptr b, .int .i64 p].toArray (cellL b C c w gs)
  fun v l' => ∃ w2 gs2, Rel C (recvTo C p 20 c) w2 gs2 ∧ v = .tuple #[] ∧ l' = cellL b C (recvTo C p 20 c) w2 gs2 := by
 intro F K hK
 simp only [List.cons_append, List.nil_append] at hK ⊢
 have h8 := hc.n8
 have htb := hr.ok.tb
 have hcn : cnt (One.waits 12 p) c.tb ≤ 8 := Nat.le_trans cnt_le (by omega)
 have hf0 : few c (cnt (One.waits 12 p) c.tb) := by unfold few at *; omega
 obtain ⟨R, hR⟩ : ∃ R, R = recvTo C p 20 c := ⟨_, rfl⟩
 rw [← hR] at hK
 (refine Tr.enter (rs := []) mixed fn36 rfl (by simp +arith [Tryz.ntmps36]) fun u => ?_; simp only [cd36, Tryz.f36])
 have hX := @pl36.eq_def; repeat' (first | refine S.x ?_ | (refine G.call 92 ?_; refine S.c ?_ (h := first_ok _ _ _ _ ?_)) | rintro _ _ ⟨rfl, rfl⟩ | ((fail_if_success refine G.tr ?_); exact G.prop S.p) | fail)
 refine Tr.loopE (α := CM × Nat × CW × List TaskG) [4] [0, 1] (fun x => [.int .i64 (firstM x.1 12 p)]) (fun x => cellL b C x.1 x.2.2.1 x.2.2.2) (fun x => recvTo C p x.2.1 x.1 = R ∧ cnt (One.waits 12 p) x.1.tb < x.2.1 ∧ few x.1 (cnt (One.waits 12 p) x.1.tb) ∧ Rel C x.1 x.2.2.1 x.2.2.2) (fun x => x.2.1) (c, 20, w, gs) S.T rfl ⟨hR.symm, by simp only; omega, hf0, hr⟩ fun x u hx => ?_
 obtain ⟨c1, n, w1, g1⟩ := x
 obtain ⟨he, hn, hf1, hr1⟩ := hx
 simp only at he hn hf1 hr1 ⊢
 simp only [List.cons_append, List.nil_append]
 have htb1 := hr1.ok.tb
 clear hr hf hf0 htb hcn hR
 by_cases h0 : firstM c1 12 p < 0
 ·rw [recvTo_stop h0] at he
  rw [← he] at hK
  have hX := @pl36.eq_def; repeat' (first | refine S.x ?_ | fail)
  all_goals exact Tr.fin hK ⟨w1, g1, hr1, rfl, rfl⟩ S.E
 ·obtain ⟨m, rfl⟩ : ∃ m, n = m + 1 := ⟨n - 1, by omega⟩
  have hk := first_prog hr1 h0
  obtain ⟨c2, hc2⟩ : ∃ c2 : CM, c2 = { c1 with pts := outA c1.pts p true } := ⟨_, rfl⟩
  have hrp : Rel C c2 w1 g1 := by rw [hc2]; exact rel_pts hr1
  obtain ⟨bs, hbs⟩ : ∃ bs, bs = outDA c1.pts p true := ⟨_, rfl⟩
  have hce : cnt (One.waits 12 p) (getsM C c2 (firstM c1 12 p) 12 bs).tb + 1 = cnt (One.waits 12 p) c1.tb := cnt_end (c2 := { c2 with mem := stB c2.mem (ix c2.addr (firstM c1 12 p)) bs }) h0 (by rw [hc2])
  have hev : c2.evs = c1.evs := by rw [hc2]
  unfold recvTo at he
  rw [if_neg h0] at he
  simp only at he
  rw [← hc2, ← hbs] at he
  generalize firstM c1 12 p = k at *
  obtain ⟨c3, hc3⟩ : ∃ c3 : CM, c3 = getsM C c2 k 12 bs := ⟨_, rfl⟩
  have hl3 : c3.tb.d.length ≤ 1000000 := by rw [hc3, getsM_tb, set_len, hrp.ok.tb]; omega
  have hf2 : few c2 1 := by unfold few at *; rw [hev]; omega
  have hf3 : few c3 (cnt (One.waits 12 p) c3.tb) := by
   rw [← hc3] at hce
   unfold few at *
   have : c3.evs.length = c2.evs.length + 1 := by rw [hc3]; simp [getsM, endM, noteM, setTM]
   rw [this, hev]; omega
  rw [← hc3] at hce he
  by_cases hcode : outCA c1.pts p true = 0
  ·rw [if_pos hcode] at he
   have hX := @pl36.eq_def; repeat' (first | refine S.x ?_ | (refine G.call 95 ?_; first | refine S.c ?_ (h := xrecv_ok) | fail) | rintro _ _ ⟨_, rfl, rfl⟩ | fail)
   rename_i s3
   refine Tr.imp (l' := sl true s3.v bs :: cellL b C c2 w1 g1 ++ F) ?_ ?_
   ·subst hc2 hbs
    simp only [List.cons_append, List.nil_append]
    show EntR [] _ _
    exact S.E
   simp only [List.cons_append, List.nil_append]
   have hco := carrive_ok (b := b) (call := 12) (bs := bs) (s3 := s3) hrp hk hf2
   rw [← hc3] at hco
   clear hrp hr1 hc2 hc3 hev hbs
   have hX := @pl36.eq_def; repeat' (first | rintro _ _ ⟨rfl, rfl⟩ | rintro _ _ ⟨w2, gs2, hrel, rfl, rfl⟩ | (refine G.call 96 ?_; refine S.c ?_ (h := hco)) | refine S.x ?_ | (refine G.call 92 ?_; refine S.c ?_ (h := first_ok _ _ _ _ ?_)) | (refine G.prop ?_; assumption) | fail)
   all_goals exact S.R ((c3, m, w2, gs2) : CM × Nat × CW × List TaskG)
  ·rw [if_neg hcode] at he
   rw [← he] at hK
   have hX := @pl36.eq_def; repeat' (first | refine S.x ?_ | (refine G.call 95 ?_; first | refine S.c ?_ (h := xrecv_ok) | fail) | rintro _ _ ⟨_, rfl, rfl⟩ | fail)
   all_goals
    refine Tr.fin hK ⟨w1, g1, hrp, rfl, rfl⟩ ?_
    subst hc2
    simp only [List.cons_append, List.nil_append]
    exact S.E
end
end Go.Proofs.YtacmaamllpiloaaGreat
namespace Go.Proofs.YtacmaamllpiloaaGreat
open Go Go.Wk
def moreP (t t' : Tb) : Prop := t'.d.length = t.d.length ∧ ∀ j, (t.at j).parked = true → (t'.at j).parked = true
section
variable {t t' : Tb} {k j : Int} {o : One} {st : Int}
theorem moreP_refl : moreP t t := ⟨rfl, fun _ h => h⟩
theorem moreP_trans {t1 t2 t3 : Tb} (h1 : moreP t1 t2) (h2 : moreP t2 t3) : moreP t1 t3 := ⟨h2.1.trans h1.1, fun j h => h2.2 j (h1.2 j h)⟩
theorem moreP_set {n : Int} (hl : inR t.d k) (h : (t.at k).parked = true → o.parked = true) : moreP t (Tb.mk (t.d.set k.toNat o) n) := ⟨List.length_set, fun j hj => by
 rw [at_set hl]
 by_cases e : j = k
 ·rw [if_pos e]; rw [e] at hj; exact h hj
 ·rw [if_neg e]; exact hj⟩
theorem moreP_put (hl : inR t.d k) (h : (t.at k).parked = true → o.parked = true) : moreP t (t.put k o st) := moreP_set (t := t) (n := t.putT st) hl fun hp => by
 rw [putP_wait.2]; exact h hp
theorem set_more : moreP t (t.set k st) := by
 unfold Tb.set
 split
 ·rename_i h; exact moreP_put (setB_in h).1 fun h => h
 ·exact moreP_refl
theorem park_more : moreP t (t.park k) := by
 unfold Tb.park
 split
 ·rename_i h
  exact moreP_set (t := t) (n := t.turns) (has_in.1 h) fun _ => rfl
 ·exact moreP_refl
theorem start_more {win : Int} : moreP t (t.start k win) := by
 unfold Tb.start
 split
 ·rename_i h
  unfold Tb.startB at h
  simp only [Bool.and_eq_true] at h
  exact moreP_put (has_in.1 h.1) fun h => h
 ·exact moreP_refl
theorem rank_more {p : Int} : moreP t (t.rank k p) := by
 unfold Tb.rank
 split
 ·rename_i h
  unfold Tb.rankB at h
  simp only [Bool.and_eq_true] at h
  exact moreP_set (t := t) (n := t.turns) (has_in.1 h.1) fun h => h
 ·exact moreP_refl
theorem wait_more {c wh wk : Int} : moreP t (t.wait k c wh wk) := by
 unfold Tb.wait
 split
 ·rename_i h; exact moreP_put (has_in.1 h) fun h => h
 ·exact moreP_refl
theorem park_in (hl : inR t.d k) : ((t.park k).at k).parked = true := by
 rw [park_at, if_pos ⟨rfl, has_in.2 hl⟩]
end
inductive Rch (C : CC) : Nat → CM → CM → Prop
 | refl (c : CM) : Rch C 0 c c
 | trans {n m : Nat} {c1 c2 c3 : CM} : Rch C n c1 c2 → Rch C m c2 c3 → Rch C (n + m) c1 c3
 | note (c : CM) (k call code value : Int) : Rch C 1 c (noteM C c k call code value)
 | tb (c : CM) (t' : Tb) : moreP c.tb t' → Rch C 0 c { c with tb := t' }
 | to (c : CM) (k i : Int) : inR C.progs k → 0 ≤ i → i ≤ (ix C.progs k).length → Rch C 0 c (toM C c k i)
 | rest (c : CM) (k : Int) : inR C.progs k → Rch C 0 c (restM c k)
 | mem (c : CM) (ms : List RegM) : Rch C 0 c { c with mem := ms }
 | pts (c : CM) (ps : List AP) : ps.map AP.c = c.pts.map AP.c → Rch C 0 c { c with pts := ps }
 | obs (c : CM) (o : ObM) : Rch C 0 c { c with obs := o }
 | mode (c : CM) : Rch C 0 c { c with mode := 0 }
 | le {n m : Nat} {c1 c2 : CM} : Rch C n c1 c2 → n ≤ m → Rch C m c1 c2
 | wait (c : CM) (k a : Int) (d : List UInt8) : inR C.progs k → okZ a → d.length ≤ 300 → Rch C 0 c { c with addr := c.addr.set k.toNat a, data := c.data.set k.toNat d }
def dP (c : CM) : Prop := ∀ k : Int, 0 ≤ k → ix c.done k = true → (c.tb.at k).parked = true
section
variable {C : CC} {n m : Nat} {c c' c1 c2 c3 : CM} {k call code value win : Int}
theorem Rch.ev (h : Rch C n c c') : c'.evs.length ≤ c.evs.length + n := by
 induction h with
 | refl => exact Nat.le_refl _
 | trans _ _ h1 h2 => omega
 | note => simp [noteM]
 | le _ h1 h2 => omega
 | _ => exact Nat.le_refl _
theorem Rch.few {k : Nat} (h : Rch C n c c') (hf : few c (n + k)) : Go.Proofs.YtacmaamllpiloaaGreat.few c' k := by
 have := h.ev
 unfold Go.Proofs.YtacmaamllpiloaaGreat.few at *
 omega
theorem Rch.sk (h : Rch C n c c') : c'.slk.isSome = c.slk.isSome := by
 induction h with
 | trans _ _ h1 h2 => exact h2.trans h1
 | le _ _ h1 => exact h1
 | rest c k => show (c.slk.map _).isSome = _; rw [Option.isSome_map]
 | _ => rfl
theorem Rch.ok (hc : okC C) (h : Rch C n c c') (ho : okM C c) : okM C c' := by
 induction h with
 | refl => exact ho
 | trans _ _ h1 h2 => exact h2 (h1 ho)
 | le _ _ h1 => exact h1 ho
 | tb c t' ht => exact okM_tb ho ht.1
 | to c k i hk h0 h1 => exact okM_to hc ho hk h0 h1
 | rest c k hk => exact ⟨park_len.trans ho.tb, ho.pos, ho.rest, ho.addr, ho.data, by simpa [restM] using ho.done, ho.pi, ho.ad, ho.dl⟩
 | wait c k a d hk ha hd => exact ⟨ho.tb, ho.pos, ho.rest, by simpa using ho.addr, by simpa using ho.data, ho.done, ho.pi, fun x hx => by
   rcases List.mem_or_eq_of_mem_set hx with h' | rfl
   ·exact ho.ad x h'
   ·exact ha, fun x hx => by
   rcases List.mem_or_eq_of_mem_set hx with h' | rfl
   ·exact ho.dl x h'
   ·exact hd⟩
 | _ => exact ⟨ho.tb, ho.pos, ho.rest, ho.addr, ho.data, ho.done, ho.pi, ho.ad, ho.dl⟩
theorem Rch.dP (hc : okC C) (h : Rch C n c c') (ho : okM C c) (hd : dP c) : Go.Proofs.YtacmaamllpiloaaGreat.dP c' := by
 induction h with
 | refl => exact hd
 | trans a _ h1 h2 => exact h2 (a.ok hc ho) (h1 ho hd)
 | le _ _ h1 => exact h1 ho hd
 | tb c t' ht => exact fun k h0 hk => ht.2 k (hd k h0 hk)
 | rest c k hk =>
  intro j h0 hj
  show ((c.tb.park k).at j).parked = true
  by_cases e : j = k
  ·subst e
   refine park_in ?_
   unfold inR at *
   rw [ho.tb]; exact hk
  ·refine park_more.2 j (hd j h0 ?_)
   have hj' : ix (c.done.set k.toNat true) j = true := hj
   rw [ix_setR (by unfold inR at *; rw [ho.done]; exact hk) h0, if_neg e] at hj'
   exact hj'
 | _ => exact hd
theorem Rch.one (h1 : Rch C n c1 c2) (h : Rch C 0 c2 c3) : Rch C n c1 c3 := .trans h1 h
end
end Go.Proofs.YtacmaamllpiloaaGreat
