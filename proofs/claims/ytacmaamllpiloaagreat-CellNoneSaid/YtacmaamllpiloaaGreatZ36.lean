import Derived.Test.YtacmaamllpiloaaGreatZ35
namespace Go.Proofs.YtacmaamllpiloaaGreat
open Go Go.Wk
set_option maxHeartbeats 3200000
set_option maxRecDepth 100000
section
variable {C : CC} {c : CM} {w : CW} {gs : List TaskG} {k kind win : Int} {t : Tb}
def One.fr (o : One) : One := { o with parked := false }
theorem freeTo_at : ∀ n, n ≤ t.d.length → ∀ j : Int, (t.freeTo n).at j = if 0 ≤ j ∧ j < n then (t.at j).fr else t.at j
  | 0, _, j => by rw [if_neg (by omega)]; rfl
  | n + 1, h, j => by
    have ih := fun j => freeTo_at n (Nat.le_of_succ_le h) j
    have hl : inR (t.freeTo n).d (n : Int) := by unfold inR; rw [freeTo_len]; omega
    have e := at_set (t := t.freeTo n) (j := j) (o := ((t.freeTo n).at n).fr) hl (n := (t.freeTo n).turns)
    refine e.trans ?_
    rw [ih n, if_neg (show ¬ (0 ≤ (n : Int) ∧ (n : Int) < n) by omega), ih j]
    by_cases hj : j = n
    · rw [if_pos hj, if_pos (by omega), hj]
    · rw [if_neg hj]
      by_cases h2 : 0 ≤ j ∧ j < n
      · rw [if_pos h2, if_pos (by omega)]
      · rw [if_neg h2, if_neg (by omega)]
theorem free_noNew : noNew t t.free := fun j hj => by
  unfold Tb.free at hj
  rw [freeTo_at _ (Nat.le_refl _)] at hj
  split at hj
  · exact hj
  · exact hj
def TaskG.nd (g : TaskG) : TaskG := { g with done := false }
theorem rel_win {s : Option Nat} (hs : s.isSome = true) (h : Rel C c w gs) : Rel C (winM C c) { w with slk := s } (gs.map TaskG.nd) := by
  have hl := rel_len h
  refine ⟨⟨(freeTo_len _ _).trans h.ok.tb, h.ok.pos, h.ok.rest, h.ok.addr, h.ok.data, by simp [winM], h.ok.pi, h.ok.ad, h.ok.dl⟩, ?_, ?_, ?_, ?_, ?_, fun k hk hw => ?_, hs⟩
  · rw [← h.hp, List.map_map]; rfl
  · show _ = c.pos; rw [← h.hi, List.map_map]; rfl
  · show _ = c.rest; rw [← h.hr, List.map_map]; rfl
  · show _ = c.addr; rw [← h.ha, List.map_map]; rfl
  · rw [List.map_map]
    show _ = List.replicate _ _
    rw [← hl]
    exact List.map_const' ..
  · have hk2 : inR gs k := by unfold inR at *; simpa using hk
    rw [ix_map (f := TaskG.nd) hk2.1 hk2.2]
    exact h.hw k hk2 (free_noNew k hw)
theorem dP_win : dP (winM C c) := fun k h0 hk => by
  have h1 : ix (List.replicate C.progs.length false) k = true := hk
  have h2 : ix (List.replicate C.progs.length false) k = false := by
    unfold ix
    rw [List.getD_eq_getElem?_getD, List.getElem?_replicate]
    split <;> rfl
  rw [h1] at h2
  cases h2
end
attribute [local irreducible] BrK GenK EGenK EUnitK CallK FnK CallV GuardO GuardC CondW opX opK opKc chkR eqR seqK blkK endL WL WD W LoopW BinK Tr drewK resL PickK NotK NilK ExtrK getK Instr.storeAt Instr.loadAt Instr.fieldAt Instr.indexAt Instr.lookup Instr.mapUpdate Instr.box Instr.alloc Instr.build Instr.buildSlice Instr.makeSlice Instr.makeMap Instr.sliceAt Instr.field Instr.index Instr.makeInterface Instr.typeAssert Builtin.len_ Builtin.append_ Builtin.cap_ Builtin.min_ Builtin.max_ Builtin.copy_ Builtin.clear_ convert binOp mp blk rob sl sep ex fact old
attribute [local irreducible] memX portX objX slkX
attribute [local irreducible] sendTo recvTo portsTo relsM wakesM settleTo begin2
section
variable {b : Nat} {C : CC} {c : CM} {w : CW} {gs : List TaskG} {k p mode win : Int}
theorem cdead_ok : Trip Tryz.prog 31 [ptr b].toArray [cellB b C mode win w]
    fun v l' => v = .bool false ∧ l' = [cellB b C mode win w] := by
  intro F K hK
  simp only [List.cons_append, List.nil_append]
  (refine Tr.enter (rs := [.tmp 2]) mixed fn31 rfl (by simp +arith [Tryz.ntmps31]) fun u => ?_; simp only [cd31, Tryz.f31])
  have hX := @pl31.eq_def; repeat' (first | refine S.x ?_ | fail)
  all_goals exact S.L
theorem cbegin_ok (hc : okC C) (hr : Rel C c w gs) (hf : few c 500) : Trip Tryz.prog 8 [ptr b].toArray (cellL b C c w gs)
    fun v l' => ∃ w2 gs2, Rel C (beginM C c) w2 gs2 ∧ v = .tuple #[] ∧ l' = cellL b C (beginM C c) w2 gs2 := by
  intro F K hK
  simp only [List.cons_append, List.nil_append] at hK ⊢
  have h8 := hc.n8
  have htl : c.tb.d.length ≤ 1000000 := by rw [hr.ok.tb]; omega
  have hlg := rel_len hr
  have hlm : (gs.map TaskG.pt).length = C.progs.length := by rw [List.length_map]; exact hlg
  have h3 : C.conf.procs.d.length ≤ 100000 := by rw [hc.np]; omega
  (refine Tr.enter (rs := []) mixed fn8 rfl (by simp +arith [Tryz.ntmps8]) fun u => ?_; simp only [cd8, Tryz.f8])
  have hX := And.intro @pl8.eq_def hlm; repeat' (first | rintro _ _ ⟨rfl, rfl⟩ | rintro _ _ ⟨sb, rfl, rfl⟩ | (refine G.call 32 ?_; refine S.c ?_ (h := xsnew_ok (c := C.conf) (hd := ⟨rfl⟩) hc.cap hc.cost h3)) | refine S.x ?_ | (refine G.call 31 ?_; refine S.c ?_ (h := cdead_ok)) | (refine G.call 33 ?_; first | refine S.c ?_ (h := free_ok _ _ ?_) | fail) | (refine G.prop ?_; assumption) | fail)
  obtain ⟨cw, hcw⟩ : ∃ cw, cw = winM C c := ⟨_, rfl⟩
  have hr0 : Rel C cw { w with slk := some sb } (gs.map TaskG.nd) := by rw [hcw]; exact rel_win rfl hr
  have hd0 : dP cw := by rw [hcw]; exact dP_win
  have hs0 : cw.slk.isSome = true := by rw [hcw]; rfl
  have hf0 : few cw 500 := by rw [hcw]; exact hf
  have hbm : beginM C c = if cw.mode = 3 then settleTo C 100 (wakesM C (portsTo C (relsM C cw) 8)) else cw := by
    rw [hcw, ← begin2_eq]; rfl
  rw [hbm] at hK
  refine Tr.imp (l' := cellL b C cw { w with slk := some sb } gs ++ F) ?_ ?_
  · subst hcw
    have hX := And.intro @winM.eq_def (And.intro @slkO.eq_def @slP.eq_def)
    simp only [cellL, List.cons_append, List.nil_append]
    show EntR [] _ _
    exact S.E
  clear hcw hbm hf hr htl
  obtain ⟨w0, hw0⟩ : ∃ w0 : CW, w0 = { w with slk := some sb } := ⟨_, rfl⟩
  have hwt : w0.ts = w.ts := by rw [hw0]
  rw [← hw0] at hr0 ⊢
  clear hw0
  rw [← hwt]
  clear hwt
  simp only [List.cons_append, List.nil_append]
  refine Tr.loopE (α := Nat) [32] [0, 30, 31] (fun x => [.int .i64 x]) (fun x => [cellB b C cw.mode cw.win w0, sl false w0.ts.v (gs.map TaskG.pt), fam taskA (upto TaskG.nd gs x)]) (fun x => x ≤ gs.length) (fun x => gs.length - x) 0 S.T rfl (Nat.zero_le _) fun k u hk => ?_
  simp only [List.cons_append, List.nil_append]
  by_cases hin : k < gs.length
  · have hw := wrapSucc (k := k) (by omega)
    have hm := ix_map (f := TaskG.pt) (xs := gs) (k := (k : Int)) (by omega) (by omega)
    have hul := upto_len (f := TaskG.nd) (xs := gs) (k := k)
    have hui := upto_ix (f := TaskG.nd) (xs := gs) (k := k) hin
    have hus := upto_set (f := TaskG.nd) (xs := gs) (k := k) hin
    refine Tr.famAt (xs := upto TaskG.nd gs k) (k : Int) S.K (by omega) (by omega) (taskA_open ?_)
    rw [hui]
    have hX := And.intro @pl8.eq_def (And.intro hw (And.intro hm @TaskG.pt.eq_def)); repeat' (first | refine S.x ?_ | intro hb | fail)
    all_goals
      have hX := And.intro hus.symm (And.intro @taskA.eq_def @TaskG.nd.eq_def)
      clear hus
      exact S.R (k + 1)
  · have hke : k = gs.length := by omega
    subst hke
    rw [upto_all]
    have hpt : (gs.map TaskG.nd).map TaskG.pt = gs.map TaskG.pt := by rw [List.map_map]; rfl
    rw [← hpt]
    generalize gs.map TaskG.nd = g0 at *
    clear hpt hlm hin
    by_cases hm : cw.mode = 3
    · rw [if_pos hm] at hK
      obtain ⟨c1, hc1⟩ : ∃ c1, c1 = relsM C cw := ⟨_, rfl⟩
      have hR1 := rch_rels hc hr0.ok
      have hf1 : few cw 16 := by unfold few at *; omega
      have hco := creleases_ok (b := b) hc hr0 hf1
      have hf2 : few c1 484 := by rw [hc1]; exact hR1.few hf0
      have hR2 : ∀ i, Rch C (16 + 40 * i) cw (portsTo C c1 i) := fun i => by rw [hc1]; exact .trans hR1 (rch_ports i)
      have hR3 := Rch.trans (hR2 8) (rch_wakes hc ((hR2 8).ok hc hr0.ok))
      have hd3 := hR3.dP hc hr0.ok hd0
      have hs3 : (wakesM C (portsTo C c1 8)).slk.isSome = true := by rw [hR3.sk]; exact hs0
      have hf3 : few (wakesM C (portsTo C c1 8)) 8 := hR3.few (by unfold few at *; omega)
      have hfw : few (portsTo C c1 8) 8 := (hR2 8).few (by unfold few at *; omega)
      rw [← hc1] at hK hco
      have hX := @pl8.eq_def; repeat' (first | rintro _ _ ⟨w1, g1, hr1, rfl, rfl⟩ | (refine G.call 34 ?_; refine S.c ?_ (h := hco)) | refine S.x ?_ | fail)
      clear hc1 hco hr0 hR1 hR3
      have hp0 : portsTo C c1 0 = c1 := portsTo.eq_1 _ _
      rw [← hp0] at hr1 ⊢
      clear hp0
      refine Tr.loopE (α := Nat × CW × List TaskG) [47] [0] (fun x => [.int .i64 x.1]) (fun x => cellL b C (portsTo C c1 x.1) x.2.1 x.2.2) (fun x => x.1 ≤ 8 ∧ Rel C (portsTo C c1 x.1) x.2.1 x.2.2) (fun x => 8 - x.1) (0, w1, g1) S.T rfl ⟨Nat.zero_le _, hr1⟩ fun y u2 hy => ?_
      obtain ⟨j, w2, g2⟩ := y
      obtain ⟨hj, hrj⟩ := hy
      simp only at hj hrj ⊢
      simp only [List.cons_append, List.nil_append]
      by_cases hjn : j < 8
      · have hw := wrapSucc (k := j) (by omega)
        have hfj : few (portsTo C c1 j) 8 := (hR2 j).few (by unfold few at *; omega)
        have hfj2 : few (sendTo C (j : Int) 20 (portsTo C c1 j)) 8 := (Rch.trans (hR2 j) (rch_send 20 _)).few (by unfold few at *; omega)
        have hst : portsTo C c1 (j + 1) = recvTo C (j : Int) 20 (sendTo C (j : Int) 20 (portsTo C c1 j)) := portsTo.eq_2 _ _ _
        have hA := csenders_ok (b := b) (p := (j : Int)) hc hrj hfj
        have hB := fun w g (h : Rel C (sendTo C (j : Int) 20 (portsTo C c1 j)) w g) => creceivers_ok (b := b) (p := (j : Int)) hc h hfj2
        rw [← hst] at hB
        clear hst hfj hfj2
        generalize hnj : portsTo C c1 (j + 1) = nj at *
        generalize hsj : sendTo C (j : Int) 20 (portsTo C c1 j) = sj at *
        generalize hcj : portsTo C c1 j = cj at *
        have hX := And.intro @pl8.eq_def hw; repeat' (first | rintro _ _ ⟨w3, g3, hr3, rfl, rfl⟩ | (refine G.call 35 ?_; refine S.c ?_ (h := hA)) | (refine G.call 36 ?_; refine S.c ?_ (h := hB _ _ hr3)) | refine S.x ?_ | fail)
        all_goals
          subst hnj
          clear hrj hcj hsj hA hB
          exact S.R ((j + 1, w3, g3) : Nat × CW × List TaskG)
      · have hje : j = 8 := by omega
        subst hje
        have hA := cwakes_ok (b := b) hc hrj hfw
        have hB := fun w g (h : Rel C (wakesM C (portsTo C c1 8)) w g) => csettle_ok (b := b) hc h hf3 hd3 hs3
        clear hR2
        generalize settleTo C 100 (wakesM C (portsTo C c1 8)) = cx at *
        generalize wakesM C (portsTo C c1 8) = c9 at *
        generalize portsTo C c1 8 = c8 at *
        have hX := @pl8.eq_def; repeat' (first | rintro _ _ ⟨w3, g3, hr3, rfl, rfl⟩ | (refine G.call 37 ?_; refine S.c ?_ (h := hA)) | (refine G.call 38 ?_; refine S.c ?_ (h := hB _ _ hr3)) | refine S.x ?_ | fail)
        all_goals exact Tr.fin hK ⟨w3, g3, hr3, rfl, rfl⟩ S.E
    · rw [if_neg hm] at hK
      have hX := @pl8.eq_def; repeat' (first | refine S.x ?_ | fail)
      all_goals exact Tr.fin hK ⟨w0, g0, hr0, rfl, rfl⟩ S.E
end
end Go.Proofs.YtacmaamllpiloaaGreat
namespace Go.Proofs.YtacmaamllpiloaaGreat
open Go Go.Wk
set_option maxHeartbeats 3200000
set_option maxRecDepth 100000
theorem slk_none {C : CC} {c : CM} {w : CW} {gs : List TaskG} (h : Rel C c w gs) (hm : c.slk = none) : w.slk = none := by
  have := h.hs
  rw [hm] at this
  cases hw : w.slk with
  | none => rfl
  | some s => rw [hw] at this; cases this
attribute [local irreducible] BrK GenK EGenK EUnitK CallK FnK CallV GuardO GuardC CondW opX opK opKc chkR eqR seqK blkK endL WL WD W LoopW BinK Tr drewK resL PickK NotK NilK ExtrK getK Instr.storeAt Instr.loadAt Instr.fieldAt Instr.indexAt Instr.lookup Instr.mapUpdate Instr.box Instr.alloc Instr.build Instr.buildSlice Instr.makeSlice Instr.makeMap Instr.sliceAt Instr.field Instr.index Instr.makeInterface Instr.typeAssert Builtin.len_ Builtin.append_ Builtin.cap_ Builtin.min_ Builtin.max_ Builtin.copy_ Builtin.clear_ convert binOp mp blk rob sl sep ex fact old
attribute [local irreducible] memX portX objX slkX
section
variable {b : Nat} {C : CC} {c : CM} {w : CW} {gs : List TaskG} {k p : Int}
theorem cnext_ok (hc : okC C) (hr : Rel C c w gs) : Trip Tryz.prog 39 [ptr b].toArray [cellB b C c.mode c.win w, tabA w.tb c.tb]
    fun v l' => v = .int .i64 (whoM c) ∧ l' = [cellB b C c.mode c.win w, tabA w.tb c.tb] := by
  intro F K hK
  simp only [List.cons_append, List.nil_append] at hK ⊢
  have h8 := hc.n8
  have htl : c.tb.d.length ≤ 1000000 := by rw [hr.ok.tb]; omega
  rcases Option.eq_none_or_eq_some c.slk with hm | ⟨m, hm⟩
  · have hsp : slP w.slk = .pointer none := by rw [slk_none hr hm]; rfl
    have hwm : whoM c = -1 := by unfold whoM; rw [hm]
    rw [hwm] at hK
    (refine Tr.enter (rs := [.tmp 2]) mixed fn39 rfl (by simp +arith [Tryz.ntmps39]) fun u => ?_; simp only [cd39, Tryz.f39])
    have hX := And.intro @pl39.eq_def hsp; repeat' (first | refine S.x ?_ | (refine G.call 31 ?_; refine S.c ?_ (h := cdead_ok)) | rintro _ _ ⟨rfl, rfl⟩ | fail)
    all_goals exact Tr.fin hK ⟨rfl, rfl⟩ S.E
  · obtain ⟨sb, hsb⟩ := slk_some hr hm
    have hsp : slP w.slk = .pointer (some ⟨sb, 0, none⟩) := by rw [hsb]; rfl
    have hwm : whoM c = if c.mode = 3 then c.tb.best One.ready else -1 := by unfold whoM; rw [hm]; rfl
    rw [hwm] at hK
    (refine Tr.enter (rs := [.tmp 2]) mixed fn39 rfl (by simp +arith [Tryz.ntmps39]) fun u => ?_; simp only [cd39, Tryz.f39])
    by_cases hmd : c.mode = 3
    · rw [if_pos hmd] at hK
      have hX := And.intro @pl39.eq_def hsp; repeat' (first | refine S.x ?_ | (refine G.call 31 ?_; refine S.c ?_ (h := cdead_ok)) | (refine G.call 99 ?_; refine S.c ?_ (h := pick_ok _ _ ?_)) | rintro _ _ ⟨rfl, rfl⟩ | (refine G.prop ?_; assumption) | fail)
      all_goals exact Tr.fin hK ⟨rfl, rfl⟩ S.E
    · rw [if_neg hmd] at hK
      have hX := And.intro @pl39.eq_def hsp; repeat' (first | refine S.x ?_ | (refine G.call 31 ?_; refine S.c ?_ (h := cdead_ok)) | rintro _ _ ⟨rfl, rfl⟩ | fail)
      all_goals exact Tr.fin hK ⟨rfl, rfl⟩ S.E
theorem cwant_ok (hc : okC C) (hr : Rel C c w gs) : Trip Tryz.prog 9 [ptr b].toArray (cellL b C c w gs)
    fun v l' => v = .int .i64 (wantM c) ∧ l' = cellL b C c w gs := by
  intro F K hK
  simp only [List.cons_append, List.nil_append] at hK ⊢
  have h8 := hc.n8
  have hlm : (gs.map TaskG.pt).length = gs.length := List.length_map _
  have hnx := cnext_ok (b := b) hc hr
  by_cases h0 : whoM c < 0
  · have hwm : wantM c = 0 := by
      unfold wantM
      unfold whoM at h0
      split
      · rename_i m hm
        rw [hm] at h0
        simp only at h0
        split
        · rename_i h3
          rw [if_pos h3] at h0
          rw [if_pos h0]
        · rfl
      · rfl
    rw [hwm] at hK
    (refine Tr.enter (rs := [.tmp 2]) mixed fn9 rfl (by simp +arith [Tryz.ntmps9]) fun u => ?_; simp only [cd9, Tryz.f9])
    have hX := @pl9.eq_def; repeat' (first | rintro _ _ ⟨rfl, rfl⟩ | (refine G.call 39 ?_; refine S.c ?_ (h := hnx)) | refine S.x ?_ | fail)
    all_goals exact Tr.fin hK ⟨rfl, rfl⟩ S.E
  · obtain ⟨m, hm, h3, hp⟩ : ∃ m, c.slk = some m ∧ c.mode = 3 ∧ whoM c = pickM c := by
      unfold whoM at h0 ⊢
      split at h0
      · rename_i m hm
        split at h0
        · rename_i h3
          exact ⟨m, hm, h3, by rw [if_pos h3]⟩
        · omega
      · omega
    rw [hp] at h0 hnx
    have hk := pick_prog hr h0
    obtain ⟨g0, g9⟩ := rel_in hr hk
    have hmp := ix_map (f := TaskG.pt) (xs := gs) (k := pickM c) g0 g9
    have hre : (ix gs (pickM c)).rest = ix c.rest (pickM c) := by rw [← hr.hr, ix_map (f := TaskG.rest) g0 g9]
    obtain ⟨sb, hsb⟩ := slk_some hr hm
    have hsp : slP w.slk = .pointer (some ⟨sb, 0, none⟩) := by rw [hsb]; rfl
    have hsl : slkO w.slk c.slk = slkX sb m := by rw [hsb, hm]; rfl
    have hwm : wantM c = min3 (ix c.rest (pickM c)) (ofM m (pickM c)) m.room := by unfold wantM; rw [hm]; simp only; rw [if_pos h3, if_neg h0]
    rw [hwm] at hK
    simp only [hsl]
    generalize pickM c = k at *
    (refine Tr.enter (rs := [.tmp 2]) mixed fn9 rfl (by simp +arith [Tryz.ntmps9]) fun u => ?_; simp only [cd9, Tryz.f9])
    refine Tr.famAt (xs := gs) k S.K (by omega) (by omega) (taskA_open ?_)
    have hmn : ∀ P ty T K, GenK P (Builtin.min_ #[T, T, T] ty #[.int .i64 (ix c.rest k), .int .i64 (ofM m k), .int .i64 m.room]) K = K (.int .i64 (min3 (ix c.rest k) (ofM m k) m.room)) := fun P ty T K => min_int3
    have hX := And.intro @pl9.eq_def (And.intro hsp (And.intro hmp (And.intro @TaskG.pt.eq_def (And.intro hre hmn)))); repeat' (first | rintro _ _ ⟨rfl, rfl⟩ | (refine G.call 39 ?_; refine S.c ?_ (h := hnx)) | refine S.x ?_ | (refine G.call 40 ?_; first | refine S.c ?_ (h := xof_ok)) | (refine G.call 41 ?_; first | refine S.c ?_ (h := xroom_ok)) | intro hb | fail)
    all_goals
      refine Tr.fin hK ⟨rfl, rfl⟩ ?_
      simp only [hsl, List.cons_append, List.nil_append]
      have hX := And.intro hre @taskA.eq_def
      exact S.E
end
end Go.Proofs.YtacmaamllpiloaaGreat
namespace Go.Proofs.YtacmaamllpiloaaGreat
open Go Go.Wk
set_option maxHeartbeats 3200000
set_option maxRecDepth 100000
section
variable {b : Nat} {C : CC} {c : CM} {w : CW} {gs : List TaskG} {k p wk : Int} {s : StepC} {s3 : SV} {bs : List UInt8}
theorem rel_wait (h : Rel C c w gs) (hk : inR C.progs k) (hs : s.ok) (hb : bs.length ≤ 300) :
    Rel C { c with addr := c.addr.set k.toNat s.b, data := c.data.set k.toNat bs, tb := c.tb.wait k s.call s.a wk } w (gs.set k.toNat { ix gs k with addr := s.b, ds := s3, dd := bs }) := by
  have hg := rel_in h hk
  have hd : inR c.data k := by unfold inR at *; rw [h.ok.data]; exact hk
  have hR : Rch C 0 c { c with addr := c.addr.set k.toNat s.b, data := c.data.set k.toNat bs } := .wait c k s.b bs hk hs.2.1 hb
  have hR2 : Rch C 0 c { c with addr := c.addr.set k.toNat s.b, data := c.data.set k.toNat bs, tb := c.tb.wait k s.call s.a wk } := hR.one (.tb _ (c.tb.wait k s.call s.a wk) wait_more)
  have hok : okM C { c with addr := c.addr.set k.toNat s.b, data := c.data.set k.toNat bs, tb := c.tb.wait k s.call s.a wk } := by
    refine ⟨wait_len.trans h.ok.tb, h.ok.pos, h.ok.rest, by simpa using h.ok.addr, by simpa using h.ok.data, h.ok.done, h.ok.pi, fun x hx => ?_, fun x hx => ?_⟩
    · rcases List.mem_or_eq_of_mem_set hx with h' | rfl
      · exact h.ok.ad x h'
      · exact hs.2.1
    · rcases List.mem_or_eq_of_mem_set hx with h' | rfl
      · exact h.ok.dl x h'
      · exact hb
  refine ⟨hok, (map_setE (f := TaskG.prog) hg (by rfl)).trans h.hp, (map_setE (f := TaskG.pos) hg (by rfl)).trans h.hi, (map_setE (f := TaskG.rest) hg (by rfl)).trans h.hr, ?_, (map_setE (f := TaskG.done) hg (by rfl)).trans h.hd, fun j hj hw => ?_, h.hs⟩
  · rw [List.map_set, h.ha]
  · have hj' : inR gs j := by unfold inR at *; simpa using hj
    rw [ix_setR hg hj'.1]
    show _ = ix (c.data.set k.toNat bs) j
    rw [ix_setR hd hj'.1]
    by_cases e : j = k
    · rw [if_pos e, if_pos e]
    · rw [if_neg e, if_neg e]
      have hw' : waitD ((c.tb.wait k s.call s.a wk).at j) := hw
      rw [wait_at (tb_in h hk), if_neg e] at hw'
      exact h.hw j hj' hw'
end
attribute [local irreducible] BrK GenK EGenK EUnitK CallK FnK CallV GuardO GuardC CondW opX opK opKc chkR eqR seqK blkK endL WL WD W LoopW BinK Tr drewK resL PickK NotK NilK ExtrK getK Instr.storeAt Instr.loadAt Instr.fieldAt Instr.indexAt Instr.lookup Instr.mapUpdate Instr.box Instr.alloc Instr.build Instr.buildSlice Instr.makeSlice Instr.makeMap Instr.sliceAt Instr.field Instr.index Instr.makeInterface Instr.typeAssert Builtin.len_ Builtin.append_ Builtin.cap_ Builtin.min_ Builtin.max_ Builtin.copy_ Builtin.clear_ convert binOp mp blk rob sl sep ex fact old
attribute [local irreducible] memX portX objX slkO
section
variable {b : Nat} {C : CC} {c : CM} {w : CW} {gs : List TaskG} {k p size : Int} {s : StepC} {s3 : SV} {bs : List UInt8}
theorem cwait_ok (hr : Rel C c w gs) (hk : inR C.progs k) (hf : few c 1) (hs : s.ok) (hb : bs.length ≤ 300) :
    Trip Tryz.prog 169 [ptr b, .int .i64 k, .agg (En.enc s).toArray, s3.v].toArray (sl true s3.v bs :: cellL b C c w gs)
    fun v l' => ∃ w2 gs2, Rel C (waitM C c k s bs) w2 gs2 ∧ v = .tuple #[] ∧ l' = cellL b C (waitM C c k s bs) w2 gs2 := by
  intro F K hK
  simp only [List.cons_append, List.nil_append] at hK ⊢
  unfold few at hf
  obtain ⟨h0, h1⟩ := rel_in hr hk
  have hmp := ix_map (f := TaskG.pt) (xs := gs) (k := k) h0 h1
  have hlm : (gs.map TaskG.pt).length = gs.length := List.length_map _
  have hpt : (gs.set k.toNat { ix gs k with addr := s.b, ds := s3, dd := bs }).map TaskG.pt = gs.map TaskG.pt := map_setE ⟨h0, h1⟩ (by rfl)
  by_cases hd : s.d = 0
  · have hwm : waitM C c k s bs = noteM C c k s.call 1 0 := by unfold waitM; rw [if_pos hd]
    rw [hwm] at hK
    (refine Tr.enter (rs := []) mixed fn169 rfl (by simp +arith [Tryz.ntmps169]) fun u => ?_; simp only [cd169, Tryz.f169])
    have hX := @pl169.eq_def; repeat' (first | refine S.x ?_ | (refine G.call 159 ?_; refine S.c ?_ (h := ctell_ok ?_)) | rintro _ _ ⟨_, rfl, rfl⟩ | (refine G.prop ?_; assumption) | intro hb | fail)
    all_goals
      rename_i sv
      refine Tr.fin hK ⟨{ w with ev := sv }, gs, rel_note hr, rfl, rfl⟩ ?_
      simp only [List.cons_append, List.nil_append]
      have hX := @noteM.eq_def
      exact S.E
  · obtain ⟨wk, hwk⟩ : ∃ wk, wk = (if 1000 < s.d then IntKind.i64.wrap (c.win + 1000) else if 0 < s.d then IntKind.i64.wrap (c.win + s.d) else -1) := ⟨_, rfl⟩
    have hwm : waitM C c k s bs = { c with addr := c.addr.set k.toNat s.b, data := c.data.set k.toNat bs, tb := c.tb.wait k s.call s.a wk } := by unfold waitM; rw [if_neg hd, hwk]
    rw [hwm] at hK
    have hrel := rel_wait (s3 := s3) (wk := wk) hr hk hs hb
    (refine Tr.enter (rs := []) mixed fn169 rfl (by simp +arith [Tryz.ntmps169]) fun u => ?_; simp only [cd169, Tryz.f169])
    refine Tr.famAt (xs := gs) k S.K (by omega) (by omega) (taskA_open ?_)
    by_cases h2 : 1000 < s.d
    · have hmi : (if (1000 : Int) < s.d then (1000 : Int) else s.d) = 1000 := if_pos h2
      rw [if_pos h2] at hwk
      have hwk' := hwk.symm
      clear hwk
      have hX := And.intro @pl169.eq_def (And.intro hmp (And.intro @TaskG.pt.eq_def (And.intro hmi @hwk'))); repeat' (first | refine S.x ?_ | (refine G.call 229 ?_; refine S.c ?_ (h := wait_ok _ _ _ _ _ _)) | rintro _ _ ⟨rfl, rfl⟩ | intro hb | fail)
      all_goals
        refine Tr.fin hK ⟨w, _, hrel, rfl, rfl⟩ ?_
        simp only [List.cons_append, List.nil_append]
        rw [hpt]
        have hX := @taskA.eq_def
        exact S.E
    · have hmi : (if (1000 : Int) < s.d then (1000 : Int) else s.d) = s.d := if_neg h2
      rw [if_neg h2] at hwk
      by_cases h3 : 0 < s.d
      · rw [if_pos h3] at hwk
        have hwk' := hwk.symm
        clear hwk
        have hX := And.intro @pl169.eq_def (And.intro hmp (And.intro @TaskG.pt.eq_def (And.intro hmi @hwk'))); repeat' (first | refine S.x ?_ | (refine G.call 229 ?_; refine S.c ?_ (h := wait_ok _ _ _ _ _ _)) | rintro _ _ ⟨rfl, rfl⟩ | intro hb | fail)
        all_goals
          refine Tr.fin hK ⟨w, _, hrel, rfl, rfl⟩ ?_
          simp only [List.cons_append, List.nil_append]
          rw [hpt]
          have hX := @taskA.eq_def
          exact S.E
      · rw [if_neg h3] at hwk
        subst hwk
        have hX := And.intro @pl169.eq_def (And.intro hmp (And.intro @TaskG.pt.eq_def hmi)); repeat' (first | refine S.x ?_ | (refine G.call 229 ?_; refine S.c ?_ (h := wait_ok _ _ _ _ _ _)) | rintro _ _ ⟨rfl, rfl⟩ | intro hb | fail)
        all_goals
          refine Tr.fin hK ⟨w, _, hrel, rfl, rfl⟩ ?_
          simp only [List.cons_append, List.nil_append]
          rw [hpt]
          have hX := @taskA.eq_def
          exact S.E
theorem cbad_ok (hc : okC C) (hr : Rel C c w gs) (hk : inR C.progs k) (hf : few c 2) :
    Trip Tryz.prog 185 [ptr b, .int .i64 k, .agg (En.enc s).toArray].toArray (cellL b C c w gs)
    fun v l' => ∃ w2 gs2, Rel C (badM C c k s) w2 gs2 ∧ v = .tuple #[] ∧ l' = cellL b C (badM C c k s) w2 gs2 := by
  intro F K hK
  simp only [List.cons_append, List.nil_append] at hK ⊢
  have hf1 : few c 1 := by unfold few at *; omega
  unfold few at hf1
  obtain ⟨c1, hc1⟩ : ∃ c1, c1 = noteM C c k s.call 8 0 := ⟨_, rfl⟩
  have hf2 : few c1 1 := by unfold few at *; rw [hc1]; simp only [noteM, List.length_append, List.length_cons, List.length_nil]; omega
  have hr1 : ∀ s, Rel C c1 { w with ev := s } gs := fun s => by rw [hc1]; exact rel_note hr
  have hbm : badM C c k s = faultM C c1 k 2 := by rw [hc1]; rfl
  rw [hbm] at hK
  (refine Tr.enter (rs := []) mixed fn185 rfl (by simp +arith [Tryz.ntmps185]) fun u => ?_; simp only [cd185, Tryz.f185])
  have hX := @pl185.eq_def; repeat' (first | refine S.x ?_ | (refine G.call 159 ?_; refine S.c ?_ (h := ctell_ok ?_)) | rintro _ _ ⟨_, rfl, rfl⟩ | (refine G.prop ?_; assumption) | intro hb | fail)
  rename_i sv
  refine Tr.imp (l' := cellL b C c1 { w with ev := sv } gs ++ F) ?_ ?_
  · subst hc1
    simp only [List.cons_append, List.nil_append]
    have hX := @noteM.eq_def
    show EntR [] _ _
    exact S.E
  have hcf := cfault_ok (b := b) (kind := 2) hc (hr1 sv) hk hf2 (by decide) (by decide)
  clear hc1 hr1 hbm
  simp only [List.cons_append, List.nil_append]
  have hX := @pl185.eq_def; repeat' (first | rintro _ _ ⟨w3, g3, hr3, rfl, rfl⟩ | (refine G.call 91 ?_; refine S.c ?_ (h := hcf)) | refine S.x ?_ | fail)
  all_goals exact Tr.fin hK ⟨w3, g3, hr3, rfl, rfl⟩ S.E
end
end Go.Proofs.YtacmaamllpiloaaGreat
