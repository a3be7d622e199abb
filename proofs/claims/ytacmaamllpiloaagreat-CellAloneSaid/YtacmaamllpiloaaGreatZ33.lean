import Derived.Test.YtacmaamllpiloaaGreatZ32
namespace Go.Proofs.YtacmaamllpiloaaGreat
open Go Go.Wk
set_option maxHeartbeats 3200000
set_option maxRecDepth 100000
section
variable {C : CC} {c : CM} {w : CW} {gs : List TaskG} {k kind win : Int} {cold : Bool}
theorem startM_done : (startM C c k win).done = c.done := by unfold startM; simp only; split <;> rfl
theorem stopTo_done : ∀ n, (stopTo c n).done = c.done
 | 0 => rfl
 | n + 1 => stopTo_done n
theorem startTo_done : ∀ n, (startTo C c win n).done = c.done
 | 0 => rfl
 | n + 1 => startM_done.trans (startTo_done n)
theorem fault_done : (faultM C c k kind).done = c.done := by
 unfold faultM
 simp only
 split
 ·rfl
 ·split
  ·exact startM_done
  ·split
   ·exact (startTo_done _).trans (stopTo_done _)
   ·split
    ·exact stopTo_done _
    ·rfl
def nd (c : CM) : Nat := c.done.countP (fun b => !b)
theorem nd_rest (hk : inR c.done k) (h : ix c.done k = false) : nd (restM c k) + 1 = nd c := by
 have hl : k.toNat < c.done.length := by have := hk.1; have := hk.2; omega
 have h3 : c.done[k.toNat] = false := by
  have e := ix_some (xs := c.done) hk.1 hk.2
  rw [h, List.getElem?_eq_getElem hl] at e
  exact Option.some.inj e
 have h4 : 0 < c.done.countP (fun b => !b) := List.countP_pos_iff.2 ⟨_, List.getElem_mem hl, by rw [h3]; rfl⟩
 show (c.done.set k.toNat true).countP _ + 1 = c.done.countP _
 rw [List.countP_set hl, if_pos (by rw [h3]; rfl), if_neg (by decide)]
 omega
theorem nd_le : nd c ≤ c.done.length := List.countP_le_length
theorem ready_of {d : One} (h : d.ready = true) : d.state = 1 ∧ d.parked = false := by
 unfold One.ready at h
 simp only [Bool.and_eq_true, decide_eq_true_eq, Bool.not_eq_true'] at h
 exact h
theorem pick_prog (h : Rel C c w gs) (h0 : ¬ pickM c < 0) : inR C.progs (pickM c) := tb_prog h (best_in (q := One.ready) (by unfold pickM at h0; omega))
theorem pick_nd (h : Rel C c w gs) (hd : dP c) (h0 : ¬ pickM c < 0) : nd (restM c (pickM c)) + 1 = nd c := by
 have hk := pick_prog h h0
 refine nd_rest (by unfold inR at *; rw [h.ok.done]; exact hk) ?_
 have hs := ready_of (best_sat (t := c.tb) (q := One.ready) (by unfold pickM at h0; omega))
 cases he : ix c.done (pickM c) with
 | false => rfl
 | true =>
  have := hd _ hk.1 he
  unfold pickM at this
  rw [hs.2] at this
  cases this
theorem settle_stop (h : ¬ c.mode = 3 ∨ pickM c < 0 ∨ 0 < ofC c (pickM c)) : ∀ n, settleTo C n c = c
 | 0 => rfl
 | n + 1 => by
  unfold settleTo
  split
  ·split
   ·rfl
   ·split
    ·rfl
    ·rcases h with h | h | h <;> contradiction
  ·rfl
end
attribute [local irreducible] BrK GenK EGenK EUnitK CallK FnK CallV GuardO GuardC CondW opX opK opKc chkR eqR seqK blkK endL WL WD W LoopW BinK Tr drewK resL PickK NotK NilK ExtrK getK Instr.storeAt Instr.loadAt Instr.fieldAt Instr.indexAt Instr.lookup Instr.mapUpdate Instr.box Instr.alloc Instr.build Instr.buildSlice Instr.makeSlice Instr.makeMap Instr.sliceAt Instr.field Instr.index Instr.makeInterface Instr.typeAssert Builtin.len_ Builtin.append_ Builtin.cap_ Builtin.min_ Builtin.max_ Builtin.copy_ Builtin.clear_ convert binOp mp blk rob sl sep ex fact old
attribute [local irreducible] memX portX objX slkX
section
variable {b : Nat} {C : CC} {c : CM} {w : CW} {gs : List TaskG} {k p : Int}
theorem csettle_ok (hc : okC C) (hr : Rel C c w gs) (hf : few c 8) (hd : dP c) (hs : c.slk.isSome = true) : Trip Tryz.prog 38 [ptr b].toArray (cellL b C c w gs)
  fun v l' => ∃ w2 gs2, Rel C (settleTo C 100 c) w2 gs2 ∧ v = .tuple #[] ∧ l' = cellL b C (settleTo C 100 c) w2 gs2 := by
 intro F K hK
 simp only [List.cons_append, List.nil_append] at hK ⊢
 have h8 := hc.n8
 have hcn : nd c ≤ 8 := Nat.le_trans nd_le (by rw [hr.ok.done]; exact h8)
 have hf0 : few c (nd c) := by unfold few at *; omega
 obtain ⟨R, hR⟩ : ∃ R, R = settleTo C 100 c := ⟨_, rfl⟩
 rw [← hR] at hK
 (refine Tr.enter (rs := []) mixed fn38 rfl (by simp +arith [Tryz.ntmps38]) fun u => ?_; simp only [cd38, Tryz.f38])
 have hX := @pl38.eq_def; repeat' (first | refine S.x ?_ | fail)
 refine Tr.loopE (α := CM × Nat × CW × List TaskG) [] [0] (fun x => []) (fun x => cellL b C x.1 x.2.2.1 x.2.2.2) (fun x => settleTo C x.2.1 x.1 = R ∧ nd x.1 < x.2.1 ∧ few x.1 (nd x.1) ∧ Rel C x.1 x.2.2.1 x.2.2.2 ∧ dP x.1 ∧ x.1.slk.isSome = true) (fun x => x.2.1) (c, 100, w, gs) S.T rfl ⟨hR.symm, by simp only; omega, hf0, hr, hd, hs⟩ fun x u hx => ?_
 obtain ⟨c1, n, w1, g1⟩ := x
 obtain ⟨he, hn, hf1, hr1, hd1, hs1⟩ := hx
 simp only at he hn hf1 hr1 hd1 hs1 ⊢
 simp only [List.cons_append, List.nil_append]
 have htb1 := hr1.ok.tb
 have htl : c1.tb.d.length ≤ 1000000 := by omega
 clear hr hf hf0 hR hd hs
 obtain ⟨m1, hm1⟩ := Option.isSome_iff_exists.1 hs1
 obtain ⟨sb, hsb⟩ := slk_some hr1 hm1
 have hsl : slkO w1.slk c1.slk = slkX sb m1 := by rw [hsb, hm1]; rfl
 have hsp : slP w1.slk = .pointer (some ⟨sb, 0, none⟩) := by rw [hsb]; rfl
 have hof : ∀ k, ofC c1 k = ofM m1 k := fun k => by unfold ofC; rw [hm1]
 by_cases hmd : c1.mode = 3
 ·by_cases h0 : pickM c1 < 0
  ·rw [settle_stop (.inr (.inl h0))] at he
   rw [← he] at hK
   have hX := @pl38.eq_def; repeat' (first | refine S.x ?_ | (refine G.call 99 ?_; refine S.c ?_ (h := pick_ok _ _ ?_)) | rintro _ _ ⟨rfl, rfl⟩ | (refine G.prop ?_; assumption) | fail)
   all_goals exact Tr.fin hK ⟨w1, g1, hr1, rfl, rfl⟩ S.E
  ·simp only [hsl]
   by_cases h1 : 0 < ofM m1 (pickM c1)
   ·rw [settle_stop (.inr (.inr (by rw [hof]; exact h1)))] at he
    rw [← he] at hK
    have hX := And.intro @pl38.eq_def hsp; repeat' (first | refine S.x ?_ | refine S.y ?_ ?_ | (refine G.call 99 ?_; refine S.c ?_ (h := pick_ok _ _ ?_)) | (refine G.call 40 ?_; first | refine S.c ?_ (h := xof_ok)) | rintro _ _ ⟨rfl, rfl⟩ | (refine G.prop ?_; assumption) | intro hb | fail)
    all_goals
     refine Tr.fin hK ⟨w1, g1, hr1, rfl, rfl⟩ ?_
     simp only [hsl, List.cons_append, List.nil_append]
     exact S.E
   ·have hk := pick_prog hr1 h0
    have hnd := pick_nd hr1 hd1 h0
    obtain ⟨n, rfl⟩ : ∃ m, n = m + 1 := ⟨n - 1, by omega⟩
    unfold settleTo at he
    rw [if_pos hmd, if_neg h0, if_neg (by rw [hof]; exact h1)] at he
    generalize hpk : pickM c1 = k at *
    have hf2 : few (restM c1 k) 1 := by unfold few at *; show c1.evs.length + 1 ≤ _; omega
    have hrch : Rch C 1 c1 (faultM C (restM c1 k) k 0) := .le (.trans (.rest c1 k hk) (rch_fault hk)) (by omega)
    obtain ⟨c3, hc3⟩ : ∃ c3 : CM, c3 = faultM C (restM c1 k) k 0 := ⟨_, rfl⟩
    rw [← hc3] at hrch he
    have hd3 := hrch.dP hc hr1.ok hd1
    have hs3 : c3.slk.isSome = true := by rw [hrch.sk]; exact hs1
    have hn3 : nd c3 + 1 = nd c1 := by rw [← hnd, hc3]; unfold nd; rw [fault_done]
    have hf3 : few c3 (nd c3) := hrch.few (by unfold few at *; omega)
    have hco := crest_ok (b := b) hr1 hk hm1
    have hpk' : c1.tb.best One.ready = k := hpk
    have hX := And.intro @pl38.eq_def (And.intro hsp @hpk'); repeat' (first | refine S.x ?_ | (refine G.call 99 ?_; refine S.c ?_ (h := pick_ok _ _ ?_)) | (refine G.call 40 ?_; first | refine S.c ?_ (h := xof_ok)) | rintro _ _ ⟨rfl, rfl⟩ | (refine G.prop ?_; assumption) | fail)
    refine Tr.imp (l' := cellL b C c1 w1 g1 ++ F) ?_ ?_
    ·simp only [hsl, List.cons_append, List.nil_append]
     show EntR [] _ _
     exact S.E
    simp only [List.cons_append, List.nil_append]
    clear hsl hsp
    refine S.c ?_ (h := hco)
    rintro _ _ ⟨g2, hr2, rfl, rfl⟩
    have hcf := cfault_ok (b := b) (kind := 0) hc hr2 hk hf2 (by decide) (by decide)
    rw [← hc3] at hcf
    simp only [List.cons_append, List.nil_append]
    have hX := @pl38.eq_def; repeat' (first | rintro _ _ ⟨w3, g3, hr3, rfl, rfl⟩ | (refine G.call 91 ?_; refine S.c ?_ (h := hcf)) | refine S.x ?_ | fail)
    all_goals
     clear hr1 hr2 hcf hco hc3 hrch
     exact S.R ((c3, n, w3, g3) : CM × Nat × CW × List TaskG)
 ·rw [settle_stop (.inl hmd)] at he
  rw [← he] at hK
  have hX := @pl38.eq_def; repeat' (first | refine S.x ?_ | fail)
  all_goals exact Tr.fin hK ⟨w1, g1, hr1, rfl, rfl⟩ S.E
end
end Go.Proofs.YtacmaamllpiloaaGreat
namespace Go.Proofs.YtacmaamllpiloaaGreat
open Go Go.Wk
set_option maxHeartbeats 3200000
set_option maxRecDepth 100000
section
variable {C : CC} {c : CM} {w : CW} {gs : List TaskG} {k kind win : Int} {t : Tb}
def One.fr (o : One) : One := { o with parked := false }
theorem freeTo_at : ∀ n, n ≤ t.d.length → ∀ j : Int, (t.freeTo n).at j = if 0 ≤ j ∧ j < n then (t.at j).fr else t.at j
 | 0, _, j => by rw [if_neg (by omega)]; rfl
 | n + 1, h, j => by
  have ih := fun j => freeTo_at n (Nat.le_of_succ_le h) j
  have hl : inR (t.freeTo n).d (n : Int) := by unfold inR; rw [freeTo_len]; omega
  have e := at_set (t := t.freeTo n) (j := j) (o := ((t.freeTo n).at n).fr) hl (n := (t.freeTo n).turns)
  refine e.trans ?_
  rw [ih n, if_neg (show ¬ (0 ≤ (n : Int) ∧ (n : Int) < n) by omega), ih j]
  by_cases hj : j = n
  ·rw [if_pos hj, if_pos (by omega), hj]
  ·rw [if_neg hj]
   by_cases h2 : 0 ≤ j ∧ j < n
   ·rw [if_pos h2, if_pos (by omega)]
   ·rw [if_neg h2, if_neg (by omega)]
theorem free_noNew : noNew t t.free := fun j hj => by
 unfold Tb.free at hj
 rw [freeTo_at _ (Nat.le_refl _)] at hj
 split at hj
 ·exact hj
 ·exact hj
def TaskG.nd (g : TaskG) : TaskG := { g with done := false }
theorem rel_win {s : Option Nat} (hs : s.isSome = true) (h : Rel C c w gs) : Rel C (winM C c) { w with slk := s } (gs.map TaskG.nd) := by
 have hl := rel_len h
 refine ⟨⟨(freeTo_len _ _).trans h.ok.tb, h.ok.pos, h.ok.rest, h.ok.addr, h.ok.data, by simp [winM], h.ok.pi, h.ok.ad, h.ok.dl⟩, ?_, ?_, ?_, ?_, ?_, fun k hk hw => ?_, hs⟩
 ·rw [← h.hp, List.map_map]; rfl
 ·show _ = c.pos; rw [← h.hi, List.map_map]; rfl
 ·show _ = c.rest; rw [← h.hr, List.map_map]; rfl
 ·show _ = c.addr; rw [← h.ha, List.map_map]; rfl
 ·rw [List.map_map]
  show _ = List.replicate _ _
  rw [← hl]
  exact List.map_const' ..
 ·have hk2 : inR gs k := by unfold inR at *; simpa using hk
  rw [ix_map (f := TaskG.nd) hk2.1 hk2.2]
  exact h.hw k hk2 (free_noNew k hw)
theorem dP_win : dP (winM C c) := fun k h0 hk => by
 have h1 : ix (List.replicate C.progs.length false) k = true := hk
 have h2 : ix (List.replicate C.progs.length false) k = false := by
  unfold ix
  rw [List.getD_eq_getElem?_getD, List.getElem?_replicate]
  split <;> rfl
 rw [h1] at h2
 cases h2
end
attribute [local irreducible] BrK GenK EGenK EUnitK CallK FnK CallV GuardO GuardC CondW opX opK opKc chkR eqR seqK blkK endL WL WD W LoopW BinK Tr drewK resL PickK NotK NilK ExtrK getK Instr.storeAt Instr.loadAt Instr.fieldAt Instr.indexAt Instr.lookup Instr.mapUpdate Instr.box Instr.alloc Instr.build Instr.buildSlice Instr.makeSlice Instr.makeMap Instr.sliceAt Instr.field Instr.index Instr.makeInterface Instr.typeAssert Builtin.len_ Builtin.append_ Builtin.cap_ Builtin.min_ Builtin.max_ Builtin.copy_ Builtin.clear_ convert binOp mp blk rob sl sep ex fact old
attribute [local irreducible] memX portX objX slkX
attribute [local irreducible] sendTo recvTo portsTo relsM wakesM settleTo begin2
section
variable {b : Nat} {C : CC} {c : CM} {w : CW} {gs : List TaskG} {k p mode win : Int}
theorem cdead_ok : Trip Tryz.prog 31 [ptr b].toArray [cellB b C mode win w]
  fun v l' => v = .bool false ∧ l' = [cellB b C mode win w] := by
 intro F K hK
 simp only [List.cons_append, List.nil_append]
 (refine Tr.enter (rs := [.tmp 2]) mixed fn31 rfl (by simp +arith [Tryz.ntmps31]) fun u => ?_; simp only [cd31, Tryz.f31])
 have hX := @pl31.eq_def; repeat' (first | refine S.x ?_ | fail)
 all_goals exact S.L
theorem cbegin_ok (hc : okC C) (hr : Rel C c w gs) (hf : few c 500) : Trip Tryz.prog 8 [ptr b].toArray (cellL b C c w gs)
  fun v l' => ∃ w2 gs2, Rel C (beginM C c) w2 gs2 ∧ v = .tuple #[] ∧ l' = cellL b C (beginM C c) w2 gs2 := by
 intro F K hK
 simp only [List.cons_append, List.nil_append] at hK ⊢
 have h8 := hc.n8
 have htl : c.tb.d.length ≤ 1000000 := by rw [hr.ok.tb]; omega
 have hlg := rel_len hr
 have hlm : (gs.map TaskG.pt).length = C.progs.length := by rw [List.length_map]; exact hlg
 have h3 : C.conf.procs.d.length ≤ 100000 := by rw [hc.np]; omega
 (refine Tr.enter (rs := []) mixed fn8 rfl (by simp +arith [Tryz.ntmps8]) fun u => ?_; simp only [cd8, Tryz.f8])
 have hX := And.intro @pl8.eq_def hlm; repeat' (first | rintro _ _ ⟨rfl, rfl⟩ | rintro _ _ ⟨sb, rfl, rfl⟩ | (refine G.call 32 ?_; refine S.c ?_ (h := xsnew_ok (c := C.conf) (hd := ⟨rfl⟩) hc.cap hc.cost h3)) | refine S.x ?_ | (refine G.call 31 ?_; refine S.c ?_ (h := cdead_ok)) | (refine G.call 33 ?_; first | refine S.c ?_ (h := free_ok _ _ ?_) | fail) | (refine G.prop ?_; assumption) | fail)
 obtain ⟨cw, hcw⟩ : ∃ cw, cw = winM C c := ⟨_, rfl⟩
 have hr0 : Rel C cw { w with slk := some sb } (gs.map TaskG.nd) := by rw [hcw]; exact rel_win rfl hr
 have hd0 : dP cw := by rw [hcw]; exact dP_win
 have hs0 : cw.slk.isSome = true := by rw [hcw]; rfl
 have hf0 : few cw 500 := by rw [hcw]; exact hf
 have hbm : beginM C c = if cw.mode = 3 then settleTo C 100 (wakesM C (portsTo C (relsM C cw) 8)) else cw := by
  rw [hcw, ← begin2_eq]; rfl
 rw [hbm] at hK
 refine Tr.imp (l' := cellL b C cw { w with slk := some sb } gs ++ F) ?_ ?_
 ·subst hcw
  have hX := And.intro @winM.eq_def (And.intro @slkO.eq_def @slP.eq_def)
  simp only [cellL, List.cons_append, List.nil_append]
  show EntR [] _ _
  exact S.E
 clear hcw hbm hf hr htl
 obtain ⟨w0, hw0⟩ : ∃ w0 : CW, w0 = { w with slk := some sb } := ⟨_, rfl⟩
 have hwt : w0.ts = w.ts := by rw [hw0]
 rw [← hw0] at hr0 ⊢
 clear hw0
 rw [← hwt]
 clear hwt
 simp only [List.cons_append, List.nil_append]
 refine Tr.loopE (α := Nat) [32] [0, 30, 31] (fun x => [.int .i64 x]) (fun x => [cellB b C cw.mode cw.win w0, sl false w0.ts.v (gs.map TaskG.pt), fam taskA (upto TaskG.nd gs x)]) (fun x => x ≤ gs.length) (fun x => gs.length - x) 0 S.T rfl (Nat.zero_le _) fun k u hk => ?_
 simp only [List.cons_append, List.nil_append]
 by_cases hin : k < gs.length
 ·have hw := wrapSucc (k := k) (by omega)
  have hm := ix_map (f := TaskG.pt) (xs := gs) (k := (k : Int)) (by omega) (by omega)
  have hul := upto_len (f := TaskG.nd) (xs := gs) (k := k)
  have hui := upto_ix (f := TaskG.nd) (xs := gs) (k := k) hin
  have hus := upto_set (f := TaskG.nd) (xs := gs) (k := k) hin
  refine Tr.famAt (xs := upto TaskG.nd gs k) (k : Int) S.K (by omega) (by omega) (taskA_open ?_)
  rw [hui]
  have hX := And.intro @pl8.eq_def (And.intro hw (And.intro hm @TaskG.pt.eq_def)); repeat' (first | refine S.x ?_ | intro hb | fail)
  all_goals
   have hX := And.intro hus.symm (And.intro @taskA.eq_def @TaskG.nd.eq_def)
   clear hus
   exact S.R (k + 1)
 ·have hke : k = gs.length := by omega
  subst hke
  rw [upto_all]
  have hpt : (gs.map TaskG.nd).map TaskG.pt = gs.map TaskG.pt := by rw [List.map_map]; rfl
  rw [← hpt]
  generalize gs.map TaskG.nd = g0 at *
  clear hpt hlm hin
  by_cases hm : cw.mode = 3
  ·rw [if_pos hm] at hK
   obtain ⟨c1, hc1⟩ : ∃ c1, c1 = relsM C cw := ⟨_, rfl⟩
   have hR1 := rch_rels hc hr0.ok
   have hf1 : few cw 16 := by unfold few at *; omega
   have hco := creleases_ok (b := b) hc hr0 hf1
   have hf2 : few c1 484 := by rw [hc1]; exact hR1.few hf0
   have hR2 : ∀ i, Rch C (16 + 40 * i) cw (portsTo C c1 i) := fun i => by rw [hc1]; exact .trans hR1 (rch_ports i)
   have hR3 := Rch.trans (hR2 8) (rch_wakes hc ((hR2 8).ok hc hr0.ok))
   have hd3 := hR3.dP hc hr0.ok hd0
   have hs3 : (wakesM C (portsTo C c1 8)).slk.isSome = true := by rw [hR3.sk]; exact hs0
   have hf3 : few (wakesM C (portsTo C c1 8)) 8 := hR3.few (by unfold few at *; omega)
   have hfw : few (portsTo C c1 8) 8 := (hR2 8).few (by unfold few at *; omega)
   rw [← hc1] at hK hco
   have hX := @pl8.eq_def; repeat' (first | rintro _ _ ⟨w1, g1, hr1, rfl, rfl⟩ | (refine G.call 34 ?_; refine S.c ?_ (h := hco)) | refine S.x ?_ | fail)
   clear hc1 hco hr0 hR1 hR3
   have hp0 : portsTo C c1 0 = c1 := portsTo.eq_1 _ _
   rw [← hp0] at hr1 ⊢
   clear hp0
   refine Tr.loopE (α := Nat × CW × List TaskG) [47] [0] (fun x => [.int .i64 x.1]) (fun x => cellL b C (portsTo C c1 x.1) x.2.1 x.2.2) (fun x => x.1 ≤ 8 ∧ Rel C (portsTo C c1 x.1) x.2.1 x.2.2) (fun x => 8 - x.1) (0, w1, g1) S.T rfl ⟨Nat.zero_le _, hr1⟩ fun y u2 hy => ?_
   obtain ⟨j, w2, g2⟩ := y
   obtain ⟨hj, hrj⟩ := hy
   simp only at hj hrj ⊢
   simp only [List.cons_append, List.nil_append]
   by_cases hjn : j < 8
   ·have hw := wrapSucc (k := j) (by omega)
    have hfj : few (portsTo C c1 j) 8 := (hR2 j).few (by unfold few at *; omega)
    have hfj2 : few (sendTo C (j : Int) 20 (portsTo C c1 j)) 8 := (Rch.trans (hR2 j) (rch_send 20 _)).few (by unfold few at *; omega)
    have hst : portsTo C c1 (j + 1) = recvTo C (j : Int) 20 (sendTo C (j : Int) 20 (portsTo C c1 j)) := portsTo.eq_2 _ _ _
    have hA := csenders_ok (b := b) (p := (j : Int)) hc hrj hfj
    have hB := fun w g (h : Rel C (sendTo C (j : Int) 20 (portsTo C c1 j)) w g) => creceivers_ok (b := b) (p := (j : Int)) hc h hfj2
    rw [← hst] at hB
    clear hst hfj hfj2
    generalize hnj : portsTo C c1 (j + 1) = nj at *
    generalize hsj : sendTo C (j : Int) 20 (portsTo C c1 j) = sj at *
    generalize hcj : portsTo C c1 j = cj at *
    have hX := And.intro @pl8.eq_def hw; repeat' (first | rintro _ _ ⟨w3, g3, hr3, rfl, rfl⟩ | (refine G.call 35 ?_; refine S.c ?_ (h := hA)) | (refine G.call 36 ?_; refine S.c ?_ (h := hB _ _ hr3)) | refine S.x ?_ | fail)
    all_goals
     subst hnj
     clear hrj hcj hsj hA hB
     exact S.R ((j + 1, w3, g3) : Nat × CW × List TaskG)
   ·have hje : j = 8 := by omega
    subst hje
    have hA := cwakes_ok (b := b) hc hrj hfw
    have hB := fun w g (h : Rel C (wakesM C (portsTo C c1 8)) w g) => csettle_ok (b := b) hc h hf3 hd3 hs3
    clear hR2
    generalize settleTo C 100 (wakesM C (portsTo C c1 8)) = cx at *
    generalize wakesM C (portsTo C c1 8) = c9 at *
    generalize portsTo C c1 8 = c8 at *
    have hX := @pl8.eq_def; repeat' (first | rintro _ _ ⟨w3, g3, hr3, rfl, rfl⟩ | (refine G.call 37 ?_; refine S.c ?_ (h := hA)) | (refine G.call 38 ?_; refine S.c ?_ (h := hB _ _ hr3)) | refine S.x ?_ | fail)
    all_goals exact Tr.fin hK ⟨w3, g3, hr3, rfl, rfl⟩ S.E
  ·rw [if_neg hm] at hK
   have hX := @pl8.eq_def; repeat' (first | refine S.x ?_ | fail)
   all_goals exact Tr.fin hK ⟨w0, g0, hr0, rfl, rfl⟩ S.E
end
end Go.Proofs.YtacmaamllpiloaaGreat
namespace Go.Proofs.YtacmaamllpiloaaGreat
open Go Go.Wk
set_option maxHeartbeats 3200000
set_option maxRecDepth 100000
theorem slk_none {C : CC} {c : CM} {w : CW} {gs : List TaskG} (h : Rel C c w gs) (hm : c.slk = none) : w.slk = none := by
 have := h.hs
 rw [hm] at this
 cases hw : w.slk with
 | none => rfl
 | some s => rw [hw] at this; cases this
attribute [local irreducible] BrK GenK EGenK EUnitK CallK FnK CallV GuardO GuardC CondW opX opK opKc chkR eqR seqK blkK endL WL WD W LoopW BinK Tr drewK resL PickK NotK NilK ExtrK getK Instr.storeAt Instr.loadAt Instr.fieldAt Instr.indexAt Instr.lookup Instr.mapUpdate Instr.box Instr.alloc Instr.build Instr.buildSlice Instr.makeSlice Instr.makeMap Instr.sliceAt Instr.field Instr.index Instr.makeInterface Instr.typeAssert Builtin.len_ Builtin.append_ Builtin.cap_ Builtin.min_ Builtin.max_ Builtin.copy_ Builtin.clear_ convert binOp mp blk rob sl sep ex fact old
attribute [local irreducible] memX portX objX slkX
section
variable {b : Nat} {C : CC} {c : CM} {w : CW} {gs : List TaskG} {k p : Int}
theorem cnext_ok (hc : okC C) (hr : Rel C c w gs) : Trip Tryz.prog 39 [ptr b].toArray [cellB b C c.mode c.win w, tabA w.tb c.tb]
  fun v l' => v = .int .i64 (whoM c) ∧ l' = [cellB b C c.mode c.win w, tabA w.tb c.tb] := by
 intro F K hK
 simp only [List.cons_append, List.nil_append] at hK ⊢
 have h8 := hc.n8
 have htl : c.tb.d.length ≤ 1000000 := by rw [hr.ok.tb]; omega
 rcases Option.eq_none_or_eq_some c.slk with hm | ⟨m, hm⟩
 ·have hsp : slP w.slk = .pointer none := by rw [slk_none hr hm]; rfl
  have hwm : whoM c = -1 := by unfold whoM; rw [hm]
  rw [hwm] at hK
  (refine Tr.enter (rs := [.tmp 2]) mixed fn39 rfl (by simp +arith [Tryz.ntmps39]) fun u => ?_; simp only [cd39, Tryz.f39])
  have hX := And.intro @pl39.eq_def hsp; repeat' (first | refine S.x ?_ | (refine G.call 31 ?_; refine S.c ?_ (h := cdead_ok)) | rintro _ _ ⟨rfl, rfl⟩ | fail)
  all_goals exact Tr.fin hK ⟨rfl, rfl⟩ S.E
 ·obtain ⟨sb, hsb⟩ := slk_some hr hm
  have hsp : slP w.slk = .pointer (some ⟨sb, 0, none⟩) := by rw [hsb]; rfl
  have hwm : whoM c = if c.mode = 3 then c.tb.best One.ready else -1 := by unfold whoM; rw [hm]; rfl
  rw [hwm] at hK
  (refine Tr.enter (rs := [.tmp 2]) mixed fn39 rfl (by simp +arith [Tryz.ntmps39]) fun u => ?_; simp only [cd39, Tryz.f39])
  by_cases hmd : c.mode = 3
  ·rw [if_pos hmd] at hK
   have hX := And.intro @pl39.eq_def hsp; repeat' (first | refine S.x ?_ | (refine G.call 31 ?_; refine S.c ?_ (h := cdead_ok)) | (refine G.call 99 ?_; refine S.c ?_ (h := pick_ok _ _ ?_)) | rintro _ _ ⟨rfl, rfl⟩ | (refine G.prop ?_; assumption) | fail)
   all_goals exact Tr.fin hK ⟨rfl, rfl⟩ S.E
  ·rw [if_neg hmd] at hK
   have hX := And.intro @pl39.eq_def hsp; repeat' (first | refine S.x ?_ | (refine G.call 31 ?_; refine S.c ?_ (h := cdead_ok)) | rintro _ _ ⟨rfl, rfl⟩ | fail)
   all_goals exact Tr.fin hK ⟨rfl, rfl⟩ S.E
theorem cwant_ok (hc : okC C) (hr : Rel C c w gs) : Trip Tryz.prog 9 [ptr b].toArray (cellL b C c w gs)
  fun v l' => v = .int .i64 (wantM c) ∧ l' = cellL b C c w gs := by
 intro F K hK
 simp only [List.cons_append, List.nil_append] at hK ⊢
 have h8 := hc.n8
 have hlm : (gs.map TaskG.pt).length = gs.length := List.length_map _
 have hnx := cnext_ok (b := b) hc hr
 by_cases h0 : whoM c < 0
 ·have hwm : wantM c = 0 := by
   unfold wantM
   unfold whoM at h0
   split
   ·rename_i m hm
    rw [hm] at h0
    simp only at h0
    split
    ·rename_i h3
     rw [if_pos h3] at h0
     rw [if_pos h0]
    ·rfl
   ·rfl
  rw [hwm] at hK
  (refine Tr.enter (rs := [.tmp 2]) mixed fn9 rfl (by simp +arith [Tryz.ntmps9]) fun u => ?_; simp only [cd9, Tryz.f9])
  have hX := @pl9.eq_def; repeat' (first | rintro _ _ ⟨rfl, rfl⟩ | (refine G.call 39 ?_; refine S.c ?_ (h := hnx)) | refine S.x ?_ | fail)
  all_goals exact Tr.fin hK ⟨rfl, rfl⟩ S.E
 ·obtain ⟨m, hm, h3, hp⟩ : ∃ m, c.slk = some m ∧ c.mode = 3 ∧ whoM c = pickM c := by
   unfold whoM at h0 ⊢
   split at h0
   ·rename_i m hm
    split at h0
    ·rename_i h3
     exact ⟨m, hm, h3, by rw [if_pos h3]⟩
    ·omega
   ·omega
  rw [hp] at h0 hnx
  have hk := pick_prog hr h0
  obtain ⟨g0, g9⟩ := rel_in hr hk
  have hmp := ix_map (f := TaskG.pt) (xs := gs) (k := pickM c) g0 g9
  have hre : (ix gs (pickM c)).rest = ix c.rest (pickM c) := by rw [← hr.hr, ix_map (f := TaskG.rest) g0 g9]
  obtain ⟨sb, hsb⟩ := slk_some hr hm
  have hsp : slP w.slk = .pointer (some ⟨sb, 0, none⟩) := by rw [hsb]; rfl
  have hsl : slkO w.slk c.slk = slkX sb m := by rw [hsb, hm]; rfl
  have hwm : wantM c = min3 (ix c.rest (pickM c)) (ofM m (pickM c)) m.room := by unfold wantM; rw [hm]; simp only; rw [if_pos h3, if_neg h0]
  rw [hwm] at hK
  simp only [hsl]
  generalize pickM c = k at *
  (refine Tr.enter (rs := [.tmp 2]) mixed fn9 rfl (by simp +arith [Tryz.ntmps9]) fun u => ?_; simp only [cd9, Tryz.f9])
  refine Tr.famAt (xs := gs) k S.K (by omega) (by omega) (taskA_open ?_)
  have hmn : ∀ P ty T K, GenK P (Builtin.min_ #[T, T, T] ty #[.int .i64 (ix c.rest k), .int .i64 (ofM m k), .int .i64 m.room]) K = K (.int .i64 (min3 (ix c.rest k) (ofM m k) m.room)) := fun P ty T K => min_int3
  have hX := And.intro @pl9.eq_def (And.intro hsp (And.intro hmp (And.intro @TaskG.pt.eq_def (And.intro hre hmn)))); repeat' (first | rintro _ _ ⟨rfl, rfl⟩ | (refine G.call 39 ?_; refine S.c ?_ (h := hnx)) | refine S.x ?_ | (refine G.call 40 ?_; first | refine S.c ?_ (h := xof_ok)) | (refine G.call 41 ?_; first | refine S.c ?_ (h := xroom_ok)) | intro hb | fail)
  all_goals
   refine Tr.fin hK ⟨rfl, rfl⟩ ?_
   simp only [hsl, List.cons_append, List.nil_append]
   have hX := And.intro hre @taskA.eq_def
   exact S.E
end
end Go.Proofs.YtacmaamllpiloaaGreat
