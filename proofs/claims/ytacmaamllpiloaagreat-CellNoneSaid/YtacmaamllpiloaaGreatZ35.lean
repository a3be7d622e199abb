import Derived.Test.YtacmaamllpiloaaGreatZ34
namespace Go.Proofs.YtacmaamllpiloaaGreat
open Go Go.Wk
section
variable {t : Tb} {k : Int} {o : One} {win : Int} {r : Rl}
theorem mk_noNew {n : Int} (hl : inR t.d k) (h : waitD o → waitD (t.at k)) : noNew t (Tb.mk (t.d.set k.toNat o) n) := fun j hj => by
  rw [at_set hl] at hj
  by_cases e : j = k
  · rw [if_pos e] at hj; rw [e]; exact h hj
  · rw [if_neg e] at hj; exact hj
theorem step_keeps {k : Nat} (hk : k < r.t.d.length) : noNew r.t (r.step win k).t ∧ moreP r.t (r.step win k).t := by
  have hl : inR r.t.d (k : Int) := ⟨by omega, by omega⟩
  have h1 : noNew r.t (Tb.mk (r.t.d.set (k : Int).toNat { r.t.at k with next := IntKind.i64.wrap (win + (r.t.at k).period) }) r.t.turns) := mk_noNew hl fun h => h
  have h2 : moreP r.t (Tb.mk (r.t.d.set (k : Int).toNat { r.t.at k with next := IntKind.i64.wrap (win + (r.t.at k).period) }) r.t.turns) := moreP_set hl fun h => h
  have hl2 : inR (Tb.mk (r.t.d.set (k : Int).toNat { r.t.at k with next := IntKind.i64.wrap (win + (r.t.at k).period) }) r.t.turns).d (k : Int) := by
    unfold inR at *; simpa using hl
  have ha : (Tb.mk (r.t.d.set (k : Int).toNat { r.t.at k with next := IntKind.i64.wrap (win + (r.t.at k).period) }) r.t.turns).at k = { r.t.at k with next := IntKind.i64.wrap (win + (r.t.at k).period) } := by
    rw [at_set hl, if_pos rfl]
  unfold Rl.step
  simp only
  split
  · exact ⟨noNew_refl, moreP_refl⟩
  · split
    · exact ⟨noNew_trans h1 (put_noNew hl2 (by decide)).1, moreP_trans h2 (moreP_put hl2 fun h => by rw [ha] at h; exact h)⟩
    · exact ⟨h1, h2⟩
theorem relTo_keeps : ∀ n, n ≤ t.d.length → noNew t (t.relTo win n).t ∧ moreP t (t.relTo win n).t
  | 0, _ => ⟨noNew_refl, moreP_refl⟩
  | n + 1, h => by
    obtain ⟨h1, h2⟩ := relTo_keeps n (by omega)
    obtain ⟨h3, h4⟩ := step_keeps (r := t.relTo win n) (win := win) (k := n) (by rw [h2.1]; omega)
    exact ⟨noNew_trans h1 h3, moreP_trans h2 h4⟩
theorem relTo_mis : ∀ n, ∀ x ∈ (t.relTo win n).mis, 0 ≤ x ∧ x < (n : Int)
  | 0, x, h => by simp [Tb.relTo] at h
  | n + 1, x, h => by
    have ih := relTo_mis n x
    simp only [Tb.relTo, Rl.step] at h
    split at h
    · have := ih h; omega
    · split at h
      · have := ih h; omega
      · rcases List.mem_append.1 h with h' | h'
        · have := ih h'; omega
        · have := List.mem_singleton.1 h'; omega
theorem dueTo_in : ∀ n, ∀ x ∈ t.dueTo win n, 0 ≤ x ∧ x < (n : Int)
  | 0, x, h => by simp [Tb.dueTo] at h
  | n + 1, x, h => by
    have ih := dueTo_in n x
    simp only [Tb.dueTo] at h
    rcases List.mem_append.1 h with h' | h'
    · have := ih h'; omega
    · split at h'
      · have := List.mem_singleton.1 h'; omega
      · cases h'
theorem ix_mem {l : List Int} {i : Nat} (h : i < l.length) : ix l (i : Int) ∈ l := List.mem_of_getElem? (ix_some (by omega) (by omega))
end
def relsM (C : CC) (c : CM) : CM :=
  missTo C (relN C { c with tb := (c.tb.relTo c.win c.tb.d.length).t } (c.tb.relTo c.win c.tb.d.length).rel (c.tb.relTo c.win c.tb.d.length).rel.length) (c.tb.relTo c.win c.tb.d.length).mis (c.tb.relTo c.win c.tb.d.length).mis.length
def wakesM (C : CC) (c : CM) : CM := dueM C c (c.tb.dueTo c.win c.tb.d.length) (c.tb.dueTo c.win c.tb.d.length).length
section
variable {C : CC} {c : CM}
theorem begin2_eq : begin2 C c = settleTo C 100 (wakesM C (portsTo C (relsM C c) 8)) := by simp only [begin2, relsM, wakesM]
theorem mis_in (h : okM C c) {i : Nat} (hi : i < (c.tb.relTo c.win c.tb.d.length).mis.length) : inR C.progs (ix (c.tb.relTo c.win c.tb.d.length).mis (i : Int)) := by
  have := relTo_mis (t := c.tb) (win := c.win) _ _ (ix_mem hi)
  unfold inR
  rw [← h.tb]; exact this
theorem due_in (h : okM C c) {i : Nat} (hi : i < (c.tb.dueTo c.win c.tb.d.length).length) : inR C.progs (ix (c.tb.dueTo c.win c.tb.d.length) (i : Int)) := by
  have := dueTo_in (t := c.tb) (win := c.win) _ _ (ix_mem hi)
  unfold inR
  rw [← h.tb]; exact this
theorem rch_rels (hc : okC C) (h : okM C c) : Rch C 16 c (relsM C c) := by
  obtain ⟨h1, h2, h3⟩ := relTo_len c.tb c.win c.tb.d.length
  have h8 := hc.n8
  have htb := h.tb
  unfold relsM
  exact .le (.trans (.trans (.tb c _ (relTo_keeps _ (Nat.le_refl _)).2) (rch_rel _)) (rch_miss _ fun i hi => mis_in h hi)) (by omega)
theorem rch_wakes (hc : okC C) (h : okM C c) : Rch C 8 c (wakesM C c) := by
  have h1 := dueTo_len c.tb c.win c.tb.d.length
  have h8 := hc.n8
  have htb := h.tb
  exact .le (rch_due _) (by omega)
theorem rch_begin2 (hc : okC C) (h : okM C c) : Rch C 444 c (begin2 C c) := by
  have h1 := rch_rels hc h
  have h2 := Rch.trans h1 (rch_ports (C := C) (c := relsM C c) 8)
  have h3 := Rch.trans h2 (rch_wakes hc (h2.ok hc h))
  rw [begin2_eq]
  exact .le (Rch.trans h3 (rch_settle hc 100 _ (h3.ok hc h))) (by omega)
end
end Go.Proofs.YtacmaamllpiloaaGreat
namespace Go.Proofs.YtacmaamllpiloaaGreat
open Go Go.Wk
set_option maxHeartbeats 3200000
set_option maxRecDepth 100000
section
variable {C : CC} {c : CM} {l : List Int}
theorem missTo_few (h : ∀ i : Nat, i < l.length → inR C.progs (ix l (i : Int))) (n : Nat) (hn : n ≤ l.length) {k : Nat} (hf : few c (n + k)) : few (missTo C c l n) k :=
  (rch_miss (l := l) n fun i hi => h i (by omega)).few hf
end
attribute [local irreducible] BrK GenK EGenK EUnitK CallK FnK CallV GuardO GuardC CondW opX opK opKc chkR eqR seqK blkK endL WL WD W LoopW BinK Tr drewK resL PickK NotK NilK ExtrK getK Instr.storeAt Instr.loadAt Instr.fieldAt Instr.indexAt Instr.lookup Instr.mapUpdate Instr.box Instr.alloc Instr.build Instr.buildSlice Instr.makeSlice Instr.makeMap Instr.sliceAt Instr.field Instr.index Instr.makeInterface Instr.typeAssert Builtin.len_ Builtin.append_ Builtin.cap_ Builtin.min_ Builtin.max_ Builtin.copy_ Builtin.clear_ convert binOp mp blk rob sl sep ex fact old
attribute [local irreducible] memX portX objX slkO
section
variable {b : Nat} {C : CC} {c : CM} {w : CW} {gs : List TaskG} {k p : Int}
theorem creleases_ok (hc : okC C) (hr : Rel C c w gs) (hf : few c 16) : Trip Tryz.prog 34 [ptr b].toArray (cellL b C c w gs)
    fun v l' => ∃ w2 gs2, Rel C (relsM C c) w2 gs2 ∧ v = .tuple #[] ∧ l' = cellL b C (relsM C c) w2 gs2 := by
  intro F K hK
  simp only [List.cons_append, List.nil_append] at hK ⊢
  have h8 := hc.n8
  have htb := hr.ok.tb
  have htl : c.tb.d.length ≤ 1000000 := by omega
  obtain ⟨r, hrr⟩ : ∃ r, r = c.tb.relTo c.win c.tb.d.length := ⟨_, rfl⟩
  have hlen := relTo_len c.tb c.win c.tb.d.length
  have hkp := relTo_keeps (t := c.tb) (win := c.win) c.tb.d.length (Nat.le_refl _)
  have hmi := fun i hi => mis_in (i := i) hr.ok hi
  have hrm : relsM C c = missTo C (relN C { c with tb := r.t } r.rel r.rel.length) r.mis r.mis.length := by rw [hrr]; rfl
  rw [← hrr] at hlen hkp hmi
  rw [hrm] at hK
  have hr0 : Rel C { c with tb := r.t } w gs := rel_tb hr hkp.2.1 hkp.1
  obtain ⟨l1, l2, l3⟩ := hlen
  have l2 : r.rel.length ≤ 8 := by omega
  have l3 : r.mis.length ≤ 8 := by omega
  (refine Tr.enter (rs := []) mixed fn34 rfl (by simp +arith [Tryz.ntmps34]) fun u => ?_; simp only [cd34, Tryz.f34])
  have hX := @pl34.eq_def; repeat' (first | refine S.x ?_ | (refine G.call 89 ?_; first | refine S.c ?_ (h := release_ok _ _ _ ?_) | fail) | rintro _ _ ⟨_, _, rfl, rfl⟩ | (refine G.prop ?_; assumption) | fail)
  rename_i s1 s2
  rw [← hrr]
  obtain ⟨c0, hc0⟩ : ∃ c0 : CM, c0 = { c with tb := r.t } := ⟨_, rfl⟩
  refine Tr.imp (l' := sl false s1.v r.rel :: sl false s2.v r.mis :: cellL b C c0 w gs ++ F) ?_ ?_
  · subst hc0
    simp only [List.cons_append, List.nil_append]
    show EntR [] _ _
    exact S.E
  rw [← hc0] at hK hr0
  have hf0 : few c0 16 := by unfold few at *; rw [hc0]; exact hf
  clear hrm hrr hf hr hc0 hkp htb htl
  simp only [List.cons_append, List.nil_append]
  have hX := @pl34.eq_def; repeat' (first | refine S.x ?_ | refine S.y ?_ ?_ | (refine G.call 89 ?_; first | refine S.c ?_ (h := release_ok _ _ _ ?_) | refine S.c ?_ (h := release_ok _ _ _ (by assumption))) | (refine G.call 90 ?_; refine S.c ?_ (h := cnote_ok ?_)) | (refine G.call 91 ?_; refine S.c ?_ (h := cfault_ok (by assumption) (by assumption) (by assumption) (by assumption) (by assumption) (by assumption))) | rintro _ _ ⟨_, rfl, rfl⟩ | rintro _ _ ⟨_, _, rfl, rfl⟩ | rintro _ _ ⟨_, _, hrel, rfl, rfl⟩ | (refine G.prop ?_; assumption) | intro hb | ((fail_if_success refine G.tr ?_); exact G.prop S.p) | fail)
  refine Tr.loopE (α := Nat × CW) [22] [0, 3, 20, 21] (fun x => [.int .i64 x.1]) (fun x => cellL b C (relN C c0 r.rel x.1) x.2 gs) (fun x => x.1 ≤ r.rel.length ∧ Rel C (relN C c0 r.rel x.1) x.2 gs) (fun x => r.rel.length - x.1) (0, w) S.T rfl ⟨Nat.zero_le _, hr0⟩ fun x u hx => ?_
  obtain ⟨i, w1⟩ := x
  obtain ⟨hi, hri⟩ := hx
  simp only at hi hri ⊢
  simp only [List.cons_append, List.nil_append]
  by_cases hin : i < r.rel.length
  · have hw := wrapSucc (k := i) (by omega)
    have hst : noteM C (relN C c0 r.rel i) (ix r.rel (i : Int)) 1 0 0 = relN C c0 r.rel (i + 1) := rfl
    have hfi : few (relN C c0 r.rel i) 1 := (rch_rel (l := r.rel) i).few (by unfold few at *; omega)
    unfold few at hfi
    have hX := And.intro @pl34.eq_def hw; repeat' (first | rintro _ _ ⟨sv, rfl, rfl⟩ | (refine G.call 90 ?_; refine S.c ?_ (h := cnote_ok hfi)) | refine S.x ?_ | intro hb | fail)
    all_goals
      have hrs : Rel C (relN C c0 r.rel (i + 1)) { w1 with ev := sv } gs := rel_note hri
      clear hri
      have hX := And.intro @relN.eq_2 @noteM.eq_def
      exact S.R ((i + 1, { w1 with ev := sv }) : Nat × CW)
  · have hie : i = r.rel.length := by omega
    subst hie
    obtain ⟨c1, hc1⟩ : ∃ c1, c1 = relN C c0 r.rel r.rel.length := ⟨_, rfl⟩
    have hf1 : few c1 8 := by rw [hc1]; exact (rch_rel (l := r.rel) r.rel.length).few (by unfold few at *; omega)
    rw [← hc1] at hK hri ⊢
    clear hc1
    have hX := @pl34.eq_def; repeat' (first | refine S.x ?_ | fail)
    refine Tr.loopE (α := Nat × CW × List TaskG) [32] [0, 30, 31] (fun x => [.int .i64 x.1]) (fun x => cellL b C (missTo C c1 r.mis x.1) x.2.1 x.2.2) (fun x => x.1 ≤ r.mis.length ∧ Rel C (missTo C c1 r.mis x.1) x.2.1 x.2.2) (fun x => r.mis.length - x.1) (0, w1, gs) S.T rfl ⟨Nat.zero_le _, hri⟩ fun y u2 hy => ?_
    obtain ⟨j, w2, g2⟩ := y
    obtain ⟨hj, hrj⟩ := hy
    simp only at hj hrj ⊢
    simp only [List.cons_append, List.nil_append]
    by_cases hjn : j < r.mis.length
    · have hw := wrapSucc (k := j) (by omega)
      have hst : missTo C c1 r.mis (j + 1) = if (missTo C c1 r.mis j).mode = 3 then faultM C (missTo C c1 r.mis j) (ix r.mis (j : Int)) 4 else missTo C c1 r.mis j := rfl
      have hk := hmi j hjn
      have hfj : few (missTo C c1 r.mis j) 1 := missTo_few hmi j (by omega) (by unfold few at *; omega)
      by_cases hm : (missTo C c1 r.mis j).mode = 3
      · rw [if_pos hm] at hst
        have hX := And.intro @pl34.eq_def hw; repeat' (first | rintro _ _ ⟨w3, g3, hr3, rfl, rfl⟩ | (refine G.call 91 ?_; refine S.c ?_ (h := cfault_ok hc hrj hk hfj (by decide) (by decide))) | refine S.x ?_ | intro hb | fail)
        all_goals
          rw [← hst] at hr3
          have hX := hst
          clear hrj
          exact S.R ((j + 1, w3, g3) : Nat × CW × List TaskG)
      · rw [if_neg hm] at hst
        rw [← hst] at hrj
        have hX := And.intro @pl34.eq_def hw; repeat' (first | refine S.x ?_ | intro hb | fail)
        all_goals
          have hX := hst
          clear hst
          exact S.R ((j + 1, w2, g2) : Nat × CW × List TaskG)
    · have hje : j = r.mis.length := by omega
      subst hje
      have hX := @pl34.eq_def; repeat' (first | refine S.x ?_ | fail)
      all_goals exact Tr.fin hK ⟨w2, g2, hrj, rfl, rfl⟩ S.E
theorem cwakes_ok (hc : okC C) (hr : Rel C c w gs) (hf : few c 8) : Trip Tryz.prog 37 [ptr b].toArray (cellL b C c w gs)
    fun v l' => ∃ w2 gs2, Rel C (wakesM C c) w2 gs2 ∧ v = .tuple #[] ∧ l' = cellL b C (wakesM C c) w2 gs2 := by
  intro F K hK
  simp only [List.cons_append, List.nil_append] at hK ⊢
  have h8 := hc.n8
  have htb := hr.ok.tb
  have htl : c.tb.d.length ≤ 1000000 := by omega
  obtain ⟨l, hl⟩ : ∃ l, l = c.tb.dueTo c.win c.tb.d.length := ⟨_, rfl⟩
  have hlen := dueTo_len c.tb c.win c.tb.d.length
  have hdi := fun i hi => due_in (i := i) hr.ok hi
  have hrm : wakesM C c = dueM C c l l.length := by rw [hl]; rfl
  rw [← hl] at hlen hdi
  rw [hrm] at hK
  (refine Tr.enter (rs := []) mixed fn37 rfl (by simp +arith [Tryz.ntmps37]) fun u => ?_; simp only [cd37, Tryz.f37])
  have hX := @pl37.eq_def; repeat' (first | refine S.x ?_ | (refine G.call 97 ?_; first | refine S.c ?_ (h := due_ok _ _ _ ?_) | fail) | rintro _ _ ⟨_, rfl, rfl⟩ | (refine G.prop ?_; assumption) | fail)
  rename_i s1
  rw [← hl]
  have hl8 : l.length ≤ 8 := by omega
  clear hrm hl htb htl hlen
  refine Tr.loopE (α := Nat × CW × List TaskG) [18] [0, 16, 17] (fun x => [.int .i64 x.1]) (fun x => cellL b C (dueM C c l x.1) x.2.1 x.2.2) (fun x => x.1 ≤ l.length ∧ Rel C (dueM C c l x.1) x.2.1 x.2.2) (fun x => l.length - x.1) (0, w, gs) S.T rfl ⟨Nat.zero_le _, hr⟩ fun y u2 hy => ?_
  obtain ⟨j, w2, g2⟩ := y
  obtain ⟨hj, hrj⟩ := hy
  simp only at hj hrj ⊢
  simp only [List.cons_append, List.nil_append]
  by_cases hjn : j < l.length
  · have hw := wrapSucc (k := j) (by omega)
    have hst : dueM C c l (j + 1) = endM C (dueM C c l j) (ix l (j : Int)) ((dueM C c l j).tb.at (ix l (j : Int))).call (if ((dueM C c l j).tb.at (ix l (j : Int))).call = 2 then 0 else 5) 0 := rfl
    have hk := hdi j hjn
    have hfj : few (dueM C c l j) 1 := (rch_due (l := l) j).few (by unfold few at *; omega)
    by_cases hm : ((dueM C c l j).tb.at (ix l (j : Int))).call = 2
    · rw [if_pos hm] at hst
      have hX := And.intro @pl37.eq_def hw; repeat' (first | rintro _ _ ⟨rfl, rfl⟩ | rintro _ _ ⟨w3, g3, hr3, rfl, rfl⟩ | (refine G.call 94 ?_; refine S.c ?_ (h := ccomplete_ok hrj hk hfj)) | refine S.x ?_ | (refine G.call 98 ?_; refine S.c ?_ (h := waits_ok _ _ _)) | intro hb | fail)
      all_goals
        rw [← hst] at hr3
        have hX := hst
        clear hrj
        exact S.R ((j + 1, w3, g3) : Nat × CW × List TaskG)
    · rw [if_neg hm] at hst
      have hX := And.intro @pl37.eq_def hw; repeat' (first | rintro _ _ ⟨rfl, rfl⟩ | rintro _ _ ⟨w3, g3, hr3, rfl, rfl⟩ | (refine G.call 94 ?_; refine S.c ?_ (h := ccomplete_ok hrj hk hfj)) | refine S.x ?_ | (refine G.call 98 ?_; refine S.c ?_ (h := waits_ok _ _ _)) | intro hb | fail)
      all_goals
        rw [← hst] at hr3
        have hX := hst
        clear hrj
        exact S.R ((j + 1, w3, g3) : Nat × CW × List TaskG)
  · have hje : j = l.length := by omega
    subst hje
    have hX := @pl37.eq_def; repeat' (first | refine S.x ?_ | fail)
    all_goals exact Tr.fin hK ⟨w2, g2, hrj, rfl, rfl⟩ S.E
end
end Go.Proofs.YtacmaamllpiloaaGreat
namespace Go.Proofs.YtacmaamllpiloaaGreat
open Go Go.Wk
set_option maxHeartbeats 3200000
set_option maxRecDepth 100000
section
variable {C : CC} {c : CM} {w : CW} {gs : List TaskG} {k kind win : Int} {cold : Bool}
theorem startM_done : (startM C c k win).done = c.done := by unfold startM; simp only; split <;> rfl
theorem stopTo_done : ∀ n, (stopTo c n).done = c.done
  | 0 => rfl
  | n + 1 => stopTo_done n
theorem startTo_done : ∀ n, (startTo C c win n).done = c.done
  | 0 => rfl
  | n + 1 => startM_done.trans (startTo_done n)
theorem fault_done : (faultM C c k kind).done = c.done := by
  unfold faultM
  simp only
  split
  · rfl
  · split
    · exact startM_done
    · split
      · exact (startTo_done _).trans (stopTo_done _)
      · split
        · exact stopTo_done _
        · rfl
def nd (c : CM) : Nat := c.done.countP (fun b => !b)
theorem nd_rest (hk : inR c.done k) (h : ix c.done k = false) : nd (restM c k) + 1 = nd c := by
  have hl : k.toNat < c.done.length := by have := hk.1; have := hk.2; omega
  have h3 : c.done[k.toNat] = false := by
    have e := ix_some (xs := c.done) hk.1 hk.2
    rw [h, List.getElem?_eq_getElem hl] at e
    exact Option.some.inj e
  have h4 : 0 < c.done.countP (fun b => !b) := List.countP_pos_iff.2 ⟨_, List.getElem_mem hl, by rw [h3]; rfl⟩
  show (c.done.set k.toNat true).countP _ + 1 = c.done.countP _
  rw [List.countP_set hl, if_pos (by rw [h3]; rfl), if_neg (by decide)]
  omega
theorem nd_le : nd c ≤ c.done.length := List.countP_le_length
theorem ready_of {d : One} (h : d.ready = true) : d.state = 1 ∧ d.parked = false := by
  unfold One.ready at h
  simp only [Bool.and_eq_true, decide_eq_true_eq, Bool.not_eq_true'] at h
  exact h
theorem pick_prog (h : Rel C c w gs) (h0 : ¬ pickM c < 0) : inR C.progs (pickM c) := tb_prog h (best_in (q := One.ready) (by unfold pickM at h0; omega))
theorem pick_nd (h : Rel C c w gs) (hd : dP c) (h0 : ¬ pickM c < 0) : nd (restM c (pickM c)) + 1 = nd c := by
  have hk := pick_prog h h0
  refine nd_rest (by unfold inR at *; rw [h.ok.done]; exact hk) ?_
  have hs := ready_of (best_sat (t := c.tb) (q := One.ready) (by unfold pickM at h0; omega))
  cases he : ix c.done (pickM c) with
  | false => rfl
  | true =>
    have := hd _ hk.1 he
    unfold pickM at this
    rw [hs.2] at this
    cases this
theorem settle_stop (h : ¬ c.mode = 3 ∨ pickM c < 0 ∨ 0 < ofC c (pickM c)) : ∀ n, settleTo C n c = c
  | 0 => rfl
  | n + 1 => by
    unfold settleTo
    split
    · split
      · rfl
      · split
        · rfl
        · rcases h with h | h | h <;> contradiction
    · rfl
end
attribute [local irreducible] BrK GenK EGenK EUnitK CallK FnK CallV GuardO GuardC CondW opX opK opKc chkR eqR seqK blkK endL WL WD W LoopW BinK Tr drewK resL PickK NotK NilK ExtrK getK Instr.storeAt Instr.loadAt Instr.fieldAt Instr.indexAt Instr.lookup Instr.mapUpdate Instr.box Instr.alloc Instr.build Instr.buildSlice Instr.makeSlice Instr.makeMap Instr.sliceAt Instr.field Instr.index Instr.makeInterface Instr.typeAssert Builtin.len_ Builtin.append_ Builtin.cap_ Builtin.min_ Builtin.max_ Builtin.copy_ Builtin.clear_ convert binOp mp blk rob sl sep ex fact old
attribute [local irreducible] memX portX objX slkX
section
variable {b : Nat} {C : CC} {c : CM} {w : CW} {gs : List TaskG} {k p : Int}
theorem csettle_ok (hc : okC C) (hr : Rel C c w gs) (hf : few c 8) (hd : dP c) (hs : c.slk.isSome = true) : Trip Tryz.prog 38 [ptr b].toArray (cellL b C c w gs)
    fun v l' => ∃ w2 gs2, Rel C (settleTo C 100 c) w2 gs2 ∧ v = .tuple #[] ∧ l' = cellL b C (settleTo C 100 c) w2 gs2 := by
  intro F K hK
  simp only [List.cons_append, List.nil_append] at hK ⊢
  have h8 := hc.n8
  have hcn : nd c ≤ 8 := Nat.le_trans nd_le (by rw [hr.ok.done]; exact h8)
  have hf0 : few c (nd c) := by unfold few at *; omega
  obtain ⟨R, hR⟩ : ∃ R, R = settleTo C 100 c := ⟨_, rfl⟩
  rw [← hR] at hK
  (refine Tr.enter (rs := []) mixed fn38 rfl (by simp +arith [Tryz.ntmps38]) fun u => ?_; simp only [cd38, Tryz.f38])
  have hX := @pl38.eq_def; repeat' (first | refine S.x ?_ | fail)
  refine Tr.loopE (α := CM × Nat × CW × List TaskG) [] [0] (fun x => []) (fun x => cellL b C x.1 x.2.2.1 x.2.2.2) (fun x => settleTo C x.2.1 x.1 = R ∧ nd x.1 < x.2.1 ∧ few x.1 (nd x.1) ∧ Rel C x.1 x.2.2.1 x.2.2.2 ∧ dP x.1 ∧ x.1.slk.isSome = true) (fun x => x.2.1) (c, 100, w, gs) S.T rfl ⟨hR.symm, by simp only; omega, hf0, hr, hd, hs⟩ fun x u hx => ?_
  obtain ⟨c1, n, w1, g1⟩ := x
  obtain ⟨he, hn, hf1, hr1, hd1, hs1⟩ := hx
  simp only at he hn hf1 hr1 hd1 hs1 ⊢
  simp only [List.cons_append, List.nil_append]
  have htb1 := hr1.ok.tb
  have htl : c1.tb.d.length ≤ 1000000 := by omega
  clear hr hf hf0 hR hd hs
  obtain ⟨m1, hm1⟩ := Option.isSome_iff_exists.1 hs1
  obtain ⟨sb, hsb⟩ := slk_some hr1 hm1
  have hsl : slkO w1.slk c1.slk = slkX sb m1 := by rw [hsb, hm1]; rfl
  have hsp : slP w1.slk = .pointer (some ⟨sb, 0, none⟩) := by rw [hsb]; rfl
  have hof : ∀ k, ofC c1 k = ofM m1 k := fun k => by unfold ofC; rw [hm1]
  by_cases hmd : c1.mode = 3
  · by_cases h0 : pickM c1 < 0
    · rw [settle_stop (.inr (.inl h0))] at he
      rw [← he] at hK
      have hX := @pl38.eq_def; repeat' (first | refine S.x ?_ | (refine G.call 99 ?_; refine S.c ?_ (h := pick_ok _ _ ?_)) | rintro _ _ ⟨rfl, rfl⟩ | (refine G.prop ?_; assumption) | fail)
      all_goals exact Tr.fin hK ⟨w1, g1, hr1, rfl, rfl⟩ S.E
    · simp only [hsl]
      by_cases h1 : 0 < ofM m1 (pickM c1)
      · rw [settle_stop (.inr (.inr (by rw [hof]; exact h1)))] at he
        rw [← he] at hK
        have hX := And.intro @pl38.eq_def hsp; repeat' (first | refine S.x ?_ | refine S.y ?_ ?_ | (refine G.call 99 ?_; refine S.c ?_ (h := pick_ok _ _ ?_)) | (refine G.call 40 ?_; first | refine S.c ?_ (h := xof_ok)) | rintro _ _ ⟨rfl, rfl⟩ | (refine G.prop ?_; assumption) | intro hb | fail)
        all_goals
          refine Tr.fin hK ⟨w1, g1, hr1, rfl, rfl⟩ ?_
          simp only [hsl, List.cons_append, List.nil_append]
          exact S.E
      · have hk := pick_prog hr1 h0
        have hnd := pick_nd hr1 hd1 h0
        obtain ⟨n, rfl⟩ : ∃ m, n = m + 1 := ⟨n - 1, by omega⟩
        unfold settleTo at he
        rw [if_pos hmd, if_neg h0, if_neg (by rw [hof]; exact h1)] at he
        generalize hpk : pickM c1 = k at *
        have hf2 : few (restM c1 k) 1 := by unfold few at *; show c1.evs.length + 1 ≤ _; omega
        have hrch : Rch C 1 c1 (faultM C (restM c1 k) k 0) := .le (.trans (.rest c1 k hk) (rch_fault hk)) (by omega)
        obtain ⟨c3, hc3⟩ : ∃ c3 : CM, c3 = faultM C (restM c1 k) k 0 := ⟨_, rfl⟩
        rw [← hc3] at hrch he
        have hd3 := hrch.dP hc hr1.ok hd1
        have hs3 : c3.slk.isSome = true := by rw [hrch.sk]; exact hs1
        have hn3 : nd c3 + 1 = nd c1 := by rw [← hnd, hc3]; unfold nd; rw [fault_done]
        have hf3 : few c3 (nd c3) := hrch.few (by unfold few at *; omega)
        have hco := crest_ok (b := b) hr1 hk hm1
        have hpk' : c1.tb.best One.ready = k := hpk
        have hX := And.intro @pl38.eq_def (And.intro hsp @hpk'); repeat' (first | refine S.x ?_ | (refine G.call 99 ?_; refine S.c ?_ (h := pick_ok _ _ ?_)) | (refine G.call 40 ?_; first | refine S.c ?_ (h := xof_ok)) | rintro _ _ ⟨rfl, rfl⟩ | (refine G.prop ?_; assumption) | fail)
        refine Tr.imp (l' := cellL b C c1 w1 g1 ++ F) ?_ ?_
        · simp only [hsl, List.cons_append, List.nil_append]
          show EntR [] _ _
          exact S.E
        simp only [List.cons_append, List.nil_append]
        clear hsl hsp
        refine S.c ?_ (h := hco)
        rintro _ _ ⟨g2, hr2, rfl, rfl⟩
        have hcf := cfault_ok (b := b) (kind := 0) hc hr2 hk hf2 (by decide) (by decide)
        rw [← hc3] at hcf
        simp only [List.cons_append, List.nil_append]
        have hX := @pl38.eq_def; repeat' (first | rintro _ _ ⟨w3, g3, hr3, rfl, rfl⟩ | (refine G.call 91 ?_; refine S.c ?_ (h := hcf)) | refine S.x ?_ | fail)
        all_goals
          clear hr1 hr2 hcf hco hc3 hrch
          exact S.R ((c3, n, w3, g3) : CM × Nat × CW × List TaskG)
  · rw [settle_stop (.inl hmd)] at he
    rw [← he] at hK
    have hX := @pl38.eq_def; repeat' (first | refine S.x ?_ | fail)
    all_goals exact Tr.fin hK ⟨w1, g1, hr1, rfl, rfl⟩ S.E
end
end Go.Proofs.YtacmaamllpiloaaGreat
