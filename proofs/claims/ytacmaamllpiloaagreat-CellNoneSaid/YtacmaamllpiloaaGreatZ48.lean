import Derived.Test.YtacmaamllpiloaaGreatZ47
import Derived.KernelRfl
import Derived.Test.YtacmaamllpiloaaGreatZ46
namespace Go.Proofs.YtacmaamllpiloaaGreat
open Go Go.Wk
def newL (C : CC) : Int := leftA (newSl C.conf).room (newSl C.conf).ms
section
variable {C : CC} {c : CM} {k p : Int} {b : List UInt8} {ps : List AP}
theorem newS_open {xs : List ProcC} {k : Int} : (ix (xs.map newS) k).2 = false := by
  rcases ix_cases (xs.map newS) k with h | h
  · obtain ⟨x, _, e⟩ := List.mem_map.1 h
    rw [← e]; rfl
  · rw [h]; rfl
theorem okSl_conf (hc : okC C) : okSl (newSl C.conf) := okSl_new hc.cap hc.cost (by rw [hc.np]; have := hc.n8; omega)
theorem win_inv (hc : okC C) (hi : Inv C c) : Inv C (winM C c) := ⟨okM_win hi.ok, dP_win, hi.p, okS_win hc, fun m hm => by
  have : some (newSl C.conf) = some m := hm
  cases this
  exact okSl_conf hc, fun m hm k _ hd => by
  have : some (newSl C.conf) = some m := hm
  cases this
  rw [show (ix (newSl C.conf).ms k).2 = false from newS_open] at hd
  cases hd⟩
theorem begin_rch (hc : okC C) (hi : Inv C c) : Rch C 444 (winM C c) (beginM C c) := by
  unfold beginM
  split
  · exact rch_begin2 hc (win_inv hc hi).ok
  · exact .le (.refl _) (by omega)
theorem begin_inv (hc : okC C) (hi : Inv C c) (h1 : okR1 c) : Inv C (beginM C c) ∧ okR1 (beginM C c) ∧ (beginM C c).evs.length ≤ c.evs.length + 444 ∧ roomM (beginM C c) = (newSl C.conf).room ∧ leftM (beginM C c) ≤ newL C := by
  have hr := begin_rch hc hi
  have hw := win_inv hc hi
  refine ⟨hr.inv hc hw, hr.r1 (show okR1 (winM C c) from h1), hr.ev, hr.room, ?_⟩
  refine Int.le_trans (left_lef (hr.inv hc hw).sl).2.1 (Int.le_trans (hr.lef hc hw.ok hw.S hw.sl) (Int.le_of_eq ?_))
  show (if (newSl C.conf).room < sumN (newSl C.conf).ms then (newSl C.conf).room else sumN (newSl C.conf).ms) = newL C
  exact (left_sum (okSl_conf hc)).symm
theorem base_inv (hc : okC C) : Inv C (baseM C) := by
  have hn : ∀ m : SlM, (baseM C).slk = some m → False := fun m hm => by cases (show (none : Option SlM) = some m from hm)
  refine ⟨okM_base hc, fun k h0 hk => ?_, ?_, fun m hm => (hn m hm).elim, fun m hm => (hn m hm).elim, fun m hm => (hn m hm).elim⟩
  · have h1 : ix (List.replicate C.progs.length false) k = true := hk
    have h2 : ix (List.replicate C.progs.length false) k = false := by
      unfold ix
      rw [List.getD_eq_getElem?_getD, List.getElem?_replicate]
      split <;> rfl
    rw [h1] at h2
    cases h2
  · show (newA C.conf.ports.d).map AP.c = _
    unfold newA
    rw [List.map_map]
    exact List.map_id _
theorem start_rest {win : Int} : (startM C c k win).rest = (toM C c k 0).rest := by
  unfold startM
  simp only
  split <;> rfl
theorem starts_rest (n : Nat) (hn : n ≤ c.rest.length) {win : Int} : (startTo C c win n).rest.length = c.rest.length ∧ ∀ j : Nat, j < n → 1 ≤ ix (startTo C c win n).rest (j : Int) ∧ ix (startTo C c win n).rest (j : Int) ≤ 1073741824 := by
  induction n with
  | zero => exact ⟨rfl, fun j hj => absurd hj (Nat.not_lt_zero _)⟩
  | succ n ih =>
    obtain ⟨h1, h2⟩ := ih (by omega)
    have e : (startTo C c win (n + 1)).rest = (startTo C c win n).rest.set (n : Int).toNat (clampC (ix (ix C.progs (n : Int)) (atM (ix C.progs (n : Int)) 0)).cycles) := by
      show (startM C (startTo C c win n) (n : Int) win).rest = _
      rw [start_rest]
      rfl
    rw [e]
    refine ⟨by rw [List.length_set]; exact h1, fun j hj => ?_⟩
    have hr : inR (startTo C c win n).rest (n : Int) := ⟨by omega, by omega⟩
    rw [ix_setR hr (by omega)]
    split
    · exact clampC_in
    · exact h2 j (by omega)
theorem new_inv (hc : okC C) : Inv C (newM C) ∧ okR1 (newM C) ∧ (newM C).evs = [] := by
  have hr : Rch C 0 (baseM C) (newM C) := rch_startTo _ (Nat.le_refl _)
  have hl : (baseM C).rest.length = C.progs.length := List.length_replicate
  obtain ⟨h1, h2⟩ := starts_rest (C := C) (c := baseM C) (win := 0) C.progs.length (by omega)
  refine ⟨hr.inv hc (base_inv hc), fun x hx => ?_, ?_⟩
  · obtain ⟨j, hj, e⟩ := List.mem_iff_getElem.1 hx
    have h3 := h2 j (by rw [← hl, ← h1]; exact hj)
    have h4 : ix (newM C).rest (j : Int) = x := by
      unfold ix
      rw [Int.toNat_natCast, List.getD_eq_getElem?_getD, List.getElem?_eq_getElem hj, e]
      rfl
    rw [← h4]; exact h3
  · have := hr.ev
    exact List.length_eq_zero_iff.1 (Nat.le_zero.1 this)
end
end Go.Proofs.YtacmaamllpiloaaGreat
namespace Go.Proofs.YtacmaamllpiloaaGreat
open Go Go.Wk
def nilV : SV := ⟨none, 0, 0⟩
def confW (s2 s7 : SV) : PartD := ⟨⟨nilV, []⟩, ⟨s2, [⟨0, 0, 5⟩]⟩, ⟨nilV, []⟩, ⟨nilV, []⟩, 0, ⟨nilV, []⟩, ⟨nilV, []⟩, 20, 0, 0, ⟨s7, [0, 0, 0, 0, 0]⟩⟩
def workC (s2 s7 : SV) : CC := ⟨confW s2 s7, 3, [[⟨4, 8, 0, 0, 0, 0⟩]]⟩
def workB (s2 s7 : SV) : CM := beginM (workC s2 s7) (newM (workC s2 s7))
def workD (s2 s7 : SV) : CM := ranA (workC s2 s7) (workB s2 s7) 9
def workE (s2 s7 : SV) : CM := ranA (workC s2 s7) (workD s2 s7) 9
section
variable {s2 s7 : SV}
theorem work_c : okC (workC s2 s7) := by
  refine ⟨by show 1 ≤ 1; decide, by show 1 ≤ 8; decide, rfl, fun p hp => ?_, by show (20 : Int) ≤ 1000000000000; decide, fun x hx => ?_, fun x hx => (by cases hx), fun x hx => (by cases hx), fun x hx => (by cases hx), fun x hx => (by cases hx), fun x hx => (by cases hx), fun x hx => (by cases hx)⟩
  · have e : p = [⟨4, 8, 0, 0, 0, 0⟩] := List.mem_singleton.1 hp
    subst e
    refine ⟨by simp, by show 1 ≤ 1000000; decide, fun s hs => ?_⟩
    have e : s = ⟨4, 8, 0, 0, 0, 0⟩ := List.mem_singleton.1 hs
    subst e
    exact ⟨by decide, by decide, by decide, by decide⟩
  · have e : x = ⟨0, 0, 5⟩ := List.mem_singleton.1 hx
    subst e
    decide
theorem work_p {t : SV} : (workC s2 s7).progs = progsM [⟨t, [⟨4, 8, 0, 0, 0, 0⟩]⟩] (workC s2 s7).progs.length := rfl
theorem work_1 : wantM (workB s2 s7) = 4 := by kernel_rfl
theorem work_2 : ranR (workB s2 s7) 9 = 4 := by kernel_rfl
theorem work_3 : ranR (workD s2 s7) 9 = 1 := by kernel_rfl
theorem work_4 : wantM (workE s2 s7) = 0 := by kernel_rfl
theorem work_5 : (workE s2 s7).evs = [⟨3, 0, 0, 8, 0, 0⟩, ⟨3, 0, 0, -1, 0, 0⟩] := by kernel_rfl
end
end Go.Proofs.YtacmaamllpiloaaGreat
namespace Go.Proofs.YtacmaamllpiloaaGreat
open Go Go.Wk
set_option maxHeartbeats 3200000
set_option maxRecDepth 100000
instance elt_prcs : ElT 24 ProcC := ⟨⟩
instance dea_prcs {l : List Asrt} {a b c : Int} : De l (.agg [.int .i64 a, .int .i64 b, .int .i64 c].toArray) (ProcC.mk a b c) := ⟨rfl⟩
instance (priority := 900) hasf_wstep {l : List Asrt} : HasF l [StepC.mk 4 8 0 0 0 0] := hasf_mk fun w R U _ _ _ y hy => by
  rw [List.mem_singleton.1 hy]
  exact sepI ⟨by decide, by decide⟩ (sepI ⟨by decide, by decide⟩ (sepI ⟨by decide, by decide⟩ (sepI ⟨by decide, by decide⟩ (sepI ⟨by decide, by decide⟩ (sepI ⟨by decide, by decide⟩ trivial)))))
attribute [local irreducible] BrK GenK EGenK EUnitK CallK FnK CallV GuardO GuardC CondW opX opK opKc chkR eqR seqK blkK endL WL WD W LoopW BinK Tr drewK resL PickK NotK NilK ExtrK getK Instr.storeAt Instr.loadAt Instr.fieldAt Instr.indexAt Instr.lookup Instr.mapUpdate Instr.box Instr.alloc Instr.build Instr.buildSlice Instr.makeSlice Instr.makeMap Instr.sliceAt Instr.field Instr.index Instr.makeInterface Instr.typeAssert Builtin.len_ Builtin.append_ Builtin.cap_ Builtin.min_ Builtin.max_ Builtin.copy_ Builtin.clear_ convert binOp mp blk rob sl sep ex fact old
attribute [local irreducible] memX portX objX slkO taskA workB workD workE newM
section
theorem plain24_ok : Trip Tryz.prog 48 [].toArray []
    fun v l' => ∃ s2 s7 : SV, v = .agg [.slice none 0 0, s2.v, .slice none 0 0, .slice none 0 0, .int .i64 0, .slice none 0 0, .slice none 0 0, .int .i64 20, .int .i64 0, .int .i64 0, s7.v].toArray ∧ l' = [sl true s2.v [ProcC.mk 0 0 5], sl true s7.v [(0 : Int), 0, 0, 0, 0]] := by
  intro F K hK
  simp only [List.nil_append] at hK ⊢
  (refine Tr.enter (rs := [.cell 0 30]) mixed fn48 rfl (by simp +arith [Tryz.ntmps48]) fun u => ?_; simp only [cd48, Tryz.f48])
  have hX := @pl48.eq_def; repeat' (first | intro (sv : SV) | refine S.x ?_ | intro hb | fail)
  all_goals
    rename_i sa
    refine Tr.freezeAt (v := sa.v) (xs := [ProcC.mk 0 0 5]) S.K ?_
    refine Tr.freezeAt (v := sv.v) (xs := [(0 : Int), 0, 0, 0, 0]) S.K ?_
    exact Tr.fin hK ⟨sa, sv, rfl, rfl⟩ S.E
theorem same24e_ok {a b : SV} {xs ys : List EvC} (he : xs = ys) (hl : xs.length ≤ 1000000000) : Trip Tryz.prog 25 [a.v, b.v].toArray [sl false a.v xs, sl false b.v ys]
    fun v l' => v = .bool true ∧ l' = [sl false a.v xs, sl false b.v ys] := by
  subst he
  exact same24_ok hl
theorem wnew_ok {s2 s7 s9 t : SV} : Trip Tryz.prog 19 [.agg [.slice none 0 0, s2.v, .slice none 0 0, .slice none 0 0, .int .i64 0, .slice none 0 0, .slice none 0 0, .int .i64 20, .int .i64 0, .int .i64 0, s7.v].toArray, .int .i64 3, s9.v].toArray
    [sl true (.slice none 0 0) ([] : List RegC), sl true s2.v [ProcC.mk 0 0 5], sl true (.slice none 0 0) ([] : List PortC), sl true (.slice none 0 0) ([] : List SemC), sl true (.slice none 0 0) ([] : List PoolC), sl true (.slice none 0 0) ([] : List Int), sl true s7.v [(0 : Int), 0, 0, 0, 0], sl true s9.v [SL.mk t [StepC.mk 4 8 0 0 0 0]], fzl [SL.mk t [StepC.mk 4 8 0 0 0 0]]]
    fun v l' => ∃ b w gs, Rel (workC s2 s7) (newM (workC s2 s7)) w gs ∧ v = ptr b ∧ l' = cellL b (workC s2 s7) (newM (workC s2 s7)) w gs :=
  cnew_ok (C := workC s2 s7) (hu := ⟨rfl⟩) work_c work_p
theorem work_all (s2 s7 : SV) : ∃ C cN cB cD cE, C = workC s2 s7 ∧ cN = newM (workC s2 s7) ∧ okC C ∧ few cN 500 ∧ beginM C cN = cB ∧ few cB 40 ∧ dP cB ∧ okP C cB ∧ okRs cB ∧ ranA C cB 9 = cD ∧ few cD 40 ∧ dP cD ∧ okP C cD ∧ okRs cD ∧ ranA C cD 9 = cE ∧
    wantM cB = 4 ∧ ranR cB 9 = 4 ∧ ranR cD 9 = 1 ∧ wantM cE = 0 ∧ cE.evs = [⟨3, 0, 0, 8, 0, 0⟩, ⟨3, 0, 0, -1, 0, 0⟩] := by
  have hc : okC (workC s2 s7) := work_c
  obtain ⟨i1, i2, i3⟩ := new_inv hc
  obtain ⟨b1, b2, b3, _, _⟩ := begin_inv hc i1 i2
  obtain ⟨_, _, _, _, _, d1, d2, d3⟩ := ranA_cyc hc b1 b2 (cyc := 9)
  rw [i3] at b3
  have b4 : (beginM (workC s2 s7) (newM (workC s2 s7))).evs.length ≤ 444 := by simpa using b3
  exact ⟨_, _, workB s2 s7, workD s2 s7, workE s2 s7, rfl, rfl, hc, by unfold few; rw [i3]; decide, by rw [workB.eq_def], by rw [workB.eq_def]; unfold few; omega, by rw [workB.eq_def]; exact b1.dp, by rw [workB.eq_def]; exact b1.p, by rw [workB.eq_def]; exact b2.le,
    by rw [workD.eq_def], by rw [workD.eq_def, workB.eq_def]; unfold few; omega, by rw [workD.eq_def, workB.eq_def]; exact d1.dp, by rw [workD.eq_def, workB.eq_def]; exact d1.p, by rw [workD.eq_def, workB.eq_def]; exact d2.le, by rw [workE.eq_def], work_1, work_2, work_3, work_4, work_5⟩
theorem works24_ok : Trip Tryz.prog 17 [].toArray []
    fun v l' => v = .bool true ∧ l' = [] := by
  intro F K hK
  simp only [List.nil_append] at hK ⊢
  (refine Tr.enter (rs := [.tmp 0]) mixed fn17 rfl (by simp +arith [Tryz.ntmps17]) fun u => ?_; simp only [cd17, Tryz.f17])
  have hX := @pl17.eq_def; repeat' (first | rintro _ _ ⟨s2, s7, rfl, rfl⟩ | (refine G.call 48 ?_; refine S.c ?_ (h := plain24_ok)) | intro (sv : SV) | refine S.x ?_ | fail)
  refine Tr.freezeAt (v := sv.v) (xs := [StepC.mk 4 8 0 0 0 0]) S.K ?_
  have hX := @pl17.eq_def; repeat' (first | intro (s9 : SV) | refine S.x ?_ | fail)
  refine Tr.freezeAt (v := s9.v) (xs := [SL.mk sv [StepC.mk 4 8 0 0 0 0]]) S.K ?_
  refine Tr.nilSl (α := RegC) (Tr.freezeSl ?_)
  refine Tr.nilSl (α := PortC) (Tr.freezeSl ?_)
  refine Tr.nilSl (α := SemC) (Tr.freezeSl ?_)
  refine Tr.nilSl (α := PoolC) (Tr.freezeSl ?_)
  refine Tr.nilSl (α := Int) (Tr.freezeSl ?_)
  have hn := wnew_ok (s2 := s2) (s7 := s7) (s9 := s9) (t := sv)
  obtain ⟨C, cN, cB, cD, cE, hC, hN, hc, f1, e1, f2, p1, p2, p3, e2, f3, p4, p5, p6, e3, v1, v2, v3, v4, v5⟩ := work_all s2 s7
  rw [← hN, ← hC] at hn
  have hb := fun b w gs (h : Rel C cN w gs) => cbegin_ok (b := b) hc h f1
  rw [e1] at hb
  have hw := fun b w gs (h : Rel C cB w gs) => cwant_ok (b := b) hc h
  rw [v1] at hw
  have hr1 := fun b w gs (h : Rel C cB w gs) => cran_ok (b := b) (cyc := 9) hc h f2 p1 p2 p3
  rw [e2, v2] at hr1
  have hr2 := fun b w gs (h : Rel C cD w gs) => cran_ok (b := b) (cyc := 9) hc h f3 p4 p5 p6
  rw [e3, v3] at hr2
  have hw2 := fun b w gs (h : Rel C cE w gs) => cwant_ok (b := b) hc h
  rw [v4] at hw2
  have hle : cE.evs.length ≤ 1000000000 := by rw [v5]; decide
  have hsm := fun a b => same24e_ok (a := a) (b := b) v5 hle
  clear hC hN f1 e1 f2 p1 p2 p3 e2 f3 p4 p5 p6 e3 v1 v2 v3 v4
  have hX := @pl17.eq_def; repeat' (first | rintro _ _ ⟨rfl, rfl⟩ | rintro _ _ ⟨_, rfl, rfl⟩ | rintro _ _ ⟨w3, gs3, hr3, rfl, rfl⟩ | rintro _ _ ⟨b, w, gs, hr, rfl, rfl⟩ | (refine G.call 19 ?_; refine S.c ?_ (h := hn)) | (refine G.call 8 ?_; refine S.c ?_ (h := hb _ _ _ hr)) | (refine G.call 11 ?_; refine S.c ?_ (h := hr1 _ _ _ hr3); rintro _ _ ⟨w4, gs4, hr4, rfl, rfl⟩) | (refine G.call 11 ?_; refine S.c ?_ (h := hr2 _ _ _ hr4); rintro _ _ ⟨w5, gs5, hr5, rfl, rfl⟩) | (refine G.call 9 ?_; refine S.c ?_ (h := hw _ _ _ hr3)) | (refine G.call 9 ?_; refine S.c ?_ (h := hw2 _ _ _ hr5)) | (refine G.call 25 ?_; refine S.c ?_ (h := hsm _ _)) | refine S.x ?_ | (refine G.call 12 ?_; refine S.c ?_ (h := cevents_ok (by assumption))) | (refine G.call 13 ?_; refine S.c ?_ (h := cports_ok)) | (refine G.call 14 ?_; refine S.c ?_ (h := cmems_ok)) | intro hb | fail)
  all_goals exact Tr.fin hK ⟨rfl, rfl⟩ S.E
end
end Go.Proofs.YtacmaamllpiloaaGreat
