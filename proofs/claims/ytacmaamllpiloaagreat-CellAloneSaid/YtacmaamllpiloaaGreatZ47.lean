import Derived.Test.YtacmaamllpiloaaGreatZ46
namespace Go.Proofs.YtacmaamllpiloaaGreat
open Go Go.Wk
set_option maxHeartbeats 3200000
set_option maxRecDepth 100000
instance elt_prcs : ElT 24 ProcC := ⟨⟩
instance dea_prcs {l : List Asrt} {a b c : Int} : De l (.agg [.int .i64 a, .int .i64 b, .int .i64 c].toArray) (ProcC.mk a b c) := ⟨rfl⟩
instance (priority := 900) hasf_wstep {l : List Asrt} : HasF l [StepC.mk 4 8 0 0 0 0] := hasf_mk fun w R U _ _ _ y hy => by
 rw [List.mem_singleton.1 hy]
 exact sepI ⟨by decide, by decide⟩ (sepI ⟨by decide, by decide⟩ (sepI ⟨by decide, by decide⟩ (sepI ⟨by decide, by decide⟩ (sepI ⟨by decide, by decide⟩ (sepI ⟨by decide, by decide⟩ trivial)))))
attribute [local irreducible] BrK GenK EGenK EUnitK CallK FnK CallV GuardO GuardC CondW opX opK opKc chkR eqR seqK blkK endL WL WD W LoopW BinK Tr drewK resL PickK NotK NilK ExtrK getK Instr.storeAt Instr.loadAt Instr.fieldAt Instr.indexAt Instr.lookup Instr.mapUpdate Instr.box Instr.alloc Instr.build Instr.buildSlice Instr.makeSlice Instr.makeMap Instr.sliceAt Instr.field Instr.index Instr.makeInterface Instr.typeAssert Builtin.len_ Builtin.append_ Builtin.cap_ Builtin.min_ Builtin.max_ Builtin.copy_ Builtin.clear_ convert binOp mp blk rob sl sep ex fact old
attribute [local irreducible] memX portX objX slkO taskA rmemX rportX robjX rslkO refA workB workD workE newM
section
theorem plain24_ok : Trip Tryz.prog 48 [].toArray []
  fun v l' => ∃ s2 s7 : SV, v = .agg [.slice none 0 0, s2.v, .slice none 0 0, .slice none 0 0, .int .i64 0, .slice none 0 0, .slice none 0 0, .int .i64 20, .int .i64 0, .int .i64 0, s7.v].toArray ∧ l' = [sl true s2.v [ProcC.mk 0 0 5], sl true s7.v [(0 : Int), 0, 0, 0, 0]] := by
 intro F K hK
 simp only [List.nil_append] at hK ⊢
 (refine Tr.enter (rs := [.cell 0 30]) mixed fn48 rfl (by simp +arith [Tryz.ntmps48]) fun u => ?_; simp only [cd48, Tryz.f48])
 have hX := @pl48.eq_def; repeat' (first | intro (sv : SV) | refine S.x ?_ | intro hb | fail)
 all_goals
  rename_i sa
  refine Tr.freezeAt (v := sa.v) (xs := [ProcC.mk 0 0 5]) S.K ?_
  refine Tr.freezeAt (v := sv.v) (xs := [(0 : Int), 0, 0, 0, 0]) S.K ?_
  exact Tr.fin hK ⟨sa, sv, rfl, rfl⟩ S.E
theorem may_ok {l : LifeD} : Trip Tryz.prog 18 [.agg (En.enc l).toArray].toArray (lifeL l)
  fun v l' => ∃ b : Bool, (b = true → okLife l) ∧ v = .bool b ∧ l' = [] := by
 intro F K hK
 simp only [List.cons_append, List.nil_append] at hK ⊢
 obtain ⟨conf, progs, wins⟩ := l
 simp only at hK ⊢
 have hpc := part10_ok (u0 := .agg (En.enc conf).toArray) (c := conf) (hd := ⟨rfl⟩)
 (refine Tr.enter (rs := [.tmp 2]) mixed fn18 rfl (by simp +arith [Tryz.ntmps18]) fun u => ?_; simp only [cd18, Tryz.f18])
 have hX := @pl18.eq_def; repeat' (first | rintro _ _ ⟨np, hpart, rfl, rfl⟩ | (refine G.call 49 ?_; refine S.c ?_ (h := hpc)) | refine S.x ?_ | refine S.y ?_ ?_ | (refine G.call 50 ?_; refine S.c ?_ (h := short24_ok)) | intro hb | fail)
 all_goals try exact Tr.fin hK ⟨false, (fun h => by cases h), rfl, rfl⟩ S.E
 rename_i hp1 hz hcap hcap2
 have hP := hp1 hz
 have hS := hpart hb
 clear hp1 hz hcap2 hpart hb hpc
 refine Tr.loopE (α := Nat) [2, 3] [1] (fun k => [.bool false, .int .i64 k]) (fun _ => []) (fun k => k ≤ wins.d.length ∧ k ≤ 12 ∧ ∀ j : Nat, j < k → (ix wins.d (j : Int)).msgs.d.length ≤ 20 ∧ ∀ x ∈ (ix wins.d (j : Int)).msgs.d, x.d.length ≤ 64) (fun k => 12 - k) 0 S.T rfl ⟨Nat.zero_le _, Nat.zero_le _, fun j hj => absurd hj (Nat.not_lt_zero _)⟩ fun k u hk => ?_
 obtain ⟨hk, hk2, hall⟩ := hk
 simp only [List.nil_append]
 by_cases hin : k < wins.d.length ∧ k < 12
 ·obtain ⟨hin, hin2⟩ := hin
  have hw := wrapSucc (k := k) (by omega)
  by_cases h20 : (ix wins.d (k : Int)).msgs.d.length ≤ 20
  ·have hX := And.intro @pl18.eq_def hw; repeat' (first | refine S.x ?_ | intro hb | fail)
   refine Tr.loopE (α := Nat) [2, 4] [1, 3] (fun k => [.bool false, .int .i64 k]) (fun _ => []) (fun j => j ≤ (ix wins.d (k : Int)).msgs.d.length ∧ ∀ i : Nat, i < j → (ix (ix wins.d (k : Int)).msgs.d (i : Int)).d.length ≤ 64) (fun j => (ix wins.d (k : Int)).msgs.d.length - j) 0 S.T rfl ⟨Nat.zero_le _, fun j hj => absurd hj (Nat.not_lt_zero _)⟩ fun j u2 hj => ?_
   obtain ⟨hj, hal2⟩ := hj
   simp only [List.nil_append]
   by_cases hjn : j < (ix wins.d (k : Int)).msgs.d.length
   ·have hw2 := wrapSucc (k := j) (by omega)
    by_cases h64 : (ix (ix wins.d (k : Int)).msgs.d (j : Int)).d.length ≤ 64
    ·have hal3 := all_succ (p := fun j : Nat => (ix (ix wins.d (k : Int)).msgs.d (j : Int)).d.length ≤ 64) hal2 h64
     have hX := And.intro @pl18.eq_def hw2; repeat' (first | refine S.x ?_ | intro hb | fail)
     all_goals exact S.R (j + 1)
    ·have hX := And.intro @pl18.eq_def hw2; repeat' (first | refine S.x ?_ | intro hb | fail)
     all_goals exact Tr.fin hK ⟨false, (fun h => by cases h), rfl, rfl⟩ S.E
   ·have hal3 := all_of (p := fun x : SL UInt8 => x.d.length ≤ 64) (by omega) hal2
    have hal4 := all_succ (p := fun j : Nat => (ix wins.d (j : Int)).msgs.d.length ≤ 20 ∧ ∀ x ∈ (ix wins.d (j : Int)).msgs.d, x.d.length ≤ 64) hall ⟨h20, hal3⟩
    have hX := And.intro @pl18.eq_def hw; repeat' (first | refine S.x ?_ | intro hb | fail)
    all_goals exact S.R (k + 1)
  ·have hX := And.intro @pl18.eq_def hw; repeat' (first | refine S.x ?_ | intro hb | fail)
   all_goals exact Tr.fin hK ⟨false, (fun h => by cases h), rfl, rfl⟩ S.E
 ·have hok : okLife ⟨conf, progs, wins⟩ := ⟨hP, hcap, hS, fun j h1 h2 => hall j (by simp only at h1; omega)⟩
  by_cases hkl : k < wins.d.length
  ·have hk12 : k = 12 := by omega
   subst hk12
   have hX := @pl18.eq_def; repeat' (first | refine S.x ?_ | fail)
   all_goals exact Tr.fin hK ⟨true, (fun _ => hok), rfl, rfl⟩ S.E
  ·have hX := @pl18.eq_def; repeat' (first | refine S.x ?_ | fail)
   all_goals exact Tr.fin hK ⟨true, (fun _ => hok), rfl, rfl⟩ S.E
theorem same24e_ok {a b : SV} {xs ys : List EvC} (he : xs = ys) (hl : xs.length ≤ 1000000000) : Trip Tryz.prog 25 [a.v, b.v].toArray [sl false a.v xs, sl false b.v ys]
  fun v l' => v = .bool true ∧ l' = [sl false a.v xs, sl false b.v ys] := by
 subst he
 exact same24_ok hl
theorem wnew_ok {s2 s7 s9 t : SV} : Trip Tryz.prog 19 [.agg [.slice none 0 0, s2.v, .slice none 0 0, .slice none 0 0, .int .i64 0, .slice none 0 0, .slice none 0 0, .int .i64 20, .int .i64 0, .int .i64 0, s7.v].toArray, .int .i64 3, s9.v].toArray
  [sl true (.slice none 0 0) ([] : List RegC), sl true s2.v [ProcC.mk 0 0 5], sl true (.slice none 0 0) ([] : List PortC), sl true (.slice none 0 0) ([] : List SemC), sl true (.slice none 0 0) ([] : List PoolC), sl true (.slice none 0 0) ([] : List Int), sl true s7.v [(0 : Int), 0, 0, 0, 0], sl true s9.v [SL.mk t [StepC.mk 4 8 0 0 0 0]], fzl [SL.mk t [StepC.mk 4 8 0 0 0 0]]]
  fun v l' => ∃ b w gs, Rel (workC s2 s7) (newM (workC s2 s7)) w gs ∧ v = ptr b ∧ l' = cellL b (workC s2 s7) (newM (workC s2 s7)) w gs :=
 cnew_ok (C := workC s2 s7) (hu := ⟨rfl⟩) work_c work_p
theorem work_all (s2 s7 : SV) : ∃ C cN cB cD cE, C = workC s2 s7 ∧ cN = newM (workC s2 s7) ∧ okC C ∧ few cN 500 ∧ beginM C cN = cB ∧ few cB 40 ∧ dP cB ∧ okP C cB ∧ okRs cB ∧ ranA C cB 9 = cD ∧ few cD 40 ∧ dP cD ∧ okP C cD ∧ okRs cD ∧ ranA C cD 9 = cE ∧
  wantM cB = 4 ∧ ranR cB 9 = 4 ∧ ranR cD 9 = 1 ∧ wantM cE = 0 ∧ cE.evs = [⟨3, 0, 0, 8, 0, 0⟩, ⟨3, 0, 0, -1, 0, 0⟩] := by
 have hc : okC (workC s2 s7) := work_c
 obtain ⟨i1, i2, i3⟩ := new_inv hc
 obtain ⟨b1, b2, b3, _, _⟩ := begin_inv hc i1 i2
 obtain ⟨_, _, _, _, _, d1, d2, d3⟩ := ranA_cyc hc b1 b2 (cyc := 9)
 rw [i3] at b3
 have b4 : (beginM (workC s2 s7) (newM (workC s2 s7))).evs.length ≤ 444 := by simpa using b3
 exact ⟨_, _, workB s2 s7, workD s2 s7, workE s2 s7, rfl, rfl, hc, by unfold few; rw [i3]; decide, by rw [workB.eq_def], by rw [workB.eq_def]; unfold few; omega, by rw [workB.eq_def]; exact b1.dp, by rw [workB.eq_def]; exact b1.p, by rw [workB.eq_def]; exact b2.le,
  by rw [workD.eq_def], by rw [workD.eq_def, workB.eq_def]; unfold few; omega, by rw [workD.eq_def, workB.eq_def]; exact d1.dp, by rw [workD.eq_def, workB.eq_def]; exact d1.p, by rw [workD.eq_def, workB.eq_def]; exact d2.le, by rw [workE.eq_def], work_1, work_2, work_3, work_4, work_5⟩
theorem works24_ok : Trip Tryz.prog 17 [].toArray []
  fun v l' => v = .bool true ∧ l' = [] := by
 intro F K hK
 simp only [List.nil_append] at hK ⊢
 (refine Tr.enter (rs := [.tmp 0]) mixed fn17 rfl (by simp +arith [Tryz.ntmps17]) fun u => ?_; simp only [cd17, Tryz.f17])
 have hX := @pl17.eq_def; repeat' (first | rintro _ _ ⟨s2, s7, rfl, rfl⟩ | (refine G.call 48 ?_; refine S.c ?_ (h := plain24_ok)) | intro (sv : SV) | refine S.x ?_ | fail)
 refine Tr.freezeAt (v := sv.v) (xs := [StepC.mk 4 8 0 0 0 0]) S.K ?_
 have hX := @pl17.eq_def; repeat' (first | intro (s9 : SV) | refine S.x ?_ | fail)
 refine Tr.freezeAt (v := s9.v) (xs := [SL.mk sv [StepC.mk 4 8 0 0 0 0]]) S.K ?_
 refine Tr.nilSl (α := RegC) (Tr.freezeSl ?_)
 refine Tr.nilSl (α := PortC) (Tr.freezeSl ?_)
 refine Tr.nilSl (α := SemC) (Tr.freezeSl ?_)
 refine Tr.nilSl (α := PoolC) (Tr.freezeSl ?_)
 refine Tr.nilSl (α := Int) (Tr.freezeSl ?_)
 have hn := wnew_ok (s2 := s2) (s7 := s7) (s9 := s9) (t := sv)
 obtain ⟨C, cN, cB, cD, cE, hC, hN, hc, f1, e1, f2, p1, p2, p3, e2, f3, p4, p5, p6, e3, v1, v2, v3, v4, v5⟩ := work_all s2 s7
 rw [← hN, ← hC] at hn
 have hb := fun b w gs (h : Rel C cN w gs) => cbegin_ok (b := b) hc h f1
 rw [e1] at hb
 have hw := fun b w gs (h : Rel C cB w gs) => cwant_ok (b := b) hc h
 rw [v1] at hw
 have hr1 := fun b w gs (h : Rel C cB w gs) => cran_ok (b := b) (cyc := 9) hc h f2 p1 p2 p3
 rw [e2, v2] at hr1
 have hr2 := fun b w gs (h : Rel C cD w gs) => cran_ok (b := b) (cyc := 9) hc h f3 p4 p5 p6
 rw [e3, v3] at hr2
 have hw2 := fun b w gs (h : Rel C cE w gs) => cwant_ok (b := b) hc h
 rw [v4] at hw2
 have hle : cE.evs.length ≤ 1000000000 := by rw [v5]; decide
 have hsm := fun a b => same24e_ok (a := a) (b := b) v5 hle
 clear hC hN f1 e1 f2 p1 p2 p3 e2 f3 p4 p5 p6 e3 v1 v2 v3 v4
 have hX := @pl17.eq_def; repeat' (first | rintro _ _ ⟨rfl, rfl⟩ | rintro _ _ ⟨_, rfl, rfl⟩ | rintro _ _ ⟨w3, gs3, hr3, rfl, rfl⟩ | rintro _ _ ⟨b, w, gs, hr, rfl, rfl⟩ | (refine G.call 19 ?_; refine S.c ?_ (h := hn)) | (refine G.call 8 ?_; refine S.c ?_ (h := hb _ _ _ hr)) | (refine G.call 11 ?_; refine S.c ?_ (h := hr1 _ _ _ hr3); rintro _ _ ⟨w4, gs4, hr4, rfl, rfl⟩) | (refine G.call 11 ?_; refine S.c ?_ (h := hr2 _ _ _ hr4); rintro _ _ ⟨w5, gs5, hr5, rfl, rfl⟩) | (refine G.call 9 ?_; refine S.c ?_ (h := hw _ _ _ hr3)) | (refine G.call 9 ?_; refine S.c ?_ (h := hw2 _ _ _ hr5)) | (refine G.call 25 ?_; refine S.c ?_ (h := hsm _ _)) | refine S.x ?_ | (refine G.call 12 ?_; refine S.c ?_ (h := cevents_ok (by assumption))) | (refine G.call 13 ?_; refine S.c ?_ (h := cports_ok)) | (refine G.call 14 ?_; refine S.c ?_ (h := cmems_ok)) | intro hb | fail)
 all_goals exact Tr.fin hK ⟨rfl, rfl⟩ S.E
end
end Go.Proofs.YtacmaamllpiloaaGreat
namespace Go.Proofs.YtacmaamllpiloaaGreat
open Go Go.Wk
set_option maxHeartbeats 3200000
set_option maxRecDepth 100000
instance (priority := 900) hasf_idle {l : List Asrt} : HasF l idleP := hasf_mk fun w R U _ _ _ y hy => by
 rw [List.mem_singleton.1 hy]
 exact sepI ⟨by decide, by decide⟩ (sepI ⟨by decide, by decide⟩ (sepI ⟨by decide, by decide⟩ (sepI ⟨by decide, by decide⟩ (sepI ⟨by decide, by decide⟩ (sepI ⟨by decide, by decide⟩ trivial)))))
theorem Tr.fzSteps {xs : List (SL StepC)} {l : List Asrt} {X : WP} [hf : HasF l xs] (h : (∀ x ∈ xs, ∀ s ∈ x.d, s.ok) → Tr l X) : Tr l X := fun w hw => by
 obtain ⟨R, h1, h3⟩ := hw
 refine h (fun x hx s hs => ?_) w ⟨R, h1, h3⟩
 have h5 := fzl_of_fz (hasf_get hf h1 (fun _ h => h) h3 x hx) s hs
 exact ⟨sep_l (sep_r (sep_r h5)), sep_l (sep_r (sep_r (sep_r h5))), sep_l (sep_r (sep_r (sep_r (sep_r h5)))), sep_l (sep_r (sep_r (sep_r (sep_r (sep_r h5)))))⟩
theorem rr_base {C : CC} {w : RW} (hc : okC C) (hp : w.px.map SL.d = C.progs) (hd : w.dx.map SL.d = List.replicate C.progs.length []) (hs : w.slk = none) : Rrel C (baseM C) w := ⟨okM_base hc, hp, hd, by rw [hs]; rfl⟩
attribute [local irreducible] BrK GenK EGenK EUnitK CallK FnK CallV GuardO GuardC CondW opX opK opKc chkR eqR seqK blkK endL WL WD W LoopW BinK Tr drewK resL PickK NotK NilK ExtrK getK Instr.storeAt Instr.loadAt Instr.fieldAt Instr.indexAt Instr.lookup Instr.mapUpdate Instr.box Instr.alloc Instr.build Instr.buildSlice Instr.makeSlice Instr.makeMap Instr.sliceAt Instr.field Instr.index Instr.makeInterface Instr.typeAssert Builtin.len_ Builtin.append_ Builtin.cap_ Builtin.min_ Builtin.max_ Builtin.copy_ Builtin.clear_ convert binOp mp blk rob sl sep ex fact old
attribute [local irreducible] rmemX rportX robjX rslkO
section
variable {C : CC} {xs : List (SL StepC)} {s2 : SV} {u0 : Value}
theorem rcnew_ok [hu : DeA u0 C.conf] (hc : okC C) (hp : C.progs = progsM xs C.progs.length) : Trip Tryz.prog 20 [u0, .int .i64 C.part, s2.v].toArray
  [sl true C.conf.regions.s.v C.conf.regions.d, sl true C.conf.procs.s.v C.conf.procs.d, sl true C.conf.ports.s.v C.conf.ports.d, sl true C.conf.sems.s.v C.conf.sems.d, sl true C.conf.pools.s.v C.conf.pools.d, sl true C.conf.slates.s.v C.conf.slates.d, sl true C.conf.acts.s.v C.conf.acts.d, sl true s2.v xs, fzl xs]
  fun v l' => ∃ r w, Rrel C (newM C) w ∧ v = ptr r ∧ l' = rcellL r C (newM C) w := by
 intro F K hK
 simp only [List.cons_append, List.nil_append] at hK ⊢
 obtain rfl := hu.h
 have h8 := hc.n8
 have hrz := hc.rz
 have hod := hc.od
 (refine Tr.enter (rs := [.tmp 6]) mixed fn20 rfl (by simp +arith [Tryz.ntmps20]) fun u => ?_; simp only [cd20, Tryz.f20])
 have hX := @pl20.eq_def; repeat' (first | rintro _ _ ⟨_, rfl, rfl⟩ | (refine G.call 63 ?_; refine S.c ?_ (h := yonew_ok (c := C.conf) (hu := ⟨rfl⟩) hc.dep)) | refine S.x ?_ | (refine G.call 60 ?_; first | refine S.c ?_ (h := rnew_ok _ _) | fail) | (refine G.call 61 ?_; first | refine S.c ?_ (h := ymnew_ok (by assumption)) | fail) | (refine G.call 62 ?_; first | refine S.c ?_ (h := ypnew_ok (by assumption)) | fail) | intro hb | fail)
 rename_i a1 a2 a3 a4
 revert hb
 intro rbk
 obtain ⟨w0, hw0⟩ : ∃ w0 : RW, w0 = ⟨⟨none, 0, 0⟩, ⟨none, 0, 0⟩, ⟨none, 0, 0⟩, ⟨none, 0, 0⟩, ⟨none, 0, 0⟩, ⟨none, 0, 0⟩, a1, a2, a3, a4, none, ⟨none, 0, 0⟩, [], []⟩ := ⟨_, rfl⟩
 have hen : ((((((((setL [Value.slice none 0 0, Value.slice none 0 0, Value.slice none 0 0, Value.slice none 0 0, Value.int IntKind.i64 0, Value.slice none 0 0, Value.slice none 0 0, Value.int IntKind.i64 0, Value.int IntKind.i64 0, Value.int IntKind.i64 0, Value.slice none 0 0, Value.int IntKind.i64 0, Value.int IntKind.i64 0, Value.int IntKind.i64 0, Value.slice none 0 0, Value.slice none 0 0, Value.slice none 0 0, Value.slice none 0 0, Value.slice none 0 0, Value.slice none 0 0, Value.pointer none, Value.pointer none, Value.pointer none, Value.pointer none, Value.pointer none, Value.slice none 0 0]
  0 (En.enc C.conf)).set 11 (Value.int IntKind.i64 C.part)).set 12 (Value.int IntKind.i64 3)).set 13 (Value.int IntKind.i64 (-1))).set 20 (ptr a1)).set 21 (ptr a2)).set 22 (ptr a3)).set 23 (ptr a4)) = [C.conf.regions.s.v, C.conf.procs.s.v, C.conf.ports.s.v, C.conf.sems.s.v, .int .i64 C.conf.flags, C.conf.pools.s.v, C.conf.slates.s.v, .int .i64 C.conf.cap, .int .i64 C.conf.budget, .int .i64 C.conf.ladder, C.conf.acts.s.v,
 .int .i64 C.part, .int .i64 3, .int .i64 (-1), w0.pg.v, w0.pa.v, w0.re.v, w0.ad.v, w0.da.v, w0.dn.v, ptr w0.tb, ptr w0.mem, ptr w0.pts, ptr w0.obs, slP w0.slk, w0.ev.v] := by rw [hw0]; rfl
 rw [hen]
 clear hen
 have htn : (Tb.new C.conf.procs.d).d.length = C.progs.length := by
  show ((C.conf.procs.d.take 8).map One.new).length = _
  rw [List.length_map, List.length_take, hc.np]
  exact Nat.min_eq_right h8
 have hw1 : w0.pg = ⟨none, 0, 0⟩ ∧ w0.tb = a1 ∧ w0.mem = a2 ∧ w0.pts = a3 ∧ w0.obs = a4 ∧ w0.slk = none ∧ w0.ev = ⟨none, 0, 0⟩ ∧ w0.px = [] ∧ w0.dx = [] := by rw [hw0]; exact ⟨rfl, rfl, rfl, rfl, rfl, rfl, rfl, rfl, rfl⟩
 clear hw0
 obtain ⟨t1, t2, t3, t4, t5, t6, t7, t8, t9⟩ := hw1
 obtain ⟨tb, htb⟩ : ∃ tb, tb = Tb.new C.conf.procs.d := ⟨_, rfl⟩
 rw [← htb] at htn ⊢
 refine Tr.refO (a := a1) (t := tb) S.K fun sr => ?_
 have hld : (tb.d.map ROne.mk).length = C.progs.length := by rw [List.length_map]; exact htn
 have hX := And.intro @pl20.eq_def hld; repeat' (first | refine S.x ?_ | fail)
 refine Tr.refF (a := a1) (t := tb) (s := sr) S.K S.K ?_
 clear hld
 refine Tr.loopE (α := Nat × SV × List (SL StepC)) [9] [2, 6, 7, 8] (fun x => [.int .i64 x.1]) (fun x => [rcellB rbk C 3 (-1) { w0 with pg := x.2.1 }, sl false x.2.1.v x.2.2, fzl x.2.2]) (fun x => x.1 ≤ C.progs.length ∧ x.2.2.length = x.1 ∧ x.2.2.map SL.d = C.progs.take x.1) (fun x => C.progs.length - x.1) (0, w0.pg, []) (by rw [t1]; exact S.T) rfl ⟨Nat.zero_le _, rfl, rfl⟩ fun x u hx => ?_
 obtain ⟨k, pg, px⟩ := x
 obtain ⟨hk, hl, hm⟩ := hx
 simp only at hk hl hm ⊢
 simp only [List.cons_append, List.nil_append]
 by_cases hin : k < C.progs.length
 ·have hw := wrapSucc (k := k) (by omega)
  have hpk : ix C.progs (k : Int) = progM xs k := by
   rw [hp]; unfold progsM
   rw [ix_map (by omega) (by simp; exact_mod_cast hin)]
   congr 1
   simp [ix, hin]
  by_cases hq : k < xs.length
  ·by_cases he : (ix xs (k : Int)).d = []
   ·have hd0 : (ix xs (k : Int)).d.length = 0 := by rw [he]; rfl
    have he' := he
    clear he
    have hX := And.intro @pl20.eq_def (And.intro hw hd0); repeat' (first | intro (sv : SV) | refine S.x ?_ | intro hb | fail)
    refine Tr.freezeAt (v := sv.v) (xs := idleP) S.K ?_
    have hX := And.intro @pl20.eq_def hw; repeat' (first | intro (sw : SV) | refine S.x ?_ | fail)
    all_goals
     have hpk' : progM xs k = idleP := by unfold progM; rw [if_neg (fun h => h.2 he')]
     have hm' : (px ++ [SL.mk sv idleP]).map SL.d = C.progs.take (k + 1) := by rw [take_ix hin, List.map_append, hm, hpk, hpk']; rfl
     have hln : (px ++ [SL.mk sv idleP]).length = k + 1 := by rw [List.length_append, hl]; rfl
     clear hm hl
     exact S.R ((k + 1, sw, px ++ [SL.mk sv idleP]) : Nat × SV × List (SL StepC))
   ·have hd0 : 0 < (ix xs (k : Int)).d.length := List.length_pos_iff.2 he
    have he' := he
    clear he
    have hX := And.intro @pl20.eq_def hw; repeat' (first | intro (sv : SV) | refine S.x ?_ | intro hb | fail)
    all_goals
     have hpk' : progM xs k = (ix xs (k : Int)).d := by unfold progM; rw [if_pos ⟨hq, he'⟩]
     have hm' : (px ++ [SL.mk (ix xs (k : Int)).s (ix xs (k : Int)).d]).map SL.d = C.progs.take (k + 1) := by rw [take_ix hin, List.map_append, hm, hpk, hpk']; rfl
     have hln : (px ++ [SL.mk (ix xs (k : Int)).s (ix xs (k : Int)).d]).length = k + 1 := by rw [List.length_append, hl]; rfl
     clear hm hl
     exact S.R ((k + 1, sv, px ++ [SL.mk (ix xs (k : Int)).s (ix xs (k : Int)).d]) : Nat × SV × List (SL StepC))
  ·have hX := And.intro @pl20.eq_def hw; repeat' (first | intro (sv : SV) | refine S.x ?_ | fail)
   refine Tr.freezeAt (v := sv.v) (xs := idleP) S.K ?_
   have hX := And.intro @pl20.eq_def hw; repeat' (first | intro (sw : SV) | refine S.x ?_ | fail)
   all_goals
    have hpk' : progM xs k = idleP := by unfold progM; rw [if_neg (fun h => hq h.1)]
    have hm' : (px ++ [SL.mk sv idleP]).map SL.d = C.progs.take (k + 1) := by rw [take_ix hin, List.map_append, hm, hpk, hpk']; rfl
    have hln : (px ++ [SL.mk sv idleP]).length = k + 1 := by rw [List.length_append, hl]; rfl
    clear hm hl
    exact S.R ((k + 1, sw, px ++ [SL.mk sv idleP]) : Nat × SV × List (SL StepC))
 ·have hke : k = C.progs.length := by omega
  rw [hke, List.take_length] at hm
  subst t2 t3 t4 t5
  have hso : rslkO none none = fact True := by rw [rslkO.eq_def]
  refine Tr.nilSl (α := EvC) ?_
  have hX := @pl20.eq_def; repeat' (first | refine S.x ?_ | intro hb | fail)
  rename_i q1 q2 q3 q4
  obtain ⟨q5, hq5⟩ : ∃ q5, q5 = hb := ⟨_, rfl⟩
  subst hq5
  obtain ⟨w1, hw1⟩ : ∃ w1 : RW, w1 = { w0 with pg := pg, pa := q1, re := q2, ad := q3, da := q4, dn := q5, px := px, dx := List.replicate C.progs.length default } := ⟨_, rfl⟩
  have hrb : Rrel C (baseM C) w1 := by rw [hw1]; exact rr_base hc hm (by rw [List.map_replicate]; rfl) t6
  obtain ⟨cb, hcb⟩ : ∃ cb, cb = baseM C := ⟨_, rfl⟩
  refine Tr.imp (l' := rcellL rbk C cb w1 ++ F) ?_ ?_
  ·subst hcb hw1 htb
   simp only [List.cons_append, List.nil_append, Int.toNat_natCast, t6, t7]
   have hX := And.intro hso @baseM.eq_def
   clear hm hp hrb hin hke
   show EntR [] _ _
   exact S.E
  rw [← hcb] at hrb
  have hN : newM C = startTo C cb 0 C.progs.length := by rw [hcb]; rfl
  rw [hN] at hK
  clear hcb hN hp hm hl htb htn t1 t6 t7 t8 t9 hso hw1
  simp only [List.cons_append, List.nil_append]
  have hX := @pl20.eq_def; repeat' (first | refine S.x ?_ | refine S.y ?_ ?_ | (refine G.call 60 ?_; first | refine S.c ?_ (h := rnew_ok _ _) | refine S.c ?_ (h := rnew_ok)) | (refine G.call 61 ?_; first | refine S.c ?_ (h := ymnew_ok (by assumption)) | refine S.c ?_ (h := rmnew_ok)) | (refine G.call 62 ?_; first | refine S.c ?_ (h := ypnew_ok (by assumption)) | refine S.c ?_ (h := rpnew_ok)) | (refine G.call 63 ?_; refine S.c ?_ (h := rnew20_ok)) | rintro _ _ ⟨_, rfl, rfl⟩ | rintro _ _ ⟨_, _, _, _, _, rfl, rfl⟩ | rintro _ _ ⟨_, _, _, _, _, _, hxs, rfl, rfl⟩ | (refine G.prop ?_; assumption) | intro hb | ((fail_if_success refine G.tr ?_); exact G.prop S.p) | fail)
  refine Tr.loopE (α := Nat × RW) [11] [6, 7, 8] (fun x => [.int .i64 x.1]) (fun x => rcellL rbk C (startTo C cb 0 x.1) x.2) (fun x => x.1 ≤ C.progs.length ∧ Rrel C (startTo C cb 0 x.1) x.2) (fun x => C.progs.length - x.1) (0, w1) S.T rfl ⟨Nat.zero_le _, hrb⟩ fun y u2 hy => ?_
  obtain ⟨j, w3⟩ := y
  obtain ⟨hj, hrj⟩ := hy
  simp only at hj hrj ⊢
  simp only [List.cons_append, List.nil_append]
  by_cases hjn : j < C.progs.length
  ·have hw := wrapSucc (k := j) (by omega)
   have hkj : inR C.progs (j : Int) := ⟨by omega, by omega⟩
   have hst : startM C (startTo C cb 0 j) (j : Int) 0 = startTo C cb 0 (j + 1) := rfl
   have hsk := rstart24_ok (r := rbk) (win := 0) hc hrj hkj
   rw [hst] at hsk
   clear hrj
   have hX := And.intro @pl20.eq_def hw; repeat' (first | rintro _ _ ⟨w5, hr5, rfl, rfl⟩ | (refine G.call 64 ?_; refine S.c ?_ (h := hsk)) | refine S.x ?_ | fail)
   all_goals
    have hX := hst
    exact S.R ((j + 1, w5) : Nat × RW)
  ·have hje : j = C.progs.length := by omega
   subst hje
   have hX := @pl20.eq_def; repeat' (first | refine S.x ?_ | fail)
   all_goals exact Tr.fin hK ⟨rbk, w3, hrj, rfl, rfl⟩ S.E
end
end Go.Proofs.YtacmaamllpiloaaGreat
namespace Go.Proofs.YtacmaamllpiloaaGreat
open Go Go.Wk
section
variable {C : CC} {c : CM} {p : Int}
theorem ranR_min {cyc : Int} (hw : 1 ≤ wantM c) (hcy : 1 ≤ cyc) : ranR c cyc = (if wantM c < cyc then wantM c else cyc) ∧ 1 ≤ ranR c cyc := by
 unfold ranR ranN
 split <;> split <;> omega
theorem runs_more (hc : okC C) (hi : Inv C c) (h1 : okR1 c) {t : Nat} (hv : ∀ j : Nat, j < t → cycV (cycTo C c j) = true) {cyc : Int} (hw : 1 ≤ wantM (cycTo C c t)) (hcy : 1 ≤ cyc) :
  ∃ t2 : Nat, ranA C (cycTo C c t) cyc = cycTo C c t2 ∧ (∀ j : Nat, j < t2 → cycV (cycTo C c j) = true) ∧ roomM (cycTo C c t2) ≤ roomM (cycTo C c t) - 1 ∧ (cycTo C c t2).evs.length ≤ (cycTo C c t).evs.length + 122 := by
 obtain ⟨a, b⟩ := cycTo_inv hc hi h1 t
 obtain ⟨s, s1, s2, s3, s4, _, _, s7⟩ := ranA_cyc hc a b (cyc := cyc)
 have hr := ranA_room hc a b (cyc := cyc)
 have hm := (ranR_min hw hcy).2
 refine ⟨t + s, ?_, fun j hj => ?_, ?_, ?_⟩
 ·rw [s2, ← cycTo_add]
 ·by_cases h : j < t
  ·exact hv j h
  ·have := s4 (j - t) (by omega)
   rw [← cycTo_add, show t + (j - t) = j from by omega] at this
   exact this
 ·rw [cycTo_add, ← s2, hr]; omega
 ·rw [cycTo_add, ← s2]; exact s7
theorem runs_end (hc : okC C) (hi : Inv C c) (h1 : okR1 c) {t : Nat} (hw : ¬ 0 < wantM (cycTo C c t)) : cycV (cycTo C c t) = false := by
 obtain ⟨a, b⟩ := cycTo_inv hc hi h1 t
 rw [cyc_want a b]
 exact decide_eq_false (by omega)
theorem inv_re (h : Inv C c) : Inv (C.re p) (c.re p) := ⟨⟨h.ok.tb, h.ok.pos, h.ok.rest, h.ok.addr, h.ok.data, h.ok.done, h.ok.pi, h.ok.ad, h.ok.dl⟩, h.dp, h.p, h.S, h.sl, h.sd⟩
theorem okC_re (h : okC C) : okC (C.re p) := ⟨h.n0, h.n8, h.np, h.pr, h.cap, h.cost, h.dep, h.pz, h.lz, h.oz, h.od, h.rz⟩
theorem re_part (h : c.re C.part = c) : (beginM C c).re C.part = beginM C c ∧ ∀ t, (cycTo C c t).re C.part = cycTo C c t := by
 have hC : C.re C.part = C := rfl
 refine ⟨?_, fun t => ?_⟩
 ·have := re_begin (C := C) (c := c) (p := C.part)
  rw [hC, h] at this
  exact this.symm
 ·have := re_cycTo (C := C) (c := c) (p := C.part) t
  rw [hC, h] at this
  exact this.symm
theorem part_all (h : c.re p = c) : ∀ e ∈ c.evs, e.part = p := fun e he => by
 have h2 : c.evs.map (EvC.re p) = c.evs := congrArg CM.evs h
 rw [← h2] at he
 obtain ⟨x, _, rfl⟩ := List.mem_map.1 he
 rfl
theorem new_part : (newM C).re C.part = newM C := (re_new (C := C) (p := C.part)).symm
end
end Go.Proofs.YtacmaamllpiloaaGreat
