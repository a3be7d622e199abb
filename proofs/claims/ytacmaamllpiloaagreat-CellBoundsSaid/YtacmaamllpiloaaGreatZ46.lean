import Derived.Test.YtacmaamllpiloaaGreatZ45
import Derived.Test.YtacmaamllpiloaaGreatZ43
import Derived.KernelRfl
namespace Go.Proofs.YtacmaamllpiloaaGreat
open Go Go.Wk
set_option maxHeartbeats 3200000
set_option maxRecDepth 100000
def delTo (ps : List AP) (p : Int) (xs : List (SL UInt8)) : Nat → List AP
 | 0 => ps
 | n + 1 => delA (delTo ps p xs n) p (ix xs (n : Int)).d
theorem ix_p {α : Type} [Inhabited α] {p : α → Prop} {xs : List α} {k : Int} (h : ∀ x ∈ xs, p x) (hk : inR xs k) : p (ix xs k) := h _ (List.mem_of_getElem? (ix_some hk.1 hk.2))
structure okLife (l : LifeD) : Prop where
 p : okPart l.conf
 c : l.conf.cap ≤ 400
 s : l.progs.d.length ≤ 20 ∧ ∀ x ∈ l.progs.d, x.d.length ≤ 100
 w : ∀ j : Nat, j < l.wins.d.length → j < 12 → (ix l.wins.d (j : Int)).msgs.d.length ≤ 20 ∧ ∀ x ∈ (ix l.wins.d (j : Int)).msgs.d, x.d.length ≤ 64
def lifeC (l : LifeD) (part : Int) : CC := ⟨l.conf, part, progsM l.progs.d l.conf.procs.d.length⟩
abbrev lifeL (l : LifeD) : List Asrt := [sl true l.conf.regions.s.v l.conf.regions.d, sl true l.conf.procs.s.v l.conf.procs.d, sl true l.conf.ports.s.v l.conf.ports.d, sl true l.conf.sems.s.v l.conf.sems.d, sl true l.conf.pools.s.v l.conf.pools.d, sl true l.conf.slates.s.v l.conf.slates.d, sl true l.conf.acts.s.v l.conf.acts.d, sl true l.progs.s.v l.progs.d, fzl l.progs.d, sl true l.wins.s.v l.wins.d, fzl l.wins.d]
def arrM (c : CM) (x : WinL) : CM := { c with pts := delTo c.pts x.port x.msgs.d x.msgs.d.length }
def drM (c : CM) (o : Int) : CM := { c with pts := drainA c.pts o }
section
variable {l : LifeD} {part : Int} {C : CC} {c : CM} {w : CW} {gs : List TaskG} {w2 : RW} {x : WinL} {o : Int}
theorem life_p : (lifeC l part).progs = progsM l.progs.d (lifeC l part).progs.length := by
 show progsM _ _ = progsM _ (progsM _ _).length
 rw [progsM_len]
theorem life_c (h : okLife l) (hs : ∀ x ∈ l.progs.d, ∀ s ∈ x.d, s.ok) : okC (lifeC l part) := by
 have hl : (lifeC l part).progs.length = l.conf.procs.d.length := progsM_len
 refine ⟨by rw [hl]; exact h.p.n1, by rw [hl]; exact h.p.n8, hl.symm, fun p hp => ?_, by have := h.c; show l.conf.cap ≤ _; omega, fun x hx => by have := h.p.p x hx; omega, fun x hx => (h.p.b.1 x hx).2, fun x hx => by have := (h.p.b.1 x hx).1; omega, fun x hx => by have := h.p.b.2 x hx; omega, fun x hx => by have := (h.p.o x hx).1; omega, fun x hx => (h.p.o x hx).2, h.p.r⟩
 obtain ⟨k, hk, rfl⟩ := List.mem_map.1 hp
 unfold progM
 split
 ·rename_i hk
  have hm : ix l.progs.d (k : Int) ∈ l.progs.d := List.mem_of_getElem? (ix_some (by omega) (by omega))
  have h1 := h.s.2 _ hm
  exact ⟨hk.2, by omega, hs _ hm⟩
 ·refine ⟨by simp [idleP], by decide, fun s hs => ?_⟩
  rw [List.mem_singleton.1 hs]
  exact ⟨by decide, by decide, by decide, by decide⟩
theorem del_toc {ps : List AP} {p : Int} {xs : List (SL UInt8)} : ∀ n, (delTo ps p xs n).map AP.c = ps.map AP.c
 | 0 => rfl
 | n + 1 => by
  unfold delTo
  rw [del_c, del_toc n]
theorem arr_inv (hc : okC C) (hi : Inv C c) (h1 : okR1 c) : Inv C (arrM c x) ∧ okR1 (arrM c x) := pts_inv hc hi h1 (del_toc _)
theorem dr_inv (hc : okC C) (hi : Inv C c) (h1 : okR1 c) : Inv C (drM c o) ∧ okR1 (drM c o) := pts_inv hc hi h1 drain_c
theorem rel_arr (h : Rel C c w gs) : Rel C (arrM c x) w gs := rel_pts h
theorem rel_dr (h : Rel C c w gs) : Rel C (drM c o) w gs := rel_pts h
end
attribute [local irreducible] BrK GenK EGenK EUnitK CallK FnK CallV GuardO GuardC CondW opX opK opKc chkR eqR seqK blkK endL WL WD W LoopW BinK Tr drewK resL PickK NotK NilK ExtrK getK Instr.storeAt Instr.loadAt Instr.fieldAt Instr.indexAt Instr.lookup Instr.mapUpdate Instr.box Instr.alloc Instr.build Instr.buildSlice Instr.makeSlice Instr.makeMap Instr.sliceAt Instr.field Instr.index Instr.makeInterface Instr.typeAssert Builtin.len_ Builtin.append_ Builtin.cap_ Builtin.min_ Builtin.max_ Builtin.copy_ Builtin.clear_ convert binOp mp blk rob sl sep ex fact old
attribute [local irreducible] portX rportX
section
variable {b r : Nat} {C C2 : CC} {mode win mode2 win2 : Int} {w : CW} {w2 : RW} {ps ps2 : List AP} {x : WinL} {c c2 : CM} {gs : List TaskG}
theorem arrive0_ok (hl : x.msgs.d.length ≤ 20) (hm : ∀ y ∈ x.msgs.d, y.d.length ≤ 64) : Trip Tryz.prog 21 [ptr b, ptr r, .agg (En.enc x).toArray].toArray [cellB b C mode win w, portX w.pts ps, rcellB r C2 mode2 win2 w2, rportX w2.pts ps2, sl true x.msgs.s.v x.msgs.d, fzl x.msgs.d]
  fun v l' => v = .tuple #[] ∧ l' = [cellB b C mode win w, portX w.pts (delTo ps x.port x.msgs.d x.msgs.d.length), rcellB r C2 mode2 win2 w2, rportX w2.pts (delTo ps2 x.port x.msgs.d x.msgs.d.length)] := by
 intro F K hK
 simp only [List.cons_append, List.nil_append] at hK ⊢
 obtain ⟨p, msgs, o⟩ := x
 simp only at hl hm hK ⊢
 (refine Tr.enter (rs := []) mixed fn21 rfl (by simp +arith [Tryz.ntmps21]) fun u => ?_; simp only [cd21, Tryz.f21])
 have hX := @pl21.eq_def; repeat' (first | refine S.x ?_ | intro hb | fail)
 refine Tr.loopE (α := Nat) [6] [0, 1, 5] (fun k => [.int .i64 k]) (fun k => [cellB b C mode win w, portX w.pts (delTo ps p msgs.d k), rcellB r C2 mode2 win2 w2, rportX w2.pts (delTo ps2 p msgs.d k)]) (fun k => k ≤ msgs.d.length) (fun k => msgs.d.length - k) 0 S.T rfl (Nat.zero_le _) fun k u hk => ?_
 simp only [List.cons_append, List.nil_append]
 by_cases hin : k < msgs.d.length
 ·have hw := wrapSucc (k := k) (by omega)
  have hle : (ix msgs.d (k : Int)).d.length ≤ 300 := by
   have := ix_p (p := fun y : SL UInt8 => y.d.length ≤ 64) hm ⟨by omega, by omega⟩ (k := (k : Int))
   omega
  have hX := @delTo.eq_2
  have hX := And.intro @pl21.eq_def hw; repeat' (first | rintro _ _ ⟨rfl, rfl⟩ | (refine G.call 65 ?_; refine S.c ?_ (h := xdel_ok hle)) | (refine G.call 66 ?_; refine S.c ?_ (h := ydel_ok)) | refine S.x ?_ | (refine G.call 13 ?_; refine S.c ?_ (h := cports_ok)) | intro hb | fail)
  all_goals exact S.R (k + 1)
 ·have hke : k = msgs.d.length := by omega
  subst hke
  have hX := @pl21.eq_def; repeat' (first | refine S.x ?_ | fail)
  all_goals exact S.L
theorem arrive_ok (hl : x.msgs.d.length ≤ 20) (hm : ∀ y ∈ x.msgs.d, y.d.length ≤ 64) : Trip Tryz.prog 21 [ptr b, ptr r, .agg (En.enc x).toArray].toArray (cellL b C c w gs ++ rcellL r C2 c2 w2 ++ [sl true x.msgs.s.v x.msgs.d, fzl x.msgs.d])
  fun v l' => v = .tuple #[] ∧ l' = cellL b C (arrM c x) w gs ++ rcellL r C2 (arrM c2 x) w2 := by
 intro F K hK
 simp only [List.cons_append, List.nil_append] at hK ⊢
 refine S.c ?_ (h := arrive0_ok hl hm)
 rintro _ _ ⟨rfl, rfl⟩
 refine Tr.fin hK ⟨rfl, rfl⟩ ?_
 have hX := @arrM.eq_def
 simp only [List.cons_append, List.nil_append]
 exact S.E
end
end Go.Proofs.YtacmaamllpiloaaGreat
namespace Go.Proofs.YtacmaamllpiloaaGreat
open Go Go.Wk
def nilV : SV := ⟨none, 0, 0⟩
def confW (s2 s7 : SV) : PartD := ⟨⟨nilV, []⟩, ⟨s2, [⟨0, 0, 5⟩]⟩, ⟨nilV, []⟩, ⟨nilV, []⟩, 0, ⟨nilV, []⟩, ⟨nilV, []⟩, 20, 0, 0, ⟨s7, [0, 0, 0, 0, 0]⟩⟩
def workC (s2 s7 : SV) : CC := ⟨confW s2 s7, 3, [[⟨4, 8, 0, 0, 0, 0⟩]]⟩
def workB (s2 s7 : SV) : CM := beginM (workC s2 s7) (newM (workC s2 s7))
def workD (s2 s7 : SV) : CM := ranA (workC s2 s7) (workB s2 s7) 9
def workE (s2 s7 : SV) : CM := ranA (workC s2 s7) (workD s2 s7) 9
section
variable {s2 s7 : SV}
theorem work_c : okC (workC s2 s7) := by
 refine ⟨by show 1 ≤ 1; decide, by show 1 ≤ 8; decide, rfl, fun p hp => ?_, by show (20 : Int) ≤ 1000000000000; decide, fun x hx => ?_, fun x hx => (by cases hx), fun x hx => (by cases hx), fun x hx => (by cases hx), fun x hx => (by cases hx), fun x hx => (by cases hx), fun x hx => (by cases hx)⟩
 ·have e : p = [⟨4, 8, 0, 0, 0, 0⟩] := List.mem_singleton.1 hp
  subst e
  refine ⟨by simp, by show 1 ≤ 1000000; decide, fun s hs => ?_⟩
  have e : s = ⟨4, 8, 0, 0, 0, 0⟩ := List.mem_singleton.1 hs
  subst e
  exact ⟨by decide, by decide, by decide, by decide⟩
 ·have e : x = ⟨0, 0, 5⟩ := List.mem_singleton.1 hx
  subst e
  decide
theorem work_p {t : SV} : (workC s2 s7).progs = progsM [⟨t, [⟨4, 8, 0, 0, 0, 0⟩]⟩] (workC s2 s7).progs.length := rfl
theorem work_1 : wantM (workB s2 s7) = 4 := by kernel_rfl
theorem work_2 : ranR (workB s2 s7) 9 = 4 := by kernel_rfl
theorem work_3 : ranR (workD s2 s7) 9 = 1 := by kernel_rfl
theorem work_4 : wantM (workE s2 s7) = 0 := by kernel_rfl
theorem work_5 : (workE s2 s7).evs = [⟨3, 0, 0, 8, 0, 0⟩, ⟨3, 0, 0, -1, 0, 0⟩] := by kernel_rfl
end
end Go.Proofs.YtacmaamllpiloaaGreat
namespace Go.Proofs.YtacmaamllpiloaaGreat
open Go Go.Wk
set_option maxHeartbeats 3200000
set_option maxRecDepth 100000
instance elt_prcs : ElT 24 ProcC := ⟨⟩
instance dea_prcs {l : List Asrt} {a b c : Int} : De l (.agg [.int .i64 a, .int .i64 b, .int .i64 c].toArray) (ProcC.mk a b c) := ⟨rfl⟩
instance (priority := 900) hasf_wstep {l : List Asrt} : HasF l [StepC.mk 4 8 0 0 0 0] := hasf_mk fun w R U _ _ _ y hy => by
 rw [List.mem_singleton.1 hy]
 exact sepI ⟨by decide, by decide⟩ (sepI ⟨by decide, by decide⟩ (sepI ⟨by decide, by decide⟩ (sepI ⟨by decide, by decide⟩ (sepI ⟨by decide, by decide⟩ (sepI ⟨by decide, by decide⟩ trivial)))))
attribute [local irreducible] BrK GenK EGenK EUnitK CallK FnK CallV GuardO GuardC CondW opX opK opKc chkR eqR seqK blkK endL WL WD W LoopW BinK Tr drewK resL PickK NotK NilK ExtrK getK Instr.storeAt Instr.loadAt Instr.fieldAt Instr.indexAt Instr.lookup Instr.mapUpdate Instr.box Instr.alloc Instr.build Instr.buildSlice Instr.makeSlice Instr.makeMap Instr.sliceAt Instr.field Instr.index Instr.makeInterface Instr.typeAssert Builtin.len_ Builtin.append_ Builtin.cap_ Builtin.min_ Builtin.max_ Builtin.copy_ Builtin.clear_ convert binOp mp blk rob sl sep ex fact old
attribute [local irreducible] memX portX objX slkO taskA rmemX rportX robjX rslkO refA workB workD workE newM
section
theorem plain24_ok : Trip Tryz.prog 48 [].toArray []
  fun v l' => ∃ s2 s7 : SV, v = .agg [.slice none 0 0, s2.v, .slice none 0 0, .slice none 0 0, .int .i64 0, .slice none 0 0, .slice none 0 0, .int .i64 20, .int .i64 0, .int .i64 0, s7.v].toArray ∧ l' = [sl true s2.v [ProcC.mk 0 0 5], sl true s7.v [(0 : Int), 0, 0, 0, 0]] := by
 intro F K hK
 simp only [List.nil_append] at hK ⊢
 (refine Tr.enter (rs := [.cell 0 30]) mixed fn48 rfl (by simp +arith [Tryz.ntmps48]) fun u => ?_; simp only [cd48, Tryz.f48])
 have hX := @pl48.eq_def; repeat' (first | intro (sv : SV) | refine S.x ?_ | intro hb | fail)
 all_goals
  rename_i sa
  refine Tr.freezeAt (v := sa.v) (xs := [ProcC.mk 0 0 5]) S.K ?_
  refine Tr.freezeAt (v := sv.v) (xs := [(0 : Int), 0, 0, 0, 0]) S.K ?_
  exact Tr.fin hK ⟨sa, sv, rfl, rfl⟩ S.E
theorem may_ok {l : LifeD} : Trip Tryz.prog 18 [.agg (En.enc l).toArray].toArray (lifeL l)
  fun v l' => ∃ b : Bool, (b = true → okLife l) ∧ v = .bool b ∧ l' = [] := by
 intro F K hK
 simp only [List.cons_append, List.nil_append] at hK ⊢
 obtain ⟨conf, progs, wins⟩ := l
 simp only at hK ⊢
 have hpc := part10_ok (u0 := .agg (En.enc conf).toArray) (c := conf) (hd := ⟨rfl⟩)
 (refine Tr.enter (rs := [.tmp 2]) mixed fn18 rfl (by simp +arith [Tryz.ntmps18]) fun u => ?_; simp only [cd18, Tryz.f18])
 have hX := @pl18.eq_def; repeat' (first | rintro _ _ ⟨np, hpart, rfl, rfl⟩ | (refine G.call 49 ?_; refine S.c ?_ (h := hpc)) | refine S.x ?_ | refine S.y ?_ ?_ | (refine G.call 50 ?_; refine S.c ?_ (h := short24_ok)) | intro hb | fail)
 all_goals try exact Tr.fin hK ⟨false, (fun h => by cases h), rfl, rfl⟩ S.E
 rename_i hp1 hz hcap hcap2
 have hP := hp1 hz
 have hS := hpart hb
 clear hp1 hz hcap2 hpart hb hpc
 refine Tr.loopE (α := Nat) [2, 3] [1] (fun k => [.bool false, .int .i64 k]) (fun _ => []) (fun k => k ≤ wins.d.length ∧ k ≤ 12 ∧ ∀ j : Nat, j < k → (ix wins.d (j : Int)).msgs.d.length ≤ 20 ∧ ∀ x ∈ (ix wins.d (j : Int)).msgs.d, x.d.length ≤ 64) (fun k => 12 - k) 0 S.T rfl ⟨Nat.zero_le _, Nat.zero_le _, fun j hj => absurd hj (Nat.not_lt_zero _)⟩ fun k u hk => ?_
 obtain ⟨hk, hk2, hall⟩ := hk
 simp only [List.nil_append]
 by_cases hin : k < wins.d.length ∧ k < 12
 ·obtain ⟨hin, hin2⟩ := hin
  have hw := wrapSucc (k := k) (by omega)
  by_cases h20 : (ix wins.d (k : Int)).msgs.d.length ≤ 20
  ·have hX := And.intro @pl18.eq_def hw; repeat' (first | refine S.x ?_ | intro hb | fail)
   refine Tr.loopE (α := Nat) [2, 4] [1, 3] (fun k => [.bool false, .int .i64 k]) (fun _ => []) (fun j => j ≤ (ix wins.d (k : Int)).msgs.d.length ∧ ∀ i : Nat, i < j → (ix (ix wins.d (k : Int)).msgs.d (i : Int)).d.length ≤ 64) (fun j => (ix wins.d (k : Int)).msgs.d.length - j) 0 S.T rfl ⟨Nat.zero_le _, fun j hj => absurd hj (Nat.not_lt_zero _)⟩ fun j u2 hj => ?_
   obtain ⟨hj, hal2⟩ := hj
   simp only [List.nil_append]
   by_cases hjn : j < (ix wins.d (k : Int)).msgs.d.length
   ·have hw2 := wrapSucc (k := j) (by omega)
    by_cases h64 : (ix (ix wins.d (k : Int)).msgs.d (j : Int)).d.length ≤ 64
    ·have hal3 := all_succ (p := fun j : Nat => (ix (ix wins.d (k : Int)).msgs.d (j : Int)).d.length ≤ 64) hal2 h64
     have hX := And.intro @pl18.eq_def hw2; repeat' (first | refine S.x ?_ | intro hb | fail)
     all_goals exact S.R (j + 1)
    ·have hX := And.intro @pl18.eq_def hw2; repeat' (first | refine S.x ?_ | intro hb | fail)
     all_goals exact Tr.fin hK ⟨false, (fun h => by cases h), rfl, rfl⟩ S.E
   ·have hal3 := all_of (p := fun x : SL UInt8 => x.d.length ≤ 64) (by omega) hal2
    have hal4 := all_succ (p := fun j : Nat => (ix wins.d (j : Int)).msgs.d.length ≤ 20 ∧ ∀ x ∈ (ix wins.d (j : Int)).msgs.d, x.d.length ≤ 64) hall ⟨h20, hal3⟩
    have hX := And.intro @pl18.eq_def hw; repeat' (first | refine S.x ?_ | intro hb | fail)
    all_goals exact S.R (k + 1)
  ·have hX := And.intro @pl18.eq_def hw; repeat' (first | refine S.x ?_ | intro hb | fail)
   all_goals exact Tr.fin hK ⟨false, (fun h => by cases h), rfl, rfl⟩ S.E
 ·have hok : okLife ⟨conf, progs, wins⟩ := ⟨hP, hcap, hS, fun j h1 h2 => hall j (by simp only at h1; omega)⟩
  by_cases hkl : k < wins.d.length
  ·have hk12 : k = 12 := by omega
   subst hk12
   have hX := @pl18.eq_def; repeat' (first | refine S.x ?_ | fail)
   all_goals exact Tr.fin hK ⟨true, (fun _ => hok), rfl, rfl⟩ S.E
  ·have hX := @pl18.eq_def; repeat' (first | refine S.x ?_ | fail)
   all_goals exact Tr.fin hK ⟨true, (fun _ => hok), rfl, rfl⟩ S.E
theorem room_le {C : CC} {c : CM} (hi : Inv C c) : roomM c ≤ 1000000000000 := by
 unfold roomM
 split
 ·rename_i m hm; exact (hi.sl m hm).r.2
 ·decide
theorem same24e_ok {a b : SV} {xs ys : List EvC} (he : xs = ys) (hl : xs.length ≤ 1000000000) : Trip Tryz.prog 25 [a.v, b.v].toArray [sl false a.v xs, sl false b.v ys]
  fun v l' => v = .bool true ∧ l' = [sl false a.v xs, sl false b.v ys] := by
 subst he
 exact same24_ok hl
theorem wnew_ok {s2 s7 s9 t : SV} : Trip Tryz.prog 19 [.agg [.slice none 0 0, s2.v, .slice none 0 0, .slice none 0 0, .int .i64 0, .slice none 0 0, .slice none 0 0, .int .i64 20, .int .i64 0, .int .i64 0, s7.v].toArray, .int .i64 3, s9.v].toArray
  [sl true (.slice none 0 0) ([] : List RegC), sl true s2.v [ProcC.mk 0 0 5], sl true (.slice none 0 0) ([] : List PortC), sl true (.slice none 0 0) ([] : List SemC), sl true (.slice none 0 0) ([] : List PoolC), sl true (.slice none 0 0) ([] : List Int), sl true s7.v [(0 : Int), 0, 0, 0, 0], sl true s9.v [SL.mk t [StepC.mk 4 8 0 0 0 0]], fzl [SL.mk t [StepC.mk 4 8 0 0 0 0]]]
  fun v l' => ∃ b w gs, Rel (workC s2 s7) (newM (workC s2 s7)) w gs ∧ v = ptr b ∧ l' = cellL b (workC s2 s7) (newM (workC s2 s7)) w gs :=
 cnew_ok (C := workC s2 s7) (hu := ⟨rfl⟩) work_c work_p
theorem work_all (s2 s7 : SV) : ∃ C cN cB cD cE, C = workC s2 s7 ∧ cN = newM (workC s2 s7) ∧ okC C ∧ few cN 500 ∧ beginM C cN = cB ∧ few cB 40 ∧ dP cB ∧ okP C cB ∧ okRs cB ∧ ranA C cB 9 = cD ∧ few cD 40 ∧ dP cD ∧ okP C cD ∧ okRs cD ∧ ranA C cD 9 = cE ∧
  wantM cB = 4 ∧ ranR cB 9 = 4 ∧ ranR cD 9 = 1 ∧ wantM cE = 0 ∧ cE.evs = [⟨3, 0, 0, 8, 0, 0⟩, ⟨3, 0, 0, -1, 0, 0⟩] := by
 have hc : okC (workC s2 s7) := work_c
 obtain ⟨i1, i2, i3⟩ := new_inv hc
 obtain ⟨b1, b2, b3, _, _⟩ := begin_inv hc i1 i2
 obtain ⟨_, _, _, _, _, d1, d2, d3⟩ := ranA_cyc hc b1 b2 (cyc := 9)
 rw [i3] at b3
 have b4 : (beginM (workC s2 s7) (newM (workC s2 s7))).evs.length ≤ 444 := by simpa using b3
 exact ⟨_, _, workB s2 s7, workD s2 s7, workE s2 s7, rfl, rfl, hc, by unfold few; rw [i3]; decide, by rw [workB.eq_def], by rw [workB.eq_def]; unfold few; omega, by rw [workB.eq_def]; exact b1.dp, by rw [workB.eq_def]; exact b1.p, by rw [workB.eq_def]; exact b2.le,
  by rw [workD.eq_def], by rw [workD.eq_def, workB.eq_def]; unfold few; omega, by rw [workD.eq_def, workB.eq_def]; exact d1.dp, by rw [workD.eq_def, workB.eq_def]; exact d1.p, by rw [workD.eq_def, workB.eq_def]; exact d2.le, by rw [workE.eq_def], work_1, work_2, work_3, work_4, work_5⟩
theorem works24_ok : Trip Tryz.prog 17 [].toArray []
  fun v l' => v = .bool true ∧ l' = [] := by
 intro F K hK
 simp only [List.nil_append] at hK ⊢
 (refine Tr.enter (rs := [.tmp 0]) mixed fn17 rfl (by simp +arith [Tryz.ntmps17]) fun u => ?_; simp only [cd17, Tryz.f17])
 have hX := @pl17.eq_def; repeat' (first | rintro _ _ ⟨s2, s7, rfl, rfl⟩ | (refine G.call 48 ?_; refine S.c ?_ (h := plain24_ok)) | intro (sv : SV) | refine S.x ?_ | fail)
 refine Tr.freezeAt (v := sv.v) (xs := [StepC.mk 4 8 0 0 0 0]) S.K ?_
 have hX := @pl17.eq_def; repeat' (first | intro (s9 : SV) | refine S.x ?_ | fail)
 refine Tr.freezeAt (v := s9.v) (xs := [SL.mk sv [StepC.mk 4 8 0 0 0 0]]) S.K ?_
 refine Tr.nilSl (α := RegC) (Tr.freezeSl ?_)
 refine Tr.nilSl (α := PortC) (Tr.freezeSl ?_)
 refine Tr.nilSl (α := SemC) (Tr.freezeSl ?_)
 refine Tr.nilSl (α := PoolC) (Tr.freezeSl ?_)
 refine Tr.nilSl (α := Int) (Tr.freezeSl ?_)
 have hn := wnew_ok (s2 := s2) (s7 := s7) (s9 := s9) (t := sv)
 obtain ⟨C, cN, cB, cD, cE, hC, hN, hc, f1, e1, f2, p1, p2, p3, e2, f3, p4, p5, p6, e3, v1, v2, v3, v4, v5⟩ := work_all s2 s7
 rw [← hN, ← hC] at hn
 have hb := fun b w gs (h : Rel C cN w gs) => cbegin_ok (b := b) hc h f1
 rw [e1] at hb
 have hw := fun b w gs (h : Rel C cB w gs) => cwant_ok (b := b) hc h
 rw [v1] at hw
 have hr1 := fun b w gs (h : Rel C cB w gs) => cran_ok (b := b) (cyc := 9) hc h f2 p1 p2 p3
 rw [e2, v2] at hr1
 have hr2 := fun b w gs (h : Rel C cD w gs) => cran_ok (b := b) (cyc := 9) hc h f3 p4 p5 p6
 rw [e3, v3] at hr2
 have hw2 := fun b w gs (h : Rel C cE w gs) => cwant_ok (b := b) hc h
 rw [v4] at hw2
 have hle : cE.evs.length ≤ 1000000000 := by rw [v5]; decide
 have hsm := fun a b => same24e_ok (a := a) (b := b) v5 hle
 clear hC hN f1 e1 f2 p1 p2 p3 e2 f3 p4 p5 p6 e3 v1 v2 v3 v4
 have hX := @pl17.eq_def; repeat' (first | rintro _ _ ⟨rfl, rfl⟩ | rintro _ _ ⟨_, rfl, rfl⟩ | rintro _ _ ⟨w3, gs3, hr3, rfl, rfl⟩ | rintro _ _ ⟨b, w, gs, hr, rfl, rfl⟩ | (refine G.call 19 ?_; refine S.c ?_ (h := hn)) | (refine G.call 8 ?_; refine S.c ?_ (h := hb _ _ _ hr)) | (refine G.call 11 ?_; refine S.c ?_ (h := hr1 _ _ _ hr3); rintro _ _ ⟨w4, gs4, hr4, rfl, rfl⟩) | (refine G.call 11 ?_; refine S.c ?_ (h := hr2 _ _ _ hr4); rintro _ _ ⟨w5, gs5, hr5, rfl, rfl⟩) | (refine G.call 9 ?_; refine S.c ?_ (h := hw _ _ _ hr3)) | (refine G.call 9 ?_; refine S.c ?_ (h := hw2 _ _ _ hr5)) | (refine G.call 25 ?_; refine S.c ?_ (h := hsm _ _)) | refine S.x ?_ | (refine G.call 12 ?_; refine S.c ?_ (h := cevents_ok (by assumption))) | (refine G.call 13 ?_; refine S.c ?_ (h := cports_ok)) | (refine G.call 14 ?_; refine S.c ?_ (h := cmems_ok)) | intro hb | fail)
 all_goals exact Tr.fin hK ⟨rfl, rfl⟩ S.E
end
end Go.Proofs.YtacmaamllpiloaaGreat
