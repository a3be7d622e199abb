import Derived.Test.YtacmaamllpiloaaGreatZ41
import Derived.Test.YtacmaamllpiloaaGreatZ08
import Derived.Test.YtacmaamllpiloaaGreatZ06
import Derived.Test.YtacmaamllpiloaaGreatZ29
import Derived.Test.YtacmaamllpiloaaGreatZ16
namespace Go.Proofs.YtacmaamllpiloaaGreat
open Go Go.Wk
set_option maxHeartbeats 3200000
set_option maxRecDepth 100000
instance de_stepc {a1 a2 a3 a4 a5 a6 : Int} {l : List Asrt} : De l (.agg [.int .i64 a1, .int .i64 a2, .int .i64 a3, .int .i64 a4, .int .i64 a5, .int .i64 a6].toArray) (StepC.mk a1 a2 a3 a4 a5 a6) := ⟨rfl⟩
attribute [local irreducible] BrK GenK EGenK EUnitK CallK FnK CallV GuardO GuardC CondW opX opK opKc chkR eqR seqK blkK endL WL WD W LoopW BinK Tr drewK resL PickK NotK NilK ExtrK getK Instr.storeAt Instr.loadAt Instr.fieldAt Instr.indexAt Instr.lookup Instr.mapUpdate Instr.box Instr.alloc Instr.build Instr.buildSlice Instr.makeSlice Instr.makeMap Instr.sliceAt Instr.field Instr.index Instr.makeInterface Instr.typeAssert Builtin.len_ Builtin.append_ Builtin.cap_ Builtin.min_ Builtin.max_ Builtin.copy_ Builtin.clear_ convert binOp mp blk rob sl sep ex fact old
attribute [local irreducible] memX portX objX slkO
section
variable {b : Nat} {C : CC} {c : CM} {w : CW} {gs : List TaskG} {mode win : Int}
theorem cloneE_ok {ro : Bool} {s : SV} {xs : List EvC} (hn : xs.length ≤ 1000000000) : Trip Tryz.prog 47 [s.v].toArray [sl ro s.v xs]
  fun v l' => ∃ s' : SV, v = s'.v ∧ l' = [sl false s'.v xs, sl ro s.v xs] := by
 intro F K hK
 simp only [List.cons_append, List.nil_append]
 (refine Tr.enter (rs := [.tmp 2]) mixed fn47 rfl (by simp +arith [Tryz.ntmps47]) fun u => ?_; simp only [cd47, Tryz.f47])
 have hX := @pl47.eq_def; repeat' (first | refine S.x ?_ | refine S.y ?_ ?_ | intro hb | fail)
 ·refine Tr.slNil (ro := ro) (xs := xs) hb fun hx => ?_
  subst hx
  refine Tr.nilSl (α := EvC) ?_
  refine Tr.fin hK ⟨⟨none, 0, 0⟩, rfl, rfl⟩ ?_
  exact S.E
 ·apply Tr.fin hK ⟨_, rfl, rfl⟩
  exact S.E
theorem cloneS_ok {s : SV} {xs : List StepC} (hn : xs.length ≤ 1000000000) : Trip Tryz.prog 58 [s.v].toArray [sl true s.v xs]
  fun v l' => ∃ s' : SV, v = s'.v ∧ l' = [sl false s'.v xs] := by
 intro F K hK
 simp only [List.cons_append, List.nil_append]
 (refine Tr.enter (rs := [.tmp 2]) mixed fn58 rfl (by simp +arith [Tryz.ntmps58]) fun u => ?_; simp only [cd58, Tryz.f58])
 have hX := @pl58.eq_def; repeat' (first | refine S.x ?_ | refine S.y ?_ ?_ | intro hb | fail)
 ·refine Tr.slNil (ro := true) (xs := xs) hb fun hx => ?_
  subst hx
  refine Tr.nilSl (α := StepC) ?_
  refine Tr.fin hK ⟨⟨none, 0, 0⟩, rfl, rfl⟩ ?_
  exact S.E
 ·apply Tr.fin hK ⟨_, rfl, rfl⟩
  exact S.E
theorem cevents_ok (hn : c.evs.length ≤ 1000000000) : Trip Tryz.prog 12 [ptr b].toArray [cellB b C mode win w, sl false w.ev.v c.evs]
  fun v l' => ∃ s' : SV, v = s'.v ∧ l' = [sl false s'.v c.evs, cellB b C mode win w, sl false w.ev.v c.evs] := by
 intro F K hK
 simp only [List.cons_append, List.nil_append]
 (refine Tr.enter (rs := [.tmp 2]) mixed fn12 rfl (by simp +arith [Tryz.ntmps12]) fun u => ?_; simp only [cd12, Tryz.f12])
 have hX := @pl12.eq_def; repeat' (first | refine S.x ?_ | (refine G.call 31 ?_; refine S.c ?_ (h := cdead_ok)) | (refine G.call 47 ?_; refine S.c ?_ (h := cloneE_ok (by assumption))) | rintro _ _ ⟨rfl, rfl⟩ | rintro _ _ ⟨_, rfl, rfl⟩ | fail)
 all_goals
  apply Tr.fin hK ⟨_, rfl, rfl⟩
  exact S.E
theorem cports_ok : Trip Tryz.prog 13 [ptr b].toArray [cellB b C mode win w]
  fun v l' => v = ptr w.pts ∧ l' = [cellB b C mode win w] := by
 intro F K hK
 simp only [List.cons_append, List.nil_append]
 (refine Tr.enter (rs := [.tmp 2]) mixed fn13 rfl (by simp +arith [Tryz.ntmps13]) fun u => ?_; simp only [cd13, Tryz.f13])
 have hX := @pl13.eq_def; repeat' (first | refine S.x ?_ | (refine G.call 31 ?_; refine S.c ?_ (h := cdead_ok)) | rintro _ _ ⟨rfl, rfl⟩ | fail)
 all_goals exact S.L
theorem cmems_ok : Trip Tryz.prog 14 [ptr b].toArray [cellB b C mode win w]
  fun v l' => v = ptr w.mem ∧ l' = [cellB b C mode win w] := by
 intro F K hK
 simp only [List.cons_append, List.nil_append]
 (refine Tr.enter (rs := [.tmp 2]) mixed fn14 rfl (by simp +arith [Tryz.ntmps14]) fun u => ?_; simp only [cd14, Tryz.f14])
 have hX := @pl14.eq_def; repeat' (first | refine S.x ?_ | (refine G.call 31 ?_; refine S.c ?_ (h := cdead_ok)) | rintro _ _ ⟨rfl, rfl⟩ | fail)
 all_goals exact S.L
theorem cwin_ok : Trip Tryz.prog 15 [ptr b].toArray [cellB b C mode win w]
  fun v l' => v = .int .i64 win ∧ l' = [cellB b C mode win w] := by
 intro F K hK
 simp only [List.cons_append, List.nil_append]
 (refine Tr.enter (rs := [.tmp 2]) mixed fn15 rfl (by simp +arith [Tryz.ntmps15]) fun u => ?_; simp only [cd15, Tryz.f15])
 have hX := @pl15.eq_def; repeat' (first | refine S.x ?_ | (refine G.call 31 ?_; refine S.c ?_ (h := cdead_ok)) | rintro _ _ ⟨rfl, rfl⟩ | fail)
 all_goals exact S.L
theorem cmode_ok : Trip Tryz.prog 16 [ptr b].toArray [cellB b C mode win w]
  fun v l' => v = .int .i64 mode ∧ l' = [cellB b C mode win w] := by
 intro F K hK
 simp only [List.cons_append, List.nil_append]
 (refine Tr.enter (rs := [.tmp 2]) mixed fn16 rfl (by simp +arith [Tryz.ntmps16]) fun u => ?_; simp only [cd16, Tryz.f16])
 have hX := @pl16.eq_def; repeat' (first | refine S.x ?_ | (refine G.call 31 ?_; refine S.c ?_ (h := cdead_ok)) | rintro _ _ ⟨rfl, rfl⟩ | fail)
 all_goals exact S.L
theorem cidler_ok : Trip Tryz.prog 57 [].toArray []
  fun v l' => ∃ s : SV, v = s.v ∧ l' = [sl false s.v [StepC.mk 1 3 0 0 0 0]] := by
 intro F K hK
 simp only [List.nil_append]
 (refine Tr.enter (rs := [.tmp 0]) mixed fn57 rfl (by simp +arith [Tryz.ntmps57]) fun u => ?_; simp only [cd57, Tryz.f57])
 have hX := @pl57.eq_def; repeat' (first | intro (sv : SV) | refine S.x ?_ | fail)
 all_goals exact Tr.fin hK ⟨sv, rfl, rfl⟩ S.E
end
end Go.Proofs.YtacmaamllpiloaaGreat
namespace Go.Proofs.YtacmaamllpiloaaGreat
open Go Go.Wk
instance : Fz RegC := ⟨fun p => sep (Fz.fz p.base) (sep (Fz.fz p.size) (sep (Fz.fz p.w) (fact True))), fun _ => dup_sep (Fz.dup _) (dup_sep (Fz.dup _) (dup_sep (Fz.dup _) (dup_fact _)))⟩
instance : Fz ProcC := ⟨fun p => sep (Fz.fz p.prio) (sep (Fz.fz p.period) (sep (Fz.fz p.cost) (fact True))), fun _ => dup_sep (Fz.dup _) (dup_sep (Fz.dup _) (dup_sep (Fz.dup _) (dup_fact _)))⟩
instance : Fz PortC := ⟨fun p => sep (Fz.fz p.q) (sep (Fz.fz p.i) (sep (Fz.fz p.size) (sep (Fz.fz p.depth) (fact True)))), fun _ => dup_sep (Fz.dup _) (dup_sep (Fz.dup _) (dup_sep (Fz.dup _) (dup_sep (Fz.dup _) (dup_fact _))))⟩
instance : Fz SemC := ⟨fun p => sep (Fz.fz p.first) (sep (Fz.fz p.most) (fact True)), fun _ => dup_sep (Fz.dup _) (dup_sep (Fz.dup _) (dup_fact _))⟩
instance : Fz PoolC := ⟨fun p => sep (Fz.fz p.size) (sep (Fz.fz p.depth) (fact True)), fun _ => dup_sep (Fz.dup _) (dup_sep (Fz.dup _) (dup_fact _))⟩
instance : Fz PartD := ⟨fun p => sep (Fz.fz p.regions) (sep (Fz.fz p.procs) (sep (Fz.fz p.ports) (sep (Fz.fz p.sems) (sep (Fz.fz p.flags) (sep (Fz.fz p.pools) (sep (Fz.fz p.slates) (sep (Fz.fz p.cap) (sep (Fz.fz p.budget) (sep (Fz.fz p.ladder) (sep (Fz.fz p.acts) (fact True))))))))))), fun _ => dup_sep (Fz.dup _) (dup_sep (Fz.dup _) (dup_sep (Fz.dup _) (dup_sep (Fz.dup _) (dup_sep (Fz.dup _) (dup_sep (Fz.dup _) (dup_sep (Fz.dup _) (dup_sep (Fz.dup _) (dup_sep (Fz.dup _) (dup_sep (Fz.dup _) (dup_sep (Fz.dup _) (dup_fact _)))))))))))⟩
end Go.Proofs.YtacmaamllpiloaaGreat
namespace Go.Proofs.YtacmaamllpiloaaGreat
open Go Go.Wk
instance : Fz StepC := ⟨fun p => sep (Fz.fz p.cycles) (sep (Fz.fz p.call) (sep (Fz.fz p.a) (sep (Fz.fz p.b) (sep (Fz.fz p.c) (sep (Fz.fz p.d) (fact True)))))), fun _ => dup_sep (Fz.dup _) (dup_sep (Fz.dup _) (dup_sep (Fz.dup _) (dup_sep (Fz.dup _) (dup_sep (Fz.dup _) (dup_sep (Fz.dup _) (dup_fact _))))))⟩
structure WinL where
 port : Int
 msgs : SL (SL UInt8)
 out : Int
instance inh_WinL : Inhabited WinL := ⟨⟨0, default, 0⟩⟩
instance en_WinL : En WinL := ⟨fun d => [.int .i64 d.port, d.msgs.s.v, .int .i64 d.out], 3, fun _ => rfl, fun _ => rfl, by decide⟩
instance : Fz WinL := ⟨fun p => sep (Fz.fz p.port) (sep (Fz.fz p.msgs) (sep (Fz.fz p.out) (fact True))), fun _ => dup_sep (Fz.dup _) (dup_sep (Fz.dup _) (dup_sep (Fz.dup _) (dup_fact _)))⟩
instance : FzD WinL := ⟨fun R w => sepI (FzD.h R w) (sepI (FzD.h R w) (sepI (FzD.h R w) (trivial)))⟩
structure LifeD where
 conf : PartD
 progs : SL (SL StepC)
 wins : SL WinL
instance en_LifeD : En LifeD := ⟨fun d => [d.conf.regions.s.v, d.conf.procs.s.v, d.conf.ports.s.v, d.conf.sems.s.v, .int .i64 d.conf.flags, d.conf.pools.s.v, d.conf.slates.s.v, .int .i64 d.conf.cap, .int .i64 d.conf.budget, .int .i64 d.conf.ladder, d.conf.acts.s.v, d.progs.s.v, d.wins.s.v], 13, fun _ => rfl, fun _ => rfl, by decide⟩
instance : Fz LifeD := ⟨fun p => sep (Fz.fz p.conf) (sep (Fz.fz p.progs) (sep (Fz.fz p.wins) (fact True))), fun _ => dup_sep (Fz.dup _) (dup_sep (Fz.dup _) (dup_sep (Fz.dup _) (dup_fact _)))⟩
instance (priority := 700) hasz_WinL_msgs {l : List Asrt} {x : WinL} [hz : HasZ l x] : HasZ l (WinL.msgs x) := ⟨hz.h.imp fun h => ⟨fun _ => False, sep_l (sep_r (Fz.dup x h))⟩⟩
end Go.Proofs.YtacmaamllpiloaaGreat
namespace Go.Proofs.YtacmaamllpiloaaGreat
open Go Go.Wk
set_option maxHeartbeats 3200000
set_option maxRecDepth 100000
instance elt_progs : ElT 49 (SL StepC) := ⟨⟩
def idleP : List StepC := [⟨1, 3, 0, 0, 0, 0⟩]
def progM (xs : List (SL StepC)) (k : Nat) : List StepC := if k < xs.length ∧ (ix xs (k : Int)).d ≠ [] then (ix xs (k : Int)).d else idleP
def progsM (xs : List (SL StepC)) (n : Nat) : List (List StepC) := (List.range n).map (progM xs)
def baseM (C : CC) : CM where
 mode := 3
 win := -1
 pos := List.replicate C.progs.length 0
 rest := List.replicate C.progs.length 0
 addr := List.replicate C.progs.length 0
 data := List.replicate C.progs.length []
 done := List.replicate C.progs.length false
 tb := Tb.new C.conf.procs.d
 mem := (C.conf.regions.d.take 4).map newR
 pts := newA C.conf.ports.d
 obs := newO C.conf
 slk := none
 evs := []
def newM (C : CC) : CM := startTo C (baseM C) 0 C.progs.length
section
variable {C : CC} {w : CW} {gs : List TaskG} {xs : List (SL StepC)} {n k : Nat}
theorem progsM_len : (progsM xs n).length = n := by simp [progsM]
theorem okM_base (hc : okC C) : okM C (baseM C) := by
 refine ⟨?_, List.length_replicate, List.length_replicate, List.length_replicate, List.length_replicate, List.length_replicate, fun k => ?_, fun x hx => ?_, fun x hx => ?_⟩
 ·show ((C.conf.procs.d.take 8).map One.new).length = _
  rw [List.length_map, List.length_take, hc.np]
  exact Nat.min_eq_right hc.n8
 ·by_cases hk : inR C.progs k
  ·left
   have e : ix (List.replicate C.progs.length (0 : Int)) k = 0 := by
    unfold ix
    rw [List.getD_eq_getElem?_getD, List.getElem?_replicate]
    split <;> rfl
   show 0 ≤ ix (List.replicate C.progs.length (0 : Int)) k ∧ ix (List.replicate C.progs.length (0 : Int)) k < _
   rw [e]
   have := (prog_len hc hk).1
   exact ⟨by decide, by omega⟩
  ·exact .inr hk
 ·rw [List.eq_of_mem_replicate hx]; exact ⟨by decide, by decide⟩
 ·rw [List.eq_of_mem_replicate hx]; exact Nat.zero_le _
theorem base_state (j : Int) : ¬ waitD ((baseM C).tb.at j) := by
 intro h
 have h1 : ((Tb.new C.conf.procs.d).at j).state = 2 := h.1
 unfold Tb.new Tb.at at h1
 split at h1
 ·rw [List.getD_eq_getElem?_getD, List.getElem?_map] at h1
  cases hx : (C.conf.procs.d.take 8)[j.toNat]? with
  | none => rw [hx] at h1; exact absurd (show (0 : Int) = 2 from h1) (by decide)
  | some y => rw [hx] at h1; exact absurd (show (0 : Int) = 2 from h1) (by decide)
 ·exact absurd (show (0 : Int) = 2 from h1) (by decide)
def TaskG.fresh (b : Nat) (s : SV) (p : List StepC) : TaskG := ⟨b, s, p, 0, 0, 0, ⟨none, 0, 0⟩, [], false⟩
structure isFresh (g : TaskG) : Prop where
 pos : g.pos = 0
 rest : g.rest = 0
 addr : g.addr = 0
 done : g.done = false
theorem map_fresh {β : Type} {f : TaskG → β} {y : β} (h : ∀ g ∈ gs, f g = y) : gs.map f = List.replicate gs.length y := by
 rw [List.eq_replicate_iff]
 refine ⟨List.length_map _, fun b hb => ?_⟩
 obtain ⟨g, hg, rfl⟩ := List.mem_map.1 hb
 exact h g hg
theorem rel_base (hc : okC C) (hp : gs.map TaskG.prog = C.progs) (hf : ∀ g ∈ gs, isFresh g) (hs : w.slk = none) : Rel C (baseM C) w gs := by
 have hl : gs.length = C.progs.length := by rw [← hp, List.length_map]
 refine ⟨okM_base hc, hp, ?_, ?_, ?_, ?_, fun k _ hw => absurd hw (base_state k), by rw [hs]; rfl⟩
 ·rw [map_fresh fun g hg => (hf g hg).pos, hl]; rfl
 ·rw [map_fresh fun g hg => (hf g hg).rest, hl]; rfl
 ·rw [map_fresh fun g hg => (hf g hg).addr, hl]; rfl
 ·rw [map_fresh fun g hg => (hf g hg).done, hl]; rfl
end
attribute [local irreducible] BrK GenK EGenK EUnitK CallK FnK CallV GuardO GuardC CondW opX opK opKc chkR eqR seqK blkK endL WL WD W LoopW BinK Tr drewK resL PickK NotK NilK ExtrK getK Instr.storeAt Instr.loadAt Instr.fieldAt Instr.indexAt Instr.lookup Instr.mapUpdate Instr.box Instr.alloc Instr.build Instr.buildSlice Instr.makeSlice Instr.makeMap Instr.sliceAt Instr.field Instr.index Instr.makeInterface Instr.typeAssert Builtin.len_ Builtin.append_ Builtin.cap_ Builtin.min_ Builtin.max_ Builtin.copy_ Builtin.clear_ convert binOp mp blk rob sl sep ex fact old
attribute [local irreducible] memX portX objX slkO
section
variable {C : CC} {xs : List (SL StepC)} {s2 : SV} {u0 : Value}
theorem cnew_ok [hu : DeA u0 C.conf] (hc : okC C) (hp : C.progs = progsM xs C.progs.length) : Trip Tryz.prog 19 [u0, .int .i64 C.part, s2.v].toArray
  [sl true C.conf.regions.s.v C.conf.regions.d, sl true C.conf.procs.s.v C.conf.procs.d, sl true C.conf.ports.s.v C.conf.ports.d, sl true C.conf.sems.s.v C.conf.sems.d, sl true C.conf.pools.s.v C.conf.pools.d, sl true C.conf.slates.s.v C.conf.slates.d, sl true C.conf.acts.s.v C.conf.acts.d, sl true s2.v xs, fzl xs]
  fun v l' => ∃ b w gs, Rel C (newM C) w gs ∧ v = ptr b ∧ l' = cellL b C (newM C) w gs := by
 intro F K hK
 simp only [List.cons_append, List.nil_append] at hK ⊢
 obtain rfl := hu.h
 have h8 := hc.n8
 have hrz := hc.rz
 have hod := hc.od
 (refine Tr.enter (rs := [.tmp 6]) mixed fn19 rfl (by simp +arith [Tryz.ntmps19]) fun u => ?_; simp only [cd19, Tryz.f19])
 have hX := @pl19.eq_def; repeat' (first | rintro _ _ ⟨rfl, rfl⟩ | rintro _ _ ⟨_, rfl, rfl⟩ | (refine G.call 54 ?_; refine S.c ?_ (h := xonew_ok (c := C.conf) (hu := ⟨rfl⟩) hc.dep)) | refine S.x ?_ | (refine G.call 51 ?_; refine S.c ?_ (h := new_ok _ _)) | (refine G.call 52 ?_; refine S.c ?_ (h := xmnew_ok (by assumption))) | (refine G.call 53 ?_; first | refine S.c ?_ (h := xpnew_ok (by assumption)) | fail) | (refine G.call 55 ?_; refine S.c ?_ (h := mnew_ok)) | (refine G.call 56 ?_; refine S.c ?_ (h := len_ok _ _)) | intro hb | fail)
 rename_i a1 a2 a3 a4 a5
 revert hb
 intro cbk
 obtain ⟨w0, hw0⟩ : ∃ w0 : CW, w0 = ⟨⟨none, 0, 0⟩, a1, a2, a3, a4, a5, none, ⟨none, 0, 0⟩⟩ := ⟨_, rfl⟩
 have hen : (((((((((setL [Value.slice none 0 0, Value.slice none 0 0, Value.slice none 0 0, Value.slice none 0 0, Value.int IntKind.i64 0, Value.slice none 0 0, Value.slice none 0 0, Value.int IntKind.i64 0, Value.int IntKind.i64 0, Value.int IntKind.i64 0, Value.slice none 0 0, Value.int IntKind.i64 0, Value.int IntKind.i64 0, Value.int IntKind.i64 0, Value.slice none 0 0, Value.pointer none, Value.pointer none, Value.pointer none, Value.pointer none, Value.pointer none, Value.pointer none, Value.slice none 0 0]
  0 (En.enc C.conf)).set 11 (Value.int IntKind.i64 C.part)).set 12 (Value.int IntKind.i64 3)).set 13 (Value.int IntKind.i64 (-1))).set 15 (ptr a1)).set 16 (ptr a2)).set 17 (ptr a3)).set 18 (ptr a4)).set 19 (ptr a5)) = [C.conf.regions.s.v, C.conf.procs.s.v, C.conf.ports.s.v, C.conf.sems.s.v, .int .i64 C.conf.flags, C.conf.pools.s.v, C.conf.slates.s.v, .int .i64 C.conf.cap, .int .i64 C.conf.budget, .int .i64 C.conf.ladder, C.conf.acts.s.v,
 .int .i64 C.part, .int .i64 3, .int .i64 (-1), w0.ts.v, ptr w0.tb, ptr w0.mem, ptr w0.pts, ptr w0.obs, ptr w0.mon, slP w0.slk, w0.ev.v] := by rw [hw0]; rfl
 rw [hen]
 clear hen
 have htn : (Tb.new C.conf.procs.d).d.length = C.progs.length := by
  show ((C.conf.procs.d.take 8).map One.new).length = _
  rw [List.length_map, List.length_take, hc.np]
  exact Nat.min_eq_right h8
 have hw1 : w0.ts = ⟨none, 0, 0⟩ ∧ w0.tb = a1 ∧ w0.mem = a2 ∧ w0.pts = a3 ∧ w0.obs = a4 ∧ w0.mon = a5 ∧ w0.slk = none ∧ w0.ev = ⟨none, 0, 0⟩ := by rw [hw0]; exact ⟨rfl, rfl, rfl, rfl, rfl, rfl, rfl, rfl⟩
 clear hw0
 obtain ⟨t1, t2, t3, t4, t5, t6, t7, t8⟩ := hw1
 refine Tr.loopE (α := Nat × SV × List TaskG) [34] [2, 6, 7, 33] (fun x => [.int .i64 x.1]) (fun x => [cellB cbk C 3 (-1) { w0 with ts := x.2.1 }, sl false x.2.1.v (x.2.2.map TaskG.pt), fam taskA x.2.2]) (fun x => x.1 ≤ C.progs.length ∧ x.2.2.length = x.1 ∧ x.2.2.map TaskG.prog = C.progs.take x.1 ∧ ∀ g ∈ x.2.2, isFresh g) (fun x => C.progs.length - x.1) (0, w0.ts, []) (by rw [t1]; exact S.T) rfl ⟨Nat.zero_le _, rfl, rfl, fun _ h => by cases h⟩ fun x u hx => ?_
 obtain ⟨k, ts, gs⟩ := x
 obtain ⟨hk, hl, hm, hfr⟩ := hx
 simp only at hk hl hm hfr ⊢
 simp only [List.cons_append, List.nil_append]
 have hlm : (gs.map TaskG.pt).length = k := by rw [List.length_map]; exact hl
 by_cases hin : k < C.progs.length
 ·have hw := wrapSucc (k := k) (by omega)
  have hpk : ix C.progs (k : Int) = progM xs k := by
   rw [hp]; unfold progsM
   rw [ix_map (by omega) (by simp; exact_mod_cast hin)]
   congr 1
   simp [ix, hin]
  by_cases hq : k < xs.length
  ·by_cases he : (ix xs (k : Int)).d = []
   ·have hd0 : (ix xs (k : Int)).d.length = 0 := by rw [he]; rfl
    have he' := he
    clear he
    have hX := And.intro @pl19.eq_def (And.intro hw hd0); repeat' (first | rintro _ _ ⟨si, rfl, rfl⟩ | intro (nc : Nat) | intro (sv : SV) | refine S.x ?_ | (refine G.call 57 ?_; refine S.c ?_ (h := cidler_ok)) | intro hb | fail)
    all_goals
     refine Tr.freezeAt (v := si.v) (xs := idleP) S.K ?_
     have hpk' : progM xs k = idleP := by unfold progM; rw [if_neg (fun h => h.2 he')]
     have hm' : (gs ++ [TaskG.fresh nc si (idleP)]).map TaskG.prog = C.progs.take (k + 1) := by rw [take_ix hin, List.map_append, hm, hpk, hpk']; rfl
     have hln : (gs ++ [TaskG.fresh nc si (idleP)]).length = k + 1 := by rw [List.length_append, hl]; rfl
     have hfr' : ∀ g ∈ gs ++ [TaskG.fresh nc si (idleP)], isFresh g := fun g hg => by
      rcases List.mem_append.1 hg with h | h
      ·exact hfr g h
      ·rw [List.mem_singleton.1 h]; exact ⟨rfl, rfl, rfl, rfl⟩
     have hpt : (gs ++ [TaskG.fresh nc si (idleP)]).map TaskG.pt = gs.map TaskG.pt ++ [Pt.mk (some nc)] := by rw [List.map_append]; rfl
     have hta : taskA (TaskG.fresh nc si (idleP)) = sep (blk nc (.cells [si.v, .int .i64 0, .int .i64 0, .int .i64 0, .slice none 0 0, .bool false].toArray 82 (0, 0))) (sep (sl true si.v (idleP)) (sl true (.slice none 0 0) ([] : List UInt8))) := rfl
     clear hm hfr hl
     have hX := And.intro hpt hta
     exact S.R ((k + 1, sv, gs ++ [TaskG.fresh nc si (idleP)]) : Nat × SV × List TaskG)
   ·have hd0 : 0 < (ix xs (k : Int)).d.length := List.length_pos_iff.2 he
    have hdl : (ix xs (k : Int)).d.length ≤ 1000000000 := by
     have h1 := hc.pr _ (progs_in (xs := C.progs) (k := (k : Int)) ⟨by omega, by omega⟩)
     rw [hpk] at h1
     unfold progM at h1
     rw [if_pos ⟨hq, he⟩] at h1
     have := h1.2.1
     omega
    have he' := he
    clear he
    have hX := And.intro @pl19.eq_def hw; repeat' (first | rintro _ _ ⟨si, rfl, rfl⟩ | intro (nc : Nat) | intro (sv : SV) | refine S.x ?_ | (refine G.call 57 ?_; refine S.c ?_ (h := cidler_ok)) | (refine G.call 58 ?_; refine S.c ?_ (h := cloneS_ok (by assumption))) | intro hb | fail)
    all_goals
     refine Tr.freezeAt (v := si.v) (xs := (ix xs (k : Int)).d) S.K ?_
     have hpk' : progM xs k = (ix xs (k : Int)).d := by unfold progM; rw [if_pos ⟨hq, he'⟩]
     have hm' : (gs ++ [TaskG.fresh nc si ((ix xs (k : Int)).d)]).map TaskG.prog = C.progs.take (k + 1) := by rw [take_ix hin, List.map_append, hm, hpk, hpk']; rfl
     have hln : (gs ++ [TaskG.fresh nc si ((ix xs (k : Int)).d)]).length = k + 1 := by rw [List.length_append, hl]; rfl
     have hfr' : ∀ g ∈ gs ++ [TaskG.fresh nc si ((ix xs (k : Int)).d)], isFresh g := fun g hg => by
      rcases List.mem_append.1 hg with h | h
      ·exact hfr g h
      ·rw [List.mem_singleton.1 h]; exact ⟨rfl, rfl, rfl, rfl⟩
     have hpt : (gs ++ [TaskG.fresh nc si ((ix xs (k : Int)).d)]).map TaskG.pt = gs.map TaskG.pt ++ [Pt.mk (some nc)] := by rw [List.map_append]; rfl
     have hta : taskA (TaskG.fresh nc si ((ix xs (k : Int)).d)) = sep (blk nc (.cells [si.v, .int .i64 0, .int .i64 0, .int .i64 0, .slice none 0 0, .bool false].toArray 82 (0, 0))) (sep (sl true si.v ((ix xs (k : Int)).d)) (sl true (.slice none 0 0) ([] : List UInt8))) := rfl
     clear hm hfr hl
     have hX := And.intro hpt hta
     exact S.R ((k + 1, sv, gs ++ [TaskG.fresh nc si ((ix xs (k : Int)).d)]) : Nat × SV × List TaskG)
  ·have hX := And.intro @pl19.eq_def hw; repeat' (first | rintro _ _ ⟨si, rfl, rfl⟩ | intro (nc : Nat) | intro (sv : SV) | refine S.x ?_ | (refine G.call 57 ?_; refine S.c ?_ (h := cidler_ok)) | fail)
   all_goals
    refine Tr.freezeAt (v := si.v) (xs := idleP) S.K ?_
    have hpk' : progM xs k = idleP := by unfold progM; rw [if_neg (fun h => hq h.1)]
    have hm' : (gs ++ [TaskG.fresh nc si (idleP)]).map TaskG.prog = C.progs.take (k + 1) := by rw [take_ix hin, List.map_append, hm, hpk, hpk']; rfl
    have hln : (gs ++ [TaskG.fresh nc si (idleP)]).length = k + 1 := by rw [List.length_append, hl]; rfl
    have hfr' : ∀ g ∈ gs ++ [TaskG.fresh nc si (idleP)], isFresh g := fun g hg => by
     rcases List.mem_append.1 hg with h | h
     ·exact hfr g h
     ·rw [List.mem_singleton.1 h]; exact ⟨rfl, rfl, rfl, rfl⟩
    have hpt : (gs ++ [TaskG.fresh nc si (idleP)]).map TaskG.pt = gs.map TaskG.pt ++ [Pt.mk (some nc)] := by rw [List.map_append]; rfl
    have hta : taskA (TaskG.fresh nc si (idleP)) = sep (blk nc (.cells [si.v, .int .i64 0, .int .i64 0, .int .i64 0, .slice none 0 0, .bool false].toArray 82 (0, 0))) (sep (sl true si.v (idleP)) (sl true (.slice none 0 0) ([] : List UInt8))) := rfl
    clear hm hfr hl
    have hX := And.intro hpt hta
    exact S.R ((k + 1, sv, gs ++ [TaskG.fresh nc si (idleP)]) : Nat × SV × List TaskG)
 ·have hke : k = C.progs.length := by omega
  rw [hke, List.take_length] at hm
  have hrb := rel_base (w := { w0 with ts := ts }) hc hm hfr t7
  subst t2 t3 t4 t5 t6
  have hso : slkO none none = fact True := by rw [slkO.eq_def]
  obtain ⟨cb, hcb⟩ : ∃ cb, cb = baseM C := ⟨_, rfl⟩
  refine Tr.nilSl (α := EvC) ?_
  refine Tr.imp (l' := cellL cbk C cb { w0 with ts := ts } gs ++ F) ?_ ?_
  ·subst hcb
   simp only [List.cons_append, List.nil_append]
   have hX := And.intro t8 (And.intro hso @baseM.eq_def)
   clear hfr hm hp hrb
   show EntR [] _ _
   exact S.E
  rw [← hcb] at hrb
  have hN : newM C = startTo C cb 0 C.progs.length := by rw [hcb]; rfl
  rw [hN] at hK
  have hns : ∀ j, ¬ waitD (cb.tb.at j) := fun j => by rw [hcb]; exact base_state j
  have hl2 : (gs.map TaskG.pt).length = C.progs.length := by rw [List.length_map, rel_len hrb]
  clear hcb hN hp hm hfr hl hlm t1 t7 t8 hso
  obtain ⟨w1, hw1⟩ : ∃ w1 : CW, w1 = { w0 with ts := ts } := ⟨_, rfl⟩
  rw [← hw1] at hrb ⊢
  clear hw1
  simp only [List.cons_append, List.nil_append]
  have hX := And.intro @pl19.eq_def hl2; repeat' (first | refine S.x ?_ | fail)
  refine Tr.loopE (α := Nat × List TaskG) [76] [6, 7, 75] (fun x => [.int .i64 x.1]) (fun x => cellL cbk C (startTo C cb 0 x.1) w1 x.2) (fun x => x.1 ≤ C.progs.length ∧ Rel C (startTo C cb 0 x.1) w1 x.2) (fun x => C.progs.length - x.1) (0, gs) S.T rfl ⟨Nat.zero_le _, hrb⟩ fun y u2 hy => ?_
  obtain ⟨j, g4⟩ := y
  obtain ⟨hj, hrj⟩ := hy
  simp only at hj hrj ⊢
  simp only [List.cons_append, List.nil_append]
  by_cases hjn : j < C.progs.length
  ·have hw := wrapSucc (k := j) (by omega)
   have hkj : inR C.progs (j : Int) := ⟨by omega, by omega⟩
   have hnj : ¬ waitD ((startTo C cb 0 j).tb.at (j : Int)) := fun h => hns _ (startTo_noNew j _ h)
   have hst : startM C (startTo C cb 0 j) (j : Int) 0 = startTo C cb 0 (j + 1) := rfl
   have hX := And.intro @pl19.eq_def (And.intro hw hl2); repeat' (first | rintro _ _ ⟨g5, hr5, rfl, rfl⟩ | (refine G.call 59 ?_; refine S.c ?_ (h := cstart_ok hc hrj hkj hnj)) | refine S.x ?_ | fail)
   all_goals
    rw [hst] at hr5
    have hX := hst
    clear hrj hns
    exact S.R ((j + 1, g5) : Nat × List TaskG)
  ·have hje : j = C.progs.length := by omega
   subst hje
   have hX := And.intro @pl19.eq_def hl2; repeat' (first | refine S.x ?_ | fail)
   all_goals exact Tr.fin hK ⟨_, w1, g4, hrj, rfl, rfl⟩ S.E
end
end Go.Proofs.YtacmaamllpiloaaGreat
namespace Go.Proofs.YtacmaamllpiloaaGreat
open Go Go.Wk
set_option maxHeartbeats 3200000
set_option maxRecDepth 100000
structure RW where
 pg : SV
 pa : SV
 re : SV
 ad : SV
 da : SV
 dn : SV
 tb : Nat
 mem : Nat
 pts : Nat
 obs : Nat
 slk : Option Nat
 ev : SV
 px : List (SL StepC)
 dx : List (SL UInt8)
def rslkO (o : Option Nat) (m : Option SlM) : Asrt := match o, m with
 | some b, some m => rslkX b m
 | _, _ => fact True
abbrev rcellB (r : Nat) (C : CC) (mode win : Int) (w : RW) : Asrt := blk r (.cells [C.conf.regions.s.v, C.conf.procs.s.v, C.conf.ports.s.v, C.conf.sems.s.v, .int .i64 C.conf.flags, C.conf.pools.s.v, C.conf.slates.s.v, .int .i64 C.conf.cap, .int .i64 C.conf.budget, .int .i64 C.conf.ladder, C.conf.acts.s.v,
 .int .i64 C.part, .int .i64 mode, .int .i64 win, w.pg.v, w.pa.v, w.re.v, w.ad.v, w.da.v, w.dn.v, ptr w.tb, ptr w.mem, ptr w.pts, ptr w.obs, slP w.slk, w.ev.v].toArray 75 (0, 0))
abbrev rcellL (r : Nat) (C : CC) (c : CM) (w : RW) : List Asrt := [rcellB r C c.mode c.win w, sl false w.pg.v w.px, fzl w.px, sl false w.pa.v c.pos, sl false w.re.v c.rest, sl false w.ad.v c.addr, sl false w.da.v w.dx, fzl w.dx, sl false w.dn.v c.done, refA w.tb c.tb, rmemX w.mem c.mem, rportX w.pts c.pts, robjX w.obs C.conf c.obs, rslkO w.slk c.slk, sl false w.ev.v c.evs, sl true C.conf.procs.s.v C.conf.procs.d, sl true C.conf.acts.s.v C.conf.acts.d]
structure Rrel (C : CC) (c : CM) (w : RW) : Prop where
 ok : okM C c
 hp : w.px.map SL.d = C.progs
 hd : w.dx.map SL.d = c.data
 hs : w.slk.isSome = c.slk.isSome
attribute [local irreducible] BrK GenK EGenK EUnitK CallK FnK CallV GuardO GuardC CondW opX opK opKc chkR eqR seqK blkK endL WL WD W LoopW BinK Tr drewK resL PickK NotK NilK ExtrK getK Instr.storeAt Instr.loadAt Instr.fieldAt Instr.indexAt Instr.lookup Instr.mapUpdate Instr.box Instr.alloc Instr.build Instr.buildSlice Instr.makeSlice Instr.makeMap Instr.sliceAt Instr.field Instr.index Instr.makeInterface Instr.typeAssert Builtin.len_ Builtin.append_ Builtin.cap_ Builtin.min_ Builtin.max_ Builtin.copy_ Builtin.clear_ convert binOp mp blk rob sl sep ex fact old
attribute [local irreducible] rmemX rportX robjX rslkO refA
section
variable {r : Nat} {C : CC} {c : CM} {w : RW} {k call code value : Int}
theorem rints_ok {s : SV} {xs : List Int} {n : Int} (hk : inR xs k) (hl : xs.length ≤ 1000000) : Trip Tryz.prog 84 [s.v, .int .i64 k, .int .i64 n].toArray [sl false s.v xs]
  fun v l' => ∃ s' : SV, v = s'.v ∧ l' = [sl false s'.v (xs.set k.toNat n)] := by
 intro F K hK
 simp only [List.cons_append, List.nil_append]
 obtain ⟨h0, h1⟩ := hk
 (refine Tr.enter (rs := [.tmp 6]) mixed fn84 rfl (by simp +arith [Tryz.ntmps84]) fun u => ?_; simp only [cd84, Tryz.f84])
 have hX := @pl84.eq_def; repeat' (first | intro (sv : SV) | refine S.x ?_ | intro hb | fail)
 all_goals exact Tr.fin hK ⟨sv, rfl, rfl⟩ S.E
end
end Go.Proofs.YtacmaamllpiloaaGreat
