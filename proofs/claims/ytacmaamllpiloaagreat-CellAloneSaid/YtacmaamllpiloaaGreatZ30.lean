import Derived.Test.YtacmaamllpiloaaGreatZ29
namespace Go.Proofs.YtacmaamllpiloaaGreat
open Go Go.Wk
set_option maxHeartbeats 3200000
set_option maxRecDepth 100000
theorem atM_in {p : List StepC} {i : Int} (h0 : 0 ≤ i) (h1 : i ≤ p.length) (hp : 0 < p.length) : 0 ≤ atM p i ∧ atM p i < p.length ∧ Int.tmod i p.length = atM p i := by
 unfold atM
 rw [Int.tmod_eq_emod_of_nonneg h0]
 by_cases h : (p.length : Int) ≤ i
 ·rw [if_pos h]
  have : i = p.length := by omega
  subst this
  refine ⟨by omega, by omega, ?_⟩
  exact Int.emod_self
 ·rw [if_neg h]
  exact ⟨h0, by omega, Int.emod_eq_of_lt h0 (by omega)⟩
def TaskG.to (g : TaskG) (i : Int) : TaskG := { g with pos := atM g.prog i, rest := clampC (ix g.prog (atM g.prog i)).cycles }
attribute [local irreducible] BrK GenK EGenK EUnitK CallK FnK CallV GuardO GuardC CondW opX opK opKc chkR eqR seqK blkK endL WL WD W LoopW BinK Tr drewK resL PickK NotK NilK ExtrK getK Instr.storeAt Instr.loadAt Instr.fieldAt Instr.indexAt Instr.lookup Instr.mapUpdate Instr.box Instr.alloc Instr.build Instr.buildSlice Instr.makeSlice Instr.makeMap Instr.sliceAt Instr.field Instr.index Instr.makeInterface Instr.typeAssert Builtin.len_ Builtin.append_ Builtin.cap_ Builtin.min_ Builtin.max_ Builtin.copy_ Builtin.clear_ convert binOp mp blk rob sl sep ex fact old
attribute [local irreducible] slkO memX portX objX
section
variable {g : TaskG} {i : Int}
theorem tstep_ok (h0 : 0 ≤ g.pos) (h1 : g.pos < g.prog.length) : Trip Tryz.prog 44 [ptr g.b].toArray [taskB g, sl true g.ps.v g.prog]
  fun v l' => v = .agg (En.enc (ix g.prog g.pos)).toArray ∧ l' = [taskB g, sl true g.ps.v g.prog] := by
 intro F K hK
 simp only [List.cons_append, List.nil_append]
 (refine Tr.enter (rs := [.cell 2 86]) mixed fn44 rfl (by simp +arith [Tryz.ntmps44]) fun u => ?_; simp only [cd44, Tryz.f44])
 have hX := @pl44.eq_def; repeat' (first | refine S.x ?_ | intro hb | fail)
 all_goals exact Tr.fin hK ⟨rfl, rfl⟩ S.E
theorem tset_ok (h0 : 0 ≤ i) (h1 : i ≤ g.prog.length) (hp : 0 < g.prog.length) : Trip Tryz.prog 45 [ptr g.b, .int .i64 i].toArray [taskB g, sl true g.ps.v g.prog]
  fun v l' => v = .tuple #[] ∧ l' = [taskB (g.to i), sl true g.ps.v g.prog] := by
 intro F K hK
 simp only [List.cons_append, List.nil_append]
 obtain ⟨a0, a1, a2⟩ := atM_in h0 h1 hp
 have hcl : ∀ n : Int, (if n < 1 then 1 else if 1073741824 < n then 1073741824 else n) = clampC n := fun n => rfl
 unfold TaskG.to at hK
 generalize atM g.prog i = j at *
 (refine Tr.enter (rs := []) mixed fn45 rfl (by simp +arith [Tryz.ntmps45]) fun u => ?_; simp only [cd45, Tryz.f45])
 have hX := And.intro @pl45.eq_def (And.intro @a2 hcl); repeat' (first | rintro _ _ ⟨rfl, rfl⟩ | (refine G.call 44 ?_; refine S.c ?_ (h := tstep_ok (g := { g with pos := j }) a0 a1)) | refine S.x ?_ | (refine G.call 104 ?_; refine S.c ?_ (h := clamp_ok)) | fail)
 all_goals exact Tr.fin hK ⟨rfl, rfl⟩ S.E
end
section
variable {b : Nat} {C : CC} {c : CM} {w : CW} {gs : List TaskG} {k i : Int}
theorem prog_ix (h : Rel C c w gs) (hk : inR C.progs k) : (ix gs k).prog = ix C.progs k := by
 have hg := rel_in h hk
 rw [← h.hp, ix_map (f := TaskG.prog) hg.1 hg.2]
theorem progs_in {xs : List (List StepC)} (hk : inR xs k) : ix xs k ∈ xs := List.mem_of_getElem? (ix_some hk.1 hk.2)
theorem prog_len (hc : okC C) (hk : inR C.progs k) : 0 < (ix C.progs k).length ∧ (ix C.progs k).length ≤ 1000000 := by
 have h := hc.pr _ (progs_in hk)
 exact ⟨List.length_pos_iff.2 h.1, h.2.1⟩
theorem okM_to (hc : okC C) (h : okM C c) (hk : inR C.progs k) (h0 : 0 ≤ i) (h1 : i ≤ (ix C.progs k).length) : okM C (toM C c k i) := by
 obtain ⟨a0, a1, _⟩ := atM_in h0 h1 (prog_len hc hk).1
 have hkp : inR c.pos k := by unfold inR at *; rw [h.pos]; exact hk
 refine ⟨h.tb, by simpa [toM] using h.pos, by simpa [toM] using h.rest, h.addr, h.data, h.done, fun j => ?_, h.ad, h.dl⟩
 by_cases hj : inR C.progs j
 ·left
  show 0 ≤ ix (c.pos.set k.toNat _) j ∧ ix (c.pos.set k.toNat _) j < _
  rw [ix_setR hkp hj.1]
  by_cases e : j = k
  ·subst e; rw [if_pos rfl]; exact ⟨a0, a1⟩
  ·rw [if_neg e]
   rcases h.pi j with h' | h'
   ·exact h'
   ·exact absurd hj h'
 ·exact .inr hj
theorem rel_to (hc : okC C) (h : Rel C c w gs) (hk : inR C.progs k) (h0 : 0 ≤ i) (h1 : i ≤ (ix C.progs k).length) : Rel C (toM C c k i) w (gs.set k.toNat ((ix gs k).to i)) := by
 have hg := rel_in h hk
 have hp := prog_ix h hk
 refine ⟨okM_to hc h.ok hk h0 h1, (map_setE (f := TaskG.prog) hg (by rfl)).trans h.hp, ?_, ?_, (map_setE (f := TaskG.addr) hg (by rfl)).trans h.ha, (map_setE (f := TaskG.done) hg (by rfl)).trans h.hd, fun j hj hw => ?_, h.hs⟩
 ·rw [List.map_set, h.hi]
  show c.pos.set k.toNat (atM (ix gs k).prog i) = _
  rw [hp]; rfl
 ·rw [List.map_set, h.hr]
  show c.rest.set k.toNat (clampC (ix (ix gs k).prog (atM (ix gs k).prog i)).cycles) = _
  rw [hp]; rfl
 ·have hj' : inR gs j := by unfold inR at *; simpa using hj
  rw [ix_setR hg hj'.1]
  by_cases e : j = k
  ·rw [if_pos e]
   subst e
   exact h.hw j hj' hw
  ·rw [if_neg e]; exact h.hw j hj' hw
end
end Go.Proofs.YtacmaamllpiloaaGreat
namespace Go.Proofs.YtacmaamllpiloaaGreat
open Go Go.Wk
set_option maxHeartbeats 3200000
set_option maxRecDepth 100000
section
variable {b : Nat} {C : CC} {c : CM} {w : CW} {gs : List TaskG} {k win : Int}
def TaskG.st (g : TaskG) : TaskG := { g.to 0 with ds := ⟨none, 0, 0⟩, dd := [] }
theorem rel_park (h : Rel C c w gs) : Rel C (parkM c k) w gs := rel_tb h park_len park_noNew
theorem rel_start (hc : okC C) (h : Rel C c w gs) (hk : inR C.progs k) (hn : ¬ waitD (c.tb.at k)) : Rel C (startM C c k win) w (gs.set k.toNat (ix gs k).st) := by
 have h1 : Rel C (toM C c k 0) w (gs.set k.toNat ((ix gs k).to 0)) := rel_to hc h hk (by decide) (by omega)
 have h2 : Rel C { toM C c k 0 with tb := (toM C c k 0).tb.start k win } w (gs.set k.toNat ((ix gs k).to 0)) := rel_tb h1 start_len start_noNew
 have hg := rel_in h hk
 have hg2 : inR (gs.set k.toNat ((ix gs k).to 0)) k := by unfold inR at *; simpa using hg
 have h3 := rel_nil (s := ⟨none, 0, 0⟩) (d := []) h2 hg2 (fun hw => hn (start_noNew (t := c.tb) _ hw))
 rw [ix_setR hg hg.1, if_pos rfl, List.set_set] at h3
 unfold startM
 simp only
 split
 ·exact rel_park h3
 ·exact h3
end
attribute [local irreducible] BrK GenK EGenK EUnitK CallK FnK CallV GuardO GuardC CondW opX opK opKc chkR eqR seqK blkK endL WL WD W LoopW BinK Tr drewK resL PickK NotK NilK ExtrK getK Instr.storeAt Instr.loadAt Instr.fieldAt Instr.indexAt Instr.lookup Instr.mapUpdate Instr.box Instr.alloc Instr.build Instr.buildSlice Instr.makeSlice Instr.makeMap Instr.sliceAt Instr.field Instr.index Instr.makeInterface Instr.typeAssert Builtin.len_ Builtin.append_ Builtin.cap_ Builtin.min_ Builtin.max_ Builtin.copy_ Builtin.clear_ convert binOp mp blk rob sl sep ex fact old
attribute [local irreducible] slkO memX portX objX
section
variable {b : Nat} {C : CC} {c : CM} {w : CW} {gs : List TaskG} {k win : Int}
theorem cstart_ok (hc : okC C) (hr : Rel C c w gs) (hk : inR C.progs k) (hn : ¬ waitD (c.tb.at k)) : Trip Tryz.prog 59 [ptr b, .int .i64 k, .int .i64 win].toArray (cellL b C c w gs)
  fun v l' => ∃ gs2, Rel C (startM C c k win) w gs2 ∧ v = .tuple #[] ∧ l' = cellL b C (startM C c k win) w gs2 := by
 intro F K hK
 simp only [List.cons_append, List.nil_append] at hK ⊢
 have hrel := rel_start (win := win) hc hr hk hn
 have hkg := rel_in hr hk
 obtain ⟨h0, h1⟩ := hkg
 have hm := ix_map (f := TaskG.pt) (xs := gs) (k := k) h0 h1
 have hlm : (gs.map TaskG.pt).length = gs.length := List.length_map _
 have hpt : (gs.set k.toNat (ix gs k).st).map TaskG.pt = gs.map TaskG.pt := map_setE ⟨h0, h1⟩ (by rfl)
 have hpl := prog_len hc hk
 rw [← prog_ix hr hk] at hpl
 have hz : (0 : Int) ≤ (ix gs k).prog.length := by omega
 have hdn : (ix gs k).done = ix c.done k := by rw [← hr.hd, ix_map (f := TaskG.done) h0 h1]
 have hst : startM C c k win = if ix c.done k = true then parkM { toM C c k 0 with tb := c.tb.start k win } k else { toM C c k 0 with tb := c.tb.start k win } := rfl
 (refine Tr.enter (rs := []) mixed fn59 rfl (by simp +arith [Tryz.ntmps59]) fun u => ?_; simp only [cd59, Tryz.f59])
 refine Tr.famAt (xs := gs) k S.K (by omega) (by omega) (taskA_open ?_)
 cases hd : ix c.done k with
 | true =>
  rw [hd, if_pos rfl] at hst
  rw [hst] at hK hrel
  rw [hd] at hdn
  have hX := And.intro @pl59.eq_def (And.intro hm (And.intro @TaskG.pt.eq_def (And.intro @TaskG.to.eq_def hdn))); repeat' (first | rintro _ _ ⟨rfl, rfl⟩ | (refine G.call 45 ?_; refine S.c ?_ (h := tset_ok (g := ix gs k) (i := 0) (by decide) hz hpl.1)) | refine S.x ?_ | (refine G.call 117 ?_; refine S.c ?_ (h := start_ok _ _ _ _)) | (refine G.call 118 ?_; refine S.c ?_ (h := park_ok _ _ _)) | intro hb | fail)
  all_goals
   refine Tr.fin hK ⟨gs.set k.toNat (ix gs k).st, hrel, rfl, rfl⟩ ?_
   simp only [cellL, List.cons_append, List.nil_append]
   rw [hpt]
   have hX := And.intro hdn (And.intro @taskA.eq_def (And.intro @TaskG.st.eq_def (And.intro @TaskG.to.eq_def (And.intro @toM.eq_def @parkM.eq_def))))
   exact S.E
 | false =>
  rw [hd, if_neg (by decide)] at hst
  rw [hst] at hK hrel
  rw [hd] at hdn
  have hX := And.intro @pl59.eq_def (And.intro hm (And.intro @TaskG.pt.eq_def (And.intro @TaskG.to.eq_def hdn))); repeat' (first | rintro _ _ ⟨rfl, rfl⟩ | (refine G.call 45 ?_; refine S.c ?_ (h := tset_ok (g := ix gs k) (i := 0) (by decide) hz hpl.1)) | refine S.x ?_ | (refine G.call 117 ?_; refine S.c ?_ (h := start_ok _ _ _ _)) | intro hb | fail)
  all_goals
   refine Tr.fin hK ⟨gs.set k.toNat (ix gs k).st, hrel, rfl, rfl⟩ ?_
   simp only [cellL, List.cons_append, List.nil_append]
   rw [hpt]
   have hX := And.intro hdn (And.intro @taskA.eq_def (And.intro @TaskG.st.eq_def (And.intro @TaskG.to.eq_def (And.intro @toM.eq_def @parkM.eq_def))))
   exact S.E
end
end Go.Proofs.YtacmaamllpiloaaGreat
namespace Go.Proofs.YtacmaamllpiloaaGreat
open Go Go.Wk
set_option maxHeartbeats 3200000
set_option maxRecDepth 100000
section
variable {b : Nat} {C : CC} {c : CM} {w : CW} {gs : List TaskG} {k : Int}
theorem rel_rest (h : Rel C c w gs) (hk : inR C.progs k) : Rel C (restM c k) w (gs.set k.toNat { ix gs k with done := true }) := by
 have hg := rel_in h hk
 refine ⟨⟨park_len.trans h.ok.tb, h.ok.pos, h.ok.rest, h.ok.addr, h.ok.data, by simpa [restM] using h.ok.done, h.ok.pi, h.ok.ad, h.ok.dl⟩, (map_setE (f := TaskG.prog) hg (by rfl)).trans h.hp, (map_setE (f := TaskG.pos) hg (by rfl)).trans h.hi, (map_setE (f := TaskG.rest) hg (by rfl)).trans h.hr, (map_setE (f := TaskG.addr) hg (by rfl)).trans h.ha, ?_, fun j hj hw => ?_, ?_⟩
 ·rw [List.map_set, h.hd]; rfl
 ·have hj' : inR gs j := by unfold inR at *; simpa using hj
  have hw' := park_noNew (t := c.tb) (k := k) j hw
  rw [ix_setR hg hj'.1]
  by_cases e : j = k
  ·rw [if_pos e]; subst e; exact h.hw j hj' hw'
  ·rw [if_neg e]; exact h.hw j hj' hw'
 ·show w.slk.isSome = (c.slk.map fun m => finM m k).isSome
  rw [Option.isSome_map]; exact h.hs
theorem slk_some {m : SlM} (h : Rel C c w gs) (hm : c.slk = some m) : ∃ sb, w.slk = some sb := by
 have := h.hs
 rw [hm] at this
 exact Option.isSome_iff_exists.1 this
end
attribute [local irreducible] BrK GenK EGenK EUnitK CallK FnK CallV GuardO GuardC CondW opX opK opKc chkR eqR seqK blkK endL WL WD W LoopW BinK Tr drewK resL PickK NotK NilK ExtrK getK Instr.storeAt Instr.loadAt Instr.fieldAt Instr.indexAt Instr.lookup Instr.mapUpdate Instr.box Instr.alloc Instr.build Instr.buildSlice Instr.makeSlice Instr.makeMap Instr.sliceAt Instr.field Instr.index Instr.makeInterface Instr.typeAssert Builtin.len_ Builtin.append_ Builtin.cap_ Builtin.min_ Builtin.max_ Builtin.copy_ Builtin.clear_ convert binOp mp blk rob sl sep ex fact old
attribute [local irreducible] memX portX objX slkX
section
variable {b : Nat} {C : CC} {c : CM} {w : CW} {gs : List TaskG} {k : Int} {m : SlM}
theorem crest_ok (hr : Rel C c w gs) (hk : inR C.progs k) (hm : c.slk = some m) : Trip Tryz.prog 100 [ptr b, .int .i64 k].toArray (cellL b C c w gs)
  fun v l' => ∃ gs2, Rel C (restM c k) w gs2 ∧ v = .tuple #[] ∧ l' = cellL b C (restM c k) w gs2 := by
 intro F K hK
 simp only [List.cons_append, List.nil_append] at hK ⊢
 have hrel := rel_rest hr hk
 obtain ⟨sb, hs⟩ := slk_some hr hm
 have hkg := rel_in hr hk
 obtain ⟨h0, h1⟩ := hkg
 have hmp := ix_map (f := TaskG.pt) (xs := gs) (k := k) h0 h1
 have hlm : (gs.map TaskG.pt).length = gs.length := List.length_map _
 have hpt : (gs.set k.toNat { ix gs k with done := true }).map TaskG.pt = gs.map TaskG.pt := map_setE ⟨h0, h1⟩ (by rfl)
 have hsl : slkO w.slk c.slk = slkX sb m := by rw [hs, hm]; rfl
 have hsp : slP w.slk = .pointer (some ⟨sb, 0, none⟩) := by rw [hs]; rfl
 have hsr : slkO w.slk (restM c k).slk = slkX sb (finM m k) := by rw [hs]; unfold restM; rw [hm]; rfl
 simp only [hsl]
 (refine Tr.enter (rs := []) mixed fn100 rfl (by simp +arith [Tryz.ntmps100]) fun u => ?_; simp only [cd100, Tryz.f100])
 refine Tr.famAt (xs := gs) k S.K (by omega) (by omega) (taskA_open ?_)
 have hX := And.intro @pl100.eq_def (And.intro hmp (And.intro @TaskG.pt.eq_def hsp)); repeat' (first | refine S.x ?_ | (refine G.call 118 ?_; refine S.c ?_ (h := park_ok _ _ _)) | (refine G.call 155 ?_; first | refine S.c ?_ (h := xfin_ok)) | rintro _ _ ⟨rfl, rfl⟩ | rintro _ _ ⟨_, rfl, rfl⟩ | intro hb | fail)
 all_goals
  refine Tr.fin hK ⟨_, hrel, rfl, rfl⟩ ?_
  simp only [List.cons_append, List.nil_append]
  rw [hpt, hsr]
  have hX := And.intro @taskA.eq_def @restM.eq_def
  exact S.E
end
end Go.Proofs.YtacmaamllpiloaaGreat
namespace Go.Proofs.YtacmaamllpiloaaGreat
open Go Go.Wk
set_option maxHeartbeats 3200000
set_option maxRecDepth 100000
section
variable {b : Nat} {C : CC} {c : CM} {w : CW} {gs : List TaskG} {k call code value : Int} {s : SV}
theorem rel_note (h : Rel C c w gs) : Rel C (noteM C c k call code value) { w with ev := s } gs :=
 ⟨⟨h.ok.tb, h.ok.pos, h.ok.rest, h.ok.addr, h.ok.data, h.ok.done, h.ok.pi, h.ok.ad, h.ok.dl⟩, h.hp, h.hi, h.hr, h.ha, h.hd, h.hw, h.hs⟩
theorem tb_in (h : Rel C c w gs) (hk : inR C.progs k) : inR c.tb.d k := by unfold inR at *; rw [h.ok.tb]; exact hk
theorem rel_end (h : Rel C c w gs) (hk : inR C.progs k) : Rel C (endM C c k call code value) { w with ev := s } (gs.set k.toNat { ix gs k with ds := ⟨none, 0, 0⟩, dd := [] }) :=
 rel_nil (rel_tb (rel_note h) set_len set_noNew) (rel_in h hk) (set_not (t := c.tb) (tb_in h hk) (by decide) (by decide) (by decide))
theorem rel_mem {ms : List RegM} (h : Rel C c w gs) : Rel C { c with mem := ms } w gs :=
 ⟨⟨h.ok.tb, h.ok.pos, h.ok.rest, h.ok.addr, h.ok.data, h.ok.done, h.ok.pi, h.ok.ad, h.ok.dl⟩, h.hp, h.hi, h.hr, h.ha, h.hd, h.hw, h.hs⟩
end
attribute [local irreducible] BrK GenK EGenK EUnitK CallK FnK CallV GuardO GuardC CondW opX opK opKc chkR eqR seqK blkK endL WL WD W LoopW BinK Tr drewK resL PickK NotK NilK ExtrK getK Instr.storeAt Instr.loadAt Instr.fieldAt Instr.indexAt Instr.lookup Instr.mapUpdate Instr.box Instr.alloc Instr.build Instr.buildSlice Instr.makeSlice Instr.makeMap Instr.sliceAt Instr.field Instr.index Instr.makeInterface Instr.typeAssert Builtin.len_ Builtin.append_ Builtin.cap_ Builtin.min_ Builtin.max_ Builtin.copy_ Builtin.clear_ convert binOp mp blk rob sl sep ex fact old
attribute [local irreducible] memX portX objX slkO
section
variable {b : Nat} {C : CC} {c : CM} {w : CW} {gs : List TaskG} {k call code value : Int}
theorem ccomplete_ok (hr : Rel C c w gs) (hk : inR C.progs k) (hf : few c 1) : Trip Tryz.prog 94 [ptr b, .int .i64 k, .int .i64 call, .int .i64 code, .int .i64 value].toArray (cellL b C c w gs)
  fun v l' => ∃ w2 gs2, Rel C (endM C c k call code value) w2 gs2 ∧ v = .tuple #[] ∧ l' = cellL b C (endM C c k call code value) w2 gs2 := by
 intro F K hK
 simp only [List.cons_append, List.nil_append] at hK ⊢
 have hrel := fun s => rel_end (s := s) (call := call) (code := code) (value := value) hr hk
 unfold few at hf
 obtain ⟨h0, h1⟩ := rel_in hr hk
 have hmp := ix_map (f := TaskG.pt) (xs := gs) (k := k) h0 h1
 have hlm : (gs.map TaskG.pt).length = gs.length := List.length_map _
 have hpt : (gs.set k.toNat { ix gs k with ds := ⟨none, 0, 0⟩, dd := [] }).map TaskG.pt = gs.map TaskG.pt := map_setE ⟨h0, h1⟩ (by rfl)
 (refine Tr.enter (rs := []) mixed fn94 rfl (by simp +arith [Tryz.ntmps94]) fun u => ?_; simp only [cd94, Tryz.f94])
 have hX := And.intro @pl94.eq_def (And.intro hmp @TaskG.pt.eq_def); repeat' (first | refine S.x ?_ | (refine G.call 90 ?_; refine S.c ?_ (h := cnote_ok ?_)) | rintro _ _ ⟨_, rfl, rfl⟩ | (refine G.prop ?_; assumption) | intro hb | fail)
 refine Tr.famAt (xs := gs) k S.K (by omega) (by omega) (taskA_open ?_)
 have hX := And.intro @pl94.eq_def (And.intro hmp @TaskG.pt.eq_def); repeat' (first | refine S.x ?_ | (refine G.call 150 ?_; refine S.c ?_ (h := set_ok _ _ _ _)) | rintro _ _ ⟨rfl, rfl⟩ | fail)
 all_goals
  rename_i ev
  refine Tr.fin hK ⟨{ w with ev := ev }, _, hrel ev, rfl, rfl⟩ ?_
  simp only [List.cons_append, List.nil_append]
  rw [hpt]
  have hX := And.intro @taskA.eq_def (And.intro @endM.eq_def (And.intro @setTM.eq_def @noteM.eq_def))
  exact S.E
theorem addr_ok (h : Rel C c w gs) (hk : inR C.progs k) : okZ (ix c.addr k) := by
 have ha : inR c.addr k := by unfold inR at *; rw [h.ok.addr]; exact hk
 exact h.ok.ad _ (List.mem_of_getElem? (ix_some ha.1 ha.2))
theorem carrive_ok {s3 : SV} {bs : List UInt8} (hr : Rel C c w gs) (hk : inR C.progs k) (hf : few c 1) : Trip Tryz.prog 96 [ptr b, .int .i64 k, .int .i64 call, s3.v].toArray (sl true s3.v bs :: cellL b C c w gs)
  fun v l' => ∃ w2 gs2, Rel C (getsM C c k call bs) w2 gs2 ∧ v = .tuple #[] ∧ l' = cellL b C (getsM C c k call bs) w2 gs2 := by
 intro F K hK
 simp only [List.cons_append, List.nil_append] at hK ⊢
 obtain ⟨h0, h1⟩ := rel_in hr hk
 have hmp := ix_map (f := TaskG.pt) (xs := gs) (k := k) h0 h1
 have hlm : (gs.map TaskG.pt).length = gs.length := List.length_map _
 have had : (ix gs k).addr = ix c.addr k := by rw [← hr.ha, ix_map (f := TaskG.addr) h0 h1]
 have hz := addr_ok hr hk
 have hrm := rel_mem (ms := stB c.mem (ix c.addr k) bs) hr
 have hf2 : few { c with mem := stB c.mem (ix c.addr k) bs } 1 := hf
 (refine Tr.enter (rs := []) mixed fn96 rfl (by simp +arith [Tryz.ntmps96]) fun u => ?_; simp only [cd96, Tryz.f96])
 refine Tr.famAt (xs := gs) k S.K (by omega) (by omega) (taskA_open ?_)
 have hX := And.intro @pl96.eq_def (And.intro hmp (And.intro @TaskG.pt.eq_def had)); repeat' (first | refine S.x ?_ | (refine G.call 152 ?_; first | refine S.c ?_ (h := xstore_ok (by assumption))) | rintro _ _ ⟨rfl, rfl⟩ | intro hb | fail)
 refine Tr.imp (l' := cellL b C { c with mem := stB c.mem (ix c.addr k) bs } w gs ++ F) ?_ ?_
 ·simp only [List.cons_append, List.nil_append]
  have hX := @taskA.eq_def
  show EntR [] _ _
  exact S.E
 simp only [List.cons_append, List.nil_append]
 have hX := @pl96.eq_def; repeat' (first | rintro _ _ ⟨w2, gs2, hrel, rfl, rfl⟩ | (refine G.call 94 ?_; refine S.c ?_ (h := ccomplete_ok (c := { c with mem := stB c.mem (ix c.addr k) bs }) hrm hk hf2)) | refine S.x ?_ | fail)
 all_goals exact Tr.fin hK ⟨w2, gs2, hrel, rfl, rfl⟩ S.E
end
end Go.Proofs.YtacmaamllpiloaaGreat
namespace Go.Proofs.YtacmaamllpiloaaGreat
open Go Go.Wk
set_option maxHeartbeats 3200000
set_option maxRecDepth 100000
section
variable {b : Nat} {C : CC} {c : CM} {w : CW} {gs : List TaskG} {k : Int}
theorem rel_mode {m : Int} (h : Rel C c w gs) : Rel C { c with mode := m } w gs :=
 ⟨⟨h.ok.tb, h.ok.pos, h.ok.rest, h.ok.addr, h.ok.data, h.ok.done, h.ok.pi, h.ok.ad, h.ok.dl⟩, h.hp, h.hi, h.hr, h.ha, h.hd, h.hw, h.hs⟩
end
attribute [local irreducible] BrK GenK EGenK EUnitK CallK FnK CallV GuardO GuardC CondW opX opK opKc chkR eqR seqK blkK endL WL WD W LoopW BinK Tr drewK resL PickK NotK NilK ExtrK getK Instr.storeAt Instr.loadAt Instr.fieldAt Instr.indexAt Instr.lookup Instr.mapUpdate Instr.box Instr.alloc Instr.build Instr.buildSlice Instr.makeSlice Instr.makeMap Instr.sliceAt Instr.field Instr.index Instr.makeInterface Instr.typeAssert Builtin.len_ Builtin.append_ Builtin.cap_ Builtin.min_ Builtin.max_ Builtin.copy_ Builtin.clear_ convert binOp mp blk rob sl sep ex fact old
attribute [local irreducible] memX portX objX slkO
section
variable {b : Nat} {C : CC} {c : CM} {w : CW} {gs : List TaskG} {k : Int}
theorem cidle_ok (hc : okC C) (hr : Rel C c w gs) : Trip Tryz.prog 146 [ptr b].toArray (cellL b C c w gs)
  fun v l' => ∃ gs2, Rel C (idleM C c) w gs2 ∧ v = .tuple #[] ∧ l' = cellL b C (idleM C c) w gs2 := by
 intro F K hK
 simp only [List.cons_append, List.nil_append] at hK ⊢
 have h8 := hc.n8
 have hlg := rel_len hr
 have hlm : (gs.map TaskG.pt).length = C.progs.length := by rw [List.length_map]; exact hlg
 have hr0 := rel_mode (m := 0) hr
 (refine Tr.enter (rs := []) mixed fn146 rfl (by simp +arith [Tryz.ntmps146]) fun u => ?_; simp only [cd146, Tryz.f146])
 have hX := @pl146.eq_def; repeat' (first | refine S.x ?_ | fail)
 refine Tr.loopE (α := Nat × List TaskG) [11] [0, 10] (fun x => [.int .i64 x.1]) (fun x => cellL b C (stopTo { c with mode := 0 } x.1) w x.2) (fun x => x.1 ≤ C.progs.length ∧ Rel C (stopTo { c with mode := 0 } x.1) w x.2) (fun x => C.progs.length - x.1) (0, gs) S.T rfl ⟨Nat.zero_le _, hr0⟩ fun x u hx => ?_
 obtain ⟨i, g2⟩ := x
 obtain ⟨hi, hri⟩ := hx
 simp only at hi hri ⊢
 simp only [List.cons_append, List.nil_append]
 by_cases hin : i < C.progs.length
 ·have hw := wrapSucc (k := i) (by omega)
  have hk : inR C.progs (i : Int) := ⟨by omega, by omega⟩
  have hst : setTM (stopTo { c with mode := 0 } i) (i : Int) 0 = stopTo { c with mode := 0 } (i + 1) := rfl
  have hX := And.intro @pl146.eq_def (And.intro hw hlm); repeat' (first | rintro _ _ ⟨g3, hr3, rfl, rfl⟩ | (refine G.call 144 ?_; refine S.c ?_ (h := cstop_ok hri hk)) | refine S.x ?_ | fail)
  all_goals
   rw [hst] at hr3
   have hX := hst
   clear hri
   exact S.R ((i + 1, g3) : Nat × List TaskG)
 ·have hie : i = C.progs.length := by omega
  subst hie
  have hX := And.intro @pl146.eq_def hlm; repeat' (first | refine S.x ?_ | fail)
  all_goals
   refine Tr.fin hK ⟨g2, hri, rfl, rfl⟩ ?_
   simp only [List.cons_append, List.nil_append]
   have hX := @idleM.eq_def
   exact S.E
end
end Go.Proofs.YtacmaamllpiloaaGreat
namespace Go.Proofs.YtacmaamllpiloaaGreat
open Go Go.Wk
set_option maxHeartbeats 3200000
set_option maxRecDepth 100000
section
variable {b : Nat} {C : CC} {c : CM} {w : CW} {gs : List TaskG} {k win : Int} {cold : Bool}
theorem stopTo_len : ∀ n, (stopTo c n).tb.d.length = c.tb.d.length
 | 0 => rfl
 | n + 1 => set_len.trans (stopTo_len n)
theorem stopTo_not : ∀ n : Nat, n ≤ c.tb.d.length → ∀ j : Int, 0 ≤ j → j < n → ¬ waitD ((stopTo c n).tb.at j)
 | 0, _, j, h0, h1 => by omega
 | n + 1, hn, j, h0, h1 => by
  by_cases e : j = (n : Int)
  ·subst e
   refine set_not ?_ (by decide) (by decide) (by decide)
   unfold inR
   rw [stopTo_len]
   omega
  ·intro h
   exact stopTo_not n (by omega) j h0 (by omega) (set_noNew (t := (stopTo c n).tb) j h)
theorem startM_noNew : noNew c.tb (startM C c k win).tb := by
 unfold startM
 simp only
 split
 ·exact noNew_trans (start_noNew (t := c.tb)) park_noNew
 ·exact start_noNew (t := c.tb)
theorem startTo_noNew : ∀ n, noNew c.tb (startTo C c win n).tb
 | 0 => noNew_refl
 | n + 1 => noNew_trans (startTo_noNew n) startM_noNew
theorem rel_clear (h : Rel C c w gs) : Rel C (clearM C c cold) w gs :=
 ⟨⟨h.ok.tb, h.ok.pos, h.ok.rest, h.ok.addr, h.ok.data, h.ok.done, h.ok.pi, h.ok.ad, h.ok.dl⟩, h.hp, h.hi, h.hr, h.ha, h.hd, h.hw, h.hs⟩
theorem stopTo_win : ∀ n, (stopTo c n).win = c.win
 | 0 => rfl
 | n + 1 => stopTo_win n
theorem startM_win : (startM C c k win).win = c.win := by
 unfold startM
 simp only
 split <;> rfl
theorem startTo_win : ∀ n, (startTo C c win n).win = c.win
 | 0 => rfl
 | n + 1 => startM_win.trans (startTo_win n)
end
attribute [local irreducible] BrK GenK EGenK EUnitK CallK FnK CallV GuardO GuardC CondW opX opK opKc chkR eqR seqK blkK endL WL WD W LoopW BinK Tr drewK resL PickK NotK NilK ExtrK getK Instr.storeAt Instr.loadAt Instr.fieldAt Instr.indexAt Instr.lookup Instr.mapUpdate Instr.box Instr.alloc Instr.build Instr.buildSlice Instr.makeSlice Instr.makeMap Instr.sliceAt Instr.field Instr.index Instr.makeInterface Instr.typeAssert Builtin.len_ Builtin.append_ Builtin.cap_ Builtin.min_ Builtin.max_ Builtin.copy_ Builtin.clear_ convert binOp mp blk rob sl sep ex fact old
attribute [local irreducible] memX portX objX slkO
section
variable {b : Nat} {C : CC} {c : CM} {w : CW} {gs : List TaskG} {k : Int}
theorem crestart_ok {cold : Bool} (hc : okC C) (hr : Rel C c w gs) : Trip Tryz.prog 145 [ptr b, .bool cold].toArray (cellL b C c w gs)
  fun v l' => ∃ gs2, Rel C (anewM C c cold) w gs2 ∧ v = .tuple #[] ∧ l' = cellL b C (anewM C c cold) w gs2 := by
 intro F K hK
 simp only [List.cons_append, List.nil_append] at hK ⊢
 have h8 := hc.n8
 have hlg := rel_len hr
 have hlm : ∀ g2 : List TaskG, g2.length = C.progs.length → (g2.map TaskG.pt).length = C.progs.length := fun g2 h => by rw [List.length_map]; exact h
 have hlm0 := hlm gs hlg
 have hr0 := rel_clear (cold := cold) hr
 obtain ⟨c0, hc0⟩ : ∃ c0, c0 = clearM C c cold := ⟨_, rfl⟩
 have han : anewM C c cold = startTo C (stopTo c0 C.progs.length) c0.win C.progs.length := by rw [hc0]; rfl
 rw [han] at hK
 rw [← hc0] at hr0
 clear han
 (refine Tr.enter (rs := []) mixed fn145 rfl (by simp +arith [Tryz.ntmps145]) fun u => ?_; simp only [cd145, Tryz.f145])
 cases cold
 all_goals
  have hX := @pl145.eq_def; repeat' (first | rintro _ _ ⟨rfl, rfl⟩ | (refine G.call 224 ?_; refine S.c ?_ (h := xclear_ok)) | (refine G.call 115 ?_; refine S.c ?_ (h := xoclear_ok hc.dep)) | (refine G.call 225 ?_; refine S.c ?_ (h := xpclear_ok)) | refine S.x ?_ | fail)
  refine Tr.imp (l' := cellL b C c0 w gs ++ F) ?_ ?_
  ·subst hc0
   simp only [List.cons_append, List.nil_append]
   have hX := @clearM.eq_def
   show EntR [] _ _
   exact S.E
  clear hc0
  simp only [List.cons_append, List.nil_append]
  refine Tr.loopE (α := Nat × List TaskG) [27] [0, 26] (fun x => [.int .i64 x.1]) (fun x => cellL b C (stopTo c0 x.1) w x.2) (fun x => x.1 ≤ C.progs.length ∧ Rel C (stopTo c0 x.1) w x.2) (fun x => C.progs.length - x.1) (0, gs) S.T rfl ⟨Nat.zero_le _, hr0⟩ fun x u hx => ?_
  obtain ⟨i, g2⟩ := x
  obtain ⟨hi, hri⟩ := hx
  simp only at hi hri ⊢
  simp only [List.cons_append, List.nil_append]
  by_cases hin : i < C.progs.length
  ·have hw := wrapSucc (k := i) (by omega)
   have hk : inR C.progs (i : Int) := ⟨by omega, by omega⟩
   have hst : setTM (stopTo c0 i) (i : Int) 0 = stopTo c0 (i + 1) := rfl
   have hX := And.intro @pl145.eq_def (And.intro hw hlm0); repeat' (first | rintro _ _ ⟨g3, hr3, rfl, rfl⟩ | (refine G.call 144 ?_; refine S.c ?_ (h := cstop_ok hri hk)) | refine S.x ?_ | fail)
   all_goals
    rw [hst] at hr3
    have hX := hst
    clear hri
    exact S.R ((i + 1, g3) : Nat × List TaskG)
  ·have hie : i = C.progs.length := by omega
   subst hie
   have hno : ∀ j : Int, inR C.progs j → ¬ waitD ((stopTo c0 C.progs.length).tb.at j) := fun j hj => stopTo_not _ (by rw [hr0.ok.tb]; exact Nat.le_refl _) j hj.1 hj.2
   have hwn : (stopTo c0 C.progs.length).win = c0.win := stopTo_win _
   have hl2 := hlm g2 (rel_len hri)
   rw [← hwn] at hK
   clear hwn
   generalize stopTo c0 C.progs.length = c1 at *
   have hX := And.intro @pl145.eq_def (And.intro hlm0 hl2); repeat' (first | refine S.x ?_ | fail)
   refine Tr.loopE (α := Nat × List TaskG) [39] [0, 38] (fun x => [.int .i64 x.1]) (fun x => cellL b C (startTo C c1 c1.win x.1) w x.2) (fun x => x.1 ≤ C.progs.length ∧ Rel C (startTo C c1 c1.win x.1) w x.2) (fun x => C.progs.length - x.1) (0, g2) S.T rfl ⟨Nat.zero_le _, hri⟩ fun y u2 hy => ?_
   obtain ⟨j, g4⟩ := y
   obtain ⟨hj, hrj⟩ := hy
   simp only at hj hrj ⊢
   simp only [List.cons_append, List.nil_append]
   by_cases hjn : j < C.progs.length
   ·have hw := wrapSucc (k := j) (by omega)
    have hk : inR C.progs (j : Int) := ⟨by omega, by omega⟩
    have hwj : (startTo C c1 c1.win j).win = c1.win := startTo_win j
    have hnj : ¬ waitD ((startTo C c1 c1.win j).tb.at (j : Int)) := fun h => hno _ hk (startTo_noNew j _ h)
    have hst : startM C (startTo C c1 c1.win j) (j : Int) (startTo C c1 c1.win j).win = startTo C c1 c1.win (j + 1) := by rw [hwj]; rfl
    clear hno
    have hX := And.intro @pl145.eq_def (And.intro hw hl2); repeat' (first | rintro _ _ ⟨g5, hr5, rfl, rfl⟩ | (refine G.call 59 ?_; refine S.c ?_ (h := cstart_ok hc hrj hk hnj)) | refine S.x ?_ | fail)
    all_goals
     rw [hst] at hr5
     have hX := hst
     clear hrj
     exact S.R ((j + 1, g5) : Nat × List TaskG)
   ·have hje : j = C.progs.length := by omega
    subst hje
    have hX := And.intro @pl145.eq_def hl2; repeat' (first | refine S.x ?_ | fail)
    all_goals exact Tr.fin hK ⟨g4, hrj, rfl, rfl⟩ S.E
end
end Go.Proofs.YtacmaamllpiloaaGreat
