import Derived.Test.YtacmaamllpiloaaGreatZ25
import Derived.Test.YtacmaamllpiloaaGreatZ21
namespace Go.Proofs.YtacmaamllpiloaaGreat
open Go Go.Wk
def OneG.abs (g : OneG) : AP := ⟨g.conf, if g.q = true then g.ms.map SL.d else if g.there = true then [g.m.d] else [], !g.q && !g.i && g.fresh, g.lost⟩
def OneG.wf (g : OneG) (n : Nat) : Prop := (g.q = false → g.fresh = true → g.there = true) ∧ g.m.d.length ≤ 300 ∧ g.ms.length ≤ n
def invP (gs : List OneG) (n : Nat) : Prop := gs.length ≤ 8 ∧ ∀ g ∈ gs, g.wf n
theorem abs_len {gs : List OneG} : (gs.map OneG.abs).length = gs.length := List.length_map _
theorem abs_ix {gs : List OneG} {k : Int} (h : inR gs k) : ix (gs.map OneG.abs) k = (ix gs k).abs := ix_map (f := OneG.abs) h.1 h.2
theorem abs_inR {gs : List OneG} {k : Int} : inR (gs.map OneG.abs) k = inR gs k := by unfold inR; rw [abs_len]
theorem abs_can {gs : List OneG} {k : Int} {q i : Bool} : canB gs k q i = canA (gs.map OneG.abs) k q i := by
 unfold canB canA
 simp only [abs_inR]
 split
 ·rename_i h; rw [abs_ix h]; rfl
 ·rfl
theorem canB_t {gs : List OneG} {k : Int} {q i : Bool} (h : canB gs k q i = true) : inR gs k ∧ (ix gs k).q = q ∧ (ix gs k).i = i := by
 unfold canB at h
 split at h
 ·rename_i hr
  simp only [Bool.and_eq_true, beq_iff_eq] at h
  exact ⟨hr, h.1, h.2⟩
 ·cases h
theorem abs_q {g : OneG} (h : g.q = true) : g.abs.ms = g.ms.map SL.d := if_pos h
theorem abs_s {g : OneG} (h : g.q = false) : g.abs.ms = if g.there = true then [g.m.d] else [] := if_neg (by rw [h]; simp)
theorem abs_set {gs : List OneG} {k : Nat} {g : OneG} : (gs.set k g).map OneG.abs = (gs.map OneG.abs).set k g.abs := List.map_set
theorem set_abs {gs : List OneG} {k : Int} (h : inR gs k) {g : OneG} (hg : g.abs = (ix gs k).abs) : (gs.set k.toNat g).map OneG.abs = gs.map OneG.abs := map_same (f := OneG.abs) h.1 h.2 g hg
theorem abs_intoC {gs : List OneG} {k : Int} {q : Bool} {n : Nat} : intoC gs k q n = intoCA (gs.map OneG.abs) k q n := by
 unfold intoC intoCA
 rw [abs_can]
 split
 ·rename_i h
  rw [← abs_can] at h
  obtain ⟨hr, hq, hi⟩ := canB_t h
  rw [abs_ix hr]
  show (if lenOK n (ix gs k).size = true then _ else _) = (if lenOK n (ix gs k).size = true then _ else _)
  split
  ·split
   ·rename_i hq2
    rw [abs_q (hq.trans hq2), List.length_map]; rfl
   ·rfl
  ·rfl
 ·rfl
theorem abs_into {gs : List OneG} {k : Int} {q : Bool} {s : SV} {m : Msg} : (intoG gs k q s m).map OneG.abs = intoA (gs.map OneG.abs) k q m.d := by
 unfold intoG intoA
 rw [abs_can]
 split
 ·rename_i h
  rw [← abs_can] at h
  obtain ⟨hr, hq, hi⟩ := canB_t h
  rw [abs_ix hr]
  show List.map OneG.abs (if lenOK m.d.length (ix gs k).size = true then _ else _) = (if lenOK m.d.length (ix gs k).size = true then _ else _)
  split
  ·cases q
   ·simp only [Bool.false_eq_true, if_false]
    rw [abs_set]; congr 1
    simp [putP, hq, OneG.abs, OneG.conf, hi]
   ·simp only [if_true]
    rw [abs_q hq, List.length_map]
    show _ = if (ix gs k).depth ≤ ((ix gs k).ms.length : Int) then _ else _
    split
    ·rename_i hf
     refine set_abs hr ?_
     simp [putP, hq, OneG.abs, OneG.conf, qput, hf]
    ·rename_i hf
     rw [abs_set]; congr 1
     simp [putP, hq, OneG.abs, OneG.conf, qput, hf]
  ·rfl
 ·rfl
theorem abs_outC {gs : List OneG} {k : Int} {q : Bool} : outC gs k q = outCA (gs.map OneG.abs) k q := by
 unfold outC outCA
 rw [abs_can]
 split
 ·rename_i h
  rw [← abs_can] at h
  obtain ⟨hr, hq, hi⟩ := canB_t h
  rw [abs_ix hr]
  cases q
  ·rw [abs_s hq]; cases (ix gs k).there <;> rfl
  ·rw [abs_q hq, List.length_map]; rfl
 ·rfl
theorem abs_outD {gs : List OneG} {k : Int} {q : Bool} : outD gs k q = outDA (gs.map OneG.abs) k q := by
 cases h : canB gs k q true
 ·have h2 : canA (gs.map OneG.abs) k q true = false := by rw [← abs_can]; exact h
  simp [outD, outC, outDA, h, h2]
 ·have h2 : canA (gs.map OneG.abs) k q true = true := by rw [← abs_can]; exact h
  obtain ⟨hr, hq, hi⟩ := canB_t h
  simp only [outD, outC, outDA, h, h2, if_true, abs_ix hr]
  cases q
  ·rw [abs_s hq]; cases (ix gs k).there <;> simp [ix]
  ·rw [abs_q hq, List.length_map]
   by_cases hz : ((ix gs k).ms.length : Int) = 0
   ·simp only [hz, if_true]; rfl
   ·simp only [hz, if_true, if_false]
    rw [ix_map (f := SL.d) (by omega) (by omega)]
theorem abs_out {gs : List OneG} {k : Int} {q : Bool} {s : SV} : (outG gs k q s).map OneG.abs = outA (gs.map OneG.abs) k q := by
 unfold outG outA
 rw [abs_can]
 split
 ·rename_i h
  rw [← abs_can] at h
  obtain ⟨hr, hq, hi⟩ := canB_t h
  rw [abs_ix hr]
  cases q
  ·rfl
  ·simp only [if_true]
   rw [abs_q hq, List.length_map]
   split
   ·rename_i hz
    refine set_abs hr ?_
    have : (ix gs k).ms = [] := List.eq_nil_of_length_eq_zero (by omega)
    simp [OneG.abs, OneG.conf, hq, this]
   ·rw [abs_set]; congr 1
    simp [OneG.abs, OneG.conf, hq]
 ·rfl
theorem abs_canF {gs : List OneG} {k : Int} {q i : Bool} (h : ¬ (inR gs k ∧ (ix gs k).q = q ∧ (ix gs k).i = i)) : canA (gs.map OneG.abs) k q i = false := by
 rw [← abs_can]
 cases h2 : canB gs k q i with
 | false => rfl
 | true => exact absurd (canB_t h2) h
theorem abs_canT {gs : List OneG} {k : Int} {q i : Bool} (hr : inR gs k) (hq : (ix gs k).q = q) (hi : (ix gs k).i = i) : canA (gs.map OneG.abs) k q i = true := by
 rw [← abs_can]; simp [canB, hr, hq, hi]
theorem wf_ix {gs : List OneG} {n : Nat} (h : invP gs n) {k : Int} (hr : inR gs k) : (ix gs k).wf n := by
 have := ix_some (xs := gs) hr.1 hr.2
 exact h.2 _ (List.mem_of_getElem? this)
theorem abs_drain {gs : List OneG} {n : Nat} (hw : invP gs n) {k : Int} : drainD gs k = drainDA (gs.map OneG.abs) k ∧ (drainG gs k).map OneG.abs = drainA (gs.map OneG.abs) k := by
 by_cases hr : inR gs k
 ·have hwf := (wf_ix hw hr).1
  cases hi : (ix gs k).i
  ·cases hq : (ix gs k).q
   ·have c1 : canA (gs.map OneG.abs) k true false = false := abs_canF (by simp [hq])
    have c2 : canA (gs.map OneG.abs) k false false = true := abs_canT hr hq hi
    have hfr : (ix gs k).abs.fresh = (ix gs k).fresh := by simp [OneG.abs, hq, hi]
    simp only [drainD, drainG, drainDA, drainA, c1, c2, hr, hi, hq, if_true, if_false, Bool.false_eq_true, abs_ix hr, hfr]
    cases hf : (ix gs k).fresh
    ·refine ⟨rfl, ?_⟩
     simp only [Bool.false_eq_true, if_false]
     exact set_abs hr (by simp [OneG.abs, OneG.conf, hf, hq, hi])
    ·simp only [if_true]
     refine ⟨by rw [abs_s hq, hwf hq hf]; rfl, ?_⟩
     rw [abs_set]; congr 1
     simp [OneG.abs, OneG.conf, hq, hi]
   ·have c1 : canA (gs.map OneG.abs) k true false = true := abs_canT hr hq hi
    simp only [drainD, drainG, drainDA, drainA, c1, hr, hi, hq, if_true, if_false, Bool.false_eq_true, abs_ix hr]
    refine ⟨(abs_q hq).symm, ?_⟩
    rw [abs_set]; congr 1
    simp [OneG.abs, OneG.conf, hq, hi]
  ·have c1 : canA (gs.map OneG.abs) k true false = false := abs_canF (by simp [hi])
   have c2 : canA (gs.map OneG.abs) k false false = false := abs_canF (by simp [hi])
   simp [drainD, drainG, drainDA, drainA, c1, c2, hr, hi]
 ·have c1 : canA (gs.map OneG.abs) k true false = false := abs_canF (by simp [hr])
  have c2 : canA (gs.map OneG.abs) k false false = false := abs_canF (by simp [hr])
  simp [drainD, drainG, drainDA, drainA, c1, c2, hr]
theorem abs_del {gs : List OneG} {k : Int} {s : SV} {m : Msg} : delB gs k = delBA (gs.map OneG.abs) k ∧ (delG gs k s m).map OneG.abs = delA (gs.map OneG.abs) k m.d := by
 by_cases hr : inR gs k
 ·cases hi : (ix gs k).i
  ·have c1 : canA (gs.map OneG.abs) k true true = false := abs_canF (by simp [hi])
   have c2 : canA (gs.map OneG.abs) k false true = false := abs_canF (by simp [hi])
   simp [delB, delG, delBA, delA, c1, c2, hr, hi]
  ·cases hq : (ix gs k).q
   ·have c2 : canA (gs.map OneG.abs) k false true = true := abs_canT hr hq hi
    simp only [delB, delG, delBA, delA, c2, hr, hi, hq, if_true, if_false, Bool.false_eq_true, abs_ix hr]
    refine ⟨trivial, ?_⟩
    rw [abs_set]; congr 1
    simp [delP, OneG.abs, OneG.conf, hq, hi]
   ·have c1 : canA (gs.map OneG.abs) k true true = true := abs_canT hr hq hi
    have c2 : canA (gs.map OneG.abs) k false true = false := abs_canF (by simp [hq])
    have hl : (ix gs k).abs.ms.length = (ix gs k).ms.length := by rw [abs_q hq, List.length_map]
    simp only [delB, delG, delBA, delA, c1, c2, hr, hi, hq, if_true, if_false, Bool.false_eq_true, abs_ix hr, hl]
    refine ⟨rfl, ?_⟩
    rw [abs_set]
    show _ = if (ix gs k).depth ≤ ((ix gs k).ms.length : Int) then _ else _
    by_cases hf : (ix gs k).depth ≤ ((ix gs k).ms.length : Int)
    ·rw [if_pos hf]; congr 1
     simp [delP, OneG.abs, OneG.conf, hq, hf]
    ·rw [if_neg hf]; congr 1
     simp [delP, OneG.abs, OneG.conf, hq, hf]
 ·have c1 : canA (gs.map OneG.abs) k true true = false := abs_canF (by simp [hr])
  have c2 : canA (gs.map OneG.abs) k false true = false := abs_canF (by simp [hr])
  simp [delB, delG, delBA, delA, c1, c2, hr]
theorem inv_set {gs : List OneG} {n k : Nat} {g : OneG} (h : invP gs n) (hg : g.wf n) : invP (gs.set k g) n := ⟨by rw [List.length_set]; exact h.1, fun x hx => by
 rcases List.mem_or_eq_of_mem_set hx with h' | rfl
 ·exact h.2 x h'
 ·exact hg⟩
theorem inv_out {gs : List OneG} {n : Nat} {k : Int} {q : Bool} {s : SV} (h : invP gs n) : invP (outG gs k q s) n := by
 unfold outG
 split
 ·rename_i hc
  obtain ⟨hr, hq, hi⟩ := canB_t hc
  have hw := wf_ix h hr
  split
  ·refine inv_set h ⟨hw.1, hw.2.1, ?_⟩
   have := hw.2.2
   show ((ix gs k).ms.drop 1).length ≤ n
   simp; omega
  ·exact h
 ·exact h
theorem inv_drain {gs : List OneG} {n : Nat} {k : Int} (h : invP gs n) : invP (drainG gs k) n := by
 unfold drainG
 split
 ·rename_i hr
  have hw := wf_ix h hr
  split
  ·exact h
  ·split
   ·exact inv_set h ⟨hw.1, hw.2.1, Nat.zero_le _⟩
   ·exact inv_set h ⟨fun _ hf => (by cases hf), hw.2.1, hw.2.2⟩
 ·exact h
theorem core_wf {g : OneG} {x : PortC} (h : g.core = portM x) : g.wf 0 ∧ g.abs = ⟨x, [], false, 0⟩ := by
 rw [core_mk h]
 refine ⟨⟨fun _ hf => (by cases hf), Nat.zero_le _, Nat.le_refl _⟩, ?_⟩
 obtain ⟨q, i, sz, d⟩ := x
 cases q <;> cases i <;> rfl
theorem core_inv {gs : List OneG} {cs : List PortC} (h : gs.map OneG.core = cs.map portM) (hl : cs.length ≤ 8) : invP gs 0 ∧ gs.map OneG.abs = cs.map fun c => ⟨c, [], false, 0⟩ := by
 have hlen : gs.length = cs.length := by simpa using congrArg List.length h
 have hg : ∀ (i : Nat) (h1 : i < gs.length) (h2 : i < cs.length), gs[i].core = portM cs[i] := fun i h1 h2 => by
  have : (gs.map OneG.core)[i]'(by simpa using h1) = (cs.map portM)[i]'(by simpa using h2) := by simp only [h]
  simpa using this
 refine ⟨⟨by omega, fun g hgm => ?_⟩, List.ext_getElem (by simp [hlen]) fun i h1 h2 => ?_⟩
 ·obtain ⟨i, h1, rfl⟩ := List.getElem_of_mem hgm
  exact (core_wf (hg i h1 (by omega))).1
 ·have h1' : i < gs.length := by simpa using h1
  simpa using (core_wf (hg i h1' (by omega))).2
end Go.Proofs.YtacmaamllpiloaaGreat
namespace Go.Proofs.YtacmaamllpiloaaGreat
open Go Go.Wk
set_option maxHeartbeats 6400000
set_option maxRecDepth 10000
attribute [local irreducible] BrK GenK EGenK EUnitK CallK FnK CallV GuardO GuardC CondW opX opK opKc chkR eqR seqK blkK endL WL WD W LoopW BinK Tr drewK resL PickK NotK NilK ExtrK getK Instr.storeAt Instr.loadAt Instr.fieldAt Instr.indexAt Instr.lookup Instr.mapUpdate Instr.box Instr.alloc Instr.build Instr.buildSlice Instr.makeSlice Instr.makeMap Instr.sliceAt Instr.field Instr.index Instr.makeInterface Instr.typeAssert Builtin.len_ Builtin.append_ Builtin.cap_ Builtin.min_ Builtin.max_ Builtin.copy_ Builtin.clear_ convert binOp mp blk rob sl sep ex fact old
def clearA (ps : List AP) : List AP := ps.map fun g => ⟨g.c, [], false, 0⟩
end Go.Proofs.YtacmaamllpiloaaGreat
namespace Go.Proofs.YtacmaamllpiloaaGreat
open Go Go.Wk
set_option maxHeartbeats 6400000
set_option maxRecDepth 10000
theorem ix_cases {α : Type} [Inhabited α] (xs : List α) (k : Int) : ix xs k ∈ xs ∨ ix xs k = default := by
 unfold ix
 by_cases h : k.toNat < xs.length
 ·left; simp [h]
 ·right; simp [h]
theorem m_len {gs : List OneG} {n : Nat} (h : invP gs n) (k : Int) : (ix gs k).m.d.length ≤ 1000000 := by
 rcases ix_cases gs k with hm | hm
 ·have := (h.2 _ hm).2.1; omega
 ·rw [hm]; exact Nat.zero_le _
theorem ms_len {gs : List OneG} {n : Nat} (h : invP gs n) (hn : n ≤ 100000) (k : Int) : (ix gs k).ms.length ≤ 1000000 := by
 rcases ix_cases gs k with hm | hm
 ·have := (h.2 _ hm).2.2; omega
 ·rw [hm]; exact Nat.zero_le _
theorem clear_abs {gs gs2 : List OneG} {n : Nat} (h : invP gs n) (hc : gs2.map OneG.core = gs.map fun g => portM g.conf) : invP gs2 (n + 1) ∧ gs2.map OneG.abs = clearA (gs.map OneG.abs) := by
 have h2 : gs2.map OneG.core = (gs.map OneG.conf).map portM := by rw [hc, List.map_map]; rfl
 obtain ⟨a, b⟩ := core_inv h2 (by simpa using h.1)
 refine ⟨⟨a.1, fun g hg => ⟨(a.2 g hg).1, (a.2 g hg).2.1, by have := (a.2 g hg).2.2; omega⟩⟩, ?_⟩
 rw [b, clearA, List.map_map, List.map_map]; rfl
attribute [local irreducible] BrK GenK EGenK EUnitK CallK FnK CallV GuardO GuardC CondW opX opK opKc chkR eqR seqK blkK endL WL WD W LoopW BinK Tr drewK resL PickK NotK NilK ExtrK getK Instr.storeAt Instr.loadAt Instr.fieldAt Instr.indexAt Instr.lookup Instr.mapUpdate Instr.box Instr.alloc Instr.build Instr.buildSlice Instr.makeSlice Instr.makeMap Instr.sliceAt Instr.field Instr.index Instr.makeInterface Instr.typeAssert Builtin.len_ Builtin.append_ Builtin.cap_ Builtin.min_ Builtin.max_ Builtin.copy_ Builtin.clear_ convert binOp mp blk rob sl sep ex fact old
end Go.Proofs.YtacmaamllpiloaaGreat
namespace Go.Proofs.YtacmaamllpiloaaGreat
open Go Go.Wk
set_option maxHeartbeats 3200000
set_option maxRecDepth 100000
def portL (p : Nat) (s : SV) (gs : List OneG) : List Asrt := [poB p s, fam oneA gs, sl false s.v (gs.map OneG.pt)]
def wfP (gs : List OneG) : Prop := invP gs 16 ∧ ∀ g ∈ gs, g.depth ≤ 16
def portX (p : Nat) (ps : List AP) : Asrt := pk (fun g : SV × List OneG => portL p g.1 g.2) (fun g => g.2.map OneG.abs = ps ∧ wfP g.2)
def rportL (r : Nat) (a b c d : SV) (ps : List AP) (xs : List (SL Msg)) : List Asrt := [rB r a b c d, sl true a.v (ps.map AP.c), sl false b.v xs, fzl xs, sl false c.v (ps.map AP.fresh), sl false d.v (ps.map AP.lost)]
def okA (ps : List AP) : Prop := ps.length ≤ 8 ∧ ∀ g ∈ ps, g.c.depth ≤ 16 ∧ g.ms.length ≤ 16
def rportX (r : Nat) (ps : List AP) : Asrt := pk (fun g : (SV × SV) × (SV × SV) × List (SL Msg) => rportL r g.1.1 g.1.2 g.2.1.1 g.2.1.2 ps g.2.2) (fun g => g.2.2.map mo = ps.map AP.ms ∧ okA ps)
theorem portX_cl {p : Nat} {ps : List AP} {s : SV} {gs : List OneG} {l : List Asrt} (h1 : gs.map OneG.abs = ps) (h2 : wfP gs) : Imp (portL p s gs ++ l) (portX p ps :: l) :=
 Imp.pk (f := fun g : SV × List OneG => portL p g.1 g.2) (p := fun g => g.2.map OneG.abs = ps ∧ wfP g.2) (s, gs) ⟨h1, h2⟩
theorem rportX_cl {r : Nat} {ps : List AP} {a b c d : SV} {xs : List (SL Msg)} {l : List Asrt} (h1 : xs.map mo = ps.map AP.ms) (h2 : okA ps) : Imp (rportL r a b c d ps xs ++ l) (rportX r ps :: l) :=
 Imp.pk (f := fun g : (SV × SV) × (SV × SV) × List (SL Msg) => rportL r g.1.1 g.1.2 g.2.1.1 g.2.1.2 ps g.2.2) (p := fun g => g.2.2.map mo = ps.map AP.ms ∧ okA ps) ((a, b), (c, d), xs) ⟨h1, h2⟩
def sizePA (ps : List AP) (k : Int) : Int := if inR ps k then (ix ps k).c.size else 0
section
variable {gs : List OneG} {k : Int} {q : Bool} {s : SV} {m : Msg}
theorem wf_set {j : Nat} {g : OneG} (h : wfP gs) (hg : g.wf 16) (hd : g.depth ≤ 16) : wfP (gs.set j g) := ⟨inv_set h.1 hg, fun x hx => by
 rcases List.mem_or_eq_of_mem_set hx with h' | rfl
 ·exact h.2 x h'
 ·exact hd⟩
theorem wf_d (h : wfP gs) (hr : inR gs k) : (ix gs k).depth ≤ 16 := h.2 _ (List.mem_of_getElem? (ix_some hr.1 hr.2))
theorem wf_into (h : wfP gs) (hm : m.d.length ≤ 300) : wfP (intoG gs k q s m) := by
 unfold intoG
 split
 ·rename_i hc
  obtain ⟨hr, hq, hi⟩ := canB_t hc
  have hw := wf_ix h.1 hr
  have hd := wf_d h hr
  split
  ·refine wf_set h ?_ (by unfold putP; split <;> exact hd)
   unfold putP
   split
   ·refine ⟨hw.1, hw.2.1, ?_⟩
    show (qput (ix gs k).ms (ix gs k).depth m).length ≤ 16
    have := hw.2.2
    unfold qput; split <;> simp <;> omega
   ·exact ⟨fun _ _ => rfl, hm, hw.2.2⟩
  ·exact h
 ·exact h
theorem wf_del (h : wfP gs) (hm : m.d.length ≤ 300) : wfP (delG gs k s m) := by
 unfold delG
 split
 ·rename_i hr
  have hw := wf_ix h.1 hr
  have hd := wf_d h hr
  split
  ·refine wf_set h ?_ (by unfold delP; split <;> (try split) <;> exact hd)
   unfold delP
   split
   ·split
    ·exact ⟨hw.1, hw.2.1, hw.2.2⟩
    ·refine ⟨hw.1, hw.2.1, ?_⟩
     have := hw.2.2
     show ((ix gs k).ms ++ [m]).length ≤ 16
     simp; omega
   ·exact ⟨fun _ _ => rfl, hm, hw.2.2⟩
  ·exact h
 ·exact h
theorem dep_set {j : Int} {g : OneG} (h : wfP gs) (hd : g.depth = (ix gs j).depth) (hr : inR gs j) : ∀ x ∈ gs.set j.toNat g, x.depth ≤ 16 := fun x hx => by
 rcases List.mem_or_eq_of_mem_set hx with h' | rfl
 ·exact h.2 x h'
 ·rw [hd]; exact wf_d h hr
theorem wf_out (h : wfP gs) : wfP (outG gs k q s) := ⟨inv_out h.1, by
 unfold outG
 split
 ·rename_i hc
  obtain ⟨hr, hq, hi⟩ := canB_t hc
  split
  ·exact dep_set h rfl hr
  ·exact h.2
 ·exact h.2⟩
theorem wf_drain (h : wfP gs) : wfP (drainG gs k) := ⟨inv_drain h.1, by
 unfold drainG
 split
 ·rename_i hr
  split
  ·exact h.2
  ·split
   ·exact dep_set h rfl hr
   ·exact dep_set h rfl hr
 ·exact h.2⟩
theorem abs_size : sizeP gs k = sizePA (gs.map OneG.abs) k := by
 unfold sizeP sizePA
 simp only [abs_inR]
 split
 ·rename_i h; rw [abs_ix h]; rfl
 ·rfl
end
section
variable {ps : List AP} {k : Int} {q : Bool} {m : List UInt8}
theorem okA_set {j : Nat} {x : AP} (h : okA ps) (h1 : x.c.depth ≤ 16) (h2 : x.ms.length ≤ 16) : okA (ps.set j x) := ⟨by rw [List.length_set]; exact h.1, fun y hy => by
 rcases List.mem_or_eq_of_mem_set hy with h' | rfl
 ·exact h.2 y h'
 ·exact ⟨h1, h2⟩⟩
theorem okA_ix (h : okA ps) : (ix ps k).c.depth ≤ 16 ∧ (ix ps k).ms.length ≤ 16 := by
 rcases ix_cases ps k with hm | hm
 ·exact h.2 _ hm
 ·rw [hm]; exact ⟨by decide, by decide⟩
theorem okA_del (h : okA ps) : okA (delA ps k m) := by
 have hi := okA_ix (k := k) h
 unfold delA
 repeat' (first | exact h | (refine okA_set h hi.1 ?_; simp <;> omega) | split)
theorem okA_new {cs : List PortC} (h : ∀ c ∈ cs, c.depth ≤ 16) : okA (newA cs) := ⟨by rw [newA_len]; omega, fun g hg => by
 obtain ⟨x, hx, rfl⟩ := List.mem_map.1 hg
 exact ⟨h x (List.mem_of_mem_take hx), Nat.zero_le _⟩⟩
end
section
variable {p r : Nat} {ps : List AP} {k : Int} {q i : Bool} {s2 s0 : SV} {m : List UInt8} {cs : List PortC}
theorem xcan_ok : Trip Tryz.prog 163 [.pointer (some ⟨p, 0, none⟩), .int .i64 k, .bool q, .bool i].toArray [portX p ps]
  fun v l' => v = .bool (canA ps k q i) ∧ l' = [portX p ps] := by
 refine Trip.pk fun g hg F K hK => ?_
 obtain ⟨rfl, hw⟩ := hg
 refine can_ok ([] ++ F) K ?_
 rintro v l' ⟨rfl, rfl⟩
 refine Tr.imp ?_ (hK _ _ ⟨by rw [abs_can], rfl⟩)
 exact portX_cl rfl hw
theorem xsize_ok : Trip Tryz.prog 162 [.pointer (some ⟨p, 0, none⟩), .int .i64 k].toArray [portX p ps]
  fun v l' => v = .int .i64 (sizePA ps k) ∧ l' = [portX p ps] := by
 refine Trip.pk fun g hg F K hK => ?_
 obtain ⟨rfl, hw⟩ := hg
 refine psize_ok ([] ++ F) K ?_
 rintro v l' ⟨rfl, rfl⟩
 refine Tr.imp ?_ (hK _ _ ⟨by rw [abs_size], rfl⟩)
 exact portX_cl rfl hw
theorem xdel_ok (hm : m.length ≤ 300) : Trip Tryz.prog 65 [.pointer (some ⟨p, 0, none⟩), .int .i64 k, s2.v].toArray [portX p ps, sl true s2.v m]
  fun v l' => v = .bool (delBA ps k) ∧ l' = [portX p (delA ps k m)] := by
 refine Trip.pk fun g hg F K hK => ?_
 obtain ⟨rfl, hw⟩ := hg
 refine deliver_ok (by omega) (ms_len hw.1 (by omega) k) F K ?_
 rintro v l' ⟨s3, s4, rfl, rfl⟩
 refine Tr.imp ?_ (hK _ _ ⟨by rw [(abs_del (s := s3) (m := ⟨s4, m⟩)).1], rfl⟩)
 exact portX_cl (abs_del (s := s3) (m := ⟨s4, m⟩)).2 (wf_del hw hm)
theorem xwrite_ok (hm : m.length ≤ 300) : Trip Tryz.prog 168 [.pointer (some ⟨p, 0, none⟩), .int .i64 k, s2.v].toArray [portX p ps, sl true s2.v m]
  fun v l' => v = .int .i64 (intoCA ps k false m.length) ∧ l' = [portX p (intoA ps k false m)] := by
 refine Trip.pk fun g hg F K hK => ?_
 obtain ⟨rfl, hw⟩ := hg
 refine write_ok (by omega) (ms_len hw.1 (by omega) k) F K ?_
 rintro v l' ⟨s3, s4, rfl, rfl⟩
 refine Tr.imp ?_ (hK _ _ ⟨by rw [abs_intoC], rfl⟩)
 exact portX_cl (abs_into (s := s3) (m := ⟨s4, m⟩)) (wf_into hw hm)
theorem xsend_ok (hm : m.length ≤ 300) : Trip Tryz.prog 93 [.pointer (some ⟨p, 0, none⟩), .int .i64 k, s2.v].toArray [portX p ps, sl true s2.v m]
  fun v l' => v = .int .i64 (intoCA ps k true m.length) ∧ l' = [portX p (intoA ps k true m)] := by
 refine Trip.pk fun g hg F K hK => ?_
 obtain ⟨rfl, hw⟩ := hg
 refine send_ok (by omega) (ms_len hw.1 (by omega) k) F K ?_
 rintro v l' ⟨s3, s4, rfl, rfl⟩
 refine Tr.imp ?_ (hK _ _ ⟨by rw [abs_intoC], rfl⟩)
 exact portX_cl (abs_into (s := s3) (m := ⟨s4, m⟩)) (wf_into hw hm)
theorem xread_ok : Trip Tryz.prog 165 [.pointer (some ⟨p, 0, none⟩), .int .i64 k].toArray [portX p ps]
  fun v l' => ∃ t : SV, v = .tuple #[t.v, .int .i64 (outCA ps k false)] ∧ l' = [portX p (outA ps k false), Fz.fz (SL.mk t (outDA ps k false) : Msg)] := by
 refine Trip.pk fun g hg F K hK => ?_
 obtain ⟨rfl, hw⟩ := hg
 refine read2_ok (m_len hw.1 k) ([] ++ F) K ?_
 rintro v l' ⟨s3, s4, rfl, rfl⟩
 refine Tr.imp ?_ (hK _ _ ⟨s4, by rw [abs_outC], rfl⟩)
 exact (by rw [← abs_outD]; exact portX_cl (abs_out (s := s3)) (wf_out hw))
theorem xrecv_ok : Trip Tryz.prog 95 [.pointer (some ⟨p, 0, none⟩), .int .i64 k].toArray [portX p ps]
  fun v l' => ∃ t : SV, v = .tuple #[t.v, .int .i64 (outCA ps k true)] ∧ l' = [portX p (outA ps k true), Fz.fz (SL.mk t (outDA ps k true) : Msg)] := by
 refine Trip.pk fun g hg F K hK => ?_
 obtain ⟨rfl, hw⟩ := hg
 refine receive2_ok (m_len hw.1 k) ([] ++ F) K ?_
 rintro v l' ⟨s3, s4, rfl, rfl⟩
 refine Tr.imp ?_ (hK _ _ ⟨s4, by rw [abs_outC], rfl⟩)
 exact (by rw [← abs_outD]; exact portX_cl (abs_out (s := s3)) (wf_out hw))
theorem xdrain_ok : Trip Tryz.prog 24 [.pointer (some ⟨p, 0, none⟩), .int .i64 k].toArray [portX p ps]
  fun v l' => ∃ s3 : SV, ∃ ms : List Msg, ms.map SL.d = drainDA ps k ∧ v = s3.v ∧ l' = [portX p (drainA ps k), sl false s3.v ms, fzl ms] := by
 refine Trip.pk fun g hg F K hK => ?_
 obtain ⟨rfl, hw⟩ := hg
 refine drain_ok (m_len hw.1 k) ([] ++ F) K ?_
 rintro v l' ⟨r, hr, rfl, rfl⟩
 refine Tr.imp ?_ (hK _ _ ⟨r.s, r.d, by rw [hr, (abs_drain hw.1).1], rfl, rfl⟩)
 exact portX_cl (abs_drain hw.1).2 (wf_drain hw)
theorem xpclear_ok : Trip Tryz.prog 225 [.pointer (some ⟨p, 0, none⟩)].toArray [portX p ps]
  fun v l' => v = .tuple #[] ∧ l' = [portX p (clearA ps)] := by
 refine Trip.pk fun g hg F K hK => ?_
 obtain ⟨rfl, hw⟩ := hg
 refine pclear_ok ([] ++ F) K ?_
 rintro v l' ⟨gs2, hpt, hco, rfl, rfl⟩
 refine Tr.imp ?_ (hK _ _ ⟨rfl, rfl⟩)
 obtain ⟨h1, h2⟩ := clear_abs hw.1 hco
 have hd : ∀ g ∈ gs2, g.wf 16 ∧ g.depth ≤ 16 := fun x hx => by
  have hm : x.core ∈ gs2.map OneG.core := List.mem_map_of_mem hx
  rw [hco] at hm
  obtain ⟨y, hy, he⟩ := List.mem_map.1 hm
  have hdd : x.depth = y.depth := by have := congrArg (fun c => c.2.2.2.1) he; simpa [OneG.core, portM, OneG.conf] using this.symm
  have hwf := (core_wf (g := x) (x := y.conf) he.symm).1
  exact ⟨⟨hwf.1, hwf.2.1, by have := hwf.2.2; omega⟩, by rw [hdd]; exact hw.2 y hy⟩
 rw [← hpt]
 exact portX_cl h2 ⟨⟨h1.1, fun g hg => (hd g hg).1⟩, fun g hg => (hd g hg).2⟩
theorem xpnew_ok (h : ∀ c ∈ cs, c.depth ≤ 16) : Trip Tryz.prog 53 [s0.v].toArray [sl true s0.v cs]
  fun v l' => ∃ p : Nat, v = .pointer (some ⟨p, 0, none⟩) ∧ l' = [portX p (newA cs)] := by
 refine fun F K hK => pnew_ok F K ?_
 rintro v l' ⟨b, s, gs, h2, rfl, rfl⟩
 refine Tr.imp ?_ (hK _ _ ⟨b, rfl, rfl⟩)
 obtain ⟨i1, i2⟩ := core_inv h2 (by simp; omega)
 have hd : ∀ g ∈ gs, g.wf 16 ∧ g.depth ≤ 16 := fun x hx => by
  have hm : x.core ∈ gs.map OneG.core := List.mem_map_of_mem hx
  rw [h2] at hm
  obtain ⟨y, hy, he⟩ := List.mem_map.1 hm
  have hdd : x.depth = y.depth := by have := congrArg (fun c => c.2.2.2.1) he; simpa [OneG.core, portM] using this.symm
  have hwf := (core_wf (g := x) (x := y) he.symm).1
  exact ⟨⟨hwf.1, hwf.2.1, by have := hwf.2.2; omega⟩, by rw [hdd]; exact h y (List.mem_of_mem_take hy)⟩
 exact portX_cl i2 ⟨⟨i1.1, fun g hg => (hd g hg).1⟩, fun g hg => (hd g hg).2⟩
theorem ydel_ok : Trip Tryz.prog 66 [.pointer (some ⟨r, 0, none⟩), .int .i64 k, s2.v].toArray [rportX r ps, sl true s2.v m]
  fun v l' => v = .bool (delBA ps k) ∧ l' = [rportX r (delA ps k m)] := by
 refine Trip.pk fun g hg F K hK => ?_
 obtain ⟨hx, hw⟩ := hg
 refine rdeliver_ok hx (by have := hw.1; omega) (by have := (okA_ix (k := k) hw).2; omega) F K ?_
 rintro v l' ⟨b2, c2, d2, xs2, hx2, rfl, rfl⟩
 refine Tr.imp ?_ (hK _ _ ⟨rfl, rfl⟩)
 exact rportX_cl hx2 (okA_del hw)
theorem ypnew_ok (h : ∀ c ∈ cs, c.depth ≤ 16) : Trip Tryz.prog 62 [s0.v].toArray [sl true s0.v cs]
  fun v l' => ∃ r : Nat, v = .pointer (some ⟨r, 0, none⟩) ∧ l' = [rportX r (newA cs)] := by
 refine fun F K hK => rpnew_ok F K ?_
 rintro v l' ⟨r, a, b, c, d, xs, h2, rfl, rfl⟩
 refine Tr.imp ?_ (hK _ _ ⟨r, rfl, rfl⟩)
 exact rportX_cl h2 (okA_new h)
end
end Go.Proofs.YtacmaamllpiloaaGreat
