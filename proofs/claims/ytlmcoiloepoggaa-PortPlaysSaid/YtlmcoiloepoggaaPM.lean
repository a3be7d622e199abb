import Derived.Test.YtlmcoiloepoggaaPI
import Derived.Test.YtlmcoiloepoggaaPJ
namespace Go.Proofs.Ytlmcoiloepoggaa
open Go Go.Wk
/-- A port, as it is told of. -/
def OneG.abs (g : OneG) : AP := ⟨g.conf, if g.q = true then g.ms.map SL.d else if g.there = true then [g.m.d] else [], !g.q && !g.i && g.fresh, g.lost⟩
def OneG.wf (g : OneG) (n : Nat) : Prop := (g.q = false → g.fresh = true → g.there = true) ∧ g.m.d.length ≤ 300 ∧ g.ms.length ≤ n
def invP (gs : List OneG) (n : Nat) : Prop := gs.length ≤ 8 ∧ ∀ g ∈ gs, g.wf n
theorem abs_len {gs : List OneG} : (gs.map OneG.abs).length = gs.length := List.length_map _
theorem abs_ix {gs : List OneG} {k : Int} (h : inR gs k) : ix (gs.map OneG.abs) k = (ix gs k).abs := ix_map (f := OneG.abs) h.1 h.2
theorem abs_inR {gs : List OneG} {k : Int} : inR (gs.map OneG.abs) k = inR gs k := by unfold inR; rw [abs_len]
theorem abs_can {gs : List OneG} {k : Int} {q i : Bool} : canB gs k q i = canA (gs.map OneG.abs) k q i := by
  unfold canB canA
  simp only [abs_inR]
  split
  · rename_i h; rw [abs_ix h]; rfl
  · rfl
theorem canB_t {gs : List OneG} {k : Int} {q i : Bool} (h : canB gs k q i = true) : inR gs k ∧ (ix gs k).q = q ∧ (ix gs k).i = i := by
  unfold canB at h
  split at h
  · rename_i hr
    simp only [Bool.and_eq_true, beq_iff_eq] at h
    exact ⟨hr, h.1, h.2⟩
  · cases h
theorem abs_q {g : OneG} (h : g.q = true) : g.abs.ms = g.ms.map SL.d := if_pos h
theorem abs_s {g : OneG} (h : g.q = false) : g.abs.ms = if g.there = true then [g.m.d] else [] := if_neg (by rw [h]; simp)
theorem abs_set {gs : List OneG} {k : Nat} {g : OneG} : (gs.set k g).map OneG.abs = (gs.map OneG.abs).set k g.abs := List.map_set
theorem set_abs {gs : List OneG} {k : Int} (h : inR gs k) {g : OneG} (hg : g.abs = (ix gs k).abs) : (gs.set k.toNat g).map OneG.abs = gs.map OneG.abs := map_same (f := OneG.abs) h.1 h.2 g hg
theorem abs_intoC {gs : List OneG} {k : Int} {q : Bool} {n : Nat} : intoC gs k q n = intoCA (gs.map OneG.abs) k q n := by
  unfold intoC intoCA
  rw [abs_can]
  split
  · rename_i h
    rw [← abs_can] at h
    obtain ⟨hr, hq, hi⟩ := canB_t h
    rw [abs_ix hr]
    show (if lenOK n (ix gs k).size = true then _ else _) = (if lenOK n (ix gs k).size = true then _ else _)
    split
    · split
      · rename_i hq2
        rw [abs_q (hq.trans hq2), List.length_map]; rfl
      · rfl
    · rfl
  · rfl
theorem abs_into {gs : List OneG} {k : Int} {q : Bool} {s : SV} {m : Msg} : (intoG gs k q s m).map OneG.abs = intoA (gs.map OneG.abs) k q m.d := by
  unfold intoG intoA
  rw [abs_can]
  split
  · rename_i h
    rw [← abs_can] at h
    obtain ⟨hr, hq, hi⟩ := canB_t h
    rw [abs_ix hr]
    show List.map OneG.abs (if lenOK m.d.length (ix gs k).size = true then _ else _) = (if lenOK m.d.length (ix gs k).size = true then _ else _)
    split
    · cases q
      · simp only [Bool.false_eq_true, if_false]
        rw [abs_set]; congr 1
        simp [putP, hq, OneG.abs, OneG.conf, hi]
      · simp only [if_true]
        rw [abs_q hq, List.length_map]
        show _ = if (ix gs k).depth ≤ ((ix gs k).ms.length : Int) then _ else _
        split
        · rename_i hf
          refine set_abs hr ?_
          simp [putP, hq, OneG.abs, OneG.conf, qput, hf]
        · rename_i hf
          rw [abs_set]; congr 1
          simp [putP, hq, OneG.abs, OneG.conf, qput, hf]
    · rfl
  · rfl
theorem abs_outC {gs : List OneG} {k : Int} {q : Bool} : outC gs k q = outCA (gs.map OneG.abs) k q := by
  unfold outC outCA
  rw [abs_can]
  split
  · rename_i h
    rw [← abs_can] at h
    obtain ⟨hr, hq, hi⟩ := canB_t h
    rw [abs_ix hr]
    cases q
    · rw [abs_s hq]; cases (ix gs k).there <;> rfl
    · rw [abs_q hq, List.length_map]; rfl
  · rfl
theorem abs_outD {gs : List OneG} {k : Int} {q : Bool} : outD gs k q = outDA (gs.map OneG.abs) k q := by
  cases h : canB gs k q true
  · have h2 : canA (gs.map OneG.abs) k q true = false := by rw [← abs_can]; exact h
    simp [outD, outC, outDA, h, h2]
  · have h2 : canA (gs.map OneG.abs) k q true = true := by rw [← abs_can]; exact h
    obtain ⟨hr, hq, hi⟩ := canB_t h
    simp only [outD, outC, outDA, h, h2, if_true, abs_ix hr]
    cases q
    · rw [abs_s hq]; cases (ix gs k).there <;> simp [ix]
    · rw [abs_q hq, List.length_map]
      by_cases hz : ((ix gs k).ms.length : Int) = 0
      · simp only [hz, if_true]; rfl
      · simp only [hz, if_true, if_false]
        rw [ix_map (f := SL.d) (by omega) (by omega)]
theorem abs_out {gs : List OneG} {k : Int} {q : Bool} {s : SV} : (outG gs k q s).map OneG.abs = outA (gs.map OneG.abs) k q := by
  unfold outG outA
  rw [abs_can]
  split
  · rename_i h
    rw [← abs_can] at h
    obtain ⟨hr, hq, hi⟩ := canB_t h
    rw [abs_ix hr]
    cases q
    · rfl
    · simp only [if_true]
      rw [abs_q hq, List.length_map]
      split
      · rename_i hz
        refine set_abs hr ?_
        have : (ix gs k).ms = [] := List.eq_nil_of_length_eq_zero (by omega)
        simp [OneG.abs, OneG.conf, hq, this]
      · rw [abs_set]; congr 1
        simp [OneG.abs, OneG.conf, hq]
  · rfl
theorem abs_inR' {gs : List OneG} {k : Int} {q i : Bool} (h : canB gs k q i = false) : ¬ (inR gs k ∧ (ix gs k).q = q ∧ (ix gs k).i = i) := fun ⟨h1, h2, h3⟩ => by
  simp [canB, h1, h2, h3] at h
theorem abs_canF {gs : List OneG} {k : Int} {q i : Bool} (h : ¬ (inR gs k ∧ (ix gs k).q = q ∧ (ix gs k).i = i)) : canA (gs.map OneG.abs) k q i = false := by
  rw [← abs_can]
  cases h2 : canB gs k q i with
  | false => rfl
  | true => exact absurd (canB_t h2) h
theorem abs_canT {gs : List OneG} {k : Int} {q i : Bool} (hr : inR gs k) (hq : (ix gs k).q = q) (hi : (ix gs k).i = i) : canA (gs.map OneG.abs) k q i = true := by
  rw [← abs_can]; simp [canB, hr, hq, hi]
theorem wf_ix {gs : List OneG} {n : Nat} (h : invP gs n) {k : Int} (hr : inR gs k) : (ix gs k).wf n := by
  have := ix_some (xs := gs) hr.1 hr.2
  exact h.2 _ (List.mem_of_getElem? this)
theorem abs_drain {gs : List OneG} {n : Nat} (hw : invP gs n) {k : Int} : drainD gs k = drainDA (gs.map OneG.abs) k ∧ (drainG gs k).map OneG.abs = drainA (gs.map OneG.abs) k := by
  by_cases hr : inR gs k
  · have hwf := (wf_ix hw hr).1
    cases hi : (ix gs k).i
    · cases hq : (ix gs k).q
      · have c1 : canA (gs.map OneG.abs) k true false = false := abs_canF (by simp [hq])
        have c2 : canA (gs.map OneG.abs) k false false = true := abs_canT hr hq hi
        have hfr : (ix gs k).abs.fresh = (ix gs k).fresh := by simp [OneG.abs, hq, hi]
        simp only [drainD, drainG, drainDA, drainA, c1, c2, hr, hi, hq, if_true, if_false, Bool.false_eq_true, abs_ix hr, hfr]
        cases hf : (ix gs k).fresh
        · refine ⟨rfl, ?_⟩
          simp only [Bool.false_eq_true, if_false]
          exact set_abs hr (by simp [OneG.abs, OneG.conf, hf, hq, hi])
        · simp only [if_true]
          refine ⟨by rw [abs_s hq, hwf hq hf]; rfl, ?_⟩
          rw [abs_set]; congr 1
          simp [OneG.abs, OneG.conf, hq, hi]
      · have c1 : canA (gs.map OneG.abs) k true false = true := abs_canT hr hq hi
        simp only [drainD, drainG, drainDA, drainA, c1, hr, hi, hq, if_true, if_false, Bool.false_eq_true, abs_ix hr]
        refine ⟨(abs_q hq).symm, ?_⟩
        rw [abs_set]; congr 1
        simp [OneG.abs, OneG.conf, hq, hi]
    · have c1 : canA (gs.map OneG.abs) k true false = false := abs_canF (by simp [hi])
      have c2 : canA (gs.map OneG.abs) k false false = false := abs_canF (by simp [hi])
      simp [drainD, drainG, drainDA, drainA, c1, c2, hr, hi]
  · have c1 : canA (gs.map OneG.abs) k true false = false := abs_canF (by simp [hr])
    have c2 : canA (gs.map OneG.abs) k false false = false := abs_canF (by simp [hr])
    simp [drainD, drainG, drainDA, drainA, c1, c2, hr]
theorem abs_del {gs : List OneG} {k : Int} {s : SV} {m : Msg} : delB gs k = delBA (gs.map OneG.abs) k ∧ (delG gs k s m).map OneG.abs = delA (gs.map OneG.abs) k m.d := by
  by_cases hr : inR gs k
  · cases hi : (ix gs k).i
    · have c1 : canA (gs.map OneG.abs) k true true = false := abs_canF (by simp [hi])
      have c2 : canA (gs.map OneG.abs) k false true = false := abs_canF (by simp [hi])
      simp [delB, delG, delBA, delA, c1, c2, hr, hi]
    · cases hq : (ix gs k).q
      · have c2 : canA (gs.map OneG.abs) k false true = true := abs_canT hr hq hi
        simp only [delB, delG, delBA, delA, c2, hr, hi, hq, if_true, if_false, Bool.false_eq_true, abs_ix hr]
        refine ⟨trivial, ?_⟩
        rw [abs_set]; congr 1
        simp [delP, OneG.abs, OneG.conf, hq, hi]
      · have c1 : canA (gs.map OneG.abs) k true true = true := abs_canT hr hq hi
        have c2 : canA (gs.map OneG.abs) k false true = false := abs_canF (by simp [hq])
        have hl : (ix gs k).abs.ms.length = (ix gs k).ms.length := by rw [abs_q hq, List.length_map]
        simp only [delB, delG, delBA, delA, c1, c2, hr, hi, hq, if_true, if_false, Bool.false_eq_true, abs_ix hr, hl]
        refine ⟨rfl, ?_⟩
        rw [abs_set]
        show _ = if (ix gs k).depth ≤ ((ix gs k).ms.length : Int) then _ else _
        by_cases hf : (ix gs k).depth ≤ ((ix gs k).ms.length : Int)
        · rw [if_pos hf]; congr 1
          simp [delP, OneG.abs, OneG.conf, hq, hf]
        · rw [if_neg hf]; congr 1
          simp [delP, OneG.abs, OneG.conf, hq, hf]
  · have c1 : canA (gs.map OneG.abs) k true true = false := abs_canF (by simp [hr])
    have c2 : canA (gs.map OneG.abs) k false true = false := abs_canF (by simp [hr])
    simp [delB, delG, delBA, delA, c1, c2, hr]
theorem wf_mono {g : OneG} {n : Nat} (h : g.wf n) : g.wf (n + 1) := ⟨h.1, h.2.1, by have := h.2.2; omega⟩
theorem inv_mono {gs : List OneG} {n : Nat} (h : invP gs n) : invP gs (n + 1) := ⟨h.1, fun g hg => wf_mono (h.2 g hg)⟩
theorem inv_set {gs : List OneG} {n k : Nat} {g : OneG} (h : invP gs n) (hg : g.wf n) : invP (gs.set k g) n := ⟨by rw [List.length_set]; exact h.1, fun x hx => by
  rcases List.mem_or_eq_of_mem_set hx with h' | rfl
  · exact h.2 x h'
  · exact hg⟩
theorem inv_into {gs : List OneG} {n : Nat} {k : Int} {q : Bool} {s : SV} {m : Msg} (h : invP gs n) (hm : m.d.length ≤ 300) : invP (intoG gs k q s m) (n + 1) := by
  unfold intoG
  split
  · rename_i hc
    obtain ⟨hr, hq, hi⟩ := canB_t hc
    have hw := wf_mono (wf_ix h hr)
    split
    · refine inv_set (inv_mono h) ?_
      unfold putP
      split
      · refine ⟨hw.1, hw.2.1, ?_⟩
        show (qput (ix gs k).ms _ m).length ≤ n + 1
        have := (wf_ix h hr).2.2
        unfold qput; split <;> simp <;> omega
      · exact ⟨fun _ _ => rfl, hm, hw.2.2⟩
    · exact inv_mono h
  · exact inv_mono h
theorem inv_del {gs : List OneG} {n : Nat} {k : Int} {s : SV} {m : Msg} (h : invP gs n) (hm : m.d.length ≤ 300) : invP (delG gs k s m) (n + 1) := by
  unfold delG
  split
  · rename_i hr
    have hw := wf_mono (wf_ix h hr)
    split
    · refine inv_set (inv_mono h) ?_
      unfold delP
      split
      · split
        · exact ⟨hw.1, hw.2.1, hw.2.2⟩
        · refine ⟨hw.1, hw.2.1, ?_⟩
          have := (wf_ix h hr).2.2
          show ((ix gs k).ms ++ [m]).length ≤ n + 1
          simp; omega
      · exact ⟨fun _ _ => rfl, hm, hw.2.2⟩
    · exact inv_mono h
  · exact inv_mono h
theorem inv_out {gs : List OneG} {n : Nat} {k : Int} {q : Bool} {s : SV} (h : invP gs n) : invP (outG gs k q s) n := by
  unfold outG
  split
  · rename_i hc
    obtain ⟨hr, hq, hi⟩ := canB_t hc
    have hw := wf_ix h hr
    split
    · refine inv_set h ⟨hw.1, hw.2.1, ?_⟩
      have := hw.2.2
      show ((ix gs k).ms.drop 1).length ≤ n
      simp; omega
    · exact h
  · exact h
theorem inv_drain {gs : List OneG} {n : Nat} {k : Int} (h : invP gs n) : invP (drainG gs k) n := by
  unfold drainG
  split
  · rename_i hr
    have hw := wf_ix h hr
    split
    · exact h
    · split
      · exact inv_set h ⟨hw.1, hw.2.1, Nat.zero_le _⟩
      · exact inv_set h ⟨fun _ hf => (by cases hf), hw.2.1, hw.2.2⟩
  · exact h
theorem core_wf {g : OneG} {x : PortC} (h : g.core = portM x) : g.wf 0 ∧ g.abs = ⟨x, [], false, 0⟩ := by
  rw [core_mk h]
  refine ⟨⟨fun _ hf => (by cases hf), Nat.zero_le _, Nat.le_refl _⟩, ?_⟩
  obtain ⟨q, i, sz, d⟩ := x
  cases q <;> cases i <;> rfl
theorem core_inv {gs : List OneG} {cs : List PortC} (h : gs.map OneG.core = cs.map portM) (hl : cs.length ≤ 8) : invP gs 0 ∧ gs.map OneG.abs = cs.map fun c => ⟨c, [], false, 0⟩ := by
  have hlen : gs.length = cs.length := by simpa using congrArg List.length h
  have hg : ∀ (i : Nat) (h1 : i < gs.length) (h2 : i < cs.length), gs[i].core = portM cs[i] := fun i h1 h2 => by
    have : (gs.map OneG.core)[i]'(by simpa using h1) = (cs.map portM)[i]'(by simpa using h2) := by simp only [h]
    simpa using this
  refine ⟨⟨by omega, fun g hgm => ?_⟩, List.ext_getElem (by simp [hlen]) fun i h1 h2 => ?_⟩
  · obtain ⟨i, h1, rfl⟩ := List.getElem_of_mem hgm
    exact (core_wf (hg i h1 (by omega))).1
  · have h1' : i < gs.length := by simpa using h1
    simpa using (core_wf (hg i h1' (by omega))).2
end Go.Proofs.Ytlmcoiloepoggaa
