import Derived.Test.YtacmaamllpiloaaGreatZ27
import Derived.Test.YtacmaamllpiloaaGreatZ06
namespace Go.Proofs.YtacmaamllpiloaaGreat
open Go Go.Wk
set_option maxHeartbeats 6400000
set_option maxRecDepth 10000
structure AP where
  c : PortC
  ms : List (List UInt8)
  fresh : Bool
  lost : Int
instance : Inhabited AP := ⟨⟨default, [], false, 0⟩⟩
def mo (x : SL Msg) : List (List UInt8) := x.d.map SL.d
def canA (ps : List AP) (k : Int) (q i : Bool) : Bool := if inR ps k then (((ix ps k).c.q == q) && ((ix ps k).c.i == i)) else false
def intoCA (ps : List AP) (k : Int) (q : Bool) (n : Nat) : Int := if canA ps k q false = true then (if lenOK n (ix ps k).c.size = true then (if q = true then (if (ix ps k).c.depth ≤ (ix ps k).ms.length then 1 else 0) else 0) else 2) else 3
def intoA (ps : List AP) (k : Int) (q : Bool) (m : List UInt8) : List AP := if canA ps k q false = true then (if lenOK m.length (ix ps k).c.size = true then (if q = true then (if (ix ps k).c.depth ≤ (ix ps k).ms.length then ps else ps.set k.toNat { ix ps k with ms := (ix ps k).ms ++ [m], fresh := false }) else ps.set k.toNat { ix ps k with ms := [m], fresh := true }) else ps) else ps
def outCA (ps : List AP) (k : Int) (q : Bool) : Int := if canA ps k q true = true then (if ((ix ps k).ms.length : Int) = 0 then 1 else 0) else 3
def outDA (ps : List AP) (k : Int) (q : Bool) : List UInt8 := if canA ps k q true = true then (if ((ix ps k).ms.length : Int) = 0 then [] else ix (ix ps k).ms 0) else []
def outA (ps : List AP) (k : Int) (q : Bool) : List AP := if canA ps k q true = true then (if q = true then (if ((ix ps k).ms.length : Int) = 0 then ps else ps.set k.toNat { ix ps k with ms := (ix ps k).ms.drop 1, fresh := false }) else ps) else ps
def delBA (ps : List AP) (k : Int) : Bool := if canA ps k false true = true then true else if canA ps k true true = true then !decide ((ix ps k).c.depth ≤ (ix ps k).ms.length) else false
def delA (ps : List AP) (k : Int) (m : List UInt8) : List AP := if canA ps k false true = true then ps.set k.toNat { ix ps k with ms := [m], fresh := false } else if canA ps k true true = true then (if (ix ps k).c.depth ≤ (ix ps k).ms.length then ps.set k.toNat { ix ps k with fresh := false, lost := IntKind.i64.wrap ((ix ps k).lost + 1) } else ps.set k.toNat { ix ps k with ms := (ix ps k).ms ++ [m], fresh := false }) else ps
attribute [local irreducible] BrK GenK EGenK EUnitK CallK FnK CallV GuardO GuardC CondW opX opK opKc chkR eqR seqK blkK endL WL WD W LoopW BinK Tr drewK resL PickK NotK NilK ExtrK getK Instr.storeAt Instr.loadAt Instr.fieldAt Instr.indexAt Instr.lookup Instr.mapUpdate Instr.box Instr.alloc Instr.build Instr.buildSlice Instr.makeSlice Instr.makeMap Instr.sliceAt Instr.field Instr.index Instr.makeInterface Instr.typeAssert Builtin.len_ Builtin.append_ Builtin.cap_ Builtin.min_ Builtin.max_ Builtin.copy_ Builtin.clear_ convert binOp mp blk rob sl sep ex fact old
end Go.Proofs.YtacmaamllpiloaaGreat
namespace Go.Proofs.YtacmaamllpiloaaGreat
open Go Go.Wk
set_option maxHeartbeats 64000000
set_option maxRecDepth 10000
def newA (cs : List PortC) : List AP := (cs.take 8).map fun c => ⟨c, [], false, 0⟩
theorem newA_len {cs : List PortC} : (newA cs).length = min 8 cs.length := by simp [newA]
attribute [local irreducible] BrK GenK EGenK EUnitK CallK FnK CallV GuardO GuardC CondW opX opK opKc chkR eqR seqK blkK endL WL WD W LoopW BinK Tr drewK resL PickK NotK NilK ExtrK getK Instr.storeAt Instr.loadAt Instr.fieldAt Instr.indexAt Instr.lookup Instr.mapUpdate Instr.box Instr.alloc Instr.build Instr.buildSlice Instr.makeSlice Instr.makeMap Instr.sliceAt Instr.field Instr.index Instr.makeInterface Instr.typeAssert Builtin.len_ Builtin.append_ Builtin.cap_ Builtin.min_ Builtin.max_ Builtin.copy_ Builtin.clear_ convert binOp mp blk rob sl sep ex fact old
end Go.Proofs.YtacmaamllpiloaaGreat
namespace Go.Proofs.YtacmaamllpiloaaGreat
open Go Go.Wk
set_option maxHeartbeats 3200000
set_option maxRecDepth 10000
section
variable {b c b2 c2 : Nat} {s s2 : SV} {m m2 m3 : Msg} {n : Nat} {t f t2 f2 : Bool}
abbrev sA (b c : Nat) (m : Msg) (t f : Bool) : OneG := ⟨b, false, true, 300, 0, 0, c, ⟨none, 0, 0⟩, [], m, t, f⟩
abbrev sB (b c : Nat) (m : Msg) (t f : Bool) : OneG := ⟨b, false, false, 300, 0, 0, c, ⟨none, 0, 0⟩, [], m, t, f⟩
end
attribute [local irreducible] BrK GenK EGenK EUnitK CallK FnK CallV GuardO GuardC CondW opX opK opKc chkR eqR seqK blkK endL WL WD W LoopW BinK Tr drewK resL PickK NotK NilK ExtrK getK Instr.storeAt Instr.loadAt Instr.fieldAt Instr.indexAt Instr.lookup Instr.mapUpdate Instr.box Instr.alloc Instr.build Instr.buildSlice Instr.makeSlice Instr.makeMap Instr.sliceAt Instr.field Instr.index Instr.makeInterface Instr.typeAssert Builtin.len_ Builtin.append_ Builtin.cap_ Builtin.min_ Builtin.max_ Builtin.copy_ Builtin.clear_ convert binOp mp blk rob sl sep ex fact old
end Go.Proofs.YtacmaamllpiloaaGreat
namespace Go.Proofs.YtacmaamllpiloaaGreat
open Go Go.Wk
set_option maxHeartbeats 3200000
set_option maxRecDepth 10000
def OneG.conf (g : OneG) : PortC := ⟨g.q, g.i, g.size, g.depth⟩
theorem mk0_core {b c : Nat} {x : PortC} : (OneG.mk0 b c x).core = portM x := rfl
theorem ix_set_self {xs : List OneG} {k : Nat} {x : OneG} (h : k < xs.length) : ix (xs.set k x) (k : Int) = x := by rw [ix_nat (by simpa using h)]; simp
theorem ix_set_ne {xs : List OneG} {k j : Nat} {x : OneG} (h : j ≠ k) (hj : j < xs.length) : ix (xs.set k x) (j : Int) = ix xs (j : Int) := by
  rw [ix_nat (by simpa using hj), ix_nat hj, List.getElem_set_ne (Ne.symm h)]
theorem one_open {g : OneG} {l : List Asrt} {X : WP} (hx : ∀ v0, Tr (onB g.b g.q g.i g.size g.depth v0 g.lost :: l) X) : Tr (oneA g :: l) X := by
  cases hq : g.q
  · refine oneS_open hq ?_
    have := hx (.iface 124 (.pointer (some ⟨g.c, 0, none⟩)))
    rw [hq] at this
    exact this.imp (Imp.cons (Imp.trans Imp.tail Imp.tail))
  · refine oneQ_open hq ?_
    have := hx (.iface 121 (.pointer (some ⟨g.c, 0, none⟩)))
    rw [hq] at this
    exact this.imp (Imp.cons (Imp.trans Imp.tail (Imp.trans Imp.tail Imp.tail)))
theorem clear_core {gs g2 : List OneG} (hl : g2.length = gs.length) (_hcf : g2.map OneG.conf = gs.map OneG.conf) (h : ∀ j : Nat, j < gs.length → (ix g2 (j : Int)).core = portM (ix gs (j : Int)).conf) : g2.map OneG.core = gs.map fun g => portM g.conf :=
  List.ext_getElem (by simp [hl]) fun i h1 h2 => by
    have h1' : i < gs.length := by simpa using h2
    have := h i h1'
    rw [ix_nat (by omega), ix_nat h1'] at this
    simpa using this
attribute [local irreducible] BrK GenK EGenK EUnitK CallK FnK CallV GuardO GuardC CondW opX opK opKc chkR eqR seqK blkK endL WL WD W LoopW BinK Tr drewK resL PickK NotK NilK ExtrK getK Instr.storeAt Instr.loadAt Instr.fieldAt Instr.indexAt Instr.lookup Instr.mapUpdate Instr.box Instr.alloc Instr.build Instr.buildSlice Instr.makeSlice Instr.makeMap Instr.sliceAt Instr.field Instr.index Instr.makeInterface Instr.typeAssert Builtin.len_ Builtin.append_ Builtin.cap_ Builtin.min_ Builtin.max_ Builtin.copy_ Builtin.clear_ convert binOp mp blk rob sl sep ex fact old
theorem pclear_ok {p : Nat} {s : SV} {gs : List OneG} : Trip Tryz.prog 225 [.pointer (some ⟨p, 0, none⟩)].toArray [poB p s, fam oneA gs, sl false s.v (gs.map OneG.pt)]
    fun v l' => ∃ gs', gs'.map OneG.pt = gs.map OneG.pt ∧ gs'.map OneG.core = gs.map (fun g => portM g.conf) ∧ v = .tuple #[] ∧ l' = [poB p s, fam oneA gs', sl false s.v (gs.map OneG.pt)] := by
  intro F K hK
  simp only [List.cons_append, List.nil_append]
  refine Tr.bound (xs := gs.map OneG.pt) (Has.next (Has.next Has.here)) fun hbx => ?_
  have hlp : (gs.map OneG.pt).length = gs.length := List.length_map _
  (refine Tr.enter (rs := []) mixed fn225 rfl (by simp +arith [Tryz.ntmps225]) fun u => ?_; simp only [cd225, Tryz.f225])
  ((try simp only [WKb, ↓reduceIte, Nat.reduceEqDiff]) <;> (repeat' ((first
    | (refine G.tr ?_; first | refine S.a ?_ | fail)
    | fail) <;> (try simp only [WKb, ↓reduceIte]))))
  refine Tr.loopE (α := Nat × List OneG) [11] [9, 10] (fun x => [.int .i64 x.1]) (fun x => [fam oneA x.2])
    (fun x => x.1 ≤ gs.length ∧ x.2.length = gs.length ∧ x.2.map OneG.pt = gs.map OneG.pt ∧ x.2.map OneG.conf = gs.map OneG.conf ∧ ∀ j : Nat, j < x.1 → (ix x.2 (j : Int)).core = portM (ix gs (j : Int)).conf) (fun x => gs.length - x.1) (0, gs) (by (repeat (first | exact TakeL.nil | (apply TakeL.cons; focus ((first | ((repeat (first | with_reducible exact TakeA.here | with_reducible apply TakeA.next)); done) | fail))) | fail)); done) rfl ⟨by omega, rfl, rfl, rfl, fun j hj => by omega⟩ fun x u hx => ?_
  obtain ⟨k, g2⟩ := x
  simp only at hx ⊢
  obtain ⟨hk, hl, hpt, hcf, hco⟩ := hx
  by_cases hkn : k < gs.length
  · have hw := wrapSucc (k := k) (by omega)
    have hm : ix (gs.map OneG.pt) (k : Int) = (ix gs (k : Int)).pt := ix_map (f := OneG.pt) (by omega) (by omega)
    have hm2 : ix (gs.map OneG.pt) (k : Int) = ⟨some (ix g2 (k : Int)).b⟩ := by rw [← hpt, ix_map (f := OneG.pt) (by omega) (by omega)]; rfl
    have hlp2 : (gs.map OneG.pt).length = gs.length := List.length_map _
    have hc2 : (ix g2 (k : Int)).conf = (ix gs (k : Int)).conf := by rw [← ix_map (f := OneG.conf) (by omega) (by omega), hcf, ix_map (f := OneG.conf) (by omega) (by omega)]
    simp only [List.cons_append, List.nil_append]
    refine Tr.famAt (A := oneA) k (by (repeat (first | exact TakeA.here | fail)); done) (by omega) (by omega) ?_
    refine one_open fun v0 => ?_
    ((try simp only [WKb, ↓reduceIte, Nat.reduceEqDiff]) <;> (repeat' ((first
    | (refine G.tr ?_; first | refine S.a ?_ | (refine G.call 114 ?_; refine S.c ?_ (h := fill_ok)) | refine S.i fun hix => ?_ | fail)
    | rintro _ _ ⟨_, rfl, rfl⟩
    | fail) <;> (try simp only [WKb, WKh, ↓reduceIte, Nat.reduceEqDiff, hw, hm2]))))
    all_goals
      rename_i w
      have hA : (g2.set k (OneG.mk0 (ix g2 (k : Int)).b w (ix g2 (k : Int)).conf)).length = gs.length := by simp [hl]
      have hB : (g2.set k (OneG.mk0 (ix g2 (k : Int)).b w (ix g2 (k : Int)).conf)).map OneG.pt = gs.map OneG.pt := by
        rw [← hpt]; exact map_same (f := OneG.pt) (k := (k : Int)) (by omega) (by omega) _ rfl
      have hC : (g2.set k (OneG.mk0 (ix g2 (k : Int)).b w (ix g2 (k : Int)).conf)).map OneG.conf = gs.map OneG.conf := by
        rw [← hcf]; exact map_same (f := OneG.conf) (k := (k : Int)) (by omega) (by omega) _ rfl
      have hD : ∀ j : Nat, j < k + 1 → (ix (g2.set k (OneG.mk0 (ix g2 (k : Int)).b w (ix g2 (k : Int)).conf)) (j : Int)).core = portM (ix gs (j : Int)).conf := fun j hj => by
        by_cases he : j = k
        · subst he
          rw [ix_set_self (by omega), mk0_core, hc2]
        · rw [ix_set_ne he (by omega)]
          exact hco j (by omega)
      clear hm2 hm hpt hcf
      (apply Tr.againE (k + 1, g2.set k (OneG.mk0 (ix g2 (k : Int)).b w (ix g2 (k : Int)).conf)); (focus (simp only [WKb, ↓reduceIte, Nat.reduceEqDiff])); (focus ((try simp only [WKb, ↓reduceIte]); (all_goals ((repeat (refine cons_eq (by first | rfl | ((try clear hK) <;> first | (simp [*, OneG.conf]; done) | (simp [*, OneG.conf]; omega) | (simp [*, OneG.conf] <;> (try split) <;> simp_all <;> omega))) ?_)); rfl)); done)); (focus (first | ((try simp only []); (repeat' (first | omega | refine And.intro ?_ ?_)); done))); (focus (first | omega | fail)); (focus (((try clear hK) <;> (try simp only [WKe, OneG.conf, *]) <;> repeat (first | with_reducible exact EntR.done | (refine S.f ?_ <;> (try simp only [WKe, OneG.conf, ↓reduceIte, reduceCtorEq, Int.reduceEq, *])) | fail)))))
  · have hkk : k = gs.length := by omega
    ((try simp only [WKb, ↓reduceIte, Nat.reduceEqDiff]) <;> (repeat' ((first
    | (refine G.tr ?_; first | refine S.a ?_ | fail)
    | fail) <;> (try simp only [WKb, ↓reduceIte]))))
    all_goals
      apply Tr.fin hK ⟨g2, hpt, clear_core hl hcf (fun j hj => hco j (by omega)), rfl, rfl⟩
      ((try clear hK) <;> (try simp only [WKe, *]) <;> repeat (first | with_reducible exact EntR.done | refine S.e ?_ | fail))
end Go.Proofs.YtacmaamllpiloaaGreat
namespace Go.Proofs.YtacmaamllpiloaaGreat
open Go Go.Wk
def OneG.abs (g : OneG) : AP := ⟨g.conf, if g.q = true then g.ms.map SL.d else if g.there = true then [g.m.d] else [], !g.q && !g.i && g.fresh, g.lost⟩
def OneG.wf (g : OneG) (n : Nat) : Prop := (g.q = false → g.fresh = true → g.there = true) ∧ g.m.d.length ≤ 300 ∧ g.ms.length ≤ n
def invP (gs : List OneG) (n : Nat) : Prop := gs.length ≤ 8 ∧ ∀ g ∈ gs, g.wf n
theorem abs_len {gs : List OneG} : (gs.map OneG.abs).length = gs.length := List.length_map _
theorem abs_ix {gs : List OneG} {k : Int} (h : inR gs k) : ix (gs.map OneG.abs) k = (ix gs k).abs := ix_map (f := OneG.abs) h.1 h.2
theorem abs_inR {gs : List OneG} {k : Int} : inR (gs.map OneG.abs) k = inR gs k := by unfold inR; rw [abs_len]
theorem abs_can {gs : List OneG} {k : Int} {q i : Bool} : canB gs k q i = canA (gs.map OneG.abs) k q i := by
  unfold canB canA
  simp only [abs_inR]
  split
  · rename_i h; rw [abs_ix h]; rfl
  · rfl
theorem canB_t {gs : List OneG} {k : Int} {q i : Bool} (h : canB gs k q i = true) : inR gs k ∧ (ix gs k).q = q ∧ (ix gs k).i = i := by
  unfold canB at h
  split at h
  · rename_i hr
    simp only [Bool.and_eq_true, beq_iff_eq] at h
    exact ⟨hr, h.1, h.2⟩
  · cases h
theorem abs_q {g : OneG} (h : g.q = true) : g.abs.ms = g.ms.map SL.d := if_pos h
theorem abs_s {g : OneG} (h : g.q = false) : g.abs.ms = if g.there = true then [g.m.d] else [] := if_neg (by rw [h]; simp)
theorem abs_set {gs : List OneG} {k : Nat} {g : OneG} : (gs.set k g).map OneG.abs = (gs.map OneG.abs).set k g.abs := List.map_set
theorem set_abs {gs : List OneG} {k : Int} (h : inR gs k) {g : OneG} (hg : g.abs = (ix gs k).abs) : (gs.set k.toNat g).map OneG.abs = gs.map OneG.abs := map_same (f := OneG.abs) h.1 h.2 g hg
theorem abs_intoC {gs : List OneG} {k : Int} {q : Bool} {n : Nat} : intoC gs k q n = intoCA (gs.map OneG.abs) k q n := by
  unfold intoC intoCA
  rw [abs_can]
  split
  · rename_i h
    rw [← abs_can] at h
    obtain ⟨hr, hq, hi⟩ := canB_t h
    rw [abs_ix hr]
    show (if lenOK n (ix gs k).size = true then _ else _) = (if lenOK n (ix gs k).size = true then _ else _)
    split
    · split
      · rename_i hq2
        rw [abs_q (hq.trans hq2), List.length_map]; rfl
      · rfl
    · rfl
  · rfl
theorem abs_into {gs : List OneG} {k : Int} {q : Bool} {s : SV} {m : Msg} : (intoG gs k q s m).map OneG.abs = intoA (gs.map OneG.abs) k q m.d := by
  unfold intoG intoA
  rw [abs_can]
  split
  · rename_i h
    rw [← abs_can] at h
    obtain ⟨hr, hq, hi⟩ := canB_t h
    rw [abs_ix hr]
    show List.map OneG.abs (if lenOK m.d.length (ix gs k).size = true then _ else _) = (if lenOK m.d.length (ix gs k).size = true then _ else _)
    split
    · cases q
      · simp only [Bool.false_eq_true, if_false]
        rw [abs_set]; congr 1
        simp [putP, hq, OneG.abs, OneG.conf, hi]
      · simp only [if_true]
        rw [abs_q hq, List.length_map]
        show _ = if (ix gs k).depth ≤ ((ix gs k).ms.length : Int) then _ else _
        split
        · rename_i hf
          refine set_abs hr ?_
          simp [putP, hq, OneG.abs, OneG.conf, qput, hf]
        · rename_i hf
          rw [abs_set]; congr 1
          simp [putP, hq, OneG.abs, OneG.conf, qput, hf]
    · rfl
  · rfl
theorem abs_outC {gs : List OneG} {k : Int} {q : Bool} : outC gs k q = outCA (gs.map OneG.abs) k q := by
  unfold outC outCA
  rw [abs_can]
  split
  · rename_i h
    rw [← abs_can] at h
    obtain ⟨hr, hq, hi⟩ := canB_t h
    rw [abs_ix hr]
    cases q
    · rw [abs_s hq]; cases (ix gs k).there <;> rfl
    · rw [abs_q hq, List.length_map]; rfl
  · rfl
theorem abs_outD {gs : List OneG} {k : Int} {q : Bool} : outD gs k q = outDA (gs.map OneG.abs) k q := by
  cases h : canB gs k q true
  · have h2 : canA (gs.map OneG.abs) k q true = false := by rw [← abs_can]; exact h
    simp [outD, outC, outDA, h, h2]
  · have h2 : canA (gs.map OneG.abs) k q true = true := by rw [← abs_can]; exact h
    obtain ⟨hr, hq, hi⟩ := canB_t h
    simp only [outD, outC, outDA, h, h2, if_true, abs_ix hr]
    cases q
    · rw [abs_s hq]; cases (ix gs k).there <;> simp [ix]
    · rw [abs_q hq, List.length_map]
      by_cases hz : ((ix gs k).ms.length : Int) = 0
      · simp only [hz, if_true]; rfl
      · simp only [hz, if_true, if_false]
        rw [ix_map (f := SL.d) (by omega) (by omega)]
theorem abs_out {gs : List OneG} {k : Int} {q : Bool} {s : SV} : (outG gs k q s).map OneG.abs = outA (gs.map OneG.abs) k q := by
  unfold outG outA
  rw [abs_can]
  split
  · rename_i h
    rw [← abs_can] at h
    obtain ⟨hr, hq, hi⟩ := canB_t h
    rw [abs_ix hr]
    cases q
    · rfl
    · simp only [if_true]
      rw [abs_q hq, List.length_map]
      split
      · rename_i hz
        refine set_abs hr ?_
        have : (ix gs k).ms = [] := List.eq_nil_of_length_eq_zero (by omega)
        simp [OneG.abs, OneG.conf, hq, this]
      · rw [abs_set]; congr 1
        simp [OneG.abs, OneG.conf, hq]
  · rfl
theorem abs_canF {gs : List OneG} {k : Int} {q i : Bool} (h : ¬ (inR gs k ∧ (ix gs k).q = q ∧ (ix gs k).i = i)) : canA (gs.map OneG.abs) k q i = false := by
  rw [← abs_can]
  cases h2 : canB gs k q i with
  | false => rfl
  | true => exact absurd (canB_t h2) h
theorem abs_canT {gs : List OneG} {k : Int} {q i : Bool} (hr : inR gs k) (hq : (ix gs k).q = q) (hi : (ix gs k).i = i) : canA (gs.map OneG.abs) k q i = true := by
  rw [← abs_can]; simp [canB, hr, hq, hi]
theorem wf_ix {gs : List OneG} {n : Nat} (h : invP gs n) {k : Int} (hr : inR gs k) : (ix gs k).wf n := by
  have := ix_some (xs := gs) hr.1 hr.2
  exact h.2 _ (List.mem_of_getElem? this)
theorem abs_del {gs : List OneG} {k : Int} {s : SV} {m : Msg} : delB gs k = delBA (gs.map OneG.abs) k ∧ (delG gs k s m).map OneG.abs = delA (gs.map OneG.abs) k m.d := by
  by_cases hr : inR gs k
  · cases hi : (ix gs k).i
    · have c1 : canA (gs.map OneG.abs) k true true = false := abs_canF (by simp [hi])
      have c2 : canA (gs.map OneG.abs) k false true = false := abs_canF (by simp [hi])
      simp [delB, delG, delBA, delA, c1, c2, hr, hi]
    · cases hq : (ix gs k).q
      · have c2 : canA (gs.map OneG.abs) k false true = true := abs_canT hr hq hi
        simp only [delB, delG, delBA, delA, c2, hr, hi, hq, if_true, if_false, Bool.false_eq_true, abs_ix hr]
        refine ⟨trivial, ?_⟩
        rw [abs_set]; congr 1
        simp [delP, OneG.abs, OneG.conf, hq, hi]
      · have c1 : canA (gs.map OneG.abs) k true true = true := abs_canT hr hq hi
        have c2 : canA (gs.map OneG.abs) k false true = false := abs_canF (by simp [hq])
        have hl : (ix gs k).abs.ms.length = (ix gs k).ms.length := by rw [abs_q hq, List.length_map]
        simp only [delB, delG, delBA, delA, c1, c2, hr, hi, hq, if_true, if_false, Bool.false_eq_true, abs_ix hr, hl]
        refine ⟨rfl, ?_⟩
        rw [abs_set]
        show _ = if (ix gs k).depth ≤ ((ix gs k).ms.length : Int) then _ else _
        by_cases hf : (ix gs k).depth ≤ ((ix gs k).ms.length : Int)
        · rw [if_pos hf]; congr 1
          simp [delP, OneG.abs, OneG.conf, hq, hf]
        · rw [if_neg hf]; congr 1
          simp [delP, OneG.abs, OneG.conf, hq, hf]
  · have c1 : canA (gs.map OneG.abs) k true true = false := abs_canF (by simp [hr])
    have c2 : canA (gs.map OneG.abs) k false true = false := abs_canF (by simp [hr])
    simp [delB, delG, delBA, delA, c1, c2, hr]
theorem inv_set {gs : List OneG} {n k : Nat} {g : OneG} (h : invP gs n) (hg : g.wf n) : invP (gs.set k g) n := ⟨by rw [List.length_set]; exact h.1, fun x hx => by
  rcases List.mem_or_eq_of_mem_set hx with h' | rfl
  · exact h.2 x h'
  · exact hg⟩
theorem inv_out {gs : List OneG} {n : Nat} {k : Int} {q : Bool} {s : SV} (h : invP gs n) : invP (outG gs k q s) n := by
  unfold outG
  split
  · rename_i hc
    obtain ⟨hr, hq, hi⟩ := canB_t hc
    have hw := wf_ix h hr
    split
    · refine inv_set h ⟨hw.1, hw.2.1, ?_⟩
      have := hw.2.2
      show ((ix gs k).ms.drop 1).length ≤ n
      simp; omega
    · exact h
  · exact h
theorem core_wf {g : OneG} {x : PortC} (h : g.core = portM x) : g.wf 0 ∧ g.abs = ⟨x, [], false, 0⟩ := by
  rw [core_mk h]
  refine ⟨⟨fun _ hf => (by cases hf), Nat.zero_le _, Nat.le_refl _⟩, ?_⟩
  obtain ⟨q, i, sz, d⟩ := x
  cases q <;> cases i <;> rfl
theorem core_inv {gs : List OneG} {cs : List PortC} (h : gs.map OneG.core = cs.map portM) (hl : cs.length ≤ 8) : invP gs 0 ∧ gs.map OneG.abs = cs.map fun c => ⟨c, [], false, 0⟩ := by
  have hlen : gs.length = cs.length := by simpa using congrArg List.length h
  have hg : ∀ (i : Nat) (h1 : i < gs.length) (h2 : i < cs.length), gs[i].core = portM cs[i] := fun i h1 h2 => by
    have : (gs.map OneG.core)[i]'(by simpa using h1) = (cs.map portM)[i]'(by simpa using h2) := by simp only [h]
    simpa using this
  refine ⟨⟨by omega, fun g hgm => ?_⟩, List.ext_getElem (by simp [hlen]) fun i h1 h2 => ?_⟩
  · obtain ⟨i, h1, rfl⟩ := List.getElem_of_mem hgm
    exact (core_wf (hg i h1 (by omega))).1
  · have h1' : i < gs.length := by simpa using h1
    simpa using (core_wf (hg i h1' (by omega))).2
end Go.Proofs.YtacmaamllpiloaaGreat
namespace Go.Proofs.YtacmaamllpiloaaGreat
open Go Go.Wk
set_option maxHeartbeats 6400000
set_option maxRecDepth 10000
attribute [local irreducible] BrK GenK EGenK EUnitK CallK FnK CallV GuardO GuardC CondW opX opK opKc chkR eqR seqK blkK endL WL WD W LoopW BinK Tr drewK resL PickK NotK NilK ExtrK getK Instr.storeAt Instr.loadAt Instr.fieldAt Instr.indexAt Instr.lookup Instr.mapUpdate Instr.box Instr.alloc Instr.build Instr.buildSlice Instr.makeSlice Instr.makeMap Instr.sliceAt Instr.field Instr.index Instr.makeInterface Instr.typeAssert Builtin.len_ Builtin.append_ Builtin.cap_ Builtin.min_ Builtin.max_ Builtin.copy_ Builtin.clear_ convert binOp mp blk rob sl sep ex fact old
def clearA (ps : List AP) : List AP := ps.map fun g => ⟨g.c, [], false, 0⟩
end Go.Proofs.YtacmaamllpiloaaGreat
namespace Go.Proofs.YtacmaamllpiloaaGreat
open Go Go.Wk
set_option maxHeartbeats 6400000
set_option maxRecDepth 10000
theorem ix_cases {α : Type} [Inhabited α] (xs : List α) (k : Int) : ix xs k ∈ xs ∨ ix xs k = default := by
  unfold ix
  by_cases h : k.toNat < xs.length
  · left; simp [h]
  · right; simp [h]
theorem m_len {gs : List OneG} {n : Nat} (h : invP gs n) (k : Int) : (ix gs k).m.d.length ≤ 1000000 := by
  rcases ix_cases gs k with hm | hm
  · have := (h.2 _ hm).2.1; omega
  · rw [hm]; exact Nat.zero_le _
theorem ms_len {gs : List OneG} {n : Nat} (h : invP gs n) (hn : n ≤ 100000) (k : Int) : (ix gs k).ms.length ≤ 1000000 := by
  rcases ix_cases gs k with hm | hm
  · have := (h.2 _ hm).2.2; omega
  · rw [hm]; exact Nat.zero_le _
theorem clear_abs {gs gs2 : List OneG} {n : Nat} (h : invP gs n) (hc : gs2.map OneG.core = gs.map fun g => portM g.conf) : invP gs2 (n + 1) ∧ gs2.map OneG.abs = clearA (gs.map OneG.abs) := by
  have h2 : gs2.map OneG.core = (gs.map OneG.conf).map portM := by rw [hc, List.map_map]; rfl
  obtain ⟨a, b⟩ := core_inv h2 (by simpa using h.1)
  refine ⟨⟨a.1, fun g hg => ⟨(a.2 g hg).1, (a.2 g hg).2.1, by have := (a.2 g hg).2.2; omega⟩⟩, ?_⟩
  rw [b, clearA, List.map_map, List.map_map]; rfl
attribute [local irreducible] BrK GenK EGenK EUnitK CallK FnK CallV GuardO GuardC CondW opX opK opKc chkR eqR seqK blkK endL WL WD W LoopW BinK Tr drewK resL PickK NotK NilK ExtrK getK Instr.storeAt Instr.loadAt Instr.fieldAt Instr.indexAt Instr.lookup Instr.mapUpdate Instr.box Instr.alloc Instr.build Instr.buildSlice Instr.makeSlice Instr.makeMap Instr.sliceAt Instr.field Instr.index Instr.makeInterface Instr.typeAssert Builtin.len_ Builtin.append_ Builtin.cap_ Builtin.min_ Builtin.max_ Builtin.copy_ Builtin.clear_ convert binOp mp blk rob sl sep ex fact old
end Go.Proofs.YtacmaamllpiloaaGreat
