import Derived.Test.YtacmaamllpiloaaGreatZ45
import Derived.Test.YtacmaamllpiloaaGreatMB
namespace Go.Proofs.YtacmaamllpiloaaGreat
open Go Go.Wk
set_option maxHeartbeats 3200000
set_option maxRecDepth 100000
instance elt_progs : ElT 49 (SL StepC) := ⟨⟩
def idleP : List StepC := [⟨1, 3, 0, 0, 0, 0⟩]
def progM (xs : List (SL StepC)) (k : Nat) : List StepC := if k < xs.length ∧ (ix xs (k : Int)).d ≠ [] then (ix xs (k : Int)).d else idleP
def progsM (xs : List (SL StepC)) (n : Nat) : List (List StepC) := (List.range n).map (progM xs)
def baseM (C : CC) : CM where
  mode := 3
  win := -1
  pos := List.replicate C.progs.length 0
  rest := List.replicate C.progs.length 0
  addr := List.replicate C.progs.length 0
  data := List.replicate C.progs.length []
  done := List.replicate C.progs.length false
  tb := Tb.new C.conf.procs.d
  mem := (C.conf.regions.d.take 4).map newR
  pts := newA C.conf.ports.d
  obs := newO C.conf
  slk := none
  evs := []
def newM (C : CC) : CM := startTo C (baseM C) 0 C.progs.length
section
variable {C : CC} {w : CW} {gs : List TaskG} {xs : List (SL StepC)} {n k : Nat}
theorem okM_base (hc : okC C) : okM C (baseM C) := by
  refine ⟨?_, List.length_replicate, List.length_replicate, List.length_replicate, List.length_replicate, List.length_replicate, fun k => ?_, fun x hx => ?_, fun x hx => ?_⟩
  · show ((C.conf.procs.d.take 8).map One.new).length = _
    rw [List.length_map, List.length_take, hc.np]
    exact Nat.min_eq_right hc.n8
  · by_cases hk : inR C.progs k
    · left
      have e : ix (List.replicate C.progs.length (0 : Int)) k = 0 := by
        unfold ix
        rw [List.getD_eq_getElem?_getD, List.getElem?_replicate]
        split <;> rfl
      show 0 ≤ ix (List.replicate C.progs.length (0 : Int)) k ∧ ix (List.replicate C.progs.length (0 : Int)) k < _
      rw [e]
      have := (prog_len hc hk).1
      exact ⟨by decide, by omega⟩
    · exact .inr hk
  · rw [List.eq_of_mem_replicate hx]; exact ⟨by decide, by decide⟩
  · rw [List.eq_of_mem_replicate hx]; exact Nat.zero_le _
theorem base_state (j : Int) : ¬ waitD ((baseM C).tb.at j) := by
  intro h
  have h1 : ((Tb.new C.conf.procs.d).at j).state = 2 := h.1
  unfold Tb.new Tb.at at h1
  split at h1
  · rw [List.getD_eq_getElem?_getD, List.getElem?_map] at h1
    cases hx : (C.conf.procs.d.take 8)[j.toNat]? with
    | none => rw [hx] at h1; exact absurd (show (0 : Int) = 2 from h1) (by decide)
    | some y => rw [hx] at h1; exact absurd (show (0 : Int) = 2 from h1) (by decide)
  · exact absurd (show (0 : Int) = 2 from h1) (by decide)
def TaskG.fresh (b : Nat) (s : SV) (p : List StepC) : TaskG := ⟨b, s, p, 0, 0, 0, ⟨none, 0, 0⟩, [], false⟩
structure isFresh (g : TaskG) : Prop where
  pos : g.pos = 0
  rest : g.rest = 0
  addr : g.addr = 0
  done : g.done = false
theorem map_fresh {β : Type} {f : TaskG → β} {y : β} (h : ∀ g ∈ gs, f g = y) : gs.map f = List.replicate gs.length y := by
  rw [List.eq_replicate_iff]
  refine ⟨List.length_map _, fun b hb => ?_⟩
  obtain ⟨g, hg, rfl⟩ := List.mem_map.1 hb
  exact h g hg
theorem rel_base (hc : okC C) (hp : gs.map TaskG.prog = C.progs) (hf : ∀ g ∈ gs, isFresh g) (hs : w.slk = none) : Rel C (baseM C) w gs := by
  have hl : gs.length = C.progs.length := by rw [← hp, List.length_map]
  refine ⟨okM_base hc, hp, ?_, ?_, ?_, ?_, fun k _ hw => absurd hw (base_state k), by rw [hs]; rfl⟩
  · rw [map_fresh fun g hg => (hf g hg).pos, hl]; rfl
  · rw [map_fresh fun g hg => (hf g hg).rest, hl]; rfl
  · rw [map_fresh fun g hg => (hf g hg).addr, hl]; rfl
  · rw [map_fresh fun g hg => (hf g hg).done, hl]; rfl
end
attribute [local irreducible] BrK GenK EGenK EUnitK CallK FnK CallV GuardO GuardC CondW opX opK opKc chkR eqR seqK blkK endL WL WD W LoopW BinK Tr drewK resL PickK NotK NilK ExtrK getK Instr.storeAt Instr.loadAt Instr.fieldAt Instr.indexAt Instr.lookup Instr.mapUpdate Instr.box Instr.alloc Instr.build Instr.buildSlice Instr.makeSlice Instr.makeMap Instr.sliceAt Instr.field Instr.index Instr.makeInterface Instr.typeAssert Builtin.len_ Builtin.append_ Builtin.cap_ Builtin.min_ Builtin.max_ Builtin.copy_ Builtin.clear_ convert binOp mp blk rob sl sep ex fact old
attribute [local irreducible] memX portX objX slkO
section
variable {C : CC} {xs : List (SL StepC)} {s2 : SV} {u0 : Value}
theorem cnew_ok [hu : DeA u0 C.conf] (hc : okC C) (hp : C.progs = progsM xs C.progs.length) : Trip Tryz.prog 19 [u0, .int .i64 C.part, s2.v].toArray
    [sl true C.conf.regions.s.v C.conf.regions.d, sl true C.conf.procs.s.v C.conf.procs.d, sl true C.conf.ports.s.v C.conf.ports.d, sl true C.conf.sems.s.v C.conf.sems.d, sl true C.conf.pools.s.v C.conf.pools.d, sl true C.conf.slates.s.v C.conf.slates.d, sl true C.conf.acts.s.v C.conf.acts.d, sl true s2.v xs, fzl xs]
    fun v l' => ∃ b w gs, Rel C (newM C) w gs ∧ v = ptr b ∧ l' = cellL b C (newM C) w gs := by
  intro F K hK
  simp only [List.cons_append, List.nil_append] at hK ⊢
  obtain rfl := hu.h
  have h8 := hc.n8
  have hrz := hc.rz
  have hod := hc.od
  (refine Tr.enter (rs := [.tmp 6]) mixed fn19 rfl (by simp +arith [Tryz.ntmps19]) fun u => ?_; simp only [cd19, Tryz.f19])
  have hX := @pl19.eq_def; repeat' (first | rintro _ _ ⟨rfl, rfl⟩ | rintro _ _ ⟨_, rfl, rfl⟩ | (refine G.call 54 ?_; refine S.c ?_ (h := xonew_ok (c := C.conf) (hu := ⟨rfl⟩) hc.dep)) | refine S.x ?_ | (refine G.call 51 ?_; refine S.c ?_ (h := new_ok _ _)) | (refine G.call 52 ?_; refine S.c ?_ (h := xmnew_ok (by assumption))) | (refine G.call 53 ?_; first | refine S.c ?_ (h := xpnew_ok (by assumption)) | fail) | (refine G.call 55 ?_; refine S.c ?_ (h := mnew_ok)) | (refine G.call 56 ?_; refine S.c ?_ (h := len_ok _ _)) | intro hb | fail)
  rename_i a1 a2 a3 a4 a5
  revert hb
  intro cbk
  obtain ⟨w0, hw0⟩ : ∃ w0 : CW, w0 = ⟨⟨none, 0, 0⟩, a1, a2, a3, a4, a5, none, ⟨none, 0, 0⟩⟩ := ⟨_, rfl⟩
  have hen : (((((((((setL [Value.slice none 0 0, Value.slice none 0 0, Value.slice none 0 0, Value.slice none 0 0, Value.int IntKind.i64 0, Value.slice none 0 0, Value.slice none 0 0, Value.int IntKind.i64 0, Value.int IntKind.i64 0, Value.int IntKind.i64 0, Value.slice none 0 0, Value.int IntKind.i64 0, Value.int IntKind.i64 0, Value.int IntKind.i64 0, Value.slice none 0 0, Value.pointer none, Value.pointer none, Value.pointer none, Value.pointer none, Value.pointer none, Value.pointer none, Value.slice none 0 0]
    0 (En.enc C.conf)).set 11 (Value.int IntKind.i64 C.part)).set 12 (Value.int IntKind.i64 3)).set 13 (Value.int IntKind.i64 (-1))).set 15 (ptr a1)).set 16 (ptr a2)).set 17 (ptr a3)).set 18 (ptr a4)).set 19 (ptr a5)) = [C.conf.regions.s.v, C.conf.procs.s.v, C.conf.ports.s.v, C.conf.sems.s.v, .int .i64 C.conf.flags, C.conf.pools.s.v, C.conf.slates.s.v, .int .i64 C.conf.cap, .int .i64 C.conf.budget, .int .i64 C.conf.ladder, C.conf.acts.s.v,
  .int .i64 C.part, .int .i64 3, .int .i64 (-1), w0.ts.v, ptr w0.tb, ptr w0.mem, ptr w0.pts, ptr w0.obs, ptr w0.mon, slP w0.slk, w0.ev.v] := by rw [hw0]; rfl
  rw [hen]
  clear hen
  have htn : (Tb.new C.conf.procs.d).d.length = C.progs.length := by
    show ((C.conf.procs.d.take 8).map One.new).length = _
    rw [List.length_map, List.length_take, hc.np]
    exact Nat.min_eq_right h8
  have hw1 : w0.ts = ⟨none, 0, 0⟩ ∧ w0.tb = a1 ∧ w0.mem = a2 ∧ w0.pts = a3 ∧ w0.obs = a4 ∧ w0.mon = a5 ∧ w0.slk = none ∧ w0.ev = ⟨none, 0, 0⟩ := by rw [hw0]; exact ⟨rfl, rfl, rfl, rfl, rfl, rfl, rfl, rfl⟩
  clear hw0
  obtain ⟨t1, t2, t3, t4, t5, t6, t7, t8⟩ := hw1
  refine Tr.loopE (α := Nat × SV × List TaskG) [34] [2, 6, 7, 33] (fun x => [.int .i64 x.1]) (fun x => [cellB cbk C 3 (-1) { w0 with ts := x.2.1 }, sl false x.2.1.v (x.2.2.map TaskG.pt), fam taskA x.2.2]) (fun x => x.1 ≤ C.progs.length ∧ x.2.2.length = x.1 ∧ x.2.2.map TaskG.prog = C.progs.take x.1 ∧ ∀ g ∈ x.2.2, isFresh g) (fun x => C.progs.length - x.1) (0, w0.ts, []) (by rw [t1]; exact S.T) rfl ⟨Nat.zero_le _, rfl, rfl, fun _ h => by cases h⟩ fun x u hx => ?_
  obtain ⟨k, ts, gs⟩ := x
  obtain ⟨hk, hl, hm, hfr⟩ := hx
  simp only at hk hl hm hfr ⊢
  simp only [List.cons_append, List.nil_append]
  have hlm : (gs.map TaskG.pt).length = k := by rw [List.length_map]; exact hl
  by_cases hin : k < C.progs.length
  · have hw := wrapSucc (k := k) (by omega)
    have hpk : ix C.progs (k : Int) = progM xs k := by
      rw [hp]; unfold progsM
      rw [ix_map (by omega) (by simp; exact_mod_cast hin)]
      congr 1
      simp [ix, hin]
    by_cases hq : k < xs.length
    · by_cases he : (ix xs (k : Int)).d = []
      · have hd0 : (ix xs (k : Int)).d.length = 0 := by rw [he]; rfl
        have he' := he
        clear he
        have hX := And.intro @pl19.eq_def (And.intro hw hd0); repeat' (first | rintro _ _ ⟨si, rfl, rfl⟩ | intro (nc : Nat) | intro (sv : SV) | refine S.x ?_ | (refine G.call 57 ?_; refine S.c ?_ (h := cidler_ok)) | intro hb | fail)
        all_goals
          refine Tr.freezeAt (v := si.v) (xs := idleP) S.K ?_
          have hpk' : progM xs k = idleP := by unfold progM; rw [if_neg (fun h => h.2 he')]
          have hm' : (gs ++ [TaskG.fresh nc si (idleP)]).map TaskG.prog = C.progs.take (k + 1) := by rw [take_ix hin, List.map_append, hm, hpk, hpk']; rfl
          have hln : (gs ++ [TaskG.fresh nc si (idleP)]).length = k + 1 := by rw [List.length_append, hl]; rfl
          have hfr' : ∀ g ∈ gs ++ [TaskG.fresh nc si (idleP)], isFresh g := fun g hg => by
            rcases List.mem_append.1 hg with h | h
            · exact hfr g h
            · rw [List.mem_singleton.1 h]; exact ⟨rfl, rfl, rfl, rfl⟩
          have hpt : (gs ++ [TaskG.fresh nc si (idleP)]).map TaskG.pt = gs.map TaskG.pt ++ [Pt.mk (some nc)] := by rw [List.map_append]; rfl
          have hta : taskA (TaskG.fresh nc si (idleP)) = sep (blk nc (.cells [si.v, .int .i64 0, .int .i64 0, .int .i64 0, .slice none 0 0, .bool false].toArray 82 (0, 0))) (sep (sl true si.v (idleP)) (sl true (.slice none 0 0) ([] : List UInt8))) := rfl
          clear hm hfr hl
          have hX := And.intro hpt hta
          exact S.R ((k + 1, sv, gs ++ [TaskG.fresh nc si (idleP)]) : Nat × SV × List TaskG)
      · have hd0 : 0 < (ix xs (k : Int)).d.length := List.length_pos_iff.2 he
        have hdl : (ix xs (k : Int)).d.length ≤ 1000000000 := by
          have h1 := hc.pr _ (progs_in (xs := C.progs) (k := (k : Int)) ⟨by omega, by omega⟩)
          rw [hpk] at h1
          unfold progM at h1
          rw [if_pos ⟨hq, he⟩] at h1
          have := h1.2.1
          omega
        have he' := he
        clear he
        have hX := And.intro @pl19.eq_def hw; repeat' (first | rintro _ _ ⟨si, rfl, rfl⟩ | intro (nc : Nat) | intro (sv : SV) | refine S.x ?_ | (refine G.call 57 ?_; refine S.c ?_ (h := cidler_ok)) | (refine G.call 58 ?_; refine S.c ?_ (h := cloneS_ok (by assumption))) | intro hb | fail)
        all_goals
          refine Tr.freezeAt (v := si.v) (xs := (ix xs (k : Int)).d) S.K ?_
          have hpk' : progM xs k = (ix xs (k : Int)).d := by unfold progM; rw [if_pos ⟨hq, he'⟩]
          have hm' : (gs ++ [TaskG.fresh nc si ((ix xs (k : Int)).d)]).map TaskG.prog = C.progs.take (k + 1) := by rw [take_ix hin, List.map_append, hm, hpk, hpk']; rfl
          have hln : (gs ++ [TaskG.fresh nc si ((ix xs (k : Int)).d)]).length = k + 1 := by rw [List.length_append, hl]; rfl
          have hfr' : ∀ g ∈ gs ++ [TaskG.fresh nc si ((ix xs (k : Int)).d)], isFresh g := fun g hg => by
            rcases List.mem_append.1 hg with h | h
            · exact hfr g h
            · rw [List.mem_singleton.1 h]; exact ⟨rfl, rfl, rfl, rfl⟩
          have hpt : (gs ++ [TaskG.fresh nc si ((ix xs (k : Int)).d)]).map TaskG.pt = gs.map TaskG.pt ++ [Pt.mk (some nc)] := by rw [List.map_append]; rfl
          have hta : taskA (TaskG.fresh nc si ((ix xs (k : Int)).d)) = sep (blk nc (.cells [si.v, .int .i64 0, .int .i64 0, .int .i64 0, .slice none 0 0, .bool false].toArray 82 (0, 0))) (sep (sl true si.v ((ix xs (k : Int)).d)) (sl true (.slice none 0 0) ([] : List UInt8))) := rfl
          clear hm hfr hl
          have hX := And.intro hpt hta
          exact S.R ((k + 1, sv, gs ++ [TaskG.fresh nc si ((ix xs (k : Int)).d)]) : Nat × SV × List TaskG)
    · have hX := And.intro @pl19.eq_def hw; repeat' (first | rintro _ _ ⟨si, rfl, rfl⟩ | intro (nc : Nat) | intro (sv : SV) | refine S.x ?_ | (refine G.call 57 ?_; refine S.c ?_ (h := cidler_ok)) | fail)
      all_goals
        refine Tr.freezeAt (v := si.v) (xs := idleP) S.K ?_
        have hpk' : progM xs k = idleP := by unfold progM; rw [if_neg (fun h => hq h.1)]
        have hm' : (gs ++ [TaskG.fresh nc si (idleP)]).map TaskG.prog = C.progs.take (k + 1) := by rw [take_ix hin, List.map_append, hm, hpk, hpk']; rfl
        have hln : (gs ++ [TaskG.fresh nc si (idleP)]).length = k + 1 := by rw [List.length_append, hl]; rfl
        have hfr' : ∀ g ∈ gs ++ [TaskG.fresh nc si (idleP)], isFresh g := fun g hg => by
          rcases List.mem_append.1 hg with h | h
          · exact hfr g h
          · rw [List.mem_singleton.1 h]; exact ⟨rfl, rfl, rfl, rfl⟩
        have hpt : (gs ++ [TaskG.fresh nc si (idleP)]).map TaskG.pt = gs.map TaskG.pt ++ [Pt.mk (some nc)] := by rw [List.map_append]; rfl
        have hta : taskA (TaskG.fresh nc si (idleP)) = sep (blk nc (.cells [si.v, .int .i64 0, .int .i64 0, .int .i64 0, .slice none 0 0, .bool false].toArray 82 (0, 0))) (sep (sl true si.v (idleP)) (sl true (.slice none 0 0) ([] : List UInt8))) := rfl
        clear hm hfr hl
        have hX := And.intro hpt hta
        exact S.R ((k + 1, sv, gs ++ [TaskG.fresh nc si (idleP)]) : Nat × SV × List TaskG)
  · have hke : k = C.progs.length := by omega
    rw [hke, List.take_length] at hm
    have hrb := rel_base (w := { w0 with ts := ts }) hc hm hfr t7
    subst t2 t3 t4 t5 t6
    have hso : slkO none none = fact True := by rw [slkO.eq_def]
    obtain ⟨cb, hcb⟩ : ∃ cb, cb = baseM C := ⟨_, rfl⟩
    refine Tr.nilSl (α := EvC) ?_
    refine Tr.imp (l' := cellL cbk C cb { w0 with ts := ts } gs ++ F) ?_ ?_
    · subst hcb
      simp only [List.cons_append, List.nil_append]
      have hX := And.intro t8 (And.intro hso @baseM.eq_def)
      clear hfr hm hp hrb
      show EntR [] _ _
      exact S.E
    rw [← hcb] at hrb
    have hN : newM C = startTo C cb 0 C.progs.length := by rw [hcb]; rfl
    rw [hN] at hK
    have hns : ∀ j, ¬ waitD (cb.tb.at j) := fun j => by rw [hcb]; exact base_state j
    have hl2 : (gs.map TaskG.pt).length = C.progs.length := by rw [List.length_map, rel_len hrb]
    clear hcb hN hp hm hfr hl hlm t1 t7 t8 hso
    obtain ⟨w1, hw1⟩ : ∃ w1 : CW, w1 = { w0 with ts := ts } := ⟨_, rfl⟩
    rw [← hw1] at hrb ⊢
    clear hw1
    simp only [List.cons_append, List.nil_append]
    have hX := And.intro @pl19.eq_def hl2; repeat' (first | refine S.x ?_ | fail)
    refine Tr.loopE (α := Nat × List TaskG) [76] [6, 7, 75] (fun x => [.int .i64 x.1]) (fun x => cellL cbk C (startTo C cb 0 x.1) w1 x.2) (fun x => x.1 ≤ C.progs.length ∧ Rel C (startTo C cb 0 x.1) w1 x.2) (fun x => C.progs.length - x.1) (0, gs) S.T rfl ⟨Nat.zero_le _, hrb⟩ fun y u2 hy => ?_
    obtain ⟨j, g4⟩ := y
    obtain ⟨hj, hrj⟩ := hy
    simp only at hj hrj ⊢
    simp only [List.cons_append, List.nil_append]
    by_cases hjn : j < C.progs.length
    · have hw := wrapSucc (k := j) (by omega)
      have hkj : inR C.progs (j : Int) := ⟨by omega, by omega⟩
      have hnj : ¬ waitD ((startTo C cb 0 j).tb.at (j : Int)) := fun h => hns _ (startTo_noNew j _ h)
      have hst : startM C (startTo C cb 0 j) (j : Int) 0 = startTo C cb 0 (j + 1) := rfl
      have hX := And.intro @pl19.eq_def (And.intro hw hl2); repeat' (first | rintro _ _ ⟨g5, hr5, rfl, rfl⟩ | (refine G.call 59 ?_; refine S.c ?_ (h := cstart_ok hc hrj hkj hnj)) | refine S.x ?_ | fail)
      all_goals
        rw [hst] at hr5
        have hX := hst
        clear hrj hns
        exact S.R ((j + 1, g5) : Nat × List TaskG)
    · have hje : j = C.progs.length := by omega
      subst hje
      have hX := And.intro @pl19.eq_def hl2; repeat' (first | refine S.x ?_ | fail)
      all_goals exact Tr.fin hK ⟨_, w1, g4, hrj, rfl, rfl⟩ S.E
end
end Go.Proofs.YtacmaamllpiloaaGreat
namespace Go.Proofs.YtacmaamllpiloaaGreat
open Go Go.Wk
set_option maxHeartbeats 3200000
set_option maxRecDepth 100000
structure RW where
  pg : SV
  pa : SV
  re : SV
  ad : SV
  da : SV
  dn : SV
  tb : Nat
  mem : Nat
  pts : Nat
  obs : Nat
  slk : Option Nat
  ev : SV
  px : List (SL StepC)
  dx : List (SL UInt8)
attribute [local irreducible] BrK GenK EGenK EUnitK CallK FnK CallV GuardO GuardC CondW opX opK opKc chkR eqR seqK blkK endL WL WD W LoopW BinK Tr drewK resL PickK NotK NilK ExtrK getK Instr.storeAt Instr.loadAt Instr.fieldAt Instr.indexAt Instr.lookup Instr.mapUpdate Instr.box Instr.alloc Instr.build Instr.buildSlice Instr.makeSlice Instr.makeMap Instr.sliceAt Instr.field Instr.index Instr.makeInterface Instr.typeAssert Builtin.len_ Builtin.append_ Builtin.cap_ Builtin.min_ Builtin.max_ Builtin.copy_ Builtin.clear_ convert binOp mp blk rob sl sep ex fact old
end Go.Proofs.YtacmaamllpiloaaGreat
namespace Go.Proofs.YtacmaamllpiloaaGreat
open Go Go.Wk
set_option maxHeartbeats 3200000
set_option maxRecDepth 100000
def okS (C : CC) (c : CM) : Prop := ∀ m, c.slk = some m → m.ms.length = C.progs.length
section
variable {C : CC} {c c' : CM} {w : RW} {k call p : Int} {m : SlM} {n : Nat}
theorem setM_len {ms : List (Int × Bool)} {b : Bool} : (setM ms k b).length = ms.length := by
  unfold setM
  split
  · exact List.length_set
  · rfl
theorem Rch.oS (h : Rch C n c c') (hs : okS C c) : okS C c' := by
  induction h with
  | trans _ _ h1 h2 => exact h2 (h1 hs)
  | le _ _ h1 => exact h1 hs
  | rest c k hk =>
    intro m hm
    have hm' : c.slk.map (fun m => finM m k) = some m := hm
    rcases Option.eq_none_or_eq_some c.slk with h | ⟨m0, h⟩
    · rw [h] at hm'; cases hm'
    · rw [h] at hm'
      have := hs m0 h
      cases hm'
      show (setM m0.ms k true).length = _
      rw [setM_len]; exact this
  | _ => exact hs
end
attribute [local irreducible] BrK GenK EGenK EUnitK CallK FnK CallV GuardO GuardC CondW opX opK opKc chkR eqR seqK blkK endL WL WD W LoopW BinK Tr drewK resL PickK NotK NilK ExtrK getK Instr.storeAt Instr.loadAt Instr.fieldAt Instr.indexAt Instr.lookup Instr.mapUpdate Instr.box Instr.alloc Instr.build Instr.buildSlice Instr.makeSlice Instr.makeMap Instr.sliceAt Instr.field Instr.index Instr.makeInterface Instr.typeAssert Builtin.len_ Builtin.append_ Builtin.cap_ Builtin.min_ Builtin.max_ Builtin.copy_ Builtin.clear_ convert binOp mp blk rob sl sep ex fact old
end Go.Proofs.YtacmaamllpiloaaGreat
namespace Go.Proofs.YtacmaamllpiloaaGreat
open Go Go.Wk
set_option maxHeartbeats 3200000
set_option maxRecDepth 100000
attribute [local irreducible] BrK GenK EGenK EUnitK CallK FnK CallV GuardO GuardC CondW opX opK opKc chkR eqR seqK blkK endL WL WD W LoopW BinK Tr drewK resL PickK NotK NilK ExtrK getK Instr.storeAt Instr.loadAt Instr.fieldAt Instr.indexAt Instr.lookup Instr.mapUpdate Instr.box Instr.alloc Instr.build Instr.buildSlice Instr.makeSlice Instr.makeMap Instr.sliceAt Instr.field Instr.index Instr.makeInterface Instr.typeAssert Builtin.len_ Builtin.append_ Builtin.cap_ Builtin.min_ Builtin.max_ Builtin.copy_ Builtin.clear_ convert binOp mp blk rob sl sep ex fact old
section
variable {r : Nat} {C : CC} {c : CM} {w : RW} {p : Int}
theorem who_cases (h0 : ¬ whoM c < 0) : ∃ m, c.slk = some m ∧ c.mode = 3 ∧ whoM c = pickM c := by
  unfold whoM at h0 ⊢
  split at h0
  · rename_i m hm
    split at h0
    · rename_i h3
      exact ⟨m, hm, h3, by rw [if_pos h3]⟩
    · omega
  · omega
theorem want_zero (h0 : whoM c < 0) : wantM c = 0 := by
  unfold wantM
  unfold whoM at h0
  split
  · rename_i m hm
    rw [hm] at h0
    simp only at h0
    split
    · rename_i h3
      rw [if_pos h3] at h0
      rw [if_pos h0]
    · rfl
  · rfl
end
end Go.Proofs.YtacmaamllpiloaaGreat
namespace Go.Proofs.YtacmaamllpiloaaGreat
open Go Go.Wk
set_option maxHeartbeats 3200000
set_option maxRecDepth 100000
section
variable {C : CC} {c : CM} {w : RW} {k : Int}
theorem okM_win (h : okM C c) : okM C (winM C c) := ⟨(freeTo_len _ _).trans h.tb, h.pos, h.rest, h.addr, h.data, by simp [winM], h.pi, h.ad, h.dl⟩
theorem okS_win (hc : okC C) : okS C (winM C c) := fun m hm => by
  have hm' : some (newSl C.conf) = some m := hm
  cases hm'
  show (C.conf.procs.d.map newS).length = _
  rw [List.length_map, hc.np]
end
attribute [local irreducible] BrK GenK EGenK EUnitK CallK FnK CallV GuardO GuardC CondW opX opK opKc chkR eqR seqK blkK endL WL WD W LoopW BinK Tr drewK resL PickK NotK NilK ExtrK getK Instr.storeAt Instr.loadAt Instr.fieldAt Instr.indexAt Instr.lookup Instr.mapUpdate Instr.box Instr.alloc Instr.build Instr.buildSlice Instr.makeSlice Instr.makeMap Instr.sliceAt Instr.field Instr.index Instr.makeInterface Instr.typeAssert Builtin.len_ Builtin.append_ Builtin.cap_ Builtin.min_ Builtin.max_ Builtin.copy_ Builtin.clear_ convert binOp mp blk rob sl sep ex fact old
attribute [local irreducible] sendTo recvTo portsTo relsM wakesM settleTo begin2
end Go.Proofs.YtacmaamllpiloaaGreat
namespace Go.Proofs.YtacmaamllpiloaaGreat
open Go Go.Wk
set_option maxHeartbeats 3200000
set_option maxRecDepth 100000
def cycV (c : CM) : Bool := match c.slk with
  | some m => decide (¬ whoM c < 0) && decide (spM m.room m.ms (whoM c) 1 = 1)
  | none => false
def cycM (C : CC) (c : CM) : CM := match c.slk with
  | some m => if whoM c < 0 then c else if spM m.room m.ms (whoM c) 1 = 1 then ranM C c (whoM c) 1 else { c with slk := some (spendM m (whoM c) 1) }
  | none => c
section
variable {C : CC} {c : CM} {w : RW} {k n : Int} {m : SlM}
theorem cyc_no (h : whoM c < 0) : cycM C c = c ∧ cycV c = false := by
  unfold cycM cycV
  split
  · rename_i m hm
    rw [if_pos h, decide_eq_false (by omega)]
    exact ⟨rfl, rfl⟩
  · rename_i hm
    exact ⟨rfl, rfl⟩
theorem cyc_out (h : ¬ whoM c < 0) (hm : c.slk = some m) (hs : ¬ spM m.room m.ms (whoM c) 1 = 1) : cycM C c = { c with slk := some (spendM m (whoM c) 1) } ∧ cycV c = false := by
  unfold cycM cycV
  rw [hm]
  simp only
  rw [if_neg h, if_neg hs, decide_eq_false hs, Bool.and_false]
  exact ⟨rfl, rfl⟩
theorem cyc_yes (h : ¬ whoM c < 0) (hm : c.slk = some m) (hs : spM m.room m.ms (whoM c) 1 = 1) : cycM C c = ranM C c (whoM c) 1 ∧ cycV c = true := by
  unfold cycM cycV
  rw [hm]
  simp only
  rw [if_neg h, if_pos hs, decide_eq_true hs, decide_eq_true h]
  exact ⟨rfl, rfl⟩
theorem okM_spent (h : okM C c) : okM C (spentM c m k n) := ⟨h.tb, h.pos, by simpa [spentM] using h.rest, h.addr, h.data, h.done, h.pi, h.ad, h.dl⟩
theorem spMs_len : (spMs m.room m.ms k n).length = m.ms.length := by
  unfold spMs
  split
  · split
    · rfl
    · exact List.length_set
  · rfl
theorem okS_spent (hS : okS C c) (hm : c.slk = some m) : okS C (spentM c m k n) := fun m' hm' => by
  have : some (spendM m k n) = some m' := hm'
  cases this
  show (spMs m.room m.ms k n).length = _
  rw [spMs_len]; exact hS m hm
end
attribute [local irreducible] BrK GenK EGenK EUnitK CallK FnK CallV GuardO GuardC CondW opX opK opKc chkR eqR seqK blkK endL WL WD W LoopW BinK Tr drewK resL PickK NotK NilK ExtrK getK Instr.storeAt Instr.loadAt Instr.fieldAt Instr.indexAt Instr.lookup Instr.mapUpdate Instr.box Instr.alloc Instr.build Instr.buildSlice Instr.makeSlice Instr.makeMap Instr.sliceAt Instr.field Instr.index Instr.makeInterface Instr.typeAssert Builtin.len_ Builtin.append_ Builtin.cap_ Builtin.min_ Builtin.max_ Builtin.copy_ Builtin.clear_ convert binOp mp blk rob sl sep ex fact old
attribute [local irreducible] sendTo recvTo portsTo relsM wakesM settleTo begin2
end Go.Proofs.YtacmaamllpiloaaGreat
