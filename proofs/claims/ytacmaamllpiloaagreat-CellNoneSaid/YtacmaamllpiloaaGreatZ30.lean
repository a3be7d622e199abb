import Derived.Test.YtacmaamllpiloaaGreatZ29
import Derived.Test.YtacmaamllpiloaaGreatZ24
import Derived.Test.YtacmaamllpiloaaGreatZ06
import Derived.KernelRfl
import Derived.Test.YtacmaamllpiloaaGreatZ21
namespace Go.Proofs.YtacmaamllpiloaaGreat
open Go Go.Wk
set_option maxHeartbeats 3200000
set_option maxRecDepth 100000
attribute [local irreducible] BrK GenK EGenK EUnitK CallK FnK CallV GuardO GuardC CondW opX opK opKc chkR eqR seqK blkK endL WL WD W LoopW BinK Tr drewK resL PickK NotK NilK ExtrK getK Instr.storeAt Instr.loadAt Instr.fieldAt Instr.indexAt Instr.lookup Instr.mapUpdate Instr.box Instr.alloc Instr.build Instr.buildSlice Instr.makeSlice Instr.makeMap Instr.sliceAt Instr.field Instr.index Instr.makeInterface Instr.typeAssert Builtin.len_ Builtin.append_ Builtin.cap_ Builtin.min_ Builtin.max_ Builtin.copy_ Builtin.clear_ convert binOp mp blk rob sl sep ex fact old
section
variable {b : Nat} {c : PartD} {o : ObM} {k p : Int} {up : Bool} {m : List UInt8} {s3 : SV}
theorem ob_pn {g : ObG} (h : g.ok c o) (k : Int) : (ix g.gP k).ms.length ≤ 1000000 := by
  rcases ix_cases g.gP k with hm | hm
  · have h1 : (ix g.gP k).mo ∈ o.pools := by rw [← h.hp]; exact List.mem_map_of_mem hm
    have := (h.ho.n _ h1).2
    simp only [PoolG.mo, List.length_map] at this
    omega
  · rw [hm]; exact Nat.zero_le _
theorem ob_ln {g : ObG} (h : g.ok c o) (k : Int) (hs : (ix g.gL k).shown = true) : (ix g.gL k).m.d.length ≤ 1000000 := by
  rcases ix_cases g.gL k with hm | hm
  · have := h.hm _ hm hs; omega
  · rw [hm]; exact Nat.zero_le _
theorem sl_m {gL : List SlateG} {k : Int} {x : SlateG} (h : ∀ x ∈ gL, x.shown = true → x.m.d.length ≤ 300) (hx : x.m.d.length ≤ 300) : ∀ y ∈ gL.set k.toNat x, y.shown = true → y.m.d.length ≤ 300 := fun y hy => by
  rcases List.mem_or_eq_of_mem_set hy with h' | rfl
  · exact h y h'
  · exact fun _ => hx
theorem xtake_ok : Trip Tryz.prog 172 [.pointer (some ⟨b, 0, none⟩), .int .i64 k].toArray [objX b c o]
    fun v l' => v = .int .i64 (takeMC o.sems k) ∧ l' = [objX b c { o with sems := takeM o.sems k }] := by
  refine Trip.pk fun g hg F K hK => ?_
  simp only [objL, List.cons_append, List.nil_append]
  refine S.c ?_ (h := take_ok)
  rintro _ _ ⟨rfl, rfl⟩
  refine Tr.fin hK ⟨by rw [take_mo.1, hg.hs], rfl⟩ ?_
  refine EntR.objX (g := { g with gS := takeG g.gS k }) ⟨by rw [take_mo.2, hg.hs], hg.hf, hg.hp, hg.hl, hg.hm, okO_take hg.ho⟩ ?_
  simp only [objL, List.append_eq, List.cons_append, List.nil_append]
  exact S.E
theorem xgive_ok : Trip Tryz.prog 173 [.pointer (some ⟨b, 0, none⟩), .int .i64 k].toArray [objX b c o]
    fun v l' => v = .int .i64 (giveMC o.sems k) ∧ l' = [objX b c { o with sems := giveM o.sems k }] := by
  refine Trip.pk fun g hg F K hK => ?_
  simp only [objL, List.cons_append, List.nil_append]
  refine S.c ?_ (h := give_ok)
  rintro _ _ ⟨rfl, rfl⟩
  refine Tr.fin hK ⟨by rw [give_mo.1, hg.hs], rfl⟩ ?_
  refine EntR.objX (g := { g with gS := giveG g.gS k }) ⟨by rw [give_mo.2, hg.hs], hg.hf, hg.hp, hg.hl, hg.hm, okO_give hg.ho⟩ ?_
  simp only [objL, List.append_eq, List.cons_append, List.nil_append]
  exact S.E
theorem xflag_ok : Trip Tryz.prog 174 [.pointer (some ⟨b, 0, none⟩), .int .i64 k, .bool up].toArray [objX b c o]
    fun v l' => v = .int .i64 (flagMC o.flags k) ∧ l' = [objX b c { o with flags := flagMs o.flags k up }] := by
  refine Trip.pk fun g hg F K hK => ?_
  simp only [objL, List.cons_append, List.nil_append]
  refine S.c ?_ (h := flag_ok)
  rintro _ _ ⟨rfl, rfl⟩
  refine Tr.fin hK ⟨by rw [(flag_mo (up := up)).1, hg.hf], rfl⟩ ?_
  refine EntR.objX (g := { g with gF := flagG g.gF k up }) ⟨hg.hs, by rw [flag_mo.2.1, hg.hf], hg.hp, hg.hl, hg.hm, okO_flag hg.ho⟩ ?_
  simp only [objL, List.append_eq, List.cons_append, List.nil_append]
  exact S.E
theorem xup_ok : Trip Tryz.prog 170 [.pointer (some ⟨b, 0, none⟩), .int .i64 k].toArray [objX b c o]
    fun v l' => v = .tuple #[.bool (upM o.flags k), .int .i64 (flagMC o.flags k)] ∧ l' = [objX b c o] := by
  refine Trip.pk fun g hg F K hK => ?_
  simp only [objL, List.cons_append, List.nil_append]
  refine S.c ?_ (h := up_ok)
  rintro _ _ ⟨rfl, rfl⟩
  refine Tr.fin hK ⟨by rw [(flag_mo (up := true)).1, (flag_mo (up := true)).2.2, hg.hf], rfl⟩ ?_
  refine EntR.objX (g := g) hg ?_
  simp only [objL, List.append_eq, List.cons_append, List.nil_append]
  exact S.E
theorem xoput_ok (hm : m.length ≤ 300) : Trip Tryz.prog 179 [.pointer (some ⟨b, 0, none⟩), .int .i64 k, s3.v].toArray [objX b c o, sl true s3.v m]
    fun v l' => v = .int .i64 (putMC o.pools k m.length) ∧ l' = [objX b c { o with pools := putM o.pools k m }] := by
  refine Trip.pk fun g hg F K hK => ?_
  simp only [objL, List.cons_append, List.nil_append]
  refine S.c ?_ (h := oput_ok (by omega) (ob_pn hg k))
  rintro _ _ ⟨s1, s2, rfl, rfl⟩
  refine Tr.fin hK ⟨by rw [putC_mo, hg.hp], rfl⟩ ?_
  refine EntR.objX (g := { g with gP := putG g.gP k s1 ⟨s2, m⟩ }) ⟨hg.hs, hg.hf, by rw [put20_mo, hg.hp], hg.hl, hg.hm, okO_put hg.ho⟩ ?_
  simp only [objL, List.append_eq, List.cons_append, List.nil_append]
  exact S.E
theorem xget_ok : Trip Tryz.prog 177 [.pointer (some ⟨b, 0, none⟩), .int .i64 k].toArray [objX b c o]
    fun v l' => ∃ t : SV, v = .tuple #[t.v, .int .i64 (getMC o.pools k)] ∧ l' = [objX b c { o with pools := getMs o.pools k }, Fz.fz (SL.mk t (getMD o.pools k) : Msg)] := by
  refine Trip.pk fun g hg F K hK => ?_
  simp only [objL, List.cons_append, List.nil_append]
  refine S.c ?_ (h := get_ok)
  rintro _ _ ⟨s1, rfl, rfl⟩
  refine Tr.fin hK ⟨(getM g.gP k).s, by rw [getC_mo, hg.hp], rfl⟩ ?_
  refine EntR.objX (g := { g with gP := getG g.gP k s1 }) ⟨hg.hs, hg.hf, by rw [get_mo.1, hg.hp], hg.hl, hg.hm, okO_get hg.ho⟩ ?_
  simp only [objL, List.append_eq, List.cons_append, List.nil_append]
  have hX : getMD o.pools k = (getM g.gP k).d := by rw [(get_mo (s1 := s1)).2, hg.hp]
  exact S.E
theorem xshow_ok (hm : m.length ≤ 300) : Trip Tryz.prog 182 [.pointer (some ⟨b, 0, none⟩), .int .i64 k, s3.v].toArray [objX b c o, sl true s3.v m]
    fun v l' => v = .int .i64 (showMC o.slates k m.length) ∧ l' = [objX b c { o with slates := showMs o.slates k m }] := by
  refine Trip.pk fun g hg F K hK => ?_
  simp only [objL, List.cons_append, List.nil_append]
  refine S.c ?_ (h := show_ok (by omega))
  rintro _ _ ⟨s2, rfl, rfl⟩
  refine Tr.fin hK ⟨by rw [showC_mo, hg.hl], rfl⟩ ?_
  refine EntR.objX (g := { g with gL := showG g.gL k ⟨s2, m⟩ }) ⟨hg.hs, hg.hf, hg.hp, by rw [show_mo, hg.hl], by unfold showG; split; exact sl_m hg.hm hm; exact hg.hm, okO_show hg.ho⟩ ?_
  simp only [objL, List.append_eq, List.cons_append, List.nil_append]
  exact S.E
theorem look_un {ob : ObW} {gs : List SlateG} (hu : ¬ (ix gs k).shown = true) : Trip Tryz.prog 181 [.pointer (some ⟨b, 0, none⟩), .int .i64 k].toArray [obB b ob, fam slateA gs, sl false ob.ls.v (gs.map SlateG.pt)]
    fun v l' => ∃ s2 : SV, v = .tuple #[s2.v, .int .i64 (lookC gs k)] ∧ l' = [obB b ob, fam slateA gs, sl false ob.ls.v (gs.map SlateG.pt), sl true s2.v (lookD gs k)] := by
  intro F K hK
  simp only [List.cons_append, List.nil_append]
  have hu' : (ix gs k).shown = false := by simpa using hu
  by_cases h : inR gs k
  · have ⟨h0, h1⟩ := h
    have hc : lookC gs k = 1 := by unfold lookC; rw [if_pos h, hu']; rfl
    have hd : lookD gs k = [] := by unfold lookD; rw [hc]; rfl
    rw [hc, hd] at hK
    refine Tr.famAt (A := slateA) k S.K h0 h1 ?_
    refine slateA_open ?_
    (refine Tr.enter (rs := [.tmp 4, .tmp 5]) mixed fn181 rfl (by simp +arith [Tryz.ntmps181]) fun u => ?_; simp only [cd181, Tryz.f181])
    have hX := And.intro @pl181.eq_def @hu'; repeat' (first | refine S.x ?_ | (refine G.call 234 ?_; first | refine S.c ?_ (h := slate_in (by omega) (by omega)) | fail) | rintro _ _ ⟨rfl, rfl⟩ | fail)
    all_goals
      refine Tr.fin hK ⟨⟨none, 0, 0⟩, rfl, rfl⟩ ?_
      have hX := And.intro hu' @slateA.eq_def
      exact S.E
  · have hc : lookC gs k = 3 := by unfold lookC; rw [if_neg h]
    have hd : lookD gs k = [] := by unfold lookD; rw [hc]; rfl
    rw [hc, hd] at hK
    have h' := h
    unfold inR at h'
    (refine Tr.enter (rs := [.tmp 4, .tmp 5]) mixed fn181 rfl (by simp +arith [Tryz.ntmps181]) fun u => ?_; simp only [cd181, Tryz.f181])
    have hX := @pl181.eq_def; repeat' (first | refine S.x ?_ | (refine G.call 234 ?_; first | refine S.c ?_ (h := slate_out (by omega))) | rintro _ _ ⟨rfl, rfl⟩ | fail)
    all_goals exact Tr.fin hK ⟨⟨none, 0, 0⟩, rfl, rfl⟩ S.E
theorem xlook_ok : Trip Tryz.prog 181 [.pointer (some ⟨b, 0, none⟩), .int .i64 k].toArray [objX b c o]
    fun v l' => ∃ t : SV, v = .tuple #[t.v, .int .i64 (lookMC o.slates k)] ∧ l' = [objX b c o, sl true t.v (lookMD o.slates k)] := by
  refine Trip.pk fun g hg F K hK => ?_
  simp only [objL, List.cons_append, List.nil_append]
  have hX : lookMD o.slates k = lookD g.gL k := by rw [look_mo, hg.hl]
  by_cases hs : (ix g.gL k).shown = true
  · refine S.c ?_ (h := look_ok (ob_ln hg k hs))
    rintro _ _ ⟨t, rfl, rfl⟩
    refine Tr.fin hK ⟨t, by rw [lookC_mo, hg.hl], rfl⟩ ?_
    refine EntR.objX (g := g) hg ?_
    simp only [objL, List.append_eq, List.cons_append, List.nil_append]
    exact S.E
  · refine S.c ?_ (h := look_un hs)
    rintro _ _ ⟨t, rfl, rfl⟩
    refine Tr.fin hK ⟨t, by rw [lookC_mo, hg.hl], rfl⟩ ?_
    refine EntR.objX (g := g) hg ?_
    simp only [objL, List.append_eq, List.cons_append, List.nil_append]
    exact S.E
theorem xwipe_ok : Trip Tryz.prog 180 [.pointer (some ⟨b, 0, none⟩), .int .i64 k].toArray [objX b c o]
    fun v l' => v = .int .i64 (wipeMC o.slates k) ∧ l' = [objX b c { o with slates := wipeMs o.slates k }] := by
  refine Trip.pk fun g hg F K hK => ?_
  simp only [objL, List.cons_append, List.nil_append]
  refine S.c ?_ (h := wipe_ok)
  rintro _ _ ⟨rfl, rfl⟩
  refine Tr.fin hK ⟨by rw [wipe_mo.1, hg.hl], rfl⟩ ?_
  refine EntR.objX (g := { g with gL := wipeG g.gL k }) ⟨hg.hs, hg.hf, hg.hp, by rw [wipe_mo.2, hg.hl], by unfold wipeG; split; exact sl_m hg.hm (Nat.zero_le _); exact hg.hm, okO_wipe hg.ho⟩ ?_
  simp only [objL, List.append_eq, List.cons_append, List.nil_append]
  exact S.E
theorem xosize_ok : Trip Tryz.prog 175 [.pointer (some ⟨b, 0, none⟩), .int .i64 p, .int .i64 k].toArray [objX b c o]
    fun v l' => v = .int .i64 (sizeMC o.pools o.slates k p) ∧ l' = [objX b c o] := by
  refine Trip.pk fun g hg F K hK => ?_
  simp only [objL, List.cons_append, List.nil_append]
  refine S.c ?_ (h := size_ok)
  rintro _ _ ⟨rfl, rfl⟩
  refine Tr.fin hK ⟨by rw [size_mo, hg.hp, hg.hl], rfl⟩ ?_
  refine EntR.objX (g := g) hg ?_
  simp only [objL, List.append_eq, List.cons_append, List.nil_append]
  exact S.E
end
end Go.Proofs.YtacmaamllpiloaaGreat
namespace Go.Proofs.YtacmaamllpiloaaGreat
open Go Go.Wk
set_option maxHeartbeats 3200000
set_option maxRecDepth 100000
attribute [local irreducible] BrK GenK EGenK EUnitK CallK FnK CallV GuardO GuardC CondW opX opK opKc chkR eqR seqK blkK endL WL WD W LoopW BinK Tr drewK resL PickK NotK NilK ExtrK getK Instr.storeAt Instr.loadAt Instr.fieldAt Instr.indexAt Instr.lookup Instr.mapUpdate Instr.box Instr.alloc Instr.build Instr.buildSlice Instr.makeSlice Instr.makeMap Instr.sliceAt Instr.field Instr.index Instr.makeInterface Instr.typeAssert Builtin.len_ Builtin.append_ Builtin.cap_ Builtin.min_ Builtin.max_ Builtin.copy_ Builtin.clear_ convert binOp mp blk rob sl sep ex fact old
section
variable {b : Nat} {c : PartD} {o : ObM}
theorem mo_none {cs : List Int} {g4 : List SlateG} (h : g4.map SlateG.mo = (cs.take 4).map slateM) : ∀ x ∈ g4, x.shown = true → x.m.d.length ≤ 300 := fun x hx hs => by
  have h1 : x.mo ∈ g4.map SlateG.mo := List.mem_map_of_mem hx
  rw [h] at h1
  obtain ⟨y, _, he⟩ := List.mem_map.1 h1
  have h2 := congrArg (fun p => p.2) he
  simp only [slateM, SlateG.mo, hs, if_true] at h2
  cases h2
theorem xoclear_ok (hd : ∀ x ∈ c.pools.d, x.depth ≤ 16) : Trip Tryz.prog 115 [.pointer (some ⟨b, 0, none⟩)].toArray [objX b c o]
    fun v l' => v = .tuple #[] ∧ l' = [objX b c (newO c)] := by
  refine Trip.pk fun g hg F K hK => ?_
  simp only [objL, List.cons_append, List.nil_append]
  have h0 : Trip Tryz.prog 115 [.pointer (some ⟨b, 0, none⟩)].toArray [obB b ⟨c.c, g.ss, g.fs, g.ps, g.ls⟩, sl true c.sems.s.v c.sems.d, sl true c.pools.s.v c.pools.d, sl true c.slates.s.v c.slates.d] _ := clear_ok (b := b) (c := c.c) (cs := c.sems.d) (ps := c.pools.d) (ls := c.slates.d)
  refine S.c ?_ (h := h0)
  rintro _ _ ⟨s1, s2, s3, s4, g1, g2, g3, g4, h1, h2, h3, h4, rfl, rfl⟩
  refine Tr.fin hK ⟨rfl, rfl⟩ ?_
  refine EntR.objX (g := ⟨s1, s2, s3, s4, g1, g2, g3, g4⟩) ⟨h1, h2, h3, h4, mo_none h4, okO_new hd⟩ ?_
  simp only [objL, List.append_eq, List.cons_append, List.nil_append]
  exact S.E
theorem xonew_ok {u0 : Value} [hu : DeA u0 c] (hd : ∀ x ∈ c.pools.d, x.depth ≤ 16) : Trip Tryz.prog 54 [u0].toArray [sl true c.sems.s.v c.sems.d, sl true c.pools.s.v c.pools.d, sl true c.slates.s.v c.slates.d]
    fun v l' => ∃ b : Nat, v = .pointer (some ⟨b, 0, none⟩) ∧ l' = [objX b c (newO c)] := by
  intro F K hK
  simp only [List.cons_append, List.nil_append]
  haveI : DeA u0 c.c := ⟨hu.h⟩
  have h0 : Trip Tryz.prog 54 [u0].toArray [sl true c.sems.s.v c.sems.d, sl true c.pools.s.v c.pools.d, sl true c.slates.s.v c.slates.d] _ := onew_ok (u0 := u0) (c := c.c) (cs := c.sems.d) (ps := c.pools.d) (ls := c.slates.d)
  refine S.c ?_ (h := h0)
  rintro _ _ ⟨b, s1, s2, s3, s4, g1, g2, g3, g4, h1, h2, h3, h4, rfl, rfl⟩
  refine Tr.fin hK ⟨b, rfl, rfl⟩ ?_
  refine EntR.objX (g := ⟨s1, s2, s3, s4, g1, g2, g3, g4⟩) ⟨h1, h2, h3, h4, mo_none h4, okO_new hd⟩ ?_
  simp only [objL, List.append_eq, List.cons_append, List.nil_append]
  exact S.E
end
end Go.Proofs.YtacmaamllpiloaaGreat
namespace Go.Proofs.YtacmaamllpiloaaGreat
open Go Go.Wk
set_option maxHeartbeats 3200000
set_option maxRecDepth 100000
structure RoG where
  a : SV
  b : SV
  cc : SV
  d : SV
  gS : List SemG
  gF : List FlagG
  gP : List PoolG
  gL : List SlateG
  xs : List (SL Msg)
  ys : List (SL Msg)
attribute [local irreducible] BrK GenK EGenK EUnitK CallK FnK CallV GuardO GuardC CondW opX opK opKc chkR eqR seqK blkK endL WL WD W LoopW BinK Tr drewK resL PickK NotK NilK ExtrK getK Instr.storeAt Instr.loadAt Instr.fieldAt Instr.indexAt Instr.lookup Instr.mapUpdate Instr.box Instr.alloc Instr.build Instr.buildSlice Instr.makeSlice Instr.makeMap Instr.sliceAt Instr.field Instr.index Instr.makeInterface Instr.typeAssert Builtin.len_ Builtin.append_ Builtin.cap_ Builtin.min_ Builtin.max_ Builtin.copy_ Builtin.clear_ convert binOp mp blk rob sl sep ex fact old
end Go.Proofs.YtacmaamllpiloaaGreat
namespace Go.Proofs.YtacmaamllpiloaaGreat
open Go Go.Wk
set_option maxHeartbeats 3200000
set_option maxRecDepth 100000
abbrev doneL (ms : List (Int × Bool)) : List Bool := ms.map fun m => m.2
attribute [local irreducible] BrK GenK EGenK EUnitK CallK FnK CallV GuardO GuardC CondW opX opK opKc chkR eqR seqK blkK endL WL WD W LoopW BinK Tr drewK resL PickK NotK NilK ExtrK getK Instr.storeAt Instr.loadAt Instr.fieldAt Instr.indexAt Instr.lookup Instr.mapUpdate Instr.box Instr.alloc Instr.build Instr.buildSlice Instr.makeSlice Instr.makeMap Instr.sliceAt Instr.field Instr.index Instr.makeInterface Instr.typeAssert Builtin.len_ Builtin.append_ Builtin.cap_ Builtin.min_ Builtin.max_ Builtin.copy_ Builtin.clear_ convert binOp mp blk rob sl sep ex fact old
attribute [local irreducible] runL satA
end Go.Proofs.YtacmaamllpiloaaGreat
namespace Go.Proofs.YtacmaamllpiloaaGreat
open Go Go.Wk
set_option maxHeartbeats 3200000
set_option maxRecDepth 100000
def spM (room : Int) (ms : List (Int × Bool)) (k n : Int) : Int := if inR ms k then (if n < 1 then 0 else min3 n room (ix ms k).1) else 0
def spMs (room : Int) (ms : List (Int × Bool)) (k n : Int) : List (Int × Bool) := if inR ms k then (if n < 1 then ms else ms.set k.toNat ((ix ms k).1 - min3 n room (ix ms k).1, (ix ms k).2)) else ms
def setM (ms : List (Int × Bool)) (k : Int) (d : Bool) : List (Int × Bool) := if inR ms k then ms.set k.toNat ((ix ms k).1, d) else ms
instance elt_ints : ElT 28 Int := ⟨⟩
theorem done_same {ms : List (Int × Bool)} {k n : Int} (h0 : 0 ≤ k) (h1 : k < ms.length) : doneL (ms.set k.toNat (n, (ix ms k).2)) = doneL ms := pt_set h0 h1 rfl
attribute [local irreducible] BrK GenK EGenK EUnitK CallK FnK CallV GuardO GuardC CondW opX opK opKc chkR eqR seqK blkK endL WL WD W LoopW BinK Tr drewK resL PickK NotK NilK ExtrK getK Instr.storeAt Instr.loadAt Instr.fieldAt Instr.indexAt Instr.lookup Instr.mapUpdate Instr.box Instr.alloc Instr.build Instr.buildSlice Instr.makeSlice Instr.makeMap Instr.sliceAt Instr.field Instr.index Instr.makeInterface Instr.typeAssert Builtin.len_ Builtin.append_ Builtin.cap_ Builtin.min_ Builtin.max_ Builtin.copy_ Builtin.clear_ convert binOp mp blk rob sl sep ex fact old
attribute [local irreducible] runL satA leftA
end Go.Proofs.YtacmaamllpiloaaGreat
namespace Go.Proofs.YtacmaamllpiloaaGreat
open Go Go.Wk
set_option maxHeartbeats 3200000
set_option maxRecDepth 100000
structure SlM where
  room : Int
  ms : List (Int × Bool)
structure okSl (m : SlM) : Prop where
  r : 0 ≤ m.room ∧ m.room ≤ 1000000000000
  h : ∀ x ∈ m.ms, 0 ≤ x.1 ∧ x.1 ≤ 1000000000000
  l : m.ms.length ≤ 100000
def ofM (m : SlM) (k : Int) : Int := if inR m.ms k then (ix m.ms k).1 else 0
def spendM (m : SlM) (k n : Int) : SlM := ⟨m.room - spM m.room m.ms k n, spMs m.room m.ms k n⟩
def finM (m : SlM) (k : Int) : SlM := ⟨m.room, setM m.ms k true⟩
def newSl (c : PartD) : SlM := ⟨if 0 < c.cap then c.cap else 0, c.procs.d.map newS⟩
theorem sl_ix {m : SlM} (h : okSl m) (k : Int) : 0 ≤ (ix m.ms k).1 ∧ (ix m.ms k).1 ≤ 1000000000000 := by
  rcases ix_cases m.ms k with hm | hm
  · exact h.h _ hm
  · rw [hm]; exact ⟨by decide, by decide⟩
theorem okSl_spend {m : SlM} {k n : Int} (h : okSl m) : okSl (spendM m k n) := by
  have hi := sl_ix h k
  unfold spendM spM spMs
  split
  · rename_i hr
    split
    · exact ⟨by simpa using h.r, h.h, h.l⟩
    · obtain ⟨m1, m2, m3, m4⟩ := @min3_le n m.room (ix m.ms k).1
      have m5 := m4 (by omega) h.r.1 hi.1
      have := h.r
      refine ⟨by simp only; omega, fun x hx => ?_, by simpa using h.l⟩
      rcases List.mem_or_eq_of_mem_set hx with h' | rfl
      · exact h.h x h'
      · simp only; omega
  · exact ⟨by simpa using h.r, h.h, h.l⟩
theorem okSl_fin {m : SlM} {k : Int} (h : okSl m) : okSl (finM m k) := ⟨h.r, by
  unfold finM setM
  split
  · intro x hx
    rcases List.mem_or_eq_of_mem_set hx with h' | rfl
    · exact h.h x h'
    · exact sl_ix h k
  · exact h.h, by
  unfold finM setM
  split
  · simpa using h.l
  · exact h.l⟩
theorem okSl_new {c : PartD} (h1 : c.cap ≤ 1000000000000) (h2 : ∀ x ∈ c.procs.d, x.cost ≤ 1000000000000) (h3 : c.procs.d.length ≤ 100000) : okSl (newSl c) := ⟨by unfold newSl; simp only; split <;> omega, fun x hx => by
  obtain ⟨y, hy, rfl⟩ := List.mem_map.1 hx
  have := h2 y hy
  unfold newS
  simp only
  split <;> omega, by simpa [newSl] using h3⟩
def slkL (b : Nat) (room : Int) (s : SV) (gs : List OneS) : List Asrt := [slkB b room s, sl false s.v (gs.map OneS.pt), fam oneS gs]
def slkX (b : Nat) (m : SlM) : Asrt := pk (fun g : SV × List OneS => slkL b m.room g.1 g.2) (fun g => g.2.map OneS.mo = m.ms ∧ okSl m)
theorem EntR.slkX {b : Nat} {m : SlM} {s : SV} {gs : List OneS} {d l l2 : List Asrt} (h1 : gs.map OneS.mo = m.ms) (h2 : okSl m) (h : EntR d l (slkL b m.room s gs ++ l2)) : EntR d l (Go.Proofs.YtacmaamllpiloaaGreat.slkX b m :: l2) :=
  Imp.trans h (Imp.pk (f := fun g : SV × List OneS => slkL b m.room g.1 g.2) (p := fun g => g.2.map OneS.mo = m.ms ∧ okSl m) (s, gs) ⟨h1, h2⟩)
section
variable {gs : List OneS} {m : SlM} {k n : Int}
theorem os_len (h : gs.map OneS.mo = m.ms) : gs.length = m.ms.length := by rw [← h, List.length_map]
theorem os_of (h : gs.map OneS.mo = m.ms) : ofA gs k = ofM m k := by
  unfold ofA ofM
  rw [← h]
  simp only [inR_map]
  split
  · rename_i hr; rw [ixR hr]; rfl
  · rfl
theorem os_ix (h : gs.map OneS.mo = m.ms) (hk : okSl m) : 0 ≤ (ix gs k).has ∧ (ix gs k).has ≤ 1000000000000 := by
  rcases ix_cases gs k with hm | hm
  · exact hk.h (OneS.mo (ix gs k)) (by rw [← h]; exact List.mem_map_of_mem hm)
  · rw [hm]; exact ⟨by decide, by decide⟩
theorem os_okI (h : gs.map OneS.mo = m.ms) (hk : okSl m) : ∀ k : Nat, k < gs.length → okI (ix gs (k : Int)).has := fun k _ => by
  have := os_ix (k := (k : Int)) h hk
  unfold okI
  omega
theorem os_sp (h : gs.map OneS.mo = m.ms) : spA m.room gs k n = spM m.room m.ms k n ∧ (spG m.room gs k n).map OneS.mo = spMs m.room m.ms k n := by
  unfold spA spG spM spMs
  rw [← h]
  simp only [inR_map]
  split
  · rename_i hr
    rw [ixR hr]
    split
    · exact ⟨rfl, rfl⟩
    · exact ⟨rfl, List.map_set⟩
  · exact ⟨rfl, rfl⟩
theorem os_fin (h : gs.map OneS.mo = m.ms) : (finG gs k).map OneS.mo = setM m.ms k true := by
  unfold finG setM
  rw [← h]
  simp only [inR_map]
  split
  · rename_i hr
    rw [ixR hr, List.map_set]
    rfl
  · rfl
end
end Go.Proofs.YtacmaamllpiloaaGreat
namespace Go.Proofs.YtacmaamllpiloaaGreat
open Go Go.Wk
set_option maxHeartbeats 3200000
set_option maxRecDepth 100000
attribute [local irreducible] BrK GenK EGenK EUnitK CallK FnK CallV GuardO GuardC CondW opX opK opKc chkR eqR seqK blkK endL WL WD W LoopW BinK Tr drewK resL PickK NotK NilK ExtrK getK Instr.storeAt Instr.loadAt Instr.fieldAt Instr.indexAt Instr.lookup Instr.mapUpdate Instr.box Instr.alloc Instr.build Instr.buildSlice Instr.makeSlice Instr.makeMap Instr.sliceAt Instr.field Instr.index Instr.makeInterface Instr.typeAssert Builtin.len_ Builtin.append_ Builtin.cap_ Builtin.min_ Builtin.max_ Builtin.copy_ Builtin.clear_ convert binOp mp blk rob sl sep ex fact old
section
variable {b r : Nat} {m : SlM} {k n : Int} {c : PartD}
theorem xof_ok : Trip Tryz.prog 40 [.pointer (some ⟨b, 0, none⟩), .int .i64 k].toArray [slkX b m]
    fun v l' => v = .int .i64 (ofM m k) ∧ l' = [slkX b m] := by
  refine Trip.pk fun g hg F K hK => ?_
  obtain ⟨h1, h2⟩ := hg
  simp only [slkL, List.cons_append, List.nil_append]
  refine S.c ?_ (h := of_ok (gs := g.2))
  rintro _ _ ⟨rfl, rfl⟩
  refine Tr.fin hK ⟨by rw [os_of h1], rfl⟩ ?_
  refine EntR.slkX (s := g.1) h1 h2 ?_
  simp only [slkL, List.append_eq, List.cons_append, List.nil_append]
  exact S.E
theorem xroom_ok : Trip Tryz.prog 41 [.pointer (some ⟨b, 0, none⟩)].toArray [slkX b m]
    fun v l' => v = .int .i64 m.room ∧ l' = [slkX b m] := by
  refine Trip.pk fun g hg F K hK => ?_
  obtain ⟨h1, h2⟩ := hg
  simp only [slkL, List.cons_append, List.nil_append]
  refine S.c ?_ (h := sroom_ok)
  rintro _ _ ⟨rfl, rfl⟩
  refine Tr.fin hK ⟨rfl, rfl⟩ ?_
  refine EntR.slkX (s := g.1) h1 h2 ?_
  simp only [slkL, List.append_eq, List.cons_append, List.nil_append]
  exact S.E
theorem xspend_ok : Trip Tryz.prog 43 [.pointer (some ⟨b, 0, none⟩), .int .i64 k, .int .i64 n].toArray [slkX b m]
    fun v l' => v = .int .i64 (spM m.room m.ms k n) ∧ l' = [slkX b (spendM m k n)] := by
  refine Trip.pk fun g hg F K hK => ?_
  obtain ⟨h1, h2⟩ := hg
  simp only [slkL, List.cons_append, List.nil_append]
  refine S.c ?_ (h := spend_ok (gs := g.2) h2.r (os_ix h1 h2))
  rintro _ _ ⟨rfl, rfl⟩
  have e := os_sp (k := k) (n := n) h1
  refine Tr.fin hK ⟨by rw [e.1], rfl⟩ ?_
  refine EntR.slkX (s := g.1) (m := spendM m k n) e.2 (okSl_spend h2) ?_
  simp only [slkL, spendM, List.append_eq, List.cons_append, List.nil_append]
  rw [e.1]
  exact S.E
theorem xfin_ok : Trip Tryz.prog 155 [.pointer (some ⟨b, 0, none⟩), .int .i64 k].toArray [slkX b m]
    fun v l' => ∃ n : Int, v = .int .i64 n ∧ l' = [slkX b (finM m k)] := by
  refine Trip.pk fun g hg F K hK => ?_
  obtain ⟨h1, h2⟩ := hg
  simp only [slkL, List.cons_append, List.nil_append]
  refine S.c ?_ (h := finish_ok (gs := g.2) (os_okI h1 h2) (by rw [os_len h1]; exact h2.l))
  rintro _ _ ⟨n, rfl, rfl⟩
  refine Tr.fin hK ⟨n, rfl, rfl⟩ ?_
  refine EntR.slkX (s := g.1) (m := finM m k) (os_fin h1) (okSl_fin h2) ?_
  simp only [slkL, finM, List.append_eq, List.cons_append, List.nil_append]
  exact S.E
theorem xsnew_ok {u0 : Value} [hd : DeA u0 c] (h1 : c.cap ≤ 1000000000000) (h2 : ∀ x ∈ c.procs.d, x.cost ≤ 1000000000000) (h3 : c.procs.d.length ≤ 100000) : Trip Tryz.prog 32 [u0].toArray [sl true c.procs.s.v c.procs.d]
    fun v l' => ∃ b : Nat, v = .pointer (some ⟨b, 0, none⟩) ∧ l' = [slkX b (newSl c)] := by
  intro F K hK
  simp only [List.cons_append, List.nil_append]
  refine S.c ?_ (h := snew_ok (c := c) h3)
  rintro _ _ ⟨b, s, gs, hg, rfl, rfl⟩
  refine Tr.fin hK ⟨b, rfl, rfl⟩ ?_
  refine EntR.slkX (s := s) (m := newSl c) hg (okSl_new h1 h2 h3) ?_
  simp only [slkL, newSl, List.append_eq, List.cons_append, List.nil_append]
  exact S.E
theorem spMs_done : doneL (spMs m.room m.ms k n) = doneL m.ms := by
  unfold spMs
  split
  · rename_i hr
    split
    · rfl
    · exact done_same hr.1 hr.2
  · rfl
end
end Go.Proofs.YtacmaamllpiloaaGreat
