import Derived.Test.YtgkhjgpgdfbdpaaGreatDoorWgx
import Derived.Test.YtgkhjgpgdfbdpaaGreatDoorWky
namespace Go.Proofs.YtgkhjgpgdfbdpaaGreatDoor
open Go Go.Wk
set_option maxHeartbeats 6400000
set_option maxRecDepth 100000

/-! ### the document's partition with a line more -/
def innerD (p : PartD) (k : Nat) (s : SV) (l : List Int) : PartD := match k with
  | 1 => { p with regions := ⟨s, p.regions.d ++ [regU l]⟩ }
  | 2 => { p with procs := ⟨s, p.procs.d ++ [procU l]⟩ }
  | 3 => { p with ports := ⟨s, p.ports.d ++ [portU l]⟩ }
  | 4 => { p with sems := ⟨s, p.sems.d ++ [semU l]⟩ }
  | 5 => { p with pools := ⟨s, p.pools.d ++ [poolU l]⟩ }
  | 6 => { p with slates := ⟨s, p.slates.d ++ [gU l 0]⟩ }
  | _ => { p with acts := ⟨s, l⟩ }
theorem innerD_v (p : PartD) (s : SV) (l : List Int) : ∀ k : Nat, (innerD p k s l).v = innerU p.v k l
  | 0 | 1 | 2 | 3 | 4 | 5 | 6 => rfl
  | _ + 7 => rfl
theorem inner_okP {p : PartV} {k : Nat} {l : List Int} (ho : okPv p) (h64 : ∀ n ∈ l, I64 n) : okPv (innerU p k l) := by
  obtain ⟨o1, o2, o3, o4, o5, o6, o7, o8, o9, o10, o11⟩ := ho
  have g := gU_ok h64
  unfold innerU
  split
  · exact ⟨all_snoc o1 ⟨g 0, g 1⟩, o2, o3, o4, o5, o6, o7, o8, o9, o10, o11⟩
  · exact ⟨o1, all_snoc o2 ⟨g 0, g 1, g 2⟩, o3, o4, o5, o6, o7, o8, o9, o10, o11⟩
  · exact ⟨o1, o2, all_snoc o3 ⟨g 2, g 3⟩, o4, o5, o6, o7, o8, o9, o10, o11⟩
  · exact ⟨o1, o2, o3, all_snoc o4 ⟨g 0, g 1⟩, o5, o6, o7, o8, o9, o10, o11⟩
  · exact ⟨o1, o2, o3, o4, o5, all_snoc o6 ⟨g 0, g 1⟩, o7, o8, o9, o10, o11⟩
  · exact ⟨o1, o2, o3, o4, o5, o6, all_snoc o7 (g 0), o8, o9, o10, o11⟩
  · exact ⟨o1, o2, o3, o4, o5, o6, o7, o8, o9, o10, h64⟩
theorem Tr.freezeEq {α : Type} [En α] {l F : List Asrt} {v : Value} {xs ys : List α} {X : WP} (ht : TakeA l (sl false v xs) F) (e : xs = ys) (h : Tr (sl true v ys :: F) X) : Tr l X := by
  subst e
  exact Tr.freezeAt ht h
instance {l : List Asrt} {a b : Int} {c : Bool} : De l (.agg [.int .i64 a, .int .i64 b, .bool c].toArray) (RegC.mk a b c) := ⟨rfl⟩
instance {l : List Asrt} {a b c : Int} : De l (.agg [.int .i64 a, .int .i64 b, .int .i64 c].toArray) (ProcC.mk a b c) := ⟨rfl⟩
attribute [local irreducible] BrK GenK EGenK EUnitK CallK FnK CallV GuardO GuardC CondW opX opK opKc chkR eqR seqK blkK endL WL WD W LoopW BinK Tr drewK resL PickK NotK NilK ExtrK getK Instr.storeAt Instr.loadAt Instr.fieldAt Instr.indexAt Instr.lookup Instr.mapUpdate Instr.box Instr.alloc Instr.build Instr.buildSlice Instr.makeSlice Instr.makeMap Instr.sliceAt Instr.field Instr.index Instr.makeInterface Instr.typeAssert Builtin.len_ Builtin.append_ Builtin.cap_ Builtin.min_ Builtin.max_ Builtin.copy_ Builtin.clear_ convert binOp mp blk rob sl sep ex fact old
attribute [local irreducible] NegK gU
theorem inner_ok {u0 : Value} {p : PartD} {k : Nat} {s : SV} {xs : List Int} [hd : DeA u0 p] (hk0 : 0 < k) (hk : k < 8) (hm : manyU k < 0 ∨ (xs.length : Int) = manyU k) (ho : okPv p.v) (hs : shortP p.v) (h64 : ∀ n ∈ xs, I64 n) :
    Trip Tryz.prog 60 [u0, .int .i64 (k : Int), s.v].toArray [fzl [p], sl true s.v xs]
    fun v l' => ∃ t, v = .tuple #[.agg (En.enc (innerD p k t xs)).toArray, .bool (fineU k xs)] ∧ l' = [fzl [innerD p k t xs]] := by
  obtain rfl := hd.h
  intro F K hK
  simp only [List.cons_append, List.nil_append]
  have g0 := @gU_0 xs
  have g1 := @gU_1 xs
  have g2 := @gU_2 xs
  have g3 := @gU_3 xs
  obtain ⟨s1, s2, s3, s4, s5, s6, s7⟩ := hs
  simp only [PartD.v] at s1 s2 s3 s4 s5 s6 s7
  have hkk : k = 1 ∨ k = 2 ∨ k = 3 ∨ k = 4 ∨ k = 5 ∨ k = 6 ∨ k = 7 := by omega
  rcases hkk with rfl | rfl | rfl | rfl | rfl | rfl | rfl
  · have hl : (xs.length : Int) = 3 := hm.resolve_left (by decide)
    have hok : ∀ t : SV, okPv ({ p with regions := ⟨t, p.regions.d ++ [regU xs]⟩ } : PartD).v := fun t => inner_okP (k := 1) ho h64
    (refine Tr.enter (rs := [.cell 6 57, .tmp 7]) mixed fn60 rfl (by simp +arith [Tryz.ntmps60]) fun u => ?_; simp only [cd60, Tryz.f60])
    have hX := And.intro pl60.eq_def (And.intro g0 (And.intro g1 (And.intro g2 g3))); repeat' (first | intro (sv : SV) | refine S.x ?_ | refine S.y ?_ ?_ | (refine G.prop ?_; assumption) | intro hb | ((fail_if_success refine G.tr ?_); exact G.prop S.p) | fail)
    all_goals
      refine Tr.freezeEq (α := RegC) (v := sv.v) (ys := p.regions.d ++ [regU xs]) S.K (by refine congrArg (fun x => p.regions.d ++ [x]) ?_; unfold regU; congr 1 <;> first | rfl | (rw [Bool.eq_iff_iff]; simp; omega)) ?_
      refine Tr.addZ (x := ({ p with regions := ⟨sv, p.regions.d ++ [regU xs]⟩ } : PartD)) (hasz_part (hok sv) (by dsimp only; infer_instance) (by dsimp only; infer_instance) (by dsimp only; infer_instance) (by dsimp only; infer_instance) (by dsimp only; infer_instance) (by dsimp only; infer_instance) (by dsimp only; infer_instance)) ?_
      refine Tr.fin hK ⟨sv, congrArg (fun b => Value.tuple #[.agg (En.enc (innerD p 1 sv xs)).toArray, .bool b]) (by first | rfl | (rw [Bool.eq_iff_iff]; simp [fineU, isB]; omega)), rfl⟩ ?_
      exact S.E
  · have hl : (xs.length : Int) = 3 := hm.resolve_left (by decide)
    have hok : ∀ t : SV, okPv ({ p with procs := ⟨t, p.procs.d ++ [procU xs]⟩ } : PartD).v := fun t => inner_okP (k := 2) ho h64
    (refine Tr.enter (rs := [.cell 6 57, .tmp 7]) mixed fn60 rfl (by simp +arith [Tryz.ntmps60]) fun u => ?_; simp only [cd60, Tryz.f60])
    have hX := And.intro pl60.eq_def (And.intro g0 (And.intro g1 (And.intro g2 g3))); repeat' (first | intro (sv : SV) | refine S.x ?_ | refine S.y ?_ ?_ | (refine G.prop ?_; assumption) | intro hb | ((fail_if_success refine G.tr ?_); exact G.prop S.p) | fail)
    all_goals
      refine Tr.freezeEq (α := ProcC) (v := sv.v) (ys := p.procs.d ++ [procU xs]) S.K rfl ?_
      refine Tr.addZ (x := ({ p with procs := ⟨sv, p.procs.d ++ [procU xs]⟩ } : PartD)) (hasz_part (hok sv) (by dsimp only; infer_instance) (by dsimp only; infer_instance) (by dsimp only; infer_instance) (by dsimp only; infer_instance) (by dsimp only; infer_instance) (by dsimp only; infer_instance) (by dsimp only; infer_instance)) ?_
      refine Tr.fin hK ⟨sv, congrArg (fun b => Value.tuple #[.agg (En.enc (innerD p 2 sv xs)).toArray, .bool b]) (by first | rfl | (rw [Bool.eq_iff_iff]; simp [fineU, isB]; omega)), rfl⟩ ?_
      exact S.E
  · have hl : (xs.length : Int) = 4 := hm.resolve_left (by decide)
    have hok : ∀ t : SV, okPv ({ p with ports := ⟨t, p.ports.d ++ [portU xs]⟩ } : PartD).v := fun t => inner_okP (k := 3) ho h64
    (refine Tr.enter (rs := [.cell 6 57, .tmp 7]) mixed fn60 rfl (by simp +arith [Tryz.ntmps60]) fun u => ?_; simp only [cd60, Tryz.f60])
    have hX := And.intro pl60.eq_def (And.intro g0 (And.intro g1 (And.intro g2 g3))); repeat' (first | intro (sv : SV) | refine S.x ?_ | refine S.y ?_ ?_ | (refine G.prop ?_; assumption) | intro hb | ((fail_if_success refine G.tr ?_); exact G.prop S.p) | fail)
    all_goals
      refine Tr.freezeEq (α := PortC) (v := sv.v) (ys := p.ports.d ++ [portU xs]) S.K (by refine congrArg (fun x => p.ports.d ++ [x]) ?_; unfold portU; congr 1 <;> first | rfl | (rw [Bool.eq_iff_iff]; simp; omega)) ?_
      refine Tr.addZ (x := ({ p with ports := ⟨sv, p.ports.d ++ [portU xs]⟩ } : PartD)) (hasz_part (hok sv) (by dsimp only; infer_instance) (by dsimp only; infer_instance) (by dsimp only; infer_instance) (by dsimp only; infer_instance) (by dsimp only; infer_instance) (by dsimp only; infer_instance) (by dsimp only; infer_instance)) ?_
      refine Tr.fin hK ⟨sv, congrArg (fun b => Value.tuple #[.agg (En.enc (innerD p 3 sv xs)).toArray, .bool b]) (by first | rfl | (rw [Bool.eq_iff_iff]; simp [fineU, isB]; omega)), rfl⟩ ?_
      exact S.E
  · have hl : (xs.length : Int) = 2 := hm.resolve_left (by decide)
    have hok : ∀ t : SV, okPv ({ p with sems := ⟨t, p.sems.d ++ [semU xs]⟩ } : PartD).v := fun t => inner_okP (k := 4) ho h64
    (refine Tr.enter (rs := [.cell 6 57, .tmp 7]) mixed fn60 rfl (by simp +arith [Tryz.ntmps60]) fun u => ?_; simp only [cd60, Tryz.f60])
    have hX := And.intro pl60.eq_def (And.intro g0 (And.intro g1 (And.intro g2 g3))); repeat' (first | intro (sv : SV) | refine S.x ?_ | refine S.y ?_ ?_ | (refine G.prop ?_; assumption) | intro hb | ((fail_if_success refine G.tr ?_); exact G.prop S.p) | fail)
    all_goals
      refine Tr.freezeEq (α := SemC) (v := sv.v) (ys := p.sems.d ++ [semU xs]) S.K rfl ?_
      refine Tr.addZ (x := ({ p with sems := ⟨sv, p.sems.d ++ [semU xs]⟩ } : PartD)) (hasz_part (hok sv) (by dsimp only; infer_instance) (by dsimp only; infer_instance) (by dsimp only; infer_instance) (by dsimp only; infer_instance) (by dsimp only; infer_instance) (by dsimp only; infer_instance) (by dsimp only; infer_instance)) ?_
      refine Tr.fin hK ⟨sv, congrArg (fun b => Value.tuple #[.agg (En.enc (innerD p 4 sv xs)).toArray, .bool b]) (by first | rfl | (rw [Bool.eq_iff_iff]; simp [fineU, isB]; omega)), rfl⟩ ?_
      exact S.E
  · have hl : (xs.length : Int) = 2 := hm.resolve_left (by decide)
    have hok : ∀ t : SV, okPv ({ p with pools := ⟨t, p.pools.d ++ [poolU xs]⟩ } : PartD).v := fun t => inner_okP (k := 5) ho h64
    (refine Tr.enter (rs := [.cell 6 57, .tmp 7]) mixed fn60 rfl (by simp +arith [Tryz.ntmps60]) fun u => ?_; simp only [cd60, Tryz.f60])
    have hX := And.intro pl60.eq_def (And.intro g0 (And.intro g1 (And.intro g2 g3))); repeat' (first | intro (sv : SV) | refine S.x ?_ | refine S.y ?_ ?_ | (refine G.prop ?_; assumption) | intro hb | ((fail_if_success refine G.tr ?_); exact G.prop S.p) | fail)
    all_goals
      refine Tr.freezeEq (α := PoolC) (v := sv.v) (ys := p.pools.d ++ [poolU xs]) S.K rfl ?_
      refine Tr.addZ (x := ({ p with pools := ⟨sv, p.pools.d ++ [poolU xs]⟩ } : PartD)) (hasz_part (hok sv) (by dsimp only; infer_instance) (by dsimp only; infer_instance) (by dsimp only; infer_instance) (by dsimp only; infer_instance) (by dsimp only; infer_instance) (by dsimp only; infer_instance) (by dsimp only; infer_instance)) ?_
      refine Tr.fin hK ⟨sv, congrArg (fun b => Value.tuple #[.agg (En.enc (innerD p 5 sv xs)).toArray, .bool b]) (by first | rfl | (rw [Bool.eq_iff_iff]; simp [fineU, isB]; omega)), rfl⟩ ?_
      exact S.E
  · have hl : (xs.length : Int) = 1 := hm.resolve_left (by decide)
    have hok : ∀ t : SV, okPv ({ p with slates := ⟨t, p.slates.d ++ [gU xs 0]⟩ } : PartD).v := fun t => inner_okP (k := 6) ho h64
    (refine Tr.enter (rs := [.cell 6 57, .tmp 7]) mixed fn60 rfl (by simp +arith [Tryz.ntmps60]) fun u => ?_; simp only [cd60, Tryz.f60])
    have hX := And.intro pl60.eq_def (And.intro g0 (And.intro g1 (And.intro g2 g3))); repeat' (first | intro (sv : SV) | refine S.x ?_ | refine S.y ?_ ?_ | (refine G.prop ?_; assumption) | intro hb | ((fail_if_success refine G.tr ?_); exact G.prop S.p) | fail)
    all_goals
      refine Tr.freezeEq (α := Int) (v := sv.v) (ys := p.slates.d ++ [gU xs 0]) S.K rfl ?_
      refine Tr.addZ (x := ({ p with slates := ⟨sv, p.slates.d ++ [gU xs 0]⟩ } : PartD)) (hasz_part (hok sv) (by dsimp only; infer_instance) (by dsimp only; infer_instance) (by dsimp only; infer_instance) (by dsimp only; infer_instance) (by dsimp only; infer_instance) (by dsimp only; infer_instance) (by dsimp only; infer_instance)) ?_
      refine Tr.fin hK ⟨sv, congrArg (fun b => Value.tuple #[.agg (En.enc (innerD p 6 sv xs)).toArray, .bool b]) (by first | rfl | (rw [Bool.eq_iff_iff]; simp [fineU, isB]; omega)), rfl⟩ ?_
      exact S.E
  · have hok : okPv ({ p with acts := ⟨s, xs⟩ } : PartD).v := inner_okP (k := 7) ho h64
    (refine Tr.enter (rs := [.cell 6 57, .tmp 7]) mixed fn60 rfl (by simp +arith [Tryz.ntmps60]) fun u => ?_; simp only [cd60, Tryz.f60])
    have hX := And.intro pl60.eq_def (And.intro g0 (And.intro g1 (And.intro g2 g3))); repeat' (first | intro (sv : SV) | refine S.x ?_ | refine S.y ?_ ?_ | (refine G.prop ?_; assumption) | intro hb | ((fail_if_success refine G.tr ?_); exact G.prop S.p) | fail)
    all_goals
      refine Tr.addZ (x := ({ p with acts := ⟨s, xs⟩ } : PartD)) (hasz_part hok (by dsimp only; infer_instance) (by dsimp only; infer_instance) (by dsimp only; infer_instance) (by dsimp only; infer_instance) (by dsimp only; infer_instance) (by dsimp only; infer_instance) (by dsimp only; infer_instance)) ?_
      refine Tr.fin hK ⟨s, rfl, rfl⟩ ?_
      exact S.E

end Go.Proofs.YtgkhjgpgdfbdpaaGreatDoor

namespace Go.Proofs.YtgkhjgpgdfbdpaaGreatDoor
open Go Go.Wk
set_option maxHeartbeats 6400000
set_option maxRecDepth 100000

/-! ### the document's configuration with a line more -/
abbrev confL (c : ConfD) : List Asrt := [sl false c.parts.s.v c.parts.d, fzl c.parts.d, sl false c.chans.s.v c.chans.d, sl false c.modes.s.v c.modes.d, famM c.modes.d, sl false c.levels.s.v c.levels.d, sl false c.naps.s.v c.naps.d, sl false c.down.s.v c.down.d, sl false c.up.s.v c.up.d]
theorem set_last {α : Type} {xs : List α} {n : Nat} (h : xs.length = n + 1) (y : α) : xs.set n y = xs.dropLast ++ [y] := by
  have hne : xs ≠ [] := fun e => by rw [e] at h; cases h
  obtain ⟨zs, z, rfl⟩ : ∃ zs z, xs = zs ++ [z] := ⟨xs.dropLast, xs.getLast hne, (List.dropLast_concat_getLast hne).symm⟩
  have hn : zs.length = n := by simpa using h
  rw [List.dropLast_concat, ← hn, List.set_append_right _ _ (Nat.le_refl _)]
  simp
instance {l : List Asrt} {a b c d : Int} : De l (.agg [.slice none 0 0, .slice none 0 0, .slice none 0 0, .slice none 0 0, .int .i64 a, .slice none 0 0, .slice none 0 0, .int .i64 b, .int .i64 c, .int .i64 d, .slice none 0 0].toArray) (PartD.mk default default default default a default default b c d default) := ⟨rfl⟩
instance {l : List Asrt} {a b c d : Int} : De l (.agg [.int .i64 a, .int .i64 b, .int .i64 c, .int .i64 d].toArray) (ChanC.mk a b c d) := ⟨rfl⟩
instance {l : List Asrt} {a : Int} : De l (.agg [.int .i64 a, .slice none 0 0].toArray) (ModeD.mk a default) := ⟨rfl⟩
instance {l : List Asrt} {a b c : Int} : De l (.agg [.int .i64 a, .int .i64 b, .int .i64 c].toArray) (WinC.mk a b c) := ⟨rfl⟩
instance {l : List Asrt} {a b : Int} : De l (.agg [.int .i64 a, .int .i64 b].toArray) (LevelC.mk a b) := ⟨rfl⟩
instance {l : List Asrt} {a b c : Int} : De l (.agg [.int .i64 a, .int .i64 b, .int .i64 c].toArray) (NapC.mk a b c) := ⟨rfl⟩
instance : ElT 22 PartD := ⟨⟩
instance : ElT 23 ChanC := ⟨⟩
instance : ElT 24 ModeD := ⟨⟩
instance : ElT 58 WinC := ⟨⟩
instance : ElT 25 LevelC := ⟨⟩
instance : ElT 26 NapC := ⟨⟩
attribute [local irreducible] BrK GenK EGenK EUnitK CallK FnK CallV GuardO GuardC CondW opX opK opKc chkR eqR seqK blkK endL WL WD W LoopW BinK Tr drewK resL PickK NotK NilK ExtrK getK Instr.storeAt Instr.loadAt Instr.fieldAt Instr.indexAt Instr.lookup Instr.mapUpdate Instr.box Instr.alloc Instr.build Instr.buildSlice Instr.makeSlice Instr.makeMap Instr.sliceAt Instr.field Instr.index Instr.makeInterface Instr.typeAssert Builtin.len_ Builtin.append_ Builtin.cap_ Builtin.min_ Builtin.max_ Builtin.copy_ Builtin.clear_ convert binOp mp blk rob sl sep ex fact old
attribute [local irreducible] NegK gU
theorem head_okP {l : List Int} (h64 : ∀ n ∈ l, I64 n) : okPv (headU l) := ⟨nil_all, nil_all, nil_all, nil_all, gU_ok h64 0, nil_all, nil_all, gU_ok h64 1, gU_ok h64 2, gU_ok h64 3, nil_all⟩
theorem hass_nilD {α : Type} [i : En α] {l : List Asrt} : HasS l (default : SL α).s.v true α i (default : SL α).d := ⟨fun w R U h1 h2 h3 => by
  obtain ⟨S, _, h, _⟩ := TakeA.nilS (α := α) (ro := true) (l := l) w R U h1 h2 h3
  exact ⟨S, h⟩⟩
theorem put0_ok {u0 : Value} {c : ConfD} {s : SV} {xs : List Int} [hd : DeA u0 c] (hl : (xs.length : Int) = 4) (hp : c.parts.d.length ≤ 64) (h64 : ∀ n ∈ xs, I64 n) : Trip Tryz.prog 32 [u0, .int .i64 0, s.v].toArray [sl false c.parts.s.v c.parts.d, fzl c.parts.d, sl false s.v xs]
    fun v l' => ∃ t : SV, v = .tuple #[.agg (En.enc ({ c with parts := ⟨t, c.parts.d ++ [⟨default, default, default, default, gU xs 0, default, default, gU xs 1, gU xs 2, gU xs 3, default⟩]⟩ } : ConfD)).toArray, .bool true] ∧ l' = [sl false t.v (c.parts.d ++ [⟨default, default, default, default, gU xs 0, default, default, gU xs 1, gU xs 2, gU xs 3, default⟩]), fzl (c.parts.d ++ [⟨default, default, default, default, gU xs 0, default, default, gU xs 1, gU xs 2, gU xs 3, default⟩])] := by
  obtain rfl := hd.h
  intro F K hK
  simp only [List.cons_append, List.nil_append]
  have g0 := @gU_0 xs
  have g1 := @gU_1 xs
  have g2 := @gU_2 xs
  have g3 := @gU_3 xs
  (refine Tr.enter (rs := [.cell 6 33, .tmp 7]) mixed fn32 rfl (by simp +arith [Tryz.ntmps32]) fun u => ?_; simp only [cd32, Tryz.f32])
  have hX := And.intro pl32.eq_def (And.intro g0 (And.intro g1 (And.intro g2 g3))); repeat' (first | refine S.x ?_ | refine S.y ?_ ?_ | (refine G.call 60 ?_; refine S.c ?_ (h := inner_ok (by assumption) (by assumption) (by assumption) (by assumption) (by assumption) (by assumption))) | rintro _ _ ⟨_, rfl, rfl⟩ | (refine G.prop ?_; assumption) | intro hb | ((fail_if_success refine G.tr ?_); exact G.prop S.p) | fail)
  all_goals
    refine Tr.addZ (x := (⟨default, default, default, default, gU xs 0, default, default, gU xs 1, gU xs 2, gU xs 3, default⟩ : PartD)) (hasz_part (head_okP h64) hass_nilD hass_nilD hass_nilD hass_nilD hass_nilD hass_nilD hass_nilD) ?_
    refine Tr.fin hK ⟨_, rfl, rfl⟩ ?_
    exact S.E
theorem putI_ok {u0 : Value} {c : ConfD} {k n : Nat} {s : SV} {xs : List Int} [hd : DeA u0 c] (hk0 : 0 < k) (hk : k < 8) (hm : manyU k < 0 ∨ (xs.length : Int) = manyU k) (hn : c.parts.d.length = n + 1) (hp : c.parts.d.length ≤ 64) (ho : okPv (ix c.parts.d (n : Int)).v) (hs : shortP (ix c.parts.d (n : Int)).v) (h64 : ∀ n ∈ xs, I64 n) :
    Trip Tryz.prog 32 [u0, .int .i64 (k : Int), s.v].toArray [sl false c.parts.s.v c.parts.d, fzl c.parts.d, sl true s.v xs]
    fun v l' => ∃ t : SV, v = .tuple #[.agg (En.enc ({ c with parts := ⟨c.parts.s, c.parts.d.set n (innerD (ix c.parts.d (n : Int)) k t xs)⟩ } : ConfD)).toArray, .bool (fineU k xs)] ∧ l' = [sl false c.parts.s.v (c.parts.d.set n (innerD (ix c.parts.d (n : Int)) k t xs)), fzl (c.parts.d.set n (innerD (ix c.parts.d (n : Int)) k t xs))] := by
  obtain rfl := hd.h
  intro F K hK
  simp only [List.cons_append, List.nil_append]
  have hni : IntKind.i64.wrap ((c.parts.d.length : Int) - 1) = (n : Int) := by rw [wrapId (by omega) (by omega)]; omega
  (refine Tr.enter (rs := [.cell 6 33, .tmp 7]) mixed fn32 rfl (by simp +arith [Tryz.ntmps32]) fun u => ?_; simp only [cd32, Tryz.f32])
  have hX := And.intro pl32.eq_def hni; repeat' (first | refine S.x ?_ | refine S.y ?_ ?_ | (refine G.call 60 ?_; refine S.c ?_ (h := inner_ok (by assumption) (by assumption) (by assumption) (by assumption) (by assumption) (by assumption))) | rintro _ _ ⟨_, rfl, rfl⟩ | (refine G.prop ?_; assumption) | intro hb | ((fail_if_success refine G.tr ?_); exact G.prop S.p) | fail)
  all_goals
    rename_i tv _
    refine Tr.fin hK ⟨tv, rfl, rfl⟩ ?_
    exact S.E
theorem put8_ok {u0 : Value} {c : ConfD} {s : SV} {xs : List Int} [hd : DeA u0 c] (hl : (xs.length : Int) = 4) (hp : c.chans.d.length ≤ 64) : Trip Tryz.prog 32 [u0, .int .i64 8, s.v].toArray [sl false c.chans.s.v c.chans.d, sl false s.v xs]
    fun v l' => ∃ t : SV, v = .tuple #[.agg (En.enc ({ c with chans := ⟨t, c.chans.d ++ [chanU xs]⟩ } : ConfD)).toArray, .bool true] ∧ l' = [sl false t.v (c.chans.d ++ [chanU xs])] := by
  obtain rfl := hd.h
  intro F K hK
  simp only [List.cons_append, List.nil_append]
  have g0 := @gU_0 xs
  have g1 := @gU_1 xs
  have g2 := @gU_2 xs
  have g3 := @gU_3 xs
  (refine Tr.enter (rs := [.cell 6 33, .tmp 7]) mixed fn32 rfl (by simp +arith [Tryz.ntmps32]) fun u => ?_; simp only [cd32, Tryz.f32])
  have hX := And.intro pl32.eq_def (And.intro g0 (And.intro g1 (And.intro g2 g3))); repeat' (first | refine S.x ?_ | refine S.y ?_ ?_ | (refine G.call 60 ?_; refine S.c ?_ (h := inner_ok (by assumption) (by assumption) (by assumption) (by assumption) (by assumption) (by assumption))) | rintro _ _ ⟨_, rfl, rfl⟩ | (refine G.prop ?_; assumption) | intro hb | ((fail_if_success refine G.tr ?_); exact G.prop S.p) | fail)
  all_goals
    refine Tr.fin hK ⟨_, rfl, rfl⟩ ?_
    exact S.E
theorem put9_ok {u0 : Value} {c : ConfD} {s : SV} {xs : List Int} [hd : DeA u0 c] (hl : (xs.length : Int) = 1) (hp : c.modes.d.length ≤ 64) : Trip Tryz.prog 32 [u0, .int .i64 9, s.v].toArray [sl false c.modes.s.v c.modes.d, famM c.modes.d, sl false s.v xs]
    fun v l' => ∃ t : SV, v = .tuple #[.agg (En.enc ({ c with modes := ⟨t, c.modes.d ++ [⟨gU xs 0, default⟩]⟩ } : ConfD)).toArray, .bool true] ∧ l' = [sl false t.v (c.modes.d ++ [⟨gU xs 0, default⟩]), famM (c.modes.d ++ [⟨gU xs 0, default⟩])] := by
  obtain rfl := hd.h
  intro F K hK
  simp only [List.cons_append, List.nil_append]
  have g0 := @gU_0 xs
  have g1 := @gU_1 xs
  have g2 := @gU_2 xs
  have g3 := @gU_3 xs
  (refine Tr.enter (rs := [.cell 6 33, .tmp 7]) mixed fn32 rfl (by simp +arith [Tryz.ntmps32]) fun u => ?_; simp only [cd32, Tryz.f32])
  have hX := And.intro pl32.eq_def g0; repeat' (first | refine S.x ?_ | refine S.y ?_ ?_ | (refine G.call 60 ?_; refine S.c ?_ (h := inner_ok (by assumption) (by assumption) (by assumption) (by assumption) (by assumption) (by assumption))) | rintro _ _ ⟨_, rfl, rfl⟩ | (refine G.prop ?_; assumption) | intro hb | ((fail_if_success refine G.tr ?_); exact G.prop S.p) | fail)
  all_goals
    refine Tr.fin hK ⟨_, rfl, rfl⟩ ?_
    exact S.E
theorem put11_ok {u0 : Value} {c : ConfD} {s : SV} {xs : List Int} [hd : DeA u0 c] (hl : (xs.length : Int) = 2) (hp : c.levels.d.length ≤ 64) : Trip Tryz.prog 32 [u0, .int .i64 11, s.v].toArray [sl false c.levels.s.v c.levels.d, sl false s.v xs]
    fun v l' => ∃ t : SV, v = .tuple #[.agg (En.enc ({ c with levels := ⟨t, c.levels.d ++ [levelU xs]⟩ } : ConfD)).toArray, .bool true] ∧ l' = [sl false t.v (c.levels.d ++ [levelU xs])] := by
  obtain rfl := hd.h
  intro F K hK
  simp only [List.cons_append, List.nil_append]
  have g0 := @gU_0 xs
  have g1 := @gU_1 xs
  have g2 := @gU_2 xs
  have g3 := @gU_3 xs
  (refine Tr.enter (rs := [.cell 6 33, .tmp 7]) mixed fn32 rfl (by simp +arith [Tryz.ntmps32]) fun u => ?_; simp only [cd32, Tryz.f32])
  have hX := And.intro pl32.eq_def (And.intro g0 (And.intro g1 (And.intro g2 g3))); repeat' (first | refine S.x ?_ | refine S.y ?_ ?_ | (refine G.call 60 ?_; refine S.c ?_ (h := inner_ok (by assumption) (by assumption) (by assumption) (by assumption) (by assumption) (by assumption))) | rintro _ _ ⟨_, rfl, rfl⟩ | (refine G.prop ?_; assumption) | intro hb | ((fail_if_success refine G.tr ?_); exact G.prop S.p) | fail)
  all_goals
    refine Tr.fin hK ⟨_, rfl, rfl⟩ ?_
    exact S.E
theorem put12_ok {u0 : Value} {c : ConfD} {s : SV} {xs : List Int} [hd : DeA u0 c] (hl : (xs.length : Int) = 3) (hp : c.naps.d.length ≤ 64) : Trip Tryz.prog 32 [u0, .int .i64 12, s.v].toArray [sl false c.naps.s.v c.naps.d, sl false s.v xs]
    fun v l' => ∃ t : SV, v = .tuple #[.agg (En.enc ({ c with naps := ⟨t, c.naps.d ++ [napU xs]⟩ } : ConfD)).toArray, .bool true] ∧ l' = [sl false t.v (c.naps.d ++ [napU xs])] := by
  obtain rfl := hd.h
  intro F K hK
  simp only [List.cons_append, List.nil_append]
  have g0 := @gU_0 xs
  have g1 := @gU_1 xs
  have g2 := @gU_2 xs
  have g3 := @gU_3 xs
  (refine Tr.enter (rs := [.cell 6 33, .tmp 7]) mixed fn32 rfl (by simp +arith [Tryz.ntmps32]) fun u => ?_; simp only [cd32, Tryz.f32])
  have hX := And.intro pl32.eq_def (And.intro g0 (And.intro g1 (And.intro g2 g3))); repeat' (first | refine S.x ?_ | refine S.y ?_ ?_ | (refine G.call 60 ?_; refine S.c ?_ (h := inner_ok (by assumption) (by assumption) (by assumption) (by assumption) (by assumption) (by assumption))) | rintro _ _ ⟨_, rfl, rfl⟩ | (refine G.prop ?_; assumption) | intro hb | ((fail_if_success refine G.tr ?_); exact G.prop S.p) | fail)
  all_goals
    refine Tr.fin hK ⟨_, rfl, rfl⟩ ?_
    exact S.E
theorem put13_ok {u0 : Value} {c : ConfD} {s : SV} {xs : List Int} [hd : DeA u0 c] (hl : (xs.length : Int) = 6) : Trip Tryz.prog 32 [u0, .int .i64 13, s.v].toArray [sl false s.v xs]
    fun v l' => v = .tuple #[.agg (En.enc ({ c with sw := gU xs 0, idle := gU xs 1, change := gU xs 2, quantum := gU xs 3, slow := gU xs 4, ppm := gU xs 5 } : ConfD)).toArray, .bool true] ∧ l' = [] := by
  obtain rfl := hd.h
  intro F K hK
  simp only [List.cons_append, List.nil_append]
  have g0 := @gU_0 xs
  have g1 := @gU_1 xs
  have g2 := @gU_2 xs
  have g3 := @gU_3 xs
  have g4 := @gU_4 xs
  have g5 := @gU_5 xs
  (refine Tr.enter (rs := [.cell 6 33, .tmp 7]) mixed fn32 rfl (by simp +arith [Tryz.ntmps32]) fun u => ?_; simp only [cd32, Tryz.f32])
  have hX := And.intro pl32.eq_def (And.intro g0 (And.intro g1 (And.intro g2 (And.intro g3 (And.intro g4 g5))))); repeat' (first | refine S.x ?_ | refine S.y ?_ ?_ | (refine G.call 60 ?_; refine S.c ?_ (h := inner_ok (by assumption) (by assumption) (by assumption) (by assumption) (by assumption) (by assumption))) | rintro _ _ ⟨_, rfl, rfl⟩ | (refine G.prop ?_; assumption) | intro hb | ((fail_if_success refine G.tr ?_); exact G.prop S.p) | fail)
  all_goals
    refine Tr.fin hK ⟨rfl, rfl⟩ ?_
    exact S.E
theorem put14_ok {u0 : Value} {c : ConfD} {s : SV} {xs : List Int} [hd : DeA u0 c] : Trip Tryz.prog 32 [u0, .int .i64 14, s.v].toArray []
    fun v l' => v = .tuple #[.agg (En.enc ({ c with down := ⟨s, xs⟩ } : ConfD)).toArray, .bool true] ∧ l' = [] := by
  obtain rfl := hd.h
  intro F K hK
  simp only [List.nil_append]
  (refine Tr.enter (rs := [.cell 6 33, .tmp 7]) mixed fn32 rfl (by simp +arith [Tryz.ntmps32]) fun u => ?_; simp only [cd32, Tryz.f32])
  have hX := pl32.eq_def; repeat' (first | refine S.x ?_ | refine S.y ?_ ?_ | (refine G.call 60 ?_; refine S.c ?_ (h := inner_ok (by assumption) (by assumption) (by assumption) (by assumption) (by assumption) (by assumption))) | rintro _ _ ⟨_, rfl, rfl⟩ | (refine G.prop ?_; assumption) | intro hb | ((fail_if_success refine G.tr ?_); exact G.prop S.p) | fail)
  all_goals
    refine Tr.fin hK ⟨rfl, rfl⟩ ?_
    exact S.E
theorem put15_ok {u0 : Value} {c : ConfD} {s : SV} {xs : List Int} [hd : DeA u0 c] : Trip Tryz.prog 32 [u0, .int .i64 15, s.v].toArray []
    fun v l' => v = .tuple #[.agg (En.enc ({ c with up := ⟨s, xs⟩ } : ConfD)).toArray, .bool true] ∧ l' = [] := by
  obtain rfl := hd.h
  intro F K hK
  simp only [List.nil_append]
  (refine Tr.enter (rs := [.cell 6 33, .tmp 7]) mixed fn32 rfl (by simp +arith [Tryz.ntmps32]) fun u => ?_; simp only [cd32, Tryz.f32])
  have hX := pl32.eq_def; repeat' (first | refine S.x ?_ | refine S.y ?_ ?_ | (refine G.call 60 ?_; refine S.c ?_ (h := inner_ok (by assumption) (by assumption) (by assumption) (by assumption) (by assumption) (by assumption))) | rintro _ _ ⟨_, rfl, rfl⟩ | (refine G.prop ?_; assumption) | intro hb | ((fail_if_success refine G.tr ?_); exact G.prop S.p) | fail)
  all_goals
    refine Tr.fin hK ⟨rfl, rfl⟩ ?_
    exact S.E
end Go.Proofs.YtgkhjgpgdfbdpaaGreatDoor

namespace Go.Proofs.YtgkhjgpgdfbdpaaGreatDoor
open Go Go.Wk
set_option maxHeartbeats 6400000
set_option maxRecDepth 100000

attribute [local irreducible] BrK GenK EGenK EUnitK CallK FnK CallV GuardO GuardC CondW opX opK opKc chkR eqR seqK blkK endL WL WD W LoopW BinK Tr drewK resL PickK NotK NilK ExtrK getK Instr.storeAt Instr.loadAt Instr.fieldAt Instr.indexAt Instr.lookup Instr.mapUpdate Instr.box Instr.alloc Instr.build Instr.buildSlice Instr.makeSlice Instr.makeMap Instr.sliceAt Instr.field Instr.index Instr.makeInterface Instr.typeAssert Builtin.len_ Builtin.append_ Builtin.cap_ Builtin.min_ Builtin.max_ Builtin.copy_ Builtin.clear_ convert binOp mp blk rob sl sep ex fact old
attribute [local irreducible] NegK gU
theorem putX_ok {u0 : Value} {c : ConfD} {j : Nat} {s : SV} {xs : List Int} [hd : DeA u0 c] (hl : (xs.length : Int) = 3) (hj : c.modes.d.length = j + 1) (hm : c.modes.d.length ≤ 64) (hw : (ix c.modes.d (j : Int)).wins.d.length ≤ 64) :
    Trip Tryz.prog 32 [u0, .int .i64 10, s.v].toArray [sl false c.modes.s.v c.modes.d, famM c.modes.d, sl false s.v xs]
    fun v l' => ∃ t : SV, v = .tuple #[.agg (En.enc ({ c with modes := ⟨c.modes.s, c.modes.d.set j ⟨(ix c.modes.d (j : Int)).frame, ⟨t, (ix c.modes.d (j : Int)).wins.d ++ [winU xs]⟩⟩⟩ } : ConfD)).toArray, .bool true]
      ∧ l' = [sl false c.modes.s.v (c.modes.d.set j ⟨(ix c.modes.d (j : Int)).frame, ⟨t, (ix c.modes.d (j : Int)).wins.d ++ [winU xs]⟩⟩), famM (c.modes.d.set j ⟨(ix c.modes.d (j : Int)).frame, ⟨t, (ix c.modes.d (j : Int)).wins.d ++ [winU xs]⟩⟩)] := by
  obtain rfl := hd.h
  intro F K hK
  simp only [List.cons_append, List.nil_append]
  have g0 := @gU_0 xs
  have g1 := @gU_1 xs
  have g2 := @gU_2 xs
  have hji : IntKind.i64.wrap ((c.modes.d.length : Int) - 1) = (j : Int) := by rw [wrapId (by omega) (by omega)]; omega
  have hjl : j < c.modes.d.length := by omega
  refine Tr.famAt (xs := c.modes.d) (j : Int) S.K (by omega) (by omega) ?_
  rw [Int.toNat_natCast]
  (refine Tr.enter (rs := [.cell 6 33, .tmp 7]) mixed fn32 rfl (by simp +arith [Tryz.ntmps32]) fun u => ?_; simp only [cd32, Tryz.f32])
  have hX := And.intro pl32.eq_def (And.intro g0 (And.intro g1 (And.intro g2 hji))); repeat' (first | intro (sv : SV) | refine S.x ?_ | refine S.y ?_ ?_ | (refine G.call 60 ?_; refine S.c ?_ (h := inner_ok (by assumption) (by assumption) (by assumption) (by assumption) (by assumption) (by assumption))) | rintro _ _ ⟨_, rfl, rfl⟩ | (refine G.prop ?_; assumption) | intro hb | ((fail_if_success refine G.tr ?_); exact G.prop S.p) | fail)
  refine A.stF (i := j) (vs := [sv.v]) (y := ix c.modes.d (j : Int)) (⟨(ix c.modes.d (j : Int)).frame, ⟨sv, (ix c.modes.d (j : Int)).wins.d ++ [winU xs]⟩⟩ : ModeD) (by assumption) rfl rfl rfl (Nat.le_refl 2) rfl ?_
  have hX := And.intro pl32.eq_def (And.intro g0 (And.intro g1 (And.intro g2 hji))); repeat' (first | refine S.x ?_ | refine S.y ?_ ?_ | (refine G.call 60 ?_; refine S.c ?_ (h := inner_ok (by assumption) (by assumption) (by assumption) (by assumption) (by assumption) (by assumption))) | rintro _ _ ⟨_, rfl, rfl⟩ | (refine G.prop ?_; assumption) | intro hb | ((fail_if_success refine G.tr ?_); exact G.prop S.p) | fail)
  all_goals
    refine setMode (m := ⟨(ix c.modes.d (j : Int)).frame, ⟨sv, (ix c.modes.d (j : Int)).wins.d ++ [winU xs]⟩⟩) hjl S.K S.K ?_
    refine Tr.fin hK ⟨sv, rfl, rfl⟩ ?_
    exact S.E
end Go.Proofs.YtgkhjgpgdfbdpaaGreatDoor

namespace Go.Proofs.YtgkhjgpgdfbdpaaGreatDoor
open Go Go.Wk
set_option maxHeartbeats 6400000
set_option maxRecDepth 100000

theorem putU_len {xs : List Int} {k : Nat} {n : Int} (hk : manyU k = n) (hn : 0 ≤ n) (hm : manyU k < 0 ∨ (xs.length : Int) = manyU k) : (xs.length : Int) = n := by
  rcases hm with h | h
  · omega
  · omega
attribute [local irreducible] BrK GenK EGenK EUnitK CallK FnK CallV GuardO GuardC CondW opX opK opKc chkR eqR seqK blkK endL WL WD W LoopW BinK Tr drewK resL PickK NotK NilK ExtrK getK Instr.storeAt Instr.loadAt Instr.fieldAt Instr.indexAt Instr.lookup Instr.mapUpdate Instr.box Instr.alloc Instr.build Instr.buildSlice Instr.makeSlice Instr.makeMap Instr.sliceAt Instr.field Instr.index Instr.makeInterface Instr.typeAssert Builtin.len_ Builtin.append_ Builtin.cap_ Builtin.min_ Builtin.max_ Builtin.copy_ Builtin.clear_ convert binOp mp blk rob sl sep ex fact old
attribute [local irreducible] NegK gU
theorem put_ok {u0 : Value} {c : ConfD} {k was : Nat} {s : SV} {xs : List Int} [hd : DeA u0 c] (hk : k < 16) (hj : okJ c.v was) (hmay : mayU c.v was (k, xs) = true) (h64 : ∀ n ∈ xs, I64 n) :
    Trip Tryz.prog 32 [u0, .int .i64 (k : Int), s.v].toArray (confL c ++ [sl false s.v xs])
    fun v l' => ∃ c' : ConfD, c'.v = putU c.v k xs ∧ v = .tuple #[.agg (En.enc c').toArray, .bool (fineU k xs)] ∧ l' = confL c' := by
  intro F K hK
  simp only [List.cons_append, List.nil_append]
  obtain ⟨hc, hm, hl, hn⟩ := may_all hmay
  obtain ⟨ho, hs, jp, jm, hw⟩ := hj
  have hcs := (can_spec k was).1 hc
  have hpl : c.parts.d.length ≤ 64 := by have := hs.1; simpa [ConfD.v] using this
  have hml : c.modes.d.length ≤ 64 := by have := hs.2.2.1; simpa [ConfD.v] using this
  have hcl : c.chans.d.length ≤ 64 := hs.2.1
  have hll : c.levels.d.length ≤ 64 := hs.2.2.2.1
  have hnl : c.naps.d.length ≤ 64 := hs.2.2.2.2.1
  have hkk : k = 0 ∨ (0 < k ∧ k < 8) ∨ k = 8 ∨ k = 9 ∨ k = 10 ∨ k = 11 ∨ k = 12 ∨ k = 13 ∨ k = 14 ∨ k = 15 := by omega
  rcases hkk with rfl | ⟨h0, h8⟩ | rfl | rfl | rfl | rfl | rfl | rfl | rfl | rfl
  · refine S.c ?_ (h := put0_ok (putU_len rfl (by decide) hm) hpl h64)
    rintro _ _ ⟨t, rfl, rfl⟩
    refine Tr.fin hK ⟨_, ?_, rfl, rfl⟩ S.E
    simp only [ConfD.v, putU, if_true, List.map_append]
    rfl
  · have hne : c.parts.d ≠ [] := fun e => jp (by omega) (by show c.parts.d.map PartD.v = []; rw [e]; rfl)
    obtain ⟨n, hnn⟩ : ∃ n, c.parts.d.length = n + 1 := ⟨c.parts.d.length - 1, by have := List.length_pos_iff.2 hne; omega⟩
    have hlp := lastP_v hnn
    have hmem := lastP_mem (c := c.v) (jp (by omega))
    rw [hlp] at hmem
    refine Tr.freezeAt (α := Int) (v := s.v) (xs := xs) S.K ?_
    refine S.c ?_ (h := putI_ok (n := n) h0 h8 hm hnn hpl (ho.1 _ hmem) (hs.2.2.2.2.2.2.2.1 _ hmem) h64)
    rintro _ _ ⟨t, rfl, rfl⟩
    refine Tr.fin hK ⟨_, ?_, rfl, rfl⟩ S.E
    have hv : ∀ q : PartD, q.v = innerU (lastP c.v) k xs → (c.parts.d.set n q).map PartD.v = c.v.parts.dropLast ++ [innerU (lastP c.v) k xs] := fun q hq => by
      rw [List.map_set, hq]
      exact set_last (by rw [List.length_map]; exact hnn) _
    have hh := hv (innerD (ix c.parts.d (n : Int)) k t xs) (by rw [innerD_v, hlp])
    unfold putU setP
    rw [if_neg (by omega), if_pos h8]
    show ConfV.mk _ _ _ _ _ _ _ _ _ _ _ _ _ = _
    rw [hh]
    rfl
  · refine S.c ?_ (h := put8_ok (putU_len rfl (by decide) hm) hcl)
    rintro _ _ ⟨t, rfl, rfl⟩
    exact Tr.fin hK ⟨_, rfl, rfl, rfl⟩ S.E
  · refine S.c ?_ (h := put9_ok (putU_len rfl (by decide) hm) hml)
    rintro _ _ ⟨t, rfl, rfl⟩
    refine Tr.fin hK ⟨_, ?_, rfl, rfl⟩ S.E
    show ConfV.mk _ _ _ _ _ _ _ _ _ _ _ _ _ = _
    rw [List.map_append]
    rfl
  · have hne : c.modes.d ≠ [] := fun e => jm (by omega) (by show c.modes.d.map ModeD.v = []; rw [e]; rfl)
    obtain ⟨j, hj⟩ : ∃ j, c.modes.d.length = j + 1 := ⟨c.modes.d.length - 1, by have := List.length_pos_iff.2 hne; omega⟩
    have hlm := lastM_v hj
    have hmem := lastM_mem (c := c.v) (jm (by omega))
    rw [hlm] at hmem
    refine S.c ?_ (h := putX_ok (j := j) (putU_len rfl (by decide) hm) hj hml (hs.2.2.2.2.2.2.2.2 _ hmem))
    rintro _ _ ⟨t, rfl, rfl⟩
    refine Tr.fin hK ⟨_, ?_, rfl, rfl⟩ S.E
    have hv : (c.modes.d.set j ⟨(ix c.modes.d (j : Int)).frame, ⟨t, (ix c.modes.d (j : Int)).wins.d ++ [winU xs]⟩⟩).map ModeD.v = c.v.modes.dropLast ++ [⟨(lastM c.v).frame, (lastM c.v).wins ++ [winU xs]⟩] := by
      rw [List.map_set, hlm]
      exact set_last (by rw [List.length_map]; exact hj) _
    show ConfV.mk _ _ (List.map ModeD.v (c.modes.d.set j _)) _ _ _ _ _ _ _ _ _ _ = ConfV.mk _ _ (c.v.modes.dropLast ++ [_]) _ _ _ _ _ _ _ _ _ _
    rw [hv]
    rfl
  · refine S.c ?_ (h := put11_ok (putU_len rfl (by decide) hm) hll)
    rintro _ _ ⟨t, rfl, rfl⟩
    exact Tr.fin hK ⟨_, rfl, rfl, rfl⟩ S.E
  · refine S.c ?_ (h := put12_ok (putU_len rfl (by decide) hm) hnl)
    rintro _ _ ⟨t, rfl, rfl⟩
    exact Tr.fin hK ⟨_, rfl, rfl, rfl⟩ S.E
  · refine S.c ?_ (h := put13_ok (putU_len rfl (by decide) hm))
    rintro _ _ ⟨rfl, rfl⟩
    exact Tr.fin hK ⟨_, rfl, rfl, rfl⟩ S.E
  · refine S.c ?_ (h := put14_ok (xs := xs))
    rintro _ _ ⟨rfl, rfl⟩
    exact Tr.fin hK ⟨_, rfl, rfl, rfl⟩ S.E
  · refine S.c ?_ (h := put15_ok (xs := xs))
    rintro _ _ ⟨rfl, rfl⟩
    exact Tr.fin hK ⟨_, rfl, rfl, rfl⟩ S.E

end Go.Proofs.YtgkhjgpgdfbdpaaGreatDoor
