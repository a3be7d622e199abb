import Derived.Test.YtgkhjgpgdfbdpaaGreatDoorWL
import Derived.Test.YtgkhjgpgdfbdpaaGreatDoorVdx
namespace Go.Proofs.YtgkhjgpgdfbdpaaGreatDoor
open Go Go.Wk
set_option maxHeartbeats 6400000
set_option maxRecDepth 100000

/-! ### a text's configuration has few bytes -/
def wgt (l : List Tok) : Nat := (l.map fun t => t.2.length + 4).sum
theorem wgt_app (l m : List Tok) : wgt (l ++ m) = wgt l + wgt m := by simp [wgt]
theorem wgt_cons (t : Tok) (l : List Tok) : wgt (t :: l) = t.2.length + 4 + wgt l := by simp [wgt]
theorem wgt_nil : wgt [] = 0 := rfl
theorem wgt_map {α : Type} {f : α → List UInt8} {g : α → Tok} (h : ∀ x, (f x).length ≤ 11 * ((g x).2.length + 4)) : ∀ xs : List α, (xs.flatMap f).length ≤ 11 * wgt (xs.map g)
  | [] => Nat.le_refl 0
  | x :: xs => by
    have := h x
    have := wgt_map h xs
    simp only [List.flatMap_cons, List.map_cons, wgt_cons, List.length_append]
    omega
theorem wgt_flat {α : Type} {f : α → List UInt8} {g : α → List Tok} (h : ∀ x, (f x).length ≤ 11 * wgt (g x)) : ∀ xs : List α, (xs.flatMap f).length ≤ 11 * wgt (xs.flatMap g)
  | [] => Nat.le_refl 0
  | x :: xs => by
    have := h x
    have := wgt_flat h xs
    simp only [List.flatMap_cons, wgt_app, List.length_append]
    omega
theorem wgt_part (p : PartV) : (partB8 p).length ≤ 11 * wgt (partT p) := by
  have h1 := wgt_map (f := regB) (g := regT) (fun x => by have := intsB_len [x.base, x.size]; have := bitB_len x.w; simp [regB, regT] at *; omega) p.regions
  have h2 := wgt_map (f := procB) (g := procT) (fun x => by have := intsB_len [x.prio, x.period, x.cost]; simp [procB, procT] at *; omega) p.procs
  have h3 := wgt_map (f := portB) (g := portT) (fun x => by have := intsB_len [x.size, x.depth]; have := bitB_len x.q; have := bitB_len x.i; simp [portB, portT] at *; omega) p.ports
  have h4 := wgt_map (f := semB) (g := semT) (fun x => by have := intsB_len [x.first, x.most]; simp [semB, semT] at *; omega) p.sems
  have h5 := wgt_map (f := poolB) (g := poolT) (fun x => by have := intsB_len [x.size, x.depth]; simp [poolB, poolT] at *; omega) p.pools
  have h6 := wgt_map (f := intB) (g := slateT) (fun x => by have := intB_len x; simp [slateT]; omega) p.slates
  have c1 := intB_len (p.regions.length : Int)
  have c2 := intB_len (p.procs.length : Int)
  have c3 := intB_len (p.ports.length : Int)
  have c4 := intB_len (p.sems.length : Int)
  have c5 := intsB_len [p.flags, (p.pools.length : Int)]
  have c6 := intB_len (p.slates.length : Int)
  have c7 := intsB_len [p.cap, p.budget, p.ladder]
  have c8 := listB_len p.acts
  unfold partB8 partT listB intsB
  unfold intsB at c5 c7
  unfold listB intsB at c8
  simp only [List.length_append, wgt_cons, wgt_app, wgt_nil, headT, List.length_cons, List.length_nil] at *
  omega
theorem wgt_mode (m : ModeV) : (modeB m).length ≤ 11 * wgt (modeT m) := by
  have h1 := wgt_map (f := winB) (g := winT) (fun x => by have := intsB_len [x.part, x.start, x.len]; simp [winB, winT] at *; omega) m.wins
  have c1 := intsB_len [m.frame, (m.wins.length : Int)]
  unfold modeB modeT
  simp only [List.length_append, wgt_cons, List.length_cons, List.length_nil] at *
  omega
theorem wgt_conf (c : ConfV) : (confB8 c).length ≤ 11 * wgt (toksU c) := by
  have h1 := wgt_flat wgt_part c.parts
  have h2 := wgt_map (f := chanB) (g := chanT) (fun x => by have := intsB_len [x.fp, x.fo, x.tp, x.to]; simp [chanB, chanT] at *; omega) c.chans
  have h3 := wgt_flat wgt_mode c.modes
  have h4 := wgt_map (f := levelB) (g := levelT) (fun x => by have := intsB_len [x.freq, x.power]; simp [levelB, levelT] at *; omega) c.levels
  have h5 := wgt_map (f := napB) (g := napT) (fun x => by have := intsB_len [x.power, x.enter, x.wake]; simp [napB, napT] at *; omega) c.naps
  have c1 := intB_len (c.parts.length : Int)
  have c2 := intB_len (c.chans.length : Int)
  have c3 := intB_len (c.modes.length : Int)
  have c4 := intB_len (c.levels.length : Int)
  have c5 := intB_len (c.naps.length : Int)
  have c6 := intsB_len [c.sw, c.idle, c.change, c.quantum, c.slow, c.ppm]
  have c7 := listB_len c.down
  have c8 := listB_len c.up
  unfold confB8 toksU
  simp only [List.length_append, wgt_cons, wgt_app, wgt_nil, powerT, List.length_cons, List.length_nil] at *
  omega
theorem numL_two : ∀ l : List Int, 2 * l.length ≤ (numL l).length
  | [] => Nat.le_refl 0
  | n :: l => by
    have := numL_two l
    have h : decA n ≠ [] := decA_ne n
    have := List.length_pos_iff.2 h
    unfold numL at *
    simp only [List.flatMap_cons, List.length_append, List.length_cons]
    omega
theorem word_two : ∀ k, k < 16 → 2 ≤ (wordU k).length := by decide
theorem wgt_text : ∀ l : List Tok, (∀ t ∈ l, t.1 < 16) → 3 * wgt l ≤ 4 * (textT l).length
  | [], _ => Nat.le_refl 0
  | t :: l, h => by
    have h1 := wgt_text l fun x hx => h x (List.mem_cons_of_mem _ hx)
    have h2 := numL_two t.2
    have h3 := word_two t.1 (h t (List.mem_cons_self ..))
    simp only [textT, List.flatMap_cons, wgt_cons, List.length_append, lineT, lineU, List.length_cons, List.length_nil] at *
    omega
theorem toks_lt (c : ConfV) : ∀ t ∈ toksU c, t.1 < 16 := by
  intro t ht
  unfold toksU at ht
  simp only [List.mem_append, List.mem_flatMap, List.mem_map, List.mem_cons, List.not_mem_nil, or_false, partT, modeT] at ht
  rcases ht with ((((⟨p, _, h⟩ | ⟨x, _, rfl⟩) | ⟨m, _, h⟩) | ⟨x, _, rfl⟩) | ⟨x, _, rfl⟩) | (rfl | rfl | rfl)
  · rcases h with rfl | ((((((⟨x, _, rfl⟩ | ⟨x, _, rfl⟩) | ⟨x, _, rfl⟩) | ⟨x, _, rfl⟩) | ⟨x, _, rfl⟩) | ⟨x, _, rfl⟩) | rfl) <;> simp [headT, regT, procT, portT, semT, poolT, slateT]
  · simp [chanT]
  · rcases h with rfl | ⟨x, _, rfl⟩ <;> simp [winT]
  all_goals simp [levelT, napT, powerT]
theorem conf_few {c : ConfV} (h : (textT (toksU c)).length ≤ 4000) : (confB8 c).length ≤ 65536 := by
  have h1 := wgt_conf c
  have h2 := wgt_text (toksU c) (toks_lt c)
  omega
/-! ### the document reads as the program does -/
theorem freezeM {X : WP} : ∀ {ms : List ModeD} {F : List Asrt}, (∀ m ∈ ms, okMo m.v) → Tr (fzl ms :: F) X → Tr (famM ms :: F) X
  | [], F, _, h => Tr.drop (h.imp (TakeA.dupF (xs := ([] : List ModeD))))
  | m :: ms, F, ho, h => by
    refine Tr.imp fam_cons ?_
    refine Tr.freezeSl ?_
    refine Tr.imp Imp.swap ?_
    refine freezeM (fun x hx => ho x (List.mem_cons_of_mem _ hx)) ?_
    refine Tr.addZ (x := m) (hasz_mode (ho m (List.mem_cons_self ..)) inferInstance) ?_
    refine Tr.imp (l' := fzl (m :: ms) :: F) ?_ h
    exact Imp.trans (TakeA.dupF (xs := m :: ms)) (Imp.cons (Imp.trans Imp.tail (Imp.trans Imp.tail Imp.tail)))
theorem dreadF_ok {s : List UInt8} {C : ConfV} {a e : Int} (hr : readU s = (C, a, e)) : Trip Tryz.prog 13 [.string (bstr s)].toArray []
    fun v l' => ∃ d : ConfD, d.v = C ∧ v = .tuple #[.agg (En.enc d).toArray, .int .i64 a, .int .i64 e] ∧ l' = [fzl [d]] := by
  intro F K hK
  rw [readU_readD] at hr
  refine S.c ?_ (h := dread_ok)
  rintro _ _ ⟨c, hok, hv, rfl, rfl⟩
  rw [hr] at hv ⊢
  simp only at hv ⊢
  simp only [List.cons_append, List.nil_append]
  obtain ⟨o1, o2, o3, _⟩ := id hok
  have o3' : ∀ m ∈ c.modes.d, okMo m.v := fun m hm => o3 m.v (List.mem_map_of_mem hm)
  refine Tr.imp (TakeA.next (TakeA.next (TakeA.next (TakeA.next TakeA.here)))) ?_
  refine freezeM o3' ?_
  refine Tr.freezeAt (α := PartD) (v := c.parts.s.v) S.K ?_
  refine Tr.freezeAt (α := ChanC) (v := c.chans.s.v) S.K ?_
  refine Tr.freezeAt (α := ModeD) (v := c.modes.s.v) S.K ?_
  refine Tr.freezeAt (α := LevelC) (v := c.levels.s.v) S.K ?_
  refine Tr.freezeAt (α := NapC) (v := c.naps.s.v) S.K ?_
  refine Tr.freezeAt (α := Int) (v := c.down.s.v) S.K ?_
  refine Tr.freezeAt (α := Int) (v := c.up.s.v) S.K ?_
  refine Tr.addZ (x := c) (hasz_conf hok inferInstance inferInstance inferInstance inferInstance inferInstance inferInstance inferInstance) ?_
  exact Tr.fin hK ⟨c, hv, rfl, rfl⟩ S.E
theorem sameR_ok {u1 u2 : Value} {a b : ConfD} {C : ConfV} [h1 : DeA u1 a] [h2 : DeA u2 b] (ha : a.v = C) (hb : b.v = C) (ho : okU C) (hs : shortU C) (hl : (confB8 C).length ≤ 65536) : Trip Tryz.prog 14 [u1, u2].toArray [fzl [a], fzl [b]] fun v l' => v = .bool true ∧ l' = [] := by
  subst ha
  exact same08_ok hb.symm ho hs hl






attribute [local irreducible] BrK GenK EGenK EUnitK CallK FnK CallV GuardO GuardC CondW opX opK opKc chkR eqR seqK blkK endL WL WD W LoopW BinK Tr drewK resL PickK NotK NilK ExtrK getK Instr.storeAt Instr.loadAt Instr.fieldAt Instr.indexAt Instr.lookup Instr.mapUpdate Instr.box Instr.alloc Instr.build Instr.buildSlice Instr.makeSlice Instr.makeMap Instr.sliceAt Instr.field Instr.index Instr.makeInterface Instr.typeAssert Builtin.len_ Builtin.append_ Builtin.cap_ Builtin.min_ Builtin.max_ Builtin.copy_ Builtin.clear_ convert binOp mp blk rob sl sep ex fact old
attribute [local irreducible] NegK mxV confB8 printU readU readD
theorem reads34_ok {s : List UInt8} {m : Int} : Trip Tryz.prog 4 [.string (bstr s)].toArray [mxB m] fun v l' => v = .bool true ∧ l' = [] := by
  intro F K hK
  simp only [List.cons_append, List.nil_append]
  (refine Tr.enter (rs := [.tmp 2]) mixed fn4 rfl (by simp +arith [Tryz.ntmps4]) fun u => ?_; simp only [cd4, Tryz.f4])
  by_cases hl : s.length ≤ 4000
  · obtain ⟨⟨C, a, e⟩, hrd⟩ : ∃ x, readU s = x := ⟨_, rfl⟩
    have hinv := readU_inv s
    rw [hrd] at hinv
    simp only at hinv
    have hall : okU C ∧ shortU C ∧ (confB8 C).length ≤ 65536 := by
      rcases hinv with ⟨_, _, h1, h2, h3, _⟩ | ⟨_, rfl⟩
      · exact ⟨h2, h3, conf_few (by rw [h1]; exact hl)⟩
      · exact ⟨none_ok, none_short, none_bytes⟩
    clear hinv
    obtain ⟨hok, hsh, hby⟩ := hall
    have hX := pl4.eq_def; repeat' (first | refine S.x ?_ | refine S.y ?_ ?_ | (refine G.call 6 ?_; refine S.c ?_ (h := works34_ok)) | (refine G.call 12 ?_; refine S.c ?_ (h := ureadE_ok (by assumption))) | (refine G.call 13 ?_; refine S.c ?_ (h := dreadF_ok (by assumption))) | (refine G.call 14 ?_; refine S.c ?_ (h := sameR_ok (by assumption) (by assumption) (by assumption) (by assumption) (by assumption))) | rintro _ _ ⟨rfl, rfl⟩ | rintro _ _ ⟨ca, hca, rfl, rfl⟩ | rintro _ _ ⟨cb, hcb, rfl, rfl⟩ | (refine G.prop ?_; assumption) | intro hb | ((fail_if_success refine G.tr ?_); exact G.prop S.p) | fail)
    all_goals exact S.L
  · have hl' : (4000 : Int) < s.length := by omega
    have hX := pl4.eq_def; repeat' (first | refine S.x ?_ | refine S.y ?_ ?_ | (refine G.call 6 ?_; refine S.c ?_ (h := works34_ok)) | (refine G.call 12 ?_; refine S.c ?_ (h := ureadE_ok (by assumption))) | (refine G.call 13 ?_; refine S.c ?_ (h := dreadF_ok (by assumption))) | (refine G.call 14 ?_; refine S.c ?_ (h := sameR_ok (by assumption) (by assumption) (by assumption) (by assumption) (by assumption))) | rintro _ _ ⟨rfl, rfl⟩ | rintro _ _ ⟨ca, hca, rfl, rfl⟩ | rintro _ _ ⟨cb, hcb, rfl, rfl⟩ | (refine G.prop ?_; assumption) | intro hb | ((fail_if_success refine G.tr ?_); exact G.prop S.p) | fail)
    all_goals exact S.L
end Go.Proofs.YtgkhjgpgdfbdpaaGreatDoor
