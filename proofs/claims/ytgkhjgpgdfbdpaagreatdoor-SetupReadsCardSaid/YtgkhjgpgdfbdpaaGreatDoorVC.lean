import Derived.Test.YtgkhjgpgdfbdpaaGreatDoorVax
namespace Go.Proofs.YtgkhjgpgdfbdpaaGreatDoor
open Go Go.Wk
set_option maxHeartbeats 6400000
set_option maxRecDepth 100000

/-! ### a configuration's bytes -/
def chanB (x : ChanC) : List UInt8 := intsB [x.fp, x.fo, x.tp, x.to]
theorem chanB_len (x : ChanC) : (chanB x).length ≤ 44 := by
  have h := intsB_len [x.fp, x.fo, x.tp, x.to]
  simp only [List.length_cons, List.length_nil] at h
  unfold chanB
  omega
def winB (x : WinC) : List UInt8 := intsB [x.part, x.start, x.len]
theorem winB_len (x : WinC) : (winB x).length ≤ 44 := by
  have h := intsB_len [x.part, x.start, x.len]
  simp only [List.length_cons, List.length_nil] at h
  unfold winB
  omega
def levelB (x : LevelC) : List UInt8 := intsB [x.freq, x.power]
theorem levelB_len (x : LevelC) : (levelB x).length ≤ 44 := by
  have h := intsB_len [x.freq, x.power]
  simp only [List.length_cons, List.length_nil] at h
  unfold levelB
  omega
def napB (x : NapC) : List UInt8 := intsB [x.power, x.enter, x.wake]
theorem napB_len (x : NapC) : (napB x).length ≤ 44 := by
  have h := intsB_len [x.power, x.enter, x.wake]
  simp only [List.length_cons, List.length_nil] at h
  unfold napB
  omega
def modeB (m : ModeV) : List UInt8 := intsB [m.frame, (m.wins.length : Int)] ++ m.wins.flatMap winB
theorem modeB_len {m : ModeV} (h : m.wins.length ≤ 64) : (modeB m).length ≤ 3000 := by
  have h1 := intsB_len [m.frame, (m.wins.length : Int)]
  simp only [List.length_cons, List.length_nil] at h1
  have h2 := flat_le (f := winB) (n := 44) (l := m.wins) fun x _ => winB_len x
  unfold modeB
  rw [List.length_append]
  omega
theorem partB8_len {p : PartV} (h : shortP p) : (partB8 p).length ≤ 20000 := by
  obtain ⟨s1, s2, s3, s4, s5, s6, s7⟩ := h
  have h1 := flat_le (f := regB) (n := 44) (l := p.regions) fun x _ => regB_len x
  have h2 := flat_le (f := procB) (n := 44) (l := p.procs) fun x _ => procB_len x
  have h3 := flat_le (f := portB) (n := 44) (l := p.ports) fun x _ => portB_len x
  have h4 := flat_le (f := semB) (n := 44) (l := p.sems) fun x _ => semB_len x
  have h5 := flat_le (f := poolB) (n := 44) (l := p.pools) fun x _ => poolB_len x
  have m1 := intB_len (p.regions.length : Int)
  have m2 := intB_len (p.procs.length : Int)
  have m3 := intB_len (p.ports.length : Int)
  have m4 := intB_len (p.sems.length : Int)
  have m5 := intsB_len [p.flags, (p.pools.length : Int)]
  have m8 := intsB_len [p.cap, p.budget, p.ladder]
  simp only [List.length_cons, List.length_nil] at m5 m8
  have m7 := listB_len p.slates
  have m11 := listB_len p.acts
  unfold partB8
  simp only [List.length_append]
  omega
def confB8 (c : ConfV) : List UInt8 := intB (c.parts.length : Int) ++ c.parts.flatMap partB8 ++ intB (c.chans.length : Int) ++ c.chans.flatMap chanB ++ intB (c.modes.length : Int) ++ c.modes.flatMap modeB ++ intB (c.levels.length : Int) ++ c.levels.flatMap levelB
  ++ intB (c.naps.length : Int) ++ c.naps.flatMap napB ++ intsB [c.sw, c.idle, c.change, c.quantum, c.slow, c.ppm] ++ listB c.down ++ listB c.up
attribute [local irreducible] BrK GenK EGenK EUnitK CallK FnK CallV GuardO GuardC CondW opX opK opKc chkR eqR seqK blkK endL WL WD W LoopW BinK Tr drewK resL PickK NotK NilK ExtrK getK Instr.storeAt Instr.loadAt Instr.fieldAt Instr.indexAt Instr.lookup Instr.mapUpdate Instr.box Instr.alloc Instr.build Instr.buildSlice Instr.makeSlice Instr.makeMap Instr.sliceAt Instr.field Instr.index Instr.makeInterface Instr.typeAssert Builtin.len_ Builtin.append_ Builtin.cap_ Builtin.min_ Builtin.max_ Builtin.copy_ Builtin.clear_ convert binOp mp blk rob sl sep ex fact old
attribute [local irreducible] NegK mxV rowB intB intsB bitB listB partB8 modeB
theorem encode_ok {u0 : Value} {c : ConfD} [hd : DeA u0 c] (ho : okU c.v) (hs : shortU c.v) (hl : (confB8 c.v).length ≤ 65536) : Trip Tryz.prog 33 [u0].toArray [fzl [c]] fun v l' => ∃ s : SV, v = .tuple #[s.v, .int .i64 0] ∧ l' = [sl false s.v (confB8 c.v)] := by
  obtain rfl := hd.h
  intro F K hK
  simp only [List.cons_append, List.nil_append]
  obtain ⟨o1, o2, o3, o4, o5, o6, o7, o8, o9, o10, o11, o12, o13⟩ := ho
  have o1' : ∀ p ∈ c.parts.d, okPv p.v := fun p hp => o1 p.v (List.mem_map_of_mem hp)
  have o3' : ∀ m ∈ c.modes.d, okMo m.v := fun m hm => o3 m.v (List.mem_map_of_mem hm)
  obtain ⟨s1, s2, s3, s4, s5, s6, s7, s8, s9⟩ := hs
  have s8' : ∀ p ∈ c.parts.d, shortP p.v := fun p hp => s8 p.v (List.mem_map_of_mem hp)
  have s9' : ∀ m ∈ c.modes.d, m.wins.d.length ≤ 64 := fun m hm => s9 m.v (List.mem_map_of_mem hm)
  have s1 : c.parts.d.length ≤ 64 := by simpa [ConfD.v] using s1
  have s2 : c.chans.d.length ≤ 64 := s2
  have s3 : c.modes.d.length ≤ 64 := by simpa [ConfD.v] using s3
  have s4 : c.levels.d.length ≤ 64 := s4
  have s5 : c.naps.d.length ≤ 64 := s5
  have s6 : c.down.d.length ≤ 64 := s6
  have s7 : c.up.d.length ≤ 64 := s7
  have n1 : I64 (c.parts.d.length : Int) := nat_I64 (by omega)
  have n2 : I64 (c.chans.d.length : Int) := nat_I64 (by omega)
  have n3 : I64 (c.modes.d.length : Int) := nat_I64 (by omega)
  have n4 : I64 (c.levels.d.length : Int) := nat_I64 (by omega)
  have n5 : I64 (c.naps.d.length : Int) := nat_I64 (by omega)
  have n6 : ∀ n ∈ [c.sw, c.idle, c.change, c.quantum, c.slow, c.ppm], I64 n := I64s o6 (I64s o7 (I64s o8 (I64s o9 (I64s o10 (I64s1 o11)))))
  have n7 : ∀ n ∈ c.down.d, I64 n := o12
  have n8 : ∀ n ∈ c.up.d, I64 n := o13
  have m1 := intB_len (c.parts.d.length : Int)
  have m2 := intB_len (c.chans.d.length : Int)
  have m3 := intB_len (c.modes.d.length : Int)
  have m4 := intB_len (c.levels.d.length : Int)
  have m5 := intB_len (c.naps.d.length : Int)
  have m6 := intsB_len [c.sw, c.idle, c.change, c.quantum, c.slow, c.ppm]
  simp only [List.length_cons, List.length_nil] at m6
  have m7 := listB_len c.down.d
  have m8 := listB_len c.up.d
  have lP : ∀ p ∈ c.parts.d, (partB8 p.v).length ≤ 20000 := fun p hp => partB8_len (s8' p hp)
  have lM : ∀ m ∈ c.modes.d, (modeB m.v).length ≤ 3000 := fun m hm => modeB_len (s9' m hm)
  obtain ⟨A0, eA0⟩ : ∃ A, A = intB (c.parts.d.length : Int) := ⟨_, rfl⟩
  obtain ⟨A1, eA1⟩ : ∃ A, A = rowB A0 (fun p => partB8 p.v) c.parts.d c.parts.d.length ++ intB (c.chans.d.length : Int) := ⟨_, rfl⟩
  obtain ⟨A2, eA2⟩ : ∃ A, A = rowB A1 chanB c.chans.d c.chans.d.length ++ intB (c.modes.d.length : Int) := ⟨_, rfl⟩
  obtain ⟨A3, eA3⟩ : ∃ A, A = rowB A2 (fun m => modeB m.v) c.modes.d c.modes.d.length ++ intB (c.levels.d.length : Int) := ⟨_, rfl⟩
  obtain ⟨A4, eA4⟩ : ∃ A, A = rowB A3 levelB c.levels.d c.levels.d.length ++ intB (c.naps.d.length : Int) := ⟨_, rfl⟩
  have lA0 : A0.length ≤ 11 := by rw [eA0]; exact m1
  have lA1 : A1.length ≤ 1280022 := by
    have h := rowB_len A0 (fun p => partB8 p.v) (xs := c.parts.d) lP c.parts.d.length
    rw [eA1, List.length_append]
    omega
  have lA2 : A2.length ≤ 1282849 := by
    have h := rowB_len A1 chanB (xs := c.chans.d) (fun x _ => chanB_len x) c.chans.d.length
    rw [eA2, List.length_append]
    omega
  have lA3 : A3.length ≤ 1474860 := by
    have h := rowB_len A2 (fun m => modeB m.v) (xs := c.modes.d) lM c.modes.d.length
    rw [eA3, List.length_append]
    omega
  have lA4 : A4.length ≤ 1477687 := by
    have h := rowB_len A3 levelB (xs := c.levels.d) (fun x _ => levelB_len x) c.levels.d.length
    rw [eA4, List.length_append]
    omega
  have hfin : rowB A4 napB c.naps.d c.naps.d.length ++ intsB [c.sw, c.idle, c.change, c.quantum, c.slow, c.ppm] ++ listB c.down.d ++ listB c.up.d = confB8 c.v := by
    rw [rowB_full, eA4, rowB_full, eA3, rowB_full, eA2, rowB_full, eA1, rowB_full, eA0]
    unfold confB8
    simp only [ConfD.v, List.length_map, flat_map]
  have hd7 : decide ((c.up.d.length : Int) ≤ 64) = true := decide_eq_true (by omega)
  (refine Tr.enter (rs := [.tmp 2, .tmp 3]) mixed fn33 rfl (by simp +arith [Tryz.ntmps33]) fun u => ?_; simp only [cd33, Tryz.f33])
  ((try simp only [WKb, ↓reduceIte]) <;> (repeat' ((first
    | (refine G.tr ?_; first | refine S.a ?_ | refine S.t ?_ | refine Tr.brK ?_ ?_ | (refine G.call 61 ?_; refine S.c ?_ (h := int07_ok (by assumption))) | (refine G.call 62 ?_; refine S.c ?_ (h := part08_ok (by assumption) (by assumption))) | (refine G.call 63 ?_; refine S.c ?_ (h := ints08_ok ?_ ?_)) | (refine G.call 64 ?_; refine S.c ?_ (h := ints07_ok ?_ ?_)) | refine S.n fun _ => ?_ | refine S.i fun hix => ?_ | (refine S.g fun hb => ?_; (try simp only [hb])) | (refine S.s (fun hb => ?_) (fun hb => ?_) <;> ((try simp only [hb]) <;> (try (have hp := hb; simp only [WKs] at hp; (try have hq := Int.not_le.2 hp); (try have hq := Int.not_lt.2 hp))))))
    | rintro _ _ ⟨_, rfl, rfl⟩
    | ((fail_if_success refine G.tr ?_); exact G.prop S.p)
    | fail) <;> (try simp only [WKb, ↓reduceIte, Nat.reduceEqDiff, Nat.reduceAdd, hd7]))))
  rename_i _ sv
  have hz : rowB A0 (fun p => partB8 p.v) c.parts.d 0 = intB (c.parts.d.length : Int) := by rw [rowB_zero, eA0]
  refine Tr.loopE (α := Nat × SV) [4, 5, 6] [1, 2, 3] (fun x => [.bool true, x.2.v, .int .i64 x.1]) (fun x => [sl false x.2.v (rowB A0 (fun p => partB8 p.v) c.parts.d x.1)]) (fun x => x.1 ≤ c.parts.d.length) (fun x => c.parts.d.length - x.1) (0, sv) (by simp only [hz]; exact (by (repeat (first | exact TakeL.nil | (apply TakeL.cons; focus ((first | exact TakeA.dupS | exact TakeA.dupF | ((repeat (first | with_reducible exact TakeA.here | exact TakeA.fam (by omega) (by omega) | with_reducible apply TakeA.next)); done) | ((repeat (first | exact TakeA.here | apply TakeA.next)); done) | exact TakeA.famNil | exact TakeA.nilS))) | fail)); done)) rfl (Nat.zero_le _) fun x u hk => ?_
  obtain ⟨k, s⟩ := x
  simp only at hk ⊢
  have hln := rowB_len A0 (fun p => partB8 p.v) (xs := c.parts.d) lP k
  by_cases hin : k < c.parts.d.length
  · have hw := wrapSucc (k := k) (by omega)
    have hx1 := o1' (ix c.parts.d (k : Int)) (ix_memU hin)
    have hx2 := s8' (ix c.parts.d (k : Int)) (ix_memU hin)
    have hx3 := lP (ix c.parts.d (k : Int)) (ix_memU hin)
    have hst : rowB A0 (fun p => partB8 p.v) c.parts.d k ++ partB8 (ix c.parts.d (k : Int)).v = rowB A0 (fun p => partB8 p.v) c.parts.d (k + 1) := (rowB_next A0 (fun p : PartD => partB8 p.v) hin).symm
    ((try simp only [WKb, ↓reduceIte, Nat.reduceEqDiff]) <;> (repeat' ((first
    | (refine G.tr ?_; first | refine S.a ?_ | refine S.t ?_ | refine Tr.brK ?_ ?_ | (refine G.call 61 ?_; refine S.c ?_ (h := int07_ok (by assumption))) | (refine G.call 62 ?_; refine S.c ?_ (h := part08_ok (by assumption) (by assumption))) | (refine G.call 63 ?_; refine S.c ?_ (h := ints08_ok ?_ ?_)) | (refine G.call 64 ?_; refine S.c ?_ (h := ints07_ok ?_ ?_)) | refine S.n fun _ => ?_ | refine S.i fun hix => ?_ | (refine S.g fun hb => ?_; (try simp only [hb])) | (refine S.s (fun hb => ?_) (fun hb => ?_) <;> ((try simp only [hb]) <;> (try (have hp := hb; simp only [WKs] at hp; (try have hq := Int.not_le.2 hp); (try have hq := Int.not_lt.2 hp))))))
    | rintro _ _ ⟨_, rfl, rfl⟩
    | ((fail_if_success refine G.tr ?_); exact G.prop S.p)
    | fail) <;> (try simp only [WKb, ↓reduceIte, Nat.reduceEqDiff, hw]))))
    all_goals
      clear eA0 eA1 eA2 eA3 eA4 lA0 lA1 lA2 lA3 lA4 hfin m1 m2 m3 m4 m5 m6 m7 m8 hln hx1 hx2 hx3
      (apply Tr.againE ((k + 1, _)); (focus (simp only [WKb, ↓reduceIte, Nat.reduceEqDiff])); (focus ((try simp only [WKb, ↓reduceIte, Nat.reduceEqDiff]); (all_goals ((repeat (refine cons_eq (by first | rfl | ((try clear hK) <;> first | (simp [*, hst]; done) | (simp [*, hst]; omega) | (simp [*, hst] <;> (try split) <;> simp_all <;> omega))) ?_)); rfl)); done)); (focus (first | omega | assumption | (simp only []; omega) | (refine ⟨by omega, by assumption⟩) | (simp only []; refine ⟨by omega, by assumption⟩) | ((try simp only []); (repeat' (first | omega | assumption | refine And.intro ?_ ?_)); done))); (focus (first | omega | (simp only []; omega))); (focus (((try clear hK) <;> (try simp only [WKe, *]) <;> repeat (first | with_reducible exact EntR.done | refine S.e ?_ | (refine S.f ?_ <;> (try simp only [WKe, hst, ↓reduceIte, reduceCtorEq, Int.reduceEq, *])) | with_reducible apply EntR.ex | refine EntR.drop (F := F) ?_ | refine EntR.drop ?_)))))
  · have hke : k = c.parts.d.length := by omega
    subst hke
    ((try simp only [WKb, ↓reduceIte, Nat.reduceEqDiff]) <;> (repeat' ((first
    | (refine G.tr ?_; first | refine S.a ?_ | refine S.t ?_ | refine Tr.brK ?_ ?_ | (refine G.call 61 ?_; refine S.c ?_ (h := int07_ok (by assumption))) | (refine G.call 62 ?_; refine S.c ?_ (h := part08_ok (by assumption) (by assumption))) | (refine G.call 63 ?_; refine S.c ?_ (h := ints08_ok ?_ ?_)) | (refine G.call 64 ?_; refine S.c ?_ (h := ints07_ok ?_ ?_)) | refine S.n fun _ => ?_ | refine S.i fun hix => ?_ | (refine S.g fun hb => ?_; (try simp only [hb])) | (refine S.s (fun hb => ?_) (fun hb => ?_) <;> ((try simp only [hb]) <;> (try (have hp := hb; simp only [WKs] at hp; (try have hq := Int.not_le.2 hp); (try have hq := Int.not_lt.2 hp))))))
    | rintro _ _ ⟨_, rfl, rfl⟩
    | ((fail_if_success refine G.tr ?_); exact G.prop S.p)
    | fail) <;> (try simp only [WKb, ↓reduceIte, Nat.reduceEqDiff]))))
    rename_i sv1
    have hz : rowB A1 chanB c.chans.d 0 = rowB A0 (fun p => partB8 p.v) c.parts.d c.parts.d.length ++ intB (c.chans.d.length : Int) := by rw [rowB_zero, eA1]
    refine Tr.loopE (α := Nat × SV) [5, 9] [1, 2, 3, 4] (fun x => [x.2.v, .int .i64 x.1]) (fun x => [sl false x.2.v (rowB A1 chanB c.chans.d x.1)]) (fun x => x.1 ≤ c.chans.d.length) (fun x => c.chans.d.length - x.1) (0, sv1) (by simp only [hz]; exact (by (repeat (first | exact TakeL.nil | (apply TakeL.cons; focus ((first | exact TakeA.dupS | exact TakeA.dupF | ((repeat (first | with_reducible exact TakeA.here | exact TakeA.fam (by omega) (by omega) | with_reducible apply TakeA.next)); done) | ((repeat (first | exact TakeA.here | apply TakeA.next)); done) | exact TakeA.famNil | exact TakeA.nilS))) | fail)); done)) rfl (Nat.zero_le _) fun x u hk => ?_
    obtain ⟨k, s⟩ := x
    simp only at hk ⊢
    have hln := rowB_len A1 chanB (xs := c.chans.d) (fun x _ => chanB_len x) k
    by_cases hin : k < c.chans.d.length
    · have hw := wrapSucc (k := k) (by omega)
      have hx := o2 (ix c.chans.d (k : Int)) (ix_memU hin)
      have hi : ∀ n ∈ [(ix c.chans.d (k : Int)).fp, (ix c.chans.d (k : Int)).fo, (ix c.chans.d (k : Int)).tp, (ix c.chans.d (k : Int)).to], I64 n := I64s (hx.1) (I64s (hx.2.1) (I64s (hx.2.2.1) (I64s1 (hx.2.2.2))))
      have hil := intsB_len [(ix c.chans.d (k : Int)).fp, (ix c.chans.d (k : Int)).fo, (ix c.chans.d (k : Int)).tp, (ix c.chans.d (k : Int)).to]
      simp only [List.length_cons, List.length_nil] at hil
      have hst : rowB A1 chanB c.chans.d k ++ intsB [(ix c.chans.d (k : Int)).fp, (ix c.chans.d (k : Int)).fo, (ix c.chans.d (k : Int)).tp, (ix c.chans.d (k : Int)).to] = rowB A1 chanB c.chans.d (k + 1) := by rw [rowB_next A1 chanB hin]; rfl
      clear hx
      ((try simp only [WKb, ↓reduceIte, Nat.reduceEqDiff]) <;> (repeat' ((first
    | (refine G.tr ?_; first | refine S.a ?_ | refine S.t ?_ | refine Tr.brK ?_ ?_ | (refine G.call 61 ?_; refine S.c ?_ (h := int07_ok (by assumption))) | (refine G.call 62 ?_; refine S.c ?_ (h := part08_ok (by assumption) (by assumption))) | (refine G.call 63 ?_; refine S.c ?_ (h := ints08_ok ?_ ?_)) | (refine G.call 64 ?_; refine S.c ?_ (h := ints07_ok ?_ ?_)) | refine S.n fun _ => ?_ | refine S.i fun hix => ?_ | (refine S.g fun hb => ?_; (try simp only [hb])) | (refine S.s (fun hb => ?_) (fun hb => ?_) <;> ((try simp only [hb]) <;> (try (have hp := hb; simp only [WKs] at hp; (try have hq := Int.not_le.2 hp); (try have hq := Int.not_lt.2 hp))))))
    | rintro _ _ ⟨_, rfl, rfl⟩
    | ((fail_if_success refine G.tr ?_); exact G.prop S.p)
    | fail) <;> (try simp only [WKb, ↓reduceIte, Nat.reduceEqDiff, Nat.reduceAdd, hw]))))
      all_goals
        clear eA0 eA1 eA2 eA3 eA4 lA0 lA1 lA2 lA3 lA4 hfin m1 m2 m3 m4 m5 m6 m7 m8 hln hil
        (apply Tr.againE ((k + 1, _)); (focus (simp only [WKb, ↓reduceIte, Nat.reduceEqDiff])); (focus ((try simp only [WKb, ↓reduceIte, Nat.reduceEqDiff]); (all_goals ((repeat (refine cons_eq (by first | rfl | ((try clear hK) <;> first | (simp [*, hst]; done) | (simp [*, hst]; omega) | (simp [*, hst] <;> (try split) <;> simp_all <;> omega))) ?_)); rfl)); done)); (focus (first | omega | assumption | (simp only []; omega) | (refine ⟨by omega, by assumption⟩) | (simp only []; refine ⟨by omega, by assumption⟩) | ((try simp only []); (repeat' (first | omega | assumption | refine And.intro ?_ ?_)); done))); (focus (first | omega | (simp only []; omega))); (focus (((try clear hK) <;> (try simp only [WKe, *]) <;> repeat (first | with_reducible exact EntR.done | refine S.e ?_ | (refine S.f ?_ <;> (try simp only [WKe, hst, ↓reduceIte, reduceCtorEq, Int.reduceEq, *])) | with_reducible apply EntR.ex | refine EntR.drop (F := F) ?_ | refine EntR.drop ?_)))))
    · have hke : k = c.chans.d.length := by omega
      subst hke
      ((try simp only [WKb, ↓reduceIte, Nat.reduceEqDiff]) <;> (repeat' ((first
    | (refine G.tr ?_; first | refine S.a ?_ | refine S.t ?_ | refine Tr.brK ?_ ?_ | (refine G.call 61 ?_; refine S.c ?_ (h := int07_ok (by assumption))) | (refine G.call 62 ?_; refine S.c ?_ (h := part08_ok (by assumption) (by assumption))) | (refine G.call 63 ?_; refine S.c ?_ (h := ints08_ok ?_ ?_)) | (refine G.call 64 ?_; refine S.c ?_ (h := ints07_ok ?_ ?_)) | refine S.n fun _ => ?_ | refine S.i fun hix => ?_ | (refine S.g fun hb => ?_; (try simp only [hb])) | (refine S.s (fun hb => ?_) (fun hb => ?_) <;> ((try simp only [hb]) <;> (try (have hp := hb; simp only [WKs] at hp; (try have hq := Int.not_le.2 hp); (try have hq := Int.not_lt.2 hp))))))
    | rintro _ _ ⟨_, rfl, rfl⟩
    | ((fail_if_success refine G.tr ?_); exact G.prop S.p)
    | fail) <;> (try simp only [WKb, ↓reduceIte, Nat.reduceEqDiff]))))
      rename_i sv2
      have hz : rowB A2 (fun m => modeB m.v) c.modes.d 0 = rowB A1 chanB c.chans.d c.chans.d.length ++ intB (c.modes.d.length : Int) := by rw [rowB_zero, eA2]
      refine Tr.loopE (α := Nat × SV) [4, 5, 11] [1, 2, 3] (fun x => [.bool true, x.2.v, .int .i64 x.1]) (fun x => [sl false x.2.v (rowB A2 (fun m => modeB m.v) c.modes.d x.1)]) (fun x => x.1 ≤ c.modes.d.length) (fun x => c.modes.d.length - x.1) (0, sv2) (by simp only [hz]; exact (by (repeat (first | exact TakeL.nil | (apply TakeL.cons; focus ((first | exact TakeA.dupS | exact TakeA.dupF | ((repeat (first | with_reducible exact TakeA.here | exact TakeA.fam (by omega) (by omega) | with_reducible apply TakeA.next)); done) | ((repeat (first | exact TakeA.here | apply TakeA.next)); done) | exact TakeA.famNil | exact TakeA.nilS))) | fail)); done)) rfl (Nat.zero_le _) fun x u hk => ?_
      obtain ⟨k, s⟩ := x
      simp only at hk ⊢
      have hln := rowB_len A2 (fun m => modeB m.v) (xs := c.modes.d) lM k
      by_cases hin : k < c.modes.d.length
      · have hw := wrapSucc (k := k) (by omega)
        have hx := o3' (ix c.modes.d (k : Int)) (ix_memU hin)
        have hxw : ∀ x ∈ (ix c.modes.d (k : Int)).wins.d, okWi x := hx.2
        have hsw := s9' (ix c.modes.d (k : Int)) (ix_memU hin)
        have hi2 : ∀ n ∈ [(ix c.modes.d (k : Int)).frame, ((ix c.modes.d (k : Int)).wins.d.length : Int)], I64 n := I64s hx.1 (I64s1 (nat_I64 (by omega)))
        have hil2 := intsB_len [(ix c.modes.d (k : Int)).frame, ((ix c.modes.d (k : Int)).wins.d.length : Int)]
        simp only [List.length_cons, List.length_nil] at hil2
        have hdw : decide (((ix c.modes.d (k : Int)).wins.d.length : Int) ≤ 64) = true := decide_eq_true (by omega)
        obtain ⟨B, eB⟩ : ∃ B, B = rowB A2 (fun m => modeB m.v) c.modes.d k ++ intsB [(ix c.modes.d (k : Int)).frame, ((ix c.modes.d (k : Int)).wins.d.length : Int)] := ⟨_, rfl⟩
        have lB : B.length ≤ A2.length + k * 3000 + 22 := by rw [eB, List.length_append]; omega
        have hnx : rowB B winB (ix c.modes.d (k : Int)).wins.d (ix c.modes.d (k : Int)).wins.d.length = rowB A2 (fun m => modeB m.v) c.modes.d (k + 1) := by rw [rowB_full, eB, rowB_next A2 (fun m => modeB m.v) hin, List.append_assoc]; unfold modeB; rfl
        clear hx
        ((try simp only [WKb, ↓reduceIte, Nat.reduceEqDiff]) <;> (repeat' ((first
    | (refine G.tr ?_; first | refine S.a ?_ | refine S.t ?_ | refine Tr.brK ?_ ?_ | (refine G.call 61 ?_; refine S.c ?_ (h := int07_ok (by assumption))) | (refine G.call 62 ?_; refine S.c ?_ (h := part08_ok (by assumption) (by assumption))) | (refine G.call 63 ?_; refine S.c ?_ (h := ints08_ok ?_ ?_)) | (refine G.call 64 ?_; refine S.c ?_ (h := ints07_ok ?_ ?_)) | refine S.n fun _ => ?_ | refine S.i fun hix => ?_ | (refine S.g fun hb => ?_; (try simp only [hb])) | (refine S.s (fun hb => ?_) (fun hb => ?_) <;> ((try simp only [hb]) <;> (try (have hp := hb; simp only [WKs] at hp; (try have hq := Int.not_le.2 hp); (try have hq := Int.not_lt.2 hp))))))
    | rintro _ _ ⟨_, rfl, rfl⟩
    | ((fail_if_success refine G.tr ?_); exact G.prop S.p)
    | fail) <;> (try simp only [WKb, ↓reduceIte, Nat.reduceEqDiff, hdw]))))
        rename_i svw
        have hzw : rowB B winB (ix c.modes.d (k : Int)).wins.d 0 = rowB A2 (fun m => modeB m.v) c.modes.d k ++ intsB [(ix c.modes.d (k : Int)).frame, ((ix c.modes.d (k : Int)).wins.d.length : Int)] := by rw [rowB_zero, eB]
        refine Tr.loopE (α := Nat × SV) [5, 13] [1, 2, 3, 4, 11, 12] (fun x => [x.2.v, .int .i64 x.1]) (fun x => [sl false x.2.v (rowB B winB (ix c.modes.d (k : Int)).wins.d x.1)]) (fun x => x.1 ≤ (ix c.modes.d (k : Int)).wins.d.length) (fun x => (ix c.modes.d (k : Int)).wins.d.length - x.1) (0, svw) (by simp only [hzw]; exact (by (repeat (first | exact TakeL.nil | (apply TakeL.cons; focus ((first | exact TakeA.dupS | exact TakeA.dupF | ((repeat (first | with_reducible exact TakeA.here | exact TakeA.fam (by omega) (by omega) | with_reducible apply TakeA.next)); done) | ((repeat (first | exact TakeA.here | apply TakeA.next)); done) | exact TakeA.famNil | exact TakeA.nilS))) | fail)); done)) rfl (Nat.zero_le _) fun x u hj => ?_
        obtain ⟨j, s2⟩ := x
        simp only at hj ⊢
        have hlnw := rowB_len B winB (xs := (ix c.modes.d (k : Int)).wins.d) (fun x _ => winB_len x) j
        by_cases hin2 : j < (ix c.modes.d (k : Int)).wins.d.length
        · have hwk := hw
          have hw := wrapSucc (k := j) (by omega)
          have hy := hxw (ix (ix c.modes.d (k : Int)).wins.d (j : Int)) (ix_memU hin2)
          have hi : ∀ n ∈ [(ix (ix c.modes.d (k : Int)).wins.d (j : Int)).part, (ix (ix c.modes.d (k : Int)).wins.d (j : Int)).start, (ix (ix c.modes.d (k : Int)).wins.d (j : Int)).len], I64 n := I64s hy.1 (I64s hy.2.1 (I64s1 hy.2.2))
          have hil := intsB_len [(ix (ix c.modes.d (k : Int)).wins.d (j : Int)).part, (ix (ix c.modes.d (k : Int)).wins.d (j : Int)).start, (ix (ix c.modes.d (k : Int)).wins.d (j : Int)).len]
          simp only [List.length_cons, List.length_nil] at hil
          have hst : rowB B winB (ix c.modes.d (k : Int)).wins.d j ++ intsB [(ix (ix c.modes.d (k : Int)).wins.d (j : Int)).part, (ix (ix c.modes.d (k : Int)).wins.d (j : Int)).start, (ix (ix c.modes.d (k : Int)).wins.d (j : Int)).len] = rowB B winB (ix c.modes.d (k : Int)).wins.d (j + 1) := by rw [rowB_next B winB hin2]; rfl
          clear hy
          ((try simp only [WKb, ↓reduceIte, Nat.reduceEqDiff]) <;> (repeat' ((first
    | (refine G.tr ?_; first | refine S.a ?_ | refine S.t ?_ | refine Tr.brK ?_ ?_ | (refine G.call 61 ?_; refine S.c ?_ (h := int07_ok (by assumption))) | (refine G.call 62 ?_; refine S.c ?_ (h := part08_ok (by assumption) (by assumption))) | (refine G.call 63 ?_; refine S.c ?_ (h := ints08_ok ?_ ?_)) | (refine G.call 64 ?_; refine S.c ?_ (h := ints07_ok ?_ ?_)) | refine S.n fun _ => ?_ | refine S.i fun hix => ?_ | (refine S.g fun hb => ?_; (try simp only [hb])) | (refine S.s (fun hb => ?_) (fun hb => ?_) <;> ((try simp only [hb]) <;> (try (have hp := hb; simp only [WKs] at hp; (try have hq := Int.not_le.2 hp); (try have hq := Int.not_lt.2 hp))))))
    | rintro _ _ ⟨_, rfl, rfl⟩
    | ((fail_if_success refine G.tr ?_); exact G.prop S.p)
    | fail) <;> (try simp only [WKb, ↓reduceIte, Nat.reduceEqDiff, pl33, hw]))))
          all_goals
            clear eA0 eA1 eA2 eA3 eA4 lA0 lA1 lA2 lA3 lA4 hfin m1 m2 m3 m4 m5 m6 m7 m8 hln hlnw hil hil2 eB lB hnx
            (apply Tr.againE ((j + 1, _)); (focus (simp only [WKb, ↓reduceIte, Nat.reduceEqDiff])); (focus ((try simp only [WKb, ↓reduceIte, Nat.reduceEqDiff]); (all_goals ((repeat (refine cons_eq (by first | rfl | ((try clear hK) <;> first | (simp [*, hst]; done) | (simp [*, hst]; omega) | (simp [*, hst] <;> (try split) <;> simp_all <;> omega))) ?_)); rfl)); done)); (focus (first | omega | assumption | (simp only []; omega) | (refine ⟨by omega, by assumption⟩) | (simp only []; refine ⟨by omega, by assumption⟩) | ((try simp only []); (repeat' (first | omega | assumption | refine And.intro ?_ ?_)); done))); (focus (first | omega | (simp only []; omega))); (focus (((try clear hK) <;> (try simp only [WKe, *]) <;> repeat (first | with_reducible exact EntR.done | refine S.e ?_ | (refine S.f ?_ <;> (try simp only [WKe, hst, ↓reduceIte, reduceCtorEq, Int.reduceEq, *])) | with_reducible apply EntR.ex | refine EntR.drop (F := F) ?_ | refine EntR.drop ?_)))))
        · have hje : j = (ix c.modes.d (k : Int)).wins.d.length := by omega
          subst hje
          ((try simp only [WKb, ↓reduceIte, Nat.reduceEqDiff]) <;> (repeat' ((first
    | (refine G.tr ?_; first | refine S.a ?_ | refine S.t ?_ | refine Tr.brK ?_ ?_ | (refine G.call 61 ?_; refine S.c ?_ (h := int07_ok (by assumption))) | (refine G.call 62 ?_; refine S.c ?_ (h := part08_ok (by assumption) (by assumption))) | (refine G.call 63 ?_; refine S.c ?_ (h := ints08_ok ?_ ?_)) | (refine G.call 64 ?_; refine S.c ?_ (h := ints07_ok ?_ ?_)) | refine S.n fun _ => ?_ | refine S.i fun hix => ?_ | (refine S.g fun hb => ?_; (try simp only [hb])) | (refine S.s (fun hb => ?_) (fun hb => ?_) <;> ((try simp only [hb]) <;> (try (have hp := hb; simp only [WKs] at hp; (try have hq := Int.not_le.2 hp); (try have hq := Int.not_lt.2 hp))))))
    | rintro _ _ ⟨_, rfl, rfl⟩
    | ((fail_if_success refine G.tr ?_); exact G.prop S.p)
    | fail) <;> (try simp only [WKb, ↓reduceIte, Nat.reduceEqDiff, hw]))))
          all_goals
            clear eA0 eA1 eA2 eA3 eA4 lA0 lA1 lA2 lA3 lA4 hfin m1 m2 m3 m4 m5 m6 m7 m8 hln hlnw hil2 eB lB
            (apply Tr.againE ((k + 1, _)); (focus (simp only [WKb, ↓reduceIte, Nat.reduceEqDiff])); (focus ((try simp only [WKb, ↓reduceIte, Nat.reduceEqDiff]); (all_goals ((repeat (refine cons_eq (by first | rfl | ((try clear hK) <;> first | (simp [*, hnx]; done) | (simp [*, hnx]; omega) | (simp [*, hnx] <;> (try split) <;> simp_all <;> omega))) ?_)); rfl)); done)); (focus (first | omega | assumption | (simp only []; omega) | (refine ⟨by omega, by assumption⟩) | (simp only []; refine ⟨by omega, by assumption⟩) | ((try simp only []); (repeat' (first | omega | assumption | refine And.intro ?_ ?_)); done))); (focus (first | omega | (simp only []; omega))); (focus (((try clear hK) <;> (try simp only [WKe, *]) <;> repeat (first | with_reducible exact EntR.done | refine S.e ?_ | (refine S.f ?_ <;> (try simp only [WKe, hnx, ↓reduceIte, reduceCtorEq, Int.reduceEq, *])) | with_reducible apply EntR.ex | refine EntR.drop (F := F) ?_ | refine EntR.drop ?_)))))
      · have hke : k = c.modes.d.length := by omega
        subst hke
        ((try simp only [WKb, ↓reduceIte, Nat.reduceEqDiff]) <;> (repeat' ((first
    | (refine G.tr ?_; first | refine S.a ?_ | refine S.t ?_ | refine Tr.brK ?_ ?_ | (refine G.call 61 ?_; refine S.c ?_ (h := int07_ok (by assumption))) | (refine G.call 62 ?_; refine S.c ?_ (h := part08_ok (by assumption) (by assumption))) | (refine G.call 63 ?_; refine S.c ?_ (h := ints08_ok ?_ ?_)) | (refine G.call 64 ?_; refine S.c ?_ (h := ints07_ok ?_ ?_)) | refine S.n fun _ => ?_ | refine S.i fun hix => ?_ | (refine S.g fun hb => ?_; (try simp only [hb])) | (refine S.s (fun hb => ?_) (fun hb => ?_) <;> ((try simp only [hb]) <;> (try (have hp := hb; simp only [WKs] at hp; (try have hq := Int.not_le.2 hp); (try have hq := Int.not_lt.2 hp))))))
    | rintro _ _ ⟨_, rfl, rfl⟩
    | ((fail_if_success refine G.tr ?_); exact G.prop S.p)
    | fail) <;> (try simp only [WKb, ↓reduceIte, Nat.reduceEqDiff]))))
        rename_i sv3
        have hz : rowB A3 levelB c.levels.d 0 = rowB A2 (fun m => modeB m.v) c.modes.d c.modes.d.length ++ intB (c.levels.d.length : Int) := by rw [rowB_zero, eA3]
        refine Tr.loopE (α := Nat × SV) [5, 15] [1, 2, 3, 4, 14] (fun x => [x.2.v, .int .i64 x.1]) (fun x => [sl false x.2.v (rowB A3 levelB c.levels.d x.1)]) (fun x => x.1 ≤ c.levels.d.length) (fun x => c.levels.d.length - x.1) (0, sv3) (by simp only [hz]; exact (by (repeat (first | exact TakeL.nil | (apply TakeL.cons; focus ((first | exact TakeA.dupS | exact TakeA.dupF | ((repeat (first | with_reducible exact TakeA.here | exact TakeA.fam (by omega) (by omega) | with_reducible apply TakeA.next)); done) | ((repeat (first | exact TakeA.here | apply TakeA.next)); done) | exact TakeA.famNil | exact TakeA.nilS))) | fail)); done)) rfl (Nat.zero_le _) fun x u hk => ?_
        obtain ⟨k, s⟩ := x
        simp only at hk ⊢
        have hln := rowB_len A3 levelB (xs := c.levels.d) (fun x _ => levelB_len x) k
        by_cases hin : k < c.levels.d.length
        · have hw := wrapSucc (k := k) (by omega)
          have hx := o4 (ix c.levels.d (k : Int)) (ix_memU hin)
          have hi : ∀ n ∈ [(ix c.levels.d (k : Int)).freq, (ix c.levels.d (k : Int)).power], I64 n := I64s (hx.1) (I64s1 (hx.2))
          have hil := intsB_len [(ix c.levels.d (k : Int)).freq, (ix c.levels.d (k : Int)).power]
          simp only [List.length_cons, List.length_nil] at hil
          have hst : rowB A3 levelB c.levels.d k ++ intsB [(ix c.levels.d (k : Int)).freq, (ix c.levels.d (k : Int)).power] = rowB A3 levelB c.levels.d (k + 1) := by rw [rowB_next A3 levelB hin]; rfl
          clear hx
          ((try simp only [WKb, ↓reduceIte, Nat.reduceEqDiff]) <;> (repeat' ((first
    | (refine G.tr ?_; first | refine S.a ?_ | refine S.t ?_ | refine Tr.brK ?_ ?_ | (refine G.call 61 ?_; refine S.c ?_ (h := int07_ok (by assumption))) | (refine G.call 62 ?_; refine S.c ?_ (h := part08_ok (by assumption) (by assumption))) | (refine G.call 63 ?_; refine S.c ?_ (h := ints08_ok ?_ ?_)) | (refine G.call 64 ?_; refine S.c ?_ (h := ints07_ok ?_ ?_)) | refine S.n fun _ => ?_ | refine S.i fun hix => ?_ | (refine S.g fun hb => ?_; (try simp only [hb])) | (refine S.s (fun hb => ?_) (fun hb => ?_) <;> ((try simp only [hb]) <;> (try (have hp := hb; simp only [WKs] at hp; (try have hq := Int.not_le.2 hp); (try have hq := Int.not_lt.2 hp))))))
    | rintro _ _ ⟨_, rfl, rfl⟩
    | ((fail_if_success refine G.tr ?_); exact G.prop S.p)
    | fail) <;> (try simp only [WKb, ↓reduceIte, Nat.reduceEqDiff, pl33, hw]))))
          all_goals
            clear eA0 eA1 eA2 eA3 eA4 lA0 lA1 lA2 lA3 lA4 hfin m1 m2 m3 m4 m5 m6 m7 m8 hln hil
            (apply Tr.againE ((k + 1, _)); (focus (simp only [WKb, ↓reduceIte, Nat.reduceEqDiff])); (focus ((try simp only [WKb, ↓reduceIte, Nat.reduceEqDiff]); (all_goals ((repeat (refine cons_eq (by first | rfl | ((try clear hK) <;> first | (simp [*, hst]; done) | (simp [*, hst]; omega) | (simp [*, hst] <;> (try split) <;> simp_all <;> omega))) ?_)); rfl)); done)); (focus (first | omega | assumption | (simp only []; omega) | (refine ⟨by omega, by assumption⟩) | (simp only []; refine ⟨by omega, by assumption⟩) | ((try simp only []); (repeat' (first | omega | assumption | refine And.intro ?_ ?_)); done))); (focus (first | omega | (simp only []; omega))); (focus (((try clear hK) <;> (try simp only [WKe, *]) <;> repeat (first | with_reducible exact EntR.done | refine S.e ?_ | (refine S.f ?_ <;> (try simp only [WKe, hst, ↓reduceIte, reduceCtorEq, Int.reduceEq, *])) | with_reducible apply EntR.ex | refine EntR.drop (F := F) ?_ | refine EntR.drop ?_)))))
        · have hke : k = c.levels.d.length := by omega
          subst hke
          ((try simp only [WKb, ↓reduceIte, Nat.reduceEqDiff]) <;> (repeat' ((first
    | (refine G.tr ?_; first | refine S.a ?_ | refine S.t ?_ | refine Tr.brK ?_ ?_ | (refine G.call 61 ?_; refine S.c ?_ (h := int07_ok (by assumption))) | (refine G.call 62 ?_; refine S.c ?_ (h := part08_ok (by assumption) (by assumption))) | (refine G.call 63 ?_; refine S.c ?_ (h := ints08_ok ?_ ?_)) | (refine G.call 64 ?_; refine S.c ?_ (h := ints07_ok ?_ ?_)) | refine S.n fun _ => ?_ | refine S.i fun hix => ?_ | (refine S.g fun hb => ?_; (try simp only [hb])) | (refine S.s (fun hb => ?_) (fun hb => ?_) <;> ((try simp only [hb]) <;> (try (have hp := hb; simp only [WKs] at hp; (try have hq := Int.not_le.2 hp); (try have hq := Int.not_lt.2 hp))))))
    | rintro _ _ ⟨_, rfl, rfl⟩
    | ((fail_if_success refine G.tr ?_); exact G.prop S.p)
    | fail) <;> (try simp only [WKb, ↓reduceIte, Nat.reduceEqDiff]))))
          rename_i sv4
          have hz : rowB A4 napB c.naps.d 0 = rowB A3 levelB c.levels.d c.levels.d.length ++ intB (c.naps.d.length : Int) := by rw [rowB_zero, eA4]
          refine Tr.loopE (α := Nat × SV) [5, 16] [1, 2, 3, 4, 14] (fun x => [x.2.v, .int .i64 x.1]) (fun x => [sl false x.2.v (rowB A4 napB c.naps.d x.1)]) (fun x => x.1 ≤ c.naps.d.length) (fun x => c.naps.d.length - x.1) (0, sv4) (by simp only [hz]; exact (by (repeat (first | exact TakeL.nil | (apply TakeL.cons; focus ((first | exact TakeA.dupS | exact TakeA.dupF | ((repeat (first | with_reducible exact TakeA.here | exact TakeA.fam (by omega) (by omega) | with_reducible apply TakeA.next)); done) | ((repeat (first | exact TakeA.here | apply TakeA.next)); done) | exact TakeA.famNil | exact TakeA.nilS))) | fail)); done)) rfl (Nat.zero_le _) fun x u hk => ?_
          obtain ⟨k, s⟩ := x
          simp only at hk ⊢
          have hln := rowB_len A4 napB (xs := c.naps.d) (fun x _ => napB_len x) k
          by_cases hin : k < c.naps.d.length
          · have hw := wrapSucc (k := k) (by omega)
            have hx := o5 (ix c.naps.d (k : Int)) (ix_memU hin)
            have hi : ∀ n ∈ [(ix c.naps.d (k : Int)).power, (ix c.naps.d (k : Int)).enter, (ix c.naps.d (k : Int)).wake], I64 n := I64s (hx.1) (I64s (hx.2.1) (I64s1 (hx.2.2)))
            have hil := intsB_len [(ix c.naps.d (k : Int)).power, (ix c.naps.d (k : Int)).enter, (ix c.naps.d (k : Int)).wake]
            simp only [List.length_cons, List.length_nil] at hil
            have hst : rowB A4 napB c.naps.d k ++ intsB [(ix c.naps.d (k : Int)).power, (ix c.naps.d (k : Int)).enter, (ix c.naps.d (k : Int)).wake] = rowB A4 napB c.naps.d (k + 1) := by rw [rowB_next A4 napB hin]; rfl
            clear hx
            ((try simp only [WKb, ↓reduceIte, Nat.reduceEqDiff]) <;> (repeat' ((first
    | (refine G.tr ?_; first | refine S.a ?_ | refine S.t ?_ | refine Tr.brK ?_ ?_ | (refine G.call 61 ?_; refine S.c ?_ (h := int07_ok (by assumption))) | (refine G.call 62 ?_; refine S.c ?_ (h := part08_ok (by assumption) (by assumption))) | (refine G.call 63 ?_; refine S.c ?_ (h := ints08_ok ?_ ?_)) | (refine G.call 64 ?_; refine S.c ?_ (h := ints07_ok ?_ ?_)) | refine S.n fun _ => ?_ | refine S.i fun hix => ?_ | (refine S.g fun hb => ?_; (try simp only [hb])) | (refine S.s (fun hb => ?_) (fun hb => ?_) <;> ((try simp only [hb]) <;> (try (have hp := hb; simp only [WKs] at hp; (try have hq := Int.not_le.2 hp); (try have hq := Int.not_lt.2 hp))))))
    | rintro _ _ ⟨_, rfl, rfl⟩
    | ((fail_if_success refine G.tr ?_); exact G.prop S.p)
    | fail) <;> (try simp only [WKb, ↓reduceIte, Nat.reduceEqDiff, pl33, hw]))))
            all_goals
              clear eA0 eA1 eA2 eA3 eA4 lA0 lA1 lA2 lA3 lA4 hfin m1 m2 m3 m4 m5 m6 m7 m8 hln hil
              (apply Tr.againE ((k + 1, _)); (focus (simp only [WKb, ↓reduceIte, Nat.reduceEqDiff])); (focus ((try simp only [WKb, ↓reduceIte, Nat.reduceEqDiff]); (all_goals ((repeat (refine cons_eq (by first | rfl | ((try clear hK) <;> first | (simp [*, hst]; done) | (simp [*, hst]; omega) | (simp [*, hst] <;> (try split) <;> simp_all <;> omega))) ?_)); rfl)); done)); (focus (first | omega | assumption | (simp only []; omega) | (refine ⟨by omega, by assumption⟩) | (simp only []; refine ⟨by omega, by assumption⟩) | ((try simp only []); (repeat' (first | omega | assumption | refine And.intro ?_ ?_)); done))); (focus (first | omega | (simp only []; omega))); (focus (((try clear hK) <;> (try simp only [WKe, *]) <;> repeat (first | with_reducible exact EntR.done | refine S.e ?_ | (refine S.f ?_ <;> (try simp only [WKe, hst, ↓reduceIte, reduceCtorEq, Int.reduceEq, *])) | with_reducible apply EntR.ex | refine EntR.drop (F := F) ?_ | refine EntR.drop ?_)))))
          · have hke : k = c.naps.d.length := by omega
            subst hke
            have hq1 : (rowB A4 napB c.naps.d c.naps.d.length ++ intsB [c.sw, c.idle, c.change, c.quantum, c.slow, c.ppm]).length ≤ 2000000 := by simp only [List.length_append]; omega
            have hq2 : (rowB A4 napB c.naps.d c.naps.d.length ++ intsB [c.sw, c.idle, c.change, c.quantum, c.slow, c.ppm] ++ listB c.down.d).length ≤ 2001000 := by simp only [List.length_append] at hq1 ⊢; omega
            ((try simp only [WKb, ↓reduceIte, Nat.reduceEqDiff]) <;> (repeat' ((first
    | (refine G.tr ?_; first | refine S.a ?_ | refine S.t ?_ | refine Tr.brK ?_ ?_ | (refine G.call 61 ?_; refine S.c ?_ (h := int07_ok (by assumption))) | (refine G.call 62 ?_; refine S.c ?_ (h := part08_ok (by assumption) (by assumption))) | (refine G.call 63 ?_; refine S.c ?_ (h := ints08_ok ?_ ?_)) | (refine G.call 64 ?_; refine S.c ?_ (h := ints07_ok ?_ ?_)) | refine S.n fun _ => ?_ | refine S.i fun hix => ?_ | (refine S.g fun hb => ?_; (try simp only [hb])) | (refine S.s (fun hb => ?_) (fun hb => ?_) <;> ((try simp only [hb]) <;> (try (have hp := hb; simp only [WKs] at hp; (try have hq := Int.not_le.2 hp); (try have hq := Int.not_lt.2 hp))))))
    | rintro _ _ ⟨_, rfl, rfl⟩
    | ((fail_if_success refine G.tr ?_); exact G.prop S.p)
    | fail) <;> (try simp only [WKb, ↓reduceIte, Nat.reduceEqDiff, Nat.reduceAdd, hfin]))))
            all_goals
              refine Tr.fin hK ⟨_, rfl, rfl⟩ ?_
              (try rw [← hfin])
              ((try clear hK) <;> (try simp only [WKe, *]) <;> repeat (first | with_reducible exact EntR.done | refine S.e ?_ | (refine S.f ?_ <;> (try simp only [WKe, ↓reduceIte, reduceCtorEq, Int.reduceEq, *])) | with_reducible apply EntR.ex | refine EntR.drop (F := F) ?_ | refine EntR.drop ?_))

end Go.Proofs.YtgkhjgpgdfbdpaaGreatDoor
