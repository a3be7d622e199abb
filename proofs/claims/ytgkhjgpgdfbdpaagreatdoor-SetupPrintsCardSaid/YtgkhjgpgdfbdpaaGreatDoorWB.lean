import Derived.Test.YtgkhjgpgdfbdpaaGreatDoorWA
namespace Go.Proofs.YtgkhjgpgdfbdpaaGreatDoor
open Go Go.Wk
set_option maxHeartbeats 6400000
set_option maxRecDepth 100000

/-! ### the document's text -/
attribute [local irreducible] BrK GenK EGenK EUnitK CallK FnK CallV GuardO GuardC CondW opX opK opKc chkR eqR seqK blkK endL WL WD W LoopW BinK Tr drewK resL PickK NotK NilK ExtrK getK Instr.storeAt Instr.loadAt Instr.fieldAt Instr.indexAt Instr.lookup Instr.mapUpdate Instr.box Instr.alloc Instr.build Instr.buildSlice Instr.makeSlice Instr.makeMap Instr.sliceAt Instr.field Instr.index Instr.makeInterface Instr.typeAssert Builtin.len_ Builtin.append_ Builtin.cap_ Builtin.min_ Builtin.max_ Builtin.copy_ Builtin.clear_ convert binOp mp blk rob sl sep ex fact old
attribute [local irreducible] NegK mxV rowT flatT
theorem dtext_ok {u0 : Value} {c : ConfD} [hd : DeA u0 c] (ho : okU c.v) (hs : shortU c.v) : Trip Tryz.prog 21 [u0].toArray [fzl [c]] fun u l' => u = .string (bstr (textT (toksU c.v))) ∧ l' = [] := by
  obtain rfl := hd.h
  intro F K hK
  simp only [List.cons_append, List.nil_append]
  have hlen := short_len ho hs
  obtain ⟨o1, o2, o3, o4, o5, o6, o7, o8, o9, o10, o11, o12, o13⟩ := ho
  have o1' : ∀ p ∈ c.parts.d, okPv p.v := fun p hp => o1 p.v (List.mem_map_of_mem hp)
  have o3' : ∀ m ∈ c.modes.d, okMo m.v := fun m hm => o3 m.v (List.mem_map_of_mem hm)
  obtain ⟨AP, eAP⟩ : ∃ A, A = ([] : List Tok) := ⟨_, rfl⟩
  obtain ⟨A0, eA0⟩ : ∃ A, A = AP ++ c.parts.d.flatMap (fun p => partT p.v) := ⟨_, rfl⟩
  obtain ⟨A1, eA1⟩ : ∃ A, A = A0 ++ c.chans.d.map chanT := ⟨_, rfl⟩
  obtain ⟨A2, eA2⟩ : ∃ A, A = A1 ++ c.modes.d.flatMap (fun m => modeT m.v) := ⟨_, rfl⟩
  obtain ⟨A3, eA3⟩ : ∃ A, A = A2 ++ c.levels.d.map levelT := ⟨_, rfl⟩
  obtain ⟨A4, eA4⟩ : ∃ A, A = A3 ++ c.naps.d.map napT := ⟨_, rfl⟩
  obtain ⟨L, eL⟩ : ∃ L, L = toksU c.v := ⟨_, rfl⟩
  rw [← eL] at hlen
  have hr : L = c.parts.d.flatMap (fun p => partT p.v) ++ (c.chans.d.map chanT ++ (c.modes.d.flatMap (fun m => modeT m.v) ++ (c.levels.d.map levelT ++ (c.naps.d.map napT ++ restT c.v)))) := by
    rw [eL, toks_eq]
    simp only [ConfD.v, flat_map]
  have htP : L = AP ++ (c.parts.d.flatMap (fun p => partT p.v) ++ (c.chans.d.map chanT ++ (c.modes.d.flatMap (fun m => modeT m.v) ++ (c.levels.d.map levelT ++ (c.naps.d.map napT ++ restT c.v))))) := by rw [hr, eAP]; rfl
  have ht0 : L = A0 ++ (c.chans.d.map chanT ++ (c.modes.d.flatMap (fun m => modeT m.v) ++ (c.levels.d.map levelT ++ (c.naps.d.map napT ++ restT c.v)))) := by rw [htP, eA0, List.append_assoc]
  have ht1 : L = A1 ++ (c.modes.d.flatMap (fun m => modeT m.v) ++ (c.levels.d.map levelT ++ (c.naps.d.map napT ++ restT c.v))) := by rw [ht0, eA1, List.append_assoc]
  have ht2 : L = A2 ++ (c.levels.d.map levelT ++ (c.naps.d.map napT ++ restT c.v)) := by rw [ht1, eA2, List.append_assoc]
  have ht3 : L = A3 ++ (c.naps.d.map napT ++ restT c.v) := by rw [ht2, eA3, List.append_assoc]
  have ht4 : L = A4 ++ restT c.v := by rw [ht3, eA4, List.append_assoc]
  have htz : textT L = textT A4 ++ (lineU [112, 111, 119, 101, 114] [c.sw, c.idle, c.change, c.quantum, c.slow, c.ppm] ++ [10]) ++ (lineU [100, 111, 119, 110] c.down.d ++ [10]) ++ (lineU [117, 112] c.up.d ++ [10]) := by
    rw [ht4, textT_app]
    have : textT (restT c.v) = (lineU [112, 111, 119, 101, 114] [c.sw, c.idle, c.change, c.quantum, c.slow, c.ppm] ++ [10]) ++ ((lineU [100, 111, 119, 110] c.down.d ++ [10]) ++ (lineU [117, 112] c.up.d ++ [10])) := by
      unfold restT powerT
      simp only [textT, List.flatMap_cons, List.flatMap_nil, List.append_nil]
      rfl
    rw [this]
    simp only [List.append_assoc]
  have hlz : (textT L).length = (textT A4).length + ((lineU [112, 111, 119, 101, 114] [c.sw, c.idle, c.change, c.quantum, c.slow, c.ppm]).length + 1 + ((lineU [100, 111, 119, 110] c.down.d).length + 1 + ((lineU [117, 112] c.up.d).length + 1))) := by rw [htz]; simp; omega
  have hi13 : ∀ n ∈ [c.sw, c.idle, c.change, c.quantum, c.slow, c.ppm], I64 n := I64s o6 (I64s o7 (I64s o8 (I64s o9 (I64s o10 (I64s1 o11)))))
  have hi14 : ∀ n ∈ c.down.d, I64 n := o12
  have hi15 : ∀ n ∈ c.up.d, I64 n := o13
  refine Tr.bound (ro := true) (v := c.parts.s.v) (xs := c.parts.d) HasS.h fun hbdp => ?_
  refine Tr.bound (ro := true) (v := c.chans.s.v) (xs := c.chans.d) HasS.h fun hbd0 => ?_
  refine Tr.bound (ro := true) (v := c.modes.s.v) (xs := c.modes.d) HasS.h fun hbd1 => ?_
  refine Tr.bound (ro := true) (v := c.levels.s.v) (xs := c.levels.d) HasS.h fun hbd2 => ?_
  refine Tr.bound (ro := true) (v := c.naps.s.v) (xs := c.naps.d) HasS.h fun hbd3 => ?_
  have hAP : textT AP = [] := by rw [eAP]; rfl
  rw [← eL] at hK
  clear eL
  (refine Tr.enter (rs := [.tmp 2]) mixed fn21 rfl (by simp +arith [Tryz.ntmps21]) fun u => ?_; simp only [cd21, Tryz.f21])
  ((try simp only [WKb, ↓reduceIte, WKt]) <;> (repeat' ((first
    | (refine G.tr ?_; first | refine S.a ?_ | refine S.t ?_ | refine Tr.brK ?_ ?_ | (refine G.call 36 ?_; refine S.c ?_ (h := dpart_ok (by assumption) ?_)) | (refine G.call 37 ?_; refine S.c ?_ (h := dline_ok ?_ ?_)) | refine S.n fun _ => ?_ | refine S.i fun hix => ?_ | (refine S.g fun hb => ?_; (try simp only [hb])) | (refine S.s (fun hb => ?_) (fun hb => ?_) <;> ((try simp only [hb]) <;> (try (have hp := hb; simp only [WKs] at hp; (try have hq := Int.not_le.2 hp); (try have hq := Int.not_lt.2 hp))))))
    | rintro _ _ ⟨rfl, rfl⟩
    | ((fail_if_success refine G.tr ?_); exact G.prop S.p)
    | fail) <;> (try simp only [WKb]))))
  have hz : flatT AP (fun p => partT p.v) c.parts.d 0 = [] := by rw [flat_zero, hAP]
  refine Tr.loopE (α := Nat) [3, 4] [1, 2] (fun k => [.string (bstr (flatT AP (fun p => partT p.v) c.parts.d k)), .int .i64 k]) (fun _ => []) (fun k => k ≤ c.parts.d.length) (fun k => c.parts.d.length - k) 0 (by (repeat (first | exact TakeL.nil | (apply TakeL.cons; focus ((first | exact TakeA.dupS | exact TakeA.dupF | ((repeat (first | with_reducible exact TakeA.here | exact TakeA.fam (by omega) (by omega) | with_reducible apply TakeA.next)); done) | ((repeat (first | exact TakeA.here | apply TakeA.next)); done) | exact TakeA.famNil | exact TakeA.nilS))) | fail)); done) (by rw [hz]; rfl) (Nat.zero_le _) fun k u hk => ?_
  by_cases hin : k < c.parts.d.length
  · have hw := wrapSucc (k := k) (by omega)
    have hx := o1' (ix c.parts.d (k : Int)) (ix_memU hin)
    have hst : flatT AP (fun p => partT p.v) c.parts.d k ++ textT (partT (ix c.parts.d (k : Int)).v) = flatT AP (fun p => partT p.v) c.parts.d (k + 1) := (flat_next AP (fun p : PartD => partT p.v) hin).symm
    have hle := flat_len AP (c.chans.d.map chanT ++ (c.modes.d.flatMap (fun m => modeT m.v) ++ (c.levels.d.map levelT ++ (c.naps.d.map napT ++ restT c.v)))) (fun p : PartD => partT p.v) (xs := c.parts.d) (k + 1) htP
    have hlk : (flatT AP (fun p => partT p.v) c.parts.d k).length + (textT (partT (ix c.parts.d (k : Int)).v)).length = (flatT AP (fun p => partT p.v) c.parts.d (k + 1)).length := by rw [← hst, List.length_append]
    ((try simp only [WKb, ↓reduceIte, Nat.reduceEqDiff]) <;> (repeat' ((first
    | (refine G.tr ?_; first | refine S.a ?_ | refine S.t ?_ | refine Tr.brK ?_ ?_ | (refine G.call 36 ?_; refine S.c ?_ (h := dpart_ok (by assumption) ?_)) | (refine G.call 37 ?_; refine S.c ?_ (h := dline_ok ?_ ?_)) | refine S.n fun _ => ?_ | refine S.i fun hix => ?_ | (refine S.g fun hb => ?_; (try simp only [hb])) | (refine S.s (fun hb => ?_) (fun hb => ?_) <;> ((try simp only [hb]) <;> (try (have hp := hb; simp only [WKs] at hp; (try have hq := Int.not_le.2 hp); (try have hq := Int.not_lt.2 hp))))))
    | rintro _ _ ⟨rfl, rfl⟩
    | ((fail_if_success refine G.tr ?_); exact G.prop S.p)
    | fail) <;> (try simp only [WKb, ↓reduceIte, Nat.reduceEqDiff, hw, hst]))))
    all_goals
      clear eAP eA0 eA1 eA2 eA3 eA4 htP ht0 ht1 ht2 ht3 ht4 htz hlz hAP hr hx
      (apply Tr.againE (k + 1); (focus (simp only [WKb, ↓reduceIte, Nat.reduceEqDiff])); (focus ((try simp only [WKb, ↓reduceIte, Nat.reduceEqDiff]); (all_goals ((repeat (refine cons_eq (by first | rfl | ((try clear hK) <;> first | (simp [*, hst]; done) | (simp [*, hst]; omega) | (simp [*, hst] <;> (try split) <;> simp_all <;> omega))) ?_)); rfl)); done)); (focus (first | omega | assumption | (simp only []; omega) | (refine ⟨by omega, by assumption⟩) | (simp only []; refine ⟨by omega, by assumption⟩) | ((try simp only []); (repeat' (first | omega | assumption | refine And.intro ?_ ?_)); done))); (focus (first | omega | (simp only []; omega))); (focus (((try clear hK) <;> (try simp only [WKe, *]) <;> repeat (first | with_reducible exact EntR.done | refine S.e ?_ | (refine S.f ?_ <;> (try simp only [WKe, hst, ↓reduceIte, reduceCtorEq, Int.reduceEq, *])) | with_reducible apply EntR.ex | refine EntR.drop (F := F) ?_ | refine EntR.drop ?_)))))
  · have hke : k = c.parts.d.length := by omega
    subst hke
    ((try simp only [WKb, ↓reduceIte, Nat.reduceEqDiff]) <;> (repeat' ((first
    | (refine G.tr ?_; first | refine S.a ?_ | refine S.t ?_ | refine Tr.brK ?_ ?_ | (refine G.call 36 ?_; refine S.c ?_ (h := dpart_ok (by assumption) ?_)) | (refine G.call 37 ?_; refine S.c ?_ (h := dline_ok ?_ ?_)) | refine S.n fun _ => ?_ | refine S.i fun hix => ?_ | (refine S.g fun hb => ?_; (try simp only [hb])) | (refine S.s (fun hb => ?_) (fun hb => ?_) <;> ((try simp only [hb]) <;> (try (have hp := hb; simp only [WKs] at hp; (try have hq := Int.not_le.2 hp); (try have hq := Int.not_lt.2 hp))))))
    | rintro _ _ ⟨rfl, rfl⟩
    | ((fail_if_success refine G.tr ?_); exact G.prop S.p)
    | fail) <;> (try simp only [WKb, ↓reduceIte, Nat.reduceEqDiff]))))
    have hz : rowT A0 chanT c.chans.d 0 = flatT AP (fun p => partT p.v) c.parts.d c.parts.d.length := by rw [row_zero, flat_full _ eA0]
    refine Tr.loopE (α := Nat) [3, 5] [1, 2] (fun k => [.string (bstr (rowT A0 chanT c.chans.d k)), .int .i64 k]) (fun _ => []) (fun k => k ≤ c.chans.d.length) (fun k => c.chans.d.length - k) 0 (by (repeat (first | exact TakeL.nil | (apply TakeL.cons; focus ((first | exact TakeA.dupS | exact TakeA.dupF | ((repeat (first | with_reducible exact TakeA.here | exact TakeA.fam (by omega) (by omega) | with_reducible apply TakeA.next)); done) | ((repeat (first | exact TakeA.here | apply TakeA.next)); done) | exact TakeA.famNil | exact TakeA.nilS))) | fail)); done) (by rw [hz]; rfl) (Nat.zero_le _) fun k u hk => ?_
    by_cases hin : k < c.chans.d.length
    · have hw := wrapSucc (k := k) (by omega)
      have hx := o2 (ix c.chans.d (k : Int)) (ix_memU hin)
      have hi : ∀ n ∈ [(ix c.chans.d (k : Int)).fp, (ix c.chans.d (k : Int)).fo, (ix c.chans.d (k : Int)).tp, (ix c.chans.d (k : Int)).to], I64 n := I64s hx.1 (I64s hx.2.1 (I64s hx.2.2.1 (I64s1 hx.2.2.2)))
      obtain ⟨hst, hlk⟩ := row_stepS (w := [99, 104, 97, 110, 110, 101, 108]) (l := [(ix c.chans.d (k : Int)).fp, (ix c.chans.d (k : Int)).fo, (ix c.chans.d (k : Int)).tp, (ix c.chans.d (k : Int)).to]) A0 chanT hin rfl
      have hle := row_len A0 (c.modes.d.flatMap (fun m => modeT m.v) ++ (c.levels.d.map levelT ++ (c.naps.d.map napT ++ restT c.v))) chanT (xs := c.chans.d) (k + 1) ht0
      have hlq : (lineU [99, 104, 97, 110, 110, 101, 108] [(ix c.chans.d (k : Int)).fp, (ix c.chans.d (k : Int)).fo, (ix c.chans.d (k : Int)).tp, (ix c.chans.d (k : Int)).to] ++ [10]).length = (lineU [99, 104, 97, 110, 110, 101, 108] [(ix c.chans.d (k : Int)).fp, (ix c.chans.d (k : Int)).fo, (ix c.chans.d (k : Int)).tp, (ix c.chans.d (k : Int)).to]).length + 1 := by simp
      clear hx
      ((try simp only [WKb, ↓reduceIte, Nat.reduceEqDiff]) <;> (repeat' ((first
    | (refine G.tr ?_; first | refine S.a ?_ | refine S.t ?_ | refine Tr.brK ?_ ?_ | (refine G.call 36 ?_; refine S.c ?_ (h := dpart_ok (by assumption) ?_)) | (refine G.call 37 ?_; refine S.c ?_ (h := dline_ok ?_ ?_)) | refine S.n fun _ => ?_ | refine S.i fun hix => ?_ | (refine S.g fun hb => ?_; (try simp only [hb])) | (refine S.s (fun hb => ?_) (fun hb => ?_) <;> ((try simp only [hb]) <;> (try (have hp := hb; simp only [WKs] at hp; (try have hq := Int.not_le.2 hp); (try have hq := Int.not_lt.2 hp))))))
    | rintro _ _ ⟨rfl, rfl⟩
    | ((fail_if_success refine G.tr ?_); exact G.prop S.p)
    | fail) <;> (try simp only [WKb, ↓reduceIte, Nat.reduceEqDiff, Nat.reduceAdd, hw, hst]))))
      all_goals
        clear eAP eA0 eA1 eA2 eA3 eA4 htP ht0 ht1 ht2 ht3 ht4 htz hlz hAP hr
        (apply Tr.againE (k + 1); (focus (simp only [WKb, ↓reduceIte, Nat.reduceEqDiff])); (focus ((try simp only [WKb, ↓reduceIte, Nat.reduceEqDiff]); (all_goals ((repeat (refine cons_eq (by first | rfl | ((try clear hK) <;> first | (simp [*, hst]; done) | (simp [*, hst]; omega) | (simp [*, hst] <;> (try split) <;> simp_all <;> omega))) ?_)); rfl)); done)); (focus (first | omega | assumption | (simp only []; omega) | (refine ⟨by omega, by assumption⟩) | (simp only []; refine ⟨by omega, by assumption⟩) | ((try simp only []); (repeat' (first | omega | assumption | refine And.intro ?_ ?_)); done))); (focus (first | omega | (simp only []; omega))); (focus (((try clear hK) <;> (try simp only [WKe, *]) <;> repeat (first | with_reducible exact EntR.done | refine S.e ?_ | (refine S.f ?_ <;> (try simp only [WKe, hst, ↓reduceIte, reduceCtorEq, Int.reduceEq, *])) | with_reducible apply EntR.ex | refine EntR.drop (F := F) ?_ | refine EntR.drop ?_)))))
    · have hke : k = c.chans.d.length := by omega
      subst hke
      ((try simp only [WKb, ↓reduceIte, Nat.reduceEqDiff]) <;> (repeat' ((first
    | (refine G.tr ?_; first | refine S.a ?_ | refine S.t ?_ | refine Tr.brK ?_ ?_ | (refine G.call 36 ?_; refine S.c ?_ (h := dpart_ok (by assumption) ?_)) | (refine G.call 37 ?_; refine S.c ?_ (h := dline_ok ?_ ?_)) | refine S.n fun _ => ?_ | refine S.i fun hix => ?_ | (refine S.g fun hb => ?_; (try simp only [hb])) | (refine S.s (fun hb => ?_) (fun hb => ?_) <;> ((try simp only [hb]) <;> (try (have hp := hb; simp only [WKs] at hp; (try have hq := Int.not_le.2 hp); (try have hq := Int.not_lt.2 hp))))))
    | rintro _ _ ⟨rfl, rfl⟩
    | ((fail_if_success refine G.tr ?_); exact G.prop S.p)
    | fail) <;> (try simp only [WKb, ↓reduceIte, Nat.reduceEqDiff]))))
      have hz : flatT A1 (fun m => modeT m.v) c.modes.d 0 = rowT A0 chanT c.chans.d c.chans.d.length := by rw [flat_zero, row_full _ eA1]
      refine Tr.loopE (α := Nat) [3, 7] [1, 2] (fun k => [.string (bstr (flatT A1 (fun m => modeT m.v) c.modes.d k)), .int .i64 k]) (fun _ => []) (fun k => k ≤ c.modes.d.length) (fun k => c.modes.d.length - k) 0 (by (repeat (first | exact TakeL.nil | (apply TakeL.cons; focus ((first | exact TakeA.dupS | exact TakeA.dupF | ((repeat (first | with_reducible exact TakeA.here | exact TakeA.fam (by omega) (by omega) | with_reducible apply TakeA.next)); done) | ((repeat (first | exact TakeA.here | apply TakeA.next)); done) | exact TakeA.famNil | exact TakeA.nilS))) | fail)); done) (by rw [hz]; rfl) (Nat.zero_le _) fun k u hk => ?_
      by_cases hin : k < c.modes.d.length
      · have hw := wrapSucc (k := k) (by omega)
        have hx := o3' (ix c.modes.d (k : Int)) (ix_memU hin)
        have hi9 : ∀ n ∈ [(ix c.modes.d (k : Int)).frame], I64 n := I64s1 hx.1
        have hxw : ∀ x ∈ (ix c.modes.d (k : Int)).wins.d, okWi x := hx.2
        obtain ⟨AK, eAK⟩ : ∃ A, A = A1 ++ (c.modes.d.take k).flatMap (fun m => modeT m.v) ++ [(9, [(ix c.modes.d (k : Int)).frame])] := ⟨_, rfl⟩
        have hAK : textT AK = flatT A1 (fun m => modeT m.v) c.modes.d k ++ (lineU [109, 111, 100, 101] [(ix c.modes.d (k : Int)).frame] ++ [10]) := by rw [eAK, text_one]; unfold flatT; rfl
        have hnx : flatT A1 (fun m => modeT m.v) c.modes.d (k + 1) = rowT AK winT (ix c.modes.d (k : Int)).wins.d (ix c.modes.d (k : Int)).wins.d.length := by
          rw [flat_next A1 (fun m => modeT m.v) hin, row_full (C := AK ++ (ix c.modes.d (k : Int)).wins.d.map winT) _ rfl, textT_app, hAK, List.append_assoc]
          have : textT (modeT (ix c.modes.d (k : Int)).v) = (lineU [109, 111, 100, 101] [(ix c.modes.d (k : Int)).frame] ++ [10]) ++ textT ((ix c.modes.d (k : Int)).wins.d.map winT) := by
            unfold modeT
            rw [textT_cons]
            simp [lineT, ModeD.v, wordU]
          rw [this]
        have hle := flat_len A1 (c.levels.d.map levelT ++ (c.naps.d.map napT ++ restT c.v)) (fun m => modeT m.v) (xs := c.modes.d) (k + 1) ht1
        have hl9 : (flatT A1 (fun m => modeT m.v) c.modes.d k).length + ((lineU [109, 111, 100, 101] [(ix c.modes.d (k : Int)).frame]).length + 1) = (textT AK).length := by rw [hAK]; simp only [List.length_append, List.length_singleton]
        have hlq : (lineU [109, 111, 100, 101] [(ix c.modes.d (k : Int)).frame] ++ [10]).length = (lineU [109, 111, 100, 101] [(ix c.modes.d (k : Int)).frame]).length + 1 := by simp
        have hlA : (textT AK).length ≤ (flatT A1 (fun m => modeT m.v) c.modes.d (k + 1)).length := by rw [hnx, row_full (C := AK ++ (ix c.modes.d (k : Int)).wins.d.map winT) _ rfl, textT_app, List.length_append]; omega
        simp only [List.nil_append]
        refine Tr.bound (ro := true) (v := (ix c.modes.d (k : Int)).wins.s.v) (xs := (ix c.modes.d (k : Int)).wins.d) HasS.h fun hbdw => ?_
        clear hx
        ((try simp only [WKb, ↓reduceIte, Nat.reduceEqDiff]) <;> (repeat' ((first
    | (refine G.tr ?_; first | refine S.a ?_ | refine S.t ?_ | refine Tr.brK ?_ ?_ | (refine G.call 36 ?_; refine S.c ?_ (h := dpart_ok (by assumption) ?_)) | (refine G.call 37 ?_; refine S.c ?_ (h := dline_ok ?_ ?_)) | refine S.n fun _ => ?_ | refine S.i fun hix => ?_ | (refine S.g fun hb => ?_; (try simp only [hb])) | (refine S.s (fun hb => ?_) (fun hb => ?_) <;> ((try simp only [hb]) <;> (try (have hp := hb; simp only [WKs] at hp; (try have hq := Int.not_le.2 hp); (try have hq := Int.not_lt.2 hp))))))
    | rintro _ _ ⟨rfl, rfl⟩
    | ((fail_if_success refine G.tr ?_); exact G.prop S.p)
    | fail) <;> (try simp only [WKb, ↓reduceIte, Nat.reduceEqDiff]))))
        have hzw : rowT AK winT (ix c.modes.d (k : Int)).wins.d 0 = flatT A1 (fun m => modeT m.v) c.modes.d k ++ (lineU [109, 111, 100, 101] [(ix c.modes.d (k : Int)).frame] ++ [10]) := by rw [row_zero, hAK]
        refine Tr.loopE (α := Nat) [3, 8] [1, 2, 7] (fun j => [.string (bstr (rowT AK winT (ix c.modes.d (k : Int)).wins.d j)), .int .i64 j]) (fun _ => []) (fun j => j ≤ (ix c.modes.d (k : Int)).wins.d.length) (fun j => (ix c.modes.d (k : Int)).wins.d.length - j) 0 (by (repeat (first | exact TakeL.nil | (apply TakeL.cons; focus ((first | exact TakeA.dupS | exact TakeA.dupF | ((repeat (first | with_reducible exact TakeA.here | exact TakeA.fam (by omega) (by omega) | with_reducible apply TakeA.next)); done) | ((repeat (first | exact TakeA.here | apply TakeA.next)); done) | exact TakeA.famNil | exact TakeA.nilS))) | fail)); done) (by rw [hzw]; rfl) (Nat.zero_le _) fun j u hj => ?_
        by_cases hin2 : j < (ix c.modes.d (k : Int)).wins.d.length
        · have hwk := hw
          have hw := wrapSucc (k := j) (by omega)
          have hy := hxw (ix (ix c.modes.d (k : Int)).wins.d (j : Int)) (ix_memU hin2)
          have hi : ∀ n ∈ [(ix (ix c.modes.d (k : Int)).wins.d (j : Int)).part, (ix (ix c.modes.d (k : Int)).wins.d (j : Int)).start, (ix (ix c.modes.d (k : Int)).wins.d (j : Int)).len], I64 n := I64s hy.1 (I64s hy.2.1 (I64s1 hy.2.2))
          obtain ⟨hst, hlk⟩ := row_stepS (w := [119, 105, 110, 100, 111, 119]) (l := [(ix (ix c.modes.d (k : Int)).wins.d (j : Int)).part, (ix (ix c.modes.d (k : Int)).wins.d (j : Int)).start, (ix (ix c.modes.d (k : Int)).wins.d (j : Int)).len]) AK winT hin2 rfl
          have hle2 := row_len AK [] winT (xs := (ix c.modes.d (k : Int)).wins.d) (L := AK ++ (ix c.modes.d (k : Int)).wins.d.map winT) (j + 1) (by simp)
          rw [← row_full (C := AK ++ (ix c.modes.d (k : Int)).wins.d.map winT) (A := AK) winT rfl, ← hnx] at hle2
          have hlq2 : (lineU [119, 105, 110, 100, 111, 119] [(ix (ix c.modes.d (k : Int)).wins.d (j : Int)).part, (ix (ix c.modes.d (k : Int)).wins.d (j : Int)).start, (ix (ix c.modes.d (k : Int)).wins.d (j : Int)).len] ++ [10]).length = (lineU [119, 105, 110, 100, 111, 119] [(ix (ix c.modes.d (k : Int)).wins.d (j : Int)).part, (ix (ix c.modes.d (k : Int)).wins.d (j : Int)).start, (ix (ix c.modes.d (k : Int)).wins.d (j : Int)).len]).length + 1 := by simp
          clear hy
          ((try simp only [WKb, ↓reduceIte, Nat.reduceEqDiff]) <;> (repeat' ((first
    | (refine G.tr ?_; first | refine S.a ?_ | refine S.t ?_ | refine Tr.brK ?_ ?_ | (refine G.call 36 ?_; refine S.c ?_ (h := dpart_ok (by assumption) ?_)) | (refine G.call 37 ?_; refine S.c ?_ (h := dline_ok ?_ ?_)) | refine S.n fun _ => ?_ | refine S.i fun hix => ?_ | (refine S.g fun hb => ?_; (try simp only [hb])) | (refine S.s (fun hb => ?_) (fun hb => ?_) <;> ((try simp only [hb]) <;> (try (have hp := hb; simp only [WKs] at hp; (try have hq := Int.not_le.2 hp); (try have hq := Int.not_lt.2 hp))))))
    | rintro _ _ ⟨rfl, rfl⟩
    | ((fail_if_success refine G.tr ?_); exact G.prop S.p)
    | fail) <;> (try simp only [WKb, ↓reduceIte, Nat.reduceEqDiff, hw, hst]))))
          all_goals
            clear eAP eA0 eA1 eA2 eA3 eA4 htP ht0 ht1 ht2 ht3 ht4 htz hlz hAP hr eAK hAK hnx
            (apply Tr.againE (j + 1); (focus (simp only [WKb, ↓reduceIte, Nat.reduceEqDiff])); (focus ((try simp only [WKb, ↓reduceIte, Nat.reduceEqDiff]); (all_goals ((repeat (refine cons_eq (by first | rfl | ((try clear hK) <;> first | (simp [*, hst]; done) | (simp [*, hst]; omega) | (simp [*, hst] <;> (try split) <;> simp_all <;> omega))) ?_)); rfl)); done)); (focus (first | omega | assumption | (simp only []; omega) | (refine ⟨by omega, by assumption⟩) | (simp only []; refine ⟨by omega, by assumption⟩) | ((try simp only []); (repeat' (first | omega | assumption | refine And.intro ?_ ?_)); done))); (focus (first | omega | (simp only []; omega))); (focus (((try clear hK) <;> (try simp only [WKe, *]) <;> repeat (first | with_reducible exact EntR.done | refine S.e ?_ | (refine S.f ?_ <;> (try simp only [WKe, hst, ↓reduceIte, reduceCtorEq, Int.reduceEq, *])) | with_reducible apply EntR.ex | refine EntR.drop (F := F) ?_ | refine EntR.drop ?_)))))
        · have hje : j = (ix c.modes.d (k : Int)).wins.d.length := by omega
          subst hje
          have hst : rowT AK winT (ix c.modes.d (k : Int)).wins.d (ix c.modes.d (k : Int)).wins.d.length = flatT A1 (fun m => modeT m.v) c.modes.d (k + 1) := hnx.symm
          ((try simp only [WKb, ↓reduceIte, Nat.reduceEqDiff]) <;> (repeat' ((first
    | (refine G.tr ?_; first | refine S.a ?_ | refine S.t ?_ | refine Tr.brK ?_ ?_ | (refine G.call 36 ?_; refine S.c ?_ (h := dpart_ok (by assumption) ?_)) | (refine G.call 37 ?_; refine S.c ?_ (h := dline_ok ?_ ?_)) | refine S.n fun _ => ?_ | refine S.i fun hix => ?_ | (refine S.g fun hb => ?_; (try simp only [hb])) | (refine S.s (fun hb => ?_) (fun hb => ?_) <;> ((try simp only [hb]) <;> (try (have hp := hb; simp only [WKs] at hp; (try have hq := Int.not_le.2 hp); (try have hq := Int.not_lt.2 hp))))))
    | rintro _ _ ⟨rfl, rfl⟩
    | ((fail_if_success refine G.tr ?_); exact G.prop S.p)
    | fail) <;> (try simp only [WKb, ↓reduceIte, Nat.reduceEqDiff, hw]))))
          all_goals
            clear eAP eA0 eA1 eA2 eA3 eA4 htP ht0 ht1 ht2 ht3 ht4 htz hlz hAP hr eAK hAK hnx
            (apply Tr.againE (k + 1); (focus (simp only [WKb, ↓reduceIte, Nat.reduceEqDiff])); (focus ((try simp only [WKb, ↓reduceIte, Nat.reduceEqDiff]); (all_goals ((repeat (refine cons_eq (by first | rfl | ((try clear hK) <;> first | (simp [*]; done) | (simp [*, hst]; omega) | (simp [*, hst] <;> (try split) <;> simp_all <;> omega))) ?_)); rfl)); done)); (focus (first | omega | assumption | (simp only []; omega) | (refine ⟨by omega, by assumption⟩) | (simp only []; refine ⟨by omega, by assumption⟩) | ((try simp only []); (repeat' (first | omega | assumption | refine And.intro ?_ ?_)); done))); (focus (first | omega | (simp only []; omega))); (focus (((try clear hK) <;> (try simp only [WKe, *]) <;> repeat (first | with_reducible exact EntR.done | refine S.e ?_ | (refine S.f ?_ <;> (try simp only [WKe, hst, ↓reduceIte, reduceCtorEq, Int.reduceEq, *])) | with_reducible apply EntR.ex | refine EntR.drop (F := F) ?_ | refine EntR.drop ?_)))))
      · have hke : k = c.modes.d.length := by omega
        subst hke
        ((try simp only [WKb, ↓reduceIte, Nat.reduceEqDiff]) <;> (repeat' ((first
    | (refine G.tr ?_; first | refine S.a ?_ | refine S.t ?_ | refine Tr.brK ?_ ?_ | (refine G.call 36 ?_; refine S.c ?_ (h := dpart_ok (by assumption) ?_)) | (refine G.call 37 ?_; refine S.c ?_ (h := dline_ok ?_ ?_)) | refine S.n fun _ => ?_ | refine S.i fun hix => ?_ | (refine S.g fun hb => ?_; (try simp only [hb])) | (refine S.s (fun hb => ?_) (fun hb => ?_) <;> ((try simp only [hb]) <;> (try (have hp := hb; simp only [WKs] at hp; (try have hq := Int.not_le.2 hp); (try have hq := Int.not_lt.2 hp))))))
    | rintro _ _ ⟨rfl, rfl⟩
    | ((fail_if_success refine G.tr ?_); exact G.prop S.p)
    | fail) <;> (try simp only [WKb, ↓reduceIte, Nat.reduceEqDiff]))))
        have hz : rowT A2 levelT c.levels.d 0 = flatT A1 (fun m => modeT m.v) c.modes.d c.modes.d.length := by rw [row_zero, flat_full _ eA2]
        refine Tr.loopE (α := Nat) [3, 10] [1, 2] (fun k => [.string (bstr (rowT A2 levelT c.levels.d k)), .int .i64 k]) (fun _ => []) (fun k => k ≤ c.levels.d.length) (fun k => c.levels.d.length - k) 0 (by (repeat (first | exact TakeL.nil | (apply TakeL.cons; focus ((first | exact TakeA.dupS | exact TakeA.dupF | ((repeat (first | with_reducible exact TakeA.here | exact TakeA.fam (by omega) (by omega) | with_reducible apply TakeA.next)); done) | ((repeat (first | exact TakeA.here | apply TakeA.next)); done) | exact TakeA.famNil | exact TakeA.nilS))) | fail)); done) (by rw [hz]; rfl) (Nat.zero_le _) fun k u hk => ?_
        by_cases hin : k < c.levels.d.length
        · have hw := wrapSucc (k := k) (by omega)
          have hx := o4 (ix c.levels.d (k : Int)) (ix_memU hin)
          have hi : ∀ n ∈ [(ix c.levels.d (k : Int)).freq, (ix c.levels.d (k : Int)).power], I64 n := I64s hx.1 (I64s1 hx.2)
          obtain ⟨hst, hlk⟩ := row_stepS (w := [108, 101, 118, 101, 108]) (l := [(ix c.levels.d (k : Int)).freq, (ix c.levels.d (k : Int)).power]) A2 levelT hin rfl
          have hle := row_len A2 (c.naps.d.map napT ++ restT c.v) levelT (xs := c.levels.d) (k + 1) ht2
          have hlq : (lineU [108, 101, 118, 101, 108] [(ix c.levels.d (k : Int)).freq, (ix c.levels.d (k : Int)).power] ++ [10]).length = (lineU [108, 101, 118, 101, 108] [(ix c.levels.d (k : Int)).freq, (ix c.levels.d (k : Int)).power]).length + 1 := by simp
          clear hx
          ((try simp only [WKb, ↓reduceIte, Nat.reduceEqDiff, Nat.reduceAdd]) <;> (repeat' ((first
    | (refine G.tr ?_; first | refine S.a ?_ | refine S.t ?_ | refine Tr.brK ?_ ?_ | (refine G.call 36 ?_; refine S.c ?_ (h := dpart_ok (by assumption) ?_)) | (refine G.call 37 ?_; refine S.c ?_ (h := dline_ok ?_ ?_)) | refine S.n fun _ => ?_ | refine S.i fun hix => ?_ | (refine S.g fun hb => ?_; (try simp only [hb])) | (refine S.s (fun hb => ?_) (fun hb => ?_) <;> ((try simp only [hb]) <;> (try (have hp := hb; simp only [WKs] at hp; (try have hq := Int.not_le.2 hp); (try have hq := Int.not_lt.2 hp))))))
    | rintro _ _ ⟨rfl, rfl⟩
    | ((fail_if_success refine G.tr ?_); exact G.prop S.p)
    | fail) <;> (try simp only [WKb, ↓reduceIte, Nat.reduceEqDiff, Nat.reduceAdd, pl21, hw, hst]))))
          all_goals
            clear eAP eA0 eA1 eA2 eA3 eA4 htP ht0 ht1 ht2 ht3 ht4 htz hlz hAP hr
            (apply Tr.againE (k + 1); (focus (simp only [WKb, ↓reduceIte, Nat.reduceEqDiff])); (focus ((try simp only [WKb, ↓reduceIte, Nat.reduceEqDiff]); (all_goals ((repeat (refine cons_eq (by first | rfl | ((try clear hK) <;> first | (simp [*, hst]; done) | (simp [*, hst]; omega) | (simp [*, hst] <;> (try split) <;> simp_all <;> omega))) ?_)); rfl)); done)); (focus (first | omega | assumption | (simp only []; omega) | (refine ⟨by omega, by assumption⟩) | (simp only []; refine ⟨by omega, by assumption⟩) | ((try simp only []); (repeat' (first | omega | assumption | refine And.intro ?_ ?_)); done))); (focus (first | omega | (simp only []; omega))); (focus (((try clear hK) <;> (try simp only [WKe, *]) <;> repeat (first | with_reducible exact EntR.done | refine S.e ?_ | (refine S.f ?_ <;> (try simp only [WKe, hst, ↓reduceIte, reduceCtorEq, Int.reduceEq, *])) | with_reducible apply EntR.ex | refine EntR.drop (F := F) ?_ | refine EntR.drop ?_)))))
        · have hke : k = c.levels.d.length := by omega
          subst hke
          ((try simp only [WKb, ↓reduceIte, Nat.reduceEqDiff, Nat.reduceAdd]) <;> (repeat' ((first
    | (refine G.tr ?_; first | refine S.a ?_ | refine S.t ?_ | refine Tr.brK ?_ ?_ | (refine G.call 36 ?_; refine S.c ?_ (h := dpart_ok (by assumption) ?_)) | (refine G.call 37 ?_; refine S.c ?_ (h := dline_ok ?_ ?_)) | refine S.n fun _ => ?_ | refine S.i fun hix => ?_ | (refine S.g fun hb => ?_; (try simp only [hb])) | (refine S.s (fun hb => ?_) (fun hb => ?_) <;> ((try simp only [hb]) <;> (try (have hp := hb; simp only [WKs] at hp; (try have hq := Int.not_le.2 hp); (try have hq := Int.not_lt.2 hp))))))
    | rintro _ _ ⟨rfl, rfl⟩
    | ((fail_if_success refine G.tr ?_); exact G.prop S.p)
    | fail) <;> (try simp only [WKb, ↓reduceIte, Nat.reduceEqDiff]))))
          have hz : rowT A3 napT c.naps.d 0 = rowT A2 levelT c.levels.d c.levels.d.length := by rw [row_zero, row_full _ eA3]
          refine Tr.loopE (α := Nat) [3, 11] [1, 2] (fun k => [.string (bstr (rowT A3 napT c.naps.d k)), .int .i64 k]) (fun _ => []) (fun k => k ≤ c.naps.d.length) (fun k => c.naps.d.length - k) 0 (by (repeat (first | exact TakeL.nil | (apply TakeL.cons; focus ((first | exact TakeA.dupS | exact TakeA.dupF | ((repeat (first | with_reducible exact TakeA.here | exact TakeA.fam (by omega) (by omega) | with_reducible apply TakeA.next)); done) | ((repeat (first | exact TakeA.here | apply TakeA.next)); done) | exact TakeA.famNil | exact TakeA.nilS))) | fail)); done) (by rw [hz]; rfl) (Nat.zero_le _) fun k u hk => ?_
          by_cases hin : k < c.naps.d.length
          · have hw := wrapSucc (k := k) (by omega)
            have hx := o5 (ix c.naps.d (k : Int)) (ix_memU hin)
            have hi : ∀ n ∈ [(ix c.naps.d (k : Int)).power, (ix c.naps.d (k : Int)).enter, (ix c.naps.d (k : Int)).wake], I64 n := I64s hx.1 (I64s hx.2.1 (I64s1 hx.2.2))
            obtain ⟨hst, hlk⟩ := row_stepS (w := [110, 97, 112]) (l := [(ix c.naps.d (k : Int)).power, (ix c.naps.d (k : Int)).enter, (ix c.naps.d (k : Int)).wake]) A3 napT hin rfl
            have hle := row_len A3 (restT c.v) napT (xs := c.naps.d) (k + 1) ht3
            have hlq : (lineU [110, 97, 112] [(ix c.naps.d (k : Int)).power, (ix c.naps.d (k : Int)).enter, (ix c.naps.d (k : Int)).wake] ++ [10]).length = (lineU [110, 97, 112] [(ix c.naps.d (k : Int)).power, (ix c.naps.d (k : Int)).enter, (ix c.naps.d (k : Int)).wake]).length + 1 := by simp
            clear hx
            ((try simp only [WKb, ↓reduceIte, Nat.reduceEqDiff, Nat.reduceAdd]) <;> (repeat' ((first
    | (refine G.tr ?_; first | refine S.a ?_ | refine S.t ?_ | refine Tr.brK ?_ ?_ | (refine G.call 36 ?_; refine S.c ?_ (h := dpart_ok (by assumption) ?_)) | (refine G.call 37 ?_; refine S.c ?_ (h := dline_ok ?_ ?_)) | refine S.n fun _ => ?_ | refine S.i fun hix => ?_ | (refine S.g fun hb => ?_; (try simp only [hb])) | (refine S.s (fun hb => ?_) (fun hb => ?_) <;> ((try simp only [hb]) <;> (try (have hp := hb; simp only [WKs] at hp; (try have hq := Int.not_le.2 hp); (try have hq := Int.not_lt.2 hp))))))
    | rintro _ _ ⟨rfl, rfl⟩
    | ((fail_if_success refine G.tr ?_); exact G.prop S.p)
    | fail) <;> (try simp only [WKb, ↓reduceIte, Nat.reduceEqDiff, Nat.reduceAdd, pl21, hw, hst]))))
            all_goals
              clear eAP eA0 eA1 eA2 eA3 eA4 htP ht0 ht1 ht2 ht3 ht4 htz hlz hAP hr
              (apply Tr.againE (k + 1); (focus (simp only [WKb, ↓reduceIte, Nat.reduceEqDiff])); (focus ((try simp only [WKb, ↓reduceIte, Nat.reduceEqDiff]); (all_goals ((repeat (refine cons_eq (by first | rfl | ((try clear hK) <;> first | (simp [*, hst]; done) | (simp [*, hst]; omega) | (simp [*, hst] <;> (try split) <;> simp_all <;> omega))) ?_)); rfl)); done)); (focus (first | omega | assumption | (simp only []; omega) | (refine ⟨by omega, by assumption⟩) | (simp only []; refine ⟨by omega, by assumption⟩) | ((try simp only []); (repeat' (first | omega | assumption | refine And.intro ?_ ?_)); done))); (focus (first | omega | (simp only []; omega))); (focus (((try clear hK) <;> (try simp only [WKe, *]) <;> repeat (first | with_reducible exact EntR.done | refine S.e ?_ | (refine S.f ?_ <;> (try simp only [WKe, hst, ↓reduceIte, reduceCtorEq, Int.reduceEq, *])) | with_reducible apply EntR.ex | refine EntR.drop (F := F) ?_ | refine EntR.drop ?_)))))
          · have hke : k = c.naps.d.length := by omega
            subst hke
            have hf := row_full (xs := c.naps.d) napT eA4
            have hfin : rowT A3 napT c.naps.d c.naps.d.length ++ (lineU [112, 111, 119, 101, 114] [c.sw, c.idle, c.change, c.quantum, c.slow, c.ppm] ++ [10]) ++ (lineU [100, 111, 119, 110] c.down.d ++ [10]) ++ (lineU [117, 112] c.up.d ++ [10]) = textT L := by rw [hf, htz]
            have hlf : (rowT A3 napT c.naps.d c.naps.d.length).length = (textT A4).length := by rw [hf]
            have hq1 : (lineU [112, 111, 119, 101, 114] [c.sw, c.idle, c.change, c.quantum, c.slow, c.ppm] ++ [10]).length = (lineU [112, 111, 119, 101, 114] [c.sw, c.idle, c.change, c.quantum, c.slow, c.ppm]).length + 1 := by simp
            have hq2 : (lineU [100, 111, 119, 110] c.down.d ++ [10]).length = (lineU [100, 111, 119, 110] c.down.d).length + 1 := by simp
            have hq3 : (lineU [117, 112] c.up.d ++ [10]).length = (lineU [117, 112] c.up.d).length + 1 := by simp
            clear hf htz
            ((try simp only [WKb, ↓reduceIte, Nat.reduceEqDiff, Nat.reduceAdd]) <;> (repeat' ((first
    | (refine G.tr ?_; first | refine S.a ?_ | refine S.t ?_ | refine Tr.brK ?_ ?_ | (refine G.call 36 ?_; refine S.c ?_ (h := dpart_ok (by assumption) ?_)) | (refine G.call 37 ?_; refine S.c ?_ (h := dline_ok ?_ ?_)) | refine S.n fun _ => ?_ | refine S.i fun hix => ?_ | (refine S.g fun hb => ?_; (try simp only [hb])) | (refine S.s (fun hb => ?_) (fun hb => ?_) <;> ((try simp only [hb]) <;> (try (have hp := hb; simp only [WKs] at hp; (try have hq := Int.not_le.2 hp); (try have hq := Int.not_lt.2 hp))))))
    | rintro _ _ ⟨rfl, rfl⟩
    | ((fail_if_success refine G.tr ?_); exact G.prop S.p)
    | fail) <;> (try simp only [WKb, ↓reduceIte, Nat.reduceEqDiff, Nat.reduceAdd, pl21, hfin]))))
            all_goals
              refine Tr.fin hK ⟨by first | rfl | rw [hfin], rfl⟩ ?_
              ((try clear hK) <;> (try simp only [WKe, *]) <;> repeat (first | with_reducible exact EntR.done | refine S.e ?_ | (refine S.f ?_ <;> (try simp only [WKe, ↓reduceIte, reduceCtorEq, Int.reduceEq, *])) | with_reducible apply EntR.ex | refine EntR.drop (F := F) ?_ | refine EntR.drop ?_))

end Go.Proofs.YtgkhjgpgdfbdpaaGreatDoor
