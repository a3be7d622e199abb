import Derived.Test.YtgkhjgpgdfbdpaaGreatDoorUkx
namespace Go.Proofs.YtgkhjgpgdfbdpaaGreatDoor
open Go Go.Wk
set_option maxHeartbeats 6400000
set_option maxRecDepth 100000

/-! ### writing the rest -/
instance (priority := 700) hasz_ConfD_parts {l : List Asrt} {x : ConfD} [hz : HasZ l x] : HasZ l (ConfD.parts x) := ⟨hz.h.imp fun h => ⟨fun _ => False, sep_l (Fz.dup x h)⟩⟩
instance (priority := 700) hasz_ConfD_chans {l : List Asrt} {x : ConfD} [hz : HasZ l x] : HasZ l (ConfD.chans x) := ⟨hz.h.imp fun h => ⟨fun _ => False, sep_l (sep_r (Fz.dup x h))⟩⟩
instance (priority := 700) hasz_ConfD_modes {l : List Asrt} {x : ConfD} [hz : HasZ l x] : HasZ l (ConfD.modes x) := ⟨hz.h.imp fun h => ⟨fun _ => False, sep_l (sep_r (sep_r (Fz.dup x h)))⟩⟩
instance (priority := 700) hasz_ConfD_levels {l : List Asrt} {x : ConfD} [hz : HasZ l x] : HasZ l (ConfD.levels x) := ⟨hz.h.imp fun h => ⟨fun _ => False, sep_l (sep_r (sep_r (sep_r (Fz.dup x h))))⟩⟩
instance (priority := 700) hasz_ConfD_naps {l : List Asrt} {x : ConfD} [hz : HasZ l x] : HasZ l (ConfD.naps x) := ⟨hz.h.imp fun h => ⟨fun _ => False, sep_l (sep_r (sep_r (sep_r (sep_r (Fz.dup x h)))))⟩⟩
instance (priority := 700) hasz_ConfD_down {l : List Asrt} {x : ConfD} [hz : HasZ l x] : HasZ l (ConfD.down x) := ⟨hz.h.imp fun h => ⟨fun _ => False, sep_l (sep_r (sep_r (sep_r (sep_r (sep_r (sep_r (sep_r (sep_r (sep_r (sep_r (sep_r (Fz.dup x h))))))))))))⟩⟩
instance (priority := 700) hasz_ConfD_up {l : List Asrt} {x : ConfD} [hz : HasZ l x] : HasZ l (ConfD.up x) := ⟨hz.h.imp fun h => ⟨fun _ => False, sep_l (sep_r (sep_r (sep_r (sep_r (sep_r (sep_r (sep_r (sep_r (sep_r (sep_r (sep_r (sep_r (Fz.dup x h)))))))))))))⟩⟩
def restL (c : ConfV) : List Tok := c.chans.map chanT ++ (c.modes.flatMap modeT ++ (c.levels.map levelT ++ (c.naps.map napT ++ restT c)))
theorem toks_rest (c : ConfV) : toksU c = c.parts.flatMap partT ++ restL c := toks_eq c
/-- Of a row of things of several lines so many, behind others. -/
def flatT {α : Type} (A : List Tok) (f : α → List Tok) (xs : List α) (k : Nat) : List UInt8 := textT (A ++ (xs.take k).flatMap f)
theorem flat_next {α : Type} [Inhabited α] (A : List Tok) (f : α → List Tok) {xs : List α} {k : Nat} (h : k < xs.length) : flatT A f xs (k + 1) = flatT A f xs k ++ textT (f (ix xs (k : Int))) := by
  have e : ix xs (k : Int) = xs[k] := by simp [ix, h]
  unfold flatT
  rw [List.take_succ_eq_append_getElem h, e, List.flatMap_append, ← List.append_assoc, textT_app (A ++ (xs.take k).flatMap f)]
  simp
theorem flat_len {α : Type} {L : List Tok} (A B : List Tok) (f : α → List Tok) {xs : List α} (k : Nat) (h : L = A ++ (xs.flatMap f ++ B)) : (flatT A f xs k).length ≤ (textT L).length := by
  have e : A ++ (xs.flatMap f ++ B) = (A ++ (xs.take k).flatMap f) ++ ((xs.drop k).flatMap f ++ B) := by
    have e1 : xs.flatMap f = (xs.take k).flatMap f ++ (xs.drop k).flatMap f := by rw [← List.flatMap_append, List.take_append_drop]
    rw [e1]
    simp only [List.append_assoc]
  unfold flatT
  rw [h, e, textT_app (A ++ (xs.take k).flatMap f), List.length_append]
  omega
theorem flat_zero {α : Type} (A : List Tok) (f : α → List Tok) {xs : List α} : flatT A f xs 0 = textT A := by simp [flatT]
theorem flat_full {α : Type} {A C : List Tok} (f : α → List Tok) {xs : List α} (h : C = A ++ xs.flatMap f) : flatT A f xs xs.length = textT C := by unfold flatT; rw [List.take_length, h]
theorem flat_map {α β γ : Type} (g : α → β) (f : β → List γ) (l : List α) : (l.map g).flatMap f = l.flatMap fun x => f (g x) := by induction l <;> simp_all
attribute [local irreducible] BrK GenK EGenK EUnitK CallK FnK CallV GuardO GuardC CondW opX opK opKc chkR eqR seqK blkK endL WL WD W LoopW BinK Tr drewK resL PickK NotK NilK ExtrK getK Instr.storeAt Instr.loadAt Instr.fieldAt Instr.indexAt Instr.lookup Instr.mapUpdate Instr.box Instr.alloc Instr.build Instr.buildSlice Instr.makeSlice Instr.makeMap Instr.sliceAt Instr.field Instr.index Instr.makeInterface Instr.typeAssert Builtin.len_ Builtin.append_ Builtin.cap_ Builtin.min_ Builtin.max_ Builtin.copy_ Builtin.clear_ convert binOp mp blk rob sl sep ex fact old
attribute [local irreducible] NegK mxV bufT bldB rowT flatT
theorem urest_ok {u0 : Value} {c : ConfD} [hd : DeA u0 c] {b : Nat} {bs : List UInt8} (ho : okU c.v) (hb : bs.length + (textT (restL c.v)).length ≤ 100000000) :
    Trip Tryz.prog 17 [.pointer (some ⟨b, 0, none⟩), u0].toArray [bldW b bs, fzl [c]] fun u l' => u = .tuple #[] ∧ l' = [bldW b (bs ++ textT (restL c.v))] := by
  obtain rfl := hd.h
  intro F K hK
  simp only [List.cons_append, List.nil_append]
  obtain ⟨_, o2, o3, o4, o5, o6, o7, o8, o9, o10, o11, o12, o13⟩ := ho
  have o3' : ∀ m ∈ c.modes.d, okMo m.v := fun m hm => o3 m.v (List.mem_map_of_mem hm)
  obtain ⟨A0, eA0⟩ : ∃ A, A = ([] : List Tok) := ⟨_, rfl⟩
  obtain ⟨A1, eA1⟩ : ∃ A, A = A0 ++ c.chans.d.map chanT := ⟨_, rfl⟩
  obtain ⟨A2, eA2⟩ : ∃ A, A = A1 ++ c.modes.d.flatMap (fun m => modeT m.v) := ⟨_, rfl⟩
  obtain ⟨A3, eA3⟩ : ∃ A, A = A2 ++ c.levels.d.map levelT := ⟨_, rfl⟩
  obtain ⟨A4, eA4⟩ : ∃ A, A = A3 ++ c.naps.d.map napT := ⟨_, rfl⟩
  have hr : restL c.v = c.chans.d.map chanT ++ (c.modes.d.flatMap (fun m => modeT m.v) ++ (c.levels.d.map levelT ++ (c.naps.d.map napT ++ restT c.v))) := by
    unfold restL
    simp only [ConfD.v, flat_map]
  have ht0 : restL c.v = A0 ++ (c.chans.d.map chanT ++ (c.modes.d.flatMap (fun m => modeT m.v) ++ (c.levels.d.map levelT ++ (c.naps.d.map napT ++ restT c.v)))) := by rw [hr, eA0]; rfl
  have ht1 : restL c.v = A1 ++ (c.modes.d.flatMap (fun m => modeT m.v) ++ (c.levels.d.map levelT ++ (c.naps.d.map napT ++ restT c.v))) := by rw [ht0, eA1, List.append_assoc]
  have ht2 : restL c.v = A2 ++ (c.levels.d.map levelT ++ (c.naps.d.map napT ++ restT c.v)) := by rw [ht1, eA2, List.append_assoc]
  have ht3 : restL c.v = A3 ++ (c.naps.d.map napT ++ restT c.v) := by rw [ht2, eA3, List.append_assoc]
  have ht4 : restL c.v = A4 ++ restT c.v := by rw [ht3, eA4, List.append_assoc]
  have htz : textT (restL c.v) = textT A4 ++ ((lineU [112, 111, 119, 101, 114] [c.sw, c.idle, c.change, c.quantum, c.slow, c.ppm] ++ [10]) ++ ((lineU [100, 111, 119, 110] c.down.d ++ [10]) ++ (lineU [117, 112] c.up.d ++ [10]))) := by
    rw [ht4, textT_app]
    have : textT (restT c.v) = (lineU [112, 111, 119, 101, 114] [c.sw, c.idle, c.change, c.quantum, c.slow, c.ppm] ++ [10]) ++ ((lineU [100, 111, 119, 110] c.down.d ++ [10]) ++ (lineU [117, 112] c.up.d ++ [10])) := by
      unfold restT powerT
      simp only [textT, List.flatMap_cons, List.flatMap_nil, List.append_nil]
      rfl
    rw [this]
  have hlz : (textT (restL c.v)).length = (textT A4).length + ((lineU [112, 111, 119, 101, 114] [c.sw, c.idle, c.change, c.quantum, c.slow, c.ppm]).length + 1 + ((lineU [100, 111, 119, 110] c.down.d).length + 1 + ((lineU [117, 112] c.up.d).length + 1))) := by rw [htz]; simp; omega
  have hi13 : ∀ n ∈ [c.sw, c.idle, c.change, c.quantum, c.slow, c.ppm], I64 n := I64s o6 (I64s o7 (I64s o8 (I64s o9 (I64s o10 (I64s1 o11)))))
  have hi14 : ∀ n ∈ c.down.d, I64 n := o12
  have hi15 : ∀ n ∈ c.up.d, I64 n := o13
  refine Tr.bound (ro := true) (v := c.chans.s.v) (xs := c.chans.d) HasS.h fun hbd0 => ?_
  refine Tr.bound (ro := true) (v := c.modes.s.v) (xs := c.modes.d) HasS.h fun hbd1 => ?_
  refine Tr.bound (ro := true) (v := c.levels.s.v) (xs := c.levels.d) HasS.h fun hbd2 => ?_
  refine Tr.bound (ro := true) (v := c.naps.s.v) (xs := c.naps.d) HasS.h fun hbd3 => ?_
  have hA0 : textT A0 = [] := by rw [eA0]; rfl
  (refine Tr.enter (rs := []) mixed fn17 rfl (by simp +arith [Tryz.ntmps17]) fun u => ?_; simp only [cd17, Tryz.f17])
  ((try simp only [WKb, ↓reduceIte, Nat.reduceAdd, WKt]) <;> (repeat' ((first
    | (refine G.tr ?_; first | refine S.a ?_ | refine S.t ?_ | refine Tr.brK ?_ ?_ | (refine G.call 34 ?_; refine S.c ?_ (h := uline_ok ?_ ?_)) | refine S.n fun _ => ?_ | refine S.i fun hix => ?_ | (refine S.g fun hb => ?_; (try simp only [hb])) | (refine S.s (fun hb => ?_) (fun hb => ?_) <;> ((try simp only [hb]) <;> (try (have hp := hb; simp only [WKs] at hp; (try have hq := Int.not_le.2 hp); (try have hq := Int.not_lt.2 hp))))))
    | rintro _ _ ⟨rfl, rfl⟩
    | ((fail_if_success refine G.tr ?_); exact G.prop S.p)
    | fail) <;> (try simp only [WKb, ↓reduceIte]))))
  have hz : bs ++ rowT A0 chanT c.chans.d 0 = bs := by rw [row_zero, hA0, List.append_nil]
  refine Tr.loopE (α := Nat) [18] [0, 3, 16, 17] (fun k => [.int .i64 k]) (fun k => [bldW b (bs ++ rowT A0 chanT c.chans.d k)]) (fun k => k ≤ c.chans.d.length) (fun k => c.chans.d.length - k) 0 (by simp only [hz]; exact (by (repeat (first | exact TakeL.nil | (apply TakeL.cons; focus ((first | exact TakeA.dupS | exact TakeA.dupF | ((repeat (first | with_reducible exact TakeA.here | exact TakeA.fam (by omega) (by omega) | with_reducible apply TakeA.next)); done) | ((repeat (first | exact TakeA.here | apply TakeA.next)); done) | exact TakeA.famNil | exact TakeA.nilS))) | fail)); done)) rfl (Nat.zero_le _) fun k u hk => ?_
  by_cases hin : k < c.chans.d.length
  · have hw := wrapSucc (k := k) (by omega)
    have hx := o2 (ix c.chans.d (k : Int)) (ix_memU hin)
    have hi : ∀ n ∈ [(ix c.chans.d (k : Int)).fp, (ix c.chans.d (k : Int)).fo, (ix c.chans.d (k : Int)).tp, (ix c.chans.d (k : Int)).to], I64 n := I64s hx.1 (I64s hx.2.1 (I64s hx.2.2.1 (I64s1 hx.2.2.2)))
    obtain ⟨hst, hlk⟩ := row_step (bs := bs) (w := [99, 104, 97, 110, 110, 101, 108]) (l := [(ix c.chans.d (k : Int)).fp, (ix c.chans.d (k : Int)).fo, (ix c.chans.d (k : Int)).tp, (ix c.chans.d (k : Int)).to]) A0 chanT hin rfl
    have hle := row_len A0 (c.modes.d.flatMap (fun m => modeT m.v) ++ (c.levels.d.map levelT ++ (c.naps.d.map napT ++ restT c.v))) chanT (xs := c.chans.d) (k + 1) ht0
    clear hx
    ((try simp only [WKb, ↓reduceIte, Nat.reduceEqDiff]) <;> (repeat' ((first
    | (refine G.tr ?_; first | refine S.a ?_ | refine S.t ?_ | refine Tr.brK ?_ ?_ | (refine G.call 34 ?_; refine S.c ?_ (h := uline_ok ?_ ?_)) | refine S.n fun _ => ?_ | refine S.i fun hix => ?_ | (refine S.g fun hb => ?_; (try simp only [hb])) | (refine S.s (fun hb => ?_) (fun hb => ?_) <;> ((try simp only [hb]) <;> (try (have hp := hb; simp only [WKs] at hp; (try have hq := Int.not_le.2 hp); (try have hq := Int.not_lt.2 hp))))))
    | rintro _ _ ⟨rfl, rfl⟩
    | ((fail_if_success refine G.tr ?_); exact G.prop S.p)
    | fail) <;> (try simp only [WKb, ↓reduceIte, Nat.reduceEqDiff, Nat.reduceAdd, hw]))))
    all_goals
      clear eA0 eA1 eA2 eA3 eA4 ht0 ht1 ht2 ht3 ht4 htz hlz hA0 hr
      (apply Tr.againE (k + 1); (focus (simp only [WKb, ↓reduceIte, Nat.reduceEqDiff])); (focus ((try simp only [WKb, ↓reduceIte]); (all_goals ((repeat (refine cons_eq (by first | rfl | ((try clear hK) <;> first | (simp [*, hst]; done) | (simp [*, hst]; omega) | (simp [*, hst] <;> (try split) <;> simp_all <;> omega))) ?_)); rfl)); done)); (focus (first | omega | assumption | (simp only []; omega) | (refine ⟨by omega, by assumption⟩) | (simp only []; refine ⟨by omega, by assumption⟩) | ((try simp only []); (repeat' (first | omega | assumption | refine And.intro ?_ ?_)); done))); (focus (first | omega | (simp only []; omega))); (focus (((try clear hK) <;> (try simp only [WKe, *]) <;> repeat (first | with_reducible exact EntR.done | refine S.e ?_ | (refine S.f ?_ <;> (try simp only [WKe, hst, ↓reduceIte, reduceCtorEq, Int.reduceEq, *])) | with_reducible apply EntR.ex | refine EntR.drop (F := F) ?_ | refine EntR.drop ?_)))))
  · have hke : k = c.chans.d.length := by omega
    subst hke
    ((try simp only [WKb, ↓reduceIte, Nat.reduceEqDiff]) <;> (repeat' ((first
    | (refine G.tr ?_; first | refine S.a ?_ | refine S.t ?_ | refine Tr.brK ?_ ?_ | (refine G.call 34 ?_; refine S.c ?_ (h := uline_ok ?_ ?_)) | refine S.n fun _ => ?_ | refine S.i fun hix => ?_ | (refine S.g fun hb => ?_; (try simp only [hb])) | (refine S.s (fun hb => ?_) (fun hb => ?_) <;> ((try simp only [hb]) <;> (try (have hp := hb; simp only [WKs] at hp; (try have hq := Int.not_le.2 hp); (try have hq := Int.not_lt.2 hp))))))
    | rintro _ _ ⟨rfl, rfl⟩
    | ((fail_if_success refine G.tr ?_); exact G.prop S.p)
    | fail) <;> (try simp only [WKb, ↓reduceIte, Nat.reduceEqDiff]))))
    have hz : bs ++ flatT A1 (fun m => modeT m.v) c.modes.d 0 = bs ++ rowT A0 chanT c.chans.d c.chans.d.length := by rw [flat_zero, row_full _ eA1]
    refine Tr.loopE (α := Nat) [41] [0, 3, 39, 40] (fun k => [.int .i64 k]) (fun k => [bldW b (bs ++ flatT A1 (fun m => modeT m.v) c.modes.d k)]) (fun k => k ≤ c.modes.d.length) (fun k => c.modes.d.length - k) 0 (by simp only [hz]; exact (by (repeat (first | exact TakeL.nil | (apply TakeL.cons; focus ((first | exact TakeA.dupS | exact TakeA.dupF | ((repeat (first | with_reducible exact TakeA.here | exact TakeA.fam (by omega) (by omega) | with_reducible apply TakeA.next)); done) | ((repeat (first | exact TakeA.here | apply TakeA.next)); done) | exact TakeA.famNil | exact TakeA.nilS))) | fail)); done)) rfl (Nat.zero_le _) fun k u hk => ?_
    by_cases hin : k < c.modes.d.length
    · have hw := wrapSucc (k := k) (by omega)
      have hx := o3' (ix c.modes.d (k : Int)) (ix_memU hin)
      have hi9 : ∀ n ∈ [(ix c.modes.d (k : Int)).frame], I64 n := I64s1 hx.1
      have hxw : ∀ x ∈ (ix c.modes.d (k : Int)).wins.d, okWi x := hx.2
      obtain ⟨AK, eAK⟩ : ∃ A, A = A1 ++ (c.modes.d.take k).flatMap (fun m => modeT m.v) ++ [(9, [(ix c.modes.d (k : Int)).frame])] := ⟨_, rfl⟩
      have hAK : textT AK = flatT A1 (fun m => modeT m.v) c.modes.d k ++ (lineU [109, 111, 100, 101] [(ix c.modes.d (k : Int)).frame] ++ [10]) := by rw [eAK, text_one]; unfold flatT; rfl
      have hnx : flatT A1 (fun m => modeT m.v) c.modes.d (k + 1) = rowT AK winT (ix c.modes.d (k : Int)).wins.d (ix c.modes.d (k : Int)).wins.d.length := by
        rw [flat_next A1 (fun m => modeT m.v) hin, row_full (C := AK ++ (ix c.modes.d (k : Int)).wins.d.map winT) _ rfl, textT_app, hAK, List.append_assoc]
        have : textT (modeT (ix c.modes.d (k : Int)).v) = (lineU [109, 111, 100, 101] [(ix c.modes.d (k : Int)).frame] ++ [10]) ++ textT ((ix c.modes.d (k : Int)).wins.d.map winT) := by
          unfold modeT
          rw [textT_cons]
          simp [lineT, ModeD.v, wordU]
        rw [this]
      have hle := flat_len A1 (c.levels.d.map levelT ++ (c.naps.d.map napT ++ restT c.v)) (fun m => modeT m.v) (xs := c.modes.d) (k + 1) ht1
      have hl9 : (bs ++ flatT A1 (fun m => modeT m.v) c.modes.d k).length + (lineU [109, 111, 100, 101] [(ix c.modes.d (k : Int)).frame]).length + 1 = bs.length + (textT AK).length := by rw [hAK]; simp only [List.length_append, List.length_singleton]; omega
      have hlA : (textT AK).length ≤ (flatT A1 (fun m => modeT m.v) c.modes.d (k + 1)).length := by rw [hnx, row_full (C := AK ++ (ix c.modes.d (k : Int)).wins.d.map winT) _ rfl, textT_app, List.length_append]; omega
      simp only [List.cons_append, List.nil_append]
      refine Tr.bound (ro := true) (v := (ix c.modes.d (k : Int)).wins.s.v) (xs := (ix c.modes.d (k : Int)).wins.d) HasS.h fun hbdw => ?_
      clear hx
      ((try simp only [WKb, ↓reduceIte, Nat.reduceEqDiff]) <;> (repeat' ((first
    | (refine G.tr ?_; first | refine S.a ?_ | refine S.t ?_ | refine Tr.brK ?_ ?_ | (refine G.call 34 ?_; refine S.c ?_ (h := uline_ok ?_ ?_)) | refine S.n fun _ => ?_ | refine S.i fun hix => ?_ | (refine S.g fun hb => ?_; (try simp only [hb])) | (refine S.s (fun hb => ?_) (fun hb => ?_) <;> ((try simp only [hb]) <;> (try (have hp := hb; simp only [WKs] at hp; (try have hq := Int.not_le.2 hp); (try have hq := Int.not_lt.2 hp))))))
    | rintro _ _ ⟨rfl, rfl⟩
    | ((fail_if_success refine G.tr ?_); exact G.prop S.p)
    | fail) <;> (try simp only [WKb, ↓reduceIte, Nat.reduceEqDiff]))))
      have hzw : bs ++ rowT AK winT (ix c.modes.d (k : Int)).wins.d 0 = bs ++ flatT A1 (fun m => modeT m.v) c.modes.d k ++ (lineU [109, 111, 100, 101] [(ix c.modes.d (k : Int)).frame] ++ [10]) := by rw [row_zero, hAK, List.append_assoc]
      refine Tr.loopE (α := Nat) [53] [0, 3, 39, 40, 41, 51, 52] (fun j => [.int .i64 j]) (fun j => [bldW b (bs ++ rowT AK winT (ix c.modes.d (k : Int)).wins.d j)]) (fun j => j ≤ (ix c.modes.d (k : Int)).wins.d.length) (fun j => (ix c.modes.d (k : Int)).wins.d.length - j) 0 (by simp only [hzw]; exact (by (repeat (first | exact TakeL.nil | (apply TakeL.cons; focus ((first | exact TakeA.dupS | exact TakeA.dupF | ((repeat (first | with_reducible exact TakeA.here | exact TakeA.fam (by omega) (by omega) | with_reducible apply TakeA.next)); done) | ((repeat (first | exact TakeA.here | apply TakeA.next)); done) | exact TakeA.famNil | exact TakeA.nilS))) | fail)); done)) rfl (Nat.zero_le _) fun j u hj => ?_
      by_cases hin2 : j < (ix c.modes.d (k : Int)).wins.d.length
      · have hwk := hw
        have hw := wrapSucc (k := j) (by omega)
        have hy := hxw (ix (ix c.modes.d (k : Int)).wins.d (j : Int)) (ix_memU hin2)
        have hi : ∀ n ∈ [(ix (ix c.modes.d (k : Int)).wins.d (j : Int)).part, (ix (ix c.modes.d (k : Int)).wins.d (j : Int)).start, (ix (ix c.modes.d (k : Int)).wins.d (j : Int)).len], I64 n := I64s hy.1 (I64s hy.2.1 (I64s1 hy.2.2))
        obtain ⟨hst, hlk⟩ := row_step (bs := bs) (w := [119, 105, 110, 100, 111, 119]) (l := [(ix (ix c.modes.d (k : Int)).wins.d (j : Int)).part, (ix (ix c.modes.d (k : Int)).wins.d (j : Int)).start, (ix (ix c.modes.d (k : Int)).wins.d (j : Int)).len]) AK winT hin2 rfl
        have hle2 := row_len AK [] winT (xs := (ix c.modes.d (k : Int)).wins.d) (L := AK ++ (ix c.modes.d (k : Int)).wins.d.map winT) (j + 1) (by simp)
        rw [← row_full (C := AK ++ (ix c.modes.d (k : Int)).wins.d.map winT) (A := AK) winT rfl, ← hnx] at hle2
        clear hy
        ((try simp only [WKb, ↓reduceIte, Nat.reduceEqDiff]) <;> (repeat' ((first
    | (refine G.tr ?_; first | refine S.a ?_ | refine S.t ?_ | refine Tr.brK ?_ ?_ | (refine G.call 34 ?_; refine S.c ?_ (h := uline_ok ?_ ?_)) | refine S.n fun _ => ?_ | refine S.i fun hix => ?_ | (refine S.g fun hb => ?_; (try simp only [hb])) | (refine S.s (fun hb => ?_) (fun hb => ?_) <;> ((try simp only [hb]) <;> (try (have hp := hb; simp only [WKs] at hp; (try have hq := Int.not_le.2 hp); (try have hq := Int.not_lt.2 hp))))))
    | rintro _ _ ⟨rfl, rfl⟩
    | ((fail_if_success refine G.tr ?_); exact G.prop S.p)
    | fail) <;> (try simp only [WKb, ↓reduceIte, Nat.reduceEqDiff, hw]))))
        all_goals
          clear eA0 eA1 eA2 eA3 eA4 ht0 ht1 ht2 ht3 ht4 htz hlz hA0 hr eAK hAK hnx
          (apply Tr.againE (j + 1); (focus (simp only [WKb, ↓reduceIte, Nat.reduceEqDiff])); (focus ((try simp only [WKb, ↓reduceIte]); (all_goals ((repeat (refine cons_eq (by first | rfl | ((try clear hK) <;> first | (simp [*, hst]; done) | (simp [*, hst]; omega) | (simp [*, hst] <;> (try split) <;> simp_all <;> omega))) ?_)); rfl)); done)); (focus (first | omega | assumption | (simp only []; omega) | (refine ⟨by omega, by assumption⟩) | (simp only []; refine ⟨by omega, by assumption⟩) | ((try simp only []); (repeat' (first | omega | assumption | refine And.intro ?_ ?_)); done))); (focus (first | omega | (simp only []; omega))); (focus (((try clear hK) <;> (try simp only [WKe, *]) <;> repeat (first | with_reducible exact EntR.done | refine S.e ?_ | (refine S.f ?_ <;> (try simp only [WKe, hst, ↓reduceIte, reduceCtorEq, Int.reduceEq, *])) | with_reducible apply EntR.ex | refine EntR.drop (F := F) ?_ | refine EntR.drop ?_)))))
      · have hje : j = (ix c.modes.d (k : Int)).wins.d.length := by omega
        subst hje
        have hst : rowT AK winT (ix c.modes.d (k : Int)).wins.d (ix c.modes.d (k : Int)).wins.d.length = flatT A1 (fun m => modeT m.v) c.modes.d (k + 1) := hnx.symm
        ((try simp only [WKb, ↓reduceIte, Nat.reduceEqDiff]) <;> (repeat' ((first
    | (refine G.tr ?_; first | refine S.a ?_ | refine S.t ?_ | refine Tr.brK ?_ ?_ | (refine G.call 34 ?_; refine S.c ?_ (h := uline_ok ?_ ?_)) | refine S.n fun _ => ?_ | refine S.i fun hix => ?_ | (refine S.g fun hb => ?_; (try simp only [hb])) | (refine S.s (fun hb => ?_) (fun hb => ?_) <;> ((try simp only [hb]) <;> (try (have hp := hb; simp only [WKs] at hp; (try have hq := Int.not_le.2 hp); (try have hq := Int.not_lt.2 hp))))))
    | rintro _ _ ⟨rfl, rfl⟩
    | ((fail_if_success refine G.tr ?_); exact G.prop S.p)
    | fail) <;> (try simp only [WKb, ↓reduceIte, Nat.reduceEqDiff, hw]))))
        all_goals
          clear eA0 eA1 eA2 eA3 eA4 ht0 ht1 ht2 ht3 ht4 htz hlz hA0 hr eAK hAK hnx
          (apply Tr.againE (k + 1); (focus (simp only [WKb, ↓reduceIte, Nat.reduceEqDiff])); (focus ((try simp only [WKb, ↓reduceIte]); (all_goals ((repeat (refine cons_eq (by first | rfl | ((try clear hK) <;> first | (simp [*, hst]; done) | (simp [*, hst]; omega) | (simp [*, hst] <;> (try split) <;> simp_all <;> omega))) ?_)); rfl)); done)); (focus (first | omega | assumption | (simp only []; omega) | (refine ⟨by omega, by assumption⟩) | (simp only []; refine ⟨by omega, by assumption⟩) | ((try simp only []); (repeat' (first | omega | assumption | refine And.intro ?_ ?_)); done))); (focus (first | omega | (simp only []; omega))); (focus (((try clear hK) <;> (try simp only [WKe, *]) <;> repeat (first | with_reducible exact EntR.done | refine S.e ?_ | (refine S.f ?_ <;> (try simp only [WKe, hst, ↓reduceIte, reduceCtorEq, Int.reduceEq, *])) | with_reducible apply EntR.ex | refine EntR.drop (F := F) ?_ | refine EntR.drop ?_)))))
    · have hke : k = c.modes.d.length := by omega
      subst hke
      ((try simp only [WKb, ↓reduceIte, Nat.reduceEqDiff]) <;> (repeat' ((first
    | (refine G.tr ?_; first | refine S.a ?_ | refine S.t ?_ | refine Tr.brK ?_ ?_ | (refine G.call 34 ?_; refine S.c ?_ (h := uline_ok ?_ ?_)) | refine S.n fun _ => ?_ | refine S.i fun hix => ?_ | (refine S.g fun hb => ?_; (try simp only [hb])) | (refine S.s (fun hb => ?_) (fun hb => ?_) <;> ((try simp only [hb]) <;> (try (have hp := hb; simp only [WKs] at hp; (try have hq := Int.not_le.2 hp); (try have hq := Int.not_lt.2 hp))))))
    | rintro _ _ ⟨rfl, rfl⟩
    | ((fail_if_success refine G.tr ?_); exact G.prop S.p)
    | fail) <;> (try simp only [WKb, ↓reduceIte, Nat.reduceEqDiff]))))
      have hz : bs ++ rowT A2 levelT c.levels.d 0 = bs ++ flatT A1 (fun m => modeT m.v) c.modes.d c.modes.d.length := by rw [row_zero, flat_full _ eA2]
      refine Tr.loopE (α := Nat) [73] [0, 3, 10, 71, 72] (fun k => [.int .i64 k]) (fun k => [bldW b (bs ++ rowT A2 levelT c.levels.d k)]) (fun k => k ≤ c.levels.d.length) (fun k => c.levels.d.length - k) 0 (by simp only [hz]; exact (by (repeat (first | exact TakeL.nil | (apply TakeL.cons; focus ((first | exact TakeA.dupS | exact TakeA.dupF | ((repeat (first | with_reducible exact TakeA.here | exact TakeA.fam (by omega) (by omega) | with_reducible apply TakeA.next)); done) | ((repeat (first | exact TakeA.here | apply TakeA.next)); done) | exact TakeA.famNil | exact TakeA.nilS))) | fail)); done)) rfl (Nat.zero_le _) fun k u hk => ?_
      by_cases hin : k < c.levels.d.length
      · have hw := wrapSucc (k := k) (by omega)
        have hx := o4 (ix c.levels.d (k : Int)) (ix_memU hin)
        have hi : ∀ n ∈ [(ix c.levels.d (k : Int)).freq, (ix c.levels.d (k : Int)).power], I64 n := I64s hx.1 (I64s1 hx.2)
        obtain ⟨hst, hlk⟩ := row_step (bs := bs) (w := [108, 101, 118, 101, 108]) (l := [(ix c.levels.d (k : Int)).freq, (ix c.levels.d (k : Int)).power]) A2 levelT hin rfl
        have hle := row_len A2 (c.naps.d.map napT ++ restT c.v) levelT (xs := c.levels.d) (k + 1) ht2
        clear hx
        ((try simp only [WKb, ↓reduceIte, Nat.reduceEqDiff]) <;> (repeat' ((first
    | (refine G.tr ?_; first | refine S.a ?_ | refine S.t ?_ | refine Tr.brK ?_ ?_ | (refine G.call 34 ?_; refine S.c ?_ (h := uline_ok ?_ ?_)) | refine S.n fun _ => ?_ | refine S.i fun hix => ?_ | (refine S.g fun hb => ?_; (try simp only [hb])) | (refine S.s (fun hb => ?_) (fun hb => ?_) <;> ((try simp only [hb]) <;> (try (have hp := hb; simp only [WKs] at hp; (try have hq := Int.not_le.2 hp); (try have hq := Int.not_lt.2 hp))))))
    | rintro _ _ ⟨rfl, rfl⟩
    | ((fail_if_success refine G.tr ?_); exact G.prop S.p)
    | fail) <;> (try simp only [WKb, ↓reduceIte, Nat.reduceEqDiff, hw]))))
        all_goals
          clear eA0 eA1 eA2 eA3 eA4 ht0 ht1 ht2 ht3 ht4 htz hlz hA0 hr
          (apply Tr.againE (k + 1); (focus (simp only [WKb, ↓reduceIte, Nat.reduceEqDiff])); (focus ((try simp only [WKb, ↓reduceIte]); (all_goals ((repeat (refine cons_eq (by first | rfl | ((try clear hK) <;> first | (simp [*, hst]; done) | (simp [*, hst]; omega) | (simp [*, hst] <;> (try split) <;> simp_all <;> omega))) ?_)); rfl)); done)); (focus (first | omega | assumption | (simp only []; omega) | (refine ⟨by omega, by assumption⟩) | (simp only []; refine ⟨by omega, by assumption⟩) | ((try simp only []); (repeat' (first | omega | assumption | refine And.intro ?_ ?_)); done))); (focus (first | omega | (simp only []; omega))); (focus (((try clear hK) <;> (try simp only [WKe, *]) <;> repeat (first | with_reducible exact EntR.done | refine S.e ?_ | (refine S.f ?_ <;> (try simp only [WKe, hst, ↓reduceIte, reduceCtorEq, Int.reduceEq, *])) | with_reducible apply EntR.ex | refine EntR.drop (F := F) ?_ | refine EntR.drop ?_)))))
      · have hke : k = c.levels.d.length := by omega
        subst hke
        ((try simp only [WKb, ↓reduceIte, Nat.reduceEqDiff]) <;> (repeat' ((first
    | (refine G.tr ?_; first | refine S.a ?_ | refine S.t ?_ | refine Tr.brK ?_ ?_ | (refine G.call 34 ?_; refine S.c ?_ (h := uline_ok ?_ ?_)) | refine S.n fun _ => ?_ | refine S.i fun hix => ?_ | (refine S.g fun hb => ?_; (try simp only [hb])) | (refine S.s (fun hb => ?_) (fun hb => ?_) <;> ((try simp only [hb]) <;> (try (have hp := hb; simp only [WKs] at hp; (try have hq := Int.not_le.2 hp); (try have hq := Int.not_lt.2 hp))))))
    | rintro _ _ ⟨rfl, rfl⟩
    | ((fail_if_success refine G.tr ?_); exact G.prop S.p)
    | fail) <;> (try simp only [WKb, ↓reduceIte, Nat.reduceEqDiff]))))
        have hz : bs ++ rowT A3 napT c.naps.d 0 = bs ++ rowT A2 levelT c.levels.d c.levels.d.length := by rw [row_zero, row_full _ eA3]
        refine Tr.loopE (α := Nat) [88] [0, 3, 10, 86, 87] (fun k => [.int .i64 k]) (fun k => [bldW b (bs ++ rowT A3 napT c.naps.d k)]) (fun k => k ≤ c.naps.d.length) (fun k => c.naps.d.length - k) 0 (by simp only [hz]; exact (by (repeat (first | exact TakeL.nil | (apply TakeL.cons; focus ((first | exact TakeA.dupS | exact TakeA.dupF | ((repeat (first | with_reducible exact TakeA.here | exact TakeA.fam (by omega) (by omega) | with_reducible apply TakeA.next)); done) | ((repeat (first | exact TakeA.here | apply TakeA.next)); done) | exact TakeA.famNil | exact TakeA.nilS))) | fail)); done)) rfl (Nat.zero_le _) fun k u hk => ?_
        by_cases hin : k < c.naps.d.length
        · have hw := wrapSucc (k := k) (by omega)
          have hx := o5 (ix c.naps.d (k : Int)) (ix_memU hin)
          have hi : ∀ n ∈ [(ix c.naps.d (k : Int)).power, (ix c.naps.d (k : Int)).enter, (ix c.naps.d (k : Int)).wake], I64 n := I64s hx.1 (I64s hx.2.1 (I64s1 hx.2.2))
          obtain ⟨hst, hlk⟩ := row_step (bs := bs) (w := [110, 97, 112]) (l := [(ix c.naps.d (k : Int)).power, (ix c.naps.d (k : Int)).enter, (ix c.naps.d (k : Int)).wake]) A3 napT hin rfl
          have hle := row_len A3 (restT c.v) napT (xs := c.naps.d) (k + 1) ht3
          clear hx
          ((try simp only [WKb, ↓reduceIte, Nat.reduceEqDiff]) <;> (repeat' ((first
    | (refine G.tr ?_; first | refine S.a ?_ | refine S.t ?_ | refine Tr.brK ?_ ?_ | (refine G.call 34 ?_; refine S.c ?_ (h := uline_ok ?_ ?_)) | refine S.n fun _ => ?_ | refine S.i fun hix => ?_ | (refine S.g fun hb => ?_; (try simp only [hb])) | (refine S.s (fun hb => ?_) (fun hb => ?_) <;> ((try simp only [hb]) <;> (try (have hp := hb; simp only [WKs] at hp; (try have hq := Int.not_le.2 hp); (try have hq := Int.not_lt.2 hp))))))
    | rintro _ _ ⟨rfl, rfl⟩
    | ((fail_if_success refine G.tr ?_); exact G.prop S.p)
    | fail) <;> (try simp only [WKb, ↓reduceIte, Nat.reduceEqDiff, hw]))))
          all_goals
            clear eA0 eA1 eA2 eA3 eA4 ht0 ht1 ht2 ht3 ht4 htz hlz hA0 hr
            (apply Tr.againE (k + 1); (focus (simp only [WKb, ↓reduceIte, Nat.reduceEqDiff])); (focus ((try simp only [WKb, ↓reduceIte]); (all_goals ((repeat (refine cons_eq (by first | rfl | ((try clear hK) <;> first | (simp [*, hst]; done) | (simp [*, hst]; omega) | (simp [*, hst] <;> (try split) <;> simp_all <;> omega))) ?_)); rfl)); done)); (focus (first | omega | assumption | (simp only []; omega) | (refine ⟨by omega, by assumption⟩) | (simp only []; refine ⟨by omega, by assumption⟩) | ((try simp only []); (repeat' (first | omega | assumption | refine And.intro ?_ ?_)); done))); (focus (first | omega | (simp only []; omega))); (focus (((try clear hK) <;> (try simp only [WKe, *]) <;> repeat (first | with_reducible exact EntR.done | refine S.e ?_ | (refine S.f ?_ <;> (try simp only [WKe, hst, ↓reduceIte, reduceCtorEq, Int.reduceEq, *])) | with_reducible apply EntR.ex | refine EntR.drop (F := F) ?_ | refine EntR.drop ?_)))))
        · have hke : k = c.naps.d.length := by omega
          subst hke
          have hf := row_full (xs := c.naps.d) napT eA4
          have hfin : bs ++ rowT A3 napT c.naps.d c.naps.d.length ++ (lineU [112, 111, 119, 101, 114] [c.sw, c.idle, c.change, c.quantum, c.slow, c.ppm] ++ [10]) ++ (lineU [100, 111, 119, 110] c.down.d ++ [10]) ++ (lineU [117, 112] c.up.d ++ [10]) = bs ++ textT (restL c.v) := by rw [hf, htz]; simp only [List.append_assoc]
          have hlf : (bs ++ rowT A3 napT c.naps.d c.naps.d.length).length = bs.length + (textT A4).length := by rw [hf, List.length_append]
          have hlf2 : (bs ++ rowT A3 napT c.naps.d c.naps.d.length ++ (lineU [112, 111, 119, 101, 114] [c.sw, c.idle, c.change, c.quantum, c.slow, c.ppm] ++ [10])).length = (bs ++ rowT A3 napT c.naps.d c.naps.d.length).length + (lineU [112, 111, 119, 101, 114] [c.sw, c.idle, c.change, c.quantum, c.slow, c.ppm]).length + 1 := by simp only [List.length_append, List.length_singleton]; omega
          have hlf3 : (bs ++ rowT A3 napT c.naps.d c.naps.d.length ++ (lineU [112, 111, 119, 101, 114] [c.sw, c.idle, c.change, c.quantum, c.slow, c.ppm] ++ [10]) ++ (lineU [100, 111, 119, 110] c.down.d ++ [10])).length = (bs ++ rowT A3 napT c.naps.d c.naps.d.length).length + (lineU [112, 111, 119, 101, 114] [c.sw, c.idle, c.change, c.quantum, c.slow, c.ppm]).length + 1 + (lineU [100, 111, 119, 110] c.down.d).length + 1 := by simp only [List.length_append, List.length_singleton]; omega
          clear hf htz
          ((try simp only [WKb, ↓reduceIte, Nat.reduceEqDiff]) <;> (repeat' ((first
    | (refine G.tr ?_; first | refine S.a ?_ | refine S.t ?_ | refine Tr.brK ?_ ?_ | (refine G.call 34 ?_; refine S.c ?_ (h := uline_ok ?_ ?_)) | refine S.n fun _ => ?_ | refine S.i fun hix => ?_ | (refine S.g fun hb => ?_; (try simp only [hb])) | (refine S.s (fun hb => ?_) (fun hb => ?_) <;> ((try simp only [hb]) <;> (try (have hp := hb; simp only [WKs] at hp; (try have hq := Int.not_le.2 hp); (try have hq := Int.not_lt.2 hp))))))
    | rintro _ _ ⟨rfl, rfl⟩
    | ((fail_if_success refine G.tr ?_); exact G.prop S.p)
    | fail) <;> (try simp only [WKb, ↓reduceIte, Nat.reduceEqDiff, Nat.reduceAdd]))))
          all_goals
            refine Tr.fin hK ⟨rfl, rfl⟩ ?_
            rw [← hfin]
            ((try clear hK) <;> (try simp only [WKe, *]) <;> repeat (first | with_reducible exact EntR.done | refine S.e ?_ | (refine S.f ?_ <;> (try simp only [WKe, ↓reduceIte, reduceCtorEq, Int.reduceEq, *])) | with_reducible apply EntR.ex | refine EntR.drop (F := F) ?_ | refine EntR.drop ?_))

end Go.Proofs.YtgkhjgpgdfbdpaaGreatDoor

namespace Go.Proofs.YtgkhjgpgdfbdpaaGreatDoor
open Go Go.Wk
set_option maxHeartbeats 6400000
set_option maxRecDepth 100000

/-! ### how long a short configuration's text is -/
theorem numL_len : ∀ {l : List Int}, (∀ n ∈ l, I64 n) → (numL l).length ≤ l.length * 21
  | [], _ => Nat.zero_le _
  | n :: l, h => by
    have h1 := decA_len (h n (List.mem_cons_self ..))
    have h2 := numL_len fun m hm => h m (List.mem_cons_of_mem _ hm)
    have e : numL (n :: l) = 32 :: (decA n ++ numL l) := by simp [numL]
    rw [e, List.length_cons, List.length_append, List.length_cons]
    omega
theorem word_len (k : Nat) : (wordU k).length ≤ 7 := by unfold wordU; split <;> decide
theorem line_len {t : Tok} (h : okTk t) (h64 : t.2.length ≤ 64) : (lineT t).length ≤ 1399 := by
  have h1 := numL_len h.2
  have h2 := word_len t.1
  unfold lineT lineU
  rw [List.length_append]
  omega
theorem text_len : ∀ {L : List Tok}, (∀ t ∈ L, okTk t ∧ t.2.length ≤ 64) → (textT L).length ≤ L.length * 1400
  | [], _ => Nat.zero_le _
  | t :: L, h => by
    obtain ⟨h1, h2⟩ := h t (List.mem_cons_self ..)
    have h3 := line_len h1 h2
    have ih := text_len fun x hx => h x (List.mem_cons_of_mem _ hx)
    rw [textT_cons, List.length_append, List.length_cons, List.length_cons]
    omega
def goodL (L : List Tok) : Prop := ∀ t ∈ L, okTk t ∧ t.2.length ≤ 64
theorem good_app {L M : List Tok} (h : goodL L) (h2 : goodL M) : goodL (L ++ M) := fun t ht => (List.mem_append.1 ht).elim (h t) (h2 t)
theorem good_map {α : Type} {f : α → Tok} {xs : List α} (h : ∀ x ∈ xs, okTk (f x) ∧ (f x).2.length ≤ 64) : goodL (xs.map f) := fun t ht => by
  obtain ⟨x, hx, rfl⟩ := List.mem_map.1 ht
  exact h x hx
theorem good_flat {α : Type} {f : α → List Tok} {xs : List α} (h : ∀ x ∈ xs, goodL (f x)) : goodL (xs.flatMap f) := fun t ht => by
  obtain ⟨x, hx, ht⟩ := List.mem_flatMap.1 ht
  exact h x hx t ht
theorem good_cons {t : Tok} {L : List Tok} (h : okTk t ∧ t.2.length ≤ 64) (h2 : goodL L) : goodL (t :: L) := fun x hx => by
  rcases List.mem_cons.1 hx with rfl | hx
  · exact h
  · exact h2 x hx
theorem good_nil : goodL [] := fun _ h => by cases h
theorem part_good {p : PartV} (ho : okPv p) (hs : shortP p) : goodL (partT p) := by
  obtain ⟨o1, o2, o3, o4, o5, o6, o7, o8, o9, o10, o11⟩ := ho
  obtain ⟨_, _, _, _, _, _, s7⟩ := hs
  rw [partT_eq]
  unfold partTs
  refine good_cons ⟨⟨show (0 : Nat) < 16 by decide, I64s o5 (I64s o8 (I64s o9 (I64s1 o10)))⟩, show (4 : Nat) ≤ 64 by decide⟩ (good_app (good_map fun x hx => ⟨reg_tk (o1 x hx), show (3 : Nat) ≤ 64 by decide⟩) (good_app (good_map fun x hx => ⟨proc_tk (o2 x hx), show (3 : Nat) ≤ 64 by decide⟩)
    (good_app (good_map fun x hx => ⟨port_tk (o3 x hx), show (4 : Nat) ≤ 64 by decide⟩) (good_app (good_map fun x hx => ⟨sem_tk (o4 x hx), show (2 : Nat) ≤ 64 by decide⟩) (good_app (good_map fun x hx => ⟨pool_tk (o6 x hx), show (2 : Nat) ≤ 64 by decide⟩)
    (good_app (good_map fun x hx => ⟨slate_tk (o7 x hx), show (1 : Nat) ≤ 64 by decide⟩) (good_cons ⟨⟨show (7 : Nat) < 16 by decide, o11⟩, s7⟩ good_nil)))))))
theorem mode_good {m : ModeV} (ho : okMo m) : goodL (modeT m) := good_cons ⟨⟨show (9 : Nat) < 16 by decide, I64s1 ho.1⟩, show (1 : Nat) ≤ 64 by decide⟩ (good_map fun x hx => ⟨win_tk (ho.2 x hx), show (3 : Nat) ≤ 64 by decide⟩)
theorem toks_good {c : ConfV} (ho : okU c) (hs : shortU c) : goodL (toksU c) := by
  obtain ⟨o1, o2, o3, o4, o5, o6, o7, o8, o9, o10, o11, o12, o13⟩ := ho
  obtain ⟨_, _, _, _, _, s6, s7, s8, _⟩ := hs
  rw [toks_eq]
  unfold restT
  exact good_app (good_flat fun p hp => part_good (o1 p hp) (s8 p hp)) (good_app (good_map fun x hx => ⟨chan_tk (o2 x hx), show (4 : Nat) ≤ 64 by decide⟩) (good_app (good_flat fun m hm => mode_good (o3 m hm)) (good_app (good_map fun x hx => ⟨level_tk (o4 x hx), show (2 : Nat) ≤ 64 by decide⟩)
    (good_app (good_map fun x hx => ⟨nap_tk (o5 x hx), show (3 : Nat) ≤ 64 by decide⟩) (good_cons ⟨⟨show (13 : Nat) < 16 by decide, I64s o6 (I64s o7 (I64s o8 (I64s o9 (I64s o10 (I64s1 o11)))))⟩, show (6 : Nat) ≤ 64 by decide⟩ (good_cons ⟨⟨show (14 : Nat) < 16 by decide, o12⟩, s6⟩ (good_cons ⟨⟨show (15 : Nat) < 16 by decide, o13⟩, s7⟩ good_nil)))))))
theorem flat_le {α β : Type} {f : α → List β} {n : Nat} : ∀ {l : List α}, (∀ x ∈ l, (f x).length ≤ n) → (l.flatMap f).length ≤ l.length * n
  | [], _ => Nat.zero_le _
  | x :: l, h => by
    have ih := flat_le fun y hy => h y (List.mem_cons_of_mem _ hy)
    have hx := h x (List.mem_cons_self ..)
    rw [List.flatMap_cons, List.length_append, List.length_cons, Nat.succ_mul]
    omega
theorem toks_many {c : ConfV} (hs : shortU c) : (toksU c).length ≤ 30000 := by
  obtain ⟨s1, s2, s3, s4, s5, s6, s7, s8, s9⟩ := hs
  have h1 : (c.parts.flatMap partT).length ≤ c.parts.length * 386 := flat_le fun p hp => by
    obtain ⟨p1, p2, p3, p4, p5, p6, _⟩ := s8 p hp
    rw [partT_eq]
    unfold partTs
    simp only [List.length_cons, List.length_append, List.length_map, List.length_nil]
    omega
  have h2 : (c.modes.flatMap modeT).length ≤ c.modes.length * 65 := flat_le fun m hm => by
    have := s9 m hm
    unfold modeT
    simp only [List.length_cons, List.length_map]
    omega
  rw [toks_eq]
  unfold restT
  simp only [List.length_cons, List.length_append, List.length_map, List.length_nil]
  have h3 := Nat.mul_le_mul_right 386 s1
  have h4 := Nat.mul_le_mul_right 65 s3
  omega
theorem short_len {c : ConfV} (ho : okU c) (hs : shortU c) : (textT (toksU c)).length ≤ 100000000 := by
  have h1 := text_len (toks_good ho hs)
  have h2 := toks_many hs
  have h3 := Nat.mul_le_mul_right 1400 h2
  omega
/-! ### whether no list is too long -/
def lens7 (p : PartD) : List Int := [(p.regions.d.length : Int), (p.procs.d.length : Int), (p.ports.d.length : Int), (p.sems.d.length : Int), (p.pools.d.length : Int), (p.slates.d.length : Int), (p.acts.d.length : Int)]
def lens0 (c : ConfD) : List Int := [(c.parts.d.length : Int), (c.chans.d.length : Int), (c.modes.d.length : Int), (c.levels.d.length : Int), (c.naps.d.length : Int), (c.down.d.length : Int), (c.up.d.length : Int)]
def lensA (c : ConfD) (i j : Nat) : List Int := lens0 c ++ ((c.parts.d.take i).flatMap lens7 ++ (c.modes.d.take j).map fun m => (m.wins.d.length : Int))
theorem lens_short (c : ConfD) : (∀ n ∈ lensA c c.parts.d.length c.modes.d.length, n ≤ 64) ↔ shortU c.v := by
  unfold lensA
  rw [List.take_length, List.take_length]
  constructor
  · intro h
    have h0 : ∀ n ∈ lens0 c, n ≤ 64 := fun n hn => h n (List.mem_append_left _ hn)
    have h1 : ∀ p ∈ c.parts.d, ∀ n ∈ lens7 p, n ≤ 64 := fun p hp n hn => h n (List.mem_append_right _ (List.mem_append_left _ (List.mem_flatMap.2 ⟨p, hp, hn⟩)))
    have h2 : ∀ m ∈ c.modes.d, (m.wins.d.length : Int) ≤ 64 := fun m hm => h _ (List.mem_append_right _ (List.mem_append_right _ (List.mem_map_of_mem (f := fun m : ModeD => (m.wins.d.length : Int)) hm)))
    unfold lens0 at h0
    simp only [List.mem_cons, List.not_mem_nil, or_false, forall_eq_or_imp, forall_eq] at h0
    refine ⟨by simp [ConfD.v]; omega, by simp [ConfD.v]; omega, by simp [ConfD.v]; omega, by simp [ConfD.v]; omega, by simp [ConfD.v]; omega, by simp [ConfD.v]; omega, by simp [ConfD.v]; omega, fun q hq => ?_, fun q hq => ?_⟩
    · obtain ⟨p, hp, rfl⟩ := List.mem_map.1 hq
      have := h1 p hp
      unfold lens7 at this
      simp only [List.mem_cons, List.not_mem_nil, or_false, forall_eq_or_imp, forall_eq] at this
      refine ⟨by simp [PartD.v]; omega, by simp [PartD.v]; omega, by simp [PartD.v]; omega, by simp [PartD.v]; omega, by simp [PartD.v]; omega, by simp [PartD.v]; omega, by simp [PartD.v]; omega⟩
    · obtain ⟨m, hm, rfl⟩ := List.mem_map.1 hq
      have := h2 m hm
      simp only [ModeD.v]
      omega
  · rintro ⟨s1, s2, s3, s4, s5, s6, s7, s8, s9⟩ n hn
    simp only [ConfD.v, List.length_map] at s1 s2 s3 s4 s5 s6 s7
    rcases List.mem_append.1 hn with hn | hn
    · unfold lens0 at hn
      simp only [List.mem_cons, List.not_mem_nil, or_false] at hn
      omega
    · rcases List.mem_append.1 hn with hn | hn
      · obtain ⟨p, hp, hn⟩ := List.mem_flatMap.1 hn
        obtain ⟨p1, p2, p3, p4, p5, p6, p7⟩ := s8 p.v (List.mem_map_of_mem hp)
        simp only [PartD.v] at p1 p2 p3 p4 p5 p6 p7
        unfold lens7 at hn
        simp only [List.mem_cons, List.not_mem_nil, or_false] at hn
        omega
      · obtain ⟨m, hm, rfl⟩ := List.mem_map.1 hn
        have := s9 m.v (List.mem_map_of_mem hm)
        simp only [ModeD.v] at this
        omega
theorem lens_p {c : ConfD} {i : Nat} (h : i < c.parts.d.length) : lensA c (i + 1) 0 = lensA c i 0 ++ lens7 (ix c.parts.d (i : Int)) := by
  have e : ix c.parts.d (i : Int) = c.parts.d[i] := by simp [ix, h]
  unfold lensA
  rw [List.take_succ_eq_append_getElem h, e, List.flatMap_append, List.flatMap_singleton]
  simp only [List.take_zero, List.map_nil, List.append_nil, List.append_assoc]
theorem lens_m {c : ConfD} {i j : Nat} (h : j < c.modes.d.length) : lensA c i (j + 1) = lensA c i j ++ [((ix c.modes.d (j : Int)).wins.d.length : Int)] := by
  have e : ix c.modes.d (j : Int) = c.modes.d[j] := by simp [ix, h]
  unfold lensA
  rw [List.take_succ_eq_append_getElem h, e, List.map_append]
  simp only [List.map_cons, List.map_nil, List.append_assoc]
theorem mem_ixU {α : Type} [Inhabited α] {xs : List α} {x : α} (h : x ∈ xs) : ∃ k : Nat, k < xs.length ∧ ix xs (k : Int) = x := by
  obtain ⟨k, hk, he⟩ := List.getElem_of_mem h
  exact ⟨k, hk, by simp [ix, hk, he]⟩
theorem lens_n {c : ConfD} {i j : Nat} : (lensA c i j).length ≤ 7 + 7 * i + j := by
  unfold lensA lens0
  have h : ((c.parts.d.take i).flatMap lens7).length ≤ (c.parts.d.take i).length * 7 := flat_le fun p _ => Nat.le_refl 7
  simp only [List.length_append, List.length_cons, List.length_nil, List.length_map]
  rw [List.length_take] at h ⊢
  have : min i c.parts.d.length * 7 ≤ i * 7 := Nat.mul_le_mul_right 7 (Nat.min_le_left ..)
  omega
attribute [local irreducible] BrK GenK EGenK EUnitK CallK FnK CallV GuardO GuardC CondW opX opK opKc chkR eqR seqK blkK endL WL WD W LoopW BinK Tr drewK resL PickK NotK NilK ExtrK getK Instr.storeAt Instr.loadAt Instr.fieldAt Instr.indexAt Instr.lookup Instr.mapUpdate Instr.box Instr.alloc Instr.build Instr.buildSlice Instr.makeSlice Instr.makeMap Instr.sliceAt Instr.field Instr.index Instr.makeInterface Instr.typeAssert Builtin.len_ Builtin.append_ Builtin.cap_ Builtin.min_ Builtin.max_ Builtin.copy_ Builtin.clear_ convert binOp mp blk rob sl sep ex fact old
attribute [local irreducible] NegK mxV bufT bldB rowT flatT lensA
theorem ushort_ok {u0 : Value} {c : ConfD} [hd : DeA u0 c] (hp : c.parts.d.length ≤ 100) (hm : c.modes.d.length ≤ 100) : Trip Tryz.prog 15 [u0].toArray [fzl [c]] fun v l' => ∃ b : Bool, (b = true ↔ shortU c.v) ∧ v = .bool b ∧ l' = [] := by
  obtain rfl := hd.h
  intro F K hK
  simp only [List.cons_append, List.nil_append]
  (refine Tr.enter (rs := [.tmp 2]) mixed fn15 rfl (by simp +arith [Tryz.ntmps15]) fun u => ?_; simp only [cd15, Tryz.f15])
  refine Tr.bound (ro := true) (v := c.parts.s.v) (xs := c.parts.d) HasS.h fun hbd0 => ?_
  refine Tr.bound (ro := true) (v := c.modes.s.v) (xs := c.modes.d) HasS.h fun hbd1 => ?_
  ((try simp only [WKb, ↓reduceIte]) <;> (repeat' ((first
    | (refine G.tr ?_; first | refine S.a ?_ | refine S.t ?_ | refine Tr.brK ?_ ?_ | refine S.n fun _ => ?_ | refine S.i fun hix => ?_ | (refine S.g fun hb => ?_; (try simp only [hb])) | (refine S.s (fun hb => ?_) (fun hb => ?_) <;> ((try simp only [hb]) <;> (try (have hp := hb; simp only [WKs] at hp; (try have hq := Int.not_le.2 hp); (try have hq := Int.not_lt.2 hp))))))
    | ((fail_if_success refine G.tr ?_); exact G.prop S.p)
    | fail) <;> (try simp only [WKb, ↓reduceIte, Nat.reduceEqDiff, Nat.reduceAdd]))))
  have hz : lensA c 0 0 = [(c.parts.d.length : Int), (c.chans.d.length : Int), (c.modes.d.length : Int), (c.levels.d.length : Int), (c.naps.d.length : Int), (c.down.d.length : Int), (c.up.d.length : Int)] := by unfold lensA; simp; rfl
  rename_i sb sv
  refine Tr.loopE (α := Nat × SV) [3, 39] [1, 2, 37, 38] (fun x => [x.2.v, .int .i64 x.1]) (fun x => [sl false x.2.v (lensA c x.1 0)]) (fun x => x.1 ≤ c.parts.d.length) (fun x => c.parts.d.length - x.1) (0, sv) (by simp only [hz]; exact (by (repeat (first | exact TakeL.nil | (apply TakeL.cons; focus ((first | exact TakeA.dupS | exact TakeA.dupF | ((repeat (first | with_reducible exact TakeA.here | exact TakeA.fam (by omega) (by omega) | with_reducible apply TakeA.next)); done) | ((repeat (first | exact TakeA.here | apply TakeA.next)); done) | exact TakeA.famNil | exact TakeA.nilS))) | fail)); done)) rfl (Nat.zero_le _) fun x u hk => ?_
  obtain ⟨k, s⟩ := x
  simp only at hk ⊢
  have hln := lens_n (c := c) (i := k) (j := 0)
  by_cases hin : k < c.parts.d.length
  · have hw := wrapSucc (k := k) (by omega)
    have hst : lensA c k 0 ++ [((ix c.parts.d (k : Int)).regions.d.length : Int), ((ix c.parts.d (k : Int)).procs.d.length : Int), ((ix c.parts.d (k : Int)).ports.d.length : Int), ((ix c.parts.d (k : Int)).sems.d.length : Int), ((ix c.parts.d (k : Int)).pools.d.length : Int), ((ix c.parts.d (k : Int)).slates.d.length : Int), ((ix c.parts.d (k : Int)).acts.d.length : Int)] = lensA c (k + 1) 0 := (lens_p hin).symm
    ((try simp only [WKb, ↓reduceIte, Nat.reduceEqDiff]) <;> (repeat' ((first
    | (refine G.tr ?_; first | refine S.a ?_ | refine S.t ?_ | refine Tr.brK ?_ ?_ | refine S.n fun _ => ?_ | refine S.i fun hix => ?_ | (refine S.g fun hb => ?_; (try simp only [hb])) | (refine S.s (fun hb => ?_) (fun hb => ?_) <;> ((try simp only [hb]) <;> (try (have hp := hb; simp only [WKs] at hp; (try have hq := Int.not_le.2 hp); (try have hq := Int.not_lt.2 hp))))))
    | ((fail_if_success refine G.tr ?_); exact G.prop S.p)
    | fail) <;> (try simp only [WKb, ↓reduceIte, Nat.reduceEqDiff, hw]))))
    all_goals
      clear hz hln
      (apply Tr.againE ((k + 1, _)); (focus (simp only [WKb, ↓reduceIte, Nat.reduceEqDiff])); (focus ((try simp only [WKb, ↓reduceIte, Nat.reduceEqDiff]); (all_goals ((repeat (refine cons_eq (by first | rfl | ((try clear hK) <;> first | (simp [*, hst]; done) | (simp [*, hst]; omega) | (simp [*, hst] <;> (try split) <;> simp_all <;> omega))) ?_)); rfl)); done)); (focus (first | omega | assumption | (simp only []; omega) | (refine ⟨by omega, by assumption⟩) | (simp only []; refine ⟨by omega, by assumption⟩) | ((try simp only []); (repeat' (first | omega | assumption | refine And.intro ?_ ?_)); done))); (focus (first | omega | (simp only []; omega))); (focus (((try clear hK) <;> (try simp only [WKe, *]) <;> repeat (first | with_reducible exact EntR.done | refine S.e ?_ | (refine S.f ?_ <;> (try simp only [WKe, hst, ↓reduceIte, reduceCtorEq, Int.reduceEq, *])) | with_reducible apply EntR.ex | refine EntR.drop (F := F) ?_ | refine EntR.drop ?_)))))
  · have hke : k = c.parts.d.length := by omega
    subst hke
    ((try simp only [WKb, ↓reduceIte, Nat.reduceEqDiff]) <;> (repeat' ((first
    | (refine G.tr ?_; first | refine S.a ?_ | refine S.t ?_ | refine Tr.brK ?_ ?_ | refine S.n fun _ => ?_ | refine S.i fun hix => ?_ | (refine S.g fun hb => ?_; (try simp only [hb])) | (refine S.s (fun hb => ?_) (fun hb => ?_) <;> ((try simp only [hb]) <;> (try (have hp := hb; simp only [WKs] at hp; (try have hq := Int.not_le.2 hp); (try have hq := Int.not_lt.2 hp))))))
    | ((fail_if_success refine G.tr ?_); exact G.prop S.p)
    | fail) <;> (try simp only [WKb, ↓reduceIte, Nat.reduceEqDiff]))))
    refine Tr.loopE (α := Nat × SV) [3, 71] [2, 69, 70] (fun x => [x.2.v, .int .i64 x.1]) (fun x => [sl false x.2.v (lensA c c.parts.d.length x.1)]) (fun x => x.1 ≤ c.modes.d.length) (fun x => c.modes.d.length - x.1) (0, s) (by (repeat (first | exact TakeL.nil | (apply TakeL.cons; focus ((first | exact TakeA.dupS | exact TakeA.dupF | ((repeat (first | with_reducible exact TakeA.here | exact TakeA.fam (by omega) (by omega) | with_reducible apply TakeA.next)); done) | ((repeat (first | exact TakeA.here | apply TakeA.next)); done) | exact TakeA.famNil | exact TakeA.nilS))) | fail)); done) rfl (Nat.zero_le _) fun x u hk => ?_
    obtain ⟨k, s2⟩ := x
    simp only at hk ⊢
    have hln := lens_n (c := c) (i := c.parts.d.length) (j := k)
    by_cases hin : k < c.modes.d.length
    · have hw := wrapSucc (k := k) (by omega)
      have hst : lensA c c.parts.d.length k ++ [((ix c.modes.d (k : Int)).wins.d.length : Int)] = lensA c c.parts.d.length (k + 1) := (lens_m hin).symm
      ((try simp only [WKb, ↓reduceIte, Nat.reduceEqDiff]) <;> (repeat' ((first
    | (refine G.tr ?_; first | refine S.a ?_ | refine S.t ?_ | refine Tr.brK ?_ ?_ | refine S.n fun _ => ?_ | refine S.i fun hix => ?_ | (refine S.g fun hb => ?_; (try simp only [hb])) | (refine S.s (fun hb => ?_) (fun hb => ?_) <;> ((try simp only [hb]) <;> (try (have hp := hb; simp only [WKs] at hp; (try have hq := Int.not_le.2 hp); (try have hq := Int.not_lt.2 hp))))))
    | ((fail_if_success refine G.tr ?_); exact G.prop S.p)
    | fail) <;> (try simp only [WKb, ↓reduceIte, Nat.reduceEqDiff, hw]))))
      all_goals
        clear hz hln
        (apply Tr.againE ((k + 1, _)); (focus (simp only [WKb, ↓reduceIte, Nat.reduceEqDiff])); (focus ((try simp only [WKb, ↓reduceIte, Nat.reduceEqDiff]); (all_goals ((repeat (refine cons_eq (by first | rfl | ((try clear hK) <;> first | (simp [*, hst]; done) | (simp [*, hst]; omega) | (simp [*, hst] <;> (try split) <;> simp_all <;> omega))) ?_)); rfl)); done)); (focus (first | omega | assumption | (simp only []; omega) | (refine ⟨by omega, by assumption⟩) | (simp only []; refine ⟨by omega, by assumption⟩) | ((try simp only []); (repeat' (first | omega | assumption | refine And.intro ?_ ?_)); done))); (focus (first | omega | (simp only []; omega))); (focus (((try clear hK) <;> (try simp only [WKe, *]) <;> repeat (first | with_reducible exact EntR.done | refine S.e ?_ | (refine S.f ?_ <;> (try simp only [WKe, hst, ↓reduceIte, reduceCtorEq, Int.reduceEq, *])) | with_reducible apply EntR.ex | refine EntR.drop (F := F) ?_ | refine EntR.drop ?_)))))
    · have hke : k = c.modes.d.length := by omega
      subst hke
      have hsh := lens_short c
      generalize hL : lensA c c.parts.d.length c.modes.d.length = L at hsh hln
      ((try simp only [WKb, ↓reduceIte, Nat.reduceEqDiff]) <;> (repeat' ((first
    | (refine G.tr ?_; first | refine S.a ?_ | refine S.t ?_ | refine Tr.brK ?_ ?_ | refine S.n fun _ => ?_ | refine S.i fun hix => ?_ | (refine S.g fun hb => ?_; (try simp only [hb])) | (refine S.s (fun hb => ?_) (fun hb => ?_) <;> ((try simp only [hb]) <;> (try (have hp := hb; simp only [WKs] at hp; (try have hq := Int.not_le.2 hp); (try have hq := Int.not_lt.2 hp))))))
    | ((fail_if_success refine G.tr ?_); exact G.prop S.p)
    | fail) <;> (try simp only [WKb, ↓reduceIte, Nat.reduceEqDiff]))))
      refine Tr.loopE (α := Nat) [2, 84] [82, 83] (fun k => [.bool false, .int .i64 k]) (fun _ => [sl false s2.v L]) (fun k => k ≤ L.length ∧ ∀ j : Nat, j < k → ix L (j : Int) ≤ 64) (fun k => L.length - k) 0 (by (repeat (first | exact TakeL.nil | (apply TakeL.cons; focus ((first | exact TakeA.dupS | exact TakeA.dupF | ((repeat (first | with_reducible exact TakeA.here | exact TakeA.fam (by omega) (by omega) | with_reducible apply TakeA.next)); done) | ((repeat (first | exact TakeA.here | apply TakeA.next)); done) | exact TakeA.famNil | exact TakeA.nilS))) | fail)); done) rfl ⟨Nat.zero_le _, fun j hj => by omega⟩ fun k u hx => ?_
      obtain ⟨hk, hI⟩ := hx
      by_cases hin : k < L.length
      · have hw := wrapSucc (k := k) (by omega)
        by_cases h64 : ix L (k : Int) ≤ 64
        · have hI' : ∀ j : Nat, j < k + 1 → ix L (j : Int) ≤ 64 := fun j hj => by
            by_cases e : j = k
            · subst e; exact h64
            · exact hI j (by omega)
          clear hsh
          ((try simp only [WKb, ↓reduceIte, Nat.reduceEqDiff]) <;> (repeat' ((first
    | (refine G.tr ?_; first | refine S.a ?_ | refine S.t ?_ | refine Tr.brK ?_ ?_ | refine S.n fun _ => ?_ | refine S.i fun hix => ?_ | (refine S.g fun hb => ?_; (try simp only [hb])) | (refine S.s (fun hb => ?_) (fun hb => ?_) <;> ((try simp only [hb]) <;> (try (have hp := hb; simp only [WKs] at hp; (try have hq := Int.not_le.2 hp); (try have hq := Int.not_lt.2 hp))))))
    | ((fail_if_success refine G.tr ?_); exact G.prop S.p)
    | fail) <;> (try simp only [WKb, ↓reduceIte, Nat.reduceEqDiff, hw]))))
          all_goals
            clear hz hI
            (apply Tr.againE (k + 1); (focus (simp only [WKb, ↓reduceIte, Nat.reduceEqDiff])); (focus ((try simp only [WKb, ↓reduceIte, Nat.reduceEqDiff]); (all_goals ((repeat (refine cons_eq (by first | rfl | (simp [*]; done)) ?_)); rfl)); done)); (focus (first | omega | assumption | (simp only []; omega) | (refine ⟨by omega, by assumption⟩) | (simp only []; refine ⟨by omega, by assumption⟩) | ((try simp only []); (repeat' (first | omega | assumption | apply hI' | refine And.intro ?_ ?_)); done))); (focus (first | omega | (simp only []; omega))); (focus (((try clear hK) <;> (try simp only [WKe, *]) <;> repeat (first | with_reducible exact EntR.done | refine S.e ?_ | (refine S.f ?_ <;> (try simp only [WKe, ↓reduceIte, reduceCtorEq, Int.reduceEq, *])) | with_reducible apply EntR.ex | refine EntR.drop (F := F) ?_ | refine EntR.drop ?_)))))
        · have hno : ¬ shortU c.v := fun h => h64 (hsh.2 h _ (ix_memU hin))
          have h64' : 64 < ix L (k : Int) := by omega
          clear hsh
          ((try simp only [WKb, ↓reduceIte, Nat.reduceEqDiff]) <;> (repeat' ((first
    | (refine G.tr ?_; first | refine S.a ?_ | refine S.t ?_ | refine Tr.brK ?_ ?_ | refine S.n fun _ => ?_ | refine S.i fun hix => ?_ | (refine S.g fun hb => ?_; (try simp only [hb])) | (refine S.s (fun hb => ?_) (fun hb => ?_) <;> ((try simp only [hb]) <;> (try (have hp := hb; simp only [WKs] at hp; (try have hq := Int.not_le.2 hp); (try have hq := Int.not_lt.2 hp))))))
    | ((fail_if_success refine G.tr ?_); exact G.prop S.p)
    | fail) <;> (try simp only [WKb, ↓reduceIte, Nat.reduceEqDiff]))))
          all_goals
            refine Tr.fin hK ⟨false, ⟨fun h => (by cases h), fun h => absurd h hno⟩, rfl, rfl⟩ ?_
            ((try clear hK) <;> (try simp only [WKe, *]) <;> repeat (first | with_reducible exact EntR.done | refine S.e ?_ | (refine S.f ?_ <;> (try simp only [WKe, ↓reduceIte, reduceCtorEq, Int.reduceEq, *])) | with_reducible apply EntR.ex | refine EntR.drop (F := F) ?_ | refine EntR.drop ?_))
      · have hyes : shortU c.v := hsh.1 fun n hn => by
          obtain ⟨j, hj, rfl⟩ := mem_ixU hn
          exact hI j (by omega)
        clear hsh
        ((try simp only [WKb, ↓reduceIte, Nat.reduceEqDiff]) <;> (repeat' ((first
    | (refine G.tr ?_; first | refine S.a ?_ | refine S.t ?_ | refine Tr.brK ?_ ?_ | refine S.n fun _ => ?_ | refine S.i fun hix => ?_ | (refine S.g fun hb => ?_; (try simp only [hb])) | (refine S.s (fun hb => ?_) (fun hb => ?_) <;> ((try simp only [hb]) <;> (try (have hp := hb; simp only [WKs] at hp; (try have hq := Int.not_le.2 hp); (try have hq := Int.not_lt.2 hp))))))
    | ((fail_if_success refine G.tr ?_); exact G.prop S.p)
    | fail) <;> (try simp only [WKb, ↓reduceIte]))))
        all_goals
          refine Tr.fin hK ⟨true, ⟨fun _ => hyes, fun _ => rfl⟩, rfl, rfl⟩ ?_
          ((try clear hK) <;> (try simp only [WKe, *]) <;> repeat (first | with_reducible exact EntR.done | refine S.e ?_ | (refine S.f ?_ <;> (try simp only [WKe, ↓reduceIte, reduceCtorEq, Int.reduceEq, *])) | with_reducible apply EntR.ex | refine EntR.drop (F := F) ?_ | refine EntR.drop ?_))
end Go.Proofs.YtgkhjgpgdfbdpaaGreatDoor

namespace Go.Proofs.YtgkhjgpgdfbdpaaGreatDoor
open Go Go.Wk
set_option maxHeartbeats 6400000
set_option maxRecDepth 100000

theorem bldInitW {b : Nat} {l F : List Asrt} {X : WP} (ht : TakeA l (blk b (.cells [.pointer none, .slice none 0 0].toArray 67 (0, 0))) F) (h : Tr (bldW b [] :: F) X) : Tr l X := Tr.imp ht (bld_init h)
theorem ushort_yes {u0 : Value} {c : ConfD} [hd : DeA u0 c] (hs : shortU c.v) (hp : c.parts.d.length ≤ 100) (hm : c.modes.d.length ≤ 100) : Trip Tryz.prog 15 [u0].toArray [fzl [c]] fun v l' => v = .bool true ∧ l' = [] :=
  (ushort_ok hp hm).mono fun v l' ⟨b, h, hv, hl⟩ => ⟨by rw [hv, h.2 hs], hl⟩
theorem ushort_no {u0 : Value} {c : ConfD} [hd : DeA u0 c] (hs : ¬ shortU c.v) (hp : c.parts.d.length ≤ 100) (hm : c.modes.d.length ≤ 100) : Trip Tryz.prog 15 [u0].toArray [fzl [c]] fun v l' => v = .bool false ∧ l' = [] :=
  (ushort_ok hp hm).mono fun v l' ⟨b, h, hv, hl⟩ => ⟨by
    cases b with
    | true => exact absurd (h.1 rfl) hs
    | false => exact hv, hl⟩


attribute [local irreducible] BrK GenK EGenK EUnitK CallK FnK CallV GuardO GuardC CondW opX opK opKc chkR eqR seqK blkK endL WL WD W LoopW BinK Tr drewK resL PickK NotK NilK ExtrK getK Instr.storeAt Instr.loadAt Instr.fieldAt Instr.indexAt Instr.lookup Instr.mapUpdate Instr.box Instr.alloc Instr.build Instr.buildSlice Instr.makeSlice Instr.makeMap Instr.sliceAt Instr.field Instr.index Instr.makeInterface Instr.typeAssert Builtin.len_ Builtin.append_ Builtin.cap_ Builtin.min_ Builtin.max_ Builtin.copy_ Builtin.clear_ convert binOp mp blk rob sl sep ex fact old
attribute [local irreducible] NegK mxV bufT bldB rowT flatT
theorem uprint_ok {u0 : Value} {c : ConfD} [hd : DeA u0 c] (ho : okU c.v) (hp : c.parts.d.length ≤ 100) (hm : c.modes.d.length ≤ 100) :
    Trip Tryz.prog 7 [u0].toArray [fzl [c]] fun v l' => v = .tuple #[.string (bstr (printU c.v).1), .int .i64 (printU c.v).2] ∧ l' = [] := by
  obtain rfl := hd.h
  intro F K hK
  simp only [List.cons_append, List.nil_append]
  by_cases hs : shortU c.v
  · have hlen := short_len ho hs
    obtain ⟨A0, eA0⟩ : ∃ A, A = ([] : List Tok) := ⟨_, rfl⟩
    have ht : toksU c.v = A0 ++ (c.parts.d.flatMap (fun p => partT p.v) ++ restL c.v) := by
      rw [toks_rest, eA0, List.nil_append]
      simp only [ConfD.v, flat_map]
    have hfull : flatT A0 (fun p => partT p.v) c.parts.d c.parts.d.length ++ textT (restL c.v) = textT (toksU c.v) := by
      rw [flat_full (C := A0 ++ c.parts.d.flatMap fun p => partT p.v) _ rfl, ← textT_app, ht, List.append_assoc]
    have hz : flatT A0 (fun p => partT p.v) c.parts.d 0 = [] := by rw [flat_zero, eA0]; rfl
    have o1 : ∀ p ∈ c.parts.d, okPv p.v := fun p hp => ho.1 p.v (List.mem_map_of_mem hp)
    refine Tr.bound (ro := true) (v := c.parts.s.v) (xs := c.parts.d) HasS.h fun hbd0 => ?_
    (refine Tr.enter (rs := [.tmp 2, .tmp 3]) mixed fn7 rfl (by simp +arith [Tryz.ntmps7]) fun u => ?_; simp only [cd7, Tryz.f7])
    ((try simp only [WKb, ↓reduceIte, WKt]) <;> (repeat' ((first
    | (refine G.tr ?_; first | refine S.a ?_ | refine S.t ?_ | refine Tr.brK ?_ ?_ | (refine G.call 15 ?_; first | refine S.c ?_ (h := ushort_yes (by assumption) ?_ ?_) | refine S.c ?_ (h := ushort_no (by assumption) ?_ ?_)) | (refine G.call 16 ?_; refine S.c ?_ (h := upart_ok (by assumption) ?_)) | (refine G.call 17 ?_; refine S.c ?_ (h := urest_ok (by assumption) ?_)) | (refine G.call 18 ?_; refine S.c ?_ (h := ublen_ok)) | (refine G.call 19 ?_; refine S.c ?_ (h := ubstr_ok)) | refine S.n fun _ => ?_ | refine S.i fun hix => ?_ | (refine S.g fun hb => ?_; (try simp only [hb])) | (refine S.s (fun hb => ?_) (fun hb => ?_) <;> ((try simp only [hb]) <;> (try (have hp := hb; simp only [WKs] at hp; (try have hq := Int.not_le.2 hp); (try have hq := Int.not_lt.2 hp))))))
    | rintro _ _ ⟨rfl, rfl⟩
    | ((fail_if_success refine G.tr ?_); exact G.prop S.p)
    | fail) <;> (try simp only [WKb, ↓reduceIte, Nat.reduceEqDiff]))))
    refine bldInitW (by (repeat (first | exact TakeA.here | apply TakeA.next)); done) ?_
    have hz0 : flatT A0 (fun p => partT p.v) c.parts.d 0 = ([] : List UInt8) := hz
    refine Tr.loopE (α := Nat) [15] [1, 2, 3, 4, 13, 14] (fun k => [.int .i64 k]) (fun k => [bldW _ (flatT A0 (fun p => partT p.v) c.parts.d k)]) (fun k => k ≤ c.parts.d.length) (fun k => c.parts.d.length - k) 0 (by simp only [hz0]; exact (by (repeat (first | exact TakeL.nil | (apply TakeL.cons; focus ((first | exact TakeA.dupS | exact TakeA.dupF | ((repeat (first | with_reducible exact TakeA.here | exact TakeA.fam (by omega) (by omega) | with_reducible apply TakeA.next)); done) | ((repeat (first | exact TakeA.here | apply TakeA.next)); done) | exact TakeA.famNil | exact TakeA.nilS))) | fail)); done)) rfl (Nat.zero_le _) fun k u hk => ?_
    by_cases hin : k < c.parts.d.length
    · have hw := wrapSucc (k := k) (by omega)
      have hx := o1 (ix c.parts.d (k : Int)) (ix_memU hin)
      have hst : flatT A0 (fun p => partT p.v) c.parts.d k ++ textT (partT (ix c.parts.d (k : Int)).v) = flatT A0 (fun p => partT p.v) c.parts.d (k + 1) := (flat_next A0 (fun p : PartD => partT p.v) hin).symm
      have hle := flat_len A0 (restL c.v) (fun p : PartD => partT p.v) (xs := c.parts.d) (k + 1) ht
      have hlk : (flatT A0 (fun p => partT p.v) c.parts.d k).length + (textT (partT (ix c.parts.d (k : Int)).v)).length = (flatT A0 (fun p => partT p.v) c.parts.d (k + 1)).length := by rw [← hst, List.length_append]
      ((try simp only [WKb, ↓reduceIte, Nat.reduceEqDiff]) <;> (repeat' ((first
    | (refine G.tr ?_; first | refine S.a ?_ | refine S.t ?_ | refine Tr.brK ?_ ?_ | (refine G.call 15 ?_; first | refine S.c ?_ (h := ushort_yes (by assumption) ?_ ?_) | refine S.c ?_ (h := ushort_no (by assumption) ?_ ?_)) | (refine G.call 16 ?_; refine S.c ?_ (h := upart_ok (by assumption) ?_)) | (refine G.call 17 ?_; refine S.c ?_ (h := urest_ok (by assumption) ?_)) | (refine G.call 18 ?_; refine S.c ?_ (h := ublen_ok)) | (refine G.call 19 ?_; refine S.c ?_ (h := ubstr_ok)) | refine S.n fun _ => ?_ | refine S.i fun hix => ?_ | (refine S.g fun hb => ?_; (try simp only [hb])) | (refine S.s (fun hb => ?_) (fun hb => ?_) <;> ((try simp only [hb]) <;> (try (have hp := hb; simp only [WKs] at hp; (try have hq := Int.not_le.2 hp); (try have hq := Int.not_lt.2 hp))))))
    | rintro _ _ ⟨rfl, rfl⟩
    | ((fail_if_success refine G.tr ?_); exact G.prop S.p)
    | fail) <;> (try simp only [WKb, ↓reduceIte, Nat.reduceEqDiff, hw]))))
      all_goals
        clear eA0 ht hfull hz hz0 hx
        (apply Tr.againE (k + 1); (focus (simp only [WKb, ↓reduceIte, Nat.reduceEqDiff])); (focus ((try simp only [WKb, ↓reduceIte]); (all_goals ((repeat (refine cons_eq (by first | rfl | ((try clear hK) <;> first | (simp [*, hst]; done) | (simp [*, hst]; omega) | (simp [*, hst] <;> (try split) <;> simp_all <;> omega))) ?_)); rfl)); done)); (focus (first | omega | assumption | (simp only []; omega) | (refine ⟨by omega, by assumption⟩) | (simp only []; refine ⟨by omega, by assumption⟩) | ((try simp only []); (repeat' (first | omega | assumption | refine And.intro ?_ ?_)); done))); (focus (first | omega | (simp only []; omega))); (focus (((try clear hK) <;> (try simp only [WKe, *]) <;> repeat (first | with_reducible exact EntR.done | refine S.e ?_ | (refine S.f ?_ <;> (try simp only [WKe, hst, ↓reduceIte, reduceCtorEq, Int.reduceEq, *])) | with_reducible apply EntR.ex | refine EntR.drop (F := F) ?_ | refine EntR.drop ?_)))))
    · have hke : k = c.parts.d.length := by omega
      subst hke
      have hlf : (flatT A0 (fun p => partT p.v) c.parts.d c.parts.d.length).length + (textT (restL c.v)).length = (textT (toksU c.v)).length := by rw [← hfull, List.length_append]
      by_cases hbig : (textT (toksU c.v)).length ≤ 65536
      · have hpr : printU c.v = (textT (toksU c.v), 0) := if_pos ⟨hs, hbig⟩
        ((try simp only [WKb, ↓reduceIte, Nat.reduceEqDiff]) <;> (repeat' ((first
    | (refine G.tr ?_; first | refine S.a ?_ | refine S.t ?_ | refine Tr.brK ?_ ?_ | (refine G.call 15 ?_; first | refine S.c ?_ (h := ushort_yes (by assumption) ?_ ?_) | refine S.c ?_ (h := ushort_no (by assumption) ?_ ?_)) | (refine G.call 16 ?_; refine S.c ?_ (h := upart_ok (by assumption) ?_)) | (refine G.call 17 ?_; refine S.c ?_ (h := urest_ok (by assumption) ?_)) | (refine G.call 18 ?_; refine S.c ?_ (h := ublen_ok)) | (refine G.call 19 ?_; refine S.c ?_ (h := ubstr_ok)) | refine S.n fun _ => ?_ | refine S.i fun hix => ?_ | (refine S.g fun hb => ?_; (try simp only [hb])) | (refine S.s (fun hb => ?_) (fun hb => ?_) <;> ((try simp only [hb]) <;> (try (have hp := hb; simp only [WKs] at hp; (try have hq := Int.not_le.2 hp); (try have hq := Int.not_lt.2 hp))))))
    | rintro _ _ ⟨rfl, rfl⟩
    | ((fail_if_success refine G.tr ?_); exact G.prop S.p)
    | fail) <;> (try simp only [WKb, ↓reduceIte, Nat.reduceEqDiff, hfull]))))
        all_goals
          refine Tr.fin hK ⟨by rw [hpr], rfl⟩ ?_
          ((try clear hK) <;> (try simp only [WKe, *]) <;> repeat (first | with_reducible exact EntR.done | refine S.e ?_ | (refine S.f ?_ <;> (try simp only [WKe, ↓reduceIte, reduceCtorEq, Int.reduceEq, *])) | with_reducible apply EntR.ex | refine EntR.drop (F := F) ?_ | refine EntR.drop ?_))
      · have hpr : printU c.v = ([], 3) := if_neg fun h => hbig h.2
        have hbig' : 65536 < (textT (toksU c.v)).length := by omega
        ((try simp only [WKb, ↓reduceIte, Nat.reduceEqDiff]) <;> (repeat' ((first
    | (refine G.tr ?_; first | refine S.a ?_ | refine S.t ?_ | refine Tr.brK ?_ ?_ | (refine G.call 15 ?_; first | refine S.c ?_ (h := ushort_yes (by assumption) ?_ ?_) | refine S.c ?_ (h := ushort_no (by assumption) ?_ ?_)) | (refine G.call 16 ?_; refine S.c ?_ (h := upart_ok (by assumption) ?_)) | (refine G.call 17 ?_; refine S.c ?_ (h := urest_ok (by assumption) ?_)) | (refine G.call 18 ?_; refine S.c ?_ (h := ublen_ok)) | (refine G.call 19 ?_; refine S.c ?_ (h := ubstr_ok)) | refine S.n fun _ => ?_ | refine S.i fun hix => ?_ | (refine S.g fun hb => ?_; (try simp only [hb])) | (refine S.s (fun hb => ?_) (fun hb => ?_) <;> ((try simp only [hb]) <;> (try (have hp := hb; simp only [WKs] at hp; (try have hq := Int.not_le.2 hp); (try have hq := Int.not_lt.2 hp))))))
    | rintro _ _ ⟨rfl, rfl⟩
    | ((fail_if_success refine G.tr ?_); exact G.prop S.p)
    | fail) <;> (try simp only [WKb, ↓reduceIte, Nat.reduceEqDiff, hfull]))))
        all_goals
          refine Tr.fin hK ⟨by rw [hpr], rfl⟩ ?_
          ((try clear hK) <;> (try simp only [WKe, *]) <;> repeat (first | with_reducible exact EntR.done | refine S.e ?_ | (refine S.f ?_ <;> (try simp only [WKe, ↓reduceIte, reduceCtorEq, Int.reduceEq, *])) | with_reducible apply EntR.ex | refine EntR.drop (F := F) ?_ | refine EntR.drop ?_))
  · have hpr : printU c.v = ([], 3) := if_neg fun h => hs h.1
    (refine Tr.enter (rs := [.tmp 2, .tmp 3]) mixed fn7 rfl (by simp +arith [Tryz.ntmps7]) fun u => ?_; simp only [cd7, Tryz.f7])
    ((try simp only [WKb, ↓reduceIte, WKt]) <;> (repeat' ((first
    | (refine G.tr ?_; first | refine S.a ?_ | refine S.t ?_ | refine Tr.brK ?_ ?_ | (refine G.call 15 ?_; first | refine S.c ?_ (h := ushort_yes (by assumption) ?_ ?_) | refine S.c ?_ (h := ushort_no (by assumption) ?_ ?_)) | (refine G.call 16 ?_; refine S.c ?_ (h := upart_ok (by assumption) ?_)) | (refine G.call 17 ?_; refine S.c ?_ (h := urest_ok (by assumption) ?_)) | (refine G.call 18 ?_; refine S.c ?_ (h := ublen_ok)) | (refine G.call 19 ?_; refine S.c ?_ (h := ubstr_ok)) | refine S.n fun _ => ?_ | refine S.i fun hix => ?_ | (refine S.g fun hb => ?_; (try simp only [hb])) | (refine S.s (fun hb => ?_) (fun hb => ?_) <;> ((try simp only [hb]) <;> (try (have hp := hb; simp only [WKs] at hp; (try have hq := Int.not_le.2 hp); (try have hq := Int.not_lt.2 hp))))))
    | rintro _ _ ⟨rfl, rfl⟩
    | ((fail_if_success refine G.tr ?_); exact G.prop S.p)
    | fail) <;> (try simp only [WKb, ↓reduceIte, Nat.reduceEqDiff]))))
    all_goals
      refine Tr.fin hK ⟨by rw [hpr], rfl⟩ ?_
      ((try clear hK) <;> (try simp only [WKe, *]) <;> repeat (first | with_reducible exact EntR.done | refine S.e ?_ | (refine S.f ?_ <;> (try simp only [WKe, ↓reduceIte, reduceCtorEq, Int.reduceEq, *])) | with_reducible apply EntR.ex | refine EntR.drop (F := F) ?_ | refine EntR.drop ?_))

end Go.Proofs.YtgkhjgpgdfbdpaaGreatDoor
