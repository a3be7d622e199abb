import Derived.Test.YtgkhjgpgdfbdpaaGreatDoorUrx
namespace Go.Proofs.YtgkhjgpgdfbdpaaGreatDoor
open Go Go.Wk
set_option maxHeartbeats 6400000
set_option maxRecDepth 100000

/-! ### partitions and modes, one by one -/
theorem map_snoc {α β : Type} {f : α → β} {xs : List α} {x : α} {y : β} (h : f x = y) : (xs ++ [x]).map f = xs.map f ++ [y] := by rw [List.map_append, ← h]; rfl
attribute [local irreducible] BrK GenK EGenK EUnitK CallK FnK CallV GuardO GuardC CondW opX opK opKc chkR eqR seqK blkK endL WL WD W LoopW BinK Tr drewK resL PickK NotK NilK ExtrK getK Instr.storeAt Instr.loadAt Instr.fieldAt Instr.indexAt Instr.lookup Instr.mapUpdate Instr.box Instr.alloc Instr.build Instr.buildSlice Instr.makeSlice Instr.makeMap Instr.sliceAt Instr.field Instr.index Instr.makeInterface Instr.typeAssert Builtin.len_ Builtin.append_ Builtin.cap_ Builtin.min_ Builtin.max_ Builtin.copy_ Builtin.clear_ convert binOp mp blk rob sl sep ex fact old
attribute [local irreducible] NegK mxV gU someU takeU truthU wordU partO modeO PartD.v ModeD.v
instance : ElT 22 PartD := ⟨⟩
theorem upart_some {b : Nat} {t : List UInt8} {a : Int} {d : Bool} {m : Int} (hr : rdOk ⟨t, a, d⟩) : Trip Tryz.prog 49 [.pointer (some ⟨b, 0, none⟩), .string (bstr [112, 97, 114, 116]), .int .i64 4, .func (.func 50) [.pointer (some ⟨b, 0, none⟩)].toArray #[]].toArray [mxB m, rdC b t a d]
    fun v l' => ∃ (s : SV) (xs : List PartD), xs.map PartD.v = (someU (wordU 0) 4 partO 64 ⟨t, a, d⟩ []).1 ∧ v = s.v ∧ l' = [sl false s.v xs, fzl xs, rdC b (someU (wordU 0) 4 partO 64 ⟨t, a, d⟩ []).2.t (someU (wordU 0) 4 partO 64 ⟨t, a, d⟩ []).2.at' (someU (wordU 0) 4 partO 64 ⟨t, a, d⟩ []).2.bad] := by
  intro F K hK
  simp only [List.cons_append, List.nil_append]
  obtain ⟨w, hw⟩ : ∃ w, w = wordU 0 := ⟨_, rfl⟩
  have hwl : [112, 97, 114, 116] = w := hw ▸ (by unfold wordU; rfl)
  rw [← hw] at hK
  rw [hwl]
  generalize hz : someU w 4 partO 64 ⟨t, a, d⟩ [] = z at hK
  (refine Tr.enter (rs := [.tmp 8]) mixed fn49 rfl (by simp +arith [Tryz.ntmps49]) fun u => ?_; simp only [cd49, Tryz.f49])
  
  ((try simp only [WKb, Nat.reduceAdd]) <;> (repeat' ((first
    | (refine G.tr ?_; first | refine S.a ?_ | refine S.t ?_ | refine Tr.brK ?_ ?_ | (refine G.call 77 ?_; first | refine S.c ?_ (h := upeekS_ok (by assumption) ?_) | refine S.c ?_ (h := upeek_ok ?_)) | (refine G.call 59 ?_; refine S.c ?_ (h := utakeR_ok (by assumption) ?_ ?_)) | (refine G.call 50 ?_; refine S.c ?_ (h := upart_mk (by assumption) (by assumption) (by assumption))) | refine S.n fun _ => ?_ | refine S.i fun hix => ?_ | (refine S.g fun hb => ?_; (try simp only [hb])) | (refine S.s (fun hb => ?_) (fun hb => ?_) <;> ((try simp only [hb]) <;> (try (have hp := hb; simp only [WKs] at hp; (try have hq := Int.not_le.2 hp); (try have hq := Int.not_lt.2 hp))))))
    | rintro _ _ ⟨_, rfl, rfl⟩
    | rintro _ _ ⟨pp, hpv, rfl, rfl⟩
    | rintro _ _ ⟨_, _, hpq, rfl, rfl⟩
    | ((fail_if_success refine G.tr ?_); exact G.prop S.p)
    | fail) <;> (try simp only [WKb, WKh, ↓reduceIte, Nat.reduceEqDiff, Nat.reduceAdd, Nat.reduceSub, Int.reduceEq, Int.reduceLT, Int.reduceLE, WKt, pl49]))))
  refine Tr.nilSl (α := PartD) ?_
  refine Tr.loopE (α := List PartD × SV × List UInt8 × Int × Bool) [8, 9] [0, 1, 2, 3] (fun x => [.slice none 0 0, x.2.1.v]) (fun x => [sl false x.2.1.v x.1, fzl x.1, rdC b x.2.2.1 x.2.2.2.1 x.2.2.2.2, mxB m])
    (fun x => someU w 4 partO (64 - x.1.length) ⟨x.2.2.1, x.2.2.2.1, x.2.2.2.2⟩ (x.1.map PartD.v) = z ∧ x.1.length ≤ 64 ∧ rdOk ⟨x.2.2.1, x.2.2.2.1, x.2.2.2.2⟩) (fun x => 65 - x.1.length) ([], ⟨none, 0, 0⟩, t, a, d) (by (repeat (first | exact TakeL.nil | (apply TakeL.cons; focus ((first | exact TakeA.dupS | exact TakeA.dupF | ((repeat (first | with_reducible exact TakeA.here | exact TakeA.fam (by omega) (by omega) | with_reducible apply TakeA.next)); done) | ((repeat (first | exact TakeA.here | apply TakeA.next)); done) | exact TakeA.famNil | exact TakeA.nilS))) | fail)); done) rfl ⟨hz, Nat.zero_le _, hr⟩ fun x u hx => ?_
  obtain ⟨out, s, t, a, d⟩ := x
  simp only at hx ⊢
  obtain ⟨hI, hol, hr⟩ := hx
  clear hz
  obtain ⟨r1, r2, r3, r4⟩ := id hr
  simp only at r1 r2 r3 r4
  cases hpk : peekU ⟨t, a, d⟩ w with
  | none =>
    have hz := some_none (many := 4) (one := partO) (out := out.map PartD.v) hpk (64 - out.length)
    rw [hI] at hz
    subst hz
    have hps : (peekU ⟨t, a, d⟩ w).isSome = false := by rw [hpk]; rfl
    ((try simp only [WKb, ↓reduceIte, Nat.reduceEqDiff]) <;> (repeat' ((first
    | (refine G.tr ?_; first | refine S.a ?_ | refine S.t ?_ | refine Tr.brK ?_ ?_ | (refine G.call 77 ?_; first | refine S.c ?_ (h := upeekS_ok (by assumption) ?_) | refine S.c ?_ (h := upeek_ok ?_)) | (refine G.call 59 ?_; refine S.c ?_ (h := utakeR_ok (by assumption) ?_ ?_)) | (refine G.call 50 ?_; refine S.c ?_ (h := upart_mk (by assumption) (by assumption) (by assumption))) | refine S.n fun _ => ?_ | refine S.i fun hix => ?_ | (refine S.g fun hb => ?_; (try simp only [hb])) | (refine S.s (fun hb => ?_) (fun hb => ?_) <;> ((try simp only [hb]) <;> (try (have hp := hb; simp only [WKs] at hp; (try have hq := Int.not_le.2 hp); (try have hq := Int.not_lt.2 hp))))))
    | rintro _ _ ⟨_, rfl, rfl⟩
    | rintro _ _ ⟨pp, hpv, rfl, rfl⟩
    | rintro _ _ ⟨_, _, hpq, rfl, rfl⟩
    | ((fail_if_success refine G.tr ?_); exact G.prop S.p)
    | fail) <;> (try simp only [WKb, ↓reduceIte, Nat.reduceEqDiff, hps]))))
    all_goals
      refine Tr.fin hK ⟨_, out, rfl, rfl, rfl⟩ ?_
      ((try clear hK) <;> (try simp only [WKe, *]) <;> repeat (first | with_reducible exact EntR.done | refine S.e ?_ | (refine S.f ?_ <;> (try simp only [WKe, ↓reduceIte, reduceCtorEq, Int.reduceEq, *])) | with_reducible apply EntR.ex | refine EntR.drop (F := F) ?_ | refine EntR.drop ?_))
  | some q =>
    by_cases h64 : out.length = 64
    · have hz : someU w 4 partO (64 - out.length) ⟨t, a, d⟩ (out.map PartD.v) = (out.map PartD.v, ⟨t, a, d⟩) := by rw [h64]; unfold someU; rfl
      rw [hI] at hz
      subst hz
      have hd64 : (out.length : Int) = 64 := by omega
      ((try simp only [WKb, ↓reduceIte, Nat.reduceEqDiff]) <;> (repeat' ((first
    | (refine G.tr ?_; first | refine S.a ?_ | refine S.t ?_ | refine Tr.brK ?_ ?_ | (refine G.call 77 ?_; first | refine S.c ?_ (h := upeekS_ok (by assumption) ?_) | refine S.c ?_ (h := upeek_ok ?_)) | (refine G.call 59 ?_; refine S.c ?_ (h := utakeR_ok (by assumption) ?_ ?_)) | (refine G.call 50 ?_; refine S.c ?_ (h := upart_mk (by assumption) (by assumption) (by assumption))) | refine S.n fun _ => ?_ | refine S.i fun hix => ?_ | (refine S.g fun hb => ?_; (try simp only [hb])) | (refine S.s (fun hb => ?_) (fun hb => ?_) <;> ((try simp only [hb]) <;> (try (have hp := hb; simp only [WKs] at hp; (try have hq := Int.not_le.2 hp); (try have hq := Int.not_lt.2 hp))))))
    | rintro _ _ ⟨_, rfl, rfl⟩
    | rintro _ _ ⟨pp, hpv, rfl, rfl⟩
    | rintro _ _ ⟨_, _, hpq, rfl, rfl⟩
    | ((fail_if_success refine G.tr ?_); exact G.prop S.p)
    | fail) <;> (try simp only [WKb, ↓reduceIte, Nat.reduceEqDiff, hd64]))))
      all_goals
        refine Tr.fin hK ⟨_, out, rfl, rfl, rfl⟩ ?_
        ((try clear hK) <;> (try simp only [WKe, *]) <;> repeat (first | with_reducible exact EntR.done | refine S.e ?_ | (refine S.f ?_ <;> (try simp only [WKe, ↓reduceIte, reduceCtorEq, Int.reduceEq, *])) | with_reducible apply EntR.ex | refine EntR.drop (F := F) ?_ | refine EntR.drop ?_))
    · have hd64 : decide ((out.length : Int) = 64) = false := decide_eq_false (by omega)
      obtain ⟨n, hn⟩ : ∃ n, 64 - out.length = n + 1 := ⟨63 - out.length, by omega⟩
      rw [hn] at hI
      have hto := take_ok (w := w) (many := 4) hr
      have h64s := take_I64 ⟨t, a, d⟩ w 4
      generalize htk : takeU ⟨t, a, d⟩ w 4 = tk at hto h64s
      obtain ⟨tl, tt, ta, td⟩ := tk
      obtain ⟨hto1, hto2⟩ := hto
      simp only at h64s
      cases td with
      | true =>
        have hz := some_stop (many := 4) (one := partO) (out := out.map PartD.v) hpk (by rw [htk]) n
        rw [hI, htk] at hz
        subst hz
        ((try simp only [WKb, ↓reduceIte, Nat.reduceEqDiff]) <;> (repeat' ((first
    | (refine G.tr ?_; first | refine S.a ?_ | refine S.t ?_ | refine Tr.brK ?_ ?_ | (refine G.call 77 ?_; first | refine S.c ?_ (h := upeekS_ok (by assumption) ?_) | refine S.c ?_ (h := upeek_ok ?_)) | (refine G.call 59 ?_; refine S.c ?_ (h := utakeR_ok (by assumption) ?_ ?_)) | (refine G.call 50 ?_; refine S.c ?_ (h := upart_mk (by assumption) (by assumption) (by assumption))) | refine S.n fun _ => ?_ | refine S.i fun hix => ?_ | (refine S.g fun hb => ?_; (try simp only [hb])) | (refine S.s (fun hb => ?_) (fun hb => ?_) <;> ((try simp only [hb]) <;> (try (have hp := hb; simp only [WKs] at hp; (try have hq := Int.not_le.2 hp); (try have hq := Int.not_lt.2 hp))))))
    | rintro _ _ ⟨_, rfl, rfl⟩
    | rintro _ _ ⟨pp, hpv, rfl, rfl⟩
    | rintro _ _ ⟨_, _, hpq, rfl, rfl⟩
    | ((fail_if_success refine G.tr ?_); exact G.prop S.p)
    | fail) <;> (try simp only [WKb, ↓reduceIte, Nat.reduceEqDiff, Int.reduceLE, hd64, htk]))))
        all_goals
          refine Tr.fin hK ⟨_, out, rfl, rfl, rfl⟩ ?_
          ((try clear hK) <;> (try simp only [WKe, *]) <;> repeat (first | with_reducible exact EntR.done | refine S.e ?_ | (refine S.f ?_ <;> (try simp only [WKe, ↓reduceIte, reduceCtorEq, Int.reduceEq, *])) | with_reducible apply EntR.ex | refine EntR.drop (F := F) ?_ | refine EntR.drop ?_))
      | false =>
        have hz := some_go (many := 4) (one := partO) (out := out.map PartD.v) hpk (by rw [htk]) n
        rw [hI, htk] at hz
        obtain ⟨_, hl, _⟩ := hto2 rfl
        simp only at hl
        have hlm : (tl.length : Int) = 4 := many_pos (by decide) hl
        have hnn : ∀ p : PartD, PartD.v p = (partO tl ⟨tt, ta, false⟩).1 → someU w 4 partO (64 - (out ++ [p]).length) ⟨((partO tl ⟨tt, ta, false⟩).2).t, ((partO tl ⟨tt, ta, false⟩).2).at', ((partO tl ⟨tt, ta, false⟩).2).bad⟩ ((out ++ [p]).map PartD.v) = z := fun p hp => by
          rw [List.length_append, List.length_singleton, map_snoc hp]
          have : 64 - (out.length + 1) = n := by omega
          rw [this, hz]
        have hlx : ∀ p : PartD, (out ++ [p]).length ≤ 64 := fun p => by rw [List.length_append, List.length_singleton]; omega
        have hmu : ∀ p : PartD, (out ++ [p]).length = out.length + 1 := fun p => by rw [List.length_append, List.length_singleton]
        have hrx : rdOk ⟨((partO tl ⟨tt, ta, false⟩).2).t, ((partO tl ⟨tt, ta, false⟩).2).at', ((partO tl ⟨tt, ta, false⟩).2).bad⟩ := part_rd _ _ hto1
        clear hz hI
        ((try simp only [WKb, ↓reduceIte, Nat.reduceEqDiff]) <;> (repeat' ((first
    | (refine G.tr ?_; first | refine S.a ?_ | refine S.t ?_ | refine Tr.brK ?_ ?_ | (refine G.call 77 ?_; first | refine S.c ?_ (h := upeekS_ok (by assumption) ?_) | refine S.c ?_ (h := upeek_ok ?_)) | (refine G.call 59 ?_; refine S.c ?_ (h := utakeR_ok (by assumption) ?_ ?_)) | (refine G.call 50 ?_; refine S.c ?_ (h := upart_mk (by assumption) (by assumption) (by assumption))) | refine S.n fun _ => ?_ | refine S.i fun hix => ?_ | (refine S.g fun hb => ?_; (try simp only [hb])) | (refine S.s (fun hb => ?_) (fun hb => ?_) <;> ((try simp only [hb]) <;> (try (have hp := hb; simp only [WKs] at hp; (try have hq := Int.not_le.2 hp); (try have hq := Int.not_lt.2 hp))))))
    | rintro _ _ ⟨_, rfl, rfl⟩
    | rintro _ _ ⟨pp, hpv, rfl, rfl⟩
    | rintro _ _ ⟨_, _, hpq, rfl, rfl⟩
    | ((fail_if_success refine G.tr ?_); exact G.prop S.p)
    | fail) <;> (try simp only [WKb, ↓reduceIte, Nat.reduceEqDiff, Int.reduceLE, hd64, htk]))))
        all_goals
          have hnx := hnn pp hpv
          have hlx := hlx pp
          have hmu := hmu pp
          clear hnn hpv
          (apply Tr.againE ((out ++ [pp], _, ((partO tl ⟨tt, ta, false⟩).2).t, ((partO tl ⟨tt, ta, false⟩).2).at', ((partO tl ⟨tt, ta, false⟩).2).bad)); (focus (simp only [WKb, ↓reduceIte, Nat.reduceEqDiff])); (focus ((try simp only [WKb, ↓reduceIte, Nat.reduceEqDiff, hw]); (all_goals ((repeat (refine cons_eq (by first | rfl | (simp [*]; done)) ?_)); rfl)); done)); (focus (first | omega | assumption | (simp only []; omega) | (refine ⟨by omega, by assumption⟩) | (simp only []; refine ⟨by omega, by assumption⟩) | ((try simp only []); (repeat' (first | omega | assumption | apply hnx | apply hlx | apply hrx | refine And.intro ?_ ?_)); done))); (focus (first | omega | (simp only []; omega))); (focus (((try clear hK) <;> (try simp only [WKe, *]) <;> repeat (first | with_reducible exact EntR.done | refine S.e ?_ | (refine S.f ?_ <;> (try simp only [WKe, ↓reduceIte, reduceCtorEq, Int.reduceEq, *])) | with_reducible apply EntR.ex | refine EntR.drop (F := F) ?_ | refine EntR.drop ?_)))))

instance : ElT 24 ModeD := ⟨⟩
theorem umode_some {b : Nat} {t : List UInt8} {a : Int} {d : Bool} {m : Int} (hr : rdOk ⟨t, a, d⟩) : Trip Tryz.prog 53 [.pointer (some ⟨b, 0, none⟩), .string (bstr [109, 111, 100, 101]), .int .i64 1, .func (.func 54) [.pointer (some ⟨b, 0, none⟩)].toArray #[]].toArray [mxB m, rdC b t a d]
    fun v l' => ∃ (s : SV) (xs : List ModeD), xs.map ModeD.v = (someU (wordU 9) 1 modeO 64 ⟨t, a, d⟩ []).1 ∧ v = s.v ∧ l' = [sl false s.v xs, fzl xs, rdC b (someU (wordU 9) 1 modeO 64 ⟨t, a, d⟩ []).2.t (someU (wordU 9) 1 modeO 64 ⟨t, a, d⟩ []).2.at' (someU (wordU 9) 1 modeO 64 ⟨t, a, d⟩ []).2.bad] := by
  intro F K hK
  simp only [List.cons_append, List.nil_append]
  obtain ⟨w, hw⟩ : ∃ w, w = wordU 9 := ⟨_, rfl⟩
  have hwl : [109, 111, 100, 101] = w := hw ▸ (by unfold wordU; rfl)
  rw [← hw] at hK
  rw [hwl]
  generalize hz : someU w 1 modeO 64 ⟨t, a, d⟩ [] = z at hK
  (refine Tr.enter (rs := [.tmp 8]) mixed fn53 rfl (by simp +arith [Tryz.ntmps53]) fun u => ?_; simp only [cd53, Tryz.f53])
  
  ((try simp only [WKb, Nat.reduceAdd]) <;> (repeat' ((first
    | (refine G.tr ?_; first | refine S.a ?_ | refine S.t ?_ | refine Tr.brK ?_ ?_ | (refine G.call 77 ?_; first | refine S.c ?_ (h := upeekS_ok (by assumption) ?_) | refine S.c ?_ (h := upeek_ok ?_)) | (refine G.call 59 ?_; refine S.c ?_ (h := utakeR_ok (by assumption) ?_ ?_)) | (refine G.call 54 ?_; refine S.c ?_ (h := umode_mk (by assumption) (by assumption) (by assumption))) | refine S.n fun _ => ?_ | refine S.i fun hix => ?_ | (refine S.g fun hb => ?_; (try simp only [hb])) | (refine S.s (fun hb => ?_) (fun hb => ?_) <;> ((try simp only [hb]) <;> (try (have hp := hb; simp only [WKs] at hp; (try have hq := Int.not_le.2 hp); (try have hq := Int.not_lt.2 hp))))))
    | rintro _ _ ⟨_, rfl, rfl⟩
    | rintro _ _ ⟨pp, hpv, rfl, rfl⟩
    | rintro _ _ ⟨_, _, hpq, rfl, rfl⟩
    | ((fail_if_success refine G.tr ?_); exact G.prop S.p)
    | fail) <;> (try simp only [WKb, WKh, ↓reduceIte, Nat.reduceEqDiff, Nat.reduceAdd, Nat.reduceSub, Int.reduceEq, Int.reduceLT, Int.reduceLE, WKt, pl53]))))
  refine Tr.nilSl (α := ModeD) ?_
  refine Tr.loopE (α := List ModeD × SV × List UInt8 × Int × Bool) [8, 9] [0, 1, 2, 3] (fun x => [.slice none 0 0, x.2.1.v]) (fun x => [sl false x.2.1.v x.1, fzl x.1, rdC b x.2.2.1 x.2.2.2.1 x.2.2.2.2, mxB m])
    (fun x => someU w 1 modeO (64 - x.1.length) ⟨x.2.2.1, x.2.2.2.1, x.2.2.2.2⟩ (x.1.map ModeD.v) = z ∧ x.1.length ≤ 64 ∧ rdOk ⟨x.2.2.1, x.2.2.2.1, x.2.2.2.2⟩) (fun x => 65 - x.1.length) ([], ⟨none, 0, 0⟩, t, a, d) (by (repeat (first | exact TakeL.nil | (apply TakeL.cons; focus ((first | exact TakeA.dupS | exact TakeA.dupF | ((repeat (first | with_reducible exact TakeA.here | exact TakeA.fam (by omega) (by omega) | with_reducible apply TakeA.next)); done) | ((repeat (first | exact TakeA.here | apply TakeA.next)); done) | exact TakeA.famNil | exact TakeA.nilS))) | fail)); done) rfl ⟨hz, Nat.zero_le _, hr⟩ fun x u hx => ?_
  obtain ⟨out, s, t, a, d⟩ := x
  simp only at hx ⊢
  obtain ⟨hI, hol, hr⟩ := hx
  clear hz
  obtain ⟨r1, r2, r3, r4⟩ := id hr
  simp only at r1 r2 r3 r4
  cases hpk : peekU ⟨t, a, d⟩ w with
  | none =>
    have hz := some_none (many := 1) (one := modeO) (out := out.map ModeD.v) hpk (64 - out.length)
    rw [hI] at hz
    subst hz
    have hps : (peekU ⟨t, a, d⟩ w).isSome = false := by rw [hpk]; rfl
    ((try simp only [WKb, ↓reduceIte, Nat.reduceEqDiff]) <;> (repeat' ((first
    | (refine G.tr ?_; first | refine S.a ?_ | refine S.t ?_ | refine Tr.brK ?_ ?_ | (refine G.call 77 ?_; first | refine S.c ?_ (h := upeekS_ok (by assumption) ?_) | refine S.c ?_ (h := upeek_ok ?_)) | (refine G.call 59 ?_; refine S.c ?_ (h := utakeR_ok (by assumption) ?_ ?_)) | (refine G.call 54 ?_; refine S.c ?_ (h := umode_mk (by assumption) (by assumption) (by assumption))) | refine S.n fun _ => ?_ | refine S.i fun hix => ?_ | (refine S.g fun hb => ?_; (try simp only [hb])) | (refine S.s (fun hb => ?_) (fun hb => ?_) <;> ((try simp only [hb]) <;> (try (have hp := hb; simp only [WKs] at hp; (try have hq := Int.not_le.2 hp); (try have hq := Int.not_lt.2 hp))))))
    | rintro _ _ ⟨_, rfl, rfl⟩
    | rintro _ _ ⟨pp, hpv, rfl, rfl⟩
    | rintro _ _ ⟨_, _, hpq, rfl, rfl⟩
    | ((fail_if_success refine G.tr ?_); exact G.prop S.p)
    | fail) <;> (try simp only [WKb, ↓reduceIte, Nat.reduceEqDiff, hps]))))
    all_goals
      refine Tr.fin hK ⟨_, out, rfl, rfl, rfl⟩ ?_
      ((try clear hK) <;> (try simp only [WKe, *]) <;> repeat (first | with_reducible exact EntR.done | refine S.e ?_ | (refine S.f ?_ <;> (try simp only [WKe, ↓reduceIte, reduceCtorEq, Int.reduceEq, *])) | with_reducible apply EntR.ex | refine EntR.drop (F := F) ?_ | refine EntR.drop ?_))
  | some q =>
    by_cases h64 : out.length = 64
    · have hz : someU w 1 modeO (64 - out.length) ⟨t, a, d⟩ (out.map ModeD.v) = (out.map ModeD.v, ⟨t, a, d⟩) := by rw [h64]; unfold someU; rfl
      rw [hI] at hz
      subst hz
      have hd64 : (out.length : Int) = 64 := by omega
      ((try simp only [WKb, ↓reduceIte, Nat.reduceEqDiff]) <;> (repeat' ((first
    | (refine G.tr ?_; first | refine S.a ?_ | refine S.t ?_ | refine Tr.brK ?_ ?_ | (refine G.call 77 ?_; first | refine S.c ?_ (h := upeekS_ok (by assumption) ?_) | refine S.c ?_ (h := upeek_ok ?_)) | (refine G.call 59 ?_; refine S.c ?_ (h := utakeR_ok (by assumption) ?_ ?_)) | (refine G.call 54 ?_; refine S.c ?_ (h := umode_mk (by assumption) (by assumption) (by assumption))) | refine S.n fun _ => ?_ | refine S.i fun hix => ?_ | (refine S.g fun hb => ?_; (try simp only [hb])) | (refine S.s (fun hb => ?_) (fun hb => ?_) <;> ((try simp only [hb]) <;> (try (have hp := hb; simp only [WKs] at hp; (try have hq := Int.not_le.2 hp); (try have hq := Int.not_lt.2 hp))))))
    | rintro _ _ ⟨_, rfl, rfl⟩
    | rintro _ _ ⟨pp, hpv, rfl, rfl⟩
    | rintro _ _ ⟨_, _, hpq, rfl, rfl⟩
    | ((fail_if_success refine G.tr ?_); exact G.prop S.p)
    | fail) <;> (try simp only [WKb, ↓reduceIte, Nat.reduceEqDiff, hd64]))))
      all_goals
        refine Tr.fin hK ⟨_, out, rfl, rfl, rfl⟩ ?_
        ((try clear hK) <;> (try simp only [WKe, *]) <;> repeat (first | with_reducible exact EntR.done | refine S.e ?_ | (refine S.f ?_ <;> (try simp only [WKe, ↓reduceIte, reduceCtorEq, Int.reduceEq, *])) | with_reducible apply EntR.ex | refine EntR.drop (F := F) ?_ | refine EntR.drop ?_))
    · have hd64 : decide ((out.length : Int) = 64) = false := decide_eq_false (by omega)
      obtain ⟨n, hn⟩ : ∃ n, 64 - out.length = n + 1 := ⟨63 - out.length, by omega⟩
      rw [hn] at hI
      have hto := take_ok (w := w) (many := 1) hr
      have h64s := take_I64 ⟨t, a, d⟩ w 1
      generalize htk : takeU ⟨t, a, d⟩ w 1 = tk at hto h64s
      obtain ⟨tl, tt, ta, td⟩ := tk
      obtain ⟨hto1, hto2⟩ := hto
      simp only at h64s
      cases td with
      | true =>
        have hz := some_stop (many := 1) (one := modeO) (out := out.map ModeD.v) hpk (by rw [htk]) n
        rw [hI, htk] at hz
        subst hz
        ((try simp only [WKb, ↓reduceIte, Nat.reduceEqDiff]) <;> (repeat' ((first
    | (refine G.tr ?_; first | refine S.a ?_ | refine S.t ?_ | refine Tr.brK ?_ ?_ | (refine G.call 77 ?_; first | refine S.c ?_ (h := upeekS_ok (by assumption) ?_) | refine S.c ?_ (h := upeek_ok ?_)) | (refine G.call 59 ?_; refine S.c ?_ (h := utakeR_ok (by assumption) ?_ ?_)) | (refine G.call 54 ?_; refine S.c ?_ (h := umode_mk (by assumption) (by assumption) (by assumption))) | refine S.n fun _ => ?_ | refine S.i fun hix => ?_ | (refine S.g fun hb => ?_; (try simp only [hb])) | (refine S.s (fun hb => ?_) (fun hb => ?_) <;> ((try simp only [hb]) <;> (try (have hp := hb; simp only [WKs] at hp; (try have hq := Int.not_le.2 hp); (try have hq := Int.not_lt.2 hp))))))
    | rintro _ _ ⟨_, rfl, rfl⟩
    | rintro _ _ ⟨pp, hpv, rfl, rfl⟩
    | rintro _ _ ⟨_, _, hpq, rfl, rfl⟩
    | ((fail_if_success refine G.tr ?_); exact G.prop S.p)
    | fail) <;> (try simp only [WKb, ↓reduceIte, Nat.reduceEqDiff, Int.reduceLE, hd64, htk]))))
        all_goals
          refine Tr.fin hK ⟨_, out, rfl, rfl, rfl⟩ ?_
          ((try clear hK) <;> (try simp only [WKe, *]) <;> repeat (first | with_reducible exact EntR.done | refine S.e ?_ | (refine S.f ?_ <;> (try simp only [WKe, ↓reduceIte, reduceCtorEq, Int.reduceEq, *])) | with_reducible apply EntR.ex | refine EntR.drop (F := F) ?_ | refine EntR.drop ?_))
      | false =>
        have hz := some_go (many := 1) (one := modeO) (out := out.map ModeD.v) hpk (by rw [htk]) n
        rw [hI, htk] at hz
        obtain ⟨_, hl, _⟩ := hto2 rfl
        simp only at hl
        have hlm : (tl.length : Int) = 1 := many_pos (by decide) hl
        have hnn : ∀ p : ModeD, ModeD.v p = (modeO tl ⟨tt, ta, false⟩).1 → someU w 1 modeO (64 - (out ++ [p]).length) ⟨((modeO tl ⟨tt, ta, false⟩).2).t, ((modeO tl ⟨tt, ta, false⟩).2).at', ((modeO tl ⟨tt, ta, false⟩).2).bad⟩ ((out ++ [p]).map ModeD.v) = z := fun p hp => by
          rw [List.length_append, List.length_singleton, map_snoc hp]
          have : 64 - (out.length + 1) = n := by omega
          rw [this, hz]
        have hlx : ∀ p : ModeD, (out ++ [p]).length ≤ 64 := fun p => by rw [List.length_append, List.length_singleton]; omega
        have hmu : ∀ p : ModeD, (out ++ [p]).length = out.length + 1 := fun p => by rw [List.length_append, List.length_singleton]
        have hrx : rdOk ⟨((modeO tl ⟨tt, ta, false⟩).2).t, ((modeO tl ⟨tt, ta, false⟩).2).at', ((modeO tl ⟨tt, ta, false⟩).2).bad⟩ := mode_rd _ _ hto1
        clear hz hI
        ((try simp only [WKb, ↓reduceIte, Nat.reduceEqDiff]) <;> (repeat' ((first
    | (refine G.tr ?_; first | refine S.a ?_ | refine S.t ?_ | refine Tr.brK ?_ ?_ | (refine G.call 77 ?_; first | refine S.c ?_ (h := upeekS_ok (by assumption) ?_) | refine S.c ?_ (h := upeek_ok ?_)) | (refine G.call 59 ?_; refine S.c ?_ (h := utakeR_ok (by assumption) ?_ ?_)) | (refine G.call 54 ?_; refine S.c ?_ (h := umode_mk (by assumption) (by assumption) (by assumption))) | refine S.n fun _ => ?_ | refine S.i fun hix => ?_ | (refine S.g fun hb => ?_; (try simp only [hb])) | (refine S.s (fun hb => ?_) (fun hb => ?_) <;> ((try simp only [hb]) <;> (try (have hp := hb; simp only [WKs] at hp; (try have hq := Int.not_le.2 hp); (try have hq := Int.not_lt.2 hp))))))
    | rintro _ _ ⟨_, rfl, rfl⟩
    | rintro _ _ ⟨pp, hpv, rfl, rfl⟩
    | rintro _ _ ⟨_, _, hpq, rfl, rfl⟩
    | ((fail_if_success refine G.tr ?_); exact G.prop S.p)
    | fail) <;> (try simp only [WKb, ↓reduceIte, Nat.reduceEqDiff, Int.reduceLE, hd64, htk]))))
        all_goals
          have hnx := hnn pp hpv
          have hlx := hlx pp
          have hmu := hmu pp
          clear hnn hpv
          (apply Tr.againE ((out ++ [pp], _, ((modeO tl ⟨tt, ta, false⟩).2).t, ((modeO tl ⟨tt, ta, false⟩).2).at', ((modeO tl ⟨tt, ta, false⟩).2).bad)); (focus (simp only [WKb, ↓reduceIte, Nat.reduceEqDiff])); (focus ((try simp only [WKb, ↓reduceIte, Nat.reduceEqDiff, hw]); (all_goals ((repeat (refine cons_eq (by first | rfl | (simp [*]; done)) ?_)); rfl)); done)); (focus (first | omega | assumption | (simp only []; omega) | (refine ⟨by omega, by assumption⟩) | (simp only []; refine ⟨by omega, by assumption⟩) | ((try simp only []); (repeat' (first | omega | assumption | apply hnx | apply hlx | apply hrx | refine And.intro ?_ ?_)); done))); (focus (first | omega | (simp only []; omega))); (focus (((try clear hK) <;> (try simp only [WKe, *]) <;> repeat (first | with_reducible exact EntR.done | refine S.e ?_ | (refine S.f ?_ <;> (try simp only [WKe, ↓reduceIte, reduceCtorEq, Int.reduceEq, *])) | with_reducible apply EntR.ex | refine EntR.drop (F := F) ?_ | refine EntR.drop ?_)))))

end Go.Proofs.YtgkhjgpgdfbdpaaGreatDoor

namespace Go.Proofs.YtgkhjgpgdfbdpaaGreatDoor
open Go Go.Wk
set_option maxHeartbeats 6400000
set_option maxRecDepth 100000

/-! ### a configuration is read -/
theorem zeros_len {m : Int} (h : 0 ≤ m) : ((zerosU m).length : Int) = m := by
  unfold zerosU
  rw [List.length_replicate, Int.max_eq_right h]
  omega
theorem take_len {r : Rd} {w : List UInt8} {m : Int} (h : 0 ≤ m) : ((takeU r w m).1.length : Int) = m := by
  unfold takeU
  cases hp : peekU r w with
  | none => exact zeros_len h
  | some l =>
    simp only
    split
    · rename_i hc
      exact many_pos h hc.1
    · exact zeros_len h
theorem utake6_ok {b : Nat} {t w : List UInt8} {a : Int} {d : Bool} {m : Int} (hr : rdOk ⟨t, a, d⟩) :
    Trip Tryz.prog 59 [.pointer (some ⟨b, 0, none⟩), .string (bstr w), .int .i64 6].toArray [mxB m, rdC b t a d]
    fun v l' => ∃ (s : SV) (l : List Int), l = (takeU ⟨t, a, d⟩ w 6).1 ∧ l.length = 6 ∧ v = s.v ∧ l' = [sl false s.v l, rdC b (takeU ⟨t, a, d⟩ w 6).2.t (takeU ⟨t, a, d⟩ w 6).2.at' (takeU ⟨t, a, d⟩ w 6).2.bad] :=
  (utakeR_ok hr (by decide) (by decide)).mono fun v l' ⟨s, hv, hl⟩ => ⟨s, _, rfl, by have := take_len (r := ⟨t, a, d⟩) (w := w) (m := 6) (by decide); omega, hv, hl⟩





theorem word13 : wordU 13 = [112, 111, 119, 101, 114] := rfl
theorem word14 : wordU 14 = [100, 111, 119, 110] := rfl
theorem word15 : wordU 15 = [117, 112] := rfl
attribute [local irreducible] BrK GenK EGenK EUnitK CallK FnK CallV GuardO GuardC CondW opX opK opKc chkR eqR seqK blkK endL WL WD W LoopW BinK Tr drewK resL PickK NotK NilK ExtrK getK Instr.storeAt Instr.loadAt Instr.fieldAt Instr.indexAt Instr.lookup Instr.mapUpdate Instr.box Instr.alloc Instr.build Instr.buildSlice Instr.makeSlice Instr.makeMap Instr.sliceAt Instr.field Instr.index Instr.makeInterface Instr.typeAssert Builtin.len_ Builtin.append_ Builtin.cap_ Builtin.min_ Builtin.max_ Builtin.copy_ Builtin.clear_ convert binOp mp blk rob sl sep ex fact old
attribute [local irreducible] NegK mxV gU someU takeU truthU wordU partO modeO PartD.v ModeD.v
theorem uconfig_ok {b : Nat} {t : List UInt8} {a : Int} {d : Bool} {m : Int} (hr : rdOk ⟨t, a, d⟩) :
    Trip Tryz.prog 27 [.pointer (some ⟨b, 0, none⟩)].toArray [mxB m, rdC b t a d]
    fun u l' => ∃ c : ConfD, c.v = (configU ⟨t, a, d⟩).1 ∧ u = .agg (En.enc c).toArray ∧ l' = [rdC b (configU ⟨t, a, d⟩).2.t (configU ⟨t, a, d⟩).2.at' (configU ⟨t, a, d⟩).2.bad, fzl [c]] := by
  intro F K hK
  simp only [List.cons_append, List.nil_append]
  have hall := @config_all ⟨t, a, d⟩
  have k1 := some_rd (w := wordU 0) (many := 4) part_rd 64 _ [] hr
  have k2 := some_rd (w := wordU 8) (many := 4) (one := chanO) (fun _ _ h => h) 64 _ [] k1
  have k3 := some_rd (w := wordU 9) (many := 1) mode_rd 64 _ [] k2
  have k4 := some_rd (w := wordU 11) (many := 2) (one := levelO) (fun _ _ h => h) 64 _ [] k3
  have k5 := some_rd (w := wordU 12) (many := 3) (one := napO) (fun _ _ h => h) 64 _ [] k4
  have k6 := (take_ok (w := [112, 111, 119, 101, 114]) (many := 6) k5).1
  have k7 := (take_ok (w := [100, 111, 119, 110]) (many := -1) k6).1
  (refine Tr.enter (rs := [.cell 2 33]) mixed fn27 rfl (by simp +arith [Tryz.ntmps27]) fun u => ?_; simp only [cd27, Tryz.f27])
  ((try simp only [WKb, WKt]) <;> (repeat' ((first
    | (refine G.tr ?_; first | refine S.a ?_ | refine S.t ?_ | refine Tr.brK ?_ ?_ | (refine G.call 49 ?_; refine S.c ?_ (h := upart_some (by assumption))) | (refine G.call 51 ?_; refine S.c ?_ (h := uchan_some (by assumption))) | (refine G.call 53 ?_; refine S.c ?_ (h := umode_some (by assumption))) | (refine G.call 55 ?_; refine S.c ?_ (h := ulevel_some (by assumption))) | (refine G.call 57 ?_; refine S.c ?_ (h := unap_some (by assumption))) | (refine G.call 59 ?_; first | refine S.c ?_ (h := utake6_ok (by assumption)) | refine S.c ?_ (h := utakeR_ok (by assumption) ?_ ?_)) | refine S.n fun _ => ?_ | refine S.i fun hix => ?_ | (refine S.g fun hb => ?_; (try simp only [hb])) | (refine S.s (fun hb => ?_) (fun hb => ?_) <;> ((try simp only [hb]) <;> (try (have hp := hb; simp only [WKs] at hp; (try have hq := Int.not_le.2 hp); (try have hq := Int.not_lt.2 hp))))))
    | rintro _ _ ⟨_, rfl, rfl⟩
    | rintro _ _ ⟨_, ll6, (hl6 : _ = (takeU _ _ _).1), hn6, rfl, rfl⟩
    | rintro _ _ ⟨_, xspart, (hpartv : List.map PartD.v _ = _), rfl, rfl⟩
    | rintro _ _ ⟨_, xsmode, (hmodev : List.map ModeD.v _ = _), rfl, rfl⟩
    | ((fail_if_success refine G.tr ?_); exact G.prop S.p)
    | fail) <;> (try simp only [WKb, ↓reduceIte, Nat.reduceEqDiff, Nat.reduceAdd, Int.reduceLE, pl27, gU_0, gU_1, gU_2, gU_3, gU_4, gU_5]))))
  rename_i s1 s2 s3 s4 s5 s6 _ _ _ _ _ s7 s8
  clear k1 k2 k3 k4 k5 k6 k7
  revert hpartv hmodev hl6
  generalize hza : someU (wordU 0) 4 partO 64 ⟨t, a, d⟩ [] = za
  generalize hzb : someU (wordU 8) 4 chanO 64 ⟨za.2.t, za.2.at', za.2.bad⟩ [] = zb
  generalize hzc : someU (wordU 9) 1 modeO 64 ⟨zb.2.t, zb.2.at', zb.2.bad⟩ [] = zc
  generalize hzd : someU (wordU 11) 2 levelO 64 ⟨zc.2.t, zc.2.at', zc.2.bad⟩ [] = zd
  generalize hze : someU (wordU 12) 3 napO 64 ⟨zd.2.t, zd.2.at', zd.2.bad⟩ [] = ze
  generalize hzf : takeU ⟨ze.2.t, ze.2.at', ze.2.bad⟩ [112, 111, 119, 101, 114] 6 = zf
  generalize hzg : takeU ⟨zf.2.t, zf.2.at', zf.2.bad⟩ [100, 111, 119, 110] (-1) = zg
  generalize hzh : takeU ⟨zg.2.t, zg.2.at', zg.2.bad⟩ [117, 112] (-1) = zh
  intro hpartv hmodev hl6
  have hP : configU ⟨t, a, d⟩ = (⟨za.1, zb.1, zc.1, zd.1, ze.1, gU zf.1 0, gU zf.1 1, gU zf.1 2, gU zf.1 3, gU zf.1 4, gU zf.1 5, zg.1, zh.1⟩, zh.2) := by
    unfold configU
    rw [word13, word14, word15, ← hzh, ← hzg, ← hzf, ← hze, ← hzd, ← hzc, ← hzb, ← hza]
  rw [hP] at hall
  simp only [hP] at hK
  clear hP hzh hzg hzf hze hzd hzc hzb hza
  subst hl6
  have hv : (⟨⟨s1, xspart⟩, ⟨s2, zb.1⟩, ⟨s3, xsmode⟩, ⟨s4, zd.1⟩, ⟨s5, ze.1⟩, gU zf.1 0, gU zf.1 1, gU zf.1 2, gU zf.1 3, gU zf.1 4, gU zf.1 5, ⟨s7, zg.1⟩, ⟨s8, zh.1⟩⟩ : ConfD).v = ⟨za.1, zb.1, zc.1, zd.1, ze.1, gU zf.1 0, gU zf.1 1, gU zf.1 2, gU zf.1 3, gU zf.1 4, gU zf.1 5, zg.1, zh.1⟩ := by
    unfold ConfD.v
    simp only [hpartv, hmodev]
  rw [← hv] at hall
  refine Tr.freezeAt (α := PartD) (v := s1.v) (by (repeat (first | exact TakeA.here | apply TakeA.next)); done) ?_
  refine Tr.freezeAt (α := ChanC) (v := s2.v) (by (repeat (first | exact TakeA.here | apply TakeA.next)); done) ?_
  refine Tr.freezeAt (α := ModeD) (v := s3.v) (by (repeat (first | exact TakeA.here | apply TakeA.next)); done) ?_
  refine Tr.freezeAt (α := LevelC) (v := s4.v) (by (repeat (first | exact TakeA.here | apply TakeA.next)); done) ?_
  refine Tr.freezeAt (α := NapC) (v := s5.v) (by (repeat (first | exact TakeA.here | apply TakeA.next)); done) ?_
  refine Tr.freezeAt (α := Int) (v := s7.v) (by (repeat (first | exact TakeA.here | apply TakeA.next)); done) ?_
  refine Tr.freezeAt (α := Int) (v := s8.v) (by (repeat (first | exact TakeA.here | apply TakeA.next)); done) ?_
  refine Tr.addZ (x := (⟨⟨s1, xspart⟩, ⟨s2, zb.1⟩, ⟨s3, xsmode⟩, ⟨s4, zd.1⟩, ⟨s5, ze.1⟩, gU zf.1 0, gU zf.1 1, gU zf.1 2, gU zf.1 3, gU zf.1 4, gU zf.1 5, ⟨s7, zg.1⟩, ⟨s8, zh.1⟩⟩ : ConfD)) (hasz_conf hall inferInstance inferInstance inferInstance inferInstance inferInstance inferInstance inferInstance) ?_
  refine Tr.fin hK ⟨⟨⟨s1, xspart⟩, ⟨s2, zb.1⟩, ⟨s3, xsmode⟩, ⟨s4, zd.1⟩, ⟨s5, ze.1⟩, gU zf.1 0, gU zf.1 1, gU zf.1 2, gU zf.1 3, gU zf.1 4, gU zf.1 5, ⟨s7, zg.1⟩, ⟨s8, zh.1⟩⟩, hv, rfl, rfl⟩ ?_
  ((try clear hK) <;> (try simp only [WKe, *]) <;> repeat (first | with_reducible exact EntR.done | refine S.e ?_ | (refine S.f ?_ <;> (try simp only [WKe, ↓reduceIte, reduceCtorEq, Int.reduceEq, *])) | with_reducible apply EntR.ex | refine EntR.drop (F := F) ?_ | refine EntR.drop ?_))

end Go.Proofs.YtgkhjgpgdfbdpaaGreatDoor

namespace Go.Proofs.YtgkhjgpgdfbdpaaGreatDoor
open Go Go.Wk
set_option maxHeartbeats 6400000
set_option maxRecDepth 100000

instance : FzD ConfD := ⟨fun R w => sepI (FzD.h R w) (sepI (FzD.h R w) (sepI (FzD.h R w) (sepI (FzD.h R w) (sepI (FzD.h R w) (sepI (FzD.h R w) (sepI (FzD.h R w) (sepI (FzD.h R w) (sepI (FzD.h R w) (sepI (FzD.h R w) (sepI (FzD.h R w) (sepI (FzD.h R w) (sepI (FzD.h R w) trivial))))))))))))⟩
attribute [local irreducible] BrK GenK EGenK EUnitK CallK FnK CallV GuardO GuardC CondW opX opK opKc chkR eqR seqK blkK endL WL WD W LoopW BinK Tr drewK resL PickK NotK NilK ExtrK getK Instr.storeAt Instr.loadAt Instr.fieldAt Instr.indexAt Instr.lookup Instr.mapUpdate Instr.box Instr.alloc Instr.build Instr.buildSlice Instr.makeSlice Instr.makeMap Instr.sliceAt Instr.field Instr.index Instr.makeInterface Instr.typeAssert Builtin.len_ Builtin.append_ Builtin.cap_ Builtin.min_ Builtin.max_ Builtin.copy_ Builtin.clear_ convert binOp mp blk rob sl sep ex fact old
attribute [local irreducible] NegK mxV gU someU takeU truthU wordU partO modeO PartD.v ModeD.v configU
theorem uread_ok {s : List UInt8} {m : Int} : Trip Tryz.prog 12 [.string (bstr s)].toArray [mxB m]
    fun v l' => ∃ c : ConfD, c.v = (readU s).1 ∧ v = .tuple #[.agg (En.enc c).toArray, .int .i64 (readU s).2.1, .int .i64 (readU s).2.2] ∧ l' = [fzl [c]] := by
  intro F K hK
  simp only [List.cons_append, List.nil_append]
  have fin0 : ∀ (l : List Asrt) (a e : Int), readU s = (ConfV.none, a, e) → EntR [] l F → Tr l (K (.tuple #[.agg (En.enc (default : ConfD)).toArray, .int .i64 a, .int .i64 e])) := fun l a e h he => by
    refine Tr.addZ (x := (default : ConfD)) inferInstance ?_
    refine Tr.fin hK ⟨default, by rw [h]; rfl, by rw [h], rfl⟩ ?_
    refine EntR.take TakeA.here ?_
    exact he
  (refine Tr.enter (rs := [.cell 2 33, .tmp 3, .tmp 4]) mixed fn12 rfl (by simp +arith [Tryz.ntmps12]) fun u => ?_; simp only [cd12, Tryz.f12])
  by_cases hbig : 65536 < s.length
  · have hR : readU s = (ConfV.none, 0, 3) := if_pos hbig
    ((try simp only [WKb, WKt]) <;> (repeat' ((first
    | (refine G.tr ?_; first | refine S.a ?_ | refine S.t ?_ | refine Tr.brK ?_ ?_ | (refine G.call 27 ?_; refine S.c ?_ (h := uconfig_ok (by assumption))) | refine S.n fun _ => ?_ | refine S.i fun hix => ?_ | (refine S.g fun hb => ?_; (try simp only [hb])) | (refine S.s (fun hb => ?_) (fun hb => ?_) <;> ((try simp only [hb]) <;> (try (have hp := hb; simp only [WKs] at hp; (try have hq := Int.not_le.2 hp); (try have hq := Int.not_lt.2 hp))))))
    | rintro _ _ ⟨_, (hconfv : ConfD.v _ = _), rfl, rfl⟩
    | ((fail_if_success refine G.tr ?_); exact G.prop S.p)
    | fail) <;> (try simp only [WKb, ↓reduceIte, Nat.reduceEqDiff, WKt]))))
    all_goals
      refine fin0 _ _ _ hR ?_
      ((try clear hK) <;> (try simp only [WKe, ↓reduceIte, reduceCtorEq, Int.reduceEq, *]) <;> repeat (first | with_reducible exact EntR.done | refine S.e ?_ | (refine S.f ?_ <;> (try simp only [WKe, ↓reduceIte, reduceCtorEq, Int.reduceEq, *])) | with_reducible apply EntR.ex | refine EntR.drop (F := F) ?_ | refine EntR.drop ?_))
  · have hsl : s.length ≤ 65536 := by omega
    have hr : rdOk ⟨s, 1, false⟩ := ⟨hsl, show (0 : Int) ≤ 1 by decide, fun _ => show (1 : Int) ≤ 1 by decide, by show (1 : Int) + (s.length : Int) ≤ 70000; omega⟩
    have hrd : readU s = if (configU ⟨s, 1, false⟩).2.bad = true ∨ (configU ⟨s, 1, false⟩).2.t ≠ [] then (ConfV.none, (configU ⟨s, 1, false⟩).2.at', 13) else ((configU ⟨s, 1, false⟩).1, 0, 0) := if_neg hbig
    generalize hq : configU ⟨s, 1, false⟩ = q at hrd
    obtain ⟨qc, qt, qa, qb⟩ := q
    simp only at hrd
    cases qb with
    | true =>
      have hR : readU s = (ConfV.none, qa, 13) := by rw [hrd]; simp
      ((try simp only [WKb, WKt]) <;> (repeat' ((first
    | (refine G.tr ?_; first | refine S.a ?_ | refine S.t ?_ | refine Tr.brK ?_ ?_ | (refine G.call 27 ?_; refine S.c ?_ (h := uconfig_ok (by assumption))) | refine S.n fun _ => ?_ | refine S.i fun hix => ?_ | (refine S.g fun hb => ?_; (try simp only [hb])) | (refine S.s (fun hb => ?_) (fun hb => ?_) <;> ((try simp only [hb]) <;> (try (have hp := hb; simp only [WKs] at hp; (try have hq := Int.not_le.2 hp); (try have hq := Int.not_lt.2 hp))))))
    | rintro _ _ ⟨_, (hconfv : ConfD.v _ = _), rfl, rfl⟩
    | ((fail_if_success refine G.tr ?_); exact G.prop S.p)
    | fail) <;> (try simp only [WKb, WKh, ↓reduceIte, Nat.reduceEqDiff, Nat.reduceAdd, WKt, pl12, hq]))))
      all_goals
        refine fin0 _ _ _ hR ?_
        ((try clear hK) <;> (try simp only [WKe, ↓reduceIte, reduceCtorEq, Int.reduceEq, *]) <;> repeat (first | with_reducible exact EntR.done | refine S.e ?_ | (refine S.f ?_ <;> (try simp only [WKe, ↓reduceIte, reduceCtorEq, Int.reduceEq, *])) | with_reducible apply EntR.ex | refine EntR.drop (F := F) ?_ | refine EntR.drop ?_))
    | false =>
      by_cases ht : qt = []
      · have hR : readU s = (qc, 0, 0) := by rw [hrd]; simp [ht]
        subst ht
        ((try simp only [WKb, WKt]) <;> (repeat' ((first
    | (refine G.tr ?_; first | refine S.a ?_ | refine S.t ?_ | refine Tr.brK ?_ ?_ | (refine G.call 27 ?_; refine S.c ?_ (h := uconfig_ok (by assumption))) | refine S.n fun _ => ?_ | refine S.i fun hix => ?_ | (refine S.g fun hb => ?_; (try simp only [hb])) | (refine S.s (fun hb => ?_) (fun hb => ?_) <;> ((try simp only [hb]) <;> (try (have hp := hb; simp only [WKs] at hp; (try have hq := Int.not_le.2 hp); (try have hq := Int.not_lt.2 hp))))))
    | rintro _ _ ⟨_, (hconfv : ConfD.v _ = _), rfl, rfl⟩
    | ((fail_if_success refine G.tr ?_); exact G.prop S.p)
    | fail) <;> (try simp only [WKb, WKh, ↓reduceIte, Nat.reduceEqDiff, Nat.reduceAdd, WKt, hq]))))
        all_goals
          refine Tr.fin hK ⟨_, by rw [hR]; exact hconfv, by rw [hR], rfl⟩ ?_
          ((try clear hK) <;> (try simp only [WKe, *]) <;> repeat (first | with_reducible exact EntR.done | refine S.e ?_ | (refine S.f ?_ <;> (try simp only [WKe, ↓reduceIte, reduceCtorEq, Int.reduceEq, *])) | with_reducible apply EntR.ex | refine EntR.drop (F := F) ?_ | refine EntR.drop ?_))
      · have hR : readU s = (ConfV.none, qa, 13) := by rw [hrd]; simp [ht]
        have hd : decide (qt = []) = false := decide_eq_false ht
        ((try simp only [WKb, WKt]) <;> (repeat' ((first
    | (refine G.tr ?_; first | refine S.a ?_ | refine S.t ?_ | refine Tr.brK ?_ ?_ | (refine G.call 27 ?_; refine S.c ?_ (h := uconfig_ok (by assumption))) | refine S.n fun _ => ?_ | refine S.i fun hix => ?_ | (refine S.g fun hb => ?_; (try simp only [hb])) | (refine S.s (fun hb => ?_) (fun hb => ?_) <;> ((try simp only [hb]) <;> (try (have hp := hb; simp only [WKs] at hp; (try have hq := Int.not_le.2 hp); (try have hq := Int.not_lt.2 hp))))))
    | rintro _ _ ⟨_, (hconfv : ConfD.v _ = _), rfl, rfl⟩
    | ((fail_if_success refine G.tr ?_); exact G.prop S.p)
    | fail) <;> (try simp only [WKb, WKh, ↓reduceIte, Nat.reduceEqDiff, Nat.reduceAdd, WKt, pl12, hq, hd]))))
        all_goals
          refine fin0 _ _ _ hR ?_
          ((try clear hK) <;> (try simp only [WKe, ↓reduceIte, reduceCtorEq, Int.reduceEq, *]) <;> repeat (first | with_reducible exact EntR.done | refine S.e ?_ | (refine S.f ?_ <;> (try simp only [WKe, ↓reduceIte, reduceCtorEq, Int.reduceEq, *])) | with_reducible apply EntR.ex | refine EntR.drop (F := F) ?_ | refine EntR.drop ?_))

end Go.Proofs.YtgkhjgpgdfbdpaaGreatDoor
