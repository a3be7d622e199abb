import Derived.Test.YtgkhjgpgdfbdpaaGreatDoorUP
namespace Go.Proofs.YtgkhjgpgdfbdpaaGreatDoor
open Go Go.Wk
set_option maxHeartbeats 6400000
set_option maxRecDepth 100000

/-! ### lines of one kind -/
def rdOk (r : Rd) : Prop := r.t.length ≤ 65536 ∧ 0 ≤ r.at' ∧ (r.bad = false → 1 ≤ r.at') ∧ r.at' + r.t.length ≤ 70000
theorem gU_ix {l : List Int} (k : Nat) : ix l (k : Int) = gU l k := by
  unfold gU ix
  rw [List.getD_eq_getElem?_getD]
  simp
theorem gU_0 {l : List Int} : ix l 0 = gU l 0 := gU_ix 0
theorem gU_1 {l : List Int} : ix l 1 = gU l 1 := gU_ix 1
theorem gU_2 {l : List Int} : ix l 2 = gU l 2 := gU_ix 2
theorem gU_3 {l : List Int} : ix l 3 = gU l 3 := gU_ix 3
theorem gU_4 {l : List Int} : ix l 4 = gU l 4 := gU_ix 4
theorem gU_5 {l : List Int} : ix l 5 = gU l 5 := gU_ix 5
theorem some_none {α : Type} {w : List UInt8} {many : Int} {one : List Int → Rd → α × Rd} {r : Rd} {out : List α} (h : peekU r w = none) : ∀ n, someU w many one n r out = (out, r)
  | 0 => rfl
  | n + 1 => by unfold someU; rw [h]
theorem some_stop {α : Type} {w : List UInt8} {many : Int} {one : List Int → Rd → α × Rd} {r : Rd} {out : List α} {q : List Int} (h : peekU r w = some q) (hb : (takeU r w many).2.bad = true) (n : Nat) : someU w many one (n + 1) r out = (out, (takeU r w many).2) := by
  unfold someU
  rw [h]
  simp only [hb, if_true]
theorem some_go {α : Type} {w : List UInt8} {many : Int} {one : List Int → Rd → α × Rd} {r : Rd} {out : List α} {q : List Int} (h : peekU r w = some q) (hb : (takeU r w many).2.bad = false) (n : Nat) :
    someU w many one (n + 1) r out = someU w many one n (one (takeU r w many).1 (takeU r w many).2).2 (out ++ [(one (takeU r w many).1 (takeU r w many).2).1]) := by
  conv => lhs; unfold someU
  simp only [h, hb]
  rfl
theorem take_ok {r : Rd} {w : List UInt8} {many : Int} (h : rdOk r) : rdOk (takeU r w many).2 ∧ ((takeU r w many).2.bad = false → 2 ≤ (takeU r w many).2.at' ∧ (many < 0 ∨ ((takeU r w many).1.length : Int) = many) ∧ (takeU r w many).1.length ≤ 64) := by
  obtain ⟨h1, h2, h3, h4⟩ := h
  have hbad : rdOk (badU r) := ⟨h1, h2, fun h => (by cases h), h4⟩
  unfold takeU
  cases hp : peekU r w with
  | none => exact ⟨hbad, fun h => (by cases h)⟩
  | some l =>
    simp only
    split
    · rename_i hc
      have he : (cutA 10 r.t).2.2 = true ∧ r.bad = false := by
        unfold peekU at hp
        split at hp
        · split at hp
          · rename_i hx
            exact ⟨hx.1, hx.2.2⟩
          · cases hp
        · cases hp
      have hc3 := (cut_le r.t).2.2 he.1
      have h31 := h3 he.2
      refine ⟨⟨?_, ?_, fun _ => ?_, ?_⟩, fun _ => ⟨?_, hc⟩⟩
      · show (cutA 10 r.t).2.1.length ≤ 65536
        omega
      · show 0 ≤ r.at' + 1
        omega
      · show 1 ≤ r.at' + 1
        omega
      · show r.at' + 1 + ((cutA 10 r.t).2.1.length : Int) ≤ 70000
        omega
      · show 2 ≤ r.at' + 1
        omega
    · exact ⟨hbad, fun h => (by cases h)⟩
attribute [local irreducible] BrK GenK EGenK EUnitK CallK FnK CallV GuardO GuardC CondW opX opK opKc chkR eqR seqK blkK endL WL WD W LoopW BinK Tr drewK resL PickK NotK NilK ExtrK getK Instr.storeAt Instr.loadAt Instr.fieldAt Instr.indexAt Instr.lookup Instr.mapUpdate Instr.box Instr.alloc Instr.build Instr.buildSlice Instr.makeSlice Instr.makeMap Instr.sliceAt Instr.field Instr.index Instr.makeInterface Instr.typeAssert Builtin.len_ Builtin.append_ Builtin.cap_ Builtin.min_ Builtin.max_ Builtin.copy_ Builtin.clear_ convert binOp mp blk rob sl sep ex fact old
attribute [local irreducible] NegK mxV gU someU takeU





theorem uchan_one {ro : Bool} {v : Value} {xs : List Int} (hx : (xs.length : Int) = 4) : Trip Tryz.prog 52 [v].toArray [sl ro v xs] fun u l' => u = .agg (En.enc (chanU xs)).toArray ∧ l' = [sl ro v xs] := by
  intro F K hK
  simp only [List.cons_append, List.nil_append]
  have g0 := @gU_0 xs
  have g1 := @gU_1 xs
  have g2 := @gU_2 xs
  have g3 := @gU_3 xs
  (refine Tr.enter (rs := [.cell 2 106]) mixed fn52 rfl (by simp +arith [Tryz.ntmps52]) fun u => ?_; simp only [cd52, Tryz.f52])
  ((try simp only [WKb]) <;> (repeat' ((first
    | (refine G.tr ?_; first | refine S.a ?_ | refine S.t ?_ | refine Tr.brK ?_ ?_ | refine S.n fun _ => ?_ | refine S.i fun hix => ?_ | (refine S.g fun hb => ?_; (try simp only [hb])) | (refine S.s (fun hb => ?_) (fun hb => ?_) <;> ((try simp only [hb]) <;> (try (have hp := hb; simp only [WKs] at hp; (try have hq := Int.not_le.2 hp); (try have hq := Int.not_lt.2 hp))))))
    | ((fail_if_success refine G.tr ?_); exact G.prop S.p)
    | fail) <;> (try simp only [WKb, WKh, ↓reduceIte, Nat.reduceEqDiff, Nat.reduceAdd, pl52, g0, g1, g2, g3]))))
  all_goals
    refine Tr.fin hK ⟨rfl, rfl⟩ ?_
    ((try clear hK) <;> (try simp only [WKe, *]) <;> repeat (first | with_reducible exact EntR.done | refine S.e ?_ | (refine S.f ?_ <;> (try simp only [WKe, ↓reduceIte, reduceCtorEq, Int.reduceEq, *])) | with_reducible apply EntR.ex | refine EntR.drop (F := F) ?_ | refine EntR.drop ?_))

instance : ElT 23 ChanC := ⟨⟩
theorem uchan_some {b : Nat} {t : List UInt8} {a : Int} {d : Bool} {m : Int} (hr : rdOk ⟨t, a, d⟩) : Trip Tryz.prog 51 [.pointer (some ⟨b, 0, none⟩), .string (bstr [99, 104, 97, 110, 110, 101, 108]), .int .i64 4, .func (.func 52) #[] #[]].toArray [mxB m, rdC b t a d]
    fun v l' => ∃ s : SV, v = s.v ∧ l' = [sl false s.v (someU (wordU 8) 4 chanO 64 ⟨t, a, d⟩ []).1, rdC b (someU (wordU 8) 4 chanO 64 ⟨t, a, d⟩ []).2.t (someU (wordU 8) 4 chanO 64 ⟨t, a, d⟩ []).2.at' (someU (wordU 8) 4 chanO 64 ⟨t, a, d⟩ []).2.bad] := by
  intro F K hK
  simp only [List.cons_append, List.nil_append]
  obtain ⟨w, hw⟩ : ∃ w, w = wordU 8 := ⟨_, rfl⟩
  have hwl : [99, 104, 97, 110, 110, 101, 108] = w := hw ▸ rfl
  rw [← hw] at hK
  rw [hwl]
  generalize hz : someU w 4 chanO 64 ⟨t, a, d⟩ [] = z at hK
  (refine Tr.enter (rs := [.tmp 8]) mixed fn51 rfl (by simp +arith [Tryz.ntmps51]) fun u => ?_; simp only [cd51, Tryz.f51])
  
  ((try simp only [WKb, Nat.reduceAdd]) <;> (repeat' ((first
    | (refine G.tr ?_; first | refine S.a ?_ | refine S.t ?_ | refine Tr.brK ?_ ?_ | (refine G.call 77 ?_; first | refine S.c ?_ (h := upeekS_ok (by assumption) ?_) | refine S.c ?_ (h := upeek_ok ?_)) | (refine G.call 59 ?_; refine S.c ?_ (h := utake_ok ?_ ?_ ?_ ?_)) | (refine G.call 52 ?_; refine S.c ?_ (h := uchan_one ?_)) | refine S.n fun _ => ?_ | refine S.i fun hix => ?_ | (refine S.g fun hb => ?_; (try simp only [hb])) | (refine S.s (fun hb => ?_) (fun hb => ?_) <;> ((try simp only [hb]) <;> (try (have hp := hb; simp only [WKs] at hp; (try have hq := Int.not_le.2 hp); (try have hq := Int.not_lt.2 hp))))))
    | rintro _ _ ⟨rfl, rfl⟩
    | rintro _ _ ⟨_, rfl, rfl⟩
    | rintro _ _ ⟨_, _, hpq, rfl, rfl⟩
    | ((fail_if_success refine G.tr ?_); exact G.prop S.p)
    | fail) <;> (try simp only [WKb, WKh, ↓reduceIte, Nat.reduceEqDiff, Nat.reduceAdd, Nat.reduceSub, Int.reduceEq, Int.reduceLT, Int.reduceLE, WKt, pl51]))))
  refine Tr.nilSl (α := ChanC) ?_
  refine Tr.loopE (α := List ChanC × SV × List UInt8 × Int × Bool) [8, 9] [0, 1, 2, 3] (fun x => [.slice none 0 0, x.2.1.v]) (fun x => [sl false x.2.1.v x.1, rdC b x.2.2.1 x.2.2.2.1 x.2.2.2.2, mxB m])
    (fun x => someU w 4 chanO (64 - x.1.length) ⟨x.2.2.1, x.2.2.2.1, x.2.2.2.2⟩ x.1 = z ∧ x.1.length ≤ 64 ∧ rdOk ⟨x.2.2.1, x.2.2.2.1, x.2.2.2.2⟩) (fun x => 65 - x.1.length) ([], ⟨none, 0, 0⟩, t, a, d) (by (repeat (first | exact TakeL.nil | (apply TakeL.cons; focus ((first | exact TakeA.dupS | exact TakeA.dupF | ((repeat (first | with_reducible exact TakeA.here | exact TakeA.fam (by omega) (by omega) | with_reducible apply TakeA.next)); done) | ((repeat (first | exact TakeA.here | apply TakeA.next)); done) | exact TakeA.famNil | exact TakeA.nilS))) | fail)); done) rfl ⟨hz, Nat.zero_le _, hr⟩ fun x u hx => ?_
  obtain ⟨out, s, t, a, d⟩ := x
  simp only at hx ⊢
  obtain ⟨hI, hol, hr⟩ := hx
  clear hz
  obtain ⟨r1, r2, r3, r4⟩ := id hr
  simp only at r1 r2 r3 r4
  cases hpk : peekU ⟨t, a, d⟩ w with
  | none =>
    have hz := some_none (many := 4) (one := chanO) (out := out) hpk (64 - out.length)
    rw [hI] at hz
    subst hz
    have hps : (peekU ⟨t, a, d⟩ w).isSome = false := by rw [hpk]; rfl
    ((try simp only [WKb, ↓reduceIte, Nat.reduceEqDiff]) <;> (repeat' ((first
    | (refine G.tr ?_; first | refine S.a ?_ | refine S.t ?_ | refine Tr.brK ?_ ?_ | (refine G.call 77 ?_; first | refine S.c ?_ (h := upeekS_ok (by assumption) ?_) | refine S.c ?_ (h := upeek_ok ?_)) | (refine G.call 59 ?_; refine S.c ?_ (h := utake_ok ?_ ?_ ?_ ?_)) | (refine G.call 52 ?_; refine S.c ?_ (h := uchan_one ?_)) | refine S.n fun _ => ?_ | refine S.i fun hix => ?_ | (refine S.g fun hb => ?_; (try simp only [hb])) | (refine S.s (fun hb => ?_) (fun hb => ?_) <;> ((try simp only [hb]) <;> (try (have hp := hb; simp only [WKs] at hp; (try have hq := Int.not_le.2 hp); (try have hq := Int.not_lt.2 hp))))))
    | rintro _ _ ⟨rfl, rfl⟩
    | rintro _ _ ⟨_, rfl, rfl⟩
    | rintro _ _ ⟨_, _, hpq, rfl, rfl⟩
    | ((fail_if_success refine G.tr ?_); exact G.prop S.p)
    | fail) <;> (try simp only [WKb, ↓reduceIte, Nat.reduceEqDiff, hps]))))
    all_goals
      refine Tr.fin hK ⟨_, rfl, rfl⟩ ?_
      ((try clear hK) <;> (try simp only [WKe, *]) <;> repeat (first | with_reducible exact EntR.done | refine S.e ?_ | (refine S.f ?_ <;> (try simp only [WKe, ↓reduceIte, reduceCtorEq, Int.reduceEq, *])) | with_reducible apply EntR.ex | refine EntR.drop (F := F) ?_ | refine EntR.drop ?_))
  | some q =>
    by_cases h64 : out.length = 64
    · have hz : someU w 4 chanO (64 - out.length) ⟨t, a, d⟩ out = (out, ⟨t, a, d⟩) := by rw [h64]; unfold someU; rfl
      rw [hI] at hz
      subst hz
      have hd64 : (out.length : Int) = 64 := by omega
      ((try simp only [WKb, ↓reduceIte, Nat.reduceEqDiff]) <;> (repeat' ((first
    | (refine G.tr ?_; first | refine S.a ?_ | refine S.t ?_ | refine Tr.brK ?_ ?_ | (refine G.call 77 ?_; first | refine S.c ?_ (h := upeekS_ok (by assumption) ?_) | refine S.c ?_ (h := upeek_ok ?_)) | (refine G.call 59 ?_; refine S.c ?_ (h := utake_ok ?_ ?_ ?_ ?_)) | (refine G.call 52 ?_; refine S.c ?_ (h := uchan_one ?_)) | refine S.n fun _ => ?_ | refine S.i fun hix => ?_ | (refine S.g fun hb => ?_; (try simp only [hb])) | (refine S.s (fun hb => ?_) (fun hb => ?_) <;> ((try simp only [hb]) <;> (try (have hp := hb; simp only [WKs] at hp; (try have hq := Int.not_le.2 hp); (try have hq := Int.not_lt.2 hp))))))
    | rintro _ _ ⟨rfl, rfl⟩
    | rintro _ _ ⟨_, rfl, rfl⟩
    | rintro _ _ ⟨_, _, hpq, rfl, rfl⟩
    | ((fail_if_success refine G.tr ?_); exact G.prop S.p)
    | fail) <;> (try simp only [WKb, ↓reduceIte, Nat.reduceEqDiff, hd64]))))
      all_goals
        refine Tr.fin hK ⟨_, rfl, rfl⟩ ?_
        ((try clear hK) <;> (try simp only [WKe, *]) <;> repeat (first | with_reducible exact EntR.done | refine S.e ?_ | (refine S.f ?_ <;> (try simp only [WKe, ↓reduceIte, reduceCtorEq, Int.reduceEq, *])) | with_reducible apply EntR.ex | refine EntR.drop (F := F) ?_ | refine EntR.drop ?_))
    · have hd64 : decide ((out.length : Int) = 64) = false := decide_eq_false (by omega)
      obtain ⟨n, hn⟩ : ∃ n, 64 - out.length = n + 1 := ⟨63 - out.length, by omega⟩
      rw [hn] at hI
      have hto := take_ok (w := w) (many := 4) hr
      generalize htk : takeU ⟨t, a, d⟩ w 4 = tk at hto
      obtain ⟨tl, tt, ta, td⟩ := tk
      obtain ⟨hto1, hto2⟩ := hto
      cases td with
      | true =>
        have hz := some_stop (many := 4) (one := chanO) (out := out) hpk (by rw [htk]) n
        rw [hI, htk] at hz
        subst hz
        ((try simp only [WKb, ↓reduceIte, Nat.reduceEqDiff]) <;> (repeat' ((first
    | (refine G.tr ?_; first | refine S.a ?_ | refine S.t ?_ | refine Tr.brK ?_ ?_ | (refine G.call 77 ?_; first | refine S.c ?_ (h := upeekS_ok (by assumption) ?_) | refine S.c ?_ (h := upeek_ok ?_)) | (refine G.call 59 ?_; refine S.c ?_ (h := utake_ok ?_ ?_ ?_ ?_)) | (refine G.call 52 ?_; refine S.c ?_ (h := uchan_one ?_)) | refine S.n fun _ => ?_ | refine S.i fun hix => ?_ | (refine S.g fun hb => ?_; (try simp only [hb])) | (refine S.s (fun hb => ?_) (fun hb => ?_) <;> ((try simp only [hb]) <;> (try (have hp := hb; simp only [WKs] at hp; (try have hq := Int.not_le.2 hp); (try have hq := Int.not_lt.2 hp))))))
    | rintro _ _ ⟨rfl, rfl⟩
    | rintro _ _ ⟨_, rfl, rfl⟩
    | rintro _ _ ⟨_, _, hpq, rfl, rfl⟩
    | ((fail_if_success refine G.tr ?_); exact G.prop S.p)
    | fail) <;> (try simp only [WKb, ↓reduceIte, Nat.reduceEqDiff, Int.reduceLE, hd64, htk]))))
        all_goals
          refine Tr.fin hK ⟨_, rfl, rfl⟩ ?_
          ((try clear hK) <;> (try simp only [WKe, *]) <;> repeat (first | with_reducible exact EntR.done | refine S.e ?_ | (refine S.f ?_ <;> (try simp only [WKe, ↓reduceIte, reduceCtorEq, Int.reduceEq, *])) | with_reducible apply EntR.ex | refine EntR.drop (F := F) ?_ | refine EntR.drop ?_))
      | false =>
        have hz := some_go (many := 4) (one := chanO) (out := out) hpk (by rw [htk]) n
        rw [hI, htk] at hz
        obtain ⟨_, hl, _⟩ := hto2 rfl
        simp only at hl
        have hlm : (tl.length : Int) = 4 := many_pos (by decide) hl
        have hnx : someU w 4 chanO (64 - (out ++ [chanU tl]).length) ⟨tt, ta, false⟩ (out ++ [chanU tl]) = z := by
          rw [List.length_append, List.length_singleton]
          have : 64 - (out.length + 1) = n := by omega
          rw [this, hz]
          rfl
        have hlx : (out ++ [chanU tl]).length ≤ 64 := by rw [List.length_append, List.length_singleton]; omega
        have hmu : (out ++ [chanU tl]).length = out.length + 1 := by rw [List.length_append, List.length_singleton]
        clear hz hI
        ((try simp only [WKb, ↓reduceIte, Nat.reduceEqDiff]) <;> (repeat' ((first
    | (refine G.tr ?_; first | refine S.a ?_ | refine S.t ?_ | refine Tr.brK ?_ ?_ | (refine G.call 77 ?_; first | refine S.c ?_ (h := upeekS_ok (by assumption) ?_) | refine S.c ?_ (h := upeek_ok ?_)) | (refine G.call 59 ?_; refine S.c ?_ (h := utake_ok ?_ ?_ ?_ ?_)) | (refine G.call 52 ?_; refine S.c ?_ (h := uchan_one ?_)) | refine S.n fun _ => ?_ | refine S.i fun hix => ?_ | (refine S.g fun hb => ?_; (try simp only [hb])) | (refine S.s (fun hb => ?_) (fun hb => ?_) <;> ((try simp only [hb]) <;> (try (have hp := hb; simp only [WKs] at hp; (try have hq := Int.not_le.2 hp); (try have hq := Int.not_lt.2 hp))))))
    | rintro _ _ ⟨rfl, rfl⟩
    | rintro _ _ ⟨_, rfl, rfl⟩
    | rintro _ _ ⟨_, _, hpq, rfl, rfl⟩
    | ((fail_if_success refine G.tr ?_); exact G.prop S.p)
    | fail) <;> (try simp only [WKb, ↓reduceIte, Nat.reduceEqDiff, Int.reduceLE, hd64, htk]))))
        all_goals
          (apply Tr.againE ((out ++ [chanU tl], _, tt, ta, false)); (focus (simp only [WKb, ↓reduceIte, Nat.reduceEqDiff])); (focus ((try simp only [WKb, ↓reduceIte, Nat.reduceEqDiff, hw]); (all_goals ((repeat (refine cons_eq (by first | rfl | (simp [*]; done)) ?_)); rfl)); done)); (focus (first | omega | assumption | (simp only []; omega) | (refine ⟨by omega, by assumption⟩) | (simp only []; refine ⟨by omega, by assumption⟩) | ((try simp only []); (repeat' (first | omega | assumption | apply hnx | apply hlx | apply hto1 | refine And.intro ?_ ?_)); done))); (focus (first | omega | (simp only []; omega))); (focus (((try clear hK) <;> (try simp only [WKe, *]) <;> repeat (first | with_reducible exact EntR.done | refine S.e ?_ | (refine S.f ?_ <;> (try simp only [WKe, ↓reduceIte, reduceCtorEq, Int.reduceEq, *])) | with_reducible apply EntR.ex | refine EntR.drop (F := F) ?_ | refine EntR.drop ?_)))))

theorem ulevel_one {ro : Bool} {v : Value} {xs : List Int} (hx : (xs.length : Int) = 2) : Trip Tryz.prog 56 [v].toArray [sl ro v xs] fun u l' => u = .agg (En.enc (levelU xs)).toArray ∧ l' = [sl ro v xs] := by
  intro F K hK
  simp only [List.cons_append, List.nil_append]
  have g0 := @gU_0 xs
  have g1 := @gU_1 xs
  have g2 := @gU_2 xs
  have g3 := @gU_3 xs
  (refine Tr.enter (rs := [.cell 2 110]) mixed fn56 rfl (by simp +arith [Tryz.ntmps56]) fun u => ?_; simp only [cd56, Tryz.f56])
  ((try simp only [WKb]) <;> (repeat' ((first
    | (refine G.tr ?_; first | refine S.a ?_ | refine S.t ?_ | refine Tr.brK ?_ ?_ | refine S.n fun _ => ?_ | refine S.i fun hix => ?_ | (refine S.g fun hb => ?_; (try simp only [hb])) | (refine S.s (fun hb => ?_) (fun hb => ?_) <;> ((try simp only [hb]) <;> (try (have hp := hb; simp only [WKs] at hp; (try have hq := Int.not_le.2 hp); (try have hq := Int.not_lt.2 hp))))))
    | ((fail_if_success refine G.tr ?_); exact G.prop S.p)
    | fail) <;> (try simp only [WKb, WKh, ↓reduceIte, Nat.reduceEqDiff, Nat.reduceAdd, pl56, g0, g1]))))
  all_goals
    refine Tr.fin hK ⟨rfl, rfl⟩ ?_
    ((try clear hK) <;> (try simp only [WKe, *]) <;> repeat (first | with_reducible exact EntR.done | refine S.e ?_ | (refine S.f ?_ <;> (try simp only [WKe, ↓reduceIte, reduceCtorEq, Int.reduceEq, *])) | with_reducible apply EntR.ex | refine EntR.drop (F := F) ?_ | refine EntR.drop ?_))

instance : ElT 25 LevelC := ⟨⟩
theorem ulevel_some {b : Nat} {t : List UInt8} {a : Int} {d : Bool} {m : Int} (hr : rdOk ⟨t, a, d⟩) : Trip Tryz.prog 55 [.pointer (some ⟨b, 0, none⟩), .string (bstr [108, 101, 118, 101, 108]), .int .i64 2, .func (.func 56) #[] #[]].toArray [mxB m, rdC b t a d]
    fun v l' => ∃ s : SV, v = s.v ∧ l' = [sl false s.v (someU (wordU 11) 2 levelO 64 ⟨t, a, d⟩ []).1, rdC b (someU (wordU 11) 2 levelO 64 ⟨t, a, d⟩ []).2.t (someU (wordU 11) 2 levelO 64 ⟨t, a, d⟩ []).2.at' (someU (wordU 11) 2 levelO 64 ⟨t, a, d⟩ []).2.bad] := by
  intro F K hK
  simp only [List.cons_append, List.nil_append]
  obtain ⟨w, hw⟩ : ∃ w, w = wordU 11 := ⟨_, rfl⟩
  have hwl : [108, 101, 118, 101, 108] = w := hw ▸ rfl
  rw [← hw] at hK
  rw [hwl]
  generalize hz : someU w 2 levelO 64 ⟨t, a, d⟩ [] = z at hK
  (refine Tr.enter (rs := [.tmp 8]) mixed fn55 rfl (by simp +arith [Tryz.ntmps55]) fun u => ?_; simp only [cd55, Tryz.f55])
  
  ((try simp only [WKb, Nat.reduceAdd]) <;> (repeat' ((first
    | (refine G.tr ?_; first | refine S.a ?_ | refine S.t ?_ | refine Tr.brK ?_ ?_ | (refine G.call 77 ?_; first | refine S.c ?_ (h := upeekS_ok (by assumption) ?_) | refine S.c ?_ (h := upeek_ok ?_)) | (refine G.call 59 ?_; refine S.c ?_ (h := utake_ok ?_ ?_ ?_ ?_)) | (refine G.call 56 ?_; refine S.c ?_ (h := ulevel_one ?_)) | refine S.n fun _ => ?_ | refine S.i fun hix => ?_ | (refine S.g fun hb => ?_; (try simp only [hb])) | (refine S.s (fun hb => ?_) (fun hb => ?_) <;> ((try simp only [hb]) <;> (try (have hp := hb; simp only [WKs] at hp; (try have hq := Int.not_le.2 hp); (try have hq := Int.not_lt.2 hp))))))
    | rintro _ _ ⟨rfl, rfl⟩
    | rintro _ _ ⟨_, rfl, rfl⟩
    | rintro _ _ ⟨_, _, hpq, rfl, rfl⟩
    | ((fail_if_success refine G.tr ?_); exact G.prop S.p)
    | fail) <;> (try simp only [WKb, WKh, ↓reduceIte, Nat.reduceEqDiff, Nat.reduceAdd, Nat.reduceSub, Int.reduceEq, Int.reduceLT, Int.reduceLE, WKt, pl55]))))
  refine Tr.nilSl (α := LevelC) ?_
  refine Tr.loopE (α := List LevelC × SV × List UInt8 × Int × Bool) [8, 9] [0, 1, 2, 3] (fun x => [.slice none 0 0, x.2.1.v]) (fun x => [sl false x.2.1.v x.1, rdC b x.2.2.1 x.2.2.2.1 x.2.2.2.2, mxB m])
    (fun x => someU w 2 levelO (64 - x.1.length) ⟨x.2.2.1, x.2.2.2.1, x.2.2.2.2⟩ x.1 = z ∧ x.1.length ≤ 64 ∧ rdOk ⟨x.2.2.1, x.2.2.2.1, x.2.2.2.2⟩) (fun x => 65 - x.1.length) ([], ⟨none, 0, 0⟩, t, a, d) (by (repeat (first | exact TakeL.nil | (apply TakeL.cons; focus ((first | exact TakeA.dupS | exact TakeA.dupF | ((repeat (first | with_reducible exact TakeA.here | exact TakeA.fam (by omega) (by omega) | with_reducible apply TakeA.next)); done) | ((repeat (first | exact TakeA.here | apply TakeA.next)); done) | exact TakeA.famNil | exact TakeA.nilS))) | fail)); done) rfl ⟨hz, Nat.zero_le _, hr⟩ fun x u hx => ?_
  obtain ⟨out, s, t, a, d⟩ := x
  simp only at hx ⊢
  obtain ⟨hI, hol, hr⟩ := hx
  clear hz
  obtain ⟨r1, r2, r3, r4⟩ := id hr
  simp only at r1 r2 r3 r4
  cases hpk : peekU ⟨t, a, d⟩ w with
  | none =>
    have hz := some_none (many := 2) (one := levelO) (out := out) hpk (64 - out.length)
    rw [hI] at hz
    subst hz
    have hps : (peekU ⟨t, a, d⟩ w).isSome = false := by rw [hpk]; rfl
    ((try simp only [WKb, ↓reduceIte, Nat.reduceEqDiff]) <;> (repeat' ((first
    | (refine G.tr ?_; first | refine S.a ?_ | refine S.t ?_ | refine Tr.brK ?_ ?_ | (refine G.call 77 ?_; first | refine S.c ?_ (h := upeekS_ok (by assumption) ?_) | refine S.c ?_ (h := upeek_ok ?_)) | (refine G.call 59 ?_; refine S.c ?_ (h := utake_ok ?_ ?_ ?_ ?_)) | (refine G.call 56 ?_; refine S.c ?_ (h := ulevel_one ?_)) | refine S.n fun _ => ?_ | refine S.i fun hix => ?_ | (refine S.g fun hb => ?_; (try simp only [hb])) | (refine S.s (fun hb => ?_) (fun hb => ?_) <;> ((try simp only [hb]) <;> (try (have hp := hb; simp only [WKs] at hp; (try have hq := Int.not_le.2 hp); (try have hq := Int.not_lt.2 hp))))))
    | rintro _ _ ⟨rfl, rfl⟩
    | rintro _ _ ⟨_, rfl, rfl⟩
    | rintro _ _ ⟨_, _, hpq, rfl, rfl⟩
    | ((fail_if_success refine G.tr ?_); exact G.prop S.p)
    | fail) <;> (try simp only [WKb, ↓reduceIte, Nat.reduceEqDiff, hps]))))
    all_goals
      refine Tr.fin hK ⟨_, rfl, rfl⟩ ?_
      ((try clear hK) <;> (try simp only [WKe, *]) <;> repeat (first | with_reducible exact EntR.done | refine S.e ?_ | (refine S.f ?_ <;> (try simp only [WKe, ↓reduceIte, reduceCtorEq, Int.reduceEq, *])) | with_reducible apply EntR.ex | refine EntR.drop (F := F) ?_ | refine EntR.drop ?_))
  | some q =>
    by_cases h64 : out.length = 64
    · have hz : someU w 2 levelO (64 - out.length) ⟨t, a, d⟩ out = (out, ⟨t, a, d⟩) := by rw [h64]; unfold someU; rfl
      rw [hI] at hz
      subst hz
      have hd64 : (out.length : Int) = 64 := by omega
      ((try simp only [WKb, ↓reduceIte, Nat.reduceEqDiff]) <;> (repeat' ((first
    | (refine G.tr ?_; first | refine S.a ?_ | refine S.t ?_ | refine Tr.brK ?_ ?_ | (refine G.call 77 ?_; first | refine S.c ?_ (h := upeekS_ok (by assumption) ?_) | refine S.c ?_ (h := upeek_ok ?_)) | (refine G.call 59 ?_; refine S.c ?_ (h := utake_ok ?_ ?_ ?_ ?_)) | (refine G.call 56 ?_; refine S.c ?_ (h := ulevel_one ?_)) | refine S.n fun _ => ?_ | refine S.i fun hix => ?_ | (refine S.g fun hb => ?_; (try simp only [hb])) | (refine S.s (fun hb => ?_) (fun hb => ?_) <;> ((try simp only [hb]) <;> (try (have hp := hb; simp only [WKs] at hp; (try have hq := Int.not_le.2 hp); (try have hq := Int.not_lt.2 hp))))))
    | rintro _ _ ⟨rfl, rfl⟩
    | rintro _ _ ⟨_, rfl, rfl⟩
    | rintro _ _ ⟨_, _, hpq, rfl, rfl⟩
    | ((fail_if_success refine G.tr ?_); exact G.prop S.p)
    | fail) <;> (try simp only [WKb, ↓reduceIte, Nat.reduceEqDiff, hd64]))))
      all_goals
        refine Tr.fin hK ⟨_, rfl, rfl⟩ ?_
        ((try clear hK) <;> (try simp only [WKe, *]) <;> repeat (first | with_reducible exact EntR.done | refine S.e ?_ | (refine S.f ?_ <;> (try simp only [WKe, ↓reduceIte, reduceCtorEq, Int.reduceEq, *])) | with_reducible apply EntR.ex | refine EntR.drop (F := F) ?_ | refine EntR.drop ?_))
    · have hd64 : decide ((out.length : Int) = 64) = false := decide_eq_false (by omega)
      obtain ⟨n, hn⟩ : ∃ n, 64 - out.length = n + 1 := ⟨63 - out.length, by omega⟩
      rw [hn] at hI
      have hto := take_ok (w := w) (many := 2) hr
      generalize htk : takeU ⟨t, a, d⟩ w 2 = tk at hto
      obtain ⟨tl, tt, ta, td⟩ := tk
      obtain ⟨hto1, hto2⟩ := hto
      cases td with
      | true =>
        have hz := some_stop (many := 2) (one := levelO) (out := out) hpk (by rw [htk]) n
        rw [hI, htk] at hz
        subst hz
        ((try simp only [WKb, ↓reduceIte, Nat.reduceEqDiff]) <;> (repeat' ((first
    | (refine G.tr ?_; first | refine S.a ?_ | refine S.t ?_ | refine Tr.brK ?_ ?_ | (refine G.call 77 ?_; first | refine S.c ?_ (h := upeekS_ok (by assumption) ?_) | refine S.c ?_ (h := upeek_ok ?_)) | (refine G.call 59 ?_; refine S.c ?_ (h := utake_ok ?_ ?_ ?_ ?_)) | (refine G.call 56 ?_; refine S.c ?_ (h := ulevel_one ?_)) | refine S.n fun _ => ?_ | refine S.i fun hix => ?_ | (refine S.g fun hb => ?_; (try simp only [hb])) | (refine S.s (fun hb => ?_) (fun hb => ?_) <;> ((try simp only [hb]) <;> (try (have hp := hb; simp only [WKs] at hp; (try have hq := Int.not_le.2 hp); (try have hq := Int.not_lt.2 hp))))))
    | rintro _ _ ⟨rfl, rfl⟩
    | rintro _ _ ⟨_, rfl, rfl⟩
    | rintro _ _ ⟨_, _, hpq, rfl, rfl⟩
    | ((fail_if_success refine G.tr ?_); exact G.prop S.p)
    | fail) <;> (try simp only [WKb, ↓reduceIte, Nat.reduceEqDiff, Int.reduceLE, hd64, htk]))))
        all_goals
          refine Tr.fin hK ⟨_, rfl, rfl⟩ ?_
          ((try clear hK) <;> (try simp only [WKe, *]) <;> repeat (first | with_reducible exact EntR.done | refine S.e ?_ | (refine S.f ?_ <;> (try simp only [WKe, ↓reduceIte, reduceCtorEq, Int.reduceEq, *])) | with_reducible apply EntR.ex | refine EntR.drop (F := F) ?_ | refine EntR.drop ?_))
      | false =>
        have hz := some_go (many := 2) (one := levelO) (out := out) hpk (by rw [htk]) n
        rw [hI, htk] at hz
        obtain ⟨_, hl, _⟩ := hto2 rfl
        simp only at hl
        have hlm : (tl.length : Int) = 2 := many_pos (by decide) hl
        have hnx : someU w 2 levelO (64 - (out ++ [levelU tl]).length) ⟨tt, ta, false⟩ (out ++ [levelU tl]) = z := by
          rw [List.length_append, List.length_singleton]
          have : 64 - (out.length + 1) = n := by omega
          rw [this, hz]
          rfl
        have hlx : (out ++ [levelU tl]).length ≤ 64 := by rw [List.length_append, List.length_singleton]; omega
        have hmu : (out ++ [levelU tl]).length = out.length + 1 := by rw [List.length_append, List.length_singleton]
        clear hz hI
        ((try simp only [WKb, ↓reduceIte, Nat.reduceEqDiff]) <;> (repeat' ((first
    | (refine G.tr ?_; first | refine S.a ?_ | refine S.t ?_ | refine Tr.brK ?_ ?_ | (refine G.call 77 ?_; first | refine S.c ?_ (h := upeekS_ok (by assumption) ?_) | refine S.c ?_ (h := upeek_ok ?_)) | (refine G.call 59 ?_; refine S.c ?_ (h := utake_ok ?_ ?_ ?_ ?_)) | (refine G.call 56 ?_; refine S.c ?_ (h := ulevel_one ?_)) | refine S.n fun _ => ?_ | refine S.i fun hix => ?_ | (refine S.g fun hb => ?_; (try simp only [hb])) | (refine S.s (fun hb => ?_) (fun hb => ?_) <;> ((try simp only [hb]) <;> (try (have hp := hb; simp only [WKs] at hp; (try have hq := Int.not_le.2 hp); (try have hq := Int.not_lt.2 hp))))))
    | rintro _ _ ⟨rfl, rfl⟩
    | rintro _ _ ⟨_, rfl, rfl⟩
    | rintro _ _ ⟨_, _, hpq, rfl, rfl⟩
    | ((fail_if_success refine G.tr ?_); exact G.prop S.p)
    | fail) <;> (try simp only [WKb, ↓reduceIte, Nat.reduceEqDiff, Int.reduceLE, hd64, htk]))))
        all_goals
          (apply Tr.againE ((out ++ [levelU tl], _, tt, ta, false)); (focus (simp only [WKb, ↓reduceIte, Nat.reduceEqDiff])); (focus ((try simp only [WKb, ↓reduceIte, Nat.reduceEqDiff, hw]); (all_goals ((repeat (refine cons_eq (by first | rfl | (simp [*]; done)) ?_)); rfl)); done)); (focus (first | omega | assumption | (simp only []; omega) | (refine ⟨by omega, by assumption⟩) | (simp only []; refine ⟨by omega, by assumption⟩) | ((try simp only []); (repeat' (first | omega | assumption | apply hnx | apply hlx | apply hto1 | refine And.intro ?_ ?_)); done))); (focus (first | omega | (simp only []; omega))); (focus (((try clear hK) <;> (try simp only [WKe, *]) <;> repeat (first | with_reducible exact EntR.done | refine S.e ?_ | (refine S.f ?_ <;> (try simp only [WKe, ↓reduceIte, reduceCtorEq, Int.reduceEq, *])) | with_reducible apply EntR.ex | refine EntR.drop (F := F) ?_ | refine EntR.drop ?_)))))

theorem unap_one {ro : Bool} {v : Value} {xs : List Int} (hx : (xs.length : Int) = 3) : Trip Tryz.prog 58 [v].toArray [sl ro v xs] fun u l' => u = .agg (En.enc (napU xs)).toArray ∧ l' = [sl ro v xs] := by
  intro F K hK
  simp only [List.cons_append, List.nil_append]
  have g0 := @gU_0 xs
  have g1 := @gU_1 xs
  have g2 := @gU_2 xs
  have g3 := @gU_3 xs
  (refine Tr.enter (rs := [.cell 2 112]) mixed fn58 rfl (by simp +arith [Tryz.ntmps58]) fun u => ?_; simp only [cd58, Tryz.f58])
  ((try simp only [WKb]) <;> (repeat' ((first
    | (refine G.tr ?_; first | refine S.a ?_ | refine S.t ?_ | refine Tr.brK ?_ ?_ | refine S.n fun _ => ?_ | refine S.i fun hix => ?_ | (refine S.g fun hb => ?_; (try simp only [hb])) | (refine S.s (fun hb => ?_) (fun hb => ?_) <;> ((try simp only [hb]) <;> (try (have hp := hb; simp only [WKs] at hp; (try have hq := Int.not_le.2 hp); (try have hq := Int.not_lt.2 hp))))))
    | ((fail_if_success refine G.tr ?_); exact G.prop S.p)
    | fail) <;> (try simp only [WKb, WKh, ↓reduceIte, Nat.reduceEqDiff, Nat.reduceAdd, pl58, g0, g1, g2]))))
  all_goals
    refine Tr.fin hK ⟨rfl, rfl⟩ ?_
    ((try clear hK) <;> (try simp only [WKe, *]) <;> repeat (first | with_reducible exact EntR.done | refine S.e ?_ | (refine S.f ?_ <;> (try simp only [WKe, ↓reduceIte, reduceCtorEq, Int.reduceEq, *])) | with_reducible apply EntR.ex | refine EntR.drop (F := F) ?_ | refine EntR.drop ?_))

instance : ElT 26 NapC := ⟨⟩
theorem unap_some {b : Nat} {t : List UInt8} {a : Int} {d : Bool} {m : Int} (hr : rdOk ⟨t, a, d⟩) : Trip Tryz.prog 57 [.pointer (some ⟨b, 0, none⟩), .string (bstr [110, 97, 112]), .int .i64 3, .func (.func 58) #[] #[]].toArray [mxB m, rdC b t a d]
    fun v l' => ∃ s : SV, v = s.v ∧ l' = [sl false s.v (someU (wordU 12) 3 napO 64 ⟨t, a, d⟩ []).1, rdC b (someU (wordU 12) 3 napO 64 ⟨t, a, d⟩ []).2.t (someU (wordU 12) 3 napO 64 ⟨t, a, d⟩ []).2.at' (someU (wordU 12) 3 napO 64 ⟨t, a, d⟩ []).2.bad] := by
  intro F K hK
  simp only [List.cons_append, List.nil_append]
  obtain ⟨w, hw⟩ : ∃ w, w = wordU 12 := ⟨_, rfl⟩
  have hwl : [110, 97, 112] = w := hw ▸ rfl
  rw [← hw] at hK
  rw [hwl]
  generalize hz : someU w 3 napO 64 ⟨t, a, d⟩ [] = z at hK
  (refine Tr.enter (rs := [.tmp 8]) mixed fn57 rfl (by simp +arith [Tryz.ntmps57]) fun u => ?_; simp only [cd57, Tryz.f57])
  
  ((try simp only [WKb, Nat.reduceAdd]) <;> (repeat' ((first
    | (refine G.tr ?_; first | refine S.a ?_ | refine S.t ?_ | refine Tr.brK ?_ ?_ | (refine G.call 77 ?_; first | refine S.c ?_ (h := upeekS_ok (by assumption) ?_) | refine S.c ?_ (h := upeek_ok ?_)) | (refine G.call 59 ?_; refine S.c ?_ (h := utake_ok ?_ ?_ ?_ ?_)) | (refine G.call 58 ?_; refine S.c ?_ (h := unap_one ?_)) | refine S.n fun _ => ?_ | refine S.i fun hix => ?_ | (refine S.g fun hb => ?_; (try simp only [hb])) | (refine S.s (fun hb => ?_) (fun hb => ?_) <;> ((try simp only [hb]) <;> (try (have hp := hb; simp only [WKs] at hp; (try have hq := Int.not_le.2 hp); (try have hq := Int.not_lt.2 hp))))))
    | rintro _ _ ⟨rfl, rfl⟩
    | rintro _ _ ⟨_, rfl, rfl⟩
    | rintro _ _ ⟨_, _, hpq, rfl, rfl⟩
    | ((fail_if_success refine G.tr ?_); exact G.prop S.p)
    | fail) <;> (try simp only [WKb, WKh, ↓reduceIte, Nat.reduceEqDiff, Nat.reduceAdd, Nat.reduceSub, Int.reduceEq, Int.reduceLT, Int.reduceLE, WKt, pl57]))))
  refine Tr.nilSl (α := NapC) ?_
  refine Tr.loopE (α := List NapC × SV × List UInt8 × Int × Bool) [8, 9] [0, 1, 2, 3] (fun x => [.slice none 0 0, x.2.1.v]) (fun x => [sl false x.2.1.v x.1, rdC b x.2.2.1 x.2.2.2.1 x.2.2.2.2, mxB m])
    (fun x => someU w 3 napO (64 - x.1.length) ⟨x.2.2.1, x.2.2.2.1, x.2.2.2.2⟩ x.1 = z ∧ x.1.length ≤ 64 ∧ rdOk ⟨x.2.2.1, x.2.2.2.1, x.2.2.2.2⟩) (fun x => 65 - x.1.length) ([], ⟨none, 0, 0⟩, t, a, d) (by (repeat (first | exact TakeL.nil | (apply TakeL.cons; focus ((first | exact TakeA.dupS | exact TakeA.dupF | ((repeat (first | with_reducible exact TakeA.here | exact TakeA.fam (by omega) (by omega) | with_reducible apply TakeA.next)); done) | ((repeat (first | exact TakeA.here | apply TakeA.next)); done) | exact TakeA.famNil | exact TakeA.nilS))) | fail)); done) rfl ⟨hz, Nat.zero_le _, hr⟩ fun x u hx => ?_
  obtain ⟨out, s, t, a, d⟩ := x
  simp only at hx ⊢
  obtain ⟨hI, hol, hr⟩ := hx
  clear hz
  obtain ⟨r1, r2, r3, r4⟩ := id hr
  simp only at r1 r2 r3 r4
  cases hpk : peekU ⟨t, a, d⟩ w with
  | none =>
    have hz := some_none (many := 3) (one := napO) (out := out) hpk (64 - out.length)
    rw [hI] at hz
    subst hz
    have hps : (peekU ⟨t, a, d⟩ w).isSome = false := by rw [hpk]; rfl
    ((try simp only [WKb, ↓reduceIte, Nat.reduceEqDiff]) <;> (repeat' ((first
    | (refine G.tr ?_; first | refine S.a ?_ | refine S.t ?_ | refine Tr.brK ?_ ?_ | (refine G.call 77 ?_; first | refine S.c ?_ (h := upeekS_ok (by assumption) ?_) | refine S.c ?_ (h := upeek_ok ?_)) | (refine G.call 59 ?_; refine S.c ?_ (h := utake_ok ?_ ?_ ?_ ?_)) | (refine G.call 58 ?_; refine S.c ?_ (h := unap_one ?_)) | refine S.n fun _ => ?_ | refine S.i fun hix => ?_ | (refine S.g fun hb => ?_; (try simp only [hb])) | (refine S.s (fun hb => ?_) (fun hb => ?_) <;> ((try simp only [hb]) <;> (try (have hp := hb; simp only [WKs] at hp; (try have hq := Int.not_le.2 hp); (try have hq := Int.not_lt.2 hp))))))
    | rintro _ _ ⟨rfl, rfl⟩
    | rintro _ _ ⟨_, rfl, rfl⟩
    | rintro _ _ ⟨_, _, hpq, rfl, rfl⟩
    | ((fail_if_success refine G.tr ?_); exact G.prop S.p)
    | fail) <;> (try simp only [WKb, ↓reduceIte, Nat.reduceEqDiff, hps]))))
    all_goals
      refine Tr.fin hK ⟨_, rfl, rfl⟩ ?_
      ((try clear hK) <;> (try simp only [WKe, *]) <;> repeat (first | with_reducible exact EntR.done | refine S.e ?_ | (refine S.f ?_ <;> (try simp only [WKe, ↓reduceIte, reduceCtorEq, Int.reduceEq, *])) | with_reducible apply EntR.ex | refine EntR.drop (F := F) ?_ | refine EntR.drop ?_))
  | some q =>
    by_cases h64 : out.length = 64
    · have hz : someU w 3 napO (64 - out.length) ⟨t, a, d⟩ out = (out, ⟨t, a, d⟩) := by rw [h64]; unfold someU; rfl
      rw [hI] at hz
      subst hz
      have hd64 : (out.length : Int) = 64 := by omega
      ((try simp only [WKb, ↓reduceIte, Nat.reduceEqDiff]) <;> (repeat' ((first
    | (refine G.tr ?_; first | refine S.a ?_ | refine S.t ?_ | refine Tr.brK ?_ ?_ | (refine G.call 77 ?_; first | refine S.c ?_ (h := upeekS_ok (by assumption) ?_) | refine S.c ?_ (h := upeek_ok ?_)) | (refine G.call 59 ?_; refine S.c ?_ (h := utake_ok ?_ ?_ ?_ ?_)) | (refine G.call 58 ?_; refine S.c ?_ (h := unap_one ?_)) | refine S.n fun _ => ?_ | refine S.i fun hix => ?_ | (refine S.g fun hb => ?_; (try simp only [hb])) | (refine S.s (fun hb => ?_) (fun hb => ?_) <;> ((try simp only [hb]) <;> (try (have hp := hb; simp only [WKs] at hp; (try have hq := Int.not_le.2 hp); (try have hq := Int.not_lt.2 hp))))))
    | rintro _ _ ⟨rfl, rfl⟩
    | rintro _ _ ⟨_, rfl, rfl⟩
    | rintro _ _ ⟨_, _, hpq, rfl, rfl⟩
    | ((fail_if_success refine G.tr ?_); exact G.prop S.p)
    | fail) <;> (try simp only [WKb, ↓reduceIte, Nat.reduceEqDiff, hd64]))))
      all_goals
        refine Tr.fin hK ⟨_, rfl, rfl⟩ ?_
        ((try clear hK) <;> (try simp only [WKe, *]) <;> repeat (first | with_reducible exact EntR.done | refine S.e ?_ | (refine S.f ?_ <;> (try simp only [WKe, ↓reduceIte, reduceCtorEq, Int.reduceEq, *])) | with_reducible apply EntR.ex | refine EntR.drop (F := F) ?_ | refine EntR.drop ?_))
    · have hd64 : decide ((out.length : Int) = 64) = false := decide_eq_false (by omega)
      obtain ⟨n, hn⟩ : ∃ n, 64 - out.length = n + 1 := ⟨63 - out.length, by omega⟩
      rw [hn] at hI
      have hto := take_ok (w := w) (many := 3) hr
      generalize htk : takeU ⟨t, a, d⟩ w 3 = tk at hto
      obtain ⟨tl, tt, ta, td⟩ := tk
      obtain ⟨hto1, hto2⟩ := hto
      cases td with
      | true =>
        have hz := some_stop (many := 3) (one := napO) (out := out) hpk (by rw [htk]) n
        rw [hI, htk] at hz
        subst hz
        ((try simp only [WKb, ↓reduceIte, Nat.reduceEqDiff]) <;> (repeat' ((first
    | (refine G.tr ?_; first | refine S.a ?_ | refine S.t ?_ | refine Tr.brK ?_ ?_ | (refine G.call 77 ?_; first | refine S.c ?_ (h := upeekS_ok (by assumption) ?_) | refine S.c ?_ (h := upeek_ok ?_)) | (refine G.call 59 ?_; refine S.c ?_ (h := utake_ok ?_ ?_ ?_ ?_)) | (refine G.call 58 ?_; refine S.c ?_ (h := unap_one ?_)) | refine S.n fun _ => ?_ | refine S.i fun hix => ?_ | (refine S.g fun hb => ?_; (try simp only [hb])) | (refine S.s (fun hb => ?_) (fun hb => ?_) <;> ((try simp only [hb]) <;> (try (have hp := hb; simp only [WKs] at hp; (try have hq := Int.not_le.2 hp); (try have hq := Int.not_lt.2 hp))))))
    | rintro _ _ ⟨rfl, rfl⟩
    | rintro _ _ ⟨_, rfl, rfl⟩
    | rintro _ _ ⟨_, _, hpq, rfl, rfl⟩
    | ((fail_if_success refine G.tr ?_); exact G.prop S.p)
    | fail) <;> (try simp only [WKb, ↓reduceIte, Nat.reduceEqDiff, Int.reduceLE, hd64, htk]))))
        all_goals
          refine Tr.fin hK ⟨_, rfl, rfl⟩ ?_
          ((try clear hK) <;> (try simp only [WKe, *]) <;> repeat (first | with_reducible exact EntR.done | refine S.e ?_ | (refine S.f ?_ <;> (try simp only [WKe, ↓reduceIte, reduceCtorEq, Int.reduceEq, *])) | with_reducible apply EntR.ex | refine EntR.drop (F := F) ?_ | refine EntR.drop ?_))
      | false =>
        have hz := some_go (many := 3) (one := napO) (out := out) hpk (by rw [htk]) n
        rw [hI, htk] at hz
        obtain ⟨_, hl, _⟩ := hto2 rfl
        simp only at hl
        have hlm : (tl.length : Int) = 3 := many_pos (by decide) hl
        have hnx : someU w 3 napO (64 - (out ++ [napU tl]).length) ⟨tt, ta, false⟩ (out ++ [napU tl]) = z := by
          rw [List.length_append, List.length_singleton]
          have : 64 - (out.length + 1) = n := by omega
          rw [this, hz]
          rfl
        have hlx : (out ++ [napU tl]).length ≤ 64 := by rw [List.length_append, List.length_singleton]; omega
        have hmu : (out ++ [napU tl]).length = out.length + 1 := by rw [List.length_append, List.length_singleton]
        clear hz hI
        ((try simp only [WKb, ↓reduceIte, Nat.reduceEqDiff]) <;> (repeat' ((first
    | (refine G.tr ?_; first | refine S.a ?_ | refine S.t ?_ | refine Tr.brK ?_ ?_ | (refine G.call 77 ?_; first | refine S.c ?_ (h := upeekS_ok (by assumption) ?_) | refine S.c ?_ (h := upeek_ok ?_)) | (refine G.call 59 ?_; refine S.c ?_ (h := utake_ok ?_ ?_ ?_ ?_)) | (refine G.call 58 ?_; refine S.c ?_ (h := unap_one ?_)) | refine S.n fun _ => ?_ | refine S.i fun hix => ?_ | (refine S.g fun hb => ?_; (try simp only [hb])) | (refine S.s (fun hb => ?_) (fun hb => ?_) <;> ((try simp only [hb]) <;> (try (have hp := hb; simp only [WKs] at hp; (try have hq := Int.not_le.2 hp); (try have hq := Int.not_lt.2 hp))))))
    | rintro _ _ ⟨rfl, rfl⟩
    | rintro _ _ ⟨_, rfl, rfl⟩
    | rintro _ _ ⟨_, _, hpq, rfl, rfl⟩
    | ((fail_if_success refine G.tr ?_); exact G.prop S.p)
    | fail) <;> (try simp only [WKb, ↓reduceIte, Nat.reduceEqDiff, Int.reduceLE, hd64, htk]))))
        all_goals
          (apply Tr.againE ((out ++ [napU tl], _, tt, ta, false)); (focus (simp only [WKb, ↓reduceIte, Nat.reduceEqDiff])); (focus ((try simp only [WKb, ↓reduceIte, Nat.reduceEqDiff, hw]); (all_goals ((repeat (refine cons_eq (by first | rfl | (simp [*]; done)) ?_)); rfl)); done)); (focus (first | omega | assumption | (simp only []; omega) | (refine ⟨by omega, by assumption⟩) | (simp only []; refine ⟨by omega, by assumption⟩) | ((try simp only []); (repeat' (first | omega | assumption | apply hnx | apply hlx | apply hto1 | refine And.intro ?_ ?_)); done))); (focus (first | omega | (simp only []; omega))); (focus (((try clear hK) <;> (try simp only [WKe, *]) <;> repeat (first | with_reducible exact EntR.done | refine S.e ?_ | (refine S.f ?_ <;> (try simp only [WKe, ↓reduceIte, reduceCtorEq, Int.reduceEq, *])) | with_reducible apply EntR.ex | refine EntR.drop (F := F) ?_ | refine EntR.drop ?_)))))

theorem uproc_one {ro : Bool} {v : Value} {xs : List Int} (hx : (xs.length : Int) = 3) : Trip Tryz.prog 82 [v].toArray [sl ro v xs] fun u l' => u = .agg (En.enc (procU xs)).toArray ∧ l' = [sl ro v xs] := by
  intro F K hK
  simp only [List.cons_append, List.nil_append]
  have g0 := @gU_0 xs
  have g1 := @gU_1 xs
  have g2 := @gU_2 xs
  have g3 := @gU_3 xs
  (refine Tr.enter (rs := [.cell 2 96]) mixed fn82 rfl (by simp +arith [Tryz.ntmps82]) fun u => ?_; simp only [cd82, Tryz.f82])
  ((try simp only [WKb]) <;> (repeat' ((first
    | (refine G.tr ?_; first | refine S.a ?_ | refine S.t ?_ | refine Tr.brK ?_ ?_ | refine S.n fun _ => ?_ | refine S.i fun hix => ?_ | (refine S.g fun hb => ?_; (try simp only [hb])) | (refine S.s (fun hb => ?_) (fun hb => ?_) <;> ((try simp only [hb]) <;> (try (have hp := hb; simp only [WKs] at hp; (try have hq := Int.not_le.2 hp); (try have hq := Int.not_lt.2 hp))))))
    | ((fail_if_success refine G.tr ?_); exact G.prop S.p)
    | fail) <;> (try simp only [WKb, WKh, ↓reduceIte, Nat.reduceEqDiff, Nat.reduceAdd, pl82, g0, g1, g2]))))
  all_goals
    refine Tr.fin hK ⟨rfl, rfl⟩ ?_
    ((try clear hK) <;> (try simp only [WKe, *]) <;> repeat (first | with_reducible exact EntR.done | refine S.e ?_ | (refine S.f ?_ <;> (try simp only [WKe, ↓reduceIte, reduceCtorEq, Int.reduceEq, *])) | with_reducible apply EntR.ex | refine EntR.drop (F := F) ?_ | refine EntR.drop ?_))

instance : ElT 52 ProcC := ⟨⟩
theorem uproc_some {b : Nat} {t : List UInt8} {a : Int} {d : Bool} {m : Int} (hr : rdOk ⟨t, a, d⟩) : Trip Tryz.prog 81 [.pointer (some ⟨b, 0, none⟩), .string (bstr [112, 114, 111, 99, 101, 115, 115]), .int .i64 3, .func (.func 82) #[] #[]].toArray [mxB m, rdC b t a d]
    fun v l' => ∃ s : SV, v = s.v ∧ l' = [sl false s.v (someU (wordU 2) 3 procO 64 ⟨t, a, d⟩ []).1, rdC b (someU (wordU 2) 3 procO 64 ⟨t, a, d⟩ []).2.t (someU (wordU 2) 3 procO 64 ⟨t, a, d⟩ []).2.at' (someU (wordU 2) 3 procO 64 ⟨t, a, d⟩ []).2.bad] := by
  intro F K hK
  simp only [List.cons_append, List.nil_append]
  obtain ⟨w, hw⟩ : ∃ w, w = wordU 2 := ⟨_, rfl⟩
  have hwl : [112, 114, 111, 99, 101, 115, 115] = w := hw ▸ rfl
  rw [← hw] at hK
  rw [hwl]
  generalize hz : someU w 3 procO 64 ⟨t, a, d⟩ [] = z at hK
  (refine Tr.enter (rs := [.tmp 8]) mixed fn81 rfl (by simp +arith [Tryz.ntmps81]) fun u => ?_; simp only [cd81, Tryz.f81])
  
  ((try simp only [WKb, Nat.reduceAdd]) <;> (repeat' ((first
    | (refine G.tr ?_; first | refine S.a ?_ | refine S.t ?_ | refine Tr.brK ?_ ?_ | (refine G.call 77 ?_; first | refine S.c ?_ (h := upeekS_ok (by assumption) ?_) | refine S.c ?_ (h := upeek_ok ?_)) | (refine G.call 59 ?_; refine S.c ?_ (h := utake_ok ?_ ?_ ?_ ?_)) | (refine G.call 82 ?_; refine S.c ?_ (h := uproc_one ?_)) | refine S.n fun _ => ?_ | refine S.i fun hix => ?_ | (refine S.g fun hb => ?_; (try simp only [hb])) | (refine S.s (fun hb => ?_) (fun hb => ?_) <;> ((try simp only [hb]) <;> (try (have hp := hb; simp only [WKs] at hp; (try have hq := Int.not_le.2 hp); (try have hq := Int.not_lt.2 hp))))))
    | rintro _ _ ⟨rfl, rfl⟩
    | rintro _ _ ⟨_, rfl, rfl⟩
    | rintro _ _ ⟨_, _, hpq, rfl, rfl⟩
    | ((fail_if_success refine G.tr ?_); exact G.prop S.p)
    | fail) <;> (try simp only [WKb, WKh, ↓reduceIte, Nat.reduceEqDiff, Nat.reduceAdd, Nat.reduceSub, Int.reduceEq, Int.reduceLT, Int.reduceLE, WKt, pl81]))))
  refine Tr.nilSl (α := ProcC) ?_
  refine Tr.loopE (α := List ProcC × SV × List UInt8 × Int × Bool) [8, 9] [0, 1, 2, 3] (fun x => [.slice none 0 0, x.2.1.v]) (fun x => [sl false x.2.1.v x.1, rdC b x.2.2.1 x.2.2.2.1 x.2.2.2.2, mxB m])
    (fun x => someU w 3 procO (64 - x.1.length) ⟨x.2.2.1, x.2.2.2.1, x.2.2.2.2⟩ x.1 = z ∧ x.1.length ≤ 64 ∧ rdOk ⟨x.2.2.1, x.2.2.2.1, x.2.2.2.2⟩) (fun x => 65 - x.1.length) ([], ⟨none, 0, 0⟩, t, a, d) (by (repeat (first | exact TakeL.nil | (apply TakeL.cons; focus ((first | exact TakeA.dupS | exact TakeA.dupF | ((repeat (first | with_reducible exact TakeA.here | exact TakeA.fam (by omega) (by omega) | with_reducible apply TakeA.next)); done) | ((repeat (first | exact TakeA.here | apply TakeA.next)); done) | exact TakeA.famNil | exact TakeA.nilS))) | fail)); done) rfl ⟨hz, Nat.zero_le _, hr⟩ fun x u hx => ?_
  obtain ⟨out, s, t, a, d⟩ := x
  simp only at hx ⊢
  obtain ⟨hI, hol, hr⟩ := hx
  clear hz
  obtain ⟨r1, r2, r3, r4⟩ := id hr
  simp only at r1 r2 r3 r4
  cases hpk : peekU ⟨t, a, d⟩ w with
  | none =>
    have hz := some_none (many := 3) (one := procO) (out := out) hpk (64 - out.length)
    rw [hI] at hz
    subst hz
    have hps : (peekU ⟨t, a, d⟩ w).isSome = false := by rw [hpk]; rfl
    ((try simp only [WKb, ↓reduceIte, Nat.reduceEqDiff]) <;> (repeat' ((first
    | (refine G.tr ?_; first | refine S.a ?_ | refine S.t ?_ | refine Tr.brK ?_ ?_ | (refine G.call 77 ?_; first | refine S.c ?_ (h := upeekS_ok (by assumption) ?_) | refine S.c ?_ (h := upeek_ok ?_)) | (refine G.call 59 ?_; refine S.c ?_ (h := utake_ok ?_ ?_ ?_ ?_)) | (refine G.call 82 ?_; refine S.c ?_ (h := uproc_one ?_)) | refine S.n fun _ => ?_ | refine S.i fun hix => ?_ | (refine S.g fun hb => ?_; (try simp only [hb])) | (refine S.s (fun hb => ?_) (fun hb => ?_) <;> ((try simp only [hb]) <;> (try (have hp := hb; simp only [WKs] at hp; (try have hq := Int.not_le.2 hp); (try have hq := Int.not_lt.2 hp))))))
    | rintro _ _ ⟨rfl, rfl⟩
    | rintro _ _ ⟨_, rfl, rfl⟩
    | rintro _ _ ⟨_, _, hpq, rfl, rfl⟩
    | ((fail_if_success refine G.tr ?_); exact G.prop S.p)
    | fail) <;> (try simp only [WKb, ↓reduceIte, Nat.reduceEqDiff, hps]))))
    all_goals
      refine Tr.fin hK ⟨_, rfl, rfl⟩ ?_
      ((try clear hK) <;> (try simp only [WKe, *]) <;> repeat (first | with_reducible exact EntR.done | refine S.e ?_ | (refine S.f ?_ <;> (try simp only [WKe, ↓reduceIte, reduceCtorEq, Int.reduceEq, *])) | with_reducible apply EntR.ex | refine EntR.drop (F := F) ?_ | refine EntR.drop ?_))
  | some q =>
    by_cases h64 : out.length = 64
    · have hz : someU w 3 procO (64 - out.length) ⟨t, a, d⟩ out = (out, ⟨t, a, d⟩) := by rw [h64]; unfold someU; rfl
      rw [hI] at hz
      subst hz
      have hd64 : (out.length : Int) = 64 := by omega
      ((try simp only [WKb, ↓reduceIte, Nat.reduceEqDiff]) <;> (repeat' ((first
    | (refine G.tr ?_; first | refine S.a ?_ | refine S.t ?_ | refine Tr.brK ?_ ?_ | (refine G.call 77 ?_; first | refine S.c ?_ (h := upeekS_ok (by assumption) ?_) | refine S.c ?_ (h := upeek_ok ?_)) | (refine G.call 59 ?_; refine S.c ?_ (h := utake_ok ?_ ?_ ?_ ?_)) | (refine G.call 82 ?_; refine S.c ?_ (h := uproc_one ?_)) | refine S.n fun _ => ?_ | refine S.i fun hix => ?_ | (refine S.g fun hb => ?_; (try simp only [hb])) | (refine S.s (fun hb => ?_) (fun hb => ?_) <;> ((try simp only [hb]) <;> (try (have hp := hb; simp only [WKs] at hp; (try have hq := Int.not_le.2 hp); (try have hq := Int.not_lt.2 hp))))))
    | rintro _ _ ⟨rfl, rfl⟩
    | rintro _ _ ⟨_, rfl, rfl⟩
    | rintro _ _ ⟨_, _, hpq, rfl, rfl⟩
    | ((fail_if_success refine G.tr ?_); exact G.prop S.p)
    | fail) <;> (try simp only [WKb, ↓reduceIte, Nat.reduceEqDiff, hd64]))))
      all_goals
        refine Tr.fin hK ⟨_, rfl, rfl⟩ ?_
        ((try clear hK) <;> (try simp only [WKe, *]) <;> repeat (first | with_reducible exact EntR.done | refine S.e ?_ | (refine S.f ?_ <;> (try simp only [WKe, ↓reduceIte, reduceCtorEq, Int.reduceEq, *])) | with_reducible apply EntR.ex | refine EntR.drop (F := F) ?_ | refine EntR.drop ?_))
    · have hd64 : decide ((out.length : Int) = 64) = false := decide_eq_false (by omega)
      obtain ⟨n, hn⟩ : ∃ n, 64 - out.length = n + 1 := ⟨63 - out.length, by omega⟩
      rw [hn] at hI
      have hto := take_ok (w := w) (many := 3) hr
      generalize htk : takeU ⟨t, a, d⟩ w 3 = tk at hto
      obtain ⟨tl, tt, ta, td⟩ := tk
      obtain ⟨hto1, hto2⟩ := hto
      cases td with
      | true =>
        have hz := some_stop (many := 3) (one := procO) (out := out) hpk (by rw [htk]) n
        rw [hI, htk] at hz
        subst hz
        ((try simp only [WKb, ↓reduceIte, Nat.reduceEqDiff]) <;> (repeat' ((first
    | (refine G.tr ?_; first | refine S.a ?_ | refine S.t ?_ | refine Tr.brK ?_ ?_ | (refine G.call 77 ?_; first | refine S.c ?_ (h := upeekS_ok (by assumption) ?_) | refine S.c ?_ (h := upeek_ok ?_)) | (refine G.call 59 ?_; refine S.c ?_ (h := utake_ok ?_ ?_ ?_ ?_)) | (refine G.call 82 ?_; refine S.c ?_ (h := uproc_one ?_)) | refine S.n fun _ => ?_ | refine S.i fun hix => ?_ | (refine S.g fun hb => ?_; (try simp only [hb])) | (refine S.s (fun hb => ?_) (fun hb => ?_) <;> ((try simp only [hb]) <;> (try (have hp := hb; simp only [WKs] at hp; (try have hq := Int.not_le.2 hp); (try have hq := Int.not_lt.2 hp))))))
    | rintro _ _ ⟨rfl, rfl⟩
    | rintro _ _ ⟨_, rfl, rfl⟩
    | rintro _ _ ⟨_, _, hpq, rfl, rfl⟩
    | ((fail_if_success refine G.tr ?_); exact G.prop S.p)
    | fail) <;> (try simp only [WKb, ↓reduceIte, Nat.reduceEqDiff, Int.reduceLE, hd64, htk]))))
        all_goals
          refine Tr.fin hK ⟨_, rfl, rfl⟩ ?_
          ((try clear hK) <;> (try simp only [WKe, *]) <;> repeat (first | with_reducible exact EntR.done | refine S.e ?_ | (refine S.f ?_ <;> (try simp only [WKe, ↓reduceIte, reduceCtorEq, Int.reduceEq, *])) | with_reducible apply EntR.ex | refine EntR.drop (F := F) ?_ | refine EntR.drop ?_))
      | false =>
        have hz := some_go (many := 3) (one := procO) (out := out) hpk (by rw [htk]) n
        rw [hI, htk] at hz
        obtain ⟨_, hl, _⟩ := hto2 rfl
        simp only at hl
        have hlm : (tl.length : Int) = 3 := many_pos (by decide) hl
        have hnx : someU w 3 procO (64 - (out ++ [procU tl]).length) ⟨tt, ta, false⟩ (out ++ [procU tl]) = z := by
          rw [List.length_append, List.length_singleton]
          have : 64 - (out.length + 1) = n := by omega
          rw [this, hz]
          rfl
        have hlx : (out ++ [procU tl]).length ≤ 64 := by rw [List.length_append, List.length_singleton]; omega
        have hmu : (out ++ [procU tl]).length = out.length + 1 := by rw [List.length_append, List.length_singleton]
        clear hz hI
        ((try simp only [WKb, ↓reduceIte, Nat.reduceEqDiff]) <;> (repeat' ((first
    | (refine G.tr ?_; first | refine S.a ?_ | refine S.t ?_ | refine Tr.brK ?_ ?_ | (refine G.call 77 ?_; first | refine S.c ?_ (h := upeekS_ok (by assumption) ?_) | refine S.c ?_ (h := upeek_ok ?_)) | (refine G.call 59 ?_; refine S.c ?_ (h := utake_ok ?_ ?_ ?_ ?_)) | (refine G.call 82 ?_; refine S.c ?_ (h := uproc_one ?_)) | refine S.n fun _ => ?_ | refine S.i fun hix => ?_ | (refine S.g fun hb => ?_; (try simp only [hb])) | (refine S.s (fun hb => ?_) (fun hb => ?_) <;> ((try simp only [hb]) <;> (try (have hp := hb; simp only [WKs] at hp; (try have hq := Int.not_le.2 hp); (try have hq := Int.not_lt.2 hp))))))
    | rintro _ _ ⟨rfl, rfl⟩
    | rintro _ _ ⟨_, rfl, rfl⟩
    | rintro _ _ ⟨_, _, hpq, rfl, rfl⟩
    | ((fail_if_success refine G.tr ?_); exact G.prop S.p)
    | fail) <;> (try simp only [WKb, ↓reduceIte, Nat.reduceEqDiff, Int.reduceLE, hd64, htk]))))
        all_goals
          (apply Tr.againE ((out ++ [procU tl], _, tt, ta, false)); (focus (simp only [WKb, ↓reduceIte, Nat.reduceEqDiff])); (focus ((try simp only [WKb, ↓reduceIte, Nat.reduceEqDiff, hw]); (all_goals ((repeat (refine cons_eq (by first | rfl | (simp [*]; done)) ?_)); rfl)); done)); (focus (first | omega | assumption | (simp only []; omega) | (refine ⟨by omega, by assumption⟩) | (simp only []; refine ⟨by omega, by assumption⟩) | ((try simp only []); (repeat' (first | omega | assumption | apply hnx | apply hlx | apply hto1 | refine And.intro ?_ ?_)); done))); (focus (first | omega | (simp only []; omega))); (focus (((try clear hK) <;> (try simp only [WKe, *]) <;> repeat (first | with_reducible exact EntR.done | refine S.e ?_ | (refine S.f ?_ <;> (try simp only [WKe, ↓reduceIte, reduceCtorEq, Int.reduceEq, *])) | with_reducible apply EntR.ex | refine EntR.drop (F := F) ?_ | refine EntR.drop ?_)))))

theorem usem_one {ro : Bool} {v : Value} {xs : List Int} (hx : (xs.length : Int) = 2) : Trip Tryz.prog 86 [v].toArray [sl ro v xs] fun u l' => u = .agg (En.enc (semU xs)).toArray ∧ l' = [sl ro v xs] := by
  intro F K hK
  simp only [List.cons_append, List.nil_append]
  have g0 := @gU_0 xs
  have g1 := @gU_1 xs
  have g2 := @gU_2 xs
  have g3 := @gU_3 xs
  (refine Tr.enter (rs := [.cell 2 100]) mixed fn86 rfl (by simp +arith [Tryz.ntmps86]) fun u => ?_; simp only [cd86, Tryz.f86])
  ((try simp only [WKb]) <;> (repeat' ((first
    | (refine G.tr ?_; first | refine S.a ?_ | refine S.t ?_ | refine Tr.brK ?_ ?_ | refine S.n fun _ => ?_ | refine S.i fun hix => ?_ | (refine S.g fun hb => ?_; (try simp only [hb])) | (refine S.s (fun hb => ?_) (fun hb => ?_) <;> ((try simp only [hb]) <;> (try (have hp := hb; simp only [WKs] at hp; (try have hq := Int.not_le.2 hp); (try have hq := Int.not_lt.2 hp))))))
    | ((fail_if_success refine G.tr ?_); exact G.prop S.p)
    | fail) <;> (try simp only [WKb, WKh, ↓reduceIte, Nat.reduceEqDiff, Nat.reduceAdd, pl86, g0, g1]))))
  all_goals
    refine Tr.fin hK ⟨rfl, rfl⟩ ?_
    ((try clear hK) <;> (try simp only [WKe, *]) <;> repeat (first | with_reducible exact EntR.done | refine S.e ?_ | (refine S.f ?_ <;> (try simp only [WKe, ↓reduceIte, reduceCtorEq, Int.reduceEq, *])) | with_reducible apply EntR.ex | refine EntR.drop (F := F) ?_ | refine EntR.drop ?_))

instance : ElT 54 SemC := ⟨⟩
theorem usem_some {b : Nat} {t : List UInt8} {a : Int} {d : Bool} {m : Int} (hr : rdOk ⟨t, a, d⟩) : Trip Tryz.prog 85 [.pointer (some ⟨b, 0, none⟩), .string (bstr [115, 101, 109]), .int .i64 2, .func (.func 86) #[] #[]].toArray [mxB m, rdC b t a d]
    fun v l' => ∃ s : SV, v = s.v ∧ l' = [sl false s.v (someU (wordU 4) 2 semO 64 ⟨t, a, d⟩ []).1, rdC b (someU (wordU 4) 2 semO 64 ⟨t, a, d⟩ []).2.t (someU (wordU 4) 2 semO 64 ⟨t, a, d⟩ []).2.at' (someU (wordU 4) 2 semO 64 ⟨t, a, d⟩ []).2.bad] := by
  intro F K hK
  simp only [List.cons_append, List.nil_append]
  obtain ⟨w, hw⟩ : ∃ w, w = wordU 4 := ⟨_, rfl⟩
  have hwl : [115, 101, 109] = w := hw ▸ rfl
  rw [← hw] at hK
  rw [hwl]
  generalize hz : someU w 2 semO 64 ⟨t, a, d⟩ [] = z at hK
  (refine Tr.enter (rs := [.tmp 8]) mixed fn85 rfl (by simp +arith [Tryz.ntmps85]) fun u => ?_; simp only [cd85, Tryz.f85])
  
  ((try simp only [WKb, Nat.reduceAdd]) <;> (repeat' ((first
    | (refine G.tr ?_; first | refine S.a ?_ | refine S.t ?_ | refine Tr.brK ?_ ?_ | (refine G.call 77 ?_; first | refine S.c ?_ (h := upeekS_ok (by assumption) ?_) | refine S.c ?_ (h := upeek_ok ?_)) | (refine G.call 59 ?_; refine S.c ?_ (h := utake_ok ?_ ?_ ?_ ?_)) | (refine G.call 86 ?_; refine S.c ?_ (h := usem_one ?_)) | refine S.n fun _ => ?_ | refine S.i fun hix => ?_ | (refine S.g fun hb => ?_; (try simp only [hb])) | (refine S.s (fun hb => ?_) (fun hb => ?_) <;> ((try simp only [hb]) <;> (try (have hp := hb; simp only [WKs] at hp; (try have hq := Int.not_le.2 hp); (try have hq := Int.not_lt.2 hp))))))
    | rintro _ _ ⟨rfl, rfl⟩
    | rintro _ _ ⟨_, rfl, rfl⟩
    | rintro _ _ ⟨_, _, hpq, rfl, rfl⟩
    | ((fail_if_success refine G.tr ?_); exact G.prop S.p)
    | fail) <;> (try simp only [WKb, WKh, ↓reduceIte, Nat.reduceEqDiff, Nat.reduceAdd, Nat.reduceSub, Int.reduceEq, Int.reduceLT, Int.reduceLE, WKt, pl85]))))
  refine Tr.nilSl (α := SemC) ?_
  refine Tr.loopE (α := List SemC × SV × List UInt8 × Int × Bool) [8, 9] [0, 1, 2, 3] (fun x => [.slice none 0 0, x.2.1.v]) (fun x => [sl false x.2.1.v x.1, rdC b x.2.2.1 x.2.2.2.1 x.2.2.2.2, mxB m])
    (fun x => someU w 2 semO (64 - x.1.length) ⟨x.2.2.1, x.2.2.2.1, x.2.2.2.2⟩ x.1 = z ∧ x.1.length ≤ 64 ∧ rdOk ⟨x.2.2.1, x.2.2.2.1, x.2.2.2.2⟩) (fun x => 65 - x.1.length) ([], ⟨none, 0, 0⟩, t, a, d) (by (repeat (first | exact TakeL.nil | (apply TakeL.cons; focus ((first | exact TakeA.dupS | exact TakeA.dupF | ((repeat (first | with_reducible exact TakeA.here | exact TakeA.fam (by omega) (by omega) | with_reducible apply TakeA.next)); done) | ((repeat (first | exact TakeA.here | apply TakeA.next)); done) | exact TakeA.famNil | exact TakeA.nilS))) | fail)); done) rfl ⟨hz, Nat.zero_le _, hr⟩ fun x u hx => ?_
  obtain ⟨out, s, t, a, d⟩ := x
  simp only at hx ⊢
  obtain ⟨hI, hol, hr⟩ := hx
  clear hz
  obtain ⟨r1, r2, r3, r4⟩ := id hr
  simp only at r1 r2 r3 r4
  cases hpk : peekU ⟨t, a, d⟩ w with
  | none =>
    have hz := some_none (many := 2) (one := semO) (out := out) hpk (64 - out.length)
    rw [hI] at hz
    subst hz
    have hps : (peekU ⟨t, a, d⟩ w).isSome = false := by rw [hpk]; rfl
    ((try simp only [WKb, ↓reduceIte, Nat.reduceEqDiff]) <;> (repeat' ((first
    | (refine G.tr ?_; first | refine S.a ?_ | refine S.t ?_ | refine Tr.brK ?_ ?_ | (refine G.call 77 ?_; first | refine S.c ?_ (h := upeekS_ok (by assumption) ?_) | refine S.c ?_ (h := upeek_ok ?_)) | (refine G.call 59 ?_; refine S.c ?_ (h := utake_ok ?_ ?_ ?_ ?_)) | (refine G.call 86 ?_; refine S.c ?_ (h := usem_one ?_)) | refine S.n fun _ => ?_ | refine S.i fun hix => ?_ | (refine S.g fun hb => ?_; (try simp only [hb])) | (refine S.s (fun hb => ?_) (fun hb => ?_) <;> ((try simp only [hb]) <;> (try (have hp := hb; simp only [WKs] at hp; (try have hq := Int.not_le.2 hp); (try have hq := Int.not_lt.2 hp))))))
    | rintro _ _ ⟨rfl, rfl⟩
    | rintro _ _ ⟨_, rfl, rfl⟩
    | rintro _ _ ⟨_, _, hpq, rfl, rfl⟩
    | ((fail_if_success refine G.tr ?_); exact G.prop S.p)
    | fail) <;> (try simp only [WKb, ↓reduceIte, Nat.reduceEqDiff, hps]))))
    all_goals
      refine Tr.fin hK ⟨_, rfl, rfl⟩ ?_
      ((try clear hK) <;> (try simp only [WKe, *]) <;> repeat (first | with_reducible exact EntR.done | refine S.e ?_ | (refine S.f ?_ <;> (try simp only [WKe, ↓reduceIte, reduceCtorEq, Int.reduceEq, *])) | with_reducible apply EntR.ex | refine EntR.drop (F := F) ?_ | refine EntR.drop ?_))
  | some q =>
    by_cases h64 : out.length = 64
    · have hz : someU w 2 semO (64 - out.length) ⟨t, a, d⟩ out = (out, ⟨t, a, d⟩) := by rw [h64]; unfold someU; rfl
      rw [hI] at hz
      subst hz
      have hd64 : (out.length : Int) = 64 := by omega
      ((try simp only [WKb, ↓reduceIte, Nat.reduceEqDiff]) <;> (repeat' ((first
    | (refine G.tr ?_; first | refine S.a ?_ | refine S.t ?_ | refine Tr.brK ?_ ?_ | (refine G.call 77 ?_; first | refine S.c ?_ (h := upeekS_ok (by assumption) ?_) | refine S.c ?_ (h := upeek_ok ?_)) | (refine G.call 59 ?_; refine S.c ?_ (h := utake_ok ?_ ?_ ?_ ?_)) | (refine G.call 86 ?_; refine S.c ?_ (h := usem_one ?_)) | refine S.n fun _ => ?_ | refine S.i fun hix => ?_ | (refine S.g fun hb => ?_; (try simp only [hb])) | (refine S.s (fun hb => ?_) (fun hb => ?_) <;> ((try simp only [hb]) <;> (try (have hp := hb; simp only [WKs] at hp; (try have hq := Int.not_le.2 hp); (try have hq := Int.not_lt.2 hp))))))
    | rintro _ _ ⟨rfl, rfl⟩
    | rintro _ _ ⟨_, rfl, rfl⟩
    | rintro _ _ ⟨_, _, hpq, rfl, rfl⟩
    | ((fail_if_success refine G.tr ?_); exact G.prop S.p)
    | fail) <;> (try simp only [WKb, ↓reduceIte, Nat.reduceEqDiff, hd64]))))
      all_goals
        refine Tr.fin hK ⟨_, rfl, rfl⟩ ?_
        ((try clear hK) <;> (try simp only [WKe, *]) <;> repeat (first | with_reducible exact EntR.done | refine S.e ?_ | (refine S.f ?_ <;> (try simp only [WKe, ↓reduceIte, reduceCtorEq, Int.reduceEq, *])) | with_reducible apply EntR.ex | refine EntR.drop (F := F) ?_ | refine EntR.drop ?_))
    · have hd64 : decide ((out.length : Int) = 64) = false := decide_eq_false (by omega)
      obtain ⟨n, hn⟩ : ∃ n, 64 - out.length = n + 1 := ⟨63 - out.length, by omega⟩
      rw [hn] at hI
      have hto := take_ok (w := w) (many := 2) hr
      generalize htk : takeU ⟨t, a, d⟩ w 2 = tk at hto
      obtain ⟨tl, tt, ta, td⟩ := tk
      obtain ⟨hto1, hto2⟩ := hto
      cases td with
      | true =>
        have hz := some_stop (many := 2) (one := semO) (out := out) hpk (by rw [htk]) n
        rw [hI, htk] at hz
        subst hz
        ((try simp only [WKb, ↓reduceIte, Nat.reduceEqDiff]) <;> (repeat' ((first
    | (refine G.tr ?_; first | refine S.a ?_ | refine S.t ?_ | refine Tr.brK ?_ ?_ | (refine G.call 77 ?_; first | refine S.c ?_ (h := upeekS_ok (by assumption) ?_) | refine S.c ?_ (h := upeek_ok ?_)) | (refine G.call 59 ?_; refine S.c ?_ (h := utake_ok ?_ ?_ ?_ ?_)) | (refine G.call 86 ?_; refine S.c ?_ (h := usem_one ?_)) | refine S.n fun _ => ?_ | refine S.i fun hix => ?_ | (refine S.g fun hb => ?_; (try simp only [hb])) | (refine S.s (fun hb => ?_) (fun hb => ?_) <;> ((try simp only [hb]) <;> (try (have hp := hb; simp only [WKs] at hp; (try have hq := Int.not_le.2 hp); (try have hq := Int.not_lt.2 hp))))))
    | rintro _ _ ⟨rfl, rfl⟩
    | rintro _ _ ⟨_, rfl, rfl⟩
    | rintro _ _ ⟨_, _, hpq, rfl, rfl⟩
    | ((fail_if_success refine G.tr ?_); exact G.prop S.p)
    | fail) <;> (try simp only [WKb, ↓reduceIte, Nat.reduceEqDiff, Int.reduceLE, hd64, htk]))))
        all_goals
          refine Tr.fin hK ⟨_, rfl, rfl⟩ ?_
          ((try clear hK) <;> (try simp only [WKe, *]) <;> repeat (first | with_reducible exact EntR.done | refine S.e ?_ | (refine S.f ?_ <;> (try simp only [WKe, ↓reduceIte, reduceCtorEq, Int.reduceEq, *])) | with_reducible apply EntR.ex | refine EntR.drop (F := F) ?_ | refine EntR.drop ?_))
      | false =>
        have hz := some_go (many := 2) (one := semO) (out := out) hpk (by rw [htk]) n
        rw [hI, htk] at hz
        obtain ⟨_, hl, _⟩ := hto2 rfl
        simp only at hl
        have hlm : (tl.length : Int) = 2 := many_pos (by decide) hl
        have hnx : someU w 2 semO (64 - (out ++ [semU tl]).length) ⟨tt, ta, false⟩ (out ++ [semU tl]) = z := by
          rw [List.length_append, List.length_singleton]
          have : 64 - (out.length + 1) = n := by omega
          rw [this, hz]
          rfl
        have hlx : (out ++ [semU tl]).length ≤ 64 := by rw [List.length_append, List.length_singleton]; omega
        have hmu : (out ++ [semU tl]).length = out.length + 1 := by rw [List.length_append, List.length_singleton]
        clear hz hI
        ((try simp only [WKb, ↓reduceIte, Nat.reduceEqDiff]) <;> (repeat' ((first
    | (refine G.tr ?_; first | refine S.a ?_ | refine S.t ?_ | refine Tr.brK ?_ ?_ | (refine G.call 77 ?_; first | refine S.c ?_ (h := upeekS_ok (by assumption) ?_) | refine S.c ?_ (h := upeek_ok ?_)) | (refine G.call 59 ?_; refine S.c ?_ (h := utake_ok ?_ ?_ ?_ ?_)) | (refine G.call 86 ?_; refine S.c ?_ (h := usem_one ?_)) | refine S.n fun _ => ?_ | refine S.i fun hix => ?_ | (refine S.g fun hb => ?_; (try simp only [hb])) | (refine S.s (fun hb => ?_) (fun hb => ?_) <;> ((try simp only [hb]) <;> (try (have hp := hb; simp only [WKs] at hp; (try have hq := Int.not_le.2 hp); (try have hq := Int.not_lt.2 hp))))))
    | rintro _ _ ⟨rfl, rfl⟩
    | rintro _ _ ⟨_, rfl, rfl⟩
    | rintro _ _ ⟨_, _, hpq, rfl, rfl⟩
    | ((fail_if_success refine G.tr ?_); exact G.prop S.p)
    | fail) <;> (try simp only [WKb, ↓reduceIte, Nat.reduceEqDiff, Int.reduceLE, hd64, htk]))))
        all_goals
          (apply Tr.againE ((out ++ [semU tl], _, tt, ta, false)); (focus (simp only [WKb, ↓reduceIte, Nat.reduceEqDiff])); (focus ((try simp only [WKb, ↓reduceIte, Nat.reduceEqDiff, hw]); (all_goals ((repeat (refine cons_eq (by first | rfl | (simp [*]; done)) ?_)); rfl)); done)); (focus (first | omega | assumption | (simp only []; omega) | (refine ⟨by omega, by assumption⟩) | (simp only []; refine ⟨by omega, by assumption⟩) | ((try simp only []); (repeat' (first | omega | assumption | apply hnx | apply hlx | apply hto1 | refine And.intro ?_ ?_)); done))); (focus (first | omega | (simp only []; omega))); (focus (((try clear hK) <;> (try simp only [WKe, *]) <;> repeat (first | with_reducible exact EntR.done | refine S.e ?_ | (refine S.f ?_ <;> (try simp only [WKe, ↓reduceIte, reduceCtorEq, Int.reduceEq, *])) | with_reducible apply EntR.ex | refine EntR.drop (F := F) ?_ | refine EntR.drop ?_)))))

theorem upool_one {ro : Bool} {v : Value} {xs : List Int} (hx : (xs.length : Int) = 2) : Trip Tryz.prog 88 [v].toArray [sl ro v xs] fun u l' => u = .agg (En.enc (poolU xs)).toArray ∧ l' = [sl ro v xs] := by
  intro F K hK
  simp only [List.cons_append, List.nil_append]
  have g0 := @gU_0 xs
  have g1 := @gU_1 xs
  have g2 := @gU_2 xs
  have g3 := @gU_3 xs
  (refine Tr.enter (rs := [.cell 2 102]) mixed fn88 rfl (by simp +arith [Tryz.ntmps88]) fun u => ?_; simp only [cd88, Tryz.f88])
  ((try simp only [WKb]) <;> (repeat' ((first
    | (refine G.tr ?_; first | refine S.a ?_ | refine S.t ?_ | refine Tr.brK ?_ ?_ | refine S.n fun _ => ?_ | refine S.i fun hix => ?_ | (refine S.g fun hb => ?_; (try simp only [hb])) | (refine S.s (fun hb => ?_) (fun hb => ?_) <;> ((try simp only [hb]) <;> (try (have hp := hb; simp only [WKs] at hp; (try have hq := Int.not_le.2 hp); (try have hq := Int.not_lt.2 hp))))))
    | ((fail_if_success refine G.tr ?_); exact G.prop S.p)
    | fail) <;> (try simp only [WKb, WKh, ↓reduceIte, Nat.reduceEqDiff, Nat.reduceAdd, pl88, g0, g1]))))
  all_goals
    refine Tr.fin hK ⟨rfl, rfl⟩ ?_
    ((try clear hK) <;> (try simp only [WKe, *]) <;> repeat (first | with_reducible exact EntR.done | refine S.e ?_ | (refine S.f ?_ <;> (try simp only [WKe, ↓reduceIte, reduceCtorEq, Int.reduceEq, *])) | with_reducible apply EntR.ex | refine EntR.drop (F := F) ?_ | refine EntR.drop ?_))

instance : ElT 55 PoolC := ⟨⟩
theorem upool_some {b : Nat} {t : List UInt8} {a : Int} {d : Bool} {m : Int} (hr : rdOk ⟨t, a, d⟩) : Trip Tryz.prog 87 [.pointer (some ⟨b, 0, none⟩), .string (bstr [112, 111, 111, 108]), .int .i64 2, .func (.func 88) #[] #[]].toArray [mxB m, rdC b t a d]
    fun v l' => ∃ s : SV, v = s.v ∧ l' = [sl false s.v (someU (wordU 5) 2 poolO 64 ⟨t, a, d⟩ []).1, rdC b (someU (wordU 5) 2 poolO 64 ⟨t, a, d⟩ []).2.t (someU (wordU 5) 2 poolO 64 ⟨t, a, d⟩ []).2.at' (someU (wordU 5) 2 poolO 64 ⟨t, a, d⟩ []).2.bad] := by
  intro F K hK
  simp only [List.cons_append, List.nil_append]
  obtain ⟨w, hw⟩ : ∃ w, w = wordU 5 := ⟨_, rfl⟩
  have hwl : [112, 111, 111, 108] = w := hw ▸ rfl
  rw [← hw] at hK
  rw [hwl]
  generalize hz : someU w 2 poolO 64 ⟨t, a, d⟩ [] = z at hK
  (refine Tr.enter (rs := [.tmp 8]) mixed fn87 rfl (by simp +arith [Tryz.ntmps87]) fun u => ?_; simp only [cd87, Tryz.f87])
  
  ((try simp only [WKb, Nat.reduceAdd]) <;> (repeat' ((first
    | (refine G.tr ?_; first | refine S.a ?_ | refine S.t ?_ | refine Tr.brK ?_ ?_ | (refine G.call 77 ?_; first | refine S.c ?_ (h := upeekS_ok (by assumption) ?_) | refine S.c ?_ (h := upeek_ok ?_)) | (refine G.call 59 ?_; refine S.c ?_ (h := utake_ok ?_ ?_ ?_ ?_)) | (refine G.call 88 ?_; refine S.c ?_ (h := upool_one ?_)) | refine S.n fun _ => ?_ | refine S.i fun hix => ?_ | (refine S.g fun hb => ?_; (try simp only [hb])) | (refine S.s (fun hb => ?_) (fun hb => ?_) <;> ((try simp only [hb]) <;> (try (have hp := hb; simp only [WKs] at hp; (try have hq := Int.not_le.2 hp); (try have hq := Int.not_lt.2 hp))))))
    | rintro _ _ ⟨rfl, rfl⟩
    | rintro _ _ ⟨_, rfl, rfl⟩
    | rintro _ _ ⟨_, _, hpq, rfl, rfl⟩
    | ((fail_if_success refine G.tr ?_); exact G.prop S.p)
    | fail) <;> (try simp only [WKb, WKh, ↓reduceIte, Nat.reduceEqDiff, Nat.reduceAdd, Nat.reduceSub, Int.reduceEq, Int.reduceLT, Int.reduceLE, WKt, pl87]))))
  refine Tr.nilSl (α := PoolC) ?_
  refine Tr.loopE (α := List PoolC × SV × List UInt8 × Int × Bool) [8, 9] [0, 1, 2, 3] (fun x => [.slice none 0 0, x.2.1.v]) (fun x => [sl false x.2.1.v x.1, rdC b x.2.2.1 x.2.2.2.1 x.2.2.2.2, mxB m])
    (fun x => someU w 2 poolO (64 - x.1.length) ⟨x.2.2.1, x.2.2.2.1, x.2.2.2.2⟩ x.1 = z ∧ x.1.length ≤ 64 ∧ rdOk ⟨x.2.2.1, x.2.2.2.1, x.2.2.2.2⟩) (fun x => 65 - x.1.length) ([], ⟨none, 0, 0⟩, t, a, d) (by (repeat (first | exact TakeL.nil | (apply TakeL.cons; focus ((first | exact TakeA.dupS | exact TakeA.dupF | ((repeat (first | with_reducible exact TakeA.here | exact TakeA.fam (by omega) (by omega) | with_reducible apply TakeA.next)); done) | ((repeat (first | exact TakeA.here | apply TakeA.next)); done) | exact TakeA.famNil | exact TakeA.nilS))) | fail)); done) rfl ⟨hz, Nat.zero_le _, hr⟩ fun x u hx => ?_
  obtain ⟨out, s, t, a, d⟩ := x
  simp only at hx ⊢
  obtain ⟨hI, hol, hr⟩ := hx
  clear hz
  obtain ⟨r1, r2, r3, r4⟩ := id hr
  simp only at r1 r2 r3 r4
  cases hpk : peekU ⟨t, a, d⟩ w with
  | none =>
    have hz := some_none (many := 2) (one := poolO) (out := out) hpk (64 - out.length)
    rw [hI] at hz
    subst hz
    have hps : (peekU ⟨t, a, d⟩ w).isSome = false := by rw [hpk]; rfl
    ((try simp only [WKb, ↓reduceIte, Nat.reduceEqDiff]) <;> (repeat' ((first
    | (refine G.tr ?_; first | refine S.a ?_ | refine S.t ?_ | refine Tr.brK ?_ ?_ | (refine G.call 77 ?_; first | refine S.c ?_ (h := upeekS_ok (by assumption) ?_) | refine S.c ?_ (h := upeek_ok ?_)) | (refine G.call 59 ?_; refine S.c ?_ (h := utake_ok ?_ ?_ ?_ ?_)) | (refine G.call 88 ?_; refine S.c ?_ (h := upool_one ?_)) | refine S.n fun _ => ?_ | refine S.i fun hix => ?_ | (refine S.g fun hb => ?_; (try simp only [hb])) | (refine S.s (fun hb => ?_) (fun hb => ?_) <;> ((try simp only [hb]) <;> (try (have hp := hb; simp only [WKs] at hp; (try have hq := Int.not_le.2 hp); (try have hq := Int.not_lt.2 hp))))))
    | rintro _ _ ⟨rfl, rfl⟩
    | rintro _ _ ⟨_, rfl, rfl⟩
    | rintro _ _ ⟨_, _, hpq, rfl, rfl⟩
    | ((fail_if_success refine G.tr ?_); exact G.prop S.p)
    | fail) <;> (try simp only [WKb, ↓reduceIte, Nat.reduceEqDiff, hps]))))
    all_goals
      refine Tr.fin hK ⟨_, rfl, rfl⟩ ?_
      ((try clear hK) <;> (try simp only [WKe, *]) <;> repeat (first | with_reducible exact EntR.done | refine S.e ?_ | (refine S.f ?_ <;> (try simp only [WKe, ↓reduceIte, reduceCtorEq, Int.reduceEq, *])) | with_reducible apply EntR.ex | refine EntR.drop (F := F) ?_ | refine EntR.drop ?_))
  | some q =>
    by_cases h64 : out.length = 64
    · have hz : someU w 2 poolO (64 - out.length) ⟨t, a, d⟩ out = (out, ⟨t, a, d⟩) := by rw [h64]; unfold someU; rfl
      rw [hI] at hz
      subst hz
      have hd64 : (out.length : Int) = 64 := by omega
      ((try simp only [WKb, ↓reduceIte, Nat.reduceEqDiff]) <;> (repeat' ((first
    | (refine G.tr ?_; first | refine S.a ?_ | refine S.t ?_ | refine Tr.brK ?_ ?_ | (refine G.call 77 ?_; first | refine S.c ?_ (h := upeekS_ok (by assumption) ?_) | refine S.c ?_ (h := upeek_ok ?_)) | (refine G.call 59 ?_; refine S.c ?_ (h := utake_ok ?_ ?_ ?_ ?_)) | (refine G.call 88 ?_; refine S.c ?_ (h := upool_one ?_)) | refine S.n fun _ => ?_ | refine S.i fun hix => ?_ | (refine S.g fun hb => ?_; (try simp only [hb])) | (refine S.s (fun hb => ?_) (fun hb => ?_) <;> ((try simp only [hb]) <;> (try (have hp := hb; simp only [WKs] at hp; (try have hq := Int.not_le.2 hp); (try have hq := Int.not_lt.2 hp))))))
    | rintro _ _ ⟨rfl, rfl⟩
    | rintro _ _ ⟨_, rfl, rfl⟩
    | rintro _ _ ⟨_, _, hpq, rfl, rfl⟩
    | ((fail_if_success refine G.tr ?_); exact G.prop S.p)
    | fail) <;> (try simp only [WKb, ↓reduceIte, Nat.reduceEqDiff, hd64]))))
      all_goals
        refine Tr.fin hK ⟨_, rfl, rfl⟩ ?_
        ((try clear hK) <;> (try simp only [WKe, *]) <;> repeat (first | with_reducible exact EntR.done | refine S.e ?_ | (refine S.f ?_ <;> (try simp only [WKe, ↓reduceIte, reduceCtorEq, Int.reduceEq, *])) | with_reducible apply EntR.ex | refine EntR.drop (F := F) ?_ | refine EntR.drop ?_))
    · have hd64 : decide ((out.length : Int) = 64) = false := decide_eq_false (by omega)
      obtain ⟨n, hn⟩ : ∃ n, 64 - out.length = n + 1 := ⟨63 - out.length, by omega⟩
      rw [hn] at hI
      have hto := take_ok (w := w) (many := 2) hr
      generalize htk : takeU ⟨t, a, d⟩ w 2 = tk at hto
      obtain ⟨tl, tt, ta, td⟩ := tk
      obtain ⟨hto1, hto2⟩ := hto
      cases td with
      | true =>
        have hz := some_stop (many := 2) (one := poolO) (out := out) hpk (by rw [htk]) n
        rw [hI, htk] at hz
        subst hz
        ((try simp only [WKb, ↓reduceIte, Nat.reduceEqDiff]) <;> (repeat' ((first
    | (refine G.tr ?_; first | refine S.a ?_ | refine S.t ?_ | refine Tr.brK ?_ ?_ | (refine G.call 77 ?_; first | refine S.c ?_ (h := upeekS_ok (by assumption) ?_) | refine S.c ?_ (h := upeek_ok ?_)) | (refine G.call 59 ?_; refine S.c ?_ (h := utake_ok ?_ ?_ ?_ ?_)) | (refine G.call 88 ?_; refine S.c ?_ (h := upool_one ?_)) | refine S.n fun _ => ?_ | refine S.i fun hix => ?_ | (refine S.g fun hb => ?_; (try simp only [hb])) | (refine S.s (fun hb => ?_) (fun hb => ?_) <;> ((try simp only [hb]) <;> (try (have hp := hb; simp only [WKs] at hp; (try have hq := Int.not_le.2 hp); (try have hq := Int.not_lt.2 hp))))))
    | rintro _ _ ⟨rfl, rfl⟩
    | rintro _ _ ⟨_, rfl, rfl⟩
    | rintro _ _ ⟨_, _, hpq, rfl, rfl⟩
    | ((fail_if_success refine G.tr ?_); exact G.prop S.p)
    | fail) <;> (try simp only [WKb, ↓reduceIte, Nat.reduceEqDiff, Int.reduceLE, hd64, htk]))))
        all_goals
          refine Tr.fin hK ⟨_, rfl, rfl⟩ ?_
          ((try clear hK) <;> (try simp only [WKe, *]) <;> repeat (first | with_reducible exact EntR.done | refine S.e ?_ | (refine S.f ?_ <;> (try simp only [WKe, ↓reduceIte, reduceCtorEq, Int.reduceEq, *])) | with_reducible apply EntR.ex | refine EntR.drop (F := F) ?_ | refine EntR.drop ?_))
      | false =>
        have hz := some_go (many := 2) (one := poolO) (out := out) hpk (by rw [htk]) n
        rw [hI, htk] at hz
        obtain ⟨_, hl, _⟩ := hto2 rfl
        simp only at hl
        have hlm : (tl.length : Int) = 2 := many_pos (by decide) hl
        have hnx : someU w 2 poolO (64 - (out ++ [poolU tl]).length) ⟨tt, ta, false⟩ (out ++ [poolU tl]) = z := by
          rw [List.length_append, List.length_singleton]
          have : 64 - (out.length + 1) = n := by omega
          rw [this, hz]
          rfl
        have hlx : (out ++ [poolU tl]).length ≤ 64 := by rw [List.length_append, List.length_singleton]; omega
        have hmu : (out ++ [poolU tl]).length = out.length + 1 := by rw [List.length_append, List.length_singleton]
        clear hz hI
        ((try simp only [WKb, ↓reduceIte, Nat.reduceEqDiff]) <;> (repeat' ((first
    | (refine G.tr ?_; first | refine S.a ?_ | refine S.t ?_ | refine Tr.brK ?_ ?_ | (refine G.call 77 ?_; first | refine S.c ?_ (h := upeekS_ok (by assumption) ?_) | refine S.c ?_ (h := upeek_ok ?_)) | (refine G.call 59 ?_; refine S.c ?_ (h := utake_ok ?_ ?_ ?_ ?_)) | (refine G.call 88 ?_; refine S.c ?_ (h := upool_one ?_)) | refine S.n fun _ => ?_ | refine S.i fun hix => ?_ | (refine S.g fun hb => ?_; (try simp only [hb])) | (refine S.s (fun hb => ?_) (fun hb => ?_) <;> ((try simp only [hb]) <;> (try (have hp := hb; simp only [WKs] at hp; (try have hq := Int.not_le.2 hp); (try have hq := Int.not_lt.2 hp))))))
    | rintro _ _ ⟨rfl, rfl⟩
    | rintro _ _ ⟨_, rfl, rfl⟩
    | rintro _ _ ⟨_, _, hpq, rfl, rfl⟩
    | ((fail_if_success refine G.tr ?_); exact G.prop S.p)
    | fail) <;> (try simp only [WKb, ↓reduceIte, Nat.reduceEqDiff, Int.reduceLE, hd64, htk]))))
        all_goals
          (apply Tr.againE ((out ++ [poolU tl], _, tt, ta, false)); (focus (simp only [WKb, ↓reduceIte, Nat.reduceEqDiff])); (focus ((try simp only [WKb, ↓reduceIte, Nat.reduceEqDiff, hw]); (all_goals ((repeat (refine cons_eq (by first | rfl | (simp [*]; done)) ?_)); rfl)); done)); (focus (first | omega | assumption | (simp only []; omega) | (refine ⟨by omega, by assumption⟩) | (simp only []; refine ⟨by omega, by assumption⟩) | ((try simp only []); (repeat' (first | omega | assumption | apply hnx | apply hlx | apply hto1 | refine And.intro ?_ ?_)); done))); (focus (first | omega | (simp only []; omega))); (focus (((try clear hK) <;> (try simp only [WKe, *]) <;> repeat (first | with_reducible exact EntR.done | refine S.e ?_ | (refine S.f ?_ <;> (try simp only [WKe, ↓reduceIte, reduceCtorEq, Int.reduceEq, *])) | with_reducible apply EntR.ex | refine EntR.drop (F := F) ?_ | refine EntR.drop ?_)))))

theorem uslate_one {ro : Bool} {v : Value} {xs : List Int} (hx : (xs.length : Int) = 1) : Trip Tryz.prog 90 [v].toArray [sl ro v xs] fun u l' => u = .int .i64 (gU xs 0) ∧ l' = [sl ro v xs] := by
  intro F K hK
  simp only [List.cons_append, List.nil_append]
  have g0 := @gU_0 xs
  have g1 := @gU_1 xs
  have g2 := @gU_2 xs
  have g3 := @gU_3 xs
  (refine Tr.enter (rs := [.tmp 2]) mixed fn90 rfl (by simp +arith [Tryz.ntmps90]) fun u => ?_; simp only [cd90, Tryz.f90])
  ((try simp only [WKb, ↓reduceIte, Nat.reduceEqDiff]) <;> (repeat' ((first
    | (refine G.tr ?_; first | refine S.a ?_ | refine S.t ?_ | refine Tr.brK ?_ ?_ | refine S.n fun _ => ?_ | refine S.i fun hix => ?_ | (refine S.g fun hb => ?_; (try simp only [hb])) | (refine S.s (fun hb => ?_) (fun hb => ?_) <;> ((try simp only [hb]) <;> (try (have hp := hb; simp only [WKs] at hp; (try have hq := Int.not_le.2 hp); (try have hq := Int.not_lt.2 hp))))))
    | ((fail_if_success refine G.tr ?_); exact G.prop S.p)
    | fail) <;> (try simp only [WKb, ↓reduceIte, g0]))))
  all_goals
    refine Tr.fin hK ⟨rfl, rfl⟩ ?_
    ((try clear hK) <;> (try simp only [WKe, *]) <;> repeat (first | with_reducible exact EntR.done | refine S.e ?_ | (refine S.f ?_ <;> (try simp only [WKe, ↓reduceIte, reduceCtorEq, Int.reduceEq, *])) | with_reducible apply EntR.ex | refine EntR.drop (F := F) ?_ | refine EntR.drop ?_))

theorem uslate_some {b : Nat} {t : List UInt8} {a : Int} {d : Bool} {m : Int} (hr : rdOk ⟨t, a, d⟩) : Trip Tryz.prog 89 [.pointer (some ⟨b, 0, none⟩), .string (bstr [115, 108, 97, 116, 101]), .int .i64 1, .func (.func 90) #[] #[]].toArray [mxB m, rdC b t a d]
    fun v l' => ∃ s : SV, v = s.v ∧ l' = [sl false s.v (someU (wordU 6) 1 slateO 64 ⟨t, a, d⟩ []).1, rdC b (someU (wordU 6) 1 slateO 64 ⟨t, a, d⟩ []).2.t (someU (wordU 6) 1 slateO 64 ⟨t, a, d⟩ []).2.at' (someU (wordU 6) 1 slateO 64 ⟨t, a, d⟩ []).2.bad] := by
  intro F K hK
  simp only [List.cons_append, List.nil_append]
  obtain ⟨w, hw⟩ : ∃ w, w = wordU 6 := ⟨_, rfl⟩
  have hwl : [115, 108, 97, 116, 101] = w := hw ▸ rfl
  rw [← hw] at hK
  rw [hwl]
  generalize hz : someU w 1 slateO 64 ⟨t, a, d⟩ [] = z at hK
  (refine Tr.enter (rs := [.tmp 8]) mixed fn89 rfl (by simp +arith [Tryz.ntmps89]) fun u => ?_; simp only [cd89, Tryz.f89])
  
  ((try simp only [WKb, Nat.reduceAdd]) <;> (repeat' ((first
    | (refine G.tr ?_; first | refine S.a ?_ | refine S.t ?_ | refine Tr.brK ?_ ?_ | (refine G.call 77 ?_; first | refine S.c ?_ (h := upeekS_ok (by assumption) ?_) | refine S.c ?_ (h := upeek_ok ?_)) | (refine G.call 59 ?_; refine S.c ?_ (h := utake_ok ?_ ?_ ?_ ?_)) | (refine G.call 90 ?_; refine S.c ?_ (h := uslate_one ?_)) | refine S.n fun _ => ?_ | refine S.i fun hix => ?_ | (refine S.g fun hb => ?_; (try simp only [hb])) | (refine S.s (fun hb => ?_) (fun hb => ?_) <;> ((try simp only [hb]) <;> (try (have hp := hb; simp only [WKs] at hp; (try have hq := Int.not_le.2 hp); (try have hq := Int.not_lt.2 hp))))))
    | rintro _ _ ⟨rfl, rfl⟩
    | rintro _ _ ⟨_, rfl, rfl⟩
    | rintro _ _ ⟨_, _, hpq, rfl, rfl⟩
    | ((fail_if_success refine G.tr ?_); exact G.prop S.p)
    | fail) <;> (try simp only [WKb, WKh, ↓reduceIte, Nat.reduceEqDiff, Nat.reduceAdd, Nat.reduceSub, Int.reduceEq, Int.reduceLT, Int.reduceLE, WKt, pl89]))))
  refine Tr.nilSl (α := Int) ?_
  refine Tr.loopE (α := List Int × SV × List UInt8 × Int × Bool) [8, 9] [0, 1, 2, 3] (fun x => [.slice none 0 0, x.2.1.v]) (fun x => [sl false x.2.1.v x.1, rdC b x.2.2.1 x.2.2.2.1 x.2.2.2.2, mxB m])
    (fun x => someU w 1 slateO (64 - x.1.length) ⟨x.2.2.1, x.2.2.2.1, x.2.2.2.2⟩ x.1 = z ∧ x.1.length ≤ 64 ∧ rdOk ⟨x.2.2.1, x.2.2.2.1, x.2.2.2.2⟩) (fun x => 65 - x.1.length) ([], ⟨none, 0, 0⟩, t, a, d) (by (repeat (first | exact TakeL.nil | (apply TakeL.cons; focus ((first | exact TakeA.dupS | exact TakeA.dupF | ((repeat (first | with_reducible exact TakeA.here | exact TakeA.fam (by omega) (by omega) | with_reducible apply TakeA.next)); done) | ((repeat (first | exact TakeA.here | apply TakeA.next)); done) | exact TakeA.famNil | exact TakeA.nilS))) | fail)); done) rfl ⟨hz, Nat.zero_le _, hr⟩ fun x u hx => ?_
  obtain ⟨out, s, t, a, d⟩ := x
  simp only at hx ⊢
  obtain ⟨hI, hol, hr⟩ := hx
  clear hz
  obtain ⟨r1, r2, r3, r4⟩ := id hr
  simp only at r1 r2 r3 r4
  cases hpk : peekU ⟨t, a, d⟩ w with
  | none =>
    have hz := some_none (many := 1) (one := slateO) (out := out) hpk (64 - out.length)
    rw [hI] at hz
    subst hz
    have hps : (peekU ⟨t, a, d⟩ w).isSome = false := by rw [hpk]; rfl
    ((try simp only [WKb, ↓reduceIte, Nat.reduceEqDiff]) <;> (repeat' ((first
    | (refine G.tr ?_; first | refine S.a ?_ | refine S.t ?_ | refine Tr.brK ?_ ?_ | (refine G.call 77 ?_; first | refine S.c ?_ (h := upeekS_ok (by assumption) ?_) | refine S.c ?_ (h := upeek_ok ?_)) | (refine G.call 59 ?_; refine S.c ?_ (h := utake_ok ?_ ?_ ?_ ?_)) | (refine G.call 90 ?_; refine S.c ?_ (h := uslate_one ?_)) | refine S.n fun _ => ?_ | refine S.i fun hix => ?_ | (refine S.g fun hb => ?_; (try simp only [hb])) | (refine S.s (fun hb => ?_) (fun hb => ?_) <;> ((try simp only [hb]) <;> (try (have hp := hb; simp only [WKs] at hp; (try have hq := Int.not_le.2 hp); (try have hq := Int.not_lt.2 hp))))))
    | rintro _ _ ⟨rfl, rfl⟩
    | rintro _ _ ⟨_, rfl, rfl⟩
    | rintro _ _ ⟨_, _, hpq, rfl, rfl⟩
    | ((fail_if_success refine G.tr ?_); exact G.prop S.p)
    | fail) <;> (try simp only [WKb, ↓reduceIte, Nat.reduceEqDiff, hps]))))
    all_goals
      refine Tr.fin hK ⟨_, rfl, rfl⟩ ?_
      ((try clear hK) <;> (try simp only [WKe, *]) <;> repeat (first | with_reducible exact EntR.done | refine S.e ?_ | (refine S.f ?_ <;> (try simp only [WKe, ↓reduceIte, reduceCtorEq, Int.reduceEq, *])) | with_reducible apply EntR.ex | refine EntR.drop (F := F) ?_ | refine EntR.drop ?_))
  | some q =>
    by_cases h64 : out.length = 64
    · have hz : someU w 1 slateO (64 - out.length) ⟨t, a, d⟩ out = (out, ⟨t, a, d⟩) := by rw [h64]; unfold someU; rfl
      rw [hI] at hz
      subst hz
      have hd64 : (out.length : Int) = 64 := by omega
      ((try simp only [WKb, ↓reduceIte, Nat.reduceEqDiff]) <;> (repeat' ((first
    | (refine G.tr ?_; first | refine S.a ?_ | refine S.t ?_ | refine Tr.brK ?_ ?_ | (refine G.call 77 ?_; first | refine S.c ?_ (h := upeekS_ok (by assumption) ?_) | refine S.c ?_ (h := upeek_ok ?_)) | (refine G.call 59 ?_; refine S.c ?_ (h := utake_ok ?_ ?_ ?_ ?_)) | (refine G.call 90 ?_; refine S.c ?_ (h := uslate_one ?_)) | refine S.n fun _ => ?_ | refine S.i fun hix => ?_ | (refine S.g fun hb => ?_; (try simp only [hb])) | (refine S.s (fun hb => ?_) (fun hb => ?_) <;> ((try simp only [hb]) <;> (try (have hp := hb; simp only [WKs] at hp; (try have hq := Int.not_le.2 hp); (try have hq := Int.not_lt.2 hp))))))
    | rintro _ _ ⟨rfl, rfl⟩
    | rintro _ _ ⟨_, rfl, rfl⟩
    | rintro _ _ ⟨_, _, hpq, rfl, rfl⟩
    | ((fail_if_success refine G.tr ?_); exact G.prop S.p)
    | fail) <;> (try simp only [WKb, ↓reduceIte, Nat.reduceEqDiff, hd64]))))
      all_goals
        refine Tr.fin hK ⟨_, rfl, rfl⟩ ?_
        ((try clear hK) <;> (try simp only [WKe, *]) <;> repeat (first | with_reducible exact EntR.done | refine S.e ?_ | (refine S.f ?_ <;> (try simp only [WKe, ↓reduceIte, reduceCtorEq, Int.reduceEq, *])) | with_reducible apply EntR.ex | refine EntR.drop (F := F) ?_ | refine EntR.drop ?_))
    · have hd64 : decide ((out.length : Int) = 64) = false := decide_eq_false (by omega)
      obtain ⟨n, hn⟩ : ∃ n, 64 - out.length = n + 1 := ⟨63 - out.length, by omega⟩
      rw [hn] at hI
      have hto := take_ok (w := w) (many := 1) hr
      generalize htk : takeU ⟨t, a, d⟩ w 1 = tk at hto
      obtain ⟨tl, tt, ta, td⟩ := tk
      obtain ⟨hto1, hto2⟩ := hto
      cases td with
      | true =>
        have hz := some_stop (many := 1) (one := slateO) (out := out) hpk (by rw [htk]) n
        rw [hI, htk] at hz
        subst hz
        ((try simp only [WKb, ↓reduceIte, Nat.reduceEqDiff]) <;> (repeat' ((first
    | (refine G.tr ?_; first | refine S.a ?_ | refine S.t ?_ | refine Tr.brK ?_ ?_ | (refine G.call 77 ?_; first | refine S.c ?_ (h := upeekS_ok (by assumption) ?_) | refine S.c ?_ (h := upeek_ok ?_)) | (refine G.call 59 ?_; refine S.c ?_ (h := utake_ok ?_ ?_ ?_ ?_)) | (refine G.call 90 ?_; refine S.c ?_ (h := uslate_one ?_)) | refine S.n fun _ => ?_ | refine S.i fun hix => ?_ | (refine S.g fun hb => ?_; (try simp only [hb])) | (refine S.s (fun hb => ?_) (fun hb => ?_) <;> ((try simp only [hb]) <;> (try (have hp := hb; simp only [WKs] at hp; (try have hq := Int.not_le.2 hp); (try have hq := Int.not_lt.2 hp))))))
    | rintro _ _ ⟨rfl, rfl⟩
    | rintro _ _ ⟨_, rfl, rfl⟩
    | rintro _ _ ⟨_, _, hpq, rfl, rfl⟩
    | ((fail_if_success refine G.tr ?_); exact G.prop S.p)
    | fail) <;> (try simp only [WKb, ↓reduceIte, Nat.reduceEqDiff, Int.reduceLE, hd64, htk]))))
        all_goals
          refine Tr.fin hK ⟨_, rfl, rfl⟩ ?_
          ((try clear hK) <;> (try simp only [WKe, *]) <;> repeat (first | with_reducible exact EntR.done | refine S.e ?_ | (refine S.f ?_ <;> (try simp only [WKe, ↓reduceIte, reduceCtorEq, Int.reduceEq, *])) | with_reducible apply EntR.ex | refine EntR.drop (F := F) ?_ | refine EntR.drop ?_))
      | false =>
        have hz := some_go (many := 1) (one := slateO) (out := out) hpk (by rw [htk]) n
        rw [hI, htk] at hz
        obtain ⟨_, hl, _⟩ := hto2 rfl
        simp only at hl
        have hlm : (tl.length : Int) = 1 := many_pos (by decide) hl
        have hnx : someU w 1 slateO (64 - (out ++ [gU tl 0]).length) ⟨tt, ta, false⟩ (out ++ [gU tl 0]) = z := by
          rw [List.length_append, List.length_singleton]
          have : 64 - (out.length + 1) = n := by omega
          rw [this, hz]
          rfl
        have hlx : (out ++ [gU tl 0]).length ≤ 64 := by rw [List.length_append, List.length_singleton]; omega
        have hmu : (out ++ [gU tl 0]).length = out.length + 1 := by rw [List.length_append, List.length_singleton]
        clear hz hI
        ((try simp only [WKb, ↓reduceIte, Nat.reduceEqDiff]) <;> (repeat' ((first
    | (refine G.tr ?_; first | refine S.a ?_ | refine S.t ?_ | refine Tr.brK ?_ ?_ | (refine G.call 77 ?_; first | refine S.c ?_ (h := upeekS_ok (by assumption) ?_) | refine S.c ?_ (h := upeek_ok ?_)) | (refine G.call 59 ?_; refine S.c ?_ (h := utake_ok ?_ ?_ ?_ ?_)) | (refine G.call 90 ?_; refine S.c ?_ (h := uslate_one ?_)) | refine S.n fun _ => ?_ | refine S.i fun hix => ?_ | (refine S.g fun hb => ?_; (try simp only [hb])) | (refine S.s (fun hb => ?_) (fun hb => ?_) <;> ((try simp only [hb]) <;> (try (have hp := hb; simp only [WKs] at hp; (try have hq := Int.not_le.2 hp); (try have hq := Int.not_lt.2 hp))))))
    | rintro _ _ ⟨rfl, rfl⟩
    | rintro _ _ ⟨_, rfl, rfl⟩
    | rintro _ _ ⟨_, _, hpq, rfl, rfl⟩
    | ((fail_if_success refine G.tr ?_); exact G.prop S.p)
    | fail) <;> (try simp only [WKb, ↓reduceIte, Nat.reduceEqDiff, Int.reduceLE, hd64, htk]))))
        all_goals
          (apply Tr.againE ((out ++ [gU tl 0], _, tt, ta, false)); (focus (simp only [WKb, ↓reduceIte, Nat.reduceEqDiff])); (focus ((try simp only [WKb, ↓reduceIte, Nat.reduceEqDiff, hw]); (all_goals ((repeat (refine cons_eq (by first | rfl | (simp [*]; done)) ?_)); rfl)); done)); (focus (first | omega | assumption | (simp only []; omega) | (refine ⟨by omega, by assumption⟩) | (simp only []; refine ⟨by omega, by assumption⟩) | ((try simp only []); (repeat' (first | omega | assumption | apply hnx | apply hlx | apply hto1 | refine And.intro ?_ ?_)); done))); (focus (first | omega | (simp only []; omega))); (focus (((try clear hK) <;> (try simp only [WKe, *]) <;> repeat (first | with_reducible exact EntR.done | refine S.e ?_ | (refine S.f ?_ <;> (try simp only [WKe, ↓reduceIte, reduceCtorEq, Int.reduceEq, *])) | with_reducible apply EntR.ex | refine EntR.drop (F := F) ?_ | refine EntR.drop ?_)))))

theorem uwin_one {ro : Bool} {v : Value} {xs : List Int} (hx : (xs.length : Int) = 3) : Trip Tryz.prog 92 [v].toArray [sl ro v xs] fun u l' => u = .agg (En.enc (winU xs)).toArray ∧ l' = [sl ro v xs] := by
  intro F K hK
  simp only [List.cons_append, List.nil_append]
  have g0 := @gU_0 xs
  have g1 := @gU_1 xs
  have g2 := @gU_2 xs
  have g3 := @gU_3 xs
  (refine Tr.enter (rs := [.cell 2 108]) mixed fn92 rfl (by simp +arith [Tryz.ntmps92]) fun u => ?_; simp only [cd92, Tryz.f92])
  ((try simp only [WKb]) <;> (repeat' ((first
    | (refine G.tr ?_; first | refine S.a ?_ | refine S.t ?_ | refine Tr.brK ?_ ?_ | refine S.n fun _ => ?_ | refine S.i fun hix => ?_ | (refine S.g fun hb => ?_; (try simp only [hb])) | (refine S.s (fun hb => ?_) (fun hb => ?_) <;> ((try simp only [hb]) <;> (try (have hp := hb; simp only [WKs] at hp; (try have hq := Int.not_le.2 hp); (try have hq := Int.not_lt.2 hp))))))
    | ((fail_if_success refine G.tr ?_); exact G.prop S.p)
    | fail) <;> (try simp only [WKb, WKh, ↓reduceIte, Nat.reduceEqDiff, Nat.reduceAdd, pl92, g0, g1, g2]))))
  all_goals
    refine Tr.fin hK ⟨rfl, rfl⟩ ?_
    ((try clear hK) <;> (try simp only [WKe, *]) <;> repeat (first | with_reducible exact EntR.done | refine S.e ?_ | (refine S.f ?_ <;> (try simp only [WKe, ↓reduceIte, reduceCtorEq, Int.reduceEq, *])) | with_reducible apply EntR.ex | refine EntR.drop (F := F) ?_ | refine EntR.drop ?_))

instance : ElT 58 WinC := ⟨⟩
theorem uwin_some {b : Nat} {t : List UInt8} {a : Int} {d : Bool} {m : Int} (hr : rdOk ⟨t, a, d⟩) : Trip Tryz.prog 91 [.pointer (some ⟨b, 0, none⟩), .string (bstr [119, 105, 110, 100, 111, 119]), .int .i64 3, .func (.func 92) #[] #[]].toArray [mxB m, rdC b t a d]
    fun v l' => ∃ s : SV, v = s.v ∧ l' = [sl false s.v (someU (wordU 10) 3 winO 64 ⟨t, a, d⟩ []).1, rdC b (someU (wordU 10) 3 winO 64 ⟨t, a, d⟩ []).2.t (someU (wordU 10) 3 winO 64 ⟨t, a, d⟩ []).2.at' (someU (wordU 10) 3 winO 64 ⟨t, a, d⟩ []).2.bad] := by
  intro F K hK
  simp only [List.cons_append, List.nil_append]
  obtain ⟨w, hw⟩ : ∃ w, w = wordU 10 := ⟨_, rfl⟩
  have hwl : [119, 105, 110, 100, 111, 119] = w := hw ▸ rfl
  rw [← hw] at hK
  rw [hwl]
  generalize hz : someU w 3 winO 64 ⟨t, a, d⟩ [] = z at hK
  (refine Tr.enter (rs := [.tmp 8]) mixed fn91 rfl (by simp +arith [Tryz.ntmps91]) fun u => ?_; simp only [cd91, Tryz.f91])
  
  ((try simp only [WKb, Nat.reduceAdd]) <;> (repeat' ((first
    | (refine G.tr ?_; first | refine S.a ?_ | refine S.t ?_ | refine Tr.brK ?_ ?_ | (refine G.call 77 ?_; first | refine S.c ?_ (h := upeekS_ok (by assumption) ?_) | refine S.c ?_ (h := upeek_ok ?_)) | (refine G.call 59 ?_; refine S.c ?_ (h := utake_ok ?_ ?_ ?_ ?_)) | (refine G.call 92 ?_; refine S.c ?_ (h := uwin_one ?_)) | refine S.n fun _ => ?_ | refine S.i fun hix => ?_ | (refine S.g fun hb => ?_; (try simp only [hb])) | (refine S.s (fun hb => ?_) (fun hb => ?_) <;> ((try simp only [hb]) <;> (try (have hp := hb; simp only [WKs] at hp; (try have hq := Int.not_le.2 hp); (try have hq := Int.not_lt.2 hp))))))
    | rintro _ _ ⟨rfl, rfl⟩
    | rintro _ _ ⟨_, rfl, rfl⟩
    | rintro _ _ ⟨_, _, hpq, rfl, rfl⟩
    | ((fail_if_success refine G.tr ?_); exact G.prop S.p)
    | fail) <;> (try simp only [WKb, WKh, ↓reduceIte, Nat.reduceEqDiff, Nat.reduceAdd, Nat.reduceSub, Int.reduceEq, Int.reduceLT, Int.reduceLE, WKt, pl91]))))
  refine Tr.nilSl (α := WinC) ?_
  refine Tr.loopE (α := List WinC × SV × List UInt8 × Int × Bool) [8, 9] [0, 1, 2, 3] (fun x => [.slice none 0 0, x.2.1.v]) (fun x => [sl false x.2.1.v x.1, rdC b x.2.2.1 x.2.2.2.1 x.2.2.2.2, mxB m])
    (fun x => someU w 3 winO (64 - x.1.length) ⟨x.2.2.1, x.2.2.2.1, x.2.2.2.2⟩ x.1 = z ∧ x.1.length ≤ 64 ∧ rdOk ⟨x.2.2.1, x.2.2.2.1, x.2.2.2.2⟩) (fun x => 65 - x.1.length) ([], ⟨none, 0, 0⟩, t, a, d) (by (repeat (first | exact TakeL.nil | (apply TakeL.cons; focus ((first | exact TakeA.dupS | exact TakeA.dupF | ((repeat (first | with_reducible exact TakeA.here | exact TakeA.fam (by omega) (by omega) | with_reducible apply TakeA.next)); done) | ((repeat (first | exact TakeA.here | apply TakeA.next)); done) | exact TakeA.famNil | exact TakeA.nilS))) | fail)); done) rfl ⟨hz, Nat.zero_le _, hr⟩ fun x u hx => ?_
  obtain ⟨out, s, t, a, d⟩ := x
  simp only at hx ⊢
  obtain ⟨hI, hol, hr⟩ := hx
  clear hz
  obtain ⟨r1, r2, r3, r4⟩ := id hr
  simp only at r1 r2 r3 r4
  cases hpk : peekU ⟨t, a, d⟩ w with
  | none =>
    have hz := some_none (many := 3) (one := winO) (out := out) hpk (64 - out.length)
    rw [hI] at hz
    subst hz
    have hps : (peekU ⟨t, a, d⟩ w).isSome = false := by rw [hpk]; rfl
    ((try simp only [WKb, ↓reduceIte, Nat.reduceEqDiff]) <;> (repeat' ((first
    | (refine G.tr ?_; first | refine S.a ?_ | refine S.t ?_ | refine Tr.brK ?_ ?_ | (refine G.call 77 ?_; first | refine S.c ?_ (h := upeekS_ok (by assumption) ?_) | refine S.c ?_ (h := upeek_ok ?_)) | (refine G.call 59 ?_; refine S.c ?_ (h := utake_ok ?_ ?_ ?_ ?_)) | (refine G.call 92 ?_; refine S.c ?_ (h := uwin_one ?_)) | refine S.n fun _ => ?_ | refine S.i fun hix => ?_ | (refine S.g fun hb => ?_; (try simp only [hb])) | (refine S.s (fun hb => ?_) (fun hb => ?_) <;> ((try simp only [hb]) <;> (try (have hp := hb; simp only [WKs] at hp; (try have hq := Int.not_le.2 hp); (try have hq := Int.not_lt.2 hp))))))
    | rintro _ _ ⟨rfl, rfl⟩
    | rintro _ _ ⟨_, rfl, rfl⟩
    | rintro _ _ ⟨_, _, hpq, rfl, rfl⟩
    | ((fail_if_success refine G.tr ?_); exact G.prop S.p)
    | fail) <;> (try simp only [WKb, ↓reduceIte, Nat.reduceEqDiff, hps]))))
    all_goals
      refine Tr.fin hK ⟨_, rfl, rfl⟩ ?_
      ((try clear hK) <;> (try simp only [WKe, *]) <;> repeat (first | with_reducible exact EntR.done | refine S.e ?_ | (refine S.f ?_ <;> (try simp only [WKe, ↓reduceIte, reduceCtorEq, Int.reduceEq, *])) | with_reducible apply EntR.ex | refine EntR.drop (F := F) ?_ | refine EntR.drop ?_))
  | some q =>
    by_cases h64 : out.length = 64
    · have hz : someU w 3 winO (64 - out.length) ⟨t, a, d⟩ out = (out, ⟨t, a, d⟩) := by rw [h64]; unfold someU; rfl
      rw [hI] at hz
      subst hz
      have hd64 : (out.length : Int) = 64 := by omega
      ((try simp only [WKb, ↓reduceIte, Nat.reduceEqDiff]) <;> (repeat' ((first
    | (refine G.tr ?_; first | refine S.a ?_ | refine S.t ?_ | refine Tr.brK ?_ ?_ | (refine G.call 77 ?_; first | refine S.c ?_ (h := upeekS_ok (by assumption) ?_) | refine S.c ?_ (h := upeek_ok ?_)) | (refine G.call 59 ?_; refine S.c ?_ (h := utake_ok ?_ ?_ ?_ ?_)) | (refine G.call 92 ?_; refine S.c ?_ (h := uwin_one ?_)) | refine S.n fun _ => ?_ | refine S.i fun hix => ?_ | (refine S.g fun hb => ?_; (try simp only [hb])) | (refine S.s (fun hb => ?_) (fun hb => ?_) <;> ((try simp only [hb]) <;> (try (have hp := hb; simp only [WKs] at hp; (try have hq := Int.not_le.2 hp); (try have hq := Int.not_lt.2 hp))))))
    | rintro _ _ ⟨rfl, rfl⟩
    | rintro _ _ ⟨_, rfl, rfl⟩
    | rintro _ _ ⟨_, _, hpq, rfl, rfl⟩
    | ((fail_if_success refine G.tr ?_); exact G.prop S.p)
    | fail) <;> (try simp only [WKb, ↓reduceIte, Nat.reduceEqDiff, hd64]))))
      all_goals
        refine Tr.fin hK ⟨_, rfl, rfl⟩ ?_
        ((try clear hK) <;> (try simp only [WKe, *]) <;> repeat (first | with_reducible exact EntR.done | refine S.e ?_ | (refine S.f ?_ <;> (try simp only [WKe, ↓reduceIte, reduceCtorEq, Int.reduceEq, *])) | with_reducible apply EntR.ex | refine EntR.drop (F := F) ?_ | refine EntR.drop ?_))
    · have hd64 : decide ((out.length : Int) = 64) = false := decide_eq_false (by omega)
      obtain ⟨n, hn⟩ : ∃ n, 64 - out.length = n + 1 := ⟨63 - out.length, by omega⟩
      rw [hn] at hI
      have hto := take_ok (w := w) (many := 3) hr
      generalize htk : takeU ⟨t, a, d⟩ w 3 = tk at hto
      obtain ⟨tl, tt, ta, td⟩ := tk
      obtain ⟨hto1, hto2⟩ := hto
      cases td with
      | true =>
        have hz := some_stop (many := 3) (one := winO) (out := out) hpk (by rw [htk]) n
        rw [hI, htk] at hz
        subst hz
        ((try simp only [WKb, ↓reduceIte, Nat.reduceEqDiff]) <;> (repeat' ((first
    | (refine G.tr ?_; first | refine S.a ?_ | refine S.t ?_ | refine Tr.brK ?_ ?_ | (refine G.call 77 ?_; first | refine S.c ?_ (h := upeekS_ok (by assumption) ?_) | refine S.c ?_ (h := upeek_ok ?_)) | (refine G.call 59 ?_; refine S.c ?_ (h := utake_ok ?_ ?_ ?_ ?_)) | (refine G.call 92 ?_; refine S.c ?_ (h := uwin_one ?_)) | refine S.n fun _ => ?_ | refine S.i fun hix => ?_ | (refine S.g fun hb => ?_; (try simp only [hb])) | (refine S.s (fun hb => ?_) (fun hb => ?_) <;> ((try simp only [hb]) <;> (try (have hp := hb; simp only [WKs] at hp; (try have hq := Int.not_le.2 hp); (try have hq := Int.not_lt.2 hp))))))
    | rintro _ _ ⟨rfl, rfl⟩
    | rintro _ _ ⟨_, rfl, rfl⟩
    | rintro _ _ ⟨_, _, hpq, rfl, rfl⟩
    | ((fail_if_success refine G.tr ?_); exact G.prop S.p)
    | fail) <;> (try simp only [WKb, ↓reduceIte, Nat.reduceEqDiff, Int.reduceLE, hd64, htk]))))
        all_goals
          refine Tr.fin hK ⟨_, rfl, rfl⟩ ?_
          ((try clear hK) <;> (try simp only [WKe, *]) <;> repeat (first | with_reducible exact EntR.done | refine S.e ?_ | (refine S.f ?_ <;> (try simp only [WKe, ↓reduceIte, reduceCtorEq, Int.reduceEq, *])) | with_reducible apply EntR.ex | refine EntR.drop (F := F) ?_ | refine EntR.drop ?_))
      | false =>
        have hz := some_go (many := 3) (one := winO) (out := out) hpk (by rw [htk]) n
        rw [hI, htk] at hz
        obtain ⟨_, hl, _⟩ := hto2 rfl
        simp only at hl
        have hlm : (tl.length : Int) = 3 := many_pos (by decide) hl
        have hnx : someU w 3 winO (64 - (out ++ [winU tl]).length) ⟨tt, ta, false⟩ (out ++ [winU tl]) = z := by
          rw [List.length_append, List.length_singleton]
          have : 64 - (out.length + 1) = n := by omega
          rw [this, hz]
          rfl
        have hlx : (out ++ [winU tl]).length ≤ 64 := by rw [List.length_append, List.length_singleton]; omega
        have hmu : (out ++ [winU tl]).length = out.length + 1 := by rw [List.length_append, List.length_singleton]
        clear hz hI
        ((try simp only [WKb, ↓reduceIte, Nat.reduceEqDiff]) <;> (repeat' ((first
    | (refine G.tr ?_; first | refine S.a ?_ | refine S.t ?_ | refine Tr.brK ?_ ?_ | (refine G.call 77 ?_; first | refine S.c ?_ (h := upeekS_ok (by assumption) ?_) | refine S.c ?_ (h := upeek_ok ?_)) | (refine G.call 59 ?_; refine S.c ?_ (h := utake_ok ?_ ?_ ?_ ?_)) | (refine G.call 92 ?_; refine S.c ?_ (h := uwin_one ?_)) | refine S.n fun _ => ?_ | refine S.i fun hix => ?_ | (refine S.g fun hb => ?_; (try simp only [hb])) | (refine S.s (fun hb => ?_) (fun hb => ?_) <;> ((try simp only [hb]) <;> (try (have hp := hb; simp only [WKs] at hp; (try have hq := Int.not_le.2 hp); (try have hq := Int.not_lt.2 hp))))))
    | rintro _ _ ⟨rfl, rfl⟩
    | rintro _ _ ⟨_, rfl, rfl⟩
    | rintro _ _ ⟨_, _, hpq, rfl, rfl⟩
    | ((fail_if_success refine G.tr ?_); exact G.prop S.p)
    | fail) <;> (try simp only [WKb, ↓reduceIte, Nat.reduceEqDiff, Int.reduceLE, hd64, htk]))))
        all_goals
          (apply Tr.againE ((out ++ [winU tl], _, tt, ta, false)); (focus (simp only [WKb, ↓reduceIte, Nat.reduceEqDiff])); (focus ((try simp only [WKb, ↓reduceIte, Nat.reduceEqDiff, hw]); (all_goals ((repeat (refine cons_eq (by first | rfl | (simp [*]; done)) ?_)); rfl)); done)); (focus (first | omega | assumption | (simp only []; omega) | (refine ⟨by omega, by assumption⟩) | (simp only []; refine ⟨by omega, by assumption⟩) | ((try simp only []); (repeat' (first | omega | assumption | apply hnx | apply hlx | apply hto1 | refine And.intro ?_ ?_)); done))); (focus (first | omega | (simp only []; omega))); (focus (((try clear hK) <;> (try simp only [WKe, *]) <;> repeat (first | with_reducible exact EntR.done | refine S.e ?_ | (refine S.f ?_ <;> (try simp only [WKe, ↓reduceIte, reduceCtorEq, Int.reduceEq, *])) | with_reducible apply EntR.ex | refine EntR.drop (F := F) ?_ | refine EntR.drop ?_)))))

end Go.Proofs.YtgkhjgpgdfbdpaaGreatDoor
