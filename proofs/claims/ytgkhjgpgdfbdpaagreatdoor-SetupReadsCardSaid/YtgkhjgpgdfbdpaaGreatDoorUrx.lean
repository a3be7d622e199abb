import Derived.Test.YtgkhjgpgdfbdpaaGreatDoorUQ
namespace Go.Proofs.YtgkhjgpgdfbdpaaGreatDoor
open Go Go.Wk
set_option maxHeartbeats 6400000
set_option maxRecDepth 100000

/-! ### lines of one kind, with truths -/
theorem truth_okR {r : Rd} {n : Int} (h : rdOk r) : rdOk (truthU r n) := by
  unfold truthU
  split
  · rename_i hc
    obtain ⟨h1, h2, h3, h4⟩ := h
    have := h3 hc.2.2
    refine ⟨h1, ?_, fun h => (by cases h), ?_⟩
    · show 0 ≤ r.at' - 1
      omega
    · show r.at' - 1 + (r.t.length : Int) ≤ 70000
      omega
  · exact h
abbrev capC (c b : Nat) : Asrt := blk c (.cells [.pointer (some ⟨b, 0, none⟩)].toArray 79 (0, 0))
theorem rd_a {r : Rd} (h : rdOk r) : 0 ≤ r.at' ∧ r.at' ≤ 100000 := ⟨h.2.1, by have := h.2.2.2; omega⟩
attribute [local irreducible] BrK GenK EGenK EUnitK CallK FnK CallV GuardO GuardC CondW opX opK opKc chkR eqR seqK blkK endL WL WD W LoopW BinK Tr drewK resL PickK NotK NilK ExtrK getK Instr.storeAt Instr.loadAt Instr.fieldAt Instr.indexAt Instr.lookup Instr.mapUpdate Instr.box Instr.alloc Instr.build Instr.buildSlice Instr.makeSlice Instr.makeMap Instr.sliceAt Instr.field Instr.index Instr.makeInterface Instr.typeAssert Builtin.len_ Builtin.append_ Builtin.cap_ Builtin.min_ Builtin.max_ Builtin.copy_ Builtin.clear_ convert binOp mp blk rob sl sep ex fact old
attribute [local irreducible] NegK mxV gU someU takeU truthU
theorem ureg_one {ro : Bool} {v : Value} {xs : List Int} {c b : Nat} {t : List UInt8} {a : Int} {d : Bool} (hx : (xs.length : Int) = 3) (hr : rdOk ⟨t, a, d⟩) : Trip Tryz.prog 79 [v, .pointer (some ⟨c, 0, none⟩)].toArray [sl ro v xs, capC c b, rdC b t a d]
    fun u l' => u = .agg (En.enc (regU xs)).toArray ∧ l' = [sl ro v xs, capC c b, rdC b (truthU ⟨t, a, d⟩ (gU xs 2)).t (truthU ⟨t, a, d⟩ (gU xs 2)).at' (truthU ⟨t, a, d⟩ (gU xs 2)).bad] := by
  intro F K hK
  simp only [List.cons_append, List.nil_append]
  have g0 := @gU_0 xs
  have g1 := @gU_1 xs
  have g2 := @gU_2 xs
  have g3 := @gU_3 xs
  obtain ⟨ha1, ha2⟩ := rd_a hr
  simp only at ha1 ha2
  (refine Tr.enter (rs := [.cell 3 93]) mixed fn79 rfl (by simp +arith [Tryz.ntmps79]) fun u => ?_; simp only [cd79, Tryz.f79])
  ((try simp only [WKb, Nat.reduceAdd]) <;> (repeat' ((first
    | (refine G.tr ?_; first | refine S.a ?_ | refine S.t ?_ | refine Tr.brK ?_ ?_ | (refine G.call 80 ?_; refine S.c ?_ (h := utrue_ok ?_)) | refine S.n fun _ => ?_ | refine S.i fun hix => ?_ | (refine S.g fun hb => ?_; (try simp only [hb])) | (refine S.s (fun hb => ?_) (fun hb => ?_) <;> ((try simp only [hb]) <;> (try (have hp := hb; simp only [WKs] at hp; (try have hq := Int.not_le.2 hp); (try have hq := Int.not_lt.2 hp))))))
    | rintro _ _ ⟨rfl, rfl⟩
    | ((fail_if_success refine G.tr ?_); exact G.prop S.p)
    | fail) <;> (try simp only [WKb, WKh, ↓reduceIte, Nat.reduceEqDiff, Nat.reduceAdd, pl79, g0, g1, g2]))))
  all_goals
    refine Tr.fin hK ⟨rfl, rfl⟩ ?_
    ((try clear hK) <;> (try simp only [WKe, *]) <;> repeat (first | with_reducible exact EntR.done | refine S.e ?_ | (refine S.f ?_ <;> (try simp only [WKe, ↓reduceIte, reduceCtorEq, Int.reduceEq, *])) | with_reducible apply EntR.ex | refine EntR.drop (F := F) ?_ | refine EntR.drop ?_))

instance : ElT 51 RegC := ⟨⟩
theorem ureg_some {b c : Nat} {t : List UInt8} {a : Int} {d : Bool} {m : Int} (hr : rdOk ⟨t, a, d⟩) : Trip Tryz.prog 78 [.pointer (some ⟨b, 0, none⟩), .string (bstr [114, 101, 103, 105, 111, 110]), .int .i64 3, .func (.func 79) #[] [.pointer (some ⟨c, 0, none⟩)].toArray].toArray [mxB m, rdC b t a d, capC c b]
    fun v l' => ∃ s : SV, v = s.v ∧ l' = [sl false s.v (someU (wordU 1) 3 regO 64 ⟨t, a, d⟩ []).1, rdC b (someU (wordU 1) 3 regO 64 ⟨t, a, d⟩ []).2.t (someU (wordU 1) 3 regO 64 ⟨t, a, d⟩ []).2.at' (someU (wordU 1) 3 regO 64 ⟨t, a, d⟩ []).2.bad, capC c b] := by
  intro F K hK
  simp only [List.cons_append, List.nil_append]
  obtain ⟨w, hw⟩ : ∃ w, w = wordU 1 := ⟨_, rfl⟩
  have hwl : [114, 101, 103, 105, 111, 110] = w := hw ▸ rfl
  rw [← hw] at hK
  rw [hwl]
  generalize hz : someU w 3 regO 64 ⟨t, a, d⟩ [] = z at hK
  (refine Tr.enter (rs := [.tmp 8]) mixed fn78 rfl (by simp +arith [Tryz.ntmps78]) fun u => ?_; simp only [cd78, Tryz.f78])
  
  ((try simp only [WKb, Nat.reduceAdd]) <;> (repeat' ((first
    | (refine G.tr ?_; first | refine S.a ?_ | refine S.t ?_ | refine Tr.brK ?_ ?_ | (refine G.call 77 ?_; first | refine S.c ?_ (h := upeekS_ok (by assumption) ?_) | refine S.c ?_ (h := upeek_ok ?_)) | (refine G.call 59 ?_; refine S.c ?_ (h := utake_ok ?_ ?_ ?_ ?_)) | (refine G.call 79 ?_; refine S.c ?_ (h := ureg_one ?_ ?_)) | refine S.n fun _ => ?_ | refine S.i fun hix => ?_ | (refine S.g fun hb => ?_; (try simp only [hb])) | (refine S.s (fun hb => ?_) (fun hb => ?_) <;> ((try simp only [hb]) <;> (try (have hp := hb; simp only [WKs] at hp; (try have hq := Int.not_le.2 hp); (try have hq := Int.not_lt.2 hp))))))
    | rintro _ _ ⟨rfl, rfl⟩
    | rintro _ _ ⟨_, rfl, rfl⟩
    | rintro _ _ ⟨_, _, hpq, rfl, rfl⟩
    | ((fail_if_success refine G.tr ?_); exact G.prop S.p)
    | fail) <;> (try simp only [WKb, WKh, ↓reduceIte, Nat.reduceEqDiff, Nat.reduceAdd, Nat.reduceSub, Int.reduceEq, Int.reduceLT, Int.reduceLE, WKt, pl78]))))
  refine Tr.nilSl (α := RegC) ?_
  refine Tr.loopE (α := List RegC × SV × List UInt8 × Int × Bool) [8, 9] [0, 1, 2, 3] (fun x => [.slice none 0 0, x.2.1.v]) (fun x => [sl false x.2.1.v x.1, rdC b x.2.2.1 x.2.2.2.1 x.2.2.2.2, mxB m, capC c b])
    (fun x => someU w 3 regO (64 - x.1.length) ⟨x.2.2.1, x.2.2.2.1, x.2.2.2.2⟩ x.1 = z ∧ x.1.length ≤ 64 ∧ rdOk ⟨x.2.2.1, x.2.2.2.1, x.2.2.2.2⟩) (fun x => 65 - x.1.length) ([], ⟨none, 0, 0⟩, t, a, d) (by (repeat (first | exact TakeL.nil | (apply TakeL.cons; focus ((first | exact TakeA.dupS | exact TakeA.dupF | ((repeat (first | with_reducible exact TakeA.here | exact TakeA.fam (by omega) (by omega) | with_reducible apply TakeA.next)); done) | ((repeat (first | exact TakeA.here | apply TakeA.next)); done) | exact TakeA.famNil | exact TakeA.nilS))) | fail)); done) rfl ⟨hz, Nat.zero_le _, hr⟩ fun x u hx => ?_
  obtain ⟨out, s, t, a, d⟩ := x
  simp only at hx ⊢
  obtain ⟨hI, hol, hr⟩ := hx
  clear hz
  obtain ⟨r1, r2, r3, r4⟩ := id hr
  simp only at r1 r2 r3 r4
  cases hpk : peekU ⟨t, a, d⟩ w with
  | none =>
    have hz := some_none (many := 3) (one := regO) (out := out) hpk (64 - out.length)
    rw [hI] at hz
    subst hz
    have hps : (peekU ⟨t, a, d⟩ w).isSome = false := by rw [hpk]; rfl
    ((try simp only [WKb, ↓reduceIte, Nat.reduceEqDiff]) <;> (repeat' ((first
    | (refine G.tr ?_; first | refine S.a ?_ | refine S.t ?_ | refine Tr.brK ?_ ?_ | (refine G.call 77 ?_; first | refine S.c ?_ (h := upeekS_ok (by assumption) ?_) | refine S.c ?_ (h := upeek_ok ?_)) | (refine G.call 59 ?_; refine S.c ?_ (h := utake_ok ?_ ?_ ?_ ?_)) | (refine G.call 79 ?_; refine S.c ?_ (h := ureg_one ?_ ?_)) | refine S.n fun _ => ?_ | refine S.i fun hix => ?_ | (refine S.g fun hb => ?_; (try simp only [hb])) | (refine S.s (fun hb => ?_) (fun hb => ?_) <;> ((try simp only [hb]) <;> (try (have hp := hb; simp only [WKs] at hp; (try have hq := Int.not_le.2 hp); (try have hq := Int.not_lt.2 hp))))))
    | rintro _ _ ⟨rfl, rfl⟩
    | rintro _ _ ⟨_, rfl, rfl⟩
    | rintro _ _ ⟨_, _, hpq, rfl, rfl⟩
    | ((fail_if_success refine G.tr ?_); exact G.prop S.p)
    | fail) <;> (try simp only [WKb, ↓reduceIte, Nat.reduceEqDiff, hps]))))
    all_goals
      refine Tr.fin hK ⟨_, rfl, rfl⟩ ?_
      ((try clear hK) <;> (try simp only [WKe, *]) <;> repeat (first | with_reducible exact EntR.done | refine S.e ?_ | (refine S.f ?_ <;> (try simp only [WKe, ↓reduceIte, reduceCtorEq, Int.reduceEq, *])) | with_reducible apply EntR.ex | refine EntR.drop (F := F) ?_ | refine EntR.drop ?_))
  | some q =>
    by_cases h64 : out.length = 64
    · have hz : someU w 3 regO (64 - out.length) ⟨t, a, d⟩ out = (out, ⟨t, a, d⟩) := by rw [h64]; unfold someU; rfl
      rw [hI] at hz
      subst hz
      have hd64 : (out.length : Int) = 64 := by omega
      ((try simp only [WKb, ↓reduceIte, Nat.reduceEqDiff]) <;> (repeat' ((first
    | (refine G.tr ?_; first | refine S.a ?_ | refine S.t ?_ | refine Tr.brK ?_ ?_ | (refine G.call 77 ?_; first | refine S.c ?_ (h := upeekS_ok (by assumption) ?_) | refine S.c ?_ (h := upeek_ok ?_)) | (refine G.call 59 ?_; refine S.c ?_ (h := utake_ok ?_ ?_ ?_ ?_)) | (refine G.call 79 ?_; refine S.c ?_ (h := ureg_one ?_ ?_)) | refine S.n fun _ => ?_ | refine S.i fun hix => ?_ | (refine S.g fun hb => ?_; (try simp only [hb])) | (refine S.s (fun hb => ?_) (fun hb => ?_) <;> ((try simp only [hb]) <;> (try (have hp := hb; simp only [WKs] at hp; (try have hq := Int.not_le.2 hp); (try have hq := Int.not_lt.2 hp))))))
    | rintro _ _ ⟨rfl, rfl⟩
    | rintro _ _ ⟨_, rfl, rfl⟩
    | rintro _ _ ⟨_, _, hpq, rfl, rfl⟩
    | ((fail_if_success refine G.tr ?_); exact G.prop S.p)
    | fail) <;> (try simp only [WKb, ↓reduceIte, Nat.reduceEqDiff, hd64]))))
      all_goals
        refine Tr.fin hK ⟨_, rfl, rfl⟩ ?_
        ((try clear hK) <;> (try simp only [WKe, *]) <;> repeat (first | with_reducible exact EntR.done | refine S.e ?_ | (refine S.f ?_ <;> (try simp only [WKe, ↓reduceIte, reduceCtorEq, Int.reduceEq, *])) | with_reducible apply EntR.ex | refine EntR.drop (F := F) ?_ | refine EntR.drop ?_))
    · have hd64 : decide ((out.length : Int) = 64) = false := decide_eq_false (by omega)
      obtain ⟨n, hn⟩ : ∃ n, 64 - out.length = n + 1 := ⟨63 - out.length, by omega⟩
      rw [hn] at hI
      have hto := take_ok (w := w) (many := 3) hr
      generalize htk : takeU ⟨t, a, d⟩ w 3 = tk at hto
      obtain ⟨tl, tt, ta, td⟩ := tk
      obtain ⟨hto1, hto2⟩ := hto
      cases td with
      | true =>
        have hz := some_stop (many := 3) (one := regO) (out := out) hpk (by rw [htk]) n
        rw [hI, htk] at hz
        subst hz
        ((try simp only [WKb, ↓reduceIte, Nat.reduceEqDiff]) <;> (repeat' ((first
    | (refine G.tr ?_; first | refine S.a ?_ | refine S.t ?_ | refine Tr.brK ?_ ?_ | (refine G.call 77 ?_; first | refine S.c ?_ (h := upeekS_ok (by assumption) ?_) | refine S.c ?_ (h := upeek_ok ?_)) | (refine G.call 59 ?_; refine S.c ?_ (h := utake_ok ?_ ?_ ?_ ?_)) | (refine G.call 79 ?_; refine S.c ?_ (h := ureg_one ?_ ?_)) | refine S.n fun _ => ?_ | refine S.i fun hix => ?_ | (refine S.g fun hb => ?_; (try simp only [hb])) | (refine S.s (fun hb => ?_) (fun hb => ?_) <;> ((try simp only [hb]) <;> (try (have hp := hb; simp only [WKs] at hp; (try have hq := Int.not_le.2 hp); (try have hq := Int.not_lt.2 hp))))))
    | rintro _ _ ⟨rfl, rfl⟩
    | rintro _ _ ⟨_, rfl, rfl⟩
    | rintro _ _ ⟨_, _, hpq, rfl, rfl⟩
    | ((fail_if_success refine G.tr ?_); exact G.prop S.p)
    | fail) <;> (try simp only [WKb, ↓reduceIte, Nat.reduceEqDiff, Int.reduceLE, hd64, htk]))))
        all_goals
          refine Tr.fin hK ⟨_, rfl, rfl⟩ ?_
          ((try clear hK) <;> (try simp only [WKe, *]) <;> repeat (first | with_reducible exact EntR.done | refine S.e ?_ | (refine S.f ?_ <;> (try simp only [WKe, ↓reduceIte, reduceCtorEq, Int.reduceEq, *])) | with_reducible apply EntR.ex | refine EntR.drop (F := F) ?_ | refine EntR.drop ?_))
      | false =>
        have hz := some_go (many := 3) (one := regO) (out := out) hpk (by rw [htk]) n
        rw [hI, htk] at hz
        obtain ⟨_, hl, _⟩ := hto2 rfl
        simp only at hl
        have hlm : (tl.length : Int) = 3 := many_pos (by decide) hl
        have hnx : someU w 3 regO (64 - (out ++ [regU tl]).length) ⟨(truthU ⟨tt, ta, false⟩ (gU tl 2)).t, (truthU ⟨tt, ta, false⟩ (gU tl 2)).at', (truthU ⟨tt, ta, false⟩ (gU tl 2)).bad⟩ (out ++ [regU tl]) = z := by
          rw [List.length_append, List.length_singleton]
          have : 64 - (out.length + 1) = n := by omega
          rw [this, hz]
          rfl
        have hlx : (out ++ [regU tl]).length ≤ 64 := by rw [List.length_append, List.length_singleton]; omega
        have hmu : (out ++ [regU tl]).length = out.length + 1 := by rw [List.length_append, List.length_singleton]
        have hrx : rdOk ⟨(truthU ⟨tt, ta, false⟩ (gU tl 2)).t, (truthU ⟨tt, ta, false⟩ (gU tl 2)).at', (truthU ⟨tt, ta, false⟩ (gU tl 2)).bad⟩ := truth_okR hto1
        clear hz hI
        ((try simp only [WKb, ↓reduceIte, Nat.reduceEqDiff]) <;> (repeat' ((first
    | (refine G.tr ?_; first | refine S.a ?_ | refine S.t ?_ | refine Tr.brK ?_ ?_ | (refine G.call 77 ?_; first | refine S.c ?_ (h := upeekS_ok (by assumption) ?_) | refine S.c ?_ (h := upeek_ok ?_)) | (refine G.call 59 ?_; refine S.c ?_ (h := utake_ok ?_ ?_ ?_ ?_)) | (refine G.call 79 ?_; refine S.c ?_ (h := ureg_one ?_ ?_)) | refine S.n fun _ => ?_ | refine S.i fun hix => ?_ | (refine S.g fun hb => ?_; (try simp only [hb])) | (refine S.s (fun hb => ?_) (fun hb => ?_) <;> ((try simp only [hb]) <;> (try (have hp := hb; simp only [WKs] at hp; (try have hq := Int.not_le.2 hp); (try have hq := Int.not_lt.2 hp))))))
    | rintro _ _ ⟨rfl, rfl⟩
    | rintro _ _ ⟨_, rfl, rfl⟩
    | rintro _ _ ⟨_, _, hpq, rfl, rfl⟩
    | ((fail_if_success refine G.tr ?_); exact G.prop S.p)
    | fail) <;> (try simp only [WKb, ↓reduceIte, Nat.reduceEqDiff, Int.reduceLE, hd64, htk]))))
        all_goals
          (apply Tr.againE ((out ++ [regU tl], _, (truthU ⟨tt, ta, false⟩ (gU tl 2)).t, (truthU ⟨tt, ta, false⟩ (gU tl 2)).at', (truthU ⟨tt, ta, false⟩ (gU tl 2)).bad)); (focus (simp only [WKb, ↓reduceIte, Nat.reduceEqDiff])); (focus ((try simp only [WKb, ↓reduceIte, Nat.reduceEqDiff, hw]); (all_goals ((repeat (refine cons_eq (by first | rfl | (simp [*]; done)) ?_)); rfl)); done)); (focus (first | omega | assumption | (simp only []; omega) | (refine ⟨by omega, by assumption⟩) | (simp only []; refine ⟨by omega, by assumption⟩) | ((try simp only []); (repeat' (first | omega | assumption | apply hnx | apply hlx | apply hrx | refine And.intro ?_ ?_)); done))); (focus (first | omega | (simp only []; omega))); (focus (((try clear hK) <;> (try simp only [WKe, *]) <;> repeat (first | with_reducible exact EntR.done | refine S.e ?_ | (refine S.f ?_ <;> (try simp only [WKe, ↓reduceIte, reduceCtorEq, Int.reduceEq, *])) | with_reducible apply EntR.ex | refine EntR.drop (F := F) ?_ | refine EntR.drop ?_)))))

theorem uport_one {ro : Bool} {v : Value} {xs : List Int} {c b : Nat} {t : List UInt8} {a : Int} {d : Bool} (hx : (xs.length : Int) = 4) (hr : rdOk ⟨t, a, d⟩) : Trip Tryz.prog 84 [v, .pointer (some ⟨c, 0, none⟩)].toArray [sl ro v xs, capC c b, rdC b t a d]
    fun u l' => u = .agg (En.enc (portU xs)).toArray ∧ l' = [sl ro v xs, capC c b, rdC b (truthU (truthU ⟨t, a, d⟩ (gU xs 0)) (gU xs 1)).t (truthU (truthU ⟨t, a, d⟩ (gU xs 0)) (gU xs 1)).at' (truthU (truthU ⟨t, a, d⟩ (gU xs 0)) (gU xs 1)).bad] := by
  intro F K hK
  simp only [List.cons_append, List.nil_append]
  have g0 := @gU_0 xs
  have g1 := @gU_1 xs
  have g2 := @gU_2 xs
  have g3 := @gU_3 xs
  obtain ⟨ha1, ha2⟩ := rd_a hr
  simp only at ha1 ha2
  have hr2 := truth_okR (n := gU xs 0) hr
  obtain ⟨hb1, hb2⟩ := rd_a hr2
  (refine Tr.enter (rs := [.cell 3 98]) mixed fn84 rfl (by simp +arith [Tryz.ntmps84]) fun u => ?_; simp only [cd84, Tryz.f84])
  ((try simp only [WKb, Nat.reduceAdd]) <;> (repeat' ((first
    | (refine G.tr ?_; first | refine S.a ?_ | refine S.t ?_ | refine Tr.brK ?_ ?_ | (refine G.call 80 ?_; refine S.c ?_ (h := utrue_ok ?_)) | refine S.n fun _ => ?_ | refine S.i fun hix => ?_ | (refine S.g fun hb => ?_; (try simp only [hb])) | (refine S.s (fun hb => ?_) (fun hb => ?_) <;> ((try simp only [hb]) <;> (try (have hp := hb; simp only [WKs] at hp; (try have hq := Int.not_le.2 hp); (try have hq := Int.not_lt.2 hp))))))
    | rintro _ _ ⟨rfl, rfl⟩
    | ((fail_if_success refine G.tr ?_); exact G.prop S.p)
    | fail) <;> (try simp only [WKb, WKh, ↓reduceIte, Nat.reduceEqDiff, Nat.reduceAdd, pl84, g0, g1, g2, g3]))))
  all_goals
    refine Tr.fin hK ⟨rfl, rfl⟩ ?_
    ((try clear hK) <;> (try simp only [WKe, *]) <;> repeat (first | with_reducible exact EntR.done | refine S.e ?_ | (refine S.f ?_ <;> (try simp only [WKe, ↓reduceIte, reduceCtorEq, Int.reduceEq, *])) | with_reducible apply EntR.ex | refine EntR.drop (F := F) ?_ | refine EntR.drop ?_))

instance : ElT 53 PortC := ⟨⟩
theorem uport_some {b c : Nat} {t : List UInt8} {a : Int} {d : Bool} {m : Int} (hr : rdOk ⟨t, a, d⟩) : Trip Tryz.prog 83 [.pointer (some ⟨b, 0, none⟩), .string (bstr [112, 111, 114, 116]), .int .i64 4, .func (.func 84) #[] [.pointer (some ⟨c, 0, none⟩)].toArray].toArray [mxB m, rdC b t a d, capC c b]
    fun v l' => ∃ s : SV, v = s.v ∧ l' = [sl false s.v (someU (wordU 3) 4 portO 64 ⟨t, a, d⟩ []).1, rdC b (someU (wordU 3) 4 portO 64 ⟨t, a, d⟩ []).2.t (someU (wordU 3) 4 portO 64 ⟨t, a, d⟩ []).2.at' (someU (wordU 3) 4 portO 64 ⟨t, a, d⟩ []).2.bad, capC c b] := by
  intro F K hK
  simp only [List.cons_append, List.nil_append]
  obtain ⟨w, hw⟩ : ∃ w, w = wordU 3 := ⟨_, rfl⟩
  have hwl : [112, 111, 114, 116] = w := hw ▸ rfl
  rw [← hw] at hK
  rw [hwl]
  generalize hz : someU w 4 portO 64 ⟨t, a, d⟩ [] = z at hK
  (refine Tr.enter (rs := [.tmp 8]) mixed fn83 rfl (by simp +arith [Tryz.ntmps83]) fun u => ?_; simp only [cd83, Tryz.f83])
  
  ((try simp only [WKb, Nat.reduceAdd]) <;> (repeat' ((first
    | (refine G.tr ?_; first | refine S.a ?_ | refine S.t ?_ | refine Tr.brK ?_ ?_ | (refine G.call 77 ?_; first | refine S.c ?_ (h := upeekS_ok (by assumption) ?_) | refine S.c ?_ (h := upeek_ok ?_)) | (refine G.call 59 ?_; refine S.c ?_ (h := utake_ok ?_ ?_ ?_ ?_)) | (refine G.call 84 ?_; refine S.c ?_ (h := uport_one ?_ ?_)) | refine S.n fun _ => ?_ | refine S.i fun hix => ?_ | (refine S.g fun hb => ?_; (try simp only [hb])) | (refine S.s (fun hb => ?_) (fun hb => ?_) <;> ((try simp only [hb]) <;> (try (have hp := hb; simp only [WKs] at hp; (try have hq := Int.not_le.2 hp); (try have hq := Int.not_lt.2 hp))))))
    | rintro _ _ ⟨rfl, rfl⟩
    | rintro _ _ ⟨_, rfl, rfl⟩
    | rintro _ _ ⟨_, _, hpq, rfl, rfl⟩
    | ((fail_if_success refine G.tr ?_); exact G.prop S.p)
    | fail) <;> (try simp only [WKb, WKh, ↓reduceIte, Nat.reduceEqDiff, Nat.reduceAdd, Nat.reduceSub, Int.reduceEq, Int.reduceLT, Int.reduceLE, WKt, pl83]))))
  refine Tr.nilSl (α := PortC) ?_
  refine Tr.loopE (α := List PortC × SV × List UInt8 × Int × Bool) [8, 9] [0, 1, 2, 3] (fun x => [.slice none 0 0, x.2.1.v]) (fun x => [sl false x.2.1.v x.1, rdC b x.2.2.1 x.2.2.2.1 x.2.2.2.2, mxB m, capC c b])
    (fun x => someU w 4 portO (64 - x.1.length) ⟨x.2.2.1, x.2.2.2.1, x.2.2.2.2⟩ x.1 = z ∧ x.1.length ≤ 64 ∧ rdOk ⟨x.2.2.1, x.2.2.2.1, x.2.2.2.2⟩) (fun x => 65 - x.1.length) ([], ⟨none, 0, 0⟩, t, a, d) (by (repeat (first | exact TakeL.nil | (apply TakeL.cons; focus ((first | exact TakeA.dupS | exact TakeA.dupF | ((repeat (first | with_reducible exact TakeA.here | exact TakeA.fam (by omega) (by omega) | with_reducible apply TakeA.next)); done) | ((repeat (first | exact TakeA.here | apply TakeA.next)); done) | exact TakeA.famNil | exact TakeA.nilS))) | fail)); done) rfl ⟨hz, Nat.zero_le _, hr⟩ fun x u hx => ?_
  obtain ⟨out, s, t, a, d⟩ := x
  simp only at hx ⊢
  obtain ⟨hI, hol, hr⟩ := hx
  clear hz
  obtain ⟨r1, r2, r3, r4⟩ := id hr
  simp only at r1 r2 r3 r4
  cases hpk : peekU ⟨t, a, d⟩ w with
  | none =>
    have hz := some_none (many := 4) (one := portO) (out := out) hpk (64 - out.length)
    rw [hI] at hz
    subst hz
    have hps : (peekU ⟨t, a, d⟩ w).isSome = false := by rw [hpk]; rfl
    ((try simp only [WKb, ↓reduceIte, Nat.reduceEqDiff]) <;> (repeat' ((first
    | (refine G.tr ?_; first | refine S.a ?_ | refine S.t ?_ | refine Tr.brK ?_ ?_ | (refine G.call 77 ?_; first | refine S.c ?_ (h := upeekS_ok (by assumption) ?_) | refine S.c ?_ (h := upeek_ok ?_)) | (refine G.call 59 ?_; refine S.c ?_ (h := utake_ok ?_ ?_ ?_ ?_)) | (refine G.call 84 ?_; refine S.c ?_ (h := uport_one ?_ ?_)) | refine S.n fun _ => ?_ | refine S.i fun hix => ?_ | (refine S.g fun hb => ?_; (try simp only [hb])) | (refine S.s (fun hb => ?_) (fun hb => ?_) <;> ((try simp only [hb]) <;> (try (have hp := hb; simp only [WKs] at hp; (try have hq := Int.not_le.2 hp); (try have hq := Int.not_lt.2 hp))))))
    | rintro _ _ ⟨rfl, rfl⟩
    | rintro _ _ ⟨_, rfl, rfl⟩
    | rintro _ _ ⟨_, _, hpq, rfl, rfl⟩
    | ((fail_if_success refine G.tr ?_); exact G.prop S.p)
    | fail) <;> (try simp only [WKb, ↓reduceIte, Nat.reduceEqDiff, hps]))))
    all_goals
      refine Tr.fin hK ⟨_, rfl, rfl⟩ ?_
      ((try clear hK) <;> (try simp only [WKe, *]) <;> repeat (first | with_reducible exact EntR.done | refine S.e ?_ | (refine S.f ?_ <;> (try simp only [WKe, ↓reduceIte, reduceCtorEq, Int.reduceEq, *])) | with_reducible apply EntR.ex | refine EntR.drop (F := F) ?_ | refine EntR.drop ?_))
  | some q =>
    by_cases h64 : out.length = 64
    · have hz : someU w 4 portO (64 - out.length) ⟨t, a, d⟩ out = (out, ⟨t, a, d⟩) := by rw [h64]; unfold someU; rfl
      rw [hI] at hz
      subst hz
      have hd64 : (out.length : Int) = 64 := by omega
      ((try simp only [WKb, ↓reduceIte, Nat.reduceEqDiff]) <;> (repeat' ((first
    | (refine G.tr ?_; first | refine S.a ?_ | refine S.t ?_ | refine Tr.brK ?_ ?_ | (refine G.call 77 ?_; first | refine S.c ?_ (h := upeekS_ok (by assumption) ?_) | refine S.c ?_ (h := upeek_ok ?_)) | (refine G.call 59 ?_; refine S.c ?_ (h := utake_ok ?_ ?_ ?_ ?_)) | (refine G.call 84 ?_; refine S.c ?_ (h := uport_one ?_ ?_)) | refine S.n fun _ => ?_ | refine S.i fun hix => ?_ | (refine S.g fun hb => ?_; (try simp only [hb])) | (refine S.s (fun hb => ?_) (fun hb => ?_) <;> ((try simp only [hb]) <;> (try (have hp := hb; simp only [WKs] at hp; (try have hq := Int.not_le.2 hp); (try have hq := Int.not_lt.2 hp))))))
    | rintro _ _ ⟨rfl, rfl⟩
    | rintro _ _ ⟨_, rfl, rfl⟩
    | rintro _ _ ⟨_, _, hpq, rfl, rfl⟩
    | ((fail_if_success refine G.tr ?_); exact G.prop S.p)
    | fail) <;> (try simp only [WKb, ↓reduceIte, Nat.reduceEqDiff, hd64]))))
      all_goals
        refine Tr.fin hK ⟨_, rfl, rfl⟩ ?_
        ((try clear hK) <;> (try simp only [WKe, *]) <;> repeat (first | with_reducible exact EntR.done | refine S.e ?_ | (refine S.f ?_ <;> (try simp only [WKe, ↓reduceIte, reduceCtorEq, Int.reduceEq, *])) | with_reducible apply EntR.ex | refine EntR.drop (F := F) ?_ | refine EntR.drop ?_))
    · have hd64 : decide ((out.length : Int) = 64) = false := decide_eq_false (by omega)
      obtain ⟨n, hn⟩ : ∃ n, 64 - out.length = n + 1 := ⟨63 - out.length, by omega⟩
      rw [hn] at hI
      have hto := take_ok (w := w) (many := 4) hr
      generalize htk : takeU ⟨t, a, d⟩ w 4 = tk at hto
      obtain ⟨tl, tt, ta, td⟩ := tk
      obtain ⟨hto1, hto2⟩ := hto
      cases td with
      | true =>
        have hz := some_stop (many := 4) (one := portO) (out := out) hpk (by rw [htk]) n
        rw [hI, htk] at hz
        subst hz
        ((try simp only [WKb, ↓reduceIte, Nat.reduceEqDiff]) <;> (repeat' ((first
    | (refine G.tr ?_; first | refine S.a ?_ | refine S.t ?_ | refine Tr.brK ?_ ?_ | (refine G.call 77 ?_; first | refine S.c ?_ (h := upeekS_ok (by assumption) ?_) | refine S.c ?_ (h := upeek_ok ?_)) | (refine G.call 59 ?_; refine S.c ?_ (h := utake_ok ?_ ?_ ?_ ?_)) | (refine G.call 84 ?_; refine S.c ?_ (h := uport_one ?_ ?_)) | refine S.n fun _ => ?_ | refine S.i fun hix => ?_ | (refine S.g fun hb => ?_; (try simp only [hb])) | (refine S.s (fun hb => ?_) (fun hb => ?_) <;> ((try simp only [hb]) <;> (try (have hp := hb; simp only [WKs] at hp; (try have hq := Int.not_le.2 hp); (try have hq := Int.not_lt.2 hp))))))
    | rintro _ _ ⟨rfl, rfl⟩
    | rintro _ _ ⟨_, rfl, rfl⟩
    | rintro _ _ ⟨_, _, hpq, rfl, rfl⟩
    | ((fail_if_success refine G.tr ?_); exact G.prop S.p)
    | fail) <;> (try simp only [WKb, ↓reduceIte, Nat.reduceEqDiff, Int.reduceLE, hd64, htk]))))
        all_goals
          refine Tr.fin hK ⟨_, rfl, rfl⟩ ?_
          ((try clear hK) <;> (try simp only [WKe, *]) <;> repeat (first | with_reducible exact EntR.done | refine S.e ?_ | (refine S.f ?_ <;> (try simp only [WKe, ↓reduceIte, reduceCtorEq, Int.reduceEq, *])) | with_reducible apply EntR.ex | refine EntR.drop (F := F) ?_ | refine EntR.drop ?_))
      | false =>
        have hz := some_go (many := 4) (one := portO) (out := out) hpk (by rw [htk]) n
        rw [hI, htk] at hz
        obtain ⟨_, hl, _⟩ := hto2 rfl
        simp only at hl
        have hlm : (tl.length : Int) = 4 := many_pos (by decide) hl
        have hnx : someU w 4 portO (64 - (out ++ [portU tl]).length) ⟨(truthU (truthU ⟨tt, ta, false⟩ (gU tl 0)) (gU tl 1)).t, (truthU (truthU ⟨tt, ta, false⟩ (gU tl 0)) (gU tl 1)).at', (truthU (truthU ⟨tt, ta, false⟩ (gU tl 0)) (gU tl 1)).bad⟩ (out ++ [portU tl]) = z := by
          rw [List.length_append, List.length_singleton]
          have : 64 - (out.length + 1) = n := by omega
          rw [this, hz]
          rfl
        have hlx : (out ++ [portU tl]).length ≤ 64 := by rw [List.length_append, List.length_singleton]; omega
        have hmu : (out ++ [portU tl]).length = out.length + 1 := by rw [List.length_append, List.length_singleton]
        have hrx : rdOk ⟨(truthU (truthU ⟨tt, ta, false⟩ (gU tl 0)) (gU tl 1)).t, (truthU (truthU ⟨tt, ta, false⟩ (gU tl 0)) (gU tl 1)).at', (truthU (truthU ⟨tt, ta, false⟩ (gU tl 0)) (gU tl 1)).bad⟩ := truth_okR (truth_okR hto1)
        clear hz hI
        ((try simp only [WKb, ↓reduceIte, Nat.reduceEqDiff]) <;> (repeat' ((first
    | (refine G.tr ?_; first | refine S.a ?_ | refine S.t ?_ | refine Tr.brK ?_ ?_ | (refine G.call 77 ?_; first | refine S.c ?_ (h := upeekS_ok (by assumption) ?_) | refine S.c ?_ (h := upeek_ok ?_)) | (refine G.call 59 ?_; refine S.c ?_ (h := utake_ok ?_ ?_ ?_ ?_)) | (refine G.call 84 ?_; refine S.c ?_ (h := uport_one ?_ ?_)) | refine S.n fun _ => ?_ | refine S.i fun hix => ?_ | (refine S.g fun hb => ?_; (try simp only [hb])) | (refine S.s (fun hb => ?_) (fun hb => ?_) <;> ((try simp only [hb]) <;> (try (have hp := hb; simp only [WKs] at hp; (try have hq := Int.not_le.2 hp); (try have hq := Int.not_lt.2 hp))))))
    | rintro _ _ ⟨rfl, rfl⟩
    | rintro _ _ ⟨_, rfl, rfl⟩
    | rintro _ _ ⟨_, _, hpq, rfl, rfl⟩
    | ((fail_if_success refine G.tr ?_); exact G.prop S.p)
    | fail) <;> (try simp only [WKb, ↓reduceIte, Nat.reduceEqDiff, Int.reduceLE, hd64, htk]))))
        all_goals
          (apply Tr.againE ((out ++ [portU tl], _, (truthU (truthU ⟨tt, ta, false⟩ (gU tl 0)) (gU tl 1)).t, (truthU (truthU ⟨tt, ta, false⟩ (gU tl 0)) (gU tl 1)).at', (truthU (truthU ⟨tt, ta, false⟩ (gU tl 0)) (gU tl 1)).bad)); (focus (simp only [WKb, ↓reduceIte, Nat.reduceEqDiff])); (focus ((try simp only [WKb, ↓reduceIte, Nat.reduceEqDiff, hw]); (all_goals ((repeat (refine cons_eq (by first | rfl | (simp [*]; done)) ?_)); rfl)); done)); (focus (first | omega | assumption | (simp only []; omega) | (refine ⟨by omega, by assumption⟩) | (simp only []; refine ⟨by omega, by assumption⟩) | ((try simp only []); (repeat' (first | omega | assumption | apply hnx | apply hlx | apply hrx | refine And.intro ?_ ?_)); done))); (focus (first | omega | (simp only []; omega))); (focus (((try clear hK) <;> (try simp only [WKe, *]) <;> repeat (first | with_reducible exact EntR.done | refine S.e ?_ | (refine S.f ?_ <;> (try simp only [WKe, ↓reduceIte, reduceCtorEq, Int.reduceEq, *])) | with_reducible apply EntR.ex | refine EntR.drop (F := F) ?_ | refine EntR.drop ?_)))))

end Go.Proofs.YtgkhjgpgdfbdpaaGreatDoor

namespace Go.Proofs.YtgkhjgpgdfbdpaaGreatDoor
open Go Go.Wk
set_option maxHeartbeats 6400000
set_option maxRecDepth 100000

/-! ### what is read is such, and has room -/
theorem peek_I64 {r : Rd} {w : List UInt8} {l : List Int} (h : peekU r w = some l) : ∀ n ∈ l, I64 n := by
  unfold peekU at h
  split at h
  · rename_i v q hq
    split at h
    · obtain rfl := Option.some.inj h
      exact (wordsU_some hq).2.2
    · cases h
  · cases h
theorem zeros_I64 (m : Int) : ∀ n ∈ zerosU m, I64 n := fun n hn => by
  unfold zerosU at hn
  rw [List.eq_of_mem_replicate hn]
  unfold I64
  omega
theorem take_I64 (r : Rd) (w : List UInt8) (many : Int) : ∀ n ∈ (takeU r w many).1, I64 n := by
  unfold takeU
  cases hp : peekU r w with
  | none => exact zeros_I64 many
  | some l =>
    simp only
    split
    · exact peek_I64 hp
    · exact zeros_I64 many
theorem some_all {α : Type} {w : List UInt8} {many : Int} {one : List Int → Rd → α × Rd} (ok : α → Prop) (hone : ∀ l r, (∀ n ∈ l, I64 n) → ok (one l r).1) : ∀ n r out, (∀ x ∈ out, ok x) → ∀ x ∈ (someU w many one n r out).1, ok x
  | 0, r, out, h => h
  | n + 1, r, out, h => by
    cases hp : peekU r w with
    | none => rw [some_none hp]; exact h
    | some q =>
      cases hb : (takeU r w many).2.bad with
      | true => rw [some_stop hp hb]; exact h
      | false =>
        rw [some_go hp hb]
        refine some_all ok hone n _ _ fun x hx => ?_
        rcases List.mem_append.1 hx with hx | hx
        · exact h x hx
        · rw [List.mem_singleton.1 hx]; exact hone _ _ (take_I64 r w many)
theorem some_rd {α : Type} {w : List UInt8} {many : Int} {one : List Int → Rd → α × Rd} (hone : ∀ l r, rdOk r → rdOk (one l r).2) : ∀ n r out, rdOk r → rdOk (someU w many one n r out).2
  | 0, r, out, h => h
  | n + 1, r, out, h => by
    cases hp : peekU r w with
    | none => rw [some_none hp]; exact h
    | some q =>
      cases hb : (takeU r w many).2.bad with
      | true => rw [some_stop hp hb]; exact (take_ok h).1
      | false =>
        rw [some_go hp hb]
        exact some_rd hone n _ _ (hone _ _ (take_ok h).1)
theorem some_cnt {α : Type} {w : List UInt8} {many : Int} {one : List Int → Rd → α × Rd} : ∀ n r out, (someU w many one n r out).1.length ≤ n + out.length
  | 0, r, out => by show out.length ≤ 0 + out.length; omega
  | n + 1, r, out => by
    cases hp : peekU r w with
    | none => rw [some_none hp]; show out.length ≤ _; omega
    | some q =>
      cases hb : (takeU r w many).2.bad with
      | true => rw [some_stop hp hb]; show out.length ≤ _; omega
      | false =>
        rw [some_go hp hb]
        have := some_cnt (w := w) (many := many) (one := one) n (one (takeU r w many).1 (takeU r w many).2).2 (out ++ [(one (takeU r w many).1 (takeU r w many).2).1])
        rw [List.length_append, List.length_singleton] at this
        omega
theorem nil_all {α : Type} {ok : α → Prop} : ∀ x ∈ ([] : List α), ok x := fun x hx => by cases hx
attribute [local irreducible] someU takeU peekU
theorem part_all {xs : List Int} {r : Rd} (h : ∀ n ∈ xs, I64 n) : okPv (partO xs r).1 := by
  unfold partO
  simp only
  refine ⟨some_all (fun x : RegC => I64 x.base ∧ I64 x.size) (fun l r h => ⟨gU_ok h 0, gU_ok h 1⟩) _ _ _ nil_all, some_all (fun x : ProcC => I64 x.prio ∧ I64 x.period ∧ I64 x.cost) (fun l r h => ⟨gU_ok h 0, gU_ok h 1, gU_ok h 2⟩) _ _ _ nil_all, some_all (fun x : PortC => I64 x.size ∧ I64 x.depth) (fun l r h => ⟨gU_ok h 2, gU_ok h 3⟩) _ _ _ nil_all,
    some_all (fun x : SemC => I64 x.first ∧ I64 x.most) (fun l r h => ⟨gU_ok h 0, gU_ok h 1⟩) _ _ _ nil_all, gU_ok h 0, some_all (fun x : PoolC => I64 x.size ∧ I64 x.depth) (fun l r h => ⟨gU_ok h 0, gU_ok h 1⟩) _ _ _ nil_all, some_all (fun x : Int => I64 x) (fun l r h => gU_ok h 0) _ _ _ nil_all, gU_ok h 1, gU_ok h 2, gU_ok h 3, take_I64 _ _ _⟩
theorem mode_all {xs : List Int} {r : Rd} (h : ∀ n ∈ xs, I64 n) : okMo (modeO xs r).1 := ⟨gU_ok h 0, some_all okWi (fun _l _r h => ⟨gU_ok h 0, gU_ok h 1, gU_ok h 2⟩) _ _ _ nil_all⟩
theorem config_all {r : Rd} : okU (configU r).1 := by
  unfold configU
  simp only
  exact ⟨some_all okPv (fun l r h => part_all h) _ _ _ nil_all, some_all okCh (fun l r h => ⟨gU_ok h 0, gU_ok h 1, gU_ok h 2, gU_ok h 3⟩) _ _ _ nil_all, some_all okMo (fun l r h => mode_all h) _ _ _ nil_all, some_all okLe (fun l r h => ⟨gU_ok h 0, gU_ok h 1⟩) _ _ _ nil_all, some_all okNa (fun l r h => ⟨gU_ok h 0, gU_ok h 1, gU_ok h 2⟩) _ _ _ nil_all,
    gU_ok (take_I64 _ _ _) 0, gU_ok (take_I64 _ _ _) 1, gU_ok (take_I64 _ _ _) 2, gU_ok (take_I64 _ _ _) 3, gU_ok (take_I64 _ _ _) 4, gU_ok (take_I64 _ _ _) 5, take_I64 _ _ _, take_I64 _ _ _⟩
theorem reg_rd (l : List Int) (r : Rd) (h : rdOk r) : rdOk (regO l r).2 := truth_okR h
theorem port_rd (l : List Int) (r : Rd) (h : rdOk r) : rdOk (portO l r).2 := truth_okR (truth_okR h)
theorem part_rd (l : List Int) (r : Rd) (h : rdOk r) : rdOk (partO l r).2 := by
  unfold partO
  simp only
  exact (take_ok (some_rd (fun _ _ h => h) _ _ _ (some_rd (fun _ _ h => h) _ _ _ (some_rd (fun _ _ h => h) _ _ _ (some_rd port_rd _ _ _ (some_rd (fun _ _ h => h) _ _ _ (some_rd reg_rd _ _ _ h))))))).1
theorem mode_rd (l : List Int) (r : Rd) (h : rdOk r) : rdOk (modeO l r).2 := some_rd (fun _ _ h => h) _ _ _ h
/-! ### what hangs on what was read -/
theorem Tr.addZ {α : Type} [En α] [Fz α] {x : α} {l : List Asrt} {X : WP} (h : HasZ l x) (hx : Tr (fzl [x] :: l) X) : Tr l X := by
  haveI := h
  exact hx.imp (TakeA.dupF (xs := [x]))
theorem sl_has {α : Type} [i : En α] {l : List Asrt} {v : Value} {xs : List α} (hs : HasS l v true α i xs) {w : World} {R U : Blks} (h1 : ∀ b, R b → b < w.heap.size) (h2 : ∀ b, R b → U b) (h3 : SatR R w U l) : (sl true v xs).h R (fun _ => False) w := by
  obtain ⟨_, h⟩ := hs.h w R U h1 h2 h3
  exact dup_sl v xs h
theorem sl_fz {α : Type} [En α] [Fz α] {x : SL α} {R : Blks} {w : World} (h : (sl true x.s.v x.d).h R (fun _ => False) w) (hd : ∀ y ∈ x.d, (Fz.fz y).h R (fun _ => False) w) : (Fz.fz x).h R (fun _ => False) w := sepI h hd
theorem hasz_part {l : List Asrt} {p : PartD} (ho : okPv p.v) (h1 : HasS l p.regions.s.v true RegC inferInstance p.regions.d) (h2 : HasS l p.procs.s.v true ProcC inferInstance p.procs.d) (h3 : HasS l p.ports.s.v true PortC inferInstance p.ports.d) (h4 : HasS l p.sems.s.v true SemC inferInstance p.sems.d)
    (h5 : HasS l p.pools.s.v true PoolC inferInstance p.pools.d) (h6 : HasS l p.slates.s.v true Int inferInstance p.slates.d) (h7 : HasS l p.acts.s.v true Int inferInstance p.acts.d) : HasZ l p := ⟨fun w R U g1 g2 g3 => by
  obtain ⟨o1, o2, o3, o4, o5, o6, o7, o8, o9, o10, o11⟩ := ho
  exact ⟨fun _ => False, sepI (sl_fz (sl_has h1 g1 g2 g3) fun y hy => sepI (o1 y hy).1 (sepI (o1 y hy).2 (sepI trivial trivial))) (sepI (sl_fz (sl_has h2 g1 g2 g3) fun y hy => sepI (o2 y hy).1 (sepI (o2 y hy).2.1 (sepI (o2 y hy).2.2 trivial)))
    (sepI (sl_fz (sl_has h3 g1 g2 g3) fun y hy => sepI trivial (sepI trivial (sepI (o3 y hy).1 (sepI (o3 y hy).2 trivial)))) (sepI (sl_fz (sl_has h4 g1 g2 g3) fun y hy => sepI (o4 y hy).1 (sepI (o4 y hy).2 trivial)) (sepI o5
    (sepI (sl_fz (sl_has h5 g1 g2 g3) fun y hy => sepI (o6 y hy).1 (sepI (o6 y hy).2 trivial)) (sepI (sl_fz (sl_has h6 g1 g2 g3) fun y hy => o7 y hy) (sepI o8 (sepI o9 (sepI o10 (sepI (sl_fz (sl_has h7 g1 g2 g3) fun y hy => o11 y hy) trivial))))))))))⟩⟩
theorem hasz_mode {l : List Asrt} {m : ModeD} (ho : okMo m.v) (h1 : HasS l m.wins.s.v true WinC inferInstance m.wins.d) : HasZ l m := ⟨fun _w _R _U g1 g2 g3 => ⟨fun _ => False, sepI ho.1 (sepI (sl_fz (sl_has h1 g1 g2 g3) fun y hy => sepI (ho.2 y hy).1 (sepI (ho.2 y hy).2.1 (sepI (ho.2 y hy).2.2 trivial))) trivial)⟩⟩
theorem hasz_conf {l : List Asrt} {c : ConfD} (ho : okU c.v) (hp : HasZ l c.parts) (hm : HasZ l c.modes) (h1 : HasS l c.chans.s.v true ChanC inferInstance c.chans.d) (h2 : HasS l c.levels.s.v true LevelC inferInstance c.levels.d) (h3 : HasS l c.naps.s.v true NapC inferInstance c.naps.d)
    (h4 : HasS l c.down.s.v true Int inferInstance c.down.d) (h5 : HasS l c.up.s.v true Int inferInstance c.up.d) : HasZ l c := ⟨fun w R U g1 g2 g3 => by
  obtain ⟨o1, o2, o3, o4, o5, o6, o7, o8, o9, o10, o11, o12, o13⟩ := ho
  exact ⟨fun _ => False, sepI (hasz_get hp g1 g2 g3) (sepI (sl_fz (sl_has h1 g1 g2 g3) fun y hy => sepI (o2 y hy).1 (sepI (o2 y hy).2.1 (sepI (o2 y hy).2.2.1 (sepI (o2 y hy).2.2.2 trivial)))) (sepI (hasz_get hm g1 g2 g3)
    (sepI (sl_fz (sl_has h2 g1 g2 g3) fun y hy => sepI (o4 y hy).1 (sepI (o4 y hy).2 trivial)) (sepI (sl_fz (sl_has h3 g1 g2 g3) fun y hy => sepI (o5 y hy).1 (sepI (o5 y hy).2.1 (sepI (o5 y hy).2.2 trivial)))
    (sepI o6 (sepI o7 (sepI o8 (sepI o9 (sepI o10 (sepI o11 (sepI (sl_fz (sl_has h4 g1 g2 g3) fun y hy => o12 y hy) (sepI (sl_fz (sl_has h5 g1 g2 g3) fun y hy => o13 y hy) trivial))))))))))))⟩⟩
theorem utakeR_ok {b : Nat} {t w : List UInt8} {a many : Int} {d : Bool} {m : Int} (hr : rdOk ⟨t, a, d⟩) (hm1 : -1 ≤ many) (hm2 : many ≤ 64) :
    Trip Tryz.prog 59 [.pointer (some ⟨b, 0, none⟩), .string (bstr w), .int .i64 many].toArray [mxB m, rdC b t a d]
    fun v l' => ∃ s : SV, v = s.v ∧ l' = [sl false s.v (takeU ⟨t, a, d⟩ w many).1, rdC b (takeU ⟨t, a, d⟩ w many).2.t (takeU ⟨t, a, d⟩ w many).2.at' (takeU ⟨t, a, d⟩ w many).2.bad] :=
  utake_ok (by have := hr.1; simp only at this; omega) (rd_a hr) hm1 hm2


end Go.Proofs.YtgkhjgpgdfbdpaaGreatDoor

namespace Go.Proofs.YtgkhjgpgdfbdpaaGreatDoor
open Go Go.Wk
set_option maxHeartbeats 6400000
set_option maxRecDepth 100000

attribute [local irreducible] BrK GenK EGenK EUnitK CallK FnK CallV GuardO GuardC CondW opX opK opKc chkR eqR seqK blkK endL WL WD W LoopW BinK Tr drewK resL PickK NotK NilK ExtrK getK Instr.storeAt Instr.loadAt Instr.fieldAt Instr.indexAt Instr.lookup Instr.mapUpdate Instr.box Instr.alloc Instr.build Instr.buildSlice Instr.makeSlice Instr.makeMap Instr.sliceAt Instr.field Instr.index Instr.makeInterface Instr.typeAssert Builtin.len_ Builtin.append_ Builtin.cap_ Builtin.min_ Builtin.max_ Builtin.copy_ Builtin.clear_ convert binOp mp blk rob sl sep ex fact old
attribute [local irreducible] NegK mxV gU someU takeU truthU wordU
theorem umode_mk {ro : Bool} {v : Value} {xs : List Int} {b : Nat} {t : List UInt8} {a : Int} {d : Bool} {m : Int} (hx : (xs.length : Int) = 1) (h64 : ∀ n ∈ xs, I64 n) (hr : rdOk ⟨t, a, d⟩) :
    Trip Tryz.prog 54 [.pointer (some ⟨b, 0, none⟩), v].toArray [mxB m, rdC b t a d, sl ro v xs]
    fun u l' => ∃ p : ModeD, p.v = (modeO xs ⟨t, a, d⟩).1 ∧ u = .agg (En.enc p).toArray ∧ l' = [sl ro v xs, rdC b (modeO xs ⟨t, a, d⟩).2.t (modeO xs ⟨t, a, d⟩).2.at' (modeO xs ⟨t, a, d⟩).2.bad, fzl [p]] := by
  intro F K hK
  simp only [List.cons_append, List.nil_append]
  have g0 := @gU_0 xs
  have hall := mode_all (r := ⟨t, a, d⟩) h64
  (refine Tr.enter (rs := [.cell 4 60]) mixed fn54 rfl (by simp +arith [Tryz.ntmps54]) fun u => ?_; simp only [cd54, Tryz.f54])
  ((try simp only [WKb, Nat.reduceAdd, WKt]) <;> (repeat' ((first
    | (refine G.tr ?_; first | refine S.a ?_ | refine S.t ?_ | refine Tr.brK ?_ ?_ | (refine G.call 91 ?_; refine S.c ?_ (h := uwin_some (by assumption))) | refine S.n fun _ => ?_ | refine S.i fun hix => ?_ | (refine S.g fun hb => ?_; (try simp only [hb])) | (refine S.s (fun hb => ?_) (fun hb => ?_) <;> ((try simp only [hb]) <;> (try (have hp := hb; simp only [WKs] at hp; (try have hq := Int.not_le.2 hp); (try have hq := Int.not_lt.2 hp))))))
    | rintro _ _ ⟨_, rfl, rfl⟩
    | ((fail_if_success refine G.tr ?_); exact G.prop S.p)
    | fail) <;> (try simp only [WKb, WKh, ↓reduceIte, Nat.reduceEqDiff, Nat.reduceAdd, pl54, g0]))))
  rename_i _ _ sv
  refine Tr.freezeAt (α := WinC) (v := sv.v) (by (repeat (first | exact TakeA.here | apply TakeA.next)); done) ?_
  refine Tr.addZ (x := (⟨gU xs 0, ⟨sv, (someU (wordU 10) 3 winO 64 ⟨t, a, d⟩ []).1⟩⟩ : ModeD)) (hasz_mode hall inferInstance) ?_
  refine Tr.fin hK ⟨⟨gU xs 0, ⟨sv, (someU (wordU 10) 3 winO 64 ⟨t, a, d⟩ []).1⟩⟩, rfl, rfl, rfl⟩ ?_
  show EntR [] _ (sl ro v xs :: rdC b (someU (wordU 10) 3 winO 64 ⟨t, a, d⟩ []).2.t (someU (wordU 10) 3 winO 64 ⟨t, a, d⟩ []).2.at' (someU (wordU 10) 3 winO 64 ⟨t, a, d⟩ []).2.bad :: _)
  ((try clear hK) <;> (try simp only [WKe, ↓reduceIte, reduceCtorEq, Int.reduceEq, *]) <;> repeat (first | with_reducible exact EntR.done | refine S.e ?_ | (refine S.f ?_ <;> (try simp only [WKe, ↓reduceIte, reduceCtorEq, Int.reduceEq, *])) | with_reducible apply EntR.ex | refine EntR.drop (F := F) ?_ | refine EntR.drop ?_))

end Go.Proofs.YtgkhjgpgdfbdpaaGreatDoor

namespace Go.Proofs.YtgkhjgpgdfbdpaaGreatDoor
open Go Go.Wk
set_option maxHeartbeats 6400000
set_option maxRecDepth 100000

theorem word7 : wordU 7 = [97, 99, 116, 115] := rfl
attribute [local irreducible] BrK GenK EGenK EUnitK CallK FnK CallV GuardO GuardC CondW opX opK opKc chkR eqR seqK blkK endL WL WD W LoopW BinK Tr drewK resL PickK NotK NilK ExtrK getK Instr.storeAt Instr.loadAt Instr.fieldAt Instr.indexAt Instr.lookup Instr.mapUpdate Instr.box Instr.alloc Instr.build Instr.buildSlice Instr.makeSlice Instr.makeMap Instr.sliceAt Instr.field Instr.index Instr.makeInterface Instr.typeAssert Builtin.len_ Builtin.append_ Builtin.cap_ Builtin.min_ Builtin.max_ Builtin.copy_ Builtin.clear_ convert binOp mp blk rob sl sep ex fact old
attribute [local irreducible] NegK mxV gU someU takeU truthU wordU
theorem upart_mk {ro : Bool} {v : Value} {xs : List Int} {b : Nat} {t : List UInt8} {a : Int} {d : Bool} {m : Int} (hx : (xs.length : Int) = 4) (h64 : ∀ n ∈ xs, I64 n) (hr : rdOk ⟨t, a, d⟩) :
    Trip Tryz.prog 50 [.pointer (some ⟨b, 0, none⟩), v].toArray [mxB m, rdC b t a d, sl ro v xs]
    fun u l' => ∃ p : PartD, p.v = (partO xs ⟨t, a, d⟩).1 ∧ u = .agg (En.enc p).toArray ∧ l' = [sl ro v xs, rdC b (partO xs ⟨t, a, d⟩).2.t (partO xs ⟨t, a, d⟩).2.at' (partO xs ⟨t, a, d⟩).2.bad, fzl [p]] := by
  intro F K hK
  simp only [List.cons_append, List.nil_append]
  have g0 := @gU_0 xs
  have g1 := @gU_1 xs
  have g2 := @gU_2 xs
  have g3 := @gU_3 xs
  have hall := part_all (r := ⟨t, a, d⟩) h64
  have k1 := some_rd (w := wordU 1) (many := 3) reg_rd 64 _ [] hr
  have k2 := some_rd (w := wordU 2) (many := 3) (one := procO) (fun _ _ h => h) 64 _ [] k1
  have k3 := some_rd (w := wordU 3) (many := 4) port_rd 64 _ [] k2
  have k4 := some_rd (w := wordU 4) (many := 2) (one := semO) (fun _ _ h => h) 64 _ [] k3
  have k5 := some_rd (w := wordU 5) (many := 2) (one := poolO) (fun _ _ h => h) 64 _ [] k4
  have k6 := some_rd (w := wordU 6) (many := 1) (one := slateO) (fun _ _ h => h) 64 _ [] k5
  (refine Tr.enter (rs := [.cell 4 57]) mixed fn50 rfl (by simp +arith [Tryz.ntmps50]) fun u => ?_; simp only [cd50, Tryz.f50])
  ((try simp only [WKb, ↓reduceIte, Nat.reduceEqDiff, Nat.reduceAdd, WKt]) <;> (repeat' ((first
    | (refine G.tr ?_; first | refine S.a ?_ | refine S.t ?_ | refine Tr.brK ?_ ?_ | (refine G.call 78 ?_; refine S.c ?_ (h := ureg_some (by assumption))) | (refine G.call 81 ?_; refine S.c ?_ (h := uproc_some (by assumption))) | (refine G.call 83 ?_; refine S.c ?_ (h := uport_some (by assumption))) | (refine G.call 85 ?_; refine S.c ?_ (h := usem_some (by assumption))) | (refine G.call 87 ?_; refine S.c ?_ (h := upool_some (by assumption))) | (refine G.call 89 ?_; refine S.c ?_ (h := uslate_some (by assumption))) | (refine G.call 59 ?_; refine S.c ?_ (h := utakeR_ok (by assumption) ?_ ?_)) | refine S.n fun _ => ?_ | refine S.i fun hix => ?_ | (refine S.g fun hb => ?_; (try simp only [hb])) | (refine S.s (fun hb => ?_) (fun hb => ?_) <;> ((try simp only [hb]) <;> (try (have hp := hb; simp only [WKs] at hp; (try have hq := Int.not_le.2 hp); (try have hq := Int.not_lt.2 hp))))))
    | rintro _ _ ⟨_, rfl, rfl⟩
    | ((fail_if_success refine G.tr ?_); exact G.prop S.p)
    | fail) <;> (try simp only [WKb, WKh, ↓reduceIte, Nat.reduceEqDiff, Nat.reduceAdd, Int.reduceLE, pl50, g0, g1, g2, g3]))))
  rename_i s1 s2 s3 s4 s5 s6 s7
  clear k1 k2 k3 k4 k5 k6
  generalize hza : someU (wordU 1) 3 regO 64 ⟨t, a, d⟩ [] = za
  generalize hzb : someU (wordU 2) 3 procO 64 ⟨za.2.t, za.2.at', za.2.bad⟩ [] = zb
  generalize hzc : someU (wordU 3) 4 portO 64 ⟨zb.2.t, zb.2.at', zb.2.bad⟩ [] = zc
  generalize hzd : someU (wordU 4) 2 semO 64 ⟨zc.2.t, zc.2.at', zc.2.bad⟩ [] = zd
  generalize hze : someU (wordU 5) 2 poolO 64 ⟨zd.2.t, zd.2.at', zd.2.bad⟩ [] = ze
  generalize hzf : someU (wordU 6) 1 slateO 64 ⟨ze.2.t, ze.2.at', ze.2.bad⟩ [] = zf
  generalize hzh : takeU ⟨zf.2.t, zf.2.at', zf.2.bad⟩ [97, 99, 116, 115] (-1) = zh
  have hP : partO xs ⟨t, a, d⟩ = (⟨za.1, zb.1, zc.1, zd.1, gU xs 0, ze.1, zf.1, gU xs 1, gU xs 2, gU xs 3, zh.1⟩, zh.2) := by
    unfold partO
    rw [word7, ← hzh, ← hzf, ← hze, ← hzd, ← hzc, ← hzb, ← hza]
  rw [hP] at hall
  simp only [hP] at hK
  clear hP hzh hzf hze hzd hzc hzb hza
  refine Tr.freezeAt (α := RegC) (v := s1.v) (by (repeat (first | exact TakeA.here | apply TakeA.next)); done) ?_
  refine Tr.freezeAt (α := ProcC) (v := s2.v) (by (repeat (first | exact TakeA.here | apply TakeA.next)); done) ?_
  refine Tr.freezeAt (α := PortC) (v := s3.v) (by (repeat (first | exact TakeA.here | apply TakeA.next)); done) ?_
  refine Tr.freezeAt (α := SemC) (v := s4.v) (by (repeat (first | exact TakeA.here | apply TakeA.next)); done) ?_
  refine Tr.freezeAt (α := PoolC) (v := s5.v) (by (repeat (first | exact TakeA.here | apply TakeA.next)); done) ?_
  refine Tr.freezeAt (α := Int) (v := s6.v) (by (repeat (first | exact TakeA.here | apply TakeA.next)); done) ?_
  refine Tr.freezeAt (α := Int) (v := s7.v) (by (repeat (first | exact TakeA.here | apply TakeA.next)); done) ?_
  refine Tr.addZ (x := (⟨⟨s1, za.1⟩, ⟨s2, zb.1⟩, ⟨s3, zc.1⟩, ⟨s4, zd.1⟩, gU xs 0, ⟨s5, ze.1⟩, ⟨s6, zf.1⟩, gU xs 1, gU xs 2, gU xs 3, ⟨s7, zh.1⟩⟩ : PartD)) (hasz_part hall inferInstance inferInstance inferInstance inferInstance inferInstance inferInstance inferInstance) ?_
  refine Tr.fin hK ⟨⟨⟨s1, za.1⟩, ⟨s2, zb.1⟩, ⟨s3, zc.1⟩, ⟨s4, zd.1⟩, gU xs 0, ⟨s5, ze.1⟩, ⟨s6, zf.1⟩, gU xs 1, gU xs 2, gU xs 3, ⟨s7, zh.1⟩⟩, rfl, rfl, rfl⟩ ?_
  ((try clear hK) <;> (try simp only [WKe, *]) <;> repeat (first | with_reducible exact EntR.done | refine S.e ?_ | (refine S.f ?_ <;> (try simp only [WKe, ↓reduceIte, reduceCtorEq, Int.reduceEq, *])) | with_reducible apply EntR.ex | refine EntR.drop (F := F) ?_ | refine EntR.drop ?_))

end Go.Proofs.YtgkhjgpgdfbdpaaGreatDoor
