import Derived.Test.YtgkhjgpgdfbdpaaDoorYF
import Derived.Test.YtgkhjgpgdfbdpaaDoorYB
namespace Go.Proofs.YtgkhjgpgdfbdpaaDoor
open Go Go.Wk
set_option maxHeartbeats 6400000
set_option maxRecDepth 100000

/-- Whether a line's word is what stands at that place. -/
noncomputable def okW (ws : List Str) (i : Nat) : Bool := if i = 3 then (callW (ix ws (i : Int)).d).isSome else (numA (ix ws (i : Int)).d).isSome
noncomputable def valW (ws : List Str) (i : Nat) : Int := if i = 3 then (callW (ix ws (i : Int)).d).getD 0 else (numA (ix ws (i : Int)).d).getD 0
theorem oneE_len {l : List UInt8} (h : (wordsS l).length ≠ 6) : oneE l = none := by
  unfold oneE
  split
  · rename_i hw; rw [hw] at h; simp at h
  · rfl
theorem six {ws : List Str} (h : ws.length = 6) : ∃ a b c d e f, ws = [a, b, c, d, e, f] := by
  rcases ws with _ | ⟨a, _ | ⟨b, _ | ⟨c, _ | ⟨d, _ | ⟨e, _ | ⟨f, _ | ⟨g, r⟩⟩⟩⟩⟩⟩⟩ <;> simp at h
  exact ⟨a, b, c, d, e, f, rfl⟩
theorem oneE_yes {l : List UInt8} (h : (wordsS l).length = 6) (hk : ∀ i, i < 6 → okW (wordsS l) i = true) :
    oneE l = some ⟨valW (wordsS l) 0, valW (wordsS l) 1, valW (wordsS l) 2, valW (wordsS l) 3, valW (wordsS l) 4, valW (wordsS l) 5⟩ := by
  obtain ⟨a, b, c, d, e, f, hw⟩ := six h
  have k0 := hk 0 (by decide)
  have k1 := hk 1 (by decide)
  have k2 := hk 2 (by decide)
  have k3 := hk 3 (by decide)
  have k4 := hk 4 (by decide)
  have k5 := hk 5 (by decide)
  unfold oneE
  rw [hw] at k0 k1 k2 k3 k4 k5 ⊢
  simp only [okW, valW, ix, Nat.reduceEqDiff, if_false, if_true] at k0 k1 k2 k3 k4 k5 ⊢
  simp only [Int.toNat_natCast, List.getD_cons_zero, List.getD_cons_succ] at k0 k1 k2 k3 k4 k5 ⊢
  obtain ⟨x0, h0⟩ := Option.isSome_iff_exists.1 k0
  obtain ⟨x1, h1⟩ := Option.isSome_iff_exists.1 k1
  obtain ⟨x2, h2⟩ := Option.isSome_iff_exists.1 k2
  obtain ⟨x3, h3⟩ := Option.isSome_iff_exists.1 k3
  obtain ⟨x4, h4⟩ := Option.isSome_iff_exists.1 k4
  obtain ⟨x5, h5⟩ := Option.isSome_iff_exists.1 k5
  simp only [h0, h1, h2, h3, h4, h5, Option.getD_some]
theorem oneE_no {l : List UInt8} (h : (wordsS l).length = 6) {i : Nat} (hi : i < 6) (hk : okW (wordsS l) i = false) : oneE l = none := by
  obtain ⟨a, b, c, d, e, f, hw⟩ := six h
  unfold oneE
  rw [hw] at hk ⊢
  simp only
  have hn : ∀ {o : Option Int}, o.isSome = false → o = none := fun {o} h => by cases o; rfl; cases h
  obtain rfl | rfl | rfl | rfl | rfl | rfl : i = 0 ∨ i = 1 ∨ i = 2 ∨ i = 3 ∨ i = 4 ∨ i = 5 := by omega
  all_goals
    simp only [okW, ix, Nat.reduceEqDiff, if_false, if_true] at hk
    simp only [Int.toNat_natCast, List.getD_cons_zero, List.getD_cons_succ] at hk
    have hk := hn hk
    split
    · rename_i e0 e1 e2 e3 e4 e5
      simp_all
    · rfl
/-- A line's first k words were read. -/
def oneI (ws : List Str) (k : Nat) (is : Bool) (m0 m1 m2 m4 m5 : Int) : Prop :=
  (is = true → okW ws 3 = true ∧ (∀ i, i < k → okW ws i = true) ∧ (0 < k → m0 = valW ws 0) ∧ (1 < k → m1 = valW ws 1) ∧ (2 < k → m2 = valW ws 2) ∧ (4 < k → m4 = valW ws 4) ∧ (5 < k → m5 = valW ws 5)) ∧ (is = false → ∃ i, i < 6 ∧ okW ws i = false)
theorem oneI_init {ws : List Str} {m0 m1 m2 m4 m5 : Int} : oneI ws 0 (okW ws 3) m0 m1 m2 m4 m5 := ⟨fun h => ⟨h, fun i hi => by omega, fun h => by omega, fun h => by omega, fun h => by omega, fun h => by omega, fun h => by omega⟩, fun h => ⟨3, by decide, h⟩⟩
theorem oneI_bad {ws : List Str} {k j : Nat} {m0 m1 m2 m4 m5 n0 n1 n2 n4 n5 : Int} (h : oneI ws k false m0 m1 m2 m4 m5) : oneI ws j false n0 n1 n2 n4 n5 := ⟨fun hf => (by cases hf), fun _ => h.2 rfl⟩
theorem okW_num {ws : List Str} {i : Nat} (h : i ≠ 3) : (numA (ix ws (i : Int)).d).isSome = okW ws i := by unfold okW; rw [if_neg h]
theorem valW_num {ws : List Str} {i : Nat} {n : Int} (h : i ≠ 3) (hn : ∀ m, numA (ix ws (i : Int)).d = some m → n = m) (ho : okW ws i = true) : n = valW ws i := by
  unfold okW at ho
  unfold valW
  rw [if_neg h] at ho ⊢
  obtain ⟨x, hx⟩ := Option.isSome_iff_exists.1 ho
  rw [hn x hx, hx]; rfl
theorem oneI_next {ws : List Str} {k : Nat} {m0 m1 m2 m4 m5 n : Int} (h : oneI ws k true m0 m1 m2 m4 m5) (hk : k < 6) (h3 : k ≠ 3) (hn : ∀ m, numA (ix ws (k : Int)).d = some m → n = m) :
    oneI ws (k + 1) (numA (ix ws (k : Int)).d).isSome (if k = 0 then n else m0) (if k = 1 then n else m1) (if k = 2 then n else m2) (if k = 4 then n else m4) (if k = 5 then n else m5) := by
  rw [okW_num h3]
  refine ⟨fun ho => ?_, fun ho => ⟨k, hk, ho⟩⟩
  obtain ⟨h1, h2, i0, i1, i2, i4, i5⟩ := h.1 rfl
  have hv := valW_num h3 hn ho
  refine ⟨h1, fun i hi => ?_, fun hx => ?_, fun hx => ?_, fun hx => ?_, fun hx => ?_, fun hx => ?_⟩
  · by_cases hik : i < k
    · exact h2 i hik
    · have : i = k := by omega
      subst this; exact ho
  all_goals
    split
    · rename_i e; subst e; exact hv
    · first | exact i0 (by omega) | exact i1 (by omega) | exact i2 (by omega) | exact i4 (by omega) | exact i5 (by omega)
theorem oneI_skip {ws : List Str} {m0 m1 m2 m4 m5 : Int} (h : oneI ws 3 true m0 m1 m2 m4 m5) : oneI ws (3 + 1) true m0 m1 m2 m4 m5 := ⟨fun _ => by
  obtain ⟨h1, h2, i0, i1, i2, i4, i5⟩ := h.1 rfl
  exact ⟨h1, fun i hi => by
    by_cases hik : i < 3
    · exact h2 i hik
    · have : i = 3 := by omega
      subst this; exact h1, fun _ => i0 (by decide), fun _ => i1 (by decide), fun _ => i2 (by decide), fun hx => by omega, fun hx => by omega⟩, fun h => by cases h⟩
theorem oneI_end {l : List UInt8} {is : Bool} {m0 m1 m2 m4 m5 : Int} (hl : (wordsS l).length = 6) (h : oneI (wordsS l) 6 is m0 m1 m2 m4 m5) : (∀ x, oneE l = some x → EvC.mk m0 m1 m2 (valW (wordsS l) 3) m4 m5 = x) ∧ (oneE l).isSome = is := by
  cases is with
  | false =>
    obtain ⟨i, hi, ho⟩ := h.2 rfl
    rw [oneE_no hl hi ho]
    exact ⟨fun x hx => (by cases hx), rfl⟩
  | true =>
    obtain ⟨h1, h2, i0, i1, i2, i4, i5⟩ := h.1 rfl
    rw [oneE_yes hl h2, i0 (by decide), i1 (by decide), i2 (by decide), i4 (by decide), i5 (by decide)]
    exact ⟨fun x hx => Option.some.inj hx, rfl⟩
/-- A pointer into a block. -/
structure PtF where
  x : Option Addr
instance : Inhabited PtF := ⟨⟨none⟩⟩
instance : En PtF := ⟨fun p => [.pointer p.x], 1, fun _ => rfl, fun _ => rfl, by decide⟩
instance : ElT 164 PtF := ⟨⟩
instance {l : List Asrt} {a : Option Addr} : De l (.pointer a) (PtF.mk a) := ⟨rfl⟩
def ptsF (b : Nat) : List PtF := [⟨some ⟨b, 0, none⟩⟩, ⟨some ⟨b, 1, none⟩⟩, ⟨some ⟨b, 2, none⟩⟩, ⟨none⟩, ⟨some ⟨b, 4, none⟩⟩, ⟨some ⟨b, 5, none⟩⟩]
attribute [local irreducible] BrK GenK EGenK EUnitK CallK FnK CallV GuardO GuardC CondW opX opK opKc chkR eqR seqK blkK endL WL WD W LoopW BinK Tr drewK resL PickK NotK NilK ExtrK getK Instr.storeAt Instr.loadAt Instr.fieldAt Instr.indexAt Instr.lookup Instr.mapUpdate Instr.box Instr.alloc Instr.build Instr.buildSlice Instr.makeSlice Instr.makeMap Instr.sliceAt Instr.field Instr.index Instr.makeInterface Instr.typeAssert Builtin.len_ Builtin.append_ Builtin.cap_ Builtin.min_ Builtin.max_ Builtin.copy_ Builtin.clear_ convert binOp mp blk rob sl sep ex fact old
attribute [local irreducible] NegK mxV bufT bldB okW valW
theorem tone_ok {s : List UInt8} {m : Int} (hs : s.length ≤ 1000000) : Trip Tryd.prog 64 [.string (bstr s)].toArray [mxB m]
    fun v l' => ∃ e : EvC, (∀ x, oneE s = some x → e = x) ∧ v = .tuple #[.agg (En.enc e).toArray, .bool (oneE s).isSome] ∧ l' = [] := by
  intro F K hK
  simp only [List.cons_append, List.nil_append]
  have hsm := words_small hs
  have e3 : (callW (ix (wordsS s) 3).d).isSome = okW (wordsS s) 3 := by unfold okW; rfl
  have v3 : (callW (ix (wordsS s) 3).d).getD 0 = valW (wordsS s) 3 := by unfold valW; rfl
  have hb0 := hsm 0
  have hb1 := hsm 1
  have hb2 := hsm 2
  have hb3 := hsm 3
  have hb4 := hsm 4
  have hb5 := hsm 5
  (refine Tr.enter (rs := [.cell 2 78, .tmp 3]) mixed fn64 rfl (by simp +arith [Tryd.ntmps64]) fun u => ?_; simp only [cd64, Tryd.f64])
  by_cases hl : (wordsS s).length = 6
  · ((try simp only [WKb, WKt]) <;> (repeat' ((first
    | (refine G.tr ?_; first | refine S.a ?_ | refine S.t ?_ | refine Tr.brK ?_ ?_ | (refine G.call 97 ?_; refine S.c ?_ (h := split_ok ?_)) | (refine G.call 16 ?_; refine S.c ?_ (h := tcall_ok ?_)) | (refine G.call 52 ?_; refine S.c ?_ (h := numberT_ok ?_)) | refine S.n fun _ => ?_ | refine S.i fun hix => ?_ | (refine S.g fun hb => ?_; (try simp only [hb])) | (refine S.s (fun hb => ?_) (fun hb => ?_) <;> ((try simp only [hb]) <;> (try (have hp := hb; simp only [WKs] at hp; (try have hq := Int.not_le.2 hp); (try have hq := Int.not_lt.2 hp))))))
    | rintro _ _ ⟨rfl, rfl⟩
    | rintro _ _ ⟨_, rfl, rfl⟩
    | rintro _ _ ⟨_, hi64, hnum, rfl, rfl⟩
    | ((fail_if_success refine G.tr ?_); exact G.prop S.p)
    | fail) <;> (try simp only [WKb, ↓reduceIte, Nat.reduceEqDiff, Nat.reduceAdd, hl, e3, v3]))))
    rename_i rb wv b pv
    refine Tr.loopE (α := Nat × Bool × Int × Int × Int × Int × Int) [7, 34] [2, 3, 4, 5, 32, 33] (fun x => [.bool x.2.1, .int .i64 x.1]) (fun x => [sl false pv.v [PtF.mk (some ⟨b, 0, none⟩), ⟨some ⟨b, 1, none⟩⟩, ⟨some ⟨b, 2, none⟩⟩, ⟨none⟩, ⟨some ⟨b, 4, none⟩⟩, ⟨some ⟨b, 5, none⟩⟩], blk b (.cells [.int .i64 x.2.2.1, .int .i64 x.2.2.2.1, .int .i64 x.2.2.2.2.1, .int .i64 (valW (wordsS s) 3), .int .i64 x.2.2.2.2.2.1, .int .i64 x.2.2.2.2.2.2].toArray 78 (0, 0)), sl false wv.v (wordsS s), blk rb (.cells [.int .i64 0, .int .i64 0, .int .i64 0, .int .i64 0, .int .i64 0, .int .i64 0].toArray 78 (0, 0))])
      (fun x => x.1 ≤ 6 ∧ oneI (wordsS s) x.1 x.2.1 x.2.2.1 x.2.2.2.1 x.2.2.2.2.1 x.2.2.2.2.2.1 x.2.2.2.2.2.2) (fun x => 6 - x.1) (0, okW (wordsS s) 3, 0, 0, 0, 0, 0) (by (repeat (first | exact TakeL.nil | (apply TakeL.cons; focus ((first | exact TakeA.dupS | exact TakeA.dupF | ((repeat (first | with_reducible exact TakeA.here | exact TakeA.fam (by omega) (by omega) | with_reducible apply TakeA.next)); done) | ((repeat (first | exact TakeA.here | apply TakeA.next)); done) | exact TakeA.famNil | exact TakeA.nilS))) | fail)); done) rfl ⟨Nat.zero_le _, oneI_init⟩ fun x u hx => ?_
    obtain ⟨k, is, m0, m1, m2, m4, m5⟩ := x
    simp only at hx ⊢
    obtain ⟨hk, hI⟩ := hx
    obtain rfl | rfl | rfl | rfl | rfl | rfl | rfl : k = 0 ∨ k = 1 ∨ k = 2 ∨ k = 3 ∨ k = 4 ∨ k = 5 ∨ k = 6 := by omega
    · have hw := wrapSucc (k := 0) (by omega)
      have hpx : (ix [PtF.mk (some ⟨b, 0, none⟩), ⟨some ⟨b, 1, none⟩⟩, ⟨some ⟨b, 2, none⟩⟩, ⟨none⟩, ⟨some ⟨b, 4, none⟩⟩, ⟨some ⟨b, 5, none⟩⟩] ((0 : Nat) : Int)).x = some ⟨b, 0, none⟩ := rfl
      cases is with
      | true =>
        have hI0 := fun n hn => oneI_next (n := n) hI (by decide) (by decide) hn
        simp +decide only [↓reduceIte] at hI0
        ((try simp only [WKb, ↓reduceIte, Nat.reduceEqDiff]) <;> (repeat' ((first
    | (refine G.tr ?_; first | refine S.a ?_ | refine S.t ?_ | refine Tr.brK ?_ ?_ | (refine G.call 97 ?_; refine S.c ?_ (h := split_ok ?_)) | (refine G.call 16 ?_; refine S.c ?_ (h := tcall_ok ?_)) | (refine G.call 52 ?_; refine S.c ?_ (h := numberT_ok ?_)) | refine S.n fun _ => ?_ | refine S.i fun hix => ?_ | (refine S.g fun hb => ?_; (try simp only [hb])) | (refine S.s (fun hb => ?_) (fun hb => ?_) <;> ((try simp only [hb]) <;> (try (have hp := hb; simp only [WKs] at hp; (try have hq := Int.not_le.2 hp); (try have hq := Int.not_lt.2 hp))))))
    | rintro _ _ ⟨rfl, rfl⟩
    | rintro _ _ ⟨_, rfl, rfl⟩
    | rintro _ _ ⟨_, hi64, hnum, rfl, rfl⟩
    | ((fail_if_success refine G.tr ?_); exact G.prop S.p)
    | fail) <;> (try simp only [WKb, ↓reduceIte, Nat.reduceEqDiff, hw, hpx]))))
        all_goals
          have hI' := hI0 _ hnum
          clear hI0
          (apply Tr.againE ((0 + 1, _, _, m1, m2, m4, m5)); (focus (simp only [WKb, ↓reduceIte, Nat.reduceEqDiff])); (focus ((try simp only [WKb, ↓reduceIte, Nat.reduceEqDiff]); (all_goals ((repeat (refine cons_eq (by first | rfl | (simp [*]; done)) ?_)); rfl)); done)); rotate_left 2; (focus (((try clear hK) <;> (try simp only [WKe, *]) <;> repeat (first | with_reducible exact EntR.done | refine S.e ?_ | (refine S.f ?_ <;> (try simp only [WKe, ↓reduceIte, reduceCtorEq, Int.reduceEq, *])) | with_reducible apply EntR.ex | refine EntR.drop (F := F) ?_ | refine EntR.drop ?_)))); (focus (first | omega | assumption | (simp only []; omega) | (refine ⟨by omega, by assumption⟩) | (simp only []; refine ⟨by omega, by assumption⟩) | ((try simp only []); (repeat' (first | omega | assumption | apply hI' | refine And.intro ?_ ?_)); done))); (focus (first | omega | (simp only []; omega))))
      | false =>
        have hI' : ∀ n, oneI (wordsS s) (0 + 1) false n m1 m2 m4 m5 := fun n => oneI_bad hI
        ((try simp only [WKb, ↓reduceIte, Nat.reduceEqDiff]) <;> (repeat' ((first
    | (refine G.tr ?_; first | refine S.a ?_ | refine S.t ?_ | refine Tr.brK ?_ ?_ | (refine G.call 97 ?_; refine S.c ?_ (h := split_ok ?_)) | (refine G.call 16 ?_; refine S.c ?_ (h := tcall_ok ?_)) | (refine G.call 52 ?_; refine S.c ?_ (h := numberT_ok ?_)) | refine S.n fun _ => ?_ | refine S.i fun hix => ?_ | (refine S.g fun hb => ?_; (try simp only [hb])) | (refine S.s (fun hb => ?_) (fun hb => ?_) <;> ((try simp only [hb]) <;> (try (have hp := hb; simp only [WKs] at hp; (try have hq := Int.not_le.2 hp); (try have hq := Int.not_lt.2 hp))))))
    | rintro _ _ ⟨rfl, rfl⟩
    | rintro _ _ ⟨_, rfl, rfl⟩
    | rintro _ _ ⟨_, hi64, hnum, rfl, rfl⟩
    | ((fail_if_success refine G.tr ?_); exact G.prop S.p)
    | fail) <;> (try simp only [WKb, ↓reduceIte, Nat.reduceEqDiff, hw, hpx]))))
        all_goals (apply Tr.againE ((0 + 1, false, _, m1, m2, m4, m5)); (focus (simp only [WKb, ↓reduceIte, Nat.reduceEqDiff])); (focus ((try simp only [WKb, ↓reduceIte, Nat.reduceEqDiff]); (all_goals ((repeat (refine cons_eq (by first | rfl | (simp [*]; done)) ?_)); rfl)); done)); rotate_left 2; (focus (((try clear hK) <;> (try simp only [WKe, *]) <;> repeat (first | with_reducible exact EntR.done | refine S.e ?_ | (refine S.f ?_ <;> (try simp only [WKe, ↓reduceIte, reduceCtorEq, Int.reduceEq, *])) | with_reducible apply EntR.ex | refine EntR.drop (F := F) ?_ | refine EntR.drop ?_)))); (focus (first | omega | assumption | (simp only []; omega) | (refine ⟨by omega, by assumption⟩) | (simp only []; refine ⟨by omega, by assumption⟩) | ((try simp only []); (repeat' (first | omega | assumption | apply hI' | refine And.intro ?_ ?_)); done))); (focus (first | omega | (simp only []; omega))))
    · have hw := wrapSucc (k := 1) (by omega)
      have hpx : (ix [PtF.mk (some ⟨b, 0, none⟩), ⟨some ⟨b, 1, none⟩⟩, ⟨some ⟨b, 2, none⟩⟩, ⟨none⟩, ⟨some ⟨b, 4, none⟩⟩, ⟨some ⟨b, 5, none⟩⟩] ((1 : Nat) : Int)).x = some ⟨b, 1, none⟩ := rfl
      cases is with
      | true =>
        have hI0 := fun n hn => oneI_next (n := n) hI (by decide) (by decide) hn
        simp +decide only [↓reduceIte] at hI0
        ((try simp only [WKb, ↓reduceIte, Nat.reduceEqDiff]) <;> (repeat' ((first
    | (refine G.tr ?_; first | refine S.a ?_ | refine S.t ?_ | refine Tr.brK ?_ ?_ | (refine G.call 97 ?_; refine S.c ?_ (h := split_ok ?_)) | (refine G.call 16 ?_; refine S.c ?_ (h := tcall_ok ?_)) | (refine G.call 52 ?_; refine S.c ?_ (h := numberT_ok ?_)) | refine S.n fun _ => ?_ | refine S.i fun hix => ?_ | (refine S.g fun hb => ?_; (try simp only [hb])) | (refine S.s (fun hb => ?_) (fun hb => ?_) <;> ((try simp only [hb]) <;> (try (have hp := hb; simp only [WKs] at hp; (try have hq := Int.not_le.2 hp); (try have hq := Int.not_lt.2 hp))))))
    | rintro _ _ ⟨rfl, rfl⟩
    | rintro _ _ ⟨_, rfl, rfl⟩
    | rintro _ _ ⟨_, hi64, hnum, rfl, rfl⟩
    | ((fail_if_success refine G.tr ?_); exact G.prop S.p)
    | fail) <;> (try simp only [WKb, ↓reduceIte, Nat.reduceEqDiff, Nat.reduceAdd, hw, hpx]))))
        all_goals
          have hI' := hI0 _ hnum
          clear hI0
          (apply Tr.againE ((1 + 1, _, m0, _, m2, m4, m5)); (focus (simp only [WKb, ↓reduceIte, Nat.reduceEqDiff])); (focus ((try simp only [WKb, ↓reduceIte, Nat.reduceEqDiff, Nat.reduceAdd]); (all_goals ((repeat (refine cons_eq (by first | rfl | (simp [*]; done)) ?_)); rfl)); done)); rotate_left 2; (focus (((try clear hK) <;> (try simp only [WKe, *]) <;> repeat (first | with_reducible exact EntR.done | refine S.e ?_ | (refine S.f ?_ <;> (try simp only [WKe, ↓reduceIte, reduceCtorEq, Int.reduceEq, *])) | with_reducible apply EntR.ex | refine EntR.drop (F := F) ?_ | refine EntR.drop ?_)))); (focus (first | omega | assumption | (simp only []; omega) | (refine ⟨by omega, by assumption⟩) | (simp only []; refine ⟨by omega, by assumption⟩) | ((try simp only []); (repeat' (first | omega | assumption | apply hI' | refine And.intro ?_ ?_)); done))); (focus (first | omega | (simp only []; omega))))
      | false =>
        have hI' : ∀ n, oneI (wordsS s) (1 + 1) false m0 n m2 m4 m5 := fun n => oneI_bad hI
        ((try simp only [WKb, ↓reduceIte, Nat.reduceEqDiff]) <;> (repeat' ((first
    | (refine G.tr ?_; first | refine S.a ?_ | refine S.t ?_ | refine Tr.brK ?_ ?_ | (refine G.call 97 ?_; refine S.c ?_ (h := split_ok ?_)) | (refine G.call 16 ?_; refine S.c ?_ (h := tcall_ok ?_)) | (refine G.call 52 ?_; refine S.c ?_ (h := numberT_ok ?_)) | refine S.n fun _ => ?_ | refine S.i fun hix => ?_ | (refine S.g fun hb => ?_; (try simp only [hb])) | (refine S.s (fun hb => ?_) (fun hb => ?_) <;> ((try simp only [hb]) <;> (try (have hp := hb; simp only [WKs] at hp; (try have hq := Int.not_le.2 hp); (try have hq := Int.not_lt.2 hp))))))
    | rintro _ _ ⟨rfl, rfl⟩
    | rintro _ _ ⟨_, rfl, rfl⟩
    | rintro _ _ ⟨_, hi64, hnum, rfl, rfl⟩
    | ((fail_if_success refine G.tr ?_); exact G.prop S.p)
    | fail) <;> (try simp only [WKb, ↓reduceIte, Nat.reduceEqDiff, Nat.reduceAdd, hw, hpx]))))
        all_goals (apply Tr.againE ((1 + 1, false, m0, _, m2, m4, m5)); (focus (simp only [WKb, ↓reduceIte, Nat.reduceEqDiff])); (focus ((try simp only [WKb, ↓reduceIte, Nat.reduceEqDiff, Nat.reduceAdd]); (all_goals ((repeat (refine cons_eq (by first | rfl | (simp [*]; done)) ?_)); rfl)); done)); rotate_left 2; (focus (((try clear hK) <;> (try simp only [WKe, *]) <;> repeat (first | with_reducible exact EntR.done | refine S.e ?_ | (refine S.f ?_ <;> (try simp only [WKe, ↓reduceIte, reduceCtorEq, Int.reduceEq, *])) | with_reducible apply EntR.ex | refine EntR.drop (F := F) ?_ | refine EntR.drop ?_)))); (focus (first | omega | assumption | (simp only []; omega) | (refine ⟨by omega, by assumption⟩) | (simp only []; refine ⟨by omega, by assumption⟩) | ((try simp only []); (repeat' (first | omega | assumption | apply hI' | refine And.intro ?_ ?_)); done))); (focus (first | omega | (simp only []; omega))))
    · have hw := wrapSucc (k := 2) (by omega)
      have hpx : (ix [PtF.mk (some ⟨b, 0, none⟩), ⟨some ⟨b, 1, none⟩⟩, ⟨some ⟨b, 2, none⟩⟩, ⟨none⟩, ⟨some ⟨b, 4, none⟩⟩, ⟨some ⟨b, 5, none⟩⟩] ((2 : Nat) : Int)).x = some ⟨b, 2, none⟩ := rfl
      cases is with
      | true =>
        have hI0 := fun n hn => oneI_next (n := n) hI (by decide) (by decide) hn
        simp +decide only [↓reduceIte] at hI0
        ((try simp only [WKb, ↓reduceIte, Nat.reduceEqDiff]) <;> (repeat' ((first
    | (refine G.tr ?_; first | refine S.a ?_ | refine S.t ?_ | refine Tr.brK ?_ ?_ | (refine G.call 97 ?_; refine S.c ?_ (h := split_ok ?_)) | (refine G.call 16 ?_; refine S.c ?_ (h := tcall_ok ?_)) | (refine G.call 52 ?_; refine S.c ?_ (h := numberT_ok ?_)) | refine S.n fun _ => ?_ | refine S.i fun hix => ?_ | (refine S.g fun hb => ?_; (try simp only [hb])) | (refine S.s (fun hb => ?_) (fun hb => ?_) <;> ((try simp only [hb]) <;> (try (have hp := hb; simp only [WKs] at hp; (try have hq := Int.not_le.2 hp); (try have hq := Int.not_lt.2 hp))))))
    | rintro _ _ ⟨rfl, rfl⟩
    | rintro _ _ ⟨_, rfl, rfl⟩
    | rintro _ _ ⟨_, hi64, hnum, rfl, rfl⟩
    | ((fail_if_success refine G.tr ?_); exact G.prop S.p)
    | fail) <;> (try simp only [WKb, ↓reduceIte, Nat.reduceEqDiff, Nat.reduceAdd, hw, hpx]))))
        all_goals
          have hI' := hI0 _ hnum
          clear hI0
          (apply Tr.againE ((2 + 1, _, m0, m1, _, m4, m5)); (focus (simp only [WKb, ↓reduceIte, Nat.reduceEqDiff])); (focus ((try simp only [WKb, ↓reduceIte, Nat.reduceEqDiff, Nat.reduceAdd]); (all_goals ((repeat (refine cons_eq (by first | rfl | (simp [*]; done)) ?_)); rfl)); done)); rotate_left 2; (focus (((try clear hK) <;> (try simp only [WKe, *]) <;> repeat (first | with_reducible exact EntR.done | refine S.e ?_ | (refine S.f ?_ <;> (try simp only [WKe, ↓reduceIte, reduceCtorEq, Int.reduceEq, *])) | with_reducible apply EntR.ex | refine EntR.drop (F := F) ?_ | refine EntR.drop ?_)))); (focus (first | omega | assumption | (simp only []; omega) | (refine ⟨by omega, by assumption⟩) | (simp only []; refine ⟨by omega, by assumption⟩) | ((try simp only []); (repeat' (first | omega | assumption | apply hI' | refine And.intro ?_ ?_)); done))); (focus (first | omega | (simp only []; omega))))
      | false =>
        have hI' : ∀ n, oneI (wordsS s) (2 + 1) false m0 m1 n m4 m5 := fun n => oneI_bad hI
        ((try simp only [WKb, ↓reduceIte, Nat.reduceEqDiff]) <;> (repeat' ((first
    | (refine G.tr ?_; first | refine S.a ?_ | refine S.t ?_ | refine Tr.brK ?_ ?_ | (refine G.call 97 ?_; refine S.c ?_ (h := split_ok ?_)) | (refine G.call 16 ?_; refine S.c ?_ (h := tcall_ok ?_)) | (refine G.call 52 ?_; refine S.c ?_ (h := numberT_ok ?_)) | refine S.n fun _ => ?_ | refine S.i fun hix => ?_ | (refine S.g fun hb => ?_; (try simp only [hb])) | (refine S.s (fun hb => ?_) (fun hb => ?_) <;> ((try simp only [hb]) <;> (try (have hp := hb; simp only [WKs] at hp; (try have hq := Int.not_le.2 hp); (try have hq := Int.not_lt.2 hp))))))
    | rintro _ _ ⟨rfl, rfl⟩
    | rintro _ _ ⟨_, rfl, rfl⟩
    | rintro _ _ ⟨_, hi64, hnum, rfl, rfl⟩
    | ((fail_if_success refine G.tr ?_); exact G.prop S.p)
    | fail) <;> (try simp only [WKb, ↓reduceIte, Nat.reduceEqDiff, Nat.reduceAdd, hw, hpx]))))
        all_goals (apply Tr.againE ((2 + 1, false, m0, m1, _, m4, m5)); (focus (simp only [WKb, ↓reduceIte, Nat.reduceEqDiff])); (focus ((try simp only [WKb, ↓reduceIte, Nat.reduceEqDiff, Nat.reduceAdd]); (all_goals ((repeat (refine cons_eq (by first | rfl | (simp [*]; done)) ?_)); rfl)); done)); rotate_left 2; (focus (((try clear hK) <;> (try simp only [WKe, *]) <;> repeat (first | with_reducible exact EntR.done | refine S.e ?_ | (refine S.f ?_ <;> (try simp only [WKe, ↓reduceIte, reduceCtorEq, Int.reduceEq, *])) | with_reducible apply EntR.ex | refine EntR.drop (F := F) ?_ | refine EntR.drop ?_)))); (focus (first | omega | assumption | (simp only []; omega) | (refine ⟨by omega, by assumption⟩) | (simp only []; refine ⟨by omega, by assumption⟩) | ((try simp only []); (repeat' (first | omega | assumption | apply hI' | refine And.intro ?_ ?_)); done))); (focus (first | omega | (simp only []; omega))))
    · have hw := wrapSucc (k := 3) (by omega)
      have hpx : (ix [PtF.mk (some ⟨b, 0, none⟩), ⟨some ⟨b, 1, none⟩⟩, ⟨some ⟨b, 2, none⟩⟩, ⟨none⟩, ⟨some ⟨b, 4, none⟩⟩, ⟨some ⟨b, 5, none⟩⟩] ((3 : Nat) : Int)).x = none := rfl
      cases is with
      | true =>
        have hI' := oneI_skip hI
        ((try simp only [WKb, ↓reduceIte, Nat.reduceEqDiff]) <;> (repeat' ((first
    | (refine G.tr ?_; first | refine S.a ?_ | refine S.t ?_ | refine Tr.brK ?_ ?_ | (refine G.call 97 ?_; refine S.c ?_ (h := split_ok ?_)) | (refine G.call 16 ?_; refine S.c ?_ (h := tcall_ok ?_)) | (refine G.call 52 ?_; refine S.c ?_ (h := numberT_ok ?_)) | refine S.n fun _ => ?_ | refine S.i fun hix => ?_ | (refine S.g fun hb => ?_; (try simp only [hb])) | (refine S.s (fun hb => ?_) (fun hb => ?_) <;> ((try simp only [hb]) <;> (try (have hp := hb; simp only [WKs] at hp; (try have hq := Int.not_le.2 hp); (try have hq := Int.not_lt.2 hp))))))
    | rintro _ _ ⟨rfl, rfl⟩
    | rintro _ _ ⟨_, rfl, rfl⟩
    | rintro _ _ ⟨_, hi64, hnum, rfl, rfl⟩
    | ((fail_if_success refine G.tr ?_); exact G.prop S.p)
    | fail) <;> (try simp only [WKb, ↓reduceIte, Nat.reduceEqDiff, Nat.reduceAdd, hw, hpx]))))
        all_goals (apply Tr.againE ((3 + 1, true, m0, m1, m2, m4, m5)); (focus (simp only [WKb, ↓reduceIte, Nat.reduceEqDiff])); (focus ((try simp only [WKb, ↓reduceIte, Nat.reduceEqDiff, Nat.reduceAdd]); (all_goals ((repeat (refine cons_eq (by first | rfl | (simp [*]; done)) ?_)); rfl)); done)); rotate_left 2; (focus (((try clear hK) <;> (try simp only [WKe, *]) <;> repeat (first | with_reducible exact EntR.done | refine S.e ?_ | (refine S.f ?_ <;> (try simp only [WKe, ↓reduceIte, reduceCtorEq, Int.reduceEq, *])) | with_reducible apply EntR.ex | refine EntR.drop (F := F) ?_ | refine EntR.drop ?_)))); (focus (first | omega | assumption | (simp only []; omega) | (refine ⟨by omega, by assumption⟩) | (simp only []; refine ⟨by omega, by assumption⟩) | ((try simp only []); (repeat' (first | omega | assumption | apply hI' | refine And.intro ?_ ?_)); done))); (focus (first | omega | (simp only []; omega))))
      | false =>
        have hI' : oneI (wordsS s) (3 + 1) false m0 m1 m2 m4 m5 := oneI_bad hI
        ((try simp only [WKb, ↓reduceIte, Nat.reduceEqDiff]) <;> (repeat' ((first
    | (refine G.tr ?_; first | refine S.a ?_ | refine S.t ?_ | refine Tr.brK ?_ ?_ | (refine G.call 97 ?_; refine S.c ?_ (h := split_ok ?_)) | (refine G.call 16 ?_; refine S.c ?_ (h := tcall_ok ?_)) | (refine G.call 52 ?_; refine S.c ?_ (h := numberT_ok ?_)) | refine S.n fun _ => ?_ | refine S.i fun hix => ?_ | (refine S.g fun hb => ?_; (try simp only [hb])) | (refine S.s (fun hb => ?_) (fun hb => ?_) <;> ((try simp only [hb]) <;> (try (have hp := hb; simp only [WKs] at hp; (try have hq := Int.not_le.2 hp); (try have hq := Int.not_lt.2 hp))))))
    | rintro _ _ ⟨rfl, rfl⟩
    | rintro _ _ ⟨_, rfl, rfl⟩
    | rintro _ _ ⟨_, hi64, hnum, rfl, rfl⟩
    | ((fail_if_success refine G.tr ?_); exact G.prop S.p)
    | fail) <;> (try simp only [WKb, ↓reduceIte, Nat.reduceEqDiff, Nat.reduceAdd, hw, hpx]))))
        all_goals (apply Tr.againE ((3 + 1, false, m0, m1, m2, m4, m5)); (focus (simp only [WKb, ↓reduceIte, Nat.reduceEqDiff])); (focus ((try simp only [WKb, ↓reduceIte, Nat.reduceEqDiff, Nat.reduceAdd]); (all_goals ((repeat (refine cons_eq (by first | rfl | (simp [*]; done)) ?_)); rfl)); done)); rotate_left 2; (focus (((try clear hK) <;> (try simp only [WKe, *]) <;> repeat (first | with_reducible exact EntR.done | refine S.e ?_ | (refine S.f ?_ <;> (try simp only [WKe, ↓reduceIte, reduceCtorEq, Int.reduceEq, *])) | with_reducible apply EntR.ex | refine EntR.drop (F := F) ?_ | refine EntR.drop ?_)))); (focus (first | omega | assumption | (simp only []; omega) | (refine ⟨by omega, by assumption⟩) | (simp only []; refine ⟨by omega, by assumption⟩) | ((try simp only []); (repeat' (first | omega | assumption | apply hI' | refine And.intro ?_ ?_)); done))); (focus (first | omega | (simp only []; omega))))
    · have hw := wrapSucc (k := 4) (by omega)
      have hpx : (ix [PtF.mk (some ⟨b, 0, none⟩), ⟨some ⟨b, 1, none⟩⟩, ⟨some ⟨b, 2, none⟩⟩, ⟨none⟩, ⟨some ⟨b, 4, none⟩⟩, ⟨some ⟨b, 5, none⟩⟩] ((4 : Nat) : Int)).x = some ⟨b, 4, none⟩ := rfl
      cases is with
      | true =>
        have hI0 := fun n hn => oneI_next (n := n) hI (by decide) (by decide) hn
        simp +decide only [↓reduceIte] at hI0
        ((try simp only [WKb, ↓reduceIte, Nat.reduceEqDiff]) <;> (repeat' ((first
    | (refine G.tr ?_; first | refine S.a ?_ | refine S.t ?_ | refine Tr.brK ?_ ?_ | (refine G.call 97 ?_; refine S.c ?_ (h := split_ok ?_)) | (refine G.call 16 ?_; refine S.c ?_ (h := tcall_ok ?_)) | (refine G.call 52 ?_; refine S.c ?_ (h := numberT_ok ?_)) | refine S.n fun _ => ?_ | refine S.i fun hix => ?_ | (refine S.g fun hb => ?_; (try simp only [hb])) | (refine S.s (fun hb => ?_) (fun hb => ?_) <;> ((try simp only [hb]) <;> (try (have hp := hb; simp only [WKs] at hp; (try have hq := Int.not_le.2 hp); (try have hq := Int.not_lt.2 hp))))))
    | rintro _ _ ⟨rfl, rfl⟩
    | rintro _ _ ⟨_, rfl, rfl⟩
    | rintro _ _ ⟨_, hi64, hnum, rfl, rfl⟩
    | ((fail_if_success refine G.tr ?_); exact G.prop S.p)
    | fail) <;> (try simp only [WKb, ↓reduceIte, Nat.reduceEqDiff, Nat.reduceAdd, hw, hpx]))))
        all_goals
          have hI' := hI0 _ hnum
          clear hI0
          (apply Tr.againE ((4 + 1, _, m0, m1, m2, _, m5)); (focus (simp only [WKb, ↓reduceIte, Nat.reduceEqDiff])); (focus ((try simp only [WKb, ↓reduceIte, Nat.reduceEqDiff, Nat.reduceAdd]); (all_goals ((repeat (refine cons_eq (by first | rfl | (simp [*]; done)) ?_)); rfl)); done)); rotate_left 2; (focus (((try clear hK) <;> (try simp only [WKe, *]) <;> repeat (first | with_reducible exact EntR.done | refine S.e ?_ | (refine S.f ?_ <;> (try simp only [WKe, ↓reduceIte, reduceCtorEq, Int.reduceEq, *])) | with_reducible apply EntR.ex | refine EntR.drop (F := F) ?_ | refine EntR.drop ?_)))); (focus (first | omega | assumption | (simp only []; omega) | (refine ⟨by omega, by assumption⟩) | (simp only []; refine ⟨by omega, by assumption⟩) | ((try simp only []); (repeat' (first | omega | assumption | apply hI' | refine And.intro ?_ ?_)); done))); (focus (first | omega | (simp only []; omega))))
      | false =>
        have hI' : ∀ n, oneI (wordsS s) (4 + 1) false m0 m1 m2 n m5 := fun n => oneI_bad hI
        ((try simp only [WKb, ↓reduceIte, Nat.reduceEqDiff]) <;> (repeat' ((first
    | (refine G.tr ?_; first | refine S.a ?_ | refine S.t ?_ | refine Tr.brK ?_ ?_ | (refine G.call 97 ?_; refine S.c ?_ (h := split_ok ?_)) | (refine G.call 16 ?_; refine S.c ?_ (h := tcall_ok ?_)) | (refine G.call 52 ?_; refine S.c ?_ (h := numberT_ok ?_)) | refine S.n fun _ => ?_ | refine S.i fun hix => ?_ | (refine S.g fun hb => ?_; (try simp only [hb])) | (refine S.s (fun hb => ?_) (fun hb => ?_) <;> ((try simp only [hb]) <;> (try (have hp := hb; simp only [WKs] at hp; (try have hq := Int.not_le.2 hp); (try have hq := Int.not_lt.2 hp))))))
    | rintro _ _ ⟨rfl, rfl⟩
    | rintro _ _ ⟨_, rfl, rfl⟩
    | rintro _ _ ⟨_, hi64, hnum, rfl, rfl⟩
    | ((fail_if_success refine G.tr ?_); exact G.prop S.p)
    | fail) <;> (try simp only [WKb, ↓reduceIte, Nat.reduceEqDiff, Nat.reduceAdd, hw, hpx]))))
        all_goals (apply Tr.againE ((4 + 1, false, m0, m1, m2, _, m5)); (focus (simp only [WKb, ↓reduceIte, Nat.reduceEqDiff])); (focus ((try simp only [WKb, ↓reduceIte, Nat.reduceEqDiff, Nat.reduceAdd]); (all_goals ((repeat (refine cons_eq (by first | rfl | (simp [*]; done)) ?_)); rfl)); done)); rotate_left 2; (focus (((try clear hK) <;> (try simp only [WKe, *]) <;> repeat (first | with_reducible exact EntR.done | refine S.e ?_ | (refine S.f ?_ <;> (try simp only [WKe, ↓reduceIte, reduceCtorEq, Int.reduceEq, *])) | with_reducible apply EntR.ex | refine EntR.drop (F := F) ?_ | refine EntR.drop ?_)))); (focus (first | omega | assumption | (simp only []; omega) | (refine ⟨by omega, by assumption⟩) | (simp only []; refine ⟨by omega, by assumption⟩) | ((try simp only []); (repeat' (first | omega | assumption | apply hI' | refine And.intro ?_ ?_)); done))); (focus (first | omega | (simp only []; omega))))
    · have hw := wrapSucc (k := 5) (by omega)
      have hpx : (ix [PtF.mk (some ⟨b, 0, none⟩), ⟨some ⟨b, 1, none⟩⟩, ⟨some ⟨b, 2, none⟩⟩, ⟨none⟩, ⟨some ⟨b, 4, none⟩⟩, ⟨some ⟨b, 5, none⟩⟩] ((5 : Nat) : Int)).x = some ⟨b, 5, none⟩ := rfl
      cases is with
      | true =>
        have hI0 := fun n hn => oneI_next (n := n) hI (by decide) (by decide) hn
        simp +decide only [↓reduceIte] at hI0
        ((try simp only [WKb, ↓reduceIte, Nat.reduceEqDiff]) <;> (repeat' ((first
    | (refine G.tr ?_; first | refine S.a ?_ | refine S.t ?_ | refine Tr.brK ?_ ?_ | (refine G.call 97 ?_; refine S.c ?_ (h := split_ok ?_)) | (refine G.call 16 ?_; refine S.c ?_ (h := tcall_ok ?_)) | (refine G.call 52 ?_; refine S.c ?_ (h := numberT_ok ?_)) | refine S.n fun _ => ?_ | refine S.i fun hix => ?_ | (refine S.g fun hb => ?_; (try simp only [hb])) | (refine S.s (fun hb => ?_) (fun hb => ?_) <;> ((try simp only [hb]) <;> (try (have hp := hb; simp only [WKs] at hp; (try have hq := Int.not_le.2 hp); (try have hq := Int.not_lt.2 hp))))))
    | rintro _ _ ⟨rfl, rfl⟩
    | rintro _ _ ⟨_, rfl, rfl⟩
    | rintro _ _ ⟨_, hi64, hnum, rfl, rfl⟩
    | ((fail_if_success refine G.tr ?_); exact G.prop S.p)
    | fail) <;> (try simp only [WKb, ↓reduceIte, Nat.reduceEqDiff, Nat.reduceAdd, hw, hpx]))))
        all_goals
          have hI' := hI0 _ hnum
          clear hI0
          (apply Tr.againE ((5 + 1, _, m0, m1, m2, m4, _)); (focus (simp only [WKb, ↓reduceIte, Nat.reduceEqDiff])); (focus ((try simp only [WKb, ↓reduceIte, Nat.reduceEqDiff, Nat.reduceAdd]); (all_goals ((repeat (refine cons_eq (by first | rfl | (simp [*]; done)) ?_)); rfl)); done)); rotate_left 2; (focus (((try clear hK) <;> (try simp only [WKe, *]) <;> repeat (first | with_reducible exact EntR.done | refine S.e ?_ | (refine S.f ?_ <;> (try simp only [WKe, ↓reduceIte, reduceCtorEq, Int.reduceEq, *])) | with_reducible apply EntR.ex | refine EntR.drop (F := F) ?_ | refine EntR.drop ?_)))); (focus (first | omega | assumption | (simp only []; omega) | (refine ⟨by omega, by assumption⟩) | (simp only []; refine ⟨by omega, by assumption⟩) | ((try simp only []); (repeat' (first | omega | assumption | apply hI' | refine And.intro ?_ ?_)); done))); (focus (first | omega | (simp only []; omega))))
      | false =>
        have hI' : ∀ n, oneI (wordsS s) (5 + 1) false m0 m1 m2 m4 n := fun n => oneI_bad hI
        ((try simp only [WKb, ↓reduceIte, Nat.reduceEqDiff]) <;> (repeat' ((first
    | (refine G.tr ?_; first | refine S.a ?_ | refine S.t ?_ | refine Tr.brK ?_ ?_ | (refine G.call 97 ?_; refine S.c ?_ (h := split_ok ?_)) | (refine G.call 16 ?_; refine S.c ?_ (h := tcall_ok ?_)) | (refine G.call 52 ?_; refine S.c ?_ (h := numberT_ok ?_)) | refine S.n fun _ => ?_ | refine S.i fun hix => ?_ | (refine S.g fun hb => ?_; (try simp only [hb])) | (refine S.s (fun hb => ?_) (fun hb => ?_) <;> ((try simp only [hb]) <;> (try (have hp := hb; simp only [WKs] at hp; (try have hq := Int.not_le.2 hp); (try have hq := Int.not_lt.2 hp))))))
    | rintro _ _ ⟨rfl, rfl⟩
    | rintro _ _ ⟨_, rfl, rfl⟩
    | rintro _ _ ⟨_, hi64, hnum, rfl, rfl⟩
    | ((fail_if_success refine G.tr ?_); exact G.prop S.p)
    | fail) <;> (try simp only [WKb, ↓reduceIte, Nat.reduceEqDiff, Nat.reduceAdd, hw, hpx]))))
        all_goals (apply Tr.againE ((5 + 1, false, m0, m1, m2, m4, _)); (focus (simp only [WKb, ↓reduceIte, Nat.reduceEqDiff])); (focus ((try simp only [WKb, ↓reduceIte, Nat.reduceEqDiff, Nat.reduceAdd]); (all_goals ((repeat (refine cons_eq (by first | rfl | (simp [*]; done)) ?_)); rfl)); done)); rotate_left 2; (focus (((try clear hK) <;> (try simp only [WKe, *]) <;> repeat (first | with_reducible exact EntR.done | refine S.e ?_ | (refine S.f ?_ <;> (try simp only [WKe, ↓reduceIte, reduceCtorEq, Int.reduceEq, *])) | with_reducible apply EntR.ex | refine EntR.drop (F := F) ?_ | refine EntR.drop ?_)))); (focus (first | omega | assumption | (simp only []; omega) | (refine ⟨by omega, by assumption⟩) | (simp only []; refine ⟨by omega, by assumption⟩) | ((try simp only []); (repeat' (first | omega | assumption | apply hI' | refine And.intro ?_ ?_)); done))); (focus (first | omega | (simp only []; omega))))
    · obtain ⟨hE1, hE2⟩ := oneI_end hl hI
      ((try simp only [WKb, ↓reduceIte, Nat.reduceEqDiff]) <;> (repeat' ((first
    | (refine G.tr ?_; first | refine S.a ?_ | refine S.t ?_ | refine Tr.brK ?_ ?_ | (refine G.call 97 ?_; refine S.c ?_ (h := split_ok ?_)) | (refine G.call 16 ?_; refine S.c ?_ (h := tcall_ok ?_)) | (refine G.call 52 ?_; refine S.c ?_ (h := numberT_ok ?_)) | refine S.n fun _ => ?_ | refine S.i fun hix => ?_ | (refine S.g fun hb => ?_; (try simp only [hb])) | (refine S.s (fun hb => ?_) (fun hb => ?_) <;> ((try simp only [hb]) <;> (try (have hp := hb; simp only [WKs] at hp; (try have hq := Int.not_le.2 hp); (try have hq := Int.not_lt.2 hp))))))
    | rintro _ _ ⟨rfl, rfl⟩
    | rintro _ _ ⟨_, rfl, rfl⟩
    | rintro _ _ ⟨_, hi64, hnum, rfl, rfl⟩
    | ((fail_if_success refine G.tr ?_); exact G.prop S.p)
    | fail) <;> (try simp only [WKb, ↓reduceIte, Nat.reduceEqDiff]))))
      all_goals
        refine Tr.fin hK ⟨_, hE1, by rw [hE2]; rfl, rfl⟩ ?_
        ((try clear hK) <;> (try simp only [WKe, *]) <;> repeat (first | with_reducible exact EntR.done | refine S.e ?_ | (refine S.f ?_ <;> (try simp only [WKe, ↓reduceIte, reduceCtorEq, Int.reduceEq, *])) | with_reducible apply EntR.ex | refine EntR.drop (F := F) ?_ | refine EntR.drop ?_))
  · have hno := oneE_len hl
    have hl' : ¬ ((wordsS s).length : Int) = 6 := by omega
    ((try simp only [WKb, WKt]) <;> (repeat' ((first
    | (refine G.tr ?_; first | refine S.a ?_ | refine S.t ?_ | refine Tr.brK ?_ ?_ | (refine G.call 97 ?_; refine S.c ?_ (h := split_ok ?_)) | (refine G.call 16 ?_; refine S.c ?_ (h := tcall_ok ?_)) | (refine G.call 52 ?_; refine S.c ?_ (h := numberT_ok ?_)) | refine S.n fun _ => ?_ | refine S.i fun hix => ?_ | (refine S.g fun hb => ?_; (try simp only [hb])) | (refine S.s (fun hb => ?_) (fun hb => ?_) <;> ((try simp only [hb]) <;> (try (have hp := hb; simp only [WKs] at hp; (try have hq := Int.not_le.2 hp); (try have hq := Int.not_lt.2 hp))))))
    | rintro _ _ ⟨rfl, rfl⟩
    | rintro _ _ ⟨_, rfl, rfl⟩
    | rintro _ _ ⟨_, hi64, hnum, rfl, rfl⟩
    | ((fail_if_success refine G.tr ?_); exact G.prop S.p)
    | fail) <;> (try simp only [WKb, ↓reduceIte, Nat.reduceEqDiff]))))
    all_goals
      refine Tr.fin hK ⟨⟨0, 0, 0, 0, 0, 0⟩, fun x hx => (by rw [hno] at hx; cases hx), by rw [hno]; rfl, rfl⟩ ?_
      ((try clear hK) <;> (try simp only [WKe, *]) <;> repeat (first | with_reducible exact EntR.done | refine S.e ?_ | (refine S.f ?_ <;> (try simp only [WKe, ↓reduceIte, reduceCtorEq, Int.reduceEq, *])) | with_reducible apply EntR.ex | refine EntR.drop (F := F) ?_ | refine EntR.drop ?_))

end Go.Proofs.YtgkhjgpgdfbdpaaDoor
