import Derived.Test.YtgkhjgpgdfbdpaaDoorSnx
namespace Go.Proofs.YtgkhjgpgdfbdpaaDoor
open Go Go.Wk
set_option maxHeartbeats 6400000
set_option maxRecDepth 100000

theorem dropS_cut {c : UInt8} {s : List UInt8} {a k : Nat} (h1 : a ≤ k) (h2 : k < s.length) (hb : bix s (k : Int) = c) : s.drop a = (s.take k).drop a ++ c :: s.drop (k + 1) := by
  rw [bix_nat h2] at hb
  have hs : s = s.take k ++ s[k] :: s.drop (k + 1) := by
    rw [← List.drop_eq_getElem_cons h2, List.take_append_drop]
  have hl : a ≤ (s.take k).length := by rw [List.length_take]; omega
  calc s.drop a = (s.take k ++ s[k] :: s.drop (k + 1)).drop a := by rw [← hs]
    _ = _ := by rw [List.drop_append_of_le_length hl, hb]
theorem notS_in {c : UInt8} {s : List UInt8} {a k : Nat} (h2 : k ≤ s.length) (hn : ∀ j : Nat, a ≤ j → j < k → bix s (j : Int) ≠ c) : c ∉ (s.take k).drop a := fun hm => by
  obtain ⟨j, hj, he⟩ := List.getElem_of_mem hm
  rw [List.length_drop, List.length_take] at hj
  rw [List.getElem_drop, List.getElem_take] at he
  exact hn (a + j) (by omega) (by omega) (by rw [bix_nat (by omega)]; exact he)
theorem scut_ok {s : List UInt8} {m : Int} (hs : s.length ≤ 4294967280) : Trip Tryd.prog 63 [.string (bstr s), .string (bstr [10])].toArray [mxB m] fun v l' => v = .tuple #[.string (bstr (cutA 10 s).1), .string (bstr (cutA 10 s).2.1), .bool (cutA 10 s).2.2] ∧ l' = [] := trip_cut Tryd.strings_Cut hs

attribute [local irreducible] BrK GenK EGenK EUnitK CallK FnK CallV GuardO GuardC CondW opX opK opKc chkR eqR seqK blkK endL WL WD W LoopW BinK Tr drewK resL PickK NotK NilK ExtrK getK Instr.storeAt Instr.loadAt Instr.fieldAt Instr.indexAt Instr.lookup Instr.mapUpdate Instr.box Instr.alloc Instr.build Instr.buildSlice Instr.makeSlice Instr.makeMap Instr.sliceAt Instr.field Instr.index Instr.makeInterface Instr.typeAssert Builtin.len_ Builtin.append_ Builtin.cap_ Builtin.min_ Builtin.max_ Builtin.copy_ Builtin.clear_ convert binOp mp blk rob sl sep ex fact old
attribute [local irreducible] NegK mxV bufT bldB nz stB stepsN
theorem sread_ok {s : List UInt8} {m : Int} : Trip Tryd.prog 36 [.string (bstr s)].toArray [mxB m]
    fun v l' => ∃ (p f : SV) (progs : List ProgS), progsD progs = (readT s).1.1 ∧ v = .tuple #[.agg [p.v, f.v].toArray, .int .i64 (readT s).2.1, .int .i64 (readT s).2.2] ∧ l' = [sl false p.v progs, famProg false progs, sl false f.v (readT s).1.2] := by
  intro F K hK
  simp only [List.cons_append, List.nil_append]
  have fin0 : ∀ (l : List Asrt) (a e : Int), readT s = (([], []), a, e) → EntR [] l F → Tr l (K (.tuple #[.agg [.slice none 0 0, .slice none 0 0].toArray, .int .i64 a, .int .i64 e])) := fun l a e h he => by
    refine Tr.nilSl (α := ProgS) ?_
    refine Tr.nilSl (α := FrameC) ?_
    refine Tr.imp (fam_nil (A := fun x : ProgS => sep (sl false x.s.v x.d) (famProc false x.d))) ?_
    refine Tr.fin hK ⟨⟨none, 0, 0⟩, ⟨none, 0, 0⟩, [], by rw [h]; rfl, by rw [h]; rfl, rfl⟩ ?_
    rw [h]
    refine EntR.take (TakeA.next (TakeA.next TakeA.here)) ?_
    refine EntR.take TakeA.here ?_
    refine EntR.take TakeA.here ?_
    exact he
  (refine Tr.enter (rs := [.cell 2 48, .tmp 3, .tmp 4]) mixed fn36 rfl (by simp +arith [Tryd.ntmps36]) fun u => ?_; simp only [cd36, Tryd.f36])
  by_cases hbig : 65536 < s.length
  · have hR := readT_big hbig
    ((try simp only [WKb, WKt]) <;> (repeat' ((first
    | (refine G.tr ?_; first | refine S.a ?_ | refine S.t ?_ | refine Tr.brK ?_ ?_ | (refine G.call 63 ?_; refine S.c ?_ (h := scut_ok ?_)) | (refine G.call 72 ?_; refine S.c ?_ (h := take_ok ?_ ?_)) | refine S.n fun _ => ?_ | refine S.i fun hix => ?_ | (refine S.g fun hb => ?_; (try simp only [hb])) | (refine S.s (fun hb => ?_) (fun hb => ?_) <;> ((try simp only [hb]) <;> (try (have hp := hb; simp only [WKs] at hp; (try have hq := Int.not_le.2 hp); (try have hq := Int.not_lt.2 hp))))))
    | rintro _ _ ⟨rfl, rfl⟩
    | rintro _ _ ⟨_, _, _, _, htk, rfl, rfl⟩
    | ((fail_if_success refine G.tr ?_); exact G.prop S.p)
    | fail) <;> (try simp only [WKb, ↓reduceIte, Nat.reduceEqDiff, WKt]))))
    all_goals
      refine fin0 _ _ _ hR ?_
      ((try clear hK) <;> (try simp only [WKe, ↓reduceIte, reduceCtorEq, Int.reduceEq, *]) <;> repeat (first | with_reducible exact EntR.done | refine S.e ?_ | (refine S.f ?_ <;> (try simp only [WKe, ↓reduceIte, reduceCtorEq, Int.reduceEq, *])) | with_reducible apply EntR.ex | refine EntR.drop (F := F) ?_ | refine EntR.drop ?_))
  · have hsl : s.length ≤ 65536 := by omega
    ((try simp only [WKb, WKt]) <;> (repeat' ((first
    | (refine G.tr ?_; first | refine S.a ?_ | refine S.t ?_ | refine Tr.brK ?_ ?_ | (refine G.call 63 ?_; refine S.c ?_ (h := scut_ok ?_)) | (refine G.call 72 ?_; refine S.c ?_ (h := take_ok ?_ ?_)) | refine S.n fun _ => ?_ | refine S.i fun hix => ?_ | (refine S.g fun hb => ?_; (try simp only [hb])) | (refine S.s (fun hb => ?_) (fun hb => ?_) <;> ((try simp only [hb]) <;> (try (have hp := hb; simp only [WKs] at hp; (try have hq := Int.not_le.2 hp); (try have hq := Int.not_lt.2 hp))))))
    | rintro _ _ ⟨rfl, rfl⟩
    | rintro _ _ ⟨_, _, _, _, htk, rfl, rfl⟩
    | ((fail_if_success refine G.tr ?_); exact G.prop S.p)
    | fail) <;> (try simp only [WKb, ↓reduceIte, Nat.reduceEqDiff, WKt]))))
    rename_i ob rb
    refine Tr.nilSl (α := ProgS) ?_
    refine Tr.nilSl (α := FrameC) ?_
    refine Tr.imp (fam_nil (A := fun x : ProgS => sep (sl false x.s.v x.d) (famProc false x.d))) ?_
    refine Tr.loopE (α := SV × SV × List ProgS × List FrameC × Nat × List UInt8) [0, 3, 4, 6] [2, 5] (fun x => [.string (bstr x.2.2.2.2.2), .int .i64 0, .int .i64 0, .int .i64 (x.2.2.2.2.1 + 1 : Nat)]) (fun x => [blk rb (.cells [x.1.v, x.2.1.v].toArray 113 (0, 0)), sl false x.1.v x.2.2.1, famProg false x.2.2.1, sl false x.2.1.v x.2.2.2.1, blk ob (.cells [.slice none 0 0, .slice none 0 0].toArray 48 (0, 0)), mxB m])
      (fun x => rdT s (progsD x.2.2.1, x.2.2.2.1) x.2.2.2.2.1 x.2.2.2.2.2 ∧ x.2.2.2.2.1 + x.2.2.2.2.2.length ≤ s.length) (fun x => x.2.2.2.2.2.length) (⟨none, 0, 0⟩, ⟨none, 0, 0⟩, [], [], 0, s) (by (repeat (first | exact TakeL.nil | (apply TakeL.cons; focus ((first | exact TakeA.dupS | exact TakeA.dupF | ((repeat (first | with_reducible exact TakeA.here | exact TakeA.fam (by omega) (by omega) | with_reducible apply TakeA.next)); done) | ((repeat (first | exact TakeA.here | apply TakeA.next)); done) | exact TakeA.famNil | exact TakeA.nilS))) | fail)); done) rfl ⟨rdT_init, by simp⟩ fun x u hx => ?_
    obtain ⟨p, f, progs, frames, n, r0⟩ := x
    simp only at hx ⊢
    obtain ⟨hI, hln⟩ := hx
    have hlen : lenT 100000 (progsD progs, frames) := by
      obtain ⟨_, _, _, _, h⟩ := hI
      exact lenT_mono h (by omega)
    have hwl : IntKind.i64.wrap ((n + 1 : Nat) : Int) = ((n + 1 : Nat) : Int) := wrapId (by omega) (by omega)
    have hw := wrapSucc (k := n + 1) (by omega)
    by_cases hz : r0 = []
    · have hd : decide (r0 = []) = true := decide_eq_true hz
      subst hz
      have hR := rdT_end hsl hI
      ((try simp only [WKb, WKh, ↓reduceIte, Nat.reduceEqDiff]) <;> (repeat' ((first
    | (refine G.tr ?_; first | refine S.a ?_ | refine S.t ?_ | refine Tr.brK ?_ ?_ | (refine G.call 63 ?_; refine S.c ?_ (h := scut_ok ?_)) | (refine G.call 72 ?_; refine S.c ?_ (h := take_ok ?_ ?_)) | refine S.n fun _ => ?_ | refine S.i fun hix => ?_ | (refine S.g fun hb => ?_; (try simp only [hb])) | (refine S.s (fun hb => ?_) (fun hb => ?_) <;> ((try simp only [hb]) <;> (try (have hp := hb; simp only [WKs] at hp; (try have hq := Int.not_le.2 hp); (try have hq := Int.not_lt.2 hp))))))
    | rintro _ _ ⟨rfl, rfl⟩
    | rintro _ _ ⟨_, _, _, _, htk, rfl, rfl⟩
    | ((fail_if_success refine G.tr ?_); exact G.prop S.p)
    | fail) <;> (try simp only [WKb, ↓reduceIte, Nat.reduceEqDiff]))))
      all_goals
        apply Tr.fin hK ⟨p, f, progs, by rw [hR], by rw [hR], rfl⟩
        rw [hR]
        ((try clear hK) <;> (try simp only [WKe, *]) <;> repeat (first | with_reducible exact EntR.done | refine S.e ?_ | (refine S.f ?_ <;> (try simp only [WKe, ↓reduceIte, reduceCtorEq, Int.reduceEq, *])) | with_reducible apply EntR.ex | refine EntR.drop (F := F) ?_ | refine EntR.drop ?_))
    · have hd : decide (r0 = []) = false := decide_eq_false hz
      rcases cut_split (c := 10) r0 with hno | ⟨w, r, hr, hnw⟩
      · have hc := cutA_miss hno
        have hR := rdT_open hsl hI hno hz
        ((try simp only [WKb, WKh, ↓reduceIte, Nat.reduceEqDiff, hd]) <;> (repeat' ((first
    | (refine G.tr ?_; first | refine S.a ?_ | refine S.t ?_ | refine Tr.brK ?_ ?_ | (refine G.call 63 ?_; refine S.c ?_ (h := scut_ok ?_)) | (refine G.call 72 ?_; refine S.c ?_ (h := take_ok ?_ ?_)) | refine S.n fun _ => ?_ | refine S.i fun hix => ?_ | (refine S.g fun hb => ?_; (try simp only [hb])) | (refine S.s (fun hb => ?_) (fun hb => ?_) <;> ((try simp only [hb]) <;> (try (have hp := hb; simp only [WKs] at hp; (try have hq := Int.not_le.2 hp); (try have hq := Int.not_lt.2 hp))))))
    | rintro _ _ ⟨rfl, rfl⟩
    | rintro _ _ ⟨_, _, _, _, htk, rfl, rfl⟩
    | ((fail_if_success refine G.tr ?_); exact G.prop S.p)
    | fail) <;> (try simp only [WKb, ↓reduceIte, Nat.reduceEqDiff, hc]))))
        all_goals
          refine fin0 _ _ _ hR ?_
          ((try clear hK) <;> (try simp only [WKe, ↓reduceIte, reduceCtorEq, Int.reduceEq, *]) <;> repeat (first | with_reducible exact EntR.done | refine S.e ?_ | (refine S.f ?_ <;> (try simp only [WKe, ↓reduceIte, reduceCtorEq, Int.reduceEq, *])) | with_reducible apply EntR.ex | refine EntR.drop (F := F) ?_ | refine EntR.drop ?_))
      · have hc : cutA 10 r0 = (w, r, true) := by rw [hr]; exact cutA_hit hnw
        have hrl : r0.length = w.length + r.length + 1 := by rw [hr]; simp; omega
        cases ho : takeS (progsD progs, frames) w with
        | none =>
          have hos : (takeS (progsD progs, frames) w).isSome = false := by rw [ho]; rfl
          have hR := rdT_bad hsl (hr ▸ hI) hnw ho
          ((try simp only [WKb, WKh, ↓reduceIte, Nat.reduceEqDiff, hd]) <;> (repeat' ((first
    | (refine G.tr ?_; first | refine S.a ?_ | refine S.t ?_ | refine Tr.brK ?_ ?_ | (refine G.call 63 ?_; refine S.c ?_ (h := scut_ok ?_)) | (refine G.call 72 ?_; refine S.c ?_ (h := take_ok ?_ ?_)) | refine S.n fun _ => ?_ | refine S.i fun hix => ?_ | (refine S.g fun hb => ?_; (try simp only [hb])) | (refine S.s (fun hb => ?_) (fun hb => ?_) <;> ((try simp only [hb]) <;> (try (have hp := hb; simp only [WKs] at hp; (try have hq := Int.not_le.2 hp); (try have hq := Int.not_lt.2 hp))))))
    | rintro _ _ ⟨rfl, rfl⟩
    | rintro _ _ ⟨_, _, _, _, htk, rfl, rfl⟩
    | ((fail_if_success refine G.tr ?_); exact G.prop S.p)
    | fail) <;> (try simp only [WKb, ↓reduceIte, Nat.reduceEqDiff, hc, hos]))))
          all_goals
            refine fin0 _ _ _ hR ?_
            ((try clear hK) <;> (try simp only [WKe, ↓reduceIte, reduceCtorEq, Int.reduceEq, *]) <;> repeat (first | with_reducible exact EntR.done | refine S.e ?_ | (refine S.f ?_ <;> (try simp only [WKe, ↓reduceIte, reduceCtorEq, Int.reduceEq, *])) | with_reducible apply EntR.ex | refine EntR.drop (F := F) ?_ | refine EntR.drop ?_))
        | some e =>
          obtain ⟨e1, e2⟩ := e
          have hos : (takeS (progsD progs, frames) w).isSome = true := by rw [ho]; rfl
          have hI' := rdT_next (hr ▸ hI) hnw ho
          have hln' : n + 1 + r.length ≤ s.length := by omega
          ((try simp only [WKb, WKh, ↓reduceIte, Nat.reduceEqDiff, hd]) <;> (repeat' ((first
    | (refine G.tr ?_; first | refine S.a ?_ | refine S.t ?_ | refine Tr.brK ?_ ?_ | (refine G.call 63 ?_; refine S.c ?_ (h := scut_ok ?_)) | (refine G.call 72 ?_; refine S.c ?_ (h := take_ok ?_ ?_)) | refine S.n fun _ => ?_ | refine S.i fun hix => ?_ | (refine S.g fun hb => ?_; (try simp only [hb])) | (refine S.s (fun hb => ?_) (fun hb => ?_) <;> ((try simp only [hb]) <;> (try (have hp := hb; simp only [WKs] at hp; (try have hq := Int.not_le.2 hp); (try have hq := Int.not_lt.2 hp))))))
    | rintro _ _ ⟨rfl, rfl⟩
    | rintro _ _ ⟨_, _, _, _, htk, rfl, rfl⟩
    | ((fail_if_success refine G.tr ?_); exact G.prop S.p)
    | fail) <;> (try simp only [WKb, ↓reduceIte, Nat.reduceEqDiff, hc, hos, hw]))))
          all_goals
            obtain ⟨h1, h2⟩ := htk _ ho
            simp only at h1 h2
            subst h1 h2
            clear htk hI hlen ho hos
            (apply Tr.againE ((_, _, _, _, n + 1, r)); (focus (simp only [WKb, ↓reduceIte, Nat.reduceEqDiff])); (focus ((try simp only [WKb, ↓reduceIte, Nat.reduceEqDiff]); (all_goals ((repeat (refine cons_eq (by first | rfl | (simp [*]; done)) ?_)); rfl)); done)); rotate_left 2; (focus (((try clear hK) <;> (try simp only [WKe, *]) <;> repeat (first | with_reducible exact EntR.done | refine S.e ?_ | (refine S.f ?_ <;> (try simp only [WKe, ↓reduceIte, reduceCtorEq, Int.reduceEq, *])) | with_reducible apply EntR.ex | refine EntR.drop (F := F) ?_ | refine EntR.drop ?_)))); (focus (first | omega | assumption | (simp only []; omega) | (refine ⟨by omega, by assumption⟩) | (simp only []; refine ⟨by omega, by assumption⟩) | ((try simp only []); (repeat' (first | omega | assumption | apply hI' | apply hln' | refine And.intro ?_ ?_)); done))); (focus (first | omega | (simp only []; omega))))

end Go.Proofs.YtgkhjgpgdfbdpaaDoor
