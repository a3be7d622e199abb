import Derived.Test.YtgkhjgpgdfbdpaaDoorShx
namespace Go.Proofs.YtgkhjgpgdfbdpaaDoor
open Go Go.Wk
set_option maxHeartbeats 6400000
set_option maxRecDepth 100000

theorem frameL_inj {f g : FrameC} (h : frameL f = frameL g) : f = g := by
  have hc : ∀ f : FrameC, ∀ w ∈ frameW f, (32 : UInt8) ∉ w := fun f w hw => by
    simp only [frameW, List.mem_cons, List.mem_nil_iff, or_false] at hw
    rcases hw with rfl | rfl | rfl | rfl | rfl
    · decide
    · exact dec_no32 _
    · exact dec_no32 _
    · exact dec_no32 _
    · exact dec_no32 _
  have h1 := words_join (c := 32) (ws := frameW f) (by simp [frameW]) (hc f)
  have h2 := words_join (c := 32) (ws := frameW g) (by simp [frameW]) (hc g)
  have h3 : frameW f = frameW g := by rw [← h1, ← h2]; exact congrArg _ h
  obtain ⟨a, b, c, d⟩ := f
  obtain ⟨a', b', c', d'⟩ := g
  simp only [frameW, List.cons.injEq, and_true, true_and] at h3
  obtain ⟨e1, e2, e3, e4⟩ := h3
  rw [decA_inj e1, decA_inj e2, decA_inj e3, decA_inj e4]
theorem ix_len {α β : Type} {f : α → List β} [Inhabited α] {xs ys : List α} (h : xs.map f = ys.map f) {k : Nat} (hk : k < xs.length) : f (ix xs (k : Int)) = f (ix ys (k : Int)) := by
  have hl : xs.length = ys.length := by simpa using congrArg List.length h
  have e1 := ix_some (xs := xs) (k := (k : Int)) (by omega) (by omega)
  have e2 := ix_some (xs := ys) (k := (k : Int)) (by omega) (by omega)
  have e3 := congrArg (fun l => l[((k : Int)).toNat]?) h
  simp only [List.getElem?_map, e1, e2, Option.map_some] at e3
  exact Option.some.inj e3
theorem map_ix {α β : Type} {f : α → List β} [Inhabited α] {xs ys : List α} (hl : xs.length = ys.length) (h : ∀ j : Nat, j < xs.length → f (ix xs (j : Int)) = f (ix ys (j : Int))) : xs.map f = ys.map f := by
  refine List.ext_getElem (by simp [hl]) fun i h1 h2 => ?_
  simp only [List.length_map] at h1 h2
  have e1 := ix_some (xs := xs) (k := (i : Int)) (by omega) (by omega)
  have e2 := ix_some (xs := ys) (k := (i : Int)) (by omega) (by omega)
  rw [Int.toNat_natCast, List.getElem?_eq_getElem h1] at e1
  rw [Int.toNat_natCast, List.getElem?_eq_getElem h2] at e2
  have e3 := h i h1
  rw [← Option.some.inj e1, ← Option.some.inj e2] at e3
  simpa using e3
attribute [local irreducible] BrK GenK EGenK EUnitK CallK FnK CallV GuardO GuardC CondW opX opK opKc chkR eqR seqK blkK endL WL WD W LoopW BinK Tr drewK resL PickK NotK NilK ExtrK getK Instr.storeAt Instr.loadAt Instr.fieldAt Instr.indexAt Instr.lookup Instr.mapUpdate Instr.box Instr.alloc Instr.build Instr.buildSlice Instr.makeSlice Instr.makeMap Instr.sliceAt Instr.field Instr.index Instr.makeInterface Instr.typeAssert Builtin.len_ Builtin.append_ Builtin.cap_ Builtin.min_ Builtin.max_ Builtin.copy_ Builtin.clear_ convert binOp mp blk rob sl sep ex fact old
attribute [local irreducible] NegK mxV bufT bldB nz stB stepsN
theorem same29_ok {r1 r2 r3 r4 : Bool} {p1 f1 p2 f2 : SV} {xs ys : List ProgS} {fx fy : List FrameC} (hfx : ∀ f ∈ fx, f.ok) (hfy : ∀ f ∈ fy, f.ok) : Trip Tryd.prog 32 [.agg [p1.v, f1.v].toArray, .agg [p2.v, f2.v].toArray].toArray [sl r1 p1.v xs, famProg r1 xs, sl r3 f1.v fx, sl r2 p2.v ys, famProg r2 ys, sl r4 f2.v fy]
    fun u l' => u = .bool (decide (sameS xs ys fx fy)) ∧ l' = [sl r1 p1.v xs, famProg r1 xs, sl r3 f1.v fx, sl r2 p2.v ys, famProg r2 ys, sl r4 f2.v fy] := by
  intro F K hK
  simp only [List.cons_append, List.nil_append]
  have fin0 : ∀ l : List Asrt, ¬ sameS xs ys fx fy → EntR [] l (sl r1 p1.v xs :: famProg r1 xs :: sl r3 f1.v fx :: sl r2 p2.v ys :: famProg r2 ys :: sl r4 f2.v fy :: F) → Tr l (K (.bool false)) := fun l h he => Tr.fin hK ⟨by rw [decide_eq_false h], rfl⟩ he
  refine Tr.bound (ro := r1) (v := p1.v) (xs := xs) (by (repeat (first | exact Has.here | apply Has.next)); done) fun hbd1 => ?_
  refine Tr.bound (ro := r3) (v := f1.v) (xs := fx) (by (repeat (first | exact Has.here | apply Has.next)); done) fun hbd2 => ?_
  (refine Tr.enter (rs := [.tmp 4]) mixed fn32 rfl (by simp +arith [Tryd.ntmps32]) fun u => ?_; simp only [cd32, Tryd.f32])
  by_cases hl1 : xs.length = ys.length
  · by_cases hl2 : fx.length = fy.length
    · have hl1' : (xs.length : Int) = ys.length := by omega
      have hl2' : (fx.length : Int) = fy.length := by omega
      ((try simp only [WKb, ↓reduceIte, Nat.reduceEqDiff, Nat.reduceAdd]) <;> (repeat' ((first
    | (refine G.tr ?_; first | refine S.a ?_ | refine S.t ?_ | refine Tr.brK ?_ ?_ | (refine G.call 68 ?_; refine S.c ?_ (h := frameR_ok (by assumption))) | refine S.n fun _ => ?_ | refine S.i fun hix => ?_ | (refine S.g fun hb => ?_; (try simp only [hb])) | (refine S.s (fun hb => ?_) (fun hb => ?_) <;> ((try simp only [hb]) <;> (try (have hp := hb; simp only [WKs] at hp; (try have hq := Int.not_le.2 hp); (try have hq := Int.not_lt.2 hp))))))
    | rintro _ _ ⟨rfl, rfl⟩
    | ((fail_if_success refine G.tr ?_); exact G.prop S.p)
    | fail) <;> (try simp only [WKb, ↓reduceIte, Nat.reduceEqDiff, hl1', hl2']))))
      rename_i sa sb
      refine Tr.loopE (α := Nat) [4, 5] [2, 3] (fun k => [.bool false, .int .i64 k]) (fun _ => [blk sa (.cells [p1.v, f1.v].toArray 48 (0, 0)), blk sb (.cells [p2.v, f2.v].toArray 48 (0, 0)), sl r3 f1.v fx, sl r4 f2.v fy]) (fun k => k ≤ fx.length ∧ ∀ j : Nat, j < k → ix fx (j : Int) = ix fy (j : Int)) (fun k => fx.length - k) 0 (by (repeat (first | exact TakeL.nil | (apply TakeL.cons; focus ((first | exact TakeA.dupS | exact TakeA.dupF | ((repeat (first | with_reducible exact TakeA.here | exact TakeA.fam (by omega) (by omega) | with_reducible apply TakeA.next)); done) | ((repeat (first | exact TakeA.here | apply TakeA.next)); done) | exact TakeA.famNil | exact TakeA.nilS))) | fail)); done) rfl ⟨Nat.zero_le _, fun j hj => by omega⟩ fun k u hx => ?_
      obtain ⟨hk, hn⟩ := hx
      by_cases hin : k < fx.length
      · have hw := wrapSucc (k := k) (by omega)
        have ho1 := hfx _ (ix_mem hin)
        have ho2 := hfy _ (ix_mem (xs := fy) (k := k) (by omega))
        by_cases he : ix fx (k : Int) = ix fy (k : Int)
        · have hd2 : decide (frameL (ix fx (k : Int)) = frameL (ix fy (k : Int))) = true := decide_eq_true (by rw [he])
          have hn' : ∀ j : Nat, j < k + 1 → ix fx (j : Int) = ix fy (j : Int) := fun j hj => by
            by_cases hjk : j < k
            · exact hn j hjk
            · have : j = k := by omega
              subst this; exact he
          ((try simp only [WKb, ↓reduceIte, Nat.reduceEqDiff]) <;> (repeat' ((first
    | (refine G.tr ?_; first | refine S.a ?_ | refine S.t ?_ | refine Tr.brK ?_ ?_ | (refine G.call 68 ?_; refine S.c ?_ (h := frameR_ok (by assumption))) | refine S.n fun _ => ?_ | refine S.i fun hix => ?_ | (refine S.g fun hb => ?_; (try simp only [hb])) | (refine S.s (fun hb => ?_) (fun hb => ?_) <;> ((try simp only [hb]) <;> (try (have hp := hb; simp only [WKs] at hp; (try have hq := Int.not_le.2 hp); (try have hq := Int.not_lt.2 hp))))))
    | rintro _ _ ⟨rfl, rfl⟩
    | ((fail_if_success refine G.tr ?_); exact G.prop S.p)
    | fail) <;> (try simp only [WKb, WKh, ↓reduceIte, Nat.reduceEqDiff, pl32, hw, hd2]))))
          all_goals
            clear he hd2 hl1' hl2'
            (apply Tr.againE (k + 1); (focus (simp only [WKb, ↓reduceIte, Nat.reduceEqDiff])); (focus ((try simp only [WKb, ↓reduceIte, Nat.reduceEqDiff]); (all_goals ((repeat (refine cons_eq (by first | rfl | (simp [*]; done)) ?_)); rfl)); done)); (focus (first | omega | assumption | (simp only []; omega) | (refine ⟨by omega, by assumption⟩) | (simp only []; refine ⟨by omega, by assumption⟩) | ((try simp only []); (repeat' (first | omega | assumption | apply hn' | refine And.intro ?_ ?_)); done))); (focus (first | omega | (simp only []; omega))); (focus (((try clear hK) <;> (try simp only [WKe, *]) <;> repeat (first | with_reducible exact EntR.done | refine S.e ?_ | (refine S.f ?_ <;> (try simp only [WKe, ↓reduceIte, reduceCtorEq, Int.reduceEq, *])) | with_reducible apply EntR.ex | refine EntR.drop (F := F) ?_ | refine EntR.drop ?_)))))
        · have hd2 : decide (frameL (ix fx (k : Int)) = frameL (ix fy (k : Int))) = false := decide_eq_false fun h => he (frameL_inj h)
          have hno : ¬ sameS xs ys fx fy := fun h => he (by rw [h.2])
          ((try simp only [WKb, ↓reduceIte, Nat.reduceEqDiff]) <;> (repeat' ((first
    | (refine G.tr ?_; first | refine S.a ?_ | refine S.t ?_ | refine Tr.brK ?_ ?_ | (refine G.call 68 ?_; refine S.c ?_ (h := frameR_ok (by assumption))) | refine S.n fun _ => ?_ | refine S.i fun hix => ?_ | (refine S.g fun hb => ?_; (try simp only [hb])) | (refine S.s (fun hb => ?_) (fun hb => ?_) <;> ((try simp only [hb]) <;> (try (have hp := hb; simp only [WKs] at hp; (try have hq := Int.not_le.2 hp); (try have hq := Int.not_lt.2 hp))))))
    | rintro _ _ ⟨rfl, rfl⟩
    | ((fail_if_success refine G.tr ?_); exact G.prop S.p)
    | fail) <;> (try simp only [WKb, WKh, ↓reduceIte, Nat.reduceEqDiff, pl32, hd2]))))
          all_goals
            refine fin0 _ hno ?_
            clear hl1 hl2 hl1' hl2'
            ((try clear hK) <;> (try simp only [WKe, ↓reduceIte, reduceCtorEq, Int.reduceEq, *]) <;> repeat (first | with_reducible exact EntR.done | refine S.e ?_ | (refine S.f ?_ <;> (try simp only [WKe, ↓reduceIte, reduceCtorEq, Int.reduceEq, *])) | with_reducible apply EntR.ex | refine EntR.drop (F := F) ?_ | refine EntR.drop ?_))
      · have hke : k = fx.length := by omega
        subst hke
        have hff := eq_at hl2 hn
        clear hn hl2'
        ((try simp only [WKb, ↓reduceIte, Nat.reduceEqDiff]) <;> (repeat' ((first
    | (refine G.tr ?_; first | refine S.a ?_ | refine S.t ?_ | refine Tr.brK ?_ ?_ | (refine G.call 68 ?_; refine S.c ?_ (h := frameR_ok (by assumption))) | refine S.n fun _ => ?_ | refine S.i fun hix => ?_ | (refine S.g fun hb => ?_; (try simp only [hb])) | (refine S.s (fun hb => ?_) (fun hb => ?_) <;> ((try simp only [hb]) <;> (try (have hp := hb; simp only [WKs] at hp; (try have hq := Int.not_le.2 hp); (try have hq := Int.not_lt.2 hp))))))
    | rintro _ _ ⟨rfl, rfl⟩
    | ((fail_if_success refine G.tr ?_); exact G.prop S.p)
    | fail) <;> (try simp only [WKb, ↓reduceIte, Nat.reduceEqDiff]))))
        refine Tr.loopE (α := Nat) [4, 6] [2, 3] (fun k => [.bool false, .int .i64 k]) (fun _ => [blk sa (.cells [p1.v, f1.v].toArray 48 (0, 0)), blk sb (.cells [p2.v, f2.v].toArray 48 (0, 0)), sl r1 p1.v xs, famProg r1 xs, sl r2 p2.v ys, famProg r2 ys]) (fun k => k ≤ xs.length ∧ ∀ j : Nat, j < k → pD (ix xs (j : Int)) = pD (ix ys (j : Int))) (fun k => xs.length - k) 0 (by (repeat (first | exact TakeL.nil | (apply TakeL.cons; focus ((first | exact TakeA.dupS | exact TakeA.dupF | ((repeat (first | with_reducible exact TakeA.here | exact TakeA.fam (by omega) (by omega) | with_reducible apply TakeA.next)); done) | ((repeat (first | exact TakeA.here | apply TakeA.next)); done) | exact TakeA.famNil | exact TakeA.nilS))) | fail)); done) rfl ⟨Nat.zero_le _, fun j hj => by omega⟩ fun k u hx => ?_
        obtain ⟨hk, hn⟩ := hx
        by_cases hin : k < xs.length
        · have hw := wrapSucc (k := k) (by omega)
          have hin2 : k < ys.length := by omega
          simp only [List.cons_append, List.nil_append]
          refine Tr.famAt (xs := xs) (k : Int) (by (repeat (first | exact TakeA.here | apply TakeA.next)); done) (by omega) (by omega) ?_
          refine Tr.sep_iff.2 ?_
          refine Tr.famAt (xs := ys) (k : Int) (by (repeat (first | exact TakeA.here | apply TakeA.next)); done) (by omega) (by omega) ?_
          refine Tr.sep_iff.2 ?_
          refine Tr.bound (ro := r1) (v := (ix xs (k : Int)).s.v) (xs := (ix xs (k : Int)).d) (by (repeat (first | exact Has.here | apply Has.next)); done) fun hbd3 => ?_
          by_cases hlp : (ix xs (k : Int)).d.length = (ix ys (k : Int)).d.length
          · have hlp' : ((ix xs (k : Int)).d.length : Int) = (ix ys (k : Int)).d.length := by omega
            ((try simp only [WKb, ↓reduceIte, Nat.reduceEqDiff]) <;> (repeat' ((first
    | (refine G.tr ?_; first | refine S.a ?_ | refine S.t ?_ | refine Tr.brK ?_ ?_ | (refine G.call 68 ?_; refine S.c ?_ (h := frameR_ok (by assumption))) | refine S.n fun _ => ?_ | refine S.i fun hix => ?_ | (refine S.g fun hb => ?_; (try simp only [hb])) | (refine S.s (fun hb => ?_) (fun hb => ?_) <;> ((try simp only [hb]) <;> (try (have hp := hb; simp only [WKs] at hp; (try have hq := Int.not_le.2 hp); (try have hq := Int.not_lt.2 hp))))))
    | rintro _ _ ⟨rfl, rfl⟩
    | ((fail_if_success refine G.tr ?_); exact G.prop S.p)
    | fail) <;> (try simp only [WKb, ↓reduceIte, Nat.reduceEqDiff, pl32, hlp']))))
            refine Tr.loopE (α := Nat) [4, 7] [2, 3, 6] (fun j => [.bool false, .int .i64 j]) (fun _ => [blk sa (.cells [p1.v, f1.v].toArray 48 (0, 0)), blk sb (.cells [p2.v, f2.v].toArray 48 (0, 0)), sl r1 p1.v xs, sl r2 p2.v ys, sl r1 (ix xs (k : Int)).s.v (ix xs (k : Int)).d, sl r2 (ix ys (k : Int)).s.v (ix ys (k : Int)).d, famProc r1 (ix xs (k : Int)).d, famProc r2 (ix ys (k : Int)).d]) (fun j => j ≤ (ix xs (k : Int)).d.length ∧ ∀ i : Nat, i < j → SL.d (ix (ix xs (k : Int)).d (i : Int)) = SL.d (ix (ix ys (k : Int)).d (i : Int))) (fun j => (ix xs (k : Int)).d.length - j) 0 (by (repeat (first | exact TakeL.nil | (apply TakeL.cons; focus ((first | exact TakeA.dupS | exact TakeA.dupF | ((repeat (first | with_reducible exact TakeA.here | exact TakeA.fam (by omega) (by omega) | with_reducible apply TakeA.next)); done) | ((repeat (first | exact TakeA.here | apply TakeA.next)); done) | exact TakeA.famNil | exact TakeA.nilS))) | fail)); done) rfl ⟨Nat.zero_le _, fun j hj => by omega⟩ fun j u hx => ?_
            obtain ⟨hj, hnj⟩ := hx
            by_cases hin1 : j < (ix xs (k : Int)).d.length
            · have hwk := hw
              have hw := wrapSucc (k := j) (by omega)
              have hin3 : j < (ix ys (k : Int)).d.length := by omega
              simp only [List.cons_append, List.nil_append]
              refine Tr.famAt (xs := (ix xs (k : Int)).d) (j : Int) (by (repeat (first | exact TakeA.here | apply TakeA.next)); done) (by omega) (by omega) ?_
              refine Tr.famAt (xs := (ix ys (k : Int)).d) (j : Int) (by (repeat (first | exact TakeA.here | apply TakeA.next)); done) (by omega) (by omega) ?_
              refine Tr.bound (ro := r1) (v := (ix (ix xs (k : Int)).d (j : Int)).s.v) (xs := (ix (ix xs (k : Int)).d (j : Int)).d) (by (repeat (first | exact Has.here | apply Has.next)); done) fun hbd4 => ?_
              have hq : pD (ix xs (k : Int)) = pD (ix ys (k : Int)) → (ix (ix xs (k : Int)).d (j : Int)).d = (ix (ix ys (k : Int)).d (j : Int)).d := fun h => ix_len (f := SL.d) h hin1
              have hnoq : (ix (ix xs (k : Int)).d (j : Int)).d ≠ (ix (ix ys (k : Int)).d (j : Int)).d → ¬ sameS xs ys fx fy := fun hne h => hne (hq (ix_len (f := pD) h.1 hin))
              by_cases hls : (ix (ix xs (k : Int)).d (j : Int)).d.length = (ix (ix ys (k : Int)).d (j : Int)).d.length
              · have hls' : ((ix (ix xs (k : Int)).d (j : Int)).d.length : Int) = (ix (ix ys (k : Int)).d (j : Int)).d.length := by omega
                ((try simp only [WKb, ↓reduceIte, Nat.reduceEqDiff]) <;> (repeat' ((first
    | (refine G.tr ?_; first | refine S.a ?_ | refine S.t ?_ | refine Tr.brK ?_ ?_ | (refine G.call 68 ?_; refine S.c ?_ (h := frameR_ok (by assumption))) | refine S.n fun _ => ?_ | refine S.i fun hix => ?_ | (refine S.g fun hb => ?_; (try simp only [hb])) | (refine S.s (fun hb => ?_) (fun hb => ?_) <;> ((try simp only [hb]) <;> (try (have hp := hb; simp only [WKs] at hp; (try have hq := Int.not_le.2 hp); (try have hq := Int.not_lt.2 hp))))))
    | rintro _ _ ⟨rfl, rfl⟩
    | ((fail_if_success refine G.tr ?_); exact G.prop S.p)
    | fail) <;> (try simp only [WKb, ↓reduceIte, Nat.reduceEqDiff, pl32, hls']))))
                refine Tr.loopE (α := Nat) [4, 10] [2, 3, 6, 7, 8, 9] (fun i => [.bool false, .int .i64 i]) (fun _ => [sl r1 (ix (ix xs (k : Int)).d (j : Int)).s.v (ix (ix xs (k : Int)).d (j : Int)).d, sl r2 (ix (ix ys (k : Int)).d (j : Int)).s.v (ix (ix ys (k : Int)).d (j : Int)).d]) (fun i => i ≤ (ix (ix xs (k : Int)).d (j : Int)).d.length ∧ ∀ m : Nat, m < i → ix (ix (ix xs (k : Int)).d (j : Int)).d (m : Int) = ix (ix (ix ys (k : Int)).d (j : Int)).d (m : Int)) (fun i => (ix (ix xs (k : Int)).d (j : Int)).d.length - i) 0 (by (repeat (first | exact TakeL.nil | (apply TakeL.cons; focus ((first | exact TakeA.dupS | exact TakeA.dupF | ((repeat (first | with_reducible exact TakeA.here | exact TakeA.fam (by omega) (by omega) | with_reducible apply TakeA.next)); done) | ((repeat (first | exact TakeA.here | apply TakeA.next)); done) | exact TakeA.famNil | exact TakeA.nilS))) | fail)); done) rfl ⟨Nat.zero_le _, fun j hj => by omega⟩ fun i u hx => ?_
                obtain ⟨hi, hni⟩ := hx
                by_cases hin5 : i < (ix (ix xs (k : Int)).d (j : Int)).d.length
                · have hwj := hw
                  have hw := wrapSucc (k := i) (by omega)
                  by_cases he : ix (ix (ix xs (k : Int)).d (j : Int)).d (i : Int) = ix (ix (ix ys (k : Int)).d (j : Int)).d (i : Int)
                  · have hn' : ∀ m : Nat, m < i + 1 → ix (ix (ix xs (k : Int)).d (j : Int)).d (m : Int) = ix (ix (ix ys (k : Int)).d (j : Int)).d (m : Int) := fun m hm => by
                      by_cases hmi : m < i
                      · exact hni m hmi
                      · have : m = i := by omega
                        subst this; exact he
                    ((try simp only [WKb, ↓reduceIte, Nat.reduceEqDiff]) <;> (repeat' ((first
    | (refine G.tr ?_; first | refine S.a ?_ | refine S.t ?_ | refine Tr.brK ?_ ?_ | (refine G.call 68 ?_; refine S.c ?_ (h := frameR_ok (by assumption))) | refine S.n fun _ => ?_ | refine S.i fun hix => ?_ | (refine S.g fun hb => ?_; (try simp only [hb])) | (refine S.s (fun hb => ?_) (fun hb => ?_) <;> ((try simp only [hb]) <;> (try (have hp := hb; simp only [WKs] at hp; (try have hq := Int.not_le.2 hp); (try have hq := Int.not_lt.2 hp))))))
    | rintro _ _ ⟨rfl, rfl⟩
    | ((fail_if_success refine G.tr ?_); exact G.prop S.p)
    | fail) <;> (try simp only [WKb, ↓reduceIte, Nat.reduceEqDiff, pl32, hw, he]))))
                    all_goals
                      clear he hni hnj hn hnoq hq hls hls' hlp hlp' hl1 hl2 hl1'
                      (apply Tr.againE (i + 1); (focus (simp only [WKb, ↓reduceIte, Nat.reduceEqDiff])); (focus ((try simp only [WKb, ↓reduceIte, Nat.reduceEqDiff]); (all_goals ((repeat (refine cons_eq (by first | rfl | (simp [*]; done)) ?_)); rfl)); done)); (focus (first | omega | assumption | (simp only []; omega) | (refine ⟨by omega, by assumption⟩) | (simp only []; refine ⟨by omega, by assumption⟩) | ((try simp only []); (repeat' (first | omega | assumption | apply hn' | refine And.intro ?_ ?_)); done))); (focus (first | omega | (simp only []; omega))); (focus (((try clear hK) <;> (try simp only [WKe, *]) <;> repeat (first | with_reducible exact EntR.done | refine S.e ?_ | (refine S.f ?_ <;> (try simp only [WKe, ↓reduceIte, reduceCtorEq, Int.reduceEq, *])) | with_reducible apply EntR.ex | refine EntR.drop (F := F) ?_ | refine EntR.drop ?_)))))
                  · have hno := hnoq fun h => he (by rw [h])
                    have hext : (ix (ix (ix xs (k : Int)).d (j : Int)).d (i : Int)).cycles = (ix (ix (ix ys (k : Int)).d (j : Int)).d (i : Int)).cycles → (ix (ix (ix xs (k : Int)).d (j : Int)).d (i : Int)).call = (ix (ix (ix ys (k : Int)).d (j : Int)).d (i : Int)).call → (ix (ix (ix xs (k : Int)).d (j : Int)).d (i : Int)).a = (ix (ix (ix ys (k : Int)).d (j : Int)).d (i : Int)).a → (ix (ix (ix xs (k : Int)).d (j : Int)).d (i : Int)).b = (ix (ix (ix ys (k : Int)).d (j : Int)).d (i : Int)).b → (ix (ix (ix xs (k : Int)).d (j : Int)).d (i : Int)).c = (ix (ix (ix ys (k : Int)).d (j : Int)).d (i : Int)).c → (ix (ix (ix xs (k : Int)).d (j : Int)).d (i : Int)).d = (ix (ix (ix ys (k : Int)).d (j : Int)).d (i : Int)).d → False := fun a1 a2 a3 a4 a5 a6 => he (by
                      generalize ix (ix (ix xs (k : Int)).d (j : Int)).d (i : Int) = s at *
                      generalize ix (ix (ix ys (k : Int)).d (j : Int)).d (i : Int) = t at *
                      obtain ⟨x1, x2, x3, x4, x5, x6⟩ := s
                      obtain ⟨y1, y2, y3, y4, y5, y6⟩ := t
                      simp only at a1 a2 a3 a4 a5 a6
                      rw [a1, a2, a3, a4, a5, a6])
                    ((try simp only [WKb, ↓reduceIte, Nat.reduceEqDiff]) <;> (repeat' ((first
    | (refine G.tr ?_; first | refine S.a ?_ | refine S.t ?_ | refine Tr.brK ?_ ?_ | (refine G.call 68 ?_; refine S.c ?_ (h := frameR_ok (by assumption))) | refine S.n fun _ => ?_ | refine S.i fun hix => ?_ | (refine S.g fun hb => ?_; (try simp only [hb])) | (refine S.s (fun hb => ?_) (fun hb => ?_) <;> ((try simp only [hb]) <;> (try (have hp := hb; simp only [WKs] at hp; (try have hq := Int.not_le.2 hp); (try have hq := Int.not_lt.2 hp))))))
    | rintro _ _ ⟨rfl, rfl⟩
    | ((fail_if_success refine G.tr ?_); exact G.prop S.p)
    | fail) <;> (try simp only [WKb, ↓reduceIte, Nat.reduceEqDiff, pl32, hw]))))
                    all_goals
                      first
                      | exact (hext (by assumption) (by assumption) (by assumption) (by assumption) (by assumption) (by assumption)).elim
                      | (refine foldProc (xs := (ix xs (k : Int)).d) (k := j) hin1 (by (repeat (first | exact TakeA.here | apply TakeA.next)); done) (by (repeat (first | exact TakeA.here | apply TakeA.next)); done) ?_
                         refine foldProc (xs := (ix ys (k : Int)).d) (k := j) hin3 (by (repeat (first | exact TakeA.here | apply TakeA.next)); done) (by (repeat (first | exact TakeA.here | apply TakeA.next)); done) ?_
                         refine foldProg (xs := xs) (k := k) hin (by (repeat (first | exact TakeA.here | apply TakeA.next)); done) (by (repeat (first | exact TakeA.here | apply TakeA.next)); done) (by (repeat (first | exact TakeA.here | apply TakeA.next)); done) ?_
                         refine foldProg (xs := ys) (k := k) hin2 (by (repeat (first | exact TakeA.here | apply TakeA.next)); done) (by (repeat (first | exact TakeA.here | apply TakeA.next)); done) (by (repeat (first | exact TakeA.here | apply TakeA.next)); done) ?_
                         refine fin0 _ hno ?_
                         clear hl1 hl2 hl1' hff hlp hlp' hn hnj hni hnoq hq hls hls' hext he
                         ((try clear hK) <;> (try simp only [WKe, ↓reduceIte, reduceCtorEq, Int.reduceEq, *]) <;> repeat (first | with_reducible exact EntR.done | refine S.e ?_ | (refine S.f ?_ <;> (try simp only [WKe, ↓reduceIte, reduceCtorEq, Int.reduceEq, *])) | with_reducible apply EntR.ex | refine EntR.drop (F := F) ?_ | refine EntR.drop ?_)))
                · have hie : i = (ix (ix xs (k : Int)).d (j : Int)).d.length := by omega
                  subst hie
                  have heq := eq_at hls hni
                  have hn' : ∀ i : Nat, i < j + 1 → SL.d (ix (ix xs (k : Int)).d (i : Int)) = SL.d (ix (ix ys (k : Int)).d (i : Int)) := fun i hi => by
                    by_cases hij : i < j
                    · exact hnj i hij
                    · have : i = j := by omega
                      subst this; exact heq
                  ((try simp only [WKb, ↓reduceIte, Nat.reduceEqDiff]) <;> (repeat' ((first
    | (refine G.tr ?_; first | refine S.a ?_ | refine S.t ?_ | refine Tr.brK ?_ ?_ | (refine G.call 68 ?_; refine S.c ?_ (h := frameR_ok (by assumption))) | refine S.n fun _ => ?_ | refine S.i fun hix => ?_ | (refine S.g fun hb => ?_; (try simp only [hb])) | (refine S.s (fun hb => ?_) (fun hb => ?_) <;> ((try simp only [hb]) <;> (try (have hp := hb; simp only [WKs] at hp; (try have hq := Int.not_le.2 hp); (try have hq := Int.not_lt.2 hp))))))
    | rintro _ _ ⟨rfl, rfl⟩
    | ((fail_if_success refine G.tr ?_); exact G.prop S.p)
    | fail) <;> (try simp only [WKb, ↓reduceIte, Nat.reduceEqDiff, hw]))))
                  all_goals
                    clear heq hni hnj hn hnoq hq hls'
                    refine foldProc (xs := (ix xs (k : Int)).d) (k := j) hin1 (by (repeat (first | exact TakeA.here | apply TakeA.next)); done) (by (repeat (first | exact TakeA.here | apply TakeA.next)); done) ?_
                    refine foldProc (xs := (ix ys (k : Int)).d) (k := j) hin3 (by (repeat (first | exact TakeA.here | apply TakeA.next)); done) (by (repeat (first | exact TakeA.here | apply TakeA.next)); done) ?_
                    clear hls hlp hlp' hl1 hl2 hl1'
                    (apply Tr.againE (j + 1); (focus (simp only [WKb, ↓reduceIte, Nat.reduceEqDiff])); (focus ((try simp only [WKb, ↓reduceIte, Nat.reduceEqDiff]); (all_goals ((repeat (refine cons_eq (by first | rfl | (simp [*]; done)) ?_)); rfl)); done)); (focus (first | omega | assumption | (simp only []; omega) | (refine ⟨by omega, by assumption⟩) | (simp only []; refine ⟨by omega, by assumption⟩) | ((try simp only []); (repeat' (first | omega | assumption | apply hn' | refine And.intro ?_ ?_)); done))); (focus (first | omega | (simp only []; omega))); (focus (((try clear hK) <;> (try simp only [WKe, *]) <;> repeat (first | with_reducible exact EntR.done | refine S.e ?_ | (refine S.f ?_ <;> (try simp only [WKe, ↓reduceIte, reduceCtorEq, Int.reduceEq, *])) | with_reducible apply EntR.ex | refine EntR.drop (F := F) ?_ | refine EntR.drop ?_)))))
              · have hls' : ¬ ((ix (ix xs (k : Int)).d (j : Int)).d.length : Int) = (ix (ix ys (k : Int)).d (j : Int)).d.length := by omega
                have hno := hnoq fun h => hls (by rw [h])
                ((try simp only [WKb, ↓reduceIte, Nat.reduceEqDiff]) <;> (repeat' ((first
    | (refine G.tr ?_; first | refine S.a ?_ | refine S.t ?_ | refine Tr.brK ?_ ?_ | (refine G.call 68 ?_; refine S.c ?_ (h := frameR_ok (by assumption))) | refine S.n fun _ => ?_ | refine S.i fun hix => ?_ | (refine S.g fun hb => ?_; (try simp only [hb])) | (refine S.s (fun hb => ?_) (fun hb => ?_) <;> ((try simp only [hb]) <;> (try (have hp := hb; simp only [WKs] at hp; (try have hq := Int.not_le.2 hp); (try have hq := Int.not_lt.2 hp))))))
    | rintro _ _ ⟨rfl, rfl⟩
    | ((fail_if_success refine G.tr ?_); exact G.prop S.p)
    | fail) <;> (try simp only [WKb, ↓reduceIte, Nat.reduceEqDiff, pl32]))))
                all_goals
                  refine foldProc (xs := (ix xs (k : Int)).d) (k := j) hin1 (by (repeat (first | exact TakeA.here | apply TakeA.next)); done) (by (repeat (first | exact TakeA.here | apply TakeA.next)); done) ?_
                  refine foldProc (xs := (ix ys (k : Int)).d) (k := j) hin3 (by (repeat (first | exact TakeA.here | apply TakeA.next)); done) (by (repeat (first | exact TakeA.here | apply TakeA.next)); done) ?_
                  refine foldProg (xs := xs) (k := k) hin (by (repeat (first | exact TakeA.here | apply TakeA.next)); done) (by (repeat (first | exact TakeA.here | apply TakeA.next)); done) (by (repeat (first | exact TakeA.here | apply TakeA.next)); done) ?_
                  refine foldProg (xs := ys) (k := k) hin2 (by (repeat (first | exact TakeA.here | apply TakeA.next)); done) (by (repeat (first | exact TakeA.here | apply TakeA.next)); done) (by (repeat (first | exact TakeA.here | apply TakeA.next)); done) ?_
                  refine fin0 _ hno ?_
                  clear hl1 hl2 hl1' hff hlp hlp' hn hnj hnoq hq
                  ((try clear hK) <;> (try simp only [WKe, ↓reduceIte, reduceCtorEq, Int.reduceEq, *]) <;> repeat (first | with_reducible exact EntR.done | refine S.e ?_ | (refine S.f ?_ <;> (try simp only [WKe, ↓reduceIte, reduceCtorEq, Int.reduceEq, *])) | with_reducible apply EntR.ex | refine EntR.drop (F := F) ?_ | refine EntR.drop ?_))
            · have hje : j = (ix xs (k : Int)).d.length := by omega
              subst hje
              have hpp : pD (ix xs (k : Int)) = pD (ix ys (k : Int)) := map_ix (f := SL.d) hlp hnj
              have hn' : ∀ m : Nat, m < k + 1 → pD (ix xs (m : Int)) = pD (ix ys (m : Int)) := fun m hm => by
                by_cases hmk : m < k
                · exact hn m hmk
                · have : m = k := by omega
                  subst this; exact hpp
              clear hpp hn hnj
              ((try simp only [WKb, ↓reduceIte, Nat.reduceEqDiff]) <;> (repeat' ((first
    | (refine G.tr ?_; first | refine S.a ?_ | refine S.t ?_ | refine Tr.brK ?_ ?_ | (refine G.call 68 ?_; refine S.c ?_ (h := frameR_ok (by assumption))) | refine S.n fun _ => ?_ | refine S.i fun hix => ?_ | (refine S.g fun hb => ?_; (try simp only [hb])) | (refine S.s (fun hb => ?_) (fun hb => ?_) <;> ((try simp only [hb]) <;> (try (have hp := hb; simp only [WKs] at hp; (try have hq := Int.not_le.2 hp); (try have hq := Int.not_lt.2 hp))))))
    | rintro _ _ ⟨rfl, rfl⟩
    | ((fail_if_success refine G.tr ?_); exact G.prop S.p)
    | fail) <;> (try simp only [WKb, ↓reduceIte, Nat.reduceEqDiff, hw]))))
              all_goals
                refine foldProg (xs := xs) (k := k) hin (by (repeat (first | exact TakeA.here | apply TakeA.next)); done) (by (repeat (first | exact TakeA.here | apply TakeA.next)); done) (by (repeat (first | exact TakeA.here | apply TakeA.next)); done) ?_
                refine foldProg (xs := ys) (k := k) hin2 (by (repeat (first | exact TakeA.here | apply TakeA.next)); done) (by (repeat (first | exact TakeA.here | apply TakeA.next)); done) (by (repeat (first | exact TakeA.here | apply TakeA.next)); done) ?_
                clear hl1 hl2 hl1' hff hlp hlp'
                (apply Tr.againE (k + 1); (focus (simp only [WKb, ↓reduceIte, Nat.reduceEqDiff])); (focus ((try simp only [WKb, ↓reduceIte, Nat.reduceEqDiff]); (all_goals ((repeat (refine cons_eq (by first | rfl | (simp [*]; done)) ?_)); rfl)); done)); (focus (first | omega | assumption | (simp only []; omega) | (refine ⟨by omega, by assumption⟩) | (simp only []; refine ⟨by omega, by assumption⟩) | ((try simp only []); (repeat' (first | omega | assumption | apply hn' | refine And.intro ?_ ?_)); done))); (focus (first | omega | (simp only []; omega))); (focus (((try clear hK) <;> (try simp only [WKe, *]) <;> repeat (first | with_reducible exact EntR.done | refine S.e ?_ | (refine S.f ?_ <;> (try simp only [WKe, ↓reduceIte, reduceCtorEq, Int.reduceEq, *])) | with_reducible apply EntR.ex | refine EntR.drop (F := F) ?_ | refine EntR.drop ?_)))))
          · have hlp' : ¬ ((ix xs (k : Int)).d.length : Int) = (ix ys (k : Int)).d.length := by omega
            have hno : ¬ sameS xs ys fx fy := fun h => hlp (by
              have := ix_len (f := pD) h.1 hin
              simpa [pD] using congrArg List.length this)
            ((try simp only [WKb, ↓reduceIte, Nat.reduceEqDiff]) <;> (repeat' ((first
    | (refine G.tr ?_; first | refine S.a ?_ | refine S.t ?_ | refine Tr.brK ?_ ?_ | (refine G.call 68 ?_; refine S.c ?_ (h := frameR_ok (by assumption))) | refine S.n fun _ => ?_ | refine S.i fun hix => ?_ | (refine S.g fun hb => ?_; (try simp only [hb])) | (refine S.s (fun hb => ?_) (fun hb => ?_) <;> ((try simp only [hb]) <;> (try (have hp := hb; simp only [WKs] at hp; (try have hq := Int.not_le.2 hp); (try have hq := Int.not_lt.2 hp))))))
    | rintro _ _ ⟨rfl, rfl⟩
    | ((fail_if_success refine G.tr ?_); exact G.prop S.p)
    | fail) <;> (try simp only [WKb, ↓reduceIte, Nat.reduceEqDiff, pl32]))))
            all_goals
              refine foldProg (xs := xs) (k := k) hin (by (repeat (first | exact TakeA.here | apply TakeA.next)); done) (by (repeat (first | exact TakeA.here | apply TakeA.next)); done) (by (repeat (first | exact TakeA.here | apply TakeA.next)); done) ?_
              refine foldProg (xs := ys) (k := k) hin2 (by (repeat (first | exact TakeA.here | apply TakeA.next)); done) (by (repeat (first | exact TakeA.here | apply TakeA.next)); done) (by (repeat (first | exact TakeA.here | apply TakeA.next)); done) ?_
              refine fin0 _ hno ?_
              clear hl1 hl2 hl1' hff
              ((try clear hK) <;> (try simp only [WKe, ↓reduceIte, reduceCtorEq, Int.reduceEq, *]) <;> repeat (first | with_reducible exact EntR.done | refine S.e ?_ | (refine S.f ?_ <;> (try simp only [WKe, ↓reduceIte, reduceCtorEq, Int.reduceEq, *])) | with_reducible apply EntR.ex | refine EntR.drop (F := F) ?_ | refine EntR.drop ?_))
        · have hke : k = xs.length := by omega
          subst hke
          have hyes : decide (sameS xs ys fx fy) = true := decide_eq_true ⟨map_ix (f := pD) hl1 hn, hff⟩
          clear hn hff
          ((try simp only [WKb, ↓reduceIte, Nat.reduceEqDiff]) <;> (repeat' ((first
    | (refine G.tr ?_; first | refine S.a ?_ | refine S.t ?_ | refine Tr.brK ?_ ?_ | (refine G.call 68 ?_; refine S.c ?_ (h := frameR_ok (by assumption))) | refine S.n fun _ => ?_ | refine S.i fun hix => ?_ | (refine S.g fun hb => ?_; (try simp only [hb])) | (refine S.s (fun hb => ?_) (fun hb => ?_) <;> ((try simp only [hb]) <;> (try (have hp := hb; simp only [WKs] at hp; (try have hq := Int.not_le.2 hp); (try have hq := Int.not_lt.2 hp))))))
    | rintro _ _ ⟨rfl, rfl⟩
    | ((fail_if_success refine G.tr ?_); exact G.prop S.p)
    | fail) <;> (try simp only [WKb, ↓reduceIte, Nat.reduceEqDiff]))))
          all_goals
            refine Tr.fin hK ⟨by rw [hyes], rfl⟩ ?_
            clear hl1 hl2 hl1'
            ((try clear hK) <;> (try simp only [WKe, *]) <;> repeat (first | with_reducible exact EntR.done | refine S.e ?_ | (refine S.f ?_ <;> (try simp only [WKe, ↓reduceIte, reduceCtorEq, Int.reduceEq, *])) | with_reducible apply EntR.ex | refine EntR.drop (F := F) ?_ | refine EntR.drop ?_))
    · have hl1' : (xs.length : Int) = ys.length := by omega
      have hl2' : ¬ (fx.length : Int) = fy.length := by omega
      have hno : ¬ sameS xs ys fx fy := fun h => hl2 (by rw [h.2])
      ((try simp only [WKb, ↓reduceIte, Nat.reduceEqDiff, Nat.reduceAdd]) <;> (repeat' ((first
    | (refine G.tr ?_; first | refine S.a ?_ | refine S.t ?_ | refine Tr.brK ?_ ?_ | (refine G.call 68 ?_; refine S.c ?_ (h := frameR_ok (by assumption))) | refine S.n fun _ => ?_ | refine S.i fun hix => ?_ | (refine S.g fun hb => ?_; (try simp only [hb])) | (refine S.s (fun hb => ?_) (fun hb => ?_) <;> ((try simp only [hb]) <;> (try (have hp := hb; simp only [WKs] at hp; (try have hq := Int.not_le.2 hp); (try have hq := Int.not_lt.2 hp))))))
    | rintro _ _ ⟨rfl, rfl⟩
    | ((fail_if_success refine G.tr ?_); exact G.prop S.p)
    | fail) <;> (try simp only [WKb, ↓reduceIte, Nat.reduceEqDiff, hl1']))))
      all_goals
        refine fin0 _ hno ?_
        clear hl1 hl2 hl1' hl2'
        ((try clear hK) <;> (try simp only [WKe, ↓reduceIte, reduceCtorEq, Int.reduceEq, *]) <;> repeat (first | with_reducible exact EntR.done | refine S.e ?_ | (refine S.f ?_ <;> (try simp only [WKe, ↓reduceIte, reduceCtorEq, Int.reduceEq, *])) | with_reducible apply EntR.ex | refine EntR.drop (F := F) ?_ | refine EntR.drop ?_))
  · have hl1' : ¬ (xs.length : Int) = ys.length := by omega
    have hno : ¬ sameS xs ys fx fy := fun h => hl1 (by simpa [progsD] using congrArg List.length h.1)
    ((try simp only [WKb, ↓reduceIte, Nat.reduceEqDiff, Nat.reduceAdd]) <;> (repeat' ((first
    | (refine G.tr ?_; first | refine S.a ?_ | refine S.t ?_ | refine Tr.brK ?_ ?_ | (refine G.call 68 ?_; refine S.c ?_ (h := frameR_ok (by assumption))) | refine S.n fun _ => ?_ | refine S.i fun hix => ?_ | (refine S.g fun hb => ?_; (try simp only [hb])) | (refine S.s (fun hb => ?_) (fun hb => ?_) <;> ((try simp only [hb]) <;> (try (have hp := hb; simp only [WKs] at hp; (try have hq := Int.not_le.2 hp); (try have hq := Int.not_lt.2 hp))))))
    | rintro _ _ ⟨rfl, rfl⟩
    | ((fail_if_success refine G.tr ?_); exact G.prop S.p)
    | fail) <;> (try simp only [WKb, ↓reduceIte, Nat.reduceEqDiff]))))
    all_goals
      refine fin0 _ hno ?_
      clear hl1 hl1'
      ((try clear hK) <;> (try simp only [WKe, ↓reduceIte, reduceCtorEq, Int.reduceEq, *]) <;> repeat (first | with_reducible exact EntR.done | refine S.e ?_ | (refine S.f ?_ <;> (try simp only [WKe, ↓reduceIte, reduceCtorEq, Int.reduceEq, *])) | with_reducible apply EntR.ex | refine EntR.drop (F := F) ?_ | refine EntR.drop ?_))

end Go.Proofs.YtgkhjgpgdfbdpaaDoor
