import Derived.Test.YtgkhjgpgdfbdpaaDoorYI
namespace Go.Proofs.YtgkhjgpgdfbdpaaDoor
open Go Go.Wk
set_option maxHeartbeats 6400000
set_option maxRecDepth 100000

abbrev famB (outs : List (SL EvC)) : Asrt := fam (fun x : SL EvC => sl false x.s.v x.d) outs
instance {l : List Asrt} {x : SL EvC} : De l x.s.v x := ⟨rfl⟩
instance : ElT 40 (SL EvC) := ⟨⟩
attribute [local irreducible] BrK GenK EGenK EUnitK CallK FnK CallV GuardO GuardC CondW opX opK opKc chkR eqR seqK blkK endL WL WD W LoopW BinK Tr drewK resL PickK NotK NilK ExtrK getK Instr.storeAt Instr.loadAt Instr.fieldAt Instr.indexAt Instr.lookup Instr.mapUpdate Instr.box Instr.alloc Instr.build Instr.buildSlice Instr.makeSlice Instr.makeMap Instr.sliceAt Instr.field Instr.index Instr.makeInterface Instr.typeAssert Builtin.len_ Builtin.append_ Builtin.cap_ Builtin.min_ Builtin.max_ Builtin.copy_ Builtin.clear_ convert binOp mp blk rob sl sep ex fact old
attribute [local irreducible] NegK mxV bufT bldB okW valW kvsW lastW
theorem twindows_ok {ro : Bool} {v : Value} {xs : List EvC} {part : Int} (_hok : ∀ e ∈ xs, e.ok) (h300 : xs.length ≤ 300) : Trip Tryd.prog 23 [v, .int .i64 part].toArray [sl ro v xs]
    fun u l' => ∃ (t : SV) (outs : List (SL EvC)), outs.map SL.d = winsW part xs (lastW part xs + 1).toNat ∧ u = t.v ∧ l' = [sl false t.v outs, famB outs, sl ro v xs] := by
  intro F K hK
  simp only [List.cons_append, List.nil_append]
  (refine Tr.enter (rs := [.tmp 4]) mixed fn23 rfl (by simp +arith [Tryd.ntmps23]) fun u => ?_; simp only [cd23, Tryd.f23])
  ((try simp only [WKb, Nat.reduceAdd]) <;> (repeat' ((first
    | (refine G.tr ?_; first | refine S.a ?_ | refine S.t ?_ | refine Tr.brK ?_ ?_ | refine S.n fun _ => ?_ | refine S.i fun hix => ?_ | (refine S.g fun hb => ?_; (try simp only [hb])) | (refine S.s (fun hb => ?_) (fun hb => ?_) <;> ((try simp only [hb]) <;> (try (have hp := hb; simp only [WKs] at hp; (try have hq := Int.not_le.2 hp); (try have hq := Int.not_lt.2 hp))))))
    | ((fail_if_success refine G.tr ?_); exact G.prop S.p)
    | fail) <;> (try simp only [WKb, ↓reduceIte, Nat.reduceEqDiff]))))
  rename_i mm
  have hk0 : mp mm [] = mp mm (kvsW []) := by unfold kvsW; rfl
  rw [hk0]
  refine Tr.imp (fam_nil (A := fun x : Int × SL EvC => sl false x.2.s.v x.2.d)) ?_
  refine Tr.loopE (α := Nat × List (Int × SL EvC)) [6, 14] [1, 4, 5, 12, 13] (fun x => [.int .i64 (lastW part (xs.take x.1)), .int .i64 x.1]) (fun x => [mp mm (kvsW x.2), famW x.2, sl ro v xs]) (fun x => x.1 ≤ xs.length ∧ mapW part (xs.take x.1) x.2) (fun x => xs.length - x.1) (0, []) (by (repeat (first | exact TakeL.nil | (apply TakeL.cons; focus ((first | exact TakeA.dupS | exact TakeA.dupF | ((repeat (first | with_reducible exact TakeA.here | exact TakeA.fam (by omega) (by omega) | with_reducible apply TakeA.next)); done) | ((repeat (first | exact TakeA.here | apply TakeA.next)); done) | exact TakeA.famNil | exact TakeA.nilS))) | fail)); done) (by unfold lastW; rfl) ⟨Nat.zero_le _, mapW_init⟩ fun x u hx => ?_
  obtain ⟨k, ms⟩ := x
  simp only at hx ⊢
  obtain ⟨hk, hI⟩ := hx
  have hll := lastW_le part (xs.take k)
  by_cases hin : k < xs.length
  · have hw := wrapSucc (k := k) (by omega)
    have hts := take_snoc hin
    by_cases hiw : inW part (ix xs (k : Int))
    · have ⟨i1, i2, i3⟩ := hiw
      have hfd := find_W (ix xs (k : Int)).win ms
      have hls : (if lastW part (xs.take k) < (ix xs (k : Int)).win then (ix xs (k : Int)).win else lastW part (xs.take k)) = lastW part (xs.take (k + 1)) := by
        rw [hts, lastW_snoc]
        by_cases hlt : lastW part (xs.take k) < (ix xs (k : Int)).win
        · rw [if_pos hlt, if_pos ⟨hiw, hlt⟩]
        · rw [if_neg hlt, if_neg (fun h => hlt h.2)]
      have hgl : (getS (ix xs (k : Int)).win ms).d.length ≤ 300 := by
        rw [hI _ i2 i3]
        have := winW_len part (ix xs (k : Int)).win (xs.take k)
        rw [List.length_take] at this; omega
      have hup : ∀ s : SV, upsert (ix xs (k : Int)).win s.v (kvsW ms) = kvsW (updW (ix xs (k : Int)).win ⟨s, (getS (ix xs (k : Int)).win ms).d ++ [ix xs (k : Int)]⟩ ms) := fun s => ups_W _ ⟨s, _⟩ ms
      have hmap : ∀ s : SV, mapW part (xs.take (k + 1)) (updW (ix xs (k : Int)).win ⟨s, (getS (ix xs (k : Int)).win ms).d ++ [ix xs (k : Int)]⟩ ms) := fun s => by rw [hts]; exact mapW_put s hI hiw
      simp only [List.cons_append, List.nil_append]
      refine mapOut (k := (ix xs (k : Int)).win) (ms := ms) (by (repeat (first | exact TakeA.here | apply TakeA.next)); done) ?_
      ((try simp only [WKb, ↓reduceIte, Nat.reduceEqDiff]) <;> (repeat' ((first
    | (refine G.tr ?_; first | refine S.a ?_ | refine S.t ?_ | refine Tr.brK ?_ ?_ | refine S.n fun _ => ?_ | refine S.i fun hix => ?_ | (refine S.g fun hb => ?_; (try simp only [hb])) | (refine S.s (fun hb => ?_) (fun hb => ?_) <;> ((try simp only [hb]) <;> (try (have hp := hb; simp only [WKs] at hp; (try have hq := Int.not_le.2 hp); (try have hq := Int.not_lt.2 hp))))))
    | ((fail_if_success refine G.tr ?_); exact G.prop S.p)
    | fail) <;> (try simp only [WKb, WKh, ↓reduceIte, Nat.reduceEqDiff, pl23, hw, hfd]))))
      all_goals
        refine mapIn (k := (ix xs (k : Int)).win) (d := (getS (ix xs (k : Int)).win ms).d ++ [ix xs (k : Int)]) (ms := ms) (by (repeat (first | exact TakeA.here | apply TakeA.next)); done) (by (repeat (first | exact TakeA.here | apply TakeA.next)); done) ?_
        (apply Tr.againE ((k + 1, _)); (focus (simp only [WKb, ↓reduceIte, Nat.reduceEqDiff])); (focus ((try simp only [WKb, ↓reduceIte, Nat.reduceEqDiff]); (all_goals ((repeat (refine cons_eq (by first | rfl | ((try clear hK) <;> first | (simp [*]; done) | (simp [*, hup, hls]; omega) | (simp [*, hup, hls] <;> (try split) <;> simp_all <;> omega))) ?_)); rfl)); done)); rotate_left 2; (focus (((try clear hK) <;> (try simp only [WKe, *]) <;> repeat (first | with_reducible exact EntR.done | refine S.e ?_ | (refine S.f ?_ <;> (try simp only [WKe, hup, hls, ↓reduceIte, reduceCtorEq, Int.reduceEq, *])) | with_reducible apply EntR.ex | refine EntR.drop (F := F) ?_ | refine EntR.drop ?_)))); (focus (first | omega | assumption | (simp only []; omega) | (refine ⟨by omega, by assumption⟩) | (simp only []; refine ⟨by omega, by assumption⟩) | ((try simp only []); (repeat' (first | omega | assumption | apply hmap | refine And.intro ?_ ?_)); done))); (focus (first | omega | (simp only []; omega))))
    · have hskip : mapW part (xs.take (k + 1)) ms := by rw [hts]; exact mapW_skip hI hiw
      have hls : lastW part (xs.take k) = lastW part (xs.take (k + 1)) := by
        rw [hts, lastW_snoc, if_neg (fun h => hiw h.1)]
      by_cases i1 : (ix xs (k : Int)).part = part
      · by_cases i2 : 0 ≤ (ix xs (k : Int)).win
        · have i3 : 1000 < (ix xs (k : Int)).win := by
            by_cases h : (ix xs (k : Int)).win ≤ 1000
            · exact absurd ⟨i1, i2, h⟩ hiw
            · omega
          ((try simp only [WKb, ↓reduceIte, Nat.reduceEqDiff]) <;> (repeat' ((first
    | (refine G.tr ?_; first | refine S.a ?_ | refine S.t ?_ | refine Tr.brK ?_ ?_ | refine S.n fun _ => ?_ | refine S.i fun hix => ?_ | (refine S.g fun hb => ?_; (try simp only [hb])) | (refine S.s (fun hb => ?_) (fun hb => ?_) <;> ((try simp only [hb]) <;> (try (have hp := hb; simp only [WKs] at hp; (try have hq := Int.not_le.2 hp); (try have hq := Int.not_lt.2 hp))))))
    | ((fail_if_success refine G.tr ?_); exact G.prop S.p)
    | fail) <;> (try simp only [WKb, ↓reduceIte, Nat.reduceEqDiff, hw]))))
          all_goals (apply Tr.againE ((k + 1, ms)); (focus (simp only [WKb, ↓reduceIte, Nat.reduceEqDiff])); (focus ((try simp only [WKb, ↓reduceIte, Nat.reduceEqDiff]); (all_goals ((repeat (refine cons_eq (by first | rfl | ((try clear hK) <;> first | (simp [*]; done) | (simp [*, hls]; omega) | (simp [*, hls] <;> (try split) <;> simp_all <;> omega))) ?_)); rfl)); done)); rotate_left 2; (focus (((try clear hK) <;> (try simp only [WKe, *]) <;> repeat (first | with_reducible exact EntR.done | refine S.e ?_ | (refine S.f ?_ <;> (try simp only [WKe, hls, ↓reduceIte, reduceCtorEq, Int.reduceEq, *])) | with_reducible apply EntR.ex | refine EntR.drop (F := F) ?_ | refine EntR.drop ?_)))); (focus (first | omega | assumption | (simp only []; omega) | (refine ⟨by omega, by assumption⟩) | (simp only []; refine ⟨by omega, by assumption⟩) | ((try simp only []); (repeat' (first | omega | assumption | apply hskip | refine And.intro ?_ ?_)); done))); (focus (first | omega | (simp only []; omega))))
        · ((try simp only [WKb, ↓reduceIte, Nat.reduceEqDiff]) <;> (repeat' ((first
    | (refine G.tr ?_; first | refine S.a ?_ | refine S.t ?_ | refine Tr.brK ?_ ?_ | refine S.n fun _ => ?_ | refine S.i fun hix => ?_ | (refine S.g fun hb => ?_; (try simp only [hb])) | (refine S.s (fun hb => ?_) (fun hb => ?_) <;> ((try simp only [hb]) <;> (try (have hp := hb; simp only [WKs] at hp; (try have hq := Int.not_le.2 hp); (try have hq := Int.not_lt.2 hp))))))
    | ((fail_if_success refine G.tr ?_); exact G.prop S.p)
    | fail) <;> (try simp only [WKb, ↓reduceIte, Nat.reduceEqDiff, hw]))))
          all_goals (apply Tr.againE ((k + 1, ms)); (focus (simp only [WKb, ↓reduceIte, Nat.reduceEqDiff])); (focus ((try simp only [WKb, ↓reduceIte, Nat.reduceEqDiff]); (all_goals ((repeat (refine cons_eq (by first | rfl | ((try clear hK) <;> first | (simp [*]; done) | (simp [*, hls]; omega) | (simp [*, hls] <;> (try split) <;> simp_all <;> omega))) ?_)); rfl)); done)); rotate_left 2; (focus (((try clear hK) <;> (try simp only [WKe, *]) <;> repeat (first | with_reducible exact EntR.done | refine S.e ?_ | (refine S.f ?_ <;> (try simp only [WKe, hls, ↓reduceIte, reduceCtorEq, Int.reduceEq, *])) | with_reducible apply EntR.ex | refine EntR.drop (F := F) ?_ | refine EntR.drop ?_)))); (focus (first | omega | assumption | (simp only []; omega) | (refine ⟨by omega, by assumption⟩) | (simp only []; refine ⟨by omega, by assumption⟩) | ((try simp only []); (repeat' (first | omega | assumption | apply hskip | refine And.intro ?_ ?_)); done))); (focus (first | omega | (simp only []; omega))))
      · ((try simp only [WKb, ↓reduceIte, Nat.reduceEqDiff]) <;> (repeat' ((first
    | (refine G.tr ?_; first | refine S.a ?_ | refine S.t ?_ | refine Tr.brK ?_ ?_ | refine S.n fun _ => ?_ | refine S.i fun hix => ?_ | (refine S.g fun hb => ?_; (try simp only [hb])) | (refine S.s (fun hb => ?_) (fun hb => ?_) <;> ((try simp only [hb]) <;> (try (have hp := hb; simp only [WKs] at hp; (try have hq := Int.not_le.2 hp); (try have hq := Int.not_lt.2 hp))))))
    | ((fail_if_success refine G.tr ?_); exact G.prop S.p)
    | fail) <;> (try simp only [WKb, ↓reduceIte, Nat.reduceEqDiff, hw]))))
        all_goals (apply Tr.againE ((k + 1, ms)); (focus (simp only [WKb, ↓reduceIte, Nat.reduceEqDiff])); (focus ((try simp only [WKb, ↓reduceIte, Nat.reduceEqDiff]); (all_goals ((repeat (refine cons_eq (by first | rfl | ((try clear hK) <;> first | (simp [*]; done) | (simp [*, hls]; omega) | (simp [*, hls] <;> (try split) <;> simp_all <;> omega))) ?_)); rfl)); done)); rotate_left 2; (focus (((try clear hK) <;> (try simp only [WKe, *]) <;> repeat (first | with_reducible exact EntR.done | refine S.e ?_ | (refine S.f ?_ <;> (try simp only [WKe, hls, ↓reduceIte, reduceCtorEq, Int.reduceEq, *])) | with_reducible apply EntR.ex | refine EntR.drop (F := F) ?_ | refine EntR.drop ?_)))); (focus (first | omega | assumption | (simp only []; omega) | (refine ⟨by omega, by assumption⟩) | (simp only []; refine ⟨by omega, by assumption⟩) | ((try simp only []); (repeat' (first | omega | assumption | apply hskip | refine And.intro ?_ ?_)); done))); (focus (first | omega | (simp only []; omega))))
  · have hke : k = xs.length := by omega
    subst hke
    rw [List.take_length] at hI hll
    have htl : xs.take xs.length = xs := List.take_length
    obtain ⟨n, hn⟩ : ∃ n : Nat, lastW part xs + 1 = (n : Int) := ⟨(lastW part xs + 1).toNat, by omega⟩
    have hwn : IntKind.i64.wrap (lastW part xs + 1) = (n : Int) := by rw [wrapId (by omega) (by omega), hn]
    ((try simp only [WKb, ↓reduceIte, Nat.reduceEqDiff, htl]) <;> (repeat' ((first
    | (refine G.tr ?_; first | refine S.a ?_ | refine S.t ?_ | refine Tr.brK ?_ ?_ | refine S.n fun _ => ?_ | refine S.i fun hix => ?_ | (refine S.g fun hb => ?_; (try simp only [hb])) | (refine S.s (fun hb => ?_) (fun hb => ?_) <;> ((try simp only [hb]) <;> (try (have hp := hb; simp only [WKs] at hp; (try have hq := Int.not_le.2 hp); (try have hq := Int.not_lt.2 hp))))))
    | ((fail_if_success refine G.tr ?_); exact G.prop S.p)
    | fail) <;> (try simp only [WKb, ↓reduceIte, Nat.reduceEqDiff, hwn]))))
    refine Tr.nilSl (α := SL EvC) ?_
    refine Tr.imp (fam_nil (A := fun x : SL EvC => sl false x.s.v x.d)) ?_
    refine Tr.loopE (α := Nat × SV × List (SL EvC) × List (Int × SL EvC)) [9, 49] [4, 5, 48] (fun x => [x.2.1.v, .int .i64 x.1]) (fun x => [sl false x.2.1.v x.2.2.1, famB x.2.2.1, famW x.2.2.2, mp mm (kvsW ms)]) (fun x => x.1 ≤ n ∧ x.2.2.1.map SL.d = winsW part xs x.1 ∧ ∀ j : Int, (x.1 : Int) ≤ j → getS j x.2.2.2 = getS j ms) (fun x => n - x.1) (0, ⟨none, 0, 0⟩, [], ms) (by (repeat (first | exact TakeL.nil | (apply TakeL.cons; focus ((first | exact TakeA.dupS | exact TakeA.dupF | ((repeat (first | with_reducible exact TakeA.here | exact TakeA.fam (by omega) (by omega) | with_reducible apply TakeA.next)); done) | ((repeat (first | exact TakeA.here | apply TakeA.next)); done) | exact TakeA.famNil | exact TakeA.nilS))) | fail)); done) rfl ⟨Nat.zero_le _, rfl, fun _ _ => rfl⟩ fun x u hx => ?_
    obtain ⟨w, t, outs, rs⟩ := x
    simp only at hx ⊢
    obtain ⟨hwk, hI2, hI3⟩ := hx
    have hol : outs.length = w := by
      have := congrArg List.length hI2
      rwa [List.length_map, winsW_len] at this
    by_cases hin2 : w < n
    · have hw := wrapSucc (k := w) (by omega)
      have hg := hI3 (w : Int) (by omega)
      have hfd := find_W (w : Int) ms
      have hI2' : (outs ++ [getS (w : Int) ms]).map SL.d = winsW part xs (w + 1) := by
        rw [List.map_append, hI2, winsW_next]
        simp only [List.map_cons, List.map_nil]
        rw [hI (w : Int) (by omega) (by omega)]
      have hI3' : ∀ j : Int, ((w + 1 : Nat) : Int) ≤ j → getS j (eraW (w : Int) rs) = getS j ms := fun j hj => by
        rw [get_era _ _ (by omega)]; exact hI3 j (by omega)
      simp only [List.cons_append, List.nil_append]
      refine mapOut (k := (w : Int)) (ms := rs) (by (repeat (first | exact TakeA.here | apply TakeA.next)); done) ?_
      rw [hg]
      ((try simp only [WKb, ↓reduceIte, Nat.reduceEqDiff]) <;> (repeat' ((first
    | (refine G.tr ?_; first | refine S.a ?_ | refine S.t ?_ | refine Tr.brK ?_ ?_ | refine S.n fun _ => ?_ | refine S.i fun hix => ?_ | (refine S.g fun hb => ?_; (try simp only [hb])) | (refine S.s (fun hb => ?_) (fun hb => ?_) <;> ((try simp only [hb]) <;> (try (have hp := hb; simp only [WKs] at hp; (try have hq := Int.not_le.2 hp); (try have hq := Int.not_lt.2 hp))))))
    | ((fail_if_success refine G.tr ?_); exact G.prop S.p)
    | fail) <;> (try simp only [WKb, ↓reduceIte, Nat.reduceEqDiff, hw, hfd]))))
      all_goals (apply Tr.againE ((w + 1, _, _, eraW (w : Int) rs)); (focus (simp only [WKb, ↓reduceIte, Nat.reduceEqDiff])); (focus ((try simp only [WKb, ↓reduceIte, Nat.reduceEqDiff]); (all_goals ((repeat (refine cons_eq (by first | rfl | (simp [*]; done)) ?_)); rfl)); done)); rotate_left 2; (focus (((try clear hK) <;> (try simp only [WKe, *]) <;> repeat (first | with_reducible exact EntR.done | refine S.e ?_ | (refine S.f ?_ <;> (try simp only [WKe, ↓reduceIte, reduceCtorEq, Int.reduceEq, *])) | with_reducible apply EntR.ex | refine EntR.drop (F := F) ?_ | refine EntR.drop ?_)))); (focus (first | omega | assumption | (simp only []; omega) | (refine ⟨by omega, by assumption⟩) | (simp only []; refine ⟨by omega, by assumption⟩) | ((try simp only []); (repeat' (first | omega | assumption | apply hI2' | apply hI3' | refine And.intro ?_ ?_)); done))); (focus (first | omega | (simp only []; omega))))
    · have hwe : w = n := by omega
      subst hwe
      have hnn : (lastW part xs + 1).toNat = w := by rw [hn]; rfl
      ((try simp only [WKb, ↓reduceIte, Nat.reduceEqDiff]) <;> (repeat' ((first
    | (refine G.tr ?_; first | refine S.a ?_ | refine S.t ?_ | refine Tr.brK ?_ ?_ | refine S.n fun _ => ?_ | refine S.i fun hix => ?_ | (refine S.g fun hb => ?_; (try simp only [hb])) | (refine S.s (fun hb => ?_) (fun hb => ?_) <;> ((try simp only [hb]) <;> (try (have hp := hb; simp only [WKs] at hp; (try have hq := Int.not_le.2 hp); (try have hq := Int.not_lt.2 hp))))))
    | ((fail_if_success refine G.tr ?_); exact G.prop S.p)
    | fail) <;> (try simp only [WKb, ↓reduceIte, Nat.reduceEqDiff]))))
      all_goals
        apply Tr.fin hK ⟨_, _, by rw [hnn]; exact hI2, rfl, rfl⟩
        ((try clear hK) <;> (try simp only [WKe, *]) <;> repeat (first | with_reducible exact EntR.done | refine S.e ?_ | (refine S.f ?_ <;> (try simp only [WKe, ↓reduceIte, reduceCtorEq, Int.reduceEq, *])) | with_reducible apply EntR.ex | refine EntR.drop (F := F) ?_ | refine EntR.drop ?_))

end Go.Proofs.YtgkhjgpgdfbdpaaDoor
