import Derived.Test.YtgkhjgpgdfbdpaaGreatDoorVC
namespace Go.Proofs.YtgkhjgpgdfbdpaaGreatDoor
open Go Go.Wk
set_option maxHeartbeats 6400000
set_option maxRecDepth 100000

/-! ### a small thing that works -/
def noneT : List UInt8 := [112, 111, 119, 101, 114, 32, 48, 32, 48, 32, 48, 32, 48, 32, 48, 32, 48, 10, 100, 111, 119, 110, 10, 117, 112, 10]
theorem dec_0 : decA 0 = [48] := by
  rw [decA_pos (by decide)]
  exact digA_lt (by decide)
theorem dec_5 : decA 5 = [53] := by
  rw [decA_pos (by decide)]
  exact digA_lt (by decide)
theorem dec_m6 : decA (-6) = [45, 54] := by
  rw [decA_neg (by decide)]
  have : digA (-6 : Int).natAbs = [54] := digA_lt (by decide)
  rw [this]
theorem none_text : textT (toksU ConfV.none) = noneT := by
  have h : toksU ConfV.none = [(13, [0, 0, 0, 0, 0, 0]), (14, []), (15, [])] := rfl
  rw [h]
  have h0 : numL [0, 0, 0, 0, 0, 0] = [32, 48, 32, 48, 32, 48, 32, 48, 32, 48, 32, 48] := by simp [numL, dec_0]
  have h1 : numL [] = [] := rfl
  simp only [textT, List.flatMap_cons, List.flatMap_nil, lineT, lineU, h0, h1]
  rfl
theorem none_ok : okU ConfV.none := ⟨nil_all, nil_all, nil_all, nil_all, nil_all, by unfold I64; decide, by unfold I64; decide, by unfold I64; decide, by unfold I64; decide, by unfold I64; decide, by unfold I64; decide, nil_all, nil_all⟩
theorem none_short : shortU ConfV.none := ⟨Nat.zero_le _, Nat.zero_le _, Nat.zero_le _, Nat.zero_le _, Nat.zero_le _, Nat.zero_le _, Nat.zero_le _, nil_all, nil_all⟩
theorem none_print : printU ConfV.none = (noneT, 0) := by
  unfold printU
  rw [none_text]
  exact if_pos ⟨none_short, by decide⟩
theorem none_read : readU noneT = (ConfV.none, 0, 0) := by
  rw [← none_text]
  exact readU_print none_ok none_short (by rw [none_text]; decide)
theorem none_bytes : (confB8 ConfV.none).length ≤ 65536 := by
  have h0 := intB_len (((0 : Nat)) : Int)
  have h1 := intsB_len [(0 : Int), 0, 0, 0, 0, 0]
  have h2 := listB_len []
  simp only [List.length_cons, List.length_nil] at h1 h2
  have e : confB8 ConfV.none = intB (((0 : Nat)) : Int) ++ [] ++ intB (((0 : Nat)) : Int) ++ [] ++ intB (((0 : Nat)) : Int) ++ [] ++ intB (((0 : Nat)) : Int) ++ [] ++ intB (((0 : Nat)) : Int) ++ [] ++ intsB [(0 : Int), 0, 0, 0, 0, 0] ++ listB [] ++ listB [] := rfl
  rw [e]
  simp only [List.length_append, List.length_nil]
  omega
theorem down_words : wordsV [100, 111, 119, 110, 32, 53, 32, 45, 54] = ([100, 111, 119, 110], [5, -6], true) := by
  have h := wordsU_line (w := [100, 111, 119, 110]) (l := [5, -6]) (by decide) (I64s (by unfold I64; decide) (I64s1 (by unfold I64; decide)))
  have e : lineU [100, 111, 119, 110] [5, -6] = [100, 111, 119, 110, 32, 53, 32, 45, 54] := by
    unfold lineU numL
    simp only [List.flatMap_cons, List.flatMap_nil, dec_5, dec_m6]
    rfl
  rw [e] at h
  unfold wordsV
  rw [h]
attribute [local irreducible] BrK GenK EGenK EUnitK CallK FnK CallV GuardO GuardC CondW opX opK opKc chkR eqR seqK blkK endL WL WD W LoopW BinK Tr drewK resL PickK NotK NilK ExtrK getK Instr.storeAt Instr.loadAt Instr.fieldAt Instr.indexAt Instr.lookup Instr.mapUpdate Instr.box Instr.alloc Instr.build Instr.buildSlice Instr.makeSlice Instr.makeMap Instr.sliceAt Instr.field Instr.index Instr.makeInterface Instr.typeAssert Builtin.len_ Builtin.append_ Builtin.cap_ Builtin.min_ Builtin.max_ Builtin.copy_ Builtin.clear_ convert binOp mp blk rob sl sep ex fact old
attribute [local irreducible] NegK mxV confB8 printU readU
theorem usame07_ok {r1 r2 : Bool} {v1 v2 : Value} {xs : List Int} : Trip Tryz.prog 11 [v1, v2].toArray [sl r1 v1 xs, sl r2 v2 xs] fun v l' => v = .bool true ∧ l' = [sl r1 v1 xs, sl r2 v2 xs] := by
  intro F K hK
  simp only [List.cons_append, List.nil_append]
  refine Tr.bound (xs := xs) Has.here fun hbx => ?_
  (refine Tr.enter (rs := [.tmp 4]) mixed fn11 rfl (by simp +arith [Tryz.ntmps11]) fun u => ?_; simp only [cd11, Tryz.f11])
  ((try simp only [WKb, ↓reduceIte, Nat.reduceEqDiff, Nat.reduceAdd]) <;> (repeat' ((first
    | (refine G.tr ?_; first | refine S.a ?_ | refine S.t ?_ | refine Tr.brK ?_ ?_ | refine S.n fun _ => ?_ | refine S.i fun hix => ?_ | (refine S.g fun hb => ?_; (try simp only [hb])) | (refine S.s (fun hb => ?_) (fun hb => ?_) <;> ((try simp only [hb]) <;> (try (have hp := hb; simp only [WKs] at hp; (try have hq := Int.not_le.2 hp); (try have hq := Int.not_lt.2 hp))))))
    | ((fail_if_success refine G.tr ?_); exact G.prop S.p)
    | fail) <;> (try simp only [WKb, ↓reduceIte, Nat.reduceEqDiff]))))
  refine Tr.loopE (α := Nat) [4, 5] [0, 1] (fun k => [.bool false, .int .i64 k]) (fun _ => [sl r1 v1 xs, sl r2 v2 xs]) (fun k => k ≤ xs.length) (fun k => xs.length - k) 0 (by (repeat (first | exact TakeL.nil | (apply TakeL.cons; focus ((first | exact TakeA.dupS | exact TakeA.dupF | ((repeat (first | with_reducible exact TakeA.here | exact TakeA.fam (by omega) (by omega) | with_reducible apply TakeA.next)); done) | ((repeat (first | exact TakeA.here | apply TakeA.next)); done) | exact TakeA.famNil | exact TakeA.nilS))) | fail)); done) rfl (by omega) fun k u hk => ?_
  by_cases hin : k < xs.length
  · have hw := wrapSucc (k := k) (by omega)
    ((try simp only [WKb, ↓reduceIte, Nat.reduceEqDiff]) <;> (repeat' ((first
    | (refine G.tr ?_; first | refine S.a ?_ | refine S.t ?_ | refine Tr.brK ?_ ?_ | refine S.n fun _ => ?_ | refine S.i fun hix => ?_ | (refine S.g fun hb => ?_; (try simp only [hb])) | (refine S.s (fun hb => ?_) (fun hb => ?_) <;> ((try simp only [hb]) <;> (try (have hp := hb; simp only [WKs] at hp; (try have hq := Int.not_le.2 hp); (try have hq := Int.not_lt.2 hp))))))
    | ((fail_if_success refine G.tr ?_); exact G.prop S.p)
    | fail) <;> (try simp only [WKb, ↓reduceIte, Nat.reduceEqDiff, pl11, hw]))))
    all_goals (apply Tr.againE (k + 1); (focus (simp only [WKb, ↓reduceIte, Nat.reduceEqDiff])); (focus ((try simp only [WKb, ↓reduceIte, Nat.reduceEqDiff]); (all_goals ((repeat (refine cons_eq (by first | rfl | (simp [*]; done)) ?_)); rfl)); done)); (focus (first | omega | assumption | (simp only []; omega) | (refine ⟨by omega, by assumption⟩) | (simp only []; refine ⟨by omega, by assumption⟩) | ((try simp only []); (repeat' (first | omega | assumption | refine And.intro ?_ ?_)); done))); (focus (first | omega | (simp only []; omega))); (focus (((try clear hK) <;> (try simp only [WKe, *]) <;> repeat (first | with_reducible exact EntR.done | refine S.e ?_ | (refine S.f ?_ <;> (try simp only [WKe, ↓reduceIte, reduceCtorEq, Int.reduceEq, *])) | with_reducible apply EntR.ex | refine EntR.drop (F := F) ?_ | refine EntR.drop ?_)))))
  · ((try simp only [WKb, ↓reduceIte, Nat.reduceEqDiff]) <;> (repeat' ((first
    | (refine G.tr ?_; first | refine S.a ?_ | refine S.t ?_ | refine Tr.brK ?_ ?_ | refine S.n fun _ => ?_ | refine S.i fun hix => ?_ | (refine S.g fun hb => ?_; (try simp only [hb])) | (refine S.s (fun hb => ?_) (fun hb => ?_) <;> ((try simp only [hb]) <;> (try (have hp := hb; simp only [WKs] at hp; (try have hq := Int.not_le.2 hp); (try have hq := Int.not_lt.2 hp))))))
    | ((fail_if_success refine G.tr ?_); exact G.prop S.p)
    | fail) <;> (try simp only [WKb, ↓reduceIte, Nat.reduceEqDiff]))))
    all_goals
      refine Tr.fin hK ⟨rfl, rfl⟩ ?_
      ((try clear hK) <;> (try simp only [WKe, *]) <;> repeat (first | with_reducible exact EntR.done | refine S.e ?_ | (refine S.f ?_ <;> (try simp only [WKe, ↓reduceIte, reduceCtorEq, Int.reduceEq, *])) | with_reducible apply EntR.ex | refine EntR.drop (F := F) ?_ | refine EntR.drop ?_))

theorem same08_ok {u1 u2 : Value} {a b : ConfD} [h1 : DeA u1 a] [h2 : DeA u2 b] (hv : a.v = b.v) (ho : okU a.v) (hs : shortU a.v) (hl : (confB8 a.v).length ≤ 65536) : Trip Tryz.prog 14 [u1, u2].toArray [fzl [a], fzl [b]] fun v l' => v = .bool true ∧ l' = [] := by
  obtain rfl := h1.h
  obtain rfl := h2.h
  intro F K hK
  simp only [List.cons_append, List.nil_append]
  have ho2 : okU b.v := hv ▸ ho
  have hs2 : shortU b.v := hv ▸ hs
  have hl2 : (confB8 b.v).length ≤ 65536 := hv ▸ hl
  have hcv : confB8 b.v = confB8 a.v := by rw [hv]
  (refine Tr.enter (rs := [.tmp 4]) mixed fn14 rfl (by simp +arith [Tryz.ntmps14]) fun u => ?_; simp only [cd14, Tryz.f14])
  ((try simp only [WKb, ↓reduceIte, Nat.reduceEqDiff, Nat.reduceAdd]) <;> (repeat' ((first
    | (refine G.tr ?_; first | refine S.a ?_ | refine S.t ?_ | refine Tr.brK ?_ ?_ | (refine G.call 33 ?_; refine S.c ?_ (h := encode_ok (by assumption) (by assumption) (by assumption))) | refine S.n fun _ => ?_ | refine S.i fun hix => ?_ | (refine S.g fun hb => ?_; (try simp only [hb])) | (refine S.s (fun hb => ?_) (fun hb => ?_) <;> ((try simp only [hb]) <;> (try (have hp := hb; simp only [WKs] at hp; (try have hq := Int.not_le.2 hp); (try have hq := Int.not_lt.2 hp))))))
    | rintro _ _ ⟨_, rfl, rfl⟩
    | ((fail_if_success refine G.tr ?_); exact G.prop S.p)
    | fail) <;> (try simp only [WKb, WKh, ↓reduceIte, Nat.reduceEqDiff, hcv]))))
  all_goals
    refine Tr.fin hK ⟨rfl, rfl⟩ ?_
    ((try clear hK) <;> (try simp only [WKe, *]) <;> repeat (first | with_reducible exact EntR.done | refine S.e ?_ | (refine S.f ?_ <;> (try simp only [WKe, ↓reduceIte, reduceCtorEq, Int.reduceEq, *])) | with_reducible apply EntR.ex | refine EntR.drop (F := F) ?_ | refine EntR.drop ?_))
theorem entr_none {F : List Asrt} : EntR [] F (fzl [(default : ConfD)] :: F) := EntR.dupF EntR.done
theorem wprint_ok : Trip Tryz.prog 7 [.agg [.slice none 0 0, .slice none 0 0, .slice none 0 0, .slice none 0 0, .slice none 0 0, .int .i64 0, .int .i64 0, .int .i64 0, .int .i64 0, .int .i64 0, .int .i64 0, .slice none 0 0, .slice none 0 0].toArray].toArray []
    fun v l' => v = .tuple #[.string (bstr [112, 111, 119, 101, 114, 32, 48, 32, 48, 32, 48, 32, 48, 32, 48, 32, 48, 10, 100, 111, 119, 110, 10, 117, 112, 10]), .int .i64 0] ∧ l' = [] :=
  ((uprint_ok (u0 := .agg (En.enc (default : ConfD)).toArray) (c := default) (hd := ⟨rfl⟩) none_ok (Nat.zero_le _) (Nat.zero_le _)).pre fun F => entr_none).mono fun v l' ⟨hv, hl⟩ => by
    have e : (default : ConfD).v = ConfV.none := rfl
    rw [e, none_print] at hv
    exact ⟨hv, hl⟩
theorem wread_ok {m : Int} : Trip Tryz.prog 12 [.string (bstr [112, 111, 119, 101, 114, 32, 48, 32, 48, 32, 48, 32, 48, 32, 48, 32, 48, 10, 100, 111, 119, 110, 10, 117, 112, 10])].toArray [mxB m]
    fun v l' => ∃ c : ConfD, c.v = ConfV.none ∧ v = .tuple #[.agg (En.enc c).toArray, .int .i64 0, .int .i64 0] ∧ l' = [fzl [c]] :=
  (uread_ok (s := noneT)).mono fun v l' ⟨c, hc, hv, hl⟩ => by
    rw [none_read] at hc hv
    exact ⟨c, hc, hv, hl⟩
theorem wwords_ok {m : Int} : Trip Tryz.prog 9 [.string (bstr [100, 111, 119, 110, 32, 53, 32, 45, 54])].toArray [mxB m]
    fun v l' => ∃ t : SV, v = .tuple #[.string (bstr [100, 111, 119, 110]), t.v, .bool true] ∧ l' = [sl false t.v [5, -6]] :=
  (uwords_ok (s := [100, 111, 119, 110, 32, 53, 32, 45, 54]) (by decide)).mono fun v l' ⟨t, hv, hl⟩ => by
    rw [down_words] at hv hl
    exact ⟨t, hv, hl⟩
theorem wsame_ok {u1 : Value} {a : ConfD} [h1 : DeA u1 a] (hv : a.v = ConfV.none) : Trip Tryz.prog 14 [u1, .agg [.slice none 0 0, .slice none 0 0, .slice none 0 0, .slice none 0 0, .slice none 0 0, .int .i64 0, .int .i64 0, .int .i64 0, .int .i64 0, .int .i64 0, .int .i64 0, .slice none 0 0, .slice none 0 0].toArray].toArray [fzl [a]]
    fun v l' => v = .bool true ∧ l' = [] :=
  (same08_ok (a := a) (b := default) (h2 := ⟨rfl⟩) (by rw [hv]; rfl) (by rw [hv]; exact none_ok) (by rw [hv]; exact none_short) (by rw [hv]; exact none_bytes)).pre fun F => EntR.take TakeA.here entr_none




theorem works34_ok {m : Int} : Trip Tryz.prog 6 [].toArray [mxB m] fun v l' => v = .bool true ∧ l' = [] := by
  intro F K hK
  simp only [List.cons_append, List.nil_append]
  (refine Tr.enter (rs := [.tmp 0]) mixed fn6 rfl (by simp +arith [Tryz.ntmps6]) fun u => ?_; simp only [cd6, Tryz.f6])
  ((try simp only [WKb, WKt]) <;> (repeat' ((first
    | (refine G.tr ?_; first | refine S.a ?_ | refine S.t ?_ | refine Tr.brK ?_ ?_ | (refine G.call 7 ?_; first | refine S.c ?_ (h := wprint_ok) | refine S.c ?_ (h := uprint_ok (by assumption) ?_ ?_)) | (refine G.call 12 ?_; first | refine S.c ?_ (h := wread_ok) | refine S.c ?_ (h := uread_ok)) | (refine G.call 9 ?_; first | refine S.c ?_ (h := wwords_ok) | refine S.c ?_ (h := uwords_ok ?_)) | (refine G.call 14 ?_; refine S.c ?_ (h := wsame_ok (by assumption))) | (refine G.call 11 ?_; refine S.c ?_ (h := usame07_ok)) | refine S.n fun _ => ?_ | refine S.i fun hix => ?_ | (refine S.g fun hb => ?_; (try simp only [hb])) | (refine S.s (fun hb => ?_) (fun hb => ?_) <;> ((try simp only [hb]) <;> (try (have hp := hb; simp only [WKs] at hp; (try have hq := Int.not_le.2 hp); (try have hq := Int.not_lt.2 hp))))))
    | rintro _ _ ⟨rfl, rfl⟩
    | rintro _ _ ⟨_, rfl, rfl⟩
    | rintro _ _ ⟨cc, (hread : ConfD.v _ = _), rfl, rfl⟩
    | rintro _ _ ⟨cc, (hread : ConfD.v _ = ConfV.none), rfl, rfl⟩
    | ((fail_if_success refine G.tr ?_); exact G.prop S.p)
    | fail) <;> (try simp only [WKb, WKh, ↓reduceIte, Nat.reduceEqDiff]))))
  all_goals
    refine Tr.fin hK ⟨rfl, rfl⟩ ?_
    ((try clear hK) <;> (try simp only [WKe, *]) <;> repeat (first | with_reducible exact EntR.done | refine S.e ?_ | (refine S.f ?_ <;> (try simp only [WKe, ↓reduceIte, reduceCtorEq, Int.reduceEq, *])) | with_reducible apply EntR.ex | refine EntR.drop (F := F) ?_ | refine EntR.drop ?_))

end Go.Proofs.YtgkhjgpgdfbdpaaGreatDoor

namespace Go.Proofs.YtgkhjgpgdfbdpaaGreatDoor
open Go Go.Wk
set_option maxHeartbeats 6400000
set_option maxRecDepth 100000

/-! ### short lists -/
def partS (p : PartD) : Prop := p.regions.d.length ≤ 100 ∧ p.procs.d.length ≤ 100 ∧ p.ports.d.length ≤ 100 ∧ p.sems.d.length ≤ 100 ∧ p.pools.d.length ≤ 100 ∧ p.slates.d.length ≤ 100 ∧ p.acts.d.length ≤ 100
def confS (c : ConfD) : Prop := (c.parts.d.length ≤ 100 ∧ c.chans.d.length ≤ 100 ∧ c.modes.d.length ≤ 100 ∧ c.levels.d.length ≤ 100 ∧ c.naps.d.length ≤ 100 ∧ c.down.d.length ≤ 100 ∧ c.up.d.length ≤ 100) ∧ (∀ p ∈ c.parts.d, partS p) ∧ ∀ m ∈ c.modes.d, m.wins.d.length ≤ 100
attribute [local irreducible] BrK GenK EGenK EUnitK CallK FnK CallV GuardO GuardC CondW opX opK opKc chkR eqR seqK blkK endL WL WD W LoopW BinK Tr drewK resL PickK NotK NilK ExtrK getK Instr.storeAt Instr.loadAt Instr.fieldAt Instr.indexAt Instr.lookup Instr.mapUpdate Instr.box Instr.alloc Instr.build Instr.buildSlice Instr.makeSlice Instr.makeMap Instr.sliceAt Instr.field Instr.index Instr.makeInterface Instr.typeAssert Builtin.len_ Builtin.append_ Builtin.cap_ Builtin.min_ Builtin.max_ Builtin.copy_ Builtin.clear_ convert binOp mp blk rob sl sep ex fact old
attribute [local irreducible] NegK mxV confB8 printU readU
theorem short100_ok {u0 : Value} {c : ConfD} [hd : DeA u0 c] : Trip Tryz.prog 5 [u0].toArray [fzl [c]] fun v l' => ∃ b : Bool, (b = true ↔ confS c) ∧ v = .bool b ∧ l' = [] := by
  obtain rfl := hd.h
  intro F K hK
  simp only [List.cons_append, List.nil_append]
  have fin0 : ∀ l : List Asrt, ¬ confS c → EntR [] l F → Tr l (K (.bool false)) := fun l h he => Tr.fin hK ⟨false, ⟨fun h => (by cases h), fun h2 => absurd h2 h⟩, rfl, rfl⟩ he
  (refine Tr.enter (rs := [.tmp 2]) mixed fn5 rfl (by simp +arith [Tryz.ntmps5]) fun u => ?_; simp only [cd5, Tryz.f5])
  by_cases h0 : c.parts.d.length ≤ 100 ∧ c.chans.d.length ≤ 100 ∧ c.modes.d.length ≤ 100 ∧ c.levels.d.length ≤ 100 ∧ c.naps.d.length ≤ 100 ∧ c.down.d.length ≤ 100 ∧ c.up.d.length ≤ 100
  · obtain ⟨h1, h2, h3, h4, h5, h6, h7⟩ := id h0
    ((try simp only [WKb, ↓reduceIte]) <;> (repeat' ((first
    | (refine G.tr ?_; first | refine S.a ?_ | refine S.t ?_ | refine Tr.brK ?_ ?_ | refine S.n fun _ => ?_ | refine S.i fun hix => ?_ | (refine S.g fun hb => ?_; (try simp only [hb])) | (refine S.s (fun hb => ?_) (fun hb => ?_) <;> ((try simp only [hb]) <;> (try (have hp := hb; simp only [WKs] at hp; (try have hq := Int.not_le.2 hp); (try have hq := Int.not_lt.2 hp))))))
    | ((fail_if_success refine G.tr ?_); exact G.prop S.p)
    | fail) <;> (try simp only [WKb, ↓reduceIte, Nat.reduceEqDiff, Nat.reduceAdd]))))
    refine Tr.loopE (α := Nat) [2, 3] [1] (fun k => [.bool false, .int .i64 k]) (fun _ => []) (fun k => k ≤ c.parts.d.length ∧ ∀ j : Nat, j < k → partS (ix c.parts.d (j : Int))) (fun k => c.parts.d.length - k) 0 (by (repeat (first | exact TakeL.nil | (apply TakeL.cons; focus ((first | exact TakeA.dupS | exact TakeA.dupF | ((repeat (first | with_reducible exact TakeA.here | exact TakeA.fam (by omega) (by omega) | with_reducible apply TakeA.next)); done) | ((repeat (first | exact TakeA.here | apply TakeA.next)); done) | exact TakeA.famNil | exact TakeA.nilS))) | fail)); done) rfl ⟨by omega, fun j hj => by omega⟩ fun k u hx => ?_
    obtain ⟨hk, hI⟩ := hx
    have hw := wrapSucc (k := k) (by omega)
    by_cases hin : k < c.parts.d.length
    · by_cases hp0 : partS (ix c.parts.d (k : Int))
      · obtain ⟨p1, p2, p3, p4, p5, p6, p7⟩ := id hp0
        have hI' : ∀ j : Nat, j < k + 1 → partS (ix c.parts.d (j : Int)) := fun j hj => by
          by_cases e : j = k
          · subst e; exact hp0
          · exact hI j (by omega)
        ((try simp only [WKb, ↓reduceIte, Nat.reduceEqDiff]) <;> (repeat' ((first
    | (refine G.tr ?_; first | refine S.a ?_ | refine S.t ?_ | refine Tr.brK ?_ ?_ | refine S.n fun _ => ?_ | refine S.i fun hix => ?_ | (refine S.g fun hb => ?_; (try simp only [hb])) | (refine S.s (fun hb => ?_) (fun hb => ?_) <;> ((try simp only [hb]) <;> (try (have hp := hb; simp only [WKs] at hp; (try have hq := Int.not_le.2 hp); (try have hq := Int.not_lt.2 hp))))))
    | ((fail_if_success refine G.tr ?_); exact G.prop S.p)
    | fail) <;> (try simp only [WKb, ↓reduceIte, Nat.reduceEqDiff, hw]))))
        all_goals
          clear hI
          (apply Tr.againE (k + 1); (focus (simp only [WKb, ↓reduceIte, Nat.reduceEqDiff])); (focus ((try simp only [WKb, ↓reduceIte, Nat.reduceEqDiff]); (all_goals ((repeat (refine cons_eq (by first | rfl | (simp [*]; done)) ?_)); rfl)); done)); (focus (first | omega | assumption | (simp only []; omega) | (refine ⟨by omega, by assumption⟩) | (simp only []; refine ⟨by omega, by assumption⟩) | ((try simp only []); (repeat' (first | omega | assumption | apply hI' | refine And.intro ?_ ?_)); done))); (focus (first | omega | (simp only []; omega))); (focus (((try clear hK) <;> (try simp only [WKe, *]) <;> repeat (first | with_reducible exact EntR.done | refine S.e ?_ | (refine S.f ?_ <;> (try simp only [WKe, ↓reduceIte, reduceCtorEq, Int.reduceEq, *])) | with_reducible apply EntR.ex | refine EntR.drop (F := F) ?_ | refine EntR.drop ?_)))))
      · have hno : ¬ confS c := fun h => hp0 (h.2.1 _ (ix_memU hin))
        unfold partS at hp0
        ((try simp only [WKb, ↓reduceIte, Nat.reduceEqDiff]) <;> (repeat' ((first
    | (refine G.tr ?_; first | refine S.a ?_ | refine S.t ?_ | refine Tr.brK ?_ ?_ | refine S.n fun _ => ?_ | refine S.i fun hix => ?_ | (refine S.g fun hb => ?_; (try simp only [hb])) | (refine S.s (fun hb => ?_) (fun hb => ?_) <;> ((try simp only [hb]) <;> (try (have hp := hb; simp only [WKs] at hp; (try have hq := Int.not_le.2 hp); (try have hq := Int.not_lt.2 hp))))))
    | ((fail_if_success refine G.tr ?_); exact G.prop S.p)
    | fail) <;> (try simp only [WKb, ↓reduceIte, Nat.reduceEqDiff]))))
        all_goals first
          | (refine fin0 _ hno ?_; ((try clear hK) <;> (try simp only [WKe, ↓reduceIte, reduceCtorEq, Int.reduceEq, *]) <;> repeat (first | with_reducible exact EntR.done | refine S.e ?_ | (refine S.f ?_ <;> (try simp only [WKe, ↓reduceIte, reduceCtorEq, Int.reduceEq, *])) | with_reducible apply EntR.ex | refine EntR.drop (F := F) ?_ | refine EntR.drop ?_)))
          | (exfalso; omega)
    · ((try simp only [WKb, ↓reduceIte, Nat.reduceEqDiff]) <;> (repeat' ((first
    | (refine G.tr ?_; first | refine S.a ?_ | refine S.t ?_ | refine Tr.brK ?_ ?_ | refine S.n fun _ => ?_ | refine S.i fun hix => ?_ | (refine S.g fun hb => ?_; (try simp only [hb])) | (refine S.s (fun hb => ?_) (fun hb => ?_) <;> ((try simp only [hb]) <;> (try (have hp := hb; simp only [WKs] at hp; (try have hq := Int.not_le.2 hp); (try have hq := Int.not_lt.2 hp))))))
    | ((fail_if_success refine G.tr ?_); exact G.prop S.p)
    | fail) <;> (try simp only [WKb, ↓reduceIte, Nat.reduceEqDiff]))))
      refine Tr.loopE (α := Nat) [2, 5] [1] (fun k => [.bool false, .int .i64 k]) (fun _ => []) (fun k => k ≤ c.modes.d.length ∧ ∀ j : Nat, j < k → (ix c.modes.d (j : Int)).wins.d.length ≤ 100) (fun k => c.modes.d.length - k) 0 (by (repeat (first | exact TakeL.nil | (apply TakeL.cons; focus ((first | exact TakeA.dupS | exact TakeA.dupF | ((repeat (first | with_reducible exact TakeA.here | exact TakeA.fam (by omega) (by omega) | with_reducible apply TakeA.next)); done) | ((repeat (first | exact TakeA.here | apply TakeA.next)); done) | exact TakeA.famNil | exact TakeA.nilS))) | fail)); done) rfl ⟨by omega, fun j hj => by omega⟩ fun i u hx => ?_
      obtain ⟨hi, hJ⟩ := hx
      have hw2 := wrapSucc (k := i) (by omega)
      by_cases hin2 : i < c.modes.d.length
      · by_cases hm0 : (ix c.modes.d (i : Int)).wins.d.length ≤ 100
        · have hJ' : ∀ j : Nat, j < i + 1 → (ix c.modes.d (j : Int)).wins.d.length ≤ 100 := fun j hj => by
            by_cases e : j = i
            · subst e; exact hm0
            · exact hJ j (by omega)
          ((try simp only [WKb, ↓reduceIte, Nat.reduceEqDiff]) <;> (repeat' ((first
    | (refine G.tr ?_; first | refine S.a ?_ | refine S.t ?_ | refine Tr.brK ?_ ?_ | refine S.n fun _ => ?_ | refine S.i fun hix => ?_ | (refine S.g fun hb => ?_; (try simp only [hb])) | (refine S.s (fun hb => ?_) (fun hb => ?_) <;> ((try simp only [hb]) <;> (try (have hp := hb; simp only [WKs] at hp; (try have hq := Int.not_le.2 hp); (try have hq := Int.not_lt.2 hp))))))
    | ((fail_if_success refine G.tr ?_); exact G.prop S.p)
    | fail) <;> (try simp only [WKb, ↓reduceIte, Nat.reduceEqDiff, hw2]))))
          all_goals
            clear hI hJ
            (apply Tr.againE (i + 1); (focus (simp only [WKb, ↓reduceIte, Nat.reduceEqDiff])); (focus ((try simp only [WKb, ↓reduceIte, Nat.reduceEqDiff]); (all_goals ((repeat (refine cons_eq (by first | rfl | (simp [*]; done)) ?_)); rfl)); done)); (focus (first | omega | assumption | (simp only []; omega) | (refine ⟨by omega, by assumption⟩) | (simp only []; refine ⟨by omega, by assumption⟩) | ((try simp only []); (repeat' (first | omega | assumption | apply hJ' | refine And.intro ?_ ?_)); done))); (focus (first | omega | (simp only []; omega))); (focus (((try clear hK) <;> (try simp only [WKe, *]) <;> repeat (first | with_reducible exact EntR.done | refine S.e ?_ | (refine S.f ?_ <;> (try simp only [WKe, ↓reduceIte, reduceCtorEq, Int.reduceEq, *])) | with_reducible apply EntR.ex | refine EntR.drop (F := F) ?_ | refine EntR.drop ?_)))))
        · have hno : ¬ confS c := fun h => hm0 (h.2.2 _ (ix_memU hin2))
          ((try simp only [WKb, ↓reduceIte, Nat.reduceEqDiff]) <;> (repeat' ((first
    | (refine G.tr ?_; first | refine S.a ?_ | refine S.t ?_ | refine Tr.brK ?_ ?_ | refine S.n fun _ => ?_ | refine S.i fun hix => ?_ | (refine S.g fun hb => ?_; (try simp only [hb])) | (refine S.s (fun hb => ?_) (fun hb => ?_) <;> ((try simp only [hb]) <;> (try (have hp := hb; simp only [WKs] at hp; (try have hq := Int.not_le.2 hp); (try have hq := Int.not_lt.2 hp))))))
    | ((fail_if_success refine G.tr ?_); exact G.prop S.p)
    | fail) <;> (try simp only [WKb, ↓reduceIte, Nat.reduceEqDiff]))))
          all_goals
            refine fin0 _ hno ?_
            ((try clear hK) <;> (try simp only [WKe, ↓reduceIte, reduceCtorEq, Int.reduceEq, *]) <;> repeat (first | with_reducible exact EntR.done | refine S.e ?_ | (refine S.f ?_ <;> (try simp only [WKe, ↓reduceIte, reduceCtorEq, Int.reduceEq, *])) | with_reducible apply EntR.ex | refine EntR.drop (F := F) ?_ | refine EntR.drop ?_))
      · have hyes : confS c := ⟨h0, fun p hp => by
          obtain ⟨j, hj, rfl⟩ := mem_ixU hp
          exact hI j (by omega), fun m hm => by
          obtain ⟨j, hj, rfl⟩ := mem_ixU hm
          exact hJ j (by omega)⟩
        clear hI hJ
        ((try simp only [WKb, ↓reduceIte, Nat.reduceEqDiff]) <;> (repeat' ((first
    | (refine G.tr ?_; first | refine S.a ?_ | refine S.t ?_ | refine Tr.brK ?_ ?_ | refine S.n fun _ => ?_ | refine S.i fun hix => ?_ | (refine S.g fun hb => ?_; (try simp only [hb])) | (refine S.s (fun hb => ?_) (fun hb => ?_) <;> ((try simp only [hb]) <;> (try (have hp := hb; simp only [WKs] at hp; (try have hq := Int.not_le.2 hp); (try have hq := Int.not_lt.2 hp))))))
    | ((fail_if_success refine G.tr ?_); exact G.prop S.p)
    | fail) <;> (try simp only [WKb, ↓reduceIte, Nat.reduceEqDiff]))))
        all_goals
          refine Tr.fin hK ⟨true, ⟨fun _ => hyes, fun _ => rfl⟩, rfl, rfl⟩ ?_
          ((try clear hK) <;> (try simp only [WKe, *]) <;> repeat (first | with_reducible exact EntR.done | refine S.e ?_ | (refine S.f ?_ <;> (try simp only [WKe, ↓reduceIte, reduceCtorEq, Int.reduceEq, *])) | with_reducible apply EntR.ex | refine EntR.drop (F := F) ?_ | refine EntR.drop ?_))
  · have hno : ¬ confS c := fun h => h0 h.1
    ((try simp only [WKb, ↓reduceIte]) <;> (repeat' ((first
    | (refine G.tr ?_; first | refine S.a ?_ | refine S.t ?_ | refine Tr.brK ?_ ?_ | refine S.n fun _ => ?_ | refine S.i fun hix => ?_ | (refine S.g fun hb => ?_; (try simp only [hb])) | (refine S.s (fun hb => ?_) (fun hb => ?_) <;> ((try simp only [hb]) <;> (try (have hp := hb; simp only [WKs] at hp; (try have hq := Int.not_le.2 hp); (try have hq := Int.not_lt.2 hp))))))
    | ((fail_if_success refine G.tr ?_); exact G.prop S.p)
    | fail) <;> (try simp only [WKb, ↓reduceIte, Nat.reduceEqDiff, Nat.reduceAdd]))))
    all_goals first
      | (refine fin0 _ hno ?_; ((try clear hK) <;> (try simp only [WKe, ↓reduceIte, reduceCtorEq, Int.reduceEq, *]) <;> repeat (first | with_reducible exact EntR.done | refine S.e ?_ | (refine S.f ?_ <;> (try simp only [WKe, ↓reduceIte, reduceCtorEq, Int.reduceEq, *])) | with_reducible apply EntR.ex | refine EntR.drop (F := F) ?_ | refine EntR.drop ?_)))
      | (exfalso; omega)
theorem short100_yes {u0 : Value} {c : ConfD} [hd : DeA u0 c] (h : confS c) : Trip Tryz.prog 5 [u0].toArray [fzl [c]] fun v l' => v = .bool true ∧ l' = [] :=
  short100_ok.mono fun v l' ⟨b, hb, hv, hl⟩ => ⟨by rw [hv, hb.2 h], hl⟩
theorem short100_no {u0 : Value} {c : ConfD} [hd : DeA u0 c] (h : ¬ confS c) : Trip Tryz.prog 5 [u0].toArray [fzl [c]] fun v l' => v = .bool false ∧ l' = [] :=
  short100_ok.mono fun v l' ⟨b, hb, hv, hl⟩ => ⟨by
    cases b with
    | true => exact absurd (hb.1 rfl) h
    | false => exact hv, hl⟩



end Go.Proofs.YtgkhjgpgdfbdpaaGreatDoor

namespace Go.Proofs.YtgkhjgpgdfbdpaaGreatDoor
open Go Go.Wk
set_option maxHeartbeats 6400000
set_option maxRecDepth 100000

/-! ### a configuration comes back from its text; a text that is read is printed just so -/
theorem uprintE_ok {u0 : Value} {d : ConfD} {C : ConfV} [hd : DeA u0 d] (hv : d.v = C) (ho : okU C) (hp : C.parts.length ≤ 100 ∧ C.modes.length ≤ 100) :
    Trip Tryz.prog 7 [u0].toArray [fzl [d]] fun v l' => v = .tuple #[.string (bstr (printU C).1), .int .i64 (printU C).2] ∧ l' = [] := by
  subst hv
  exact uprint_ok ho (by have := hp.1; simpa [ConfD.v] using this) (by have := hp.2; simpa [ConfD.v] using this)
theorem ureadE_ok {s : List UInt8} {C : ConfV} {a e : Int} {m : Int} (hr : readU s = (C, a, e)) : Trip Tryz.prog 12 [.string (bstr s)].toArray [mxB m]
    fun v l' => ∃ d : ConfD, d.v = C ∧ v = .tuple #[.agg (En.enc d).toArray, .int .i64 a, .int .i64 e] ∧ l' = [fzl [d]] :=
  uread_ok.mono fun v l' ⟨d, hd, hv, hl⟩ => by
    rw [hr] at hd hv
    exact ⟨d, hd, hv, hl⟩




attribute [local irreducible] BrK GenK EGenK EUnitK CallK FnK CallV GuardO GuardC CondW opX opK opKc chkR eqR seqK blkK endL WL WD W LoopW BinK Tr drewK resL PickK NotK NilK ExtrK getK Instr.storeAt Instr.loadAt Instr.fieldAt Instr.indexAt Instr.lookup Instr.mapUpdate Instr.box Instr.alloc Instr.build Instr.buildSlice Instr.makeSlice Instr.makeMap Instr.sliceAt Instr.field Instr.index Instr.makeInterface Instr.typeAssert Builtin.len_ Builtin.append_ Builtin.cap_ Builtin.min_ Builtin.max_ Builtin.copy_ Builtin.clear_ convert binOp mp blk rob sl sep ex fact old
attribute [local irreducible] NegK mxV confB8 printU readU
end Go.Proofs.YtgkhjgpgdfbdpaaGreatDoor
