import Derived.Test.YtgkhjgpgdfbdpaaGreatDoorWC
import Derived.Test.YtgkhjgpgdfbdpaaGreatDoorVdx
namespace Go.Proofs.YtgkhjgpgdfbdpaaGreatDoor
open Go Go.Wk
set_option maxHeartbeats 6400000
set_option maxRecDepth 100000

/-! ### short lists -/
def partF (p : PartD) : Prop := p.regions.d.length ≤ 64 ∧ p.procs.d.length ≤ 64 ∧ p.ports.d.length ≤ 64 ∧ p.sems.d.length ≤ 64 ∧ p.pools.d.length ≤ 64 ∧ p.slates.d.length ≤ 64 ∧ p.acts.d.length ≤ 64
def confF (c : ConfD) : Prop := (c.parts.d.length ≤ 64 ∧ c.chans.d.length ≤ 64 ∧ c.modes.d.length ≤ 64 ∧ c.levels.d.length ≤ 64 ∧ c.naps.d.length ≤ 64 ∧ c.down.d.length ≤ 64 ∧ c.up.d.length ≤ 64) ∧ (∀ p ∈ c.parts.d, partF p) ∧ ∀ m ∈ c.modes.d, m.wins.d.length ≤ 64
attribute [local irreducible] BrK GenK EGenK EUnitK CallK FnK CallV GuardO GuardC CondW opX opK opKc chkR eqR seqK blkK endL WL WD W LoopW BinK Tr drewK resL PickK NotK NilK ExtrK getK Instr.storeAt Instr.loadAt Instr.fieldAt Instr.indexAt Instr.lookup Instr.mapUpdate Instr.box Instr.alloc Instr.build Instr.buildSlice Instr.makeSlice Instr.makeMap Instr.sliceAt Instr.field Instr.index Instr.makeInterface Instr.typeAssert Builtin.len_ Builtin.append_ Builtin.cap_ Builtin.min_ Builtin.max_ Builtin.copy_ Builtin.clear_ convert binOp mp blk rob sl sep ex fact old
attribute [local irreducible] NegK mxV confB8 printU readU
theorem short64_ok {u0 : Value} {c : ConfD} [hd : DeA u0 c] : Trip Tryz.prog 20 [u0].toArray [fzl [c]] fun v l' => ∃ b : Bool, (b = true ↔ confF c) ∧ v = .bool b ∧ l' = [] := by
  obtain rfl := hd.h
  intro F K hK
  simp only [List.cons_append, List.nil_append]
  have fin0 : ∀ l : List Asrt, ¬ confF c → EntR [] l F → Tr l (K (.bool false)) := fun l h he => Tr.fin hK ⟨false, ⟨fun h => (by cases h), fun h2 => absurd h2 h⟩, rfl, rfl⟩ he
  (refine Tr.enter (rs := [.tmp 2]) mixed fn20 rfl (by simp +arith [Tryz.ntmps20]) fun u => ?_; simp only [cd20, Tryz.f20])
  by_cases h0 : c.parts.d.length ≤ 64 ∧ c.chans.d.length ≤ 64 ∧ c.modes.d.length ≤ 64 ∧ c.levels.d.length ≤ 64 ∧ c.naps.d.length ≤ 64 ∧ c.down.d.length ≤ 64 ∧ c.up.d.length ≤ 64
  · obtain ⟨h1, h2, h3, h4, h5, h6, h7⟩ := id h0
    ((try simp only [WKb, ↓reduceIte]) <;> (repeat' ((first
    | (refine G.tr ?_; first | refine S.a ?_ | refine S.t ?_ | refine Tr.brK ?_ ?_ | refine S.n fun _ => ?_ | refine S.i fun hix => ?_ | (refine S.g fun hb => ?_; (try simp only [hb])) | (refine S.s (fun hb => ?_) (fun hb => ?_) <;> ((try simp only [hb]) <;> (try (have hp := hb; simp only [WKs] at hp; (try have hq := Int.not_le.2 hp); (try have hq := Int.not_lt.2 hp))))))
    | ((fail_if_success refine G.tr ?_); exact G.prop S.p)
    | fail) <;> (try simp only [WKb, ↓reduceIte, Nat.reduceEqDiff, Nat.reduceAdd]))))
    refine Tr.loopE (α := Nat) [2, 3] [1] (fun k => [.bool false, .int .i64 k]) (fun _ => []) (fun k => k ≤ c.parts.d.length ∧ ∀ j : Nat, j < k → partF (ix c.parts.d (j : Int))) (fun k => c.parts.d.length - k) 0 (by (repeat (first | exact TakeL.nil | (apply TakeL.cons; focus ((first | exact TakeA.dupS | exact TakeA.dupF | ((repeat (first | with_reducible exact TakeA.here | exact TakeA.fam (by omega) (by omega) | with_reducible apply TakeA.next)); done) | ((repeat (first | exact TakeA.here | apply TakeA.next)); done) | exact TakeA.famNil | exact TakeA.nilS))) | fail)); done) rfl ⟨by omega, fun j hj => by omega⟩ fun k u hx => ?_
    obtain ⟨hk, hI⟩ := hx
    have hw := wrapSucc (k := k) (by omega)
    by_cases hin : k < c.parts.d.length
    · by_cases hp0 : partF (ix c.parts.d (k : Int))
      · obtain ⟨p1, p2, p3, p4, p5, p6, p7⟩ := id hp0
        have hI' : ∀ j : Nat, j < k + 1 → partF (ix c.parts.d (j : Int)) := fun j hj => by
          by_cases e : j = k
          · subst e; exact hp0
          · exact hI j (by omega)
        ((try simp only [WKb, ↓reduceIte, Nat.reduceEqDiff]) <;> (repeat' ((first
    | (refine G.tr ?_; first | refine S.a ?_ | refine S.t ?_ | refine Tr.brK ?_ ?_ | refine S.n fun _ => ?_ | refine S.i fun hix => ?_ | (refine S.g fun hb => ?_; (try simp only [hb])) | (refine S.s (fun hb => ?_) (fun hb => ?_) <;> ((try simp only [hb]) <;> (try (have hp := hb; simp only [WKs] at hp; (try have hq := Int.not_le.2 hp); (try have hq := Int.not_lt.2 hp))))))
    | ((fail_if_success refine G.tr ?_); exact G.prop S.p)
    | fail) <;> (try simp only [WKb, ↓reduceIte, Nat.reduceEqDiff, hw]))))
        all_goals
          clear hI
          (apply Tr.againE (k + 1); (focus (simp only [WKb, ↓reduceIte, Nat.reduceEqDiff])); (focus ((try simp only [WKb, ↓reduceIte, Nat.reduceEqDiff]); (all_goals ((repeat (refine cons_eq (by first | rfl | (simp [*]; done)) ?_)); rfl)); done)); (focus (first | omega | assumption | (simp only []; omega) | (refine ⟨by omega, by assumption⟩) | (simp only []; refine ⟨by omega, by assumption⟩) | ((try simp only []); (repeat' (first | omega | assumption | apply hI' | refine And.intro ?_ ?_)); done))); (focus (first | omega | (simp only []; omega))); (focus (((try clear hK) <;> (try simp only [WKe, *]) <;> repeat (first | with_reducible exact EntR.done | refine S.e ?_ | (refine S.f ?_ <;> (try simp only [WKe, ↓reduceIte, reduceCtorEq, Int.reduceEq, *])) | with_reducible apply EntR.ex | refine EntR.drop (F := F) ?_ | refine EntR.drop ?_)))))
      · have hno : ¬ confF c := fun h => hp0 (h.2.1 _ (ix_memU hin))
        unfold partF at hp0
        ((try simp only [WKb, ↓reduceIte, Nat.reduceEqDiff]) <;> (repeat' ((first
    | (refine G.tr ?_; first | refine S.a ?_ | refine S.t ?_ | refine Tr.brK ?_ ?_ | refine S.n fun _ => ?_ | refine S.i fun hix => ?_ | (refine S.g fun hb => ?_; (try simp only [hb])) | (refine S.s (fun hb => ?_) (fun hb => ?_) <;> ((try simp only [hb]) <;> (try (have hp := hb; simp only [WKs] at hp; (try have hq := Int.not_le.2 hp); (try have hq := Int.not_lt.2 hp))))))
    | ((fail_if_success refine G.tr ?_); exact G.prop S.p)
    | fail) <;> (try simp only [WKb, ↓reduceIte, Nat.reduceEqDiff]))))
        all_goals first
          | (refine fin0 _ hno ?_; ((try clear hK) <;> (try simp only [WKe, ↓reduceIte, reduceCtorEq, Int.reduceEq, *]) <;> repeat (first | with_reducible exact EntR.done | refine S.e ?_ | (refine S.f ?_ <;> (try simp only [WKe, ↓reduceIte, reduceCtorEq, Int.reduceEq, *])) | with_reducible apply EntR.ex | refine EntR.drop (F := F) ?_ | refine EntR.drop ?_)))
          | (exfalso; omega)
    · ((try simp only [WKb, ↓reduceIte, Nat.reduceEqDiff]) <;> (repeat' ((first
    | (refine G.tr ?_; first | refine S.a ?_ | refine S.t ?_ | refine Tr.brK ?_ ?_ | refine S.n fun _ => ?_ | refine S.i fun hix => ?_ | (refine S.g fun hb => ?_; (try simp only [hb])) | (refine S.s (fun hb => ?_) (fun hb => ?_) <;> ((try simp only [hb]) <;> (try (have hp := hb; simp only [WKs] at hp; (try have hq := Int.not_le.2 hp); (try have hq := Int.not_lt.2 hp))))))
    | ((fail_if_success refine G.tr ?_); exact G.prop S.p)
    | fail) <;> (try simp only [WKb, ↓reduceIte, Nat.reduceEqDiff]))))
      refine Tr.loopE (α := Nat) [2, 5] [1] (fun k => [.bool false, .int .i64 k]) (fun _ => []) (fun k => k ≤ c.modes.d.length ∧ ∀ j : Nat, j < k → (ix c.modes.d (j : Int)).wins.d.length ≤ 64) (fun k => c.modes.d.length - k) 0 (by (repeat (first | exact TakeL.nil | (apply TakeL.cons; focus ((first | exact TakeA.dupS | exact TakeA.dupF | ((repeat (first | with_reducible exact TakeA.here | exact TakeA.fam (by omega) (by omega) | with_reducible apply TakeA.next)); done) | ((repeat (first | exact TakeA.here | apply TakeA.next)); done) | exact TakeA.famNil | exact TakeA.nilS))) | fail)); done) rfl ⟨by omega, fun j hj => by omega⟩ fun i u hx => ?_
      obtain ⟨hi, hJ⟩ := hx
      have hw2 := wrapSucc (k := i) (by omega)
      by_cases hin2 : i < c.modes.d.length
      · by_cases hm0 : (ix c.modes.d (i : Int)).wins.d.length ≤ 64
        · have hJ' : ∀ j : Nat, j < i + 1 → (ix c.modes.d (j : Int)).wins.d.length ≤ 64 := fun j hj => by
            by_cases e : j = i
            · subst e; exact hm0
            · exact hJ j (by omega)
          ((try simp only [WKb, ↓reduceIte, Nat.reduceEqDiff]) <;> (repeat' ((first
    | (refine G.tr ?_; first | refine S.a ?_ | refine S.t ?_ | refine Tr.brK ?_ ?_ | refine S.n fun _ => ?_ | refine S.i fun hix => ?_ | (refine S.g fun hb => ?_; (try simp only [hb])) | (refine S.s (fun hb => ?_) (fun hb => ?_) <;> ((try simp only [hb]) <;> (try (have hp := hb; simp only [WKs] at hp; (try have hq := Int.not_le.2 hp); (try have hq := Int.not_lt.2 hp))))))
    | ((fail_if_success refine G.tr ?_); exact G.prop S.p)
    | fail) <;> (try simp only [WKb, ↓reduceIte, Nat.reduceEqDiff, hw2]))))
          all_goals
            clear hI hJ
            (apply Tr.againE (i + 1); (focus (simp only [WKb, ↓reduceIte, Nat.reduceEqDiff])); (focus ((try simp only [WKb, ↓reduceIte, Nat.reduceEqDiff]); (all_goals ((repeat (refine cons_eq (by first | rfl | (simp [*]; done)) ?_)); rfl)); done)); (focus (first | omega | assumption | (simp only []; omega) | (refine ⟨by omega, by assumption⟩) | (simp only []; refine ⟨by omega, by assumption⟩) | ((try simp only []); (repeat' (first | omega | assumption | apply hJ' | refine And.intro ?_ ?_)); done))); (focus (first | omega | (simp only []; omega))); (focus (((try clear hK) <;> (try simp only [WKe, *]) <;> repeat (first | with_reducible exact EntR.done | refine S.e ?_ | (refine S.f ?_ <;> (try simp only [WKe, ↓reduceIte, reduceCtorEq, Int.reduceEq, *])) | with_reducible apply EntR.ex | refine EntR.drop (F := F) ?_ | refine EntR.drop ?_)))))
        · have hno : ¬ confF c := fun h => hm0 (h.2.2 _ (ix_memU hin2))
          ((try simp only [WKb, ↓reduceIte, Nat.reduceEqDiff]) <;> (repeat' ((first
    | (refine G.tr ?_; first | refine S.a ?_ | refine S.t ?_ | refine Tr.brK ?_ ?_ | refine S.n fun _ => ?_ | refine S.i fun hix => ?_ | (refine S.g fun hb => ?_; (try simp only [hb])) | (refine S.s (fun hb => ?_) (fun hb => ?_) <;> ((try simp only [hb]) <;> (try (have hp := hb; simp only [WKs] at hp; (try have hq := Int.not_le.2 hp); (try have hq := Int.not_lt.2 hp))))))
    | ((fail_if_success refine G.tr ?_); exact G.prop S.p)
    | fail) <;> (try simp only [WKb, ↓reduceIte, Nat.reduceEqDiff]))))
          all_goals
            refine fin0 _ hno ?_
            ((try clear hK) <;> (try simp only [WKe, ↓reduceIte, reduceCtorEq, Int.reduceEq, *]) <;> repeat (first | with_reducible exact EntR.done | refine S.e ?_ | (refine S.f ?_ <;> (try simp only [WKe, ↓reduceIte, reduceCtorEq, Int.reduceEq, *])) | with_reducible apply EntR.ex | refine EntR.drop (F := F) ?_ | refine EntR.drop ?_))
      · have hyes : confF c := ⟨h0, fun p hp => by
          obtain ⟨j, hj, rfl⟩ := mem_ixU hp
          exact hI j (by omega), fun m hm => by
          obtain ⟨j, hj, rfl⟩ := mem_ixU hm
          exact hJ j (by omega)⟩
        clear hI hJ
        ((try simp only [WKb, ↓reduceIte, Nat.reduceEqDiff]) <;> (repeat' ((first
    | (refine G.tr ?_; first | refine S.a ?_ | refine S.t ?_ | refine Tr.brK ?_ ?_ | refine S.n fun _ => ?_ | refine S.i fun hix => ?_ | (refine S.g fun hb => ?_; (try simp only [hb])) | (refine S.s (fun hb => ?_) (fun hb => ?_) <;> ((try simp only [hb]) <;> (try (have hp := hb; simp only [WKs] at hp; (try have hq := Int.not_le.2 hp); (try have hq := Int.not_lt.2 hp))))))
    | ((fail_if_success refine G.tr ?_); exact G.prop S.p)
    | fail) <;> (try simp only [WKb, ↓reduceIte, Nat.reduceEqDiff]))))
        all_goals
          refine Tr.fin hK ⟨true, ⟨fun _ => hyes, fun _ => rfl⟩, rfl, rfl⟩ ?_
          ((try clear hK) <;> (try simp only [WKe, *]) <;> repeat (first | with_reducible exact EntR.done | refine S.e ?_ | (refine S.f ?_ <;> (try simp only [WKe, ↓reduceIte, reduceCtorEq, Int.reduceEq, *])) | with_reducible apply EntR.ex | refine EntR.drop (F := F) ?_ | refine EntR.drop ?_))
  · have hno : ¬ confF c := fun h => h0 h.1
    ((try simp only [WKb, ↓reduceIte]) <;> (repeat' ((first
    | (refine G.tr ?_; first | refine S.a ?_ | refine S.t ?_ | refine Tr.brK ?_ ?_ | refine S.n fun _ => ?_ | refine S.i fun hix => ?_ | (refine S.g fun hb => ?_; (try simp only [hb])) | (refine S.s (fun hb => ?_) (fun hb => ?_) <;> ((try simp only [hb]) <;> (try (have hp := hb; simp only [WKs] at hp; (try have hq := Int.not_le.2 hp); (try have hq := Int.not_lt.2 hp))))))
    | ((fail_if_success refine G.tr ?_); exact G.prop S.p)
    | fail) <;> (try simp only [WKb, ↓reduceIte, Nat.reduceEqDiff, Nat.reduceAdd]))))
    all_goals first
      | (refine fin0 _ hno ?_; ((try clear hK) <;> (try simp only [WKe, ↓reduceIte, reduceCtorEq, Int.reduceEq, *]) <;> repeat (first | with_reducible exact EntR.done | refine S.e ?_ | (refine S.f ?_ <;> (try simp only [WKe, ↓reduceIte, reduceCtorEq, Int.reduceEq, *])) | with_reducible apply EntR.ex | refine EntR.drop (F := F) ?_ | refine EntR.drop ?_)))
      | (exfalso; omega)
theorem confF_short (c : ConfD) : confF c ↔ shortU c.v := by
  unfold confF shortU partF
  simp only [ConfD.v, List.length_map]
  constructor
  · rintro ⟨⟨h1, h2, h3, h4, h5, h6, h7⟩, h8, h9⟩
    refine ⟨h1, h2, h3, h4, h5, h6, h7, fun q hq => ?_, fun q hq => ?_⟩
    · obtain ⟨p, hp, rfl⟩ := List.mem_map.1 hq
      exact h8 p hp
    · obtain ⟨p, hp, rfl⟩ := List.mem_map.1 hq
      exact h9 p hp
  · rintro ⟨h1, h2, h3, h4, h5, h6, h7, h8, h9⟩
    exact ⟨⟨h1, h2, h3, h4, h5, h6, h7⟩, fun p hp => h8 p.v (List.mem_map_of_mem hp), fun p hp => h9 p.v (List.mem_map_of_mem hp)⟩
theorem short64_yes {u0 : Value} {c : ConfD} [hd : DeA u0 c] (h : shortU c.v) : Trip Tryz.prog 20 [u0].toArray [fzl [c]] fun v l' => v = .bool true ∧ l' = [] :=
  short64_ok.mono fun v l' ⟨b, hb, hv, hl⟩ => ⟨by rw [hv, hb.2 ((confF_short c).2 h)], hl⟩
theorem short64_no {u0 : Value} {c : ConfD} [hd : DeA u0 c] (h : ¬ shortU c.v) : Trip Tryz.prog 20 [u0].toArray [fzl [c]] fun v l' => v = .bool false ∧ l' = [] :=
  short64_ok.mono fun v l' ⟨b, hb, hv, hl⟩ => ⟨by
    cases b with
    | true => exact absurd ((confF_short c).1 (hb.1 rfl)) h
    | false => exact hv, hl⟩


theorem dprint_ok {u0 : Value} {c : ConfD} [hd : DeA u0 c] (ho : okU c.v) :
    Trip Tryz.prog 8 [u0].toArray [fzl [c]] fun v l' => v = .tuple #[.string (bstr (printU c.v).1), .int .i64 (printU c.v).2] ∧ l' = [] := by
  obtain rfl := hd.h
  intro F K hK
  simp only [List.cons_append, List.nil_append]
  by_cases hs : shortU c.v
  · have hlen := short_len ho hs
    (refine Tr.enter (rs := [.tmp 2, .tmp 3]) mixed fn8 rfl (by simp +arith [Tryz.ntmps8]) fun u => ?_; simp only [cd8, Tryz.f8])
    by_cases hbig : (textT (toksU c.v)).length ≤ 65536
    · have hpr : printU c.v = (textT (toksU c.v), 0) := by unfold printU; exact if_pos ⟨hs, hbig⟩
      ((try simp only [WKb, ↓reduceIte, WKt]) <;> (repeat' ((first
    | (refine G.tr ?_; first | refine S.a ?_ | refine S.t ?_ | refine Tr.brK ?_ ?_ | (refine G.call 20 ?_; first | refine S.c ?_ (h := short64_yes (by assumption)) | refine S.c ?_ (h := short64_no (by assumption))) | (refine G.call 21 ?_; refine S.c ?_ (h := dtext_ok (by assumption) (by assumption))) | refine S.n fun _ => ?_ | refine S.i fun hix => ?_ | (refine S.g fun hb => ?_; (try simp only [hb])) | (refine S.s (fun hb => ?_) (fun hb => ?_) <;> ((try simp only [hb]) <;> (try (have hp := hb; simp only [WKs] at hp; (try have hq := Int.not_le.2 hp); (try have hq := Int.not_lt.2 hp))))))
    | rintro _ _ ⟨rfl, rfl⟩
    | ((fail_if_success refine G.tr ?_); exact G.prop S.p)
    | fail) <;> (try simp only [WKb, ↓reduceIte, Nat.reduceEqDiff, WKt]))))
      all_goals
        refine Tr.fin hK ⟨by rw [hpr], rfl⟩ ?_
        ((try clear hK) <;> (try simp only [WKe, *]) <;> repeat (first | with_reducible exact EntR.done | refine S.e ?_ | (refine S.f ?_ <;> (try simp only [WKe, ↓reduceIte, reduceCtorEq, Int.reduceEq, *])) | with_reducible apply EntR.ex | refine EntR.drop (F := F) ?_ | refine EntR.drop ?_))
    · have hpr : printU c.v = ([], 3) := by unfold printU; exact if_neg fun h => hbig h.2
      have hbig' : 65536 < (textT (toksU c.v)).length := by omega
      ((try simp only [WKb, ↓reduceIte, WKt]) <;> (repeat' ((first
    | (refine G.tr ?_; first | refine S.a ?_ | refine S.t ?_ | refine Tr.brK ?_ ?_ | (refine G.call 20 ?_; first | refine S.c ?_ (h := short64_yes (by assumption)) | refine S.c ?_ (h := short64_no (by assumption))) | (refine G.call 21 ?_; refine S.c ?_ (h := dtext_ok (by assumption) (by assumption))) | refine S.n fun _ => ?_ | refine S.i fun hix => ?_ | (refine S.g fun hb => ?_; (try simp only [hb])) | (refine S.s (fun hb => ?_) (fun hb => ?_) <;> ((try simp only [hb]) <;> (try (have hp := hb; simp only [WKs] at hp; (try have hq := Int.not_le.2 hp); (try have hq := Int.not_lt.2 hp))))))
    | rintro _ _ ⟨rfl, rfl⟩
    | ((fail_if_success refine G.tr ?_); exact G.prop S.p)
    | fail) <;> (try simp only [WKb, ↓reduceIte, Nat.reduceEqDiff, WKt]))))
      all_goals
        refine Tr.fin hK ⟨by rw [hpr], rfl⟩ ?_
        ((try clear hK) <;> (try simp only [WKe, *]) <;> repeat (first | with_reducible exact EntR.done | refine S.e ?_ | (refine S.f ?_ <;> (try simp only [WKe, ↓reduceIte, reduceCtorEq, Int.reduceEq, *])) | with_reducible apply EntR.ex | refine EntR.drop (F := F) ?_ | refine EntR.drop ?_))
  · have hpr : printU c.v = ([], 3) := by unfold printU; exact if_neg fun h => hs h.1
    (refine Tr.enter (rs := [.tmp 2, .tmp 3]) mixed fn8 rfl (by simp +arith [Tryz.ntmps8]) fun u => ?_; simp only [cd8, Tryz.f8])
    ((try simp only [WKb, ↓reduceIte, WKt]) <;> (repeat' ((first
    | (refine G.tr ?_; first | refine S.a ?_ | refine S.t ?_ | refine Tr.brK ?_ ?_ | (refine G.call 20 ?_; first | refine S.c ?_ (h := short64_yes (by assumption)) | refine S.c ?_ (h := short64_no (by assumption))) | (refine G.call 21 ?_; refine S.c ?_ (h := dtext_ok (by assumption) (by assumption))) | refine S.n fun _ => ?_ | refine S.i fun hix => ?_ | (refine S.g fun hb => ?_; (try simp only [hb])) | (refine S.s (fun hb => ?_) (fun hb => ?_) <;> ((try simp only [hb]) <;> (try (have hp := hb; simp only [WKs] at hp; (try have hq := Int.not_le.2 hp); (try have hq := Int.not_lt.2 hp))))))
    | rintro _ _ ⟨rfl, rfl⟩
    | ((fail_if_success refine G.tr ?_); exact G.prop S.p)
    | fail) <;> (try simp only [WKb, ↓reduceIte, Nat.reduceEqDiff]))))
    all_goals
      refine Tr.fin hK ⟨by rw [hpr], rfl⟩ ?_
      ((try clear hK) <;> (try simp only [WKe, *]) <;> repeat (first | with_reducible exact EntR.done | refine S.e ?_ | (refine S.f ?_ <;> (try simp only [WKe, ↓reduceIte, reduceCtorEq, Int.reduceEq, *])) | with_reducible apply EntR.ex | refine EntR.drop (F := F) ?_ | refine EntR.drop ?_))
end Go.Proofs.YtgkhjgpgdfbdpaaGreatDoor
