import Derived.Test.YtgkhjgpgdfbdpaaGreatDoorVdx
import Derived.Test.YtgkhjgpgdfbdpaaGreatDoorXax
import Derived.Test.YtgkhjgpgdfbdpaaGreatDoorXbx
namespace Go.Proofs.YtgkhjgpgdfbdpaaGreatDoor
open Go Go.Wk
set_option maxHeartbeats 6400000
set_option maxRecDepth 100000

/-! ### the document's words of a line -/
attribute [local irreducible] BrK GenK EGenK EUnitK CallK FnK CallV GuardO GuardC CondW opX opK opKc chkR eqR seqK blkK endL WL WD W LoopW BinK Tr drewK resL PickK NotK NilK ExtrK getK Instr.storeAt Instr.loadAt Instr.fieldAt Instr.indexAt Instr.lookup Instr.mapUpdate Instr.box Instr.alloc Instr.build Instr.buildSlice Instr.makeSlice Instr.makeMap Instr.sliceAt Instr.field Instr.index Instr.makeInterface Instr.typeAssert Builtin.len_ Builtin.append_ Builtin.cap_ Builtin.min_ Builtin.max_ Builtin.copy_ Builtin.clear_ convert binOp mp blk rob sl sep ex fact old
attribute [local irreducible] NegK mxV
theorem dwords_ok {s : List UInt8} (hs : s.length ≤ 1000000) : Trip Tryz.prog 10 [.string (bstr s)].toArray []
    fun v l' => ∃ t : SV, v = .tuple #[.string (bstr (wordsV s).1), t.v, .bool (wordsV s).2.2] ∧ l' = [sl false t.v (wordsV s).2.1] := by
  intro F K hK
  simp only [List.nil_append]
  obtain ⟨w, r, hw0⟩ : ∃ w r, wordsA 32 s = w :: r := by
    cases h : wordsA 32 s with
    | nil => exact absurd h (wordsA_ne _ _)
    | cons w r => exact ⟨w, r, rfl⟩
  have hS : wordsS s = ⟨w⟩ :: r.map Str.mk := by unfold wordsS; rw [hw0]; rfl
  have hlen : (wordsS s).length = r.length + 1 := by rw [hS]; simp
  have hx0 : (ix (wordsS s) 0).d = w := by rw [hS]; rfl
  have hxk : ∀ k : Nat, ix (wordsS s) ((k + 1 : Nat) : Int) = ix (r.map Str.mk) (k : Int) := fun k => by rw [hS]; simp [ix]
  have hwl : w.length ≤ 1000000 := Nat.le_trans (words_bound (c := 32) (s := s) (w := w) (by rw [hw0]; exact List.mem_cons_self ..)) hs
  have hrl : ∀ k : Nat, k < r.length → (ix (wordsS s) ((k + 1 : Nat) : Int)).d.length ≤ 1000000 := fun k hk => by
    rw [hxk, ixS_map hk]
    exact Nat.le_trans (words_bound (c := 32) (s := s) (by rw [hw0]; exact List.mem_cons_of_mem _ (List.getElem_mem hk))) hs
  have hcnt : r.length ≤ 1000000 := by
    have h1 := words_len (c := 32) s
    rw [hw0, List.length_cons] at h1
    have h2 := List.count_le_length (a := (32 : UInt8)) (l := s)
    omega
  have fin0 : ∀ l : List Asrt, wordsV s = ([], [], false) → EntR [] l F → Tr l (K (.tuple #[.string (bstr []), .slice none 0 0, .bool false])) := fun l h he => by
    refine Tr.nilSl (α := Int) ?_
    refine Tr.fin hK ⟨⟨none, 0, 0⟩, by rw [h]; rfl, rfl⟩ ?_
    rw [h]
    refine EntR.take TakeA.here ?_
    exact he
  (refine Tr.enter (rs := [.tmp 2, .tmp 3, .tmp 4]) mixed fn10 rfl (by simp +arith [Tryz.ntmps10]) fun u => ?_; simp only [cd10, Tryz.f10])
  by_cases he : w = []
  · have hno := wordsV_no hw0 (fun h => h.1 he)
    have hl0 : w.length = 0 := by rw [he]; rfl
    ((try simp only [WKb, ↓reduceIte, Nat.reduceEqDiff, WKt]) <;> (repeat' ((first
    | (refine G.tr ?_; first | refine S.a ?_ | refine S.t ?_ | refine Tr.brK ?_ ?_ | (refine G.call 25 ?_; refine S.c ?_ (h := wordsR_ok ?_)) | (refine G.call 26 ?_; refine S.c ?_ (h := number10_ok ?_)) | refine S.n fun _ => ?_ | refine S.i fun hix => ?_ | (refine S.g fun hb => ?_; (try simp only [hb])) | (refine S.s (fun hb => ?_) (fun hb => ?_) <;> ((try simp only [hb]) <;> (try (have hp := hb; simp only [WKs] at hp; (try have hq := Int.not_le.2 hp); (try have hq := Int.not_lt.2 hp))))))
    | rintro _ _ ⟨_, rfl, rfl⟩
    | rintro _ _ ⟨_, hi64, hnum, rfl, rfl⟩
    | ((fail_if_success refine G.tr ?_); exact G.prop S.p)
    | fail) <;> (try simp only [WKb, ↓reduceIte, Nat.reduceEqDiff, WKt, hx0]))))
    all_goals
      refine fin0 _ hno ?_
      ((try clear hK) <;> (try simp only [*]) <;> repeat (first | with_reducible exact EntR.done | refine S.e ?_ | (refine S.f ?_ <;> (try simp only [WKe, ↓reduceIte, reduceCtorEq, Int.reduceEq, *])) | with_reducible apply EntR.ex | refine EntR.drop (F := F) ?_ | refine EntR.drop ?_))
  · have hl0 : 0 < w.length := List.length_pos_iff.2 he
    ((try simp only [WKb, ↓reduceIte, Nat.reduceEqDiff, WKt]) <;> (repeat' ((first
    | (refine G.tr ?_; first | refine S.a ?_ | refine S.t ?_ | refine Tr.brK ?_ ?_ | (refine G.call 25 ?_; refine S.c ?_ (h := wordsR_ok ?_)) | (refine G.call 26 ?_; refine S.c ?_ (h := number10_ok ?_)) | refine S.n fun _ => ?_ | refine S.i fun hix => ?_ | (refine S.g fun hb => ?_; (try simp only [hb])) | (refine S.s (fun hb => ?_) (fun hb => ?_) <;> ((try simp only [hb]) <;> (try (have hp := hb; simp only [WKs] at hp; (try have hq := Int.not_le.2 hp); (try have hq := Int.not_lt.2 hp))))))
    | rintro _ _ ⟨_, rfl, rfl⟩
    | rintro _ _ ⟨_, hi64, hnum, rfl, rfl⟩
    | ((fail_if_success refine G.tr ?_); exact G.prop S.p)
    | fail) <;> (try simp only [WKb, ↓reduceIte, WKt, hx0]))))
    rename_i wv
    refine Tr.loopE (α := Nat) [2, 3, 4, 6] [5] (fun k => [.string (bstr []), .slice none 0 0, .bool false, .int .i64 k]) (fun _ => [sl false wv.v (wordsS s)]) (fun k => k ≤ w.length ∧ ∀ j : Nat, j < k → 97 ≤ (bix w (j : Int)).toNat ∧ (bix w (j : Int)).toNat ≤ 122) (fun k => w.length - k) 0 (by (repeat (first | exact TakeL.nil | (apply TakeL.cons; focus ((first | exact TakeA.dupS | exact TakeA.dupF | ((repeat (first | with_reducible exact TakeA.here | exact TakeA.fam (by omega) (by omega) | with_reducible apply TakeA.next)); done) | ((repeat (first | exact TakeA.here | apply TakeA.next)); done) | exact TakeA.famNil | exact TakeA.nilS))) | fail)); done) rfl ⟨Nat.zero_le _, fun j hj => by omega⟩ fun k u hx => ?_
    obtain ⟨hk, hI⟩ := hx
    have hw := wrapSucc (k := k) (by omega)
    by_cases hin : k < w.length
    · by_cases hb : 97 ≤ (bix w (k : Int)).toNat ∧ (bix w (k : Int)).toNat ≤ 122
      · obtain ⟨hb1, hb2⟩ := id hb
        have hI' : ∀ j : Nat, j < k + 1 → 97 ≤ (bix w (j : Int)).toNat ∧ (bix w (j : Int)).toNat ≤ 122 := fun j hj => by
          by_cases e : j = k
          · subst e; exact hb
          · exact hI j (by omega)
        ((try simp only [WKb, ↓reduceIte, Nat.reduceEqDiff]) <;> (repeat' ((first
    | (refine G.tr ?_; first | refine S.a ?_ | refine S.t ?_ | refine Tr.brK ?_ ?_ | (refine G.call 25 ?_; refine S.c ?_ (h := wordsR_ok ?_)) | (refine G.call 26 ?_; refine S.c ?_ (h := number10_ok ?_)) | refine S.n fun _ => ?_ | refine S.i fun hix => ?_ | (refine S.g fun hb => ?_; (try simp only [hb])) | (refine S.s (fun hb => ?_) (fun hb => ?_) <;> ((try simp only [hb]) <;> (try (have hp := hb; simp only [WKs] at hp; (try have hq := Int.not_le.2 hp); (try have hq := Int.not_lt.2 hp))))))
    | rintro _ _ ⟨_, rfl, rfl⟩
    | rintro _ _ ⟨_, hi64, hnum, rfl, rfl⟩
    | ((fail_if_success refine G.tr ?_); exact G.prop S.p)
    | fail) <;> (try simp only [WKb, ↓reduceIte, Nat.reduceEqDiff, WKt, hw, hx0]))))
        all_goals
          clear hI
          (apply Tr.againE (k + 1); (focus (simp only [WKb, ↓reduceIte, Nat.reduceEqDiff])); (focus ((try simp only [WKb, ↓reduceIte, Nat.reduceEqDiff]); (all_goals ((repeat (refine cons_eq (by first | rfl | (simp [*]; done)) ?_)); rfl)); done)); (focus (first | omega | assumption | (simp only []; omega) | (refine ⟨by omega, by assumption⟩) | (simp only []; refine ⟨by omega, by assumption⟩) | ((try simp only []); (repeat' (first | omega | assumption | apply hI' | refine And.intro ?_ ?_)); done))); (focus (first | omega | (simp only []; omega))); (focus (((try clear hK) <;> (try simp only [WKe, *]) <;> repeat (first | with_reducible exact EntR.done | refine S.e ?_ | (refine S.f ?_ <;> (try simp only [WKe, ↓reduceIte, reduceCtorEq, Int.reduceEq, *])) | with_reducible apply EntR.ex | refine EntR.drop (F := F) ?_ | refine EntR.drop ?_)))))
      · have hno := wordsV_no hw0 (fun h => hb (by
          have := h.2 (bix w (k : Int)) (by rw [bix_nat hin]; exact List.getElem_mem hin)
          exact this))
        ((try simp only [WKb, ↓reduceIte, Nat.reduceEqDiff]) <;> (repeat' ((first
    | (refine G.tr ?_; first | refine S.a ?_ | refine S.t ?_ | refine Tr.brK ?_ ?_ | (refine G.call 25 ?_; refine S.c ?_ (h := wordsR_ok ?_)) | (refine G.call 26 ?_; refine S.c ?_ (h := number10_ok ?_)) | refine S.n fun _ => ?_ | refine S.i fun hix => ?_ | (refine S.g fun hb => ?_; (try simp only [hb])) | (refine S.s (fun hb => ?_) (fun hb => ?_) <;> ((try simp only [hb]) <;> (try (have hp := hb; simp only [WKs] at hp; (try have hq := Int.not_le.2 hp); (try have hq := Int.not_lt.2 hp))))))
    | rintro _ _ ⟨_, rfl, rfl⟩
    | rintro _ _ ⟨_, hi64, hnum, rfl, rfl⟩
    | ((fail_if_success refine G.tr ?_); exact G.prop S.p)
    | fail) <;> (try simp only [WKb, ↓reduceIte, Nat.reduceEqDiff, WKt, hx0]))))
        all_goals
          refine fin0 _ hno ?_
          ((try clear hK) <;> (try simp only [*]) <;> repeat (first | with_reducible exact EntR.done | refine S.e ?_ | (refine S.f ?_ <;> (try simp only [WKe, ↓reduceIte, reduceCtorEq, Int.reduceEq, *])) | with_reducible apply EntR.ex | refine EntR.drop (F := F) ?_ | refine EntR.drop ?_))
    · have hlo : lowU w := ⟨he, fun b hb => by
        obtain ⟨j, hj, e⟩ := List.getElem_of_mem hb
        have := hI j (by omega)
        rw [bix_nat hj, e] at this
        exact this⟩
      clear hI
      ((try simp only [WKb, ↓reduceIte, Nat.reduceEqDiff]) <;> (repeat' ((first
    | (refine G.tr ?_; first | refine S.a ?_ | refine S.t ?_ | refine Tr.brK ?_ ?_ | (refine G.call 25 ?_; refine S.c ?_ (h := wordsR_ok ?_)) | (refine G.call 26 ?_; refine S.c ?_ (h := number10_ok ?_)) | refine S.n fun _ => ?_ | refine S.i fun hix => ?_ | (refine S.g fun hb => ?_; (try simp only [hb])) | (refine S.s (fun hb => ?_) (fun hb => ?_) <;> ((try simp only [hb]) <;> (try (have hp := hb; simp only [WKs] at hp; (try have hq := Int.not_le.2 hp); (try have hq := Int.not_lt.2 hp))))))
    | rintro _ _ ⟨_, rfl, rfl⟩
    | rintro _ _ ⟨_, hi64, hnum, rfl, rfl⟩
    | ((fail_if_success refine G.tr ?_); exact G.prop S.p)
    | fail) <;> (try simp only [WKb, ↓reduceIte, Nat.reduceEqDiff, WKt, hx0]))))
      refine Tr.nilSl (α := Int) ?_
      refine Tr.loopE (α := List Int × SV) [2, 3, 4, 7, 8] [5] (fun x => [.string (bstr []), .slice none 0 0, .bool false, x.2.v, .int .i64 (x.1.length + 1 : Nat)]) (fun x => [sl false x.2.v x.1, sl false wv.v (wordsS s)])
        (fun x => numsU (r.take x.1.length) = some x.1 ∧ x.1.length ≤ r.length) (fun x => r.length - x.1.length) ([], ⟨none, 0, 0⟩) (by (repeat (first | exact TakeL.nil | (apply TakeL.cons; focus ((first | exact TakeA.dupS | exact TakeA.dupF | ((repeat (first | with_reducible exact TakeA.here | exact TakeA.fam (by omega) (by omega) | with_reducible apply TakeA.next)); done) | ((repeat (first | exact TakeA.here | apply TakeA.next)); done) | exact TakeA.famNil | exact TakeA.nilS))) | fail)); done) rfl ⟨rfl, Nat.zero_le _⟩ fun x u hx => ?_
      obtain ⟨l, p⟩ := x
      simp only at hx ⊢
      obtain ⟨hI, hlr⟩ := hx
      by_cases hin : l.length < r.length
      · have hw := wrapSucc (k := l.length + 1) (by omega)
        have hb := hrl l.length hin
        cases hn : numA (ix (wordsS s) ((l.length + 1 : Nat) : Int)).d with
        | none =>
          have hno := wordsV_bad hw0 (numsU_bad (w := r[l.length]) (by rw [← ixS_map hin, ← hxk]; exact hn) (List.getElem_mem hin))
          have hnb : (numA (ix (wordsS s) ((l.length + 1 : Nat) : Int)).d).isSome = false := by rw [hn]; rfl
          ((try simp only [WKb, ↓reduceIte, Nat.reduceEqDiff]) <;> (repeat' ((first
    | (refine G.tr ?_; first | refine S.a ?_ | refine S.t ?_ | refine Tr.brK ?_ ?_ | (refine G.call 25 ?_; refine S.c ?_ (h := wordsR_ok ?_)) | (refine G.call 26 ?_; refine S.c ?_ (h := number10_ok ?_)) | refine S.n fun _ => ?_ | refine S.i fun hix => ?_ | (refine S.g fun hb => ?_; (try simp only [hb])) | (refine S.s (fun hb => ?_) (fun hb => ?_) <;> ((try simp only [hb]) <;> (try (have hp := hb; simp only [WKs] at hp; (try have hq := Int.not_le.2 hp); (try have hq := Int.not_lt.2 hp))))))
    | rintro _ _ ⟨_, rfl, rfl⟩
    | rintro _ _ ⟨_, hi64, hnum, rfl, rfl⟩
    | ((fail_if_success refine G.tr ?_); exact G.prop S.p)
    | fail) <;> (try simp only [WKb, ↓reduceIte, Nat.reduceEqDiff, hlen, hnb]))))
          all_goals
            refine fin0 _ hno ?_
            ((try clear hK) <;> (try simp only [*]) <;> repeat (first | with_reducible exact EntR.done | refine S.e ?_ | (refine S.f ?_ <;> (try simp only [WKe, ↓reduceIte, reduceCtorEq, Int.reduceEq, *])) | with_reducible apply EntR.ex | refine EntR.drop (F := F) ?_ | refine EntR.drop ?_))
        | some n =>
          have hnb : (numA (ix (wordsS s) ((l.length + 1 : Nat) : Int)).d).isSome = true := by rw [hn]; rfl
          have hnx : numsU (r.take (l ++ [n]).length) = some (l ++ [n]) := by
            rw [List.length_append, List.length_singleton, List.take_succ_eq_append_getElem hin]
            exact numsU_snoc (by rw [← ixS_map hin, ← hxk]; exact hn) hI
          have hln : (l ++ [n]).length = l.length + 1 := by simp
          have hlx : (l ++ [n]).length ≤ r.length := by omega
          ((try simp only [WKb, ↓reduceIte, Nat.reduceEqDiff]) <;> (repeat' ((first
    | (refine G.tr ?_; first | refine S.a ?_ | refine S.t ?_ | refine Tr.brK ?_ ?_ | (refine G.call 25 ?_; refine S.c ?_ (h := wordsR_ok ?_)) | (refine G.call 26 ?_; refine S.c ?_ (h := number10_ok ?_)) | refine S.n fun _ => ?_ | refine S.i fun hix => ?_ | (refine S.g fun hb => ?_; (try simp only [hb])) | (refine S.s (fun hb => ?_) (fun hb => ?_) <;> ((try simp only [hb]) <;> (try (have hp := hb; simp only [WKs] at hp; (try have hq := Int.not_le.2 hp); (try have hq := Int.not_lt.2 hp))))))
    | rintro _ _ ⟨_, rfl, rfl⟩
    | rintro _ _ ⟨_, hi64, hnum, rfl, rfl⟩
    | ((fail_if_success refine G.tr ?_); exact G.prop S.p)
    | fail) <;> (try simp only [WKb, ↓reduceIte, Nat.reduceEqDiff, hw, hlen, hnb]))))
          all_goals
            have hv := hnum _ hn
            subst hv
            clear hI
            (apply Tr.againE ((l ++ [_], _)); (focus (simp only [WKb, ↓reduceIte, Nat.reduceEqDiff])); (focus ((try simp only [WKb, ↓reduceIte, Nat.reduceEqDiff]); (all_goals ((repeat (refine cons_eq (by first | rfl | ((try clear hK) <;> first | (simp [*]; done) | (simp [*, hln]; omega) | (simp [*, hln] <;> (try split) <;> simp_all <;> omega))) ?_)); rfl)); done)); (focus (first | omega | assumption | (simp only []; omega) | (refine ⟨by omega, by assumption⟩) | (simp only []; refine ⟨by omega, by assumption⟩) | ((try simp only []); (repeat' (first | omega | assumption | apply hnx | apply hlx | refine And.intro ?_ ?_)); done))); (focus (first | omega | (simp only []; omega))); (focus (((try clear hK) <;> (try simp only [WKe, *]) <;> repeat (first | with_reducible exact EntR.done | refine S.e ?_ | (refine S.f ?_ <;> (try simp only [WKe, hln, ↓reduceIte, reduceCtorEq, Int.reduceEq, *])) | with_reducible apply EntR.ex | refine EntR.drop (F := F) ?_ | refine EntR.drop ?_)))))
      · have hle : l.length = r.length := by omega
        have hfin := wordsV_yes hw0 hlo (show numsU r = some l by rw [hle, List.take_length] at hI; exact hI)
        ((try simp only [WKb, ↓reduceIte, Nat.reduceEqDiff]) <;> (repeat' ((first
    | (refine G.tr ?_; first | refine S.a ?_ | refine S.t ?_ | refine Tr.brK ?_ ?_ | (refine G.call 25 ?_; refine S.c ?_ (h := wordsR_ok ?_)) | (refine G.call 26 ?_; refine S.c ?_ (h := number10_ok ?_)) | refine S.n fun _ => ?_ | refine S.i fun hix => ?_ | (refine S.g fun hb => ?_; (try simp only [hb])) | (refine S.s (fun hb => ?_) (fun hb => ?_) <;> ((try simp only [hb]) <;> (try (have hp := hb; simp only [WKs] at hp; (try have hq := Int.not_le.2 hp); (try have hq := Int.not_lt.2 hp))))))
    | rintro _ _ ⟨_, rfl, rfl⟩
    | rintro _ _ ⟨_, hi64, hnum, rfl, rfl⟩
    | ((fail_if_success refine G.tr ?_); exact G.prop S.p)
    | fail) <;> (try simp only [WKb, ↓reduceIte, Nat.reduceEqDiff, hlen, hx0]))))
        all_goals
          refine Tr.fin hK ⟨p, by rw [hfin], rfl⟩ ?_
          rw [hfin]
          ((try clear hK) <;> (try simp only [WKe, *]) <;> repeat (first | with_reducible exact EntR.done | refine S.e ?_ | (refine S.f ?_ <;> (try simp only [WKe, ↓reduceIte, reduceCtorEq, Int.reduceEq, *])) | with_reducible apply EntR.ex | refine EntR.drop (F := F) ?_ | refine EntR.drop ?_))

end Go.Proofs.YtgkhjgpgdfbdpaaGreatDoor
