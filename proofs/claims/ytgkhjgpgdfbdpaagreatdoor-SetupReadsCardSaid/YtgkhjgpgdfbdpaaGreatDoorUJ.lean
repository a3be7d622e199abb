import Derived.Test.YtgkhjgpgdfbdpaaGreatDoorUbx
import Derived.Test.YtgkhjgpgdfbdpaaGreatDoorYS
import Derived.Test.YtgkhjgpgdfbdpaaGreatDoorXS
import Derived.Test.YtgkhjgpgdfbdpaaGreatDoorSt
import Derived.Shelf.Strings.SlTrimAscii
namespace Go.Proofs.YtgkhjgpgdfbdpaaGreatDoor
open Go Go.Wk Go.RowKit
set_option maxHeartbeats 6400000
set_option maxRecDepth 100000

/-! ### a line's words -/
instance : ElT 73 Str := ⟨⟩
instance : ElT 29 Int := ⟨⟩
theorem trip_trimAll {P : Program} {f : Nat} {cs : List UInt8} (hc : ∀ (s : ByteArray) (w : World), s.size ≤ 9223372036854775807 → Calls P f #[.string s, .string (bstr cs)] w fun e w' => e = .returned (.string ⟨(Lib.trimS s.data.toList cs).toArray⟩) ∧ Below w.heap.size w w')
    {s : List UInt8} (hs : s.length ≤ 1000000) : Trip P f [.string (bstr s), .string (bstr cs)].toArray [] fun v l' => v = .string (bstr (Lib.trimS s cs)) ∧ l' = [] := by
  intro F K hK
  refine Tr.ofCalls fun w hw => (hc (bstr s) w (by rw [bstr_size]; omega)).mono fun e w' ⟨he, hw'⟩ => ⟨_, he, ?_⟩
  refine hK _ _ ⟨?_, rfl⟩ w' (hw.below hw')
  rw [bstr_data]; rfl
def lettersU : List UInt8 := [97, 98, 99, 100, 101, 102, 103, 104, 105, 106, 107, 108, 109, 110, 111, 112, 113, 114, 115, 116, 117, 118, 119, 120, 121, 122]
theorem letter_is (b : UInt8) : lettersU.contains b = true ↔ 97 ≤ b.toNat ∧ b.toNat ≤ 122 := by
  have h : ∀ n, n < 256 → (lettersU.contains (UInt8.ofNat n) = true ↔ 97 ≤ n ∧ n ≤ 122) := by decide +kernel
  have := h b.toNat b.toNat_lt
  rwa [UInt8.ofNat_toNat] at this
theorem dropW_nil {α : Type} {p : α → Bool} : ∀ m : List α, m.dropWhile p = [] ↔ ∀ x ∈ m, p x = true
  | [] => by simp
  | a :: m => by
    rw [List.dropWhile_cons]
    by_cases hp : p a = true
    · rw [if_pos hp, dropW_nil m]
      simp [hp]
    · rw [if_neg hp]
      simp [hp]
theorem drop_all {α : Type} {p : α → Bool} : ∀ m : List α, (∀ x ∈ m.dropWhile p, p x = true) → m.dropWhile p = []
  | [], _ => rfl
  | a :: m, h => by
    rw [List.dropWhile_cons] at h ⊢
    by_cases hp : p a = true
    · rw [if_pos hp] at h ⊢
      exact drop_all m h
    · rw [if_neg hp] at h
      exact absurd (h a (List.mem_cons_self ..)) hp
theorem trim_nil {w cs : List UInt8} : Lib.trimS w cs = [] ↔ ∀ b ∈ w, cs.contains b = true := by
  unfold Lib.trimS Lib.trimLeftS Lib.trimRightS
  constructor
  · intro h
    rw [dropW_nil] at h
    have h2 := drop_all w.reverse fun x hx => h x (List.mem_reverse.2 hx)
    rw [dropW_nil] at h2
    exact fun b hb => h2 b (List.mem_reverse.2 hb)
  · intro h
    have h2 : w.reverse.dropWhile (cs.contains ·) = [] := (dropW_nil _).2 fun x hx => h x (List.mem_reverse.1 hx)
    rw [h2]
    rfl
theorem low_trim {w : List UInt8} (hw : w ≠ []) : lowU w ↔ Lib.trimS w lettersU = [] := by
  rw [trim_nil]
  constructor
  · exact fun h b hb => (letter_is b).2 (h.2 b hb)
  · exact fun h => ⟨hw, fun b hb => (letter_is b).1 (h b hb)⟩
theorem utrim_ok {s : List UInt8} (hs : s.length ≤ 1000000) : Trip Tryz.prog 23 [.string (bstr s), .string (bstr [97, 98, 99, 100, 101, 102, 103, 104, 105, 106, 107, 108, 109, 110, 111, 112, 113, 114, 115, 116, 117, 118, 119, 120, 121, 122])].toArray [] fun v l' => v = .string (bstr (Lib.trimS s lettersU)) ∧ l' = [] :=
  trip_trimAll (fun s w hs => Go.Proofs.Any.strings_Trim_laid Tryz.lays160 (by kernel_rfl) s (bstr lettersU) w hs (by decide) (Go.Proofs.ascii_of_all (by decide))) hs

/-- A line's word, its numbers, and whether it is such. -/
noncomputable def wordsV (s : List UInt8) : List UInt8 × List Int × Bool := match wordsU s with
  | some (w, l) => (w, l, true)
  | none => ([], [], false)
theorem numsU_snoc {w : List UInt8} {n : Int} (hw : numA w = some n) : ∀ {r : List (List UInt8)} {l : List Int}, numsU r = some l → numsU (r ++ [w]) = some (l ++ [n])
  | [], l, h => by
    obtain rfl := Option.some.inj h
    show numsU [w] = some [n]
    simp only [numsU, hw]
  | v :: r, l, h => by
    unfold numsU at h
    cases hv : numA v with
    | none => rw [hv] at h; cases h
    | some m =>
      cases hr : numsU r with
      | none => rw [hv, hr] at h; cases h
      | some q =>
        rw [hv, hr] at h
        obtain rfl := Option.some.inj h
        have := numsU_snoc hw hr
        simp only [List.cons_append, numsU, hv, this]
theorem numsU_bad {w : List UInt8} (hw : numA w = none) : ∀ {r : List (List UInt8)}, w ∈ r → numsU r = none
  | [], h => by cases h
  | v :: r, h => by
    unfold numsU
    rcases List.mem_cons.1 h with rfl | h
    · rw [hw]
    · rw [numsU_bad hw h]
      cases numA v <;> rfl
theorem numsU_len {r : List (List UInt8)} {l : List Int} (h : numsU r = some l) : l.length = r.length := by
  rw [(numsU_some h).1, List.length_map]
theorem wordsV_no {s w : List UInt8} {r : List (List UInt8)} (h : wordsA 32 s = w :: r) (hl : ¬ lowU w) : wordsV s = ([], [], false) := by
  unfold wordsV wordsU
  rw [h]
  simp only [if_neg hl]
theorem wordsV_bad {s w : List UInt8} {r : List (List UInt8)} (h : wordsA 32 s = w :: r) (hn : numsU r = none) : wordsV s = ([], [], false) := by
  unfold wordsV wordsU
  rw [h]
  simp only [hn]
  split <;> first | rfl | (split at * <;> simp_all)
theorem wordsV_yes {s w : List UInt8} {r : List (List UInt8)} {l : List Int} (h : wordsA 32 s = w :: r) (hl : lowU w) (hn : numsU r = some l) : wordsV s = (w, l, true) := by
  unfold wordsV wordsU
  rw [h]
  simp only [if_pos hl, hn, Option.map_some]
theorem ixS_map {r : List (List UInt8)} {k : Nat} (h : k < r.length) : (ix (r.map Str.mk) (k : Int)).d = r[k] := by simp [ix, h]
attribute [local irreducible] BrK GenK EGenK EUnitK CallK FnK CallV GuardO GuardC CondW opX opK opKc chkR eqR seqK blkK endL WL WD W LoopW BinK Tr drewK resL PickK NotK NilK ExtrK getK Instr.storeAt Instr.loadAt Instr.fieldAt Instr.indexAt Instr.lookup Instr.mapUpdate Instr.box Instr.alloc Instr.build Instr.buildSlice Instr.makeSlice Instr.makeMap Instr.sliceAt Instr.field Instr.index Instr.makeInterface Instr.typeAssert Builtin.len_ Builtin.append_ Builtin.cap_ Builtin.min_ Builtin.max_ Builtin.copy_ Builtin.clear_ convert binOp mp blk rob sl sep ex fact old
attribute [local irreducible] NegK mxV
theorem uwords_ok {s : List UInt8} {m : Int} (hs : s.length ≤ 1000000) : Trip Tryz.prog 9 [.string (bstr s)].toArray [mxB m]
    fun v l' => ∃ t : SV, v = .tuple #[.string (bstr (wordsV s).1), t.v, .bool (wordsV s).2.2] ∧ l' = [sl false t.v (wordsV s).2.1] := by
  intro F K hK
  simp only [List.cons_append, List.nil_append]
  obtain ⟨w, r, hw0⟩ : ∃ w r, wordsA 32 s = w :: r := by
    cases h : wordsA 32 s with
    | nil => exact absurd h (wordsA_ne _ _)
    | cons w r => exact ⟨w, r, rfl⟩
  have hS : wordsS s = ⟨w⟩ :: r.map Str.mk := by unfold wordsS; rw [hw0]; rfl
  have hlen : (wordsS s).length = r.length + 1 := by rw [hS]; simp
  have hx0 : (ix (wordsS s) 0).d = w := by rw [hS]; rfl
  have hdr : (wordsS s).drop (Int.toNat 1) = r.map Str.mk := by rw [hS]; rfl
  have hwl : w.length ≤ 1000000 := Nat.le_trans (words_bound (c := 32) (s := s) (w := w) (by rw [hw0]; exact List.mem_cons_self ..)) hs
  have hrl : ∀ k : Nat, k < r.length → (ix (r.map Str.mk) (k : Int)).d.length ≤ 1000000 := fun k hk => by
    rw [ixS_map hk]
    exact Nat.le_trans (words_bound (c := 32) (s := s) (by rw [hw0]; exact List.mem_cons_of_mem _ (List.getElem_mem hk))) hs
  have hcnt : r.length ≤ 1000000 := by
    have h1 := words_len (c := 32) s
    rw [hw0, List.length_cons] at h1
    have h2 := List.count_le_length (a := (32 : UInt8)) (l := s)
    omega
  have fin0 : ∀ l : List Asrt, wordsV s = ([], [], false) → EntR [] l F → Tr l (K (.tuple #[.string (bstr []), .slice none 0 0, .bool false])) := fun l h he => by
    refine Tr.nilSl (α := Int) ?_
    refine Tr.fin hK ⟨⟨none, 0, 0⟩, by rw [h]; rfl, rfl⟩ ?_
    rw [h]
    refine EntR.take TakeA.here ?_
    exact he
  (refine Tr.enter (rs := [.tmp 2, .tmp 3, .tmp 4]) mixed fn9 rfl (by simp +arith [Tryz.ntmps9]) fun u => ?_; simp only [cd9, Tryz.f9])
  by_cases he : w = []
  · have hno := wordsV_no hw0 (fun h => h.1 he)
    have hd : decide (w = []) = true := decide_eq_true he
    ((try simp only [WKb, ↓reduceIte, Nat.reduceEqDiff, WKt]) <;> (repeat' ((first
    | (refine G.tr ?_; first | refine S.a ?_ | refine S.t ?_ | refine Tr.brK ?_ ?_ | (refine G.call 22 ?_; refine S.c ?_ (h := split_ok ?_)) | (refine G.call 23 ?_; refine S.c ?_ (h := utrim_ok ?_)) | (refine G.call 24 ?_; refine S.c ?_ (h := numberS_ok ?_)) | refine S.n fun _ => ?_ | refine S.i fun hix => ?_ | (refine S.g fun hb => ?_; (try simp only [hb])) | (refine S.s (fun hb => ?_) (fun hb => ?_) <;> ((try simp only [hb]) <;> (try (have hp := hb; simp only [WKs] at hp; (try have hq := Int.not_le.2 hp); (try have hq := Int.not_lt.2 hp))))))
    | rintro _ _ ⟨rfl, rfl⟩
    | rintro _ _ ⟨_, rfl, rfl⟩
    | rintro _ _ ⟨_, hi64, hnum, rfl, rfl⟩
    | ((fail_if_success refine G.tr ?_); exact G.prop S.p)
    | fail) <;> (try simp only [WKb, WKh, ↓reduceIte, Nat.reduceEqDiff, hx0, hd]))))
    all_goals
      refine fin0 _ hno ?_
      ((try clear hK) <;> (try simp only [*]) <;> repeat (first | with_reducible exact EntR.done | refine S.e ?_ | (refine S.f ?_ <;> (try simp only [WKe, ↓reduceIte, reduceCtorEq, Int.reduceEq, *])) | with_reducible apply EntR.ex | refine EntR.drop (F := F) ?_ | refine EntR.drop ?_))
  · have hd : decide (w = []) = false := decide_eq_false he
    by_cases hl : lowU w
    · have ht := (low_trim he).1 hl
      ((try simp only [WKb, ↓reduceIte, Nat.reduceEqDiff, WKt]) <;> (repeat' ((first
    | (refine G.tr ?_; first | refine S.a ?_ | refine S.t ?_ | refine Tr.brK ?_ ?_ | (refine G.call 22 ?_; refine S.c ?_ (h := split_ok ?_)) | (refine G.call 23 ?_; refine S.c ?_ (h := utrim_ok ?_)) | (refine G.call 24 ?_; refine S.c ?_ (h := numberS_ok ?_)) | refine S.n fun _ => ?_ | refine S.i fun hix => ?_ | (refine S.g fun hb => ?_; (try simp only [hb])) | (refine S.s (fun hb => ?_) (fun hb => ?_) <;> ((try simp only [hb]) <;> (try (have hp := hb; simp only [WKs] at hp; (try have hq := Int.not_le.2 hp); (try have hq := Int.not_lt.2 hp))))))
    | rintro _ _ ⟨rfl, rfl⟩
    | rintro _ _ ⟨_, rfl, rfl⟩
    | rintro _ _ ⟨_, hi64, hnum, rfl, rfl⟩
    | ((fail_if_success refine G.tr ?_); exact G.prop S.p)
    | fail) <;> (try simp only [WKb, WKh, ↓reduceIte, Nat.reduceEqDiff, hx0, hd, ht]))))
      refine Tr.freezeAt (α := Str) (xs := wordsS s) (by (repeat (first | exact TakeA.here | apply TakeA.next)); done) ?_
      ((try simp only [WKb, WKh, ↓reduceIte, Nat.reduceEqDiff, Nat.reduceAdd, Nat.reduceSub, Int.reduceEq, Int.reduceLT, Int.reduceLE, WKt, pl9, hdr]) <;> (repeat' ((first
    | (refine G.tr ?_; first | refine S.a ?_ | refine S.t ?_ | refine Tr.brK ?_ ?_ | (refine G.call 22 ?_; refine S.c ?_ (h := split_ok ?_)) | (refine G.call 23 ?_; refine S.c ?_ (h := utrim_ok ?_)) | (refine G.call 24 ?_; refine S.c ?_ (h := numberS_ok ?_)) | refine S.n fun _ => ?_ | refine S.i fun hix => ?_ | (refine S.g fun hb => ?_; (try simp only [hb])) | (refine S.s (fun hb => ?_) (fun hb => ?_) <;> ((try simp only [hb]) <;> (try (have hp := hb; simp only [WKs] at hp; (try have hq := Int.not_le.2 hp); (try have hq := Int.not_lt.2 hp))))))
    | rintro _ _ ⟨rfl, rfl⟩
    | rintro _ _ ⟨_, rfl, rfl⟩
    | rintro _ _ ⟨_, hi64, hnum, rfl, rfl⟩
    | ((fail_if_success refine G.tr ?_); exact G.prop S.p)
    | fail) <;> (try simp only [WKb, ↓reduceIte, hdr]))))
      rename_i wv h1 xv
      refine Tr.nilSl (α := Int) ?_
      refine Tr.loopE (α := List Int × SV) [2, 3, 4, 6, 27] [5, 25, 26] (fun x => [.string (bstr []), .slice none 0 0, .bool false, x.2.v, .int .i64 x.1.length]) (fun x => [sl false x.2.v x.1])
        (fun x => numsU (r.take x.1.length) = some x.1 ∧ x.1.length ≤ r.length) (fun x => r.length - x.1.length) ([], ⟨none, 0, 0⟩) (by (repeat (first | exact TakeL.nil | (apply TakeL.cons; focus ((first | exact TakeA.dupS | exact TakeA.dupF | ((repeat (first | with_reducible exact TakeA.here | exact TakeA.fam (by omega) (by omega) | with_reducible apply TakeA.next)); done) | ((repeat (first | exact TakeA.here | apply TakeA.next)); done) | exact TakeA.famNil | exact TakeA.nilS))) | fail)); done) rfl ⟨rfl, Nat.zero_le _⟩ fun x u hx => ?_
      obtain ⟨l, p⟩ := x
      simp only at hx ⊢
      obtain ⟨hI, hlr⟩ := hx
      by_cases hin : l.length < r.length
      · have hw := wrapSucc (k := l.length) (by omega)
        have hb := hrl l.length hin
        cases hn : numA (ix (r.map Str.mk) (l.length : Int)).d with
        | none =>
          have hno := wordsV_bad hw0 (numsU_bad (w := r[l.length]) (by rw [← ixS_map hin]; exact hn) (List.getElem_mem hin))
          have hnb : (numA (ix (r.map Str.mk) (l.length : Int)).d).isSome = false := by rw [hn]; rfl
          ((try simp only [WKb, ↓reduceIte, Nat.reduceEqDiff]) <;> (repeat' ((first
    | (refine G.tr ?_; first | refine S.a ?_ | refine S.t ?_ | refine Tr.brK ?_ ?_ | (refine G.call 22 ?_; refine S.c ?_ (h := split_ok ?_)) | (refine G.call 23 ?_; refine S.c ?_ (h := utrim_ok ?_)) | (refine G.call 24 ?_; refine S.c ?_ (h := numberS_ok ?_)) | refine S.n fun _ => ?_ | refine S.i fun hix => ?_ | (refine S.g fun hb => ?_; (try simp only [hb])) | (refine S.s (fun hb => ?_) (fun hb => ?_) <;> ((try simp only [hb]) <;> (try (have hp := hb; simp only [WKs] at hp; (try have hq := Int.not_le.2 hp); (try have hq := Int.not_lt.2 hp))))))
    | rintro _ _ ⟨rfl, rfl⟩
    | rintro _ _ ⟨_, rfl, rfl⟩
    | rintro _ _ ⟨_, hi64, hnum, rfl, rfl⟩
    | ((fail_if_success refine G.tr ?_); exact G.prop S.p)
    | fail) <;> (try simp only [WKb, ↓reduceIte, Nat.reduceEqDiff, hnb]))))
          all_goals
            refine fin0 _ hno ?_
            ((try clear hK) <;> (try simp only [*]) <;> repeat (first | with_reducible exact EntR.done | refine S.e ?_ | (refine S.f ?_ <;> (try simp only [WKe, ↓reduceIte, reduceCtorEq, Int.reduceEq, *])) | with_reducible apply EntR.ex | refine EntR.drop (F := F) ?_ | refine EntR.drop ?_))
        | some n =>
          have hnb : (numA (ix (r.map Str.mk) (l.length : Int)).d).isSome = true := by rw [hn]; rfl
          have hnx : numsU (r.take (l ++ [n]).length) = some (l ++ [n]) := by
            rw [List.length_append, List.length_singleton, List.take_succ_eq_append_getElem hin]
            exact numsU_snoc (by rw [← ixS_map hin]; exact hn) hI
          have hln : (l ++ [n]).length = l.length + 1 := by simp
          have hlx : (l ++ [n]).length ≤ r.length := by omega
          ((try simp only [WKb, ↓reduceIte, Nat.reduceEqDiff]) <;> (repeat' ((first
    | (refine G.tr ?_; first | refine S.a ?_ | refine S.t ?_ | refine Tr.brK ?_ ?_ | (refine G.call 22 ?_; refine S.c ?_ (h := split_ok ?_)) | (refine G.call 23 ?_; refine S.c ?_ (h := utrim_ok ?_)) | (refine G.call 24 ?_; refine S.c ?_ (h := numberS_ok ?_)) | refine S.n fun _ => ?_ | refine S.i fun hix => ?_ | (refine S.g fun hb => ?_; (try simp only [hb])) | (refine S.s (fun hb => ?_) (fun hb => ?_) <;> ((try simp only [hb]) <;> (try (have hp := hb; simp only [WKs] at hp; (try have hq := Int.not_le.2 hp); (try have hq := Int.not_lt.2 hp))))))
    | rintro _ _ ⟨rfl, rfl⟩
    | rintro _ _ ⟨_, rfl, rfl⟩
    | rintro _ _ ⟨_, hi64, hnum, rfl, rfl⟩
    | ((fail_if_success refine G.tr ?_); exact G.prop S.p)
    | fail) <;> (try simp only [WKb, ↓reduceIte, Nat.reduceEqDiff, hw, hnb]))))
          all_goals
            have hv := hnum _ hn
            subst hv
            (apply Tr.againE ((l ++ [_], _)); (focus (simp only [WKb, ↓reduceIte, Nat.reduceEqDiff])); (focus ((try simp only [WKb, ↓reduceIte, Nat.reduceEqDiff]); (all_goals ((repeat (refine cons_eq (by first | rfl | ((try clear hK) <;> first | (simp [*]; done) | (simp [*, hln]; omega) | (simp [*, hln] <;> (try split) <;> simp_all <;> omega))) ?_)); rfl)); done)); (focus (first | omega | assumption | (simp only []; omega) | (refine ⟨by omega, by assumption⟩) | (simp only []; refine ⟨by omega, by assumption⟩) | ((try simp only []); (repeat' (first | omega | assumption | apply hnx | apply hlx | refine And.intro ?_ ?_)); done))); (focus (first | omega | (simp only []; omega))); (focus (((try clear hK) <;> (try simp only [WKe, *]) <;> repeat (first | with_reducible exact EntR.done | refine S.e ?_ | (refine S.f ?_ <;> (try simp only [WKe, hln, ↓reduceIte, reduceCtorEq, Int.reduceEq, *])) | with_reducible apply EntR.ex | refine EntR.drop (F := F) ?_ | refine EntR.drop ?_)))))
      · have hle : l.length = r.length := by omega
        have hfin := wordsV_yes hw0 hl (show numsU r = some l by rw [hle, List.take_length] at hI; exact hI)
        ((try simp only [WKb, ↓reduceIte, Nat.reduceEqDiff]) <;> (repeat' ((first
    | (refine G.tr ?_; first | refine S.a ?_ | refine S.t ?_ | refine Tr.brK ?_ ?_ | (refine G.call 22 ?_; refine S.c ?_ (h := split_ok ?_)) | (refine G.call 23 ?_; refine S.c ?_ (h := utrim_ok ?_)) | (refine G.call 24 ?_; refine S.c ?_ (h := numberS_ok ?_)) | refine S.n fun _ => ?_ | refine S.i fun hix => ?_ | (refine S.g fun hb => ?_; (try simp only [hb])) | (refine S.s (fun hb => ?_) (fun hb => ?_) <;> ((try simp only [hb]) <;> (try (have hp := hb; simp only [WKs] at hp; (try have hq := Int.not_le.2 hp); (try have hq := Int.not_lt.2 hp))))))
    | rintro _ _ ⟨rfl, rfl⟩
    | rintro _ _ ⟨_, rfl, rfl⟩
    | rintro _ _ ⟨_, hi64, hnum, rfl, rfl⟩
    | ((fail_if_success refine G.tr ?_); exact G.prop S.p)
    | fail) <;> (try simp only [WKb, ↓reduceIte, Nat.reduceEqDiff, hx0]))))
        all_goals
          refine Tr.fin hK ⟨p, by rw [hfin], rfl⟩ ?_
          rw [hfin]
          ((try clear hK) <;> (try simp only [WKe, *]) <;> repeat (first | with_reducible exact EntR.done | refine S.e ?_ | (refine S.f ?_ <;> (try simp only [WKe, ↓reduceIte, reduceCtorEq, Int.reduceEq, *])) | with_reducible apply EntR.ex | refine EntR.drop (F := F) ?_ | refine EntR.drop ?_))
    · have hno := wordsV_no hw0 hl
      have ht : decide (Lib.trimS w lettersU = []) = false := decide_eq_false fun h => hl ((low_trim he).2 h)
      ((try simp only [WKb, ↓reduceIte, Nat.reduceEqDiff, WKt]) <;> (repeat' ((first
    | (refine G.tr ?_; first | refine S.a ?_ | refine S.t ?_ | refine Tr.brK ?_ ?_ | (refine G.call 22 ?_; refine S.c ?_ (h := split_ok ?_)) | (refine G.call 23 ?_; refine S.c ?_ (h := utrim_ok ?_)) | (refine G.call 24 ?_; refine S.c ?_ (h := numberS_ok ?_)) | refine S.n fun _ => ?_ | refine S.i fun hix => ?_ | (refine S.g fun hb => ?_; (try simp only [hb])) | (refine S.s (fun hb => ?_) (fun hb => ?_) <;> ((try simp only [hb]) <;> (try (have hp := hb; simp only [WKs] at hp; (try have hq := Int.not_le.2 hp); (try have hq := Int.not_lt.2 hp))))))
    | rintro _ _ ⟨rfl, rfl⟩
    | rintro _ _ ⟨_, rfl, rfl⟩
    | rintro _ _ ⟨_, hi64, hnum, rfl, rfl⟩
    | ((fail_if_success refine G.tr ?_); exact G.prop S.p)
    | fail) <;> (try simp only [WKb, WKh, ↓reduceIte, Nat.reduceEqDiff, hx0, hd, ht]))))
      all_goals
        refine fin0 _ hno ?_
        ((try clear hK) <;> (try simp only [*]) <;> repeat (first | with_reducible exact EntR.done | refine S.e ?_ | (refine S.f ?_ <;> (try simp only [WKe, ↓reduceIte, reduceCtorEq, Int.reduceEq, *])) | with_reducible apply EntR.ex | refine EntR.drop (F := F) ?_ | refine EntR.drop ?_))

end Go.Proofs.YtgkhjgpgdfbdpaaGreatDoor
