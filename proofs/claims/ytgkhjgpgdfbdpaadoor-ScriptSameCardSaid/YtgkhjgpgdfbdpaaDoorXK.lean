import Derived.Test.YtgkhjgpgdfbdpaaDoorXJ
namespace Go.Proofs.YtgkhjgpgdfbdpaaDoor
open Go Go.Wk
set_option maxHeartbeats 6400000
set_option maxRecDepth 100000

/-- The number at a place; nothing: none. -/
noncomputable def nthN (ws : List Str) (i : Nat) : Int := (numA (ix ws (i : Int)).d).getD 0
/-- So many numbers stand there, and nothing else. -/
def goodW (ws : List Str) (n : Int) : Prop := (ws.length : Int) = n ∧ ∀ i : Nat, i < ws.length → (numA (ix ws (i : Int)).d).isSome = true
open Classical in
/-- A step's words, read. -/
noncomputable def readA (ws : List Str) : Option StepC := match numA (ix ws 0).d, (callA (ws.drop 1)).1 with
  | some c, some k => if goodW (callA (ws.drop 1)).2 (argsA k) then some ⟨c, k, nthN (callA (ws.drop 1)).2 0, nthN (callA (ws.drop 1)).2 1, nthN (callA (ws.drop 1)).2 2, nthN (callA (ws.drop 1)).2 3⟩ else none
  | _, _ => none
theorem readA_some {ws rest : List Str} {c k : Int} (h1 : numA (ix ws 0).d = some c) (h2 : (callA (ws.drop 1)).1 = some k) (h3 : (callA (ws.drop 1)).2 = rest) (h4 : goodW rest (argsA k)) : readA ws = some ⟨c, k, nthN rest 0, nthN rest 1, nthN rest 2, nthN rest 3⟩ := by
  subst h3
  unfold readA
  rw [h1, h2]
  simp only [if_pos h4]
theorem readA_none {ws rest : List Str} {k : Int} (h2 : (callA (ws.drop 1)).1 = some k) (h3 : (callA (ws.drop 1)).2 = rest) (h4 : ¬ goodW rest (argsA k)) : readA ws = none := by
  subst h3
  unfold readA
  rw [h2]
  cases numA (ix ws 0).d <;> simp only [if_neg h4]
theorem readA_none1 {ws : List Str} (h : numA (ix ws 0).d = none) : readA ws = none := by unfold readA; rw [h]
theorem readA_none2 {ws : List Str} (h : (callA (ws.drop 1)).1 = none) : readA ws = none := by unfold readA; rw [h]; cases numA (ix ws 0).d <;> rfl
/-- The numbers of a step that are read so far. -/
noncomputable def fieldN (rest : List Str) (r i : Nat) : Int := if i < r then nthN rest i else 0
theorem ix_drop {ws : List Str} {r : Nat} : ix (ws.drop r) 0 = ix ws (r : Int) := by simp [ix]
theorem ix_out {ws : List Str} {r : Nat} (h : ws.length ≤ r) : (ix ws (r : Int)).d = [] := by simp [ix, List.getElem?_eq_none h]; rfl
theorem words_small {s : List UInt8} (hs : s.length ≤ 1000000) : ∀ i : Nat, (ix (wordsS s) (i : Int)).d.length ≤ 1000000 := fun i => by
  by_cases h : i < (wordsS s).length
  · have hm : ix (wordsS s) (i : Int) ∈ wordsS s := List.mem_of_getElem? (ix_some (k := (i : Int)) (by omega) (by omega))
    unfold wordsS at hm
    obtain ⟨w, hw, e⟩ := List.mem_map.1 hm
    unfold wordsS
    rw [← e]
    exact Nat.le_trans (words_bound hw) hs
  · rw [ix_out (by omega)]; simp
def errS (x : Option StepC) : StepC := x.getD default
def errN (x : Option StepC) : Int := if x.isSome then 0 else 13
/-- Of n numbers k were asked for. -/
def rdI (rest : List Str) (n k : Nat) (bad : Bool) (ws : List Str) (n0 n1 n2 n3 : Int) : Prop :=
  (bad = false → ws = rest.drop (min k n) ∧ (∀ i : Nat, i < min k n → (numA (ix rest (i : Int)).d).isSome = true) ∧ n0 = fieldN rest (min k n) 0 ∧ n1 = fieldN rest (min k n) 1 ∧ n2 = fieldN rest (min k n) 2 ∧ n3 = fieldN rest (min k n) 3) ∧ (bad = true → ¬ goodW rest (n : Int))
theorem rdI_init {rest : List Str} {n : Nat} : rdI rest n 0 false rest 0 0 0 0 := ⟨fun _ => by simp [fieldN], fun h => by cases h⟩
theorem rdI_bad {rest ws ws' : List Str} {n k : Nat} {n0 n1 n2 n3 m0 m1 m2 m3 : Int} (h : rdI rest n k true ws n0 n1 n2 n3) : rdI rest n (k + 1) true ws' m0 m1 m2 m3 := ⟨fun h => (by cases h), fun _ => h.2 rfl⟩
theorem rdI_skip {rest ws : List Str} {n k : Nat} {n0 n1 n2 n3 : Int} (hk : n ≤ k) (h : rdI rest n k false ws n0 n1 n2 n3) : rdI rest n (k + 1) false ws n0 n1 n2 n3 := by
  unfold rdI at h ⊢
  rw [Nat.min_eq_right hk] at h
  rw [Nat.min_eq_right (by omega)]
  exact h
theorem rdI_fail {rest ws ws' : List Str} {n k : Nat} {n0 n1 n2 n3 m0 m1 m2 m3 : Int} (hk : k < n) (h : rdI rest n k false ws n0 n1 n2 n3) (hs : (numA (ix ws 0).d).isSome = false) : rdI rest n (k + 1) true ws' m0 m1 m2 m3 := ⟨fun h => (by cases h), fun _ hg => by
  obtain ⟨h1, _⟩ := h.1 rfl
  rw [Nat.min_eq_left (by omega)] at h1
  rw [h1, ix_drop] at hs
  have := hg.2 k (by have := hg.1; omega)
  rw [this] at hs; cases hs⟩
theorem rdI_num {rest ws : List Str} {n k : Nat} {n0 n1 n2 n3 m : Int} (hk : k < n) (h : rdI rest n k false ws n0 n1 n2 n3) (hm : ∀ j, numA (ix ws 0).d = some j → m = j) (hs : (numA (ix ws 0).d).isSome = true) :
    rdI rest n (k + 1) false (ws.drop 1) (if k = 0 then m else n0) (if k = 1 then m else n1) (if k = 2 then m else n2) (if k = 3 then m else n3) := ⟨fun _ => by
  obtain ⟨h1, h2, h3, h4, h5, h6⟩ := h.1 rfl
  rw [Nat.min_eq_left (by omega)] at h1 h2 h3 h4 h5 h6
  rw [Nat.min_eq_left (by omega)]
  have e : m = nthN rest k := by
    rw [h1, ix_drop] at hm hs
    unfold nthN
    cases hj : numA (ix rest (k : Int)).d with
    | none => rw [hj] at hs; cases hs
    | some j => exact hm j hj
  refine ⟨by rw [h1, List.drop_drop], fun i hi => ?_, ?_, ?_, ?_, ?_⟩
  · by_cases hik : i < k
    · exact h2 i hik
    · have : i = k := by omega
      subst this
      rw [h1, ix_drop] at hs; exact hs
  all_goals
    unfold fieldN at *
    split
    · rename_i hk'
      subst hk'
      rw [if_pos (by omega), e]
    · rename_i hk'
      first | rw [h3] | rw [h4] | rw [h5] | rw [h6]
      repeat' split
      all_goals first | rfl | omega, fun h => by cases h⟩
theorem rdI_end {rest ws : List Str} {n : Nat} {bad : Bool} {n0 n1 n2 n3 : Int} (hn : n ≤ 4) (h : rdI rest n 4 bad ws n0 n1 n2 n3) :
    if bad = true ∨ 0 < ws.length then ¬ goodW rest (n : Int) else goodW rest (n : Int) ∧ n0 = nthN rest 0 ∧ n1 = nthN rest 1 ∧ n2 = nthN rest 2 ∧ n3 = nthN rest 3 := by
  split
  · rename_i hb
    cases bad with
    | true => exact h.2 rfl
    | false =>
      obtain ⟨h1, _⟩ := h.1 rfl
      rw [Nat.min_eq_right hn] at h1
      intro hg
      have := hg.1
      rcases hb with hb | hb
      · cases hb
      · rw [h1, List.length_drop] at hb; omega
  · rename_i hb
    have hb1 : bad = false := by cases bad; rfl; exact absurd (.inl rfl) hb
    have hb2 : ws.length = 0 := by
      have : ¬ 0 < ws.length := fun h => hb (.inr h)
      omega
    obtain ⟨h1, h2, h3, h4, h5, h6⟩ := h.1 hb1
    rw [Nat.min_eq_right hn] at h1 h2 h3 h4 h5 h6
    rw [h1, List.length_drop] at hb2
    have hl : rest.length = n := by
      by_cases hlt : rest.length < n
      · have h7 := h2 rest.length hlt
        rw [ix_out (Nat.le_refl _), numA_nil] at h7; cases h7
      · omega
    have hz : ∀ i : Nat, n ≤ i → nthN rest i = 0 := fun i hi => by
      unfold nthN
      rw [ix_out (by omega), numA_nil]; rfl
    refine ⟨⟨by rw [hl], fun i hi => h2 i (by omega)⟩, ?_, ?_, ?_, ?_⟩
    all_goals
      first | rw [h3] | rw [h4] | rw [h5] | rw [h6]
      unfold fieldN
      split
      · rfl
      · rw [hz _ (by omega)]
def bnd (ws : List Str) : Prop := ∀ i : Nat, (ix ws (i : Int)).d.length ≤ 1000000
theorem bnd_drop {ws : List Str} {k : Nat} (h : bnd ws) : bnd (ws.drop k) := fun i => by
  have : ix (ws.drop k) (i : Int) = ix ws ((k + i : Nat) : Int) := by unfold ix; rw [Int.toNat_natCast, Int.toNat_natCast, List.getD_eq_getElem?_getD, List.getD_eq_getElem?_getD, List.getElem?_drop]
  rw [this]; exact h _
theorem bnd_call {ws : List Str} (h : bnd ws) : bnd (callA ws).2 := by
  unfold callA
  split
  · exact bnd_drop (bnd_drop h)
  · exact bnd_drop h
attribute [local irreducible] BrK GenK EGenK EUnitK CallK FnK CallV GuardO GuardC CondW opX opK opKc chkR eqR seqK blkK endL WL WD W LoopW BinK Tr drewK resL PickK NotK NilK ExtrK getK Instr.storeAt Instr.loadAt Instr.fieldAt Instr.indexAt Instr.lookup Instr.mapUpdate Instr.box Instr.alloc Instr.build Instr.buildSlice Instr.makeSlice Instr.makeMap Instr.sliceAt Instr.field Instr.index Instr.makeInterface Instr.typeAssert Builtin.len_ Builtin.append_ Builtin.cap_ Builtin.min_ Builtin.max_ Builtin.copy_ Builtin.clear_ convert binOp mp blk rob sl sep ex fact old
attribute [local irreducible] NegK mxV
theorem read_ok {s : List UInt8} {m : Int} (hs : s.length ≤ 1000000) : Trip Tryd.prog 107 [.string (bstr s)].toArray [mxB m]
    fun v l' => v = .tuple #[.agg (En.enc (errS (readA (wordsS s)))).toArray, .int .i64 (errN (readA (wordsS s)))] ∧ l' = [] := by
  intro F K hK
  simp only [List.cons_append, List.nil_append]
  have hsm := words_small hs
  have hb0 := hsm 0
  have hb1 : (ix (((wordsS s).drop 1).drop 1) 0).d.length ≤ 1000000 := bnd_drop (bnd_drop hsm) 0
  (refine Tr.enter (rs := [.cell 2 108, .tmp 3]) mixed fn107 rfl (by simp +arith [Tryd.ntmps107]) fun u => ?_; simp only [cd107, Tryd.f107])
  ((try simp only [WKb, WKt]) <;> (repeat' ((first
    | (refine G.tr ?_; first | refine S.a ?_ | refine S.t ?_ | refine Tr.brK ?_ ?_ | (refine G.call 97 ?_; refine S.c ?_ (h := split_ok ?_)) | (refine G.call 139 ?_; refine S.c ?_ (h := wnumber_ok ?_)) | (refine G.call 140 ?_; refine S.c ?_ (h := wcall_ok ?_)) | (refine G.call 136 ?_; refine S.c ?_ (h := callargs_ok)) | (refine G.call 103 ?_; refine S.c ?_ (h := args_ok)) | refine S.n fun _ => ?_ | refine S.i fun hix => ?_ | (refine S.g fun hb => ?_; (try simp only [hb])) | (refine S.s (fun hb => ?_) (fun hb => ?_) <;> ((try simp only [hb]) <;> (try (have hp := hb; simp only [WKs] at hp; (try have hq := Int.not_le.2 hp); (try have hq := Int.not_lt.2 hp))))))
    | rintro _ _ ⟨rfl, rfl⟩
    | rintro _ _ ⟨_, rfl, rfl⟩
    | rintro _ _ ⟨_, _, hi64, hnum, rfl, rfl⟩
    | rintro _ _ ⟨_, _, hi64, hcal, rfl, rfl⟩
    | (refine Tr.freezeAt (v := SV.v _) (xs := wordsS s) (by (repeat (first | exact TakeA.here | apply TakeA.next)); done) ?_)
    | ((fail_if_success refine G.tr ?_); exact G.prop S.p)
    | fail) <;> (try simp only [WKb, WKh, ↓reduceIte, Nat.reduceEqDiff, Nat.reduceAdd]))))
  rename_i rb s0 wb ob s1 c hc hcn s2 k
  have hA4 := argsA_le k
  obtain ⟨n, hn4, hn⟩ : ∃ n : Nat, n ≤ 4 ∧ argsA k = (n : Int) := ⟨(argsA k).toNat, by omega, by omega⟩
  have hbc := bnd_call (bnd_drop (k := 1) hsm)
  have hbad : (numA (ix (wordsS s) 0).d).isSome = false ∨ ((callA ((wordsS s).drop 1)).1).isSome = false → readA (wordsS s) = none := fun h => by
    rcases h with h | h
    · exact readA_none1 (by cases hj : numA (ix (wordsS s) 0).d; rfl; rw [hj] at h; cases h)
    · exact readA_none2 (by cases hj : (callA ((wordsS s).drop 1)).1; rfl; rw [hj] at h; cases h)
  have hok : (numA (ix (wordsS s) 0).d).isSome = true → ((callA ((wordsS s).drop 1)).1).isSome = true → numA (ix (wordsS s) 0).d = some c ∧ (callA ((wordsS s).drop 1)).1 = some k := fun h h' => by
    constructor
    · cases hj : numA (ix (wordsS s) 0).d with
      | none => rw [hj] at h; cases h
      | some j => rw [hcn j hj]
    · cases hj : (callA ((wordsS s).drop 1)).1 with
      | none => rw [hj] at h'; cases h'
      | some j => rw [hnum j hj]
  obtain ⟨b1, hb1'⟩ : ∃ b1, (numA (ix (wordsS s) 0).d).isSome = b1 := ⟨_, rfl⟩
  obtain ⟨b2, hb2'⟩ : ∃ b2, ((callA ((wordsS s).drop 1)).1).isSome = b2 := ⟨_, rfl⟩
  rw [hb1', hb2'] at hok hbad ⊢
  obtain ⟨rest, hrest⟩ : ∃ r, (callA ((wordsS s).drop 1)).2 = r := ⟨_, rfl⟩
  rw [hrest] at hbc ⊢
  clear hcn hnum
  by_cases hg0 : b1 = true ∧ b2 = true
  · obtain ⟨rfl, rfl⟩ := hg0
    obtain ⟨hok1, hok2⟩ := hok rfl rfl
    clear hok hbad
    refine Tr.loopE (α := Nat × Bool × SV × List Str × Int × Int × Int × Int) [19] [2, 3, 4, 5, 18] (fun x => [.int .i64 x.1]) (fun x => [blk ob (.cells [.int .i64 c, .int .i64 k, .int .i64 x.2.2.2.2.1, .int .i64 x.2.2.2.2.2.1, .int .i64 x.2.2.2.2.2.2.1, .int .i64 x.2.2.2.2.2.2.2].toArray 108 (0, 0)), rdB wb x.2.2.1 x.2.1, sl true x.2.2.1.v x.2.2.2.1])
      (fun x => x.1 ≤ 4 ∧ bnd x.2.2.2.1 ∧ rdI rest n x.1 x.2.1 x.2.2.2.1 x.2.2.2.2.1 x.2.2.2.2.2.1 x.2.2.2.2.2.2.1 x.2.2.2.2.2.2.2) (fun x => 4 - x.1) (0, false, s2, rest, 0, 0, 0, 0) (by (repeat (first | exact TakeL.nil | (apply TakeL.cons; focus ((first | exact TakeA.dupS | exact TakeA.dupF | ((repeat (first | with_reducible exact TakeA.here | exact TakeA.fam (by omega) (by omega) | with_reducible apply TakeA.next)); done) | ((repeat (first | exact TakeA.here | apply TakeA.next)); done) | exact TakeA.famNil | exact TakeA.nilS))) | fail)); done) rfl ⟨Nat.zero_le _, hbc, rdI_init⟩ fun x u hx => ?_
    obtain ⟨i, bad, t, ws, n0, n1, n2, n3⟩ := x
    simp only at hx ⊢
    obtain ⟨hi, hbw, hI⟩ := hx
    have hbw0 : (ix ws 0).d.length ≤ 1000000 := hbw 0
    have hbwd : bnd (ws.drop 1) := bnd_drop hbw
    have hlc : argsA k = (n : Int) := hn
    obtain rfl | rfl | rfl | rfl | rfl : i = 0 ∨ i = 1 ∨ i = 2 ∨ i = 3 ∨ i = 4 := by omega
    · have hw := wrapSucc (k := 0) (by omega)
      cases bad with
      | true =>
        have hI' : rdI rest n (0 + 1) true ws n0 n1 n2 n3 := rdI_bad hI
        ((try simp only [WKb, ↓reduceIte, Nat.reduceEqDiff]) <;> (repeat' ((first
    | (refine G.tr ?_; first | refine S.a ?_ | refine S.t ?_ | refine Tr.brK ?_ ?_ | (refine G.call 97 ?_; refine S.c ?_ (h := split_ok ?_)) | (refine G.call 139 ?_; refine S.c ?_ (h := wnumber_ok ?_)) | (refine G.call 140 ?_; refine S.c ?_ (h := wcall_ok ?_)) | (refine G.call 136 ?_; refine S.c ?_ (h := callargs_ok)) | (refine G.call 103 ?_; refine S.c ?_ (h := args_ok)) | refine S.n fun _ => ?_ | refine S.i fun hix => ?_ | (refine S.g fun hb => ?_; (try simp only [hb])) | (refine S.s (fun hb => ?_) (fun hb => ?_) <;> ((try simp only [hb]) <;> (try (have hp := hb; simp only [WKs] at hp; (try have hq := Int.not_le.2 hp); (try have hq := Int.not_lt.2 hp))))))
    | rintro _ _ ⟨rfl, rfl⟩
    | rintro _ _ ⟨_, rfl, rfl⟩
    | rintro _ _ ⟨_, _, hi64, hnum, rfl, rfl⟩
    | rintro _ _ ⟨_, _, hi64, hcal, rfl, rfl⟩
    | ((fail_if_success refine G.tr ?_); exact G.prop S.p)
    | fail) <;> (try simp only [WKb, ↓reduceIte, Nat.reduceEqDiff, hw]))))
        all_goals (apply Tr.againE ((0 + 1, true, _, _, n0, n1, n2, n3)); (focus (simp only [WKb, ↓reduceIte, Nat.reduceEqDiff])); (focus ((try simp only [WKb, ↓reduceIte]); (all_goals ((repeat (refine cons_eq (by first | rfl | (simp [*]; done)) ?_)); rfl)); done)); rotate_left 2; (focus (((try clear hK) <;> (try simp only [WKe, *]) <;> repeat (first | with_reducible exact EntR.done | refine S.e ?_ | (refine S.f ?_ <;> (try simp only [WKe, ↓reduceIte, reduceCtorEq, Int.reduceEq, *])) | with_reducible apply EntR.ex | refine EntR.drop (F := F) ?_ | refine EntR.drop ?_)))); (focus (first | omega | assumption | (simp only []; omega) | (refine ⟨by omega, by assumption⟩) | (simp only []; refine ⟨by omega, by assumption⟩) | ((try simp only []); (repeat' (first | omega | assumption | apply hI' | apply hbw | refine And.intro ?_ ?_)); done))); (focus (first | omega | (simp only []; omega))))
      | false =>
        by_cases hlt : 0 < n
        · have hlt' : ((0 : Nat) : Int) < argsA k := by omega
          cases hsm2 : (numA (ix ws 0).d).isSome with
          | true =>
            ((try simp only [WKb, ↓reduceIte, Nat.reduceEqDiff]) <;> (repeat' ((first
    | (refine G.tr ?_; first | refine S.a ?_ | refine S.t ?_ | refine Tr.brK ?_ ?_ | (refine G.call 97 ?_; refine S.c ?_ (h := split_ok ?_)) | (refine G.call 139 ?_; refine S.c ?_ (h := wnumber_ok ?_)) | (refine G.call 140 ?_; refine S.c ?_ (h := wcall_ok ?_)) | (refine G.call 136 ?_; refine S.c ?_ (h := callargs_ok)) | (refine G.call 103 ?_; refine S.c ?_ (h := args_ok)) | refine S.n fun _ => ?_ | refine S.i fun hix => ?_ | (refine S.g fun hb => ?_; (try simp only [hb])) | (refine S.s (fun hb => ?_) (fun hb => ?_) <;> ((try simp only [hb]) <;> (try (have hp := hb; simp only [WKs] at hp; (try have hq := Int.not_le.2 hp); (try have hq := Int.not_lt.2 hp))))))
    | rintro _ _ ⟨rfl, rfl⟩
    | rintro _ _ ⟨_, rfl, rfl⟩
    | rintro _ _ ⟨_, _, hi64, hnum, rfl, rfl⟩
    | rintro _ _ ⟨_, _, hi64, hcal, rfl, rfl⟩
    | ((fail_if_success refine G.tr ?_); exact G.prop S.p)
    | fail) <;> (try simp only [WKb, ↓reduceIte, Nat.reduceEqDiff, Nat.reduceAdd, hw, hsm2]))))
            all_goals
              have hI' := rdI_num hlt hI hnum hsm2
              simp +decide only [↓reduceIte] at hI'
              (apply Tr.againE ((0 + 1, false, _, _, _, n1, n2, n3)); (focus (simp only [WKb, ↓reduceIte, Nat.reduceEqDiff])); (focus ((try simp only [WKb, ↓reduceIte]); (all_goals ((repeat (refine cons_eq (by first | rfl | (simp [*]; done)) ?_)); rfl)); done)); rotate_left 2; (focus (((try clear hK) <;> (try simp only [WKe, *]) <;> repeat (first | with_reducible exact EntR.done | refine S.e ?_ | (refine S.f ?_ <;> (try simp only [WKe, ↓reduceIte, reduceCtorEq, Int.reduceEq, *])) | with_reducible apply EntR.ex | refine EntR.drop (F := F) ?_ | refine EntR.drop ?_)))); (focus (first | omega | assumption | (simp only []; omega) | (refine ⟨by omega, by assumption⟩) | (simp only []; refine ⟨by omega, by assumption⟩) | ((try simp only []); (repeat' (first | omega | assumption | apply hI' | apply hbwd | refine And.intro ?_ ?_)); done))); (focus (first | omega | (simp only []; omega))))
          | false =>
            have hI' : ∀ (ws' : List Str) (m0 m1 m2 m3 : Int), rdI rest n (0 + 1) true ws' m0 m1 m2 m3 := fun ws' m0 m1 m2 m3 => rdI_fail hlt hI hsm2
            ((try simp only [WKb, ↓reduceIte, Nat.reduceEqDiff]) <;> (repeat' ((first
    | (refine G.tr ?_; first | refine S.a ?_ | refine S.t ?_ | refine Tr.brK ?_ ?_ | (refine G.call 97 ?_; refine S.c ?_ (h := split_ok ?_)) | (refine G.call 139 ?_; refine S.c ?_ (h := wnumber_ok ?_)) | (refine G.call 140 ?_; refine S.c ?_ (h := wcall_ok ?_)) | (refine G.call 136 ?_; refine S.c ?_ (h := callargs_ok)) | (refine G.call 103 ?_; refine S.c ?_ (h := args_ok)) | refine S.n fun _ => ?_ | refine S.i fun hix => ?_ | (refine S.g fun hb => ?_; (try simp only [hb])) | (refine S.s (fun hb => ?_) (fun hb => ?_) <;> ((try simp only [hb]) <;> (try (have hp := hb; simp only [WKs] at hp; (try have hq := Int.not_le.2 hp); (try have hq := Int.not_lt.2 hp))))))
    | rintro _ _ ⟨rfl, rfl⟩
    | rintro _ _ ⟨_, rfl, rfl⟩
    | rintro _ _ ⟨_, _, hi64, hnum, rfl, rfl⟩
    | rintro _ _ ⟨_, _, hi64, hcal, rfl, rfl⟩
    | ((fail_if_success refine G.tr ?_); exact G.prop S.p)
    | fail) <;> (try simp only [WKb, ↓reduceIte, Nat.reduceEqDiff, Nat.reduceAdd, hw, hsm2]))))
            all_goals (apply Tr.againE ((0 + 1, true, _, _, _, n1, n2, n3)); (focus (simp only [WKb, ↓reduceIte, Nat.reduceEqDiff])); (focus ((try simp only [WKb, ↓reduceIte]); (all_goals ((repeat (refine cons_eq (by first | rfl | (simp [*]; done)) ?_)); rfl)); done)); rotate_left 2; (focus (((try clear hK) <;> (try simp only [WKe, *]) <;> repeat (first | with_reducible exact EntR.done | refine S.e ?_ | (refine S.f ?_ <;> (try simp only [WKe, ↓reduceIte, reduceCtorEq, Int.reduceEq, *])) | with_reducible apply EntR.ex | refine EntR.drop (F := F) ?_ | refine EntR.drop ?_)))); (focus (first | omega | assumption | (simp only []; omega) | (refine ⟨by omega, by assumption⟩) | (simp only []; refine ⟨by omega, by assumption⟩) | ((try simp only []); (repeat' (first | omega | assumption | apply hI' | apply hbwd | refine And.intro ?_ ?_)); done))); (focus (first | omega | (simp only []; omega))))
        · have hlt' : ¬ ((0 : Nat) : Int) < argsA k := by omega
          have hI' : rdI rest n (0 + 1) false ws n0 n1 n2 n3 := rdI_skip (by omega) hI
          ((try simp only [WKb, ↓reduceIte, Nat.reduceEqDiff]) <;> (repeat' ((first
    | (refine G.tr ?_; first | refine S.a ?_ | refine S.t ?_ | refine Tr.brK ?_ ?_ | (refine G.call 97 ?_; refine S.c ?_ (h := split_ok ?_)) | (refine G.call 139 ?_; refine S.c ?_ (h := wnumber_ok ?_)) | (refine G.call 140 ?_; refine S.c ?_ (h := wcall_ok ?_)) | (refine G.call 136 ?_; refine S.c ?_ (h := callargs_ok)) | (refine G.call 103 ?_; refine S.c ?_ (h := args_ok)) | refine S.n fun _ => ?_ | refine S.i fun hix => ?_ | (refine S.g fun hb => ?_; (try simp only [hb])) | (refine S.s (fun hb => ?_) (fun hb => ?_) <;> ((try simp only [hb]) <;> (try (have hp := hb; simp only [WKs] at hp; (try have hq := Int.not_le.2 hp); (try have hq := Int.not_lt.2 hp))))))
    | rintro _ _ ⟨rfl, rfl⟩
    | rintro _ _ ⟨_, rfl, rfl⟩
    | rintro _ _ ⟨_, _, hi64, hnum, rfl, rfl⟩
    | rintro _ _ ⟨_, _, hi64, hcal, rfl, rfl⟩
    | ((fail_if_success refine G.tr ?_); exact G.prop S.p)
    | fail) <;> (try simp only [WKb, ↓reduceIte, Nat.reduceEqDiff, hw]))))
          all_goals (apply Tr.againE ((0 + 1, false, _, _, n0, n1, n2, n3)); (focus (simp only [WKb, ↓reduceIte, Nat.reduceEqDiff])); (focus ((try simp only [WKb, ↓reduceIte]); (all_goals ((repeat (refine cons_eq (by first | rfl | (simp [*]; done)) ?_)); rfl)); done)); rotate_left 2; (focus (((try clear hK) <;> (try simp only [WKe, *]) <;> repeat (first | with_reducible exact EntR.done | refine S.e ?_ | (refine S.f ?_ <;> (try simp only [WKe, ↓reduceIte, reduceCtorEq, Int.reduceEq, *])) | with_reducible apply EntR.ex | refine EntR.drop (F := F) ?_ | refine EntR.drop ?_)))); (focus (first | omega | assumption | (simp only []; omega) | (refine ⟨by omega, by assumption⟩) | (simp only []; refine ⟨by omega, by assumption⟩) | ((try simp only []); (repeat' (first | omega | assumption | apply hI' | apply hbw | refine And.intro ?_ ?_)); done))); (focus (first | omega | (simp only []; omega))))
    · have hw := wrapSucc (k := 1) (by omega)
      cases bad with
      | true =>
        have hI' : rdI rest n (1 + 1) true ws n0 n1 n2 n3 := rdI_bad hI
        ((try simp only [WKb, ↓reduceIte, Nat.reduceEqDiff]) <;> (repeat' ((first
    | (refine G.tr ?_; first | refine S.a ?_ | refine S.t ?_ | refine Tr.brK ?_ ?_ | (refine G.call 97 ?_; refine S.c ?_ (h := split_ok ?_)) | (refine G.call 139 ?_; refine S.c ?_ (h := wnumber_ok ?_)) | (refine G.call 140 ?_; refine S.c ?_ (h := wcall_ok ?_)) | (refine G.call 136 ?_; refine S.c ?_ (h := callargs_ok)) | (refine G.call 103 ?_; refine S.c ?_ (h := args_ok)) | refine S.n fun _ => ?_ | refine S.i fun hix => ?_ | (refine S.g fun hb => ?_; (try simp only [hb])) | (refine S.s (fun hb => ?_) (fun hb => ?_) <;> ((try simp only [hb]) <;> (try (have hp := hb; simp only [WKs] at hp; (try have hq := Int.not_le.2 hp); (try have hq := Int.not_lt.2 hp))))))
    | rintro _ _ ⟨rfl, rfl⟩
    | rintro _ _ ⟨_, rfl, rfl⟩
    | rintro _ _ ⟨_, _, hi64, hnum, rfl, rfl⟩
    | rintro _ _ ⟨_, _, hi64, hcal, rfl, rfl⟩
    | ((fail_if_success refine G.tr ?_); exact G.prop S.p)
    | fail) <;> (try simp only [WKb, ↓reduceIte, Nat.reduceEqDiff, Nat.reduceAdd, hw]))))
        all_goals (apply Tr.againE ((1 + 1, true, _, _, n0, n1, n2, n3)); (focus (simp only [WKb, ↓reduceIte, Nat.reduceEqDiff])); (focus ((try simp only [WKb, ↓reduceIte, Nat.reduceAdd]); (all_goals ((repeat (refine cons_eq (by first | rfl | (simp [*]; done)) ?_)); rfl)); done)); rotate_left 2; (focus (((try clear hK) <;> (try simp only [WKe, *]) <;> repeat (first | with_reducible exact EntR.done | refine S.e ?_ | (refine S.f ?_ <;> (try simp only [WKe, ↓reduceIte, reduceCtorEq, Int.reduceEq, *])) | with_reducible apply EntR.ex | refine EntR.drop (F := F) ?_ | refine EntR.drop ?_)))); (focus (first | omega | assumption | (simp only []; omega) | (refine ⟨by omega, by assumption⟩) | (simp only []; refine ⟨by omega, by assumption⟩) | ((try simp only []); (repeat' (first | omega | assumption | apply hI' | apply hbw | refine And.intro ?_ ?_)); done))); (focus (first | omega | (simp only []; omega))))
      | false =>
        by_cases hlt : 1 < n
        · have hlt' : ((1 : Nat) : Int) < argsA k := by omega
          cases hsm2 : (numA (ix ws 0).d).isSome with
          | true =>
            ((try simp only [WKb, ↓reduceIte, Nat.reduceEqDiff]) <;> (repeat' ((first
    | (refine G.tr ?_; first | refine S.a ?_ | refine S.t ?_ | refine Tr.brK ?_ ?_ | (refine G.call 97 ?_; refine S.c ?_ (h := split_ok ?_)) | (refine G.call 139 ?_; refine S.c ?_ (h := wnumber_ok ?_)) | (refine G.call 140 ?_; refine S.c ?_ (h := wcall_ok ?_)) | (refine G.call 136 ?_; refine S.c ?_ (h := callargs_ok)) | (refine G.call 103 ?_; refine S.c ?_ (h := args_ok)) | refine S.n fun _ => ?_ | refine S.i fun hix => ?_ | (refine S.g fun hb => ?_; (try simp only [hb])) | (refine S.s (fun hb => ?_) (fun hb => ?_) <;> ((try simp only [hb]) <;> (try (have hp := hb; simp only [WKs] at hp; (try have hq := Int.not_le.2 hp); (try have hq := Int.not_lt.2 hp))))))
    | rintro _ _ ⟨rfl, rfl⟩
    | rintro _ _ ⟨_, rfl, rfl⟩
    | rintro _ _ ⟨_, _, hi64, hnum, rfl, rfl⟩
    | rintro _ _ ⟨_, _, hi64, hcal, rfl, rfl⟩
    | ((fail_if_success refine G.tr ?_); exact G.prop S.p)
    | fail) <;> (try simp only [WKb, ↓reduceIte, Nat.reduceEqDiff, Nat.reduceAdd, hw, hsm2]))))
            all_goals
              have hI' := rdI_num hlt hI hnum hsm2
              simp +decide only [↓reduceIte] at hI'
              (apply Tr.againE ((1 + 1, false, _, _, n0, _, n2, n3)); (focus (simp only [WKb, ↓reduceIte, Nat.reduceEqDiff])); (focus ((try simp only [WKb, ↓reduceIte, Nat.reduceAdd]); (all_goals ((repeat (refine cons_eq (by first | rfl | (simp [*]; done)) ?_)); rfl)); done)); rotate_left 2; (focus (((try clear hK) <;> (try simp only [WKe, *]) <;> repeat (first | with_reducible exact EntR.done | refine S.e ?_ | (refine S.f ?_ <;> (try simp only [WKe, ↓reduceIte, reduceCtorEq, Int.reduceEq, *])) | with_reducible apply EntR.ex | refine EntR.drop (F := F) ?_ | refine EntR.drop ?_)))); (focus (first | omega | assumption | (simp only []; omega) | (refine ⟨by omega, by assumption⟩) | (simp only []; refine ⟨by omega, by assumption⟩) | ((try simp only []); (repeat' (first | omega | assumption | apply hI' | apply hbwd | refine And.intro ?_ ?_)); done))); (focus (first | omega | (simp only []; omega))))
          | false =>
            have hI' : ∀ (ws' : List Str) (m0 m1 m2 m3 : Int), rdI rest n (1 + 1) true ws' m0 m1 m2 m3 := fun ws' m0 m1 m2 m3 => rdI_fail hlt hI hsm2
            ((try simp only [WKb, ↓reduceIte, Nat.reduceEqDiff]) <;> (repeat' ((first
    | (refine G.tr ?_; first | refine S.a ?_ | refine S.t ?_ | refine Tr.brK ?_ ?_ | (refine G.call 97 ?_; refine S.c ?_ (h := split_ok ?_)) | (refine G.call 139 ?_; refine S.c ?_ (h := wnumber_ok ?_)) | (refine G.call 140 ?_; refine S.c ?_ (h := wcall_ok ?_)) | (refine G.call 136 ?_; refine S.c ?_ (h := callargs_ok)) | (refine G.call 103 ?_; refine S.c ?_ (h := args_ok)) | refine S.n fun _ => ?_ | refine S.i fun hix => ?_ | (refine S.g fun hb => ?_; (try simp only [hb])) | (refine S.s (fun hb => ?_) (fun hb => ?_) <;> ((try simp only [hb]) <;> (try (have hp := hb; simp only [WKs] at hp; (try have hq := Int.not_le.2 hp); (try have hq := Int.not_lt.2 hp))))))
    | rintro _ _ ⟨rfl, rfl⟩
    | rintro _ _ ⟨_, rfl, rfl⟩
    | rintro _ _ ⟨_, _, hi64, hnum, rfl, rfl⟩
    | rintro _ _ ⟨_, _, hi64, hcal, rfl, rfl⟩
    | ((fail_if_success refine G.tr ?_); exact G.prop S.p)
    | fail) <;> (try simp only [WKb, ↓reduceIte, Nat.reduceEqDiff, Nat.reduceAdd, hw, hsm2]))))
            all_goals (apply Tr.againE ((1 + 1, true, _, _, n0, _, n2, n3)); (focus (simp only [WKb, ↓reduceIte, Nat.reduceEqDiff])); (focus ((try simp only [WKb, ↓reduceIte, Nat.reduceAdd]); (all_goals ((repeat (refine cons_eq (by first | rfl | (simp [*]; done)) ?_)); rfl)); done)); rotate_left 2; (focus (((try clear hK) <;> (try simp only [WKe, *]) <;> repeat (first | with_reducible exact EntR.done | refine S.e ?_ | (refine S.f ?_ <;> (try simp only [WKe, ↓reduceIte, reduceCtorEq, Int.reduceEq, *])) | with_reducible apply EntR.ex | refine EntR.drop (F := F) ?_ | refine EntR.drop ?_)))); (focus (first | omega | assumption | (simp only []; omega) | (refine ⟨by omega, by assumption⟩) | (simp only []; refine ⟨by omega, by assumption⟩) | ((try simp only []); (repeat' (first | omega | assumption | apply hI' | apply hbwd | refine And.intro ?_ ?_)); done))); (focus (first | omega | (simp only []; omega))))
        · have hlt' : ¬ ((1 : Nat) : Int) < argsA k := by omega
          have hI' : rdI rest n (1 + 1) false ws n0 n1 n2 n3 := rdI_skip (by omega) hI
          ((try simp only [WKb, ↓reduceIte, Nat.reduceEqDiff]) <;> (repeat' ((first
    | (refine G.tr ?_; first | refine S.a ?_ | refine S.t ?_ | refine Tr.brK ?_ ?_ | (refine G.call 97 ?_; refine S.c ?_ (h := split_ok ?_)) | (refine G.call 139 ?_; refine S.c ?_ (h := wnumber_ok ?_)) | (refine G.call 140 ?_; refine S.c ?_ (h := wcall_ok ?_)) | (refine G.call 136 ?_; refine S.c ?_ (h := callargs_ok)) | (refine G.call 103 ?_; refine S.c ?_ (h := args_ok)) | refine S.n fun _ => ?_ | refine S.i fun hix => ?_ | (refine S.g fun hb => ?_; (try simp only [hb])) | (refine S.s (fun hb => ?_) (fun hb => ?_) <;> ((try simp only [hb]) <;> (try (have hp := hb; simp only [WKs] at hp; (try have hq := Int.not_le.2 hp); (try have hq := Int.not_lt.2 hp))))))
    | rintro _ _ ⟨rfl, rfl⟩
    | rintro _ _ ⟨_, rfl, rfl⟩
    | rintro _ _ ⟨_, _, hi64, hnum, rfl, rfl⟩
    | rintro _ _ ⟨_, _, hi64, hcal, rfl, rfl⟩
    | ((fail_if_success refine G.tr ?_); exact G.prop S.p)
    | fail) <;> (try simp only [WKb, ↓reduceIte, Nat.reduceEqDiff, Nat.reduceAdd, hw]))))
          all_goals (apply Tr.againE ((1 + 1, false, _, _, n0, n1, n2, n3)); (focus (simp only [WKb, ↓reduceIte, Nat.reduceEqDiff])); (focus ((try simp only [WKb, ↓reduceIte, Nat.reduceAdd]); (all_goals ((repeat (refine cons_eq (by first | rfl | (simp [*]; done)) ?_)); rfl)); done)); rotate_left 2; (focus (((try clear hK) <;> (try simp only [WKe, *]) <;> repeat (first | with_reducible exact EntR.done | refine S.e ?_ | (refine S.f ?_ <;> (try simp only [WKe, ↓reduceIte, reduceCtorEq, Int.reduceEq, *])) | with_reducible apply EntR.ex | refine EntR.drop (F := F) ?_ | refine EntR.drop ?_)))); (focus (first | omega | assumption | (simp only []; omega) | (refine ⟨by omega, by assumption⟩) | (simp only []; refine ⟨by omega, by assumption⟩) | ((try simp only []); (repeat' (first | omega | assumption | apply hI' | apply hbw | refine And.intro ?_ ?_)); done))); (focus (first | omega | (simp only []; omega))))
    · have hw := wrapSucc (k := 2) (by omega)
      cases bad with
      | true =>
        have hI' : rdI rest n (2 + 1) true ws n0 n1 n2 n3 := rdI_bad hI
        ((try simp only [WKb, ↓reduceIte, Nat.reduceEqDiff]) <;> (repeat' ((first
    | (refine G.tr ?_; first | refine S.a ?_ | refine S.t ?_ | refine Tr.brK ?_ ?_ | (refine G.call 97 ?_; refine S.c ?_ (h := split_ok ?_)) | (refine G.call 139 ?_; refine S.c ?_ (h := wnumber_ok ?_)) | (refine G.call 140 ?_; refine S.c ?_ (h := wcall_ok ?_)) | (refine G.call 136 ?_; refine S.c ?_ (h := callargs_ok)) | (refine G.call 103 ?_; refine S.c ?_ (h := args_ok)) | refine S.n fun _ => ?_ | refine S.i fun hix => ?_ | (refine S.g fun hb => ?_; (try simp only [hb])) | (refine S.s (fun hb => ?_) (fun hb => ?_) <;> ((try simp only [hb]) <;> (try (have hp := hb; simp only [WKs] at hp; (try have hq := Int.not_le.2 hp); (try have hq := Int.not_lt.2 hp))))))
    | rintro _ _ ⟨rfl, rfl⟩
    | rintro _ _ ⟨_, rfl, rfl⟩
    | rintro _ _ ⟨_, _, hi64, hnum, rfl, rfl⟩
    | rintro _ _ ⟨_, _, hi64, hcal, rfl, rfl⟩
    | ((fail_if_success refine G.tr ?_); exact G.prop S.p)
    | fail) <;> (try simp only [WKb, ↓reduceIte, Nat.reduceEqDiff, Nat.reduceAdd, hw]))))
        all_goals (apply Tr.againE ((2 + 1, true, _, _, n0, n1, n2, n3)); (focus (simp only [WKb, ↓reduceIte, Nat.reduceEqDiff])); (focus ((try simp only [WKb, ↓reduceIte, Nat.reduceAdd]); (all_goals ((repeat (refine cons_eq (by first | rfl | (simp [*]; done)) ?_)); rfl)); done)); rotate_left 2; (focus (((try clear hK) <;> (try simp only [WKe, *]) <;> repeat (first | with_reducible exact EntR.done | refine S.e ?_ | (refine S.f ?_ <;> (try simp only [WKe, ↓reduceIte, reduceCtorEq, Int.reduceEq, *])) | with_reducible apply EntR.ex | refine EntR.drop (F := F) ?_ | refine EntR.drop ?_)))); (focus (first | omega | assumption | (simp only []; omega) | (refine ⟨by omega, by assumption⟩) | (simp only []; refine ⟨by omega, by assumption⟩) | ((try simp only []); (repeat' (first | omega | assumption | apply hI' | apply hbw | refine And.intro ?_ ?_)); done))); (focus (first | omega | (simp only []; omega))))
      | false =>
        by_cases hlt : 2 < n
        · have hlt' : ((2 : Nat) : Int) < argsA k := by omega
          cases hsm2 : (numA (ix ws 0).d).isSome with
          | true =>
            ((try simp only [WKb, ↓reduceIte, Nat.reduceEqDiff]) <;> (repeat' ((first
    | (refine G.tr ?_; first | refine S.a ?_ | refine S.t ?_ | refine Tr.brK ?_ ?_ | (refine G.call 97 ?_; refine S.c ?_ (h := split_ok ?_)) | (refine G.call 139 ?_; refine S.c ?_ (h := wnumber_ok ?_)) | (refine G.call 140 ?_; refine S.c ?_ (h := wcall_ok ?_)) | (refine G.call 136 ?_; refine S.c ?_ (h := callargs_ok)) | (refine G.call 103 ?_; refine S.c ?_ (h := args_ok)) | refine S.n fun _ => ?_ | refine S.i fun hix => ?_ | (refine S.g fun hb => ?_; (try simp only [hb])) | (refine S.s (fun hb => ?_) (fun hb => ?_) <;> ((try simp only [hb]) <;> (try (have hp := hb; simp only [WKs] at hp; (try have hq := Int.not_le.2 hp); (try have hq := Int.not_lt.2 hp))))))
    | rintro _ _ ⟨rfl, rfl⟩
    | rintro _ _ ⟨_, rfl, rfl⟩
    | rintro _ _ ⟨_, _, hi64, hnum, rfl, rfl⟩
    | rintro _ _ ⟨_, _, hi64, hcal, rfl, rfl⟩
    | ((fail_if_success refine G.tr ?_); exact G.prop S.p)
    | fail) <;> (try simp only [WKb, ↓reduceIte, Nat.reduceEqDiff, Nat.reduceAdd, hw, hsm2]))))
            all_goals
              have hI' := rdI_num hlt hI hnum hsm2
              simp +decide only [↓reduceIte] at hI'
              (apply Tr.againE ((2 + 1, false, _, _, n0, n1, _, n3)); (focus (simp only [WKb, ↓reduceIte, Nat.reduceEqDiff])); (focus ((try simp only [WKb, ↓reduceIte, Nat.reduceAdd]); (all_goals ((repeat (refine cons_eq (by first | rfl | (simp [*]; done)) ?_)); rfl)); done)); rotate_left 2; (focus (((try clear hK) <;> (try simp only [WKe, *]) <;> repeat (first | with_reducible exact EntR.done | refine S.e ?_ | (refine S.f ?_ <;> (try simp only [WKe, ↓reduceIte, reduceCtorEq, Int.reduceEq, *])) | with_reducible apply EntR.ex | refine EntR.drop (F := F) ?_ | refine EntR.drop ?_)))); (focus (first | omega | assumption | (simp only []; omega) | (refine ⟨by omega, by assumption⟩) | (simp only []; refine ⟨by omega, by assumption⟩) | ((try simp only []); (repeat' (first | omega | assumption | apply hI' | apply hbwd | refine And.intro ?_ ?_)); done))); (focus (first | omega | (simp only []; omega))))
          | false =>
            have hI' : ∀ (ws' : List Str) (m0 m1 m2 m3 : Int), rdI rest n (2 + 1) true ws' m0 m1 m2 m3 := fun ws' m0 m1 m2 m3 => rdI_fail hlt hI hsm2
            ((try simp only [WKb, ↓reduceIte, Nat.reduceEqDiff]) <;> (repeat' ((first
    | (refine G.tr ?_; first | refine S.a ?_ | refine S.t ?_ | refine Tr.brK ?_ ?_ | (refine G.call 97 ?_; refine S.c ?_ (h := split_ok ?_)) | (refine G.call 139 ?_; refine S.c ?_ (h := wnumber_ok ?_)) | (refine G.call 140 ?_; refine S.c ?_ (h := wcall_ok ?_)) | (refine G.call 136 ?_; refine S.c ?_ (h := callargs_ok)) | (refine G.call 103 ?_; refine S.c ?_ (h := args_ok)) | refine S.n fun _ => ?_ | refine S.i fun hix => ?_ | (refine S.g fun hb => ?_; (try simp only [hb])) | (refine S.s (fun hb => ?_) (fun hb => ?_) <;> ((try simp only [hb]) <;> (try (have hp := hb; simp only [WKs] at hp; (try have hq := Int.not_le.2 hp); (try have hq := Int.not_lt.2 hp))))))
    | rintro _ _ ⟨rfl, rfl⟩
    | rintro _ _ ⟨_, rfl, rfl⟩
    | rintro _ _ ⟨_, _, hi64, hnum, rfl, rfl⟩
    | rintro _ _ ⟨_, _, hi64, hcal, rfl, rfl⟩
    | ((fail_if_success refine G.tr ?_); exact G.prop S.p)
    | fail) <;> (try simp only [WKb, ↓reduceIte, Nat.reduceEqDiff, Nat.reduceAdd, hw, hsm2]))))
            all_goals (apply Tr.againE ((2 + 1, true, _, _, n0, n1, _, n3)); (focus (simp only [WKb, ↓reduceIte, Nat.reduceEqDiff])); (focus ((try simp only [WKb, ↓reduceIte, Nat.reduceAdd]); (all_goals ((repeat (refine cons_eq (by first | rfl | (simp [*]; done)) ?_)); rfl)); done)); rotate_left 2; (focus (((try clear hK) <;> (try simp only [WKe, *]) <;> repeat (first | with_reducible exact EntR.done | refine S.e ?_ | (refine S.f ?_ <;> (try simp only [WKe, ↓reduceIte, reduceCtorEq, Int.reduceEq, *])) | with_reducible apply EntR.ex | refine EntR.drop (F := F) ?_ | refine EntR.drop ?_)))); (focus (first | omega | assumption | (simp only []; omega) | (refine ⟨by omega, by assumption⟩) | (simp only []; refine ⟨by omega, by assumption⟩) | ((try simp only []); (repeat' (first | omega | assumption | apply hI' | apply hbwd | refine And.intro ?_ ?_)); done))); (focus (first | omega | (simp only []; omega))))
        · have hlt' : ¬ ((2 : Nat) : Int) < argsA k := by omega
          have hI' : rdI rest n (2 + 1) false ws n0 n1 n2 n3 := rdI_skip (by omega) hI
          ((try simp only [WKb, ↓reduceIte, Nat.reduceEqDiff]) <;> (repeat' ((first
    | (refine G.tr ?_; first | refine S.a ?_ | refine S.t ?_ | refine Tr.brK ?_ ?_ | (refine G.call 97 ?_; refine S.c ?_ (h := split_ok ?_)) | (refine G.call 139 ?_; refine S.c ?_ (h := wnumber_ok ?_)) | (refine G.call 140 ?_; refine S.c ?_ (h := wcall_ok ?_)) | (refine G.call 136 ?_; refine S.c ?_ (h := callargs_ok)) | (refine G.call 103 ?_; refine S.c ?_ (h := args_ok)) | refine S.n fun _ => ?_ | refine S.i fun hix => ?_ | (refine S.g fun hb => ?_; (try simp only [hb])) | (refine S.s (fun hb => ?_) (fun hb => ?_) <;> ((try simp only [hb]) <;> (try (have hp := hb; simp only [WKs] at hp; (try have hq := Int.not_le.2 hp); (try have hq := Int.not_lt.2 hp))))))
    | rintro _ _ ⟨rfl, rfl⟩
    | rintro _ _ ⟨_, rfl, rfl⟩
    | rintro _ _ ⟨_, _, hi64, hnum, rfl, rfl⟩
    | rintro _ _ ⟨_, _, hi64, hcal, rfl, rfl⟩
    | ((fail_if_success refine G.tr ?_); exact G.prop S.p)
    | fail) <;> (try simp only [WKb, ↓reduceIte, Nat.reduceEqDiff, Nat.reduceAdd, hw]))))
          all_goals (apply Tr.againE ((2 + 1, false, _, _, n0, n1, n2, n3)); (focus (simp only [WKb, ↓reduceIte, Nat.reduceEqDiff])); (focus ((try simp only [WKb, ↓reduceIte, Nat.reduceAdd]); (all_goals ((repeat (refine cons_eq (by first | rfl | (simp [*]; done)) ?_)); rfl)); done)); rotate_left 2; (focus (((try clear hK) <;> (try simp only [WKe, *]) <;> repeat (first | with_reducible exact EntR.done | refine S.e ?_ | (refine S.f ?_ <;> (try simp only [WKe, ↓reduceIte, reduceCtorEq, Int.reduceEq, *])) | with_reducible apply EntR.ex | refine EntR.drop (F := F) ?_ | refine EntR.drop ?_)))); (focus (first | omega | assumption | (simp only []; omega) | (refine ⟨by omega, by assumption⟩) | (simp only []; refine ⟨by omega, by assumption⟩) | ((try simp only []); (repeat' (first | omega | assumption | apply hI' | apply hbw | refine And.intro ?_ ?_)); done))); (focus (first | omega | (simp only []; omega))))
    · have hw := wrapSucc (k := 3) (by omega)
      cases bad with
      | true =>
        have hI' : rdI rest n (3 + 1) true ws n0 n1 n2 n3 := rdI_bad hI
        ((try simp only [WKb, ↓reduceIte, Nat.reduceEqDiff]) <;> (repeat' ((first
    | (refine G.tr ?_; first | refine S.a ?_ | refine S.t ?_ | refine Tr.brK ?_ ?_ | (refine G.call 97 ?_; refine S.c ?_ (h := split_ok ?_)) | (refine G.call 139 ?_; refine S.c ?_ (h := wnumber_ok ?_)) | (refine G.call 140 ?_; refine S.c ?_ (h := wcall_ok ?_)) | (refine G.call 136 ?_; refine S.c ?_ (h := callargs_ok)) | (refine G.call 103 ?_; refine S.c ?_ (h := args_ok)) | refine S.n fun _ => ?_ | refine S.i fun hix => ?_ | (refine S.g fun hb => ?_; (try simp only [hb])) | (refine S.s (fun hb => ?_) (fun hb => ?_) <;> ((try simp only [hb]) <;> (try (have hp := hb; simp only [WKs] at hp; (try have hq := Int.not_le.2 hp); (try have hq := Int.not_lt.2 hp))))))
    | rintro _ _ ⟨rfl, rfl⟩
    | rintro _ _ ⟨_, rfl, rfl⟩
    | rintro _ _ ⟨_, _, hi64, hnum, rfl, rfl⟩
    | rintro _ _ ⟨_, _, hi64, hcal, rfl, rfl⟩
    | ((fail_if_success refine G.tr ?_); exact G.prop S.p)
    | fail) <;> (try simp only [WKb, ↓reduceIte, Nat.reduceEqDiff, Nat.reduceAdd, hw]))))
        all_goals (apply Tr.againE ((3 + 1, true, _, _, n0, n1, n2, n3)); (focus (simp only [WKb, ↓reduceIte, Nat.reduceEqDiff])); (focus ((try simp only [WKb, ↓reduceIte, Nat.reduceAdd]); (all_goals ((repeat (refine cons_eq (by first | rfl | (simp [*]; done)) ?_)); rfl)); done)); rotate_left 2; (focus (((try clear hK) <;> (try simp only [WKe, *]) <;> repeat (first | with_reducible exact EntR.done | refine S.e ?_ | (refine S.f ?_ <;> (try simp only [WKe, ↓reduceIte, reduceCtorEq, Int.reduceEq, *])) | with_reducible apply EntR.ex | refine EntR.drop (F := F) ?_ | refine EntR.drop ?_)))); (focus (first | omega | assumption | (simp only []; omega) | (refine ⟨by omega, by assumption⟩) | (simp only []; refine ⟨by omega, by assumption⟩) | ((try simp only []); (repeat' (first | omega | assumption | apply hI' | apply hbw | refine And.intro ?_ ?_)); done))); (focus (first | omega | (simp only []; omega))))
      | false =>
        by_cases hlt : 3 < n
        · have hlt' : ((3 : Nat) : Int) < argsA k := by omega
          cases hsm2 : (numA (ix ws 0).d).isSome with
          | true =>
            ((try simp only [WKb, ↓reduceIte, Nat.reduceEqDiff]) <;> (repeat' ((first
    | (refine G.tr ?_; first | refine S.a ?_ | refine S.t ?_ | refine Tr.brK ?_ ?_ | (refine G.call 97 ?_; refine S.c ?_ (h := split_ok ?_)) | (refine G.call 139 ?_; refine S.c ?_ (h := wnumber_ok ?_)) | (refine G.call 140 ?_; refine S.c ?_ (h := wcall_ok ?_)) | (refine G.call 136 ?_; refine S.c ?_ (h := callargs_ok)) | (refine G.call 103 ?_; refine S.c ?_ (h := args_ok)) | refine S.n fun _ => ?_ | refine S.i fun hix => ?_ | (refine S.g fun hb => ?_; (try simp only [hb])) | (refine S.s (fun hb => ?_) (fun hb => ?_) <;> ((try simp only [hb]) <;> (try (have hp := hb; simp only [WKs] at hp; (try have hq := Int.not_le.2 hp); (try have hq := Int.not_lt.2 hp))))))
    | rintro _ _ ⟨rfl, rfl⟩
    | rintro _ _ ⟨_, rfl, rfl⟩
    | rintro _ _ ⟨_, _, hi64, hnum, rfl, rfl⟩
    | rintro _ _ ⟨_, _, hi64, hcal, rfl, rfl⟩
    | ((fail_if_success refine G.tr ?_); exact G.prop S.p)
    | fail) <;> (try simp only [WKb, ↓reduceIte, Nat.reduceEqDiff, Nat.reduceAdd, hw, hsm2]))))
            all_goals
              have hI' := rdI_num hlt hI hnum hsm2
              simp +decide only [↓reduceIte] at hI'
              (apply Tr.againE ((3 + 1, false, _, _, n0, n1, n2, _)); (focus (simp only [WKb, ↓reduceIte, Nat.reduceEqDiff])); (focus ((try simp only [WKb, ↓reduceIte, Nat.reduceAdd]); (all_goals ((repeat (refine cons_eq (by first | rfl | (simp [*]; done)) ?_)); rfl)); done)); rotate_left 2; (focus (((try clear hK) <;> (try simp only [WKe, *]) <;> repeat (first | with_reducible exact EntR.done | refine S.e ?_ | (refine S.f ?_ <;> (try simp only [WKe, ↓reduceIte, reduceCtorEq, Int.reduceEq, *])) | with_reducible apply EntR.ex | refine EntR.drop (F := F) ?_ | refine EntR.drop ?_)))); (focus (first | omega | assumption | (simp only []; omega) | (refine ⟨by omega, by assumption⟩) | (simp only []; refine ⟨by omega, by assumption⟩) | ((try simp only []); (repeat' (first | omega | assumption | apply hI' | apply hbwd | refine And.intro ?_ ?_)); done))); (focus (first | omega | (simp only []; omega))))
          | false =>
            have hI' : ∀ (ws' : List Str) (m0 m1 m2 m3 : Int), rdI rest n (3 + 1) true ws' m0 m1 m2 m3 := fun ws' m0 m1 m2 m3 => rdI_fail hlt hI hsm2
            ((try simp only [WKb, ↓reduceIte, Nat.reduceEqDiff]) <;> (repeat' ((first
    | (refine G.tr ?_; first | refine S.a ?_ | refine S.t ?_ | refine Tr.brK ?_ ?_ | (refine G.call 97 ?_; refine S.c ?_ (h := split_ok ?_)) | (refine G.call 139 ?_; refine S.c ?_ (h := wnumber_ok ?_)) | (refine G.call 140 ?_; refine S.c ?_ (h := wcall_ok ?_)) | (refine G.call 136 ?_; refine S.c ?_ (h := callargs_ok)) | (refine G.call 103 ?_; refine S.c ?_ (h := args_ok)) | refine S.n fun _ => ?_ | refine S.i fun hix => ?_ | (refine S.g fun hb => ?_; (try simp only [hb])) | (refine S.s (fun hb => ?_) (fun hb => ?_) <;> ((try simp only [hb]) <;> (try (have hp := hb; simp only [WKs] at hp; (try have hq := Int.not_le.2 hp); (try have hq := Int.not_lt.2 hp))))))
    | rintro _ _ ⟨rfl, rfl⟩
    | rintro _ _ ⟨_, rfl, rfl⟩
    | rintro _ _ ⟨_, _, hi64, hnum, rfl, rfl⟩
    | rintro _ _ ⟨_, _, hi64, hcal, rfl, rfl⟩
    | ((fail_if_success refine G.tr ?_); exact G.prop S.p)
    | fail) <;> (try simp only [WKb, ↓reduceIte, Nat.reduceEqDiff, Nat.reduceAdd, hw, hsm2]))))
            all_goals (apply Tr.againE ((3 + 1, true, _, _, n0, n1, n2, _)); (focus (simp only [WKb, ↓reduceIte, Nat.reduceEqDiff])); (focus ((try simp only [WKb, ↓reduceIte, Nat.reduceAdd]); (all_goals ((repeat (refine cons_eq (by first | rfl | (simp [*]; done)) ?_)); rfl)); done)); rotate_left 2; (focus (((try clear hK) <;> (try simp only [WKe, *]) <;> repeat (first | with_reducible exact EntR.done | refine S.e ?_ | (refine S.f ?_ <;> (try simp only [WKe, ↓reduceIte, reduceCtorEq, Int.reduceEq, *])) | with_reducible apply EntR.ex | refine EntR.drop (F := F) ?_ | refine EntR.drop ?_)))); (focus (first | omega | assumption | (simp only []; omega) | (refine ⟨by omega, by assumption⟩) | (simp only []; refine ⟨by omega, by assumption⟩) | ((try simp only []); (repeat' (first | omega | assumption | apply hI' | apply hbwd | refine And.intro ?_ ?_)); done))); (focus (first | omega | (simp only []; omega))))
        · have hlt' : ¬ ((3 : Nat) : Int) < argsA k := by omega
          have hI' : rdI rest n (3 + 1) false ws n0 n1 n2 n3 := rdI_skip (by omega) hI
          ((try simp only [WKb, ↓reduceIte, Nat.reduceEqDiff]) <;> (repeat' ((first
    | (refine G.tr ?_; first | refine S.a ?_ | refine S.t ?_ | refine Tr.brK ?_ ?_ | (refine G.call 97 ?_; refine S.c ?_ (h := split_ok ?_)) | (refine G.call 139 ?_; refine S.c ?_ (h := wnumber_ok ?_)) | (refine G.call 140 ?_; refine S.c ?_ (h := wcall_ok ?_)) | (refine G.call 136 ?_; refine S.c ?_ (h := callargs_ok)) | (refine G.call 103 ?_; refine S.c ?_ (h := args_ok)) | refine S.n fun _ => ?_ | refine S.i fun hix => ?_ | (refine S.g fun hb => ?_; (try simp only [hb])) | (refine S.s (fun hb => ?_) (fun hb => ?_) <;> ((try simp only [hb]) <;> (try (have hp := hb; simp only [WKs] at hp; (try have hq := Int.not_le.2 hp); (try have hq := Int.not_lt.2 hp))))))
    | rintro _ _ ⟨rfl, rfl⟩
    | rintro _ _ ⟨_, rfl, rfl⟩
    | rintro _ _ ⟨_, _, hi64, hnum, rfl, rfl⟩
    | rintro _ _ ⟨_, _, hi64, hcal, rfl, rfl⟩
    | ((fail_if_success refine G.tr ?_); exact G.prop S.p)
    | fail) <;> (try simp only [WKb, ↓reduceIte, Nat.reduceEqDiff, Nat.reduceAdd, hw]))))
          all_goals (apply Tr.againE ((3 + 1, false, _, _, n0, n1, n2, n3)); (focus (simp only [WKb, ↓reduceIte, Nat.reduceEqDiff])); (focus ((try simp only [WKb, ↓reduceIte, Nat.reduceAdd]); (all_goals ((repeat (refine cons_eq (by first | rfl | (simp [*]; done)) ?_)); rfl)); done)); rotate_left 2; (focus (((try clear hK) <;> (try simp only [WKe, *]) <;> repeat (first | with_reducible exact EntR.done | refine S.e ?_ | (refine S.f ?_ <;> (try simp only [WKe, ↓reduceIte, reduceCtorEq, Int.reduceEq, *])) | with_reducible apply EntR.ex | refine EntR.drop (F := F) ?_ | refine EntR.drop ?_)))); (focus (first | omega | assumption | (simp only []; omega) | (refine ⟨by omega, by assumption⟩) | (simp only []; refine ⟨by omega, by assumption⟩) | ((try simp only []); (repeat' (first | omega | assumption | apply hI' | apply hbw | refine And.intro ?_ ?_)); done))); (focus (first | omega | (simp only []; omega))))
    · have hE := rdI_end hn4 hI
      by_cases hfin : bad = true ∨ 0 < ws.length
      · rw [if_pos hfin, ← hn] at hE
        have hR := readA_none hok2 hrest hE
        cases bad with
        | true =>
          ((try simp only [WKb, ↓reduceIte, Nat.reduceEqDiff]) <;> (repeat' ((first
    | (refine G.tr ?_; first | refine S.a ?_ | refine S.t ?_ | refine Tr.brK ?_ ?_ | (refine G.call 97 ?_; refine S.c ?_ (h := split_ok ?_)) | (refine G.call 139 ?_; refine S.c ?_ (h := wnumber_ok ?_)) | (refine G.call 140 ?_; refine S.c ?_ (h := wcall_ok ?_)) | (refine G.call 136 ?_; refine S.c ?_ (h := callargs_ok)) | (refine G.call 103 ?_; refine S.c ?_ (h := args_ok)) | refine S.n fun _ => ?_ | refine S.i fun hix => ?_ | (refine S.g fun hb => ?_; (try simp only [hb])) | (refine S.s (fun hb => ?_) (fun hb => ?_) <;> ((try simp only [hb]) <;> (try (have hp := hb; simp only [WKs] at hp; (try have hq := Int.not_le.2 hp); (try have hq := Int.not_lt.2 hp))))))
    | rintro _ _ ⟨rfl, rfl⟩
    | rintro _ _ ⟨_, rfl, rfl⟩
    | rintro _ _ ⟨_, _, hi64, hnum, rfl, rfl⟩
    | rintro _ _ ⟨_, _, hi64, hcal, rfl, rfl⟩
    | ((fail_if_success refine G.tr ?_); exact G.prop S.p)
    | fail) <;> (try simp only [WKb, ↓reduceIte, Nat.reduceEqDiff]))))
          all_goals
            refine Tr.fin hK ⟨by rw [hR]; rfl, rfl⟩ ?_
            ((try clear hK) <;> (try simp only [WKe, *]) <;> repeat (first | with_reducible exact EntR.done | refine S.e ?_ | (refine S.f ?_ <;> (try simp only [WKe, ↓reduceIte, reduceCtorEq, Int.reduceEq, *])) | with_reducible apply EntR.ex | refine EntR.drop (F := F) ?_ | refine EntR.drop ?_))
        | false =>
          have hwl : (0 : Int) < ws.length := by
            rcases hfin with h | h
            · cases h
            · omega
          ((try simp only [WKb, ↓reduceIte, Nat.reduceEqDiff]) <;> (repeat' ((first
    | (refine G.tr ?_; first | refine S.a ?_ | refine S.t ?_ | refine Tr.brK ?_ ?_ | (refine G.call 97 ?_; refine S.c ?_ (h := split_ok ?_)) | (refine G.call 139 ?_; refine S.c ?_ (h := wnumber_ok ?_)) | (refine G.call 140 ?_; refine S.c ?_ (h := wcall_ok ?_)) | (refine G.call 136 ?_; refine S.c ?_ (h := callargs_ok)) | (refine G.call 103 ?_; refine S.c ?_ (h := args_ok)) | refine S.n fun _ => ?_ | refine S.i fun hix => ?_ | (refine S.g fun hb => ?_; (try simp only [hb])) | (refine S.s (fun hb => ?_) (fun hb => ?_) <;> ((try simp only [hb]) <;> (try (have hp := hb; simp only [WKs] at hp; (try have hq := Int.not_le.2 hp); (try have hq := Int.not_lt.2 hp))))))
    | rintro _ _ ⟨rfl, rfl⟩
    | rintro _ _ ⟨_, rfl, rfl⟩
    | rintro _ _ ⟨_, _, hi64, hnum, rfl, rfl⟩
    | rintro _ _ ⟨_, _, hi64, hcal, rfl, rfl⟩
    | ((fail_if_success refine G.tr ?_); exact G.prop S.p)
    | fail) <;> (try simp only [WKb, ↓reduceIte, Nat.reduceEqDiff]))))
          all_goals
            refine Tr.fin hK ⟨by rw [hR]; rfl, rfl⟩ ?_
            ((try clear hK) <;> (try simp only [WKe, *]) <;> repeat (first | with_reducible exact EntR.done | refine S.e ?_ | (refine S.f ?_ <;> (try simp only [WKe, ↓reduceIte, reduceCtorEq, Int.reduceEq, *])) | with_reducible apply EntR.ex | refine EntR.drop (F := F) ?_ | refine EntR.drop ?_))
      · rw [if_neg hfin, ← hn] at hE
        obtain ⟨hE0, rfl, rfl, rfl, rfl⟩ := hE
        have hR := readA_some hok1 hok2 hrest hE0
        have hb : bad = false := by cases bad; rfl; exact absurd (.inl rfl) hfin
        subst hb
        have hwl : ¬ (0 : Int) < ws.length := fun h => hfin (.inr (by omega))
        ((try simp only [WKb, ↓reduceIte, Nat.reduceEqDiff]) <;> (repeat' ((first
    | (refine G.tr ?_; first | refine S.a ?_ | refine S.t ?_ | refine Tr.brK ?_ ?_ | (refine G.call 97 ?_; refine S.c ?_ (h := split_ok ?_)) | (refine G.call 139 ?_; refine S.c ?_ (h := wnumber_ok ?_)) | (refine G.call 140 ?_; refine S.c ?_ (h := wcall_ok ?_)) | (refine G.call 136 ?_; refine S.c ?_ (h := callargs_ok)) | (refine G.call 103 ?_; refine S.c ?_ (h := args_ok)) | refine S.n fun _ => ?_ | refine S.i fun hix => ?_ | (refine S.g fun hb => ?_; (try simp only [hb])) | (refine S.s (fun hb => ?_) (fun hb => ?_) <;> ((try simp only [hb]) <;> (try (have hp := hb; simp only [WKs] at hp; (try have hq := Int.not_le.2 hp); (try have hq := Int.not_lt.2 hp))))))
    | rintro _ _ ⟨rfl, rfl⟩
    | rintro _ _ ⟨_, rfl, rfl⟩
    | rintro _ _ ⟨_, _, hi64, hnum, rfl, rfl⟩
    | rintro _ _ ⟨_, _, hi64, hcal, rfl, rfl⟩
    | ((fail_if_success refine G.tr ?_); exact G.prop S.p)
    | fail) <;> (try simp only [WKb, ↓reduceIte, Nat.reduceEqDiff]))))
        all_goals
          refine Tr.fin hK ⟨by rw [hR]; rfl, rfl⟩ ?_
          ((try clear hK) <;> (try simp only [WKe, *]) <;> repeat (first | with_reducible exact EntR.done | refine S.e ?_ | (refine S.f ?_ <;> (try simp only [WKe, ↓reduceIte, reduceCtorEq, Int.reduceEq, *])) | with_reducible apply EntR.ex | refine EntR.drop (F := F) ?_ | refine EntR.drop ?_))
  · have hR := hbad (by cases b1 <;> cases b2 <;> simp at hg0 ⊢)
    have hbx : (false || !b1 || !b2) = true := by cases b1 <;> cases b2 <;> simp at hg0 ⊢
    rw [hbx]
    clear hok hbad hbx
    refine Tr.loopE (α := Nat) [19] [2, 3, 4, 5, 18] (fun i => [.int .i64 i]) (fun _ => [blk ob (.cells [.int .i64 c, .int .i64 k, .int .i64 0, .int .i64 0, .int .i64 0, .int .i64 0].toArray 108 (0, 0)), rdB wb s2 true]) (fun i => i ≤ 4) (fun i => 4 - i) 0 (by (repeat (first | exact TakeL.nil | (apply TakeL.cons; focus ((first | exact TakeA.dupS | exact TakeA.dupF | ((repeat (first | with_reducible exact TakeA.here | exact TakeA.fam (by omega) (by omega) | with_reducible apply TakeA.next)); done) | ((repeat (first | exact TakeA.here | apply TakeA.next)); done) | exact TakeA.famNil | exact TakeA.nilS))) | fail)); done) rfl (Nat.zero_le _) fun i u hi => ?_
    obtain rfl | rfl | rfl | rfl | rfl : i = 0 ∨ i = 1 ∨ i = 2 ∨ i = 3 ∨ i = 4 := by omega
    · have hw := wrapSucc (k := 0) (by omega)
      ((try simp only [WKb, ↓reduceIte, Nat.reduceEqDiff]) <;> (repeat' ((first
    | (refine G.tr ?_; first | refine S.a ?_ | refine S.t ?_ | refine Tr.brK ?_ ?_ | (refine G.call 97 ?_; refine S.c ?_ (h := split_ok ?_)) | (refine G.call 139 ?_; refine S.c ?_ (h := wnumber_ok ?_)) | (refine G.call 140 ?_; refine S.c ?_ (h := wcall_ok ?_)) | (refine G.call 136 ?_; refine S.c ?_ (h := callargs_ok)) | (refine G.call 103 ?_; refine S.c ?_ (h := args_ok)) | refine S.n fun _ => ?_ | refine S.i fun hix => ?_ | (refine S.g fun hb => ?_; (try simp only [hb])) | (refine S.s (fun hb => ?_) (fun hb => ?_) <;> ((try simp only [hb]) <;> (try (have hp := hb; simp only [WKs] at hp; (try have hq := Int.not_le.2 hp); (try have hq := Int.not_lt.2 hp))))))
    | rintro _ _ ⟨rfl, rfl⟩
    | rintro _ _ ⟨_, rfl, rfl⟩
    | rintro _ _ ⟨_, _, hi64, hnum, rfl, rfl⟩
    | rintro _ _ ⟨_, _, hi64, hcal, rfl, rfl⟩
    | ((fail_if_success refine G.tr ?_); exact G.prop S.p)
    | fail) <;> (try simp only [WKb, ↓reduceIte, Nat.reduceEqDiff, hw]))))
      all_goals (apply Tr.againE (0 + 1); (focus (simp only [WKb, ↓reduceIte, Nat.reduceEqDiff])); (focus ((try simp only [WKb, ↓reduceIte]); (all_goals ((repeat (refine cons_eq (by first | rfl | (simp [*]; done)) ?_)); rfl)); done)); (focus (first | omega | assumption | (simp only []; omega) | (refine ⟨by omega, by assumption⟩) | (simp only []; refine ⟨by omega, by assumption⟩) | ((try simp only []); (repeat' (first | omega | assumption | refine And.intro ?_ ?_)); done))); (focus (first | omega | (simp only []; omega))); (focus (((try clear hK) <;> (try simp only [WKe, *]) <;> repeat (first | with_reducible exact EntR.done | refine S.e ?_ | (refine S.f ?_ <;> (try simp only [WKe, ↓reduceIte, reduceCtorEq, Int.reduceEq, *])) | with_reducible apply EntR.ex | refine EntR.drop (F := F) ?_ | refine EntR.drop ?_)))))
    · have hw := wrapSucc (k := 1) (by omega)
      ((try simp only [WKb, ↓reduceIte, Nat.reduceEqDiff]) <;> (repeat' ((first
    | (refine G.tr ?_; first | refine S.a ?_ | refine S.t ?_ | refine Tr.brK ?_ ?_ | (refine G.call 97 ?_; refine S.c ?_ (h := split_ok ?_)) | (refine G.call 139 ?_; refine S.c ?_ (h := wnumber_ok ?_)) | (refine G.call 140 ?_; refine S.c ?_ (h := wcall_ok ?_)) | (refine G.call 136 ?_; refine S.c ?_ (h := callargs_ok)) | (refine G.call 103 ?_; refine S.c ?_ (h := args_ok)) | refine S.n fun _ => ?_ | refine S.i fun hix => ?_ | (refine S.g fun hb => ?_; (try simp only [hb])) | (refine S.s (fun hb => ?_) (fun hb => ?_) <;> ((try simp only [hb]) <;> (try (have hp := hb; simp only [WKs] at hp; (try have hq := Int.not_le.2 hp); (try have hq := Int.not_lt.2 hp))))))
    | rintro _ _ ⟨rfl, rfl⟩
    | rintro _ _ ⟨_, rfl, rfl⟩
    | rintro _ _ ⟨_, _, hi64, hnum, rfl, rfl⟩
    | rintro _ _ ⟨_, _, hi64, hcal, rfl, rfl⟩
    | ((fail_if_success refine G.tr ?_); exact G.prop S.p)
    | fail) <;> (try simp only [WKb, ↓reduceIte, Nat.reduceEqDiff, Nat.reduceAdd, hw]))))
      all_goals (apply Tr.againE (1 + 1); (focus (simp only [WKb, ↓reduceIte, Nat.reduceEqDiff])); (focus ((try simp only [WKb, ↓reduceIte, Nat.reduceAdd]); (all_goals ((repeat (refine cons_eq (by first | rfl | (simp [*]; done)) ?_)); rfl)); done)); (focus (first | omega | assumption | (simp only []; omega) | (refine ⟨by omega, by assumption⟩) | (simp only []; refine ⟨by omega, by assumption⟩) | ((try simp only []); (repeat' (first | omega | assumption | refine And.intro ?_ ?_)); done))); (focus (first | omega | (simp only []; omega))); (focus (((try clear hK) <;> (try simp only [WKe, *]) <;> repeat (first | with_reducible exact EntR.done | refine S.e ?_ | (refine S.f ?_ <;> (try simp only [WKe, ↓reduceIte, reduceCtorEq, Int.reduceEq, *])) | with_reducible apply EntR.ex | refine EntR.drop (F := F) ?_ | refine EntR.drop ?_)))))
    · have hw := wrapSucc (k := 2) (by omega)
      ((try simp only [WKb, ↓reduceIte, Nat.reduceEqDiff]) <;> (repeat' ((first
    | (refine G.tr ?_; first | refine S.a ?_ | refine S.t ?_ | refine Tr.brK ?_ ?_ | (refine G.call 97 ?_; refine S.c ?_ (h := split_ok ?_)) | (refine G.call 139 ?_; refine S.c ?_ (h := wnumber_ok ?_)) | (refine G.call 140 ?_; refine S.c ?_ (h := wcall_ok ?_)) | (refine G.call 136 ?_; refine S.c ?_ (h := callargs_ok)) | (refine G.call 103 ?_; refine S.c ?_ (h := args_ok)) | refine S.n fun _ => ?_ | refine S.i fun hix => ?_ | (refine S.g fun hb => ?_; (try simp only [hb])) | (refine S.s (fun hb => ?_) (fun hb => ?_) <;> ((try simp only [hb]) <;> (try (have hp := hb; simp only [WKs] at hp; (try have hq := Int.not_le.2 hp); (try have hq := Int.not_lt.2 hp))))))
    | rintro _ _ ⟨rfl, rfl⟩
    | rintro _ _ ⟨_, rfl, rfl⟩
    | rintro _ _ ⟨_, _, hi64, hnum, rfl, rfl⟩
    | rintro _ _ ⟨_, _, hi64, hcal, rfl, rfl⟩
    | ((fail_if_success refine G.tr ?_); exact G.prop S.p)
    | fail) <;> (try simp only [WKb, ↓reduceIte, Nat.reduceEqDiff, Nat.reduceAdd, hw]))))
      all_goals (apply Tr.againE (2 + 1); (focus (simp only [WKb, ↓reduceIte, Nat.reduceEqDiff])); (focus ((try simp only [WKb, ↓reduceIte, Nat.reduceAdd]); (all_goals ((repeat (refine cons_eq (by first | rfl | (simp [*]; done)) ?_)); rfl)); done)); (focus (first | omega | assumption | (simp only []; omega) | (refine ⟨by omega, by assumption⟩) | (simp only []; refine ⟨by omega, by assumption⟩) | ((try simp only []); (repeat' (first | omega | assumption | refine And.intro ?_ ?_)); done))); (focus (first | omega | (simp only []; omega))); (focus (((try clear hK) <;> (try simp only [WKe, *]) <;> repeat (first | with_reducible exact EntR.done | refine S.e ?_ | (refine S.f ?_ <;> (try simp only [WKe, ↓reduceIte, reduceCtorEq, Int.reduceEq, *])) | with_reducible apply EntR.ex | refine EntR.drop (F := F) ?_ | refine EntR.drop ?_)))))
    · have hw := wrapSucc (k := 3) (by omega)
      ((try simp only [WKb, ↓reduceIte, Nat.reduceEqDiff]) <;> (repeat' ((first
    | (refine G.tr ?_; first | refine S.a ?_ | refine S.t ?_ | refine Tr.brK ?_ ?_ | (refine G.call 97 ?_; refine S.c ?_ (h := split_ok ?_)) | (refine G.call 139 ?_; refine S.c ?_ (h := wnumber_ok ?_)) | (refine G.call 140 ?_; refine S.c ?_ (h := wcall_ok ?_)) | (refine G.call 136 ?_; refine S.c ?_ (h := callargs_ok)) | (refine G.call 103 ?_; refine S.c ?_ (h := args_ok)) | refine S.n fun _ => ?_ | refine S.i fun hix => ?_ | (refine S.g fun hb => ?_; (try simp only [hb])) | (refine S.s (fun hb => ?_) (fun hb => ?_) <;> ((try simp only [hb]) <;> (try (have hp := hb; simp only [WKs] at hp; (try have hq := Int.not_le.2 hp); (try have hq := Int.not_lt.2 hp))))))
    | rintro _ _ ⟨rfl, rfl⟩
    | rintro _ _ ⟨_, rfl, rfl⟩
    | rintro _ _ ⟨_, _, hi64, hnum, rfl, rfl⟩
    | rintro _ _ ⟨_, _, hi64, hcal, rfl, rfl⟩
    | ((fail_if_success refine G.tr ?_); exact G.prop S.p)
    | fail) <;> (try simp only [WKb, ↓reduceIte, Nat.reduceEqDiff, Nat.reduceAdd, hw]))))
      all_goals (apply Tr.againE (3 + 1); (focus (simp only [WKb, ↓reduceIte, Nat.reduceEqDiff])); (focus ((try simp only [WKb, ↓reduceIte, Nat.reduceAdd]); (all_goals ((repeat (refine cons_eq (by first | rfl | (simp [*]; done)) ?_)); rfl)); done)); (focus (first | omega | assumption | (simp only []; omega) | (refine ⟨by omega, by assumption⟩) | (simp only []; refine ⟨by omega, by assumption⟩) | ((try simp only []); (repeat' (first | omega | assumption | refine And.intro ?_ ?_)); done))); (focus (first | omega | (simp only []; omega))); (focus (((try clear hK) <;> (try simp only [WKe, *]) <;> repeat (first | with_reducible exact EntR.done | refine S.e ?_ | (refine S.f ?_ <;> (try simp only [WKe, ↓reduceIte, reduceCtorEq, Int.reduceEq, *])) | with_reducible apply EntR.ex | refine EntR.drop (F := F) ?_ | refine EntR.drop ?_)))))
    · ((try simp only [WKb, ↓reduceIte, Nat.reduceEqDiff]) <;> (repeat' ((first
    | (refine G.tr ?_; first | refine S.a ?_ | refine S.t ?_ | refine Tr.brK ?_ ?_ | (refine G.call 97 ?_; refine S.c ?_ (h := split_ok ?_)) | (refine G.call 139 ?_; refine S.c ?_ (h := wnumber_ok ?_)) | (refine G.call 140 ?_; refine S.c ?_ (h := wcall_ok ?_)) | (refine G.call 136 ?_; refine S.c ?_ (h := callargs_ok)) | (refine G.call 103 ?_; refine S.c ?_ (h := args_ok)) | refine S.n fun _ => ?_ | refine S.i fun hix => ?_ | (refine S.g fun hb => ?_; (try simp only [hb])) | (refine S.s (fun hb => ?_) (fun hb => ?_) <;> ((try simp only [hb]) <;> (try (have hp := hb; simp only [WKs] at hp; (try have hq := Int.not_le.2 hp); (try have hq := Int.not_lt.2 hp))))))
    | rintro _ _ ⟨rfl, rfl⟩
    | rintro _ _ ⟨_, rfl, rfl⟩
    | rintro _ _ ⟨_, _, hi64, hnum, rfl, rfl⟩
    | rintro _ _ ⟨_, _, hi64, hcal, rfl, rfl⟩
    | ((fail_if_success refine G.tr ?_); exact G.prop S.p)
    | fail) <;> (try simp only [WKb, ↓reduceIte, Nat.reduceEqDiff]))))
      all_goals
        refine Tr.fin hK ⟨by rw [hR]; rfl, rfl⟩ ?_
        ((try clear hK) <;> (try simp only [WKe, *]) <;> repeat (first | with_reducible exact EntR.done | refine S.e ?_ | (refine S.f ?_ <;> (try simp only [WKe, ↓reduceIte, reduceCtorEq, Int.reduceEq, *])) | with_reducible apply EntR.ex | refine EntR.drop (F := F) ?_ | refine EntR.drop ?_))

end Go.Proofs.YtgkhjgpgdfbdpaaDoor
