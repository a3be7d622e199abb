import Derived.Test.YtgkhjgpgdfbdpaaDoorXbx
namespace Go.Proofs.YtgkhjgpgdfbdpaaDoor
open Go Go.Wk
set_option maxHeartbeats 6400000
set_option maxRecDepth 100000

/-- A step. -/
structure StepC where
  cycles : Int
  call : Int
  a : Int
  b : Int
  c : Int
  d : Int
  deriving DecidableEq
instance : Inhabited StepC := ⟨⟨0, 0, 0, 0, 0, 0⟩⟩
instance : En StepC := ⟨fun s => [.int .i64 s.cycles, .int .i64 s.call, .int .i64 s.a, .int .i64 s.b, .int .i64 s.c, .int .i64 s.d], 6, fun _ => rfl, fun _ => rfl, by decide⟩
instance {x1 x2 x3 x4 x5 x6 : Int} : DeA (.agg [.int .i64 x1, .int .i64 x2, .int .i64 x3, .int .i64 x4, .int .i64 x5, .int .i64 x6].toArray) (StepC.mk x1 x2 x3 x4 x5 x6) := ⟨rfl⟩
def StepC.ok (s : StepC) : Prop := I64 s.cycles ∧ I64 s.call ∧ I64 s.a ∧ I64 s.b ∧ I64 s.c ∧ I64 s.d
def headW (s : StepC) : List (List UInt8) := if isA s.call then [decA s.cycles, nameA s.call] else [decA s.cycles, [99, 97, 108, 108], decA s.call]
def numW (s : StepC) (k : Nat) : List (List UInt8) := (([s.a, s.b, s.c, s.d].take (argsA s.call).toNat).take k).map decA
/-- A step's words. -/
def stepW (s : StepC) : List (List UInt8) := headW s ++ (([s.a, s.b, s.c, s.d].take (argsA s.call).toNat)).map decA
/-- A step as text. -/
def printA (s : StepC) : List UInt8 := joinA 32 (stepW s)
theorem numW_four {s : StepC} : headW s ++ numW s 4 = stepW s := by
  have := argsA_le s.call
  unfold numW stepW
  rw [List.take_take, Nat.min_eq_right (by omega)]
theorem numW_next {s : StepC} {k : Nat} (hk : k < 4) : numW s (k + 1) = numW s k ++ (if (k : Int) < argsA s.call then [decA ([s.a, s.b, s.c, s.d].getD k 0)] else []) := by
  obtain ⟨n, hn, he⟩ : ∃ n : Nat, n ≤ 4 ∧ argsA s.call = (n : Int) := ⟨(argsA s.call).toNat, by have := argsA_le s.call; omega, by have := argsA_le s.call; omega⟩
  unfold numW
  rw [he, Int.toNat_natCast]
  rcases k with _ | _ | _ | _ | k <;> rcases n with _ | _ | _ | _ | _ | n <;> first | omega | simp
theorem nameA_len (no : Int) : (nameA no).length ≤ 20 := by
  by_cases h : isA no
  · obtain ⟨k, hk, rfl⟩ := isA_cases h
    have : ∀ k, k < 27 → (nameA ((k + 1 : Nat) : Int)).length ≤ 20 := by decide +kernel
    exact this k hk
  · unfold nameA; rw [kindA_no h]; decide
theorem stepW_len {s : StepC} (hs : s.ok) : (∀ w ∈ stepW s, w.length ≤ 20) ∧ (stepW s).length ≤ 7 ∧ 0 < (stepW s).length := by
  obtain ⟨h1, h2, h3, h4, h5, h6⟩ := hs
  unfold stepW headW
  refine ⟨fun w hw => ?_, ?_, ?_⟩
  · rcases List.mem_append.1 hw with hw | hw
    · split at hw <;> simp only [List.mem_cons, List.mem_nil_iff, or_false] at hw
      · rcases hw with rfl | rfl
        · exact decA_len h1
        · exact nameA_len _
      · rcases hw with rfl | rfl | rfl
        · exact decA_len h1
        · decide
        · exact decA_len h2
    · obtain ⟨x, hx, rfl⟩ := List.mem_map.1 hw
      have := List.mem_of_mem_take hx
      simp only [List.mem_cons, List.mem_nil_iff, or_false] at this
      rcases this with rfl | rfl | rfl | rfl
      · exact decA_len h3
      · exact decA_len h4
      · exact decA_len h5
      · exact decA_len h6
  · rw [List.length_append, List.length_map, List.length_take]
    split <;> simp <;> omega
  · split <;> simp
theorem printA_len {s : StepC} (hs : s.ok) : (printA s).length ≤ 147 := by
  have ⟨h1, h2, _⟩ := stepW_len hs
  have := joinA_bound (c := 32) h1
  unfold printA; omega
theorem mk_d (ws : List (List UInt8)) : (ws.map Str.mk).map Str.d = ws := by rw [List.map_map]; exact List.map_id _


attribute [local irreducible] BrK GenK EGenK EUnitK CallK FnK CallV GuardO GuardC CondW opX opK opKc chkR eqR seqK blkK endL WL WD W LoopW BinK Tr drewK resL PickK NotK NilK ExtrK getK Instr.storeAt Instr.loadAt Instr.fieldAt Instr.indexAt Instr.lookup Instr.mapUpdate Instr.box Instr.alloc Instr.build Instr.buildSlice Instr.makeSlice Instr.makeMap Instr.sliceAt Instr.field Instr.index Instr.makeInterface Instr.typeAssert Builtin.len_ Builtin.append_ Builtin.cap_ Builtin.min_ Builtin.max_ Builtin.copy_ Builtin.clear_ convert binOp mp blk rob sl sep ex fact old
attribute [local irreducible] NegK mxV
theorem callargs_ok {b : Nat} : Trip Tryd.prog 136 [.pointer (some ⟨b, 0, none⟩)].toArray []
    fun v l' => v = .agg [.pointer (some ⟨b, 2, none⟩), .pointer (some ⟨b, 3, none⟩), .pointer (some ⟨b, 4, none⟩), .pointer (some ⟨b, 5, none⟩)].toArray ∧ l' = [] := by
  intro F K hK
  simp only [List.nil_append]
  (refine Tr.enter (rs := [.cell 2 217]) mixed fn136 rfl (by simp +arith [Tryd.ntmps136]) fun u => ?_; simp only [cd136, Tryd.f136])
  ((try simp only [WKb]) <;> (repeat' ((first
    | (refine G.tr ?_; first | refine S.a ?_ | refine S.t ?_ | refine Tr.brK ?_ ?_ | refine S.n fun _ => ?_ | refine S.i fun hix => ?_ | (refine S.g fun hb => ?_; (try simp only [hb])) | (refine S.s (fun hb => ?_) (fun hb => ?_) <;> ((try simp only [hb]) <;> (try (have hp := hb; simp only [WKs] at hp; (try have hq := Int.not_le.2 hp); (try have hq := Int.not_lt.2 hp))))))
    | ((fail_if_success refine G.tr ?_); exact G.prop S.p)
    | fail) <;> (try simp only [WKb, WKh, ↓reduceIte, Nat.reduceEqDiff, pl136]))))
  all_goals
    refine Tr.fin hK ⟨rfl, rfl⟩ ?_
    ((try clear hK) <;> (try simp only [WKe, *]) <;> repeat (first | with_reducible exact EntR.done | refine S.e ?_ | (refine S.f ?_ <;> (try simp only [WKe, ↓reduceIte, reduceCtorEq, Int.reduceEq, *])) | with_reducible apply EntR.ex | refine EntR.drop (F := F) ?_ | refine EntR.drop ?_))

theorem print_ok {u0 : Value} {s : StepC} [hd : DeA u0 s] (hs : s.ok) : Trip Tryd.prog 100 [u0].toArray [] fun v l' => v = .string (bstr (printA s)) ∧ l' = [] := by
  obtain rfl := hd.h
  intro F K hK
  simp only [List.nil_append]
  have ⟨hw1, hw2, hw3⟩ := stepW_len hs
  have hpl := printA_len hs
  have hj1 : 0 < (headW s ++ numW s 4).length := by rw [numW_four]; exact hw3
  have hj2 : (headW s ++ numW s 4).length ≤ 140737488355328 := by rw [numW_four]; omega
  have hj3 : (joinA 32 (((headW s ++ numW s 4).map Str.mk).map Str.d)).length ≤ 140737488355328 := by rw [mk_d, numW_four]; exact Nat.le_trans hpl (by decide)
  have hj4 : joinA 32 (((headW s ++ numW s 4).map Str.mk).map Str.d) = printA s := by rw [mk_d, numW_four]; rfl
  have hn0 := numW_next (s := s) (k := 0) (by decide)
  have hn1 := numW_next (s := s) (k := 1) (by decide)
  have hn2 := numW_next (s := s) (k := 2) (by decide)
  have hn3 := numW_next (s := s) (k := 3) (by decide)
  have hnl : ∀ k, (numW s k).length ≤ 4 := fun k => by
    unfold numW
    rw [List.length_map, List.length_take, List.length_take]
    exact Nat.le_trans (Nat.min_le_right _ _) (Nat.min_le_right _ _)
  have hhl : (headW s).length ≤ 3 := by unfold headW; split <;> simp
  have hmap : ∀ (X : List (List UInt8)) (x : List UInt8), X.map Str.mk ++ [⟨x⟩] = (X ++ [x]).map Str.mk := fun X x => by simp
  obtain ⟨h1, h2, h3, h4, h5, h6⟩ := hs
  (refine Tr.enter (rs := [.tmp 2]) mixed fn100 rfl (by simp +arith [Tryd.ntmps100]) fun u => ?_; simp only [cd100, Tryd.f100])
  by_cases hcl : isA s.call
  all_goals
    (first | have hdc : decide (isA s.call) = true := decide_eq_true hcl | have hdc : decide (isA s.call) = false := decide_eq_false hcl)
    (first | have hh : headW s = [decA s.cycles, nameA s.call] := if_pos hcl | have hh : headW s = [decA s.cycles, [99, 97, 108, 108], decA s.call] := if_neg hcl)
    have hh0 : (headW s ++ numW s 0).map Str.mk = (headW s).map Str.mk := by simp [numW]
    rw [hh] at hh0
    simp only [List.map_cons, List.map_nil] at hh0
    rw [← hh] at hh0
    ((try simp only [WKb, ↓reduceIte, WKt]) <;> (repeat' ((first
    | (refine G.tr ?_; first | refine S.a ?_ | refine S.t ?_ | refine Tr.brK ?_ ?_ | (refine G.call 135 ?_; first | refine S.c ?_ (h := decimal_ok (by assumption)) | refine S.c ?_ (h := decimal_ok ?_)) | (refine G.call 55 ?_; refine S.c ?_ (h := name_ok)) | (refine G.call 54 ?_; refine S.c ?_ (h := is_ok)) | (refine G.call 136 ?_; refine S.c ?_ (h := callargs_ok)) | (refine G.call 103 ?_; refine S.c ?_ (h := args_ok)) | (refine G.call 86 ?_; refine S.c ?_ (h := join_ok ?_ ?_ ?_)) | refine S.n fun _ => ?_ | refine S.i fun hix => ?_ | (refine S.g fun hb => ?_; (try simp only [hb])) | (refine S.s (fun hb => ?_) (fun hb => ?_) <;> ((try simp only [hb]) <;> (try (have hp := hb; simp only [WKs] at hp; (try have hq := Int.not_le.2 hp); (try have hq := Int.not_lt.2 hp))))))
    | rintro _ _ ⟨rfl, rfl⟩
    | ((fail_if_success refine G.tr ?_); exact G.prop S.p)
    | fail) <;> (try simp only [WKb, ↓reduceIte, Nat.reduceEqDiff, pl100, hdc]))))
    refine Tr.loopE (α := Nat × SV) [3, 25] [1, 2, 24] (fun x => [x.2.v, .int .i64 x.1]) (fun x => [blk _ (.cells (En.enc s).toArray 108 (0, 0)), sl false x.2.v ((headW s ++ numW s x.1).map Str.mk)]) (fun x => x.1 ≤ 4) (fun x => 4 - x.1) (0, _) (by rw [hh0]; exact (by (repeat (first | exact TakeL.nil | (apply TakeL.cons; focus ((first | exact TakeA.dupS | exact TakeA.dupF | ((repeat (first | with_reducible exact TakeA.here | exact TakeA.fam (by omega) (by omega) | with_reducible apply TakeA.next)); done) | ((repeat (first | exact TakeA.here | apply TakeA.next)); done) | exact TakeA.famNil | exact TakeA.nilS))) | fail)); done)) rfl (Nat.zero_le _) fun x u hx => ?_
    obtain ⟨k, t⟩ := x
    simp only at hx ⊢
    obtain rfl | rfl | rfl | rfl | rfl : k = 0 ∨ k = 1 ∨ k = 2 ∨ k = 3 ∨ k = 4 := by omega
    · have hw := wrapSucc (k := 0) (by omega)
      have hnk := hnl 0
      by_cases hlt : ((0 : Nat) : Int) < argsA s.call
      · have hnx : (headW s ++ numW s 0).map Str.mk ++ [⟨decA s.a⟩] = (headW s ++ numW s (0 + 1)).map Str.mk := by
          rw [hmap, hn0, if_pos hlt, List.append_assoc]; rfl
        ((try simp only [WKb, ↓reduceIte, Nat.reduceEqDiff]) <;> (repeat' ((first
    | (refine G.tr ?_; first | refine S.a ?_ | refine S.t ?_ | refine Tr.brK ?_ ?_ | (refine G.call 135 ?_; first | refine S.c ?_ (h := decimal_ok (by assumption)) | refine S.c ?_ (h := decimal_ok ?_)) | (refine G.call 55 ?_; refine S.c ?_ (h := name_ok)) | (refine G.call 54 ?_; refine S.c ?_ (h := is_ok)) | (refine G.call 136 ?_; refine S.c ?_ (h := callargs_ok)) | (refine G.call 103 ?_; refine S.c ?_ (h := args_ok)) | (refine G.call 86 ?_; refine S.c ?_ (h := join_ok ?_ ?_ ?_)) | refine S.n fun _ => ?_ | refine S.i fun hix => ?_ | (refine S.g fun hb => ?_; (try simp only [hb])) | (refine S.s (fun hb => ?_) (fun hb => ?_) <;> ((try simp only [hb]) <;> (try (have hp := hb; simp only [WKs] at hp; (try have hq := Int.not_le.2 hp); (try have hq := Int.not_lt.2 hp))))))
    | rintro _ _ ⟨rfl, rfl⟩
    | ((fail_if_success refine G.tr ?_); exact G.prop S.p)
    | fail) <;> (try simp only [WKb, ↓reduceIte, Nat.reduceEqDiff, hw]))))
        all_goals (apply Tr.againE ((0 + 1, _)); (focus (simp only [WKb, ↓reduceIte, Nat.reduceEqDiff])); (focus ((try simp only [WKb, ↓reduceIte, Nat.reduceEqDiff]); (all_goals ((repeat (refine cons_eq (by first | rfl | ((try clear hK) <;> first | (simp [*, hnx]; done) | (simp [*, hnx]; omega) | (simp [*, hnx] <;> (try split) <;> simp_all <;> omega))) ?_)); rfl)); done)); (focus (first | omega | assumption | (simp only []; omega) | (refine ⟨by omega, by assumption⟩) | (simp only []; refine ⟨by omega, by assumption⟩) | ((try simp only []); (repeat' (first | omega | assumption | refine And.intro ?_ ?_)); done))); (focus (first | omega | (simp only []; omega))); (focus (((try clear hK) <;> (try simp only [WKe, ↓reduceIte, *]) <;> repeat (first | with_reducible exact EntR.done | refine S.e ?_ | (refine S.f ?_ <;> (try simp only [WKe, hnx, ↓reduceIte, reduceCtorEq, Int.reduceEq, *])) | with_reducible apply EntR.ex | refine EntR.drop (F := F) ?_ | refine EntR.drop ?_)))))
      · have hnx : (headW s ++ numW s 0).map Str.mk = (headW s ++ numW s (0 + 1)).map Str.mk := by
          rw [hn0, if_neg hlt, List.append_nil]
        ((try simp only [WKb, ↓reduceIte, Nat.reduceEqDiff]) <;> (repeat' ((first
    | (refine G.tr ?_; first | refine S.a ?_ | refine S.t ?_ | refine Tr.brK ?_ ?_ | (refine G.call 135 ?_; first | refine S.c ?_ (h := decimal_ok (by assumption)) | refine S.c ?_ (h := decimal_ok ?_)) | (refine G.call 55 ?_; refine S.c ?_ (h := name_ok)) | (refine G.call 54 ?_; refine S.c ?_ (h := is_ok)) | (refine G.call 136 ?_; refine S.c ?_ (h := callargs_ok)) | (refine G.call 103 ?_; refine S.c ?_ (h := args_ok)) | (refine G.call 86 ?_; refine S.c ?_ (h := join_ok ?_ ?_ ?_)) | refine S.n fun _ => ?_ | refine S.i fun hix => ?_ | (refine S.g fun hb => ?_; (try simp only [hb])) | (refine S.s (fun hb => ?_) (fun hb => ?_) <;> ((try simp only [hb]) <;> (try (have hp := hb; simp only [WKs] at hp; (try have hq := Int.not_le.2 hp); (try have hq := Int.not_lt.2 hp))))))
    | rintro _ _ ⟨rfl, rfl⟩
    | ((fail_if_success refine G.tr ?_); exact G.prop S.p)
    | fail) <;> (try simp only [WKb, ↓reduceIte, Nat.reduceEqDiff, hw]))))
        all_goals
          clear hh hh0
          (apply Tr.againE ((0 + 1, _)); (focus (simp only [WKb, ↓reduceIte, Nat.reduceEqDiff])); (focus ((try simp only [WKb, ↓reduceIte, Nat.reduceEqDiff]); (all_goals ((repeat (refine cons_eq (by first | rfl | ((try clear hK) <;> first | (simp [*, hnx]; done) | (simp [*, hnx]; omega) | (simp [*, hnx] <;> (try split) <;> simp_all <;> omega))) ?_)); rfl)); done)); (focus (first | omega | assumption | (simp only []; omega) | (refine ⟨by omega, by assumption⟩) | (simp only []; refine ⟨by omega, by assumption⟩) | ((try simp only []); (repeat' (first | omega | assumption | refine And.intro ?_ ?_)); done))); (focus (first | omega | (simp only []; omega))); (focus (((try clear hK) <;> (try simp only [WKe, ↓reduceIte, *]) <;> repeat (first | with_reducible exact EntR.done | refine S.e ?_ | (refine S.f ?_ <;> (try simp only [WKe, hnx, ↓reduceIte, reduceCtorEq, Int.reduceEq, *])) | with_reducible apply EntR.ex | refine EntR.drop (F := F) ?_ | refine EntR.drop ?_)))))
    · have hw := wrapSucc (k := 1) (by omega)
      have hnk := hnl 1
      by_cases hlt : ((1 : Nat) : Int) < argsA s.call
      · have hnx : (headW s ++ numW s 1).map Str.mk ++ [⟨decA s.b⟩] = (headW s ++ numW s (1 + 1)).map Str.mk := by
          rw [hmap, hn1, if_pos hlt, List.append_assoc]; rfl
        ((try simp only [WKb, ↓reduceIte, Nat.reduceEqDiff]) <;> (repeat' ((first
    | (refine G.tr ?_; first | refine S.a ?_ | refine S.t ?_ | refine Tr.brK ?_ ?_ | (refine G.call 135 ?_; first | refine S.c ?_ (h := decimal_ok (by assumption)) | refine S.c ?_ (h := decimal_ok ?_)) | (refine G.call 55 ?_; refine S.c ?_ (h := name_ok)) | (refine G.call 54 ?_; refine S.c ?_ (h := is_ok)) | (refine G.call 136 ?_; refine S.c ?_ (h := callargs_ok)) | (refine G.call 103 ?_; refine S.c ?_ (h := args_ok)) | (refine G.call 86 ?_; refine S.c ?_ (h := join_ok ?_ ?_ ?_)) | refine S.n fun _ => ?_ | refine S.i fun hix => ?_ | (refine S.g fun hb => ?_; (try simp only [hb])) | (refine S.s (fun hb => ?_) (fun hb => ?_) <;> ((try simp only [hb]) <;> (try (have hp := hb; simp only [WKs] at hp; (try have hq := Int.not_le.2 hp); (try have hq := Int.not_lt.2 hp))))))
    | rintro _ _ ⟨rfl, rfl⟩
    | ((fail_if_success refine G.tr ?_); exact G.prop S.p)
    | fail) <;> (try simp only [WKb, ↓reduceIte, Nat.reduceEqDiff, Nat.reduceAdd, hw]))))
        all_goals (apply Tr.againE ((1 + 1, _)); (focus (simp only [WKb, ↓reduceIte, Nat.reduceEqDiff])); (focus ((try simp only [WKb, ↓reduceIte, Nat.reduceEqDiff, Nat.reduceAdd]); (all_goals ((repeat (refine cons_eq (by first | rfl | ((try clear hK) <;> first | (simp [*, hnx]; done) | (simp [*, hnx]; omega) | (simp [*, hnx] <;> (try split) <;> simp_all <;> omega))) ?_)); rfl)); done)); (focus (first | omega | assumption | (simp only []; omega) | (refine ⟨by omega, by assumption⟩) | (simp only []; refine ⟨by omega, by assumption⟩) | ((try simp only []); (repeat' (first | omega | assumption | refine And.intro ?_ ?_)); done))); (focus (first | omega | (simp only []; omega))); (focus (((try clear hK) <;> (try simp only [WKe, ↓reduceIte, *]) <;> repeat (first | with_reducible exact EntR.done | refine S.e ?_ | (refine S.f ?_ <;> (try simp only [WKe, hnx, ↓reduceIte, reduceCtorEq, Int.reduceEq, *])) | with_reducible apply EntR.ex | refine EntR.drop (F := F) ?_ | refine EntR.drop ?_)))))
      · have hnx : (headW s ++ numW s 1).map Str.mk = (headW s ++ numW s (1 + 1)).map Str.mk := by
          rw [hn1, if_neg hlt, List.append_nil]
        ((try simp only [WKb, ↓reduceIte, Nat.reduceEqDiff]) <;> (repeat' ((first
    | (refine G.tr ?_; first | refine S.a ?_ | refine S.t ?_ | refine Tr.brK ?_ ?_ | (refine G.call 135 ?_; first | refine S.c ?_ (h := decimal_ok (by assumption)) | refine S.c ?_ (h := decimal_ok ?_)) | (refine G.call 55 ?_; refine S.c ?_ (h := name_ok)) | (refine G.call 54 ?_; refine S.c ?_ (h := is_ok)) | (refine G.call 136 ?_; refine S.c ?_ (h := callargs_ok)) | (refine G.call 103 ?_; refine S.c ?_ (h := args_ok)) | (refine G.call 86 ?_; refine S.c ?_ (h := join_ok ?_ ?_ ?_)) | refine S.n fun _ => ?_ | refine S.i fun hix => ?_ | (refine S.g fun hb => ?_; (try simp only [hb])) | (refine S.s (fun hb => ?_) (fun hb => ?_) <;> ((try simp only [hb]) <;> (try (have hp := hb; simp only [WKs] at hp; (try have hq := Int.not_le.2 hp); (try have hq := Int.not_lt.2 hp))))))
    | rintro _ _ ⟨rfl, rfl⟩
    | ((fail_if_success refine G.tr ?_); exact G.prop S.p)
    | fail) <;> (try simp only [WKb, ↓reduceIte, Nat.reduceEqDiff, Nat.reduceAdd, hw]))))
        all_goals
          clear hh hh0
          (apply Tr.againE ((1 + 1, _)); (focus (simp only [WKb, ↓reduceIte, Nat.reduceEqDiff])); (focus ((try simp only [WKb, ↓reduceIte, Nat.reduceEqDiff, Nat.reduceAdd]); (all_goals ((repeat (refine cons_eq (by first | rfl | ((try clear hK) <;> first | (simp [*, hnx]; done) | (simp [*, hnx]; omega) | (simp [*, hnx] <;> (try split) <;> simp_all <;> omega))) ?_)); rfl)); done)); (focus (first | omega | assumption | (simp only []; omega) | (refine ⟨by omega, by assumption⟩) | (simp only []; refine ⟨by omega, by assumption⟩) | ((try simp only []); (repeat' (first | omega | assumption | refine And.intro ?_ ?_)); done))); (focus (first | omega | (simp only []; omega))); (focus (((try clear hK) <;> (try simp only [WKe, ↓reduceIte, *]) <;> repeat (first | with_reducible exact EntR.done | refine S.e ?_ | (refine S.f ?_ <;> (try simp only [WKe, hnx, ↓reduceIte, reduceCtorEq, Int.reduceEq, *])) | with_reducible apply EntR.ex | refine EntR.drop (F := F) ?_ | refine EntR.drop ?_)))))
    · have hw := wrapSucc (k := 2) (by omega)
      have hnk := hnl 2
      by_cases hlt : ((2 : Nat) : Int) < argsA s.call
      · have hnx : (headW s ++ numW s 2).map Str.mk ++ [⟨decA s.c⟩] = (headW s ++ numW s (2 + 1)).map Str.mk := by
          rw [hmap, hn2, if_pos hlt, List.append_assoc]; rfl
        ((try simp only [WKb, ↓reduceIte, Nat.reduceEqDiff]) <;> (repeat' ((first
    | (refine G.tr ?_; first | refine S.a ?_ | refine S.t ?_ | refine Tr.brK ?_ ?_ | (refine G.call 135 ?_; first | refine S.c ?_ (h := decimal_ok (by assumption)) | refine S.c ?_ (h := decimal_ok ?_)) | (refine G.call 55 ?_; refine S.c ?_ (h := name_ok)) | (refine G.call 54 ?_; refine S.c ?_ (h := is_ok)) | (refine G.call 136 ?_; refine S.c ?_ (h := callargs_ok)) | (refine G.call 103 ?_; refine S.c ?_ (h := args_ok)) | (refine G.call 86 ?_; refine S.c ?_ (h := join_ok ?_ ?_ ?_)) | refine S.n fun _ => ?_ | refine S.i fun hix => ?_ | (refine S.g fun hb => ?_; (try simp only [hb])) | (refine S.s (fun hb => ?_) (fun hb => ?_) <;> ((try simp only [hb]) <;> (try (have hp := hb; simp only [WKs] at hp; (try have hq := Int.not_le.2 hp); (try have hq := Int.not_lt.2 hp))))))
    | rintro _ _ ⟨rfl, rfl⟩
    | ((fail_if_success refine G.tr ?_); exact G.prop S.p)
    | fail) <;> (try simp only [WKb, ↓reduceIte, Nat.reduceEqDiff, Nat.reduceAdd, hw]))))
        all_goals (apply Tr.againE ((2 + 1, _)); (focus (simp only [WKb, ↓reduceIte, Nat.reduceEqDiff])); (focus ((try simp only [WKb, ↓reduceIte, Nat.reduceEqDiff, Nat.reduceAdd]); (all_goals ((repeat (refine cons_eq (by first | rfl | ((try clear hK) <;> first | (simp [*, hnx]; done) | (simp [*, hnx]; omega) | (simp [*, hnx] <;> (try split) <;> simp_all <;> omega))) ?_)); rfl)); done)); (focus (first | omega | assumption | (simp only []; omega) | (refine ⟨by omega, by assumption⟩) | (simp only []; refine ⟨by omega, by assumption⟩) | ((try simp only []); (repeat' (first | omega | assumption | refine And.intro ?_ ?_)); done))); (focus (first | omega | (simp only []; omega))); (focus (((try clear hK) <;> (try simp only [WKe, ↓reduceIte, *]) <;> repeat (first | with_reducible exact EntR.done | refine S.e ?_ | (refine S.f ?_ <;> (try simp only [WKe, hnx, ↓reduceIte, reduceCtorEq, Int.reduceEq, *])) | with_reducible apply EntR.ex | refine EntR.drop (F := F) ?_ | refine EntR.drop ?_)))))
      · have hnx : (headW s ++ numW s 2).map Str.mk = (headW s ++ numW s (2 + 1)).map Str.mk := by
          rw [hn2, if_neg hlt, List.append_nil]
        ((try simp only [WKb, ↓reduceIte, Nat.reduceEqDiff]) <;> (repeat' ((first
    | (refine G.tr ?_; first | refine S.a ?_ | refine S.t ?_ | refine Tr.brK ?_ ?_ | (refine G.call 135 ?_; first | refine S.c ?_ (h := decimal_ok (by assumption)) | refine S.c ?_ (h := decimal_ok ?_)) | (refine G.call 55 ?_; refine S.c ?_ (h := name_ok)) | (refine G.call 54 ?_; refine S.c ?_ (h := is_ok)) | (refine G.call 136 ?_; refine S.c ?_ (h := callargs_ok)) | (refine G.call 103 ?_; refine S.c ?_ (h := args_ok)) | (refine G.call 86 ?_; refine S.c ?_ (h := join_ok ?_ ?_ ?_)) | refine S.n fun _ => ?_ | refine S.i fun hix => ?_ | (refine S.g fun hb => ?_; (try simp only [hb])) | (refine S.s (fun hb => ?_) (fun hb => ?_) <;> ((try simp only [hb]) <;> (try (have hp := hb; simp only [WKs] at hp; (try have hq := Int.not_le.2 hp); (try have hq := Int.not_lt.2 hp))))))
    | rintro _ _ ⟨rfl, rfl⟩
    | ((fail_if_success refine G.tr ?_); exact G.prop S.p)
    | fail) <;> (try simp only [WKb, ↓reduceIte, Nat.reduceEqDiff, Nat.reduceAdd, hw]))))
        all_goals
          clear hh hh0
          (apply Tr.againE ((2 + 1, _)); (focus (simp only [WKb, ↓reduceIte, Nat.reduceEqDiff])); (focus ((try simp only [WKb, ↓reduceIte, Nat.reduceEqDiff, Nat.reduceAdd]); (all_goals ((repeat (refine cons_eq (by first | rfl | ((try clear hK) <;> first | (simp [*, hnx]; done) | (simp [*, hnx]; omega) | (simp [*, hnx] <;> (try split) <;> simp_all <;> omega))) ?_)); rfl)); done)); (focus (first | omega | assumption | (simp only []; omega) | (refine ⟨by omega, by assumption⟩) | (simp only []; refine ⟨by omega, by assumption⟩) | ((try simp only []); (repeat' (first | omega | assumption | refine And.intro ?_ ?_)); done))); (focus (first | omega | (simp only []; omega))); (focus (((try clear hK) <;> (try simp only [WKe, ↓reduceIte, *]) <;> repeat (first | with_reducible exact EntR.done | refine S.e ?_ | (refine S.f ?_ <;> (try simp only [WKe, hnx, ↓reduceIte, reduceCtorEq, Int.reduceEq, *])) | with_reducible apply EntR.ex | refine EntR.drop (F := F) ?_ | refine EntR.drop ?_)))))
    · have hw := wrapSucc (k := 3) (by omega)
      have hnk := hnl 3
      by_cases hlt : ((3 : Nat) : Int) < argsA s.call
      · have hnx : (headW s ++ numW s 3).map Str.mk ++ [⟨decA s.d⟩] = (headW s ++ numW s (3 + 1)).map Str.mk := by
          rw [hmap, hn3, if_pos hlt, List.append_assoc]; rfl
        ((try simp only [WKb, ↓reduceIte, Nat.reduceEqDiff]) <;> (repeat' ((first
    | (refine G.tr ?_; first | refine S.a ?_ | refine S.t ?_ | refine Tr.brK ?_ ?_ | (refine G.call 135 ?_; first | refine S.c ?_ (h := decimal_ok (by assumption)) | refine S.c ?_ (h := decimal_ok ?_)) | (refine G.call 55 ?_; refine S.c ?_ (h := name_ok)) | (refine G.call 54 ?_; refine S.c ?_ (h := is_ok)) | (refine G.call 136 ?_; refine S.c ?_ (h := callargs_ok)) | (refine G.call 103 ?_; refine S.c ?_ (h := args_ok)) | (refine G.call 86 ?_; refine S.c ?_ (h := join_ok ?_ ?_ ?_)) | refine S.n fun _ => ?_ | refine S.i fun hix => ?_ | (refine S.g fun hb => ?_; (try simp only [hb])) | (refine S.s (fun hb => ?_) (fun hb => ?_) <;> ((try simp only [hb]) <;> (try (have hp := hb; simp only [WKs] at hp; (try have hq := Int.not_le.2 hp); (try have hq := Int.not_lt.2 hp))))))
    | rintro _ _ ⟨rfl, rfl⟩
    | ((fail_if_success refine G.tr ?_); exact G.prop S.p)
    | fail) <;> (try simp only [WKb, ↓reduceIte, Nat.reduceEqDiff, Nat.reduceAdd, hw]))))
        all_goals (apply Tr.againE ((3 + 1, _)); (focus (simp only [WKb, ↓reduceIte, Nat.reduceEqDiff])); (focus ((try simp only [WKb, ↓reduceIte, Nat.reduceEqDiff, Nat.reduceAdd]); (all_goals ((repeat (refine cons_eq (by first | rfl | ((try clear hK) <;> first | (simp [*, hnx]; done) | (simp [*, hnx]; omega) | (simp [*, hnx] <;> (try split) <;> simp_all <;> omega))) ?_)); rfl)); done)); (focus (first | omega | assumption | (simp only []; omega) | (refine ⟨by omega, by assumption⟩) | (simp only []; refine ⟨by omega, by assumption⟩) | ((try simp only []); (repeat' (first | omega | assumption | refine And.intro ?_ ?_)); done))); (focus (first | omega | (simp only []; omega))); (focus (((try clear hK) <;> (try simp only [WKe, ↓reduceIte, *]) <;> repeat (first | with_reducible exact EntR.done | refine S.e ?_ | (refine S.f ?_ <;> (try simp only [WKe, hnx, ↓reduceIte, reduceCtorEq, Int.reduceEq, *])) | with_reducible apply EntR.ex | refine EntR.drop (F := F) ?_ | refine EntR.drop ?_)))))
      · have hnx : (headW s ++ numW s 3).map Str.mk = (headW s ++ numW s (3 + 1)).map Str.mk := by
          rw [hn3, if_neg hlt, List.append_nil]
        ((try simp only [WKb, ↓reduceIte, Nat.reduceEqDiff]) <;> (repeat' ((first
    | (refine G.tr ?_; first | refine S.a ?_ | refine S.t ?_ | refine Tr.brK ?_ ?_ | (refine G.call 135 ?_; first | refine S.c ?_ (h := decimal_ok (by assumption)) | refine S.c ?_ (h := decimal_ok ?_)) | (refine G.call 55 ?_; refine S.c ?_ (h := name_ok)) | (refine G.call 54 ?_; refine S.c ?_ (h := is_ok)) | (refine G.call 136 ?_; refine S.c ?_ (h := callargs_ok)) | (refine G.call 103 ?_; refine S.c ?_ (h := args_ok)) | (refine G.call 86 ?_; refine S.c ?_ (h := join_ok ?_ ?_ ?_)) | refine S.n fun _ => ?_ | refine S.i fun hix => ?_ | (refine S.g fun hb => ?_; (try simp only [hb])) | (refine S.s (fun hb => ?_) (fun hb => ?_) <;> ((try simp only [hb]) <;> (try (have hp := hb; simp only [WKs] at hp; (try have hq := Int.not_le.2 hp); (try have hq := Int.not_lt.2 hp))))))
    | rintro _ _ ⟨rfl, rfl⟩
    | ((fail_if_success refine G.tr ?_); exact G.prop S.p)
    | fail) <;> (try simp only [WKb, ↓reduceIte, Nat.reduceEqDiff, Nat.reduceAdd, hw]))))
        all_goals
          clear hh hh0
          (apply Tr.againE ((3 + 1, _)); (focus (simp only [WKb, ↓reduceIte, Nat.reduceEqDiff])); (focus ((try simp only [WKb, ↓reduceIte, Nat.reduceEqDiff, Nat.reduceAdd]); (all_goals ((repeat (refine cons_eq (by first | rfl | ((try clear hK) <;> first | (simp [*, hnx]; done) | (simp [*, hnx]; omega) | (simp [*, hnx] <;> (try split) <;> simp_all <;> omega))) ?_)); rfl)); done)); (focus (first | omega | assumption | (simp only []; omega) | (refine ⟨by omega, by assumption⟩) | (simp only []; refine ⟨by omega, by assumption⟩) | ((try simp only []); (repeat' (first | omega | assumption | refine And.intro ?_ ?_)); done))); (focus (first | omega | (simp only []; omega))); (focus (((try clear hK) <;> (try simp only [WKe, ↓reduceIte, *]) <;> repeat (first | with_reducible exact EntR.done | refine S.e ?_ | (refine S.f ?_ <;> (try simp only [WKe, hnx, ↓reduceIte, reduceCtorEq, Int.reduceEq, *])) | with_reducible apply EntR.ex | refine EntR.drop (F := F) ?_ | refine EntR.drop ?_)))))
    · ((try simp only [WKb, ↓reduceIte, Nat.reduceEqDiff]) <;> (repeat' ((first
    | (refine G.tr ?_; first | refine S.a ?_ | refine S.t ?_ | refine Tr.brK ?_ ?_ | (refine G.call 135 ?_; first | refine S.c ?_ (h := decimal_ok (by assumption)) | refine S.c ?_ (h := decimal_ok ?_)) | (refine G.call 55 ?_; refine S.c ?_ (h := name_ok)) | (refine G.call 54 ?_; refine S.c ?_ (h := is_ok)) | (refine G.call 136 ?_; refine S.c ?_ (h := callargs_ok)) | (refine G.call 103 ?_; refine S.c ?_ (h := args_ok)) | (refine G.call 86 ?_; refine S.c ?_ (h := join_ok ?_ ?_ ?_)) | refine S.n fun _ => ?_ | refine S.i fun hix => ?_ | (refine S.g fun hb => ?_; (try simp only [hb])) | (refine S.s (fun hb => ?_) (fun hb => ?_) <;> ((try simp only [hb]) <;> (try (have hp := hb; simp only [WKs] at hp; (try have hq := Int.not_le.2 hp); (try have hq := Int.not_lt.2 hp))))))
    | rintro _ _ ⟨rfl, rfl⟩
    | ((fail_if_success refine G.tr ?_); exact G.prop S.p)
    | fail) <;> (try simp only [WKb, ↓reduceIte, Nat.reduceEqDiff]))))
      all_goals
        refine Tr.fin hK ⟨by rw [hj4], rfl⟩ ?_
        ((try clear hK) <;> (try simp only [WKe, *]) <;> repeat (first | with_reducible exact EntR.done | refine S.e ?_ | (refine S.f ?_ <;> (try simp only [WKe, ↓reduceIte, reduceCtorEq, Int.reduceEq, *])) | with_reducible apply EntR.ex | refine EntR.drop (F := F) ?_ | refine EntR.drop ?_))

theorem four_ix {s : StepC} {k : Nat} (h : k < 4) : ix [s.a, s.b, s.c, s.d] (k : Int) = [s.a, s.b, s.c, s.d].getD k 0 := by
  rcases k with _ | _ | _ | _ | k <;> first | rfl | omega
theorem four_ok {s : StepC} (hs : s.ok) {k : Nat} (h : k < 4) : I64 ([s.a, s.b, s.c, s.d].getD k 0) := by
  obtain ⟨h1, h2, h3, h4, h5, h6⟩ := hs
  rcases k with _ | _ | _ | _ | k <;> first | assumption | omega
theorem printR_ok {u0 : Value} {s : StepC} [hd : DeA u0 s] (hs : s.ok) : Trip Tryd.prog 102 [u0].toArray [] fun v l' => v = .string (bstr (printA s)) ∧ l' = [] := by
  obtain rfl := hd.h
  intro F K hK
  simp only [List.nil_append]
  have ⟨hw1, hw2, hw3⟩ := stepW_len hs
  have hnW := @numW_next s
  have hlw : ∀ k, (joinA 32 (headW s ++ numW s k)).length ≤ 147 := fun k => by
    have hb : (headW s ++ numW s k).length ≤ 7 := by
      have : (numW s k).length ≤ 4 := by
        unfold numW
        rw [List.length_map, List.length_take, List.length_take]
        exact Nat.le_trans (Nat.min_le_right _ _) (Nat.min_le_right _ _)
      have : (headW s).length ≤ 3 := by unfold headW; split <;> simp
      rw [List.length_append]; omega
    have := joinA_bound (c := 32) (n := 20) (ws := headW s ++ numW s k) fun w hw => hw1 w (by
      unfold stepW
      rcases List.mem_append.1 hw with h | h
      · exact List.mem_append_left _ h
      · obtain ⟨x, hx, rfl⟩ := List.mem_map.1 h
        exact List.mem_append_right _ (List.mem_map.2 ⟨x, List.mem_of_mem_take hx, rfl⟩))
    omega
  have hne : ∀ k, headW s ++ numW s k ≠ [] := fun k => by unfold headW; split <;> simp
  have hj4 : ∀ k : Nat, argsA s.call ≤ (k : Int) → joinA 32 (headW s ++ numW s k) = printA s := fun k hk => by
    have := argsA_le s.call
    unfold printA
    rw [← numW_four]
    unfold numW
    rw [List.take_take, List.take_take, Nat.min_eq_right (by omega), Nat.min_eq_right (by omega)]
  have hdl : ∀ {n : Int}, I64 n → (decA n).length ≤ 20 := fun h => decA_len h
  have hdc1 := hdl hs.1
  have hdc2 := hdl hs.2.1
  have hnm := nameA_len s.call
  have h4 := argsA_le s.call
  have hs1 := hs.1
  have hs2 := hs.2.1
  have hhy : isA s.call → decA s.cycles ++ [32] ++ nameA s.call = joinA 32 (headW s ++ numW s 0) := fun h => by unfold headW; rw [if_pos h]; simp [numW, joinA]
  have hhn : ¬ isA s.call → decA s.cycles ++ [32, 99, 97, 108, 108, 32] ++ decA s.call = joinA 32 (headW s ++ numW s 0) := fun h => by unfold headW; rw [if_neg h]; simp [numW, joinA]
  (refine Tr.enter (rs := [.tmp 2]) mixed fn102 rfl (by simp +arith [Tryd.ntmps102]) fun u => ?_; simp only [cd102, Tryd.f102])
  by_cases hcl : isA s.call
  all_goals
    (first | have hdc : decide (isA s.call) = true := decide_eq_true hcl | have hdc : decide (isA s.call) = false := decide_eq_false hcl)
    (first | have hh0 := hhy hcl | have hh0 := hhn hcl)
    ((try simp only [WKb, ↓reduceIte, WKt]) <;> (repeat' ((first
    | (refine G.tr ?_; first | refine S.a ?_ | refine S.t ?_ | refine Tr.brK ?_ ?_ | (refine G.call 62 ?_; first | refine S.c ?_ (h := decimalR_ok (by assumption)) | refine S.c ?_ (h := decimalR_ok ?_)) | (refine G.call 60 ?_; refine S.c ?_ (h := nameR_ok)) | (refine G.call 59 ?_; refine S.c ?_ (h := isR_ok)) | (refine G.call 104 ?_; refine S.c ?_ (h := argsR_ok)) | refine S.n fun _ => ?_ | refine S.i fun hix => ?_ | (refine S.g fun hb => ?_; (try simp only [hb])) | (refine S.s (fun hb => ?_) (fun hb => ?_) <;> ((try simp only [hb]) <;> (try (have hp := hb; simp only [WKs] at hp; (try have hq := Int.not_le.2 hp); (try have hq := Int.not_lt.2 hp))))))
    | rintro _ _ ⟨rfl, rfl⟩
    | ((fail_if_success refine G.tr ?_); exact G.prop S.p)
    | fail) <;> (try simp only [WKb, ↓reduceIte, Nat.reduceEqDiff, pl102, hdc, hh0]))))
    refine Tr.loopE (α := Nat) [3, 5] [1, 2, 4] (fun k => [.string (bstr (joinA 32 (headW s ++ numW s k))), .int .i64 k]) (fun _ => [blk _ (.cells (En.enc s).toArray 108 (0, 0)), sl false _ [s.a, s.b, s.c, s.d]]) (fun k => k ≤ 4 ∧ (k : Int) ≤ argsA s.call) (fun k => 4 - k) 0 (by (repeat (first | exact TakeL.nil | (apply TakeL.cons; focus ((first | exact TakeA.dupS | exact TakeA.dupF | ((repeat (first | with_reducible exact TakeA.here | exact TakeA.fam (by omega) (by omega) | with_reducible apply TakeA.next)); done) | ((repeat (first | exact TakeA.here | apply TakeA.next)); done) | exact TakeA.famNil | exact TakeA.nilS))) | fail)); done) rfl ⟨Nat.zero_le _, h4.1⟩ fun k u hx => ?_
    obtain ⟨hk, hka⟩ := hx
    have hw := wrapSucc (k := k) (by omega)
    have hlk := hlw k
    by_cases hlt : (k : Int) < argsA s.call
    · have hk4 : k < 4 := by omega
      have hok := four_ok hs hk4
      have hdl2 := hdl hok
      have h4x := four_ix (s := s) hk4
      have hnx : joinA 32 (headW s ++ numW s k) ++ [32] ++ decA ([s.a, s.b, s.c, s.d].getD k 0) = joinA 32 (headW s ++ numW s (k + 1)) := by
        rw [hnW hk4, if_pos hlt, ← List.append_assoc, joinA_snoc (hne k)]; simp
      have hka' : ((k + 1 : Nat) : Int) ≤ argsA s.call := by omega
      clear hh0
      ((try simp only [WKb, ↓reduceIte, Nat.reduceEqDiff]) <;> (repeat' ((first
    | (refine G.tr ?_; first | refine S.a ?_ | refine S.t ?_ | refine Tr.brK ?_ ?_ | (refine G.call 62 ?_; first | refine S.c ?_ (h := decimalR_ok (by assumption)) | refine S.c ?_ (h := decimalR_ok ?_)) | (refine G.call 60 ?_; refine S.c ?_ (h := nameR_ok)) | (refine G.call 59 ?_; refine S.c ?_ (h := isR_ok)) | (refine G.call 104 ?_; refine S.c ?_ (h := argsR_ok)) | refine S.n fun _ => ?_ | refine S.i fun hix => ?_ | (refine S.g fun hb => ?_; (try simp only [hb])) | (refine S.s (fun hb => ?_) (fun hb => ?_) <;> ((try simp only [hb]) <;> (try (have hp := hb; simp only [WKs] at hp; (try have hq := Int.not_le.2 hp); (try have hq := Int.not_lt.2 hp))))))
    | rintro _ _ ⟨rfl, rfl⟩
    | ((fail_if_success refine G.tr ?_); exact G.prop S.p)
    | fail) <;> (try simp only [WKb, ↓reduceIte, Nat.reduceEqDiff, hw, h4x, hnx]))))
      all_goals (apply Tr.againE (k + 1); (focus (simp only [WKb, ↓reduceIte, Nat.reduceEqDiff])); (focus ((try simp only [WKb, ↓reduceIte, Nat.reduceEqDiff]); (all_goals ((repeat (refine cons_eq (by first | rfl | (simp [*]; done)) ?_)); rfl)); done)); (focus (first | omega | assumption | (simp only []; omega) | (refine ⟨by omega, by assumption⟩) | (simp only []; refine ⟨by omega, by assumption⟩) | ((try simp only []); (repeat' (first | omega | assumption | apply hka' | refine And.intro ?_ ?_)); done))); (focus (first | omega | (simp only []; omega))); (focus (((try clear hK) <;> (try simp only [WKe, *]) <;> repeat (first | with_reducible exact EntR.done | refine S.e ?_ | (refine S.f ?_ <;> (try simp only [WKe, ↓reduceIte, reduceCtorEq, Int.reduceEq, *])) | with_reducible apply EntR.ex | refine EntR.drop (F := F) ?_ | refine EntR.drop ?_)))))
    · have hfin := hj4 k (by omega)
      clear hh0
      ((try simp only [WKb, ↓reduceIte, Nat.reduceEqDiff]) <;> (repeat' ((first
    | (refine G.tr ?_; first | refine S.a ?_ | refine S.t ?_ | refine Tr.brK ?_ ?_ | (refine G.call 62 ?_; first | refine S.c ?_ (h := decimalR_ok (by assumption)) | refine S.c ?_ (h := decimalR_ok ?_)) | (refine G.call 60 ?_; refine S.c ?_ (h := nameR_ok)) | (refine G.call 59 ?_; refine S.c ?_ (h := isR_ok)) | (refine G.call 104 ?_; refine S.c ?_ (h := argsR_ok)) | refine S.n fun _ => ?_ | refine S.i fun hix => ?_ | (refine S.g fun hb => ?_; (try simp only [hb])) | (refine S.s (fun hb => ?_) (fun hb => ?_) <;> ((try simp only [hb]) <;> (try (have hp := hb; simp only [WKs] at hp; (try have hq := Int.not_le.2 hp); (try have hq := Int.not_lt.2 hp))))))
    | rintro _ _ ⟨rfl, rfl⟩
    | ((fail_if_success refine G.tr ?_); exact G.prop S.p)
    | fail) <;> (try simp only [WKb, ↓reduceIte, Nat.reduceEqDiff]))))
      all_goals
        refine Tr.fin hK ⟨by rw [hfin], rfl⟩ ?_
        ((try clear hK) <;> (try simp only [WKe, *]) <;> repeat (first | with_reducible exact EntR.done | refine S.e ?_ | (refine S.f ?_ <;> (try simp only [WKe, ↓reduceIte, reduceCtorEq, Int.reduceEq, *])) | with_reducible apply EntR.ex | refine EntR.drop (F := F) ?_ | refine EntR.drop ?_))

end Go.Proofs.YtgkhjgpgdfbdpaaDoor
