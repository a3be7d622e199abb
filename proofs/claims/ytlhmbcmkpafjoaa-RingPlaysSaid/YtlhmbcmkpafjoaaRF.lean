import Derived.Test.YtlhmbcmkpafjoaaRE
namespace Go.Proofs.Ytlhmbcmkpafjoaa
open Go Go.Wk
set_option maxHeartbeats 6400000
set_option maxRecDepth 100000

attribute [local irreducible] BrK GenK EGenK EUnitK CallK FnK CallV GuardO GuardC CondW opX opK opKc chkR eqR seqK blkK endL WL WD W LoopW BinK Tr drewK resL PickK NotK NilK ExtrK getK Instr.storeAt Instr.loadAt Instr.fieldAt Instr.indexAt Instr.lookup Instr.mapUpdate Instr.box Instr.alloc Instr.build Instr.buildSlice Instr.makeSlice Instr.makeMap Instr.sliceAt Instr.field Instr.index Instr.makeInterface Instr.typeAssert Builtin.len_ Builtin.append_ Builtin.cap_ Builtin.min_ Builtin.max_ Builtin.copy_ Builtin.clear_ convert binOp mp blk rob sl sep ex fact old
attribute [local irreducible] chn CW chI
abbrev rfB (u : Nat) (s : SV) (n : Int) : Asrt := blk u (.cells [s.v, .int .i64 n].toArray 32 (0, 0))
theorem fnew_ok {n : Int} : Trip Try.prog 17 [.int .i64 n].toArray []
    fun v l' => ∃ u s, v = .pointer (some ⟨u, 0, none⟩) ∧ l' = [rfB u s (ringN n), sl false s.v ([] : List Int)] := by
  intro F K hK
  simp only [List.nil_append]
  (refine Tr.enter (rs := [.tmp 2]) mixed fn17 rfl (by simp +arith [Try.ntmps17]) fun u => ?_; simp only [cd17, Try.f17])
  by_cases h1 : n < 0
  · have hr : ((ringN n : Nat) : Int) = 0 := by unfold ringN; omega
    ((try simp only [WKb, ↓reduceIte, Nat.reduceEqDiff]) <;> (repeat' ((first
    | (refine G.tr ?_; first | refine S.a ?_ | refine Tr.brK ?_ ?_ | refine S.n fun _ => ?_ | refine S.i fun hix => ?_ | (refine S.g fun hb => ?_; (try simp only [hb])) | (refine S.s (fun hb => ?_) (fun hb => ?_) <;> ((try simp only [hb]) <;> (try (have hp := hb; simp only [WKs] at hp; (try have hq := Int.not_le.2 hp); (try have hq := Int.not_lt.2 hp))))))
    | ((fail_if_success refine G.tr ?_); exact G.prop S.p)
    | fail) <;> (try simp only [WKb, WKh, ↓reduceIte, Nat.reduceEqDiff, Nat.reduceAdd, Int.reduceLT]))))
    all_goals
      refine Tr.nilSl (α := Int) ?_
      apply Tr.fin hK ⟨_, ⟨none, 0, 0⟩, rfl, rfl⟩
      ((try clear hK) <;> (try simp only [WKe, *]) <;> repeat (first | with_reducible exact EntR.done | refine S.e ?_ | (refine S.f ?_ <;> (try simp only [WKe, hr, ↓reduceIte, reduceCtorEq, Int.reduceEq, *])) | with_reducible apply EntR.ex | refine EntR.drop (F := F) ?_ | refine EntR.drop ?_))
  · by_cases h2 : 4096 < n
    · have hr : ((ringN n : Nat) : Int) = 4096 := by unfold ringN; omega
      ((try simp only [WKb, ↓reduceIte, Nat.reduceEqDiff]) <;> (repeat' ((first
    | (refine G.tr ?_; first | refine S.a ?_ | refine Tr.brK ?_ ?_ | refine S.n fun _ => ?_ | refine S.i fun hix => ?_ | (refine S.g fun hb => ?_; (try simp only [hb])) | (refine S.s (fun hb => ?_) (fun hb => ?_) <;> ((try simp only [hb]) <;> (try (have hp := hb; simp only [WKs] at hp; (try have hq := Int.not_le.2 hp); (try have hq := Int.not_lt.2 hp))))))
    | ((fail_if_success refine G.tr ?_); exact G.prop S.p)
    | fail) <;> (try simp only [WKb, WKh, ↓reduceIte, Nat.reduceEqDiff, Nat.reduceAdd]))))
      all_goals
        refine Tr.nilSl (α := Int) ?_
        apply Tr.fin hK ⟨_, ⟨none, 0, 0⟩, rfl, rfl⟩
        ((try clear hK) <;> (try simp only [WKe, *]) <;> repeat (first | with_reducible exact EntR.done | refine S.e ?_ | (refine S.f ?_ <;> (try simp only [WKe, hr, ↓reduceIte, reduceCtorEq, Int.reduceEq, *])) | with_reducible apply EntR.ex | refine EntR.drop (F := F) ?_ | refine EntR.drop ?_))
    · have hr : ((ringN n : Nat) : Int) = n := by unfold ringN; omega
      ((try simp only [WKb, ↓reduceIte, Nat.reduceEqDiff]) <;> (repeat' ((first
    | (refine G.tr ?_; first | refine S.a ?_ | refine Tr.brK ?_ ?_ | refine S.n fun _ => ?_ | refine S.i fun hix => ?_ | (refine S.g fun hb => ?_; (try simp only [hb])) | (refine S.s (fun hb => ?_) (fun hb => ?_) <;> ((try simp only [hb]) <;> (try (have hp := hb; simp only [WKs] at hp; (try have hq := Int.not_le.2 hp); (try have hq := Int.not_lt.2 hp))))))
    | ((fail_if_success refine G.tr ?_); exact G.prop S.p)
    | fail) <;> (try simp only [WKb, WKh, ↓reduceIte, Nat.reduceEqDiff, Nat.reduceAdd]))))
      all_goals
        refine Tr.nilSl (α := Int) ?_
        apply Tr.fin hK ⟨_, ⟨none, 0, 0⟩, rfl, rfl⟩
        ((try clear hK) <;> (try simp only [WKe, *]) <;> repeat (first | with_reducible exact EntR.done | refine S.e ?_ | (refine S.f ?_ <;> (try simp only [WKe, hr, ↓reduceIte, reduceCtorEq, Int.reduceEq, *])) | with_reducible apply EntR.ex | refine EntR.drop (F := F) ?_ | refine EntR.drop ?_))

theorem sizes04_ok {n : Int} : Trip Try.prog 4 [.int .i64 n].toArray [] fun v l' => v = .bool true ∧ l' = [] := by
  intro F K hK
  simp only [List.nil_append]
  (refine Tr.enter (rs := [.tmp 2]) mixed fn4 rfl (by simp +arith [Try.ntmps4]) fun u => ?_; simp only [cd4, Try.f4])
  ((try simp only [WKb, ↓reduceIte, Nat.reduceEqDiff]) <;> (repeat' ((first
    | (refine G.tr ?_; first | refine S.a ?_ | refine Tr.brK ?_ ?_ | (refine G.call 11 ?_; refine S.c ?_ (h := rnewI_ok)) | (refine G.call 16 ?_; first | refine S.c ?_ (h := rsizeI_ok) | refine S.c ?_ (h := rsize0I_ok)) | (refine G.call 17 ?_; refine S.c ?_ (h := fnew_ok)) | (refine G.call 14 ?_; first | refine S.c ?_ (h := rlen_ok) | refine S.c ?_ (h := rlen0_ok)) | (refine G.call 15 ?_; refine S.c ?_ (h := works04_ok)) | refine S.n fun _ => ?_ | refine S.i fun hix => ?_ | (refine S.g fun hb => ?_; (try simp only [hb])) | (refine S.s (fun hb => ?_) (fun hb => ?_) <;> ((try simp only [hb]) <;> (try (have hp := hb; simp only [WKs] at hp; (try have hq := Int.not_le.2 hp); (try have hq := Int.not_lt.2 hp))))))
    | rintro _ _ ⟨rfl, rfl⟩
    | rintro _ _ ⟨_, _, rfl, rfl⟩
    | ((fail_if_success refine G.tr ?_); exact G.prop S.p)
    | fail) <;> (try simp only [WKb, ↓reduceIte, Nat.reduceEqDiff]))))
  all_goals
    refine Tr.fin hK ⟨(by first | (simp [*]; done) | (simp only [WKe, ↓reduceIte, reduceCtorEq, Int.reduceEq, eq_self, *]; done) | (simp only [WKe, ↓reduceIte, reduceCtorEq, Int.reduceEq, *]; rfl)), rfl⟩ ?_
    ((try clear hK) <;> (try simp only [WKe, *]) <;> repeat (first | with_reducible exact EntR.done | refine S.e ?_ | (refine S.f ?_ <;> (try simp only [WKe, ↓reduceIte, reduceCtorEq, Int.reduceEq, *])) | with_reducible apply EntR.ex | refine EntR.drop (F := F) ?_ | refine EntR.drop ?_))
theorem ring_u8 (d : UInt8) : ringN (d.toNat : Int) = d.toNat := by have := d.toNat_lt; unfold ringN; omega
theorem order04_ok {d : UInt8} {s : SV} {l : List Int} : Trip Try.prog 3 [.int .u8 d.toNat, s.v].toArray [sl true s.v l] fun v l' => v = .bool true ∧ l' = [] := by
  intro F K hK
  simp only [List.cons_append, List.nil_append]
  have hsz := ring_u8 d
  have hd := d.toNat_lt
  generalize d.toNat = z at hsz hd ⊢
  have hwz : IntKind.i64.wrap (z : Int) = z := wrapId (by omega) (by omega)
  (refine Tr.enter (rs := [.tmp 4]) mixed fn3 rfl (by simp +arith [Try.ntmps3]) fun u => ?_; simp only [cd3, Try.f3])
  ((try simp only [WKb, WKh, ↓reduceIte, Nat.reduceEqDiff, Nat.reduceAdd, hwz]) <;> (repeat' ((first
    | (refine G.tr ?_; first | refine S.a ?_ | refine Tr.brK ?_ ?_ | (refine G.call 11 ?_; refine S.c ?_ (h := rnewI_ok)) | (refine G.call 12 ?_; first | refine S.c ?_ (h := rput_ok) | refine S.c ?_ (h := rput0_ok)) | (refine G.call 13 ?_; first | refine S.c ?_ (h := rtake_ok) | refine S.c ?_ (h := rtake0_ok)) | (refine G.call 14 ?_; first | refine S.c ?_ (h := rlen_ok) | refine S.c ?_ (h := rlen0_ok)) | (refine G.call 15 ?_; refine S.c ?_ (h := works04_ok)) | refine S.n fun _ => ?_ | refine S.i fun hix => ?_ | (refine S.g fun hb => ?_; (try simp only [hb])) | (refine S.s (fun hb => ?_) (fun hb => ?_) <;> ((try simp only [hb]) <;> (try (have hp := hb; simp only [WKs] at hp; (try have hq := Int.not_le.2 hp); (try have hq := Int.not_lt.2 hp))))))
    | rintro _ _ ⟨rfl, rfl⟩
    | rintro _ _ ⟨_, _, rfl, rfl⟩
    | ((fail_if_success refine G.tr ?_); exact G.prop S.p)
    | fail) <;> (try simp only [WKb, ↓reduceIte, hsz]))))
  rename_i r c
  refine Tr.loopE (α := Nat) [4, 6, 7] [0, 1, 5] (fun k => [.bool false, .int .i64 (min k z : Nat), .int .i64 k]) (fun k => [chI c z (l.take (min k z))]) (fun k => k ≤ l.length ∧ k ≤ 200) (fun k => 200 - k) 0 (by simp only [Nat.zero_min, List.take_zero]; exact (by (repeat (first | exact TakeL.nil | (apply TakeL.cons; focus ((first | exact TakeA.dupS | exact TakeA.dupF | ((repeat (first | with_reducible exact TakeA.here | exact TakeA.fam (by omega) (by omega) | with_reducible apply TakeA.next)); done) | ((repeat (first | exact TakeA.here | apply TakeA.next)); done) | exact TakeA.famNil | exact TakeA.nilS))) | fail)); done)) (by simp only [Nat.zero_min]; rfl) (by omega) fun k u hk => ?_
  have hw := wrapSucc (k := k) (by omega)
  have hw2 := wrapSucc (k := min k z) (by omega)
  have hlen : (l.take (min k z)).length = min k z := by simp; omega
  by_cases hin : (k : Int) < l.length ∧ (k : Int) < 200
  · obtain ⟨hi1, hi2⟩ := hin
    by_cases hkz : k < z
    · have hmk : min k z = k := by omega
      have hmk1 : min (k + 1) z = k + 1 := by omega
      have hap : l.take k ++ [ix l (k : Int)] = l.take (k + 1) := by rw [List.take_add_one]; have : k < l.length := by omega
                                                                     simp [ix, this]
      simp only [hmk] at hw2 hlen ⊢
      have hn : (if (z : Int) < ((k + 1 : Nat) : Int) then (z : Int) else ((k + 1 : Nat) : Int)) = ((k + 1 : Nat) : Int) := if_neg (by omega)
      have hlt : (l.take k).length < z := by omega
      have hd1 : decide ((l.take k).length < z) = true := by simpa using hlt
      have hd2 : decide ((k : Int) < (z : Int)) = true := by simpa using hkz
      ((try simp only [WKb, ↓reduceIte, Nat.reduceEqDiff]) <;> (repeat' ((first
    | (refine G.tr ?_; first | refine S.a ?_ | refine Tr.brK ?_ ?_ | (refine G.call 11 ?_; refine S.c ?_ (h := rnewI_ok)) | (refine G.call 12 ?_; first | refine S.c ?_ (h := rput_ok) | refine S.c ?_ (h := rput0_ok)) | (refine G.call 13 ?_; first | refine S.c ?_ (h := rtake_ok) | refine S.c ?_ (h := rtake0_ok)) | (refine G.call 14 ?_; first | refine S.c ?_ (h := rlen_ok) | refine S.c ?_ (h := rlen0_ok)) | (refine G.call 15 ?_; refine S.c ?_ (h := works04_ok)) | refine S.n fun _ => ?_ | refine S.i fun hix => ?_ | (refine S.g fun hb => ?_; (try simp only [hb])) | (refine S.s (fun hb => ?_) (fun hb => ?_) <;> ((try simp only [hb]) <;> (try (have hp := hb; simp only [WKs] at hp; (try have hq := Int.not_le.2 hp); (try have hq := Int.not_lt.2 hp))))))
    | rintro _ _ ⟨rfl, rfl⟩
    | rintro _ _ ⟨_, _, rfl, rfl⟩
    | ((fail_if_success refine G.tr ?_); exact G.prop S.p)
    | fail) <;> (try simp only [WKb, WKh, ↓reduceIte, Nat.reduceEqDiff, hwz, hw, hlt, hd2, hap, hn]))))
      all_goals (apply Tr.againE (k + 1); (focus (simp only [WKb, ↓reduceIte, Nat.reduceEqDiff])); (focus ((try simp only [WKb, ↓reduceIte, Nat.reduceEqDiff]); (all_goals ((repeat (refine cons_eq (by first | rfl | ((try clear hK) <;> first | (simp [*]; done) | (simp [*, hmk1]; omega) | (simp [*, hmk1] <;> (try split) <;> simp_all <;> omega))) ?_)); rfl)); done)); (focus (first | omega | assumption | (simp only []; omega) | (refine ⟨by omega, by assumption⟩) | (simp only []; refine ⟨by omega, by assumption⟩) | ((try simp only []); (repeat' (first | omega | assumption | refine And.intro ?_ ?_)); done))); (focus (first | omega | (simp only []; omega))); (focus (((try clear hK) <;> (try simp only [WKe, *]) <;> repeat (first | with_reducible exact EntR.done | refine S.e ?_ | (refine S.f ?_ <;> (try simp only [WKe, hmk1, ↓reduceIte, reduceCtorEq, Int.reduceEq, *])) | with_reducible apply EntR.ex | refine EntR.drop (F := F) ?_ | refine EntR.drop ?_)))))
    · have hmk : min k z = z := by omega
      have hmk1 : min (k + 1) z = z := by omega
      simp only [hmk] at hw2 hlen ⊢
      have hn : (if (z : Int) < ((z + 1 : Nat) : Int) then (z : Int) else ((z + 1 : Nat) : Int)) = (z : Int) := if_pos (by omega)
      have hlt : ¬ (l.take z).length < z := by omega
      have hd1 : decide ((l.take z).length < z) = false := by simpa using hlt
      have hd2 : decide ((z : Int) < (z : Int)) = false := by simp
      ((try simp only [WKb, ↓reduceIte, Nat.reduceEqDiff]) <;> (repeat' ((first
    | (refine G.tr ?_; first | refine S.a ?_ | refine Tr.brK ?_ ?_ | (refine G.call 11 ?_; refine S.c ?_ (h := rnewI_ok)) | (refine G.call 12 ?_; first | refine S.c ?_ (h := rput_ok) | refine S.c ?_ (h := rput0_ok)) | (refine G.call 13 ?_; first | refine S.c ?_ (h := rtake_ok) | refine S.c ?_ (h := rtake0_ok)) | (refine G.call 14 ?_; first | refine S.c ?_ (h := rlen_ok) | refine S.c ?_ (h := rlen0_ok)) | (refine G.call 15 ?_; refine S.c ?_ (h := works04_ok)) | refine S.n fun _ => ?_ | refine S.i fun hix => ?_ | (refine S.g fun hb => ?_; (try simp only [hb])) | (refine S.s (fun hb => ?_) (fun hb => ?_) <;> ((try simp only [hb]) <;> (try (have hp := hb; simp only [WKs] at hp; (try have hq := Int.not_le.2 hp); (try have hq := Int.not_lt.2 hp))))))
    | rintro _ _ ⟨rfl, rfl⟩
    | rintro _ _ ⟨_, _, rfl, rfl⟩
    | ((fail_if_success refine G.tr ?_); exact G.prop S.p)
    | fail) <;> (try simp only [WKb, WKh, ↓reduceIte, Nat.reduceEqDiff, hwz, hw2, hw, hlt, hd2, hn]))))
      all_goals (apply Tr.againE (k + 1); (focus (simp only [WKb, ↓reduceIte, Nat.reduceEqDiff])); (focus ((try simp only [WKb, ↓reduceIte, Nat.reduceEqDiff]); (all_goals ((repeat (refine cons_eq (by first | rfl | ((try clear hK) <;> first | (simp [*]; done) | (simp [*, hmk1]; omega) | (simp [*, hmk1] <;> (try split) <;> simp_all <;> omega))) ?_)); rfl)); done)); (focus (first | omega | assumption | (simp only []; omega) | (refine ⟨by omega, by assumption⟩) | (simp only []; refine ⟨by omega, by assumption⟩) | ((try simp only []); (repeat' (first | omega | assumption | refine And.intro ?_ ?_)); done))); (focus (first | omega | (simp only []; omega))); (focus (((try clear hK) <;> (try simp only [WKe, *]) <;> repeat (first | with_reducible exact EntR.done | refine S.e ?_ | (refine S.f ?_ <;> (try simp only [WKe, hmk1, ↓reduceIte, reduceCtorEq, Int.reduceEq, *])) | with_reducible apply EntR.ex | refine EntR.drop (F := F) ?_ | refine EntR.drop ?_)))))
  · generalize hm : min k z = m at hw2 hlen ⊢
    ((try simp only [WKb, ↓reduceIte, Nat.reduceEqDiff]) <;> (repeat' ((first
    | (refine G.tr ?_; first | refine S.a ?_ | refine Tr.brK ?_ ?_ | (refine G.call 11 ?_; refine S.c ?_ (h := rnewI_ok)) | (refine G.call 12 ?_; first | refine S.c ?_ (h := rput_ok) | refine S.c ?_ (h := rput0_ok)) | (refine G.call 13 ?_; first | refine S.c ?_ (h := rtake_ok) | refine S.c ?_ (h := rtake0_ok)) | (refine G.call 14 ?_; first | refine S.c ?_ (h := rlen_ok) | refine S.c ?_ (h := rlen0_ok)) | (refine G.call 15 ?_; refine S.c ?_ (h := works04_ok)) | refine S.n fun _ => ?_ | refine S.i fun hix => ?_ | (refine S.g fun hb => ?_; (try simp only [hb])) | (refine S.s (fun hb => ?_) (fun hb => ?_) <;> ((try simp only [hb]) <;> (try (have hp := hb; simp only [WKs] at hp; (try have hq := Int.not_le.2 hp); (try have hq := Int.not_lt.2 hp))))))
    | rintro _ _ ⟨rfl, rfl⟩
    | rintro _ _ ⟨_, _, rfl, rfl⟩
    | ((fail_if_success refine G.tr ?_); exact G.prop S.p)
    | fail) <;> (try simp only [WKb, ↓reduceIte, Nat.reduceEqDiff]))))
    all_goals
      refine Tr.loopE (α := Nat) [4, 8] [1, 5, 6] (fun j => [.bool false, .int .i64 j]) (fun j => [chI c z ((l.take m).drop j)]) (fun j => j ≤ m) (fun j => m - j) 0 (by simp only [List.drop_zero]; exact (by (repeat (first | exact TakeL.nil | (apply TakeL.cons; focus ((first | exact TakeA.dupS | exact TakeA.dupF | ((repeat (first | with_reducible exact TakeA.here | exact TakeA.fam (by omega) (by omega) | with_reducible apply TakeA.next)); done) | ((repeat (first | exact TakeA.here | apply TakeA.next)); done) | exact TakeA.famNil | exact TakeA.nilS))) | fail)); done)) rfl (by omega) fun j u hj => ?_
      have hw3 := wrapSucc (k := j) (by omega)
      by_cases hjm : j < m
      · have hjl : j < l.length := by rw [List.length_take] at hlen; omega
        have hT2 : ((l.take m).drop j).tail = (l.take m).drop (j + 1) := by simp
        have hT1 : ((l.take m).drop j).headD 0 = ix l (j : Int) := by
          rw [List.drop_eq_getElem_cons (by omega)]; simp [ix, hjl]
        have hd3 : decide (0 < ((l.take m).drop j).length) = true := by rw [List.length_drop, hlen]; simp; omega
        ((try simp only [WKb, ↓reduceIte, Nat.reduceEqDiff]) <;> (repeat' ((first
    | (refine G.tr ?_; first | refine S.a ?_ | refine Tr.brK ?_ ?_ | (refine G.call 11 ?_; refine S.c ?_ (h := rnewI_ok)) | (refine G.call 12 ?_; first | refine S.c ?_ (h := rput_ok) | refine S.c ?_ (h := rput0_ok)) | (refine G.call 13 ?_; first | refine S.c ?_ (h := rtake_ok) | refine S.c ?_ (h := rtake0_ok)) | (refine G.call 14 ?_; first | refine S.c ?_ (h := rlen_ok) | refine S.c ?_ (h := rlen0_ok)) | (refine G.call 15 ?_; refine S.c ?_ (h := works04_ok)) | refine S.n fun _ => ?_ | refine S.i fun hix => ?_ | (refine S.g fun hb => ?_; (try simp only [hb])) | (refine S.s (fun hb => ?_) (fun hb => ?_) <;> ((try simp only [hb]) <;> (try (have hp := hb; simp only [WKs] at hp; (try have hq := Int.not_le.2 hp); (try have hq := Int.not_lt.2 hp))))))
    | rintro _ _ ⟨rfl, rfl⟩
    | rintro _ _ ⟨_, _, rfl, rfl⟩
    | ((fail_if_success refine G.tr ?_); exact G.prop S.p)
    | fail) <;> (try simp only [WKb, ↓reduceIte, Nat.reduceEqDiff, hw3, hT1, hT2, hd3]))))
        all_goals (apply Tr.againE (j + 1); (focus (simp only [WKb, ↓reduceIte, Nat.reduceEqDiff])); (focus ((try simp only [WKb, ↓reduceIte, Nat.reduceEqDiff]); (all_goals ((repeat (refine cons_eq (by first | rfl | (simp [*]; done)) ?_)); rfl)); done)); (focus (first | omega | assumption | (simp only []; omega) | (refine ⟨by omega, by assumption⟩) | (simp only []; refine ⟨by omega, by assumption⟩) | ((try simp only []); (repeat' (first | omega | assumption | refine And.intro ?_ ?_)); done))); (focus (first | omega | (simp only []; omega))); (focus (((try clear hK) <;> (try simp only [WKe, *]) <;> repeat (first | with_reducible exact EntR.done | refine S.e ?_ | (refine S.f ?_ <;> (try simp only [WKe, ↓reduceIte, reduceCtorEq, Int.reduceEq, *])) | with_reducible apply EntR.ex | refine EntR.drop (F := F) ?_ | refine EntR.drop ?_)))))
      · have hjm' : j = m := by omega
        have hnil : (l.take m).drop j = [] := List.drop_eq_nil_of_le (by omega)
        simp only [hnil]
        ((try simp only [WKb, ↓reduceIte, Nat.reduceEqDiff]) <;> (repeat' ((first
    | (refine G.tr ?_; first | refine S.a ?_ | refine Tr.brK ?_ ?_ | (refine G.call 11 ?_; refine S.c ?_ (h := rnewI_ok)) | (refine G.call 12 ?_; first | refine S.c ?_ (h := rput_ok) | refine S.c ?_ (h := rput0_ok)) | (refine G.call 13 ?_; first | refine S.c ?_ (h := rtake_ok) | refine S.c ?_ (h := rtake0_ok)) | (refine G.call 14 ?_; first | refine S.c ?_ (h := rlen_ok) | refine S.c ?_ (h := rlen0_ok)) | (refine G.call 15 ?_; refine S.c ?_ (h := works04_ok)) | refine S.n fun _ => ?_ | refine S.i fun hix => ?_ | (refine S.g fun hb => ?_; (try simp only [hb])) | (refine S.s (fun hb => ?_) (fun hb => ?_) <;> ((try simp only [hb]) <;> (try (have hp := hb; simp only [WKs] at hp; (try have hq := Int.not_le.2 hp); (try have hq := Int.not_lt.2 hp))))))
    | rintro _ _ ⟨rfl, rfl⟩
    | rintro _ _ ⟨_, _, rfl, rfl⟩
    | ((fail_if_success refine G.tr ?_); exact G.prop S.p)
    | fail) <;> (try simp only [WKb, ↓reduceIte, Nat.reduceEqDiff, List.length_nil, Nat.lt_irrefl, List.tail_nil]))))
        all_goals
          refine Tr.fin hK ⟨(by first | (simp [*]; done) | (simp only [WKe, ↓reduceIte, reduceCtorEq, Int.reduceEq, eq_self, *]; done) | (simp only [WKe, ↓reduceIte, reduceCtorEq, Int.reduceEq, *]; rfl)), rfl⟩ ?_
          ((try clear hK) <;> (try simp only [WKe, *]) <;> repeat (first | with_reducible exact EntR.done | refine S.e ?_ | (refine S.f ?_ <;> (try simp only [WKe, ↓reduceIte, reduceCtorEq, Int.reduceEq, *])) | with_reducible apply EntR.ex | refine EntR.drop (F := F) ?_ | refine EntR.drop ?_))
theorem none04_ok {s : SV} {l : List Int} : Trip Try.prog 6 [s.v].toArray [sl true s.v l] fun v l' => v = .bool true ∧ l' = [] := by
  intro F K hK
  simp only [List.cons_append, List.nil_append]
  have h100 : ringN 100 = 100 := rfl
  have hmin : (if (100 : Int) < (l.length : Int) then (100 : Int) else (l.length : Int)) = ((min l.length 100 : Nat) : Int) := by split <;> omega
  (refine Tr.enter (rs := [.tmp 2]) mixed fn6 rfl (by simp +arith [Try.ntmps6]) fun u => ?_; simp only [cd6, Try.f6])
  ((try simp only [WKb]) <;> (repeat' ((first
    | (refine G.tr ?_; first | refine S.a ?_ | refine Tr.brK ?_ ?_ | (refine G.call 11 ?_; refine S.c ?_ (h := rnewI_ok)) | (refine G.call 12 ?_; first | refine S.c ?_ (h := rput_ok) | refine S.c ?_ (h := rput0_ok)) | (refine G.call 13 ?_; first | refine S.c ?_ (h := rtake_ok) | refine S.c ?_ (h := rtake0_ok)) | (refine G.call 20 ?_; first | refine S.c ?_ (h := rat_ok ?_ ?_) | refine S.c ?_ (h := rat0_ok)) | (refine G.call 21 ?_; first | refine S.c ?_ (h := rmove_ok ?_ ?_ ?_) | refine S.c ?_ (h := rmoveS_ok) | refine S.c ?_ (h := rmove0_ok) | refine S.c ?_ (h := rmoveN_ok ?_)) | (refine G.call 14 ?_; first | refine S.c ?_ (h := rlen_ok) | refine S.c ?_ (h := rlen0_ok)) | (refine G.call 16 ?_; first | refine S.c ?_ (h := rsizeI_ok) | refine S.c ?_ (h := rsize0I_ok)) | (refine G.call 22 ?_; first | refine S.c ?_ (h := rclearI_ok ?_) | refine S.c ?_ (h := rclear0I_ok)) | (refine G.call 15 ?_; refine S.c ?_ (h := works04_ok)) | refine S.n fun _ => ?_ | refine S.i fun hix => ?_ | (refine S.g fun hb => ?_; (try simp only [hb])) | (refine S.s (fun hb => ?_) (fun hb => ?_) <;> ((try simp only [hb]) <;> (try (have hp := hb; simp only [WKs] at hp; (try have hq := Int.not_le.2 hp); (try have hq := Int.not_lt.2 hp))))))
    | rintro _ _ ⟨rfl, rfl⟩
    | rintro _ _ ⟨_, _, rfl, rfl⟩
    | ((fail_if_success refine G.tr ?_); exact G.prop S.p)
    | fail) <;> (try simp only [WKb, ↓reduceIte, Nat.reduceEqDiff, h100, hmin]))))
  rename_i r c
  generalize hm : min l.length 100 = m
  refine Tr.loopE (α := Nat) [6] [0, 2, 3, 4, 5] (fun k => [.int .i64 k]) (fun k => [chI c 100 (l.take k)]) (fun k => k ≤ m) (fun k => m - k) 0 (by simp only [List.take_zero]; exact (by (repeat (first | exact TakeL.nil | (apply TakeL.cons; focus ((first | exact TakeA.dupS | exact TakeA.dupF | ((repeat (first | with_reducible exact TakeA.here | exact TakeA.fam (by omega) (by omega) | with_reducible apply TakeA.next)); done) | ((repeat (first | exact TakeA.here | apply TakeA.next)); done) | exact TakeA.famNil | exact TakeA.nilS))) | fail)); done)) rfl (by omega) fun k u hk => ?_
  have hw := wrapSucc (k := k) (by omega)
  have hlen : (l.take k).length = k := by simp; omega
  by_cases hin : k < m
  · have hap : l.take k ++ [ix l (k : Int)] = l.take (k + 1) := by rw [List.take_add_one]; have : k < l.length := by omega
                                                                   simp [ix, this]
    have hlt : (l.take k).length < 100 := by omega
    ((try simp only [WKb, ↓reduceIte, Nat.reduceEqDiff]) <;> (repeat' ((first
    | (refine G.tr ?_; first | refine S.a ?_ | refine Tr.brK ?_ ?_ | (refine G.call 11 ?_; refine S.c ?_ (h := rnewI_ok)) | (refine G.call 12 ?_; first | refine S.c ?_ (h := rput_ok) | refine S.c ?_ (h := rput0_ok)) | (refine G.call 13 ?_; first | refine S.c ?_ (h := rtake_ok) | refine S.c ?_ (h := rtake0_ok)) | (refine G.call 20 ?_; first | refine S.c ?_ (h := rat_ok ?_ ?_) | refine S.c ?_ (h := rat0_ok)) | (refine G.call 21 ?_; first | refine S.c ?_ (h := rmove_ok ?_ ?_ ?_) | refine S.c ?_ (h := rmoveS_ok) | refine S.c ?_ (h := rmove0_ok) | refine S.c ?_ (h := rmoveN_ok ?_)) | (refine G.call 14 ?_; first | refine S.c ?_ (h := rlen_ok) | refine S.c ?_ (h := rlen0_ok)) | (refine G.call 16 ?_; first | refine S.c ?_ (h := rsizeI_ok) | refine S.c ?_ (h := rsize0I_ok)) | (refine G.call 22 ?_; first | refine S.c ?_ (h := rclearI_ok ?_) | refine S.c ?_ (h := rclear0I_ok)) | (refine G.call 15 ?_; refine S.c ?_ (h := works04_ok)) | refine S.n fun _ => ?_ | refine S.i fun hix => ?_ | (refine S.g fun hb => ?_; (try simp only [hb])) | (refine S.s (fun hb => ?_) (fun hb => ?_) <;> ((try simp only [hb]) <;> (try (have hp := hb; simp only [WKs] at hp; (try have hq := Int.not_le.2 hp); (try have hq := Int.not_lt.2 hp))))))
    | rintro _ _ ⟨rfl, rfl⟩
    | rintro _ _ ⟨_, _, rfl, rfl⟩
    | ((fail_if_success refine G.tr ?_); exact G.prop S.p)
    | fail) <;> (try simp only [WKb, ↓reduceIte, Nat.reduceEqDiff, hw, hlt, hap]))))
    all_goals (apply Tr.againE (k + 1); (focus (simp only [WKb, ↓reduceIte, Nat.reduceEqDiff])); (focus ((try simp only [WKb, ↓reduceIte]); (all_goals ((repeat (refine cons_eq (by first | rfl | (simp [*]; done)) ?_)); rfl)); done)); (focus (first | omega | assumption | (simp only []; omega) | (refine ⟨by omega, by assumption⟩) | (simp only []; refine ⟨by omega, by assumption⟩) | ((try simp only []); (repeat' (first | omega | assumption | refine And.intro ?_ ?_)); done))); (focus (first | omega | (simp only []; omega))); (focus (((try clear hK) <;> (try simp only [WKe, *]) <;> repeat (first | with_reducible exact EntR.done | refine S.e ?_ | (refine S.f ?_ <;> (try simp only [WKe, ↓reduceIte, reduceCtorEq, Int.reduceEq, *])) | with_reducible apply EntR.ex | refine EntR.drop (F := F) ?_ | refine EntR.drop ?_)))))
  · have hk' : k = m := by omega
    subst hk'
    ((try simp only [WKb, ↓reduceIte, Nat.reduceEqDiff]) <;> (repeat' ((first
    | (refine G.tr ?_; first | refine S.a ?_ | refine Tr.brK ?_ ?_ | (refine G.call 11 ?_; refine S.c ?_ (h := rnewI_ok)) | (refine G.call 12 ?_; first | refine S.c ?_ (h := rput_ok) | refine S.c ?_ (h := rput0_ok)) | (refine G.call 13 ?_; first | refine S.c ?_ (h := rtake_ok) | refine S.c ?_ (h := rtake0_ok)) | (refine G.call 20 ?_; first | refine S.c ?_ (h := rat_ok ?_ ?_) | refine S.c ?_ (h := rat0_ok)) | (refine G.call 21 ?_; first | refine S.c ?_ (h := rmove_ok ?_ ?_ ?_) | refine S.c ?_ (h := rmoveS_ok) | refine S.c ?_ (h := rmove0_ok) | refine S.c ?_ (h := rmoveN_ok ?_)) | (refine G.call 14 ?_; first | refine S.c ?_ (h := rlen_ok) | refine S.c ?_ (h := rlen0_ok)) | (refine G.call 16 ?_; first | refine S.c ?_ (h := rsizeI_ok) | refine S.c ?_ (h := rsize0I_ok)) | (refine G.call 22 ?_; first | refine S.c ?_ (h := rclearI_ok ?_) | refine S.c ?_ (h := rclear0I_ok)) | (refine G.call 15 ?_; refine S.c ?_ (h := works04_ok)) | refine S.n fun _ => ?_ | refine S.i fun hix => ?_ | (refine S.g fun hb => ?_; (try simp only [hb])) | (refine S.s (fun hb => ?_) (fun hb => ?_) <;> ((try simp only [hb]) <;> (try (have hp := hb; simp only [WKs] at hp; (try have hq := Int.not_le.2 hp); (try have hq := Int.not_lt.2 hp))))))
    | rintro _ _ ⟨rfl, rfl⟩
    | rintro _ _ ⟨_, _, rfl, rfl⟩
    | ((fail_if_success refine G.tr ?_); exact G.prop S.p)
    | fail) <;> (try simp only [WKb, ↓reduceIte, Nat.reduceEqDiff, hlen, List.length_nil]))))
    all_goals
      refine Tr.fin hK ⟨(by first | (simp [*]; done) | (simp only [WKe, ↓reduceIte, reduceCtorEq, Int.reduceEq, eq_self, *]; done) | (simp only [WKe, ↓reduceIte, reduceCtorEq, Int.reduceEq, *]; rfl)), rfl⟩ ?_
      ((try clear hK) <;> (try simp only [WKe, *]) <;> repeat (first | with_reducible exact EntR.done | refine S.e ?_ | (refine S.f ?_ <;> (try simp only [WKe, ↓reduceIte, reduceCtorEq, Int.reduceEq, *])) | with_reducible apply EntR.ex | refine EntR.drop (F := F) ?_ | refine EntR.drop ?_))
end Go.Proofs.Ytlhmbcmkpafjoaa
