import Derived.Test.YtgkhjgpgdfbdpaaDoorTb2
import Derived.Test.YtgkhjgpgdfbdpaaDoorWkU
import Derived.KernelRfl
namespace Go.Proofs.YtgkhjgpgdfbdpaaDoor
open Go Go.Wk
set_option maxHeartbeats 6400000
set_option maxRecDepth 100000

attribute [local irreducible] BrK GenK EGenK EUnitK CallK FnK CallV GuardO GuardC CondW opX opK opKc chkR eqR seqK blkK endL WL WD W LoopW BinK Tr drewK resL PickK NotK NilK ExtrK getK Instr.storeAt Instr.loadAt Instr.fieldAt Instr.indexAt Instr.lookup Instr.mapUpdate Instr.box Instr.alloc Instr.build Instr.buildSlice Instr.makeSlice Instr.makeMap Instr.sliceAt Instr.field Instr.index Instr.makeInterface Instr.typeAssert Builtin.len_ Builtin.append_ Builtin.cap_ Builtin.min_ Builtin.max_ Builtin.copy_ Builtin.clear_ convert binOp mp blk rob sl sep ex fact old
attribute [local irreducible] NegK
theorem dig_at {d : Nat} (h : d < 10) : (([48, 49, 50, 51, 52, 53, 54, 55, 56, 57] : List UInt8).take (d + 1)).drop d = [UInt8.ofNat (48 + d)] := by
  rcases d with _ | _ | _ | _ | _ | _ | _ | _ | _ | _ | d <;> first | rfl | omega


theorem digits_ok : ∀ (n : Nat), n < 18446744073709551616 → Trip Tryd.prog 175 [.int .u64 n].toArray [] fun v l' => v = .string (bstr (digA n)) ∧ l' = [] := by
  intro n
  induction n using Nat.strongRecOn with
  | _ n ih0 =>
  intro hn F K hK
  have ih : ∀ m : Nat, m < n → m < 18446744073709551616 → Trip Tryd.prog 175 [.int .u64 (m : Int)].toArray [] fun v l' => v = .string (bstr (digA m)) ∧ l' = [] := ih0
  clear ih0
  simp only [List.nil_append]
  have hqu : IntKind.u64.wrap ((n : Int).tdiv 10) = ((n / 10 : Nat) : Int) := by
    rw [show (n : Int).tdiv 10 = ((n / 10 : Nat) : Int) from rfl]
    exact wrapN64 (by omega) (by omega)
  have hm : (n : Int).tmod 10 = ((n % 10 : Nat) : Int) := rfl
  have hw1 : IntKind.u64.wrap (((n % 10 : Nat) : Int) + 1) = ((n % 10 + 1 : Nat) : Int) := by rw [wrapN64 (by omega) (by omega)]; rfl
  have hc := dig_at (d := n % 10) (by omega)
  have hl9 : n / 10 < n ∨ n < 10 := by omega
  have hl20 := digA_len20 (n := n / 10) (by omega)
  (refine Tr.enter (rs := [.tmp 2]) mixed fn175 rfl (by simp +arith [Tryd.ntmps175]) fun u => ?_; simp only [cd175, Tryd.f175])
  by_cases h10 : n < 10
  · have hw0 : IntKind.u64.wrap ((n : Int) + 1) = ((n + 1 : Nat) : Int) := by rw [wrapN64 (by omega) (by omega)]; rfl
    have hc0 := dig_at h10
    ((try simp only [WKb, ↓reduceIte, Nat.reduceEqDiff, WKt]) <;> (repeat' ((first
    | (refine G.tr ?_; first | refine S.a ?_ | refine S.t ?_ | refine Tr.brK ?_ ?_ | (refine G.call 175 ?_; refine S.c ?_ (h := ih _ (by omega) (by omega))) | refine S.n fun _ => ?_ | refine S.i fun hix => ?_ | (refine S.g fun hb => ?_; (try simp only [hb])) | (refine S.s (fun hb => ?_) (fun hb => ?_) <;> ((try simp only [hb]) <;> (try (have hp := hb; simp only [WKs] at hp; (try have hq := Int.not_le.2 hp); (try have hq := Int.not_lt.2 hp))))))
    | rintro _ _ ⟨rfl, rfl⟩
    | ((fail_if_success refine G.tr ?_); exact G.prop S.p)
    | fail) <;> (try simp only [WKb, ↓reduceIte, Nat.reduceEqDiff, hw0]))))
    all_goals
      refine Tr.fin hK ⟨by rw [digA_lt h10, ← hc0]; rfl, rfl⟩ ?_
      ((try clear hK) <;> (try simp only [WKe, *]) <;> repeat (first | with_reducible exact EntR.done | refine S.e ?_ | (refine S.f ?_ <;> (try simp only [WKe, ↓reduceIte, reduceCtorEq, Int.reduceEq, *])) | with_reducible apply EntR.ex | refine EntR.drop (F := F) ?_ | refine EntR.drop ?_))
  · ((try simp only [WKb, ↓reduceIte, Nat.reduceEqDiff, WKt]) <;> (repeat' ((first
    | (refine G.tr ?_; first | refine S.a ?_ | refine S.t ?_ | refine Tr.brK ?_ ?_ | (refine G.call 175 ?_; refine S.c ?_ (h := ih _ (by omega) (by omega))) | refine S.n fun _ => ?_ | refine S.i fun hix => ?_ | (refine S.g fun hb => ?_; (try simp only [hb])) | (refine S.s (fun hb => ?_) (fun hb => ?_) <;> ((try simp only [hb]) <;> (try (have hp := hb; simp only [WKs] at hp; (try have hq := Int.not_le.2 hp); (try have hq := Int.not_lt.2 hp))))))
    | rintro _ _ ⟨rfl, rfl⟩
    | ((fail_if_success refine G.tr ?_); exact G.prop S.p)
    | fail) <;> (try simp only [WKb, ↓reduceIte, Nat.reduceEqDiff, pl175, hqu, hm, hw1]))))
    all_goals
      refine Tr.fin hK ⟨by rw [digA_ge h10, ← hc]; rfl, rfl⟩ ?_
      ((try clear hK) <;> (try simp only [WKe, *]) <;> repeat (first | with_reducible exact EntR.done | refine S.e ?_ | (refine S.f ?_ <;> (try simp only [WKe, ↓reduceIte, reduceCtorEq, Int.reduceEq, *])) | with_reducible apply EntR.ex | refine EntR.drop (F := F) ?_ | refine EntR.drop ?_))


theorem decimal_ok {n : Int} (hn : I64 n) : Trip Tryd.prog 135 [.int .i64 n].toArray [] fun v l' => v = .string (bstr (decA n)) ∧ l' = [] := by
  intro F K hK
  simp only [List.nil_append]
  have h1 := hn.1
  have h2 := hn.2
  have hl := digA_len20 (n := n.natAbs) (by omega)
  (refine Tr.enter (rs := [.tmp 2]) mixed fn135 rfl (by simp +arith [Tryd.ntmps135]) fun u => ?_; simp only [cd135, Tryd.f135])
  by_cases hneg : n < 0
  · have hw : IntKind.u64.wrap (0 - IntKind.u64.wrap n) = ((n.natAbs : Nat) : Int) := by rw [wrapNeg (by omega) hneg, wrapNeg (by omega) (by omega)]; omega
    ((try simp only [WKb, ↓reduceIte, Nat.reduceEqDiff, WKt]) <;> (repeat' ((first
    | (refine G.tr ?_; first | refine S.a ?_ | refine S.t ?_ | refine Tr.brK ?_ ?_ | (refine G.call 175 ?_; refine S.c ?_ (h := digits_ok _ (by omega))) | refine S.n fun _ => ?_ | refine S.i fun hix => ?_ | (refine S.g fun hb => ?_; (try simp only [hb])) | (refine S.s (fun hb => ?_) (fun hb => ?_) <;> ((try simp only [hb]) <;> (try (have hp := hb; simp only [WKs] at hp; (try have hq := Int.not_le.2 hp); (try have hq := Int.not_lt.2 hp))))))
    | rintro _ _ ⟨rfl, rfl⟩
    | ((fail_if_success refine G.tr ?_); exact G.prop S.p)
    | fail) <;> (try simp only [WKb, WKh, ↓reduceIte, Nat.reduceEqDiff, WKt, hw]))))
    all_goals
      refine Tr.fin hK ⟨by rw [decA_neg hneg]; try rfl, rfl⟩ ?_
      ((try clear hK) <;> (try simp only [WKe, *]) <;> repeat (first | with_reducible exact EntR.done | refine S.e ?_ | (refine S.f ?_ <;> (try simp only [WKe, ↓reduceIte, reduceCtorEq, Int.reduceEq, *])) | with_reducible apply EntR.ex | refine EntR.drop (F := F) ?_ | refine EntR.drop ?_))
  · have hw : IntKind.u64.wrap n = ((n.natAbs : Nat) : Int) := by rw [wrapN64 (by omega) (by omega)]; omega
    ((try simp only [WKb, ↓reduceIte, Nat.reduceEqDiff, WKt]) <;> (repeat' ((first
    | (refine G.tr ?_; first | refine S.a ?_ | refine S.t ?_ | refine Tr.brK ?_ ?_ | (refine G.call 175 ?_; refine S.c ?_ (h := digits_ok _ (by omega))) | refine S.n fun _ => ?_ | refine S.i fun hix => ?_ | (refine S.g fun hb => ?_; (try simp only [hb])) | (refine S.s (fun hb => ?_) (fun hb => ?_) <;> ((try simp only [hb]) <;> (try (have hp := hb; simp only [WKs] at hp; (try have hq := Int.not_le.2 hp); (try have hq := Int.not_lt.2 hp))))))
    | rintro _ _ ⟨rfl, rfl⟩
    | ((fail_if_success refine G.tr ?_); exact G.prop S.p)
    | fail) <;> (try simp only [WKb, WKh, ↓reduceIte, Nat.reduceEqDiff, hw]))))
    all_goals
      refine Tr.fin hK ⟨by rw [decA_pos hneg], rfl⟩ ?_
      ((try clear hK) <;> (try simp only [WKe, *]) <;> repeat (first | with_reducible exact EntR.done | refine S.e ?_ | (refine S.f ?_ <;> (try simp only [WKe, ↓reduceIte, reduceCtorEq, Int.reduceEq, *])) | with_reducible apply EntR.ex | refine EntR.drop (F := F) ?_ | refine EntR.drop ?_))

/-- The digits that are laid so far, from behind. -/
def decI (n u : Nat) (s : List UInt8) (k : Nat) : Prop := (digA n = digA u ++ s ∧ (0 < u ∨ k = 0)) ∨ (u = 0 ∧ s = digA n ∧ 0 < k)
theorem decimalR_ok {n : Int} (hn : I64 n) : Trip Tryd.prog 62 [.int .i64 n].toArray [] fun v l' => v = .string (bstr (decA n)) ∧ l' = [] := by
  intro F K hK
  simp only [List.nil_append]
  have h1 := hn.1
  have h2 := hn.2
  have hw1 : IntKind.u64.wrap n = ((n.natAbs : Nat) : Int) ∨ n < 0 := by
    by_cases h : n < 0
    · exact .inr h
    · exact .inl (by rw [wrapN64 (by omega) (by omega)]; omega)
  have hw2 : n < 0 → IntKind.u64.wrap (IntKind.u64.wrap (IntKind.i64.wrap (0 - IntKind.i64.wrap (n + 1))) + 1) = ((n.natAbs : Nat) : Int) := fun h => by
    rw [wrapId (n := n + 1) (by omega) (by omega), wrapId (by omega) (by omega), wrapN64 (n := 0 - (n + 1)) (by omega) (by omega), wrapN64 (by omega) (by omega)]; omega
  (refine Tr.enter (rs := [.tmp 2]) mixed fn62 rfl (by simp +arith [Tryd.ntmps62]) fun u => ?_; simp only [cd62, Tryd.f62])
  by_cases hneg : n < 0
  all_goals
    (first | have hw := hw2 hneg | have hw := hw1.resolve_right hneg)
    have hd : decA n = (if n < 0 then [45] else []) ++ digA n.natAbs := by unfold decA; split <;> rfl
    (first | rw [if_pos hneg] at hd | rw [if_neg hneg] at hd)
    ((try simp only [WKb, WKh, ↓reduceIte, Nat.reduceEqDiff, WKt, hw]) <;> (repeat' ((first
    | (refine G.tr ?_; first | refine S.a ?_ | refine S.t ?_ | refine Tr.brK ?_ ?_ | refine S.n fun _ => ?_ | refine S.i fun hix => ?_ | (refine S.g fun hb => ?_; (try simp only [hb])) | (refine S.s (fun hb => ?_) (fun hb => ?_) <;> ((try simp only [hb]) <;> (try (have hp := hb; simp only [WKs] at hp; (try have hq := Int.not_le.2 hp); (try have hq := Int.not_lt.2 hp))))))
    | ((fail_if_success refine G.tr ?_); exact G.prop S.p)
    | fail) <;> (try simp only [WKb, WKh, ↓reduceIte, Nat.reduceEqDiff, hw]))))
    refine Tr.loopE (α := Nat × Nat × List UInt8) [3, 5, 6] [2, 4] (fun x => [.int .u64 x.2.1, .string (bstr x.2.2), .int .i64 x.1]) (fun x => []) (fun x => x.1 ≤ 20 ∧ x.2.2.length = x.1 ∧ x.2.1 < 10 ^ (20 - x.1) ∧ decI n.natAbs x.2.1 x.2.2 x.1) (fun x => 20 - x.1) (0, n.natAbs, []) (by (repeat (first | exact TakeL.nil | (apply TakeL.cons; focus ((first | exact TakeA.dupS | exact TakeA.dupF | ((repeat (first | with_reducible exact TakeA.here | exact TakeA.fam (by omega) (by omega) | with_reducible apply TakeA.next)); done) | ((repeat (first | exact TakeA.here | apply TakeA.next)); done) | exact TakeA.famNil | exact TakeA.nilS))) | fail)); done) rfl ⟨by omega, rfl, by show n.natAbs < 100000000000000000000; omega, .inl ⟨by rw [List.append_nil], .inr rfl⟩⟩ fun x u hx => ?_
    obtain ⟨k, v, s⟩ := x
    simp only at hx ⊢
    obtain ⟨hk, hsl, hv, hI⟩ := hx
    have hws := wrapSucc (k := k) (by omega)
    by_cases hgo : k < 20 ∧ (0 < v ∨ s = [])
    · obtain ⟨hk1, hgo⟩ := hgo
      have hv20 : v < 100000000000000000000 := Nat.lt_of_lt_of_le hv (Nat.pow_le_pow_right (n := 10) (i := 20 - k) (j := 20) (by decide) (by omega))
      have hqu : IntKind.u64.wrap ((v : Int).tdiv 10) = ((v / 10 : Nat) : Int) := by
        rw [show (v : Int).tdiv 10 = ((v / 10 : Nat) : Int) from rfl]
        exact wrapN64 (by omega) (by omega)
      have hm : (v : Int).tmod 10 = ((v % 10 : Nat) : Int) := rfl
      have hw1 : IntKind.u64.wrap (((v % 10 : Nat) : Int) + 1) = ((v % 10 + 1 : Nat) : Int) := by rw [wrapN64 (by omega) (by omega)]; rfl
      have hc := dig_at (d := v % 10) (by omega)
      have hnx : decI n.natAbs (v / 10) (UInt8.ofNat (48 + v % 10) :: s) (k + 1) := by
        have hA : digA n.natAbs = digA v ++ s := by
          rcases hI with ⟨h, _⟩ | ⟨h, hs, h0⟩
          · exact h
          · exfalso
            rcases hgo with hg | hg
            · omega
            · rw [hg] at hs; exact digA_ne _ hs.symm
        by_cases h10 : v < 10
        · right
          rw [digA_lt h10] at hA
          refine ⟨by omega, ?_, by omega⟩
          rw [hA, Nat.mod_eq_of_lt h10]; rfl
        · left
          rw [digA_ge h10] at hA
          refine ⟨by rw [hA]; simp, by omega⟩
      have hpw : v / 10 < 10 ^ (20 - (k + 1)) := by
        have e : 20 - k = (20 - (k + 1)) + 1 := by omega
        rw [e, Nat.pow_succ] at hv
        omega
      have hs2 : (UInt8.ofNat (48 + v % 10) :: s).length = k + 1 := by rw [List.length_cons, hsl]
      rcases hgo with hg | hg
      · ((try simp only [WKb, ↓reduceIte, Nat.reduceEqDiff]) <;> (repeat' ((first
    | (refine G.tr ?_; first | refine S.a ?_ | refine S.t ?_ | refine Tr.brK ?_ ?_ | refine S.n fun _ => ?_ | refine S.i fun hix => ?_ | (refine S.g fun hb => ?_; (try simp only [hb])) | (refine S.s (fun hb => ?_) (fun hb => ?_) <;> ((try simp only [hb]) <;> (try (have hp := hb; simp only [WKs] at hp; (try have hq := Int.not_le.2 hp); (try have hq := Int.not_lt.2 hp))))))
    | ((fail_if_success refine G.tr ?_); exact G.prop S.p)
    | fail) <;> (try simp only [WKb, ↓reduceIte, Nat.reduceEqDiff, hqu, hm, hw1, hws, hc, Int.toNat_natCast]))))
        all_goals (apply Tr.againE ((k + 1, v / 10, UInt8.ofNat (48 + v % 10) :: s)); (focus (simp only [WKb, ↓reduceIte, Nat.reduceEqDiff])); (focus ((try simp only [WKb, ↓reduceIte, Nat.reduceEqDiff]); (all_goals ((repeat (refine cons_eq (by first | rfl | (simp [*]; done)) ?_)); rfl)); done)); (focus (first | omega | assumption | (simp only []; omega) | (refine ⟨by omega, by assumption⟩) | (simp only []; refine ⟨by omega, by assumption⟩) | ((try simp only []); (repeat' (first | omega | assumption | apply hnx | apply hpw | apply hs2 | refine And.intro ?_ ?_)); done))); (focus (first | omega | (simp only []; omega))); (focus (((try clear hK) <;> (try simp only [WKe, *]) <;> repeat (first | with_reducible exact EntR.done | refine S.e ?_ | (refine S.f ?_ <;> (try simp only [WKe, ↓reduceIte, reduceCtorEq, Int.reduceEq, *])) | with_reducible apply EntR.ex | refine EntR.drop (F := F) ?_ | refine EntR.drop ?_)))))
      · subst hg
        ((try simp only [WKb, ↓reduceIte, Nat.reduceEqDiff]) <;> (repeat' ((first
    | (refine G.tr ?_; first | refine S.a ?_ | refine S.t ?_ | refine Tr.brK ?_ ?_ | refine S.n fun _ => ?_ | refine S.i fun hix => ?_ | (refine S.g fun hb => ?_; (try simp only [hb])) | (refine S.s (fun hb => ?_) (fun hb => ?_) <;> ((try simp only [hb]) <;> (try (have hp := hb; simp only [WKs] at hp; (try have hq := Int.not_le.2 hp); (try have hq := Int.not_lt.2 hp))))))
    | ((fail_if_success refine G.tr ?_); exact G.prop S.p)
    | fail) <;> (try simp only [WKb, WKh, ↓reduceIte, Nat.reduceEqDiff, hqu, hm, hw1, hws, hc, Int.toNat_natCast]))))
        all_goals (apply Tr.againE ((k + 1, v / 10, [UInt8.ofNat (48 + v % 10)])); (focus (simp only [WKb, ↓reduceIte, Nat.reduceEqDiff])); (focus ((try simp only [WKb, ↓reduceIte, Nat.reduceEqDiff]); (all_goals ((repeat (refine cons_eq (by first | rfl | (simp [*]; done)) ?_)); rfl)); done)); (focus (first | omega | assumption | (simp only []; omega) | (refine ⟨by omega, by assumption⟩) | (simp only []; refine ⟨by omega, by assumption⟩) | ((try simp only []); (repeat' (first | omega | assumption | apply hnx | apply hpw | apply hs2 | refine And.intro ?_ ?_)); done))); (focus (first | omega | (simp only []; omega))); (focus (((try clear hK) <;> (try simp only [WKe, *]) <;> repeat (first | with_reducible exact EntR.done | refine S.e ?_ | (refine S.f ?_ <;> (try simp only [WKe, ↓reduceIte, reduceCtorEq, Int.reduceEq, *])) | with_reducible apply EntR.ex | refine EntR.drop (F := F) ?_ | refine EntR.drop ?_)))))
    · have hfin : v = 0 ∧ s = digA n.natAbs := by
        rcases hI with ⟨_, h⟩ | ⟨h, hs, _⟩
        · exfalso
          rcases h with h | h
          · by_cases hk20 : k < 20
            · exact hgo ⟨hk20, .inl h⟩
            · have : 20 - k = 0 := by omega
              rw [this] at hv; omega
          · subst h
            exact hgo ⟨by omega, .inr (List.eq_nil_of_length_eq_zero hsl)⟩
        · exact ⟨h, hs⟩
      obtain ⟨rfl, rfl⟩ := hfin
      have hne := digA_ne n.natAbs
      ((try simp only [WKb, ↓reduceIte, Nat.reduceEqDiff]) <;> (repeat' ((first
    | (refine G.tr ?_; first | refine S.a ?_ | refine S.t ?_ | refine Tr.brK ?_ ?_ | refine S.n fun _ => ?_ | refine S.i fun hix => ?_ | (refine S.g fun hb => ?_; (try simp only [hb])) | (refine S.s (fun hb => ?_) (fun hb => ?_) <;> ((try simp only [hb]) <;> (try (have hp := hb; simp only [WKs] at hp; (try have hq := Int.not_le.2 hp); (try have hq := Int.not_lt.2 hp))))))
    | ((fail_if_success refine G.tr ?_); exact G.prop S.p)
    | fail) <;> (try simp only [WKb, WKh, ↓reduceIte, Nat.reduceEqDiff]))))
      all_goals
        refine Tr.fin hK ⟨by rw [hd]; try rfl, rfl⟩ ?_
        ((try clear hK) <;> (try simp only [WKe, *]) <;> repeat (first | with_reducible exact EntR.done | refine S.e ?_ | (refine S.f ?_ <;> (try simp only [WKe, ↓reduceIte, reduceCtorEq, Int.reduceEq, *])) | with_reducible apply EntR.ex | refine EntR.drop (F := F) ?_ | refine EntR.drop ?_))

end Go.Proofs.YtgkhjgpgdfbdpaaDoor
