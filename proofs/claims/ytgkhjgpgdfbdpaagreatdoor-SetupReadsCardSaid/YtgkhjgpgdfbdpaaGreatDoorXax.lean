import Derived.Test.YtgkhjgpgdfbdpaaGreatDoorTb2
import Derived.Test.YtgkhjgpgdfbdpaaGreatDoorWkU
import Derived.KernelRfl
import Derived.Test.YtgkhjgpgdfbdpaaGreatDoorSh
namespace Go.Proofs.YtgkhjgpgdfbdpaaGreatDoor
open Go Go.Wk
set_option maxHeartbeats 6400000
set_option maxRecDepth 100000

attribute [local irreducible] BrK GenK EGenK EUnitK CallK FnK CallV GuardO GuardC CondW opX opK opKc chkR eqR seqK blkK endL WL WD W LoopW BinK Tr drewK resL PickK NotK NilK ExtrK getK Instr.storeAt Instr.loadAt Instr.fieldAt Instr.indexAt Instr.lookup Instr.mapUpdate Instr.box Instr.alloc Instr.build Instr.buildSlice Instr.makeSlice Instr.makeMap Instr.sliceAt Instr.field Instr.index Instr.makeInterface Instr.typeAssert Builtin.len_ Builtin.append_ Builtin.cap_ Builtin.min_ Builtin.max_ Builtin.copy_ Builtin.clear_ convert binOp mp blk rob sl sep ex fact old
attribute [local irreducible] NegK
theorem dig_at {d : Nat} (h : d < 10) : (([48, 49, 50, 51, 52, 53, 54, 55, 56, 57] : List UInt8).take (d + 1)).drop d = [UInt8.ofNat (48 + d)] := by
  rcases d with _ | _ | _ | _ | _ | _ | _ | _ | _ | _ | d <;> first | rfl | omega
/-- The digits that are laid so far, from behind. -/
def decI (n u : Nat) (s : List UInt8) (k : Nat) : Prop := (digA n = digA u ++ s ∧ (0 < u ∨ k = 0)) ∨ (u = 0 ∧ s = digA n ∧ 0 < k)
theorem decimalR_ok {n : Int} (hn : I64 n) : Trip Tryz.prog 48 [.int .i64 n].toArray [] fun v l' => v = .string (bstr (decA n)) ∧ l' = [] := by
  intro F K hK
  simp only [List.nil_append]
  have h1 := hn.1
  have h2 := hn.2
  have hw1 : IntKind.u64.wrap n = ((n.natAbs : Nat) : Int) ∨ n < 0 := by
    by_cases h : n < 0
    · exact .inr h
    · exact .inl (by rw [wrapN64 (by omega) (by omega)]; omega)
  have hw2 : n < 0 → IntKind.u64.wrap (IntKind.u64.wrap (IntKind.i64.wrap (0 - IntKind.i64.wrap (n + 1))) + 1) = ((n.natAbs : Nat) : Int) := fun h => by
    rw [wrapId (n := n + 1) (by omega) (by omega), wrapId (by omega) (by omega), wrapN64 (n := 0 - (n + 1)) (by omega) (by omega), wrapN64 (by omega) (by omega)]; omega
  (refine Tr.enter (rs := [.tmp 2]) mixed fn48 rfl (by simp +arith [Tryz.ntmps48]) fun u => ?_; simp only [cd48, Tryz.f48])
  by_cases hneg : n < 0
  all_goals
    (first | have hw := hw2 hneg | have hw := hw1.resolve_right hneg)
    have hd : decA n = (if n < 0 then [45] else []) ++ digA n.natAbs := by unfold decA; split <;> rfl
    (first | rw [if_pos hneg] at hd | rw [if_neg hneg] at hd)
    ((try simp only [WKb, WKh, ↓reduceIte, Nat.reduceEqDiff, WKt, hw]) <;> (repeat' ((first
    | (refine G.tr ?_; first | refine S.a ?_ | refine S.t ?_ | refine Tr.brK ?_ ?_ | refine S.n fun _ => ?_ | refine S.i fun hix => ?_ | (refine S.g fun hb => ?_; (try simp only [hb])) | (refine S.s (fun hb => ?_) (fun hb => ?_) <;> ((try simp only [hb]) <;> (try (have hp := hb; simp only [WKs] at hp; (try have hq := Int.not_le.2 hp); (try have hq := Int.not_lt.2 hp))))))
    | ((fail_if_success refine G.tr ?_); exact G.prop S.p)
    | fail) <;> (try simp only [WKb, WKh, ↓reduceIte, Nat.reduceEqDiff, hw]))))
    refine Tr.loopE (α := Nat × Nat × List UInt8) [3, 5, 6] [2, 4] (fun x => [.int .u64 x.2.1, .string (bstr x.2.2), .int .i64 x.1]) (fun x => []) (fun x => x.1 ≤ 20 ∧ x.2.2.length = x.1 ∧ x.2.1 < 10 ^ (20 - x.1) ∧ decI n.natAbs x.2.1 x.2.2 x.1) (fun x => 20 - x.1) (0, n.natAbs, []) (by (repeat (first | exact TakeL.nil | (apply TakeL.cons; focus ((first | exact TakeA.dupS | exact TakeA.dupF | ((repeat (first | with_reducible exact TakeA.here | exact TakeA.fam (by omega) (by omega) | with_reducible apply TakeA.next)); done) | ((repeat (first | exact TakeA.here | apply TakeA.next)); done) | exact TakeA.famNil | exact TakeA.nilS))) | fail)); done) rfl ⟨by omega, rfl, by show n.natAbs < 100000000000000000000; omega, .inl ⟨by rw [List.append_nil], .inr rfl⟩⟩ fun x u hx => ?_
    obtain ⟨k, v, s⟩ := x
    simp only at hx ⊢
    obtain ⟨hk, hsl, hv, hI⟩ := hx
    have hws := wrapSucc (k := k) (by omega)
    by_cases hgo : k < 20 ∧ (0 < v ∨ s = [])
    · obtain ⟨hk1, hgo⟩ := hgo
      have hv20 : v < 100000000000000000000 := Nat.lt_of_lt_of_le hv (Nat.pow_le_pow_right (n := 10) (i := 20 - k) (j := 20) (by decide) (by omega))
      have hqu : IntKind.u64.wrap ((v : Int).tdiv 10) = ((v / 10 : Nat) : Int) := by
        rw [show (v : Int).tdiv 10 = ((v / 10 : Nat) : Int) from rfl]
        exact wrapN64 (by omega) (by omega)
      have hm : (v : Int).tmod 10 = ((v % 10 : Nat) : Int) := rfl
      have hw1 : IntKind.u64.wrap (((v % 10 : Nat) : Int) + 1) = ((v % 10 + 1 : Nat) : Int) := by rw [wrapN64 (by omega) (by omega)]; rfl
      have hc := dig_at (d := v % 10) (by omega)
      have hnx : decI n.natAbs (v / 10) (UInt8.ofNat (48 + v % 10) :: s) (k + 1) := by
        have hA : digA n.natAbs = digA v ++ s := by
          rcases hI with ⟨h, _⟩ | ⟨h, hs, h0⟩
          · exact h
          · exfalso
            rcases hgo with hg | hg
            · omega
            · rw [hg] at hs; exact digA_ne _ hs.symm
        by_cases h10 : v < 10
        · right
          rw [digA_lt h10] at hA
          refine ⟨by omega, ?_, by omega⟩
          rw [hA, Nat.mod_eq_of_lt h10]; rfl
        · left
          rw [digA_ge h10] at hA
          refine ⟨by rw [hA]; simp, by omega⟩
      have hpw : v / 10 < 10 ^ (20 - (k + 1)) := by
        have e : 20 - k = (20 - (k + 1)) + 1 := by omega
        rw [e, Nat.pow_succ] at hv
        omega
      have hs2 : (UInt8.ofNat (48 + v % 10) :: s).length = k + 1 := by rw [List.length_cons, hsl]
      rcases hgo with hg | hg
      · ((try simp only [WKb, ↓reduceIte, Nat.reduceEqDiff]) <;> (repeat' ((first
    | (refine G.tr ?_; first | refine S.a ?_ | refine S.t ?_ | refine Tr.brK ?_ ?_ | refine S.n fun _ => ?_ | refine S.i fun hix => ?_ | (refine S.g fun hb => ?_; (try simp only [hb])) | (refine S.s (fun hb => ?_) (fun hb => ?_) <;> ((try simp only [hb]) <;> (try (have hp := hb; simp only [WKs] at hp; (try have hq := Int.not_le.2 hp); (try have hq := Int.not_lt.2 hp))))))
    | ((fail_if_success refine G.tr ?_); exact G.prop S.p)
    | fail) <;> (try simp only [WKb, ↓reduceIte, Nat.reduceEqDiff, hqu, hm, hw1, hws, hc, Int.toNat_natCast]))))
        all_goals (apply Tr.againE ((k + 1, v / 10, UInt8.ofNat (48 + v % 10) :: s)); (focus (simp only [WKb, ↓reduceIte, Nat.reduceEqDiff])); (focus ((try simp only [WKb, ↓reduceIte, Nat.reduceEqDiff]); (all_goals ((repeat (refine cons_eq (by first | rfl | (simp [*]; done)) ?_)); rfl)); done)); (focus (first | omega | assumption | (simp only []; omega) | (refine ⟨by omega, by assumption⟩) | (simp only []; refine ⟨by omega, by assumption⟩) | ((try simp only []); (repeat' (first | omega | assumption | apply hnx | apply hpw | apply hs2 | refine And.intro ?_ ?_)); done))); (focus (first | omega | (simp only []; omega))); (focus (((try clear hK) <;> (try simp only [WKe, *]) <;> repeat (first | with_reducible exact EntR.done | refine S.e ?_ | (refine S.f ?_ <;> (try simp only [WKe, ↓reduceIte, reduceCtorEq, Int.reduceEq, *])) | with_reducible apply EntR.ex | refine EntR.drop (F := F) ?_ | refine EntR.drop ?_)))))
      · subst hg
        ((try simp only [WKb, ↓reduceIte, Nat.reduceEqDiff]) <;> (repeat' ((first
    | (refine G.tr ?_; first | refine S.a ?_ | refine S.t ?_ | refine Tr.brK ?_ ?_ | refine S.n fun _ => ?_ | refine S.i fun hix => ?_ | (refine S.g fun hb => ?_; (try simp only [hb])) | (refine S.s (fun hb => ?_) (fun hb => ?_) <;> ((try simp only [hb]) <;> (try (have hp := hb; simp only [WKs] at hp; (try have hq := Int.not_le.2 hp); (try have hq := Int.not_lt.2 hp))))))
    | ((fail_if_success refine G.tr ?_); exact G.prop S.p)
    | fail) <;> (try simp only [WKb, WKh, ↓reduceIte, Nat.reduceEqDiff, hqu, hm, hw1, hws, hc, Int.toNat_natCast]))))
        all_goals (apply Tr.againE ((k + 1, v / 10, [UInt8.ofNat (48 + v % 10)])); (focus (simp only [WKb, ↓reduceIte, Nat.reduceEqDiff])); (focus ((try simp only [WKb, ↓reduceIte, Nat.reduceEqDiff]); (all_goals ((repeat (refine cons_eq (by first | rfl | (simp [*]; done)) ?_)); rfl)); done)); (focus (first | omega | assumption | (simp only []; omega) | (refine ⟨by omega, by assumption⟩) | (simp only []; refine ⟨by omega, by assumption⟩) | ((try simp only []); (repeat' (first | omega | assumption | apply hnx | apply hpw | apply hs2 | refine And.intro ?_ ?_)); done))); (focus (first | omega | (simp only []; omega))); (focus (((try clear hK) <;> (try simp only [WKe, *]) <;> repeat (first | with_reducible exact EntR.done | refine S.e ?_ | (refine S.f ?_ <;> (try simp only [WKe, ↓reduceIte, reduceCtorEq, Int.reduceEq, *])) | with_reducible apply EntR.ex | refine EntR.drop (F := F) ?_ | refine EntR.drop ?_)))))
    · have hfin : v = 0 ∧ s = digA n.natAbs := by
        rcases hI with ⟨_, h⟩ | ⟨h, hs, _⟩
        · exfalso
          rcases h with h | h
          · by_cases hk20 : k < 20
            · exact hgo ⟨hk20, .inl h⟩
            · have : 20 - k = 0 := by omega
              rw [this] at hv; omega
          · subst h
            exact hgo ⟨by omega, .inr (List.eq_nil_of_length_eq_zero hsl)⟩
        · exact ⟨h, hs⟩
      obtain ⟨rfl, rfl⟩ := hfin
      have hne := digA_ne n.natAbs
      ((try simp only [WKb, ↓reduceIte, Nat.reduceEqDiff]) <;> (repeat' ((first
    | (refine G.tr ?_; first | refine S.a ?_ | refine S.t ?_ | refine Tr.brK ?_ ?_ | refine S.n fun _ => ?_ | refine S.i fun hix => ?_ | (refine S.g fun hb => ?_; (try simp only [hb])) | (refine S.s (fun hb => ?_) (fun hb => ?_) <;> ((try simp only [hb]) <;> (try (have hp := hb; simp only [WKs] at hp; (try have hq := Int.not_le.2 hp); (try have hq := Int.not_lt.2 hp))))))
    | ((fail_if_success refine G.tr ?_); exact G.prop S.p)
    | fail) <;> (try simp only [WKb, WKh, ↓reduceIte, Nat.reduceEqDiff]))))
      all_goals
        refine Tr.fin hK ⟨by rw [hd]; try rfl, rfl⟩ ?_
        ((try clear hK) <;> (try simp only [WKe, *]) <;> repeat (first | with_reducible exact EntR.done | refine S.e ?_ | (refine S.f ?_ <;> (try simp only [WKe, ↓reduceIte, reduceCtorEq, Int.reduceEq, *])) | with_reducible apply EntR.ex | refine EntR.drop (F := F) ?_ | refine EntR.drop ?_))

end Go.Proofs.YtgkhjgpgdfbdpaaGreatDoor

namespace Go.Proofs.YtgkhjgpgdfbdpaaGreatDoor
open Go Go.Wk
set_option maxHeartbeats 6400000
set_option maxRecDepth 100000

attribute [local irreducible] BrK GenK EGenK EUnitK CallK FnK CallV GuardO GuardC CondW opX opK opKc chkR eqR seqK blkK endL WL WD W LoopW BinK Tr drewK resL PickK NotK NilK ExtrK getK Instr.storeAt Instr.loadAt Instr.fieldAt Instr.indexAt Instr.lookup Instr.mapUpdate Instr.box Instr.alloc Instr.build Instr.buildSlice Instr.makeSlice Instr.makeMap Instr.sliceAt Instr.field Instr.index Instr.makeInterface Instr.typeAssert Builtin.len_ Builtin.append_ Builtin.cap_ Builtin.min_ Builtin.max_ Builtin.copy_ Builtin.clear_ convert binOp mp blk rob sl sep ex fact old
attribute [local irreducible] NegK
theorem trim_ok {s : List UInt8} : Trip Tryz.prog 46 [.string (bstr s), .string (bstr [45])].toArray [] fun v l' => v = .string (bstr (trimA s)) ∧ l' = [] := trip_trim Tryz.strings_TrimPrefix

end Go.Proofs.YtgkhjgpgdfbdpaaGreatDoor

namespace Go.Proofs.YtgkhjgpgdfbdpaaGreatDoor
open Go Go.Wk
set_option maxHeartbeats 6400000
set_option maxRecDepth 100000

attribute [local irreducible] BrK GenK EGenK EUnitK CallK FnK CallV GuardO GuardC CondW opX opK opKc chkR eqR seqK blkK endL WL WD W LoopW BinK Tr drewK resL PickK NotK NilK ExtrK getK Instr.storeAt Instr.loadAt Instr.fieldAt Instr.indexAt Instr.lookup Instr.mapUpdate Instr.box Instr.alloc Instr.build Instr.buildSlice Instr.makeSlice Instr.makeMap Instr.sliceAt Instr.field Instr.index Instr.makeInterface Instr.typeAssert Builtin.len_ Builtin.append_ Builtin.cap_ Builtin.min_ Builtin.max_ Builtin.copy_ Builtin.clear_ convert binOp mp blk rob sl sep ex fact old
attribute [local irreducible] NegK
theorem trim_case (s : List UInt8) : (∃ r, s = 45 :: r ∧ trimA s = r ∧ ¬ trimA s = s) ∨ ((s = [] ∨ (0 < s.length ∧ ¬ ((bix s 0).toNat : Int) = 45)) ∧ trimA s = s) := by
  cases s with
  | nil => exact .inr ⟨.inl rfl, rfl⟩
  | cons b r =>
    by_cases hb : b = 45
    · subst hb
      refine .inl ⟨r, rfl, rfl, fun h => ?_⟩
      have := congrArg List.length h
      simp [trimA] at this
    · refine .inr ⟨.inr ⟨by simp, fun h => hb ?_⟩, trimA_ne fun x hx => hb (List.cons.inj hx).1⟩
      have h2 : b.toNat = 45 := by
        have : bix (b :: r) 0 = b := rfl
        rw [this] at h; omega
      exact UInt8.toNat_inj.1 h2
theorem bix_drop1 {r : List UInt8} {k : Nat} : bix (45 :: r) ((k + 1 : Nat) : Int) = bix r (k : Int) := by simp [bix]
theorem number10_ok {s : List UInt8} (hs : s.length ≤ 1000000) : Trip Tryz.prog 26 [.string (bstr s)].toArray [] fun v l' => ∃ n, I64 n ∧ (∀ m, numA s = some m → n = m) ∧ v = .tuple #[.int .i64 n, .bool (numA s).isSome] ∧ l' = [] := by
  intro F K hK
  simp only [List.nil_append]
  have h0 : I64 0 := by unfold I64; omega
  have fin0 : ∀ l : List Asrt, numA s = none → EntR [] l F → Tr l (K (.tuple #[.int .i64 0, .bool false])) := fun l hno he => by
    refine Tr.fin hK ⟨0, h0, fun m hm => ?_, ?_, rfl⟩ he
    · rw [hno] at hm; cases hm
    · rw [hno]; rfl
  have hbad := num_bad (s := s)
  have hc45 : decide (((45 : UInt8).toNat : Int) = 45) = true := rfl
  (refine Tr.enter (rs := [.tmp 2, .tmp 3]) mixed fn26 rfl (by simp +arith [Tryz.ntmps26]) fun u => ?_; simp only [cd26, Tryz.f26])
  rcases trim_case s with ⟨r, hsr, htr, hne⟩ | ⟨hsr, htr⟩
  · have hb0 : bix s 0 = 45 := by rw [hsr]; rfl
    have hlen : s.length = r.length + 1 := by rw [hsr]; rfl
    have hbx : ∀ k : Nat, bix s ((k : Int) + 1) = bix r (k : Int) := fun k => by rw [hsr]; exact bix_drop1
    rw [htr] at hbad
    by_cases hl : r.length = 0 ∨ 20 < s.length
    · have hno : numA s = none := hbad (by rcases hl with h | h; exact .inl (List.eq_nil_of_length_eq_zero h); exact .inr (.inr (.inl h)))
      rcases hl with hl | hl
      · ((try simp only [WKb, ↓reduceIte, Nat.reduceEqDiff, WKt]) <;> (repeat' ((first
    | (refine G.tr ?_; first | refine S.a ?_ | refine S.t ?_ | refine Tr.brK ?_ ?_ | (refine G.call 48 ?_; refine S.c ?_ (h := decimalR_ok (by assumption))) | refine S.n fun _ => ?_ | refine S.i fun hix => ?_ | (refine S.g fun hb => ?_; (try simp only [hb])) | (refine S.s (fun hb => ?_) (fun hb => ?_) <;> ((try simp only [hb]) <;> (try (have hp := hb; simp only [WKs] at hp; (try have hq := Int.not_le.2 hp); (try have hq := Int.not_lt.2 hp))))))
    | rintro _ _ ⟨rfl, rfl⟩
    | ((fail_if_success refine G.tr ?_); exact G.prop S.p)
    | fail) <;> (try simp only [WKb, ↓reduceIte, Nat.reduceEqDiff, WKt, hb0, hc45]))))
        all_goals
          refine fin0 _ hno ?_
          ((try clear hK) <;> (try simp only [WKe, ↓reduceIte, reduceCtorEq, Int.reduceEq, *]) <;> repeat (first | with_reducible exact EntR.done | refine S.e ?_ | (refine S.f ?_ <;> (try simp only [WKe, ↓reduceIte, reduceCtorEq, Int.reduceEq, *])) | with_reducible apply EntR.ex | refine EntR.drop (F := F) ?_ | refine EntR.drop ?_))
      · ((try simp only [WKb, ↓reduceIte, Nat.reduceEqDiff, WKt]) <;> (repeat' ((first
    | (refine G.tr ?_; first | refine S.a ?_ | refine S.t ?_ | refine Tr.brK ?_ ?_ | (refine G.call 48 ?_; refine S.c ?_ (h := decimalR_ok (by assumption))) | refine S.n fun _ => ?_ | refine S.i fun hix => ?_ | (refine S.g fun hb => ?_; (try simp only [hb])) | (refine S.s (fun hb => ?_) (fun hb => ?_) <;> ((try simp only [hb]) <;> (try (have hp := hb; simp only [WKs] at hp; (try have hq := Int.not_le.2 hp); (try have hq := Int.not_lt.2 hp))))))
    | rintro _ _ ⟨rfl, rfl⟩
    | ((fail_if_success refine G.tr ?_); exact G.prop S.p)
    | fail) <;> (try simp only [WKb, ↓reduceIte, Nat.reduceEqDiff, WKt, hb0, hc45]))))
        all_goals
          refine fin0 _ hno ?_
          ((try clear hK) <;> (try simp only [WKe, ↓reduceIte, reduceCtorEq, Int.reduceEq, *]) <;> repeat (first | with_reducible exact EntR.done | refine S.e ?_ | (refine S.f ?_ <;> (try simp only [WKe, ↓reduceIte, reduceCtorEq, Int.reduceEq, *])) | with_reducible apply EntR.ex | refine EntR.drop (F := F) ?_ | refine EntR.drop ?_))
    · have hl1 : 0 < r.length := by omega
      have hl2 : s.length ≤ 20 := by omega
      ((try simp only [WKb, ↓reduceIte, Nat.reduceEqDiff, WKt]) <;> (repeat' ((first
    | (refine G.tr ?_; first | refine S.a ?_ | refine S.t ?_ | refine Tr.brK ?_ ?_ | (refine G.call 48 ?_; refine S.c ?_ (h := decimalR_ok (by assumption))) | refine S.n fun _ => ?_ | refine S.i fun hix => ?_ | (refine S.g fun hb => ?_; (try simp only [hb])) | (refine S.s (fun hb => ?_) (fun hb => ?_) <;> ((try simp only [hb]) <;> (try (have hp := hb; simp only [WKs] at hp; (try have hq := Int.not_le.2 hp); (try have hq := Int.not_lt.2 hp))))))
    | rintro _ _ ⟨rfl, rfl⟩
    | ((fail_if_success refine G.tr ?_); exact G.prop S.p)
    | fail) <;> (try simp only [WKb, ↓reduceIte, Nat.reduceEqDiff, WKt, hb0, hc45]))))
      refine Tr.loopE (α := Nat × Nat) [2, 3, 4, 6] [0, 5] (fun x => [.int .i64 0, .bool false, .int .i64 (-(x.2 : Int)), .int .i64 ((x.1 : Int) + 1)]) (fun x => []) (fun x => x.1 ≤ r.length ∧ x.2 = valA (r.take x.1) ∧ (∀ b ∈ r.take x.1, isDig b) ∧ x.2 ≤ 9223372036854775808) (fun x => r.length - x.1) (0, 0) (by (repeat (first | exact TakeL.nil | (apply TakeL.cons; focus ((first | exact TakeA.dupS | exact TakeA.dupF | ((repeat (first | with_reducible exact TakeA.here | exact TakeA.fam (by omega) (by omega) | with_reducible apply TakeA.next)); done) | ((repeat (first | exact TakeA.here | apply TakeA.next)); done) | exact TakeA.famNil | exact TakeA.nilS))) | fail)); done) rfl ⟨by omega, rfl, by simp, by omega⟩ fun x u hx => ?_
      obtain ⟨k, v⟩ := x
      simp only at hx ⊢
      obtain ⟨hk, hv, hd, hv2⟩ := hx
      have hws : IntKind.i64.wrap ((k : Int) + 1 + 1) = ((k + 1 : Nat) : Int) + 1 := by rw [wrapId (by omega) (by omega)]; omega
      by_cases hin : k < r.length
      · have hbk := hbx k
        by_cases hdg : isDig (bix r (k : Int))
        · have hdn := dig_next hin hd hdg
          have hvn := valA_next hin
          rw [← hv] at hvn
          have hdg' := hdg
          unfold isDig at hdg'
          have e1 : IntKind.i64.wrap ((bix r (k : Int)).toNat : Int) = (bix r (k : Int)).toNat := wrapId (by omega) (by omega)
          have e2 : IntKind.i64.wrap (((bix r (k : Int)).toNat : Int) - 48) = (((bix r (k : Int)).toNat - 48 : Nat) : Int) := by rw [wrapId (by omega) (by omega)]; omega
          by_cases hov : 9223372036854775808 < 10 * v + ((bix r (k : Int)).toNat - 48)
          · have hno : numA s = none := hbad (.inr (.inr (.inr (.inr (.inl (by have := valA_take r (k + 1); omega))))))
            clear hv hvn
            by_cases ho1 : v = 922337203685477580
            · have ho2 : (8 : Int) < (((bix r (k : Int)).toNat - 48 : Nat) : Int) := by omega
              subst ho1
              ((try simp only [WKb, ↓reduceIte, Nat.reduceEqDiff, WKt]) <;> (repeat' ((first
    | (refine G.tr ?_; first | refine S.a ?_ | refine S.t ?_ | refine Tr.brK ?_ ?_ | (refine G.call 48 ?_; refine S.c ?_ (h := decimalR_ok (by assumption))) | refine S.n fun _ => ?_ | refine S.i fun hix => ?_ | (refine S.g fun hb => ?_; (try simp only [hb])) | (refine S.s (fun hb => ?_) (fun hb => ?_) <;> ((try simp only [hb]) <;> (try (have hp := hb; simp only [WKs] at hp; (try have hq := Int.not_le.2 hp); (try have hq := Int.not_lt.2 hp))))))
    | rintro _ _ ⟨rfl, rfl⟩
    | ((fail_if_success refine G.tr ?_); exact G.prop S.p)
    | fail) <;> (try simp only [WKb, WKh, ↓reduceIte, Nat.reduceEqDiff, hbk, e1, e2]))))
              all_goals
                refine fin0 _ hno ?_
                ((try clear hK) <;> (try simp only [WKe, ↓reduceIte, reduceCtorEq, Int.reduceEq, *]) <;> repeat (first | with_reducible exact EntR.done | refine S.e ?_ | (refine S.f ?_ <;> (try simp only [WKe, ↓reduceIte, reduceCtorEq, Int.reduceEq, *])) | with_reducible apply EntR.ex | refine EntR.drop (F := F) ?_ | refine EntR.drop ?_))
            · have ho3 : 922337203685477580 < v := by omega
              ((try simp only [WKb, ↓reduceIte, Nat.reduceEqDiff, WKt]) <;> (repeat' ((first
    | (refine G.tr ?_; first | refine S.a ?_ | refine S.t ?_ | refine Tr.brK ?_ ?_ | (refine G.call 48 ?_; refine S.c ?_ (h := decimalR_ok (by assumption))) | refine S.n fun _ => ?_ | refine S.i fun hix => ?_ | (refine S.g fun hb => ?_; (try simp only [hb])) | (refine S.s (fun hb => ?_) (fun hb => ?_) <;> ((try simp only [hb]) <;> (try (have hp := hb; simp only [WKs] at hp; (try have hq := Int.not_le.2 hp); (try have hq := Int.not_lt.2 hp))))))
    | rintro _ _ ⟨rfl, rfl⟩
    | ((fail_if_success refine G.tr ?_); exact G.prop S.p)
    | fail) <;> (try simp only [WKb, WKh, ↓reduceIte, Nat.reduceEqDiff, hbk, e1, e2]))))
              all_goals
                refine fin0 _ hno ?_
                ((try clear hK) <;> (try simp only [WKe, ↓reduceIte, reduceCtorEq, Int.reduceEq, *]) <;> repeat (first | with_reducible exact EntR.done | refine S.e ?_ | (refine S.f ?_ <;> (try simp only [WKe, ↓reduceIte, reduceCtorEq, Int.reduceEq, *])) | with_reducible apply EntR.ex | refine EntR.drop (F := F) ?_ | refine EntR.drop ?_))
          · have hvn' : 10 * v + ((bix r (k : Int)).toNat - 48) = valA (r.take (k + 1)) := hvn.symm
            have hov' : 10 * v + ((bix r (k : Int)).toNat - 48) ≤ 9223372036854775808 := by omega
            have e3 : IntKind.i64.wrap (10 * -(v : Int)) = 10 * -(v : Int) := wrapId (by omega) (by omega)
            have e4 : IntKind.i64.wrap (10 * -(v : Int) - (((bix r (k : Int)).toNat - 48 : Nat) : Int)) = -((10 * v + ((bix r (k : Int)).toNat - 48) : Nat) : Int) := by rw [wrapId (by omega) (by omega)]; omega
            clear hv hvn
            by_cases ho1 : v = 922337203685477580
            · have ho2 : (((bix r (k : Int)).toNat - 48 : Nat) : Int) ≤ 8 := by omega
              ((try simp only [WKb, ↓reduceIte, Nat.reduceEqDiff, WKt]) <;> (repeat' ((first
    | (refine G.tr ?_; first | refine S.a ?_ | refine S.t ?_ | refine Tr.brK ?_ ?_ | (refine G.call 48 ?_; refine S.c ?_ (h := decimalR_ok (by assumption))) | refine S.n fun _ => ?_ | refine S.i fun hix => ?_ | (refine S.g fun hb => ?_; (try simp only [hb])) | (refine S.s (fun hb => ?_) (fun hb => ?_) <;> ((try simp only [hb]) <;> (try (have hp := hb; simp only [WKs] at hp; (try have hq := Int.not_le.2 hp); (try have hq := Int.not_lt.2 hp))))))
    | rintro _ _ ⟨rfl, rfl⟩
    | ((fail_if_success refine G.tr ?_); exact G.prop S.p)
    | fail) <;> (try simp only [WKb, WKh, ↓reduceIte, Nat.reduceEqDiff, hbk, hws, e1, e2, e3, e4]))))
              all_goals
                clear e1 e2 e3
                (apply Tr.againE ((k + 1, _)); (focus (simp only [WKb, ↓reduceIte, Nat.reduceEqDiff])); (focus ((try simp only [WKb, ↓reduceIte, Nat.reduceEqDiff, Nat.reduceAdd, Nat.reduceSub, hw]); (all_goals ((repeat (refine cons_eq (by first | rfl | (simp [*]; done)) ?_)); rfl)); done)); (focus (first | omega | assumption | (simp only []; omega) | (refine ⟨by omega, by assumption⟩) | (simp only []; refine ⟨by omega, by assumption⟩) | ((try simp only []); (repeat' (first | omega | assumption | apply hvn' | apply hdn | apply hov' | refine And.intro ?_ ?_)); done))); (focus (first | omega | (simp only []; omega))); (focus (((try clear hK) <;> (try simp only [WKe, *]) <;> repeat (first | with_reducible exact EntR.done | refine S.e ?_ | (refine S.f ?_ <;> (try simp only [WKe, ↓reduceIte, reduceCtorEq, Int.reduceEq, *])) | with_reducible apply EntR.ex | refine EntR.drop (F := F) ?_ | refine EntR.drop ?_)))))
            · have ho3 : v < 922337203685477580 := by omega
              ((try simp only [WKb, ↓reduceIte, Nat.reduceEqDiff, WKt]) <;> (repeat' ((first
    | (refine G.tr ?_; first | refine S.a ?_ | refine S.t ?_ | refine Tr.brK ?_ ?_ | (refine G.call 48 ?_; refine S.c ?_ (h := decimalR_ok (by assumption))) | refine S.n fun _ => ?_ | refine S.i fun hix => ?_ | (refine S.g fun hb => ?_; (try simp only [hb])) | (refine S.s (fun hb => ?_) (fun hb => ?_) <;> ((try simp only [hb]) <;> (try (have hp := hb; simp only [WKs] at hp; (try have hq := Int.not_le.2 hp); (try have hq := Int.not_lt.2 hp))))))
    | rintro _ _ ⟨rfl, rfl⟩
    | ((fail_if_success refine G.tr ?_); exact G.prop S.p)
    | fail) <;> (try simp only [WKb, WKh, ↓reduceIte, Nat.reduceEqDiff, hbk, hws, e1, e2, e3, e4]))))
              all_goals
                clear e1 e2 e3
                (apply Tr.againE ((k + 1, _)); (focus (simp only [WKb, ↓reduceIte, Nat.reduceEqDiff])); (focus ((try simp only [WKb, ↓reduceIte, Nat.reduceEqDiff, Nat.reduceAdd, Nat.reduceSub, hw]); (all_goals ((repeat (refine cons_eq (by first | rfl | (simp [*]; done)) ?_)); rfl)); done)); (focus (first | omega | assumption | (simp only []; omega) | (refine ⟨by omega, by assumption⟩) | (simp only []; refine ⟨by omega, by assumption⟩) | ((try simp only []); (repeat' (first | omega | assumption | apply hvn' | apply hdn | apply hov' | refine And.intro ?_ ?_)); done))); (focus (first | omega | (simp only []; omega))); (focus (((try clear hK) <;> (try simp only [WKe, *]) <;> repeat (first | with_reducible exact EntR.done | refine S.e ?_ | (refine S.f ?_ <;> (try simp only [WKe, ↓reduceIte, reduceCtorEq, Int.reduceEq, *])) | with_reducible apply EntR.ex | refine EntR.drop (F := F) ?_ | refine EntR.drop ?_)))))
        · have hno : numA s = none := hbad (.inr (.inr (.inr (.inl ⟨_, bix_mem hin, hdg⟩))))
          have hdg' := hdg
          unfold isDig at hdg'
          clear hv
          by_cases hlo : (bix r (k : Int)).toNat < 48
          · ((try simp only [WKb, ↓reduceIte, Nat.reduceEqDiff, WKt]) <;> (repeat' ((first
    | (refine G.tr ?_; first | refine S.a ?_ | refine S.t ?_ | refine Tr.brK ?_ ?_ | (refine G.call 48 ?_; refine S.c ?_ (h := decimalR_ok (by assumption))) | refine S.n fun _ => ?_ | refine S.i fun hix => ?_ | (refine S.g fun hb => ?_; (try simp only [hb])) | (refine S.s (fun hb => ?_) (fun hb => ?_) <;> ((try simp only [hb]) <;> (try (have hp := hb; simp only [WKs] at hp; (try have hq := Int.not_le.2 hp); (try have hq := Int.not_lt.2 hp))))))
    | rintro _ _ ⟨rfl, rfl⟩
    | ((fail_if_success refine G.tr ?_); exact G.prop S.p)
    | fail) <;> (try simp only [WKb, ↓reduceIte, Nat.reduceEqDiff, hbk]))))
            all_goals
              refine fin0 _ hno ?_
              ((try clear hK) <;> (try simp only [WKe, ↓reduceIte, reduceCtorEq, Int.reduceEq, *]) <;> repeat (first | with_reducible exact EntR.done | refine S.e ?_ | (refine S.f ?_ <;> (try simp only [WKe, ↓reduceIte, reduceCtorEq, Int.reduceEq, *])) | with_reducible apply EntR.ex | refine EntR.drop (F := F) ?_ | refine EntR.drop ?_))
          · have hhi : 57 < (bix r (k : Int)).toNat := by omega
            ((try simp only [WKb, ↓reduceIte, Nat.reduceEqDiff, WKt]) <;> (repeat' ((first
    | (refine G.tr ?_; first | refine S.a ?_ | refine S.t ?_ | refine Tr.brK ?_ ?_ | (refine G.call 48 ?_; refine S.c ?_ (h := decimalR_ok (by assumption))) | refine S.n fun _ => ?_ | refine S.i fun hix => ?_ | (refine S.g fun hb => ?_; (try simp only [hb])) | (refine S.s (fun hb => ?_) (fun hb => ?_) <;> ((try simp only [hb]) <;> (try (have hp := hb; simp only [WKs] at hp; (try have hq := Int.not_le.2 hp); (try have hq := Int.not_lt.2 hp))))))
    | rintro _ _ ⟨rfl, rfl⟩
    | ((fail_if_success refine G.tr ?_); exact G.prop S.p)
    | fail) <;> (try simp only [WKb, ↓reduceIte, Nat.reduceEqDiff, hbk]))))
            all_goals
              refine fin0 _ hno ?_
              ((try clear hK) <;> (try simp only [WKe, ↓reduceIte, reduceCtorEq, Int.reduceEq, *]) <;> repeat (first | with_reducible exact EntR.done | refine S.e ?_ | (refine S.f ?_ <;> (try simp only [WKe, ↓reduceIte, reduceCtorEq, Int.reduceEq, *])) | with_reducible apply EntR.ex | refine EntR.drop (F := F) ?_ | refine EntR.drop ?_))
      · have hke : k = r.length := by omega
        subst hke
        rw [List.take_length] at hv
        subst hv
        have hiw : I64 (-((valA r : Nat) : Int)) := by unfold I64; omega
        have hm : ∀ m, numA s = some m → -((valA r : Nat) : Int) = m := fun m hm => by
          obtain ⟨h1, h2, _⟩ := num_law hm
          rw [htr] at h1 h2
          have hvv : valA r = m.natAbs := by rw [h1, digA_val]
          have : m < 0 := by
            by_cases h : m < 0
            · exact h
            · exact absurd (htr.trans (h2.2 h)) hne
          omega
        have hsome : (numA s).isSome = decide (decA (-((valA r : Nat) : Int)) = s) := num_isSome hiw hm
        ((try simp only [WKb, ↓reduceIte, Nat.reduceEqDiff, WKt]) <;> (repeat' ((first
    | (refine G.tr ?_; first | refine S.a ?_ | refine S.t ?_ | refine Tr.brK ?_ ?_ | (refine G.call 48 ?_; refine S.c ?_ (h := decimalR_ok (by assumption))) | refine S.n fun _ => ?_ | refine S.i fun hix => ?_ | (refine S.g fun hb => ?_; (try simp only [hb])) | (refine S.s (fun hb => ?_) (fun hb => ?_) <;> ((try simp only [hb]) <;> (try (have hp := hb; simp only [WKs] at hp; (try have hq := Int.not_le.2 hp); (try have hq := Int.not_lt.2 hp))))))
    | rintro _ _ ⟨rfl, rfl⟩
    | ((fail_if_success refine G.tr ?_); exact G.prop S.p)
    | fail) <;> (try simp only [WKb, WKh, ↓reduceIte, Nat.reduceEqDiff, Int.reduceEq]))))
        all_goals
          apply Tr.fin hK ⟨_, hiw, hm, (by rw [hsome]), rfl⟩
          ((try clear hK) <;> (try simp only [WKe, *]) <;> repeat (first | with_reducible exact EntR.done | refine S.e ?_ | (refine S.f ?_ <;> (try simp only [WKe, ↓reduceIte, reduceCtorEq, Int.reduceEq, *])) | with_reducible apply EntR.ex | refine EntR.drop (F := F) ?_ | refine EntR.drop ?_))
  · rw [htr] at hbad
    by_cases hl : s.length = 0 ∨ 20 < s.length
    · have hno : numA s = none := hbad (by rcases hl with h | h; exact .inl (List.eq_nil_of_length_eq_zero h); exact .inr (.inr (.inl h)))
      rcases hsr with rfl | ⟨hs0, hsb⟩
      · ((try simp only [WKb, ↓reduceIte, Nat.reduceEqDiff, WKt]) <;> (repeat' ((first
    | (refine G.tr ?_; first | refine S.a ?_ | refine S.t ?_ | refine Tr.brK ?_ ?_ | (refine G.call 48 ?_; refine S.c ?_ (h := decimalR_ok (by assumption))) | refine S.n fun _ => ?_ | refine S.i fun hix => ?_ | (refine S.g fun hb => ?_; (try simp only [hb])) | (refine S.s (fun hb => ?_) (fun hb => ?_) <;> ((try simp only [hb]) <;> (try (have hp := hb; simp only [WKs] at hp; (try have hq := Int.not_le.2 hp); (try have hq := Int.not_lt.2 hp))))))
    | rintro _ _ ⟨rfl, rfl⟩
    | ((fail_if_success refine G.tr ?_); exact G.prop S.p)
    | fail) <;> (try simp only [WKb, ↓reduceIte, Nat.reduceEqDiff, WKt]))))
        all_goals
          refine fin0 _ hno ?_
          ((try clear hK) <;> (try simp only [WKe, ↓reduceIte, reduceCtorEq, Int.reduceEq, *]) <;> repeat (first | with_reducible exact EntR.done | refine S.e ?_ | (refine S.f ?_ <;> (try simp only [WKe, ↓reduceIte, reduceCtorEq, Int.reduceEq, *])) | with_reducible apply EntR.ex | refine EntR.drop (F := F) ?_ | refine EntR.drop ?_))
      · have hl : 20 < s.length := by omega
        ((try simp only [WKb, ↓reduceIte, Nat.reduceEqDiff, WKt]) <;> (repeat' ((first
    | (refine G.tr ?_; first | refine S.a ?_ | refine S.t ?_ | refine Tr.brK ?_ ?_ | (refine G.call 48 ?_; refine S.c ?_ (h := decimalR_ok (by assumption))) | refine S.n fun _ => ?_ | refine S.i fun hix => ?_ | (refine S.g fun hb => ?_; (try simp only [hb])) | (refine S.s (fun hb => ?_) (fun hb => ?_) <;> ((try simp only [hb]) <;> (try (have hp := hb; simp only [WKs] at hp; (try have hq := Int.not_le.2 hp); (try have hq := Int.not_lt.2 hp))))))
    | rintro _ _ ⟨rfl, rfl⟩
    | ((fail_if_success refine G.tr ?_); exact G.prop S.p)
    | fail) <;> (try simp only [WKb, ↓reduceIte, Nat.reduceEqDiff, WKt]))))
        all_goals
          refine fin0 _ hno ?_
          ((try clear hK) <;> (try simp only [WKe, ↓reduceIte, reduceCtorEq, Int.reduceEq, *]) <;> repeat (first | with_reducible exact EntR.done | refine S.e ?_ | (refine S.f ?_ <;> (try simp only [WKe, ↓reduceIte, reduceCtorEq, Int.reduceEq, *])) | with_reducible apply EntR.ex | refine EntR.drop (F := F) ?_ | refine EntR.drop ?_))
    · have hs0 : 0 < s.length := by omega
      have hl2 : s.length ≤ 20 := by omega
      have hsb : ¬ ((bix s 0).toNat : Int) = 45 := by
        rcases hsr with h | h
        · rw [h] at hs0; simp at hs0
        · exact h.2
      ((try simp only [WKb, ↓reduceIte, Nat.reduceEqDiff, WKt]) <;> (repeat' ((first
    | (refine G.tr ?_; first | refine S.a ?_ | refine S.t ?_ | refine Tr.brK ?_ ?_ | (refine G.call 48 ?_; refine S.c ?_ (h := decimalR_ok (by assumption))) | refine S.n fun _ => ?_ | refine S.i fun hix => ?_ | (refine S.g fun hb => ?_; (try simp only [hb])) | (refine S.s (fun hb => ?_) (fun hb => ?_) <;> ((try simp only [hb]) <;> (try (have hp := hb; simp only [WKs] at hp; (try have hq := Int.not_le.2 hp); (try have hq := Int.not_lt.2 hp))))))
    | rintro _ _ ⟨rfl, rfl⟩
    | ((fail_if_success refine G.tr ?_); exact G.prop S.p)
    | fail) <;> (try simp only [WKb, ↓reduceIte, Nat.reduceEqDiff, WKt]))))
      refine Tr.loopE (α := Nat × Nat) [2, 3, 4, 6] [0, 5] (fun x => [.int .i64 0, .bool false, .int .i64 (-(x.2 : Int)), .int .i64 (x.1 : Int)]) (fun x => []) (fun x => x.1 ≤ s.length ∧ x.2 = valA (s.take x.1) ∧ (∀ b ∈ s.take x.1, isDig b) ∧ x.2 ≤ 9223372036854775808) (fun x => s.length - x.1) (0, 0) (by (repeat (first | exact TakeL.nil | (apply TakeL.cons; focus ((first | exact TakeA.dupS | exact TakeA.dupF | ((repeat (first | with_reducible exact TakeA.here | exact TakeA.fam (by omega) (by omega) | with_reducible apply TakeA.next)); done) | ((repeat (first | exact TakeA.here | apply TakeA.next)); done) | exact TakeA.famNil | exact TakeA.nilS))) | fail)); done) rfl ⟨by omega, rfl, by simp, by omega⟩ fun x u hx => ?_
      obtain ⟨k, v⟩ := x
      simp only at hx ⊢
      obtain ⟨hk, hv, hd, hv2⟩ := hx
      have hws : IntKind.i64.wrap ((k : Int) + 1) = ((k + 1 : Nat) : Int) := wrapSucc (by omega)
      by_cases hin : k < s.length
      · by_cases hdg : isDig (bix s (k : Int))
        · have hdn := dig_next hin hd hdg
          have hvn := valA_next hin
          rw [← hv] at hvn
          have hdg' := hdg
          unfold isDig at hdg'
          have e1 : IntKind.i64.wrap ((bix s (k : Int)).toNat : Int) = (bix s (k : Int)).toNat := wrapId (by omega) (by omega)
          have e2 : IntKind.i64.wrap (((bix s (k : Int)).toNat : Int) - 48) = (((bix s (k : Int)).toNat - 48 : Nat) : Int) := by rw [wrapId (by omega) (by omega)]; omega
          by_cases hov : 9223372036854775808 < 10 * v + ((bix s (k : Int)).toNat - 48)
          · have hno : numA s = none := hbad (.inr (.inr (.inr (.inr (.inl (by have := valA_take s (k + 1); omega))))))
            clear hv hvn
            by_cases ho1 : v = 922337203685477580
            · have ho2 : (8 : Int) < (((bix s (k : Int)).toNat - 48 : Nat) : Int) := by omega
              subst ho1
              ((try simp only [WKb, ↓reduceIte, Nat.reduceEqDiff, WKt]) <;> (repeat' ((first
    | (refine G.tr ?_; first | refine S.a ?_ | refine S.t ?_ | refine Tr.brK ?_ ?_ | (refine G.call 48 ?_; refine S.c ?_ (h := decimalR_ok (by assumption))) | refine S.n fun _ => ?_ | refine S.i fun hix => ?_ | (refine S.g fun hb => ?_; (try simp only [hb])) | (refine S.s (fun hb => ?_) (fun hb => ?_) <;> ((try simp only [hb]) <;> (try (have hp := hb; simp only [WKs] at hp; (try have hq := Int.not_le.2 hp); (try have hq := Int.not_lt.2 hp))))))
    | rintro _ _ ⟨rfl, rfl⟩
    | ((fail_if_success refine G.tr ?_); exact G.prop S.p)
    | fail) <;> (try simp only [WKb, WKh, ↓reduceIte, Nat.reduceEqDiff, e1, e2]))))
              all_goals
                refine fin0 _ hno ?_
                ((try clear hK) <;> (try simp only [WKe, ↓reduceIte, reduceCtorEq, Int.reduceEq, *]) <;> repeat (first | with_reducible exact EntR.done | refine S.e ?_ | (refine S.f ?_ <;> (try simp only [WKe, ↓reduceIte, reduceCtorEq, Int.reduceEq, *])) | with_reducible apply EntR.ex | refine EntR.drop (F := F) ?_ | refine EntR.drop ?_))
            · have ho3 : 922337203685477580 < v := by omega
              ((try simp only [WKb, ↓reduceIte, Nat.reduceEqDiff, WKt]) <;> (repeat' ((first
    | (refine G.tr ?_; first | refine S.a ?_ | refine S.t ?_ | refine Tr.brK ?_ ?_ | (refine G.call 48 ?_; refine S.c ?_ (h := decimalR_ok (by assumption))) | refine S.n fun _ => ?_ | refine S.i fun hix => ?_ | (refine S.g fun hb => ?_; (try simp only [hb])) | (refine S.s (fun hb => ?_) (fun hb => ?_) <;> ((try simp only [hb]) <;> (try (have hp := hb; simp only [WKs] at hp; (try have hq := Int.not_le.2 hp); (try have hq := Int.not_lt.2 hp))))))
    | rintro _ _ ⟨rfl, rfl⟩
    | ((fail_if_success refine G.tr ?_); exact G.prop S.p)
    | fail) <;> (try simp only [WKb, WKh, ↓reduceIte, Nat.reduceEqDiff, e1, e2]))))
              all_goals
                refine fin0 _ hno ?_
                ((try clear hK) <;> (try simp only [WKe, ↓reduceIte, reduceCtorEq, Int.reduceEq, *]) <;> repeat (first | with_reducible exact EntR.done | refine S.e ?_ | (refine S.f ?_ <;> (try simp only [WKe, ↓reduceIte, reduceCtorEq, Int.reduceEq, *])) | with_reducible apply EntR.ex | refine EntR.drop (F := F) ?_ | refine EntR.drop ?_))
          · have hvn' : 10 * v + ((bix s (k : Int)).toNat - 48) = valA (s.take (k + 1)) := hvn.symm
            have hov' : 10 * v + ((bix s (k : Int)).toNat - 48) ≤ 9223372036854775808 := by omega
            have e3 : IntKind.i64.wrap (10 * -(v : Int)) = 10 * -(v : Int) := wrapId (by omega) (by omega)
            have e4 : IntKind.i64.wrap (10 * -(v : Int) - (((bix s (k : Int)).toNat - 48 : Nat) : Int)) = -((10 * v + ((bix s (k : Int)).toNat - 48) : Nat) : Int) := by rw [wrapId (by omega) (by omega)]; omega
            clear hv hvn
            by_cases ho1 : v = 922337203685477580
            · have ho2 : (((bix s (k : Int)).toNat - 48 : Nat) : Int) ≤ 8 := by omega
              ((try simp only [WKb, ↓reduceIte, Nat.reduceEqDiff, WKt]) <;> (repeat' ((first
    | (refine G.tr ?_; first | refine S.a ?_ | refine S.t ?_ | refine Tr.brK ?_ ?_ | (refine G.call 48 ?_; refine S.c ?_ (h := decimalR_ok (by assumption))) | refine S.n fun _ => ?_ | refine S.i fun hix => ?_ | (refine S.g fun hb => ?_; (try simp only [hb])) | (refine S.s (fun hb => ?_) (fun hb => ?_) <;> ((try simp only [hb]) <;> (try (have hp := hb; simp only [WKs] at hp; (try have hq := Int.not_le.2 hp); (try have hq := Int.not_lt.2 hp))))))
    | rintro _ _ ⟨rfl, rfl⟩
    | ((fail_if_success refine G.tr ?_); exact G.prop S.p)
    | fail) <;> (try simp only [WKb, WKh, ↓reduceIte, Nat.reduceEqDiff, hws, e1, e2, e3, e4]))))
              all_goals
                clear e1 e2 e3
                (apply Tr.againE ((k + 1, _)); (focus (simp only [WKb, ↓reduceIte, Nat.reduceEqDiff])); (focus ((try simp only [WKb, ↓reduceIte, Nat.reduceEqDiff, Nat.reduceAdd, Nat.reduceSub, hw]); (all_goals ((repeat (refine cons_eq (by first | rfl | (simp [*]; done)) ?_)); rfl)); done)); (focus (first | omega | assumption | (simp only []; omega) | (refine ⟨by omega, by assumption⟩) | (simp only []; refine ⟨by omega, by assumption⟩) | ((try simp only []); (repeat' (first | omega | assumption | apply hvn' | apply hdn | apply hov' | refine And.intro ?_ ?_)); done))); (focus (first | omega | (simp only []; omega))); (focus (((try clear hK) <;> (try simp only [WKe, *]) <;> repeat (first | with_reducible exact EntR.done | refine S.e ?_ | (refine S.f ?_ <;> (try simp only [WKe, ↓reduceIte, reduceCtorEq, Int.reduceEq, *])) | with_reducible apply EntR.ex | refine EntR.drop (F := F) ?_ | refine EntR.drop ?_)))))
            · have ho3 : v < 922337203685477580 := by omega
              ((try simp only [WKb, ↓reduceIte, Nat.reduceEqDiff, WKt]) <;> (repeat' ((first
    | (refine G.tr ?_; first | refine S.a ?_ | refine S.t ?_ | refine Tr.brK ?_ ?_ | (refine G.call 48 ?_; refine S.c ?_ (h := decimalR_ok (by assumption))) | refine S.n fun _ => ?_ | refine S.i fun hix => ?_ | (refine S.g fun hb => ?_; (try simp only [hb])) | (refine S.s (fun hb => ?_) (fun hb => ?_) <;> ((try simp only [hb]) <;> (try (have hp := hb; simp only [WKs] at hp; (try have hq := Int.not_le.2 hp); (try have hq := Int.not_lt.2 hp))))))
    | rintro _ _ ⟨rfl, rfl⟩
    | ((fail_if_success refine G.tr ?_); exact G.prop S.p)
    | fail) <;> (try simp only [WKb, WKh, ↓reduceIte, Nat.reduceEqDiff, hws, e1, e2, e3, e4]))))
              all_goals
                clear e1 e2 e3
                (apply Tr.againE ((k + 1, _)); (focus (simp only [WKb, ↓reduceIte, Nat.reduceEqDiff])); (focus ((try simp only [WKb, ↓reduceIte, Nat.reduceEqDiff, Nat.reduceAdd, Nat.reduceSub, hw]); (all_goals ((repeat (refine cons_eq (by first | rfl | (simp [*]; done)) ?_)); rfl)); done)); (focus (first | omega | assumption | (simp only []; omega) | (refine ⟨by omega, by assumption⟩) | (simp only []; refine ⟨by omega, by assumption⟩) | ((try simp only []); (repeat' (first | omega | assumption | apply hvn' | apply hdn | apply hov' | refine And.intro ?_ ?_)); done))); (focus (first | omega | (simp only []; omega))); (focus (((try clear hK) <;> (try simp only [WKe, *]) <;> repeat (first | with_reducible exact EntR.done | refine S.e ?_ | (refine S.f ?_ <;> (try simp only [WKe, ↓reduceIte, reduceCtorEq, Int.reduceEq, *])) | with_reducible apply EntR.ex | refine EntR.drop (F := F) ?_ | refine EntR.drop ?_)))))
        · have hno : numA s = none := hbad (.inr (.inr (.inr (.inl ⟨_, bix_mem hin, hdg⟩))))
          have hdg' := hdg
          unfold isDig at hdg'
          clear hv
          by_cases hlo : (bix s (k : Int)).toNat < 48
          · ((try simp only [WKb, ↓reduceIte, Nat.reduceEqDiff, WKt]) <;> (repeat' ((first
    | (refine G.tr ?_; first | refine S.a ?_ | refine S.t ?_ | refine Tr.brK ?_ ?_ | (refine G.call 48 ?_; refine S.c ?_ (h := decimalR_ok (by assumption))) | refine S.n fun _ => ?_ | refine S.i fun hix => ?_ | (refine S.g fun hb => ?_; (try simp only [hb])) | (refine S.s (fun hb => ?_) (fun hb => ?_) <;> ((try simp only [hb]) <;> (try (have hp := hb; simp only [WKs] at hp; (try have hq := Int.not_le.2 hp); (try have hq := Int.not_lt.2 hp))))))
    | rintro _ _ ⟨rfl, rfl⟩
    | ((fail_if_success refine G.tr ?_); exact G.prop S.p)
    | fail) <;> (try simp only [WKb, ↓reduceIte, Nat.reduceEqDiff]))))
            all_goals
              refine fin0 _ hno ?_
              ((try clear hK) <;> (try simp only [WKe, ↓reduceIte, reduceCtorEq, Int.reduceEq, *]) <;> repeat (first | with_reducible exact EntR.done | refine S.e ?_ | (refine S.f ?_ <;> (try simp only [WKe, ↓reduceIte, reduceCtorEq, Int.reduceEq, *])) | with_reducible apply EntR.ex | refine EntR.drop (F := F) ?_ | refine EntR.drop ?_))
          · have hhi : 57 < (bix s (k : Int)).toNat := by omega
            ((try simp only [WKb, ↓reduceIte, Nat.reduceEqDiff, WKt]) <;> (repeat' ((first
    | (refine G.tr ?_; first | refine S.a ?_ | refine S.t ?_ | refine Tr.brK ?_ ?_ | (refine G.call 48 ?_; refine S.c ?_ (h := decimalR_ok (by assumption))) | refine S.n fun _ => ?_ | refine S.i fun hix => ?_ | (refine S.g fun hb => ?_; (try simp only [hb])) | (refine S.s (fun hb => ?_) (fun hb => ?_) <;> ((try simp only [hb]) <;> (try (have hp := hb; simp only [WKs] at hp; (try have hq := Int.not_le.2 hp); (try have hq := Int.not_lt.2 hp))))))
    | rintro _ _ ⟨rfl, rfl⟩
    | ((fail_if_success refine G.tr ?_); exact G.prop S.p)
    | fail) <;> (try simp only [WKb, ↓reduceIte, Nat.reduceEqDiff]))))
            all_goals
              refine fin0 _ hno ?_
              ((try clear hK) <;> (try simp only [WKe, ↓reduceIte, reduceCtorEq, Int.reduceEq, *]) <;> repeat (first | with_reducible exact EntR.done | refine S.e ?_ | (refine S.f ?_ <;> (try simp only [WKe, ↓reduceIte, reduceCtorEq, Int.reduceEq, *])) | with_reducible apply EntR.ex | refine EntR.drop (F := F) ?_ | refine EntR.drop ?_))
      · have hke : k = s.length := by omega
        subst hke
        rw [List.take_length] at hv
        subst hv
        by_cases hmin : valA s = 9223372036854775808
        · have hno : numA s = none := hbad (.inr (.inr (.inr (.inr (.inr ⟨rfl, by omega⟩)))))
          ((try simp only [WKb, ↓reduceIte, Nat.reduceEqDiff, WKt]) <;> (repeat' ((first
    | (refine G.tr ?_; first | refine S.a ?_ | refine S.t ?_ | refine Tr.brK ?_ ?_ | (refine G.call 48 ?_; refine S.c ?_ (h := decimalR_ok (by assumption))) | refine S.n fun _ => ?_ | refine S.i fun hix => ?_ | (refine S.g fun hb => ?_; (try simp only [hb])) | (refine S.s (fun hb => ?_) (fun hb => ?_) <;> ((try simp only [hb]) <;> (try (have hp := hb; simp only [WKs] at hp; (try have hq := Int.not_le.2 hp); (try have hq := Int.not_lt.2 hp))))))
    | rintro _ _ ⟨rfl, rfl⟩
    | ((fail_if_success refine G.tr ?_); exact G.prop S.p)
    | fail) <;> (try simp only [WKb, ↓reduceIte, Nat.reduceEqDiff]))))
          all_goals
            refine fin0 _ hno ?_
            ((try clear hK) <;> (try simp only [WKe, ↓reduceIte, reduceCtorEq, Int.reduceEq, *]) <;> repeat (first | with_reducible exact EntR.done | refine S.e ?_ | (refine S.f ?_ <;> (try simp only [WKe, ↓reduceIte, reduceCtorEq, Int.reduceEq, *])) | with_reducible apply EntR.ex | refine EntR.drop (F := F) ?_ | refine EntR.drop ?_))
        · have e5 : IntKind.i64.wrap (0 - -((valA s : Nat) : Int)) = ((valA s : Nat) : Int) := by rw [wrapId (by omega) (by omega)]; omega
          have hiw : I64 ((valA s : Nat) : Int) := by unfold I64; omega
          have hm : ∀ m, numA s = some m → ((valA s : Nat) : Int) = m := fun m hm => by
            obtain ⟨h1, h2, _⟩ := num_law hm
            rw [htr] at h1 h2
            have hvv : valA s = m.natAbs := by rw [h1, digA_val]
            have := h2.1 rfl
            omega
          have hsome : (numA s).isSome = decide (decA ((valA s : Nat) : Int) = s) := num_isSome hiw hm
          ((try simp only [WKb, ↓reduceIte, Nat.reduceEqDiff, WKt]) <;> (repeat' ((first
    | (refine G.tr ?_; first | refine S.a ?_ | refine S.t ?_ | refine Tr.brK ?_ ?_ | (refine G.call 48 ?_; refine S.c ?_ (h := decimalR_ok (by assumption))) | refine S.n fun _ => ?_ | refine S.i fun hix => ?_ | (refine S.g fun hb => ?_; (try simp only [hb])) | (refine S.s (fun hb => ?_) (fun hb => ?_) <;> ((try simp only [hb]) <;> (try (have hp := hb; simp only [WKs] at hp; (try have hq := Int.not_le.2 hp); (try have hq := Int.not_lt.2 hp))))))
    | rintro _ _ ⟨rfl, rfl⟩
    | ((fail_if_success refine G.tr ?_); exact G.prop S.p)
    | fail) <;> (try simp only [WKb, WKh, ↓reduceIte, Nat.reduceEqDiff, e5]))))
          all_goals
            apply Tr.fin hK ⟨_, hiw, hm, (by rw [hsome]), rfl⟩
            ((try clear hK) <;> (try simp only [WKe, *]) <;> repeat (first | with_reducible exact EntR.done | refine S.e ?_ | (refine S.f ?_ <;> (try simp only [WKe, ↓reduceIte, reduceCtorEq, Int.reduceEq, *])) | with_reducible apply EntR.ex | refine EntR.drop (F := F) ?_ | refine EntR.drop ?_))

end Go.Proofs.YtgkhjgpgdfbdpaaGreatDoor
