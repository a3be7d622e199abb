import Derived.Test.YtgkhjgpgdfbdpaaGreatDoorUxx
namespace Go.Proofs.YtgkhjgpgdfbdpaaGreatDoor
open Go Go.Wk
set_option maxHeartbeats 6400000
set_option maxRecDepth 100000

/-! ### a configuration's bytes -/
def zigN (n : Int) : Nat := if n < 0 then 2 * (-(n + 1)).toNat + 1 else 2 * n.toNat
def intL : Nat → Nat → List UInt8
  | 0, u => [UInt8.ofNat u]
  | k + 1, u => if 128 ≤ u then UInt8.ofNat (u % 128 + 128) :: intL k (u / 128) else [UInt8.ofNat u]
def intB (n : Int) : List UInt8 := intL 10 (zigN n)
theorem intL_len : ∀ k u, (intL k u).length ≤ k + 1
  | 0, _ => Nat.le_refl 1
  | k + 1, u => by
    unfold intL
    split
    · have := intL_len k (u / 128)
      rw [List.length_cons]
      omega
    · show 1 ≤ _
      omega
theorem intB_len (n : Int) : (intB n).length ≤ 11 := intL_len 10 _
theorem intL_end {k u : Nat} (h : ¬ (0 < k ∧ 128 ≤ u)) : intL k u = [UInt8.ofNat u] := by
  cases k with
  | zero => rfl
  | succ k =>
    unfold intL
    rw [if_neg (by omega)]
theorem intL_more {k u : Nat} (h : 128 ≤ u) : intL (k + 1) u = UInt8.ofNat (u % 128 + 128) :: intL k (u / 128) := by
  conv => lhs; unfold intL
  rw [if_pos h]
theorem zig_neg {n : Int} (h1 : -9223372036854775808 ≤ n) (hneg : n < 0) : IntKind.u64.wrap (IntKind.u64.wrap (IntKind.u64.wrap (IntKind.i64.wrap (0 - IntKind.i64.wrap (n + 1))) * 2) + 1) = ((zigN n : Nat) : Int) := by
  have e : zigN n = 2 * (-(n + 1)).toNat + 1 := if_pos hneg
  rw [wrapId (n := n + 1) (by omega) (by omega), wrapId (by omega) (by omega), wrapN64 (n := 0 - (n + 1)) (by omega) (by omega), wrapN64 (n := (0 - (n + 1)) * 2) (by omega) (by omega), wrapN64 (by omega) (by omega), e]
  omega
theorem zig_pos {n : Int} (h2 : n ≤ 9223372036854775807) (hneg : ¬ n < 0) : IntKind.u64.wrap (IntKind.u64.wrap n * 2) = ((zigN n : Nat) : Int) := by
  have e : zigN n = 2 * n.toNat := if_neg hneg
  rw [wrapN64 (n := n) (by omega) (by omega), wrapN64 (by omega) (by omega), e]
  omega
theorem u8_wrap (v : Nat) : IntKind.u8.wrap (v : Int) = ((UInt8.ofNat v).toNat : Int) := by
  rw [UInt8.toNat_ofNat']
  simp [IntKind.wrap, IntKind.signed, IntKind.bits]
theorem u8_high (v : Nat) : IntKind.u8.wrap (IntKind.u8.wrap ((v % 128 : Nat) : Int) + 128) = ((UInt8.ofNat (v % 128 + 128)).toNat : Int) := by
  rw [wrapN8 (n := ((v % 128 : Nat) : Int)) (by omega) (by omega), ← u8_wrap]
  rfl
attribute [local irreducible] BrK GenK EGenK EUnitK CallK FnK CallV GuardO GuardC CondW opX opK opKc chkR eqR seqK blkK endL WL WD W LoopW BinK Tr drewK resL PickK NotK NilK ExtrK getK Instr.storeAt Instr.loadAt Instr.fieldAt Instr.indexAt Instr.lookup Instr.mapUpdate Instr.box Instr.alloc Instr.build Instr.buildSlice Instr.makeSlice Instr.makeMap Instr.sliceAt Instr.field Instr.index Instr.makeInterface Instr.typeAssert Builtin.len_ Builtin.append_ Builtin.cap_ Builtin.min_ Builtin.max_ Builtin.copy_ Builtin.clear_ convert binOp mp blk rob sl sep ex fact old
attribute [local irreducible] NegK mxV intL
theorem int07_ok {n : Int} (hn : I64 n) : Trip Tryz.prog 61 [.int .i64 n].toArray [] fun v l' => ∃ s : SV, v = s.v ∧ l' = [sl false s.v (intB n)] := by
  intro F K hK
  simp only [List.nil_append]
  have h1 := hn.1
  have h2 := hn.2
  have hz : zigN n < 18446744073709551616 := by unfold zigN; split <;> omega
  (refine Tr.enter (rs := [.tmp 2]) mixed fn61 rfl (by simp +arith [Tryz.ntmps61]) fun u => ?_; simp only [cd61, Tryz.f61])
  by_cases hneg : n < 0
  all_goals
    (first | have hwz := zig_neg h1 hneg | have hwz := zig_pos h2 hneg)
    ((try simp only [WKb, WKh, ↓reduceIte, Nat.reduceEqDiff, hwz]) <;> (repeat' ((first
    | (refine G.tr ?_; first | refine S.a ?_ | refine S.t ?_ | refine Tr.brK ?_ ?_ | refine S.n fun _ => ?_ | refine S.i fun hix => ?_ | (refine S.g fun hb => ?_; (try simp only [hb])) | (refine S.s (fun hb => ?_) (fun hb => ?_) <;> ((try simp only [hb]) <;> (try (have hp := hb; simp only [WKs] at hp; (try have hq := Int.not_le.2 hp); (try have hq := Int.not_lt.2 hp))))))
    | ((fail_if_success refine G.tr ?_); exact G.prop S.p)
    | fail) <;> (try simp only [WKb, WKh, ↓reduceIte, Nat.reduceEqDiff, hwz]))))
    refine Tr.nilSl (α := UInt8) ?_
    refine Tr.loopE (α := Nat × Nat × List UInt8 × SV) [3, 4, 5] [2] (fun x => [.int .u64 x.2.1, x.2.2.2.v, .int .i64 x.1]) (fun x => [sl false x.2.2.2.v x.2.2.1]) (fun x => x.1 ≤ 10 ∧ x.2.2.1.length = x.1 ∧ x.2.1 < 18446744073709551616 ∧ x.2.2.1 ++ intL (10 - x.1) x.2.1 = intB n) (fun x => 10 - x.1) (0, zigN n, [], ⟨none, 0, 0⟩) (by (repeat (first | exact TakeL.nil | (apply TakeL.cons; focus ((first | exact TakeA.dupS | exact TakeA.dupF | ((repeat (first | with_reducible exact TakeA.here | exact TakeA.fam (by omega) (by omega) | with_reducible apply TakeA.next)); done) | ((repeat (first | exact TakeA.here | apply TakeA.next)); done) | exact TakeA.famNil | exact TakeA.nilS))) | fail)); done) rfl ⟨Nat.zero_le _, rfl, hz, rfl⟩ fun x u hx => ?_
    obtain ⟨k, v, out, s⟩ := x
    simp only at hx ⊢
    obtain ⟨hk, hol, hv, hI⟩ := hx
    have hw := wrapSucc (k := k) (by omega)
    by_cases hgo : k < 10 ∧ 128 ≤ v
    · obtain ⟨hk1, hgo⟩ := hgo
      have hqu : IntKind.u64.wrap ((v : Int).tdiv 128) = ((v / 128 : Nat) : Int) := by
        rw [show (v : Int).tdiv 128 = ((v / 128 : Nat) : Int) from rfl]
        exact wrapN64 (by omega) (by omega)
      have hm : (v : Int).tmod 128 = ((v % 128 : Nat) : Int) := rfl
      have h8 := u8_high v
      obtain ⟨f, hf⟩ : ∃ f, 10 - k = f + 1 := ⟨9 - k, by omega⟩
      have hnx : out ++ [UInt8.ofNat (v % 128 + 128)] ++ intL (10 - (k + 1)) (v / 128) = intB n := by
        rw [hf, intL_more hgo] at hI
        rw [← hI]
        have : 10 - (k + 1) = f := by omega
        rw [this]
        simp
      have hlx : (out ++ [UInt8.ofNat (v % 128 + 128)]).length = k + 1 := by rw [List.length_append, hol]; rfl
      have hvx : v / 128 < 18446744073709551616 := by omega
      clear hI
      ((try simp only [WKb, ↓reduceIte, Nat.reduceEqDiff]) <;> (repeat' ((first
    | (refine G.tr ?_; first | refine S.a ?_ | refine S.t ?_ | refine Tr.brK ?_ ?_ | refine S.n fun _ => ?_ | refine S.i fun hix => ?_ | (refine S.g fun hb => ?_; (try simp only [hb])) | (refine S.s (fun hb => ?_) (fun hb => ?_) <;> ((try simp only [hb]) <;> (try (have hp := hb; simp only [WKs] at hp; (try have hq := Int.not_le.2 hp); (try have hq := Int.not_lt.2 hp))))))
    | ((fail_if_success refine G.tr ?_); exact G.prop S.p)
    | fail) <;> (try simp only [WKb, WKh, ↓reduceIte, Nat.reduceEqDiff, hw, hqu, hm, h8]))))
      all_goals
        (apply Tr.againE ((k + 1, v / 128, out ++ [UInt8.ofNat (v % 128 + 128)], _)); (focus (simp only [WKb, ↓reduceIte, Nat.reduceEqDiff])); (focus ((try simp only [WKb, ↓reduceIte, Nat.reduceEqDiff]); (all_goals ((repeat (refine cons_eq (by first | rfl | (simp [*]; done)) ?_)); rfl)); done)); (focus (first | omega | assumption | (simp only []; omega) | (refine ⟨by omega, by assumption⟩) | (simp only []; refine ⟨by omega, by assumption⟩) | ((try simp only []); (repeat' (first | omega | assumption | apply hnx | apply hlx | apply hvx | refine And.intro ?_ ?_)); done))); (focus (first | omega | (simp only []; omega))); (focus (((try clear hK) <;> (try simp only [WKe, *]) <;> repeat (first | with_reducible exact EntR.done | refine S.e ?_ | (refine S.f ?_ <;> (try simp only [WKe, ↓reduceIte, reduceCtorEq, Int.reduceEq, *])) | with_reducible apply EntR.ex | refine EntR.drop (F := F) ?_ | refine EntR.drop ?_)))))
    · have hend := intL_end (k := 10 - k) (u := v) (by omega)
      have h8 := u8_wrap v
      have hfin : out ++ [UInt8.ofNat v] = intB n := by rw [← hI, hend]
      clear hI hend
      by_cases hk1 : k < 10
      · have hgo' : ¬ (128 : Int) ≤ v := by omega
        ((try simp only [WKb, ↓reduceIte, Nat.reduceEqDiff]) <;> (repeat' ((first
    | (refine G.tr ?_; first | refine S.a ?_ | refine S.t ?_ | refine Tr.brK ?_ ?_ | refine S.n fun _ => ?_ | refine S.i fun hix => ?_ | (refine S.g fun hb => ?_; (try simp only [hb])) | (refine S.s (fun hb => ?_) (fun hb => ?_) <;> ((try simp only [hb]) <;> (try (have hp := hb; simp only [WKs] at hp; (try have hq := Int.not_le.2 hp); (try have hq := Int.not_lt.2 hp))))))
    | ((fail_if_success refine G.tr ?_); exact G.prop S.p)
    | fail) <;> (try simp only [WKb, WKh, ↓reduceIte, Nat.reduceEqDiff, h8]))))
        all_goals
          refine Tr.fin hK ⟨_, rfl, rfl⟩ ?_
          rw [← hfin]
          ((try clear hK) <;> (try simp only [WKe, *]) <;> repeat (first | with_reducible exact EntR.done | refine S.e ?_ | (refine S.f ?_ <;> (try simp only [WKe, ↓reduceIte, reduceCtorEq, Int.reduceEq, *])) | with_reducible apply EntR.ex | refine EntR.drop (F := F) ?_ | refine EntR.drop ?_))
      · ((try simp only [WKb, ↓reduceIte, Nat.reduceEqDiff]) <;> (repeat' ((first
    | (refine G.tr ?_; first | refine S.a ?_ | refine S.t ?_ | refine Tr.brK ?_ ?_ | refine S.n fun _ => ?_ | refine S.i fun hix => ?_ | (refine S.g fun hb => ?_; (try simp only [hb])) | (refine S.s (fun hb => ?_) (fun hb => ?_) <;> ((try simp only [hb]) <;> (try (have hp := hb; simp only [WKs] at hp; (try have hq := Int.not_le.2 hp); (try have hq := Int.not_lt.2 hp))))))
    | ((fail_if_success refine G.tr ?_); exact G.prop S.p)
    | fail) <;> (try simp only [WKb, WKh, ↓reduceIte, Nat.reduceEqDiff, h8]))))
        all_goals
          refine Tr.fin hK ⟨_, rfl, rfl⟩ ?_
          rw [← hfin]
          ((try clear hK) <;> (try simp only [WKe, *]) <;> repeat (first | with_reducible exact EntR.done | refine S.e ?_ | (refine S.f ?_ <;> (try simp only [WKe, ↓reduceIte, reduceCtorEq, Int.reduceEq, *])) | with_reducible apply EntR.ex | refine EntR.drop (F := F) ?_ | refine EntR.drop ?_))

def bitB (b : Bool) : List UInt8 := if b then [1] else [0]
theorem bool07_ok {b : Bool} : Trip Tryz.prog 94 [.bool b].toArray [] fun v l' => ∃ s : SV, v = s.v ∧ l' = [sl false s.v (bitB b)] := by
  intro F K hK
  simp only [List.nil_append]
  have e1 : (1 : Int) = ((1 : UInt8).toNat : Int) := rfl
  have e0 : (0 : Int) = ((0 : UInt8).toNat : Int) := rfl
  (refine Tr.enter (rs := [.tmp 2]) mixed fn94 rfl (by simp +arith [Tryz.ntmps94]) fun u => ?_; simp only [cd94, Tryz.f94])
  cases b with
  | true =>
    ((try simp only [WKb, ↓reduceIte, Nat.reduceEqDiff]) <;> (repeat' ((first
    | (refine G.tr ?_; first | (refine G.bs ?_; refine Tr.build1 (1 : UInt8) rfl rfl (by decide) fun _ => ?_) | refine S.a ?_ | refine S.t ?_ | refine Tr.brK ?_ ?_ | refine S.n fun _ => ?_ | refine S.i fun hix => ?_ | (refine S.g fun hb => ?_; (try simp only [hb])) | (refine S.s (fun hb => ?_) (fun hb => ?_) <;> ((try simp only [hb]) <;> (try (have hp := hb; simp only [WKs] at hp; (try have hq := Int.not_le.2 hp); (try have hq := Int.not_lt.2 hp))))))
    | ((fail_if_success refine G.tr ?_); exact G.prop S.p)
    | fail) <;> (try simp only [WKb, ↓reduceIte]))))
    all_goals
      refine Tr.fin hK ⟨_, rfl, rfl⟩ ?_
      show EntR [] _ (sl false _ [(1 : UInt8)] :: F)
      ((try clear hK) <;> (try simp only [WKe, ↓reduceIte, reduceCtorEq, Int.reduceEq, *]) <;> repeat (first | with_reducible exact EntR.done | refine S.e ?_ | (refine S.f ?_ <;> (try simp only [WKe, ↓reduceIte, reduceCtorEq, Int.reduceEq, *])) | with_reducible apply EntR.ex | refine EntR.drop (F := F) ?_ | refine EntR.drop ?_))
  | false =>
    ((try simp only [WKb, ↓reduceIte, Nat.reduceEqDiff]) <;> (repeat' ((first
    | (refine G.tr ?_; first | (refine G.bs ?_; refine Tr.build1 (0 : UInt8) rfl rfl (by decide) fun _ => ?_) | refine S.a ?_ | refine S.t ?_ | refine Tr.brK ?_ ?_ | refine S.n fun _ => ?_ | refine S.i fun hix => ?_ | (refine S.g fun hb => ?_; (try simp only [hb])) | (refine S.s (fun hb => ?_) (fun hb => ?_) <;> ((try simp only [hb]) <;> (try (have hp := hb; simp only [WKs] at hp; (try have hq := Int.not_le.2 hp); (try have hq := Int.not_lt.2 hp))))))
    | ((fail_if_success refine G.tr ?_); exact G.prop S.p)
    | fail) <;> (try simp only [WKb, ↓reduceIte]))))
    all_goals
      refine Tr.fin hK ⟨_, rfl, rfl⟩ ?_
      show EntR [] _ (sl false _ [(0 : UInt8)] :: F)
      ((try clear hK) <;> (try simp only [WKe, ↓reduceIte, reduceCtorEq, Int.reduceEq, *]) <;> repeat (first | with_reducible exact EntR.done | refine S.e ?_ | (refine S.f ?_ <;> (try simp only [WKe, ↓reduceIte, reduceCtorEq, Int.reduceEq, *])) | with_reducible apply EntR.ex | refine EntR.drop (F := F) ?_ | refine EntR.drop ?_))

/-- Numbers, one behind the other. -/
def intsB (l : List Int) : List UInt8 := l.flatMap intB
theorem intsB_take {l : List Int} {k : Nat} (h : k < l.length) : intsB (l.take (k + 1)) = intsB (l.take k) ++ intB (ix l (k : Int)) := by
  have e : ix l (k : Int) = l[k] := by simp [ix, h]
  rw [List.take_succ_eq_append_getElem h, e]
  simp only [intsB, List.flatMap_append, List.flatMap_singleton]
theorem intsB_len (l : List Int) : (intsB l).length ≤ l.length * 11 := flat_le fun n _ => intB_len n
theorem ints08_ok {ro : Bool} {v : Value} {l : List Int} (hl : ∀ n ∈ l, I64 n) (hn : l.length ≤ 100000) : Trip Tryz.prog 63 [v].toArray [sl ro v l] fun u l' => ∃ s : SV, u = s.v ∧ l' = [sl false s.v (intsB l), sl ro v l] := by
  intro F K hK
  simp only [List.cons_append, List.nil_append]
  (refine Tr.enter (rs := [.tmp 2]) mixed fn63 rfl (by simp +arith [Tryz.ntmps63]) fun u => ?_; simp only [cd63, Tryz.f63])
  ((try simp only [WKb]) <;> (repeat' ((first
    | (refine G.tr ?_; first | refine S.a ?_ | refine S.t ?_ | refine Tr.brK ?_ ?_ | (refine G.call 61 ?_; refine S.c ?_ (h := int07_ok (by assumption))) | refine S.n fun _ => ?_ | refine S.i fun hix => ?_ | (refine S.g fun hb => ?_; (try simp only [hb])) | (refine S.s (fun hb => ?_) (fun hb => ?_) <;> ((try simp only [hb]) <;> (try (have hp := hb; simp only [WKs] at hp; (try have hq := Int.not_le.2 hp); (try have hq := Int.not_lt.2 hp))))))
    | rintro _ _ ⟨_, rfl, rfl⟩
    | ((fail_if_success refine G.tr ?_); exact G.prop S.p)
    | fail) <;> (try simp only [WKb, WKh, ↓reduceIte, Nat.reduceEqDiff, Nat.reduceAdd, Nat.reduceSub, Int.reduceEq, Int.reduceLT, Int.reduceLE, WKt, pl63]))))
  refine Tr.nilSl (α := UInt8) ?_
  refine Tr.loopE (α := Nat × SV) [3, 4] [0, 2] (fun x => [x.2.v, .int .i64 x.1]) (fun x => [sl false x.2.v (intsB (l.take x.1)), sl ro v l]) (fun x => x.1 ≤ l.length) (fun x => l.length - x.1) (0, ⟨none, 0, 0⟩) (by (repeat (first | exact TakeL.nil | (apply TakeL.cons; focus ((first | exact TakeA.dupS | exact TakeA.dupF | ((repeat (first | with_reducible exact TakeA.here | exact TakeA.fam (by omega) (by omega) | with_reducible apply TakeA.next)); done) | ((repeat (first | exact TakeA.here | apply TakeA.next)); done) | exact TakeA.famNil | exact TakeA.nilS))) | fail)); done) rfl (Nat.zero_le _) fun x u hk => ?_
  obtain ⟨k, s⟩ := x
  simp only at hk ⊢
  have hln := intsB_len (l.take k)
  have hlt : (l.take k).length ≤ k := by rw [List.length_take]; omega
  by_cases hin : k < l.length
  · have hw := wrapSucc (k := k) (by omega)
    have hnk := ix_I64 hl hin
    have hlb := intB_len (ix l (k : Int))
    have hst := (intsB_take hin).symm
    ((try simp only [WKb, ↓reduceIte, Nat.reduceEqDiff]) <;> (repeat' ((first
    | (refine G.tr ?_; first | refine S.a ?_ | refine S.t ?_ | refine Tr.brK ?_ ?_ | (refine G.call 61 ?_; refine S.c ?_ (h := int07_ok (by assumption))) | refine S.n fun _ => ?_ | refine S.i fun hix => ?_ | (refine S.g fun hb => ?_; (try simp only [hb])) | (refine S.s (fun hb => ?_) (fun hb => ?_) <;> ((try simp only [hb]) <;> (try (have hp := hb; simp only [WKs] at hp; (try have hq := Int.not_le.2 hp); (try have hq := Int.not_lt.2 hp))))))
    | rintro _ _ ⟨_, rfl, rfl⟩
    | ((fail_if_success refine G.tr ?_); exact G.prop S.p)
    | fail) <;> (try simp only [WKb, ↓reduceIte, Nat.reduceEqDiff, hw]))))
    all_goals
      clear hln hlt hlb
      (apply Tr.againE ((k + 1, _)); (focus (simp only [WKb, ↓reduceIte, Nat.reduceEqDiff])); (focus ((try simp only [WKb, ↓reduceIte, Nat.reduceEqDiff]); (all_goals ((repeat (refine cons_eq (by first | rfl | ((try clear hK) <;> first | (simp [*, hst]; done) | (simp [*, hst]; omega) | (simp [*, hst] <;> (try split) <;> simp_all <;> omega))) ?_)); rfl)); done)); (focus (first | omega | assumption | (simp only []; omega) | (refine ⟨by omega, by assumption⟩) | (simp only []; refine ⟨by omega, by assumption⟩) | ((try simp only []); (repeat' (first | omega | assumption | refine And.intro ?_ ?_)); done))); (focus (first | omega | (simp only []; omega))); (focus (((try clear hK) <;> (try simp only [WKe, *]) <;> repeat (first | with_reducible exact EntR.done | refine S.e ?_ | (refine S.f ?_ <;> (try simp only [WKe, hst, ↓reduceIte, reduceCtorEq, Int.reduceEq, *])) | with_reducible apply EntR.ex | refine EntR.drop (F := F) ?_ | refine EntR.drop ?_)))))
  · have hke : k = l.length := by omega
    subst hke
    have htl : l.take l.length = l := List.take_length
    ((try simp only [WKb, ↓reduceIte, Nat.reduceEqDiff]) <;> (repeat' ((first
    | (refine G.tr ?_; first | refine S.a ?_ | refine S.t ?_ | refine Tr.brK ?_ ?_ | (refine G.call 61 ?_; refine S.c ?_ (h := int07_ok (by assumption))) | refine S.n fun _ => ?_ | refine S.i fun hix => ?_ | (refine S.g fun hb => ?_; (try simp only [hb])) | (refine S.s (fun hb => ?_) (fun hb => ?_) <;> ((try simp only [hb]) <;> (try (have hp := hb; simp only [WKs] at hp; (try have hq := Int.not_le.2 hp); (try have hq := Int.not_lt.2 hp))))))
    | rintro _ _ ⟨_, rfl, rfl⟩
    | ((fail_if_success refine G.tr ?_); exact G.prop S.p)
    | fail) <;> (try simp only [WKb, ↓reduceIte, Nat.reduceEqDiff]))))
    all_goals
      refine Tr.fin hK ⟨_, rfl, rfl⟩ ?_
      rw [htl]
      ((try clear hK) <;> (try simp only [WKe, *]) <;> repeat (first | with_reducible exact EntR.done | refine S.e ?_ | (refine S.f ?_ <;> (try simp only [WKe, ↓reduceIte, reduceCtorEq, Int.reduceEq, *])) | with_reducible apply EntR.ex | refine EntR.drop (F := F) ?_ | refine EntR.drop ?_))

/-- A list's bytes. -/
def listB (l : List Int) : List UInt8 := intB (l.length : Int) ++ intsB l
theorem ints07_ok {ro : Bool} {v : Value} {l : List Int} (hl : ∀ n ∈ l, I64 n) (hn : l.length ≤ 100000) : Trip Tryz.prog 64 [v].toArray [sl ro v l] fun u l' => ∃ s : SV, u = s.v ∧ l' = [sl false s.v (listB l), sl ro v l] := by
  intro F K hK
  simp only [List.cons_append, List.nil_append]
  have h0 : I64 (l.length : Int) := by unfold I64; omega
  have hl0 := intB_len (l.length : Int)
  have hz : intB (l.length : Int) ++ intsB (l.take 0) = intB (l.length : Int) := by simp [intsB]
  (refine Tr.enter (rs := [.tmp 2]) mixed fn64 rfl (by simp +arith [Tryz.ntmps64]) fun u => ?_; simp only [cd64, Tryz.f64])
  ((try simp only [WKb, ↓reduceIte, Nat.reduceEqDiff]) <;> (repeat' ((first
    | (refine G.tr ?_; first | refine S.a ?_ | refine S.t ?_ | refine Tr.brK ?_ ?_ | (refine G.call 61 ?_; refine S.c ?_ (h := int07_ok (by assumption))) | refine S.n fun _ => ?_ | refine S.i fun hix => ?_ | (refine S.g fun hb => ?_; (try simp only [hb])) | (refine S.s (fun hb => ?_) (fun hb => ?_) <;> ((try simp only [hb]) <;> (try (have hp := hb; simp only [WKs] at hp; (try have hq := Int.not_le.2 hp); (try have hq := Int.not_lt.2 hp))))))
    | rintro _ _ ⟨_, rfl, rfl⟩
    | ((fail_if_success refine G.tr ?_); exact G.prop S.p)
    | fail) <;> (try simp only [WKb, ↓reduceIte]))))
  rename_i sv
  refine Tr.loopE (α := Nat × SV) [3, 4] [0, 2] (fun x => [x.2.v, .int .i64 x.1]) (fun x => [sl false x.2.v (intB (l.length : Int) ++ intsB (l.take x.1)), sl ro v l]) (fun x => x.1 ≤ l.length) (fun x => l.length - x.1) (0, sv) (by simp only [hz]; exact (by (repeat (first | exact TakeL.nil | (apply TakeL.cons; focus ((first | exact TakeA.dupS | exact TakeA.dupF | ((repeat (first | with_reducible exact TakeA.here | exact TakeA.fam (by omega) (by omega) | with_reducible apply TakeA.next)); done) | ((repeat (first | exact TakeA.here | apply TakeA.next)); done) | exact TakeA.famNil | exact TakeA.nilS))) | fail)); done)) rfl (Nat.zero_le _) fun x u hk => ?_
  obtain ⟨k, s⟩ := x
  simp only at hk ⊢
  have hln := intsB_len (l.take k)
  have hlt : (l.take k).length ≤ k := by rw [List.length_take]; omega
  have hla : (intB (l.length : Int) ++ intsB (l.take k)).length = (intB (l.length : Int)).length + (intsB (l.take k)).length := List.length_append
  by_cases hin : k < l.length
  · have hw := wrapSucc (k := k) (by omega)
    have hnk := ix_I64 hl hin
    have hlb := intB_len (ix l (k : Int))
    have hst : intB (l.length : Int) ++ intsB (l.take k) ++ intB (ix l (k : Int)) = intB (l.length : Int) ++ intsB (l.take (k + 1)) := by rw [intsB_take hin, List.append_assoc]
    ((try simp only [WKb, ↓reduceIte, Nat.reduceEqDiff]) <;> (repeat' ((first
    | (refine G.tr ?_; first | refine S.a ?_ | refine S.t ?_ | refine Tr.brK ?_ ?_ | (refine G.call 61 ?_; refine S.c ?_ (h := int07_ok (by assumption))) | refine S.n fun _ => ?_ | refine S.i fun hix => ?_ | (refine S.g fun hb => ?_; (try simp only [hb])) | (refine S.s (fun hb => ?_) (fun hb => ?_) <;> ((try simp only [hb]) <;> (try (have hp := hb; simp only [WKs] at hp; (try have hq := Int.not_le.2 hp); (try have hq := Int.not_lt.2 hp))))))
    | rintro _ _ ⟨_, rfl, rfl⟩
    | ((fail_if_success refine G.tr ?_); exact G.prop S.p)
    | fail) <;> (try simp only [WKb, ↓reduceIte, Nat.reduceEqDiff, hw]))))
    all_goals
      clear hln hlt hlb hla hz
      (apply Tr.againE ((k + 1, _)); (focus (simp only [WKb, ↓reduceIte, Nat.reduceEqDiff])); (focus ((try simp only [WKb, ↓reduceIte, Nat.reduceEqDiff]); (all_goals ((repeat (refine cons_eq (by first | rfl | ((try clear hK) <;> first | (simp [*, hst]; done) | (simp [*, hst]; omega) | (simp [*, hst] <;> (try split) <;> simp_all <;> omega))) ?_)); rfl)); done)); (focus (first | omega | assumption | (simp only []; omega) | (refine ⟨by omega, by assumption⟩) | (simp only []; refine ⟨by omega, by assumption⟩) | ((try simp only []); (repeat' (first | omega | assumption | refine And.intro ?_ ?_)); done))); (focus (first | omega | (simp only []; omega))); (focus (((try clear hK) <;> (try simp only [WKe, *]) <;> repeat (first | with_reducible exact EntR.done | refine S.e ?_ | (refine S.f ?_ <;> (try simp only [WKe, hst, ↓reduceIte, reduceCtorEq, Int.reduceEq, *])) | with_reducible apply EntR.ex | refine EntR.drop (F := F) ?_ | refine EntR.drop ?_)))))
  · have hke : k = l.length := by omega
    subst hke
    have htl : l.take l.length = l := List.take_length
    ((try simp only [WKb, ↓reduceIte, Nat.reduceEqDiff]) <;> (repeat' ((first
    | (refine G.tr ?_; first | refine S.a ?_ | refine S.t ?_ | refine Tr.brK ?_ ?_ | (refine G.call 61 ?_; refine S.c ?_ (h := int07_ok (by assumption))) | refine S.n fun _ => ?_ | refine S.i fun hix => ?_ | (refine S.g fun hb => ?_; (try simp only [hb])) | (refine S.s (fun hb => ?_) (fun hb => ?_) <;> ((try simp only [hb]) <;> (try (have hp := hb; simp only [WKs] at hp; (try have hq := Int.not_le.2 hp); (try have hq := Int.not_lt.2 hp))))))
    | rintro _ _ ⟨_, rfl, rfl⟩
    | ((fail_if_success refine G.tr ?_); exact G.prop S.p)
    | fail) <;> (try simp only [WKb, ↓reduceIte, Nat.reduceEqDiff]))))
    all_goals
      refine Tr.fin hK ⟨_, rfl, rfl⟩ ?_
      unfold listB
      rw [htl]
      ((try clear hK) <;> (try simp only [WKe, *]) <;> repeat (first | with_reducible exact EntR.done | refine S.e ?_ | (refine S.f ?_ <;> (try simp only [WKe, ↓reduceIte, reduceCtorEq, Int.reduceEq, *])) | with_reducible apply EntR.ex | refine EntR.drop (F := F) ?_ | refine EntR.drop ?_))

end Go.Proofs.YtgkhjgpgdfbdpaaGreatDoor

namespace Go.Proofs.YtgkhjgpgdfbdpaaGreatDoor
open Go Go.Wk
set_option maxHeartbeats 6400000
set_option maxRecDepth 100000

/-! ### a partition's bytes -/
theorem bitB_len (b : Bool) : (bitB b).length = 1 := by cases b <;> rfl
def regB (x : RegC) : List UInt8 := intsB [x.base, x.size] ++ bitB x.w
theorem regB_len (x : RegC) : (regB x).length ≤ 44 := by
  have h := intsB_len [x.base, x.size]
  simp only [List.length_cons, List.length_nil] at h
  unfold regB
  (try simp only [List.length_append, bitB_len])
  omega
def procB (x : ProcC) : List UInt8 := intsB [x.prio, x.period, x.cost]
theorem procB_len (x : ProcC) : (procB x).length ≤ 44 := by
  have h := intsB_len [x.prio, x.period, x.cost]
  simp only [List.length_cons, List.length_nil] at h
  unfold procB
  (try simp only [List.length_append, bitB_len])
  omega
def portB (x : PortC) : List UInt8 := bitB x.q ++ bitB x.i ++ intsB [x.size, x.depth]
theorem portB_len (x : PortC) : (portB x).length ≤ 44 := by
  have h := intsB_len [x.size, x.depth]
  simp only [List.length_cons, List.length_nil] at h
  unfold portB
  (try simp only [List.length_append, bitB_len])
  omega
def semB (x : SemC) : List UInt8 := intsB [x.first, x.most]
theorem semB_len (x : SemC) : (semB x).length ≤ 44 := by
  have h := intsB_len [x.first, x.most]
  simp only [List.length_cons, List.length_nil] at h
  unfold semB
  (try simp only [List.length_append, bitB_len])
  omega
def poolB (x : PoolC) : List UInt8 := intsB [x.size, x.depth]
theorem poolB_len (x : PoolC) : (poolB x).length ≤ 44 := by
  have h := intsB_len [x.size, x.depth]
  simp only [List.length_cons, List.length_nil] at h
  unfold poolB
  (try simp only [List.length_append, bitB_len])
  omega
def partB8 (p : PartV) : List UInt8 := intB (p.regions.length : Int) ++ p.regions.flatMap regB ++ intB (p.procs.length : Int) ++ p.procs.flatMap procB ++ intB (p.ports.length : Int) ++ p.ports.flatMap portB ++ intB (p.sems.length : Int) ++ p.sems.flatMap semB
  ++ intsB [p.flags, (p.pools.length : Int)] ++ p.pools.flatMap poolB ++ listB p.slates ++ intsB [p.cap, p.budget, p.ladder] ++ listB p.acts
/-- Of a row of things' bytes so many, behind others. -/
def rowB {α : Type} (A : List UInt8) (f : α → List UInt8) (xs : List α) (k : Nat) : List UInt8 := A ++ (xs.take k).flatMap f
theorem rowB_next {α : Type} [Inhabited α] (A : List UInt8) (f : α → List UInt8) {xs : List α} {k : Nat} (h : k < xs.length) : rowB A f xs (k + 1) = rowB A f xs k ++ f (ix xs (k : Int)) := by
  have e : ix xs (k : Int) = xs[k] := by simp [ix, h]
  unfold rowB
  rw [List.take_succ_eq_append_getElem h, e, List.flatMap_append, ← List.append_assoc, List.flatMap_singleton]
theorem rowB_zero {α : Type} (A : List UInt8) (f : α → List UInt8) {xs : List α} : rowB A f xs 0 = A := by simp [rowB]
theorem rowB_full {α : Type} (A : List UInt8) (f : α → List UInt8) {xs : List α} : rowB A f xs xs.length = A ++ xs.flatMap f := by unfold rowB; rw [List.take_length]
theorem rowB_len {α : Type} (A : List UInt8) (f : α → List UInt8) {xs : List α} {n : Nat} (h : ∀ x ∈ xs, (f x).length ≤ n) (k : Nat) : (rowB A f xs k).length ≤ A.length + k * n := by
  unfold rowB
  rw [List.length_append]
  have h1 := flat_le (f := f) (n := n) (l := xs.take k) fun x hx => h x (List.mem_of_mem_take hx)
  have h2 : (xs.take k).length * n ≤ k * n := Nat.mul_le_mul_right n (by rw [List.length_take]; omega)
  omega
theorem listB_len (l : List Int) : (listB l).length ≤ 11 + l.length * 11 := by
  unfold listB
  rw [List.length_append]
  have h1 := intB_len (l.length : Int)
  have h2 := intsB_len l
  omega
theorem nat_I64 {n : Nat} (h : n ≤ 1000000) : I64 (n : Int) := by unfold I64; omega
attribute [local irreducible] BrK GenK EGenK EUnitK CallK FnK CallV GuardO GuardC CondW opX opK opKc chkR eqR seqK blkK endL WL WD W LoopW BinK Tr drewK resL PickK NotK NilK ExtrK getK Instr.storeAt Instr.loadAt Instr.fieldAt Instr.indexAt Instr.lookup Instr.mapUpdate Instr.box Instr.alloc Instr.build Instr.buildSlice Instr.makeSlice Instr.makeMap Instr.sliceAt Instr.field Instr.index Instr.makeInterface Instr.typeAssert Builtin.len_ Builtin.append_ Builtin.cap_ Builtin.min_ Builtin.max_ Builtin.copy_ Builtin.clear_ convert binOp mp blk rob sl sep ex fact old
attribute [local irreducible] NegK mxV rowB intB intsB bitB listB
theorem part08_ok {u0 : Value} {p : PartD} [hd : DeA u0 p] (ho : okPv p.v) (hs : shortP p.v) : Trip Tryz.prog 62 [u0].toArray [fzl [p]] fun v l' => ∃ s : SV, v = .tuple #[s.v, .bool true] ∧ l' = [sl false s.v (partB8 p.v)] := by
  obtain rfl := hd.h
  intro F K hK
  simp only [List.cons_append, List.nil_append]
  obtain ⟨o1, o2, o3, o4, o5, o6, o7, o8, o9, o10, o11⟩ := ho
  obtain ⟨s1, s2, s3, s4, s5, s6, s7⟩ := hs
  have s1 : p.regions.d.length ≤ 64 := s1
  have s2 : p.procs.d.length ≤ 64 := s2
  have s3 : p.ports.d.length ≤ 64 := s3
  have s4 : p.sems.d.length ≤ 64 := s4
  have s5 : p.pools.d.length ≤ 64 := s5
  have s6 : p.slates.d.length ≤ 64 := s6
  have s7 : p.acts.d.length ≤ 64 := s7
  have n1 : I64 (p.regions.d.length : Int) := nat_I64 (by omega)
  have n2 : I64 (p.procs.d.length : Int) := nat_I64 (by omega)
  have n3 : I64 (p.ports.d.length : Int) := nat_I64 (by omega)
  have n4 : I64 (p.sems.d.length : Int) := nat_I64 (by omega)
  have n5 : ∀ n ∈ [p.flags, (p.pools.d.length : Int)], I64 n := I64s o5 (I64s1 (nat_I64 (by omega)))
  have n8 : ∀ n ∈ [p.cap, p.budget, p.ladder], I64 n := I64s o8 (I64s o9 (I64s1 o10))
  have n7 : ∀ n ∈ p.slates.d, I64 n := o7
  have n11 : ∀ n ∈ p.acts.d, I64 n := o11
  have m1 := intB_len (p.regions.d.length : Int)
  have m2 := intB_len (p.procs.d.length : Int)
  have m3 := intB_len (p.ports.d.length : Int)
  have m4 := intB_len (p.sems.d.length : Int)
  have m5 := intsB_len [p.flags, (p.pools.d.length : Int)]
  have m8 := intsB_len [p.cap, p.budget, p.ladder]
  simp only [List.length_cons, List.length_nil] at m5 m8
  have m7 := listB_len p.slates.d
  have m11 := listB_len p.acts.d
  obtain ⟨A0, eA0⟩ : ∃ A, A = intB (p.regions.d.length : Int) := ⟨_, rfl⟩
  obtain ⟨A1, eA1⟩ : ∃ A, A = rowB A0 regB p.regions.d p.regions.d.length ++ intB (p.procs.d.length : Int) := ⟨_, rfl⟩
  obtain ⟨A2, eA2⟩ : ∃ A, A = rowB A1 procB p.procs.d p.procs.d.length ++ intB (p.ports.d.length : Int) := ⟨_, rfl⟩
  obtain ⟨A3, eA3⟩ : ∃ A, A = rowB A2 portB p.ports.d p.ports.d.length ++ intB (p.sems.d.length : Int) := ⟨_, rfl⟩
  obtain ⟨A4, eA4⟩ : ∃ A, A = rowB A3 semB p.sems.d p.sems.d.length ++ intsB [p.flags, (p.pools.d.length : Int)] := ⟨_, rfl⟩
  have lA0 : A0.length ≤ 11 := by rw [eA0]; exact m1
  have lA1 : A1.length ≤ 2849 := by
    have h := rowB_len A0 regB (xs := p.regions.d) (fun x _ => regB_len x) p.regions.d.length
    rw [eA1, List.length_append]
    omega
  have lA2 : A2.length ≤ 5687 := by
    have h := rowB_len A1 procB (xs := p.procs.d) (fun x _ => procB_len x) p.procs.d.length
    rw [eA2, List.length_append]
    omega
  have lA3 : A3.length ≤ 8525 := by
    have h := rowB_len A2 portB (xs := p.ports.d) (fun x _ => portB_len x) p.ports.d.length
    rw [eA3, List.length_append]
    omega
  have lA4 : A4.length ≤ 11363 := by
    have h := rowB_len A3 semB (xs := p.sems.d) (fun x _ => semB_len x) p.sems.d.length
    rw [eA4, List.length_append]
    omega
  have hfin : rowB A4 poolB p.pools.d p.pools.d.length ++ listB p.slates.d ++ intsB [p.cap, p.budget, p.ladder] ++ listB p.acts.d = partB8 p.v := by
    rw [rowB_full, eA4, rowB_full, eA3, rowB_full, eA2, rowB_full, eA1, rowB_full, eA0]
    rfl
  (refine Tr.enter (rs := [.tmp 2, .tmp 3]) mixed fn62 rfl (by simp +arith [Tryz.ntmps62]) fun u => ?_; simp only [cd62, Tryz.f62])
  ((try simp only [WKb, ↓reduceIte]) <;> (repeat' ((first
    | (refine G.tr ?_; first | refine S.a ?_ | refine S.t ?_ | refine Tr.brK ?_ ?_ | (refine G.call 61 ?_; refine S.c ?_ (h := int07_ok (by assumption))) | (refine G.call 63 ?_; refine S.c ?_ (h := ints08_ok ?_ ?_)) | (refine G.call 94 ?_; refine S.c ?_ (h := bool07_ok)) | (refine G.call 64 ?_; refine S.c ?_ (h := ints07_ok ?_ ?_)) | refine S.n fun _ => ?_ | refine S.i fun hix => ?_ | (refine S.g fun hb => ?_; (try simp only [hb])) | (refine S.s (fun hb => ?_) (fun hb => ?_) <;> ((try simp only [hb]) <;> (try (have hp := hb; simp only [WKs] at hp; (try have hq := Int.not_le.2 hp); (try have hq := Int.not_lt.2 hp))))))
    | rintro _ _ ⟨_, rfl, rfl⟩
    | ((fail_if_success refine G.tr ?_); exact G.prop S.p)
    | fail) <;> (try simp only [WKb, ↓reduceIte, Nat.reduceEqDiff]))))
  rename_i _ sv
  have hz : rowB A0 regB p.regions.d 0 = intB (p.regions.d.length : Int) := by rw [rowB_zero, eA0]
  refine Tr.loopE (α := Nat × SV) [5, 6] [1, 2, 3, 4] (fun x => [x.2.v, .int .i64 x.1]) (fun x => [sl false x.2.v (rowB A0 regB p.regions.d x.1)]) (fun x => x.1 ≤ p.regions.d.length) (fun x => p.regions.d.length - x.1) (0, sv) (by simp only [hz]; exact (by (repeat (first | exact TakeL.nil | (apply TakeL.cons; focus ((first | exact TakeA.dupS | exact TakeA.dupF | ((repeat (first | with_reducible exact TakeA.here | exact TakeA.fam (by omega) (by omega) | with_reducible apply TakeA.next)); done) | ((repeat (first | exact TakeA.here | apply TakeA.next)); done) | exact TakeA.famNil | exact TakeA.nilS))) | fail)); done)) rfl (Nat.zero_le _) fun x u hk => ?_
  obtain ⟨k, s⟩ := x
  simp only at hk ⊢
  have hln := rowB_len A0 regB (xs := p.regions.d) (fun x _ => regB_len x) k
  by_cases hin : k < p.regions.d.length
  · have hw := wrapSucc (k := k) (by omega)
    have hx := o1 (ix p.regions.d (k : Int)) (ix_memU hin)
    have hi : ∀ n ∈ [(ix p.regions.d (k : Int)).base, (ix p.regions.d (k : Int)).size], I64 n := I64s (hx.1) (I64s1 (hx.2))
    have hil := intsB_len [(ix p.regions.d (k : Int)).base, (ix p.regions.d (k : Int)).size]
    simp only [List.length_cons, List.length_nil] at hil
    have hst : rowB A0 regB p.regions.d k ++ intsB [(ix p.regions.d (k : Int)).base, (ix p.regions.d (k : Int)).size] ++ bitB (ix p.regions.d (k : Int)).w = rowB A0 regB p.regions.d (k + 1) := by rw [rowB_next A0 regB hin]; unfold regB; simp only [List.append_assoc]
    have hq1 : (rowB A0 regB p.regions.d k ++ intsB [(ix p.regions.d (k : Int)).base, (ix p.regions.d (k : Int)).size]).length ≤ A0.length + k * 44 + 22 := by simp only [List.length_append]; omega
    have hb1 := bitB_len (ix p.regions.d (k : Int)).w
    clear hx
    ((try simp only [WKb, ↓reduceIte, Nat.reduceEqDiff]) <;> (repeat' ((first
    | (refine G.tr ?_; first | refine S.a ?_ | refine S.t ?_ | refine Tr.brK ?_ ?_ | (refine G.call 61 ?_; refine S.c ?_ (h := int07_ok (by assumption))) | (refine G.call 63 ?_; refine S.c ?_ (h := ints08_ok ?_ ?_)) | (refine G.call 94 ?_; refine S.c ?_ (h := bool07_ok)) | (refine G.call 64 ?_; refine S.c ?_ (h := ints07_ok ?_ ?_)) | refine S.n fun _ => ?_ | refine S.i fun hix => ?_ | (refine S.g fun hb => ?_; (try simp only [hb])) | (refine S.s (fun hb => ?_) (fun hb => ?_) <;> ((try simp only [hb]) <;> (try (have hp := hb; simp only [WKs] at hp; (try have hq := Int.not_le.2 hp); (try have hq := Int.not_lt.2 hp))))))
    | rintro _ _ ⟨_, rfl, rfl⟩
    | ((fail_if_success refine G.tr ?_); exact G.prop S.p)
    | fail) <;> (try simp only [WKb, ↓reduceIte, Nat.reduceEqDiff, pl62, hw]))))
    all_goals
      clear eA0 eA1 eA2 eA3 eA4 lA0 lA1 lA2 lA3 lA4 hfin m1 m2 m3 m4 m5 m7 m8 m11 hln hil hq1
      (apply Tr.againE ((k + 1, _)); (focus (simp only [WKb, ↓reduceIte, Nat.reduceEqDiff])); (focus ((try simp only [WKb, ↓reduceIte, Nat.reduceEqDiff]); (all_goals ((repeat (refine cons_eq (by first | rfl | ((try clear hK) <;> first | (simp [*, hst]; done) | (simp [*, hst]; omega) | (simp [*, hst] <;> (try split) <;> simp_all <;> omega))) ?_)); rfl)); done)); (focus (first | omega | assumption | (simp only []; omega) | (refine ⟨by omega, by assumption⟩) | (simp only []; refine ⟨by omega, by assumption⟩) | ((try simp only []); (repeat' (first | omega | assumption | refine And.intro ?_ ?_)); done))); (focus (first | omega | (simp only []; omega))); (focus (((try clear hK) <;> (try simp only [WKe, *]) <;> repeat (first | with_reducible exact EntR.done | refine S.e ?_ | (refine S.f ?_ <;> (try simp only [WKe, hst, ↓reduceIte, reduceCtorEq, Int.reduceEq, *])) | with_reducible apply EntR.ex | refine EntR.drop (F := F) ?_ | refine EntR.drop ?_)))))
  · have hke : k = p.regions.d.length := by omega
    subst hke
    ((try simp only [WKb, ↓reduceIte, Nat.reduceEqDiff]) <;> (repeat' ((first
    | (refine G.tr ?_; first | refine S.a ?_ | refine S.t ?_ | refine Tr.brK ?_ ?_ | (refine G.call 61 ?_; refine S.c ?_ (h := int07_ok (by assumption))) | (refine G.call 63 ?_; refine S.c ?_ (h := ints08_ok ?_ ?_)) | (refine G.call 94 ?_; refine S.c ?_ (h := bool07_ok)) | (refine G.call 64 ?_; refine S.c ?_ (h := ints07_ok ?_ ?_)) | refine S.n fun _ => ?_ | refine S.i fun hix => ?_ | (refine S.g fun hb => ?_; (try simp only [hb])) | (refine S.s (fun hb => ?_) (fun hb => ?_) <;> ((try simp only [hb]) <;> (try (have hp := hb; simp only [WKs] at hp; (try have hq := Int.not_le.2 hp); (try have hq := Int.not_lt.2 hp))))))
    | rintro _ _ ⟨_, rfl, rfl⟩
    | ((fail_if_success refine G.tr ?_); exact G.prop S.p)
    | fail) <;> (try simp only [WKb, ↓reduceIte, Nat.reduceEqDiff]))))
    have hz : rowB A1 procB p.procs.d 0 = rowB A0 regB p.regions.d p.regions.d.length ++ intB (p.procs.d.length : Int) := by rw [rowB_zero, eA1]
    rename_i sv1
    refine Tr.loopE (α := Nat × SV) [5, 7] [1, 2, 3, 4] (fun x => [x.2.v, .int .i64 x.1]) (fun x => [sl false x.2.v (rowB A1 procB p.procs.d x.1)]) (fun x => x.1 ≤ p.procs.d.length) (fun x => p.procs.d.length - x.1) (0, sv1) (by simp only [hz]; exact (by (repeat (first | exact TakeL.nil | (apply TakeL.cons; focus ((first | exact TakeA.dupS | exact TakeA.dupF | ((repeat (first | with_reducible exact TakeA.here | exact TakeA.fam (by omega) (by omega) | with_reducible apply TakeA.next)); done) | ((repeat (first | exact TakeA.here | apply TakeA.next)); done) | exact TakeA.famNil | exact TakeA.nilS))) | fail)); done)) rfl (Nat.zero_le _) fun x u hk => ?_
    obtain ⟨k, s⟩ := x
    simp only at hk ⊢
    have hln := rowB_len A1 procB (xs := p.procs.d) (fun x _ => procB_len x) k
    by_cases hin : k < p.procs.d.length
    · have hw := wrapSucc (k := k) (by omega)
      have hx := o2 (ix p.procs.d (k : Int)) (ix_memU hin)
      have hi : ∀ n ∈ [(ix p.procs.d (k : Int)).prio, (ix p.procs.d (k : Int)).period, (ix p.procs.d (k : Int)).cost], I64 n := I64s (hx.1) (I64s (hx.2.1) (I64s1 (hx.2.2)))
      have hil := intsB_len [(ix p.procs.d (k : Int)).prio, (ix p.procs.d (k : Int)).period, (ix p.procs.d (k : Int)).cost]
      simp only [List.length_cons, List.length_nil] at hil
      have hst : rowB A1 procB p.procs.d k ++ intsB [(ix p.procs.d (k : Int)).prio, (ix p.procs.d (k : Int)).period, (ix p.procs.d (k : Int)).cost] = rowB A1 procB p.procs.d (k + 1) := by rw [rowB_next A1 procB hin]; unfold procB; simp only []
      clear hx
      ((try simp only [WKb, ↓reduceIte, Nat.reduceEqDiff]) <;> (repeat' ((first
    | (refine G.tr ?_; first | refine S.a ?_ | refine S.t ?_ | refine Tr.brK ?_ ?_ | (refine G.call 61 ?_; refine S.c ?_ (h := int07_ok (by assumption))) | (refine G.call 63 ?_; refine S.c ?_ (h := ints08_ok ?_ ?_)) | (refine G.call 94 ?_; refine S.c ?_ (h := bool07_ok)) | (refine G.call 64 ?_; refine S.c ?_ (h := ints07_ok ?_ ?_)) | refine S.n fun _ => ?_ | refine S.i fun hix => ?_ | (refine S.g fun hb => ?_; (try simp only [hb])) | (refine S.s (fun hb => ?_) (fun hb => ?_) <;> ((try simp only [hb]) <;> (try (have hp := hb; simp only [WKs] at hp; (try have hq := Int.not_le.2 hp); (try have hq := Int.not_lt.2 hp))))))
    | rintro _ _ ⟨_, rfl, rfl⟩
    | ((fail_if_success refine G.tr ?_); exact G.prop S.p)
    | fail) <;> (try simp only [WKb, ↓reduceIte, Nat.reduceEqDiff, pl62, hw]))))
      all_goals
        clear eA0 eA1 eA2 eA3 eA4 lA0 lA1 lA2 lA3 lA4 hfin m1 m2 m3 m4 m5 m7 m8 m11 hln hil
        (apply Tr.againE ((k + 1, _)); (focus (simp only [WKb, ↓reduceIte, Nat.reduceEqDiff])); (focus ((try simp only [WKb, ↓reduceIte, Nat.reduceEqDiff]); (all_goals ((repeat (refine cons_eq (by first | rfl | ((try clear hK) <;> first | (simp [*, hst]; done) | (simp [*, hst]; omega) | (simp [*, hst] <;> (try split) <;> simp_all <;> omega))) ?_)); rfl)); done)); (focus (first | omega | assumption | (simp only []; omega) | (refine ⟨by omega, by assumption⟩) | (simp only []; refine ⟨by omega, by assumption⟩) | ((try simp only []); (repeat' (first | omega | assumption | refine And.intro ?_ ?_)); done))); (focus (first | omega | (simp only []; omega))); (focus (((try clear hK) <;> (try simp only [WKe, *]) <;> repeat (first | with_reducible exact EntR.done | refine S.e ?_ | (refine S.f ?_ <;> (try simp only [WKe, hst, ↓reduceIte, reduceCtorEq, Int.reduceEq, *])) | with_reducible apply EntR.ex | refine EntR.drop (F := F) ?_ | refine EntR.drop ?_)))))
    · have hke : k = p.procs.d.length := by omega
      subst hke
      ((try simp only [WKb, ↓reduceIte, Nat.reduceEqDiff]) <;> (repeat' ((first
    | (refine G.tr ?_; first | refine S.a ?_ | refine S.t ?_ | refine Tr.brK ?_ ?_ | (refine G.call 61 ?_; refine S.c ?_ (h := int07_ok (by assumption))) | (refine G.call 63 ?_; refine S.c ?_ (h := ints08_ok ?_ ?_)) | (refine G.call 94 ?_; refine S.c ?_ (h := bool07_ok)) | (refine G.call 64 ?_; refine S.c ?_ (h := ints07_ok ?_ ?_)) | refine S.n fun _ => ?_ | refine S.i fun hix => ?_ | (refine S.g fun hb => ?_; (try simp only [hb])) | (refine S.s (fun hb => ?_) (fun hb => ?_) <;> ((try simp only [hb]) <;> (try (have hp := hb; simp only [WKs] at hp; (try have hq := Int.not_le.2 hp); (try have hq := Int.not_lt.2 hp))))))
    | rintro _ _ ⟨_, rfl, rfl⟩
    | ((fail_if_success refine G.tr ?_); exact G.prop S.p)
    | fail) <;> (try simp only [WKb, ↓reduceIte, Nat.reduceEqDiff]))))
      have hz : rowB A2 portB p.ports.d 0 = rowB A1 procB p.procs.d p.procs.d.length ++ intB (p.ports.d.length : Int) := by rw [rowB_zero, eA2]
      rename_i sv2
      refine Tr.loopE (α := Nat × SV) [5, 8] [1, 2, 3, 4] (fun x => [x.2.v, .int .i64 x.1]) (fun x => [sl false x.2.v (rowB A2 portB p.ports.d x.1)]) (fun x => x.1 ≤ p.ports.d.length) (fun x => p.ports.d.length - x.1) (0, sv2) (by simp only [hz]; exact (by (repeat (first | exact TakeL.nil | (apply TakeL.cons; focus ((first | exact TakeA.dupS | exact TakeA.dupF | ((repeat (first | with_reducible exact TakeA.here | exact TakeA.fam (by omega) (by omega) | with_reducible apply TakeA.next)); done) | ((repeat (first | exact TakeA.here | apply TakeA.next)); done) | exact TakeA.famNil | exact TakeA.nilS))) | fail)); done)) rfl (Nat.zero_le _) fun x u hk => ?_
      obtain ⟨k, s⟩ := x
      simp only at hk ⊢
      have hln := rowB_len A2 portB (xs := p.ports.d) (fun x _ => portB_len x) k
      by_cases hin : k < p.ports.d.length
      · have hw := wrapSucc (k := k) (by omega)
        have hx := o3 (ix p.ports.d (k : Int)) (ix_memU hin)
        have hi : ∀ n ∈ [(ix p.ports.d (k : Int)).size, (ix p.ports.d (k : Int)).depth], I64 n := I64s (hx.1) (I64s1 (hx.2))
        have hil := intsB_len [(ix p.ports.d (k : Int)).size, (ix p.ports.d (k : Int)).depth]
        simp only [List.length_cons, List.length_nil] at hil
        have hst : rowB A2 portB p.ports.d k ++ bitB (ix p.ports.d (k : Int)).q ++ bitB (ix p.ports.d (k : Int)).i ++ intsB [(ix p.ports.d (k : Int)).size, (ix p.ports.d (k : Int)).depth] = rowB A2 portB p.ports.d (k + 1) := by rw [rowB_next A2 portB hin]; unfold portB; simp only [List.append_assoc]
        have hq1 : (rowB A2 portB p.ports.d k ++ bitB (ix p.ports.d (k : Int)).q).length ≤ A2.length + k * 44 + 22 := by simp only [List.length_append, bitB_len]; omega
        have hq2 : (rowB A2 portB p.ports.d k ++ bitB (ix p.ports.d (k : Int)).q ++ bitB (ix p.ports.d (k : Int)).i).length ≤ A2.length + k * 44 + 44 := by simp only [List.length_append, bitB_len]; omega
        have hb0 := bitB_len (ix p.ports.d (k : Int)).q
        have hb1 := bitB_len (ix p.ports.d (k : Int)).i
        clear hx
        ((try simp only [WKb, ↓reduceIte, Nat.reduceEqDiff]) <;> (repeat' ((first
    | (refine G.tr ?_; first | refine S.a ?_ | refine S.t ?_ | refine Tr.brK ?_ ?_ | (refine G.call 61 ?_; refine S.c ?_ (h := int07_ok (by assumption))) | (refine G.call 63 ?_; refine S.c ?_ (h := ints08_ok ?_ ?_)) | (refine G.call 94 ?_; refine S.c ?_ (h := bool07_ok)) | (refine G.call 64 ?_; refine S.c ?_ (h := ints07_ok ?_ ?_)) | refine S.n fun _ => ?_ | refine S.i fun hix => ?_ | (refine S.g fun hb => ?_; (try simp only [hb])) | (refine S.s (fun hb => ?_) (fun hb => ?_) <;> ((try simp only [hb]) <;> (try (have hp := hb; simp only [WKs] at hp; (try have hq := Int.not_le.2 hp); (try have hq := Int.not_lt.2 hp))))))
    | rintro _ _ ⟨_, rfl, rfl⟩
    | ((fail_if_success refine G.tr ?_); exact G.prop S.p)
    | fail) <;> (try simp only [WKb, ↓reduceIte, Nat.reduceEqDiff, pl62, hw]))))
        all_goals
          clear eA0 eA1 eA2 eA3 eA4 lA0 lA1 lA2 lA3 lA4 hfin m1 m2 m3 m4 m5 m7 m8 m11 hln hil hq1 hq2
          (apply Tr.againE ((k + 1, _)); (focus (simp only [WKb, ↓reduceIte, Nat.reduceEqDiff])); (focus ((try simp only [WKb, ↓reduceIte, Nat.reduceEqDiff]); (all_goals ((repeat (refine cons_eq (by first | rfl | ((try clear hK) <;> first | (simp [*, hst]; done) | (simp [*, hst]; omega) | (simp [*, hst] <;> (try split) <;> simp_all <;> omega))) ?_)); rfl)); done)); (focus (first | omega | assumption | (simp only []; omega) | (refine ⟨by omega, by assumption⟩) | (simp only []; refine ⟨by omega, by assumption⟩) | ((try simp only []); (repeat' (first | omega | assumption | refine And.intro ?_ ?_)); done))); (focus (first | omega | (simp only []; omega))); (focus (((try clear hK) <;> (try simp only [WKe, *]) <;> repeat (first | with_reducible exact EntR.done | refine S.e ?_ | (refine S.f ?_ <;> (try simp only [WKe, hst, ↓reduceIte, reduceCtorEq, Int.reduceEq, *])) | with_reducible apply EntR.ex | refine EntR.drop (F := F) ?_ | refine EntR.drop ?_)))))
      · have hke : k = p.ports.d.length := by omega
        subst hke
        ((try simp only [WKb, ↓reduceIte, Nat.reduceEqDiff]) <;> (repeat' ((first
    | (refine G.tr ?_; first | refine S.a ?_ | refine S.t ?_ | refine Tr.brK ?_ ?_ | (refine G.call 61 ?_; refine S.c ?_ (h := int07_ok (by assumption))) | (refine G.call 63 ?_; refine S.c ?_ (h := ints08_ok ?_ ?_)) | (refine G.call 94 ?_; refine S.c ?_ (h := bool07_ok)) | (refine G.call 64 ?_; refine S.c ?_ (h := ints07_ok ?_ ?_)) | refine S.n fun _ => ?_ | refine S.i fun hix => ?_ | (refine S.g fun hb => ?_; (try simp only [hb])) | (refine S.s (fun hb => ?_) (fun hb => ?_) <;> ((try simp only [hb]) <;> (try (have hp := hb; simp only [WKs] at hp; (try have hq := Int.not_le.2 hp); (try have hq := Int.not_lt.2 hp))))))
    | rintro _ _ ⟨_, rfl, rfl⟩
    | ((fail_if_success refine G.tr ?_); exact G.prop S.p)
    | fail) <;> (try simp only [WKb, ↓reduceIte, Nat.reduceEqDiff]))))
        have hz : rowB A3 semB p.sems.d 0 = rowB A2 portB p.ports.d p.ports.d.length ++ intB (p.sems.d.length : Int) := by rw [rowB_zero, eA3]
        rename_i sv3
        refine Tr.loopE (α := Nat × SV) [5, 9] [1, 2, 3, 4] (fun x => [x.2.v, .int .i64 x.1]) (fun x => [sl false x.2.v (rowB A3 semB p.sems.d x.1)]) (fun x => x.1 ≤ p.sems.d.length) (fun x => p.sems.d.length - x.1) (0, sv3) (by simp only [hz]; exact (by (repeat (first | exact TakeL.nil | (apply TakeL.cons; focus ((first | exact TakeA.dupS | exact TakeA.dupF | ((repeat (first | with_reducible exact TakeA.here | exact TakeA.fam (by omega) (by omega) | with_reducible apply TakeA.next)); done) | ((repeat (first | exact TakeA.here | apply TakeA.next)); done) | exact TakeA.famNil | exact TakeA.nilS))) | fail)); done)) rfl (Nat.zero_le _) fun x u hk => ?_
        obtain ⟨k, s⟩ := x
        simp only at hk ⊢
        have hln := rowB_len A3 semB (xs := p.sems.d) (fun x _ => semB_len x) k
        by_cases hin : k < p.sems.d.length
        · have hw := wrapSucc (k := k) (by omega)
          have hx := o4 (ix p.sems.d (k : Int)) (ix_memU hin)
          have hi : ∀ n ∈ [(ix p.sems.d (k : Int)).first, (ix p.sems.d (k : Int)).most], I64 n := I64s (hx.1) (I64s1 (hx.2))
          have hil := intsB_len [(ix p.sems.d (k : Int)).first, (ix p.sems.d (k : Int)).most]
          simp only [List.length_cons, List.length_nil] at hil
          have hst : rowB A3 semB p.sems.d k ++ intsB [(ix p.sems.d (k : Int)).first, (ix p.sems.d (k : Int)).most] = rowB A3 semB p.sems.d (k + 1) := by rw [rowB_next A3 semB hin]; unfold semB; simp only []
          clear hx
          ((try simp only [WKb, ↓reduceIte, Nat.reduceEqDiff]) <;> (repeat' ((first
    | (refine G.tr ?_; first | refine S.a ?_ | refine S.t ?_ | refine Tr.brK ?_ ?_ | (refine G.call 61 ?_; refine S.c ?_ (h := int07_ok (by assumption))) | (refine G.call 63 ?_; refine S.c ?_ (h := ints08_ok ?_ ?_)) | (refine G.call 94 ?_; refine S.c ?_ (h := bool07_ok)) | (refine G.call 64 ?_; refine S.c ?_ (h := ints07_ok ?_ ?_)) | refine S.n fun _ => ?_ | refine S.i fun hix => ?_ | (refine S.g fun hb => ?_; (try simp only [hb])) | (refine S.s (fun hb => ?_) (fun hb => ?_) <;> ((try simp only [hb]) <;> (try (have hp := hb; simp only [WKs] at hp; (try have hq := Int.not_le.2 hp); (try have hq := Int.not_lt.2 hp))))))
    | rintro _ _ ⟨_, rfl, rfl⟩
    | ((fail_if_success refine G.tr ?_); exact G.prop S.p)
    | fail) <;> (try simp only [WKb, ↓reduceIte, Nat.reduceEqDiff, pl62, hw]))))
          all_goals
            clear eA0 eA1 eA2 eA3 eA4 lA0 lA1 lA2 lA3 lA4 hfin m1 m2 m3 m4 m5 m7 m8 m11 hln hil
            (apply Tr.againE ((k + 1, _)); (focus (simp only [WKb, ↓reduceIte, Nat.reduceEqDiff])); (focus ((try simp only [WKb, ↓reduceIte, Nat.reduceEqDiff]); (all_goals ((repeat (refine cons_eq (by first | rfl | ((try clear hK) <;> first | (simp [*, hst]; done) | (simp [*, hst]; omega) | (simp [*, hst] <;> (try split) <;> simp_all <;> omega))) ?_)); rfl)); done)); (focus (first | omega | assumption | (simp only []; omega) | (refine ⟨by omega, by assumption⟩) | (simp only []; refine ⟨by omega, by assumption⟩) | ((try simp only []); (repeat' (first | omega | assumption | refine And.intro ?_ ?_)); done))); (focus (first | omega | (simp only []; omega))); (focus (((try clear hK) <;> (try simp only [WKe, *]) <;> repeat (first | with_reducible exact EntR.done | refine S.e ?_ | (refine S.f ?_ <;> (try simp only [WKe, hst, ↓reduceIte, reduceCtorEq, Int.reduceEq, *])) | with_reducible apply EntR.ex | refine EntR.drop (F := F) ?_ | refine EntR.drop ?_)))))
        · have hke : k = p.sems.d.length := by omega
          subst hke
          ((try simp only [WKb, ↓reduceIte, Nat.reduceEqDiff]) <;> (repeat' ((first
    | (refine G.tr ?_; first | refine S.a ?_ | refine S.t ?_ | refine Tr.brK ?_ ?_ | (refine G.call 61 ?_; refine S.c ?_ (h := int07_ok (by assumption))) | (refine G.call 63 ?_; refine S.c ?_ (h := ints08_ok ?_ ?_)) | (refine G.call 94 ?_; refine S.c ?_ (h := bool07_ok)) | (refine G.call 64 ?_; refine S.c ?_ (h := ints07_ok ?_ ?_)) | refine S.n fun _ => ?_ | refine S.i fun hix => ?_ | (refine S.g fun hb => ?_; (try simp only [hb])) | (refine S.s (fun hb => ?_) (fun hb => ?_) <;> ((try simp only [hb]) <;> (try (have hp := hb; simp only [WKs] at hp; (try have hq := Int.not_le.2 hp); (try have hq := Int.not_lt.2 hp))))))
    | rintro _ _ ⟨_, rfl, rfl⟩
    | ((fail_if_success refine G.tr ?_); exact G.prop S.p)
    | fail) <;> (try simp only [WKb, ↓reduceIte, Nat.reduceEqDiff]))))
          have hz : rowB A4 poolB p.pools.d 0 = rowB A3 semB p.sems.d p.sems.d.length ++ intsB [p.flags, (p.pools.d.length : Int)] := by rw [rowB_zero, eA4]
          rename_i sv4
          refine Tr.loopE (α := Nat × SV) [5, 10] [1, 2, 3, 4] (fun x => [x.2.v, .int .i64 x.1]) (fun x => [sl false x.2.v (rowB A4 poolB p.pools.d x.1)]) (fun x => x.1 ≤ p.pools.d.length) (fun x => p.pools.d.length - x.1) (0, sv4) (by simp only [hz]; exact (by (repeat (first | exact TakeL.nil | (apply TakeL.cons; focus ((first | exact TakeA.dupS | exact TakeA.dupF | ((repeat (first | with_reducible exact TakeA.here | exact TakeA.fam (by omega) (by omega) | with_reducible apply TakeA.next)); done) | ((repeat (first | exact TakeA.here | apply TakeA.next)); done) | exact TakeA.famNil | exact TakeA.nilS))) | fail)); done)) rfl (Nat.zero_le _) fun x u hk => ?_
          obtain ⟨k, s⟩ := x
          simp only at hk ⊢
          have hln := rowB_len A4 poolB (xs := p.pools.d) (fun x _ => poolB_len x) k
          by_cases hin : k < p.pools.d.length
          · have hw := wrapSucc (k := k) (by omega)
            have hx := o6 (ix p.pools.d (k : Int)) (ix_memU hin)
            have hi : ∀ n ∈ [(ix p.pools.d (k : Int)).size, (ix p.pools.d (k : Int)).depth], I64 n := I64s (hx.1) (I64s1 (hx.2))
            have hil := intsB_len [(ix p.pools.d (k : Int)).size, (ix p.pools.d (k : Int)).depth]
            simp only [List.length_cons, List.length_nil] at hil
            have hst : rowB A4 poolB p.pools.d k ++ intsB [(ix p.pools.d (k : Int)).size, (ix p.pools.d (k : Int)).depth] = rowB A4 poolB p.pools.d (k + 1) := by rw [rowB_next A4 poolB hin]; unfold poolB; simp only []
            clear hx
            ((try simp only [WKb, ↓reduceIte, Nat.reduceEqDiff]) <;> (repeat' ((first
    | (refine G.tr ?_; first | refine S.a ?_ | refine S.t ?_ | refine Tr.brK ?_ ?_ | (refine G.call 61 ?_; refine S.c ?_ (h := int07_ok (by assumption))) | (refine G.call 63 ?_; refine S.c ?_ (h := ints08_ok ?_ ?_)) | (refine G.call 94 ?_; refine S.c ?_ (h := bool07_ok)) | (refine G.call 64 ?_; refine S.c ?_ (h := ints07_ok ?_ ?_)) | refine S.n fun _ => ?_ | refine S.i fun hix => ?_ | (refine S.g fun hb => ?_; (try simp only [hb])) | (refine S.s (fun hb => ?_) (fun hb => ?_) <;> ((try simp only [hb]) <;> (try (have hp := hb; simp only [WKs] at hp; (try have hq := Int.not_le.2 hp); (try have hq := Int.not_lt.2 hp))))))
    | rintro _ _ ⟨_, rfl, rfl⟩
    | ((fail_if_success refine G.tr ?_); exact G.prop S.p)
    | fail) <;> (try simp only [WKb, ↓reduceIte, Nat.reduceEqDiff, pl62, hw]))))
            all_goals
              clear eA0 eA1 eA2 eA3 eA4 lA0 lA1 lA2 lA3 lA4 hfin m1 m2 m3 m4 m5 m7 m8 m11 hln hil
              (apply Tr.againE ((k + 1, _)); (focus (simp only [WKb, ↓reduceIte, Nat.reduceEqDiff])); (focus ((try simp only [WKb, ↓reduceIte, Nat.reduceEqDiff]); (all_goals ((repeat (refine cons_eq (by first | rfl | ((try clear hK) <;> first | (simp [*, hst]; done) | (simp [*, hst]; omega) | (simp [*, hst] <;> (try split) <;> simp_all <;> omega))) ?_)); rfl)); done)); (focus (first | omega | assumption | (simp only []; omega) | (refine ⟨by omega, by assumption⟩) | (simp only []; refine ⟨by omega, by assumption⟩) | ((try simp only []); (repeat' (first | omega | assumption | refine And.intro ?_ ?_)); done))); (focus (first | omega | (simp only []; omega))); (focus (((try clear hK) <;> (try simp only [WKe, *]) <;> repeat (first | with_reducible exact EntR.done | refine S.e ?_ | (refine S.f ?_ <;> (try simp only [WKe, hst, ↓reduceIte, reduceCtorEq, Int.reduceEq, *])) | with_reducible apply EntR.ex | refine EntR.drop (F := F) ?_ | refine EntR.drop ?_)))))
          · have hke : k = p.pools.d.length := by omega
            subst hke
            have hq1 : (rowB A4 poolB p.pools.d p.pools.d.length ++ listB p.slates.d).length ≤ 20000 := by simp only [List.length_append]; omega
            have hq2 : (rowB A4 poolB p.pools.d p.pools.d.length ++ listB p.slates.d ++ intsB [p.cap, p.budget, p.ladder]).length ≤ 20100 := by simp only [List.length_append] at hq1 ⊢; omega
            have hd7 : decide ((p.acts.d.length : Int) ≤ 64) = true := decide_eq_true (by omega)
            ((try simp only [WKb, ↓reduceIte, Nat.reduceEqDiff]) <;> (repeat' ((first
    | (refine G.tr ?_; first | refine S.a ?_ | refine S.t ?_ | refine Tr.brK ?_ ?_ | (refine G.call 61 ?_; refine S.c ?_ (h := int07_ok (by assumption))) | (refine G.call 63 ?_; refine S.c ?_ (h := ints08_ok ?_ ?_)) | (refine G.call 94 ?_; refine S.c ?_ (h := bool07_ok)) | (refine G.call 64 ?_; refine S.c ?_ (h := ints07_ok ?_ ?_)) | refine S.n fun _ => ?_ | refine S.i fun hix => ?_ | (refine S.g fun hb => ?_; (try simp only [hb])) | (refine S.s (fun hb => ?_) (fun hb => ?_) <;> ((try simp only [hb]) <;> (try (have hp := hb; simp only [WKs] at hp; (try have hq := Int.not_le.2 hp); (try have hq := Int.not_lt.2 hp))))))
    | rintro _ _ ⟨_, rfl, rfl⟩
    | ((fail_if_success refine G.tr ?_); exact G.prop S.p)
    | fail) <;> (try simp only [WKb, ↓reduceIte, Nat.reduceEqDiff]))))
            all_goals
              refine Tr.fin hK ⟨_, by rw [hd7], rfl⟩ ?_
              rw [← hfin]
              ((try clear hK) <;> (try simp only [WKe, *]) <;> repeat (first | with_reducible exact EntR.done | refine S.e ?_ | (refine S.f ?_ <;> (try simp only [WKe, ↓reduceIte, reduceCtorEq, Int.reduceEq, *])) | with_reducible apply EntR.ex | refine EntR.drop (F := F) ?_ | refine EntR.drop ?_))

end Go.Proofs.YtgkhjgpgdfbdpaaGreatDoor
