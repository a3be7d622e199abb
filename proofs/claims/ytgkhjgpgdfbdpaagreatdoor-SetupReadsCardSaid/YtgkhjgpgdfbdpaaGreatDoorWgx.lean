import Derived.Test.YtgkhjgpgdfbdpaaGreatDoorWC
import Derived.Test.YtgkhjgpgdfbdpaaGreatDoorWky
namespace Go.Proofs.YtgkhjgpgdfbdpaaGreatDoor
open Go Go.Wk
set_option maxHeartbeats 6400000
set_option maxRecDepth 100000

/-! ### the document's kinds of lines -/
def kindsW : List Str := (List.range 16).map fun k => ⟨wordU k⟩
theorem kindsW_ix : ∀ k : Nat, k < 16 → (ix kindsW (k : Int)).d = wordU k := by decide
theorem kindsW_eq : kindsW = [⟨[112, 97, 114, 116]⟩, ⟨[114, 101, 103, 105, 111, 110]⟩, ⟨[112, 114, 111, 99, 101, 115, 115]⟩, ⟨[112, 111, 114, 116]⟩, ⟨[115, 101, 109]⟩, ⟨[112, 111, 111, 108]⟩, ⟨[115, 108, 97, 116, 101]⟩, ⟨[97, 99, 116, 115]⟩, ⟨[99, 104, 97, 110, 110, 101, 108]⟩, ⟨[109, 111, 100, 101]⟩, ⟨[119, 105, 110, 100, 111, 119]⟩, ⟨[108, 101, 118, 101, 108]⟩, ⟨[110, 97, 112]⟩, ⟨[112, 111, 119, 101, 114]⟩, ⟨[100, 111, 119, 110]⟩, ⟨[117, 112]⟩] := rfl
theorem kindsW_len : kindsW.length = 16 := rfl
def ordI (w : List UInt8) : Int := match orderU w with
  | some k => (k : Int)
  | none => -1
theorem ordI_at {w : List UInt8} {k : Nat} (hk : k < 16) (h : wordU k = w) : ordI w = (k : Int) := by
  subst h
  unfold ordI
  rw [orderU_word k hk]
theorem ordI_no {w : List UInt8} (h : ∀ j : Nat, j < 16 → wordU j ≠ w) : ordI w = -1 := by
  unfold ordI
  cases ho : orderU w with
  | none => rfl
  | some k =>
    obtain ⟨h1, h2⟩ := orderU_some ho
    exact absurd h2 (h k h1)
def manyL : List Int := [4, 3, 3, 4, 2, 2, 1, -1, 4, 1, 3, 2, 3, 6, -1, -1]
theorem manyL_ix : ∀ k : Nat, k < 16 → ix manyL (k : Int) = manyU k := by decide
attribute [local irreducible] BrK GenK EGenK EUnitK CallK FnK CallV GuardO GuardC CondW opX opK opKc chkR eqR seqK blkK endL WL WD W LoopW BinK Tr drewK resL PickK NotK NilK ExtrK getK Instr.storeAt Instr.loadAt Instr.fieldAt Instr.indexAt Instr.lookup Instr.mapUpdate Instr.box Instr.alloc Instr.build Instr.buildSlice Instr.makeSlice Instr.makeMap Instr.sliceAt Instr.field Instr.index Instr.makeInterface Instr.typeAssert Builtin.len_ Builtin.append_ Builtin.cap_ Builtin.min_ Builtin.max_ Builtin.copy_ Builtin.clear_ convert binOp mp blk rob sl sep ex fact old
attribute [local irreducible] NegK wordU
theorem order_ok {w : List UInt8} : Trip Tryz.prog 28 [.string (bstr w)].toArray [] fun v l' => v = .int .i64 (ordI w) ∧ l' = [] := by
  intro F K hK
  simp only [List.nil_append]
  have hkl : ([⟨[112, 97, 114, 116]⟩, ⟨[114, 101, 103, 105, 111, 110]⟩, ⟨[112, 114, 111, 99, 101, 115, 115]⟩, ⟨[112, 111, 114, 116]⟩, ⟨[115, 101, 109]⟩, ⟨[112, 111, 111, 108]⟩, ⟨[115, 108, 97, 116, 101]⟩, ⟨[97, 99, 116, 115]⟩, ⟨[99, 104, 97, 110, 110, 101, 108]⟩, ⟨[109, 111, 100, 101]⟩, ⟨[119, 105, 110, 100, 111, 119]⟩, ⟨[108, 101, 118, 101, 108]⟩, ⟨[110, 97, 112]⟩, ⟨[112, 111, 119, 101, 114]⟩, ⟨[100, 111, 119, 110]⟩, ⟨[117, 112]⟩] : List Str) = kindsW := kindsW_eq.symm
  have hln := kindsW_len
  have hixk := kindsW_ix
  (refine Tr.enter (rs := [.tmp 2]) mixed fn28 rfl (by simp +arith [Tryz.ntmps28]) fun u => ?_; simp only [cd28, Tryz.f28])
  generalize kindsW = KW at hkl hln hixk
  ((try simp only [WKb, WKt]) <;> (repeat' ((first
    | (refine G.tr ?_; first | refine S.a ?_ | refine S.t ?_ | refine Tr.brK ?_ ?_ | refine S.n fun _ => ?_ | refine S.i fun hix => ?_ | (refine S.g fun hb => ?_; (try simp only [hb])) | (refine S.s (fun hb => ?_) (fun hb => ?_) <;> ((try simp only [hb]) <;> (try (have hp := hb; simp only [WKs] at hp; (try have hq := Int.not_le.2 hp); (try have hq := Int.not_lt.2 hp))))))
    | ((fail_if_success refine G.tr ?_); exact G.prop S.p)
    | fail) <;> (try simp only [WKb, ↓reduceIte, hkl]))))
  rename_i sv
  refine Tr.loopE (α := Nat) [2, 4] [0, 3] (fun k => [.int .i64 0, .int .i64 k]) (fun _ => [sl false sv.v KW]) (fun k => k ≤ 16 ∧ ∀ j : Nat, j < k → wordU j ≠ w) (fun k => 16 - k) 0 (by (repeat (first | exact TakeL.nil | (apply TakeL.cons; focus ((first | exact TakeA.dupS | exact TakeA.dupF | ((repeat (first | with_reducible exact TakeA.here | exact TakeA.fam (by omega) (by omega) | with_reducible apply TakeA.next)); done) | ((repeat (first | exact TakeA.here | apply TakeA.next)); done) | exact TakeA.famNil | exact TakeA.nilS))) | fail)); done) rfl ⟨by omega, fun j hj => by omega⟩ fun k u hx => ?_
  obtain ⟨hk, hI⟩ := hx
  have hw := wrapSucc (k := k) (by omega)
  by_cases hin : k < 16
  · have hx1 := hixk k hin
    by_cases he : wordU k = w
    · have hR := ordI_at hin he
      have hd : decide ((ix KW (k : Int)).d = w) = true := decide_eq_true (hx1.trans he)
      ((try simp only [WKb, ↓reduceIte, Nat.reduceEqDiff]) <;> (repeat' ((first
    | (refine G.tr ?_; first | refine S.a ?_ | refine S.t ?_ | refine Tr.brK ?_ ?_ | refine S.n fun _ => ?_ | refine S.i fun hix => ?_ | (refine S.g fun hb => ?_; (try simp only [hb])) | (refine S.s (fun hb => ?_) (fun hb => ?_) <;> ((try simp only [hb]) <;> (try (have hp := hb; simp only [WKs] at hp; (try have hq := Int.not_le.2 hp); (try have hq := Int.not_lt.2 hp))))))
    | ((fail_if_success refine G.tr ?_); exact G.prop S.p)
    | fail) <;> (try simp only [WKb, WKh, ↓reduceIte, Nat.reduceEqDiff, hln, hd]))))
      all_goals
        refine Tr.fin hK ⟨by rw [hR], rfl⟩ ?_
        ((try clear hK) <;> (try simp only [WKe, *]) <;> repeat (first | with_reducible exact EntR.done | refine S.e ?_ | (refine S.f ?_ <;> (try simp only [WKe, ↓reduceIte, reduceCtorEq, Int.reduceEq, *])) | with_reducible apply EntR.ex | refine EntR.drop (F := F) ?_ | refine EntR.drop ?_))
    · have hd : decide ((ix KW (k : Int)).d = w) = false := decide_eq_false (fun h => he (hx1.symm.trans h))
      have hI' : ∀ j : Nat, j < k + 1 → wordU j ≠ w := fun j hj => by
        by_cases e : j = k
        · subst e; exact he
        · exact hI j (by omega)
      ((try simp only [WKb, ↓reduceIte, Nat.reduceEqDiff]) <;> (repeat' ((first
    | (refine G.tr ?_; first | refine S.a ?_ | refine S.t ?_ | refine Tr.brK ?_ ?_ | refine S.n fun _ => ?_ | refine S.i fun hix => ?_ | (refine S.g fun hb => ?_; (try simp only [hb])) | (refine S.s (fun hb => ?_) (fun hb => ?_) <;> ((try simp only [hb]) <;> (try (have hp := hb; simp only [WKs] at hp; (try have hq := Int.not_le.2 hp); (try have hq := Int.not_lt.2 hp))))))
    | ((fail_if_success refine G.tr ?_); exact G.prop S.p)
    | fail) <;> (try simp only [WKb, WKh, ↓reduceIte, Nat.reduceEqDiff, hw, hln, hd]))))
      all_goals
        clear hI
        (apply Tr.againE (k + 1); (focus (simp only [WKb, ↓reduceIte, Nat.reduceEqDiff])); (focus ((try simp only [WKb, ↓reduceIte, Nat.reduceEqDiff]); (all_goals ((repeat (refine cons_eq (by first | rfl | (simp [*]; done)) ?_)); rfl)); done)); (focus (first | omega | assumption | (simp only []; omega) | (refine ⟨by omega, by assumption⟩) | (simp only []; refine ⟨by omega, by assumption⟩) | ((try simp only []); (repeat' (first | omega | assumption | apply hI' | refine And.intro ?_ ?_)); done))); (focus (first | omega | (simp only []; omega))); (focus (((try clear hK) <;> (try simp only [WKe, *]) <;> repeat (first | with_reducible exact EntR.done | refine S.e ?_ | (refine S.f ?_ <;> (try simp only [WKe, ↓reduceIte, reduceCtorEq, Int.reduceEq, *])) | with_reducible apply EntR.ex | refine EntR.drop (F := F) ?_ | refine EntR.drop ?_)))))
  · have hR := ordI_no (w := w) fun j hj => hI j (by omega)
    ((try simp only [WKb, ↓reduceIte, Nat.reduceEqDiff]) <;> (repeat' ((first
    | (refine G.tr ?_; first | refine S.a ?_ | refine S.t ?_ | refine Tr.brK ?_ ?_ | refine S.n fun _ => ?_ | refine S.i fun hix => ?_ | (refine S.g fun hb => ?_; (try simp only [hb])) | (refine S.s (fun hb => ?_) (fun hb => ?_) <;> ((try simp only [hb]) <;> (try (have hp := hb; simp only [WKs] at hp; (try have hq := Int.not_le.2 hp); (try have hq := Int.not_lt.2 hp))))))
    | ((fail_if_success refine G.tr ?_); exact G.prop S.p)
    | fail) <;> (try simp only [WKb, ↓reduceIte, Nat.reduceEqDiff, hln]))))
    all_goals
      refine Tr.fin hK ⟨by rw [hR], rfl⟩ ?_
      ((try clear hK) <;> (try simp only [WKe, *]) <;> repeat (first | with_reducible exact EntR.done | refine S.e ?_ | (refine S.f ?_ <;> (try simp only [WKe, ↓reduceIte, reduceCtorEq, Int.reduceEq, *])) | with_reducible apply EntR.ex | refine EntR.drop (F := F) ?_ | refine EntR.drop ?_))

theorem many_ok {k : Nat} (hk : k < 16) : Trip Tryz.prog 30 [.int .i64 (k : Int)].toArray [] fun v l' => v = .int .i64 (manyU k) ∧ l' = [] := by
  intro F K hK
  simp only [List.nil_append]
  have hix := manyL_ix k hk
  unfold manyL at hix
  (refine Tr.enter (rs := [.tmp 2]) mixed fn30 rfl (by simp +arith [Tryz.ntmps30]) fun u => ?_; simp only [cd30, Tryz.f30])
  ((try simp only [WKb]) <;> (repeat' ((first
    | (refine G.tr ?_; first | refine S.a ?_ | refine S.t ?_ | refine Tr.brK ?_ ?_ | refine S.n fun _ => ?_ | refine S.i fun hix => ?_ | (refine S.g fun hb => ?_; (try simp only [hb])) | (refine S.s (fun hb => ?_) (fun hb => ?_) <;> ((try simp only [hb]) <;> (try (have hp := hb; simp only [WKs] at hp; (try have hq := Int.not_le.2 hp); (try have hq := Int.not_lt.2 hp))))))
    | ((fail_if_success refine G.tr ?_); exact G.prop S.p)
    | fail) <;> (try simp only [WKb, ↓reduceIte, Nat.reduceEqDiff]))))
  all_goals
    refine Tr.fin hK ⟨rfl, rfl⟩ ?_
    ((try clear hK) <;> (try simp only [WKe, *]) <;> repeat (first | with_reducible exact EntR.done | refine S.e ?_ | (refine S.f ?_ <;> (try simp only [WKe, ↓reduceIte, reduceCtorEq, Int.reduceEq, *])) | with_reducible apply EntR.ex | refine EntR.drop (F := F) ?_ | refine EntR.drop ?_))

theorem can_spec (k was : Nat) : canU k was = true ↔ (k = 0 ∧ (was = 16 ∨ was = 7)) ∨ (0 < k ∧ k < 7 ∧ was < 7 ∧ was ≤ k) ∨ (k = 7 ∧ was < 7) ∨ ((k = 8 ∨ k = 9) ∧ (was = 16 ∨ was = 7 ∨ was = 8 ∨ (9 ≤ was ∧ was ≤ 10 ∧ k = 9))) ∨ (k = 10 ∧ (was = 9 ∨ was = 10))
    ∨ ((k = 11 ∨ k = 12 ∨ k = 13) ∧ (was = 16 ∨ (7 ≤ was ∧ was ≤ 12 ∧ was ≤ k ∧ (was ≠ 9 ∨ 9 < k)))) ∨ (13 < k ∧ was + 1 = k) := by
  unfold canU
  split
  · simp; omega
  · split
    · simp; omega
    · split
      · simp; omega
      · split
        · rename_i h; simp at h; simp; omega
        · split
          · simp; omega
          · split
            · rename_i h; simp at h; simp; omega
            · rename_i h1 h2 h3; simp at h1 h2 h3; simp; omega
theorem can_ok {k was : Nat} (hk : k < 16) (hw : was < 17) : Trip Tryz.prog 29 [.int .i64 (k : Int), .int .i64 (was : Int)].toArray [] fun v l' => v = .bool (canU k was) ∧ l' = [] := by
  intro F K hK
  simp only [List.nil_append]
  have hs := can_spec k was
  have hwk : 0 < k → IntKind.i64.wrap ((k : Int) - 1) = (k : Int) - 1 := fun h => wrapId (by omega) (by omega)
  generalize canU k was = z at hK hs
  (refine Tr.enter (rs := [.tmp 4]) mixed fn29 rfl (by simp +arith [Tryz.ntmps29]) fun u => ?_; simp only [cd29, Tryz.f29])
  ((try simp only [WKb, ↓reduceIte, Nat.reduceEqDiff, Nat.reduceAdd]) <;> (repeat' ((first
    | (refine G.tr ?_; first | refine S.a ?_ | refine S.t ?_ | refine Tr.brK ?_ ?_ | refine S.n fun _ => ?_ | refine S.i fun hix => ?_ | (refine S.g fun hb => ?_; (try simp only [hb])) | (refine S.s (fun hb => ?_) (fun hb => ?_) <;> ((try simp only [hb]) <;> (try (have hp := hb; simp only [WKs] at hp; (try have hq := Int.not_le.2 hp); (try have hq := Int.not_lt.2 hp))))))
    | ((fail_if_success refine G.tr ?_); exact G.prop S.p)
    | fail) <;> (try simp only [WKb, ↓reduceIte, Nat.reduceEqDiff]))))
  all_goals
    refine Tr.fin hK ⟨congrArg Value.bool ?_, rfl⟩ ?_
    · try rw [hwk (by omega)]
      rw [Bool.eq_iff_iff, hs]
      simp only [decide_eq_true_eq, reduceCtorEq, true_iff, false_iff]
      omega
    · ((try clear hK) <;> (try simp only [WKe, *]) <;> repeat (first | with_reducible exact EntR.done | refine S.e ?_ | (refine S.f ?_ <;> (try simp only [WKe, ↓reduceIte, reduceCtorEq, Int.reduceEq, *])) | with_reducible apply EntR.ex | refine EntR.drop (F := F) ?_ | refine EntR.drop ?_))

end Go.Proofs.YtgkhjgpgdfbdpaaGreatDoor

namespace Go.Proofs.YtgkhjgpgdfbdpaaGreatDoor
open Go Go.Wk
set_option maxHeartbeats 6400000
set_option maxRecDepth 100000

/-! ### what holds of what was read so far -/
def okJ (c : ConfV) (was : Nat) : Prop := okU c ∧ shortU c ∧ (was < 8 → c.parts ≠ []) ∧ (was = 9 ∨ was = 10 → c.modes ≠ []) ∧ was < 17
theorem okJ_none : okJ ConfV.none 16 := ⟨none_ok, none_short, fun h => absurd h (by decide), fun h => (by omega), by decide⟩
theorem lastP_mem {c : ConfV} (h : c.parts ≠ []) : lastP c ∈ c.parts := by
  unfold lastP
  rw [List.getLast?_eq_some_getLast h]
  exact List.getLast_mem h
theorem lastM_mem {c : ConfV} (h : c.modes ≠ []) : lastM c ∈ c.modes := by
  unfold lastM
  rw [List.getLast?_eq_some_getLast h]
  exact List.getLast_mem h
theorem all_snoc {α : Type} {P : α → Prop} {xs : List α} {x : α} (h : ∀ y ∈ xs, P y) (hx : P x) : ∀ y ∈ xs ++ [x], P y := fun y hy => by
  rcases List.mem_append.1 hy with hy | hy
  · exact h y hy
  · rw [List.mem_singleton.1 hy]; exact hx
theorem all_init {α : Type} {P : α → Prop} {xs : List α} {x : α} (h : ∀ y ∈ xs, P y) (hx : P x) : ∀ y ∈ xs.dropLast ++ [x], P y := all_snoc (fun y hy => h y (List.dropLast_subset _ hy)) hx
theorem snoc_len {α : Type} {xs : List α} {x : α} (h : xs.length < 64) : (xs ++ [x]).length ≤ 64 := by rw [List.length_append, List.length_singleton]; omega
theorem init_len {α : Type} {xs : List α} {x : α} (h : xs.length ≤ 64) (hn : xs ≠ []) : (xs.dropLast ++ [x]).length ≤ 64 := by
  have := List.length_pos_iff.2 hn
  rw [List.length_append, List.length_singleton, List.length_dropLast]
  omega
theorem inner_good {p : PartV} {k : Nat} {l : List Int} (ho : okPv p) (hs : shortP p) (h64 : ∀ n ∈ l, I64 n) (hl : l.length ≤ 64) (hk0 : 0 < k) (hk : k < 8)
    (hn : (k = 1 → p.regions.length < 64) ∧ (k = 2 → p.procs.length < 64) ∧ (k = 3 → p.ports.length < 64) ∧ (k = 4 → p.sems.length < 64) ∧ (k = 5 → p.pools.length < 64) ∧ (k = 6 → p.slates.length < 64)) : okPv (innerU p k l) ∧ shortP (innerU p k l) := by
  obtain ⟨o1, o2, o3, o4, o5, o6, o7, o8, o9, o10, o11⟩ := ho
  obtain ⟨s1, s2, s3, s4, s5, s6, s7⟩ := hs
  obtain ⟨n1, n2, n3, n4, n5, n6⟩ := hn
  have g := gU_ok h64
  have hk' : k = 1 ∨ k = 2 ∨ k = 3 ∨ k = 4 ∨ k = 5 ∨ k = 6 ∨ k = 7 := by omega
  rcases hk' with rfl | rfl | rfl | rfl | rfl | rfl | rfl
  · exact ⟨⟨all_snoc o1 ⟨g 0, g 1⟩, o2, o3, o4, o5, o6, o7, o8, o9, o10, o11⟩, snoc_len (n1 rfl), s2, s3, s4, s5, s6, s7⟩
  · exact ⟨⟨o1, all_snoc o2 ⟨g 0, g 1, g 2⟩, o3, o4, o5, o6, o7, o8, o9, o10, o11⟩, s1, snoc_len (n2 rfl), s3, s4, s5, s6, s7⟩
  · exact ⟨⟨o1, o2, all_snoc o3 ⟨g 2, g 3⟩, o4, o5, o6, o7, o8, o9, o10, o11⟩, s1, s2, snoc_len (n3 rfl), s4, s5, s6, s7⟩
  · exact ⟨⟨o1, o2, o3, all_snoc o4 ⟨g 0, g 1⟩, o5, o6, o7, o8, o9, o10, o11⟩, s1, s2, s3, snoc_len (n4 rfl), s5, s6, s7⟩
  · exact ⟨⟨o1, o2, o3, o4, o5, all_snoc o6 ⟨g 0, g 1⟩, o7, o8, o9, o10, o11⟩, s1, s2, s3, s4, snoc_len (n5 rfl), s6, s7⟩
  · exact ⟨⟨o1, o2, o3, o4, o5, o6, all_snoc o7 (g 0), o8, o9, o10, o11⟩, s1, s2, s3, s4, s5, snoc_len (n6 rfl), s7⟩
  · exact ⟨⟨o1, o2, o3, o4, o5, o6, o7, o8, o9, o10, h64⟩, s1, s2, s3, s4, s5, s6, hl⟩
theorem may_all {c : ConfV} {was k : Nat} {l : List Int} (h : mayU c was (k, l) = true) : canU k was = true ∧ (manyU k < 0 ∨ (l.length : Int) = manyU k) ∧ l.length ≤ 64 ∧ countU c k < 64 := by
  unfold mayU at h
  simp only [Bool.and_eq_true, Bool.or_eq_true, decide_eq_true_eq, beq_iff_eq] at h
  exact ⟨h.1.1.1, h.1.1.2, h.1.2, h.2⟩
theorem put_okJ {c : ConfV} {was k : Nat} {l : List Int} (hj : okJ c was) (h : mayU c was (k, l) = true) (hk : k < 16) (h64 : ∀ n ∈ l, I64 n) : okJ (putU c k l) k := by
  obtain ⟨⟨o1, o2, o3, o4, o5, o6, o7, o8, o9, o10, o11, o12, o13⟩, ⟨s1, s2, s3, s4, s5, s6, s7, s8, s9⟩, jp, jm, hw⟩ := hj
  obtain ⟨hc, hm, hl, hn⟩ := may_all h
  have hcs := (can_spec k was).1 hc
  have g := gU_ok h64
  unfold putU
  split
  · rename_i h0
    subst h0
    exact ⟨⟨all_snoc o1 ⟨nil_all, nil_all, nil_all, nil_all, g 0, nil_all, nil_all, g 1, g 2, g 3, nil_all⟩, o2, o3, o4, o5, o6, o7, o8, o9, o10, o11, o12, o13⟩, ⟨snoc_len hn, s2, s3, s4, s5, s6, s7, all_snoc s8 ⟨Nat.zero_le _, Nat.zero_le _, Nat.zero_le _, Nat.zero_le _, Nat.zero_le _, Nat.zero_le _, Nat.zero_le _⟩, s9⟩, fun _ => by simp, fun h => (by omega), by omega⟩
  · rename_i h0
    split
    · rename_i h8
      have hne : c.parts ≠ [] := jp (by omega)
      have hmem := lastP_mem hne
      obtain ⟨i1, i2⟩ := inner_good (k := k) (l := l) (o1 _ hmem) (s8 _ hmem) h64 hl (by omega) h8 ⟨fun e => by subst e; exact hn, fun e => by subst e; exact hn, fun e => by subst e; exact hn, fun e => by subst e; exact hn, fun e => by subst e; exact hn, fun e => by subst e; exact hn⟩
      exact ⟨⟨all_init o1 i1, o2, o3, o4, o5, o6, o7, o8, o9, o10, o11, o12, o13⟩, ⟨init_len s1 hne, s2, s3, s4, s5, s6, s7, all_init s8 i2, s9⟩, fun _ => by simp [setP], fun h => (by omega), by omega⟩
    · rename_i h8
      split
      · rename_i e
        subst e
        exact ⟨⟨o1, all_snoc o2 ⟨g 0, g 1, g 2, g 3⟩, o3, o4, o5, o6, o7, o8, o9, o10, o11, o12, o13⟩, ⟨s1, snoc_len hn, s3, s4, s5, s6, s7, s8, s9⟩, fun h => (by omega), fun h => (by omega), by omega⟩
      · split
        · rename_i _ e
          subst e
          exact ⟨⟨o1, o2, all_snoc o3 ⟨g 0, nil_all⟩, o4, o5, o6, o7, o8, o9, o10, o11, o12, o13⟩, ⟨s1, s2, snoc_len hn, s4, s5, s6, s7, s8, all_snoc s9 (Nat.zero_le _)⟩, fun h => (by omega), fun _ => by simp, by omega⟩
        · split
          · rename_i _ _ e
            subst e
            have hne : c.modes ≠ [] := jm (by omega)
            have hmem := lastM_mem hne
            exact ⟨⟨o1, o2, all_init o3 ⟨(o3 _ hmem).1, all_snoc (o3 _ hmem).2 ⟨g 0, g 1, g 2⟩⟩, o4, o5, o6, o7, o8, o9, o10, o11, o12, o13⟩, ⟨s1, s2, init_len s3 hne, s4, s5, s6, s7, s8, all_init s9 (snoc_len hn)⟩, fun h => (by omega), fun _ => by simp [setM], by omega⟩
          · split
            · rename_i _ _ _ e
              subst e
              exact ⟨⟨o1, o2, o3, all_snoc o4 ⟨g 0, g 1⟩, o5, o6, o7, o8, o9, o10, o11, o12, o13⟩, ⟨s1, s2, s3, snoc_len hn, s5, s6, s7, s8, s9⟩, fun h => (by omega), fun h => (by omega), by omega⟩
            · split
              · rename_i _ _ _ _ e
                subst e
                exact ⟨⟨o1, o2, o3, o4, all_snoc o5 ⟨g 0, g 1, g 2⟩, o6, o7, o8, o9, o10, o11, o12, o13⟩, ⟨s1, s2, s3, s4, snoc_len hn, s6, s7, s8, s9⟩, fun h => (by omega), fun h => (by omega), by omega⟩
              · split
                · exact ⟨⟨o1, o2, o3, o4, o5, g 0, g 1, g 2, g 3, g 4, g 5, o12, o13⟩, ⟨s1, s2, s3, s4, s5, s6, s7, s8, s9⟩, fun h => (by omega), fun h => (by omega), by omega⟩
                · split
                  · exact ⟨⟨o1, o2, o3, o4, o5, o6, o7, o8, o9, o10, o11, h64, o13⟩, ⟨s1, s2, s3, s4, s5, hl, s7, s8, s9⟩, fun h => (by omega), fun h => (by omega), by omega⟩
                  · exact ⟨⟨o1, o2, o3, o4, o5, o6, o7, o8, o9, o10, o11, o12, h64⟩, ⟨s1, s2, s3, s4, s5, s6, hl, s8, s9⟩, fun h => (by omega), fun h => (by omega), by omega⟩
/-! ### the last partition, the last mode -/
theorem last_ix {α : Type} [Inhabited α] {xs : List α} {n : Nat} (h : xs.length = n + 1) : xs.getLast? = some (ix xs (n : Int)) := by
  have h1 := ix_some (xs := xs) (k := (n : Int)) (by omega) (by omega)
  rw [Int.toNat_natCast] at h1
  rw [List.getLast?_eq_getElem?, h, Nat.add_sub_cancel, h1]
theorem lastP_v {c : ConfD} {n : Nat} (h : c.parts.d.length = n + 1) : lastP c.v = (ix c.parts.d (n : Int)).v := by
  unfold lastP
  show ((c.parts.d.map PartD.v).getLast?).getD default = _
  rw [List.getLast?_map, last_ix h]
  rfl
theorem lastM_v {c : ConfD} {n : Nat} (h : c.modes.d.length = n + 1) : lastM c.v = (ix c.modes.d (n : Int)).v := by
  unfold lastM
  show ((c.modes.d.map ModeD.v).getLast?).getD default = _
  rw [List.getLast?_map, last_ix h]
  rfl
theorem lastP_0 {c : ConfD} (h : c.parts.d = []) : lastP c.v = default := by
  unfold lastP
  show ((c.parts.d.map PartD.v).getLast?).getD default = _
  rw [h]
  rfl
abbrev famM (ms : List ModeD) : Asrt := fam (fun m : ModeD => sl false m.wins.s.v m.wins.d) ms
theorem setMode {xs : List ModeD} {k : Nat} {m : ModeD} {l l1 l2 : List Asrt} {X : WP} (hk : k < xs.length) (h1 : TakeA l (sl false m.wins.s.v m.wins.d) l1) (h2 : TakeA l1 (fam (fun m : ModeD => sl false m.wins.s.v m.wins.d) (xs.eraseIdx k)) l2) (h : Tr (famM (xs.set k m) :: l2) X) : Tr l X :=
  h.imp (Imp.trans h1 (Imp.trans (Imp.cons h2) (fam_in (A := fun m : ModeD => sl false m.wins.s.v m.wins.d) hk)))
theorem set_ix {α : Type} [Inhabited α] {xs : List α} {k : Nat} (hk : k < xs.length) : xs.set k (ix xs (k : Int)) = xs := by
  have h1 := ix_some (xs := xs) (k := (k : Int)) (by omega) (by omega)
  rw [Int.toNat_natCast] at h1
  obtain ⟨hlt, he⟩ := List.getElem?_eq_some_iff.1 h1
  rw [← he, List.set_getElem_self]
theorem sameMode {xs : List ModeD} {k : Nat} {l l1 l2 : List Asrt} {X : WP} (hk : k < xs.length) (h1 : TakeA l (sl false (ix xs (k : Int)).wins.s.v (ix xs (k : Int)).wins.d) l1) (h2 : TakeA l1 (fam (fun m : ModeD => sl false m.wins.s.v m.wins.d) (xs.eraseIdx k)) l2) (h : Tr (famM xs :: l2) X) : Tr l X :=
  setMode hk h1 h2 (by rw [set_ix hk]; exact h)
end Go.Proofs.YtgkhjgpgdfbdpaaGreatDoor

namespace Go.Proofs.YtgkhjgpgdfbdpaaGreatDoor
open Go Go.Wk
set_option maxHeartbeats 6400000
set_option maxRecDepth 100000

/-! ### is there room for a line? -/
attribute [local irreducible] BrK GenK EGenK EUnitK CallK FnK CallV GuardO GuardC CondW opX opK opKc chkR eqR seqK blkK endL WL WD W LoopW BinK Tr drewK resL PickK NotK NilK ExtrK getK Instr.storeAt Instr.loadAt Instr.fieldAt Instr.indexAt Instr.lookup Instr.mapUpdate Instr.box Instr.alloc Instr.build Instr.buildSlice Instr.makeSlice Instr.makeMap Instr.sliceAt Instr.field Instr.index Instr.makeInterface Instr.typeAssert Builtin.len_ Builtin.append_ Builtin.cap_ Builtin.min_ Builtin.max_ Builtin.copy_ Builtin.clear_ convert binOp mp blk rob sl sep ex fact old
attribute [local irreducible] NegK
theorem room_ok {u0 : Value} {c : ConfD} {k : Nat} [hd : DeA u0 c] (hk : k < 16) (hs : shortU c.v) (hm : k = 10 → c.modes.d ≠ []) : Trip Tryz.prog 31 [u0, .int .i64 (k : Int)].toArray [sl false c.parts.s.v c.parts.d, fzl c.parts.d, sl false c.chans.s.v c.chans.d, sl false c.modes.s.v c.modes.d, famM c.modes.d, sl false c.levels.s.v c.levels.d, sl false c.naps.s.v c.naps.d, sl false c.down.s.v c.down.d, sl false c.up.s.v c.up.d]
    fun v l' => v = .bool (decide (countU c.v k < 64)) ∧ l' = [sl false c.parts.s.v c.parts.d, fzl c.parts.d, sl false c.chans.s.v c.chans.d, sl false c.modes.s.v c.modes.d, famM c.modes.d, sl false c.levels.s.v c.levels.d, sl false c.naps.s.v c.naps.d, sl false c.down.s.v c.down.d, sl false c.up.s.v c.up.d] := by
  obtain rfl := hd.h
  intro F K hK
  simp only [List.cons_append, List.nil_append]
  have hpl : c.parts.d.length ≤ 64 := by have := hs.1; simpa [ConfD.v] using this
  have hml : c.modes.d.length ≤ 64 := by have := hs.2.2.1; simpa [ConfD.v] using this
  have hal : ∀ j, c.modes.d.length = j + 1 → countU c.v 10 = (ix c.modes.d (j : Int)).wins.d.length := fun j h => by show (lastM c.v).wins.length = _; rw [lastM_v h]; rfl
  by_cases hpz : c.parts.d = []
  · have hpl0 : c.parts.d.length = 0 := by rw [hpz]; rfl
    have hlp := lastP_0 hpz
    by_cases h10 : k = 10
    · subst h10
      obtain ⟨j, hj⟩ : ∃ j, c.modes.d.length = j + 1 := ⟨c.modes.d.length - 1, by have := List.length_pos_iff.2 (hm rfl); omega⟩
      have hji : IntKind.i64.wrap ((c.modes.d.length : Int) - 1) = (j : Int) := by rw [wrapId (by omega) (by omega)]; omega
      have hjl : j < c.modes.d.length := by omega
      have hq := hal j hj
      (refine Tr.enter (rs := [.tmp 4]) mixed fn31 rfl (by simp +arith [Tryz.ntmps31]) fun u => ?_; simp only [cd31, Tryz.f31])
      refine Tr.famAt (xs := c.modes.d) (j : Int) S.K (by omega) (by omega) ?_
      rw [Int.toNat_natCast]
      have hX := And.intro pl31.eq_def (And.intro hpl0 hji); repeat' (first | refine S.x ?_ | refine S.y ?_ ?_ | (refine G.prop ?_; assumption) | intro hb | ((fail_if_success refine G.tr ?_); exact G.prop S.p) | fail)
      all_goals
        refine sameMode hjl S.K S.K ?_
        refine Tr.fin hK ⟨by rw [hq]; congr 1; rw [decide_eq_decide]; omega, rfl⟩ ?_
        exact S.E
    · have hkk : k = 0 ∨ k = 1 ∨ k = 2 ∨ k = 3 ∨ k = 4 ∨ k = 5 ∨ k = 6 ∨ k = 7 ∨ k = 8 ∨ k = 9 ∨ k = 11 ∨ k = 12 ∨ k = 13 ∨ k = 14 ∨ k = 15 := by omega
      rcases hkk with rfl | rfl | rfl | rfl | rfl | rfl | rfl | rfl | rfl | rfl | rfl | rfl | rfl | rfl | rfl
      all_goals
        (refine Tr.enter (rs := [.tmp 4]) mixed fn31 rfl (by simp +arith [Tryz.ntmps31]) fun u => ?_; simp only [cd31, Tryz.f31])
        have hX := And.intro pl31.eq_def hpl0; repeat' (first | refine S.x ?_ | refine S.y ?_ ?_ | (refine G.prop ?_; assumption) | intro hb | ((fail_if_success refine G.tr ?_); exact G.prop S.p) | fail)
        all_goals
          refine Tr.fin hK ⟨congrArg Value.bool ?_, rfl⟩ S.E
          rw [Bool.eq_iff_iff]
          simp only [countU, hlp, decide_eq_true_eq, true_iff]
          first | decide | omega | (simp only [ConfD.v, List.length_map]; omega)
  · obtain ⟨n, hn⟩ : ∃ n, c.parts.d.length = n + 1 := ⟨c.parts.d.length - 1, by have := List.length_pos_iff.2 hpz; omega⟩
    have hni : IntKind.i64.wrap ((c.parts.d.length : Int) - 1) = (n : Int) := by rw [wrapId (by omega) (by omega)]; omega
    have hlp := lastP_v hn
    by_cases h10 : k = 10
    · subst h10
      obtain ⟨j, hj⟩ : ∃ j, c.modes.d.length = j + 1 := ⟨c.modes.d.length - 1, by have := List.length_pos_iff.2 (hm rfl); omega⟩
      have hji : IntKind.i64.wrap ((c.modes.d.length : Int) - 1) = (j : Int) := by rw [wrapId (by omega) (by omega)]; omega
      have hjl : j < c.modes.d.length := by omega
      have hq := hal j hj
      (refine Tr.enter (rs := [.tmp 4]) mixed fn31 rfl (by simp +arith [Tryz.ntmps31]) fun u => ?_; simp only [cd31, Tryz.f31])
      refine Tr.famAt (xs := c.modes.d) (j : Int) S.K (by omega) (by omega) ?_
      rw [Int.toNat_natCast]
      have hX := And.intro pl31.eq_def (And.intro hni hji); repeat' (first | refine S.x ?_ | refine S.y ?_ ?_ | (refine G.prop ?_; assumption) | intro hb | ((fail_if_success refine G.tr ?_); exact G.prop S.p) | fail)
      all_goals
        refine sameMode hjl S.K S.K ?_
        refine Tr.fin hK ⟨by rw [hq]; congr 1; rw [decide_eq_decide]; omega, rfl⟩ ?_
        exact S.E
    · have hkk : k = 0 ∨ k = 1 ∨ k = 2 ∨ k = 3 ∨ k = 4 ∨ k = 5 ∨ k = 6 ∨ k = 7 ∨ k = 8 ∨ k = 9 ∨ k = 11 ∨ k = 12 ∨ k = 13 ∨ k = 14 ∨ k = 15 := by omega
      rcases hkk with rfl | rfl | rfl | rfl | rfl | rfl | rfl | rfl | rfl | rfl | rfl | rfl | rfl | rfl | rfl
      all_goals
        (refine Tr.enter (rs := [.tmp 4]) mixed fn31 rfl (by simp +arith [Tryz.ntmps31]) fun u => ?_; simp only [cd31, Tryz.f31])
        have hX := And.intro pl31.eq_def hni; repeat' (first | refine S.x ?_ | refine S.y ?_ ?_ | (refine G.prop ?_; assumption) | intro hb | ((fail_if_success refine G.tr ?_); exact G.prop S.p) | fail)
        all_goals
          refine Tr.fin hK ⟨congrArg Value.bool ?_, rfl⟩ S.E
          rw [Bool.eq_iff_iff]
          simp only [countU, hlp, decide_eq_true_eq, true_iff]
          first | decide | omega | (simp only [ConfD.v, PartD.v, List.length_map]; omega)

end Go.Proofs.YtgkhjgpgdfbdpaaGreatDoor
