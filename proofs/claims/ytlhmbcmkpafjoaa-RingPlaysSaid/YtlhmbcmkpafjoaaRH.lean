import Derived.Test.YtlhmbcmkpafjoaaRG
namespace Go.Proofs.Ytlhmbcmkpafjoaa
open Go Go.Wk
set_option maxHeartbeats 6400000
set_option maxRecDepth 100000

attribute [local irreducible] BrK GenK EGenK EUnitK CallK FnK CallV GuardO GuardC CondW opX opK opKc chkR eqR seqK blkK endL WL WD W LoopW BinK Tr drewK resL PickK NotK NilK ExtrK getK Instr.storeAt Instr.loadAt Instr.fieldAt Instr.indexAt Instr.lookup Instr.mapUpdate Instr.box Instr.alloc Instr.build Instr.buildSlice Instr.makeSlice Instr.makeMap Instr.sliceAt Instr.field Instr.index Instr.makeInterface Instr.typeAssert Builtin.len_ Builtin.append_ Builtin.cap_ Builtin.min_ Builtin.max_ Builtin.copy_ Builtin.clear_ convert binOp mp blk rob sl sep ex fact old
attribute [local irreducible] chn CW chI
theorem like04_ok {r c u : Nat} {s : SV} {cap : Nat} {xs : List Int} (hx : xs.length ≤ cap) (hc : cap ≤ 4096) : Trip Try.prog 19 [.pointer (some ⟨r, 0, none⟩), .pointer (some ⟨u, 0, none⟩)].toArray [rngB r c, chI c cap xs, rfB u s cap, sl false s.v xs]
    fun v l' => v = .bool true ∧ l' = [rngB r c, chI c cap xs, rfB u s cap, sl false s.v xs] := by
  intro F K hK
  simp only [List.cons_append, List.nil_append]
  (refine Tr.enter (rs := [.tmp 4]) mixed fn19 rfl (by simp +arith [Try.ntmps19]) fun u => ?_; simp only [cd19, Try.f19])
  ((try simp only [WKb, ↓reduceIte, Nat.reduceEqDiff, Nat.reduceAdd, pl19]) <;> (repeat' ((first
    | (refine G.tr ?_; first | refine S.a ?_ | refine Tr.brK ?_ ?_ | (refine G.call 14 ?_; first | refine S.c ?_ (h := rlen_ok) | refine S.c ?_ (h := rlen0_ok)) | (refine G.call 16 ?_; first | refine S.c ?_ (h := rsizeI_ok) | refine S.c ?_ (h := rsize0I_ok)) | (refine G.call 20 ?_; first | refine S.c ?_ (h := rat_ok ?_ ?_) | refine S.c ?_ (h := rat0_ok)) | refine S.n fun _ => ?_ | refine S.i fun hix => ?_ | (refine S.g fun hb => ?_; (try simp only [hb])) | (refine S.s (fun hb => ?_) (fun hb => ?_) <;> ((try simp only [hb]) <;> (try (have hp := hb; simp only [WKs] at hp; (try have hq := Int.not_le.2 hp); (try have hq := Int.not_lt.2 hp))))))
    | rintro _ _ ⟨rfl, rfl⟩
    | ((fail_if_success refine G.tr ?_); exact G.prop S.p)
    | fail) <;> (try simp only [WKb, ↓reduceIte, Nat.reduceEqDiff]))))
  refine Tr.loopE (α := Nat) [4, 5] [0, 1] (fun j => [.bool false, .int .i64 ((j : Int) - 1)]) (fun _ => []) (fun j => j ≤ xs.length + 2) (fun j => xs.length + 2 - j) 0 (by (repeat (first | exact TakeL.nil | (apply TakeL.cons; focus ((first | exact TakeA.dupS | exact TakeA.dupF | ((repeat (first | with_reducible exact TakeA.here | exact TakeA.fam (by omega) (by omega) | with_reducible apply TakeA.next)); done) | ((repeat (first | exact TakeA.here | apply TakeA.next)); done) | exact TakeA.famNil | exact TakeA.nilS))) | fail)); done) rfl (by omega) fun j u hj => ?_
  have hw : IntKind.i64.wrap ((j : Int) - 1 + 1) = ((j + 1 : Nat) : Int) - 1 := by rw [wrapId (by omega) (by omega)]; omega
  by_cases hin : j ≤ xs.length + 1
  · by_cases h : 1 ≤ j ∧ j ≤ xs.length
    · have ha : atV xs ((j : Int) - 1) xs.length = ix xs ((j : Int) - 1) := if_pos (by omega)
      have hd : decide (0 ≤ (j : Int) - 1 ∧ (j : Int) - 1 < xs.length) = true := by simp; omega
      have hd1 : decide (0 ≤ (j : Int) - 1) = true := by simp; omega
      have hd2 : decide ((j : Int) - 1 < xs.length) = true := by simp; omega
      ((try simp only [WKb, ↓reduceIte, Nat.reduceEqDiff]) <;> (repeat' ((first
    | (refine G.tr ?_; first | refine S.a ?_ | refine Tr.brK ?_ ?_ | (refine G.call 14 ?_; first | refine S.c ?_ (h := rlen_ok) | refine S.c ?_ (h := rlen0_ok)) | (refine G.call 16 ?_; first | refine S.c ?_ (h := rsizeI_ok) | refine S.c ?_ (h := rsize0I_ok)) | (refine G.call 20 ?_; first | refine S.c ?_ (h := rat_ok ?_ ?_) | refine S.c ?_ (h := rat0_ok)) | refine S.n fun _ => ?_ | refine S.i fun hix => ?_ | (refine S.g fun hb => ?_; (try simp only [hb])) | (refine S.s (fun hb => ?_) (fun hb => ?_) <;> ((try simp only [hb]) <;> (try (have hp := hb; simp only [WKs] at hp; (try have hq := Int.not_le.2 hp); (try have hq := Int.not_lt.2 hp))))))
    | rintro _ _ ⟨rfl, rfl⟩
    | ((fail_if_success refine G.tr ?_); exact G.prop S.p)
    | fail) <;> (try simp only [WKb, ↓reduceIte, Nat.reduceEqDiff, hw, ha, hd, hd1, hd2]))))
      all_goals (apply Tr.againE (j + 1); (focus (simp only [WKb, ↓reduceIte, Nat.reduceEqDiff])); (focus ((try simp only [WKb, ↓reduceIte, Nat.reduceEqDiff]); (all_goals ((repeat (refine cons_eq (by first | rfl | (simp [*]; done)) ?_)); rfl)); done)); (focus (first | omega | assumption | (simp only []; omega) | (refine ⟨by omega, by assumption⟩) | (simp only []; refine ⟨by omega, by assumption⟩) | ((try simp only []); (repeat' (first | omega | assumption | refine And.intro ?_ ?_)); done))); (focus (first | omega | (simp only []; omega))); (focus (((try clear hK) <;> (try simp only [WKe, *]) <;> repeat (first | with_reducible exact EntR.done | refine S.e ?_ | (refine S.f ?_ <;> (try simp only [WKe, ↓reduceIte, reduceCtorEq, Int.reduceEq, *])) | with_reducible apply EntR.ex | refine EntR.drop (F := F) ?_ | refine EntR.drop ?_)))))
    · have ha : atV xs ((j : Int) - 1) xs.length = 0 := if_neg (by omega)
      have hd : decide (0 ≤ (j : Int) - 1 ∧ (j : Int) - 1 < xs.length) = false := by simp; omega
      by_cases hj0 : j = 0
      · have hd1 : decide (0 ≤ (j : Int) - 1) = false := by simp; omega
        ((try simp only [WKb, ↓reduceIte, Nat.reduceEqDiff]) <;> (repeat' ((first
    | (refine G.tr ?_; first | refine S.a ?_ | refine Tr.brK ?_ ?_ | (refine G.call 14 ?_; first | refine S.c ?_ (h := rlen_ok) | refine S.c ?_ (h := rlen0_ok)) | (refine G.call 16 ?_; first | refine S.c ?_ (h := rsizeI_ok) | refine S.c ?_ (h := rsize0I_ok)) | (refine G.call 20 ?_; first | refine S.c ?_ (h := rat_ok ?_ ?_) | refine S.c ?_ (h := rat0_ok)) | refine S.n fun _ => ?_ | refine S.i fun hix => ?_ | (refine S.g fun hb => ?_; (try simp only [hb])) | (refine S.s (fun hb => ?_) (fun hb => ?_) <;> ((try simp only [hb]) <;> (try (have hp := hb; simp only [WKs] at hp; (try have hq := Int.not_le.2 hp); (try have hq := Int.not_lt.2 hp))))))
    | rintro _ _ ⟨rfl, rfl⟩
    | ((fail_if_success refine G.tr ?_); exact G.prop S.p)
    | fail) <;> (try simp only [WKb, ↓reduceIte, Nat.reduceEqDiff, hw, ha, hd, hd1]))))
        all_goals (apply Tr.againE (j + 1); (focus (simp only [WKb, ↓reduceIte, Nat.reduceEqDiff])); (focus ((try simp only [WKb, ↓reduceIte, Nat.reduceEqDiff]); (all_goals ((repeat (refine cons_eq (by first | rfl | (simp [*]; done)) ?_)); rfl)); done)); (focus (first | omega | assumption | (simp only []; omega) | (refine ⟨by omega, by assumption⟩) | (simp only []; refine ⟨by omega, by assumption⟩) | ((try simp only []); (repeat' (first | omega | assumption | refine And.intro ?_ ?_)); done))); (focus (first | omega | (simp only []; omega))); (focus (((try clear hK) <;> (try simp only [WKe, *]) <;> repeat (first | with_reducible exact EntR.done | refine S.e ?_ | (refine S.f ?_ <;> (try simp only [WKe, ↓reduceIte, reduceCtorEq, Int.reduceEq, *])) | with_reducible apply EntR.ex | refine EntR.drop (F := F) ?_ | refine EntR.drop ?_)))))
      · have hd1 : decide (0 ≤ (j : Int) - 1) = true := by simp; omega
        have hd2 : decide ((j : Int) - 1 < xs.length) = false := by simp; omega
        ((try simp only [WKb, ↓reduceIte, Nat.reduceEqDiff]) <;> (repeat' ((first
    | (refine G.tr ?_; first | refine S.a ?_ | refine Tr.brK ?_ ?_ | (refine G.call 14 ?_; first | refine S.c ?_ (h := rlen_ok) | refine S.c ?_ (h := rlen0_ok)) | (refine G.call 16 ?_; first | refine S.c ?_ (h := rsizeI_ok) | refine S.c ?_ (h := rsize0I_ok)) | (refine G.call 20 ?_; first | refine S.c ?_ (h := rat_ok ?_ ?_) | refine S.c ?_ (h := rat0_ok)) | refine S.n fun _ => ?_ | refine S.i fun hix => ?_ | (refine S.g fun hb => ?_; (try simp only [hb])) | (refine S.s (fun hb => ?_) (fun hb => ?_) <;> ((try simp only [hb]) <;> (try (have hp := hb; simp only [WKs] at hp; (try have hq := Int.not_le.2 hp); (try have hq := Int.not_lt.2 hp))))))
    | rintro _ _ ⟨rfl, rfl⟩
    | ((fail_if_success refine G.tr ?_); exact G.prop S.p)
    | fail) <;> (try simp only [WKb, ↓reduceIte, Nat.reduceEqDiff, hw, ha, hd, hd1, hd2]))))
        all_goals (apply Tr.againE (j + 1); (focus (simp only [WKb, ↓reduceIte, Nat.reduceEqDiff])); (focus ((try simp only [WKb, ↓reduceIte, Nat.reduceEqDiff]); (all_goals ((repeat (refine cons_eq (by first | rfl | (simp [*]; done)) ?_)); rfl)); done)); (focus (first | omega | assumption | (simp only []; omega) | (refine ⟨by omega, by assumption⟩) | (simp only []; refine ⟨by omega, by assumption⟩) | ((try simp only []); (repeat' (first | omega | assumption | refine And.intro ?_ ?_)); done))); (focus (first | omega | (simp only []; omega))); (focus (((try clear hK) <;> (try simp only [WKe, *]) <;> repeat (first | with_reducible exact EntR.done | refine S.e ?_ | (refine S.f ?_ <;> (try simp only [WKe, ↓reduceIte, reduceCtorEq, Int.reduceEq, *])) | with_reducible apply EntR.ex | refine EntR.drop (F := F) ?_ | refine EntR.drop ?_)))))
  · ((try simp only [WKb, ↓reduceIte, Nat.reduceEqDiff]) <;> (repeat' ((first
    | (refine G.tr ?_; first | refine S.a ?_ | refine Tr.brK ?_ ?_ | (refine G.call 14 ?_; first | refine S.c ?_ (h := rlen_ok) | refine S.c ?_ (h := rlen0_ok)) | (refine G.call 16 ?_; first | refine S.c ?_ (h := rsizeI_ok) | refine S.c ?_ (h := rsize0I_ok)) | (refine G.call 20 ?_; first | refine S.c ?_ (h := rat_ok ?_ ?_) | refine S.c ?_ (h := rat0_ok)) | refine S.n fun _ => ?_ | refine S.i fun hix => ?_ | (refine S.g fun hb => ?_; (try simp only [hb])) | (refine S.s (fun hb => ?_) (fun hb => ?_) <;> ((try simp only [hb]) <;> (try (have hp := hb; simp only [WKs] at hp; (try have hq := Int.not_le.2 hp); (try have hq := Int.not_lt.2 hp))))))
    | rintro _ _ ⟨rfl, rfl⟩
    | ((fail_if_success refine G.tr ?_); exact G.prop S.p)
    | fail) <;> (try simp only [WKb, ↓reduceIte, Nat.reduceEqDiff]))))
    all_goals
      refine Tr.fin hK ⟨(by first | (simp [*]; done) | (simp only [WKe, ↓reduceIte, reduceCtorEq, Int.reduceEq, eq_self, *]; done) | (simp only [WKe, ↓reduceIte, reduceCtorEq, Int.reduceEq, *]; rfl)), rfl⟩ ?_
      ((try clear hK) <;> (try simp only [WKe, *]) <;> repeat (first | with_reducible exact EntR.done | refine S.e ?_ | (refine S.f ?_ <;> (try simp only [WKe, ↓reduceIte, reduceCtorEq, Int.reduceEq, *])) | with_reducible apply EntR.ex | refine EntR.drop (F := F) ?_ | refine EntR.drop ?_))

structure Act04 where
  act : Int
  on : Int
  n : Int
instance : Inhabited Act04 := ⟨⟨0, 0, 0⟩⟩
instance : En Act04 := ⟨fun d => [.int .i64 d.act, .int .i64 d.on, .int .i64 d.n], 3, fun _ => rfl, fun _ => rfl, by decide⟩
theorem castIf {p q : Prop} [Decidable p] [Decidable q] {α : Type} {a b : α} (h : p ↔ q) : (if p then a else b) = (if q then a else b) := by
  by_cases hp : p
  · rw [if_pos hp, if_pos (h.1 hp)]
  · rw [if_neg hp, if_neg (fun hq => hp (h.2 hq))]
theorem done04_ok {r c r2 c2 u v : Nat} {s t : SV} {cap cap2 : Nat} {xs ys : List Int} {a : Act04} (hx : xs.length ≤ cap) (hc : cap ≤ 4096) (hy : ys.length ≤ cap2) (hc2 : cap2 ≤ 4096) :
    Trip Try.prog 18 [.pointer (some ⟨r, 0, none⟩), .pointer (some ⟨r2, 0, none⟩), .pointer (some ⟨u, 0, none⟩), .pointer (some ⟨v, 0, none⟩), .agg (En.enc a).toArray].toArray [rngB r c, chI c cap xs, rngB r2 c2, chI c2 cap2 ys, rfB u s cap, sl false s.v xs, rfB v t cap2, sl false t.v ys]
    fun w l' => ∃ s2 t2 xs2 ys2, xs2.length ≤ cap ∧ ys2.length ≤ cap2 ∧ w = .bool true ∧ l' = [rngB r c, chI c cap xs2, rngB r2 c2, chI c2 cap2 ys2, rfB u s2 cap, sl false (SV.v s2) xs2, rfB v t2 cap2, sl false (SV.v t2) ys2] := by
  intro F K hK
  obtain ⟨act, on, n⟩ := a
  simp only [List.cons_append, List.nil_append, En.enc]
  (refine Tr.enter (rs := [.tmp 10]) mixed fn18 rfl (by simp +arith [Try.ntmps18]) fun u => ?_; simp only [cd18, Try.f18])
  by_cases h0 : act = 0
  · subst h0
    by_cases hr : xs.length < cap
    · have hr' : (xs.length : Int) < (cap : Int) := by omega
      have hd : decide (xs.length < cap) = decide ((xs.length : Int) < (cap : Int)) := by rw [decide_eq_decide]; omega
      ((try simp only [WKb, ↓reduceIte, Nat.reduceAdd]) <;> (repeat' ((first
    | (refine G.tr ?_; first | refine S.a ?_ | refine Tr.brK ?_ ?_ | (refine G.call 12 ?_; first | refine S.c ?_ (h := rput_ok) | refine S.c ?_ (h := rput0_ok)) | (refine G.call 39 ?_; refine S.c ?_ (h := fput_ok ?_)) | (refine G.call 13 ?_; first | refine S.c ?_ (h := rtake_ok) | refine S.c ?_ (h := rtake0_ok)) | (refine G.call 40 ?_; refine S.c ?_ (h := ftake_ok ?_)) | (refine G.call 22 ?_; first | refine S.c ?_ (h := rclearI_ok ?_) | refine S.c ?_ (h := rclear0I_ok)) | (refine G.call 21 ?_; first | refine S.c ?_ (h := rmove_ok ?_ ?_ ?_) | refine S.c ?_ (h := rmoveS_ok) | refine S.c ?_ (h := rmove0_ok) | refine S.c ?_ (h := rmoveN_ok ?_)) | (refine G.call 41 ?_; refine S.c ?_ (h := fmove_ok ?_ ?_ ?_)) | refine S.n fun _ => ?_ | refine S.i fun hix => ?_ | (refine S.g fun hb => ?_; (try simp only [hb])) | (refine S.s (fun hb => ?_) (fun hb => ?_) <;> ((try simp only [hb]) <;> (try (have hp := hb; simp only [WKs] at hp; (try have hq := Int.not_le.2 hp); (try have hq := Int.not_lt.2 hp))))))
    | rintro _ _ ⟨rfl, rfl⟩
    | rintro _ _ ⟨_, rfl, rfl⟩
    | rintro _ _ ⟨_, _, rfl, rfl⟩
    | ((fail_if_success refine G.tr ?_); exact G.prop S.p)
    | fail) <;> (try simp only [WKb, ↓reduceIte, Nat.reduceEqDiff, pl18, hd]))))
      all_goals
        apply Tr.fin hK ⟨_, t, xs ++ [n], ys, (by simp; omega), hy, (by first | (simp [*]; done) | (simp only [WKe, ↓reduceIte, reduceCtorEq, Int.reduceEq, eq_self, *]; done) | (simp only [WKe, ↓reduceIte, reduceCtorEq, Int.reduceEq, *]; rfl)), rfl⟩
        ((try clear hK) <;> (try simp only [WKe, ↓reduceIte, *]) <;> repeat (first | with_reducible exact EntR.done | refine S.e ?_ | (refine S.f ?_ <;> (try simp only [WKe, hr, hr', if_true, ↓reduceIte, reduceCtorEq, Int.reduceEq, *])) | with_reducible apply EntR.ex | refine EntR.drop (F := F) ?_ | refine EntR.drop ?_))
    · have hr' : ¬ (xs.length : Int) < (cap : Int) := by omega
      have hd : decide (xs.length < cap) = decide ((xs.length : Int) < (cap : Int)) := by rw [decide_eq_decide]; omega
      ((try simp only [WKb, ↓reduceIte, Nat.reduceAdd]) <;> (repeat' ((first
    | (refine G.tr ?_; first | refine S.a ?_ | refine Tr.brK ?_ ?_ | (refine G.call 12 ?_; first | refine S.c ?_ (h := rput_ok) | refine S.c ?_ (h := rput0_ok)) | (refine G.call 39 ?_; refine S.c ?_ (h := fput_ok ?_)) | (refine G.call 13 ?_; first | refine S.c ?_ (h := rtake_ok) | refine S.c ?_ (h := rtake0_ok)) | (refine G.call 40 ?_; refine S.c ?_ (h := ftake_ok ?_)) | (refine G.call 22 ?_; first | refine S.c ?_ (h := rclearI_ok ?_) | refine S.c ?_ (h := rclear0I_ok)) | (refine G.call 21 ?_; first | refine S.c ?_ (h := rmove_ok ?_ ?_ ?_) | refine S.c ?_ (h := rmoveS_ok) | refine S.c ?_ (h := rmove0_ok) | refine S.c ?_ (h := rmoveN_ok ?_)) | (refine G.call 41 ?_; refine S.c ?_ (h := fmove_ok ?_ ?_ ?_)) | refine S.n fun _ => ?_ | refine S.i fun hix => ?_ | (refine S.g fun hb => ?_; (try simp only [hb])) | (refine S.s (fun hb => ?_) (fun hb => ?_) <;> ((try simp only [hb]) <;> (try (have hp := hb; simp only [WKs] at hp; (try have hq := Int.not_le.2 hp); (try have hq := Int.not_lt.2 hp))))))
    | rintro _ _ ⟨rfl, rfl⟩
    | rintro _ _ ⟨_, rfl, rfl⟩
    | rintro _ _ ⟨_, _, rfl, rfl⟩
    | ((fail_if_success refine G.tr ?_); exact G.prop S.p)
    | fail) <;> (try simp only [WKb, ↓reduceIte, Nat.reduceEqDiff, pl18, hd]))))
      all_goals
        apply Tr.fin hK ⟨_, t, xs, ys, hx, hy, (by first | (simp [*]; done) | (simp only [WKe, ↓reduceIte, reduceCtorEq, Int.reduceEq, eq_self, *]; done) | (simp only [WKe, ↓reduceIte, reduceCtorEq, Int.reduceEq, *]; rfl)), rfl⟩
        ((try clear hK) <;> (try simp only [WKe, ↓reduceIte, *]) <;> repeat (first | with_reducible exact EntR.done | refine S.e ?_ | (refine S.f ?_ <;> (try simp only [WKe, hr, hr', if_false, ↓reduceIte, reduceCtorEq, Int.reduceEq, *])) | with_reducible apply EntR.ex | refine EntR.drop (F := F) ?_ | refine EntR.drop ?_))
  by_cases h1 : act = 1
  · subst h1
    ((try simp only [WKb, ↓reduceIte, Nat.reduceAdd]) <;> (repeat' ((first
    | (refine G.tr ?_; first | refine S.a ?_ | refine Tr.brK ?_ ?_ | (refine G.call 12 ?_; first | refine S.c ?_ (h := rput_ok) | refine S.c ?_ (h := rput0_ok)) | (refine G.call 39 ?_; refine S.c ?_ (h := fput_ok ?_)) | (refine G.call 13 ?_; first | refine S.c ?_ (h := rtake_ok) | refine S.c ?_ (h := rtake0_ok)) | (refine G.call 40 ?_; refine S.c ?_ (h := ftake_ok ?_)) | (refine G.call 22 ?_; first | refine S.c ?_ (h := rclearI_ok ?_) | refine S.c ?_ (h := rclear0I_ok)) | (refine G.call 21 ?_; first | refine S.c ?_ (h := rmove_ok ?_ ?_ ?_) | refine S.c ?_ (h := rmoveS_ok) | refine S.c ?_ (h := rmove0_ok) | refine S.c ?_ (h := rmoveN_ok ?_)) | (refine G.call 41 ?_; refine S.c ?_ (h := fmove_ok ?_ ?_ ?_)) | refine S.n fun _ => ?_ | refine S.i fun hix => ?_ | (refine S.g fun hb => ?_; (try simp only [hb])) | (refine S.s (fun hb => ?_) (fun hb => ?_) <;> ((try simp only [hb]) <;> (try (have hp := hb; simp only [WKs] at hp; (try have hq := Int.not_le.2 hp); (try have hq := Int.not_lt.2 hp))))))
    | rintro _ _ ⟨rfl, rfl⟩
    | rintro _ _ ⟨_, rfl, rfl⟩
    | rintro _ _ ⟨_, _, rfl, rfl⟩
    | ((fail_if_success refine G.tr ?_); exact G.prop S.p)
    | fail) <;> (try simp only [WKb, ↓reduceIte, Nat.reduceEqDiff, Int.reduceEq]))))
    all_goals
      apply Tr.fin hK ⟨_, t, xs.tail, ys, (by simp; omega), hy, (by first | (simp [*]; done) | (simp only [WKe, ↓reduceIte, reduceCtorEq, Int.reduceEq, eq_self, *]; done) | (simp only [WKe, ↓reduceIte, reduceCtorEq, Int.reduceEq, *]; rfl)), rfl⟩
      ((try clear hK) <;> (try simp only [WKe, *]) <;> repeat (first | with_reducible exact EntR.done | refine S.e ?_ | (refine S.f ?_ <;> (try simp only [WKe, ↓reduceIte, reduceCtorEq, Int.reduceEq, *])) | with_reducible apply EntR.ex | refine EntR.drop (F := F) ?_ | refine EntR.drop ?_))
  by_cases h2 : act = 2
  · subst h2
    ((try simp only [WKb, ↓reduceIte, Nat.reduceAdd]) <;> (repeat' ((first
    | (refine G.tr ?_; first | refine S.a ?_ | refine Tr.brK ?_ ?_ | (refine G.call 12 ?_; first | refine S.c ?_ (h := rput_ok) | refine S.c ?_ (h := rput0_ok)) | (refine G.call 39 ?_; refine S.c ?_ (h := fput_ok ?_)) | (refine G.call 13 ?_; first | refine S.c ?_ (h := rtake_ok) | refine S.c ?_ (h := rtake0_ok)) | (refine G.call 40 ?_; refine S.c ?_ (h := ftake_ok ?_)) | (refine G.call 22 ?_; first | refine S.c ?_ (h := rclearI_ok ?_) | refine S.c ?_ (h := rclear0I_ok)) | (refine G.call 21 ?_; first | refine S.c ?_ (h := rmove_ok ?_ ?_ ?_) | refine S.c ?_ (h := rmoveS_ok) | refine S.c ?_ (h := rmove0_ok) | refine S.c ?_ (h := rmoveN_ok ?_)) | (refine G.call 41 ?_; refine S.c ?_ (h := fmove_ok ?_ ?_ ?_)) | refine S.n fun _ => ?_ | refine S.i fun hix => ?_ | (refine S.g fun hb => ?_; (try simp only [hb])) | (refine S.s (fun hb => ?_) (fun hb => ?_) <;> ((try simp only [hb]) <;> (try (have hp := hb; simp only [WKs] at hp; (try have hq := Int.not_le.2 hp); (try have hq := Int.not_lt.2 hp))))))
    | rintro _ _ ⟨rfl, rfl⟩
    | rintro _ _ ⟨_, rfl, rfl⟩
    | rintro _ _ ⟨_, _, rfl, rfl⟩
    | ((fail_if_success refine G.tr ?_); exact G.prop S.p)
    | fail) <;> (try simp only [WKb, ↓reduceIte, Nat.reduceEqDiff, Int.reduceEq]))))
    all_goals
      refine Tr.nilSl (α := Int) ?_
      apply Tr.fin hK ⟨⟨none, 0, 0⟩, t, [], ys, (by simp), hy, (by first | (simp [*]; done) | (simp only [WKe, ↓reduceIte, reduceCtorEq, Int.reduceEq, eq_self, *]; done) | (simp only [WKe, ↓reduceIte, reduceCtorEq, Int.reduceEq, *]; rfl)), rfl⟩
      ((try clear hK) <;> (try simp only [WKe, *]) <;> repeat (first | with_reducible exact EntR.done | refine S.e ?_ | (refine S.f ?_ <;> (try simp only [WKe, ↓reduceIte, reduceCtorEq, Int.reduceEq, *])) | with_reducible apply EntR.ex | refine EntR.drop (F := F) ?_ | refine EntR.drop ?_))
  by_cases h3 : act = 3
  · subst h3
    ((try simp only [WKb, ↓reduceIte, Nat.reduceAdd]) <;> (repeat' ((first
    | (refine G.tr ?_; first | refine S.a ?_ | refine Tr.brK ?_ ?_ | (refine G.call 12 ?_; first | refine S.c ?_ (h := rput_ok) | refine S.c ?_ (h := rput0_ok)) | (refine G.call 39 ?_; refine S.c ?_ (h := fput_ok ?_)) | (refine G.call 13 ?_; first | refine S.c ?_ (h := rtake_ok) | refine S.c ?_ (h := rtake0_ok)) | (refine G.call 40 ?_; refine S.c ?_ (h := ftake_ok ?_)) | (refine G.call 22 ?_; first | refine S.c ?_ (h := rclearI_ok ?_) | refine S.c ?_ (h := rclear0I_ok)) | (refine G.call 21 ?_; first | refine S.c ?_ (h := rmove_ok ?_ ?_ ?_) | refine S.c ?_ (h := rmoveS_ok) | refine S.c ?_ (h := rmove0_ok) | refine S.c ?_ (h := rmoveN_ok ?_)) | (refine G.call 41 ?_; refine S.c ?_ (h := fmove_ok ?_ ?_ ?_)) | refine S.n fun _ => ?_ | refine S.i fun hix => ?_ | (refine S.g fun hb => ?_; (try simp only [hb])) | (refine S.s (fun hb => ?_) (fun hb => ?_) <;> ((try simp only [hb]) <;> (try (have hp := hb; simp only [WKs] at hp; (try have hq := Int.not_le.2 hp); (try have hq := Int.not_lt.2 hp))))))
    | rintro _ _ ⟨rfl, rfl⟩
    | rintro _ _ ⟨_, rfl, rfl⟩
    | rintro _ _ ⟨_, _, rfl, rfl⟩
    | ((fail_if_success refine G.tr ?_); exact G.prop S.p)
    | fail) <;> (try simp only [WKb, ↓reduceIte, Nat.reduceEqDiff, Int.reduceEq]))))
    all_goals
      apply Tr.fin hK ⟨_, _, [], ys ++ xs.take (cap2 - ys.length), (by simp), (by simp; omega), (by first | (simp [*]; done) | (simp only [WKe, ↓reduceIte, reduceCtorEq, Int.reduceEq, eq_self, *]; done) | (simp only [WKe, ↓reduceIte, reduceCtorEq, Int.reduceEq, *]; rfl)), rfl⟩
      ((try clear hK) <;> (try simp only [WKe, *]) <;> repeat (first | with_reducible exact EntR.done | refine S.e ?_ | (refine S.f ?_ <;> (try simp only [WKe, ↓reduceIte, reduceCtorEq, Int.reduceEq, *])) | with_reducible apply EntR.ex | refine EntR.drop (F := F) ?_ | refine EntR.drop ?_))
  · ((try simp only [WKb, ↓reduceIte, Nat.reduceAdd]) <;> (repeat' ((first
    | (refine G.tr ?_; first | refine S.a ?_ | refine Tr.brK ?_ ?_ | (refine G.call 12 ?_; first | refine S.c ?_ (h := rput_ok) | refine S.c ?_ (h := rput0_ok)) | (refine G.call 39 ?_; refine S.c ?_ (h := fput_ok ?_)) | (refine G.call 13 ?_; first | refine S.c ?_ (h := rtake_ok) | refine S.c ?_ (h := rtake0_ok)) | (refine G.call 40 ?_; refine S.c ?_ (h := ftake_ok ?_)) | (refine G.call 22 ?_; first | refine S.c ?_ (h := rclearI_ok ?_) | refine S.c ?_ (h := rclear0I_ok)) | (refine G.call 21 ?_; first | refine S.c ?_ (h := rmove_ok ?_ ?_ ?_) | refine S.c ?_ (h := rmoveS_ok) | refine S.c ?_ (h := rmove0_ok) | refine S.c ?_ (h := rmoveN_ok ?_)) | (refine G.call 41 ?_; refine S.c ?_ (h := fmove_ok ?_ ?_ ?_)) | refine S.n fun _ => ?_ | refine S.i fun hix => ?_ | (refine S.g fun hb => ?_; (try simp only [hb])) | (refine S.s (fun hb => ?_) (fun hb => ?_) <;> ((try simp only [hb]) <;> (try (have hp := hb; simp only [WKs] at hp; (try have hq := Int.not_le.2 hp); (try have hq := Int.not_lt.2 hp))))))
    | rintro _ _ ⟨rfl, rfl⟩
    | rintro _ _ ⟨_, rfl, rfl⟩
    | rintro _ _ ⟨_, _, rfl, rfl⟩
    | ((fail_if_success refine G.tr ?_); exact G.prop S.p)
    | fail) <;> (try simp only [WKb, ↓reduceIte, Nat.reduceEqDiff]))))
    all_goals
      apply Tr.fin hK ⟨s, t, xs, ys, hx, hy, (by first | (simp [*]; done) | (simp only [WKe, ↓reduceIte, reduceCtorEq, Int.reduceEq, eq_self, *]; done) | (simp only [WKe, ↓reduceIte, reduceCtorEq, Int.reduceEq, *]; rfl)), rfl⟩
      ((try clear hK) <;> (try simp only [WKe, *]) <;> repeat (first | with_reducible exact EntR.done | refine S.e ?_ | (refine S.f ?_ <;> (try simp only [WKe, ↓reduceIte, reduceCtorEq, Int.reduceEq, *])) | with_reducible apply EntR.ex | refine EntR.drop (F := F) ?_ | refine EntR.drop ?_))

end Go.Proofs.Ytlhmbcmkpafjoaa
