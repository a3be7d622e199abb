import Derived.Test.YtlmcoiloepoggaaPJ
import Derived.Test.YtlmcoiloepoggaaWkN
namespace Go.Proofs.Ytlmcoiloepoggaa
open Go Go.Wk
set_option maxHeartbeats 6400000
set_option maxRecDepth 10000
attribute [local irreducible] BrK GenK EGenK EUnitK CallK FnK CallV GuardO GuardC CondW opX opK opKc chkR eqR seqK blkK endL WL WD W LoopW BinK Tr drewK resL PickK NotK NilK ExtrK getK Instr.storeAt Instr.loadAt Instr.fieldAt Instr.indexAt Instr.lookup Instr.mapUpdate Instr.box Instr.alloc Instr.build Instr.buildSlice Instr.makeSlice Instr.makeMap Instr.sliceAt Instr.field Instr.index Instr.makeInterface Instr.typeAssert Builtin.len_ Builtin.append_ Builtin.cap_ Builtin.min_ Builtin.max_ Builtin.copy_ Builtin.clear_ convert binOp mp blk rob sl sep ex fact old
theorem rreceive_ok {r : Nat} {a b c d : SV} {ps : List AP} {xs : List (SL Msg)} {k : Int} (hx : xs.map mo = ps.map AP.ms) (hb : ps.length ≤ 1000000) (hm : (ix ps k).ms.length ≤ 1000000) :
    Trip Try.prog 99 [.pointer (some ⟨r, 0, none⟩), .int .i64 k].toArray [rB r a b c d, sl true a.v (ps.map AP.c), sl false b.v xs, fzl xs, sl false c.v (ps.map AP.fresh), sl false d.v (ps.map AP.lost)]
    fun v l' => ∃ b2 c2 d2 xs2 t, xs2.map mo = (outA ps k true).map AP.ms ∧ v = .tuple #[SV.v t, .int .i64 (outCA ps k true)] ∧ l' = [Fz.fz (SL.mk t (outDA ps k true) : Msg), rB r a b2 c2 d2, sl true a.v ((outA ps k true).map AP.c), sl false b2.v xs2, fzl xs2, sl false c2.v ((outA ps k true).map AP.fresh), sl false d2.v ((outA ps k true).map AP.lost)] := by
  intro F K hK
  simp only [List.cons_append, List.nil_append]
  have hdm : (⟨⟨none, 0, 0⟩, []⟩ : Msg) = default := rfl
  have hl := ap_len hx
  have hlc : (ps.map AP.c).length = ps.length := List.length_map _
  have hlo : (ps.map AP.lost).length = ps.length := List.length_map _
  have hlf : (ps.map AP.fresh).length = ps.length := List.length_map _
  (refine Tr.enter (rs := [.tmp 4, .tmp 5]) mixed fn99 rfl (by simp +arith [Try.ntmps99]) fun u => ?_; simp only [cd99, Try.f99])
  cases hc : canA ps k true true
  · have hD : outDA ps k true = [] := by simp [outDA, hc]
    have hI : outA ps k true = ps := by simp [outA, hc]
    ((try simp only [WKb, ↓reduceIte, Nat.reduceEqDiff, Nat.reduceAdd]) <;> (repeat' ((first
    | (refine G.tr ?_; first | refine S.a ?_ | refine Tr.brK ?_ ?_ | (refine G.call 134 ?_; refine S.c ?_ (h := rcan_ok)) | (refine G.call 135 ?_; first | refine S.c ?_ (h := rset0_ok ?_ ?_ ?_ ?_ ?_) | refine S.c ?_ (h := rset_ok ?_ ?_ ?_ ?_ ?_)) | refine S.n fun _ => ?_ | refine S.i fun hix => ?_ | (refine S.g fun hb => ?_; (try simp only [hb])) | (refine S.s (fun hb => ?_) (fun hb => ?_) <;> ((try simp only [hb]) <;> (try (have hp := hb; simp only [WKs] at hp; (try have hq := Int.not_le.2 hp); (try have hq := Int.not_lt.2 hp))))))
    | rintro _ _ ⟨rfl, rfl⟩
    | rintro _ _ ⟨_, _, _, rfl, rfl⟩
    | ((fail_if_success refine G.tr ?_); exact G.prop S.p)
    | fail) <;> (try simp only [WKb, ↓reduceIte, Nat.reduceEqDiff, hc]))))
    all_goals
      apply Tr.fin hK ⟨b, c, d, xs, ⟨none, 0, 0⟩, by rw [hI]; exact hx, (by first | (simp [*, outCA]; done) | (simp only [WKe, ↓reduceIte, *, outCA]; done) | (simp only [WKe, ↓reduceIte, *, outCA]; rfl)), rfl⟩
      ((try clear hK) <;> (try simp only [WKe, *]) <;> repeat (first | with_reducible exact EntR.done | refine S.e ?_ | (refine S.f ?_ <;> (try simp only [WKe, hD, hI, hdm, ↓reduceIte, reduceCtorEq, Int.reduceEq, *])) | with_reducible apply EntR.ex | refine EntR.drop (F := F) ?_ | refine EntR.drop ?_))
  · obtain ⟨h0, h1, hq, hi⟩ := canA_t hc
    have hmc := ix_map (f := AP.c) h0 h1
    have hmo := ix_map (f := AP.lost) h0 h1
    have hmf := ix_map (f := AP.fresh) h0 h1
    have hlm := ap_mlen hx h0 h1
    have hms := ap_ms hx h0 h1
    have hkc := ap_keep (f := AP.c) h0 h1
    have hkl := ap_keep (f := AP.lost) h0 h1
    by_cases he : ((ix ps k).ms.length : Int) = 0
    · have hD : outDA ps k true = [] := by simp only [outDA, hc, he, if_true]
      have hI : outA ps k true = ps := by simp only [outA, hc, he, if_true]
      ((try simp only [WKb, ↓reduceIte, Nat.reduceEqDiff, Nat.reduceAdd]) <;> (repeat' ((first
    | (refine G.tr ?_; first | refine S.a ?_ | refine Tr.brK ?_ ?_ | (refine G.call 134 ?_; refine S.c ?_ (h := rcan_ok)) | (refine G.call 135 ?_; first | refine S.c ?_ (h := rset0_ok ?_ ?_ ?_ ?_ ?_) | refine S.c ?_ (h := rset_ok ?_ ?_ ?_ ?_ ?_)) | refine S.n fun _ => ?_ | refine S.i fun hix => ?_ | (refine S.g fun hb => ?_; (try simp only [hb])) | (refine S.s (fun hb => ?_) (fun hb => ?_) <;> ((try simp only [hb]) <;> (try (have hp := hb; simp only [WKs] at hp; (try have hq := Int.not_le.2 hp); (try have hq := Int.not_lt.2 hp))))))
    | rintro _ _ ⟨rfl, rfl⟩
    | rintro _ _ ⟨_, _, _, rfl, rfl⟩
    | ((fail_if_success refine G.tr ?_); exact G.prop S.p)
    | fail) <;> (try simp only [WKb, ↓reduceIte, Nat.reduceEqDiff, hc, hlm]))))
      all_goals
        apply Tr.fin hK ⟨b, c, d, xs, ⟨none, 0, 0⟩, by rw [hI]; exact hx, (by first | (simp [*, outCA]; done) | (simp only [↓reduceIte, eq_self, *, outCA]; done) | (simp only [↓reduceIte, *, outCA]; rfl)), rfl⟩
        ((try clear hK) <;> (try simp only [WKe, *]) <;> repeat (first | with_reducible exact EntR.done | refine S.e ?_ | (refine S.f ?_ <;> (try simp only [WKe, hD, hI, hdm, ↓reduceIte, reduceCtorEq, Int.reduceEq, *])) | with_reducible apply EntR.ex | refine EntR.drop (F := F) ?_ | refine EntR.drop ?_))
    · have hD : outDA ps k true = (ix (ix xs k).d 0).d := by
        simp only [outDA, hc, he, if_true, if_false]
        rw [← hms, ix_map (f := SL.d) (by omega) (by omega)]
      have hI : outA ps k true = ps.set k.toNat { ix ps k with ms := (ix ps k).ms.drop 1, fresh := false } := by simp only [outA, hc, he, if_true, if_false]
      have hS : ∀ t, (xs.set k.toNat ⟨t, (ix xs k).d.drop 1⟩).map mo = (outA ps k true).map AP.ms := fun t => by
        rw [hI]; exact ap_set hx (by simp [mo, ← hms])
      ((try simp only [WKb, ↓reduceIte, Nat.reduceEqDiff, Nat.reduceAdd]) <;> (repeat' ((first
    | (refine G.tr ?_; first | refine S.d ?_ | refine S.a ?_ | refine Tr.brK ?_ ?_ | (refine G.call 134 ?_; refine S.c ?_ (h := rcan_ok)) | (refine G.call 135 ?_; first | refine S.c ?_ (h := rset0_ok ?_ ?_ ?_ ?_ ?_) | refine S.c ?_ (h := rset_ok ?_ ?_ ?_ ?_ ?_)) | refine S.n fun _ => ?_ | refine S.i fun hix => ?_ | (refine S.g fun hb => ?_; (try simp only [hb])) | (refine S.s (fun hb => ?_) (fun hb => ?_) <;> ((try simp only [hb]) <;> (try (have hp := hb; simp only [WKs] at hp; (try have hq := Int.not_le.2 hp); (try have hq := Int.not_lt.2 hp))))))
    | rintro _ _ ⟨rfl, rfl⟩
    | rintro _ _ ⟨_, _, _, rfl, rfl⟩
    | (refine G.call 135 ?_; refine Tr.freezeAt (α := Msg) (by (repeat (first | exact TakeA.here | apply TakeA.next)); done) ?_)
    | ((fail_if_success refine G.tr ?_); exact G.prop S.p)
    | fail) <;> (try simp only [WKb, ↓reduceIte, Nat.reduceEqDiff, pl99, hc, hmo, hlm]))))
      all_goals
        apply Tr.fin hK ⟨_, _, _, _, (ix (ix xs k).d 0).s, hS _, (by first | (simp [*, outCA]; done) | (simp only [↓reduceIte, eq_self, *, outCA]; done) | (simp only [WKe, ↓reduceIte, reduceCtorEq, Int.reduceEq, *, outCA, hc, he]; rfl)), rfl⟩
        ((try clear hK) <;> (try simp only [WKe, List.map_set, *]) <;> repeat (first | with_reducible exact EntR.done | refine S.e ?_ | (refine S.f ?_ <;> (try simp only [WKe, hD, hI, List.map_set, hkc, hkl, ↓reduceIte, reduceCtorEq, Int.reduceEq, *])) | with_reducible apply EntR.ex | refine EntR.drop (F := F) ?_ | refine EntR.drop ?_))

theorem rdeliver_ok {r : Nat} {a b c d s : SV} {ps : List AP} {xs : List (SL Msg)} {k : Int} {m : List UInt8} (hx : xs.map mo = ps.map AP.ms) (hb : ps.length ≤ 1000000) (hm : (ix ps k).ms.length ≤ 1000000) :
    Trip Try.prog 101 [.pointer (some ⟨r, 0, none⟩), .int .i64 k, s.v].toArray [rB r a b c d, sl true a.v (ps.map AP.c), sl false b.v xs, fzl xs, sl false c.v (ps.map AP.fresh), sl false d.v (ps.map AP.lost), sl true s.v m]
    fun v l' => ∃ b2 c2 d2 xs2, xs2.map mo = (delA ps k m).map AP.ms ∧ v = .bool (delBA ps k) ∧ l' = [rB r a b2 c2 d2, sl true a.v ((delA ps k m).map AP.c), sl false b2.v xs2, fzl xs2, sl false c2.v ((delA ps k m).map AP.fresh), sl false d2.v ((delA ps k m).map AP.lost)] := by
  intro F K hK
  simp only [List.cons_append, List.nil_append]
  have hdm : (⟨⟨none, 0, 0⟩, []⟩ : Msg) = default := rfl
  have hl := ap_len hx
  have hlc : (ps.map AP.c).length = ps.length := List.length_map _
  have hlo : (ps.map AP.lost).length = ps.length := List.length_map _
  have hlf : (ps.map AP.fresh).length = ps.length := List.length_map _
  (refine Tr.enter (rs := [.tmp 6]) mixed fn101 rfl (by simp +arith [Try.ntmps101]) fun u => ?_; simp only [cd101, Try.f101])
  cases hc : canA ps k false true
  · cases hc2 : canA ps k true true
    · have hI : delA ps k m = ps := by simp [delA, hc, hc2]
      ((try simp only [WKb, ↓reduceIte, Nat.reduceEqDiff, Nat.reduceAdd]) <;> (repeat' ((first
    | (refine G.tr ?_; first | refine S.a ?_ | refine Tr.brK ?_ ?_ | (refine G.call 134 ?_; refine S.c ?_ (h := rcan_ok)) | (refine G.call 135 ?_; first | refine S.c ?_ (h := rset0_ok ?_ ?_ ?_ ?_ ?_) | refine S.c ?_ (h := rset_ok ?_ ?_ ?_ ?_ ?_)) | refine S.n fun _ => ?_ | refine S.i fun hix => ?_ | (refine S.g fun hb => ?_; (try simp only [hb])) | (refine S.s (fun hb => ?_) (fun hb => ?_) <;> ((try simp only [hb]) <;> (try (have hp := hb; simp only [WKs] at hp; (try have hq := Int.not_le.2 hp); (try have hq := Int.not_lt.2 hp))))))
    | rintro _ _ ⟨rfl, rfl⟩
    | rintro _ _ ⟨_, _, _, rfl, rfl⟩
    | ((fail_if_success refine G.tr ?_); exact G.prop S.p)
    | fail) <;> (try simp only [WKb, ↓reduceIte, Nat.reduceEqDiff, hc, hc2]))))
      all_goals
        apply Tr.fin hK ⟨b, c, d, xs, by rw [hI]; exact hx, (by first | (simp [*, delBA]; done) | (simp only [WKe, ↓reduceIte, reduceCtorEq, Int.reduceEq, eq_self, *, delBA, hc, hc2]; done) | (simp only [WKe, ↓reduceIte, reduceCtorEq, Int.reduceEq, *, delBA, hc, hc2]; rfl)), rfl⟩
        ((try clear hK) <;> (try simp only [WKe, *]) <;> repeat (first | with_reducible exact EntR.done | refine S.e ?_ | (refine S.f ?_ <;> (try simp only [WKe, hI, ↓reduceIte, reduceCtorEq, Int.reduceEq, *])) | with_reducible apply EntR.ex | refine EntR.drop (F := F) ?_ | refine EntR.drop ?_))
    · obtain ⟨h0, h1, hq, hi⟩ := canA_t hc2
      have hmc := ix_map (f := AP.c) h0 h1
      have hmo := ix_map (f := AP.lost) h0 h1
      have hlm := ap_mlen hx h0 h1
      have hms := ap_ms hx h0 h1
      have hkc := ap_keep (f := AP.c) h0 h1
      have hkl := ap_keep (f := AP.lost) h0 h1
      by_cases hf : (ix ps k).c.depth ≤ (ix ps k).ms.length
      · have hI : delA ps k m = ps.set k.toNat { ix ps k with fresh := false, lost := IntKind.i64.wrap ((ix ps k).lost + 1) } := by simp [delA, hc, hc2, hf]
        have hS : (xs.set k.toNat ⟨(ix xs k).s, (ix xs k).d⟩).map mo = (delA ps k m).map AP.ms := by
          rw [hI]; exact ap_set hx (by simp [mo, hms])
        ((try simp only [WKb, ↓reduceIte, Nat.reduceEqDiff, Nat.reduceAdd]) <;> (repeat' ((first
    | (refine G.tr ?_; first | refine S.a ?_ | refine Tr.brK ?_ ?_ | (refine G.call 134 ?_; refine S.c ?_ (h := rcan_ok)) | (refine G.call 135 ?_; first | refine S.c ?_ (h := rset0_ok ?_ ?_ ?_ ?_ ?_) | refine S.c ?_ (h := rset_ok ?_ ?_ ?_ ?_ ?_)) | refine S.n fun _ => ?_ | refine S.i fun hix => ?_ | (refine S.g fun hb => ?_; (try simp only [hb])) | (refine S.s (fun hb => ?_) (fun hb => ?_) <;> ((try simp only [hb]) <;> (try (have hp := hb; simp only [WKs] at hp; (try have hq := Int.not_le.2 hp); (try have hq := Int.not_lt.2 hp))))))
    | rintro _ _ ⟨rfl, rfl⟩
    | rintro _ _ ⟨_, _, _, rfl, rfl⟩
    | (refine G.call 135 ?_; refine Tr.freezeAt (α := Msg) (by (repeat (first | exact TakeA.here | apply TakeA.next)); done) ?_)
    | ((fail_if_success refine G.tr ?_); exact G.prop S.p)
    | fail) <;> (try simp only [WKb, ↓reduceIte, Nat.reduceEqDiff, pl101, hc, hc2, hmc, hmo, hlm]))))
        all_goals
          apply Tr.fin hK ⟨_, _, _, _, hS, (by first | (simp [*, delBA]; done) | (simp only [WKe, ↓reduceIte, reduceCtorEq, Int.reduceEq, eq_self, *, delBA, hc, hc2, hf]; done) | (simp only [WKe, ↓reduceIte, reduceCtorEq, Int.reduceEq, *, delBA, hc, hc2, hf]; rfl)), rfl⟩
          ((try clear hK) <;> (try simp only [WKe, List.map_set, *]) <;> repeat (first | with_reducible exact EntR.done | refine S.e ?_ | (refine S.f ?_ <;> (try simp only [WKe, hI, List.map_set, hkc, hkl, ↓reduceIte, reduceCtorEq, Int.reduceEq, *])) | with_reducible apply EntR.ex | refine EntR.drop (F := F) ?_ | refine EntR.drop ?_))
      · have hI : delA ps k m = ps.set k.toNat { ix ps k with ms := (ix ps k).ms ++ [m], fresh := false } := by simp [delA, hc, hc2, hf]
        have hS : ∀ t, (xs.set k.toNat ⟨t, (ix xs k).d ++ [⟨s, m⟩]⟩).map mo = (delA ps k m).map AP.ms := fun t => by
          rw [hI]; exact ap_set hx (by simp [mo, hms])
        ((try simp only [WKb, ↓reduceIte, Nat.reduceEqDiff, Nat.reduceAdd]) <;> (repeat' ((first
    | (refine G.tr ?_; first | refine S.a ?_ | refine Tr.brK ?_ ?_ | (refine G.call 134 ?_; refine S.c ?_ (h := rcan_ok)) | (refine G.call 135 ?_; first | refine S.c ?_ (h := rset0_ok ?_ ?_ ?_ ?_ ?_) | refine S.c ?_ (h := rset_ok ?_ ?_ ?_ ?_ ?_)) | refine S.n fun _ => ?_ | refine S.i fun hix => ?_ | (refine S.g fun hb => ?_; (try simp only [hb])) | (refine S.s (fun hb => ?_) (fun hb => ?_) <;> ((try simp only [hb]) <;> (try (have hp := hb; simp only [WKs] at hp; (try have hq := Int.not_le.2 hp); (try have hq := Int.not_lt.2 hp))))))
    | rintro _ _ ⟨rfl, rfl⟩
    | rintro _ _ ⟨_, _, _, rfl, rfl⟩
    | (refine G.call 135 ?_; refine Tr.freezeAt (α := Msg) (by (repeat (first | exact TakeA.here | apply TakeA.next)); done) ?_)
    | ((fail_if_success refine G.tr ?_); exact G.prop S.p)
    | fail) <;> (try simp only [WKb, ↓reduceIte, Nat.reduceEqDiff, pl101, hc, hc2, hmc, hmo, hlm]))))
        all_goals
          apply Tr.fin hK ⟨_, _, _, _, hS _, (by first | (simp [*, delBA]; done) | (simp only [WKe, ↓reduceIte, reduceCtorEq, Int.reduceEq, eq_self, *, delBA, hc, hc2, hf]; done) | (simp only [WKe, ↓reduceIte, reduceCtorEq, Int.reduceEq, *, delBA, hc, hc2, hf]; rfl)), rfl⟩
          ((try clear hK) <;> (try simp only [WKe, List.map_set, *]) <;> repeat (first | with_reducible exact EntR.done | refine S.e ?_ | (refine S.f ?_ <;> (try simp only [WKe, hI, List.map_set, hkc, hkl, ↓reduceIte, reduceCtorEq, Int.reduceEq, *])) | with_reducible apply EntR.ex | refine EntR.drop (F := F) ?_ | refine EntR.drop ?_))
  · obtain ⟨h0, h1, hq, hi⟩ := canA_t hc
    have hmc := ix_map (f := AP.c) h0 h1
    have hmo := ix_map (f := AP.lost) h0 h1
    have hmf := ix_map (f := AP.fresh) h0 h1
    have hlm := ap_mlen hx h0 h1
    have hms := ap_ms hx h0 h1
    have hkc := ap_keep (f := AP.c) h0 h1
    have hkl := ap_keep (f := AP.lost) h0 h1
    have hI : delA ps k m = ps.set k.toNat { ix ps k with ms := [m], fresh := false } := by simp [delA, hc]
    have hS : ∀ t, (xs.set k.toNat ⟨t, [⟨s, m⟩]⟩).map mo = (delA ps k m).map AP.ms := fun t => by rw [hI]; exact ap_set hx rfl
    ((try simp only [WKb, ↓reduceIte, Nat.reduceEqDiff, Nat.reduceAdd]) <;> (repeat' ((first
    | (refine G.tr ?_; first | refine S.a ?_ | refine Tr.brK ?_ ?_ | (refine G.call 134 ?_; refine S.c ?_ (h := rcan_ok)) | (refine G.call 135 ?_; first | refine S.c ?_ (h := rset0_ok ?_ ?_ ?_ ?_ ?_) | refine S.c ?_ (h := rset_ok ?_ ?_ ?_ ?_ ?_)) | refine S.n fun _ => ?_ | refine S.i fun hix => ?_ | (refine S.g fun hb => ?_; (try simp only [hb])) | (refine S.s (fun hb => ?_) (fun hb => ?_) <;> ((try simp only [hb]) <;> (try (have hp := hb; simp only [WKs] at hp; (try have hq := Int.not_le.2 hp); (try have hq := Int.not_lt.2 hp))))))
    | rintro _ _ ⟨rfl, rfl⟩
    | rintro _ _ ⟨_, _, _, rfl, rfl⟩
    | (refine G.call 135 ?_; refine Tr.freezeAt (α := Msg) (by (repeat (first | exact TakeA.here | apply TakeA.next)); done) ?_)
    | ((fail_if_success refine G.tr ?_); exact G.prop S.p)
    | fail) <;> (try simp only [WKb, ↓reduceIte, Nat.reduceEqDiff, hc, hmo]))))
    all_goals
      apply Tr.fin hK ⟨_, _, _, _, hS _, (by first | (simp [*, delBA]; done) | (simp only [WKe, ↓reduceIte, reduceCtorEq, Int.reduceEq, eq_self, *, delBA, hc]; done) | (simp only [WKe, ↓reduceIte, reduceCtorEq, Int.reduceEq, *, delBA, hc]; rfl)), rfl⟩
      ((try clear hK) <;> (try simp only [WKe, List.map_set, *]) <;> repeat (first | with_reducible exact EntR.done | refine S.e ?_ | (refine S.f ?_ <;> (try simp only [WKe, hI, List.map_set, hkc, hkl, ↓reduceIte, reduceCtorEq, Int.reduceEq, *])) | with_reducible apply EntR.ex | refine EntR.drop (F := F) ?_ | refine EntR.drop ?_))

theorem rset0_ok {r : Nat} {a b c d : SV} {xs : List (SL Msg)} {fs : List Bool} {os : List Int} {k lo : Int} {fr : Bool} (h0 : 0 ≤ k) (h1 : k < xs.length) (h2 : fs.length = xs.length) (h3 : os.length = xs.length) (hb : xs.length ≤ 1000000) :
    Trip Try.prog 135 [.pointer (some ⟨r, 0, none⟩), .int .i64 k, .slice none 0 0, .bool fr, .int .i64 lo].toArray [rB r a b c d, sl false b.v xs, fzl xs, sl false c.v fs, sl false d.v os]
    fun v l' => ∃ b2 c2 d2, v = .tuple #[] ∧ l' = [rB r a b2 c2 d2, sl false b2.v (xs.set k.toNat default), fzl (xs.set k.toNat default), sl false c2.v (fs.set k.toNat fr), sl false d2.v (os.set k.toNat lo)] := by
  refine Trip.pre (rset_ok (b := b) (c := c) (d := d) (s := ⟨none, 0, 0⟩) (ms := []) h0 h1 h2 h3 hb) fun F => ?_
  have hn : SV.v ⟨none, 0, 0⟩ = .slice none 0 0 := rfl
  rw [hn]
  ((try clear hK) <;> (try simp only [WKe, *]) <;> repeat (first | with_reducible exact EntR.done | refine S.e ?_ | (refine S.f ?_ <;> (try simp only [WKe, ↓reduceIte, reduceCtorEq, Int.reduceEq, *])) | with_reducible apply EntR.ex | refine EntR.drop (F := F) ?_ | refine EntR.drop ?_))

theorem ix_set_k {α : Type} [Inhabited α] {xs : List α} {k : Int} (h0 : 0 ≤ k) (h1 : k < xs.length) (y : α) : ix (xs.set k.toNat y) k = y := by
  obtain ⟨n, rfl⟩ := Int.eq_ofNat_of_zero_le h0
  have hn : n < xs.length := by omega
  have := ix_nat (xs := xs.set n y) (k := n) (by simpa using hn)
  simpa using this
theorem rdrain_ok {r : Nat} {a b c d : SV} {ps : List AP} {xs : List (SL Msg)} {k : Int} (hx : xs.map mo = ps.map AP.ms) (hb : ps.length ≤ 1000000) :
    Trip Try.prog 100 [.pointer (some ⟨r, 0, none⟩), .int .i64 k].toArray [rB r a b c d, sl true a.v (ps.map AP.c), sl false b.v xs, fzl xs, sl false c.v (ps.map AP.fresh), sl false d.v (ps.map AP.lost)]
    fun v l' => ∃ b2 c2 d2 xs2 t, ∃ ms : List Msg, xs2.map mo = (drainA ps k).map AP.ms ∧ ms.map SL.d = drainDA ps k ∧ v = SV.v t ∧ l' = [sl true (SV.v t) ms, fzl ms, rB r a b2 c2 d2, sl true a.v ((drainA ps k).map AP.c), sl false b2.v xs2, fzl xs2, sl false c2.v ((drainA ps k).map AP.fresh), sl false d2.v ((drainA ps k).map AP.lost)] := by
  intro F K hK
  simp only [List.cons_append, List.nil_append]
  have hdm : (⟨⟨none, 0, 0⟩, []⟩ : Msg) = default := rfl
  have hl := ap_len hx
  have hlc : (ps.map AP.c).length = ps.length := List.length_map _
  have hlo : (ps.map AP.lost).length = ps.length := List.length_map _
  have hlf : (ps.map AP.fresh).length = ps.length := List.length_map _
  (refine Tr.enter (rs := [.tmp 4]) mixed fn100 rfl (by simp +arith [Try.ntmps100]) fun u => ?_; simp only [cd100, Try.f100])
  have hn : SV.v ⟨none, 0, 0⟩ = .slice none 0 0 := rfl
  cases hc : canA ps k true false
  · cases hc2 : canA ps k false false
    · have hD : drainDA ps k = [] := by simp [drainDA, hc, hc2]
      have hI : drainA ps k = ps := by simp [drainA, hc, hc2]
      ((try simp only [WKb, ↓reduceIte, Nat.reduceEqDiff, Nat.reduceAdd]) <;> (repeat' ((first
    | (refine G.tr ?_; first | refine S.a ?_ | refine Tr.brK ?_ ?_ | (refine G.call 134 ?_; refine S.c ?_ (h := rcan_ok)) | (refine G.call 135 ?_; first | refine S.c ?_ (h := rset0_ok ?_ ?_ ?_ ?_ ?_) | refine S.c ?_ (h := rset_ok ?_ ?_ ?_ ?_ ?_)) | refine S.n fun _ => ?_ | refine S.i fun hix => ?_ | (refine S.g fun hb => ?_; (try simp only [hb])) | (refine S.s (fun hb => ?_) (fun hb => ?_) <;> ((try simp only [hb]) <;> (try (have hp := hb; simp only [WKs] at hp; (try have hq := Int.not_le.2 hp); (try have hq := Int.not_lt.2 hp))))))
    | rintro _ _ ⟨rfl, rfl⟩
    | rintro _ _ ⟨_, _, _, rfl, rfl⟩
    | ((fail_if_success refine G.tr ?_); exact G.prop S.p)
    | fail) <;> (try simp only [WKb, ↓reduceIte, Nat.reduceEqDiff, hc, hc2]))))
      all_goals
        apply Tr.fin hK ⟨b, c, d, xs, ⟨none, 0, 0⟩, [], by rw [hI]; exact hx, by rw [hD]; rfl, rfl, rfl⟩
        ((try clear hK) <;> (try simp only [WKe, *]) <;> repeat (first | with_reducible exact EntR.done | refine S.e ?_ | (refine S.f ?_ <;> (try simp only [WKe, hI, hn, ↓reduceIte, reduceCtorEq, Int.reduceEq, *])) | with_reducible apply EntR.ex | refine EntR.drop (F := F) ?_ | refine EntR.drop ?_))
    · obtain ⟨h0, h1, hq, hi⟩ := canA_t hc2
      have hmo := ix_map (f := AP.lost) h0 h1
      have hmf := ix_map (f := AP.fresh) h0 h1
      have hms := ap_ms hx h0 h1
      have hkc := ap_keep (f := AP.c) h0 h1
      have hkl := ap_keep (f := AP.lost) h0 h1
      have hsx := fun y => ix_set_k (xs := xs) h0 (by omega) y
      have hsl : ∀ y : SL Msg, (xs.set k.toNat y).length = xs.length := fun y => by simp
      cases hf : (ix ps k).fresh
      · have hD : drainDA ps k = [] := by simp [drainDA, hc, hc2, hf]
        have hI : drainA ps k = ps := by simp [drainA, hc, hc2, hf]
        ((try simp only [WKb, ↓reduceIte, Nat.reduceEqDiff, Nat.reduceAdd]) <;> (repeat' ((first
    | (refine G.tr ?_; first | refine S.a ?_ | refine Tr.brK ?_ ?_ | (refine G.call 134 ?_; refine S.c ?_ (h := rcan_ok)) | (refine G.call 135 ?_; first | refine S.c ?_ (h := rset0_ok ?_ ?_ ?_ ?_ ?_) | refine S.c ?_ (h := rset_ok ?_ ?_ ?_ ?_ ?_)) | refine S.n fun _ => ?_ | refine S.i fun hix => ?_ | (refine S.g fun hb => ?_; (try simp only [hb])) | (refine S.s (fun hb => ?_) (fun hb => ?_) <;> ((try simp only [hb]) <;> (try (have hp := hb; simp only [WKs] at hp; (try have hq := Int.not_le.2 hp); (try have hq := Int.not_lt.2 hp))))))
    | rintro _ _ ⟨rfl, rfl⟩
    | rintro _ _ ⟨_, _, _, rfl, rfl⟩
    | ((fail_if_success refine G.tr ?_); exact G.prop S.p)
    | fail) <;> (try simp only [WKb, ↓reduceIte, Nat.reduceEqDiff, hc, hc2, hmf, hf]))))
        all_goals
          apply Tr.fin hK ⟨b, c, d, xs, ⟨none, 0, 0⟩, [], by rw [hI]; exact hx, by rw [hD]; rfl, rfl, rfl⟩
          ((try clear hK) <;> (try simp only [WKe, *]) <;> repeat (first | with_reducible exact EntR.done | refine S.e ?_ | (refine S.f ?_ <;> (try simp only [WKe, hI, hn, ↓reduceIte, reduceCtorEq, Int.reduceEq, *])) | with_reducible apply EntR.ex | refine EntR.drop (F := F) ?_ | refine EntR.drop ?_))
      · have hD : drainDA ps k = (ix ps k).ms := by simp [drainDA, hc, hc2, hf]
        have hI : drainA ps k = ps.set k.toNat { ix ps k with fresh := false } := by simp [drainA, hc, hc2, hf]
        have hS : (xs.set k.toNat ⟨(ix xs k).s, (ix xs k).d⟩).map mo = (drainA ps k).map AP.ms := by rw [hI]; exact ap_set hx (by simp [mo, hms])
        ((try simp only [WKb, ↓reduceIte, Nat.reduceEqDiff, Nat.reduceAdd]) <;> (repeat' ((first
    | (refine G.tr ?_; first | refine S.a ?_ | refine Tr.brK ?_ ?_ | (refine G.call 134 ?_; refine S.c ?_ (h := rcan_ok)) | (refine G.call 135 ?_; first | refine S.c ?_ (h := rset0_ok ?_ ?_ ?_ ?_ ?_) | refine S.c ?_ (h := rset_ok ?_ ?_ ?_ ?_ ?_)) | refine S.n fun _ => ?_ | refine S.i fun hix => ?_ | (refine S.g fun hb => ?_; (try simp only [hb])) | (refine S.s (fun hb => ?_) (fun hb => ?_) <;> ((try simp only [hb]) <;> (try (have hp := hb; simp only [WKs] at hp; (try have hq := Int.not_le.2 hp); (try have hq := Int.not_lt.2 hp))))))
    | rintro _ _ ⟨rfl, rfl⟩
    | rintro _ _ ⟨_, _, _, rfl, rfl⟩
    | (refine G.call 135 ?_; refine Tr.freezeAt (α := Msg) (by (repeat (first | exact TakeA.here | apply TakeA.next)); done) ?_)
    | ((fail_if_success refine G.tr ?_); exact G.prop S.p)
    | fail) <;> (try simp only [WKb, ↓reduceIte, Nat.reduceEqDiff, pl100, hc, hc2, hmf, hf, hmo, hsx]))))
        all_goals
          apply Tr.fin hK ⟨_, _, _, _, (ix xs k).s, (ix xs k).d, hS, by rw [hD]; exact hms, rfl, rfl⟩
          ((try clear hK) <;> (try simp only [WKe, List.map_set, *]) <;> repeat (first | with_reducible exact EntR.done | refine S.e ?_ | (refine S.f ?_ <;> (try simp only [WKe, hI, List.map_set, hkc, hkl, ↓reduceIte, reduceCtorEq, Int.reduceEq, *])) | with_reducible apply EntR.ex | refine EntR.drop (F := F) ?_ | refine EntR.drop ?_))
  · obtain ⟨h0, h1, hq, hi⟩ := canA_t hc
    have hmo := ix_map (f := AP.lost) h0 h1
    have hms := ap_ms hx h0 h1
    have hkc := ap_keep (f := AP.c) h0 h1
    have hkl := ap_keep (f := AP.lost) h0 h1
    have hD : drainDA ps k = (ix ps k).ms := by simp [drainDA, hc]
    have hI : drainA ps k = ps.set k.toNat { ix ps k with ms := [], fresh := false } := by simp [drainA, hc]
    have hS : (xs.set k.toNat default).map mo = (drainA ps k).map AP.ms := by rw [hI]; exact ap_set hx rfl
    ((try simp only [WKb, ↓reduceIte, Nat.reduceEqDiff, Nat.reduceAdd]) <;> (repeat' ((first
    | (refine G.tr ?_; first | refine S.a ?_ | refine Tr.brK ?_ ?_ | (refine G.call 134 ?_; refine S.c ?_ (h := rcan_ok)) | (refine G.call 135 ?_; first | refine S.c ?_ (h := rset0_ok ?_ ?_ ?_ ?_ ?_) | refine S.c ?_ (h := rset_ok ?_ ?_ ?_ ?_ ?_)) | refine S.n fun _ => ?_ | refine S.i fun hix => ?_ | (refine S.g fun hb => ?_; (try simp only [hb])) | (refine S.s (fun hb => ?_) (fun hb => ?_) <;> ((try simp only [hb]) <;> (try (have hp := hb; simp only [WKs] at hp; (try have hq := Int.not_le.2 hp); (try have hq := Int.not_lt.2 hp))))))
    | rintro _ _ ⟨rfl, rfl⟩
    | rintro _ _ ⟨_, _, _, rfl, rfl⟩
    | ((fail_if_success refine G.tr ?_); exact G.prop S.p)
    | fail) <;> (try simp only [WKb, ↓reduceIte, Nat.reduceEqDiff, hc, hmo]))))
    all_goals
      apply Tr.fin hK ⟨_, _, _, _, (ix xs k).s, (ix xs k).d, hS, by rw [hD]; exact hms, rfl, rfl⟩
      ((try clear hK) <;> (try simp only [WKe, List.map_set, *]) <;> repeat (first | with_reducible exact EntR.done | refine S.e ?_ | (refine S.f ?_ <;> (try simp only [WKe, hI, List.map_set, hkc, hkl, ↓reduceIte, reduceCtorEq, Int.reduceEq, *])) | with_reducible apply EntR.ex | refine EntR.drop (F := F) ?_ | refine EntR.drop ?_))

end Go.Proofs.Ytlmcoiloepoggaa
