import Derived.Test.YtlmcoiloepoggaaPL
import Derived.Test.YtlmcoiloepoggaaPM
namespace Go.Proofs.Ytlmcoiloepoggaa
open Go Go.Wk
set_option maxHeartbeats 6400000
set_option maxRecDepth 10000
theorem lenP_in {gs : List OneG} {xs : List (SL Msg)} (hx : xs.map mo = (gs.map OneG.abs).map AP.ms) {k : Int} (hr : inR gs k) : lenP gs k = ((ix xs k).d.length : Int) := by
  rw [ap_mlen hx hr.1 (by rw [abs_len]; exact hr.2), abs_ix hr]
  unfold lenP
  rw [if_pos hr]
  cases hq : (ix gs k).q
  · rw [abs_s hq]; cases (ix gs k).there <;> rfl
  · rw [abs_q hq, List.length_map]; rfl
theorem outP {gs : List OneG} {k : Int} (h : ¬ inR gs k) : lenP gs k = 0 ∧ lostP gs k = 0 ∧ sizeP gs k = 0 := by simp [lenP, lostP, sizeP, h]
theorem outP2 {gs : List OneG} {k : Int} {q i : Bool} (h : ¬ inR gs k) : canB gs k q i = false := by simp [canB, h]
theorem w00 : IntKind.i64.wrap (0 + 0) = 0 := rfl
attribute [local irreducible] BrK GenK EGenK EUnitK CallK FnK CallV GuardO GuardC CondW opX opK opKc chkR eqR seqK blkK endL WL WD W LoopW BinK Tr drewK resL PickK NotK NilK ExtrK getK Instr.storeAt Instr.loadAt Instr.fieldAt Instr.indexAt Instr.lookup Instr.mapUpdate Instr.box Instr.alloc Instr.build Instr.buildSlice Instr.makeSlice Instr.makeMap Instr.sliceAt Instr.field Instr.index Instr.makeInterface Instr.typeAssert Builtin.len_ Builtin.append_ Builtin.cap_ Builtin.min_ Builtin.max_ Builtin.copy_ Builtin.clear_ convert binOp mp blk rob sl sep ex fact old
theorem like18_ok {p r : Nat} {s a b c d : SV} {gs : List OneG} {xs : List (SL Msg)} (hx : xs.map mo = (gs.map OneG.abs).map AP.ms) (h8 : gs.length ≤ 8) : Trip Try.prog 54 [.pointer (some ⟨p, 0, none⟩), .pointer (some ⟨r, 0, none⟩)].toArray [poB p s, fam oneA gs, sl false s.v (gs.map OneG.pt), rB r a b c d, sl true a.v ((gs.map OneG.abs).map AP.c), sl false b.v xs, fzl xs, sl false c.v ((gs.map OneG.abs).map AP.fresh), sl false d.v ((gs.map OneG.abs).map AP.lost)]
    fun v l' => v = .bool true ∧ l' = [poB p s, fam oneA gs, sl false s.v (gs.map OneG.pt), rB r a b c d, sl true a.v ((gs.map OneG.abs).map AP.c), sl false b.v xs, fzl xs, sl false c.v ((gs.map OneG.abs).map AP.fresh), sl false d.v ((gs.map OneG.abs).map AP.lost)] := by
  intro F K hK
  simp only [List.cons_append, List.nil_append]
  have hl := ap_len hx
  rw [abs_len] at hl
  (refine Tr.enter (rs := [.tmp 4]) mixed fn54 rfl (by simp +arith [Try.ntmps54]) fun u => ?_; simp only [cd54, Try.f54])
  ((try simp only [WKb, Nat.reduceAdd]) <;> (repeat' ((first
    | (refine G.tr ?_; first | refine S.a ?_ | refine Tr.brK ?_ ?_ | (refine G.call 50 ?_; first | refine S.c ?_ (h := plen0_ok) | refine S.c ?_ (h := plen_ok)) | (refine G.call 57 ?_; first | refine S.c ?_ (h := plost0_ok) | refine S.c ?_ (h := plost_ok)) | (refine G.call 58 ?_; first | refine S.c ?_ (h := psize0_ok) | refine S.c ?_ (h := psize_ok)) | (refine G.call 59 ?_; first | refine S.c ?_ (h := pcan0_ok) | refine S.c ?_ (h := can_ok)) | refine S.n fun _ => ?_ | refine S.i fun hix => ?_ | (refine S.g fun hb => ?_; (try simp only [hb])) | (refine S.s (fun hb => ?_) (fun hb => ?_) <;> ((try simp only [hb]) <;> (try (have hp := hb; simp only [WKs] at hp; (try have hq := Int.not_le.2 hp); (try have hq := Int.not_lt.2 hp))))))
    | rintro _ _ ⟨rfl, rfl⟩
    | ((fail_if_success refine G.tr ?_); exact G.prop S.p)
    | fail) <;> (try simp only [WKb, WKh, ↓reduceIte, Nat.reduceEqDiff, Nat.reduceAdd, Nat.reduceSub, Int.reduceEq, Int.reduceLT, Int.reduceLE, pl54]))))
  refine Tr.loopE (α := Nat) [4, 5] [0, 1] (fun j => [.bool false, .int .i64 ((j : Int) - 1)]) (fun _ => []) (fun j => j ≤ gs.length + 2) (fun j => gs.length + 2 - j) 0 (by (repeat (first | exact TakeL.nil | (apply TakeL.cons; focus ((first | exact TakeA.dupS | exact TakeA.dupF | ((repeat (first | with_reducible exact TakeA.here | exact TakeA.fam (by omega) (by omega) | with_reducible apply TakeA.next)); done) | ((repeat (first | exact TakeA.here | apply TakeA.next)); done) | exact TakeA.famNil | exact TakeA.nilS))) | fail)); done) rfl (by omega) fun j u hj => ?_
  have hlc : ((gs.map OneG.abs).map AP.c).length = gs.length := by simp
  have hlf : ((gs.map OneG.abs).map AP.fresh).length = gs.length := by simp
  have hlo : ((gs.map OneG.abs).map AP.lost).length = gs.length := by simp
  have hw : IntKind.i64.wrap ((j : Int) - 1 + 1) = ((j + 1 : Nat) : Int) - 1 := by rw [wrapId (by omega) (by omega)]; omega
  by_cases hin : j < gs.length + 2
  · by_cases hr : inR gs ((j : Int) - 1)
    · have ⟨h0, h1⟩ := hr
      have h1' : (j : Int) - 1 < (gs.map OneG.abs).length := by rw [abs_len]; exact h1
      have hm1 : lenP gs ((j : Int) - 1) = ((ix xs ((j : Int) - 1)).d.length : Int) := lenP_in hx hr
      have hm2 : ix ((gs.map OneG.abs).map AP.lost) ((j : Int) - 1) = lostP gs ((j : Int) - 1) := by rw [ix_map (f := AP.lost) h0 h1', abs_ix hr]; simp [lostP, hr, OneG.abs]
      have hm3 : ix ((gs.map OneG.abs).map AP.c) ((j : Int) - 1) = ⟨(ix gs ((j : Int) - 1)).q, (ix gs ((j : Int) - 1)).i, sizeP gs ((j : Int) - 1), (ix gs ((j : Int) - 1)).depth⟩ := by rw [ix_map (f := AP.c) h0 h1', abs_ix hr]; simp [sizeP, hr, OneG.abs, OneG.conf]
      have hm4 : canB gs ((j : Int) - 1) (ix gs ((j : Int) - 1)).q (ix gs ((j : Int) - 1)).i = true := by simp [canB, hr]
      have hm5 : canB gs ((j : Int) - 1) (!(ix gs ((j : Int) - 1)).q) (ix gs ((j : Int) - 1)).i = false := by simp [canB, hr]
      ((try simp only [WKb, ↓reduceIte, Nat.reduceEqDiff]) <;> (repeat' ((first
    | (refine G.tr ?_; first | refine S.a ?_ | refine Tr.brK ?_ ?_ | (refine G.call 50 ?_; first | refine S.c ?_ (h := plen0_ok) | refine S.c ?_ (h := plen_ok)) | (refine G.call 57 ?_; first | refine S.c ?_ (h := plost0_ok) | refine S.c ?_ (h := plost_ok)) | (refine G.call 58 ?_; first | refine S.c ?_ (h := psize0_ok) | refine S.c ?_ (h := psize_ok)) | (refine G.call 59 ?_; first | refine S.c ?_ (h := pcan0_ok) | refine S.c ?_ (h := can_ok)) | refine S.n fun _ => ?_ | refine S.i fun hix => ?_ | (refine S.g fun hb => ?_; (try simp only [hb])) | (refine S.s (fun hb => ?_) (fun hb => ?_) <;> ((try simp only [hb]) <;> (try (have hp := hb; simp only [WKs] at hp; (try have hq := Int.not_le.2 hp); (try have hq := Int.not_lt.2 hp))))))
    | rintro _ _ ⟨rfl, rfl⟩
    | ((fail_if_success refine G.tr ?_); exact G.prop S.p)
    | fail) <;> (try simp only [WKb, ↓reduceIte, Nat.reduceEqDiff, pl54, hw, hm1, hm2, hm3, hm4, hm5, hlc]))))
      all_goals (apply Tr.againE (j + 1); (focus (simp only [WKb, ↓reduceIte, Nat.reduceEqDiff])); (focus ((try simp only [WKb, ↓reduceIte, Nat.reduceEqDiff]); (all_goals ((repeat (refine cons_eq (by first | rfl | (simp [*]; done)) ?_)); rfl)); done)); (focus (first | omega | assumption | (simp only []; omega) | (refine ⟨by omega, by assumption⟩) | (simp only []; refine ⟨by omega, by assumption⟩) | ((try simp only []); (repeat' (first | omega | assumption | refine And.intro ?_ ?_)); done))); (focus (first | omega | (simp only []; omega))); (focus (((try clear hK) <;> (try simp only [WKe, *]) <;> repeat (first | with_reducible exact EntR.done | refine S.e ?_ | (refine S.f ?_ <;> (try simp only [WKe, ↓reduceIte, reduceCtorEq, Int.reduceEq, *])) | with_reducible apply EntR.ex | refine EntR.drop (F := F) ?_ | refine EntR.drop ?_)))))
    · have hm1 := outP hr
      have hm2 := fun q i => outP2 (q := q) (i := i) hr
      have hr' := hr
      unfold inR at hr'
      ((try simp only [WKb, ↓reduceIte, Nat.reduceEqDiff]) <;> (repeat' ((first
    | (refine G.tr ?_; first | refine S.a ?_ | refine Tr.brK ?_ ?_ | (refine G.call 50 ?_; first | refine S.c ?_ (h := plen0_ok) | refine S.c ?_ (h := plen_ok)) | (refine G.call 57 ?_; first | refine S.c ?_ (h := plost0_ok) | refine S.c ?_ (h := plost_ok)) | (refine G.call 58 ?_; first | refine S.c ?_ (h := psize0_ok) | refine S.c ?_ (h := psize_ok)) | (refine G.call 59 ?_; first | refine S.c ?_ (h := pcan0_ok) | refine S.c ?_ (h := can_ok)) | refine S.n fun _ => ?_ | refine S.i fun hix => ?_ | (refine S.g fun hb => ?_; (try simp only [hb])) | (refine S.s (fun hb => ?_) (fun hb => ?_) <;> ((try simp only [hb]) <;> (try (have hp := hb; simp only [WKs] at hp; (try have hq := Int.not_le.2 hp); (try have hq := Int.not_lt.2 hp))))))
    | rintro _ _ ⟨rfl, rfl⟩
    | ((fail_if_success refine G.tr ?_); exact G.prop S.p)
    | fail) <;> (try simp only [WKb, ↓reduceIte, Nat.reduceEqDiff, hw, hm1, hm2, hlc, w00]))))
      all_goals (apply Tr.againE (j + 1); (focus (simp only [WKb, ↓reduceIte, Nat.reduceEqDiff])); (focus ((try simp only [WKb, ↓reduceIte, Nat.reduceEqDiff]); (all_goals ((repeat (refine cons_eq (by first | rfl | (simp [*]; done)) ?_)); rfl)); done)); (focus (first | omega | assumption | (simp only []; omega) | (refine ⟨by omega, by assumption⟩) | (simp only []; refine ⟨by omega, by assumption⟩) | ((try simp only []); (repeat' (first | omega | assumption | refine And.intro ?_ ?_)); done))); (focus (first | omega | (simp only []; omega))); (focus (((try clear hK) <;> (try simp only [WKe, *]) <;> repeat (first | with_reducible exact EntR.done | refine S.e ?_ | (refine S.f ?_ <;> (try simp only [WKe, ↓reduceIte, reduceCtorEq, Int.reduceEq, *])) | with_reducible apply EntR.ex | refine EntR.drop (F := F) ?_ | refine EntR.drop ?_)))))
  · ((try simp only [WKb, ↓reduceIte, Nat.reduceEqDiff]) <;> (repeat' ((first
    | (refine G.tr ?_; first | refine S.a ?_ | refine Tr.brK ?_ ?_ | (refine G.call 50 ?_; first | refine S.c ?_ (h := plen0_ok) | refine S.c ?_ (h := plen_ok)) | (refine G.call 57 ?_; first | refine S.c ?_ (h := plost0_ok) | refine S.c ?_ (h := plost_ok)) | (refine G.call 58 ?_; first | refine S.c ?_ (h := psize0_ok) | refine S.c ?_ (h := psize_ok)) | (refine G.call 59 ?_; first | refine S.c ?_ (h := pcan0_ok) | refine S.c ?_ (h := can_ok)) | refine S.n fun _ => ?_ | refine S.i fun hix => ?_ | (refine S.g fun hb => ?_; (try simp only [hb])) | (refine S.s (fun hb => ?_) (fun hb => ?_) <;> ((try simp only [hb]) <;> (try (have hp := hb; simp only [WKs] at hp; (try have hq := Int.not_le.2 hp); (try have hq := Int.not_lt.2 hp))))))
    | rintro _ _ ⟨rfl, rfl⟩
    | ((fail_if_success refine G.tr ?_); exact G.prop S.p)
    | fail) <;> (try simp only [WKb, ↓reduceIte, Nat.reduceEqDiff, hlc]))))
    all_goals
      refine Tr.fin hK ⟨rfl, rfl⟩ ?_
      ((try clear hK) <;> (try simp only [WKe, *]) <;> repeat (first | with_reducible exact EntR.done | refine S.e ?_ | (refine S.f ?_ <;> (try simp only [WKe, ↓reduceIte, reduceCtorEq, Int.reduceEq, *])) | with_reducible apply EntR.ex | refine EntR.drop (F := F) ?_ | refine EntR.drop ?_))

def clearA (ps : List AP) : List AP := ps.map fun g => ⟨g.c, [], false, 0⟩
theorem clearA_new {ps : List AP} (h : ps.length ≤ 8) : newA (ps.map AP.c) = clearA ps := by
  unfold newA clearA
  rw [List.take_of_length_le (by simpa using h), List.map_map]; rfl
theorem clearA_c {ps : List AP} : (clearA ps).map AP.c = ps.map AP.c := by simp [clearA]
theorem rclear_ok {r : Nat} {a b c d : SV} {ps : List AP} {xs : List (SL Msg)} (h8 : ps.length ≤ 8) :
    Trip Try.prog 102 [.pointer (some ⟨r, 0, none⟩)].toArray [rB r a b c d, sl true a.v ((ps).map AP.c), sl false b.v xs, fzl xs, sl false c.v ((ps).map AP.fresh), sl false d.v ((ps).map AP.lost)]
    fun v l' => ∃ b2 c2 d2 xs2, xs2.map mo = (clearA ps).map AP.ms ∧ v = .tuple #[] ∧ l' = [rB r a b2 c2 d2, sl true a.v ((clearA ps).map AP.c), sl false b2.v xs2, fzl xs2, sl false c2.v ((clearA ps).map AP.fresh), sl false d2.v ((clearA ps).map AP.lost)] := by
  intro F K hK
  simp only [List.cons_append, List.nil_append]
  (refine Tr.enter (rs := []) mixed fn102 rfl (by simp +arith [Try.ntmps102]) fun u => ?_; simp only [cd102, Try.f102])
  ((try simp only [WKb, ↓reduceIte]) <;> (repeat' ((first
    | (refine G.tr ?_; first | refine S.a ?_ | refine Tr.brK ?_ ?_ | (refine G.call 53 ?_; refine S.c ?_ (h := rnew_ok)) | refine S.n fun _ => ?_ | refine S.i fun hix => ?_ | (refine S.g fun hb => ?_; (try simp only [hb])) | (refine S.s (fun hb => ?_) (fun hb => ?_) <;> ((try simp only [hb]) <;> (try (have hp := hb; simp only [WKs] at hp; (try have hq := Int.not_le.2 hp); (try have hq := Int.not_lt.2 hp))))))
    | rintro _ _ ⟨_, _, _, _, _, _, hxs, rfl, rfl⟩
    | ((fail_if_success refine G.tr ?_); exact G.prop S.p)
    | fail) <;> (try simp only [WKb, ↓reduceIte, Nat.reduceEqDiff, Nat.reduceAdd]))))
  all_goals
    rw [clearA_new h8] at hxs
    apply Tr.fin hK ⟨_, _, _, _, hxs, rfl, rfl⟩
    ((try clear hK) <;> (try simp only [WKe, clearA_new h8, clearA_c, *]) <;> repeat (first | with_reducible exact EntR.done | refine S.e ?_ | (refine S.f ?_ <;> (try simp only [WKe, clearA_new h8, clearA_c, ↓reduceIte, reduceCtorEq, Int.reduceEq, *])) | with_reducible apply EntR.ex | refine EntR.drop (F := F) ?_ | refine EntR.drop ?_))

end Go.Proofs.Ytlmcoiloepoggaa
