import Derived.Test.YtlhmbcmkpafjoaaKR
namespace Go.Proofs.Ytlhmbcmkpafjoaa
open Go Go.Wk
set_option maxHeartbeats 6400000
set_option maxRecDepth 100000
attribute [local irreducible] BrK GenK EGenK EUnitK CallK FnK CallV GuardO GuardC CondW opX opK opKc chkR eqR seqK blkK endL WL WD W LoopW BinK Tr drewK resL PickK NotK NilK ExtrK getK Instr.storeAt Instr.loadAt Instr.fieldAt Instr.indexAt Instr.lookup Instr.mapUpdate Instr.box Instr.alloc Instr.build Instr.buildSlice Instr.makeSlice Instr.makeMap Instr.sliceAt Instr.field Instr.index Instr.makeInterface Instr.typeAssert Builtin.len_ Builtin.append_ Builtin.cap_ Builtin.min_ Builtin.max_ Builtin.copy_ Builtin.clear_ convert binOp mp blk rob sl sep ex fact old
attribute [local irreducible] chn CW chM
/-- Where nobody is, nothing arrives. -/
theorem ldeliv_ok {u0 : Value} {c : ConfC} [hd : DeA u0 c] {chs : List ChanC} {ch win : Int} {s all : SV} {d : List UInt8} {pts : List Pt} (hno : ∀ ch : Int, inCh chs ch → 0 ≤ (ix chs ch).tp → (ix chs ch).tp < pts.length → ix pts (ix chs ch).tp = ⟨none⟩) :
    Trip Try.prog 46 [u0, .agg [.int .i64 ch, .int .i64 win, s.v].toArray, all.v].toArray [sl true c.chans.v chs, sl true s.v d, sl true all.v pts]
    fun v l' => v = .bool false ∧ l' = [] := by
  obtain rfl := hd.h
  intro F K hK
  simp only [List.cons_append, List.nil_append]
  obtain ⟨c1, c2, c3, c4, c5, c6, c7, c8, c9, c10, c11, c12, c13⟩ := c
  by_cases hin : inCh chs ch
  · have hf : findC chs ch = ix chs ch := if_pos hin
    have hd1 : decide (inCh chs ch) = true := by simpa using hin
    by_cases htp : 0 ≤ (ix chs ch).tp ∧ (ix chs ch).tp < pts.length
    · obtain ⟨h0, h1⟩ := htp
      have hp := hno ch hin h0 h1
      (refine Tr.enter (rs := [.tmp 6]) mixed fn46 rfl (by simp +arith [Try.ntmps46]) fun u => ?_; simp only [cd46, Try.f46])
      ((try simp only [WKb, ↓reduceIte, Nat.reduceEqDiff, Nat.reduceAdd]) <;> (repeat' ((first
    | (refine G.tr ?_; first | refine S.a ?_ | refine Tr.brK ?_ ?_ | (refine G.call 62 ?_; refine S.c ?_ (h := find_ok)) | (refine G.call 68 ?_; first | refine S.c ?_ (h := pdeliver0_ok) | refine S.c ?_ (h := deliver_ok ?_ ?_)) | refine S.n fun _ => ?_ | refine S.i fun hix => ?_ | (refine S.g fun hb => ?_; (try simp only [hb])) | (refine S.s (fun hb => ?_) (fun hb => ?_) <;> ((try simp only [hb]) <;> (try (have hp := hb; simp only [WKs] at hp; (try have hq := Int.not_le.2 hp); (try have hq := Int.not_lt.2 hp))))))
    | rintro _ _ ⟨rfl, rfl⟩
    | rintro _ _ ⟨_, _, rfl, rfl⟩
    | ((fail_if_success refine G.tr ?_); exact G.prop S.p)
    | fail) <;> (try simp only [WKb, WKh, ↓reduceIte, Nat.reduceEqDiff, Nat.reduceAdd, pl46, hf, hd1, hp]))))
      all_goals
        refine Tr.fin hK ⟨(by first | (simp [*]; done) | (simp only [WKe, ↓reduceIte, reduceCtorEq, Int.reduceEq, eq_self, *]; done) | (simp only [WKe, ↓reduceIte, reduceCtorEq, Int.reduceEq, *]; rfl)), rfl⟩ ?_
        ((try clear hK) <;> (try simp only [WKe, *]) <;> repeat (first | with_reducible exact EntR.done | refine S.e ?_ | (refine S.f ?_ <;> (try simp only [WKe, ↓reduceIte, reduceCtorEq, Int.reduceEq, *])) | with_reducible apply EntR.ex | refine EntR.drop (F := F) ?_ | refine EntR.drop ?_))
    · (refine Tr.enter (rs := [.tmp 6]) mixed fn46 rfl (by simp +arith [Try.ntmps46]) fun u => ?_; simp only [cd46, Try.f46])
      ((try simp only [WKb, ↓reduceIte, Nat.reduceEqDiff, Nat.reduceAdd]) <;> (repeat' ((first
    | (refine G.tr ?_; first | refine S.a ?_ | refine Tr.brK ?_ ?_ | (refine G.call 62 ?_; refine S.c ?_ (h := find_ok)) | (refine G.call 68 ?_; first | refine S.c ?_ (h := pdeliver0_ok) | refine S.c ?_ (h := deliver_ok ?_ ?_)) | refine S.n fun _ => ?_ | refine S.i fun hix => ?_ | (refine S.g fun hb => ?_; (try simp only [hb])) | (refine S.s (fun hb => ?_) (fun hb => ?_) <;> ((try simp only [hb]) <;> (try (have hp := hb; simp only [WKs] at hp; (try have hq := Int.not_le.2 hp); (try have hq := Int.not_lt.2 hp))))))
    | rintro _ _ ⟨rfl, rfl⟩
    | rintro _ _ ⟨_, _, rfl, rfl⟩
    | ((fail_if_success refine G.tr ?_); exact G.prop S.p)
    | fail) <;> (try simp only [WKb, ↓reduceIte, Nat.reduceEqDiff, Nat.reduceAdd, hf, hd1]))))
      all_goals
        refine Tr.fin hK ⟨(by first | (simp [*]; done) | (simp only [WKe, ↓reduceIte, reduceCtorEq, Int.reduceEq, eq_self, *]; done) | (simp only [WKe, ↓reduceIte, reduceCtorEq, Int.reduceEq, *]; rfl)), rfl⟩ ?_
        ((try clear hK) <;> (try simp only [WKe, *]) <;> repeat (first | with_reducible exact EntR.done | refine S.e ?_ | (refine S.f ?_ <;> (try simp only [WKe, ↓reduceIte, reduceCtorEq, Int.reduceEq, *])) | with_reducible apply EntR.ex | refine EntR.drop (F := F) ?_ | refine EntR.drop ?_))
  · have hd1 : decide (inCh chs ch) = false := by simpa using hin
    (refine Tr.enter (rs := [.tmp 6]) mixed fn46 rfl (by simp +arith [Try.ntmps46]) fun u => ?_; simp only [cd46, Try.f46])
    ((try simp only [WKb, ↓reduceIte, Nat.reduceEqDiff, Nat.reduceAdd]) <;> (repeat' ((first
    | (refine G.tr ?_; first | refine S.a ?_ | refine Tr.brK ?_ ?_ | (refine G.call 62 ?_; refine S.c ?_ (h := find_ok)) | (refine G.call 68 ?_; first | refine S.c ?_ (h := pdeliver0_ok) | refine S.c ?_ (h := deliver_ok ?_ ?_)) | refine S.n fun _ => ?_ | refine S.i fun hix => ?_ | (refine S.g fun hb => ?_; (try simp only [hb])) | (refine S.s (fun hb => ?_) (fun hb => ?_) <;> ((try simp only [hb]) <;> (try (have hp := hb; simp only [WKs] at hp; (try have hq := Int.not_le.2 hp); (try have hq := Int.not_lt.2 hp))))))
    | rintro _ _ ⟨rfl, rfl⟩
    | rintro _ _ ⟨_, _, rfl, rfl⟩
    | ((fail_if_success refine G.tr ?_); exact G.prop S.p)
    | fail) <;> (try simp only [WKb, ↓reduceIte, Nat.reduceEqDiff, hd1]))))
    all_goals
      refine Tr.fin hK ⟨(by first | (simp [*]; done) | (simp only [WKe, ↓reduceIte, reduceCtorEq, Int.reduceEq, eq_self, *]; done) | (simp only [WKe, ↓reduceIte, reduceCtorEq, Int.reduceEq, *]; rfl)), rfl⟩ ?_
      ((try clear hK) <;> (try simp only [WKe, *]) <;> repeat (first | with_reducible exact EntR.done | refine S.e ?_ | (refine S.f ?_ <;> (try simp only [WKe, ↓reduceIte, reduceCtorEq, Int.reduceEq, *])) | with_reducible apply EntR.ex | refine EntR.drop (F := F) ?_ | refine EntR.drop ?_))
/-- A partition's ports alone let go what goes out. -/
theorem lflush_ok {u0 : Value} {c : ConfC} [hd : DeA u0 c] {chs : List ChanC} {part win : Int} {all s : SV} {p : Nat} {pts : List Pt} {gs0 : List OneG} {n : Nat} (h0 : 0 ≤ part) (h1 : part < pts.length) (hp : ix pts part = ⟨some p⟩) (hno : ∀ ch : Int, inCh chs ch → 0 ≤ (ix chs ch).tp → (ix chs ch).tp < pts.length → ix pts (ix chs ch).tp = ⟨none⟩) (hi : invP gs0 n) (_hn : n ≤ 800000) (hok : okA (gs0.map OneG.abs)) :
    Trip Try.prog 27 [u0, .int .i64 part, .int .i64 win, all.v].toArray [sl true c.chans.v chs, sl true all.v pts, poB p s, fam oneA gs0, sl false s.v (gs0.map OneG.pt)]
    fun v l' => ∃ (gs2 : List OneG) (s2 : SV) (ms : List MsgC), ms.map MsgC.ab = flushMs (gs0.map OneG.abs) chs part win ∧ invP gs2 n ∧ gs2.map OneG.abs = drainAll (gs0.map OneG.abs) chs (outsA chs part) ∧ v = SV.v s2 ∧ l' = [sl false (SV.v s2) ms, fzl ms, poB p s, fam oneA gs2, sl false s.v (gs2.map OneG.pt)] := by
  obtain rfl := hd.h
  intro F K hK
  simp only [List.cons_append, List.nil_append]
  obtain ⟨c1, c2, c3, c4, c5, c6, c7, c8, c9, c10, c11, c12, c13⟩ := c
  (refine Tr.enter (rs := [.tmp 8]) mixed fn27 rfl (by simp +arith [Try.ntmps27]) fun u => ?_; simp only [cd27, Try.f27])
  ((try simp only [WKb, ↓reduceIte, Nat.reduceEqDiff, Nat.reduceAdd]) <;> (repeat' ((first
    | (refine G.tr ?_; first | (refine G.call 54 ?_; refine S.c ?_ (h := mnew_ok (n := 4096) (by omega)); rintro _ _ ⟨_, _, rfl, rfl⟩) | refine S.a ?_ | refine Tr.brK ?_ ?_ | (refine G.call 28 ?_; refine S.c ?_ (h := outs_ok)) | (refine G.call 57 ?_; refine S.c ?_ (h := clone_ok (by omega))) | (refine G.call 56 ?_; refine S.c ?_ (h := mput_ok)) | (refine G.call 58 ?_; refine S.c ?_ (h := mtake_ok)) | (refine G.call 46 ?_; refine S.c ?_ (h := deliv_ok ?_ ?_ ?_)) | refine S.n fun _ => ?_ | refine S.i fun hix => ?_ | (refine S.g fun hb => ?_; (try simp only [hb])) | (refine S.s (fun hb => ?_) (fun hb => ?_) <;> ((try simp only [hb]) <;> (try (have hp := hb; simp only [WKs] at hp; (try have hq := Int.not_le.2 hp); (try have hq := Int.not_lt.2 hp))))))
    | rintro _ _ ⟨rfl, rfl⟩
    | rintro _ _ ⟨_, rfl, rfl⟩
    | rintro _ _ ⟨Gd2, hfv2, hfp2, hfa2, rfl, rfl⟩
    | ((fail_if_success refine G.tr ?_); exact G.prop S.p)
    | fail) <;> (try simp only [WKb, WKh, ↓reduceIte, Nat.reduceEqDiff, Nat.reduceAdd, hp]))))
  rename_i cb mm dd r cc os
  generalize hab0 : gs0.map OneG.abs = ab0 at hok
  have hok' : okA ab0 := hok
  generalize houts : outsA chs part = outs
  have hom : ∀ k ∈ outs, 0 ≤ k ∧ k < (min chs.length 16 : Nat) := fun k h => outs_mem (houts ▸ h)
  have hol : outs.length ≤ 16 := by have := outsN_len (chs := chs) (part := part) (n := min chs.length 16); rw [← houts]; unfold outsA; omega
  refine Tr.loopE (α := Nat × List Int × List (SL Msg) × List OneG × List MsgC) [38] [2, 3, 4, 8, 9, 10, 36, 37] (fun x => [.int .i64 x.1]) (fun x => [mp mm (kvsO x.2.1 x.2.2.1), fzl x.2.2.1, fam oneA x.2.2.2.1, sl false s.v (x.2.2.2.1.map OneG.pt), chM cc 4096 (x.2.2.2.2.map MsgC.w), fzl x.2.2.2.2])
    (fun x => x.1 ≤ outs.length ∧ Kept ab0 (x.2.2.2.1.map OneG.abs) x.2.1 x.2.2.1 ∧ invP x.2.2.2.1 n ∧ x.2.2.2.1.map OneG.abs = drainAll ab0 chs (outs.take x.1) ∧ x.2.2.2.2.map MsgC.ab = (msgsOf ab0 chs win (outs.take x.1)).take 4096) (fun x => outs.length - x.1)
    (0, [], [], gs0, []) (by (repeat (first | exact TakeL.nil | (apply TakeL.cons; focus ((first | exact TakeA.dupS | exact TakeA.dupF | ((repeat (first | with_reducible exact TakeA.here | exact TakeA.fam (by omega) (by omega) | with_reducible apply TakeA.next)); done) | ((repeat (first | exact TakeA.here | apply TakeA.next)); done) | exact TakeA.famNil | exact TakeA.nilS))) | fail)); done) rfl ⟨by omega, by rw [hab0]; exact Kept.nil, hi, hab0, by simp [msgsOf]⟩ fun x u hx => ?_
  obtain ⟨j, qs, rs, gs, ms⟩ := x
  simp only at hx ⊢
  obtain ⟨hj, hKp, hvg, hga, hma⟩ := hx
  have hw := wrapSucc (k := j) (by omega)
  by_cases hjn : j < outs.length
  · have htk : outs.take (j + 1) = outs.take j ++ [ix outs (j : Int)] := take_ix hjn
    have hm := hom (ix outs (j : Int)) (List.mem_of_getElem? (ix_some (by omega) (by omega)))
    obtain ⟨hm0, hm1⟩ := hm
    generalize hkk : ix outs (j : Int) = kk at hm0 hm1 htk
    ((try simp only [WKb, ↓reduceIte, Nat.reduceEqDiff]) <;> (repeat' ((first
    | (refine G.tr ?_; first | (refine G.call 55 ?_; refine S.c ?_ (h := of_ok hKp hvg); rintro _ _ ⟨qs2, rs2, gs2, rr, hKp2, hvg2, hga2, hrr, rfl, rfl⟩) | refine S.a ?_ | refine Tr.brK ?_ ?_ | (refine G.call 28 ?_; refine S.c ?_ (h := outs_ok)) | (refine G.call 57 ?_; refine S.c ?_ (h := clone_ok (by omega))) | (refine G.call 56 ?_; refine S.c ?_ (h := mput_ok)) | (refine G.call 58 ?_; refine S.c ?_ (h := mtake_ok)) | (refine G.call 46 ?_; refine S.c ?_ (h := deliv_ok ?_ ?_ ?_)) | refine S.n fun _ => ?_ | refine S.i fun hix => ?_ | (refine S.g fun hb => ?_; (try simp only [hb])) | (refine S.s (fun hb => ?_) (fun hb => ?_) <;> ((try simp only [hb]) <;> (try (have hp := hb; simp only [WKs] at hp; (try have hq := Int.not_le.2 hp); (try have hq := Int.not_lt.2 hp))))))
    | rintro _ _ ⟨rfl, rfl⟩
    | rintro _ _ ⟨_, rfl, rfl⟩
    | rintro _ _ ⟨Gd2, hfv2, hfp2, hfa2, rfl, rfl⟩
    | ((fail_if_success refine G.tr ?_); exact G.prop S.p)
    | fail) <;> (try simp only [WKb, ↓reduceIte, Nat.reduceEqDiff, hkk]))))
    have hrl : (drainDA ab0 (ix chs kk).fo).length = rr.d.length := by rw [← hrr, List.length_map]
    have hQ : ∀ {x : List AP}, x = drainA (gs.map OneG.abs) (ix chs kk).fo → x = drainAll ab0 chs (outs.take (j + 1)) := fun h => by rw [h, htk, drainAll_snoc, hga]
    have hfin : msgsOf ab0 chs win (outs.take (j + 1)) = msgsOf ab0 chs win (outs.take j) ++ (drainDA ab0 (ix chs kk).fo).map fun d => (kk, win, d) := by rw [htk, msgsOf_snoc]
    generalize hX : msgsOf ab0 chs win (outs.take j) = X at hma hfin
    generalize hD : drainDA ab0 (ix chs kk).fo = D at hrr hrl hfin
    refine Tr.bound (ro := true) (v := SV.v rr.s) (xs := rr.d) HasS.h fun hbr => ?_
    refine Tr.loopE (α := Nat × List MsgC) [52] [2, 3, 4, 8, 9, 10, 12, 36, 37, 38, 50, 51] (fun x => [.int .i64 x.1]) (fun x => [chM cc 4096 (x.2.map MsgC.w), fzl x.2])
      (fun x => x.1 ≤ rr.d.length ∧ x.2.map MsgC.ab = (X ++ (D.take x.1).map fun d => (kk, win, d)).take 4096) (fun x => rr.d.length - x.1) (0, ms) (by (repeat (first | exact TakeL.nil | (apply TakeL.cons; focus ((first | exact TakeA.dupS | exact TakeA.dupF | ((repeat (first | with_reducible exact TakeA.here | exact TakeA.fam (by omega) (by omega) | with_reducible apply TakeA.next)); done) | ((repeat (first | exact TakeA.here | apply TakeA.next)); done) | exact TakeA.famNil | exact TakeA.nilS))) | fail)); done) rfl ⟨by omega, by simp only [List.take_zero, List.map_nil, List.append_nil]; exact hma⟩ fun x u hx => ?_
    obtain ⟨i, ms2⟩ := x
    simp only at hx ⊢
    obtain ⟨hil, hmi⟩ := hx
    by_cases hin2 : i < rr.d.length
    · have hw2 := wrapSucc (k := i) (by omega)
      have hdl : (ix rr.d (i : Int)).d.length ≤ 300 := okA_each hok' (by rw [hrr, ← hD]) hin2
      have hDi : D.take (i + 1) = D.take i ++ [(ix rr.d (i : Int)).d] := by
        rw [take_ix (by omega), ← hrr, ix_map (f := SL.d) (by omega) (by omega)]
      have hXs : X ++ ((D.take (i + 1)).map fun d => (kk, win, d)) = (X ++ (D.take i).map fun d => (kk, win, d)) ++ [(kk, win, (ix rr.d (i : Int)).d)] := by rw [hDi, List.map_append, ← List.append_assoc]; rfl
      have hsn : ∀ t : SV, ms2.length < 4096 → (ms2 ++ [(⟨kk, win, ⟨t, (ix rr.d (i : Int)).d⟩⟩ : MsgC)]).map MsgC.ab = (X ++ (D.take (i + 1)).map fun d => (kk, win, d)).take 4096 := fun t hlt => by
        rw [hXs, take_snoc, ← hmi, if_pos (by rw [List.length_map]; exact hlt), List.map_append]; rfl
      have hsf : ¬ ms2.length < 4096 → ms2.map MsgC.ab = (X ++ (D.take (i + 1)).map fun d => (kk, win, d)).take 4096 := fun hlt => by
        rw [hXs, take_snoc, ← hmi, if_neg (by rw [List.length_map]; exact hlt)]
      have hwm : ∀ t : SV, (ms2 ++ [(⟨kk, win, ⟨t, (ix rr.d (i : Int)).d⟩⟩ : MsgC)]).map MsgC.w = ms2.map MsgC.w ++ [⟨kk, win, t⟩] := fun t => by simp [MsgC.w]
      have hlw : (ms2.map MsgC.w).length = ms2.length := List.length_map _
      by_cases hlt : ms2.length < 4096
      · have hsn2 := fun t => hsn t hlt
        ((try simp only [WKb, ↓reduceIte, Nat.reduceEqDiff]) <;> (repeat' ((first
    | (refine G.tr ?_; first | refine S.a ?_ | refine Tr.brK ?_ ?_ | (refine G.call 28 ?_; refine S.c ?_ (h := outs_ok)) | (refine G.call 57 ?_; refine S.c ?_ (h := clone_ok (by omega))) | (refine G.call 56 ?_; refine S.c ?_ (h := mput_ok)) | (refine G.call 58 ?_; refine S.c ?_ (h := mtake_ok)) | (refine G.call 46 ?_; refine S.c ?_ (h := deliv_ok ?_ ?_ ?_)) | refine S.n fun _ => ?_ | refine S.i fun hix => ?_ | (refine S.g fun hb => ?_; (try simp only [hb])) | (refine S.s (fun hb => ?_) (fun hb => ?_) <;> ((try simp only [hb]) <;> (try (have hp := hb; simp only [WKs] at hp; (try have hq := Int.not_le.2 hp); (try have hq := Int.not_lt.2 hp))))))
    | rintro _ _ ⟨rfl, rfl⟩
    | rintro _ _ ⟨_, rfl, rfl⟩
    | rintro _ _ ⟨Gd2, hfv2, hfp2, hfa2, rfl, rfl⟩
    | ((fail_if_success refine G.tr ?_); exact G.prop S.p)
    | fail) <;> (try simp only [WKb, WKh, ↓reduceIte, Nat.reduceEqDiff, Nat.reduceAdd, hw2, hlw, hlt]))))
        all_goals (apply Tr.againE ((i + 1, ms2 ++ [(⟨kk, win, ⟨_, (ix rr.d (i : Int)).d⟩⟩ : MsgC)])); (focus (simp only [WKb, ↓reduceIte, Nat.reduceEqDiff])); (focus ((try simp only [WKb, ↓reduceIte]); (all_goals ((repeat (refine cons_eq (by first | rfl | ((try clear hK) <;> first | (simp [*, hwm]; done) | (simp [*, hwm]; omega) | (simp [*, hwm] <;> (try split) <;> simp_all <;> omega))) ?_)); rfl)); done)); rotate_left 2; (focus (((try clear hK) <;> (try simp only [WKe, *]) <;> repeat (first | with_reducible exact EntR.done | refine S.e ?_ | (refine S.f ?_ <;> (try simp only [WKe, hwm, ↓reduceIte, reduceCtorEq, Int.reduceEq, *])) | with_reducible apply EntR.ex | refine EntR.drop (F := F) ?_ | refine EntR.drop ?_)))); (focus (first | omega | assumption | (simp only []; omega) | (refine ⟨by omega, by assumption⟩) | (simp only []; refine ⟨by omega, by assumption⟩) | ((try simp only []); (repeat' (first | omega | assumption | apply hsn2 | refine And.intro ?_ ?_)); done))); (focus (first | omega | (simp only []; omega))))
      · have hsf2 := hsf hlt
        ((try simp only [WKb, ↓reduceIte, Nat.reduceEqDiff]) <;> (repeat' ((first
    | (refine G.tr ?_; first | refine S.a ?_ | refine Tr.brK ?_ ?_ | (refine G.call 28 ?_; refine S.c ?_ (h := outs_ok)) | (refine G.call 57 ?_; refine S.c ?_ (h := clone_ok (by omega))) | (refine G.call 56 ?_; refine S.c ?_ (h := mput_ok)) | (refine G.call 58 ?_; refine S.c ?_ (h := mtake_ok)) | (refine G.call 46 ?_; refine S.c ?_ (h := deliv_ok ?_ ?_ ?_)) | refine S.n fun _ => ?_ | refine S.i fun hix => ?_ | (refine S.g fun hb => ?_; (try simp only [hb])) | (refine S.s (fun hb => ?_) (fun hb => ?_) <;> ((try simp only [hb]) <;> (try (have hp := hb; simp only [WKs] at hp; (try have hq := Int.not_le.2 hp); (try have hq := Int.not_lt.2 hp))))))
    | rintro _ _ ⟨rfl, rfl⟩
    | rintro _ _ ⟨_, rfl, rfl⟩
    | rintro _ _ ⟨Gd2, hfv2, hfp2, hfa2, rfl, rfl⟩
    | ((fail_if_success refine G.tr ?_); exact G.prop S.p)
    | fail) <;> (try simp only [WKb, WKh, ↓reduceIte, Nat.reduceEqDiff, Nat.reduceAdd, hw2, hlw, hlt]))))
        all_goals (apply Tr.againE ((i + 1, _)); (focus (simp only [WKb, ↓reduceIte, Nat.reduceEqDiff])); (focus ((try simp only [WKb, ↓reduceIte]); (all_goals ((repeat (refine cons_eq (by first | rfl | (simp [*]; done)) ?_)); rfl)); done)); rotate_left 2; (focus (((try clear hK) <;> (try simp only [WKe, *]) <;> repeat (first | with_reducible exact EntR.done | refine S.e ?_ | (refine S.f ?_ <;> (try simp only [WKe, ↓reduceIte, reduceCtorEq, Int.reduceEq, *])) | with_reducible apply EntR.ex | refine EntR.drop (F := F) ?_ | refine EntR.drop ?_)))); (focus (first | omega | assumption | (simp only []; omega) | (refine ⟨by omega, by assumption⟩) | (simp only []; refine ⟨by omega, by assumption⟩) | ((try simp only []); (repeat' (first | omega | assumption | apply hsf2 | refine And.intro ?_ ?_)); done))); (focus (first | omega | (simp only []; omega))))
    · have hii : i = rr.d.length := by omega
      have hDt : D.take i = D := List.take_of_length_le (by omega)
      have hfm : ms2.map MsgC.ab = (msgsOf ab0 chs win (outs.take (j + 1))).take 4096 := by rw [hmi, hDt, hfin]
      have hgx := hQ hga2
      ((try simp only [WKb, ↓reduceIte, Nat.reduceEqDiff]) <;> (repeat' ((first
    | (refine G.tr ?_; first | refine S.a ?_ | refine Tr.brK ?_ ?_ | (refine G.call 28 ?_; refine S.c ?_ (h := outs_ok)) | (refine G.call 57 ?_; refine S.c ?_ (h := clone_ok (by omega))) | (refine G.call 56 ?_; refine S.c ?_ (h := mput_ok)) | (refine G.call 58 ?_; refine S.c ?_ (h := mtake_ok)) | (refine G.call 46 ?_; refine S.c ?_ (h := deliv_ok ?_ ?_ ?_)) | refine S.n fun _ => ?_ | refine S.i fun hix => ?_ | (refine S.g fun hb => ?_; (try simp only [hb])) | (refine S.s (fun hb => ?_) (fun hb => ?_) <;> ((try simp only [hb]) <;> (try (have hp := hb; simp only [WKs] at hp; (try have hq := Int.not_le.2 hp); (try have hq := Int.not_lt.2 hp))))))
    | rintro _ _ ⟨rfl, rfl⟩
    | rintro _ _ ⟨_, rfl, rfl⟩
    | rintro _ _ ⟨Gd2, hfv2, hfp2, hfa2, rfl, rfl⟩
    | ((fail_if_success refine G.tr ?_); exact G.prop S.p)
    | fail) <;> (try simp only [WKb, ↓reduceIte, Nat.reduceEqDiff, hw]))))
      all_goals (apply Tr.againE ((j + 1, _, _, _, _)); (focus (simp only [WKb, ↓reduceIte, Nat.reduceEqDiff])); (focus ((try simp only [WKb, ↓reduceIte]); (all_goals ((repeat (refine cons_eq (by first | rfl | (simp [*]; done)) ?_)); rfl)); done)); rotate_left 2; (focus (((try clear hK) <;> (try simp only [WKe, *]) <;> repeat (first | with_reducible exact EntR.done | refine S.e ?_ | (refine S.f ?_ <;> (try simp only [WKe, ↓reduceIte, reduceCtorEq, Int.reduceEq, *])) | with_reducible apply EntR.ex | refine EntR.drop (F := F) ?_ | refine EntR.drop ?_)))); (focus (first | omega | assumption | (simp only []; omega) | (refine ⟨by omega, by assumption⟩) | (simp only []; refine ⟨by omega, by assumption⟩) | ((try simp only []); (repeat' (first | omega | assumption | apply hfm | apply hgx | apply hKp2 | apply hvg2 | refine And.intro ?_ ?_)); done))); (focus (first | omega | (simp only []; omega))))
  · have hjj : j = outs.length := by omega
    subst hjj
    rw [List.take_length] at hga hma
    have hmsl : ms.length ≤ 4096 := by have := congrArg List.length hma; rw [List.length_map, List.length_take] at this; omega
    have hmd : ∀ i : Nat, i < ms.length → (ix ms (i : Int)).d.d.length ≤ 300 := fun i h => by
      have h2 : (ix ms (i : Int)).ab ∈ ms.map MsgC.ab := List.mem_map.2 ⟨_, List.mem_of_getElem? (ix_some (by omega) (by omega)), rfl⟩
      rw [hma] at h2
      exact msgs_ok hok' _ (List.mem_of_mem_take h2)
    have hmv : ∀ i : Nat, mv (((ms.map MsgC.w).drop i).headD default) = .agg [.int .i64 (mwI ms i).ch, .int .i64 (mwI ms i).win, (mwI ms i).s.v].toArray := fun i => by rw [mwI_head]; rfl
    have hmv0 : mv ((ms.map MsgC.w).headD default) = .agg [.int .i64 (mwI ms 0).ch, .int .i64 (mwI ms 0).win, (mwI ms 0).s.v].toArray := by have := hmv 0; rwa [List.drop_zero] at this
    have hlw : (ms.map MsgC.w).length = ms.length := List.length_map _
    have htl0 : (ms.map MsgC.w).tail = (ms.map MsgC.w).drop (0 + 1) := by simp
    ((try simp only [WKb, ↓reduceIte, Nat.reduceEqDiff]) <;> (repeat' ((first
    | (refine G.tr ?_; first | refine S.a ?_ | refine Tr.brK ?_ ?_ | (refine G.call 28 ?_; refine S.c ?_ (h := outs_ok)) | (refine G.call 57 ?_; refine S.c ?_ (h := clone_ok (by omega))) | (refine G.call 56 ?_; refine S.c ?_ (h := mput_ok)) | (refine G.call 58 ?_; refine S.c ?_ (h := mtake_ok)) | (refine G.call 46 ?_; refine S.c ?_ (h := deliv_ok ?_ ?_ ?_)) | refine S.n fun _ => ?_ | refine S.i fun hix => ?_ | (refine S.g fun hb => ?_; (try simp only [hb])) | (refine S.s (fun hb => ?_) (fun hb => ?_) <;> ((try simp only [hb]) <;> (try (have hp := hb; simp only [WKs] at hp; (try have hq := Int.not_le.2 hp); (try have hq := Int.not_lt.2 hp))))))
    | rintro _ _ ⟨rfl, rfl⟩
    | rintro _ _ ⟨_, rfl, rfl⟩
    | rintro _ _ ⟨Gd2, hfv2, hfp2, hfa2, rfl, rfl⟩
    | ((fail_if_success refine G.tr ?_); exact G.prop S.p)
    | fail) <;> (try simp only [WKb, ↓reduceIte, Nat.reduceEqDiff, hmv0, hlw]))))
    rename_i bb
    simp only [htl0]
    refine Tr.nilSl (α := MsgC) ?_
    refine Tr.loopE (α := Nat × SV × Nat) [15, 16, 17] [3, 4, 8, 10] (fun x => [x.2.1.v, .pointer (some ⟨x.2.2, 0, none⟩), .bool (decide (x.1 < ms.length))]) (fun x => [blk x.2.2 (.cells [.int .i64 (mwI ms x.1).ch, .int .i64 (mwI ms x.1).win, (mwI ms x.1).s.v].toArray 74 (0, 0)), chM cc 4096 ((ms.map MsgC.w).drop (x.1 + 1)), sl false x.2.1.v (ms.take x.1)])
      (fun x => x.1 ≤ ms.length) (fun x => ms.length - x.1) (0, ⟨none, 0, 0⟩, bb) (by (repeat (first | exact TakeL.nil | (apply TakeL.cons; focus ((first | exact TakeA.dupS | exact TakeA.dupF | ((repeat (first | with_reducible exact TakeA.here | exact TakeA.fam (by omega) (by omega) | with_reducible apply TakeA.next)); done) | ((repeat (first | exact TakeA.here | apply TakeA.next)); done) | exact TakeA.famNil | exact TakeA.nilS))) | fail)); done) rfl (Nat.zero_le _) fun x u hx => ?_
    obtain ⟨i, so, b2⟩ := x
    simp only at hx ⊢
    have hil := hx
    by_cases hin3 : i < ms.length
    · have hmw := mwI_lt hin3
      have hm1 : (mwI ms i).ch = (ix ms (i : Int)).ch := by rw [hmw]; rfl
      have hm2 : (mwI ms i).win = (ix ms (i : Int)).win := by rw [hmw]; rfl
      have hm3 : (mwI ms i).s = (ix ms (i : Int)).d.s := by rw [hmw]; rfl
      have hdt : decide (i < ms.length) = true := by simpa using hin3
      have hdl := hmd i hin3
      have htk : ms.take (i + 1) = ms.take i ++ [ix ms (i : Int)] := take_ix hin3
      have htk2 : ms.take (i + 1) = ms.take i ++ [(⟨(ix ms (i : Int)).ch, (ix ms (i : Int)).win, ⟨(ix ms (i : Int)).d.s, (ix ms (i : Int)).d.d⟩⟩ : MsgC)] := htk
      have htl : ((ms.map MsgC.w).drop (i + 1)).tail = (ms.map MsgC.w).drop (i + 1 + 1) := by simp
      have hdl2 : decide (0 < ((ms.map MsgC.w).drop (i + 1)).length) = decide (i + 1 < ms.length) := by rw [decide_eq_decide, List.length_drop, hlw]; omega
      have hln : (ms.take i).length = i := by rw [List.length_take]; omega
      simp only [hm1, hm2, hm3] at *
      ((try simp only [WKb, ↓reduceIte, Nat.reduceEqDiff, hdt]) <;> (repeat' ((first
    | (refine G.tr ?_; first | (refine G.call 46 ?_; refine S.c ?_ (h := ldeliv_ok (c := ⟨c1, c2, c3, c4, c5, c6, c7, c8, c9, c10, c11, c12, c13⟩) (pts := pts) (d := (ix ms (i : Int)).d.d) hno); rintro _ _ ⟨rfl, rfl⟩) | refine S.a ?_ | refine Tr.brK ?_ ?_ | (refine G.call 28 ?_; refine S.c ?_ (h := outs_ok)) | (refine G.call 57 ?_; refine S.c ?_ (h := clone_ok (by omega))) | (refine G.call 56 ?_; refine S.c ?_ (h := mput_ok)) | (refine G.call 58 ?_; refine S.c ?_ (h := mtake_ok)) | (refine G.call 46 ?_; refine S.c ?_ (h := deliv_ok ?_ ?_ ?_)) | refine S.n fun _ => ?_ | refine S.i fun hix => ?_ | (refine S.g fun hb => ?_; (try simp only [hb])) | (refine S.s (fun hb => ?_) (fun hb => ?_) <;> ((try simp only [hb]) <;> (try (have hp := hb; simp only [WKs] at hp; (try have hq := Int.not_le.2 hp); (try have hq := Int.not_lt.2 hp))))))
    | rintro _ _ ⟨rfl, rfl⟩
    | rintro _ _ ⟨_, rfl, rfl⟩
    | rintro _ _ ⟨Gd2, hfv2, hfp2, hfa2, rfl, rfl⟩
    | ((fail_if_success refine G.tr ?_); exact G.prop S.p)
    | fail) <;> (try simp only [WKb, ↓reduceIte, Nat.reduceEqDiff, hmv, htl, hdl2]))))
      all_goals (apply Tr.againE ((i + 1, _, _)); (focus (simp only [WKb, ↓reduceIte, Nat.reduceEqDiff])); (focus ((try simp only [WKb, ↓reduceIte, Nat.reduceEqDiff]); (all_goals ((repeat (refine cons_eq (by first | rfl | ((try clear hK) <;> first | (simp [*, htk2]; done) | (simp [*, htk2]; omega) | (simp [*, htk2] <;> (try split) <;> simp_all <;> omega))) ?_)); rfl)); done)); rotate_left 2; (focus (((try clear hK) <;> (try simp only [WKe, *]) <;> repeat (first | with_reducible exact EntR.done | refine S.e ?_ | (refine S.f ?_ <;> (try simp only [WKe, htk2, ↓reduceIte, reduceCtorEq, Int.reduceEq, *])) | with_reducible apply EntR.ex | refine EntR.drop (F := F) ?_ | refine EntR.drop ?_)))); (focus (first | omega | assumption | (simp only []; omega) | (refine ⟨by omega, by assumption⟩) | (simp only []; refine ⟨by omega, by assumption⟩) | ((try simp only []); (repeat' (first | omega | assumption | refine And.intro ?_ ?_)); done))); (focus (first | omega | (simp only []; omega))))
    · have hii : i = ms.length := by omega
      subst hii
      have hdt : decide (ms.length < ms.length) = false := by simp
      have hr1 : ms.map MsgC.ab = flushMs (gs0.map OneG.abs) chs part win := by rw [hma, hab0]; unfold flushMs; rw [houts]
      have hr2 : gs.map OneG.abs = drainAll (gs0.map OneG.abs) chs (outsA chs part) := by rw [hga, hab0, houts]
      rw [List.take_length]
      ((try simp only [WKb, ↓reduceIte, Nat.reduceEqDiff, hdt]) <;> (repeat' ((first
    | (refine G.tr ?_; first | refine S.a ?_ | refine Tr.brK ?_ ?_ | (refine G.call 28 ?_; refine S.c ?_ (h := outs_ok)) | (refine G.call 57 ?_; refine S.c ?_ (h := clone_ok (by omega))) | (refine G.call 56 ?_; refine S.c ?_ (h := mput_ok)) | (refine G.call 58 ?_; refine S.c ?_ (h := mtake_ok)) | (refine G.call 46 ?_; refine S.c ?_ (h := deliv_ok ?_ ?_ ?_)) | refine S.n fun _ => ?_ | refine S.i fun hix => ?_ | (refine S.g fun hb => ?_; (try simp only [hb])) | (refine S.s (fun hb => ?_) (fun hb => ?_) <;> ((try simp only [hb]) <;> (try (have hp := hb; simp only [WKs] at hp; (try have hq := Int.not_le.2 hp); (try have hq := Int.not_lt.2 hp))))))
    | rintro _ _ ⟨rfl, rfl⟩
    | rintro _ _ ⟨_, rfl, rfl⟩
    | rintro _ _ ⟨Gd2, hfv2, hfp2, hfa2, rfl, rfl⟩
    | ((fail_if_success refine G.tr ?_); exact G.prop S.p)
    | fail) <;> (try simp only [WKb, WKh, ↓reduceIte, Nat.reduceEqDiff, Nat.reduceAdd, Nat.reduceSub, Int.reduceEq, Int.reduceLT, Int.reduceLE, pl27, hdt]))))
      all_goals
        apply Tr.fin hK ⟨gs, so, ms, hr1, hvg, hr2, rfl, rfl⟩
        ((try clear hK) <;> (try simp only [WKe, *]) <;> repeat (first | with_reducible exact EntR.done | refine S.e ?_ | (refine S.f ?_ <;> (try simp only [WKe, ↓reduceIte, reduceCtorEq, Int.reduceEq, *])) | with_reducible apply EntR.ex | refine EntR.drop (F := F) ?_ | refine EntR.drop ?_))
end Go.Proofs.Ytlhmbcmkpafjoaa
