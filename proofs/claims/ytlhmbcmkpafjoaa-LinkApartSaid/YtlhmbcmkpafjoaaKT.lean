import Derived.Test.YtlhmbcmkpafjoaaKS
namespace Go.Proofs.Ytlhmbcmkpafjoaa
open Go Go.Wk
set_option maxHeartbeats 6400000
set_option maxRecDepth 100000
/-- Nothing goes to this partition. -/
def noTo (chs : List ChanC) (part : Int) : Prop := ∀ k : Nat, k < chs.length → (ix chs (k : Int)).tp ≠ part
theorem part_deliv {chs : List ChanC} {part ch : Int} {m : List UInt8} {st : St} (hn : noTo chs part) (hp : inSt st part) : ix (delivA chs ch m st) part = ix st part := by
  unfold delivA
  split
  · rename_i ht
    obtain ⟨hc, h0, h1⟩ := ht
    have hk : ch = ((ch.toNat : Nat) : Int) := by have := hc.1; omega
    have hne : (ix chs ch).tp ≠ part := by
      rw [hk]; exact hn _ (by have := hc.1; have := hc.2; omega)
    exact ix_set_ne2 h0 hp.1 (fun h => hne h.symm) _
  · rfl
theorem part_delivAll {chs : List ChanC} {part : Int} (hn : noTo chs part) : ∀ {ms : List (Int × Int × List UInt8)} {st : St}, inSt st part → ix (delivAll chs ms st) part = ix st part
  | [], _, _ => rfl
  | m :: ms, st, hp => by
    have e : delivAll chs (m :: ms) st = delivAll chs ms (delivA chs m.1 m.2.2 st) := rfl
    rw [e, part_delivAll hn (ms := ms) ⟨hp.1, by rw [deliv_len]; exact hp.2⟩, part_deliv hn hp]
theorem part_flush {chs : List ChanC} {part p win : Int} {st : St} (hn : noTo chs part) (hp : inSt st part) : ix (flushSt chs p win st) part = if p = part then drainAll (ix st part) chs (outsA chs part) else ix st part := by
  unfold flushSt
  by_cases hi : inSt st p
  · rw [if_pos hi, part_delivAll hn ⟨hp.1, by rw [List.length_set]; exact hp.2⟩]
    by_cases e : p = part
    · subst e; rw [if_pos rfl, ix_set_k hp.1 hp.2]
    · rw [if_neg e, ix_set_ne2 hi.1 hp.1 (fun h => e h.symm)]
  · rw [if_neg hi, if_neg]
    rintro rfl; exact hi hp
/-- An act, as a partition's own ports see it, if nothing goes to it. -/
def loneA (chs : List ChanC) (part act p k : Int) (d : List UInt8) (x : List AP) : List AP :=
  if p = part then
    (if act = 4 then drainAll x chs (outsA chs part)
    else if act = 0 then intoA x k false d
    else if act = 1 then intoA x k true d
    else if act = 2 then outA x k true
    else x)
  else x
theorem done_len {chs : List ChanC} {act p k : Int} {d : List UInt8} {st : St} : (doneSt chs act p k d st).length = st.length := by
  unfold doneSt
  split
  · unfold flushSt; split
    · rw [delivAll_len, List.length_set]
    · rfl
  · split
    · exact deliv_len
    · split
      · split
        · exact List.length_set
        · split
          · exact List.length_set
          · split
            · exact List.length_set
            · rfl
      · rfl
theorem part_done {chs : List ChanC} {part act p k : Int} {d : List UInt8} {st : St} (hn : noTo chs part) (hp : inSt st part) : ix (doneSt chs act p k d st) part = loneA chs part act p k d (ix st part) := by
  unfold doneSt loneA
  by_cases h4 : act = 4
  · rw [if_pos h4, part_flush hn hp, if_pos h4]
  · rw [if_neg h4, if_neg h4]
    by_cases h5 : act = 5
    · subst h5
      rw [if_pos rfl, part_deliv hn hp]; simp
    · rw [if_neg h5]
      by_cases hi : inSt st p
      · rw [if_pos hi]
        by_cases e : p = part
        · subst e
          rw [if_pos rfl]
          repeat' split
          all_goals first | rfl | exact ix_set_k hp.1 hp.2 _
        · rw [if_neg e]
          repeat' split
          all_goals first | rfl | exact ix_set_ne2 hi.1 hp.1 (fun h => e h.symm) _
      · rw [if_neg hi, if_neg]
        rintro rfl; exact hi hp
theorem okA_lone {chs : List ChanC} {part act p k : Int} {d : List UInt8} {x : List AP} (h : okA x) (hd : d.length ≤ 300) : okA (loneA chs part act p k d x) := by
  unfold loneA
  repeat' split
  · exact okA_drainAll h
  · exact okA_into h hd
  · exact okA_into h hd
  · exact okA_out h
  · exact h
  · exact h
def foldSt (chs : List ChanC) (l : List Act19) (st : St) : St := l.foldl (fun s a => doneSt chs a.act a.part a.k a.b.d s) st
theorem foldSt_snoc {chs : List ChanC} {l : List Act19} {k : Nat} {st : St} (h : k < l.length) : foldSt chs (l.take (k + 1)) st = doneSt chs (ix l (k : Int)).act (ix l (k : Int)).part (ix l (k : Int)).k (ix l (k : Int)).b.d (foldSt chs (l.take k) st) := by
  unfold foldSt
  rw [take_ix h, List.foldl_append]; rfl
theorem foldSt_len {chs : List ChanC} : ∀ {l : List Act19} {st : St}, (foldSt chs l st).length = st.length
  | [], _ => rfl
  | a :: l, st => by
    have e : foldSt chs (a :: l) st = foldSt chs l (doneSt chs a.act a.part a.k a.b.d st) := rfl
    rw [e, foldSt_len (l := l), done_len]
theorem fold_part {chs : List ChanC} {part : Int} (hn : noTo chs part) {l : List Act19} {k : Nat} {st : St} (h : k < l.length) (hp : inSt st part) : ix (foldSt chs (l.take (k + 1)) st) part = loneA chs part (ix l (k : Int)).act (ix l (k : Int)).part (ix l (k : Int)).k (ix l (k : Int)).b.d (ix (foldSt chs (l.take k) st) part) := by
  rw [foldSt_snoc h, part_done hn ⟨hp.1, by rw [foldSt_len]; exact hp.2⟩]
attribute [local irreducible] BrK GenK EGenK EUnitK CallK FnK CallV GuardO GuardC CondW opX opK opKc chkR eqR seqK blkK endL WL WD W LoopW BinK Tr drewK resL PickK NotK NilK ExtrK getK Instr.storeAt Instr.loadAt Instr.fieldAt Instr.indexAt Instr.lookup Instr.mapUpdate Instr.box Instr.alloc Instr.build Instr.buildSlice Instr.makeSlice Instr.makeMap Instr.sliceAt Instr.field Instr.index Instr.makeInterface Instr.typeAssert Builtin.len_ Builtin.append_ Builtin.cap_ Builtin.min_ Builtin.max_ Builtin.copy_ Builtin.clear_ convert binOp mp blk rob sl sep ex fact old
attribute [local irreducible] chn CW
theorem redo_ok {u0 : Value} {c : ConfC} [hd : DeA u0 c] {chs : List ChanC} {part : Int} {all s : SV} {p : Nat} {pts : List Pt} {gs0 : List OneG} {n : Nat} {a : Act19} (h0 : 0 ≤ part) (h1 : part < pts.length) (hp : ix pts part = ⟨some p⟩) (hno : ∀ ch : Int, inCh chs ch → 0 ≤ (ix chs ch).tp → (ix chs ch).tp < pts.length → ix pts (ix chs ch).tp = ⟨none⟩) (hi : invP gs0 n) (hn : n ≤ 700000) (hok : okA (gs0.map OneG.abs)) (hB : a.b.d.length ≤ 300) (ha : a.part = part) :
    Trip Try.prog 33 [u0, all.v, .agg [.int .i64 a.act, .int .i64 a.part, .int .i64 a.k, a.b.s.v].toArray].toArray [sl true c.chans.v chs, sl true all.v pts, poB p s, fam oneA gs0, sl false s.v (gs0.map OneG.pt), sl true a.b.s.v a.b.d]
    fun v l' => ∃ gs2 : List OneG, invP gs2 (n + 1) ∧ gs2.map OneG.abs = loneA chs part a.act a.part a.k a.b.d (gs0.map OneG.abs) ∧ v = .tuple #[] ∧ l' = [poB p s, fam oneA gs2, sl false s.v (gs2.map OneG.pt)] := by
  obtain rfl := hd.h
  intro F K hK
  obtain ⟨act, part', k, ⟨s0, m⟩⟩ := a
  simp only at ha hB
  subst ha
  simp only [List.cons_append, List.nil_append]
  obtain ⟨c1, c2, c3, c4, c5, c6, c7, c8, c9, c10, c11, c12, c13⟩ := c
  have hms := inv_ms hi k
  have hmm := inv_mm hi k
  (refine Tr.enter (rs := []) mixed fn33 rfl (by simp +arith [Try.ntmps33]) fun u => ?_; simp only [cd33, Try.f33])
  by_cases e0 : act = 0
  · subst e0
    have hL : ∀ w3 w4, (intoG gs0 k false w3 ⟨w4, m⟩).map OneG.abs = loneA chs part' 0 part' k m (gs0.map OneG.abs) := fun w3 w4 => by rw [abs_into]; simp [loneA]
    ((try simp only [WKb, ↓reduceIte, Nat.reduceEqDiff, Nat.reduceAdd]) <;> (repeat' ((first
    | (refine G.tr ?_; first | (refine G.call 42 ?_; refine S.kL ?_ (h := write_ok (gs := gs0) (xs := m) (by omega) (by omega)); rintro _ _ ⟨w3, w4, rfl, rfl⟩) | refine S.a ?_ | refine Tr.brK ?_ ?_ | (refine G.call 42 ?_; first | refine S.c ?_ (h := pwrite0_ok) | refine S.c ?_ (h := write_ok ?_ ?_)) | (refine G.call 49 ?_; first | refine S.c ?_ (h := psend0_ok) | refine S.c ?_ (h := send_ok ?_ ?_)) | (refine G.call 51 ?_; first | refine S.c ?_ (h := preceive0_ok) | refine S.c ?_ (h := receive2_ok ?_)) | (refine G.call 27 ?_; refine S.c ?_ (h := flush_ok ?_ ?_ ?_)) | refine S.n fun _ => ?_ | refine S.i fun hix => ?_ | (refine S.g fun hb => ?_; (try simp only [hb])) | (refine S.s (fun hb => ?_) (fun hb => ?_) <;> ((try simp only [hb]) <;> (try (have hp := hb; simp only [WKs] at hp; (try have hq := Int.not_le.2 hp); (try have hq := Int.not_lt.2 hp))))))
    | rintro _ _ ⟨rfl, rfl⟩
    | rintro _ _ ⟨_, _, rfl, rfl⟩
    | rintro _ _ ⟨Gf2, _, _, hfm2, hfv2, hfp2, hfa2, rfl, rfl⟩
    | ((fail_if_success refine G.tr ?_); exact G.prop S.p)
    | fail) <;> (try simp only [WKb, WKh, ↓reduceIte, Nat.reduceEqDiff, pl33, hp]))))
    all_goals
      apply Tr.fin hK ⟨_, inv_into hi hB, hL _ _, rfl, rfl⟩
      ((try clear hK) <;> (try simp only [WKe, *]) <;> repeat (first | with_reducible exact EntR.done | refine S.e ?_ | (refine S.f ?_ <;> (try simp only [WKe, ↓reduceIte, reduceCtorEq, Int.reduceEq, *])) | with_reducible apply EntR.ex | refine EntR.drop (F := F) ?_ | refine EntR.drop ?_))
  by_cases e1 : act = 1
  · subst e1
    have hL : ∀ w3 w4, (intoG gs0 k true w3 ⟨w4, m⟩).map OneG.abs = loneA chs part' 1 part' k m (gs0.map OneG.abs) := fun w3 w4 => by rw [abs_into]; simp [loneA]
    ((try simp only [WKb, ↓reduceIte, Nat.reduceEqDiff, Nat.reduceAdd]) <;> (repeat' ((first
    | (refine G.tr ?_; first | (refine G.call 49 ?_; refine S.kL ?_ (h := send_ok (gs := gs0) (xs := m) (by omega) (by omega)); rintro _ _ ⟨w3, w4, rfl, rfl⟩) | refine S.a ?_ | refine Tr.brK ?_ ?_ | (refine G.call 42 ?_; first | refine S.c ?_ (h := pwrite0_ok) | refine S.c ?_ (h := write_ok ?_ ?_)) | (refine G.call 49 ?_; first | refine S.c ?_ (h := psend0_ok) | refine S.c ?_ (h := send_ok ?_ ?_)) | (refine G.call 51 ?_; first | refine S.c ?_ (h := preceive0_ok) | refine S.c ?_ (h := receive2_ok ?_)) | (refine G.call 27 ?_; refine S.c ?_ (h := flush_ok ?_ ?_ ?_)) | refine S.n fun _ => ?_ | refine S.i fun hix => ?_ | (refine S.g fun hb => ?_; (try simp only [hb])) | (refine S.s (fun hb => ?_) (fun hb => ?_) <;> ((try simp only [hb]) <;> (try (have hp := hb; simp only [WKs] at hp; (try have hq := Int.not_le.2 hp); (try have hq := Int.not_lt.2 hp))))))
    | rintro _ _ ⟨rfl, rfl⟩
    | rintro _ _ ⟨_, _, rfl, rfl⟩
    | rintro _ _ ⟨Gf2, _, _, hfm2, hfv2, hfp2, hfa2, rfl, rfl⟩
    | ((fail_if_success refine G.tr ?_); exact G.prop S.p)
    | fail) <;> (try simp only [WKb, WKh, ↓reduceIte, Nat.reduceEqDiff, Int.reduceEq, pl33, hp]))))
    all_goals
      apply Tr.fin hK ⟨_, inv_into hi hB, hL _ _, rfl, rfl⟩
      ((try clear hK) <;> (try simp only [WKe, *]) <;> repeat (first | with_reducible exact EntR.done | refine S.e ?_ | (refine S.f ?_ <;> (try simp only [WKe, ↓reduceIte, reduceCtorEq, Int.reduceEq, *])) | with_reducible apply EntR.ex | refine EntR.drop (F := F) ?_ | refine EntR.drop ?_))
  by_cases e2 : act = 2
  · subst e2
    have hL : ∀ w3, (outG gs0 k true w3).map OneG.abs = loneA chs part' 2 part' k m (gs0.map OneG.abs) := fun w3 => by rw [abs_out]; simp [loneA]
    ((try simp only [WKb, ↓reduceIte, Nat.reduceEqDiff, Nat.reduceAdd]) <;> (repeat' ((first
    | (refine G.tr ?_; first | (refine G.call 51 ?_; refine S.kL ?_ (h := receive2_ok (gs := gs0) (by omega)); rintro _ _ ⟨w3, w4, rfl, rfl⟩) | refine S.a ?_ | refine Tr.brK ?_ ?_ | (refine G.call 42 ?_; first | refine S.c ?_ (h := pwrite0_ok) | refine S.c ?_ (h := write_ok ?_ ?_)) | (refine G.call 49 ?_; first | refine S.c ?_ (h := psend0_ok) | refine S.c ?_ (h := send_ok ?_ ?_)) | (refine G.call 51 ?_; first | refine S.c ?_ (h := preceive0_ok) | refine S.c ?_ (h := receive2_ok ?_)) | (refine G.call 27 ?_; refine S.c ?_ (h := flush_ok ?_ ?_ ?_)) | refine S.n fun _ => ?_ | refine S.i fun hix => ?_ | (refine S.g fun hb => ?_; (try simp only [hb])) | (refine S.s (fun hb => ?_) (fun hb => ?_) <;> ((try simp only [hb]) <;> (try (have hp := hb; simp only [WKs] at hp; (try have hq := Int.not_le.2 hp); (try have hq := Int.not_lt.2 hp))))))
    | rintro _ _ ⟨rfl, rfl⟩
    | rintro _ _ ⟨_, _, rfl, rfl⟩
    | rintro _ _ ⟨Gf2, _, _, hfm2, hfv2, hfp2, hfa2, rfl, rfl⟩
    | ((fail_if_success refine G.tr ?_); exact G.prop S.p)
    | fail) <;> (try simp only [WKb, WKh, ↓reduceIte, Nat.reduceEqDiff, Int.reduceEq, pl33, hp]))))
    all_goals
      apply Tr.fin hK ⟨_, inv_mono (inv_out hi), hL _, rfl, rfl⟩
      ((try clear hK) <;> (try simp only [WKe, *]) <;> repeat (first | with_reducible exact EntR.done | refine S.e ?_ | (refine S.f ?_ <;> (try simp only [WKe, ↓reduceIte, reduceCtorEq, Int.reduceEq, *])) | with_reducible apply EntR.ex | refine EntR.drop (F := F) ?_ | refine EntR.drop ?_))
  by_cases e4 : act = 4
  · subst e4
    have hL : drainAll (gs0.map OneG.abs) chs (outsA chs part') = loneA chs part' 4 part' k m (gs0.map OneG.abs) := by simp [loneA]
    ((try simp only [WKb, ↓reduceIte, Nat.reduceEqDiff, Nat.reduceAdd]) <;> (repeat' ((first
    | (refine G.tr ?_; first | (refine G.call 27 ?_; refine S.kL ?_ (h := lflush_ok (c := ⟨c1, c2, c3, c4, c5, c6, c7, c8, c9, c10, c11, c12, c13⟩) (hd := ⟨rfl⟩) (pts := pts) (gs0 := gs0) h0 h1 hp hno hi (by omega) hok); rintro _ _ ⟨gf, sf, mf, hfm, hfv, hfa, rfl, rfl⟩) | refine S.a ?_ | refine Tr.brK ?_ ?_ | (refine G.call 42 ?_; first | refine S.c ?_ (h := pwrite0_ok) | refine S.c ?_ (h := write_ok ?_ ?_)) | (refine G.call 49 ?_; first | refine S.c ?_ (h := psend0_ok) | refine S.c ?_ (h := send_ok ?_ ?_)) | (refine G.call 51 ?_; first | refine S.c ?_ (h := preceive0_ok) | refine S.c ?_ (h := receive2_ok ?_)) | (refine G.call 27 ?_; refine S.c ?_ (h := flush_ok ?_ ?_ ?_)) | refine S.n fun _ => ?_ | refine S.i fun hix => ?_ | (refine S.g fun hb => ?_; (try simp only [hb])) | (refine S.s (fun hb => ?_) (fun hb => ?_) <;> ((try simp only [hb]) <;> (try (have hp := hb; simp only [WKs] at hp; (try have hq := Int.not_le.2 hp); (try have hq := Int.not_lt.2 hp))))))
    | rintro _ _ ⟨rfl, rfl⟩
    | rintro _ _ ⟨_, _, rfl, rfl⟩
    | rintro _ _ ⟨Gf2, _, _, hfm2, hfv2, hfp2, hfa2, rfl, rfl⟩
    | ((fail_if_success refine G.tr ?_); exact G.prop S.p)
    | fail) <;> (try simp only [WKb, ↓reduceIte, Nat.reduceEqDiff, Int.reduceEq]))))
    all_goals
      apply Tr.fin hK ⟨gf, inv_mono hfv, hfa.trans hL, rfl, rfl⟩
      ((try clear hK) <;> (try simp only [WKe, *]) <;> repeat (first | with_reducible exact EntR.done | refine S.e ?_ | (refine S.f ?_ <;> (try simp only [WKe, ↓reduceIte, reduceCtorEq, Int.reduceEq, *])) | with_reducible apply EntR.ex | refine EntR.drop (F := F) ?_ | refine EntR.drop ?_))
  · have hL : gs0.map OneG.abs = loneA chs part' act part' k m (gs0.map OneG.abs) := by simp [loneA, e0, e1, e2, e4]
    ((try simp only [WKb, ↓reduceIte, Nat.reduceEqDiff, Nat.reduceAdd]) <;> (repeat' ((first
    | (refine G.tr ?_; first | refine S.a ?_ | refine Tr.brK ?_ ?_ | (refine G.call 42 ?_; first | refine S.c ?_ (h := pwrite0_ok) | refine S.c ?_ (h := write_ok ?_ ?_)) | (refine G.call 49 ?_; first | refine S.c ?_ (h := psend0_ok) | refine S.c ?_ (h := send_ok ?_ ?_)) | (refine G.call 51 ?_; first | refine S.c ?_ (h := preceive0_ok) | refine S.c ?_ (h := receive2_ok ?_)) | (refine G.call 27 ?_; refine S.c ?_ (h := flush_ok ?_ ?_ ?_)) | refine S.n fun _ => ?_ | refine S.i fun hix => ?_ | (refine S.g fun hb => ?_; (try simp only [hb])) | (refine S.s (fun hb => ?_) (fun hb => ?_) <;> ((try simp only [hb]) <;> (try (have hp := hb; simp only [WKs] at hp; (try have hq := Int.not_le.2 hp); (try have hq := Int.not_lt.2 hp))))))
    | rintro _ _ ⟨rfl, rfl⟩
    | rintro _ _ ⟨_, _, rfl, rfl⟩
    | rintro _ _ ⟨Gf2, _, _, hfm2, hfv2, hfp2, hfa2, rfl, rfl⟩
    | ((fail_if_success refine G.tr ?_); exact G.prop S.p)
    | fail) <;> (try simp only [WKb, ↓reduceIte, Nat.reduceEqDiff]))))
    all_goals
      apply Tr.fin hK ⟨gs0, inv_mono hi, hL, rfl, rfl⟩
      ((try clear hK) <;> (try simp only [WKe, *]) <;> repeat (first | with_reducible exact EntR.done | refine S.e ?_ | (refine S.f ?_ <;> (try simp only [WKe, ↓reduceIte, reduceCtorEq, Int.reduceEq, *])) | with_reducible apply EntR.ex | refine EntR.drop (F := F) ?_ | refine EntR.drop ?_))
end Go.Proofs.Ytlhmbcmkpafjoaa
