import Derived.Test.YtlmcoiloepoggaaPN
namespace Go.Proofs.Ytlmcoiloepoggaa
open Go Go.Wk
set_option maxHeartbeats 6400000
set_option maxRecDepth 10000

theorem ix_cases {α : Type} [Inhabited α] (xs : List α) (k : Int) : ix xs k ∈ xs ∨ ix xs k = default := by
  unfold ix
  by_cases h : k.toNat < xs.length
  · left; simp [h]
  · right; simp [h]
theorem m_len {gs : List OneG} {n : Nat} (h : invP gs n) (k : Int) : (ix gs k).m.d.length ≤ 1000000 := by
  rcases ix_cases gs k with hm | hm
  · have := (h.2 _ hm).2.1; omega
  · rw [hm]; exact Nat.zero_le _
theorem ms_len {gs : List OneG} {n : Nat} (h : invP gs n) (hn : n ≤ 100000) (k : Int) : (ix gs k).ms.length ≤ 1000000 := by
  rcases ix_cases gs k with hm | hm
  · have := (h.2 _ hm).2.2; omega
  · rw [hm]; exact Nat.zero_le _
theorem abs_ms_len {gs : List OneG} {n : Nat} (h : invP gs n) (hn : n ≤ 100000) (k : Int) : (ix (gs.map OneG.abs) k).ms.length ≤ 1000000 := by
  rcases ix_cases (gs.map OneG.abs) k with hm | hm
  · obtain ⟨g, hg, he⟩ := List.mem_map.1 hm
    rw [← he]
    have := (h.2 _ hg).2.2
    unfold OneG.abs
    simp only
    split
    · rw [List.length_map]; omega
    · split <;> simp
  · rw [hm]; exact Nat.zero_le _
theorem abs_len8 {gs : List OneG} {n : Nat} (h : invP gs n) : (gs.map OneG.abs).length ≤ 8 := by rw [abs_len]; exact h.1
theorem clear_abs {gs gs2 : List OneG} {n : Nat} (h : invP gs n) (hc : gs2.map OneG.core = gs.map fun g => portM g.conf) : invP gs2 (n + 1) ∧ gs2.map OneG.abs = clearA (gs.map OneG.abs) := by
  have h2 : gs2.map OneG.core = (gs.map OneG.conf).map portM := by rw [hc, List.map_map]; rfl
  obtain ⟨a, b⟩ := core_inv h2 (by simpa using h.1)
  refine ⟨⟨a.1, fun g hg => ⟨(a.2 g hg).1, (a.2 g hg).2.1, by have := (a.2 g hg).2.2; omega⟩⟩, ?_⟩
  rw [b, clearA, List.map_map, List.map_map]; rfl
theorem outA_f {ps : List AP} {k : Int} : outA ps k false = ps := by simp [outA]
theorem outG_f {gs : List OneG} {k : Int} {s : SV} : outG gs k false s = gs := by simp [outG]
attribute [local irreducible] BrK GenK EGenK EUnitK CallK FnK CallV GuardO GuardC CondW opX opK opKc chkR eqR seqK blkK endL WL WD W LoopW BinK Tr drewK resL PickK NotK NilK ExtrK getK Instr.storeAt Instr.loadAt Instr.fieldAt Instr.indexAt Instr.lookup Instr.mapUpdate Instr.box Instr.alloc Instr.build Instr.buildSlice Instr.makeSlice Instr.makeMap Instr.sliceAt Instr.field Instr.index Instr.makeInterface Instr.typeAssert Builtin.len_ Builtin.append_ Builtin.cap_ Builtin.min_ Builtin.max_ Builtin.copy_ Builtin.clear_ convert binOp mp blk rob sl sep ex fact old
theorem done18_ok {p r : Nat} {s a b c d : SV} {gs : List OneG} {xs : List (SL Msg)} {act : Act18} {n : Nat} (hx : xs.map mo = (gs.map OneG.abs).map AP.ms) (hv : invP gs n) (hn : n ≤ 100000) (hB : act.b.d.length ≤ 300) :
    Trip Try.prog 55 [.pointer (some ⟨p, 0, none⟩), .pointer (some ⟨r, 0, none⟩), .agg [.int .i64 act.act, .int .i64 act.k, act.b.s.v].toArray].toArray [poB p s, fam oneA gs, sl false s.v (gs.map OneG.pt), rB r a b c d, sl true a.v ((gs.map OneG.abs).map AP.c), sl false b.v xs, fzl xs, sl false c.v ((gs.map OneG.abs).map AP.fresh), sl false d.v ((gs.map OneG.abs).map AP.lost), sl true act.b.s.v act.b.d]
    fun v l' => ∃ gs2 b2 c2 d2 xs2, invP gs2 (n + 1) ∧ xs2.map mo = (gs2.map OneG.abs).map AP.ms ∧ v = .bool true ∧ l' = [poB p s, fam oneA gs2, sl false s.v (gs2.map OneG.pt), rB r a b2 c2 d2, sl true a.v ((gs2.map OneG.abs).map AP.c), sl false b2.v xs2, fzl xs2, sl false c2.v ((gs2.map OneG.abs).map AP.fresh), sl false d2.v ((gs2.map OneG.abs).map AP.lost)] := by
  intro F K hK
  obtain ⟨act, k, ⟨s0, m⟩⟩ := act
  simp only [List.cons_append, List.nil_append] at hB ⊢
  have hl1 := m_len hv k
  have hl2 := ms_len hv hn k
  have hl3 := abs_ms_len hv hn k
  have hl4 := abs_len8 hv
  have hl5 := hv.1
  have hdr := (abs_drain hv (k := k)).1
  have hIn : ∀ (q : Bool) (s t : SV) {x : List (List (List UInt8))}, x = (intoA (gs.map OneG.abs) k q m).map AP.ms → x = ((intoG gs k q s ⟨t, m⟩).map OneG.abs).map AP.ms := fun q s t x h => by rw [abs_into]; exact h
  have hOut : ∀ (q : Bool) (s : SV) {x : List (List (List UInt8))}, x = (outA (gs.map OneG.abs) k q).map AP.ms → x = ((outG gs k q s).map OneG.abs).map AP.ms := fun q s x h => by rw [abs_out]; exact h
  have hDel : ∀ (s t : SV) {x : List (List (List UInt8))}, x = (delA (gs.map OneG.abs) k m).map AP.ms → x = ((delG gs k s ⟨t, m⟩).map OneG.abs).map AP.ms := fun s t x h => by rw [abs_del.2]; exact h
  (refine Tr.enter (rs := [.tmp 6]) mixed fn55 rfl (by simp +arith [Try.ntmps55]) fun u => ?_; simp only [cd55, Try.f55])
  by_cases h0 : act = 0
  · subst h0
    ((try simp only [WKb, ↓reduceIte, Nat.reduceAdd]) <;> (repeat' ((first
    | (refine G.tr ?_; first | refine S.a ?_ | refine Tr.brK ?_ ?_ | (refine G.call 52 ?_; first | refine S.c ?_ (h := pwrite0_ok) | refine S.c ?_ (h := write_ok ?_ ?_)) | (refine G.call 96 ?_; refine S.c ?_ (h := rwrite_ok ?_ ?_ ?_)) | (refine G.call 51 ?_; first | refine S.c ?_ (h := pread0_ok) | refine S.c ?_ (h := read2_ok ?_)) | (refine G.call 97 ?_; refine S.c ?_ (h := rread_ok ?_)) | (refine G.call 46 ?_; first | refine S.c ?_ (h := psend0_ok) | refine S.c ?_ (h := send_ok ?_ ?_)) | (refine G.call 98 ?_; refine S.c ?_ (h := rsend_ok ?_ ?_ ?_)) | (refine G.call 47 ?_; first | refine S.c ?_ (h := preceive0_ok) | refine S.c ?_ (h := receive2_ok ?_)) | (refine G.call 99 ?_; refine S.c ?_ (h := rreceive_ok ?_ ?_ ?_)) | (refine G.call 49 ?_; first | refine S.c ?_ (h := drain0_ok (by rfl) ?_) | refine S.c ?_ (h := drain1_ok ?_) | refine S.c ?_ (h := pdrain1_ok) | refine S.c ?_ (h := pdrain0_ok)) | (refine G.call 100 ?_; refine S.c ?_ (h := rdrain_ok ?_ ?_)) | (refine G.call 48 ?_; first | refine S.c ?_ (h := same2_ok ?_) | refine S.c ?_ (h := same18_ok)) | (refine G.call 45 ?_; first | refine S.c ?_ (h := pdeliver0_ok) | refine S.c ?_ (h := deliver_ok ?_ ?_)) | (refine G.call 101 ?_; refine S.c ?_ (h := rdeliver_ok ?_ ?_ ?_)) | (refine G.call 56 ?_; first | refine S.c ?_ (h := pclear_ok) | refine S.c ?_ (h := pclear0_ok) | refine S.c ?_ (h := pclear1_ok)) | (refine G.call 102 ?_; refine S.c ?_ (h := rclear_ok ?_)) | refine S.n fun _ => ?_ | refine S.i fun hix => ?_ | (refine S.g fun hb => ?_; (try simp only [hb])) | (refine S.s (fun hb => ?_) (fun hb => ?_) <;> ((try simp only [hb]) <;> (try (have hp := hb; simp only [WKs] at hp; (try have hq := Int.not_le.2 hp); (try have hq := Int.not_lt.2 hp))))))
    | rintro _ _ ⟨rfl, rfl⟩
    | rintro _ _ ⟨_, rfl, rfl⟩
    | rintro _ _ ⟨_, _, rfl, rfl⟩
    | rintro _ _ ⟨_, _, hrd, rfl, rfl⟩
    | rintro _ _ ⟨_, hpt, hco, rfl, rfl⟩
    | rintro _ _ ⟨_, _, _, _, hxs, rfl, rfl⟩
    | rintro _ _ ⟨_, _, _, _, _, hxs, rfl, rfl⟩
    | rintro _ _ ⟨_, _, _, _, _, _, hxs, hrd2, rfl, rfl⟩
    | ((fail_if_success refine G.tr ?_); exact G.prop S.p)
    | fail) <;> (try simp only [WKb, ↓reduceIte, Nat.reduceEqDiff, pl55, abs_intoC]))))
    all_goals
      apply Tr.fin hK ⟨intoG gs k false _ ⟨_, m⟩, _, _, _, _, inv_into hv hB, hIn _ _ _ hxs, rfl, rfl⟩
      ((try clear hK) <;> (try simp only [WKe, abs_into, *]) <;> repeat (first | with_reducible exact EntR.done | refine S.e ?_ | (refine S.f ?_ <;> (try simp only [WKe, abs_into, ↓reduceIte, reduceCtorEq, Int.reduceEq, *])) | with_reducible apply EntR.ex | refine EntR.drop (F := F) ?_ | refine EntR.drop ?_))
      all_goals exact SV.mk none 0 0
  by_cases h1 : act = 1
  · subst h1
    ((try simp only [WKb, ↓reduceIte, Nat.reduceAdd]) <;> (repeat' ((first
    | (refine G.tr ?_; first | refine S.a ?_ | refine Tr.brK ?_ ?_ | (refine G.call 52 ?_; first | refine S.c ?_ (h := pwrite0_ok) | refine S.c ?_ (h := write_ok ?_ ?_)) | (refine G.call 96 ?_; refine S.c ?_ (h := rwrite_ok ?_ ?_ ?_)) | (refine G.call 51 ?_; first | refine S.c ?_ (h := pread0_ok) | refine S.c ?_ (h := read2_ok ?_)) | (refine G.call 97 ?_; refine S.c ?_ (h := rread_ok ?_)) | (refine G.call 46 ?_; first | refine S.c ?_ (h := psend0_ok) | refine S.c ?_ (h := send_ok ?_ ?_)) | (refine G.call 98 ?_; refine S.c ?_ (h := rsend_ok ?_ ?_ ?_)) | (refine G.call 47 ?_; first | refine S.c ?_ (h := preceive0_ok) | refine S.c ?_ (h := receive2_ok ?_)) | (refine G.call 99 ?_; refine S.c ?_ (h := rreceive_ok ?_ ?_ ?_)) | (refine G.call 49 ?_; first | refine S.c ?_ (h := drain0_ok (by rfl) ?_) | refine S.c ?_ (h := drain1_ok ?_) | refine S.c ?_ (h := pdrain1_ok) | refine S.c ?_ (h := pdrain0_ok)) | (refine G.call 100 ?_; refine S.c ?_ (h := rdrain_ok ?_ ?_)) | (refine G.call 48 ?_; first | refine S.c ?_ (h := same2_ok ?_) | refine S.c ?_ (h := same18_ok)) | (refine G.call 45 ?_; first | refine S.c ?_ (h := pdeliver0_ok) | refine S.c ?_ (h := deliver_ok ?_ ?_)) | (refine G.call 101 ?_; refine S.c ?_ (h := rdeliver_ok ?_ ?_ ?_)) | (refine G.call 56 ?_; first | refine S.c ?_ (h := pclear_ok) | refine S.c ?_ (h := pclear0_ok) | refine S.c ?_ (h := pclear1_ok)) | (refine G.call 102 ?_; refine S.c ?_ (h := rclear_ok ?_)) | refine S.n fun _ => ?_ | refine S.i fun hix => ?_ | (refine S.g fun hb => ?_; (try simp only [hb])) | (refine S.s (fun hb => ?_) (fun hb => ?_) <;> ((try simp only [hb]) <;> (try (have hp := hb; simp only [WKs] at hp; (try have hq := Int.not_le.2 hp); (try have hq := Int.not_lt.2 hp))))))
    | rintro _ _ ⟨rfl, rfl⟩
    | rintro _ _ ⟨_, rfl, rfl⟩
    | rintro _ _ ⟨_, _, rfl, rfl⟩
    | rintro _ _ ⟨_, _, hrd, rfl, rfl⟩
    | rintro _ _ ⟨_, hpt, hco, rfl, rfl⟩
    | rintro _ _ ⟨_, _, _, _, hxs, rfl, rfl⟩
    | rintro _ _ ⟨_, _, _, _, _, hxs, rfl, rfl⟩
    | rintro _ _ ⟨_, _, _, _, _, _, hxs, hrd2, rfl, rfl⟩
    | ((fail_if_success refine G.tr ?_); exact G.prop S.p)
    | fail) <;> (try simp only [WKb, WKh, ↓reduceIte, Nat.reduceEqDiff, Int.reduceEq, abs_outC, abs_outD, outG_f]))))
    all_goals
      apply Tr.fin hK ⟨gs, _, _, _, _, inv_mono hv, hx, rfl, rfl⟩
      ((try clear hK) <;> (try simp only [WKe, *]) <;> repeat (first | with_reducible exact EntR.done | refine S.e ?_ | (refine S.f ?_ <;> (try simp only [WKe, ↓reduceIte, reduceCtorEq, Int.reduceEq, *])) | with_reducible apply EntR.ex | refine EntR.drop (F := F) ?_ | refine EntR.drop ?_))
      all_goals exact SV.mk none 0 0
  by_cases h2 : act = 2
  · subst h2
    ((try simp only [WKb, ↓reduceIte, Nat.reduceAdd]) <;> (repeat' ((first
    | (refine G.tr ?_; first | refine S.a ?_ | refine Tr.brK ?_ ?_ | (refine G.call 52 ?_; first | refine S.c ?_ (h := pwrite0_ok) | refine S.c ?_ (h := write_ok ?_ ?_)) | (refine G.call 96 ?_; refine S.c ?_ (h := rwrite_ok ?_ ?_ ?_)) | (refine G.call 51 ?_; first | refine S.c ?_ (h := pread0_ok) | refine S.c ?_ (h := read2_ok ?_)) | (refine G.call 97 ?_; refine S.c ?_ (h := rread_ok ?_)) | (refine G.call 46 ?_; first | refine S.c ?_ (h := psend0_ok) | refine S.c ?_ (h := send_ok ?_ ?_)) | (refine G.call 98 ?_; refine S.c ?_ (h := rsend_ok ?_ ?_ ?_)) | (refine G.call 47 ?_; first | refine S.c ?_ (h := preceive0_ok) | refine S.c ?_ (h := receive2_ok ?_)) | (refine G.call 99 ?_; refine S.c ?_ (h := rreceive_ok ?_ ?_ ?_)) | (refine G.call 49 ?_; first | refine S.c ?_ (h := drain0_ok (by rfl) ?_) | refine S.c ?_ (h := drain1_ok ?_) | refine S.c ?_ (h := pdrain1_ok) | refine S.c ?_ (h := pdrain0_ok)) | (refine G.call 100 ?_; refine S.c ?_ (h := rdrain_ok ?_ ?_)) | (refine G.call 48 ?_; first | refine S.c ?_ (h := same2_ok ?_) | refine S.c ?_ (h := same18_ok)) | (refine G.call 45 ?_; first | refine S.c ?_ (h := pdeliver0_ok) | refine S.c ?_ (h := deliver_ok ?_ ?_)) | (refine G.call 101 ?_; refine S.c ?_ (h := rdeliver_ok ?_ ?_ ?_)) | (refine G.call 56 ?_; first | refine S.c ?_ (h := pclear_ok) | refine S.c ?_ (h := pclear0_ok) | refine S.c ?_ (h := pclear1_ok)) | (refine G.call 102 ?_; refine S.c ?_ (h := rclear_ok ?_)) | refine S.n fun _ => ?_ | refine S.i fun hix => ?_ | (refine S.g fun hb => ?_; (try simp only [hb])) | (refine S.s (fun hb => ?_) (fun hb => ?_) <;> ((try simp only [hb]) <;> (try (have hp := hb; simp only [WKs] at hp; (try have hq := Int.not_le.2 hp); (try have hq := Int.not_lt.2 hp))))))
    | rintro _ _ ⟨rfl, rfl⟩
    | rintro _ _ ⟨_, rfl, rfl⟩
    | rintro _ _ ⟨_, _, rfl, rfl⟩
    | rintro _ _ ⟨_, _, hrd, rfl, rfl⟩
    | rintro _ _ ⟨_, hpt, hco, rfl, rfl⟩
    | rintro _ _ ⟨_, _, _, _, hxs, rfl, rfl⟩
    | rintro _ _ ⟨_, _, _, _, _, hxs, rfl, rfl⟩
    | rintro _ _ ⟨_, _, _, _, _, _, hxs, hrd2, rfl, rfl⟩
    | ((fail_if_success refine G.tr ?_); exact G.prop S.p)
    | fail) <;> (try simp only [WKb, ↓reduceIte, Nat.reduceEqDiff, Int.reduceEq, pl55, abs_intoC]))))
    all_goals
      apply Tr.fin hK ⟨intoG gs k true _ ⟨_, m⟩, _, _, _, _, inv_into hv hB, hIn _ _ _ hxs, rfl, rfl⟩
      ((try clear hK) <;> (try simp only [WKe, abs_into, *]) <;> repeat (first | with_reducible exact EntR.done | refine S.e ?_ | (refine S.f ?_ <;> (try simp only [WKe, abs_into, ↓reduceIte, reduceCtorEq, Int.reduceEq, *])) | with_reducible apply EntR.ex | refine EntR.drop (F := F) ?_ | refine EntR.drop ?_))
      all_goals exact SV.mk none 0 0
  by_cases h3 : act = 3
  · subst h3
    ((try simp only [WKb, ↓reduceIte, Nat.reduceAdd]) <;> (repeat' ((first
    | (refine G.tr ?_; first | refine S.a ?_ | refine Tr.brK ?_ ?_ | (refine G.call 52 ?_; first | refine S.c ?_ (h := pwrite0_ok) | refine S.c ?_ (h := write_ok ?_ ?_)) | (refine G.call 96 ?_; refine S.c ?_ (h := rwrite_ok ?_ ?_ ?_)) | (refine G.call 51 ?_; first | refine S.c ?_ (h := pread0_ok) | refine S.c ?_ (h := read2_ok ?_)) | (refine G.call 97 ?_; refine S.c ?_ (h := rread_ok ?_)) | (refine G.call 46 ?_; first | refine S.c ?_ (h := psend0_ok) | refine S.c ?_ (h := send_ok ?_ ?_)) | (refine G.call 98 ?_; refine S.c ?_ (h := rsend_ok ?_ ?_ ?_)) | (refine G.call 47 ?_; first | refine S.c ?_ (h := preceive0_ok) | refine S.c ?_ (h := receive2_ok ?_)) | (refine G.call 99 ?_; refine S.c ?_ (h := rreceive_ok ?_ ?_ ?_)) | (refine G.call 49 ?_; first | refine S.c ?_ (h := drain0_ok (by rfl) ?_) | refine S.c ?_ (h := drain1_ok ?_) | refine S.c ?_ (h := pdrain1_ok) | refine S.c ?_ (h := pdrain0_ok)) | (refine G.call 100 ?_; refine S.c ?_ (h := rdrain_ok ?_ ?_)) | (refine G.call 48 ?_; first | refine S.c ?_ (h := same2_ok ?_) | refine S.c ?_ (h := same18_ok)) | (refine G.call 45 ?_; first | refine S.c ?_ (h := pdeliver0_ok) | refine S.c ?_ (h := deliver_ok ?_ ?_)) | (refine G.call 101 ?_; refine S.c ?_ (h := rdeliver_ok ?_ ?_ ?_)) | (refine G.call 56 ?_; first | refine S.c ?_ (h := pclear_ok) | refine S.c ?_ (h := pclear0_ok) | refine S.c ?_ (h := pclear1_ok)) | (refine G.call 102 ?_; refine S.c ?_ (h := rclear_ok ?_)) | refine S.n fun _ => ?_ | refine S.i fun hix => ?_ | (refine S.g fun hb => ?_; (try simp only [hb])) | (refine S.s (fun hb => ?_) (fun hb => ?_) <;> ((try simp only [hb]) <;> (try (have hp := hb; simp only [WKs] at hp; (try have hq := Int.not_le.2 hp); (try have hq := Int.not_lt.2 hp))))))
    | rintro _ _ ⟨rfl, rfl⟩
    | rintro _ _ ⟨_, rfl, rfl⟩
    | rintro _ _ ⟨_, _, rfl, rfl⟩
    | rintro _ _ ⟨_, _, hrd, rfl, rfl⟩
    | rintro _ _ ⟨_, hpt, hco, rfl, rfl⟩
    | rintro _ _ ⟨_, _, _, _, hxs, rfl, rfl⟩
    | rintro _ _ ⟨_, _, _, _, _, hxs, rfl, rfl⟩
    | rintro _ _ ⟨_, _, _, _, _, _, hxs, hrd2, rfl, rfl⟩
    | ((fail_if_success refine G.tr ?_); exact G.prop S.p)
    | fail) <;> (try simp only [WKb, WKh, ↓reduceIte, Nat.reduceEqDiff, Int.reduceEq, abs_outC, abs_outD]))))
    all_goals
      apply Tr.fin hK ⟨outG gs k true _, _, _, _, _, inv_mono (inv_out hv), hOut _ _ hxs, rfl, rfl⟩
      ((try clear hK) <;> (try simp only [WKe, abs_out, *]) <;> repeat (first | with_reducible exact EntR.done | refine S.e ?_ | (refine S.f ?_ <;> (try simp only [WKe, abs_out, ↓reduceIte, reduceCtorEq, Int.reduceEq, *])) | with_reducible apply EntR.ex | refine EntR.drop (F := F) ?_ | refine EntR.drop ?_))
      all_goals exact SV.mk none 0 0
  by_cases h4 : act = 4
  · subst h4
    ((try simp only [WKb, ↓reduceIte, Nat.reduceAdd]) <;> (repeat' ((first
    | (refine G.tr ?_; first | refine S.a ?_ | refine Tr.brK ?_ ?_ | (refine G.call 52 ?_; first | refine S.c ?_ (h := pwrite0_ok) | refine S.c ?_ (h := write_ok ?_ ?_)) | (refine G.call 96 ?_; refine S.c ?_ (h := rwrite_ok ?_ ?_ ?_)) | (refine G.call 51 ?_; first | refine S.c ?_ (h := pread0_ok) | refine S.c ?_ (h := read2_ok ?_)) | (refine G.call 97 ?_; refine S.c ?_ (h := rread_ok ?_)) | (refine G.call 46 ?_; first | refine S.c ?_ (h := psend0_ok) | refine S.c ?_ (h := send_ok ?_ ?_)) | (refine G.call 98 ?_; refine S.c ?_ (h := rsend_ok ?_ ?_ ?_)) | (refine G.call 47 ?_; first | refine S.c ?_ (h := preceive0_ok) | refine S.c ?_ (h := receive2_ok ?_)) | (refine G.call 99 ?_; refine S.c ?_ (h := rreceive_ok ?_ ?_ ?_)) | (refine G.call 49 ?_; first | refine S.c ?_ (h := drain0_ok (by rfl) ?_) | refine S.c ?_ (h := drain1_ok ?_) | refine S.c ?_ (h := pdrain1_ok) | refine S.c ?_ (h := pdrain0_ok)) | (refine G.call 100 ?_; refine S.c ?_ (h := rdrain_ok ?_ ?_)) | (refine G.call 48 ?_; first | refine S.c ?_ (h := same2_ok ?_) | refine S.c ?_ (h := same18_ok)) | (refine G.call 45 ?_; first | refine S.c ?_ (h := pdeliver0_ok) | refine S.c ?_ (h := deliver_ok ?_ ?_)) | (refine G.call 101 ?_; refine S.c ?_ (h := rdeliver_ok ?_ ?_ ?_)) | (refine G.call 56 ?_; first | refine S.c ?_ (h := pclear_ok) | refine S.c ?_ (h := pclear0_ok) | refine S.c ?_ (h := pclear1_ok)) | (refine G.call 102 ?_; refine S.c ?_ (h := rclear_ok ?_)) | refine S.n fun _ => ?_ | refine S.i fun hix => ?_ | (refine S.g fun hb => ?_; (try simp only [hb])) | (refine S.s (fun hb => ?_) (fun hb => ?_) <;> ((try simp only [hb]) <;> (try (have hp := hb; simp only [WKs] at hp; (try have hq := Int.not_le.2 hp); (try have hq := Int.not_lt.2 hp))))))
    | rintro _ _ ⟨rfl, rfl⟩
    | rintro _ _ ⟨_, rfl, rfl⟩
    | rintro _ _ ⟨_, _, rfl, rfl⟩
    | rintro _ _ ⟨_, _, hrd, rfl, rfl⟩
    | rintro _ _ ⟨_, hpt, hco, rfl, rfl⟩
    | rintro _ _ ⟨_, _, _, _, hxs, rfl, rfl⟩
    | rintro _ _ ⟨_, _, _, _, _, hxs, rfl, rfl⟩
    | rintro _ _ ⟨_, _, _, _, _, _, hxs, hrd2, rfl, rfl⟩
    | (refine G.call 48 ?_; refine Tr.freezeAt (α := Msg) (by (repeat (first | exact TakeA.here | apply TakeA.next)); done) ?_)
    | exact hrd.trans (hdr.trans hrd2.symm)
    | ((fail_if_success refine G.tr ?_); exact G.prop S.p)
    | fail) <;> (try simp only [WKb, ↓reduceIte, Nat.reduceEqDiff, Int.reduceEq, pl55]))))
    all_goals
      apply Tr.fin hK ⟨drainG gs k, _, _, _, _, inv_mono (inv_drain hv), by rw [(abs_drain hv).2]; exact hxs, rfl, rfl⟩
      ((try clear hK) <;> (try simp only [WKe, (abs_drain hv).2, *]) <;> repeat (first | with_reducible exact EntR.done | refine S.e ?_ | (refine S.f ?_ <;> (try simp only [WKe, (abs_drain hv).2, ↓reduceIte, reduceCtorEq, Int.reduceEq, *])) | with_reducible apply EntR.ex | refine EntR.drop (F := F) ?_ | refine EntR.drop ?_))
      all_goals exact SV.mk none 0 0
  by_cases h5 : act = 5
  · subst h5
    have hd1 := (abs_del (gs := gs) (k := k) (s := ⟨none, 0, 0⟩) (m := default)).1
    ((try simp only [WKb, ↓reduceIte, Nat.reduceAdd]) <;> (repeat' ((first
    | (refine G.tr ?_; first | refine S.a ?_ | refine Tr.brK ?_ ?_ | (refine G.call 52 ?_; first | refine S.c ?_ (h := pwrite0_ok) | refine S.c ?_ (h := write_ok ?_ ?_)) | (refine G.call 96 ?_; refine S.c ?_ (h := rwrite_ok ?_ ?_ ?_)) | (refine G.call 51 ?_; first | refine S.c ?_ (h := pread0_ok) | refine S.c ?_ (h := read2_ok ?_)) | (refine G.call 97 ?_; refine S.c ?_ (h := rread_ok ?_)) | (refine G.call 46 ?_; first | refine S.c ?_ (h := psend0_ok) | refine S.c ?_ (h := send_ok ?_ ?_)) | (refine G.call 98 ?_; refine S.c ?_ (h := rsend_ok ?_ ?_ ?_)) | (refine G.call 47 ?_; first | refine S.c ?_ (h := preceive0_ok) | refine S.c ?_ (h := receive2_ok ?_)) | (refine G.call 99 ?_; refine S.c ?_ (h := rreceive_ok ?_ ?_ ?_)) | (refine G.call 49 ?_; first | refine S.c ?_ (h := drain0_ok (by rfl) ?_) | refine S.c ?_ (h := drain1_ok ?_) | refine S.c ?_ (h := pdrain1_ok) | refine S.c ?_ (h := pdrain0_ok)) | (refine G.call 100 ?_; refine S.c ?_ (h := rdrain_ok ?_ ?_)) | (refine G.call 48 ?_; first | refine S.c ?_ (h := same2_ok ?_) | refine S.c ?_ (h := same18_ok)) | (refine G.call 45 ?_; first | refine S.c ?_ (h := pdeliver0_ok) | refine S.c ?_ (h := deliver_ok ?_ ?_)) | (refine G.call 101 ?_; refine S.c ?_ (h := rdeliver_ok ?_ ?_ ?_)) | (refine G.call 56 ?_; first | refine S.c ?_ (h := pclear_ok) | refine S.c ?_ (h := pclear0_ok) | refine S.c ?_ (h := pclear1_ok)) | (refine G.call 102 ?_; refine S.c ?_ (h := rclear_ok ?_)) | refine S.n fun _ => ?_ | refine S.i fun hix => ?_ | (refine S.g fun hb => ?_; (try simp only [hb])) | (refine S.s (fun hb => ?_) (fun hb => ?_) <;> ((try simp only [hb]) <;> (try (have hp := hb; simp only [WKs] at hp; (try have hq := Int.not_le.2 hp); (try have hq := Int.not_lt.2 hp))))))
    | rintro _ _ ⟨rfl, rfl⟩
    | rintro _ _ ⟨_, rfl, rfl⟩
    | rintro _ _ ⟨_, _, rfl, rfl⟩
    | rintro _ _ ⟨_, _, hrd, rfl, rfl⟩
    | rintro _ _ ⟨_, hpt, hco, rfl, rfl⟩
    | rintro _ _ ⟨_, _, _, _, hxs, rfl, rfl⟩
    | rintro _ _ ⟨_, _, _, _, _, hxs, rfl, rfl⟩
    | rintro _ _ ⟨_, _, _, _, _, _, hxs, hrd2, rfl, rfl⟩
    | ((fail_if_success refine G.tr ?_); exact G.prop S.p)
    | fail) <;> (try simp only [WKb, ↓reduceIte, Nat.reduceEqDiff, Int.reduceEq, pl55, hd1]))))
    all_goals
      apply Tr.fin hK ⟨delG gs k _ ⟨_, m⟩, _, _, _, _, inv_del hv hB, hDel _ _ hxs, rfl, rfl⟩
      ((try clear hK) <;> (try simp only [WKe, abs_del, *]) <;> repeat (first | with_reducible exact EntR.done | refine S.e ?_ | (refine S.f ?_ <;> (try simp only [WKe, abs_del, ↓reduceIte, reduceCtorEq, Int.reduceEq, *])) | with_reducible apply EntR.ex | refine EntR.drop (F := F) ?_ | refine EntR.drop ?_))
      all_goals exact SV.mk none 0 0
  · ((try simp only [WKb, ↓reduceIte, Nat.reduceAdd]) <;> (repeat' ((first
    | (refine G.tr ?_; first | refine S.a ?_ | refine Tr.brK ?_ ?_ | (refine G.call 52 ?_; first | refine S.c ?_ (h := pwrite0_ok) | refine S.c ?_ (h := write_ok ?_ ?_)) | (refine G.call 96 ?_; refine S.c ?_ (h := rwrite_ok ?_ ?_ ?_)) | (refine G.call 51 ?_; first | refine S.c ?_ (h := pread0_ok) | refine S.c ?_ (h := read2_ok ?_)) | (refine G.call 97 ?_; refine S.c ?_ (h := rread_ok ?_)) | (refine G.call 46 ?_; first | refine S.c ?_ (h := psend0_ok) | refine S.c ?_ (h := send_ok ?_ ?_)) | (refine G.call 98 ?_; refine S.c ?_ (h := rsend_ok ?_ ?_ ?_)) | (refine G.call 47 ?_; first | refine S.c ?_ (h := preceive0_ok) | refine S.c ?_ (h := receive2_ok ?_)) | (refine G.call 99 ?_; refine S.c ?_ (h := rreceive_ok ?_ ?_ ?_)) | (refine G.call 49 ?_; first | refine S.c ?_ (h := drain0_ok (by rfl) ?_) | refine S.c ?_ (h := drain1_ok ?_) | refine S.c ?_ (h := pdrain1_ok) | refine S.c ?_ (h := pdrain0_ok)) | (refine G.call 100 ?_; refine S.c ?_ (h := rdrain_ok ?_ ?_)) | (refine G.call 48 ?_; first | refine S.c ?_ (h := same2_ok ?_) | refine S.c ?_ (h := same18_ok)) | (refine G.call 45 ?_; first | refine S.c ?_ (h := pdeliver0_ok) | refine S.c ?_ (h := deliver_ok ?_ ?_)) | (refine G.call 101 ?_; refine S.c ?_ (h := rdeliver_ok ?_ ?_ ?_)) | (refine G.call 56 ?_; first | refine S.c ?_ (h := pclear_ok) | refine S.c ?_ (h := pclear0_ok) | refine S.c ?_ (h := pclear1_ok)) | (refine G.call 102 ?_; refine S.c ?_ (h := rclear_ok ?_)) | refine S.n fun _ => ?_ | refine S.i fun hix => ?_ | (refine S.g fun hb => ?_; (try simp only [hb])) | (refine S.s (fun hb => ?_) (fun hb => ?_) <;> ((try simp only [hb]) <;> (try (have hp := hb; simp only [WKs] at hp; (try have hq := Int.not_le.2 hp); (try have hq := Int.not_lt.2 hp))))))
    | rintro _ _ ⟨rfl, rfl⟩
    | rintro _ _ ⟨_, rfl, rfl⟩
    | rintro _ _ ⟨_, _, rfl, rfl⟩
    | rintro _ _ ⟨_, _, hrd, rfl, rfl⟩
    | rintro _ _ ⟨_, hpt, hco, rfl, rfl⟩
    | rintro _ _ ⟨_, _, _, _, hxs, rfl, rfl⟩
    | rintro _ _ ⟨_, _, _, _, _, hxs, rfl, rfl⟩
    | rintro _ _ ⟨_, _, _, _, _, _, hxs, hrd2, rfl, rfl⟩
    | ((fail_if_success refine G.tr ?_); exact G.prop S.p)
    | fail) <;> (try simp only [WKb, ↓reduceIte, Nat.reduceEqDiff]))))
    all_goals
      have hcl := clear_abs hv hrd
      have hpt := (‹List.map OneG.pt _ = List.map OneG.pt gs›)
      apply Tr.fin hK ⟨_, _, _, _, _, hcl.1, by rw [hcl.2]; exact hxs, rfl, rfl⟩
      ((try clear hK) <;> (try simp only [WKe, hcl.2, *]) <;> repeat (first | with_reducible exact EntR.done | refine S.e ?_ | (refine S.f ?_ <;> (try simp only [WKe, hcl.2, hpt, ↓reduceIte, reduceCtorEq, Int.reduceEq, *])) | with_reducible apply EntR.ex | refine EntR.drop (F := F) ?_ | refine EntR.drop ?_))
      all_goals exact SV.mk none 0 0
end Go.Proofs.Ytlmcoiloepoggaa
