import Derived.Test.YtlhmbcmkpafjoaaKH
namespace Go.Proofs.Ytlhmbcmkpafjoaa
open Go Go.Wk
set_option maxHeartbeats 6400000
set_option maxRecDepth 100000
def prt (chs : List ChanC) (outs : List Int) (i : Nat) : Int := (ix chs (ix outs (i : Int))).fo
structure KeptR (ab0 ab : List AP) (chs : List ChanC) (outs : List Int) (ks : List (SL Msg)) (j : Nat) : Prop where
  len : ks.length = outs.length
  val : ∀ i, i < j → (∀ i', i' < i → prt chs outs i' ≠ prt chs outs i) → (ix ks (i : Int)).d.map SL.d = drainDA ab0 (prt chs outs i)
  drd : ∀ i, i < j → drd ab (prt chs outs i)
  rest : ∀ k, (∀ i, i < j → prt chs outs i ≠ k) → drainDA ab k = drainDA ab0 k
theorem ix_set_n {α : Type} [Inhabited α] {xs : List α} {k i : Nat} {y : α} (h : i ≠ k) : ix (xs.set k y) (i : Int) = ix xs (i : Int) := by
  unfold ix; simp [Ne.symm h]
theorem ix_set_s {α : Type} [Inhabited α] {xs : List α} {k : Nat} {y : α} (h : k < xs.length) : ix (xs.set k y) (k : Int) = y := by
  unfold ix; simp [h]
theorem KeptR.old {ab0 ab : List AP} {chs : List ChanC} {outs : List Int} {ks : List (SL Msg)} {j f : Nat} (h : KeptR ab0 ab chs outs ks j) (hf : f < j) (hp : prt chs outs f = prt chs outs j) :
    KeptR ab0 ab chs outs ks (j + 1) ∧ drainA ab (prt chs outs j) = ab := by
  have hd := h.drd f hf
  rw [hp] at hd
  refine ⟨⟨h.len, fun i hi hne => ?_, fun i hi => ?_, fun k hk => h.rest k fun i hi => hk i (by omega)⟩, drd_id hd⟩
  · by_cases e : i < j
    · exact h.val i e hne
    · obtain rfl : i = j := by omega
      exact absurd hp (hne f hf)
  · by_cases e : i < j
    · exact h.drd i e
    · obtain rfl : i = j := by omega
      exact hd
theorem KeptR.new {ab0 ab : List AP} {chs : List ChanC} {outs : List Int} {ks : List (SL Msg)} {j : Nat} {r : SL Msg} (h : KeptR ab0 ab chs outs ks j) (hj : j < outs.length) (hne : ∀ i, i < j → prt chs outs i ≠ prt chs outs j) (hr : r.d.map SL.d = drainDA ab (prt chs outs j)) :
    KeptR ab0 (drainA ab (prt chs outs j)) chs outs (ks.set j r) (j + 1) := by
  refine ⟨by rw [List.length_set]; exact h.len, fun i hi hn => ?_, fun i hi => ?_, fun k hk => ?_⟩
  · by_cases e : i < j
    · rw [ix_set_n (by omega)]; exact h.val i e hn
    · obtain rfl : i = j := by omega
      rw [ix_set_s (by rw [h.len]; exact hj), hr, h.rest _ hne]
  · by_cases e : i < j
    · exact drd_keep (h.drd i e)
    · obtain rfl : i = j := by omega
      exact drd_self
  · rw [drain_other (fun e => hk j (by omega) e.symm)]
    exact h.rest k fun i hi => hk i (by omega)
theorem take_full {α : Type} {xs ys : List α} {n : Nat} (h : n ≤ (xs.take n).length) : (xs ++ ys).take n = xs.take n := by
  rw [List.length_take] at h
  exact List.take_append_of_le_length (by omega)
theorem Tr.closeR {Rs : List RG} {k : Nat} {g : RG} {l l1 l2 l3 l4 l5 l6 l7 : List Asrt} {X : WP} (hk : k < Rs.length) (t1 : TakeA l (fam refA (Rs.eraseIdx k)) l1) (t2 : TakeA l1 (rB g.r g.a g.b g.c g.d) l2) (t3 : TakeA l2 (sl true g.a.v (g.ps.map AP.c)) l3) (t4 : TakeA l3 (sl false g.b.v g.xs) l4) (t5 : TakeA l4 (fzl g.xs) l5)
    (t6 : TakeA l5 (sl false g.c.v (g.ps.map AP.fresh)) l6) (t7 : TakeA l6 (sl false g.d.v (g.ps.map AP.lost)) l7) (hx : Tr (fam refA (Rs.set k g) :: l7) X) : Tr l X :=
  hx.imp (EntR.famSet (d := []) t1 hk (Imp.trans t2 (Imp.trans (Imp.cons (Imp.trans t3 (Imp.trans (Imp.cons (Imp.trans t4 (Imp.trans (Imp.cons (Imp.trans t5 (Imp.trans (Imp.cons (Imp.trans t6 (Imp.trans (Imp.cons t7) Imp.sepI))) Imp.sepI))) Imp.sepI))) Imp.sepI))) Imp.sepI)))
attribute [local irreducible] BrK GenK EGenK EUnitK CallK FnK CallV GuardO GuardC CondW opX opK opKc chkR eqR seqK blkK endL WL WD W LoopW BinK Tr drewK resL PickK NotK NilK ExtrK getK Instr.storeAt Instr.loadAt Instr.fieldAt Instr.indexAt Instr.lookup Instr.mapUpdate Instr.box Instr.alloc Instr.build Instr.buildSlice Instr.makeSlice Instr.makeMap Instr.sliceAt Instr.field Instr.index Instr.makeInterface Instr.typeAssert Builtin.len_ Builtin.append_ Builtin.cap_ Builtin.min_ Builtin.max_ Builtin.copy_ Builtin.clear_ convert binOp mp blk rob sl sep ex fact old
attribute [local irreducible] chn CW
theorem rflush_ok {u0 : Value} {c : ConfC} [hd : DeA u0 c] {chs : List ChanC} {part win : Int} {all : SV} {Rs : List RG} {n : Nat} (hv : invR Rs n) (hn : n ≤ 800000) :
    Trip Try.prog 45 [u0, .int .i64 part, .int .i64 win, all.v].toArray [sl true c.chans.v chs, sl true all.v (Rs.map RG.pt), fam refA Rs]
    fun v l' => ∃ (Rs2 : List RG) (s2 : SV) (ms : List MsgC), ms.map MsgC.ab = flushA chs part win (Rs.map RG.ps) ∧ invR Rs2 (n + 4096) ∧ Rs2.map RG.pt = Rs.map RG.pt ∧ Rs2.map RG.ps = flushSt chs part win (Rs.map RG.ps) ∧ v = SV.v s2 ∧ l' = [sl false (SV.v s2) ms, fzl ms, fam refA Rs2] := by
  obtain rfl := hd.h
  intro F K hK
  simp only [List.cons_append, List.nil_append]
  obtain ⟨c1, c2, c3, c4, c5, c6, c7, c8, c9, c10, c11, c12, c13⟩ := c
  by_cases hin : 0 ≤ part ∧ part < Rs.length
  · obtain ⟨h0, h1⟩ := hin
    have hst : inSt (Rs.map RG.ps) part := ⟨h0, by rw [rps_len]; exact h1⟩
    obtain ⟨hxm, hap⟩ := invR_ix hv h0 h1
    have hab : ix (Rs.map RG.ps) part = (ix Rs part).ps := rps_ix h0 h1
    have hp : ix (Rs.map RG.pt) part = ⟨some (ix Rs part).r⟩ := ix_map (f := RG.pt) h0 h1
    have hkn : part.toNat < Rs.length := by omega
    refine Tr.famAt (A := refA) part (by (repeat (first | exact TakeA.here | apply TakeA.next)); done) h0 h1 ?_
    refine refA_open ?_
    generalize hab0 : (ix Rs part).ps = ab0 at hab hxm hap
    generalize houts : outsA chs part = outs
    have hom : ∀ k ∈ outs, 0 ≤ k ∧ k < (min chs.length 16 : Nat) := fun k h => outs_mem (houts ▸ h)
    have hol : outs.length ≤ 16 := by have := outsN_len (chs := chs) (part := part) (n := min chs.length 16); rw [← houts]; unfold outsA; omega
    (refine Tr.enter (rs := [.tmp 8]) mixed fn45 rfl (by simp +arith [Try.ntmps45]) fun u => ?_; simp only [cd45, Try.f45])
    ((try simp only [WKb, ↓reduceIte, Nat.reduceEqDiff, Nat.reduceAdd]) <;> (repeat' ((first
    | (refine G.tr ?_; first | refine S.a ?_ | refine Tr.brK ?_ ?_ | (refine G.call 30 ?_; refine S.c ?_ (h := routs_ok)) | (refine G.call 67 ?_; refine S.c ?_ (h := rdrain_ok ?_ ?_)) | refine S.n fun _ => ?_ | refine S.i fun hix => ?_ | (refine S.g fun hb => ?_; (try simp only [hb])) | (refine S.s (fun hb => ?_) (fun hb => ?_) <;> ((try simp only [hb]) <;> (try (have hp := hb; simp only [WKs] at hp; (try have hq := Int.not_le.2 hp); (try have hq := Int.not_lt.2 hp))))))
    | rintro _ _ ⟨_, rfl, rfl⟩
    | rintro _ _ ⟨_, _, _, _, _, _, hxs, hrd2, rfl, rfl⟩
    | ((fail_if_success refine G.tr ?_); exact G.prop S.p)
    | fail) <;> (try simp only [WKb, ↓reduceIte, Nat.reduceEqDiff, houts]))))
    rename_i cb os kp
    rw [Int.toNat_natCast]
    refine Tr.nilSl (α := MsgC) ?_
    refine Tr.loopE (α := Nat × SV × List MsgC × List (SL Msg) × SV × SV × SV × List AP × List (SL Msg)) [9, 12] [1, 2, 3, 4, 8, 10, 11] (fun x => [x.2.1.v, .int .i64 x.1])
      (fun x => [sl false x.2.1.v x.2.2.1, fzl x.2.2.1, sl false kp.v x.2.2.2.1, fzl x.2.2.2.1, rB (ix Rs part).r (ix Rs part).a x.2.2.2.2.1 x.2.2.2.2.2.1 x.2.2.2.2.2.2.1, sl true (ix Rs part).a.v (x.2.2.2.2.2.2.2.1.map AP.c), sl false x.2.2.2.2.1.v x.2.2.2.2.2.2.2.2, fzl x.2.2.2.2.2.2.2.2, sl false x.2.2.2.2.2.1.v (x.2.2.2.2.2.2.2.1.map AP.fresh), sl false x.2.2.2.2.2.2.1.v (x.2.2.2.2.2.2.2.1.map AP.lost)])
      (fun x => x.1 ≤ outs.length ∧ KeptR ab0 x.2.2.2.2.2.2.2.1 chs outs x.2.2.2.1 x.1 ∧ apOK x.2.2.2.2.2.2.2.1 n ∧ x.2.2.2.2.2.2.2.2.map mo = x.2.2.2.2.2.2.2.1.map AP.ms ∧ x.2.2.2.2.2.2.2.1 = drainAll ab0 chs (outs.take x.1) ∧ x.2.2.1.map MsgC.ab = (msgsOf ab0 chs win (outs.take x.1)).take 4096) (fun x => outs.length - x.1)
      (0, ⟨none, 0, 0⟩, [], List.replicate outs.length (default : SL Msg), (ix Rs part).b, (ix Rs part).c, (ix Rs part).d, ab0, (ix Rs part).xs) (by (repeat (first | exact TakeL.nil | (apply TakeL.cons; focus ((first | exact TakeA.dupS | exact TakeA.dupF | ((repeat (first | with_reducible exact TakeA.here | exact TakeA.fam (by omega) (by omega) | with_reducible apply TakeA.next)); done) | ((repeat (first | exact TakeA.here | apply TakeA.next)); done) | exact TakeA.famNil | exact TakeA.nilS))) | fail)); done) rfl ⟨by omega, ⟨by simp, fun i h => by omega, fun i h => by omega, fun _ _ => rfl⟩, hap, hxm, rfl, by simp [msgsOf]⟩ fun x u hx => ?_
    obtain ⟨j, so, ms, ks, b, c, d, ps, xs⟩ := x
    simp only at hx ⊢
    obtain ⟨hj, hKp, hapj, hxj, hga, hma⟩ := hx
    have hw := wrapSucc (k := j) (by omega)
    have h8 := hapj.1
    by_cases hjn : j < outs.length
    · have htk : outs.take (j + 1) = outs.take j ++ [ix outs (j : Int)] := take_ix hjn
      obtain ⟨hm0, hm1⟩ := hom (ix outs (j : Int)) (List.mem_of_getElem? (ix_some (by omega) (by omega)))
      have hwj : IntKind.i64.wrap ((j : Int) - 1) = (j : Int) - 1 := wrapId (by omega) (by omega)
      ((try simp only [WKb, ↓reduceIte, Nat.reduceEqDiff]) <;> (repeat' ((first
    | (refine G.tr ?_; first | refine S.a ?_ | refine Tr.brK ?_ ?_ | (refine G.call 30 ?_; refine S.c ?_ (h := routs_ok)) | (refine G.call 67 ?_; refine S.c ?_ (h := rdrain_ok ?_ ?_)) | refine S.n fun _ => ?_ | refine S.i fun hix => ?_ | (refine S.g fun hb => ?_; (try simp only [hb])) | (refine S.s (fun hb => ?_) (fun hb => ?_) <;> ((try simp only [hb]) <;> (try (have hp := hb; simp only [WKs] at hp; (try have hq := Int.not_le.2 hp); (try have hq := Int.not_lt.2 hp))))))
    | rintro _ _ ⟨_, rfl, rfl⟩
    | rintro _ _ ⟨_, _, _, _, _, _, hxs, hrd2, rfl, rfl⟩
    | ((fail_if_success refine G.tr ?_); exact G.prop S.p)
    | fail) <;> (try simp only [WKb, ↓reduceIte, Nat.reduceEqDiff, hwj]))))
      refine Tr.loopE (α := Nat × Nat) [13, 14] [1, 2, 3, 4, 8, 9, 10, 11, 12] (fun x => [.int .i64 x.2, .int .i64 ((x.1 : Int) - 1)]) (fun _ => []) (fun x => x.1 ≤ j ∧ x.2 ≤ j ∧ x.1 ≤ x.2 ∧ prt chs outs x.2 = prt chs outs j ∧ ∀ i, x.1 ≤ i → i < x.2 → prt chs outs i ≠ prt chs outs j) (fun x => x.1) (j, j) (by (repeat (first | exact TakeL.nil | (apply TakeL.cons; focus ((first | exact TakeA.dupS | exact TakeA.dupF | ((repeat (first | with_reducible exact TakeA.here | exact TakeA.fam (by omega) (by omega) | with_reducible apply TakeA.next)); done) | ((repeat (first | exact TakeA.here | apply TakeA.next)); done) | exact TakeA.famNil | exact TakeA.nilS))) | fail)); done) rfl ⟨by omega, by omega, by omega, rfl, fun i h1 h2 => by omega⟩ fun x u hx => ?_
      obtain ⟨t, f⟩ := x
      simp only at hx ⊢
      obtain ⟨ht1, hf1, htf, hpf, hne⟩ := hx
      by_cases ht : 0 < t
      · obtain ⟨t, rfl⟩ : ∃ t', t = t' + 1 := ⟨t - 1, by omega⟩
        have hts : (((t + 1 : Nat) : Int) - 1) = (t : Int) := by omega
        have hwt : IntKind.i64.wrap ((t : Int) - 1) = (t : Int) - 1 := wrapId (by omega) (by omega)
        obtain ⟨hn0, hn1⟩ := hom (ix outs (t : Int)) (List.mem_of_getElem? (ix_some (by omega) (by omega)))
        by_cases hpe : prt chs outs t = prt chs outs j
        · have hpe2 := hpe
          unfold prt at hpe2
          have hI : ∀ i, t ≤ i → i < t → prt chs outs i ≠ prt chs outs j := fun i h1 h2 => by omega
          have ht2 : t ≤ j := by omega
          have ht3 : t ≤ t := Nat.le_refl t
          simp only [hts]
          ((try simp only [WKb, ↓reduceIte, Nat.reduceEqDiff]) <;> (repeat' ((first
    | (refine G.tr ?_; first | refine S.a ?_ | refine Tr.brK ?_ ?_ | (refine G.call 30 ?_; refine S.c ?_ (h := routs_ok)) | (refine G.call 67 ?_; refine S.c ?_ (h := rdrain_ok ?_ ?_)) | refine S.n fun _ => ?_ | refine S.i fun hix => ?_ | (refine S.g fun hb => ?_; (try simp only [hb])) | (refine S.s (fun hb => ?_) (fun hb => ?_) <;> ((try simp only [hb]) <;> (try (have hp := hb; simp only [WKs] at hp; (try have hq := Int.not_le.2 hp); (try have hq := Int.not_lt.2 hp))))))
    | rintro _ _ ⟨_, rfl, rfl⟩
    | rintro _ _ ⟨_, _, _, _, _, _, hxs, hrd2, rfl, rfl⟩
    | ((fail_if_success refine G.tr ?_); exact G.prop S.p)
    | fail) <;> (try simp only [WKb, ↓reduceIte, Nat.reduceEqDiff, pl45, hwt, hpe2]))))
          all_goals (apply Tr.againE ((t, t)); (focus (simp only [WKb, ↓reduceIte, Nat.reduceEqDiff])); (focus ((try simp only [WKb, ↓reduceIte, Nat.reduceEqDiff]); (all_goals ((repeat (refine cons_eq (by first | rfl | (simp [*]; done)) ?_)); rfl)); done)); rotate_left 2; (focus (((try clear hK) <;> (try simp only [WKe, *]) <;> repeat (first | with_reducible exact EntR.done | refine S.e ?_ | (refine S.f ?_ <;> (try simp only [WKe, ↓reduceIte, reduceCtorEq, Int.reduceEq, *])) | with_reducible apply EntR.ex | refine EntR.drop (F := F) ?_ | refine EntR.drop ?_)))); (focus (first | omega | assumption | (simp only []; omega) | (refine ⟨by omega, by assumption⟩) | (simp only []; refine ⟨by omega, by assumption⟩) | ((try simp only []); (repeat' (first | omega | assumption | apply hpe | apply hI | apply ht2 | apply ht3 | refine And.intro ?_ ?_)); done))); (focus (first | omega | (simp only []; omega))))
        · have hpe2 := hpe
          unfold prt at hpe2
          have hI : ∀ i, t ≤ i → i < f → prt chs outs i ≠ prt chs outs j := fun i h1 h2 => by
            by_cases e : i = t
            · rw [e]; exact hpe
            · exact hne i (by omega) h2
          have ht2 : t ≤ j := by omega
          have ht3 : t ≤ f := by omega
          simp only [hts]
          ((try simp only [WKb, ↓reduceIte, Nat.reduceEqDiff]) <;> (repeat' ((first
    | (refine G.tr ?_; first | refine S.a ?_ | refine Tr.brK ?_ ?_ | (refine G.call 30 ?_; refine S.c ?_ (h := routs_ok)) | (refine G.call 67 ?_; refine S.c ?_ (h := rdrain_ok ?_ ?_)) | refine S.n fun _ => ?_ | refine S.i fun hix => ?_ | (refine S.g fun hb => ?_; (try simp only [hb])) | (refine S.s (fun hb => ?_) (fun hb => ?_) <;> ((try simp only [hb]) <;> (try (have hp := hb; simp only [WKs] at hp; (try have hq := Int.not_le.2 hp); (try have hq := Int.not_lt.2 hp))))))
    | rintro _ _ ⟨_, rfl, rfl⟩
    | rintro _ _ ⟨_, _, _, _, _, _, hxs, hrd2, rfl, rfl⟩
    | ((fail_if_success refine G.tr ?_); exact G.prop S.p)
    | fail) <;> (try simp only [WKb, ↓reduceIte, Nat.reduceEqDiff, pl45, hwt]))))
          all_goals (apply Tr.againE ((t, f)); (focus (simp only [WKb, ↓reduceIte, Nat.reduceEqDiff])); (focus ((try simp only [WKb, ↓reduceIte, Nat.reduceEqDiff]); (all_goals ((repeat (refine cons_eq (by first | rfl | (simp [*]; done)) ?_)); rfl)); done)); rotate_left 2; (focus (((try clear hK) <;> (try simp only [WKe, *]) <;> repeat (first | with_reducible exact EntR.done | refine S.e ?_ | (refine S.f ?_ <;> (try simp only [WKe, ↓reduceIte, reduceCtorEq, Int.reduceEq, *])) | with_reducible apply EntR.ex | refine EntR.drop (F := F) ?_ | refine EntR.drop ?_)))); (focus (first | omega | assumption | (simp only []; omega) | (refine ⟨by omega, by assumption⟩) | (simp only []; refine ⟨by omega, by assumption⟩) | ((try simp only []); (repeat' (first | omega | assumption | apply hpf | apply hI | apply ht2 | apply ht3 | apply hf1 | refine And.intro ?_ ?_)); done))); (focus (first | omega | (simp only []; omega))))
      · obtain rfl : t = 0 := by omega
        have hP0 : prt chs outs j = (ix chs (ix outs (j : Int))).fo := rfl
        by_cases hfj : f = j
        · subst hfj
          have hkl0 := hKp.len
          have hne' : ∀ i, i < f → prt chs outs i ≠ prt chs outs f := fun i h => hne i (by omega) h
          ((try simp only [WKb, ↓reduceIte, Nat.reduceEqDiff]) <;> (repeat' ((first
    | (refine G.tr ?_; first | (refine G.call 67 ?_; refine S.c ?_ (h := rdrain_ok hxj (by omega)); rintro _ _ ⟨bx3, cx3, dx3, xs3, t3, ms3, hx2, hms3, rfl, rfl⟩) | refine S.a ?_ | refine Tr.brK ?_ ?_ | (refine G.call 30 ?_; refine S.c ?_ (h := routs_ok)) | (refine G.call 67 ?_; refine S.c ?_ (h := rdrain_ok ?_ ?_)) | refine S.n fun _ => ?_ | refine S.i fun hix => ?_ | (refine S.g fun hb => ?_; (try simp only [hb])) | (refine S.s (fun hb => ?_) (fun hb => ?_) <;> ((try simp only [hb]) <;> (try (have hp := hb; simp only [WKs] at hp; (try have hq := Int.not_le.2 hp); (try have hq := Int.not_lt.2 hp))))))
    | rintro _ _ ⟨_, rfl, rfl⟩
    | rintro _ _ ⟨_, _, _, _, _, _, hxs, hrd2, rfl, rfl⟩
    | ((fail_if_success refine G.tr ?_); exact G.prop S.p)
    | fail) <;> (try simp only [WKb, WKh, ↓reduceIte, Nat.reduceEqDiff, pl45, hp]))))
          have hK2 := hKp.new hjn hne' (r := ⟨t3, ms3⟩) hms3
          have hD := hK2.val f (by omega) hne'
          have hap2 := apOK_drain hapj (k := prt chs outs f)
          have hps2 : drainA ps (prt chs outs f) = drainAll ab0 chs (outs.take (f + 1)) := by rw [htk, drainAll_snoc, ← hga]; rfl
          have hKS : ks.set ((f : Int)).toNat (⟨t3, ms3⟩ : SL Msg) = ks.set f ⟨t3, ms3⟩ := rfl
          have hPS : drainA ps (ix chs (ix outs (f : Int))).fo = drainA ps (prt chs outs f) := rfl
          simp only [hKS, hPS] at hx2 ⊢
          refine Tr.imp (TakeA.dupF (xs := ks.set f (⟨t3, ms3⟩ : SL Msg))) ?_
          generalize ks.set f (⟨t3, ms3⟩ : SL Msg) = KS at hK2 hD ⊢
          generalize drainA ps (prt chs outs f) = PS at hK2 hap2 hps2 hx2 ⊢
          have hfin : msgsOf ab0 chs win (outs.take (f + 1)) = msgsOf ab0 chs win (outs.take f) ++ (drainDA ab0 (prt chs outs f)).map fun d => (ix outs (f : Int), win, d) := by rw [htk, msgsOf_snoc]; rfl
          generalize hX : msgsOf ab0 chs win (outs.take f) = X at hma hfin
          generalize hDD : drainDA ab0 (prt chs outs f) = D at hD hfin
          have hkl := hK2.len
          have hDl : D.length = (ix KS (f : Int)).d.length := by rw [← hD, List.length_map]
          refine Tr.bound (ro := true) (v := SV.v (ix KS (f : Int)).s) (xs := (ix KS (f : Int)).d) HasS.h fun hbr => ?_
          refine Tr.loopE (α := Nat × SV × List MsgC) [9, 15] [1, 2, 3, 4, 8, 10, 11, 12, 13] (fun x => [x.2.1.v, .int .i64 x.1]) (fun x => [sl false x.2.1.v x.2.2, fzl x.2.2]) (fun x => x.1 ≤ (ix KS (f : Int)).d.length ∧ x.2.2.map MsgC.ab = (X ++ (D.take x.1).map fun d => (ix outs (f : Int), win, d)).take 4096) (fun x => (ix KS (f : Int)).d.length - x.1) (0, so, ms) (by (repeat (first | exact TakeL.nil | (apply TakeL.cons; focus ((first | exact TakeA.dupS | exact TakeA.dupF | ((repeat (first | with_reducible exact TakeA.here | exact TakeA.fam (by omega) (by omega) | with_reducible apply TakeA.next)); done) | ((repeat (first | exact TakeA.here | apply TakeA.next)); done) | exact TakeA.famNil | exact TakeA.nilS))) | fail)); done) rfl ⟨by omega, by simp only [List.take_zero, List.map_nil, List.append_nil]; exact hma⟩ fun x u hx => ?_
          obtain ⟨i, so2, ms2⟩ := x
          simp only at hx ⊢
          obtain ⟨hil, hmi⟩ := hx
          by_cases hc : i < (ix KS (f : Int)).d.length ∧ ms2.length < 4096
          · obtain ⟨hin2, hlt⟩ := hc
            have hw2 := wrapSucc (k := i) (by omega)
            have hDi : D.take (i + 1) = D.take i ++ [(ix (ix KS (f : Int)).d (i : Int)).d] := by rw [take_ix (by omega), ← hD, ix_map (f := SL.d) (by omega) (by omega)]
            have hXs : X ++ ((D.take (i + 1)).map fun d => (ix outs (f : Int), win, d)) = (X ++ (D.take i).map fun d => (ix outs (f : Int), win, d)) ++ [(ix outs (f : Int), win, (ix (ix KS (f : Int)).d (i : Int)).d)] := by rw [hDi, List.map_append, ← List.append_assoc]; rfl
            have hsn : (ms2 ++ [(⟨ix outs (f : Int), win, ⟨(ix (ix KS (f : Int)).d (i : Int)).s, (ix (ix KS (f : Int)).d (i : Int)).d⟩⟩ : MsgC)]).map MsgC.ab = (X ++ (D.take (i + 1)).map fun d => (ix outs (f : Int), win, d)).take 4096 := by
              rw [hXs, take_snoc, ← hmi, if_pos (by rw [List.length_map]; exact hlt), List.map_append]; rfl
            ((try simp only [WKb, ↓reduceIte, Nat.reduceEqDiff]) <;> (repeat' ((first
    | (refine G.tr ?_; first | refine S.a ?_ | refine Tr.brK ?_ ?_ | (refine G.call 30 ?_; refine S.c ?_ (h := routs_ok)) | (refine G.call 67 ?_; refine S.c ?_ (h := rdrain_ok ?_ ?_)) | refine S.n fun _ => ?_ | refine S.i fun hix => ?_ | (refine S.g fun hb => ?_; (try simp only [hb])) | (refine S.s (fun hb => ?_) (fun hb => ?_) <;> ((try simp only [hb]) <;> (try (have hp := hb; simp only [WKs] at hp; (try have hq := Int.not_le.2 hp); (try have hq := Int.not_lt.2 hp))))))
    | rintro _ _ ⟨_, rfl, rfl⟩
    | rintro _ _ ⟨_, _, _, _, _, _, hxs, hrd2, rfl, rfl⟩
    | ((fail_if_success refine G.tr ?_); exact G.prop S.p)
    | fail) <;> (try simp only [WKb, WKh, ↓reduceIte, Nat.reduceEqDiff, Nat.reduceAdd, pl45, hw2]))))
            all_goals (apply Tr.againE ((i + 1, _, _)); (focus (simp only [WKb, ↓reduceIte, Nat.reduceEqDiff])); (focus ((try simp only [WKb, ↓reduceIte, Nat.reduceEqDiff]); (all_goals ((repeat (refine cons_eq (by first | rfl | (simp [*]; done)) ?_)); rfl)); done)); rotate_left 2; (focus (((try clear hK) <;> (try simp only [WKe, *]) <;> repeat (first | with_reducible exact EntR.done | refine S.e ?_ | (refine S.f ?_ <;> (try simp only [WKe, ↓reduceIte, reduceCtorEq, Int.reduceEq, *])) | with_reducible apply EntR.ex | refine EntR.drop (F := F) ?_ | refine EntR.drop ?_)))); (focus (first | omega | assumption | (simp only []; omega) | (refine ⟨by omega, by assumption⟩) | (simp only []; refine ⟨by omega, by assumption⟩) | ((try simp only []); (repeat' (first | omega | assumption | apply hsn | refine And.intro ?_ ?_)); done))); (focus (first | omega | (simp only []; omega))))
          · have hfm : ms2.map MsgC.ab = (msgsOf ab0 chs win (outs.take (f + 1))).take 4096 := by
              rw [hfin]
              by_cases hii : i = (ix KS (f : Int)).d.length
              · have hDt : D.take i = D := List.take_of_length_le (by omega)
                rw [hmi, hDt]
              · have h4 : 4096 ≤ ms2.length := by omega
                have hDs : D = D.take i ++ D.drop i := (List.take_append_drop i D).symm
                have h5 : (X ++ D.map fun d => (ix outs (f : Int), win, d)).take 4096 = (X ++ (D.take i).map fun d => (ix outs (f : Int), win, d)).take 4096 := by
                  conv => lhs; rw [hDs, List.map_append, ← List.append_assoc]
                  exact take_full (by rw [← hmi, List.length_map]; exact h4)
                rw [h5, hmi]
            ((try simp only [WKb, ↓reduceIte, Nat.reduceEqDiff]) <;> (repeat' ((first
    | (refine G.tr ?_; first | refine S.a ?_ | refine Tr.brK ?_ ?_ | (refine G.call 30 ?_; refine S.c ?_ (h := routs_ok)) | (refine G.call 67 ?_; refine S.c ?_ (h := rdrain_ok ?_ ?_)) | refine S.n fun _ => ?_ | refine S.i fun hix => ?_ | (refine S.g fun hb => ?_; (try simp only [hb])) | (refine S.s (fun hb => ?_) (fun hb => ?_) <;> ((try simp only [hb]) <;> (try (have hp := hb; simp only [WKs] at hp; (try have hq := Int.not_le.2 hp); (try have hq := Int.not_lt.2 hp))))))
    | rintro _ _ ⟨_, rfl, rfl⟩
    | rintro _ _ ⟨_, _, _, _, _, _, hxs, hrd2, rfl, rfl⟩
    | ((fail_if_success refine G.tr ?_); exact G.prop S.p)
    | fail) <;> (try simp only [WKb, ↓reduceIte, Nat.reduceEqDiff, hw]))))
            all_goals (apply Tr.againE ((f + 1, _, _, KS, _, _, _, PS, _)); (focus (simp only [WKb, ↓reduceIte, Nat.reduceEqDiff])); (focus ((try simp only [WKb, ↓reduceIte, Nat.reduceEqDiff]); (all_goals ((repeat (refine cons_eq (by first | rfl | (simp [*]; done)) ?_)); rfl)); done)); rotate_left 2; (focus (((try clear hK) <;> (try simp only [WKe, *]) <;> repeat (first | with_reducible exact EntR.done | refine S.e ?_ | (refine S.f ?_ <;> (try simp only [WKe, ↓reduceIte, reduceCtorEq, Int.reduceEq, *])) | with_reducible apply EntR.ex | refine EntR.drop (F := F) ?_ | refine EntR.drop ?_)))); (focus (first | omega | assumption | (simp only []; omega) | (refine ⟨by omega, by assumption⟩) | (simp only []; refine ⟨by omega, by assumption⟩) | ((try simp only []); (repeat' (first | omega | assumption | apply hfm | apply hK2 | apply hap2 | apply hx2 | apply hps2 | refine And.intro ?_ ?_)); done))); (focus (first | omega | (simp only []; omega))))
        · have hfl : f < j := by omega
          obtain ⟨hK2, hdid⟩ := hKp.old hfl hpf
          have hap2 := hapj
          have hx2 := hxj
          have hps2 : ps = drainAll ab0 chs (outs.take (j + 1)) := by rw [htk, drainAll_snoc, ← hga]; exact hdid.symm
          have hD : (ix ks (f : Int)).d.map SL.d = drainDA ab0 (prt chs outs j) := by
            rw [← hpf]; exact hKp.val f hfl fun i h => by rw [hpf]; exact hne i (by omega) h
          ((try simp only [WKb, ↓reduceIte, Nat.reduceEqDiff]) <;> (repeat' ((first
    | (refine G.tr ?_; first | refine S.a ?_ | refine Tr.brK ?_ ?_ | (refine G.call 30 ?_; refine S.c ?_ (h := routs_ok)) | (refine G.call 67 ?_; refine S.c ?_ (h := rdrain_ok ?_ ?_)) | refine S.n fun _ => ?_ | refine S.i fun hix => ?_ | (refine S.g fun hb => ?_; (try simp only [hb])) | (refine S.s (fun hb => ?_) (fun hb => ?_) <;> ((try simp only [hb]) <;> (try (have hp := hb; simp only [WKs] at hp; (try have hq := Int.not_le.2 hp); (try have hq := Int.not_lt.2 hp))))))
    | rintro _ _ ⟨_, rfl, rfl⟩
    | rintro _ _ ⟨_, _, _, _, _, _, hxs, hrd2, rfl, rfl⟩
    | ((fail_if_success refine G.tr ?_); exact G.prop S.p)
    | fail) <;> (try simp only [WKb, ↓reduceIte, Nat.reduceEqDiff]))))
          have hfin : msgsOf ab0 chs win (outs.take (j + 1)) = msgsOf ab0 chs win (outs.take j) ++ (drainDA ab0 (prt chs outs j)).map fun d => (ix outs (j : Int), win, d) := by rw [htk, msgsOf_snoc]; rfl
          generalize hX : msgsOf ab0 chs win (outs.take j) = X at hma hfin
          generalize hDD : drainDA ab0 (prt chs outs j) = D at hD hfin
          have hkl := hK2.len
          have hDl : D.length = (ix ks (f : Int)).d.length := by rw [← hD, List.length_map]
          refine Tr.bound (ro := true) (v := SV.v (ix ks (f : Int)).s) (xs := (ix ks (f : Int)).d) HasS.h fun hbr => ?_
          refine Tr.loopE (α := Nat × SV × List MsgC) [9, 15] [1, 2, 3, 4, 8, 10, 11, 12, 13] (fun x => [x.2.1.v, .int .i64 x.1]) (fun x => [sl false x.2.1.v x.2.2, fzl x.2.2]) (fun x => x.1 ≤ (ix ks (f : Int)).d.length ∧ x.2.2.map MsgC.ab = (X ++ (D.take x.1).map fun d => (ix outs (j : Int), win, d)).take 4096) (fun x => (ix ks (f : Int)).d.length - x.1) (0, so, ms) (by (repeat (first | exact TakeL.nil | (apply TakeL.cons; focus ((first | exact TakeA.dupS | exact TakeA.dupF | ((repeat (first | with_reducible exact TakeA.here | exact TakeA.fam (by omega) (by omega) | with_reducible apply TakeA.next)); done) | ((repeat (first | exact TakeA.here | apply TakeA.next)); done) | exact TakeA.famNil | exact TakeA.nilS))) | fail)); done) rfl ⟨by omega, by simp only [List.take_zero, List.map_nil, List.append_nil]; exact hma⟩ fun x u hx => ?_
          obtain ⟨i, so2, ms2⟩ := x
          simp only at hx ⊢
          obtain ⟨hil, hmi⟩ := hx
          by_cases hc : i < (ix ks (f : Int)).d.length ∧ ms2.length < 4096
          · obtain ⟨hin2, hlt⟩ := hc
            have hw2 := wrapSucc (k := i) (by omega)
            have hDi : D.take (i + 1) = D.take i ++ [(ix (ix ks (f : Int)).d (i : Int)).d] := by rw [take_ix (by omega), ← hD, ix_map (f := SL.d) (by omega) (by omega)]
            have hXs : X ++ ((D.take (i + 1)).map fun d => (ix outs (j : Int), win, d)) = (X ++ (D.take i).map fun d => (ix outs (j : Int), win, d)) ++ [(ix outs (j : Int), win, (ix (ix ks (f : Int)).d (i : Int)).d)] := by rw [hDi, List.map_append, ← List.append_assoc]; rfl
            have hsn : (ms2 ++ [(⟨ix outs (j : Int), win, ⟨(ix (ix ks (f : Int)).d (i : Int)).s, (ix (ix ks (f : Int)).d (i : Int)).d⟩⟩ : MsgC)]).map MsgC.ab = (X ++ (D.take (i + 1)).map fun d => (ix outs (j : Int), win, d)).take 4096 := by
              rw [hXs, take_snoc, ← hmi, if_pos (by rw [List.length_map]; exact hlt), List.map_append]; rfl
            ((try simp only [WKb, ↓reduceIte, Nat.reduceEqDiff]) <;> (repeat' ((first
    | (refine G.tr ?_; first | refine S.a ?_ | refine Tr.brK ?_ ?_ | (refine G.call 30 ?_; refine S.c ?_ (h := routs_ok)) | (refine G.call 67 ?_; refine S.c ?_ (h := rdrain_ok ?_ ?_)) | refine S.n fun _ => ?_ | refine S.i fun hix => ?_ | (refine S.g fun hb => ?_; (try simp only [hb])) | (refine S.s (fun hb => ?_) (fun hb => ?_) <;> ((try simp only [hb]) <;> (try (have hp := hb; simp only [WKs] at hp; (try have hq := Int.not_le.2 hp); (try have hq := Int.not_lt.2 hp))))))
    | rintro _ _ ⟨_, rfl, rfl⟩
    | rintro _ _ ⟨_, _, _, _, _, _, hxs, hrd2, rfl, rfl⟩
    | ((fail_if_success refine G.tr ?_); exact G.prop S.p)
    | fail) <;> (try simp only [WKb, WKh, ↓reduceIte, Nat.reduceEqDiff, Nat.reduceAdd, pl45, hw2]))))
            all_goals (apply Tr.againE ((i + 1, _, _)); (focus (simp only [WKb, ↓reduceIte, Nat.reduceEqDiff])); (focus ((try simp only [WKb, ↓reduceIte, Nat.reduceEqDiff]); (all_goals ((repeat (refine cons_eq (by first | rfl | (simp [*]; done)) ?_)); rfl)); done)); rotate_left 2; (focus (((try clear hK) <;> (try simp only [WKe, *]) <;> repeat (first | with_reducible exact EntR.done | refine S.e ?_ | (refine S.f ?_ <;> (try simp only [WKe, ↓reduceIte, reduceCtorEq, Int.reduceEq, *])) | with_reducible apply EntR.ex | refine EntR.drop (F := F) ?_ | refine EntR.drop ?_)))); (focus (first | omega | assumption | (simp only []; omega) | (refine ⟨by omega, by assumption⟩) | (simp only []; refine ⟨by omega, by assumption⟩) | ((try simp only []); (repeat' (first | omega | assumption | apply hsn | refine And.intro ?_ ?_)); done))); (focus (first | omega | (simp only []; omega))))
          · have hfm : ms2.map MsgC.ab = (msgsOf ab0 chs win (outs.take (j + 1))).take 4096 := by
              rw [hfin]
              by_cases hii : i = (ix ks (f : Int)).d.length
              · have hDt : D.take i = D := List.take_of_length_le (by omega)
                rw [hmi, hDt]
              · have h4 : 4096 ≤ ms2.length := by omega
                have hDs : D = D.take i ++ D.drop i := (List.take_append_drop i D).symm
                have h5 : (X ++ D.map fun d => (ix outs (j : Int), win, d)).take 4096 = (X ++ (D.take i).map fun d => (ix outs (j : Int), win, d)).take 4096 := by
                  conv => lhs; rw [hDs, List.map_append, ← List.append_assoc]
                  exact take_full (by rw [← hmi, List.length_map]; exact h4)
                rw [h5, hmi]
            ((try simp only [WKb, ↓reduceIte, Nat.reduceEqDiff]) <;> (repeat' ((first
    | (refine G.tr ?_; first | refine S.a ?_ | refine Tr.brK ?_ ?_ | (refine G.call 30 ?_; refine S.c ?_ (h := routs_ok)) | (refine G.call 67 ?_; refine S.c ?_ (h := rdrain_ok ?_ ?_)) | refine S.n fun _ => ?_ | refine S.i fun hix => ?_ | (refine S.g fun hb => ?_; (try simp only [hb])) | (refine S.s (fun hb => ?_) (fun hb => ?_) <;> ((try simp only [hb]) <;> (try (have hp := hb; simp only [WKs] at hp; (try have hq := Int.not_le.2 hp); (try have hq := Int.not_lt.2 hp))))))
    | rintro _ _ ⟨_, rfl, rfl⟩
    | rintro _ _ ⟨_, _, _, _, _, _, hxs, hrd2, rfl, rfl⟩
    | ((fail_if_success refine G.tr ?_); exact G.prop S.p)
    | fail) <;> (try simp only [WKb, ↓reduceIte, Nat.reduceEqDiff, hw]))))
            all_goals (apply Tr.againE ((j + 1, _, _, ks, _, _, _, ps, _)); (focus (simp only [WKb, ↓reduceIte, Nat.reduceEqDiff])); (focus ((try simp only [WKb, ↓reduceIte, Nat.reduceEqDiff]); (all_goals ((repeat (refine cons_eq (by first | rfl | (simp [*]; done)) ?_)); rfl)); done)); rotate_left 2; (focus (((try clear hK) <;> (try simp only [WKe, *]) <;> repeat (first | with_reducible exact EntR.done | refine S.e ?_ | (refine S.f ?_ <;> (try simp only [WKe, ↓reduceIte, reduceCtorEq, Int.reduceEq, *])) | with_reducible apply EntR.ex | refine EntR.drop (F := F) ?_ | refine EntR.drop ?_)))); (focus (first | omega | assumption | (simp only []; omega) | (refine ⟨by omega, by assumption⟩) | (simp only []; refine ⟨by omega, by assumption⟩) | ((try simp only []); (repeat' (first | omega | assumption | apply hfm | apply hK2 | apply hap2 | apply hx2 | apply hps2 | refine And.intro ?_ ?_)); done))); (focus (first | omega | (simp only []; omega))))
    · have hjj : j = outs.length := by omega
      subst hjj
      rw [List.take_length] at hga hma
      have hv1 : invR (Rs.set part.toNat ⟨(ix Rs part).r, (ix Rs part).a, b, c, d, ps, xs⟩) n := mem_set_all hv ⟨hxj, hapj⟩
      have hp1 : (Rs.set part.toNat ⟨(ix Rs part).r, (ix Rs part).a, b, c, d, ps, xs⟩).map RG.pt = Rs.map RG.pt := map_same (f := RG.pt) h0 h1 _ rfl
      have ha1 : (Rs.set part.toNat ⟨(ix Rs part).r, (ix Rs part).a, b, c, d, ps, xs⟩).map RG.ps = (Rs.map RG.ps).set part.toNat (drainAll ab0 chs outs) := by rw [List.map_set, ← hga]
      refine Tr.closeR (Rs := Rs) (k := part.toNat) (g := ⟨(ix Rs part).r, (ix Rs part).a, b, c, d, ps, xs⟩) hkn (by (repeat (first | exact TakeA.here | apply TakeA.next)); done) (by (repeat (first | exact TakeA.here | apply TakeA.next)); done) (by (repeat (first | exact TakeA.here | apply TakeA.next)); done) (by (repeat (first | exact TakeA.here | apply TakeA.next)); done) (by (repeat (first | exact TakeA.here | apply TakeA.next)); done) (by (repeat (first | exact TakeA.here | apply TakeA.next)); done) (by (repeat (first | exact TakeA.here | apply TakeA.next)); done) ?_
      generalize Rs.set part.toNat ⟨(ix Rs part).r, (ix Rs part).a, b, c, d, ps, xs⟩ = R1 at hv1 hp1 ha1 ⊢
      have hmsl : ms.length ≤ 4096 := by have := congrArg List.length hma; rw [List.length_map, List.length_take] at this; omega
      ((try simp only [WKb, ↓reduceIte, Nat.reduceEqDiff]) <;> (repeat' ((first
    | (refine G.tr ?_; first | refine S.a ?_ | refine Tr.brK ?_ ?_ | (refine G.call 30 ?_; refine S.c ?_ (h := routs_ok)) | (refine G.call 67 ?_; refine S.c ?_ (h := rdrain_ok ?_ ?_)) | refine S.n fun _ => ?_ | refine S.i fun hix => ?_ | (refine S.g fun hb => ?_; (try simp only [hb])) | (refine S.s (fun hb => ?_) (fun hb => ?_) <;> ((try simp only [hb]) <;> (try (have hp := hb; simp only [WKs] at hp; (try have hq := Int.not_le.2 hp); (try have hq := Int.not_lt.2 hp))))))
    | rintro _ _ ⟨_, rfl, rfl⟩
    | rintro _ _ ⟨_, _, _, _, _, _, hxs, hrd2, rfl, rfl⟩
    | ((fail_if_success refine G.tr ?_); exact G.prop S.p)
    | fail) <;> (try simp only [WKb, ↓reduceIte, Nat.reduceEqDiff]))))
      refine Tr.loopE (α := Nat × List RG) [16] [3, 4, 8, 9] (fun x => [.int .i64 x.1]) (fun x => [fam refA x.2]) (fun x => x.1 ≤ ms.length ∧ invR x.2 (n + x.1) ∧ x.2.map RG.pt = Rs.map RG.pt ∧ x.2.map RG.ps = delivAll chs ((ms.map MsgC.ab).take x.1) (R1.map RG.ps)) (fun x => ms.length - x.1) (0, R1) (by (repeat (first | exact TakeL.nil | (apply TakeL.cons; focus ((first | exact TakeA.dupS | exact TakeA.dupF | ((repeat (first | with_reducible exact TakeA.here | exact TakeA.fam (by omega) (by omega) | with_reducible apply TakeA.next)); done) | ((repeat (first | exact TakeA.here | apply TakeA.next)); done) | exact TakeA.famNil | exact TakeA.nilS))) | fail)); done) rfl ⟨by omega, hv1, hp1, by simp [delivAll]⟩ fun x u hx => ?_
      obtain ⟨i, R2⟩ := x
      simp only at hx ⊢
      obtain ⟨hil, hv2, hp2, ha2⟩ := hx
      by_cases hin3 : i < ms.length
      · have hw3 := wrapSucc (k := i) (by omega)
        have htk : ms.take (i + 1) = ms.take i ++ [ix ms (i : Int)] := take_ix hin3
        have hab2 : (ms.map MsgC.ab).take (i + 1) = (ms.map MsgC.ab).take i ++ [(ix ms (i : Int)).ab] := by rw [← List.map_take, ← List.map_take, htk, List.map_append]; rfl
        have hnx : ∀ {y : St}, y = delivA chs (ix ms (i : Int)).ch (ix ms (i : Int)).d.d (R2.map RG.ps) → y = delivAll chs ((ms.map MsgC.ab).take (i + 1)) (R1.map RG.ps) := fun h => by rw [h, hab2, delivAll_snoc, ha2]; rfl
        simp only [← hp2] at *
        ((try simp only [WKb, ↓reduceIte, Nat.reduceEqDiff]) <;> (repeat' ((first
    | (refine G.tr ?_; first | (refine G.call 47 ?_; refine S.c ?_ (h := rdeliv_ok (c := ⟨c1, c2, c3, c4, c5, c6, c7, c8, c9, c10, c11, c12, c13⟩) (ch := (ix ms (i : Int)).ch) (win := (ix ms (i : Int)).win) (s := (ix ms (i : Int)).d.s) (d := (ix ms (i : Int)).d.d) hv2 (by omega)); rintro _ _ ⟨R3, hv3, hp3, ha3, rfl, rfl⟩) | refine S.a ?_ | refine Tr.brK ?_ ?_ | (refine G.call 30 ?_; refine S.c ?_ (h := routs_ok)) | (refine G.call 67 ?_; refine S.c ?_ (h := rdrain_ok ?_ ?_)) | refine S.n fun _ => ?_ | refine S.i fun hix => ?_ | (refine S.g fun hb => ?_; (try simp only [hb])) | (refine S.s (fun hb => ?_) (fun hb => ?_) <;> ((try simp only [hb]) <;> (try (have hp := hb; simp only [WKs] at hp; (try have hq := Int.not_le.2 hp); (try have hq := Int.not_lt.2 hp))))))
    | rintro _ _ ⟨_, rfl, rfl⟩
    | rintro _ _ ⟨_, _, _, _, _, _, hxs, hrd2, rfl, rfl⟩
    | ((fail_if_success refine G.tr ?_); exact G.prop S.p)
    | fail) <;> (try simp only [WKb, ↓reduceIte, Nat.reduceEqDiff, pl45, hw3]))))
        all_goals
          have hq3 := hnx ha3
          (apply Tr.againE ((i + 1, R3)); (focus (simp only [WKb, ↓reduceIte, Nat.reduceEqDiff])); (focus ((try simp only [WKb, ↓reduceIte]); (all_goals ((repeat (refine cons_eq (by first | rfl | (simp [*]; done)) ?_)); rfl)); done)); rotate_left 2; (focus (((try clear hK) <;> (try simp only [WKe, *]) <;> repeat (first | with_reducible exact EntR.done | refine S.e ?_ | (refine S.f ?_ <;> (try simp only [WKe, ↓reduceIte, reduceCtorEq, Int.reduceEq, *])) | with_reducible apply EntR.ex | refine EntR.drop (F := F) ?_ | refine EntR.drop ?_)))); (focus (first | omega | assumption | (simp only []; omega) | (refine ⟨by omega, by assumption⟩) | (simp only []; refine ⟨by omega, by assumption⟩) | ((try simp only []); (repeat' (first | omega | assumption | apply hq3 | apply hv3 | apply hp3 | refine And.intro ?_ ?_)); done))); (focus (first | omega | (simp only []; omega))))
      · have hii : i = ms.length := by omega
        subst hii
        have hr1 : ms.map MsgC.ab = flushA chs part win (Rs.map RG.ps) := by unfold flushA; rw [if_pos hst, hab, hma]; unfold flushMs; rw [houts]
        have hr2 : R2.map RG.ps = flushSt chs part win (Rs.map RG.ps) := by
          unfold flushSt; rw [if_pos hst, hab, ha2, ha1, List.take_of_length_le (by simp), hma]; unfold flushMs; rw [houts]
        ((try simp only [WKb, ↓reduceIte, Nat.reduceEqDiff]) <;> (repeat' ((first
    | (refine G.tr ?_; first | refine S.a ?_ | refine Tr.brK ?_ ?_ | (refine G.call 30 ?_; refine S.c ?_ (h := routs_ok)) | (refine G.call 67 ?_; refine S.c ?_ (h := rdrain_ok ?_ ?_)) | refine S.n fun _ => ?_ | refine S.i fun hix => ?_ | (refine S.g fun hb => ?_; (try simp only [hb])) | (refine S.s (fun hb => ?_) (fun hb => ?_) <;> ((try simp only [hb]) <;> (try (have hp := hb; simp only [WKs] at hp; (try have hq := Int.not_le.2 hp); (try have hq := Int.not_lt.2 hp))))))
    | rintro _ _ ⟨_, rfl, rfl⟩
    | rintro _ _ ⟨_, _, _, _, _, _, hxs, hrd2, rfl, rfl⟩
    | ((fail_if_success refine G.tr ?_); exact G.prop S.p)
    | fail) <;> (try simp only [WKb, ↓reduceIte, Nat.reduceEqDiff]))))
        all_goals
          apply Tr.fin hK ⟨R2, so, ms, hr1, invR_up hv2 (by omega), hp2, hr2, rfl, rfl⟩
          ((try clear hK) <;> (try simp only [WKe, *]) <;> repeat (first | with_reducible exact EntR.done | refine S.e ?_ | (refine S.f ?_ <;> (try simp only [WKe, ↓reduceIte, reduceCtorEq, Int.reduceEq, *])) | with_reducible apply EntR.ex | refine EntR.drop (F := F) ?_ | refine EntR.drop ?_))
  · have hst : ¬ inSt (Rs.map RG.ps) part := fun h => hin ⟨h.1, by have := h.2; rwa [rps_len] at this⟩
    have hf1 : flushA chs part win (Rs.map RG.ps) = [] := if_neg hst
    have hf2 : flushSt chs part win (Rs.map RG.ps) = Rs.map RG.ps := if_neg hst
    (refine Tr.enter (rs := [.tmp 8]) mixed fn45 rfl (by simp +arith [Try.ntmps45]) fun u => ?_; simp only [cd45, Try.f45])
    ((try simp only [WKb, ↓reduceIte, Nat.reduceEqDiff, Nat.reduceAdd]) <;> (repeat' ((first
    | (refine G.tr ?_; first | refine S.a ?_ | refine Tr.brK ?_ ?_ | (refine G.call 30 ?_; refine S.c ?_ (h := routs_ok)) | (refine G.call 67 ?_; refine S.c ?_ (h := rdrain_ok ?_ ?_)) | refine S.n fun _ => ?_ | refine S.i fun hix => ?_ | (refine S.g fun hb => ?_; (try simp only [hb])) | (refine S.s (fun hb => ?_) (fun hb => ?_) <;> ((try simp only [hb]) <;> (try (have hp := hb; simp only [WKs] at hp; (try have hq := Int.not_le.2 hp); (try have hq := Int.not_lt.2 hp))))))
    | rintro _ _ ⟨_, rfl, rfl⟩
    | rintro _ _ ⟨_, _, _, _, _, _, hxs, hrd2, rfl, rfl⟩
    | ((fail_if_success refine G.tr ?_); exact G.prop S.p)
    | fail) <;> (try simp only [WKb, ↓reduceIte, Nat.reduceEqDiff]))))
    all_goals
      refine Tr.nilSl (α := MsgC) ?_
      apply Tr.fin hK ⟨Rs, ⟨none, 0, 0⟩, [], by rw [hf1]; rfl, invR_up hv (by omega), rfl, hf2.symm, rfl, rfl⟩
      ((try clear hK) <;> (try simp only [WKe, *]) <;> repeat (first | with_reducible exact EntR.done | refine S.e ?_ | (refine S.f ?_ <;> (try simp only [WKe, ↓reduceIte, reduceCtorEq, Int.reduceEq, *])) | with_reducible apply EntR.ex | refine EntR.drop (F := F) ?_ | refine EntR.drop ?_))



end Go.Proofs.Ytlhmbcmkpafjoaa
