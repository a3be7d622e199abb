import Derived.Test.YtlhmbcmkpafjoaaKC
namespace Go.Proofs.Ytlhmbcmkpafjoaa
open Go Go.Wk
set_option maxHeartbeats 6400000
set_option maxRecDepth 100000
/-- A partition's ports. -/
structure PG where
  p : Nat
  s : SV
  gs : List OneG
instance : Inhabited PG := ⟨⟨0, ⟨none, 0, 0⟩, []⟩⟩
def PG.pt (g : PG) : Pt := ⟨some g.p⟩
def PG.ab (g : PG) : List AP := g.gs.map OneG.abs
def portsA (g : PG) : Asrt := sep (poB g.p g.s) (sep (fam oneA g.gs) (sl false g.s.v (g.gs.map OneG.pt)))
theorem portsA_open {g : PG} {l : List Asrt} {X : WP} (h : Tr (poB g.p g.s :: fam oneA g.gs :: sl false g.s.v (g.gs.map OneG.pt) :: l) X) : Tr (portsA g :: l) X := h.imp (Imp.trans Imp.sep (Imp.cons Imp.sep))
abbrev St := List (List AP)
def invL (Gs : List PG) (n : Nat) : Prop := ∀ g ∈ Gs, invP g.gs n
/-- May this channel deliver? -/
def toOK (chs : List ChanC) (ch : Int) (n : Nat) : Prop := inCh chs ch ∧ 0 ≤ (ix chs ch).tp ∧ (ix chs ch).tp < n
instance (chs : List ChanC) (ch : Int) (n : Nat) : Decidable (toOK chs ch n) := by unfold toOK; infer_instance
def delivB (chs : List ChanC) (ch : Int) (st : St) : Bool := if toOK chs ch st.length then delBA (ix st (ix chs ch).tp) (ix chs ch).to else false
def delivA (chs : List ChanC) (ch : Int) (d : List UInt8) (st : St) : St := if toOK chs ch st.length then st.set (ix chs ch).tp.toNat (delA (ix st (ix chs ch).tp) (ix chs ch).to d) else st
theorem inv_up {gs : List OneG} {n m : Nat} (h : invP gs n) (hm : n ≤ m) : invP gs m := ⟨h.1, fun g hg => ⟨(h.2 g hg).1, (h.2 g hg).2.1, Nat.le_trans (h.2 g hg).2.2 hm⟩⟩
theorem invL_up {Gs : List PG} {n m : Nat} (h : invL Gs n) (hm : n ≤ m) : invL Gs m := fun g hg => inv_up (h g hg) hm
theorem invL_ix {Gs : List PG} {n : Nat} (h : invL Gs n) {k : Int} (h0 : 0 ≤ k) (h1 : k < Gs.length) : invP (ix Gs k).gs n := h _ (List.mem_of_getElem? (ix_some h0 h1))
theorem invL_set {Gs : List PG} {n k : Nat} {g : PG} (h : invL Gs n) (hg : invP g.gs n) : invL (Gs.set k g) n := fun x hx => by
  rcases List.mem_or_eq_of_mem_set hx with h' | rfl
  · exact h x h'
  · exact hg
theorem inv_ms {gs : List OneG} {n : Nat} (h : invP gs n) (k : Int) : (ix gs k).ms.length ≤ n := by
  by_cases hk : k.toNat < gs.length
  · exact (h.2 _ (by unfold ix; simp [hk])).2.2
  · have : ix gs k = default := by unfold ix; simp [hk]
    rw [this]; exact Nat.zero_le _
theorem inv_mm {gs : List OneG} {n : Nat} (h : invP gs n) (k : Int) : (ix gs k).m.d.length ≤ 300 := by
  by_cases hk : k.toNat < gs.length
  · exact (h.2 _ (by unfold ix; simp [hk])).2.1
  · have : ix gs k = default := by unfold ix; simp [hk]
    rw [this]; exact Nat.zero_le _
theorem ab_ix {Gs : List PG} {k : Int} (h0 : 0 ≤ k) (h1 : k < Gs.length) : ix (Gs.map PG.ab) k = (ix Gs k).gs.map OneG.abs := ix_map (f := PG.ab) h0 h1
theorem ab_len {Gs : List PG} : (Gs.map PG.ab).length = Gs.length := List.length_map _
attribute [local irreducible] BrK GenK EGenK EUnitK CallK FnK CallV GuardO GuardC CondW opX opK opKc chkR eqR seqK blkK endL WL WD W LoopW BinK Tr drewK resL PickK NotK NilK ExtrK getK Instr.storeAt Instr.loadAt Instr.fieldAt Instr.indexAt Instr.lookup Instr.mapUpdate Instr.box Instr.alloc Instr.build Instr.buildSlice Instr.makeSlice Instr.makeMap Instr.sliceAt Instr.field Instr.index Instr.makeInterface Instr.typeAssert Builtin.len_ Builtin.append_ Builtin.cap_ Builtin.min_ Builtin.max_ Builtin.copy_ Builtin.clear_ convert binOp mp blk rob sl sep ex fact old
attribute [local irreducible] chn CW
theorem deliv_ok {u0 : Value} {c : ConfC} [hd : DeA u0 c] {chs : List ChanC} {ch win : Int} {s all : SV} {d : List UInt8} {Gs : List PG} {n : Nat} (hv : invL Gs n) (hn : n ≤ 900000) (hdl : d.length ≤ 300) :
    Trip Try.prog 46 [u0, .agg [.int .i64 ch, .int .i64 win, s.v].toArray, all.v].toArray [sl true c.chans.v chs, sl true s.v d, sl true all.v (Gs.map PG.pt), fam portsA Gs]
    fun v l' => ∃ Gs2, invL Gs2 (n + 1) ∧ Gs2.map PG.pt = Gs.map PG.pt ∧ Gs2.map PG.ab = delivA chs ch d (Gs.map PG.ab) ∧ v = .bool (delivB chs ch (Gs.map PG.ab)) ∧ l' = [fam portsA Gs2] := by
  obtain rfl := hd.h
  intro F K hK
  simp only [List.cons_append, List.nil_append]
  obtain ⟨c1, c2, c3, c4, c5, c6, c7, c8, c9, c10, c11, c12, c13⟩ := c
  by_cases hin : inCh chs ch
  · have hf : findC chs ch = ix chs ch := if_pos hin
    have hd1 : decide (inCh chs ch) = true := by simpa using hin
    by_cases htp : 0 ≤ (ix chs ch).tp ∧ (ix chs ch).tp < Gs.length
    · obtain ⟨h0, h1⟩ := htp
      have hok : toOK chs ch (Gs.map PG.ab).length := ⟨hin, h0, by rw [ab_len]; exact h1⟩
      have hi := invL_ix hv h0 h1
      have hms := inv_ms hi (ix chs ch).to
      have hp : ix (Gs.map PG.pt) (ix chs ch).tp = ⟨some (ix Gs (ix chs ch).tp).p⟩ := ix_map (f := PG.pt) h0 h1
      have hB : delivB chs ch (Gs.map PG.ab) = delB (ix Gs (ix chs ch).tp).gs (ix chs ch).to := by
        unfold delivB; rw [if_pos hok, ab_ix h0 h1, (abs_del (s := ⟨none, 0, 0⟩) (m := default)).1]
      have hS : ∀ s3 s4, invL (Gs.set (ix chs ch).tp.toNat { ix Gs (ix chs ch).tp with gs := delG (ix Gs (ix chs ch).tp).gs (ix chs ch).to s3 ⟨s4, d⟩ }) (n + 1) := fun s3 s4 => invL_set (invL_up hv (by omega)) (inv_del hi hdl)
      have hT : ∀ s3 s4, (Gs.set (ix chs ch).tp.toNat { ix Gs (ix chs ch).tp with gs := delG (ix Gs (ix chs ch).tp).gs (ix chs ch).to s3 ⟨s4, d⟩ }).map PG.pt = Gs.map PG.pt := fun s3 s4 => map_same (f := PG.pt) h0 h1 _ rfl
      have hA : ∀ s3 s4, (Gs.set (ix chs ch).tp.toNat { ix Gs (ix chs ch).tp with gs := delG (ix Gs (ix chs ch).tp).gs (ix chs ch).to s3 ⟨s4, d⟩ }).map PG.ab = delivA chs ch d (Gs.map PG.ab) := fun s3 s4 => by
        unfold delivA; rw [if_pos hok, ab_ix h0 h1, List.map_set]; congr 1
        exact (abs_del (s := s3) (m := ⟨s4, d⟩)).2
      refine Tr.famAt (A := portsA) (ix chs ch).tp (by (repeat (first | exact TakeA.here | apply TakeA.next)); done) h0 h1 ?_
      refine portsA_open ?_
      (refine Tr.enter (rs := [.tmp 6]) mixed fn46 rfl (by simp +arith [Try.ntmps46]) fun u => ?_; simp only [cd46, Try.f46])
      ((try simp only [WKb, ↓reduceIte, Nat.reduceEqDiff, Nat.reduceAdd]) <;> (repeat' ((first
    | (refine G.tr ?_; first | refine S.a ?_ | refine Tr.brK ?_ ?_ | (refine G.call 62 ?_; refine S.c ?_ (h := find_ok)) | (refine G.call 68 ?_; first | refine S.c ?_ (h := pdeliver0_ok) | refine S.c ?_ (h := deliver_ok ?_ ?_)) | refine S.n fun _ => ?_ | refine S.i fun hix => ?_ | (refine S.g fun hb => ?_; (try simp only [hb])) | (refine S.s (fun hb => ?_) (fun hb => ?_) <;> ((try simp only [hb]) <;> (try (have hp := hb; simp only [WKs] at hp; (try have hq := Int.not_le.2 hp); (try have hq := Int.not_lt.2 hp))))))
    | rintro _ _ ⟨rfl, rfl⟩
    | rintro _ _ ⟨_, _, rfl, rfl⟩
    | ((fail_if_success refine G.tr ?_); exact G.prop S.p)
    | fail) <;> (try simp only [WKb, WKh, ↓reduceIte, Nat.reduceEqDiff, Nat.reduceAdd, pl46, hf, hd1, hp]))))
      all_goals
        apply Tr.fin hK ⟨_, hS _ _, hT _ _, hA _ _, (by first | (simp [*]; done) | (simp only [WKe, ↓reduceIte, reduceCtorEq, Int.reduceEq, eq_self, *, hB]; done) | (simp only [WKe, ↓reduceIte, reduceCtorEq, Int.reduceEq, *, hB]; rfl)), rfl⟩
        ((try clear hK) <;> (try simp only [WKe, *]) <;> repeat (first | with_reducible exact EntR.done | refine S.e ?_ | (refine S.f ?_ <;> (try simp only [portsA, *])) | with_reducible apply EntR.ex | refine EntR.drop (F := F) ?_ | refine EntR.drop ?_))
    · have hok : ¬ toOK chs ch (Gs.map PG.ab).length := fun h => htp ⟨h.2.1, by rw [ab_len] at h; exact h.2.2⟩
      have hB : delivB chs ch (Gs.map PG.ab) = false := if_neg hok
      have hA : delivA chs ch d (Gs.map PG.ab) = Gs.map PG.ab := if_neg hok
      (refine Tr.enter (rs := [.tmp 6]) mixed fn46 rfl (by simp +arith [Try.ntmps46]) fun u => ?_; simp only [cd46, Try.f46])
      ((try simp only [WKb, ↓reduceIte, Nat.reduceEqDiff, Nat.reduceAdd]) <;> (repeat' ((first
    | (refine G.tr ?_; first | refine S.a ?_ | refine Tr.brK ?_ ?_ | (refine G.call 62 ?_; refine S.c ?_ (h := find_ok)) | (refine G.call 68 ?_; first | refine S.c ?_ (h := pdeliver0_ok) | refine S.c ?_ (h := deliver_ok ?_ ?_)) | refine S.n fun _ => ?_ | refine S.i fun hix => ?_ | (refine S.g fun hb => ?_; (try simp only [hb])) | (refine S.s (fun hb => ?_) (fun hb => ?_) <;> ((try simp only [hb]) <;> (try (have hp := hb; simp only [WKs] at hp; (try have hq := Int.not_le.2 hp); (try have hq := Int.not_lt.2 hp))))))
    | rintro _ _ ⟨rfl, rfl⟩
    | rintro _ _ ⟨_, _, rfl, rfl⟩
    | ((fail_if_success refine G.tr ?_); exact G.prop S.p)
    | fail) <;> (try simp only [WKb, ↓reduceIte, Nat.reduceEqDiff, Nat.reduceAdd, hf, hd1]))))
      all_goals
        apply Tr.fin hK ⟨Gs, invL_up hv (by omega), rfl, hA.symm, (by first | (simp [*]; done) | (simp only [WKe, ↓reduceIte, reduceCtorEq, Int.reduceEq, eq_self, *, hB]; done) | (simp only [WKe, ↓reduceIte, reduceCtorEq, Int.reduceEq, *, hB]; rfl)), rfl⟩
        ((try clear hK) <;> (try simp only [WKe, *]) <;> repeat (first | with_reducible exact EntR.done | refine S.e ?_ | (refine S.f ?_ <;> (try simp only [WKe, ↓reduceIte, reduceCtorEq, Int.reduceEq, *])) | with_reducible apply EntR.ex | refine EntR.drop (F := F) ?_ | refine EntR.drop ?_))
  · have hok : ¬ toOK chs ch (Gs.map PG.ab).length := fun h => hin h.1
    have hd1 : decide (inCh chs ch) = false := by simpa using hin
    have hB : delivB chs ch (Gs.map PG.ab) = false := if_neg hok
    have hA : delivA chs ch d (Gs.map PG.ab) = Gs.map PG.ab := if_neg hok
    (refine Tr.enter (rs := [.tmp 6]) mixed fn46 rfl (by simp +arith [Try.ntmps46]) fun u => ?_; simp only [cd46, Try.f46])
    ((try simp only [WKb, ↓reduceIte, Nat.reduceEqDiff, Nat.reduceAdd]) <;> (repeat' ((first
    | (refine G.tr ?_; first | refine S.a ?_ | refine Tr.brK ?_ ?_ | (refine G.call 62 ?_; refine S.c ?_ (h := find_ok)) | (refine G.call 68 ?_; first | refine S.c ?_ (h := pdeliver0_ok) | refine S.c ?_ (h := deliver_ok ?_ ?_)) | refine S.n fun _ => ?_ | refine S.i fun hix => ?_ | (refine S.g fun hb => ?_; (try simp only [hb])) | (refine S.s (fun hb => ?_) (fun hb => ?_) <;> ((try simp only [hb]) <;> (try (have hp := hb; simp only [WKs] at hp; (try have hq := Int.not_le.2 hp); (try have hq := Int.not_lt.2 hp))))))
    | rintro _ _ ⟨rfl, rfl⟩
    | rintro _ _ ⟨_, _, rfl, rfl⟩
    | ((fail_if_success refine G.tr ?_); exact G.prop S.p)
    | fail) <;> (try simp only [WKb, ↓reduceIte, Nat.reduceEqDiff, hd1]))))
    all_goals
      apply Tr.fin hK ⟨Gs, invL_up hv (by omega), rfl, hA.symm, (by first | (simp [*]; done) | (simp only [WKe, ↓reduceIte, reduceCtorEq, Int.reduceEq, eq_self, *, hB]; done) | (simp only [WKe, ↓reduceIte, reduceCtorEq, Int.reduceEq, *, hB]; rfl)), rfl⟩
      ((try clear hK) <;> (try simp only [WKe, *]) <;> repeat (first | with_reducible exact EntR.done | refine S.e ?_ | (refine S.f ?_ <;> (try simp only [WKe, ↓reduceIte, reduceCtorEq, Int.reduceEq, *])) | with_reducible apply EntR.ex | refine EntR.drop (F := F) ?_ | refine EntR.drop ?_))
end Go.Proofs.Ytlhmbcmkpafjoaa
