import Derived.Test.YtlhmbcmkpafjoaaKK
namespace Go.Proofs.Ytlhmbcmkpafjoaa
open Go Go.Wk
set_option maxHeartbeats 6400000
set_option maxRecDepth 100000
instance : ElT 48 PartC := ⟨⟩
instance : ElT 49 ChanC := ⟨⟩
instance : Inhabited PartC := ⟨⟨⟨none, 0, 0⟩, ⟨none, 0, 0⟩, ⟨none, 0, 0⟩, ⟨none, 0, 0⟩, 0, ⟨none, 0, 0⟩, ⟨none, 0, 0⟩, 0, 0, 0, ⟨none, 0, 0⟩⟩⟩
instance {l : List Asrt} {u : Value} {x : PartC} [h : DeA u x] : De l u x := ⟨by rw [h.h]; rfl⟩
instance {l : List Asrt} {a b c d : Int} : De l (.agg [.int .i64 a, .int .i64 b, .int .i64 c, .int .i64 d].toArray) (ChanC.mk a b c d) := ⟨rfl⟩
theorem Tr.fam2 {g0 g1 : PG} {l l1 l2 l3 l4 l5 l6 : List Asrt} {X : WP} (t1 : TakeA l (poB g0.p g0.s) l1) (t2 : TakeA l1 (fam oneA g0.gs) l2) (t3 : TakeA l2 (sl false g0.s.v (g0.gs.map OneG.pt)) l3)
    (t4 : TakeA l3 (poB g1.p g1.s) l4) (t5 : TakeA l4 (fam oneA g1.gs) l5) (t6 : TakeA l5 (sl false g1.s.v (g1.gs.map OneG.pt)) l6) (hx : Tr (fam portsA [g0, g1] :: l6) X) : Tr l X := by
  refine hx.imp ?_
  have mk : ∀ (g : PG) (m : List Asrt), Imp (poB g.p g.s :: fam oneA g.gs :: sl false g.s.v (g.gs.map OneG.pt) :: m) (portsA g :: m) := fun g m => Imp.trans (Imp.cons Imp.sepI) Imp.sepI
  have h0 : Imp l (portsA g0 :: l3) := Imp.trans (Imp.trans t1 (Imp.cons (Imp.trans t2 (Imp.cons t3)))) (mk g0 l3)
  have h1 : Imp l3 (portsA g1 :: l6) := Imp.trans (Imp.trans t4 (Imp.cons (Imp.trans t5 (Imp.cons t6)))) (mk g1 l6)
  exact Imp.trans h0 (Imp.trans (Imp.cons (Imp.trans h1 (Imp.trans (Imp.cons fam_nil) fam_consI))) fam_consI)
attribute [local irreducible] BrK GenK EGenK EUnitK CallK FnK CallV GuardO GuardC CondW opX opK opKc chkR eqR seqK blkK endL WL WD W LoopW BinK Tr drewK resL PickK NotK NilK ExtrK getK Instr.storeAt Instr.loadAt Instr.fieldAt Instr.indexAt Instr.lookup Instr.mapUpdate Instr.box Instr.alloc Instr.build Instr.buildSlice Instr.makeSlice Instr.makeMap Instr.sliceAt Instr.field Instr.index Instr.makeInterface Instr.typeAssert Builtin.len_ Builtin.append_ Builtin.cap_ Builtin.min_ Builtin.max_ Builtin.copy_ Builtin.clear_ convert binOp mp blk rob sl sep ex fact old
theorem works19_ok : Trip Try.prog 24 [].toArray [] fun v l' => v = .bool true ∧ l' = [] := by
  intro F K hK
  simp only [List.nil_append]
  have hi2 : ∀ a b : Nat, ix [Pt.mk (some a), Pt.mk (some b)] 0 = Pt.mk (some a) ∧ ix [Pt.mk (some a), Pt.mk (some b)] 1 = Pt.mk (some b) := fun a b => ⟨rfl, rfl⟩
  have hq2 : ∀ a b : PartC, ix [a, b] 0 = a ∧ ix [a, b] 1 = b := fun a b => ⟨rfl, rfl⟩
  (refine Tr.enter (rs := [.tmp 0]) mixed fn24 rfl (by simp +arith [Try.ntmps24]) fun u => ?_; simp only [cd24, Try.f24])
  ((try simp only [WKb]) <;> (repeat' ((first
    | (refine G.tr ?_; first | (refine G.call 32 ?_; first | (refine S.c ?_ (h := pnew_ok (cs := [⟨false, false, 4, 0⟩])); rintro _ _ ⟨p0, sa, g0, hco0, rfl, rfl⟩) | (refine S.c ?_ (h := pnew_ok (cs := [⟨false, true, 4, 0⟩, ⟨false, true, 4, 0⟩])); rintro _ _ ⟨p1, sb, g1, hco1, rfl, rfl⟩) | refine Tr.freezeAt (α := PortC) (by (repeat (first | exact TakeA.here | apply TakeA.next)); done) ?_) | (refine G.call 42 ?_; refine S.c ?_ (h := write_ok (gs := g0) (by simp) (by have := inv_ms (new_inv hco0).1 0; omega)); rintro _ _ ⟨ws3, ws4, rfl, rfl⟩) | refine S.a ?_ | refine Tr.brK ?_ ?_ | (refine G.call 32 ?_; first | refine S.c ?_ (h := pnew2_ok) | refine S.c ?_ (h := pnew1_ok)) | (refine G.call 42 ?_; first | refine S.c ?_ (h := pwrite0_ok) | refine S.c ?_ (h := write_ok ?_ ?_)) | (refine G.call 27 ?_; refine S.c ?_ (h := flush_ok ?_ ?_ ?_)) | (refine G.call 43 ?_; first | refine S.c ?_ (h := pread0_ok) | refine S.c ?_ (h := read2_ok ?_)) | refine S.n fun _ => ?_ | refine S.i fun hix => ?_ | (refine S.g fun hb => ?_; (try simp only [hb])) | (refine S.s (fun hb => ?_) (fun hb => ?_) <;> ((try simp only [hb]) <;> (try (have hp := hb; simp only [WKs] at hp; (try have hq := Int.not_le.2 hp); (try have hq := Int.not_lt.2 hp))))))
    | rintro _ _ ⟨rfl, rfl⟩
    | rintro _ _ ⟨_, _, rfl, rfl⟩
    | rintro _ _ ⟨_, _, _, _, rfl, rfl⟩
    | rintro _ _ ⟨_, _, _, _, _, _, rfl, rfl⟩
    | rintro _ _ ⟨Gf2, _, _, hfm2, hfv2, hfp2, hfa2, rfl, rfl⟩
    | ((fail_if_success refine G.tr ?_); exact G.prop S.p)
    | fail) <;> (try simp only [WKb, WKh, ↓reduceIte, Nat.reduceEqDiff, Nat.reduceAdd, pl24, hi2, hq2]))))
  have hn0 := new_inv hco0
  have hn1 := new_inv hco1
  have hv : invL [(⟨p0, sa, intoG g0 0 false ws3 ⟨ws4, [120]⟩⟩ : PG), ⟨p1, sb, g1⟩] 1 := fun g hg => by
    rcases List.mem_cons.1 hg with rfl | hg
    · exact inv_into hn0.1 (by simp)
    · rw [List.mem_singleton.1 hg]; exact inv_up hn1.1 (by omega)
  have hA : List.map PG.ab [(⟨p0, sa, intoG g0 0 false ws3 ⟨ws4, [120]⟩⟩ : PG), ⟨p1, sb, g1⟩] = [intoA (newA [⟨false, false, 4, 0⟩]) 0 false [120], newA [⟨false, true, 4, 0⟩, ⟨false, true, 4, 0⟩]] := by
    show [List.map OneG.abs _, List.map OneG.abs g1] = _
    rw [abs_into, hn0.2, hn1.2]
  have hok : okA (ix (List.map PG.ab [(⟨p0, sa, intoG g0 0 false ws3 ⟨ws4, [120]⟩⟩ : PG), ⟨p1, sb, g1⟩]) 0) := by
    rw [hA]; unfold okA; decide
  refine Tr.freezeAt (α := ChanC) (by (repeat (first | exact TakeA.here | apply TakeA.next)); done) ?_
  refine Tr.freezeAt (α := Pt) (xs := [⟨some p0⟩, ⟨some p1⟩]) (by (repeat (first | exact TakeA.here | apply TakeA.next)); done) ?_
  refine Tr.fam2 (g0 := ⟨p0, sa, intoG g0 0 false ws3 ⟨ws4, [120]⟩⟩) (g1 := ⟨p1, sb, g1⟩) (by (repeat (first | exact TakeA.here | apply TakeA.next)); done) (by (repeat (first | exact TakeA.here | apply TakeA.next)); done) (by (repeat (first | exact TakeA.here | apply TakeA.next)); done) (by (repeat (first | exact TakeA.here | apply TakeA.next)); done) (by (repeat (first | exact TakeA.here | apply TakeA.next)); done) (by (repeat (first | exact TakeA.here | apply TakeA.next)); done) ?_
  refine S.c ?_ (h := flush_ok (Gs := [⟨p0, sa, intoG g0 0 false ws3 ⟨ws4, [120]⟩⟩, ⟨p1, sb, g1⟩]) (chs := [⟨0, 0, 1, 0⟩, ⟨0, 0, 1, 1⟩]) (n := 1) hv (by omega) hok)
  rintro _ _ ⟨Gf, sf, mf, hfm, hfv, hfp, hfa, rfl, rfl⟩
  rw [hA] at hfm hfa
  have hmc : mf.map MsgC.ab = [(0, 3, [120]), (1, 3, [120])] := hfm.trans (by kernel_rfl)
  have hml : mf.length = 2 := by simpa using congrArg List.length hmc
  have hm1 : (ix mf 1).ab = (1, 3, [120]) := by rw [← ix_map (f := MsgC.ab) (by omega) (by omega), hmc]; rfl
  have hmch : (ix mf 1).ch = 1 := congrArg (fun x => x.1) hm1
  have hmwn : (ix mf 1).win = 3 := congrArg (fun x => x.2.1) hm1
  have hgl : Gf.length = 2 := by simpa using congrArg List.length hfp
  have hp1 : (ix Gf 1).p = p1 := by
    have h := ix_map (f := PG.pt) (xs := Gf) (k := 1) (by omega) (by omega)
    rw [hfp] at h
    have h2 : (⟨some p1⟩ : Pt) = ⟨some (ix Gf 1).p⟩ := h
    injection h2 with h3
    injection h3 with h4
    exact h4.symm
  have ha1 : (ix Gf 1).gs.map OneG.abs = [⟨⟨false, true, 4, 0⟩, [[120]], false, 0⟩, ⟨⟨false, true, 4, 0⟩, [[120]], false, 0⟩] := by
    have h := ix_map (f := PG.ab) (xs := Gf) (k := 1) (by omega) (by omega)
    rw [hfa] at h
    exact h.symm.trans (by kernel_rfl)
  have hmm := inv_mm (invL_ix hfv (k := 1) (by omega) (by omega)) 1
  have hc1 : outC (ix Gf 1).gs 1 false = 0 := by rw [abs_outC, ha1]; kernel_rfl
  have hd1 : outD (ix Gf 1).gs 1 false = [120] := by rw [abs_outD, ha1]; kernel_rfl
  have hi0 : intoC g0 0 false 1 = 0 := by rw [abs_intoC, hn0.2]; kernel_rfl
  simp only [List.cons_append, List.nil_append]
  refine Tr.famAt (A := portsA) (1 : Int) (by (repeat (first | exact TakeA.here | apply TakeA.next)); done) (by omega) (by omega) ?_
  refine portsA_open ?_
  rw [hp1]
  ((try simp only [WKb, ↓reduceIte, Nat.reduceEqDiff, hi0, List.length_cons, List.length_nil]) <;> (repeat' ((first
    | (refine G.tr ?_; first | (refine G.call 43 ?_; refine S.c ?_ (h := read2_ok (gs := (ix Gf 1).gs) (by omega)); rintro _ _ ⟨rs3, rs4, rfl, rfl⟩; simp only [hc1, hd1]) | refine S.a ?_ | refine Tr.brK ?_ ?_ | (refine G.call 32 ?_; first | refine S.c ?_ (h := pnew2_ok) | refine S.c ?_ (h := pnew1_ok)) | (refine G.call 42 ?_; first | refine S.c ?_ (h := pwrite0_ok) | refine S.c ?_ (h := write_ok ?_ ?_)) | (refine G.call 27 ?_; refine S.c ?_ (h := flush_ok ?_ ?_ ?_)) | (refine G.call 43 ?_; first | refine S.c ?_ (h := pread0_ok) | refine S.c ?_ (h := read2_ok ?_)) | refine S.n fun _ => ?_ | refine S.i fun hix => ?_ | (refine S.g fun hb => ?_; (try simp only [hb])) | (refine S.s (fun hb => ?_) (fun hb => ?_) <;> ((try simp only [hb]) <;> (try (have hp := hb; simp only [WKs] at hp; (try have hq := Int.not_le.2 hp); (try have hq := Int.not_lt.2 hp))))))
    | rintro _ _ ⟨rfl, rfl⟩
    | rintro _ _ ⟨_, _, rfl, rfl⟩
    | rintro _ _ ⟨_, _, _, _, rfl, rfl⟩
    | rintro _ _ ⟨_, _, _, _, _, _, rfl, rfl⟩
    | rintro _ _ ⟨Gf2, _, _, hfm2, hfv2, hfp2, hfa2, rfl, rfl⟩
    | ((fail_if_success refine G.tr ?_); exact G.prop S.p)
    | fail) <;> (try simp only [WKb, WKh, ↓reduceIte, Nat.reduceEqDiff, hi2, BinK_seq1]))))
  all_goals
    refine Tr.fin hK ⟨(by first | (simp [*]; done) | (simp only [WKe, ↓reduceIte, reduceCtorEq, Int.reduceEq, eq_self, *, hml, hmch, hmwn, hc1, hd1, hi0]; done) | (simp only [WKe, ↓reduceIte, reduceCtorEq, Int.reduceEq, *, hml, hmch, hmwn, hc1, hd1, hi0]; rfl)), rfl⟩ ?_
    ((try clear hK) <;> (try simp only [WKe, *]) <;> repeat (first | with_reducible exact EntR.done | refine S.e ?_ | (refine S.f ?_ <;> (try simp only [WKe, ↓reduceIte, reduceCtorEq, Int.reduceEq, *])) | with_reducible apply EntR.ex | refine EntR.drop (F := F) ?_ | refine EntR.drop ?_))

end Go.Proofs.Ytlhmbcmkpafjoaa
