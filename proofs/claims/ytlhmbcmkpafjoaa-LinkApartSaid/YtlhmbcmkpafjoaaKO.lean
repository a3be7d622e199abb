import Derived.Test.YtlhmbcmkpafjoaaKN
import Derived.Test.YtlhmbcmkpafjoaaKM
namespace Go.Proofs.Ytlhmbcmkpafjoaa
open Go Go.Wk
set_option maxHeartbeats 6400000
set_option maxRecDepth 100000
structure Act19 where
  act : Int
  part : Int
  k : Int
  b : Msg
instance : Inhabited Act19 := ⟨⟨0, 0, 0, default⟩⟩
instance : En Act19 := ⟨fun d => [.int .i64 d.act, .int .i64 d.part, .int .i64 d.k, d.b.s.v], 4, fun _ => rfl, fun _ => rfl, by decide⟩
theorem abs_msl {gs : List OneG} {n : Nat} (h : apOK (gs.map OneG.abs) n) (k : Int) : (ix (gs.map OneG.abs) k).ms.length ≤ n := apOK_ix h k
/-- An act on all ports, as the document says. -/
def doneSt (chs : List ChanC) (act part k : Int) (d : List UInt8) (st : St) : St :=
  if act = 4 then flushSt chs part k st
  else if act = 5 then delivA chs k d st
  else if inSt st part then
    (if act = 0 then st.set part.toNat (intoA (ix st part) k false d)
    else if act = 1 then st.set part.toNat (intoA (ix st part) k true d)
    else if act = 2 then st.set part.toNat (outA (ix st part) k true)
    else st)
  else st
attribute [local irreducible] BrK GenK EGenK EUnitK CallK FnK CallV GuardO GuardC CondW opX opK opKc chkR eqR seqK blkK endL WL WD W LoopW BinK Tr drewK resL PickK NotK NilK ExtrK getK Instr.storeAt Instr.loadAt Instr.fieldAt Instr.indexAt Instr.lookup Instr.mapUpdate Instr.box Instr.alloc Instr.build Instr.buildSlice Instr.makeSlice Instr.makeMap Instr.sliceAt Instr.field Instr.index Instr.makeInterface Instr.typeAssert Builtin.len_ Builtin.append_ Builtin.cap_ Builtin.min_ Builtin.max_ Builtin.copy_ Builtin.clear_ convert binOp mp blk rob sl sep ex fact old
attribute [local irreducible] chn CW
theorem done19_ok {u0 : Value} {c : ConfC} [hd : DeA u0 c] {chs : List ChanC} {s t : SV} {Gs : List PG} {Rs : List RG} {a : Act19} {n : Nat} (hI : Inv19 Gs Rs n) (hn : n ≤ 700000) (hB : a.b.d.length ≤ 300) :
    Trip Try.prog 26 [u0, s.v, t.v, .agg [.int .i64 a.act, .int .i64 a.part, .int .i64 a.k, a.b.s.v].toArray].toArray [sl true c.chans.v chs, sl true s.v (Gs.map PG.pt), fam portsA Gs, sl true t.v (Rs.map RG.pt), fam refA Rs, sl true a.b.s.v a.b.d]
    fun v l' => ∃ Gs2 Rs2, Inv19 Gs2 Rs2 (n + 4096) ∧ Gs2.map PG.pt = Gs.map PG.pt ∧ Rs2.map RG.pt = Rs.map RG.pt ∧ Gs2.map PG.ab = doneSt chs a.act a.part a.k a.b.d (Gs.map PG.ab) ∧ v = .bool true ∧ l' = [fam portsA Gs2, fam refA Rs2] := by
  obtain rfl := hd.h
  intro F K hK
  obtain ⟨act, part, k, ⟨s0, m⟩⟩ := a
  simp only [List.cons_append, List.nil_append] at hB ⊢
  obtain ⟨c1, c2, c3, c4, c5, c6, c7, c8, c9, c10, c11, c12, c13⟩ := c
  have hr := hI.r
  have hv := hI.v
  have hlen := hI.len
  have hlg : (Gs.map PG.pt).length = Gs.length := List.length_map _
  have hlr : (Rs.map RG.pt).length = Rs.length := List.length_map _
  by_cases h4 : act = 4
  · subst h4
    have hof := okS_ix hI.ok (k := part)
    (refine Tr.enter (rs := [.tmp 8]) mixed fn26 rfl (by simp +arith [Try.ntmps26]) fun u => ?_; simp only [cd26, Try.f26])
    ((try simp only [WKb, ↓reduceIte, Nat.reduceEqDiff, Nat.reduceAdd]) <;> (repeat' ((first
    | (refine G.tr ?_; first | (refine G.call 27 ?_; refine S.kL ?_ (h := flush_ok (c := ⟨c1, c2, c3, c4, c5, c6, c7, c8, c9, c10, c11, c12, c13⟩) (hd := ⟨rfl⟩) (Gs := Gs) (chs := chs) hv (by omega) hof); rintro _ _ ⟨Gf, sf, mf, hfm, hfv, hfp, hfa, rfl, rfl⟩) | (refine G.call 45 ?_; refine S.kL ?_ (h := rflush_ok (c := ⟨c1, c2, c3, c4, c5, c6, c7, c8, c9, c10, c11, c12, c13⟩) (hd := ⟨rfl⟩) (Rs := Rs) (chs := chs) hr (by omega)); rintro _ _ ⟨Rf, sg, mg, hgm, hgv, hgp, hga, rfl, rfl⟩) | (refine G.call 34 ?_; first | refine S.kL ?_ (h := rsame19_ok (xs := mf) (ys := mg) (by rw [hfm, hgm, hI.ab])) | refine Tr.freezeAt (α := MsgC) (by (repeat (first | exact TakeA.here | apply TakeA.next)); done) ?_) | refine S.a ?_ | refine Tr.brK ?_ ?_ | (refine G.call 27 ?_; refine S.c ?_ (h := flush_ok ?_ ?_ ?_)) | (refine G.call 45 ?_; refine S.c ?_ (h := rflush_ok ?_ ?_)) | (refine G.call 46 ?_; refine S.c ?_ (h := deliv_ok ?_ ?_ ?_)) | (refine G.call 47 ?_; refine S.c ?_ (h := rdeliv_ok ?_ ?_)) | (refine G.call 42 ?_; first | refine S.c ?_ (h := pwrite0_ok) | refine S.c ?_ (h := write_ok ?_ ?_)) | (refine G.call 48 ?_; refine S.c ?_ (h := rwrite_ok ?_ ?_ ?_)) | (refine G.call 49 ?_; first | refine S.c ?_ (h := psend0_ok) | refine S.c ?_ (h := send_ok ?_ ?_)) | (refine G.call 50 ?_; refine S.c ?_ (h := rsend_ok ?_ ?_ ?_)) | (refine G.call 51 ?_; first | refine S.c ?_ (h := preceive0_ok) | refine S.c ?_ (h := receive2_ok ?_)) | (refine G.call 52 ?_; refine S.c ?_ (h := rreceive_ok ?_ ?_ ?_)) | (refine G.call 43 ?_; first | refine S.c ?_ (h := pread0_ok) | refine S.c ?_ (h := read2_ok ?_)) | (refine G.call 53 ?_; refine S.c ?_ (h := rread_ok ?_)) | refine S.n fun _ => ?_ | refine S.i fun hix => ?_ | (refine S.g fun hb => ?_; (try simp only [hb])) | (refine S.s (fun hb => ?_) (fun hb => ?_) <;> ((try simp only [hb]) <;> (try (have hp := hb; simp only [WKs] at hp; (try have hq := Int.not_le.2 hp); (try have hq := Int.not_lt.2 hp))))))
    | rintro _ _ ⟨rfl, rfl⟩
    | rintro _ _ ⟨_, rfl, rfl⟩
    | rintro _ _ ⟨_, _, rfl, rfl⟩
    | rintro _ _ ⟨_, _, _, _, hxs, rfl, rfl⟩
    | rintro _ _ ⟨_, _, _, _, _, hxs, rfl, rfl⟩
    | rintro _ _ ⟨Gd2, hfv2, hfp2, hfa2, rfl, rfl⟩
    | rintro _ _ ⟨Rd2, hrv2, hrp2, hra2, rfl, rfl⟩
    | rintro _ _ ⟨Gf2, _, _, hfm2, hfv2, hfp2, hfa2, rfl, rfl⟩
    | rintro _ _ ⟨Rf2, _, _, hrm2, hrv2, hrp2, hra2, rfl, rfl⟩
    | ((fail_if_success refine G.tr ?_); exact G.prop S.p)
    | fail) <;> (try simp only [WKb, ↓reduceIte, Nat.reduceEqDiff, pl26]))))
    all_goals
      apply Tr.fin hK ⟨Gf, Rf, hI.flush (by omega) hfv hgv hfa hga, hfp, hgp, (by rw [hfa]; rfl), rfl, rfl⟩
      ((try clear hK) <;> (try simp only [WKe, *]) <;> repeat (first | with_reducible exact EntR.done | refine S.e ?_ | (refine S.f ?_ <;> (try simp only [WKe, ↓reduceIte, reduceCtorEq, Int.reduceEq, *])) | with_reducible apply EntR.ex | refine EntR.drop (F := F) ?_ | refine EntR.drop ?_))
  by_cases h5 : act = 5
  · subst h5
    (refine Tr.enter (rs := [.tmp 8]) mixed fn26 rfl (by simp +arith [Try.ntmps26]) fun u => ?_; simp only [cd26, Try.f26])
    ((try simp only [WKb, ↓reduceIte, Nat.reduceEqDiff, Nat.reduceAdd]) <;> (repeat' ((first
    | (refine G.tr ?_; first | (refine G.call 46 ?_; refine S.kL ?_ (h := deliv_ok (c := ⟨c1, c2, c3, c4, c5, c6, c7, c8, c9, c10, c11, c12, c13⟩) (hd := ⟨rfl⟩) (Gs := Gs) (chs := chs) (win := 0) (s := s0) (d := m) hv (by omega) hB); rintro _ _ ⟨Gf, hfv, hfp, hfa, rfl, rfl⟩) | (refine G.call 47 ?_; refine S.kL ?_ (h := rdeliv_ok (c := ⟨c1, c2, c3, c4, c5, c6, c7, c8, c9, c10, c11, c12, c13⟩) (hd := ⟨rfl⟩) (Rs := Rs) (chs := chs) (win := 0) (s := s0) (d := m) hr (by omega)); rintro _ _ ⟨Rf, hgv, hgp, hga, rfl, rfl⟩) | refine S.a ?_ | refine Tr.brK ?_ ?_ | (refine G.call 27 ?_; refine S.c ?_ (h := flush_ok ?_ ?_ ?_)) | (refine G.call 45 ?_; refine S.c ?_ (h := rflush_ok ?_ ?_)) | (refine G.call 46 ?_; refine S.c ?_ (h := deliv_ok ?_ ?_ ?_)) | (refine G.call 47 ?_; refine S.c ?_ (h := rdeliv_ok ?_ ?_)) | (refine G.call 42 ?_; first | refine S.c ?_ (h := pwrite0_ok) | refine S.c ?_ (h := write_ok ?_ ?_)) | (refine G.call 48 ?_; refine S.c ?_ (h := rwrite_ok ?_ ?_ ?_)) | (refine G.call 49 ?_; first | refine S.c ?_ (h := psend0_ok) | refine S.c ?_ (h := send_ok ?_ ?_)) | (refine G.call 50 ?_; refine S.c ?_ (h := rsend_ok ?_ ?_ ?_)) | (refine G.call 51 ?_; first | refine S.c ?_ (h := preceive0_ok) | refine S.c ?_ (h := receive2_ok ?_)) | (refine G.call 52 ?_; refine S.c ?_ (h := rreceive_ok ?_ ?_ ?_)) | (refine G.call 43 ?_; first | refine S.c ?_ (h := pread0_ok) | refine S.c ?_ (h := read2_ok ?_)) | (refine G.call 53 ?_; refine S.c ?_ (h := rread_ok ?_)) | refine S.n fun _ => ?_ | refine S.i fun hix => ?_ | (refine S.g fun hb => ?_; (try simp only [hb])) | (refine S.s (fun hb => ?_) (fun hb => ?_) <;> ((try simp only [hb]) <;> (try (have hp := hb; simp only [WKs] at hp; (try have hq := Int.not_le.2 hp); (try have hq := Int.not_lt.2 hp))))))
    | rintro _ _ ⟨rfl, rfl⟩
    | rintro _ _ ⟨_, rfl, rfl⟩
    | rintro _ _ ⟨_, _, rfl, rfl⟩
    | rintro _ _ ⟨_, _, _, _, hxs, rfl, rfl⟩
    | rintro _ _ ⟨_, _, _, _, _, hxs, rfl, rfl⟩
    | rintro _ _ ⟨Gd2, hfv2, hfp2, hfa2, rfl, rfl⟩
    | rintro _ _ ⟨Rd2, hrv2, hrp2, hra2, rfl, rfl⟩
    | rintro _ _ ⟨Gf2, _, _, hfm2, hfv2, hfp2, hfa2, rfl, rfl⟩
    | rintro _ _ ⟨Rf2, _, _, hrm2, hrv2, hrp2, hra2, rfl, rfl⟩
    | ((fail_if_success refine G.tr ?_); exact G.prop S.p)
    | fail) <;> (try simp only [WKb, WKh, ↓reduceIte, Nat.reduceEqDiff, Nat.reduceAdd, Int.reduceEq, pl26, hI.ab]))))
    all_goals
      apply Tr.fin hK ⟨Gf, Rf, (hI.deliv (Nat.le_succ n) hB hfv hgv hfa hga).up (by omega), hfp, hgp, (by rw [hfa]; rfl), (by first | (simp [*]; done) | (simp only [WKe, ↓reduceIte, reduceCtorEq, Int.reduceEq, eq_self, *, hI.ab]; done) | (simp only [WKe, ↓reduceIte, reduceCtorEq, Int.reduceEq, *, hI.ab]; rfl)), rfl⟩
      ((try clear hK) <;> (try simp only [WKe, *]) <;> repeat (first | with_reducible exact EntR.done | refine S.e ?_ | (refine S.f ?_ <;> (try simp only [WKe, ↓reduceIte, reduceCtorEq, Int.reduceEq, *])) | with_reducible apply EntR.ex | refine EntR.drop (F := F) ?_ | refine EntR.drop ?_))
  by_cases hin : 0 ≤ part ∧ part < Gs.length
  · obtain ⟨h0, h1⟩ := hin
    have h2 : part < Rs.length := by omega
    have hi := invL_ix hv h0 h1
    have hgab : (ix Rs part).ps = (ix Gs part).gs.map OneG.abs := by rw [← rps_ix h0 h2, hI.ab, ab_ix h0 h1]
    obtain ⟨hx, hap⟩ := invR_ix hr h0 h2
    have hpt : ix (Gs.map PG.pt) part = ⟨some (ix Gs part).p⟩ := ix_map (f := PG.pt) h0 h1
    have hpr : ix (Rs.map RG.pt) part = ⟨some (ix Rs part).r⟩ := ix_map (f := RG.pt) h0 h2
    have hms := inv_ms hi k
    have hmm := inv_mm hi k
    have hams := apOK_ix hap k
    have h8 := hap.1
    have hok := okS_ix hI.ok (k := part)
    rw [ab_ix h0 h1] at hok
    rw [hgab] at hx hap hams h8
    have hkg : part.toNat < Gs.length := by omega
    have hkr : part.toNat < Rs.length := by omega
    have hq : ((part.toNat : Nat) : Int) = part := Int.toNat_of_nonneg h0
    have hst : ∀ {gs : List OneG} {b c d : SV} {ps : List AP} {xs : List (SL Msg)}, ps = gs.map OneG.abs → invP gs (n + 1) → xs.map mo = ps.map AP.ms → okA ps → Inv19 (Gs.set part.toNat { ix Gs part with gs := gs }) (Rs.set part.toNat ⟨(ix Rs part).r, (ix Rs part).a, b, c, d, ps, xs⟩) (n + 4096) := fun {gs b c d ps xs} hp hiv hx ho => by
      have := hI.step (k := part.toNat) (gs := gs) (b := b) (c := c) (d := d) (ps := ps) (xs := xs) (Nat.le_succ n) hp hiv hx ho
      rw [hq] at this
      exact this.up (by omega)
    have hst' : inSt (Gs.map PG.ab) part := ⟨h0, by rw [List.length_map]; exact h1⟩
    have hsp : ∀ {gs : List OneG} {ab : List AP}, gs.map OneG.abs = ab → (Gs.set part.toNat { ix Gs part with gs := gs }).map PG.ab = (Gs.map PG.ab).set part.toNat ab := fun {gs ab} h => by rw [List.map_set, ← h]; rfl
    have hgp : ∀ gs : List OneG, (Gs.set part.toNat { ix Gs part with gs := gs }).map PG.pt = Gs.map PG.pt := fun gs => map_same (f := PG.pt) h0 h1 _ rfl
    have hrp : ∀ (b c d : SV) (ps : List AP) (xs : List (SL Msg)), (Rs.set part.toNat ⟨(ix Rs part).r, (ix Rs part).a, b, c, d, ps, xs⟩).map RG.pt = Rs.map RG.pt := fun b c d ps xs => map_same (f := RG.pt) h0 h2 _ rfl
    refine Tr.famAt (A := portsA) part (by (repeat (first | exact TakeA.here | apply TakeA.next)); done) h0 h1 ?_
    refine portsA_open ?_
    refine Tr.famAt (A := refA) part (by (repeat (first | exact TakeA.here | apply TakeA.next)); done) h0 h2 ?_
    refine refA_open ?_
    rw [hgab]
    (refine Tr.enter (rs := [.tmp 8]) mixed fn26 rfl (by simp +arith [Try.ntmps26]) fun u => ?_; simp only [cd26, Try.f26])
    by_cases h0' : act = 0
    · subst h0'
      ((try simp only [WKb, ↓reduceIte, Nat.reduceEqDiff, Nat.reduceAdd]) <;> (repeat' ((first
    | (refine G.tr ?_; first | (refine G.call 42 ?_; refine S.kL ?_ (h := write_ok (gs := (ix Gs part).gs) (xs := m) (by omega) (by omega)); rintro _ _ ⟨w3, w4, rfl, rfl⟩) | (refine G.call 48 ?_; refine S.kL ?_ (h := rwrite_ok (m := m) hx (by omega) (by omega)); rintro _ _ ⟨b2, c2', d2, xs2, hx2, rfl, rfl⟩) | refine S.a ?_ | refine Tr.brK ?_ ?_ | (refine G.call 27 ?_; refine S.c ?_ (h := flush_ok ?_ ?_ ?_)) | (refine G.call 45 ?_; refine S.c ?_ (h := rflush_ok ?_ ?_)) | (refine G.call 46 ?_; refine S.c ?_ (h := deliv_ok ?_ ?_ ?_)) | (refine G.call 47 ?_; refine S.c ?_ (h := rdeliv_ok ?_ ?_)) | (refine G.call 42 ?_; first | refine S.c ?_ (h := pwrite0_ok) | refine S.c ?_ (h := write_ok ?_ ?_)) | (refine G.call 48 ?_; refine S.c ?_ (h := rwrite_ok ?_ ?_ ?_)) | (refine G.call 49 ?_; first | refine S.c ?_ (h := psend0_ok) | refine S.c ?_ (h := send_ok ?_ ?_)) | (refine G.call 50 ?_; refine S.c ?_ (h := rsend_ok ?_ ?_ ?_)) | (refine G.call 51 ?_; first | refine S.c ?_ (h := preceive0_ok) | refine S.c ?_ (h := receive2_ok ?_)) | (refine G.call 52 ?_; refine S.c ?_ (h := rreceive_ok ?_ ?_ ?_)) | (refine G.call 43 ?_; first | refine S.c ?_ (h := pread0_ok) | refine S.c ?_ (h := read2_ok ?_)) | (refine G.call 53 ?_; refine S.c ?_ (h := rread_ok ?_)) | refine S.n fun _ => ?_ | refine S.i fun hix => ?_ | (refine S.g fun hb => ?_; (try simp only [hb])) | (refine S.s (fun hb => ?_) (fun hb => ?_) <;> ((try simp only [hb]) <;> (try (have hp := hb; simp only [WKs] at hp; (try have hq := Int.not_le.2 hp); (try have hq := Int.not_lt.2 hp))))))
    | rintro _ _ ⟨rfl, rfl⟩
    | rintro _ _ ⟨_, rfl, rfl⟩
    | rintro _ _ ⟨_, _, rfl, rfl⟩
    | rintro _ _ ⟨_, _, _, _, hxs, rfl, rfl⟩
    | rintro _ _ ⟨_, _, _, _, _, hxs, rfl, rfl⟩
    | rintro _ _ ⟨Gd2, hfv2, hfp2, hfa2, rfl, rfl⟩
    | rintro _ _ ⟨Rd2, hrv2, hrp2, hra2, rfl, rfl⟩
    | rintro _ _ ⟨Gf2, _, _, hfm2, hfv2, hfp2, hfa2, rfl, rfl⟩
    | rintro _ _ ⟨Rf2, _, _, hrm2, hrv2, hrp2, hra2, rfl, rfl⟩
    | ((fail_if_success refine G.tr ?_); exact G.prop S.p)
    | fail) <;> (try simp only [WKb, WKh, ↓reduceIte, Nat.reduceEqDiff, Int.reduceEq, pl26, hpt, hpr, abs_intoC]))))
      all_goals
        have hQ := hst (b := b2) (c := c2') (d := d2) (abs_into (gs := (ix Gs part).gs) (k := k) (q := false) (s := w3) (m := ⟨w4, m⟩)).symm (inv_into hi hB) hx2 (okA_into hok hB)
        refine Tr.closeP (k := part.toNat) (g := { ix Gs part with gs := intoG (ix Gs part).gs k false w3 ⟨w4, m⟩ }) hkg (by (repeat (first | exact TakeA.here | apply TakeA.next)); done) (by (repeat (first | exact TakeA.here | apply TakeA.next)); done) (by (repeat (first | exact TakeA.here | apply TakeA.next)); done) (by (repeat (first | exact TakeA.here | apply TakeA.next)); done) ?_
        refine Tr.closeR (k := part.toNat) (g := ⟨(ix Rs part).r, (ix Rs part).a, b2, c2', d2, intoA ((ix Gs part).gs.map OneG.abs) k false m, xs2⟩) hkr (by (repeat (first | exact TakeA.here | apply TakeA.next)); done) (by (repeat (first | exact TakeA.here | apply TakeA.next)); done) (by (repeat (first | exact TakeA.here | apply TakeA.next)); done) (by (repeat (first | exact TakeA.here | apply TakeA.next)); done) (by (repeat (first | exact TakeA.here | apply TakeA.next)); done) (by (repeat (first | exact TakeA.here | apply TakeA.next)); done) (by (repeat (first | exact TakeA.here | apply TakeA.next)); done) ?_
        have hDD : (Gs.set part.toNat { ix Gs part with gs := intoG (ix Gs part).gs k false w3 ⟨w4, m⟩ }).map PG.ab = doneSt chs 0 part k m (Gs.map PG.ab) := by rw [hsp abs_into]; simp [doneSt, hst', ab_ix h0 h1]
        apply Tr.fin hK ⟨_, _, hQ, hgp _, hrp _ _ _ _ _, hDD, (by first | (simp [*]; done) | (simp only [WKe, ↓reduceIte, reduceCtorEq, Int.reduceEq, eq_self, *, abs_intoC]; done) | (simp only [WKe, ↓reduceIte, reduceCtorEq, Int.reduceEq, *, abs_intoC]; rfl)), rfl⟩
        ((try clear hK) <;> (try simp only [WKe, *]) <;> repeat (first | with_reducible exact EntR.done | refine S.e ?_ | (refine S.f ?_ <;> (try simp only [WKe, ↓reduceIte, reduceCtorEq, Int.reduceEq, *])) | with_reducible apply EntR.ex | refine EntR.drop (F := F) ?_ | refine EntR.drop ?_))
    by_cases h1' : act = 1
    · subst h1'
      ((try simp only [WKb, ↓reduceIte, Nat.reduceEqDiff, Nat.reduceAdd]) <;> (repeat' ((first
    | (refine G.tr ?_; first | (refine G.call 49 ?_; refine S.kL ?_ (h := send_ok (gs := (ix Gs part).gs) (xs := m) (by omega) (by omega)); rintro _ _ ⟨w3, w4, rfl, rfl⟩) | (refine G.call 50 ?_; refine S.kL ?_ (h := rsend_ok (m := m) hx (by omega) (by omega)); rintro _ _ ⟨b2, c2', d2, xs2, hx2, rfl, rfl⟩) | refine S.a ?_ | refine Tr.brK ?_ ?_ | (refine G.call 27 ?_; refine S.c ?_ (h := flush_ok ?_ ?_ ?_)) | (refine G.call 45 ?_; refine S.c ?_ (h := rflush_ok ?_ ?_)) | (refine G.call 46 ?_; refine S.c ?_ (h := deliv_ok ?_ ?_ ?_)) | (refine G.call 47 ?_; refine S.c ?_ (h := rdeliv_ok ?_ ?_)) | (refine G.call 42 ?_; first | refine S.c ?_ (h := pwrite0_ok) | refine S.c ?_ (h := write_ok ?_ ?_)) | (refine G.call 48 ?_; refine S.c ?_ (h := rwrite_ok ?_ ?_ ?_)) | (refine G.call 49 ?_; first | refine S.c ?_ (h := psend0_ok) | refine S.c ?_ (h := send_ok ?_ ?_)) | (refine G.call 50 ?_; refine S.c ?_ (h := rsend_ok ?_ ?_ ?_)) | (refine G.call 51 ?_; first | refine S.c ?_ (h := preceive0_ok) | refine S.c ?_ (h := receive2_ok ?_)) | (refine G.call 52 ?_; refine S.c ?_ (h := rreceive_ok ?_ ?_ ?_)) | (refine G.call 43 ?_; first | refine S.c ?_ (h := pread0_ok) | refine S.c ?_ (h := read2_ok ?_)) | (refine G.call 53 ?_; refine S.c ?_ (h := rread_ok ?_)) | refine S.n fun _ => ?_ | refine S.i fun hix => ?_ | (refine S.g fun hb => ?_; (try simp only [hb])) | (refine S.s (fun hb => ?_) (fun hb => ?_) <;> ((try simp only [hb]) <;> (try (have hp := hb; simp only [WKs] at hp; (try have hq := Int.not_le.2 hp); (try have hq := Int.not_lt.2 hp))))))
    | rintro _ _ ⟨rfl, rfl⟩
    | rintro _ _ ⟨_, rfl, rfl⟩
    | rintro _ _ ⟨_, _, rfl, rfl⟩
    | rintro _ _ ⟨_, _, _, _, hxs, rfl, rfl⟩
    | rintro _ _ ⟨_, _, _, _, _, hxs, rfl, rfl⟩
    | rintro _ _ ⟨Gd2, hfv2, hfp2, hfa2, rfl, rfl⟩
    | rintro _ _ ⟨Rd2, hrv2, hrp2, hra2, rfl, rfl⟩
    | rintro _ _ ⟨Gf2, _, _, hfm2, hfv2, hfp2, hfa2, rfl, rfl⟩
    | rintro _ _ ⟨Rf2, _, _, hrm2, hrv2, hrp2, hra2, rfl, rfl⟩
    | ((fail_if_success refine G.tr ?_); exact G.prop S.p)
    | fail) <;> (try simp only [WKb, WKh, ↓reduceIte, Nat.reduceEqDiff, Int.reduceEq, pl26, hpt, hpr, abs_intoC]))))
      all_goals
        have hQ := hst (b := b2) (c := c2') (d := d2) (abs_into (gs := (ix Gs part).gs) (k := k) (q := true) (s := w3) (m := ⟨w4, m⟩)).symm (inv_into hi hB) hx2 (okA_into hok hB)
        refine Tr.closeP (k := part.toNat) (g := { ix Gs part with gs := intoG (ix Gs part).gs k true w3 ⟨w4, m⟩ }) hkg (by (repeat (first | exact TakeA.here | apply TakeA.next)); done) (by (repeat (first | exact TakeA.here | apply TakeA.next)); done) (by (repeat (first | exact TakeA.here | apply TakeA.next)); done) (by (repeat (first | exact TakeA.here | apply TakeA.next)); done) ?_
        refine Tr.closeR (k := part.toNat) (g := ⟨(ix Rs part).r, (ix Rs part).a, b2, c2', d2, intoA ((ix Gs part).gs.map OneG.abs) k true m, xs2⟩) hkr (by (repeat (first | exact TakeA.here | apply TakeA.next)); done) (by (repeat (first | exact TakeA.here | apply TakeA.next)); done) (by (repeat (first | exact TakeA.here | apply TakeA.next)); done) (by (repeat (first | exact TakeA.here | apply TakeA.next)); done) (by (repeat (first | exact TakeA.here | apply TakeA.next)); done) (by (repeat (first | exact TakeA.here | apply TakeA.next)); done) (by (repeat (first | exact TakeA.here | apply TakeA.next)); done) ?_
        have hDD : (Gs.set part.toNat { ix Gs part with gs := intoG (ix Gs part).gs k true w3 ⟨w4, m⟩ }).map PG.ab = doneSt chs 1 part k m (Gs.map PG.ab) := by rw [hsp abs_into]; simp [doneSt, hst', ab_ix h0 h1]
        apply Tr.fin hK ⟨_, _, hQ, hgp _, hrp _ _ _ _ _, hDD, (by first | (simp [*]; done) | (simp only [WKe, ↓reduceIte, reduceCtorEq, Int.reduceEq, eq_self, *, abs_intoC]; done) | (simp only [WKe, ↓reduceIte, reduceCtorEq, Int.reduceEq, *, abs_intoC]; rfl)), rfl⟩
        ((try clear hK) <;> (try simp only [WKe, *]) <;> repeat (first | with_reducible exact EntR.done | refine S.e ?_ | (refine S.f ?_ <;> (try simp only [WKe, ↓reduceIte, reduceCtorEq, Int.reduceEq, *])) | with_reducible apply EntR.ex | refine EntR.drop (F := F) ?_ | refine EntR.drop ?_))
    by_cases h2' : act = 2
    · subst h2'
      ((try simp only [WKb, ↓reduceIte, Nat.reduceEqDiff, Nat.reduceAdd]) <;> (repeat' ((first
    | (refine G.tr ?_; first | (refine G.call 51 ?_; refine S.kL ?_ (h := receive2_ok (gs := (ix Gs part).gs) (by omega)); rintro _ _ ⟨w3, w4, rfl, rfl⟩) | (refine G.call 52 ?_; refine S.kL ?_ (h := rreceive_ok hx (by omega) (by omega)); rintro _ _ ⟨b2, c2', d2, xs2, t2, hx2, rfl, rfl⟩) | refine S.a ?_ | refine Tr.brK ?_ ?_ | (refine G.call 27 ?_; refine S.c ?_ (h := flush_ok ?_ ?_ ?_)) | (refine G.call 45 ?_; refine S.c ?_ (h := rflush_ok ?_ ?_)) | (refine G.call 46 ?_; refine S.c ?_ (h := deliv_ok ?_ ?_ ?_)) | (refine G.call 47 ?_; refine S.c ?_ (h := rdeliv_ok ?_ ?_)) | (refine G.call 42 ?_; first | refine S.c ?_ (h := pwrite0_ok) | refine S.c ?_ (h := write_ok ?_ ?_)) | (refine G.call 48 ?_; refine S.c ?_ (h := rwrite_ok ?_ ?_ ?_)) | (refine G.call 49 ?_; first | refine S.c ?_ (h := psend0_ok) | refine S.c ?_ (h := send_ok ?_ ?_)) | (refine G.call 50 ?_; refine S.c ?_ (h := rsend_ok ?_ ?_ ?_)) | (refine G.call 51 ?_; first | refine S.c ?_ (h := preceive0_ok) | refine S.c ?_ (h := receive2_ok ?_)) | (refine G.call 52 ?_; refine S.c ?_ (h := rreceive_ok ?_ ?_ ?_)) | (refine G.call 43 ?_; first | refine S.c ?_ (h := pread0_ok) | refine S.c ?_ (h := read2_ok ?_)) | (refine G.call 53 ?_; refine S.c ?_ (h := rread_ok ?_)) | refine S.n fun _ => ?_ | refine S.i fun hix => ?_ | (refine S.g fun hb => ?_; (try simp only [hb])) | (refine S.s (fun hb => ?_) (fun hb => ?_) <;> ((try simp only [hb]) <;> (try (have hp := hb; simp only [WKs] at hp; (try have hq := Int.not_le.2 hp); (try have hq := Int.not_lt.2 hp))))))
    | rintro _ _ ⟨rfl, rfl⟩
    | rintro _ _ ⟨_, rfl, rfl⟩
    | rintro _ _ ⟨_, _, rfl, rfl⟩
    | rintro _ _ ⟨_, _, _, _, hxs, rfl, rfl⟩
    | rintro _ _ ⟨_, _, _, _, _, hxs, rfl, rfl⟩
    | rintro _ _ ⟨Gd2, hfv2, hfp2, hfa2, rfl, rfl⟩
    | rintro _ _ ⟨Rd2, hrv2, hrp2, hra2, rfl, rfl⟩
    | rintro _ _ ⟨Gf2, _, _, hfm2, hfv2, hfp2, hfa2, rfl, rfl⟩
    | rintro _ _ ⟨Rf2, _, _, hrm2, hrv2, hrp2, hra2, rfl, rfl⟩
    | ((fail_if_success refine G.tr ?_); exact G.prop S.p)
    | fail) <;> (try simp only [WKb, WKh, ↓reduceIte, Nat.reduceEqDiff, Int.reduceEq, pl26, hpt, hpr, abs_outC, abs_outD]))))
      all_goals
        have hQ := hst (b := b2) (c := c2') (d := d2) (abs_out (gs := (ix Gs part).gs) (k := k) (q := true) (s := w3)).symm (inv_mono (inv_out hi)) hx2 (okA_out hok)
        refine Tr.closeP (k := part.toNat) (g := { ix Gs part with gs := outG (ix Gs part).gs k true w3 }) hkg (by (repeat (first | exact TakeA.here | apply TakeA.next)); done) (by (repeat (first | exact TakeA.here | apply TakeA.next)); done) (by (repeat (first | exact TakeA.here | apply TakeA.next)); done) (by (repeat (first | exact TakeA.here | apply TakeA.next)); done) ?_
        refine Tr.closeR (k := part.toNat) (g := ⟨(ix Rs part).r, (ix Rs part).a, b2, c2', d2, outA ((ix Gs part).gs.map OneG.abs) k true, xs2⟩) hkr (by (repeat (first | exact TakeA.here | apply TakeA.next)); done) (by (repeat (first | exact TakeA.here | apply TakeA.next)); done) (by (repeat (first | exact TakeA.here | apply TakeA.next)); done) (by (repeat (first | exact TakeA.here | apply TakeA.next)); done) (by (repeat (first | exact TakeA.here | apply TakeA.next)); done) (by (repeat (first | exact TakeA.here | apply TakeA.next)); done) (by (repeat (first | exact TakeA.here | apply TakeA.next)); done) ?_
        have hDD : (Gs.set part.toNat { ix Gs part with gs := outG (ix Gs part).gs k true w3 }).map PG.ab = doneSt chs 2 part k m (Gs.map PG.ab) := by rw [hsp abs_out]; simp [doneSt, hst', ab_ix h0 h1]
        apply Tr.fin hK ⟨_, _, hQ, hgp _, hrp _ _ _ _ _, hDD, (by first | (simp [*]; done) | (simp only [WKe, ↓reduceIte, reduceCtorEq, Int.reduceEq, eq_self, *, abs_outC, abs_outD]; done) | (simp only [WKe, ↓reduceIte, reduceCtorEq, Int.reduceEq, *, abs_outC, abs_outD]; rfl)), rfl⟩
        ((try clear hK) <;> (try simp only [WKe, *]) <;> repeat (first | with_reducible exact EntR.done | refine S.e ?_ | (refine S.f ?_ <;> (try simp only [WKe, ↓reduceIte, reduceCtorEq, Int.reduceEq, *])) | with_reducible apply EntR.ex | refine EntR.drop (F := F) ?_ | refine EntR.drop ?_))
    · ((try simp only [WKb, ↓reduceIte, Nat.reduceEqDiff, Nat.reduceAdd]) <;> (repeat' ((first
    | (refine G.tr ?_; first | (refine G.call 43 ?_; refine S.kL ?_ (h := read2_ok (gs := (ix Gs part).gs) (by omega)); rintro _ _ ⟨w3, w4, rfl, rfl⟩) | (refine G.call 53 ?_; refine S.kL ?_ (h := rread_ok hx); rintro _ _ ⟨t2, rfl, rfl⟩) | refine S.a ?_ | refine Tr.brK ?_ ?_ | (refine G.call 27 ?_; refine S.c ?_ (h := flush_ok ?_ ?_ ?_)) | (refine G.call 45 ?_; refine S.c ?_ (h := rflush_ok ?_ ?_)) | (refine G.call 46 ?_; refine S.c ?_ (h := deliv_ok ?_ ?_ ?_)) | (refine G.call 47 ?_; refine S.c ?_ (h := rdeliv_ok ?_ ?_)) | (refine G.call 42 ?_; first | refine S.c ?_ (h := pwrite0_ok) | refine S.c ?_ (h := write_ok ?_ ?_)) | (refine G.call 48 ?_; refine S.c ?_ (h := rwrite_ok ?_ ?_ ?_)) | (refine G.call 49 ?_; first | refine S.c ?_ (h := psend0_ok) | refine S.c ?_ (h := send_ok ?_ ?_)) | (refine G.call 50 ?_; refine S.c ?_ (h := rsend_ok ?_ ?_ ?_)) | (refine G.call 51 ?_; first | refine S.c ?_ (h := preceive0_ok) | refine S.c ?_ (h := receive2_ok ?_)) | (refine G.call 52 ?_; refine S.c ?_ (h := rreceive_ok ?_ ?_ ?_)) | (refine G.call 43 ?_; first | refine S.c ?_ (h := pread0_ok) | refine S.c ?_ (h := read2_ok ?_)) | (refine G.call 53 ?_; refine S.c ?_ (h := rread_ok ?_)) | refine S.n fun _ => ?_ | refine S.i fun hix => ?_ | (refine S.g fun hb => ?_; (try simp only [hb])) | (refine S.s (fun hb => ?_) (fun hb => ?_) <;> ((try simp only [hb]) <;> (try (have hp := hb; simp only [WKs] at hp; (try have hq := Int.not_le.2 hp); (try have hq := Int.not_lt.2 hp))))))
    | rintro _ _ ⟨rfl, rfl⟩
    | rintro _ _ ⟨_, rfl, rfl⟩
    | rintro _ _ ⟨_, _, rfl, rfl⟩
    | rintro _ _ ⟨_, _, _, _, hxs, rfl, rfl⟩
    | rintro _ _ ⟨_, _, _, _, _, hxs, rfl, rfl⟩
    | rintro _ _ ⟨Gd2, hfv2, hfp2, hfa2, rfl, rfl⟩
    | rintro _ _ ⟨Rd2, hrv2, hrp2, hra2, rfl, rfl⟩
    | rintro _ _ ⟨Gf2, _, _, hfm2, hfv2, hfp2, hfa2, rfl, rfl⟩
    | rintro _ _ ⟨Rf2, _, _, hrm2, hrv2, hrp2, hra2, rfl, rfl⟩
    | ((fail_if_success refine G.tr ?_); exact G.prop S.p)
    | fail) <;> (try simp only [WKb, WKh, ↓reduceIte, Nat.reduceEqDiff, pl26, hpt, hpr, abs_outC, abs_outD, outG_f]))))
      all_goals
        have hQ := hst (b := (ix Rs part).b) (c := (ix Rs part).c) (d := (ix Rs part).d) (gs := (ix Gs part).gs) rfl (inv_mono hi) hx hok
        refine Tr.closeP (k := part.toNat) (g := { ix Gs part with gs := (ix Gs part).gs }) hkg (by (repeat (first | exact TakeA.here | apply TakeA.next)); done) (by (repeat (first | exact TakeA.here | apply TakeA.next)); done) (by (repeat (first | exact TakeA.here | apply TakeA.next)); done) (by (repeat (first | exact TakeA.here | apply TakeA.next)); done) ?_
        refine Tr.closeR (k := part.toNat) (g := ⟨(ix Rs part).r, (ix Rs part).a, (ix Rs part).b, (ix Rs part).c, (ix Rs part).d, (ix Gs part).gs.map OneG.abs, (ix Rs part).xs⟩) hkr (by (repeat (first | exact TakeA.here | apply TakeA.next)); done) (by (repeat (first | exact TakeA.here | apply TakeA.next)); done) (by (repeat (first | exact TakeA.here | apply TakeA.next)); done) (by (repeat (first | exact TakeA.here | apply TakeA.next)); done) (by (repeat (first | exact TakeA.here | apply TakeA.next)); done) (by (repeat (first | exact TakeA.here | apply TakeA.next)); done) (by (repeat (first | exact TakeA.here | apply TakeA.next)); done) ?_
        have hDD : (Gs.set part.toNat { ix Gs part with gs := (ix Gs part).gs }).map PG.ab = doneSt chs act part k m (Gs.map PG.ab) := by rw [set_ix h0 h1]; simp [doneSt, h4, h5, h0', h1', h2']
        apply Tr.fin hK ⟨_, _, hQ, hgp _, hrp _ _ _ _ _, hDD, (by first | (simp [*]; done) | (simp only [WKe, ↓reduceIte, reduceCtorEq, Int.reduceEq, eq_self, *, abs_outC, abs_outD]; done) | (simp only [WKe, ↓reduceIte, reduceCtorEq, Int.reduceEq, *, abs_outC, abs_outD]; rfl)), rfl⟩
        ((try clear hK) <;> (try simp only [WKe, *]) <;> repeat (first | with_reducible exact EntR.done | refine S.e ?_ | (refine S.f ?_ <;> (try simp only [WKe, ↓reduceIte, reduceCtorEq, Int.reduceEq, *])) | with_reducible apply EntR.ex | refine EntR.drop (F := F) ?_ | refine EntR.drop ?_))
  · (refine Tr.enter (rs := [.tmp 8]) mixed fn26 rfl (by simp +arith [Try.ntmps26]) fun u => ?_; simp only [cd26, Try.f26])
    ((try simp only [WKb, ↓reduceIte, Nat.reduceEqDiff, Nat.reduceAdd]) <;> (repeat' ((first
    | (refine G.tr ?_; first | refine S.a ?_ | refine Tr.brK ?_ ?_ | (refine G.call 27 ?_; refine S.c ?_ (h := flush_ok ?_ ?_ ?_)) | (refine G.call 45 ?_; refine S.c ?_ (h := rflush_ok ?_ ?_)) | (refine G.call 46 ?_; refine S.c ?_ (h := deliv_ok ?_ ?_ ?_)) | (refine G.call 47 ?_; refine S.c ?_ (h := rdeliv_ok ?_ ?_)) | (refine G.call 42 ?_; first | refine S.c ?_ (h := pwrite0_ok) | refine S.c ?_ (h := write_ok ?_ ?_)) | (refine G.call 48 ?_; refine S.c ?_ (h := rwrite_ok ?_ ?_ ?_)) | (refine G.call 49 ?_; first | refine S.c ?_ (h := psend0_ok) | refine S.c ?_ (h := send_ok ?_ ?_)) | (refine G.call 50 ?_; refine S.c ?_ (h := rsend_ok ?_ ?_ ?_)) | (refine G.call 51 ?_; first | refine S.c ?_ (h := preceive0_ok) | refine S.c ?_ (h := receive2_ok ?_)) | (refine G.call 52 ?_; refine S.c ?_ (h := rreceive_ok ?_ ?_ ?_)) | (refine G.call 43 ?_; first | refine S.c ?_ (h := pread0_ok) | refine S.c ?_ (h := read2_ok ?_)) | (refine G.call 53 ?_; refine S.c ?_ (h := rread_ok ?_)) | refine S.n fun _ => ?_ | refine S.i fun hix => ?_ | (refine S.g fun hb => ?_; (try simp only [hb])) | (refine S.s (fun hb => ?_) (fun hb => ?_) <;> ((try simp only [hb]) <;> (try (have hp := hb; simp only [WKs] at hp; (try have hq := Int.not_le.2 hp); (try have hq := Int.not_lt.2 hp))))))
    | rintro _ _ ⟨rfl, rfl⟩
    | rintro _ _ ⟨_, rfl, rfl⟩
    | rintro _ _ ⟨_, _, rfl, rfl⟩
    | rintro _ _ ⟨_, _, _, _, hxs, rfl, rfl⟩
    | rintro _ _ ⟨_, _, _, _, _, hxs, rfl, rfl⟩
    | rintro _ _ ⟨Gd2, hfv2, hfp2, hfa2, rfl, rfl⟩
    | rintro _ _ ⟨Rd2, hrv2, hrp2, hra2, rfl, rfl⟩
    | rintro _ _ ⟨Gf2, _, _, hfm2, hfv2, hfp2, hfa2, rfl, rfl⟩
    | rintro _ _ ⟨Rf2, _, _, hrm2, hrv2, hrp2, hra2, rfl, rfl⟩
    | ((fail_if_success refine G.tr ?_); exact G.prop S.p)
    | fail) <;> (try simp only [WKb, ↓reduceIte, Nat.reduceEqDiff]))))
    all_goals
      apply Tr.fin hK ⟨Gs, Rs, hI.up (by omega), rfl, rfl, (by simp [doneSt, h4, h5, inSt, hin]), rfl, rfl⟩
      ((try clear hK) <;> (try simp only [WKe, *]) <;> repeat (first | with_reducible exact EntR.done | refine S.e ?_ | (refine S.f ?_ <;> (try simp only [WKe, ↓reduceIte, reduceCtorEq, Int.reduceEq, *])) | with_reducible apply EntR.ex | refine EntR.drop (F := F) ?_ | refine EntR.drop ?_))
end Go.Proofs.Ytlhmbcmkpafjoaa
