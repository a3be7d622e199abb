import Derived.Test.YtlhmbcmkpafjoaaKI
import Derived.Test.YtlhmbcmkpafjoaaKJ
namespace Go.Proofs.Ytlhmbcmkpafjoaa
open Go Go.Wk
set_option maxHeartbeats 6400000
set_option maxRecDepth 100000
instance : ElT 62 Pt := ⟨⟩
theorem new_inv {gs : List OneG} {cs : List PortC} (h : gs.map OneG.core = (cs.take 8).map portM) : invP gs 0 ∧ gs.map OneG.abs = newA cs := core_inv h (by simp; omega)
theorem newA_ap {cs : List PortC} : apOK (newA cs) 0 := ⟨by rw [newA_len]; omega, fun p hp => by obtain ⟨c, _, rfl⟩ := List.mem_map.1 hp; exact Nat.le_refl _⟩
attribute [local irreducible] BrK GenK EGenK EUnitK CallK FnK CallV GuardO GuardC CondW opX opK opKc chkR eqR seqK blkK endL WL WD W LoopW BinK Tr drewK resL PickK NotK NilK ExtrK getK Instr.storeAt Instr.loadAt Instr.fieldAt Instr.indexAt Instr.lookup Instr.mapUpdate Instr.box Instr.alloc Instr.build Instr.buildSlice Instr.makeSlice Instr.makeMap Instr.sliceAt Instr.field Instr.index Instr.makeInterface Instr.typeAssert Builtin.len_ Builtin.append_ Builtin.cap_ Builtin.min_ Builtin.max_ Builtin.copy_ Builtin.clear_ convert binOp mp blk rob sl sep ex fact old
theorem made_ok {u0 : Value} {c : ConfC} [hd : DeA u0 c] {ps : List PartD} (hps : ps.length ≤ 100) : Trip Try.prog 25 [u0].toArray [sl true c.parts.v ps, fzl ps]
    fun v l' => ∃ (s t : SV) (Gs : List PG) (Rs : List RG), invL Gs 0 ∧ invR Rs 0 ∧ Gs.map PG.ab = ps.map (fun p => newA p.ports.d) ∧ Rs.map RG.ps = ps.map (fun p => newA p.ports.d) ∧ v = .tuple #[s.v, t.v] ∧ l' = [sl false s.v (Gs.map PG.pt), fam portsA Gs, sl false t.v (Rs.map RG.pt), fam refA Rs] := by
  obtain rfl := hd.h
  intro F K hK
  simp only [List.cons_append, List.nil_append]
  obtain ⟨c1, c2, c3, c4, c5, c6, c7, c8, c9, c10, c11, c12, c13⟩ := c
  (refine Tr.enter (rs := [.tmp 2, .tmp 3]) mixed fn25 rfl (by simp +arith [Try.ntmps25]) fun u => ?_; simp only [cd25, Try.f25])
  ((try simp only [WKb, ↓reduceIte]) <;> (repeat' ((first
    | (refine G.tr ?_; first | refine S.a ?_ | refine Tr.brK ?_ ?_ | (refine G.call 32 ?_; first | refine S.c ?_ (h := pnew2_ok) | refine S.c ?_ (h := pnew1_ok)) | (refine G.call 44 ?_; refine S.c ?_ (h := rnew_ok)) | refine S.n fun _ => ?_ | refine S.i fun hix => ?_ | (refine S.g fun hb => ?_; (try simp only [hb])) | (refine S.s (fun hb => ?_) (fun hb => ?_) <;> ((try simp only [hb]) <;> (try (have hp := hb; simp only [WKs] at hp; (try have hq := Int.not_le.2 hp); (try have hq := Int.not_lt.2 hp))))))
    | rintro _ _ ⟨_, _, _, _, rfl, rfl⟩
    | rintro _ _ ⟨_, _, _, _, _, _, rfl, rfl⟩
    | rintro _ _ ⟨_, _, _, _, _, _, hxs, rfl, rfl⟩
    | ((fail_if_success refine G.tr ?_); exact G.prop S.p)
    | fail) <;> (try simp only [WKb]))))
  refine Tr.nilSl (α := Pt) ?_
  refine Tr.nilSl (α := Pt) ?_
  refine Tr.loopE (α := Nat × SV × SV × List PG × List RG) [4, 5, 6] [1, 2, 3] (fun x => [x.2.1.v, x.2.2.1.v, .int .i64 x.1]) (fun x => [sl false x.2.1.v (x.2.2.2.1.map PG.pt), fam portsA x.2.2.2.1, sl false x.2.2.1.v (x.2.2.2.2.map RG.pt), fam refA x.2.2.2.2])
    (fun x => x.1 ≤ ps.length ∧ x.2.2.2.1.length = x.1 ∧ x.2.2.2.2.length = x.1 ∧ invL x.2.2.2.1 0 ∧ invR x.2.2.2.2 0 ∧ x.2.2.2.1.map PG.ab = (ps.take x.1).map (fun p => newA p.ports.d) ∧ x.2.2.2.2.map RG.ps = (ps.take x.1).map (fun p => newA p.ports.d)) (fun x => ps.length - x.1)
    (0, ⟨none, 0, 0⟩, ⟨none, 0, 0⟩, [], []) (by simp only [List.map_nil]; exact (by (repeat (first | exact TakeL.nil | (apply TakeL.cons; focus ((first | exact TakeA.dupS | exact TakeA.dupF | ((repeat (first | with_reducible exact TakeA.here | exact TakeA.fam (by omega) (by omega) | with_reducible apply TakeA.next)); done) | ((repeat (first | exact TakeA.here | apply TakeA.next)); done) | exact TakeA.famNil | exact TakeA.nilS))) | fail)); done)) rfl ⟨by omega, rfl, rfl, (fun g hg => absurd hg List.not_mem_nil), (fun g hg => absurd hg List.not_mem_nil), rfl, rfl⟩ fun x u hx => ?_
  obtain ⟨k, s, t, Gs, Rs⟩ := x
  simp only at hx ⊢
  obtain ⟨hk, hl1, hl2, hv, hr, ha, hb⟩ := hx
  have hw := wrapSucc (k := k) (by omega)
  have hm1 : (Gs.map PG.pt).length = k := by rw [List.length_map]; exact hl1
  have hm2 : (Rs.map RG.pt).length = k := by rw [List.length_map]; exact hl2
  by_cases hin : k < ps.length
  · have htk : (ps.take (k + 1)).map (fun p => newA p.ports.d) = (ps.take k).map (fun p => newA p.ports.d) ++ [newA (ix ps (k : Int)).ports.d] := by rw [take_ix hin, List.map_append]; rfl
    ((try simp only [WKb, ↓reduceIte, Nat.reduceEqDiff]) <;> (repeat' ((first
    | (refine G.tr ?_; first | (refine G.call 32 ?_; refine S.c ?_ (h := pnew_ok); rintro _ _ ⟨pp, ps1, gs1, hco, rfl, rfl⟩) | (refine G.call 44 ?_; refine S.c ?_ (h := rnew_ok); rintro _ _ ⟨rr, ra, rb, rc, rd, rxs, hrx, rfl, rfl⟩) | refine S.a ?_ | refine Tr.brK ?_ ?_ | (refine G.call 32 ?_; first | refine S.c ?_ (h := pnew2_ok) | refine S.c ?_ (h := pnew1_ok)) | (refine G.call 44 ?_; refine S.c ?_ (h := rnew_ok)) | refine S.n fun _ => ?_ | refine S.i fun hix => ?_ | (refine S.g fun hb => ?_; (try simp only [hb])) | (refine S.s (fun hb => ?_) (fun hb => ?_) <;> ((try simp only [hb]) <;> (try (have hp := hb; simp only [WKs] at hp; (try have hq := Int.not_le.2 hp); (try have hq := Int.not_lt.2 hp))))))
    | rintro _ _ ⟨_, _, _, _, rfl, rfl⟩
    | rintro _ _ ⟨_, _, _, _, _, _, rfl, rfl⟩
    | rintro _ _ ⟨_, _, _, _, _, _, hxs, rfl, rfl⟩
    | ((fail_if_success refine G.tr ?_); exact G.prop S.p)
    | fail) <;> (try simp only [WKb, ↓reduceIte, Nat.reduceEqDiff, hw]))))
    all_goals
      have hni := new_inv hco
      have hG1 : (Gs ++ [(⟨pp, ps1, gs1⟩ : PG)]).map PG.pt = Gs.map PG.pt ++ [⟨some pp⟩] := by rw [List.map_append]; rfl
      have hR1 : (Rs ++ [(⟨rr, ra, rb, rc, rd, newA (ix ps (k : Int)).ports.d, rxs⟩ : RG)]).map RG.pt = Rs.map RG.pt ++ [⟨some rr⟩] := by rw [List.map_append]; rfl
      have hG2 : (Gs ++ [(⟨pp, ps1, gs1⟩ : PG)]).length = k + 1 := by simp [hl1]
      have hR2 : (Rs ++ [(⟨rr, ra, rb, rc, rd, newA (ix ps (k : Int)).ports.d, rxs⟩ : RG)]).length = k + 1 := by simp [hl2]
      have hG3 : invL (Gs ++ [(⟨pp, ps1, gs1⟩ : PG)]) 0 := fun g hg => by
        rcases List.mem_append.1 hg with h | h
        · exact hv g h
        · rw [List.mem_singleton.1 h]; exact hni.1
      have hR3 : invR (Rs ++ [(⟨rr, ra, rb, rc, rd, newA (ix ps (k : Int)).ports.d, rxs⟩ : RG)]) 0 := fun g hg => by
        rcases List.mem_append.1 hg with h | h
        · exact hr g h
        · rw [List.mem_singleton.1 h]; exact ⟨hrx, newA_ap⟩
      have hG4 : (Gs ++ [(⟨pp, ps1, gs1⟩ : PG)]).map PG.ab = (ps.take (k + 1)).map (fun p => newA p.ports.d) := by rw [htk, List.map_append, ha, ← hni.2]; rfl
      have hR4 : (Rs ++ [(⟨rr, ra, rb, rc, rd, newA (ix ps (k : Int)).ports.d, rxs⟩ : RG)]).map RG.ps = (ps.take (k + 1)).map (fun p => newA p.ports.d) := by rw [htk, List.map_append, hb]; rfl
      (apply Tr.againE ((k + 1, _, _, Gs ++ [⟨pp, ps1, gs1⟩], Rs ++ [⟨rr, ra, rb, rc, rd, newA (ix ps (k : Int)).ports.d, rxs⟩])); (focus (simp only [WKb, ↓reduceIte, Nat.reduceEqDiff])); (focus ((try simp only [WKb, ↓reduceIte, Nat.reduceEqDiff]); (all_goals ((repeat (refine cons_eq (by first | rfl | ((try clear hK) <;> first | (simp [*, hG1, hR1, portsA, refA]; done) | (simp [*, hG1, hR1, portsA, refA]; omega) | (simp [*, hG1, hR1, portsA, refA] <;> (try split) <;> simp_all <;> omega))) ?_)); rfl)); done)); rotate_left 2; (focus (((try clear hK) <;> (try simp only [WKe, *]) <;> repeat (first | with_reducible exact EntR.done | refine S.e ?_ | (refine S.f ?_ <;> (try simp only [portsA, refA, *])) | with_reducible apply EntR.ex | refine EntR.drop (F := F) ?_ | refine EntR.drop ?_)))); (focus (first | omega | assumption | (simp only []; omega) | (refine ⟨by omega, by assumption⟩) | (simp only []; refine ⟨by omega, by assumption⟩) | ((try simp only []); (repeat' (first | omega | assumption | apply hG2 | apply hR2 | apply hG3 | apply hR3 | apply hG4 | apply hR4 | refine And.intro ?_ ?_)); done))); (focus (first | omega | (simp only []; omega))))
  · obtain rfl : k = ps.length := by omega
    rw [List.take_length] at ha hb
    ((try simp only [WKb, ↓reduceIte, Nat.reduceEqDiff]) <;> (repeat' ((first
    | (refine G.tr ?_; first | refine S.a ?_ | refine Tr.brK ?_ ?_ | (refine G.call 32 ?_; first | refine S.c ?_ (h := pnew2_ok) | refine S.c ?_ (h := pnew1_ok)) | (refine G.call 44 ?_; refine S.c ?_ (h := rnew_ok)) | refine S.n fun _ => ?_ | refine S.i fun hix => ?_ | (refine S.g fun hb => ?_; (try simp only [hb])) | (refine S.s (fun hb => ?_) (fun hb => ?_) <;> ((try simp only [hb]) <;> (try (have hp := hb; simp only [WKs] at hp; (try have hq := Int.not_le.2 hp); (try have hq := Int.not_lt.2 hp))))))
    | rintro _ _ ⟨_, _, _, _, rfl, rfl⟩
    | rintro _ _ ⟨_, _, _, _, _, _, rfl, rfl⟩
    | rintro _ _ ⟨_, _, _, _, _, _, hxs, rfl, rfl⟩
    | ((fail_if_success refine G.tr ?_); exact G.prop S.p)
    | fail) <;> (try simp only [WKb, ↓reduceIte, Nat.reduceEqDiff]))))
    all_goals
      apply Tr.fin hK ⟨s, t, Gs, Rs, hv, hr, ha, hb, rfl, rfl⟩
      ((try clear hK) <;> (try simp only [WKe, *]) <;> repeat (first | with_reducible exact EntR.done | refine S.e ?_ | (refine S.f ?_ <;> (try simp only [WKe, ↓reduceIte, reduceCtorEq, Int.reduceEq, *])) | with_reducible apply EntR.ex | refine EntR.drop (F := F) ?_ | refine EntR.drop ?_))

theorem like19_ok {s t : SV} {Gs : List PG} {Rs : List RG} {n : Nat} (hv : invL Gs n) (hr : invR Rs n) (hab : Rs.map RG.ps = Gs.map PG.ab) (hgl : Gs.length ≤ 100) : Trip Try.prog 37 [s.v, t.v].toArray [sl true s.v (Gs.map PG.pt), fam portsA Gs, sl true t.v (Rs.map RG.pt), fam refA Rs]
    fun v l' => v = .bool true ∧ l' = [fam portsA Gs, fam refA Rs] := by
  intro F K hK
  simp only [List.cons_append, List.nil_append]
  have hl : Rs.length = Gs.length := by simpa using congrArg List.length hab
  have hlr : (Rs.map RG.pt).length = Rs.length := List.length_map _
  have hlg : (Gs.map PG.pt).length = Gs.length := List.length_map _
  (refine Tr.enter (rs := [.tmp 4]) mixed fn37 rfl (by simp +arith [Try.ntmps37]) fun u => ?_; simp only [cd37, Try.f37])
  ((try simp only [WKb, Nat.reduceAdd]) <;> (repeat' ((first
    | (refine G.tr ?_; first | refine S.a ?_ | refine Tr.brK ?_ ?_ | (refine G.call 63 ?_; first | refine S.c ?_ (h := plen0_ok) | refine S.c ?_ (h := plen_ok)) | (refine G.call 64 ?_; first | refine S.c ?_ (h := plost0_ok) | refine S.c ?_ (h := plost_ok)) | refine S.n fun _ => ?_ | refine S.i fun hix => ?_ | (refine S.g fun hb => ?_; (try simp only [hb])) | (refine S.s (fun hb => ?_) (fun hb => ?_) <;> ((try simp only [hb]) <;> (try (have hp := hb; simp only [WKs] at hp; (try have hq := Int.not_le.2 hp); (try have hq := Int.not_lt.2 hp))))))
    | rintro _ _ ⟨rfl, rfl⟩
    | ((fail_if_success refine G.tr ?_); exact G.prop S.p)
    | fail) <;> (try simp only [WKb, WKh, ↓reduceIte, Nat.reduceEqDiff, Nat.reduceAdd, Nat.reduceSub, Int.reduceEq, Int.reduceLT, Int.reduceLE, pl37]))))
  refine Tr.loopE (α := Nat) [4, 5] [0, 1] (fun k => [.bool false, .int .i64 k]) (fun _ => [fam portsA Gs, fam refA Rs]) (fun k => k ≤ Rs.length) (fun k => Rs.length - k) 0 (by (repeat (first | exact TakeL.nil | (apply TakeL.cons; focus ((first | exact TakeA.dupS | exact TakeA.dupF | ((repeat (first | with_reducible exact TakeA.here | exact TakeA.fam (by omega) (by omega) | with_reducible apply TakeA.next)); done) | ((repeat (first | exact TakeA.here | apply TakeA.next)); done) | exact TakeA.famNil | exact TakeA.nilS))) | fail)); done) rfl (by omega) fun k u hk => ?_
  have hw := wrapSucc (k := k) (by omega)
  by_cases hin : k < Rs.length
  · have hkr : (k : Int) < Rs.length := by omega
    have hkg : (k : Int) < Gs.length := by omega
    have hk0 : (0 : Int) ≤ k := by omega
    have hpp : ix (Gs.map PG.pt) (k : Int) = ⟨some (ix Gs (k : Int)).p⟩ := ix_map (f := PG.pt) hk0 hkg
    have hpr : ix (Rs.map RG.pt) (k : Int) = ⟨some (ix Rs (k : Int)).r⟩ := ix_map (f := RG.pt) hk0 hkr
    have hps : (ix Rs (k : Int)).ps = (ix Gs (k : Int)).gs.map OneG.abs := by rw [← rps_ix hk0 hkr, hab, ab_ix hk0 hkg]
    have hx := (invR_ix hr hk0 hkr).1
    rw [hps] at hx
    have h8 := (invL_ix hv hk0 hkg).1
    have hxl := ap_len hx
    rw [abs_len] at hxl
    simp only [List.cons_append, List.nil_append]
    refine Tr.famAt (A := portsA) (k : Int) (by (repeat (first | exact TakeA.here | apply TakeA.next)); done) hk0 hkg ?_
    refine portsA_open ?_
    refine Tr.famAt (A := refA) (k : Int) (by (repeat (first | exact TakeA.here | apply TakeA.next)); done) hk0 hkr ?_
    refine refA_open ?_
    rw [hps]
    generalize hgg : (ix Gs (k : Int)).gs = gg at hx h8 hxl
    have hlc : ((gg.map OneG.abs).map AP.c).length = gg.length := by simp
    have hlo : ((gg.map OneG.abs).map AP.lost).length = gg.length := by simp
    ((try simp only [WKb, ↓reduceIte, Nat.reduceEqDiff]) <;> (repeat' ((first
    | (refine G.tr ?_; first | refine S.a ?_ | refine Tr.brK ?_ ?_ | (refine G.call 63 ?_; first | refine S.c ?_ (h := plen0_ok) | refine S.c ?_ (h := plen_ok)) | (refine G.call 64 ?_; first | refine S.c ?_ (h := plost0_ok) | refine S.c ?_ (h := plost_ok)) | refine S.n fun _ => ?_ | refine S.i fun hix => ?_ | (refine S.g fun hb => ?_; (try simp only [hb])) | (refine S.s (fun hb => ?_) (fun hb => ?_) <;> ((try simp only [hb]) <;> (try (have hp := hb; simp only [WKs] at hp; (try have hq := Int.not_le.2 hp); (try have hq := Int.not_lt.2 hp))))))
    | rintro _ _ ⟨rfl, rfl⟩
    | ((fail_if_success refine G.tr ?_); exact G.prop S.p)
    | fail) <;> (try simp only [WKb, ↓reduceIte, Nat.reduceEqDiff]))))
    refine Tr.loopE (α := Nat) [4, 6] [0, 1, 5] (fun j => [.bool false, .int .i64 j]) (fun _ => []) (fun j => j ≤ gg.length) (fun j => gg.length - j) 0 (by (repeat (first | exact TakeL.nil | (apply TakeL.cons; focus ((first | exact TakeA.dupS | exact TakeA.dupF | ((repeat (first | with_reducible exact TakeA.here | exact TakeA.fam (by omega) (by omega) | with_reducible apply TakeA.next)); done) | ((repeat (first | exact TakeA.here | apply TakeA.next)); done) | exact TakeA.famNil | exact TakeA.nilS))) | fail)); done) rfl (by omega) fun j u hj => ?_
    have hw2 := wrapSucc (k := j) (by omega)
    by_cases hin2 : j < gg.length
    · have hrr : inR gg (j : Int) := ⟨by omega, by omega⟩
      have hm1 : lenP gg (j : Int) = ((ix (ix Rs (k : Int)).xs (j : Int)).d.length : Int) := lenP_in hx hrr
      have hm2 : ix ((gg.map OneG.abs).map AP.lost) (j : Int) = lostP gg (j : Int) := by rw [ix_map (f := AP.lost) hrr.1 (by rw [abs_len]; exact hrr.2), abs_ix hrr]; simp [lostP, hrr, OneG.abs]
      ((try simp only [WKb, ↓reduceIte, Nat.reduceEqDiff]) <;> (repeat' ((first
    | (refine G.tr ?_; first | refine S.a ?_ | refine Tr.brK ?_ ?_ | (refine G.call 63 ?_; first | refine S.c ?_ (h := plen0_ok) | refine S.c ?_ (h := plen_ok)) | (refine G.call 64 ?_; first | refine S.c ?_ (h := plost0_ok) | refine S.c ?_ (h := plost_ok)) | refine S.n fun _ => ?_ | refine S.i fun hix => ?_ | (refine S.g fun hb => ?_; (try simp only [hb])) | (refine S.s (fun hb => ?_) (fun hb => ?_) <;> ((try simp only [hb]) <;> (try (have hp := hb; simp only [WKs] at hp; (try have hq := Int.not_le.2 hp); (try have hq := Int.not_lt.2 hp))))))
    | rintro _ _ ⟨rfl, rfl⟩
    | ((fail_if_success refine G.tr ?_); exact G.prop S.p)
    | fail) <;> (try simp only [WKb, WKh, ↓reduceIte, Nat.reduceEqDiff, pl37, hw2, hpp, hpr, hm1, hm2]))))
      all_goals (apply Tr.againE (j + 1); (focus (simp only [WKb, ↓reduceIte, Nat.reduceEqDiff])); (focus ((try simp only [WKb, ↓reduceIte, Nat.reduceEqDiff]); (all_goals ((repeat (refine cons_eq (by first | rfl | (simp [*]; done)) ?_)); rfl)); done)); rotate_left 2; (focus (((try clear hK) <;> (try simp only [WKe, *]) <;> repeat (first | with_reducible exact EntR.done | refine S.e ?_ | (refine S.f ?_ <;> (try simp only [WKe, ↓reduceIte, reduceCtorEq, Int.reduceEq, *])) | with_reducible apply EntR.ex | refine EntR.drop (F := F) ?_ | refine EntR.drop ?_)))); (focus (first | omega | assumption | (simp only []; omega) | (refine ⟨by omega, by assumption⟩) | (simp only []; refine ⟨by omega, by assumption⟩) | ((try simp only []); (repeat' (first | omega | assumption | refine And.intro ?_ ?_)); done))); (focus (first | omega | (simp only []; omega))))
    · ((try simp only [WKb, ↓reduceIte, Nat.reduceEqDiff]) <;> (repeat' ((first
    | (refine G.tr ?_; first | refine S.a ?_ | refine Tr.brK ?_ ?_ | (refine G.call 63 ?_; first | refine S.c ?_ (h := plen0_ok) | refine S.c ?_ (h := plen_ok)) | (refine G.call 64 ?_; first | refine S.c ?_ (h := plost0_ok) | refine S.c ?_ (h := plost_ok)) | refine S.n fun _ => ?_ | refine S.i fun hix => ?_ | (refine S.g fun hb => ?_; (try simp only [hb])) | (refine S.s (fun hb => ?_) (fun hb => ?_) <;> ((try simp only [hb]) <;> (try (have hp := hb; simp only [WKs] at hp; (try have hq := Int.not_le.2 hp); (try have hq := Int.not_lt.2 hp))))))
    | rintro _ _ ⟨rfl, rfl⟩
    | ((fail_if_success refine G.tr ?_); exact G.prop S.p)
    | fail) <;> (try simp only [WKb, WKh, ↓reduceIte, Nat.reduceEqDiff, hw, hpr]))))
      all_goals
        have hcG : Gs.set k { ix Gs (k : Int) with gs := gg } = Gs := by rw [← hgg]; exact set_ix hk0 hkg
        have hcR : Rs.set k ⟨(ix Rs (k : Int)).r, (ix Rs (k : Int)).a, (ix Rs (k : Int)).b, (ix Rs (k : Int)).c, (ix Rs (k : Int)).d, gg.map OneG.abs, (ix Rs (k : Int)).xs⟩ = Rs := by rw [← hgg, ← hps]; exact set_ix hk0 hkr
        refine Tr.closeP (Gs := Gs) (k := k) (g := { ix Gs (k : Int) with gs := gg }) (by omega) (by (repeat (first | exact TakeA.here | apply TakeA.next)); done) (by (repeat (first | exact TakeA.here | apply TakeA.next)); done) (by (repeat (first | exact TakeA.here | apply TakeA.next)); done) (by (repeat (first | exact TakeA.here | apply TakeA.next)); done) ?_
        refine Tr.closeR (Rs := Rs) (k := k) (g := ⟨(ix Rs (k : Int)).r, (ix Rs (k : Int)).a, (ix Rs (k : Int)).b, (ix Rs (k : Int)).c, (ix Rs (k : Int)).d, gg.map OneG.abs, (ix Rs (k : Int)).xs⟩) (by omega) (by (repeat (first | exact TakeA.here | apply TakeA.next)); done) (by (repeat (first | exact TakeA.here | apply TakeA.next)); done) (by (repeat (first | exact TakeA.here | apply TakeA.next)); done) (by (repeat (first | exact TakeA.here | apply TakeA.next)); done) (by (repeat (first | exact TakeA.here | apply TakeA.next)); done) (by (repeat (first | exact TakeA.here | apply TakeA.next)); done) (by (repeat (first | exact TakeA.here | apply TakeA.next)); done) ?_
        rw [hcG, hcR]
        (apply Tr.againE (k + 1); (focus (simp only [WKb, ↓reduceIte, Nat.reduceEqDiff])); (focus ((try simp only [WKb, ↓reduceIte, Nat.reduceEqDiff]); (all_goals ((repeat (refine cons_eq (by first | rfl | (simp [*]; done)) ?_)); rfl)); done)); rotate_left 2; (focus (((try clear hK) <;> (try simp only [WKe, *]) <;> repeat (first | with_reducible exact EntR.done | refine S.e ?_ | (refine S.f ?_ <;> (try simp only [WKe, ↓reduceIte, reduceCtorEq, Int.reduceEq, *])) | with_reducible apply EntR.ex | refine EntR.drop (F := F) ?_ | refine EntR.drop ?_)))); (focus (first | omega | assumption | (simp only []; omega) | (refine ⟨by omega, by assumption⟩) | (simp only []; refine ⟨by omega, by assumption⟩) | ((try simp only []); (repeat' (first | omega | assumption | refine And.intro ?_ ?_)); done))); (focus (first | omega | (simp only []; omega))))
  · ((try simp only [WKb, ↓reduceIte, Nat.reduceEqDiff]) <;> (repeat' ((first
    | (refine G.tr ?_; first | refine S.a ?_ | refine Tr.brK ?_ ?_ | (refine G.call 63 ?_; first | refine S.c ?_ (h := plen0_ok) | refine S.c ?_ (h := plen_ok)) | (refine G.call 64 ?_; first | refine S.c ?_ (h := plost0_ok) | refine S.c ?_ (h := plost_ok)) | refine S.n fun _ => ?_ | refine S.i fun hix => ?_ | (refine S.g fun hb => ?_; (try simp only [hb])) | (refine S.s (fun hb => ?_) (fun hb => ?_) <;> ((try simp only [hb]) <;> (try (have hp := hb; simp only [WKs] at hp; (try have hq := Int.not_le.2 hp); (try have hq := Int.not_lt.2 hp))))))
    | rintro _ _ ⟨rfl, rfl⟩
    | ((fail_if_success refine G.tr ?_); exact G.prop S.p)
    | fail) <;> (try simp only [WKb, ↓reduceIte, Nat.reduceEqDiff]))))
    all_goals
      refine Tr.fin hK ⟨rfl, rfl⟩ ?_
      ((try clear hK) <;> (try simp only [WKe, *]) <;> repeat (first | with_reducible exact EntR.done | refine S.e ?_ | (refine S.f ?_ <;> (try simp only [WKe, ↓reduceIte, reduceCtorEq, Int.reduceEq, *])) | with_reducible apply EntR.ex | refine EntR.drop (F := F) ?_ | refine EntR.drop ?_))

end Go.Proofs.Ytlhmbcmkpafjoaa
