import Derived.Test.YtlmcoiloepoggaaOD
namespace Go.Proofs.Ytlmcoiloepoggaa
open Go Go.Wk
set_option maxHeartbeats 800000
set_option maxRecDepth 10000
def SemG.mk' (b : Nat) (c : SemC) : SemG := ⟨b, c.first, c.most, c.first⟩
abbrev SemM := Int × Int × Int
def SemG.mo (g : SemG) : SemM := (g.first, g.most, g.count)
def semM (c : SemC) : SemM := (c.first, c.most, c.first)
theorem semM_mk {b : Nat} {c : SemC} : (SemG.mk' b c).mo = semM c := rfl
def FlagG.mk' (b : Nat) (c : Bool) : FlagG := ⟨b, c⟩
abbrev FlagM := Bool
def FlagG.mo (g : FlagG) : FlagM := g.up
def flagM (c : Bool) : FlagM := c
theorem flagM_mk {b : Nat} {c : Bool} : (FlagG.mk' b c).mo = flagM c := rfl
def PoolG.mk' (b : Nat) (c : PoolC) : PoolG := ⟨b, c.size, c.depth, ⟨none, 0, 0⟩, []⟩
abbrev PoolM := Int × Int × List (List UInt8)
def PoolG.mo (g : PoolG) : PoolM := (g.size, g.depth, g.ms.map SL.d)
def poolM (c : PoolC) : PoolM := (c.size, c.depth, [])
theorem poolM_mk {b : Nat} {c : PoolC} : (PoolG.mk' b c).mo = poolM c := rfl
def SlateG.mk' (b : Nat) (c : Int) : SlateG := ⟨b, c, default, false⟩
abbrev SlateM := Int × Option (List UInt8)
def SlateG.mo (g : SlateG) : SlateM := (g.size, if g.shown then some g.m.d else none)
def slateM (c : Int) : SlateM := (c, none)
theorem slateM_mk {b : Nat} {c : Int} : (SlateG.mk' b c).mo = slateM c := rfl
attribute [local irreducible] BrK GenK EGenK EUnitK CallK FnK CallV GuardO GuardC CondW opX opK opKc chkR eqR seqK blkK endL WL WD W LoopW BinK Tr drewK resL PickK NotK NilK ExtrK getK Instr.storeAt Instr.loadAt Instr.fieldAt Instr.indexAt Instr.lookup Instr.mapUpdate Instr.box Instr.alloc Instr.build Instr.buildSlice Instr.makeSlice Instr.makeMap Instr.sliceAt Instr.field Instr.index Instr.makeInterface Instr.typeAssert Builtin.len_ Builtin.append_ Builtin.cap_ Builtin.min_ Builtin.max_ Builtin.copy_ Builtin.clear_ convert binOp mp blk rob sl sep ex fact old
theorem sem_made {c : SemC} : Trip Try.prog 117 [.agg (En.enc c).toArray].toArray [] fun v l' => ∃ b, v = .pointer (some ⟨b, 0, none⟩) ∧ l' = [semA (SemG.mk' b c)] := by
  intro F K hK
  simp only [List.nil_append]
  (refine Tr.enter (rs := [.tmp 2]) mixed fn117 rfl (by simp +arith [Try.ntmps117]) fun u => ?_; simp only [cd117, Try.f117])
  ((try simp only [WKb, ↓reduceIte]) <;> (repeat' ((first
    | (refine G.tr ?_; first | refine S.a ?_ | refine Tr.brK ?_ ?_ | refine S.n fun _ => ?_ | refine S.i fun hix => ?_ | (refine S.g fun hb => ?_; (try simp only [hb])) | (refine S.s (fun hb => ?_) (fun hb => ?_) <;> ((try simp only [hb]) <;> (try (have hp := hb; simp only [WKs] at hp; (try have hq := Int.not_le.2 hp); (try have hq := Int.not_lt.2 hp))))))
    | ((fail_if_success refine G.tr ?_); exact G.prop S.p)
    | fail) <;> (try simp only [WKb, WKh, ↓reduceIte, Nat.reduceEqDiff, Nat.reduceAdd]))))
  all_goals
    apply Tr.fin hK ⟨_, rfl, rfl⟩
    have hd : (⟨⟨none, 0, 0⟩, []⟩ : Msg) = default := rfl
    ((try clear hK) <;> (try simp only [WKe, SemG.mk', *]) <;> repeat (first | with_reducible exact EntR.done | refine S.e ?_ | (refine S.f ?_ <;> (try simp only [WKe, SemG.mk', ↓reduceIte, reduceCtorEq, Int.reduceEq, *])) | with_reducible apply EntR.ex | refine EntR.drop (F := F) ?_ | refine EntR.drop ?_))

theorem sem_some {s : SV} {cs : List SemC} : Trip Try.prog 116 [s.v, .int .i64 4, .func (.func 117) #[] #[]].toArray [sl true s.v cs]
    fun v l' => ∃ (s1 : SV) (gs : List SemG), gs.map SemG.mo = (cs.take 4).map semM ∧ v = .agg #[s1.v] ∧ l' = [sl false s1.v (gs.map SemG.pt), fam semA gs] := by
  intro F K hK
  simp only [List.cons_append, List.nil_append]
  have hmin : (if (4 : Int) < cs.length then (4 : Int) else cs.length) = ((min 4 cs.length : Nat) : Int) := if_min (n := 4)
  (refine Tr.enter (rs := [.cell 6 114]) mixed fn116 rfl (by simp +arith [Try.ntmps116]) fun u => ?_; simp only [cd116, Try.f116])
  ((try simp only [WKb, Nat.reduceAdd]) <;> (repeat' ((first
    | (refine G.tr ?_; first | refine S.a ?_ | refine Tr.brK ?_ ?_ | refine S.n fun _ => ?_ | refine S.i fun hix => ?_ | (refine S.g fun hb => ?_; (try simp only [hb])) | (refine S.s (fun hb => ?_) (fun hb => ?_) <;> ((try simp only [hb]) <;> (try (have hp := hb; simp only [WKs] at hp; (try have hq := Int.not_le.2 hp); (try have hq := Int.not_lt.2 hp))))))
    | ((fail_if_success refine G.tr ?_); exact G.prop S.p)
    | fail) <;> (try simp only [WKb, ↓reduceIte, Nat.reduceEqDiff, hmin]))))
  rename_i c6 c7 s1
  refine Tr.loopE (α := Nat × SV × List SemG) [17] [2, 6, 7, 15, 16] (fun x => [.int .i64 x.1]) (fun x => [blk c7 (.cells [x.2.1.v].toArray 114 (0, 0)), sl false x.2.1.v (x.2.2.map SemG.pt), fam semA x.2.2]) (fun x => x.1 ≤ min 4 cs.length ∧ x.2.2.length = x.1 ∧ x.2.2.map SemG.mo = (cs.take x.1).map semM) (fun x => min 4 cs.length - x.1) (0, ⟨none, 0, 0⟩, []) (by (repeat (first | exact TakeL.nil | (apply TakeL.cons; focus ((first | exact TakeA.dupS | exact TakeA.dupF | ((repeat (first | with_reducible exact TakeA.here | exact TakeA.fam (by omega) (by omega) | with_reducible apply TakeA.next)); done) | ((repeat (first | exact TakeA.here | apply TakeA.next)); done) | exact TakeA.famNil | exact TakeA.nilS))) | fail)); done) rfl ⟨by omega, rfl, rfl⟩ fun x u hx => ?_
  obtain ⟨k, s2, gs⟩ := x
  simp only at hx ⊢
  obtain ⟨hk, hl, hm⟩ := hx
  have hlt : (cs.take (((min 4 cs.length : Nat) : Int)).toNat).length = min 4 cs.length := by simp
  have hlm : (gs.map SemG.pt).length = k := by simp [hl]
  by_cases hkn : k < min 4 cs.length
  · have hw := wrapSucc (k := k) (by omega)
    have hxt : ix (cs.take (((min 4 cs.length : Nat) : Int)).toNat) (k : Int) = ix cs (k : Int) := ix_take (by simp; omega)
    have hmk : ∀ b, (gs ++ [SemG.mk' b (ix cs (k : Int))]).map SemG.mo = (cs.take (k + 1)).map semM := fun b => by rw [take_ix (by omega), List.map_append, List.map_append, hm]; rfl
    
    ((try simp only [WKb, ↓reduceIte, Nat.reduceEqDiff]) <;> (repeat' ((first
    | (refine G.tr ?_; first | refine S.a ?_ | refine Tr.brK ?_ ?_ | (refine G.call 117 ?_; refine S.c ?_ (h := sem_made)) | refine S.n fun _ => ?_ | refine S.i fun hix => ?_ | (refine S.g fun hb => ?_; (try simp only [hb])) | (refine S.s (fun hb => ?_) (fun hb => ?_) <;> ((try simp only [hb]) <;> (try (have hp := hb; simp only [WKs] at hp; (try have hq := Int.not_le.2 hp); (try have hq := Int.not_lt.2 hp))))))
    | rintro _ _ ⟨_, rfl, rfl⟩
    | ((fail_if_success refine G.tr ?_); exact G.prop S.p)
    | fail) <;> (try simp only [WKb, ↓reduceIte, Nat.reduceEqDiff, pl116, hw, hxt]))))
    all_goals
      rename_i _ bw _ _
      have hmk' := hmk bw
      have hln : (gs ++ [SemG.mk' bw (ix cs (k : Int))]).length = k + 1 := by simp [hl]
      (apply Tr.againE (k + 1, _, gs ++ [SemG.mk' bw (ix cs (k : Int))]); (focus (simp only [WKb, ↓reduceIte, Nat.reduceEqDiff])); (focus ((try simp only [WKb, ↓reduceIte]); (all_goals ((repeat (refine cons_eq (by first | rfl | ((try clear hK) <;> first | (simp [*, List.map_append, List.map_cons, List.map_nil, SemG.pt, SemG.mk', hw]; done) | (simp [*, List.map_append, List.map_cons, List.map_nil, SemG.pt, SemG.mk', hw]; omega) | (simp [*, List.map_append, List.map_cons, List.map_nil, SemG.pt, SemG.mk', hw] <;> (try split) <;> simp_all <;> omega))) ?_)); rfl)); done)); (focus (first | omega | assumption | (simp only []; omega) | (refine ⟨by omega, by assumption⟩) | (simp only []; refine ⟨by omega, by assumption⟩) | ((try simp only []); (repeat' (first | omega | assumption | refine And.intro ?_ ?_)); done))); (focus (first | omega | (simp only []; omega))); (focus (((try clear hK) <;> (try simp only [WKe, List.map_append, List.map_cons, List.map_nil, SemG.pt, SemG.mk', *]) <;> repeat (first | with_reducible exact EntR.done | refine S.e ?_ | (refine S.f ?_ <;> (try simp only [WKe, List.map_append, List.map_cons, List.map_nil, SemG.pt, SemG.mk', hw, ↓reduceIte, reduceCtorEq, Int.reduceEq, *])) | with_reducible apply EntR.ex | refine EntR.drop (F := F) ?_ | refine EntR.drop ?_)))))
  · have hkk : k = min 4 cs.length := by omega
    ((try simp only [WKb, ↓reduceIte, Nat.reduceEqDiff]) <;> (repeat' ((first
    | (refine G.tr ?_; first | refine S.a ?_ | refine Tr.brK ?_ ?_ | (refine G.call 117 ?_; refine S.c ?_ (h := sem_made)) | refine S.n fun _ => ?_ | refine S.i fun hix => ?_ | (refine S.g fun hb => ?_; (try simp only [hb])) | (refine S.s (fun hb => ?_) (fun hb => ?_) <;> ((try simp only [hb]) <;> (try (have hp := hb; simp only [WKs] at hp; (try have hq := Int.not_le.2 hp); (try have hq := Int.not_lt.2 hp))))))
    | rintro _ _ ⟨_, rfl, rfl⟩
    | ((fail_if_success refine G.tr ?_); exact G.prop S.p)
    | fail) <;> (try simp only [WKb, ↓reduceIte, Nat.reduceEqDiff]))))
    all_goals
      apply Tr.fin hK ⟨_, gs, by rw [hm, hkk, take_minlen], rfl, rfl⟩
      ((try clear hK) <;> (try simp only [WKe, *]) <;> repeat (first | with_reducible exact EntR.done | refine S.e ?_ | (refine S.f ?_ <;> (try simp only [WKe, ↓reduceIte, reduceCtorEq, Int.reduceEq, *])) | with_reducible apply EntR.ex | refine EntR.drop (F := F) ?_ | refine EntR.drop ?_))
theorem flag_made {c : Bool} : Trip Try.prog 119 [.bool c].toArray [] fun v l' => ∃ b, v = .pointer (some ⟨b, 0, none⟩) ∧ l' = [flagA (FlagG.mk' b c)] := by
  intro F K hK
  simp only [List.nil_append]
  (refine Tr.enter (rs := [.tmp 2]) mixed fn119 rfl (by simp +arith [Try.ntmps119]) fun u => ?_; simp only [cd119, Try.f119])
  ((try simp only [WKb, ↓reduceIte]) <;> (repeat' ((first
    | (refine G.tr ?_; first | refine S.a ?_ | refine Tr.brK ?_ ?_ | refine S.n fun _ => ?_ | refine S.i fun hix => ?_ | (refine S.g fun hb => ?_; (try simp only [hb])) | (refine S.s (fun hb => ?_) (fun hb => ?_) <;> ((try simp only [hb]) <;> (try (have hp := hb; simp only [WKs] at hp; (try have hq := Int.not_le.2 hp); (try have hq := Int.not_lt.2 hp))))))
    | ((fail_if_success refine G.tr ?_); exact G.prop S.p)
    | fail) <;> (try simp only [WKb, ↓reduceIte, Nat.reduceEqDiff]))))
  all_goals
    apply Tr.fin hK ⟨_, rfl, rfl⟩
    have hd : (⟨⟨none, 0, 0⟩, []⟩ : Msg) = default := rfl
    ((try clear hK) <;> (try simp only [WKe, FlagG.mk', *]) <;> repeat (first | with_reducible exact EntR.done | refine S.e ?_ | (refine S.f ?_ <;> (try simp only [WKe, FlagG.mk', ↓reduceIte, reduceCtorEq, Int.reduceEq, *])) | with_reducible apply EntR.ex | refine EntR.drop (F := F) ?_ | refine EntR.drop ?_))

theorem flag_some {s : SV} {cs : List Bool} : Trip Try.prog 118 [s.v, .int .i64 8, .func (.func 119) #[] #[]].toArray [sl false s.v cs]
    fun v l' => ∃ (s1 : SV) (gs : List FlagG), gs.map FlagG.mo = (cs.take 8).map flagM ∧ v = .agg #[s1.v] ∧ l' = [sl false s1.v (gs.map FlagG.pt), fam flagA gs] := by
  intro F K hK
  simp only [List.cons_append, List.nil_append]
  refine Tr.freezeSl ?_
  have hmin : (if (8 : Int) < cs.length then (8 : Int) else cs.length) = ((min 8 cs.length : Nat) : Int) := if_min (n := 8)
  (refine Tr.enter (rs := [.cell 6 117]) mixed fn118 rfl (by simp +arith [Try.ntmps118]) fun u => ?_; simp only [cd118, Try.f118])
  ((try simp only [WKb, Nat.reduceAdd]) <;> (repeat' ((first
    | (refine G.tr ?_; first | refine S.a ?_ | refine Tr.brK ?_ ?_ | refine S.n fun _ => ?_ | refine S.i fun hix => ?_ | (refine S.g fun hb => ?_; (try simp only [hb])) | (refine S.s (fun hb => ?_) (fun hb => ?_) <;> ((try simp only [hb]) <;> (try (have hp := hb; simp only [WKs] at hp; (try have hq := Int.not_le.2 hp); (try have hq := Int.not_lt.2 hp))))))
    | ((fail_if_success refine G.tr ?_); exact G.prop S.p)
    | fail) <;> (try simp only [WKb, ↓reduceIte, Nat.reduceEqDiff, hmin]))))
  rename_i c6 c7 s1
  refine Tr.loopE (α := Nat × SV × List FlagG) [17] [2, 6, 7, 15, 16] (fun x => [.int .i64 x.1]) (fun x => [blk c7 (.cells [x.2.1.v].toArray 117 (0, 0)), sl false x.2.1.v (x.2.2.map FlagG.pt), fam flagA x.2.2]) (fun x => x.1 ≤ min 8 cs.length ∧ x.2.2.length = x.1 ∧ x.2.2.map FlagG.mo = (cs.take x.1).map flagM) (fun x => min 8 cs.length - x.1) (0, ⟨none, 0, 0⟩, []) (by (repeat (first | exact TakeL.nil | (apply TakeL.cons; focus ((first | exact TakeA.dupS | exact TakeA.dupF | ((repeat (first | with_reducible exact TakeA.here | exact TakeA.fam (by omega) (by omega) | with_reducible apply TakeA.next)); done) | ((repeat (first | exact TakeA.here | apply TakeA.next)); done) | exact TakeA.famNil | exact TakeA.nilS))) | fail)); done) rfl ⟨by omega, rfl, rfl⟩ fun x u hx => ?_
  obtain ⟨k, s2, gs⟩ := x
  simp only at hx ⊢
  obtain ⟨hk, hl, hm⟩ := hx
  have hlt : (cs.take (((min 8 cs.length : Nat) : Int)).toNat).length = min 8 cs.length := by simp
  have hlm : (gs.map FlagG.pt).length = k := by simp [hl]
  by_cases hkn : k < min 8 cs.length
  · have hw := wrapSucc (k := k) (by omega)
    have hxt : ix (cs.take (((min 8 cs.length : Nat) : Int)).toNat) (k : Int) = ix cs (k : Int) := ix_take (by simp; omega)
    have hmk : ∀ b, (gs ++ [FlagG.mk' b (ix cs (k : Int))]).map FlagG.mo = (cs.take (k + 1)).map flagM := fun b => by rw [take_ix (by omega), List.map_append, List.map_append, hm]; rfl
    
    ((try simp only [WKb, ↓reduceIte, Nat.reduceEqDiff]) <;> (repeat' ((first
    | (refine G.tr ?_; first | refine S.a ?_ | refine Tr.brK ?_ ?_ | (refine G.call 119 ?_; refine S.c ?_ (h := flag_made)) | refine S.n fun _ => ?_ | refine S.i fun hix => ?_ | (refine S.g fun hb => ?_; (try simp only [hb])) | (refine S.s (fun hb => ?_) (fun hb => ?_) <;> ((try simp only [hb]) <;> (try (have hp := hb; simp only [WKs] at hp; (try have hq := Int.not_le.2 hp); (try have hq := Int.not_lt.2 hp))))))
    | rintro _ _ ⟨_, rfl, rfl⟩
    | ((fail_if_success refine G.tr ?_); exact G.prop S.p)
    | fail) <;> (try simp only [WKb, ↓reduceIte, Nat.reduceEqDiff, pl118, hw, hxt]))))
    all_goals
      rename_i _ bw _ _
      have hmk' := hmk bw
      have hln : (gs ++ [FlagG.mk' bw (ix cs (k : Int))]).length = k + 1 := by simp [hl]
      (apply Tr.againE (k + 1, _, gs ++ [FlagG.mk' bw (ix cs (k : Int))]); (focus (simp only [WKb, ↓reduceIte, Nat.reduceEqDiff])); (focus ((try simp only [WKb, ↓reduceIte]); (all_goals ((repeat (refine cons_eq (by first | rfl | ((try clear hK) <;> first | (simp [*, List.map_append, List.map_cons, List.map_nil, FlagG.pt, FlagG.mk', hw]; done) | (simp [*, List.map_append, List.map_cons, List.map_nil, FlagG.pt, FlagG.mk', hw]; omega) | (simp [*, List.map_append, List.map_cons, List.map_nil, FlagG.pt, FlagG.mk', hw] <;> (try split) <;> simp_all <;> omega))) ?_)); rfl)); done)); (focus (first | omega | assumption | (simp only []; omega) | (refine ⟨by omega, by assumption⟩) | (simp only []; refine ⟨by omega, by assumption⟩) | ((try simp only []); (repeat' (first | omega | assumption | refine And.intro ?_ ?_)); done))); (focus (first | omega | (simp only []; omega))); (focus (((try clear hK) <;> (try simp only [WKe, List.map_append, List.map_cons, List.map_nil, FlagG.pt, FlagG.mk', *]) <;> repeat (first | with_reducible exact EntR.done | refine S.e ?_ | (refine S.f ?_ <;> (try simp only [WKe, List.map_append, List.map_cons, List.map_nil, FlagG.pt, FlagG.mk', hw, ↓reduceIte, reduceCtorEq, Int.reduceEq, *])) | with_reducible apply EntR.ex | refine EntR.drop (F := F) ?_ | refine EntR.drop ?_)))))
  · have hkk : k = min 8 cs.length := by omega
    ((try simp only [WKb, ↓reduceIte, Nat.reduceEqDiff]) <;> (repeat' ((first
    | (refine G.tr ?_; first | refine S.a ?_ | refine Tr.brK ?_ ?_ | (refine G.call 119 ?_; refine S.c ?_ (h := flag_made)) | refine S.n fun _ => ?_ | refine S.i fun hix => ?_ | (refine S.g fun hb => ?_; (try simp only [hb])) | (refine S.s (fun hb => ?_) (fun hb => ?_) <;> ((try simp only [hb]) <;> (try (have hp := hb; simp only [WKs] at hp; (try have hq := Int.not_le.2 hp); (try have hq := Int.not_lt.2 hp))))))
    | rintro _ _ ⟨_, rfl, rfl⟩
    | ((fail_if_success refine G.tr ?_); exact G.prop S.p)
    | fail) <;> (try simp only [WKb, ↓reduceIte, Nat.reduceEqDiff]))))
    all_goals
      apply Tr.fin hK ⟨_, gs, by rw [hm, hkk, take_minlen], rfl, rfl⟩
      ((try clear hK) <;> (try simp only [WKe, *]) <;> repeat (first | with_reducible exact EntR.done | refine S.e ?_ | (refine S.f ?_ <;> (try simp only [WKe, ↓reduceIte, reduceCtorEq, Int.reduceEq, *])) | with_reducible apply EntR.ex | refine EntR.drop (F := F) ?_ | refine EntR.drop ?_))
theorem pool_made {c : PoolC} : Trip Try.prog 121 [.agg (En.enc c).toArray].toArray [] fun v l' => ∃ b, v = .pointer (some ⟨b, 0, none⟩) ∧ l' = [poolA (PoolG.mk' b c)] := by
  intro F K hK
  simp only [List.nil_append]
  (refine Tr.enter (rs := [.tmp 2]) mixed fn121 rfl (by simp +arith [Try.ntmps121]) fun u => ?_; simp only [cd121, Try.f121])
  ((try simp only [WKb, ↓reduceIte]) <;> (repeat' ((first
    | (refine G.tr ?_; first | refine S.a ?_ | refine Tr.brK ?_ ?_ | refine S.n fun _ => ?_ | refine S.i fun hix => ?_ | (refine S.g fun hb => ?_; (try simp only [hb])) | (refine S.s (fun hb => ?_) (fun hb => ?_) <;> ((try simp only [hb]) <;> (try (have hp := hb; simp only [WKs] at hp; (try have hq := Int.not_le.2 hp); (try have hq := Int.not_lt.2 hp))))))
    | ((fail_if_success refine G.tr ?_); exact G.prop S.p)
    | fail) <;> (try simp only [WKb, WKh, ↓reduceIte, Nat.reduceEqDiff]))))
  all_goals
    apply Tr.fin hK ⟨_, rfl, rfl⟩
    have hd : (⟨⟨none, 0, 0⟩, []⟩ : Msg) = default := rfl
    ((try clear hK) <;> (try simp only [WKe, PoolG.mk', *]) <;> repeat (first | with_reducible exact EntR.done | refine S.e ?_ | (refine S.f ?_ <;> (try simp only [WKe, PoolG.mk', ↓reduceIte, reduceCtorEq, Int.reduceEq, *])) | with_reducible apply EntR.ex | refine EntR.drop (F := F) ?_ | refine EntR.drop ?_))

theorem pool_some {s : SV} {cs : List PoolC} : Trip Try.prog 120 [s.v, .int .i64 4, .func (.func 121) #[] #[]].toArray [sl true s.v cs]
    fun v l' => ∃ (s1 : SV) (gs : List PoolG), gs.map PoolG.mo = (cs.take 4).map poolM ∧ v = .agg #[s1.v] ∧ l' = [sl false s1.v (gs.map PoolG.pt), fam poolA gs] := by
  intro F K hK
  simp only [List.cons_append, List.nil_append]
  have hmin : (if (4 : Int) < cs.length then (4 : Int) else cs.length) = ((min 4 cs.length : Nat) : Int) := if_min (n := 4)
  (refine Tr.enter (rs := [.cell 6 120]) mixed fn120 rfl (by simp +arith [Try.ntmps120]) fun u => ?_; simp only [cd120, Try.f120])
  ((try simp only [WKb, Nat.reduceAdd]) <;> (repeat' ((first
    | (refine G.tr ?_; first | refine S.a ?_ | refine Tr.brK ?_ ?_ | refine S.n fun _ => ?_ | refine S.i fun hix => ?_ | (refine S.g fun hb => ?_; (try simp only [hb])) | (refine S.s (fun hb => ?_) (fun hb => ?_) <;> ((try simp only [hb]) <;> (try (have hp := hb; simp only [WKs] at hp; (try have hq := Int.not_le.2 hp); (try have hq := Int.not_lt.2 hp))))))
    | ((fail_if_success refine G.tr ?_); exact G.prop S.p)
    | fail) <;> (try simp only [WKb, ↓reduceIte, Nat.reduceEqDiff, hmin]))))
  rename_i c6 c7 s1
  refine Tr.loopE (α := Nat × SV × List PoolG) [17] [2, 6, 7, 15, 16] (fun x => [.int .i64 x.1]) (fun x => [blk c7 (.cells [x.2.1.v].toArray 120 (0, 0)), sl false x.2.1.v (x.2.2.map PoolG.pt), fam poolA x.2.2]) (fun x => x.1 ≤ min 4 cs.length ∧ x.2.2.length = x.1 ∧ x.2.2.map PoolG.mo = (cs.take x.1).map poolM) (fun x => min 4 cs.length - x.1) (0, ⟨none, 0, 0⟩, []) (by (repeat (first | exact TakeL.nil | (apply TakeL.cons; focus ((first | exact TakeA.dupS | exact TakeA.dupF | ((repeat (first | with_reducible exact TakeA.here | exact TakeA.fam (by omega) (by omega) | with_reducible apply TakeA.next)); done) | ((repeat (first | exact TakeA.here | apply TakeA.next)); done) | exact TakeA.famNil | exact TakeA.nilS))) | fail)); done) rfl ⟨by omega, rfl, rfl⟩ fun x u hx => ?_
  obtain ⟨k, s2, gs⟩ := x
  simp only at hx ⊢
  obtain ⟨hk, hl, hm⟩ := hx
  have hlt : (cs.take (((min 4 cs.length : Nat) : Int)).toNat).length = min 4 cs.length := by simp
  have hlm : (gs.map PoolG.pt).length = k := by simp [hl]
  by_cases hkn : k < min 4 cs.length
  · have hw := wrapSucc (k := k) (by omega)
    have hxt : ix (cs.take (((min 4 cs.length : Nat) : Int)).toNat) (k : Int) = ix cs (k : Int) := ix_take (by simp; omega)
    have hmk : ∀ b, (gs ++ [PoolG.mk' b (ix cs (k : Int))]).map PoolG.mo = (cs.take (k + 1)).map poolM := fun b => by rw [take_ix (by omega), List.map_append, List.map_append, hm]; rfl
    
    ((try simp only [WKb, ↓reduceIte, Nat.reduceEqDiff]) <;> (repeat' ((first
    | (refine G.tr ?_; first | refine S.a ?_ | refine Tr.brK ?_ ?_ | (refine G.call 121 ?_; refine S.c ?_ (h := pool_made)) | refine S.n fun _ => ?_ | refine S.i fun hix => ?_ | (refine S.g fun hb => ?_; (try simp only [hb])) | (refine S.s (fun hb => ?_) (fun hb => ?_) <;> ((try simp only [hb]) <;> (try (have hp := hb; simp only [WKs] at hp; (try have hq := Int.not_le.2 hp); (try have hq := Int.not_lt.2 hp))))))
    | rintro _ _ ⟨_, rfl, rfl⟩
    | ((fail_if_success refine G.tr ?_); exact G.prop S.p)
    | fail) <;> (try simp only [WKb, ↓reduceIte, Nat.reduceEqDiff, pl120, hw, hxt]))))
    all_goals
      rename_i _ bw _ _
      have hmk' := hmk bw
      have hln : (gs ++ [PoolG.mk' bw (ix cs (k : Int))]).length = k + 1 := by simp [hl]
      (apply Tr.againE (k + 1, _, gs ++ [PoolG.mk' bw (ix cs (k : Int))]); (focus (simp only [WKb, ↓reduceIte, Nat.reduceEqDiff])); (focus ((try simp only [WKb, ↓reduceIte]); (all_goals ((repeat (refine cons_eq (by first | rfl | ((try clear hK) <;> first | (simp [*, List.map_append, List.map_cons, List.map_nil, PoolG.pt, PoolG.mk', hw]; done) | (simp [*, List.map_append, List.map_cons, List.map_nil, PoolG.pt, PoolG.mk', hw]; omega) | (simp [*, List.map_append, List.map_cons, List.map_nil, PoolG.pt, PoolG.mk', hw] <;> (try split) <;> simp_all <;> omega))) ?_)); rfl)); done)); (focus (first | omega | assumption | (simp only []; omega) | (refine ⟨by omega, by assumption⟩) | (simp only []; refine ⟨by omega, by assumption⟩) | ((try simp only []); (repeat' (first | omega | assumption | refine And.intro ?_ ?_)); done))); (focus (first | omega | (simp only []; omega))); (focus (((try clear hK) <;> (try simp only [WKe, List.map_append, List.map_cons, List.map_nil, PoolG.pt, PoolG.mk', *]) <;> repeat (first | with_reducible exact EntR.done | refine S.e ?_ | (refine S.f ?_ <;> (try simp only [WKe, List.map_append, List.map_cons, List.map_nil, PoolG.pt, PoolG.mk', hw, ↓reduceIte, reduceCtorEq, Int.reduceEq, *])) | with_reducible apply EntR.ex | refine EntR.drop (F := F) ?_ | refine EntR.drop ?_)))))
  · have hkk : k = min 4 cs.length := by omega
    ((try simp only [WKb, ↓reduceIte, Nat.reduceEqDiff]) <;> (repeat' ((first
    | (refine G.tr ?_; first | refine S.a ?_ | refine Tr.brK ?_ ?_ | (refine G.call 121 ?_; refine S.c ?_ (h := pool_made)) | refine S.n fun _ => ?_ | refine S.i fun hix => ?_ | (refine S.g fun hb => ?_; (try simp only [hb])) | (refine S.s (fun hb => ?_) (fun hb => ?_) <;> ((try simp only [hb]) <;> (try (have hp := hb; simp only [WKs] at hp; (try have hq := Int.not_le.2 hp); (try have hq := Int.not_lt.2 hp))))))
    | rintro _ _ ⟨_, rfl, rfl⟩
    | ((fail_if_success refine G.tr ?_); exact G.prop S.p)
    | fail) <;> (try simp only [WKb, ↓reduceIte, Nat.reduceEqDiff]))))
    all_goals
      apply Tr.fin hK ⟨_, gs, by rw [hm, hkk, take_minlen], rfl, rfl⟩
      ((try clear hK) <;> (try simp only [WKe, *]) <;> repeat (first | with_reducible exact EntR.done | refine S.e ?_ | (refine S.f ?_ <;> (try simp only [WKe, ↓reduceIte, reduceCtorEq, Int.reduceEq, *])) | with_reducible apply EntR.ex | refine EntR.drop (F := F) ?_ | refine EntR.drop ?_))
theorem slate_made {c : Int} : Trip Try.prog 123 [.int .i64 c].toArray [] fun v l' => ∃ b, v = .pointer (some ⟨b, 0, none⟩) ∧ l' = [slateA (SlateG.mk' b c)] := by
  intro F K hK
  simp only [List.nil_append]
  (refine Tr.enter (rs := [.tmp 2]) mixed fn123 rfl (by simp +arith [Try.ntmps123]) fun u => ?_; simp only [cd123, Try.f123])
  ((try simp only [WKb, ↓reduceIte, Nat.reduceEqDiff]) <;> (repeat' ((first
    | (refine G.tr ?_; first | refine S.a ?_ | refine Tr.brK ?_ ?_ | refine S.n fun _ => ?_ | refine S.i fun hix => ?_ | (refine S.g fun hb => ?_; (try simp only [hb])) | (refine S.s (fun hb => ?_) (fun hb => ?_) <;> ((try simp only [hb]) <;> (try (have hp := hb; simp only [WKs] at hp; (try have hq := Int.not_le.2 hp); (try have hq := Int.not_lt.2 hp))))))
    | ((fail_if_success refine G.tr ?_); exact G.prop S.p)
    | fail) <;> (try simp only [WKb, WKh, ↓reduceIte]))))
  all_goals
    apply Tr.fin hK ⟨_, rfl, rfl⟩
    have hd : (⟨⟨none, 0, 0⟩, []⟩ : Msg) = default := rfl
    ((try clear hK) <;> (try simp only [WKe, SlateG.mk', *]) <;> repeat (first | with_reducible exact EntR.done | refine S.e ?_ | (refine S.f ?_ <;> (try simp only [WKe, SlateG.mk', ↓reduceIte, reduceCtorEq, Int.reduceEq, *])) | with_reducible apply EntR.ex | refine EntR.drop (F := F) ?_ | refine EntR.drop ?_))

theorem slate_some {s : SV} {cs : List Int} : Trip Try.prog 122 [s.v, .int .i64 4, .func (.func 123) #[] #[]].toArray [sl true s.v cs]
    fun v l' => ∃ (s1 : SV) (gs : List SlateG), gs.map SlateG.mo = (cs.take 4).map slateM ∧ v = .agg #[s1.v] ∧ l' = [sl false s1.v (gs.map SlateG.pt), fam slateA gs] := by
  intro F K hK
  simp only [List.cons_append, List.nil_append]
  have hmin : (if (4 : Int) < cs.length then (4 : Int) else cs.length) = ((min 4 cs.length : Nat) : Int) := if_min (n := 4)
  (refine Tr.enter (rs := [.cell 6 123]) mixed fn122 rfl (by simp +arith [Try.ntmps122]) fun u => ?_; simp only [cd122, Try.f122])
  ((try simp only [WKb, Nat.reduceAdd]) <;> (repeat' ((first
    | (refine G.tr ?_; first | refine S.a ?_ | refine Tr.brK ?_ ?_ | refine S.n fun _ => ?_ | refine S.i fun hix => ?_ | (refine S.g fun hb => ?_; (try simp only [hb])) | (refine S.s (fun hb => ?_) (fun hb => ?_) <;> ((try simp only [hb]) <;> (try (have hp := hb; simp only [WKs] at hp; (try have hq := Int.not_le.2 hp); (try have hq := Int.not_lt.2 hp))))))
    | ((fail_if_success refine G.tr ?_); exact G.prop S.p)
    | fail) <;> (try simp only [WKb, ↓reduceIte, Nat.reduceEqDiff, hmin]))))
  rename_i c6 c7 s1
  refine Tr.loopE (α := Nat × SV × List SlateG) [17] [2, 6, 7, 15, 16] (fun x => [.int .i64 x.1]) (fun x => [blk c7 (.cells [x.2.1.v].toArray 123 (0, 0)), sl false x.2.1.v (x.2.2.map SlateG.pt), fam slateA x.2.2]) (fun x => x.1 ≤ min 4 cs.length ∧ x.2.2.length = x.1 ∧ x.2.2.map SlateG.mo = (cs.take x.1).map slateM) (fun x => min 4 cs.length - x.1) (0, ⟨none, 0, 0⟩, []) (by (repeat (first | exact TakeL.nil | (apply TakeL.cons; focus ((first | exact TakeA.dupS | exact TakeA.dupF | ((repeat (first | with_reducible exact TakeA.here | exact TakeA.fam (by omega) (by omega) | with_reducible apply TakeA.next)); done) | ((repeat (first | exact TakeA.here | apply TakeA.next)); done) | exact TakeA.famNil | exact TakeA.nilS))) | fail)); done) rfl ⟨by omega, rfl, rfl⟩ fun x u hx => ?_
  obtain ⟨k, s2, gs⟩ := x
  simp only at hx ⊢
  obtain ⟨hk, hl, hm⟩ := hx
  have hlt : (cs.take (((min 4 cs.length : Nat) : Int)).toNat).length = min 4 cs.length := by simp
  have hlm : (gs.map SlateG.pt).length = k := by simp [hl]
  by_cases hkn : k < min 4 cs.length
  · have hw := wrapSucc (k := k) (by omega)
    have hxt : ix (cs.take (((min 4 cs.length : Nat) : Int)).toNat) (k : Int) = ix cs (k : Int) := ix_take (by simp; omega)
    have hmk : ∀ b, (gs ++ [SlateG.mk' b (ix cs (k : Int))]).map SlateG.mo = (cs.take (k + 1)).map slateM := fun b => by rw [take_ix (by omega), List.map_append, List.map_append, hm]; rfl
    
    ((try simp only [WKb, ↓reduceIte, Nat.reduceEqDiff]) <;> (repeat' ((first
    | (refine G.tr ?_; first | refine S.a ?_ | refine Tr.brK ?_ ?_ | (refine G.call 123 ?_; refine S.c ?_ (h := slate_made)) | refine S.n fun _ => ?_ | refine S.i fun hix => ?_ | (refine S.g fun hb => ?_; (try simp only [hb])) | (refine S.s (fun hb => ?_) (fun hb => ?_) <;> ((try simp only [hb]) <;> (try (have hp := hb; simp only [WKs] at hp; (try have hq := Int.not_le.2 hp); (try have hq := Int.not_lt.2 hp))))))
    | rintro _ _ ⟨_, rfl, rfl⟩
    | ((fail_if_success refine G.tr ?_); exact G.prop S.p)
    | fail) <;> (try simp only [WKb, ↓reduceIte, Nat.reduceEqDiff, pl122, hw, hxt]))))
    all_goals
      rename_i _ bw _ _
      have hmk' := hmk bw
      have hln : (gs ++ [SlateG.mk' bw (ix cs (k : Int))]).length = k + 1 := by simp [hl]
      (apply Tr.againE (k + 1, _, gs ++ [SlateG.mk' bw (ix cs (k : Int))]); (focus (simp only [WKb, ↓reduceIte, Nat.reduceEqDiff])); (focus ((try simp only [WKb, ↓reduceIte]); (all_goals ((repeat (refine cons_eq (by first | rfl | ((try clear hK) <;> first | (simp [*, List.map_append, List.map_cons, List.map_nil, SlateG.pt, SlateG.mk', hw]; done) | (simp [*, List.map_append, List.map_cons, List.map_nil, SlateG.pt, SlateG.mk', hw]; omega) | (simp [*, List.map_append, List.map_cons, List.map_nil, SlateG.pt, SlateG.mk', hw] <;> (try split) <;> simp_all <;> omega))) ?_)); rfl)); done)); (focus (first | omega | assumption | (simp only []; omega) | (refine ⟨by omega, by assumption⟩) | (simp only []; refine ⟨by omega, by assumption⟩) | ((try simp only []); (repeat' (first | omega | assumption | refine And.intro ?_ ?_)); done))); (focus (first | omega | (simp only []; omega))); (focus (((try clear hK) <;> (try simp only [WKe, List.map_append, List.map_cons, List.map_nil, SlateG.pt, SlateG.mk', *]) <;> repeat (first | with_reducible exact EntR.done | refine S.e ?_ | (refine S.f ?_ <;> (try simp only [WKe, List.map_append, List.map_cons, List.map_nil, SlateG.pt, SlateG.mk', hw, ↓reduceIte, reduceCtorEq, Int.reduceEq, *])) | with_reducible apply EntR.ex | refine EntR.drop (F := F) ?_ | refine EntR.drop ?_)))))
  · have hkk : k = min 4 cs.length := by omega
    ((try simp only [WKb, ↓reduceIte, Nat.reduceEqDiff]) <;> (repeat' ((first
    | (refine G.tr ?_; first | refine S.a ?_ | refine Tr.brK ?_ ?_ | (refine G.call 123 ?_; refine S.c ?_ (h := slate_made)) | refine S.n fun _ => ?_ | refine S.i fun hix => ?_ | (refine S.g fun hb => ?_; (try simp only [hb])) | (refine S.s (fun hb => ?_) (fun hb => ?_) <;> ((try simp only [hb]) <;> (try (have hp := hb; simp only [WKs] at hp; (try have hq := Int.not_le.2 hp); (try have hq := Int.not_lt.2 hp))))))
    | rintro _ _ ⟨_, rfl, rfl⟩
    | ((fail_if_success refine G.tr ?_); exact G.prop S.p)
    | fail) <;> (try simp only [WKb, ↓reduceIte, Nat.reduceEqDiff]))))
    all_goals
      apply Tr.fin hK ⟨_, gs, by rw [hm, hkk, take_minlen], rfl, rfl⟩
      ((try clear hK) <;> (try simp only [WKe, *]) <;> repeat (first | with_reducible exact EntR.done | refine S.e ?_ | (refine S.f ?_ <;> (try simp only [WKe, ↓reduceIte, reduceCtorEq, Int.reduceEq, *])) | with_reducible apply EntR.ex | refine EntR.drop (F := F) ?_ | refine EntR.drop ?_))
end Go.Proofs.Ytlmcoiloepoggaa
