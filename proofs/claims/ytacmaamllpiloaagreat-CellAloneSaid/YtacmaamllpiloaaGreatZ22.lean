import Derived.Test.YtacmaamllpiloaaGreatZ21
namespace Go.Proofs.YtacmaamllpiloaaGreat
open Go Go.Wk
set_option maxHeartbeats 800000
set_option maxRecDepth 10000
def SemG.mk' (b : Nat) (c : SemC) : SemG := ⟨b, c.first, c.most, c.first⟩
abbrev SemM := Int × Int × Int
def SemG.mo (g : SemG) : SemM := (g.first, g.most, g.count)
def semM (c : SemC) : SemM := (c.first, c.most, c.first)
def FlagG.mk' (b : Nat) (c : Bool) : FlagG := ⟨b, c⟩
abbrev FlagM := Bool
def FlagG.mo (g : FlagG) : FlagM := g.up
def flagM (c : Bool) : FlagM := c
def PoolG.mk' (b : Nat) (c : PoolC) : PoolG := ⟨b, c.size, c.depth, ⟨none, 0, 0⟩, []⟩
abbrev PoolM := Int × Int × List (List UInt8)
def PoolG.mo (g : PoolG) : PoolM := (g.size, g.depth, g.ms.map SL.d)
def poolM (c : PoolC) : PoolM := (c.size, c.depth, [])
def SlateG.mk' (b : Nat) (c : Int) : SlateG := ⟨b, c, default, false⟩
abbrev SlateM := Int × Option (List UInt8)
def SlateG.mo (g : SlateG) : SlateM := (g.size, if g.shown then some g.m.d else none)
def slateM (c : Int) : SlateM := (c, none)
attribute [local irreducible] BrK GenK EGenK EUnitK CallK FnK CallV GuardO GuardC CondW opX opK opKc chkR eqR seqK blkK endL WL WD W LoopW BinK Tr drewK resL PickK NotK NilK ExtrK getK Instr.storeAt Instr.loadAt Instr.fieldAt Instr.indexAt Instr.lookup Instr.mapUpdate Instr.box Instr.alloc Instr.build Instr.buildSlice Instr.makeSlice Instr.makeMap Instr.sliceAt Instr.field Instr.index Instr.makeInterface Instr.typeAssert Builtin.len_ Builtin.append_ Builtin.cap_ Builtin.min_ Builtin.max_ Builtin.copy_ Builtin.clear_ convert binOp mp blk rob sl sep ex fact old
theorem sem_made {c : SemC} : Trip Tryz.prog 187 [.agg (En.enc c).toArray].toArray [] fun v l' => ∃ b, v = .pointer (some ⟨b, 0, none⟩) ∧ l' = [semA (SemG.mk' b c)] := by
 intro F K hK
 simp only [List.nil_append]
 (refine Tr.enter (rs := [.tmp 2]) mixed fn187 rfl (by simp +arith [Tryz.ntmps187]) fun u => ?_; simp only [cd187, Tryz.f187])
 ((try simp only [WKb, ↓reduceIte]) <;> (repeat' ((first
  | (refine G.tr ?_; first | refine S.a ?_ | refine S.n fun _ => ?_ | fail)
  | fail) <;> (try simp only [WKb, WKh, ↓reduceIte, Nat.reduceEqDiff, Nat.reduceAdd]))))
 all_goals
  apply Tr.fin hK ⟨_, rfl, rfl⟩
  have hd : (⟨⟨none, 0, 0⟩, []⟩ : Msg) = default := rfl
  ((try clear hK) <;> (try simp only [WKe, SemG.mk', *]) <;> repeat (first | with_reducible exact EntR.done | refine S.e ?_ | refine EntR.drop (F := F) ?_ | fail))
theorem sem_some {s : SV} {cs : List SemC} : Trip Tryz.prog 186 [s.v, .int .i64 4, .func (.func 187) #[] #[]].toArray [sl true s.v cs]
  fun v l' => ∃ (s1 : SV) (gs : List SemG), gs.map SemG.mo = (cs.take 4).map semM ∧ v = .agg #[s1.v] ∧ l' = [sl false s1.v (gs.map SemG.pt), fam semA gs] := by
 intro F K hK
 simp only [List.cons_append, List.nil_append]
 have hmin : (if (4 : Int) < cs.length then (4 : Int) else cs.length) = ((min 4 cs.length : Nat) : Int) := if_min (n := 4)
 (refine Tr.enter (rs := [.cell 6 182]) mixed fn186 rfl (by simp +arith [Tryz.ntmps186]) fun u => ?_; simp only [cd186, Tryz.f186])
 ((try simp only [WKb, Nat.reduceAdd]) <;> (repeat' ((first
  | (refine G.tr ?_; first | refine S.a ?_ | refine S.n fun _ => ?_ | fail)
  | fail) <;> (try simp only [WKb, ↓reduceIte, Nat.reduceEqDiff, hmin]))))
 rename_i c6 c7 s1
 refine Tr.loopE (α := Nat × SV × List SemG) [17] [2, 6, 7, 15, 16] (fun x => [.int .i64 x.1]) (fun x => [blk c7 (.cells [x.2.1.v].toArray 182 (0, 0)), sl false x.2.1.v (x.2.2.map SemG.pt), fam semA x.2.2]) (fun x => x.1 ≤ min 4 cs.length ∧ x.2.2.length = x.1 ∧ x.2.2.map SemG.mo = (cs.take x.1).map semM) (fun x => min 4 cs.length - x.1) (0, ⟨none, 0, 0⟩, []) (by (repeat (first | exact TakeL.nil | (apply TakeL.cons; focus ((first | ((repeat (first | exact TakeA.here | apply TakeA.next)); done) | exact TakeA.famNil | exact TakeA.nilS))) | fail)); done) rfl ⟨by omega, rfl, rfl⟩ fun x u hx => ?_
 obtain ⟨k, s2, gs⟩ := x
 simp only at hx ⊢
 obtain ⟨hk, hl, hm⟩ := hx
 have hlt : (cs.take (((min 4 cs.length : Nat) : Int)).toNat).length = min 4 cs.length := by simp
 have hlm : (gs.map SemG.pt).length = k := by simp [hl]
 by_cases hkn : k < min 4 cs.length
 ·have hw := wrapSucc (k := k) (by omega)
  have hxt : ix (cs.take (((min 4 cs.length : Nat) : Int)).toNat) (k : Int) = ix cs (k : Int) := ix_take (by simp; omega)
  have hmk : ∀ b, (gs ++ [SemG.mk' b (ix cs (k : Int))]).map SemG.mo = (cs.take (k + 1)).map semM := fun b => by rw [take_ix (by omega), List.map_append, List.map_append, hm]; rfl
  ((try simp only [WKb, ↓reduceIte, Nat.reduceEqDiff]) <;> (repeat' ((first
  | (refine G.tr ?_; first | refine S.a ?_ | (refine G.call 187 ?_; refine S.c ?_ (h := sem_made)) | refine S.n fun _ => ?_ | refine S.i fun hix => ?_ | fail)
  | rintro _ _ ⟨_, rfl, rfl⟩
  | fail) <;> (try simp only [WKb, ↓reduceIte, Nat.reduceEqDiff, pl186, hw, hxt]))))
  all_goals
   rename_i _ bw _ _
   have hmk' := hmk bw
   have hln : (gs ++ [SemG.mk' bw (ix cs (k : Int))]).length = k + 1 := by simp [hl]
   (apply Tr.againE (k + 1, _, gs ++ [SemG.mk' bw (ix cs (k : Int))]); (focus (simp only [WKb, ↓reduceIte, Nat.reduceEqDiff])); (focus ((try simp only [WKb, ↓reduceIte]); (all_goals ((repeat (refine cons_eq (by first | rfl | ((try clear hK) <;> first | (simp [*, List.map_append, List.map_cons, List.map_nil, SemG.pt, SemG.mk', hw]; done) | (simp [*, List.map_append, List.map_cons, List.map_nil, SemG.pt, SemG.mk', hw]; omega) | (simp [*, List.map_append, List.map_cons, List.map_nil, SemG.pt, SemG.mk', hw] <;> (try split) <;> simp_all <;> omega))) ?_)); rfl)); done)); (focus (first | ((try simp only []); (repeat' (first | omega | refine And.intro ?_ ?_)); done))); (focus (first | omega | fail)); (focus (((try clear hK) <;> (try simp only [WKe, List.map_append, List.map_cons, List.map_nil, SemG.pt, SemG.mk', *]) <;> repeat (first | with_reducible exact EntR.done | refine S.e ?_ | (refine S.f ?_ <;> (try simp only [WKe, List.map_append, List.map_cons, List.map_nil, SemG.pt, SemG.mk', hw, ↓reduceIte, reduceCtorEq, Int.reduceEq, *])) | refine EntR.drop (F := F) ?_ | fail)))))
 ·have hkk : k = min 4 cs.length := by omega
  ((try simp only [WKb, ↓reduceIte, Nat.reduceEqDiff]) <;> (repeat' ((first
  | (refine G.tr ?_; first | refine S.a ?_ | fail)
  | fail) <;> (try simp only [WKb, ↓reduceIte, Nat.reduceEqDiff]))))
  all_goals
   apply Tr.fin hK ⟨_, gs, by rw [hm, hkk, take_minlen], rfl, rfl⟩
   ((try clear hK) <;> (try simp only [WKe, *]) <;> repeat (first | with_reducible exact EntR.done | refine S.e ?_ | refine EntR.drop (F := F) ?_ | fail))
theorem flag_made {c : Bool} : Trip Tryz.prog 189 [.bool c].toArray [] fun v l' => ∃ b, v = .pointer (some ⟨b, 0, none⟩) ∧ l' = [flagA (FlagG.mk' b c)] := by
 intro F K hK
 simp only [List.nil_append]
 (refine Tr.enter (rs := [.tmp 2]) mixed fn189 rfl (by simp +arith [Tryz.ntmps189]) fun u => ?_; simp only [cd189, Tryz.f189])
 ((try simp only [WKb, ↓reduceIte]) <;> (repeat' ((first
  | (refine G.tr ?_; first | refine S.n fun _ => ?_ | fail)
  | fail) <;> (try simp only [WKb, ↓reduceIte, Nat.reduceEqDiff]))))
 all_goals
  apply Tr.fin hK ⟨_, rfl, rfl⟩
  have hd : (⟨⟨none, 0, 0⟩, []⟩ : Msg) = default := rfl
  ((try clear hK) <;> (try simp only [WKe, FlagG.mk', *]) <;> repeat (first | with_reducible exact EntR.done | fail))
theorem flag_some {s : SV} {cs : List Bool} : Trip Tryz.prog 188 [s.v, .int .i64 8, .func (.func 189) #[] #[]].toArray [sl false s.v cs]
  fun v l' => ∃ (s1 : SV) (gs : List FlagG), gs.map FlagG.mo = (cs.take 8).map flagM ∧ v = .agg #[s1.v] ∧ l' = [sl false s1.v (gs.map FlagG.pt), fam flagA gs] := by
 intro F K hK
 simp only [List.cons_append, List.nil_append]
 refine Tr.freezeSl ?_
 have hmin : (if (8 : Int) < cs.length then (8 : Int) else cs.length) = ((min 8 cs.length : Nat) : Int) := if_min (n := 8)
 (refine Tr.enter (rs := [.cell 6 185]) mixed fn188 rfl (by simp +arith [Tryz.ntmps188]) fun u => ?_; simp only [cd188, Tryz.f188])
 ((try simp only [WKb, Nat.reduceAdd]) <;> (repeat' ((first
  | (refine G.tr ?_; first | refine S.a ?_ | refine S.n fun _ => ?_ | fail)
  | fail) <;> (try simp only [WKb, ↓reduceIte, Nat.reduceEqDiff, hmin]))))
 rename_i c6 c7 s1
 refine Tr.loopE (α := Nat × SV × List FlagG) [17] [2, 6, 7, 15, 16] (fun x => [.int .i64 x.1]) (fun x => [blk c7 (.cells [x.2.1.v].toArray 185 (0, 0)), sl false x.2.1.v (x.2.2.map FlagG.pt), fam flagA x.2.2]) (fun x => x.1 ≤ min 8 cs.length ∧ x.2.2.length = x.1 ∧ x.2.2.map FlagG.mo = (cs.take x.1).map flagM) (fun x => min 8 cs.length - x.1) (0, ⟨none, 0, 0⟩, []) (by (repeat (first | exact TakeL.nil | (apply TakeL.cons; focus ((first | ((repeat (first | exact TakeA.here | apply TakeA.next)); done) | exact TakeA.famNil | exact TakeA.nilS))) | fail)); done) rfl ⟨by omega, rfl, rfl⟩ fun x u hx => ?_
 obtain ⟨k, s2, gs⟩ := x
 simp only at hx ⊢
 obtain ⟨hk, hl, hm⟩ := hx
 have hlt : (cs.take (((min 8 cs.length : Nat) : Int)).toNat).length = min 8 cs.length := by simp
 have hlm : (gs.map FlagG.pt).length = k := by simp [hl]
 by_cases hkn : k < min 8 cs.length
 ·have hw := wrapSucc (k := k) (by omega)
  have hxt : ix (cs.take (((min 8 cs.length : Nat) : Int)).toNat) (k : Int) = ix cs (k : Int) := ix_take (by simp; omega)
  have hmk : ∀ b, (gs ++ [FlagG.mk' b (ix cs (k : Int))]).map FlagG.mo = (cs.take (k + 1)).map flagM := fun b => by rw [take_ix (by omega), List.map_append, List.map_append, hm]; rfl
  ((try simp only [WKb, ↓reduceIte, Nat.reduceEqDiff]) <;> (repeat' ((first
  | (refine G.tr ?_; first | refine S.a ?_ | (refine G.call 189 ?_; refine S.c ?_ (h := flag_made)) | refine S.n fun _ => ?_ | refine S.i fun hix => ?_ | fail)
  | rintro _ _ ⟨_, rfl, rfl⟩
  | fail) <;> (try simp only [WKb, ↓reduceIte, Nat.reduceEqDiff, pl188, hw, hxt]))))
  all_goals
   rename_i _ bw _ _
   have hmk' := hmk bw
   have hln : (gs ++ [FlagG.mk' bw (ix cs (k : Int))]).length = k + 1 := by simp [hl]
   (apply Tr.againE (k + 1, _, gs ++ [FlagG.mk' bw (ix cs (k : Int))]); (focus (simp only [WKb, ↓reduceIte, Nat.reduceEqDiff])); (focus ((try simp only [WKb, ↓reduceIte]); (all_goals ((repeat (refine cons_eq (by first | rfl | ((try clear hK) <;> first | (simp [*, List.map_append, List.map_cons, List.map_nil, FlagG.pt, FlagG.mk', hw]; done) | (simp [*, List.map_append, List.map_cons, List.map_nil, FlagG.pt, FlagG.mk', hw]; omega) | (simp [*, List.map_append, List.map_cons, List.map_nil, FlagG.pt, FlagG.mk', hw] <;> (try split) <;> simp_all <;> omega))) ?_)); rfl)); done)); (focus (first | ((try simp only []); (repeat' (first | omega | refine And.intro ?_ ?_)); done))); (focus (first | omega | fail)); (focus (((try clear hK) <;> (try simp only [WKe, List.map_append, List.map_cons, List.map_nil, FlagG.pt, FlagG.mk', *]) <;> repeat (first | with_reducible exact EntR.done | refine S.e ?_ | (refine S.f ?_ <;> (try simp only [WKe, List.map_append, List.map_cons, List.map_nil, FlagG.pt, FlagG.mk', hw, ↓reduceIte, reduceCtorEq, Int.reduceEq, *])) | refine EntR.drop (F := F) ?_ | fail)))))
 ·have hkk : k = min 8 cs.length := by omega
  ((try simp only [WKb, ↓reduceIte, Nat.reduceEqDiff]) <;> (repeat' ((first
  | (refine G.tr ?_; first | refine S.a ?_ | fail)
  | fail) <;> (try simp only [WKb, ↓reduceIte, Nat.reduceEqDiff]))))
  all_goals
   apply Tr.fin hK ⟨_, gs, by rw [hm, hkk, take_minlen], rfl, rfl⟩
   ((try clear hK) <;> (try simp only [WKe, *]) <;> repeat (first | with_reducible exact EntR.done | refine S.e ?_ | refine EntR.drop (F := F) ?_ | fail))
theorem pool_made {c : PoolC} : Trip Tryz.prog 191 [.agg (En.enc c).toArray].toArray [] fun v l' => ∃ b, v = .pointer (some ⟨b, 0, none⟩) ∧ l' = [poolA (PoolG.mk' b c)] := by
 intro F K hK
 simp only [List.nil_append]
 (refine Tr.enter (rs := [.tmp 2]) mixed fn191 rfl (by simp +arith [Tryz.ntmps191]) fun u => ?_; simp only [cd191, Tryz.f191])
 ((try simp only [WKb, ↓reduceIte]) <;> (repeat' ((first
  | (refine G.tr ?_; first | refine S.a ?_ | refine S.n fun _ => ?_ | fail)
  | fail) <;> (try simp only [WKb, WKh, ↓reduceIte, Nat.reduceEqDiff]))))
 all_goals
  apply Tr.fin hK ⟨_, rfl, rfl⟩
  have hd : (⟨⟨none, 0, 0⟩, []⟩ : Msg) = default := rfl
  ((try clear hK) <;> (try simp only [WKe, PoolG.mk', *]) <;> repeat (first | with_reducible exact EntR.done | refine S.e ?_ | refine EntR.drop (F := F) ?_ | fail))
theorem pool_some {s : SV} {cs : List PoolC} : Trip Tryz.prog 190 [s.v, .int .i64 4, .func (.func 191) #[] #[]].toArray [sl true s.v cs]
  fun v l' => ∃ (s1 : SV) (gs : List PoolG), gs.map PoolG.mo = (cs.take 4).map poolM ∧ v = .agg #[s1.v] ∧ l' = [sl false s1.v (gs.map PoolG.pt), fam poolA gs] := by
 intro F K hK
 simp only [List.cons_append, List.nil_append]
 have hmin : (if (4 : Int) < cs.length then (4 : Int) else cs.length) = ((min 4 cs.length : Nat) : Int) := if_min (n := 4)
 (refine Tr.enter (rs := [.cell 6 188]) mixed fn190 rfl (by simp +arith [Tryz.ntmps190]) fun u => ?_; simp only [cd190, Tryz.f190])
 ((try simp only [WKb, Nat.reduceAdd]) <;> (repeat' ((first
  | (refine G.tr ?_; first | refine S.a ?_ | refine S.n fun _ => ?_ | fail)
  | fail) <;> (try simp only [WKb, ↓reduceIte, Nat.reduceEqDiff, hmin]))))
 rename_i c6 c7 s1
 refine Tr.loopE (α := Nat × SV × List PoolG) [17] [2, 6, 7, 15, 16] (fun x => [.int .i64 x.1]) (fun x => [blk c7 (.cells [x.2.1.v].toArray 188 (0, 0)), sl false x.2.1.v (x.2.2.map PoolG.pt), fam poolA x.2.2]) (fun x => x.1 ≤ min 4 cs.length ∧ x.2.2.length = x.1 ∧ x.2.2.map PoolG.mo = (cs.take x.1).map poolM) (fun x => min 4 cs.length - x.1) (0, ⟨none, 0, 0⟩, []) (by (repeat (first | exact TakeL.nil | (apply TakeL.cons; focus ((first | ((repeat (first | exact TakeA.here | apply TakeA.next)); done) | exact TakeA.famNil | exact TakeA.nilS))) | fail)); done) rfl ⟨by omega, rfl, rfl⟩ fun x u hx => ?_
 obtain ⟨k, s2, gs⟩ := x
 simp only at hx ⊢
 obtain ⟨hk, hl, hm⟩ := hx
 have hlt : (cs.take (((min 4 cs.length : Nat) : Int)).toNat).length = min 4 cs.length := by simp
 have hlm : (gs.map PoolG.pt).length = k := by simp [hl]
 by_cases hkn : k < min 4 cs.length
 ·have hw := wrapSucc (k := k) (by omega)
  have hxt : ix (cs.take (((min 4 cs.length : Nat) : Int)).toNat) (k : Int) = ix cs (k : Int) := ix_take (by simp; omega)
  have hmk : ∀ b, (gs ++ [PoolG.mk' b (ix cs (k : Int))]).map PoolG.mo = (cs.take (k + 1)).map poolM := fun b => by rw [take_ix (by omega), List.map_append, List.map_append, hm]; rfl
  ((try simp only [WKb, ↓reduceIte, Nat.reduceEqDiff]) <;> (repeat' ((first
  | (refine G.tr ?_; first | refine S.a ?_ | (refine G.call 191 ?_; refine S.c ?_ (h := pool_made)) | refine S.n fun _ => ?_ | refine S.i fun hix => ?_ | fail)
  | rintro _ _ ⟨_, rfl, rfl⟩
  | fail) <;> (try simp only [WKb, ↓reduceIte, Nat.reduceEqDiff, pl190, hw, hxt]))))
  all_goals
   rename_i _ bw _ _
   have hmk' := hmk bw
   have hln : (gs ++ [PoolG.mk' bw (ix cs (k : Int))]).length = k + 1 := by simp [hl]
   (apply Tr.againE (k + 1, _, gs ++ [PoolG.mk' bw (ix cs (k : Int))]); (focus (simp only [WKb, ↓reduceIte, Nat.reduceEqDiff])); (focus ((try simp only [WKb, ↓reduceIte]); (all_goals ((repeat (refine cons_eq (by first | rfl | ((try clear hK) <;> first | (simp [*, List.map_append, List.map_cons, List.map_nil, PoolG.pt, PoolG.mk', hw]; done) | (simp [*, List.map_append, List.map_cons, List.map_nil, PoolG.pt, PoolG.mk', hw]; omega) | (simp [*, List.map_append, List.map_cons, List.map_nil, PoolG.pt, PoolG.mk', hw] <;> (try split) <;> simp_all <;> omega))) ?_)); rfl)); done)); (focus (first | ((try simp only []); (repeat' (first | omega | refine And.intro ?_ ?_)); done))); (focus (first | omega | fail)); (focus (((try clear hK) <;> (try simp only [WKe, List.map_append, List.map_cons, List.map_nil, PoolG.pt, PoolG.mk', *]) <;> repeat (first | with_reducible exact EntR.done | refine S.e ?_ | (refine S.f ?_ <;> (try simp only [WKe, List.map_append, List.map_cons, List.map_nil, PoolG.pt, PoolG.mk', hw, ↓reduceIte, reduceCtorEq, Int.reduceEq, *])) | refine EntR.drop (F := F) ?_ | fail)))))
 ·have hkk : k = min 4 cs.length := by omega
  ((try simp only [WKb, ↓reduceIte, Nat.reduceEqDiff]) <;> (repeat' ((first
  | (refine G.tr ?_; first | refine S.a ?_ | fail)
  | fail) <;> (try simp only [WKb, ↓reduceIte, Nat.reduceEqDiff]))))
  all_goals
   apply Tr.fin hK ⟨_, gs, by rw [hm, hkk, take_minlen], rfl, rfl⟩
   ((try clear hK) <;> (try simp only [WKe, *]) <;> repeat (first | with_reducible exact EntR.done | refine S.e ?_ | refine EntR.drop (F := F) ?_ | fail))
theorem slate_made {c : Int} : Trip Tryz.prog 193 [.int .i64 c].toArray [] fun v l' => ∃ b, v = .pointer (some ⟨b, 0, none⟩) ∧ l' = [slateA (SlateG.mk' b c)] := by
 intro F K hK
 simp only [List.nil_append]
 (refine Tr.enter (rs := [.tmp 2]) mixed fn193 rfl (by simp +arith [Tryz.ntmps193]) fun u => ?_; simp only [cd193, Tryz.f193])
 ((try simp only [WKb, ↓reduceIte, Nat.reduceEqDiff]) <;> (repeat' ((first
  | (refine G.tr ?_; first | refine S.a ?_ | refine S.n fun _ => ?_ | fail)
  | fail) <;> (try simp only [WKb, WKh, ↓reduceIte]))))
 all_goals
  apply Tr.fin hK ⟨_, rfl, rfl⟩
  have hd : (⟨⟨none, 0, 0⟩, []⟩ : Msg) = default := rfl
  ((try clear hK) <;> (try simp only [WKe, SlateG.mk', *]) <;> repeat (first | with_reducible exact EntR.done | refine S.e ?_ | fail))
theorem slate_some {s : SV} {cs : List Int} : Trip Tryz.prog 192 [s.v, .int .i64 4, .func (.func 193) #[] #[]].toArray [sl true s.v cs]
  fun v l' => ∃ (s1 : SV) (gs : List SlateG), gs.map SlateG.mo = (cs.take 4).map slateM ∧ v = .agg #[s1.v] ∧ l' = [sl false s1.v (gs.map SlateG.pt), fam slateA gs] := by
 intro F K hK
 simp only [List.cons_append, List.nil_append]
 have hmin : (if (4 : Int) < cs.length then (4 : Int) else cs.length) = ((min 4 cs.length : Nat) : Int) := if_min (n := 4)
 (refine Tr.enter (rs := [.cell 6 191]) mixed fn192 rfl (by simp +arith [Tryz.ntmps192]) fun u => ?_; simp only [cd192, Tryz.f192])
 ((try simp only [WKb, Nat.reduceAdd]) <;> (repeat' ((first
  | (refine G.tr ?_; first | refine S.a ?_ | refine S.n fun _ => ?_ | fail)
  | fail) <;> (try simp only [WKb, ↓reduceIte, Nat.reduceEqDiff, hmin]))))
 rename_i c6 c7 s1
 refine Tr.loopE (α := Nat × SV × List SlateG) [17] [2, 6, 7, 15, 16] (fun x => [.int .i64 x.1]) (fun x => [blk c7 (.cells [x.2.1.v].toArray 191 (0, 0)), sl false x.2.1.v (x.2.2.map SlateG.pt), fam slateA x.2.2]) (fun x => x.1 ≤ min 4 cs.length ∧ x.2.2.length = x.1 ∧ x.2.2.map SlateG.mo = (cs.take x.1).map slateM) (fun x => min 4 cs.length - x.1) (0, ⟨none, 0, 0⟩, []) (by (repeat (first | exact TakeL.nil | (apply TakeL.cons; focus ((first | ((repeat (first | exact TakeA.here | apply TakeA.next)); done) | exact TakeA.famNil | exact TakeA.nilS))) | fail)); done) rfl ⟨by omega, rfl, rfl⟩ fun x u hx => ?_
 obtain ⟨k, s2, gs⟩ := x
 simp only at hx ⊢
 obtain ⟨hk, hl, hm⟩ := hx
 have hlt : (cs.take (((min 4 cs.length : Nat) : Int)).toNat).length = min 4 cs.length := by simp
 have hlm : (gs.map SlateG.pt).length = k := by simp [hl]
 by_cases hkn : k < min 4 cs.length
 ·have hw := wrapSucc (k := k) (by omega)
  have hxt : ix (cs.take (((min 4 cs.length : Nat) : Int)).toNat) (k : Int) = ix cs (k : Int) := ix_take (by simp; omega)
  have hmk : ∀ b, (gs ++ [SlateG.mk' b (ix cs (k : Int))]).map SlateG.mo = (cs.take (k + 1)).map slateM := fun b => by rw [take_ix (by omega), List.map_append, List.map_append, hm]; rfl
  ((try simp only [WKb, ↓reduceIte, Nat.reduceEqDiff]) <;> (repeat' ((first
  | (refine G.tr ?_; first | refine S.a ?_ | (refine G.call 193 ?_; refine S.c ?_ (h := slate_made)) | refine S.n fun _ => ?_ | refine S.i fun hix => ?_ | fail)
  | rintro _ _ ⟨_, rfl, rfl⟩
  | fail) <;> (try simp only [WKb, ↓reduceIte, Nat.reduceEqDiff, pl192, hw, hxt]))))
  all_goals
   rename_i _ bw _ _
   have hmk' := hmk bw
   have hln : (gs ++ [SlateG.mk' bw (ix cs (k : Int))]).length = k + 1 := by simp [hl]
   (apply Tr.againE (k + 1, _, gs ++ [SlateG.mk' bw (ix cs (k : Int))]); (focus (simp only [WKb, ↓reduceIte, Nat.reduceEqDiff])); (focus ((try simp only [WKb, ↓reduceIte]); (all_goals ((repeat (refine cons_eq (by first | rfl | ((try clear hK) <;> first | (simp [*, List.map_append, List.map_cons, List.map_nil, SlateG.pt, SlateG.mk', hw]; done) | (simp [*, List.map_append, List.map_cons, List.map_nil, SlateG.pt, SlateG.mk', hw]; omega) | (simp [*, List.map_append, List.map_cons, List.map_nil, SlateG.pt, SlateG.mk', hw] <;> (try split) <;> simp_all <;> omega))) ?_)); rfl)); done)); (focus (first | ((try simp only []); (repeat' (first | omega | refine And.intro ?_ ?_)); done))); (focus (first | omega | fail)); (focus (((try clear hK) <;> (try simp only [WKe, List.map_append, List.map_cons, List.map_nil, SlateG.pt, SlateG.mk', *]) <;> repeat (first | with_reducible exact EntR.done | refine S.e ?_ | (refine S.f ?_ <;> (try simp only [WKe, List.map_append, List.map_cons, List.map_nil, SlateG.pt, SlateG.mk', hw, ↓reduceIte, reduceCtorEq, Int.reduceEq, *])) | refine EntR.drop (F := F) ?_ | fail)))))
 ·have hkk : k = min 4 cs.length := by omega
  ((try simp only [WKb, ↓reduceIte, Nat.reduceEqDiff]) <;> (repeat' ((first
  | (refine G.tr ?_; first | refine S.a ?_ | fail)
  | fail) <;> (try simp only [WKb, ↓reduceIte, Nat.reduceEqDiff]))))
  all_goals
   apply Tr.fin hK ⟨_, gs, by rw [hm, hkk, take_minlen], rfl, rfl⟩
   ((try clear hK) <;> (try simp only [WKe, *]) <;> repeat (first | with_reducible exact EntR.done | refine S.e ?_ | refine EntR.drop (F := F) ?_ | fail))
end Go.Proofs.YtacmaamllpiloaaGreat
namespace Go.Proofs.YtacmaamllpiloaaGreat
open Go Go.Wk
set_option maxHeartbeats 1600000
set_option maxRecDepth 10000
instance : ElT 69 Bool := ⟨⟩
instance elt_ints_o : ElT 28 Int := ⟨⟩
def nflags (f : Int) : Nat := (min f 8).toNat
theorem nflags_le (f : Int) : nflags f ≤ 8 := by unfold nflags; omega
theorem nflags_if (f : Int) : (if (0 : Int) < (if 8 < f then 8 else f) then (if 8 < f then 8 else f) else 0) = ((nflags f : Nat) : Int) := by
 unfold nflags
 by_cases h : 8 < f
 ·rw [if_pos h, if_pos (by omega)]; omega
 ·rw [if_neg h]
  by_cases h2 : 0 < f
  ·rw [if_pos h2]; omega
  ·rw [if_neg h2]; omega
attribute [local irreducible] BrK GenK EGenK EUnitK CallK FnK CallV GuardO GuardC CondW opX opK opKc chkR eqR seqK blkK endL WL WD W LoopW BinK Tr drewK resL PickK NotK NilK ExtrK getK Instr.storeAt Instr.loadAt Instr.fieldAt Instr.indexAt Instr.lookup Instr.mapUpdate Instr.box Instr.alloc Instr.build Instr.buildSlice Instr.makeSlice Instr.makeMap Instr.sliceAt Instr.field Instr.index Instr.makeInterface Instr.typeAssert Builtin.len_ Builtin.append_ Builtin.cap_ Builtin.min_ Builtin.max_ Builtin.copy_ Builtin.clear_ convert binOp mp blk rob sl sep ex fact old
theorem clear_ok {b : Nat} {c : PartC} {v1 v2 v3 v4 : Value} {cs : List SemC} {ps : List PoolC} {ls : List Int} : Trip Tryz.prog 115 [.pointer (some ⟨b, 0, none⟩)].toArray [obC b c v1 v2 v3 v4, sl true c.sems.v cs, sl true c.pools.v ps, sl true c.slates.v ls]
  fun v l' => ∃ s1 s2 s3 s4 g1 g2 g3 g4, g1.map SemG.mo = (cs.take 4).map semM ∧ g2.map FlagG.mo = List.replicate (nflags c.flags) false ∧ g3.map PoolG.mo = (ps.take 4).map poolM ∧ g4.map SlateG.mo = (ls.take 4).map slateM ∧
   v = .tuple #[] ∧ l' = [obB b ⟨c, s1, s2, s3, s4⟩, sl false s1.v (g1.map SemG.pt), fam semA g1, sl false s2.v (g2.map FlagG.pt), fam flagA g2, sl false s3.v (g3.map PoolG.pt), fam poolA g3, sl false s4.v (g4.map SlateG.pt), fam slateA g4] := by
 intro F K hK
 simp only [List.cons_append, List.nil_append]
 (refine Tr.enter (rs := []) mixed fn115 rfl (by simp +arith [Tryz.ntmps115]) fun u => ?_; simp only [cd115, Tryz.f115])
 have hmx := nflags_if c.flags
 have hml := nflags_le c.flags
 ((try simp only [WKb, ↓reduceIte, Nat.reduceEqDiff]) <;> (repeat' ((first
  | (refine G.tr ?_; first | refine S.a ?_ | (refine G.call 186 ?_; refine S.c ?_ (h := sem_some)) | (refine G.call 188 ?_; refine S.c ?_ (h := flag_some)) | (refine G.call 190 ?_; refine S.c ?_ (h := pool_some)) | (refine G.call 192 ?_; refine S.c ?_ (h := slate_some)) | refine S.n fun _ => ?_ | fail)
  | rintro _ _ ⟨_, _, hm, rfl, rfl⟩
  | fail) <;> (try simp only [WKb, WKh, ↓reduceIte, Nat.reduceEqDiff, Nat.reduceAdd, hmx]))))
 all_goals
  have hf : ∀ g2 : List FlagG, g2.map FlagG.mo = ((List.replicate (((nflags c.flags : Nat) : Int)).toNat default).take 8).map flagM → g2.map FlagG.mo = List.replicate (nflags c.flags) false := fun g2 h => by
   rw [h, Int.toNat_natCast, List.take_replicate, Nat.min_eq_right hml, List.map_replicate]; rfl
  apply Tr.fin hK ⟨_, _, _, _, _, _, _, _, by assumption, hf _ (by assumption), by assumption, by assumption, rfl, rfl⟩
  ((try clear hK) <;> (try simp only [WKe, *]) <;> repeat (first | with_reducible exact EntR.done | refine S.e ?_ | refine EntR.drop (F := F) ?_ | fail))
theorem onew_ok {u0 : Value} {c : PartC} [hd : DeA u0 c] {cs : List SemC} {ps : List PoolC} {ls : List Int} : Trip Tryz.prog 54 [u0].toArray [sl true c.sems.v cs, sl true c.pools.v ps, sl true c.slates.v ls]
  fun v l' => ∃ b s1 s2 s3 s4 g1 g2 g3 g4, g1.map SemG.mo = (cs.take 4).map semM ∧ g2.map FlagG.mo = List.replicate (nflags c.flags) false ∧ g3.map PoolG.mo = (ps.take 4).map poolM ∧ g4.map SlateG.mo = (ls.take 4).map slateM ∧
   v = .pointer (some ⟨b, 0, none⟩) ∧ l' = [obB b ⟨c, s1, s2, s3, s4⟩, sl false s1.v (g1.map SemG.pt), fam semA g1, sl false s2.v (g2.map FlagG.pt), fam flagA g2, sl false s3.v (g3.map PoolG.pt), fam poolA g3, sl false s4.v (g4.map SlateG.pt), fam slateA g4] := by
 obtain rfl := hd.h
 intro F K hK
 simp only [List.cons_append, List.nil_append]
 (refine Tr.enter (rs := [.tmp 2]) mixed fn54 rfl (by simp +arith [Tryz.ntmps54]) fun u => ?_; simp only [cd54, Tryz.f54])
 ((try simp only [WKb, ↓reduceIte]) <;> (repeat' ((first
  | (refine G.tr ?_; first | refine S.a ?_ | (refine G.call 115 ?_; refine S.c ?_ (h := clear_ok)) | refine S.n fun _ => ?_ | fail)
  | rintro _ _ ⟨_, _, _, _, _, _, _, _, hm1, hm2, hm3, hm4, rfl, rfl⟩
  | fail) <;> (try simp only [WKb, WKh, ↓reduceIte, Nat.reduceEqDiff]))))
 all_goals
  apply Tr.fin hK ⟨_, _, _, _, _, _, _, _, _, hm1, hm2, hm3, hm4, rfl, rfl⟩
  ((try clear hK) <;> (try simp only [WKe, *]) <;> repeat (first | with_reducible exact EntR.done | refine S.e ?_ | refine EntR.drop (F := F) ?_ | fail))
end Go.Proofs.YtacmaamllpiloaaGreat
