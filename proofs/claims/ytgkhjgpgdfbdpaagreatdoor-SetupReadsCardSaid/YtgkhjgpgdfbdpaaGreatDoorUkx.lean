import Derived.Test.YtgkhjgpgdfbdpaaGreatDoorUJ
import Derived.Test.YtgkhjgpgdfbdpaaGreatDoorUvx
namespace Go.Proofs.YtgkhjgpgdfbdpaaGreatDoor
open Go Go.Wk
set_option maxHeartbeats 6400000
set_option maxRecDepth 100000

/-! ### writing lines -/
instance hasz_one {α : Type} [En α] [Fz α] {l : List Asrt} {x : α} : HasZ (fzl [x] :: l) x := ⟨fun w R U h1 h2 h3 => by
  obtain ⟨S, h⟩ := (Has.here (A := fzl [x]) (l := l)) w R U h1 h2 h3
  exact ⟨fun _ => False, Fz.dup x (h x (List.mem_singleton_self x))⟩⟩
theorem numL_app (l m : List Int) : numL (l ++ m) = numL l ++ numL m := by simp [numL]
theorem numL_take {l : List Int} {k : Nat} (h : k < l.length) : numL (l.take (k + 1)) = numL (l.take k) ++ 32 :: decA (ix l (k : Int)) := by
  have e : ix l (k : Int) = l[k] := by simp [ix, h]
  rw [List.take_succ_eq_append_getElem h, e, numL_app]
  have : numL [l[k]] = 32 :: decA l[k] := by simp [numL]
  rw [this]
theorem numL_le {l : List Int} (k : Nat) : (numL (l.take k)).length ≤ (numL l).length := by
  have e : numL l = numL (l.take k) ++ numL (l.drop k) := by rw [← numL_app, List.take_append_drop]
  rw [e, List.length_append]
  omega
theorem ix_I64 {l : List Int} (h : ∀ n ∈ l, I64 n) {k : Nat} (hk : k < l.length) : I64 (ix l (k : Int)) := by
  have e : ix l (k : Int) = l[k] := by simp [ix, hk]
  rw [e]; exact h _ (List.getElem_mem hk)
attribute [local irreducible] BrK GenK EGenK EUnitK CallK FnK CallV GuardO GuardC CondW opX opK opKc chkR eqR seqK blkK endL WL WD W LoopW BinK Tr drewK resL PickK NotK NilK ExtrK getK Instr.storeAt Instr.loadAt Instr.fieldAt Instr.indexAt Instr.lookup Instr.mapUpdate Instr.box Instr.alloc Instr.build Instr.buildSlice Instr.makeSlice Instr.makeMap Instr.sliceAt Instr.field Instr.index Instr.makeInterface Instr.typeAssert Builtin.len_ Builtin.append_ Builtin.cap_ Builtin.min_ Builtin.max_ Builtin.copy_ Builtin.clear_ convert binOp mp blk rob sl sep ex fact old
attribute [local irreducible] NegK mxV bufT bldB
theorem tdec_ok {n : Int} (hn : I64 n) : Trip Tryz.prog 47 [.int .i64 n].toArray [] fun v l' => v = .string (bstr (decA n)) ∧ l' = [] := decimalS_ok hn


theorem uline_ok {ro : Bool} {b : Nat} {bs w : List UInt8} {v : Value} {l : List Int} (hl : ∀ n ∈ l, I64 n) (hb : bs.length + (lineU w l).length + 1 ≤ 100000000) :
    Trip Tryz.prog 34 [.pointer (some ⟨b, 0, none⟩), .string (bstr w), v].toArray [bldW b bs, sl ro v l] fun u l' => u = .tuple #[] ∧ l' = [bldW b (bs ++ (lineU w l ++ [10])), sl ro v l] := by
  intro F K hK
  simp only [List.cons_append, List.nil_append]
  refine Tr.bound (ro := ro) (v := v) (xs := l) (by (repeat (first | exact Has.here | apply Has.next)); done) fun hbd => ?_
  have hlu : (lineU w l).length = w.length + (numL l).length := by unfold lineU; rw [List.length_append]
  (refine Tr.enter (rs := []) mixed fn34 rfl (by simp +arith [Tryz.ntmps34]) fun u => ?_; simp only [cd34, Tryz.f34])
  ((try simp only [WKb, ↓reduceIte, Nat.reduceEqDiff, Nat.reduceAdd, WKt]) <;> (repeat' ((first
    | (refine G.tr ?_; first | refine S.a ?_ | refine S.t ?_ | refine Tr.brK ?_ ?_ | (refine G.call 65 ?_; refine S.c ?_ (h := uwstr_ok ?_)) | (refine G.call 47 ?_; refine S.c ?_ (h := decimalS_ok (by assumption))) | (refine G.call 66 ?_; refine S.c ?_ (h := uwbyte_ok (c := 10) ?_)) | refine S.n fun _ => ?_ | refine S.i fun hix => ?_ | (refine S.g fun hb => ?_; (try simp only [hb])) | (refine S.s (fun hb => ?_) (fun hb => ?_) <;> ((try simp only [hb]) <;> (try (have hp := hb; simp only [WKs] at hp; (try have hq := Int.not_le.2 hp); (try have hq := Int.not_lt.2 hp))))))
    | rintro _ _ ⟨rfl, rfl⟩
    | ((fail_if_success refine G.tr ?_); exact G.prop S.p)
    | fail) <;> (try simp only [WKb, ↓reduceIte, Nat.reduceEqDiff]))))
  have hz : bs ++ w ++ numL (l.take 0) = bs ++ w := by simp [numL]
  refine Tr.loopE (α := Nat) [15] [0, 13, 14] (fun k => [.int .i64 k]) (fun k => [bldW b (bs ++ w ++ numL (l.take k)), sl ro v l]) (fun k => k ≤ l.length) (fun k => l.length - k) 0 (by simp only [hz]; exact (by (repeat (first | exact TakeL.nil | (apply TakeL.cons; focus ((first | exact TakeA.dupS | exact TakeA.dupF | ((repeat (first | with_reducible exact TakeA.here | exact TakeA.fam (by omega) (by omega) | with_reducible apply TakeA.next)); done) | ((repeat (first | exact TakeA.here | apply TakeA.next)); done) | exact TakeA.famNil | exact TakeA.nilS))) | fail)); done)) rfl (Nat.zero_le _) fun k u hk => ?_
  have hle := numL_le (l := l) k
  have hl0 : (bs ++ w ++ numL (l.take k)).length = bs.length + w.length + (numL (l.take k)).length := by simp; omega
  by_cases hin : k < l.length
  · have hw := wrapSucc (k := k) (by omega)
    have hn := ix_I64 hl hin
    have hnt := numL_take hin
    have hle2 := numL_le (l := l) (k + 1)
    have hl2 : (numL (l.take (k + 1))).length = (numL (l.take k)).length + (1 + (decA (ix l (k : Int))).length) := by rw [hnt]; simp; omega
    have hl3 : (32 :: decA (ix l (k : Int))).length = 1 + (decA (ix l (k : Int))).length := by simp; omega
    have hst : bs ++ w ++ numL (l.take k) ++ 32 :: decA (ix l (k : Int)) = bs ++ w ++ numL (l.take (k + 1)) := by rw [hnt]; simp
    ((try simp only [WKb, ↓reduceIte, Nat.reduceEqDiff]) <;> (repeat' ((first
    | (refine G.tr ?_; first | refine S.a ?_ | refine S.t ?_ | refine Tr.brK ?_ ?_ | (refine G.call 65 ?_; refine S.c ?_ (h := uwstr_ok ?_)) | (refine G.call 47 ?_; refine S.c ?_ (h := decimalS_ok (by assumption))) | (refine G.call 66 ?_; refine S.c ?_ (h := uwbyte_ok (c := 10) ?_)) | refine S.n fun _ => ?_ | refine S.i fun hix => ?_ | (refine S.g fun hb => ?_; (try simp only [hb])) | (refine S.s (fun hb => ?_) (fun hb => ?_) <;> ((try simp only [hb]) <;> (try (have hp := hb; simp only [WKs] at hp; (try have hq := Int.not_le.2 hp); (try have hq := Int.not_lt.2 hp))))))
    | rintro _ _ ⟨rfl, rfl⟩
    | ((fail_if_success refine G.tr ?_); exact G.prop S.p)
    | fail) <;> (try simp only [WKb, ↓reduceIte, Nat.reduceEqDiff, pl34, hw]))))
    all_goals
      clear hnt
      (apply Tr.againE (k + 1); (focus (simp only [WKb, ↓reduceIte, Nat.reduceEqDiff])); (focus ((try simp only [WKb, ↓reduceIte]); (all_goals ((repeat (refine cons_eq (by first | rfl | ((try clear hK) <;> first | (simp [*, hst]; done) | (simp [*, hst]; omega) | (simp [*, hst] <;> (try split) <;> simp_all <;> omega))) ?_)); rfl)); done)); (focus (first | omega | assumption | (simp only []; omega) | (refine ⟨by omega, by assumption⟩) | (simp only []; refine ⟨by omega, by assumption⟩) | ((try simp only []); (repeat' (first | omega | assumption | refine And.intro ?_ ?_)); done))); (focus (first | omega | (simp only []; omega))); (focus (((try clear hK) <;> (try simp only [WKe, *]) <;> repeat (first | with_reducible exact EntR.done | refine S.e ?_ | (refine S.f ?_ <;> (try simp only [WKe, hst, ↓reduceIte, reduceCtorEq, Int.reduceEq, *])) | with_reducible apply EntR.ex | refine EntR.drop (F := F) ?_ | refine EntR.drop ?_)))))
  · have hke : k = l.length := by omega
    subst hke
    have hst : bs ++ w ++ numL (l.take l.length) ++ [10] = bs ++ (lineU w l ++ [10]) := by rw [List.take_length]; unfold lineU; simp
    ((try simp only [WKb, ↓reduceIte, Nat.reduceEqDiff]) <;> (repeat' ((first
    | (refine G.tr ?_; first | refine S.a ?_ | refine S.t ?_ | refine Tr.brK ?_ ?_ | (refine G.call 65 ?_; refine S.c ?_ (h := uwstr_ok ?_)) | (refine G.call 47 ?_; refine S.c ?_ (h := decimalS_ok (by assumption))) | (refine G.call 66 ?_; refine S.c ?_ (h := uwbyte_ok (c := 10) ?_)) | refine S.n fun _ => ?_ | refine S.i fun hix => ?_ | (refine S.g fun hb => ?_; (try simp only [hb])) | (refine S.s (fun hb => ?_) (fun hb => ?_) <;> ((try simp only [hb]) <;> (try (have hp := hb; simp only [WKs] at hp; (try have hq := Int.not_le.2 hp); (try have hq := Int.not_lt.2 hp))))))
    | rintro _ _ ⟨rfl, rfl⟩
    | ((fail_if_success refine G.tr ?_); exact G.prop S.p)
    | fail) <;> (try simp only [WKb, ↓reduceIte, Nat.reduceEqDiff]))))
    all_goals
      refine Tr.fin hK ⟨rfl, rfl⟩ ?_
      rw [← hst]
      ((try clear hK) <;> (try simp only [WKe, *]) <;> repeat (first | with_reducible exact EntR.done | refine S.e ?_ | (refine S.f ?_ <;> (try simp only [WKe, ↓reduceIte, reduceCtorEq, Int.reduceEq, *])) | with_reducible apply EntR.ex | refine EntR.drop (F := F) ?_ | refine EntR.drop ?_))

theorem utruth_ok {b : Bool} : Trip Tryz.prog 35 [.bool b].toArray [] fun v l' => v = .int .i64 (bitU b) ∧ l' = [] := by
  intro F K hK
  simp only [List.nil_append]
  (refine Tr.enter (rs := [.tmp 2]) mixed fn35 rfl (by simp +arith [Tryz.ntmps35]) fun u => ?_; simp only [cd35, Tryz.f35])
  cases b with
  | true =>
    ((try simp only [WKb, ↓reduceIte, Nat.reduceEqDiff]) <;> (repeat' ((first
    | (refine G.tr ?_; first | refine S.a ?_ | refine S.t ?_ | refine Tr.brK ?_ ?_ | refine S.n fun _ => ?_ | refine S.i fun hix => ?_ | (refine S.g fun hb => ?_; (try simp only [hb])) | (refine S.s (fun hb => ?_) (fun hb => ?_) <;> ((try simp only [hb]) <;> (try (have hp := hb; simp only [WKs] at hp; (try have hq := Int.not_le.2 hp); (try have hq := Int.not_lt.2 hp))))))
    | ((fail_if_success refine G.tr ?_); exact G.prop S.p)
    | fail) <;> (try simp only [WKb, WKh, ↓reduceIte, Nat.reduceEqDiff, Nat.reduceAdd, Nat.reduceSub, Int.reduceEq, Int.reduceLT, Int.reduceLE, WKt, pl35]))))
    all_goals
      refine Tr.fin hK ⟨rfl, rfl⟩ ?_
      ((try clear hK) <;> (try simp only [WKe, *]) <;> repeat (first | with_reducible exact EntR.done | refine S.e ?_ | (refine S.f ?_ <;> (try simp only [WKe, ↓reduceIte, reduceCtorEq, Int.reduceEq, *])) | with_reducible apply EntR.ex | refine EntR.drop (F := F) ?_ | refine EntR.drop ?_))
  | false =>
    ((try simp only [WKb, ↓reduceIte, Nat.reduceEqDiff]) <;> (repeat' ((first
    | (refine G.tr ?_; first | refine S.a ?_ | refine S.t ?_ | refine Tr.brK ?_ ?_ | refine S.n fun _ => ?_ | refine S.i fun hix => ?_ | (refine S.g fun hb => ?_; (try simp only [hb])) | (refine S.s (fun hb => ?_) (fun hb => ?_) <;> ((try simp only [hb]) <;> (try (have hp := hb; simp only [WKs] at hp; (try have hq := Int.not_le.2 hp); (try have hq := Int.not_lt.2 hp))))))
    | ((fail_if_success refine G.tr ?_); exact G.prop S.p)
    | fail) <;> (try simp only [WKb, WKh, ↓reduceIte, Nat.reduceEqDiff, Nat.reduceAdd, Nat.reduceSub, Int.reduceEq, Int.reduceLT, Int.reduceLE, WKt, pl35]))))
    all_goals
      refine Tr.fin hK ⟨rfl, rfl⟩ ?_
      ((try clear hK) <;> (try simp only [WKe, *]) <;> repeat (first | with_reducible exact EntR.done | refine S.e ?_ | (refine S.f ?_ <;> (try simp only [WKe, ↓reduceIte, reduceCtorEq, Int.reduceEq, *])) | with_reducible apply EntR.ex | refine EntR.drop (F := F) ?_ | refine EntR.drop ?_))

end Go.Proofs.YtgkhjgpgdfbdpaaGreatDoor

namespace Go.Proofs.YtgkhjgpgdfbdpaaGreatDoor
open Go Go.Wk
set_option maxHeartbeats 6400000
set_option maxRecDepth 100000

/-! ### writing a partition -/
theorem ix_memU {α : Type} [Inhabited α] {xs : List α} {k : Nat} (h : k < xs.length) : ix xs (k : Int) ∈ xs := List.mem_of_getElem? (ix_some (by omega) (by omega))
/-- Of a row of lines so many, behind others. -/
def rowT {α : Type} (A : List Tok) (f : α → Tok) (xs : List α) (k : Nat) : List UInt8 := textT (A ++ (xs.take k).map f)
theorem row_next {α : Type} [Inhabited α] (A : List Tok) (f : α → Tok) {xs : List α} {k : Nat} (h : k < xs.length) : rowT A f xs (k + 1) = rowT A f xs k ++ (lineT (f (ix xs (k : Int))) ++ [10]) := by
  have e : ix xs (k : Int) = xs[k] := by simp [ix, h]
  unfold rowT
  rw [List.take_succ_eq_append_getElem h, e, List.map_append, ← List.append_assoc, textT_app (A ++ (xs.take k).map f)]
  simp [textT]
theorem row_len {α : Type} {L : List Tok} (A B : List Tok) (f : α → Tok) {xs : List α} (k : Nat) (h : L = A ++ (xs.map f ++ B)) : (rowT A f xs k).length ≤ (textT L).length := by
  have e : A ++ (xs.map f ++ B) = (A ++ (xs.take k).map f) ++ ((xs.drop k).map f ++ B) := by
    have e1 : xs.map f = (xs.take k).map f ++ (xs.drop k).map f := by rw [← List.map_append, List.take_append_drop]
    rw [e1]
    simp only [List.append_assoc]
  unfold rowT
  rw [h, e, textT_app (A ++ (xs.take k).map f), List.length_append]
  omega
theorem row_zero {α : Type} (A : List Tok) (f : α → Tok) {xs : List α} : rowT A f xs 0 = textT A := by simp [rowT]
theorem row_full {α : Type} {A C : List Tok} (f : α → Tok) {xs : List α} (h : C = A ++ xs.map f) : rowT A f xs xs.length = textT C := by unfold rowT; rw [List.take_length, h]
theorem row_step {α : Type} [Inhabited α] {bs w : List UInt8} {l : List Int} (A : List Tok) (f : α → Tok) {xs : List α} {k : Nat} (h : k < xs.length) (e : lineT (f (ix xs (k : Int))) = lineU w l) : bs ++ rowT A f xs k ++ (lineU w l ++ [10]) = bs ++ rowT A f xs (k + 1) ∧ (bs ++ rowT A f xs k).length + (lineU w l).length + 1 = bs.length + (rowT A f xs (k + 1)).length := by
  rw [row_next A f h, e, List.append_assoc]
  refine ⟨rfl, ?_⟩
  simp only [List.length_append, List.length_singleton]
  omega
theorem text_one (A : List Tok) (t : Tok) : textT (A ++ [t]) = textT A ++ (lineT t ++ [10]) := by rw [textT_app]; simp [textT]
attribute [local irreducible] BrK GenK EGenK EUnitK CallK FnK CallV GuardO GuardC CondW opX opK opKc chkR eqR seqK blkK endL WL WD W LoopW BinK Tr drewK resL PickK NotK NilK ExtrK getK Instr.storeAt Instr.loadAt Instr.fieldAt Instr.indexAt Instr.lookup Instr.mapUpdate Instr.box Instr.alloc Instr.build Instr.buildSlice Instr.makeSlice Instr.makeMap Instr.sliceAt Instr.field Instr.index Instr.makeInterface Instr.typeAssert Builtin.len_ Builtin.append_ Builtin.cap_ Builtin.min_ Builtin.max_ Builtin.copy_ Builtin.clear_ convert binOp mp blk rob sl sep ex fact old
attribute [local irreducible] NegK mxV bufT bldB rowT
theorem upart_ok {u0 : Value} {p : PartD} [hd : DeA u0 p] {b : Nat} {bs : List UInt8} (ho : okPv p.v) (hb : bs.length + (textT (partT p.v)).length ≤ 100000000) :
    Trip Tryz.prog 16 [.pointer (some ⟨b, 0, none⟩), u0].toArray [bldW b bs, fzl [p]] fun u l' => u = .tuple #[] ∧ l' = [bldW b (bs ++ textT (partT p.v))] := by
  obtain rfl := hd.h
  intro F K hK
  simp only [List.cons_append, List.nil_append]
  obtain ⟨o1, o2, o3, o4, o5, o6, o7, o8, o9, o10, o11⟩ := ho
  obtain ⟨A0, eA0⟩ : ∃ A, A = [headT p.v] := ⟨_, rfl⟩
  have hA0 : textT A0 = lineU [112, 97, 114, 116] [p.flags, p.cap, p.budget, p.ladder] ++ [10] := by rw [eA0]; simp [textT]; rfl
  have hi0 : ∀ n ∈ [p.flags, p.cap, p.budget, p.ladder], I64 n := I64s o5 (I64s o8 (I64s o9 (I64s1 o10)))
  obtain ⟨A1, eA1⟩ : ∃ A, A = A0 ++ p.regions.d.map regT := ⟨_, rfl⟩
  obtain ⟨A2, eA2⟩ : ∃ A, A = A1 ++ p.procs.d.map procT := ⟨_, rfl⟩
  obtain ⟨A3, eA3⟩ : ∃ A, A = A2 ++ p.ports.d.map portT := ⟨_, rfl⟩
  obtain ⟨A4, eA4⟩ : ∃ A, A = A3 ++ p.sems.d.map semT := ⟨_, rfl⟩
  obtain ⟨A5, eA5⟩ : ∃ A, A = A4 ++ p.pools.d.map poolT := ⟨_, rfl⟩
  obtain ⟨A6, eA6⟩ : ∃ A, A = A5 ++ p.slates.d.map slateT := ⟨_, rfl⟩
  have ht0 : partT p.v = A0 ++ (p.regions.d.map regT ++ (p.procs.d.map procT ++ (p.ports.d.map portT ++ (p.sems.d.map semT ++ (p.pools.d.map poolT ++ (p.slates.d.map slateT ++ [(7, p.acts.d)])))))) := by rw [partT_eq]; unfold partTs; simp [eA0, PartD.v]
  have ht1 : partT p.v = A1 ++ (p.procs.d.map procT ++ (p.ports.d.map portT ++ (p.sems.d.map semT ++ (p.pools.d.map poolT ++ (p.slates.d.map slateT ++ [(7, p.acts.d)]))))) := by rw [partT_eq]; unfold partTs; simp [eA1, eA0, PartD.v]
  have ht2 : partT p.v = A2 ++ (p.ports.d.map portT ++ (p.sems.d.map semT ++ (p.pools.d.map poolT ++ (p.slates.d.map slateT ++ [(7, p.acts.d)])))) := by rw [partT_eq]; unfold partTs; simp [eA2, eA1, eA0, PartD.v]
  have ht3 : partT p.v = A3 ++ (p.sems.d.map semT ++ (p.pools.d.map poolT ++ (p.slates.d.map slateT ++ [(7, p.acts.d)]))) := by rw [partT_eq]; unfold partTs; simp [eA3, eA2, eA1, eA0, PartD.v]
  have ht4 : partT p.v = A4 ++ (p.pools.d.map poolT ++ (p.slates.d.map slateT ++ [(7, p.acts.d)])) := by rw [partT_eq]; unfold partTs; simp [eA4, eA3, eA2, eA1, eA0, PartD.v]
  have ht5 : partT p.v = A5 ++ (p.slates.d.map slateT ++ [(7, p.acts.d)]) := by rw [partT_eq]; unfold partTs; simp [eA5, eA4, eA3, eA2, eA1, eA0, PartD.v]
  have htz : textT (partT p.v) = textT A6 ++ (lineU [97, 99, 116, 115] p.acts.d ++ [10]) := by
    rw [ht5, ← List.append_assoc, text_one, ← eA6]
    rfl
  have hlz : (textT (partT p.v)).length = (textT A6).length + ((lineU [97, 99, 116, 115] p.acts.d).length + 1) := by rw [htz]; simp
  refine Tr.bound (ro := true) (v := p.regions.s.v) (xs := p.regions.d) HasS.h fun hbd0 => ?_
  refine Tr.bound (ro := true) (v := p.procs.s.v) (xs := p.procs.d) HasS.h fun hbd1 => ?_
  refine Tr.bound (ro := true) (v := p.ports.s.v) (xs := p.ports.d) HasS.h fun hbd2 => ?_
  refine Tr.bound (ro := true) (v := p.sems.s.v) (xs := p.sems.d) HasS.h fun hbd3 => ?_
  refine Tr.bound (ro := true) (v := p.pools.s.v) (xs := p.pools.d) HasS.h fun hbd4 => ?_
  refine Tr.bound (ro := true) (v := p.slates.s.v) (xs := p.slates.d) HasS.h fun hbd5 => ?_
  have hl0 : (textT A0).length ≤ (textT (partT p.v)).length := by rw [ht0, textT_app, List.length_append]; omega
  have hl1 : (lineU [112, 97, 114, 116] [p.flags, p.cap, p.budget, p.ladder]).length + 1 = (textT A0).length := by rw [hA0]; simp
  (refine Tr.enter (rs := []) mixed fn16 rfl (by simp +arith [Tryz.ntmps16]) fun u => ?_; simp only [cd16, Tryz.f16])
  ((try simp only [WKb, ↓reduceIte, Nat.reduceAdd, WKt]) <;> (repeat' ((first
    | (refine G.tr ?_; first | refine S.a ?_ | refine S.t ?_ | refine Tr.brK ?_ ?_ | (refine G.call 34 ?_; refine S.c ?_ (h := uline_ok ?_ ?_)) | (refine G.call 35 ?_; refine S.c ?_ (h := utruth_ok)) | refine S.n fun _ => ?_ | refine S.i fun hix => ?_ | (refine S.g fun hb => ?_; (try simp only [hb])) | (refine S.s (fun hb => ?_) (fun hb => ?_) <;> ((try simp only [hb]) <;> (try (have hp := hb; simp only [WKs] at hp; (try have hq := Int.not_le.2 hp); (try have hq := Int.not_lt.2 hp))))))
    | rintro _ _ ⟨rfl, rfl⟩
    | ((fail_if_success refine G.tr ?_); exact G.prop S.p)
    | fail) <;> (try simp only [WKb, ↓reduceIte, Nat.reduceEqDiff]))))
  have hz : bs ++ rowT A0 regT p.regions.d 0 = bs ++ (lineU [112, 97, 114, 116] [p.flags, p.cap, p.budget, p.ladder] ++ [10]) := by rw [row_zero, hA0]
  refine Tr.loopE (α := Nat) [30] [0, 3, 28, 29] (fun k => [.int .i64 k]) (fun k => [bldW b (bs ++ rowT A0 regT p.regions.d k)]) (fun k => k ≤ p.regions.d.length) (fun k => p.regions.d.length - k) 0 (by simp only [hz]; exact (by (repeat (first | exact TakeL.nil | (apply TakeL.cons; focus ((first | exact TakeA.dupS | exact TakeA.dupF | ((repeat (first | with_reducible exact TakeA.here | exact TakeA.fam (by omega) (by omega) | with_reducible apply TakeA.next)); done) | ((repeat (first | exact TakeA.here | apply TakeA.next)); done) | exact TakeA.famNil | exact TakeA.nilS))) | fail)); done)) rfl (Nat.zero_le _) fun k u hk => ?_
  by_cases hin : k < p.regions.d.length
  · have hw := wrapSucc (k := k) (by omega)
    have hx := o1 (ix p.regions.d (k : Int)) (ix_memU hin)
    have hi : ∀ n ∈ [(ix p.regions.d (k : Int)).base, (ix p.regions.d (k : Int)).size, bitU (ix p.regions.d (k : Int)).w], I64 n := I64s hx.1 (I64s hx.2 (I64s1 (bit_ok _)))
    obtain ⟨hst, hlk⟩ := row_step (bs := bs) (w := [114, 101, 103, 105, 111, 110]) (l := [(ix p.regions.d (k : Int)).base, (ix p.regions.d (k : Int)).size, bitU (ix p.regions.d (k : Int)).w]) A0 regT hin rfl
    have hle := row_len A0 (p.procs.d.map procT ++ (p.ports.d.map portT ++ (p.sems.d.map semT ++ (p.pools.d.map poolT ++ (p.slates.d.map slateT ++ [(7, p.acts.d)]))))) regT (xs := p.regions.d) (k + 1) ht0
    clear hx
    ((try simp only [WKb, ↓reduceIte, Nat.reduceEqDiff]) <;> (repeat' ((first
    | (refine G.tr ?_; first | refine S.a ?_ | refine S.t ?_ | refine Tr.brK ?_ ?_ | (refine G.call 34 ?_; refine S.c ?_ (h := uline_ok ?_ ?_)) | (refine G.call 35 ?_; refine S.c ?_ (h := utruth_ok)) | refine S.n fun _ => ?_ | refine S.i fun hix => ?_ | (refine S.g fun hb => ?_; (try simp only [hb])) | (refine S.s (fun hb => ?_) (fun hb => ?_) <;> ((try simp only [hb]) <;> (try (have hp := hb; simp only [WKs] at hp; (try have hq := Int.not_le.2 hp); (try have hq := Int.not_lt.2 hp))))))
    | rintro _ _ ⟨rfl, rfl⟩
    | ((fail_if_success refine G.tr ?_); exact G.prop S.p)
    | fail) <;> (try simp only [WKb, ↓reduceIte, Nat.reduceEqDiff, pl16, hw]))))
    all_goals
      clear eA0 eA1 eA2 eA3 eA4 eA5 eA6 ht0 ht1 ht2 ht3 ht4 ht5 htz hlz hA0
      (apply Tr.againE (k + 1); (focus (simp only [WKb, ↓reduceIte, Nat.reduceEqDiff])); (focus ((try simp only [WKb, ↓reduceIte]); (all_goals ((repeat (refine cons_eq (by first | rfl | ((try clear hK) <;> first | (simp [*, hst]; done) | (simp [*, hst]; omega) | (simp [*, hst] <;> (try split) <;> simp_all <;> omega))) ?_)); rfl)); done)); (focus (first | omega | assumption | (simp only []; omega) | (refine ⟨by omega, by assumption⟩) | (simp only []; refine ⟨by omega, by assumption⟩) | ((try simp only []); (repeat' (first | omega | assumption | refine And.intro ?_ ?_)); done))); (focus (first | omega | (simp only []; omega))); (focus (((try clear hK) <;> (try simp only [WKe, *]) <;> repeat (first | with_reducible exact EntR.done | refine S.e ?_ | (refine S.f ?_ <;> (try simp only [WKe, hst, ↓reduceIte, reduceCtorEq, Int.reduceEq, *])) | with_reducible apply EntR.ex | refine EntR.drop (F := F) ?_ | refine EntR.drop ?_)))))
  · have hke : k = p.regions.d.length := by omega
    subst hke
    ((try simp only [WKb, ↓reduceIte, Nat.reduceEqDiff]) <;> (repeat' ((first
    | (refine G.tr ?_; first | refine S.a ?_ | refine S.t ?_ | refine Tr.brK ?_ ?_ | (refine G.call 34 ?_; refine S.c ?_ (h := uline_ok ?_ ?_)) | (refine G.call 35 ?_; refine S.c ?_ (h := utruth_ok)) | refine S.n fun _ => ?_ | refine S.i fun hix => ?_ | (refine S.g fun hb => ?_; (try simp only [hb])) | (refine S.s (fun hb => ?_) (fun hb => ?_) <;> ((try simp only [hb]) <;> (try (have hp := hb; simp only [WKs] at hp; (try have hq := Int.not_le.2 hp); (try have hq := Int.not_lt.2 hp))))))
    | rintro _ _ ⟨rfl, rfl⟩
    | ((fail_if_success refine G.tr ?_); exact G.prop S.p)
    | fail) <;> (try simp only [WKb, ↓reduceIte, Nat.reduceEqDiff]))))
    have hz : bs ++ rowT A1 procT p.procs.d 0 = bs ++ rowT A0 regT p.regions.d p.regions.d.length := by rw [row_zero, row_full _ eA1]
    refine Tr.loopE (α := Nat) [48] [0, 3, 46, 47] (fun k => [.int .i64 k]) (fun k => [bldW b (bs ++ rowT A1 procT p.procs.d k)]) (fun k => k ≤ p.procs.d.length) (fun k => p.procs.d.length - k) 0 (by simp only [hz]; exact (by (repeat (first | exact TakeL.nil | (apply TakeL.cons; focus ((first | exact TakeA.dupS | exact TakeA.dupF | ((repeat (first | with_reducible exact TakeA.here | exact TakeA.fam (by omega) (by omega) | with_reducible apply TakeA.next)); done) | ((repeat (first | exact TakeA.here | apply TakeA.next)); done) | exact TakeA.famNil | exact TakeA.nilS))) | fail)); done)) rfl (Nat.zero_le _) fun k u hk => ?_
    by_cases hin : k < p.procs.d.length
    · have hw := wrapSucc (k := k) (by omega)
      have hx := o2 (ix p.procs.d (k : Int)) (ix_memU hin)
      have hi : ∀ n ∈ [(ix p.procs.d (k : Int)).prio, (ix p.procs.d (k : Int)).period, (ix p.procs.d (k : Int)).cost], I64 n := I64s hx.1 (I64s hx.2.1 (I64s1 hx.2.2))
      obtain ⟨hst, hlk⟩ := row_step (bs := bs) (w := [112, 114, 111, 99, 101, 115, 115]) (l := [(ix p.procs.d (k : Int)).prio, (ix p.procs.d (k : Int)).period, (ix p.procs.d (k : Int)).cost]) A1 procT hin rfl
      have hle := row_len A1 (p.ports.d.map portT ++ (p.sems.d.map semT ++ (p.pools.d.map poolT ++ (p.slates.d.map slateT ++ [(7, p.acts.d)])))) procT (xs := p.procs.d) (k + 1) ht1
      clear hx
      ((try simp only [WKb, ↓reduceIte, Nat.reduceEqDiff]) <;> (repeat' ((first
    | (refine G.tr ?_; first | refine S.a ?_ | refine S.t ?_ | refine Tr.brK ?_ ?_ | (refine G.call 34 ?_; refine S.c ?_ (h := uline_ok ?_ ?_)) | (refine G.call 35 ?_; refine S.c ?_ (h := utruth_ok)) | refine S.n fun _ => ?_ | refine S.i fun hix => ?_ | (refine S.g fun hb => ?_; (try simp only [hb])) | (refine S.s (fun hb => ?_) (fun hb => ?_) <;> ((try simp only [hb]) <;> (try (have hp := hb; simp only [WKs] at hp; (try have hq := Int.not_le.2 hp); (try have hq := Int.not_lt.2 hp))))))
    | rintro _ _ ⟨rfl, rfl⟩
    | ((fail_if_success refine G.tr ?_); exact G.prop S.p)
    | fail) <;> (try simp only [WKb, ↓reduceIte, Nat.reduceEqDiff, hw]))))
      all_goals
        clear eA0 eA1 eA2 eA3 eA4 eA5 eA6 ht0 ht1 ht2 ht3 ht4 ht5 htz hlz hA0
        (apply Tr.againE (k + 1); (focus (simp only [WKb, ↓reduceIte, Nat.reduceEqDiff])); (focus ((try simp only [WKb, ↓reduceIte]); (all_goals ((repeat (refine cons_eq (by first | rfl | ((try clear hK) <;> first | (simp [*, hst]; done) | (simp [*, hst]; omega) | (simp [*, hst] <;> (try split) <;> simp_all <;> omega))) ?_)); rfl)); done)); (focus (first | omega | assumption | (simp only []; omega) | (refine ⟨by omega, by assumption⟩) | (simp only []; refine ⟨by omega, by assumption⟩) | ((try simp only []); (repeat' (first | omega | assumption | refine And.intro ?_ ?_)); done))); (focus (first | omega | (simp only []; omega))); (focus (((try clear hK) <;> (try simp only [WKe, *]) <;> repeat (first | with_reducible exact EntR.done | refine S.e ?_ | (refine S.f ?_ <;> (try simp only [WKe, hst, ↓reduceIte, reduceCtorEq, Int.reduceEq, *])) | with_reducible apply EntR.ex | refine EntR.drop (F := F) ?_ | refine EntR.drop ?_)))))
    · have hke : k = p.procs.d.length := by omega
      subst hke
      ((try simp only [WKb, ↓reduceIte, Nat.reduceEqDiff]) <;> (repeat' ((first
    | (refine G.tr ?_; first | refine S.a ?_ | refine S.t ?_ | refine Tr.brK ?_ ?_ | (refine G.call 34 ?_; refine S.c ?_ (h := uline_ok ?_ ?_)) | (refine G.call 35 ?_; refine S.c ?_ (h := utruth_ok)) | refine S.n fun _ => ?_ | refine S.i fun hix => ?_ | (refine S.g fun hb => ?_; (try simp only [hb])) | (refine S.s (fun hb => ?_) (fun hb => ?_) <;> ((try simp only [hb]) <;> (try (have hp := hb; simp only [WKs] at hp; (try have hq := Int.not_le.2 hp); (try have hq := Int.not_lt.2 hp))))))
    | rintro _ _ ⟨rfl, rfl⟩
    | ((fail_if_success refine G.tr ?_); exact G.prop S.p)
    | fail) <;> (try simp only [WKb, ↓reduceIte, Nat.reduceEqDiff]))))
      have hz : bs ++ rowT A2 portT p.ports.d 0 = bs ++ rowT A1 procT p.procs.d p.procs.d.length := by rw [row_zero, row_full _ eA2]
      refine Tr.loopE (α := Nat) [65] [0, 3, 63, 64] (fun k => [.int .i64 k]) (fun k => [bldW b (bs ++ rowT A2 portT p.ports.d k)]) (fun k => k ≤ p.ports.d.length) (fun k => p.ports.d.length - k) 0 (by simp only [hz]; exact (by (repeat (first | exact TakeL.nil | (apply TakeL.cons; focus ((first | exact TakeA.dupS | exact TakeA.dupF | ((repeat (first | with_reducible exact TakeA.here | exact TakeA.fam (by omega) (by omega) | with_reducible apply TakeA.next)); done) | ((repeat (first | exact TakeA.here | apply TakeA.next)); done) | exact TakeA.famNil | exact TakeA.nilS))) | fail)); done)) rfl (Nat.zero_le _) fun k u hk => ?_
      by_cases hin : k < p.ports.d.length
      · have hw := wrapSucc (k := k) (by omega)
        have hx := o3 (ix p.ports.d (k : Int)) (ix_memU hin)
        have hi : ∀ n ∈ [bitU (ix p.ports.d (k : Int)).q, bitU (ix p.ports.d (k : Int)).i, (ix p.ports.d (k : Int)).size, (ix p.ports.d (k : Int)).depth], I64 n := I64s (bit_ok _) (I64s (bit_ok _) (I64s hx.1 (I64s1 hx.2)))
        obtain ⟨hst, hlk⟩ := row_step (bs := bs) (w := [112, 111, 114, 116]) (l := [bitU (ix p.ports.d (k : Int)).q, bitU (ix p.ports.d (k : Int)).i, (ix p.ports.d (k : Int)).size, (ix p.ports.d (k : Int)).depth]) A2 portT hin rfl
        have hle := row_len A2 (p.sems.d.map semT ++ (p.pools.d.map poolT ++ (p.slates.d.map slateT ++ [(7, p.acts.d)]))) portT (xs := p.ports.d) (k + 1) ht2
        clear hx
        ((try simp only [WKb, ↓reduceIte, Nat.reduceEqDiff]) <;> (repeat' ((first
    | (refine G.tr ?_; first | refine S.a ?_ | refine S.t ?_ | refine Tr.brK ?_ ?_ | (refine G.call 34 ?_; refine S.c ?_ (h := uline_ok ?_ ?_)) | (refine G.call 35 ?_; refine S.c ?_ (h := utruth_ok)) | refine S.n fun _ => ?_ | refine S.i fun hix => ?_ | (refine S.g fun hb => ?_; (try simp only [hb])) | (refine S.s (fun hb => ?_) (fun hb => ?_) <;> ((try simp only [hb]) <;> (try (have hp := hb; simp only [WKs] at hp; (try have hq := Int.not_le.2 hp); (try have hq := Int.not_lt.2 hp))))))
    | rintro _ _ ⟨rfl, rfl⟩
    | ((fail_if_success refine G.tr ?_); exact G.prop S.p)
    | fail) <;> (try simp only [WKb, ↓reduceIte, Nat.reduceEqDiff, pl16, hw]))))
        all_goals
          clear eA0 eA1 eA2 eA3 eA4 eA5 eA6 ht0 ht1 ht2 ht3 ht4 ht5 htz hlz hA0
          (apply Tr.againE (k + 1); (focus (simp only [WKb, ↓reduceIte, Nat.reduceEqDiff])); (focus ((try simp only [WKb, ↓reduceIte]); (all_goals ((repeat (refine cons_eq (by first | rfl | ((try clear hK) <;> first | (simp [*, hst]; done) | (simp [*, hst]; omega) | (simp [*, hst] <;> (try split) <;> simp_all <;> omega))) ?_)); rfl)); done)); (focus (first | omega | assumption | (simp only []; omega) | (refine ⟨by omega, by assumption⟩) | (simp only []; refine ⟨by omega, by assumption⟩) | ((try simp only []); (repeat' (first | omega | assumption | refine And.intro ?_ ?_)); done))); (focus (first | omega | (simp only []; omega))); (focus (((try clear hK) <;> (try simp only [WKe, *]) <;> repeat (first | with_reducible exact EntR.done | refine S.e ?_ | (refine S.f ?_ <;> (try simp only [WKe, hst, ↓reduceIte, reduceCtorEq, Int.reduceEq, *])) | with_reducible apply EntR.ex | refine EntR.drop (F := F) ?_ | refine EntR.drop ?_)))))
      · have hke : k = p.ports.d.length := by omega
        subst hke
        ((try simp only [WKb, ↓reduceIte, Nat.reduceEqDiff]) <;> (repeat' ((first
    | (refine G.tr ?_; first | refine S.a ?_ | refine S.t ?_ | refine Tr.brK ?_ ?_ | (refine G.call 34 ?_; refine S.c ?_ (h := uline_ok ?_ ?_)) | (refine G.call 35 ?_; refine S.c ?_ (h := utruth_ok)) | refine S.n fun _ => ?_ | refine S.i fun hix => ?_ | (refine S.g fun hb => ?_; (try simp only [hb])) | (refine S.s (fun hb => ?_) (fun hb => ?_) <;> ((try simp only [hb]) <;> (try (have hp := hb; simp only [WKs] at hp; (try have hq := Int.not_le.2 hp); (try have hq := Int.not_lt.2 hp))))))
    | rintro _ _ ⟨rfl, rfl⟩
    | ((fail_if_success refine G.tr ?_); exact G.prop S.p)
    | fail) <;> (try simp only [WKb, ↓reduceIte, Nat.reduceEqDiff]))))
        have hz : bs ++ rowT A3 semT p.sems.d 0 = bs ++ rowT A2 portT p.ports.d p.ports.d.length := by rw [row_zero, row_full _ eA3]
        refine Tr.loopE (α := Nat) [86] [0, 3, 84, 85] (fun k => [.int .i64 k]) (fun k => [bldW b (bs ++ rowT A3 semT p.sems.d k)]) (fun k => k ≤ p.sems.d.length) (fun k => p.sems.d.length - k) 0 (by simp only [hz]; exact (by (repeat (first | exact TakeL.nil | (apply TakeL.cons; focus ((first | exact TakeA.dupS | exact TakeA.dupF | ((repeat (first | with_reducible exact TakeA.here | exact TakeA.fam (by omega) (by omega) | with_reducible apply TakeA.next)); done) | ((repeat (first | exact TakeA.here | apply TakeA.next)); done) | exact TakeA.famNil | exact TakeA.nilS))) | fail)); done)) rfl (Nat.zero_le _) fun k u hk => ?_
        by_cases hin : k < p.sems.d.length
        · have hw := wrapSucc (k := k) (by omega)
          have hx := o4 (ix p.sems.d (k : Int)) (ix_memU hin)
          have hi : ∀ n ∈ [(ix p.sems.d (k : Int)).first, (ix p.sems.d (k : Int)).most], I64 n := I64s hx.1 (I64s1 hx.2)
          obtain ⟨hst, hlk⟩ := row_step (bs := bs) (w := [115, 101, 109]) (l := [(ix p.sems.d (k : Int)).first, (ix p.sems.d (k : Int)).most]) A3 semT hin rfl
          have hle := row_len A3 (p.pools.d.map poolT ++ (p.slates.d.map slateT ++ [(7, p.acts.d)])) semT (xs := p.sems.d) (k + 1) ht3
          clear hx
          ((try simp only [WKb, ↓reduceIte, Nat.reduceEqDiff]) <;> (repeat' ((first
    | (refine G.tr ?_; first | refine S.a ?_ | refine S.t ?_ | refine Tr.brK ?_ ?_ | (refine G.call 34 ?_; refine S.c ?_ (h := uline_ok ?_ ?_)) | (refine G.call 35 ?_; refine S.c ?_ (h := utruth_ok)) | refine S.n fun _ => ?_ | refine S.i fun hix => ?_ | (refine S.g fun hb => ?_; (try simp only [hb])) | (refine S.s (fun hb => ?_) (fun hb => ?_) <;> ((try simp only [hb]) <;> (try (have hp := hb; simp only [WKs] at hp; (try have hq := Int.not_le.2 hp); (try have hq := Int.not_lt.2 hp))))))
    | rintro _ _ ⟨rfl, rfl⟩
    | ((fail_if_success refine G.tr ?_); exact G.prop S.p)
    | fail) <;> (try simp only [WKb, ↓reduceIte, Nat.reduceEqDiff, hw]))))
          all_goals
            clear eA0 eA1 eA2 eA3 eA4 eA5 eA6 ht0 ht1 ht2 ht3 ht4 ht5 htz hlz hA0
            (apply Tr.againE (k + 1); (focus (simp only [WKb, ↓reduceIte, Nat.reduceEqDiff])); (focus ((try simp only [WKb, ↓reduceIte]); (all_goals ((repeat (refine cons_eq (by first | rfl | ((try clear hK) <;> first | (simp [*, hst]; done) | (simp [*, hst]; omega) | (simp [*, hst] <;> (try split) <;> simp_all <;> omega))) ?_)); rfl)); done)); (focus (first | omega | assumption | (simp only []; omega) | (refine ⟨by omega, by assumption⟩) | (simp only []; refine ⟨by omega, by assumption⟩) | ((try simp only []); (repeat' (first | omega | assumption | refine And.intro ?_ ?_)); done))); (focus (first | omega | (simp only []; omega))); (focus (((try clear hK) <;> (try simp only [WKe, *]) <;> repeat (first | with_reducible exact EntR.done | refine S.e ?_ | (refine S.f ?_ <;> (try simp only [WKe, hst, ↓reduceIte, reduceCtorEq, Int.reduceEq, *])) | with_reducible apply EntR.ex | refine EntR.drop (F := F) ?_ | refine EntR.drop ?_)))))
        · have hke : k = p.sems.d.length := by omega
          subst hke
          ((try simp only [WKb, ↓reduceIte, Nat.reduceEqDiff]) <;> (repeat' ((first
    | (refine G.tr ?_; first | refine S.a ?_ | refine S.t ?_ | refine Tr.brK ?_ ?_ | (refine G.call 34 ?_; refine S.c ?_ (h := uline_ok ?_ ?_)) | (refine G.call 35 ?_; refine S.c ?_ (h := utruth_ok)) | refine S.n fun _ => ?_ | refine S.i fun hix => ?_ | (refine S.g fun hb => ?_; (try simp only [hb])) | (refine S.s (fun hb => ?_) (fun hb => ?_) <;> ((try simp only [hb]) <;> (try (have hp := hb; simp only [WKs] at hp; (try have hq := Int.not_le.2 hp); (try have hq := Int.not_lt.2 hp))))))
    | rintro _ _ ⟨rfl, rfl⟩
    | ((fail_if_success refine G.tr ?_); exact G.prop S.p)
    | fail) <;> (try simp only [WKb, ↓reduceIte, Nat.reduceEqDiff]))))
          have hz : bs ++ rowT A4 poolT p.pools.d 0 = bs ++ rowT A3 semT p.sems.d p.sems.d.length := by rw [row_zero, row_full _ eA4]
          refine Tr.loopE (α := Nat) [101] [0, 3, 99, 100] (fun k => [.int .i64 k]) (fun k => [bldW b (bs ++ rowT A4 poolT p.pools.d k)]) (fun k => k ≤ p.pools.d.length) (fun k => p.pools.d.length - k) 0 (by simp only [hz]; exact (by (repeat (first | exact TakeL.nil | (apply TakeL.cons; focus ((first | exact TakeA.dupS | exact TakeA.dupF | ((repeat (first | with_reducible exact TakeA.here | exact TakeA.fam (by omega) (by omega) | with_reducible apply TakeA.next)); done) | ((repeat (first | exact TakeA.here | apply TakeA.next)); done) | exact TakeA.famNil | exact TakeA.nilS))) | fail)); done)) rfl (Nat.zero_le _) fun k u hk => ?_
          by_cases hin : k < p.pools.d.length
          · have hw := wrapSucc (k := k) (by omega)
            have hx := o6 (ix p.pools.d (k : Int)) (ix_memU hin)
            have hi : ∀ n ∈ [(ix p.pools.d (k : Int)).size, (ix p.pools.d (k : Int)).depth], I64 n := I64s hx.1 (I64s1 hx.2)
            obtain ⟨hst, hlk⟩ := row_step (bs := bs) (w := [112, 111, 111, 108]) (l := [(ix p.pools.d (k : Int)).size, (ix p.pools.d (k : Int)).depth]) A4 poolT hin rfl
            have hle := row_len A4 (p.slates.d.map slateT ++ [(7, p.acts.d)]) poolT (xs := p.pools.d) (k + 1) ht4
            clear hx
            ((try simp only [WKb, ↓reduceIte, Nat.reduceEqDiff]) <;> (repeat' ((first
    | (refine G.tr ?_; first | refine S.a ?_ | refine S.t ?_ | refine Tr.brK ?_ ?_ | (refine G.call 34 ?_; refine S.c ?_ (h := uline_ok ?_ ?_)) | (refine G.call 35 ?_; refine S.c ?_ (h := utruth_ok)) | refine S.n fun _ => ?_ | refine S.i fun hix => ?_ | (refine S.g fun hb => ?_; (try simp only [hb])) | (refine S.s (fun hb => ?_) (fun hb => ?_) <;> ((try simp only [hb]) <;> (try (have hp := hb; simp only [WKs] at hp; (try have hq := Int.not_le.2 hp); (try have hq := Int.not_lt.2 hp))))))
    | rintro _ _ ⟨rfl, rfl⟩
    | ((fail_if_success refine G.tr ?_); exact G.prop S.p)
    | fail) <;> (try simp only [WKb, ↓reduceIte, Nat.reduceEqDiff, hw]))))
            all_goals
              clear eA0 eA1 eA2 eA3 eA4 eA5 eA6 ht0 ht1 ht2 ht3 ht4 ht5 htz hlz hA0
              (apply Tr.againE (k + 1); (focus (simp only [WKb, ↓reduceIte, Nat.reduceEqDiff])); (focus ((try simp only [WKb, ↓reduceIte]); (all_goals ((repeat (refine cons_eq (by first | rfl | ((try clear hK) <;> first | (simp [*, hst]; done) | (simp [*, hst]; omega) | (simp [*, hst] <;> (try split) <;> simp_all <;> omega))) ?_)); rfl)); done)); (focus (first | omega | assumption | (simp only []; omega) | (refine ⟨by omega, by assumption⟩) | (simp only []; refine ⟨by omega, by assumption⟩) | ((try simp only []); (repeat' (first | omega | assumption | refine And.intro ?_ ?_)); done))); (focus (first | omega | (simp only []; omega))); (focus (((try clear hK) <;> (try simp only [WKe, *]) <;> repeat (first | with_reducible exact EntR.done | refine S.e ?_ | (refine S.f ?_ <;> (try simp only [WKe, hst, ↓reduceIte, reduceCtorEq, Int.reduceEq, *])) | with_reducible apply EntR.ex | refine EntR.drop (F := F) ?_ | refine EntR.drop ?_)))))
          · have hke : k = p.pools.d.length := by omega
            subst hke
            ((try simp only [WKb, ↓reduceIte, Nat.reduceEqDiff]) <;> (repeat' ((first
    | (refine G.tr ?_; first | refine S.a ?_ | refine S.t ?_ | refine Tr.brK ?_ ?_ | (refine G.call 34 ?_; refine S.c ?_ (h := uline_ok ?_ ?_)) | (refine G.call 35 ?_; refine S.c ?_ (h := utruth_ok)) | refine S.n fun _ => ?_ | refine S.i fun hix => ?_ | (refine S.g fun hb => ?_; (try simp only [hb])) | (refine S.s (fun hb => ?_) (fun hb => ?_) <;> ((try simp only [hb]) <;> (try (have hp := hb; simp only [WKs] at hp; (try have hq := Int.not_le.2 hp); (try have hq := Int.not_lt.2 hp))))))
    | rintro _ _ ⟨rfl, rfl⟩
    | ((fail_if_success refine G.tr ?_); exact G.prop S.p)
    | fail) <;> (try simp only [WKb, ↓reduceIte, Nat.reduceEqDiff]))))
            have hz : bs ++ rowT A5 slateT p.slates.d 0 = bs ++ rowT A4 poolT p.pools.d p.pools.d.length := by rw [row_zero, row_full _ eA5]
            refine Tr.loopE (α := Nat) [116] [0, 3, 114, 115] (fun k => [.int .i64 k]) (fun k => [bldW b (bs ++ rowT A5 slateT p.slates.d k)]) (fun k => k ≤ p.slates.d.length) (fun k => p.slates.d.length - k) 0 (by simp only [hz]; exact (by (repeat (first | exact TakeL.nil | (apply TakeL.cons; focus ((first | exact TakeA.dupS | exact TakeA.dupF | ((repeat (first | with_reducible exact TakeA.here | exact TakeA.fam (by omega) (by omega) | with_reducible apply TakeA.next)); done) | ((repeat (first | exact TakeA.here | apply TakeA.next)); done) | exact TakeA.famNil | exact TakeA.nilS))) | fail)); done)) rfl (Nat.zero_le _) fun k u hk => ?_
            by_cases hin : k < p.slates.d.length
            · have hw := wrapSucc (k := k) (by omega)
              have hx := o7 (ix p.slates.d (k : Int)) (ix_memU hin)
              have hi : ∀ n ∈ [(ix p.slates.d (k : Int))], I64 n := I64s1 hx
              obtain ⟨hst, hlk⟩ := row_step (bs := bs) (w := [115, 108, 97, 116, 101]) (l := [(ix p.slates.d (k : Int))]) A5 slateT hin rfl
              have hle := row_len A5 [(7, p.acts.d)] slateT (xs := p.slates.d) (k + 1) ht5
              clear hx
              ((try simp only [WKb, ↓reduceIte, Nat.reduceEqDiff]) <;> (repeat' ((first
    | (refine G.tr ?_; first | refine S.a ?_ | refine S.t ?_ | refine Tr.brK ?_ ?_ | (refine G.call 34 ?_; refine S.c ?_ (h := uline_ok ?_ ?_)) | (refine G.call 35 ?_; refine S.c ?_ (h := utruth_ok)) | refine S.n fun _ => ?_ | refine S.i fun hix => ?_ | (refine S.g fun hb => ?_; (try simp only [hb])) | (refine S.s (fun hb => ?_) (fun hb => ?_) <;> ((try simp only [hb]) <;> (try (have hp := hb; simp only [WKs] at hp; (try have hq := Int.not_le.2 hp); (try have hq := Int.not_lt.2 hp))))))
    | rintro _ _ ⟨rfl, rfl⟩
    | ((fail_if_success refine G.tr ?_); exact G.prop S.p)
    | fail) <;> (try simp only [WKb, ↓reduceIte, Nat.reduceEqDiff, hw]))))
              all_goals
                clear eA0 eA1 eA2 eA3 eA4 eA5 eA6 ht0 ht1 ht2 ht3 ht4 ht5 htz hlz hA0
                (apply Tr.againE (k + 1); (focus (simp only [WKb, ↓reduceIte, Nat.reduceEqDiff])); (focus ((try simp only [WKb, ↓reduceIte]); (all_goals ((repeat (refine cons_eq (by first | rfl | ((try clear hK) <;> first | (simp [*, hst]; done) | (simp [*, hst]; omega) | (simp [*, hst] <;> (try split) <;> simp_all <;> omega))) ?_)); rfl)); done)); (focus (first | omega | assumption | (simp only []; omega) | (refine ⟨by omega, by assumption⟩) | (simp only []; refine ⟨by omega, by assumption⟩) | ((try simp only []); (repeat' (first | omega | assumption | refine And.intro ?_ ?_)); done))); (focus (first | omega | (simp only []; omega))); (focus (((try clear hK) <;> (try simp only [WKe, *]) <;> repeat (first | with_reducible exact EntR.done | refine S.e ?_ | (refine S.f ?_ <;> (try simp only [WKe, hst, ↓reduceIte, reduceCtorEq, Int.reduceEq, *])) | with_reducible apply EntR.ex | refine EntR.drop (F := F) ?_ | refine EntR.drop ?_)))))
            · have hke : k = p.slates.d.length := by omega
              subst hke
              have hf := row_full (xs := p.slates.d) slateT eA6
              have hfin : bs ++ rowT A5 slateT p.slates.d p.slates.d.length ++ (lineU [97, 99, 116, 115] p.acts.d ++ [10]) = bs ++ textT (partT p.v) := by rw [hf, htz, List.append_assoc]
              have hlf : (bs ++ rowT A5 slateT p.slates.d p.slates.d.length).length = bs.length + (textT A6).length := by rw [hf, List.length_append]
              ((try simp only [WKb, ↓reduceIte, Nat.reduceEqDiff]) <;> (repeat' ((first
    | (refine G.tr ?_; first | refine S.a ?_ | refine S.t ?_ | refine Tr.brK ?_ ?_ | (refine G.call 34 ?_; refine S.c ?_ (h := uline_ok ?_ ?_)) | (refine G.call 35 ?_; refine S.c ?_ (h := utruth_ok)) | refine S.n fun _ => ?_ | refine S.i fun hix => ?_ | (refine S.g fun hb => ?_; (try simp only [hb])) | (refine S.s (fun hb => ?_) (fun hb => ?_) <;> ((try simp only [hb]) <;> (try (have hp := hb; simp only [WKs] at hp; (try have hq := Int.not_le.2 hp); (try have hq := Int.not_lt.2 hp))))))
    | rintro _ _ ⟨rfl, rfl⟩
    | ((fail_if_success refine G.tr ?_); exact G.prop S.p)
    | fail) <;> (try simp only [WKb, ↓reduceIte, Nat.reduceEqDiff]))))
              all_goals
                refine Tr.fin hK ⟨rfl, rfl⟩ ?_
                rw [← hfin]
                ((try clear hK) <;> (try simp only [WKe, *]) <;> repeat (first | with_reducible exact EntR.done | refine S.e ?_ | (refine S.f ?_ <;> (try simp only [WKe, ↓reduceIte, reduceCtorEq, Int.reduceEq, *])) | with_reducible apply EntR.ex | refine EntR.drop (F := F) ?_ | refine EntR.drop ?_))

end Go.Proofs.YtgkhjgpgdfbdpaaGreatDoor
