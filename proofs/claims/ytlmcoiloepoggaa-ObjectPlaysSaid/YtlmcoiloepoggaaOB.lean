import Derived.Test.YtlmcoiloepoggaaOA
namespace Go.Proofs.Ytlmcoiloepoggaa
open Go Go.Wk
set_option maxHeartbeats 800000
set_option maxRecDepth 10000
def inR {α : Type} (gs : List α) (k : Int) : Prop := 0 ≤ k ∧ k < gs.length
instance {α : Type} {gs : List α} {k : Int} : Decidable (inR gs k) := by unfold inR; infer_instance
def takeC (gs : List SemG) (k : Int) : Int := if inR gs k then (if (ix gs k).count < 1 then 1 else 0) else 3
def takeG (gs : List SemG) (k : Int) : List SemG := if inR gs k then (if (ix gs k).count < 1 then gs else gs.set k.toNat { ix gs k with count := IntKind.i64.wrap ((ix gs k).count - 1) }) else gs
def giveC (gs : List SemG) (k : Int) : Int := if inR gs k then (if (ix gs k).most ≤ (ix gs k).count then 6 else 0) else 3
def giveG (gs : List SemG) (k : Int) : List SemG := if inR gs k then (if (ix gs k).most ≤ (ix gs k).count then gs else gs.set k.toNat { ix gs k with count := IntKind.i64.wrap ((ix gs k).count + 1) }) else gs
def countC (gs : List SemG) (k : Int) : Int := if inR gs k then (ix gs k).count else 0
def flagC (gs : List FlagG) (k : Int) : Int := if inR gs k then 0 else 3
def flagG (gs : List FlagG) (k : Int) (up : Bool) : List FlagG := if inR gs k then gs.set k.toNat { ix gs k with up := up } else gs
def upB (gs : List FlagG) (k : Int) : Bool := if inR gs k then (ix gs k).up else false
attribute [local irreducible] BrK GenK EGenK EUnitK CallK FnK CallV GuardO GuardC CondW opX opK opKc chkR eqR seqK blkK endL WL WD W LoopW BinK Tr drewK resL PickK NotK NilK ExtrK getK Instr.storeAt Instr.loadAt Instr.fieldAt Instr.indexAt Instr.lookup Instr.mapUpdate Instr.box Instr.alloc Instr.build Instr.buildSlice Instr.makeSlice Instr.makeMap Instr.sliceAt Instr.field Instr.index Instr.makeInterface Instr.typeAssert Builtin.len_ Builtin.append_ Builtin.cap_ Builtin.min_ Builtin.max_ Builtin.copy_ Builtin.clear_ convert binOp mp blk rob sl sep ex fact old
theorem take_ok {b : Nat} {o : ObW} {gs : List SemG} {k : Int} : Trip Try.prog 18 [.pointer (some ⟨b, 0, none⟩), .int .i64 k].toArray [obB b o, fam semA gs, sl false o.ss.v (gs.map SemG.pt)]
    fun v l' => v = .int .i64 (takeC gs k) ∧ l' = [obB b o, sl false o.ss.v ((takeG gs k).map SemG.pt), fam semA (takeG gs k)] := by
  intro F K hK
  simp only [List.cons_append, List.nil_append]
  by_cases h : inR gs k
  · have ⟨h0, h1⟩ := h
    have hs := fun c => map_same (f := SemG.pt) h0 h1 { ix gs k with count := c } rfl
    refine Tr.famAt (A := semA) k (by (repeat (first | exact TakeA.here | apply TakeA.next)); done) h0 h1 ?_
    (refine Tr.enter (rs := [.tmp 4]) mixed fn18 rfl (by simp +arith [Try.ntmps18]) fun u => ?_; simp only [cd18, Try.f18])
    ((try simp only [WKb, ↓reduceIte, Nat.reduceEqDiff, Nat.reduceAdd]) <;> (repeat' ((first
    | (refine G.tr ?_; first | refine S.a ?_ | refine Tr.brK ?_ ?_ | (refine G.call 69 ?_; first | refine S.c ?_ (h := sem_none) | refine S.c ?_ (h := sem_in (by omega) (by omega)) | refine S.c ?_ (h := sem_out (by omega))) | refine S.n fun _ => ?_ | refine S.i fun hix => ?_ | (refine S.g fun hb => ?_; (try simp only [hb])) | (refine S.s (fun hb => ?_) (fun hb => ?_) <;> ((try simp only [hb]) <;> (try (have hp := hb; simp only [WKs] at hp; (try have hq := Int.not_le.2 hp); (try have hq := Int.not_lt.2 hp))))))
    | rintro _ _ ⟨rfl, rfl⟩
    | ((fail_if_success refine G.tr ?_); exact G.prop S.p)
    | fail) <;> (try simp only [WKb, ↓reduceIte, Nat.reduceEqDiff, Nat.reduceAdd]))))
    all_goals
      refine Tr.fin hK ⟨by simp [takeC, *], rfl⟩ ?_
      ((try clear hK) <;> (try simp only [WKe, takeG, ↓reduceIte, *]) <;> repeat (first | with_reducible exact EntR.done | refine S.e ?_ | (refine S.f ?_ <;> (try simp only [WKe, takeG, hs, ↓reduceIte, reduceCtorEq, Int.reduceEq, *])) | with_reducible apply EntR.ex | refine EntR.drop (F := F) ?_ | refine EntR.drop ?_))
  · have h' := h
    unfold inR at h'
    (refine Tr.enter (rs := [.tmp 4]) mixed fn18 rfl (by simp +arith [Try.ntmps18]) fun u => ?_; simp only [cd18, Try.f18])
    ((try simp only [WKb, ↓reduceIte, Nat.reduceEqDiff, Nat.reduceAdd]) <;> (repeat' ((first
    | (refine G.tr ?_; first | refine S.a ?_ | refine Tr.brK ?_ ?_ | (refine G.call 69 ?_; first | refine S.c ?_ (h := sem_none) | refine S.c ?_ (h := sem_in (by omega) (by omega)) | refine S.c ?_ (h := sem_out (by omega))) | refine S.n fun _ => ?_ | refine S.i fun hix => ?_ | (refine S.g fun hb => ?_; (try simp only [hb])) | (refine S.s (fun hb => ?_) (fun hb => ?_) <;> ((try simp only [hb]) <;> (try (have hp := hb; simp only [WKs] at hp; (try have hq := Int.not_le.2 hp); (try have hq := Int.not_lt.2 hp))))))
    | rintro _ _ ⟨rfl, rfl⟩
    | ((fail_if_success refine G.tr ?_); exact G.prop S.p)
    | fail) <;> (try simp only [WKb, ↓reduceIte]))))
    all_goals
      refine Tr.fin hK ⟨by simp [takeC, *], rfl⟩ ?_
      ((try clear hK) <;> (try simp only [WKe, takeG, ↓reduceIte, *]) <;> repeat (first | with_reducible exact EntR.done | refine S.e ?_ | (refine S.f ?_ <;> (try simp only [WKe, takeG, ↓reduceIte, reduceCtorEq, Int.reduceEq, *])) | with_reducible apply EntR.ex | refine EntR.drop (F := F) ?_ | refine EntR.drop ?_))

theorem give_ok {b : Nat} {o : ObW} {gs : List SemG} {k : Int} : Trip Try.prog 17 [.pointer (some ⟨b, 0, none⟩), .int .i64 k].toArray [obB b o, fam semA gs, sl false o.ss.v (gs.map SemG.pt)]
    fun v l' => v = .int .i64 (giveC gs k) ∧ l' = [obB b o, sl false o.ss.v ((giveG gs k).map SemG.pt), fam semA (giveG gs k)] := by
  intro F K hK
  simp only [List.cons_append, List.nil_append]
  by_cases h : inR gs k
  · have ⟨h0, h1⟩ := h
    have hs := fun c => map_same (f := SemG.pt) h0 h1 { ix gs k with count := c } rfl
    refine Tr.famAt (A := semA) k (by (repeat (first | exact TakeA.here | apply TakeA.next)); done) h0 h1 ?_
    (refine Tr.enter (rs := [.tmp 4]) mixed fn17 rfl (by simp +arith [Try.ntmps17]) fun u => ?_; simp only [cd17, Try.f17])
    ((try simp only [WKb, ↓reduceIte, Nat.reduceEqDiff, Nat.reduceAdd]) <;> (repeat' ((first
    | (refine G.tr ?_; first | refine S.a ?_ | refine Tr.brK ?_ ?_ | (refine G.call 69 ?_; first | refine S.c ?_ (h := sem_none) | refine S.c ?_ (h := sem_in (by omega) (by omega)) | refine S.c ?_ (h := sem_out (by omega))) | refine S.n fun _ => ?_ | refine S.i fun hix => ?_ | (refine S.g fun hb => ?_; (try simp only [hb])) | (refine S.s (fun hb => ?_) (fun hb => ?_) <;> ((try simp only [hb]) <;> (try (have hp := hb; simp only [WKs] at hp; (try have hq := Int.not_le.2 hp); (try have hq := Int.not_lt.2 hp))))))
    | rintro _ _ ⟨rfl, rfl⟩
    | ((fail_if_success refine G.tr ?_); exact G.prop S.p)
    | fail) <;> (try simp only [WKb, ↓reduceIte, Nat.reduceEqDiff, Nat.reduceAdd, pl17]))))
    all_goals
      refine Tr.fin hK ⟨by simp [giveC, *], rfl⟩ ?_
      ((try clear hK) <;> (try simp only [WKe, giveG, ↓reduceIte, *]) <;> repeat (first | with_reducible exact EntR.done | refine S.e ?_ | (refine S.f ?_ <;> (try simp only [WKe, giveG, hs, ↓reduceIte, reduceCtorEq, Int.reduceEq, *])) | with_reducible apply EntR.ex | refine EntR.drop (F := F) ?_ | refine EntR.drop ?_))
  · have h' := h
    unfold inR at h'
    (refine Tr.enter (rs := [.tmp 4]) mixed fn17 rfl (by simp +arith [Try.ntmps17]) fun u => ?_; simp only [cd17, Try.f17])
    ((try simp only [WKb, ↓reduceIte, Nat.reduceEqDiff, Nat.reduceAdd]) <;> (repeat' ((first
    | (refine G.tr ?_; first | refine S.a ?_ | refine Tr.brK ?_ ?_ | (refine G.call 69 ?_; first | refine S.c ?_ (h := sem_none) | refine S.c ?_ (h := sem_in (by omega) (by omega)) | refine S.c ?_ (h := sem_out (by omega))) | refine S.n fun _ => ?_ | refine S.i fun hix => ?_ | (refine S.g fun hb => ?_; (try simp only [hb])) | (refine S.s (fun hb => ?_) (fun hb => ?_) <;> ((try simp only [hb]) <;> (try (have hp := hb; simp only [WKs] at hp; (try have hq := Int.not_le.2 hp); (try have hq := Int.not_lt.2 hp))))))
    | rintro _ _ ⟨rfl, rfl⟩
    | ((fail_if_success refine G.tr ?_); exact G.prop S.p)
    | fail) <;> (try simp only [WKb, ↓reduceIte]))))
    all_goals
      refine Tr.fin hK ⟨by simp [giveC, *], rfl⟩ ?_
      ((try clear hK) <;> (try simp only [WKe, giveG, ↓reduceIte, *]) <;> repeat (first | with_reducible exact EntR.done | refine S.e ?_ | (refine S.f ?_ <;> (try simp only [WKe, giveG, ↓reduceIte, reduceCtorEq, Int.reduceEq, *])) | with_reducible apply EntR.ex | refine EntR.drop (F := F) ?_ | refine EntR.drop ?_))

theorem count_ok {b : Nat} {o : ObW} {gs : List SemG} {k : Int} : Trip Try.prog 19 [.pointer (some ⟨b, 0, none⟩), .int .i64 k].toArray [obB b o, fam semA gs, sl false o.ss.v (gs.map SemG.pt)]
    fun v l' => v = .int .i64 (countC gs k) ∧ l' = [obB b o, sl false o.ss.v ((gs).map SemG.pt), fam semA (gs)] := by
  intro F K hK
  simp only [List.cons_append, List.nil_append]
  by_cases h : inR gs k
  · have ⟨h0, h1⟩ := h
    have hs := fun c => map_same (f := SemG.pt) h0 h1 { ix gs k with count := c } rfl
    refine Tr.famAt (A := semA) k (by (repeat (first | exact TakeA.here | apply TakeA.next)); done) h0 h1 ?_
    (refine Tr.enter (rs := [.tmp 4]) mixed fn19 rfl (by simp +arith [Try.ntmps19]) fun u => ?_; simp only [cd19, Try.f19])
    ((try simp only [WKb, ↓reduceIte, Nat.reduceEqDiff, Nat.reduceAdd]) <;> (repeat' ((first
    | (refine G.tr ?_; first | refine S.a ?_ | refine Tr.brK ?_ ?_ | (refine G.call 69 ?_; first | refine S.c ?_ (h := sem_none) | refine S.c ?_ (h := sem_in (by omega) (by omega)) | refine S.c ?_ (h := sem_out (by omega))) | refine S.n fun _ => ?_ | refine S.i fun hix => ?_ | (refine S.g fun hb => ?_; (try simp only [hb])) | (refine S.s (fun hb => ?_) (fun hb => ?_) <;> ((try simp only [hb]) <;> (try (have hp := hb; simp only [WKs] at hp; (try have hq := Int.not_le.2 hp); (try have hq := Int.not_lt.2 hp))))))
    | rintro _ _ ⟨rfl, rfl⟩
    | ((fail_if_success refine G.tr ?_); exact G.prop S.p)
    | fail) <;> (try simp only [WKb, ↓reduceIte, Nat.reduceEqDiff]))))
    all_goals
      refine Tr.fin hK ⟨by simp [countC, *], rfl⟩ ?_
      ((try clear hK) <;> (try simp only [WKe, *]) <;> repeat (first | with_reducible exact EntR.done | refine S.e ?_ | (refine S.f ?_ <;> (try simp only [WKe, countC, hs, ↓reduceIte, reduceCtorEq, Int.reduceEq, *])) | with_reducible apply EntR.ex | refine EntR.drop (F := F) ?_ | refine EntR.drop ?_))
  · have h' := h
    unfold inR at h'
    (refine Tr.enter (rs := [.tmp 4]) mixed fn19 rfl (by simp +arith [Try.ntmps19]) fun u => ?_; simp only [cd19, Try.f19])
    ((try simp only [WKb, ↓reduceIte, Nat.reduceEqDiff, Nat.reduceAdd]) <;> (repeat' ((first
    | (refine G.tr ?_; first | refine S.a ?_ | refine Tr.brK ?_ ?_ | (refine G.call 69 ?_; first | refine S.c ?_ (h := sem_none) | refine S.c ?_ (h := sem_in (by omega) (by omega)) | refine S.c ?_ (h := sem_out (by omega))) | refine S.n fun _ => ?_ | refine S.i fun hix => ?_ | (refine S.g fun hb => ?_; (try simp only [hb])) | (refine S.s (fun hb => ?_) (fun hb => ?_) <;> ((try simp only [hb]) <;> (try (have hp := hb; simp only [WKs] at hp; (try have hq := Int.not_le.2 hp); (try have hq := Int.not_lt.2 hp))))))
    | rintro _ _ ⟨rfl, rfl⟩
    | ((fail_if_success refine G.tr ?_); exact G.prop S.p)
    | fail) <;> (try simp only [WKb, ↓reduceIte]))))
    all_goals
      refine Tr.fin hK ⟨by simp [countC, *], rfl⟩ ?_
      ((try clear hK) <;> (try simp only [WKe, *]) <;> repeat (first | with_reducible exact EntR.done | refine S.e ?_ | (refine S.f ?_ <;> (try simp only [WKe, countC, ↓reduceIte, reduceCtorEq, Int.reduceEq, *])) | with_reducible apply EntR.ex | refine EntR.drop (F := F) ?_ | refine EntR.drop ?_))

theorem flag_ok {b : Nat} {o : ObW} {gs : List FlagG} {k : Int} {up : Bool} : Trip Try.prog 67 [.pointer (some ⟨b, 0, none⟩), .int .i64 k, .bool up].toArray [obB b o, fam flagA gs, sl false o.fs.v (gs.map FlagG.pt)]
    fun v l' => v = .int .i64 (flagC gs k) ∧ l' = [obB b o, sl false o.fs.v ((flagG gs k up).map FlagG.pt), fam flagA (flagG gs k up)] := by
  intro F K hK
  simp only [List.cons_append, List.nil_append]
  by_cases h : inR gs k
  · have ⟨h0, h1⟩ := h
    have hs := fun c => map_same (f := FlagG.pt) h0 h1 { ix gs k with up := c } rfl
    refine Tr.famAt (A := flagA) k (by (repeat (first | exact TakeA.here | apply TakeA.next)); done) h0 h1 ?_
    (refine Tr.enter (rs := [.tmp 6]) mixed fn67 rfl (by simp +arith [Try.ntmps67]) fun u => ?_; simp only [cd67, Try.f67])
    ((try simp only [WKb, ↓reduceIte, Nat.reduceEqDiff, Nat.reduceAdd]) <;> (repeat' ((first
    | (refine G.tr ?_; first | refine S.a ?_ | refine Tr.brK ?_ ?_ | (refine G.call 124 ?_; first | refine S.c ?_ (h := flag_none) | refine S.c ?_ (h := flag_in (by omega) (by omega)) | refine S.c ?_ (h := flag_out (by omega))) | refine S.n fun _ => ?_ | refine S.i fun hix => ?_ | (refine S.g fun hb => ?_; (try simp only [hb])) | (refine S.s (fun hb => ?_) (fun hb => ?_) <;> ((try simp only [hb]) <;> (try (have hp := hb; simp only [WKs] at hp; (try have hq := Int.not_le.2 hp); (try have hq := Int.not_lt.2 hp))))))
    | rintro _ _ ⟨rfl, rfl⟩
    | ((fail_if_success refine G.tr ?_); exact G.prop S.p)
    | fail) <;> (try simp only [WKb, ↓reduceIte, Nat.reduceEqDiff]))))
    all_goals
      refine Tr.fin hK ⟨by simp [flagC, *], rfl⟩ ?_
      ((try clear hK) <;> (try simp only [WKe, flagG, ↓reduceIte, *]) <;> repeat (first | with_reducible exact EntR.done | refine S.e ?_ | (refine S.f ?_ <;> (try simp only [WKe, flagG, hs, ↓reduceIte, reduceCtorEq, Int.reduceEq, *])) | with_reducible apply EntR.ex | refine EntR.drop (F := F) ?_ | refine EntR.drop ?_))
  · have h' := h
    unfold inR at h'
    (refine Tr.enter (rs := [.tmp 6]) mixed fn67 rfl (by simp +arith [Try.ntmps67]) fun u => ?_; simp only [cd67, Try.f67])
    ((try simp only [WKb, ↓reduceIte, Nat.reduceEqDiff, Nat.reduceAdd]) <;> (repeat' ((first
    | (refine G.tr ?_; first | refine S.a ?_ | refine Tr.brK ?_ ?_ | (refine G.call 124 ?_; first | refine S.c ?_ (h := flag_none) | refine S.c ?_ (h := flag_in (by omega) (by omega)) | refine S.c ?_ (h := flag_out (by omega))) | refine S.n fun _ => ?_ | refine S.i fun hix => ?_ | (refine S.g fun hb => ?_; (try simp only [hb])) | (refine S.s (fun hb => ?_) (fun hb => ?_) <;> ((try simp only [hb]) <;> (try (have hp := hb; simp only [WKs] at hp; (try have hq := Int.not_le.2 hp); (try have hq := Int.not_lt.2 hp))))))
    | rintro _ _ ⟨rfl, rfl⟩
    | ((fail_if_success refine G.tr ?_); exact G.prop S.p)
    | fail) <;> (try simp only [WKb, ↓reduceIte]))))
    all_goals
      refine Tr.fin hK ⟨by simp [flagC, *], rfl⟩ ?_
      ((try clear hK) <;> (try simp only [WKe, flagG, ↓reduceIte, *]) <;> repeat (first | with_reducible exact EntR.done | refine S.e ?_ | (refine S.f ?_ <;> (try simp only [WKe, flagG, ↓reduceIte, reduceCtorEq, Int.reduceEq, *])) | with_reducible apply EntR.ex | refine EntR.drop (F := F) ?_ | refine EntR.drop ?_))

theorem up_ok {b : Nat} {o : ObW} {gs : List FlagG} {k : Int} : Trip Try.prog 65 [.pointer (some ⟨b, 0, none⟩), .int .i64 k].toArray [obB b o, fam flagA gs, sl false o.fs.v (gs.map FlagG.pt)]
    fun v l' => v = .tuple #[.bool (upB gs k), .int .i64 (flagC gs k)] ∧ l' = [obB b o, sl false o.fs.v ((gs).map FlagG.pt), fam flagA (gs)] := by
  intro F K hK
  simp only [List.cons_append, List.nil_append]
  by_cases h : inR gs k
  · have ⟨h0, h1⟩ := h
    have hs := fun c => map_same (f := FlagG.pt) h0 h1 { ix gs k with up := c } rfl
    refine Tr.famAt (A := flagA) k (by (repeat (first | exact TakeA.here | apply TakeA.next)); done) h0 h1 ?_
    (refine Tr.enter (rs := [.tmp 4, .tmp 5]) mixed fn65 rfl (by simp +arith [Try.ntmps65]) fun u => ?_; simp only [cd65, Try.f65])
    ((try simp only [WKb, ↓reduceIte, Nat.reduceEqDiff, Nat.reduceAdd]) <;> (repeat' ((first
    | (refine G.tr ?_; first | refine S.a ?_ | refine Tr.brK ?_ ?_ | (refine G.call 124 ?_; first | refine S.c ?_ (h := flag_none) | refine S.c ?_ (h := flag_in (by omega) (by omega)) | refine S.c ?_ (h := flag_out (by omega))) | refine S.n fun _ => ?_ | refine S.i fun hix => ?_ | (refine S.g fun hb => ?_; (try simp only [hb])) | (refine S.s (fun hb => ?_) (fun hb => ?_) <;> ((try simp only [hb]) <;> (try (have hp := hb; simp only [WKs] at hp; (try have hq := Int.not_le.2 hp); (try have hq := Int.not_lt.2 hp))))))
    | rintro _ _ ⟨rfl, rfl⟩
    | ((fail_if_success refine G.tr ?_); exact G.prop S.p)
    | fail) <;> (try simp only [WKb, ↓reduceIte, Nat.reduceEqDiff]))))
    all_goals
      refine Tr.fin hK ⟨by simp [upB, flagC, *], rfl⟩ ?_
      ((try clear hK) <;> (try simp only [WKe, *]) <;> repeat (first | with_reducible exact EntR.done | refine S.e ?_ | (refine S.f ?_ <;> (try simp only [WKe, flagC, hs, ↓reduceIte, reduceCtorEq, Int.reduceEq, *])) | with_reducible apply EntR.ex | refine EntR.drop (F := F) ?_ | refine EntR.drop ?_))
  · have h' := h
    unfold inR at h'
    (refine Tr.enter (rs := [.tmp 4, .tmp 5]) mixed fn65 rfl (by simp +arith [Try.ntmps65]) fun u => ?_; simp only [cd65, Try.f65])
    ((try simp only [WKb, ↓reduceIte, Nat.reduceEqDiff, Nat.reduceAdd]) <;> (repeat' ((first
    | (refine G.tr ?_; first | refine S.a ?_ | refine Tr.brK ?_ ?_ | (refine G.call 124 ?_; first | refine S.c ?_ (h := flag_none) | refine S.c ?_ (h := flag_in (by omega) (by omega)) | refine S.c ?_ (h := flag_out (by omega))) | refine S.n fun _ => ?_ | refine S.i fun hix => ?_ | (refine S.g fun hb => ?_; (try simp only [hb])) | (refine S.s (fun hb => ?_) (fun hb => ?_) <;> ((try simp only [hb]) <;> (try (have hp := hb; simp only [WKs] at hp; (try have hq := Int.not_le.2 hp); (try have hq := Int.not_lt.2 hp))))))
    | rintro _ _ ⟨rfl, rfl⟩
    | ((fail_if_success refine G.tr ?_); exact G.prop S.p)
    | fail) <;> (try simp only [WKb, ↓reduceIte, Nat.reduceEqDiff]))))
    all_goals
      refine Tr.fin hK ⟨by simp [upB, flagC, *], rfl⟩ ?_
      ((try clear hK) <;> (try simp only [WKe, *]) <;> repeat (first | with_reducible exact EntR.done | refine S.e ?_ | (refine S.f ?_ <;> (try simp only [WKe, flagC, ↓reduceIte, reduceCtorEq, Int.reduceEq, *])) | with_reducible apply EntR.ex | refine EntR.drop (F := F) ?_ | refine EntR.drop ?_))

end Go.Proofs.Ytlmcoiloepoggaa
