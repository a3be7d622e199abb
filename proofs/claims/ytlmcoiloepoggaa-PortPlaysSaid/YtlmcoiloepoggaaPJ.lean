import Derived.Test.YtlmcoiloepoggaaPF
namespace Go.Proofs.Ytlmcoiloepoggaa
open Go Go.Wk
set_option maxHeartbeats 6400000
set_option maxRecDepth 10000
/-- A port of the document, ps it is told of. -/
structure AP where
  c : PortC
  ms : List (List UInt8)
  fresh : Bool
  lost : Int
instance : Inhabited AP := ⟨⟨default, [], false, 0⟩⟩
instance : ElT 170 (SL Msg) := ⟨⟩
def mo (x : SL Msg) : List (List UInt8) := x.d.map SL.d
abbrev rB (r : Nat) (a b c d : SV) : Asrt := blk r (.cells [a.v, b.v, c.v, d.v].toArray 172 (0, 0))
def canA (ps : List AP) (k : Int) (q i : Bool) : Bool := if inR ps k then (((ix ps k).c.q == q) && ((ix ps k).c.i == i)) else false
def intoCA (ps : List AP) (k : Int) (q : Bool) (n : Nat) : Int := if canA ps k q false = true then (if lenOK n (ix ps k).c.size = true then (if q = true then (if (ix ps k).c.depth ≤ (ix ps k).ms.length then 1 else 0) else 0) else 2) else 3
def intoA (ps : List AP) (k : Int) (q : Bool) (m : List UInt8) : List AP := if canA ps k q false = true then (if lenOK m.length (ix ps k).c.size = true then (if q = true then (if (ix ps k).c.depth ≤ (ix ps k).ms.length then ps else ps.set k.toNat { ix ps k with ms := (ix ps k).ms ++ [m], fresh := false }) else ps.set k.toNat { ix ps k with ms := [m], fresh := true }) else ps) else ps
def outCA (ps : List AP) (k : Int) (q : Bool) : Int := if canA ps k q true = true then (if ((ix ps k).ms.length : Int) = 0 then 1 else 0) else 3
def outDA (ps : List AP) (k : Int) (q : Bool) : List UInt8 := if canA ps k q true = true then (if ((ix ps k).ms.length : Int) = 0 then [] else ix (ix ps k).ms 0) else []
def outA (ps : List AP) (k : Int) (q : Bool) : List AP := if canA ps k q true = true then (if q = true then (if ((ix ps k).ms.length : Int) = 0 then ps else ps.set k.toNat { ix ps k with ms := (ix ps k).ms.drop 1, fresh := false }) else ps) else ps
def drainDA (ps : List AP) (k : Int) : List (List UInt8) := if canA ps k true false = true then (ix ps k).ms else if canA ps k false false = true then (if (ix ps k).fresh = true then (ix ps k).ms else []) else []
def drainA (ps : List AP) (k : Int) : List AP := if canA ps k true false = true then ps.set k.toNat { ix ps k with ms := [], fresh := false } else if canA ps k false false = true then (if (ix ps k).fresh = true then ps.set k.toNat { ix ps k with fresh := false } else ps) else ps
def delBA (ps : List AP) (k : Int) : Bool := if canA ps k false true = true then true else if canA ps k true true = true then !decide ((ix ps k).c.depth ≤ (ix ps k).ms.length) else false
def delA (ps : List AP) (k : Int) (m : List UInt8) : List AP := if canA ps k false true = true then ps.set k.toNat { ix ps k with ms := [m], fresh := false } else if canA ps k true true = true then (if (ix ps k).c.depth ≤ (ix ps k).ms.length then ps.set k.toNat { ix ps k with fresh := false, lost := IntKind.i64.wrap ((ix ps k).lost + 1) } else ps.set k.toNat { ix ps k with ms := (ix ps k).ms ++ [m], fresh := false }) else ps
theorem ap_len {ps : List AP} {xs : List (SL Msg)} (h : xs.map mo = ps.map AP.ms) : xs.length = ps.length := by simpa using congrArg List.length h
theorem ap_ms {ps : List AP} {xs : List (SL Msg)} (h : xs.map mo = ps.map AP.ms) {k : Int} (h0 : 0 ≤ k) (h1 : k < ps.length) : (ix xs k).d.map SL.d = (ix ps k).ms := by
  have hl := ap_len h
  rw [← ix_map (f := AP.ms) h0 h1, ← h, ix_map (f := mo) h0 (by omega)]; rfl
theorem ap_mlen {ps : List AP} {xs : List (SL Msg)} (h : xs.map mo = ps.map AP.ms) {k : Int} (h0 : 0 ≤ k) (h1 : k < ps.length) : (ix xs k).d.length = (ix ps k).ms.length := by
  rw [← ap_ms h h0 h1]; simp
attribute [local irreducible] BrK GenK EGenK EUnitK CallK FnK CallV GuardO GuardC CondW opX opK opKc chkR eqR seqK blkK endL WL WD W LoopW BinK Tr drewK resL PickK NotK NilK ExtrK getK Instr.storeAt Instr.loadAt Instr.fieldAt Instr.indexAt Instr.lookup Instr.mapUpdate Instr.box Instr.alloc Instr.build Instr.buildSlice Instr.makeSlice Instr.makeMap Instr.sliceAt Instr.field Instr.index Instr.makeInterface Instr.typeAssert Builtin.len_ Builtin.append_ Builtin.cap_ Builtin.min_ Builtin.max_ Builtin.copy_ Builtin.clear_ convert binOp mp blk rob sl sep ex fact old
theorem rcan_ok {r : Nat} {a b c d : SV} {ps : List AP} {k : Int} {q i : Bool} : Trip Try.prog 134 [.pointer (some ⟨r, 0, none⟩), .int .i64 k, .bool q, .bool i].toArray [rB r a b c d, sl true a.v (ps.map AP.c)]
    fun v l' => v = .bool (canA ps k q i) ∧ l' = [rB r a b c d, sl true a.v (ps.map AP.c)] := by
  intro F K hK
  simp only [List.cons_append, List.nil_append]
  have hl : (ps.map AP.c).length = ps.length := List.length_map _
  (refine Tr.enter (rs := [.tmp 8]) mixed fn134 rfl (by simp +arith [Try.ntmps134]) fun u => ?_; simp only [cd134, Try.f134])
  by_cases h : inR ps k
  · have ⟨h0, h1⟩ := h
    have hm := ix_map (f := AP.c) h0 h1
    ((try simp only [WKb, ↓reduceIte, Nat.reduceEqDiff, Nat.reduceAdd]) <;> (repeat' ((first
    | (refine G.tr ?_; first | refine S.a ?_ | refine Tr.brK ?_ ?_ | refine S.n fun _ => ?_ | refine S.i fun hix => ?_ | (refine S.g fun hb => ?_; (try simp only [hb])) | (refine S.s (fun hb => ?_) (fun hb => ?_) <;> ((try simp only [hb]) <;> (try (have hp := hb; simp only [WKs] at hp; (try have hq := Int.not_le.2 hp); (try have hq := Int.not_lt.2 hp))))))
    | ((fail_if_success refine G.tr ?_); exact G.prop S.p)
    | fail) <;> (try simp only [WKb, ↓reduceIte, Nat.reduceEqDiff, hm]))))
    all_goals
      refine Tr.fin hK ⟨(by first | (simp [*, canA]; done) | (simp only [WKe, ↓reduceIte, reduceCtorEq, Int.reduceEq, eq_self, *, canA]; done) | (simp only [WKe, ↓reduceIte, reduceCtorEq, Int.reduceEq, *, canA]; rfl)), rfl⟩ ?_
      ((try clear hK) <;> (try simp only [WKe, *]) <;> repeat (first | with_reducible exact EntR.done | refine S.e ?_ | (refine S.f ?_ <;> (try simp only [WKe, ↓reduceIte, reduceCtorEq, Int.reduceEq, *])) | with_reducible apply EntR.ex | refine EntR.drop (F := F) ?_ | refine EntR.drop ?_))
  · have h' := h
    unfold inR at h'
    ((try simp only [WKb, ↓reduceIte, Nat.reduceEqDiff, Nat.reduceAdd]) <;> (repeat' ((first
    | (refine G.tr ?_; first | refine S.a ?_ | refine Tr.brK ?_ ?_ | refine S.n fun _ => ?_ | refine S.i fun hix => ?_ | (refine S.g fun hb => ?_; (try simp only [hb])) | (refine S.s (fun hb => ?_) (fun hb => ?_) <;> ((try simp only [hb]) <;> (try (have hp := hb; simp only [WKs] at hp; (try have hq := Int.not_le.2 hp); (try have hq := Int.not_lt.2 hp))))))
    | ((fail_if_success refine G.tr ?_); exact G.prop S.p)
    | fail) <;> (try simp only [WKb, ↓reduceIte, Nat.reduceEqDiff]))))
    all_goals
      refine Tr.fin hK ⟨(by first | (simp [*, canA]; done) | (simp only [WKe, ↓reduceIte, reduceCtorEq, Int.reduceEq, eq_self, *, canA]; done) | (simp only [WKe, ↓reduceIte, reduceCtorEq, Int.reduceEq, *, canA]; rfl)), rfl⟩ ?_
      ((try clear hK) <;> (try simp only [WKe, *]) <;> repeat (first | with_reducible exact EntR.done | refine S.e ?_ | (refine S.f ?_ <;> (try simp only [WKe, ↓reduceIte, reduceCtorEq, Int.reduceEq, *])) | with_reducible apply EntR.ex | refine EntR.drop (F := F) ?_ | refine EntR.drop ?_))

theorem rset_ok {r : Nat} {a b c d s : SV} {xs : List (SL Msg)} {fs : List Bool} {os : List Int} {k lo : Int} {fr : Bool} {ms : List Msg} (h0 : 0 ≤ k) (h1 : k < xs.length) (h2 : fs.length = xs.length) (h3 : os.length = xs.length) (hb : xs.length ≤ 1000000) :
    Trip Try.prog 135 [.pointer (some ⟨r, 0, none⟩), .int .i64 k, s.v, .bool fr, .int .i64 lo].toArray [rB r a b c d, sl false b.v xs, fzl xs, sl false c.v fs, sl false d.v os, sl true s.v ms, fzl ms]
    fun v l' => ∃ b2 c2 d2, v = .tuple #[] ∧ l' = [rB r a b2 c2 d2, sl false b2.v (xs.set k.toNat (SL.mk s ms)), fzl (xs.set k.toNat (SL.mk s ms)), sl false c2.v (fs.set k.toNat fr), sl false d2.v (os.set k.toNat lo)] := by
  intro F K hK
  simp only [List.cons_append, List.nil_append]
  (refine Tr.enter (rs := []) mixed fn135 rfl (by simp +arith [Try.ntmps135]) fun u => ?_; simp only [cd135, Try.f135])
  ((try simp only [WKb, Nat.reduceAdd]) <;> (repeat' ((first
    | (refine G.tr ?_; first | refine S.a ?_ | refine Tr.brK ?_ ?_ | refine S.n fun _ => ?_ | refine S.i fun hix => ?_ | (refine S.g fun hb => ?_; (try simp only [hb])) | (refine S.s (fun hb => ?_) (fun hb => ?_) <;> ((try simp only [hb]) <;> (try (have hp := hb; simp only [WKs] at hp; (try have hq := Int.not_le.2 hp); (try have hq := Int.not_lt.2 hp))))))
    | ((fail_if_success refine G.tr ?_); exact G.prop S.p)
    | fail) <;> (try simp only [WKb, ↓reduceIte, Nat.reduceEqDiff, Nat.reduceAdd]))))
  all_goals
    apply Tr.fin hK ⟨_, _, _, rfl, rfl⟩
    ((try clear hK) <;> (try simp only [WKe, *]) <;> repeat (first | with_reducible exact EntR.done | refine S.e ?_ | (refine S.f ?_ <;> (try simp only [WKe, ↓reduceIte, reduceCtorEq, Int.reduceEq, *])) | with_reducible apply EntR.ex | refine EntR.drop (F := F) ?_ | refine EntR.drop ?_))

theorem canA_t {ps : List AP} {k : Int} {q i : Bool} (h : canA ps k q i = true) : 0 ≤ k ∧ k < ps.length ∧ (ix ps k).c.q = q ∧ (ix ps k).c.i = i := by
  unfold canA at h
  split at h
  · rename_i hr
    simp only [Bool.and_eq_true, beq_iff_eq] at h
    exact ⟨hr.1, hr.2, h.1, h.2⟩
  · cases h
theorem lenOK_t {n : Nat} {s : Int} : lenOK n s = true ↔ 1 ≤ (n : Int) ∧ (n : Int) ≤ s := by unfold lenOK; simp
theorem ap_set {ps : List AP} {xs : List (SL Msg)} (h : xs.map mo = ps.map AP.ms) {k : Nat} {y : SL Msg} {g : AP} (hg : mo y = g.ms) : (xs.set k y).map mo = (ps.set k g).map AP.ms := by rw [List.map_set, List.map_set, h, hg]
theorem ap_keep {β : Type} {f : AP → β} {ps : List AP} {k : Int} (h0 : 0 ≤ k) (h1 : k < ps.length) : (ps.map f).set k.toNat (f (ix ps k)) = ps.map f := by rw [← List.map_set]; exact map_same h0 h1 _ rfl
theorem rput_ok {r : Nat} {a b c d s : SV} {ps : List AP} {xs : List (SL Msg)} {k : Int} {q : Bool} {m : List UInt8} (hx : xs.map mo = ps.map AP.ms) (hb : ps.length ≤ 1000000) (hm : (ix ps k).ms.length ≤ 1000000) :
    Trip Try.prog 133 [.pointer (some ⟨r, 0, none⟩), .int .i64 k, .bool q, s.v].toArray [rB r a b c d, sl true a.v (ps.map AP.c), sl false b.v xs, fzl xs, sl false c.v (ps.map AP.fresh), sl false d.v (ps.map AP.lost), sl true s.v m]
    fun v l' => ∃ b2 c2 d2 xs2, xs2.map mo = (intoA ps k q m).map AP.ms ∧ v = .int .i64 (intoCA ps k q m.length) ∧ l' = [rB r a b2 c2 d2, sl true a.v ((intoA ps k q m).map AP.c), sl false b2.v xs2, fzl xs2, sl false c2.v ((intoA ps k q m).map AP.fresh), sl false d2.v ((intoA ps k q m).map AP.lost)] := by
  intro F K hK
  simp only [List.cons_append, List.nil_append]
  have hl := ap_len hx
  have hlc : (ps.map AP.c).length = ps.length := List.length_map _
  have hlo : (ps.map AP.lost).length = ps.length := List.length_map _
  have hlf : (ps.map AP.fresh).length = ps.length := List.length_map _
  (refine Tr.enter (rs := [.tmp 8]) mixed fn133 rfl (by simp +arith [Try.ntmps133]) fun u => ?_; simp only [cd133, Try.f133])
  cases hc : canA ps k q false
  · have hI : intoA ps k q m = ps := by simp [intoA, hc]
    ((try simp only [WKb, ↓reduceIte, Nat.reduceEqDiff, Nat.reduceAdd]) <;> (repeat' ((first
    | (refine G.tr ?_; first | refine S.a ?_ | refine Tr.brK ?_ ?_ | (refine G.call 134 ?_; refine S.c ?_ (h := rcan_ok)) | (refine G.call 135 ?_; first | refine S.c ?_ (h := rset0_ok ?_ ?_ ?_ ?_ ?_) | refine S.c ?_ (h := rset_ok ?_ ?_ ?_ ?_ ?_)) | refine S.n fun _ => ?_ | refine S.i fun hix => ?_ | (refine S.g fun hb => ?_; (try simp only [hb])) | (refine S.s (fun hb => ?_) (fun hb => ?_) <;> ((try simp only [hb]) <;> (try (have hp := hb; simp only [WKs] at hp; (try have hq := Int.not_le.2 hp); (try have hq := Int.not_lt.2 hp))))))
    | rintro _ _ ⟨rfl, rfl⟩
    | rintro _ _ ⟨_, _, _, rfl, rfl⟩
    | ((fail_if_success refine G.tr ?_); exact G.prop S.p)
    | fail) <;> (try simp only [WKb, ↓reduceIte, hc]))))
    all_goals
      apply Tr.fin hK ⟨b, c, d, xs, by rw [hI]; exact hx, (by first | (simp [*, intoCA]; done) | (simp only [WKe, ↓reduceIte, reduceCtorEq, Int.reduceEq, eq_self, *, intoCA, hc]; done) | (simp only [WKe, ↓reduceIte, reduceCtorEq, Int.reduceEq, *, intoCA, hc]; rfl)), rfl⟩
      ((try clear hK) <;> (try simp only [WKe, *]) <;> repeat (first | with_reducible exact EntR.done | refine S.e ?_ | (refine S.f ?_ <;> (try simp only [WKe, hI, ↓reduceIte, reduceCtorEq, Int.reduceEq, *])) | with_reducible apply EntR.ex | refine EntR.drop (F := F) ?_ | refine EntR.drop ?_))
  · obtain ⟨h0, h1, hq, hi⟩ := canA_t hc
    have hmc := ix_map (f := AP.c) h0 h1
    have hmo := ix_map (f := AP.lost) h0 h1
    have hlm := ap_mlen hx h0 h1
    have hkc := ap_keep (f := AP.c) h0 h1
    have hkl := ap_keep (f := AP.lost) h0 h1
    cases hn : lenOK m.length (ix ps k).c.size
    · have hI : intoA ps k q m = ps := by simp [intoA, hc, hn]
      have hn' : ¬ (1 ≤ (m.length : Int) ∧ (m.length : Int) ≤ (ix ps k).c.size) := fun h => by rw [lenOK_t.2 h] at hn; cases hn
      ((try simp only [WKb, ↓reduceIte, Nat.reduceEqDiff, Nat.reduceAdd]) <;> (repeat' ((first
    | (refine G.tr ?_; first | refine S.a ?_ | refine Tr.brK ?_ ?_ | (refine G.call 134 ?_; refine S.c ?_ (h := rcan_ok)) | (refine G.call 135 ?_; first | refine S.c ?_ (h := rset0_ok ?_ ?_ ?_ ?_ ?_) | refine S.c ?_ (h := rset_ok ?_ ?_ ?_ ?_ ?_)) | refine S.n fun _ => ?_ | refine S.i fun hix => ?_ | (refine S.g fun hb => ?_; (try simp only [hb])) | (refine S.s (fun hb => ?_) (fun hb => ?_) <;> ((try simp only [hb]) <;> (try (have hp := hb; simp only [WKs] at hp; (try have hq := Int.not_le.2 hp); (try have hq := Int.not_lt.2 hp))))))
    | rintro _ _ ⟨rfl, rfl⟩
    | rintro _ _ ⟨_, _, _, rfl, rfl⟩
    | ((fail_if_success refine G.tr ?_); exact G.prop S.p)
    | fail) <;> (try simp only [WKb, ↓reduceIte, Nat.reduceEqDiff, hc, hmc]))))
      all_goals
        apply Tr.fin hK ⟨b, c, d, xs, by rw [hI]; exact hx, (by first | (simp [*, intoCA]; done) | (simp only [WKe, ↓reduceIte, reduceCtorEq, Int.reduceEq, eq_self, *, intoCA, hc, hn]; done) | (simp only [WKe, ↓reduceIte, reduceCtorEq, Int.reduceEq, *, intoCA, hc, hn]; rfl)), rfl⟩
        ((try clear hK) <;> (try simp only [WKe, *]) <;> repeat (first | with_reducible exact EntR.done | refine S.e ?_ | (refine S.f ?_ <;> (try simp only [WKe, hI, ↓reduceIte, reduceCtorEq, Int.reduceEq, *])) | with_reducible apply EntR.ex | refine EntR.drop (F := F) ?_ | refine EntR.drop ?_))
    · have hn' := lenOK_t.1 hn
      cases q
      · have hI : intoA ps k false m = ps.set k.toNat { ix ps k with ms := [m], fresh := true } := by simp [intoA, hc, hn]
        have hS : ∀ t, (xs.set k.toNat ⟨t, [⟨s, m⟩]⟩).map mo = (intoA ps k false m).map AP.ms := fun t => by rw [hI]; exact ap_set hx rfl
        ((try simp only [WKb, ↓reduceIte, Nat.reduceEqDiff, Nat.reduceAdd]) <;> (repeat' ((first
    | (refine G.tr ?_; first | refine S.a ?_ | refine Tr.brK ?_ ?_ | (refine G.call 134 ?_; refine S.c ?_ (h := rcan_ok)) | (refine G.call 135 ?_; first | refine S.c ?_ (h := rset0_ok ?_ ?_ ?_ ?_ ?_) | refine S.c ?_ (h := rset_ok ?_ ?_ ?_ ?_ ?_)) | refine S.n fun _ => ?_ | refine S.i fun hix => ?_ | (refine S.g fun hb => ?_; (try simp only [hb])) | (refine S.s (fun hb => ?_) (fun hb => ?_) <;> ((try simp only [hb]) <;> (try (have hp := hb; simp only [WKs] at hp; (try have hq := Int.not_le.2 hp); (try have hq := Int.not_lt.2 hp))))))
    | rintro _ _ ⟨rfl, rfl⟩
    | rintro _ _ ⟨_, _, _, rfl, rfl⟩
    | (refine G.call 135 ?_; refine Tr.freezeAt (α := Msg) (by (repeat (first | exact TakeA.here | apply TakeA.next)); done) ?_)
    | ((fail_if_success refine G.tr ?_); exact G.prop S.p)
    | fail) <;> (try simp only [WKb, ↓reduceIte, Nat.reduceEqDiff, hc, hmc, hmo]))))
        all_goals
          apply Tr.fin hK ⟨_, _, _, _, hS _, (by first | (simp [*, intoCA]; done) | (simp only [WKe, ↓reduceIte, reduceCtorEq, Int.reduceEq, eq_self, *, intoCA, hc, hn]; done) | (simp only [WKe, ↓reduceIte, reduceCtorEq, Int.reduceEq, *, intoCA, hc, hn]; rfl)), rfl⟩
          ((try clear hK) <;> (try simp only [WKe, List.map_set, *]) <;> repeat (first | with_reducible exact EntR.done | refine S.e ?_ | (refine S.f ?_ <;> (try simp only [WKe, hI, List.map_set, hkc, hkl, ↓reduceIte, reduceCtorEq, Int.reduceEq, *])) | with_reducible apply EntR.ex | refine EntR.drop (F := F) ?_ | refine EntR.drop ?_))
      · by_cases hf : (ix ps k).c.depth ≤ (ix ps k).ms.length
        · have hI : intoA ps k true m = ps := by simp [intoA, hc, hn, hf]
          ((try simp only [WKb, ↓reduceIte, Nat.reduceEqDiff, Nat.reduceAdd]) <;> (repeat' ((first
    | (refine G.tr ?_; first | refine S.a ?_ | refine Tr.brK ?_ ?_ | (refine G.call 134 ?_; refine S.c ?_ (h := rcan_ok)) | (refine G.call 135 ?_; first | refine S.c ?_ (h := rset0_ok ?_ ?_ ?_ ?_ ?_) | refine S.c ?_ (h := rset_ok ?_ ?_ ?_ ?_ ?_)) | refine S.n fun _ => ?_ | refine S.i fun hix => ?_ | (refine S.g fun hb => ?_; (try simp only [hb])) | (refine S.s (fun hb => ?_) (fun hb => ?_) <;> ((try simp only [hb]) <;> (try (have hp := hb; simp only [WKs] at hp; (try have hq := Int.not_le.2 hp); (try have hq := Int.not_lt.2 hp))))))
    | rintro _ _ ⟨rfl, rfl⟩
    | rintro _ _ ⟨_, _, _, rfl, rfl⟩
    | (refine G.call 135 ?_; refine Tr.freezeAt (α := Msg) (by (repeat (first | exact TakeA.here | apply TakeA.next)); done) ?_)
    | ((fail_if_success refine G.tr ?_); exact G.prop S.p)
    | fail) <;> (try simp only [WKb, ↓reduceIte, Nat.reduceEqDiff, pl133, hc, hmc, hlm]))))
          all_goals
            apply Tr.fin hK ⟨b, c, d, xs, by rw [hI]; exact hx, (by first | (simp [*, intoCA]; done) | (simp only [WKe, ↓reduceIte, reduceCtorEq, Int.reduceEq, eq_self, *, intoCA, hc, hn, hf]; done) | (simp only [WKe, ↓reduceIte, reduceCtorEq, Int.reduceEq, *, intoCA, hc, hn, hf]; rfl)), rfl⟩
            ((try clear hK) <;> (try simp only [WKe, *]) <;> repeat (first | with_reducible exact EntR.done | refine S.e ?_ | (refine S.f ?_ <;> (try simp only [WKe, hI, ↓reduceIte, reduceCtorEq, Int.reduceEq, *])) | with_reducible apply EntR.ex | refine EntR.drop (F := F) ?_ | refine EntR.drop ?_))
        · have hI : intoA ps k true m = ps.set k.toNat { ix ps k with ms := (ix ps k).ms ++ [m], fresh := false } := by simp [intoA, hc, hn, hf]
          have hS : ∀ t, (xs.set k.toNat ⟨t, (ix xs k).d ++ [⟨s, m⟩]⟩).map mo = (intoA ps k true m).map AP.ms := fun t => by
            rw [hI]; exact ap_set hx (by simp [mo, ap_ms hx h0 h1])
          ((try simp only [WKb, ↓reduceIte, Nat.reduceEqDiff, Nat.reduceAdd]) <;> (repeat' ((first
    | (refine G.tr ?_; first | refine S.a ?_ | refine Tr.brK ?_ ?_ | (refine G.call 134 ?_; refine S.c ?_ (h := rcan_ok)) | (refine G.call 135 ?_; first | refine S.c ?_ (h := rset0_ok ?_ ?_ ?_ ?_ ?_) | refine S.c ?_ (h := rset_ok ?_ ?_ ?_ ?_ ?_)) | refine S.n fun _ => ?_ | refine S.i fun hix => ?_ | (refine S.g fun hb => ?_; (try simp only [hb])) | (refine S.s (fun hb => ?_) (fun hb => ?_) <;> ((try simp only [hb]) <;> (try (have hp := hb; simp only [WKs] at hp; (try have hq := Int.not_le.2 hp); (try have hq := Int.not_lt.2 hp))))))
    | rintro _ _ ⟨rfl, rfl⟩
    | rintro _ _ ⟨_, _, _, rfl, rfl⟩
    | (refine G.call 135 ?_; refine Tr.freezeAt (α := Msg) (by (repeat (first | exact TakeA.here | apply TakeA.next)); done) ?_)
    | ((fail_if_success refine G.tr ?_); exact G.prop S.p)
    | fail) <;> (try simp only [WKb, ↓reduceIte, Nat.reduceEqDiff, pl133, hc, hmc, hmo, hlm]))))
          all_goals
            apply Tr.fin hK ⟨_, _, _, _, hS _, (by first | (simp [*, intoCA]; done) | (simp only [WKe, ↓reduceIte, reduceCtorEq, Int.reduceEq, eq_self, *, intoCA, hc, hn, hf]; done) | (simp only [WKe, ↓reduceIte, reduceCtorEq, Int.reduceEq, *, intoCA, hc, hn, hf]; rfl)), rfl⟩
            ((try clear hK) <;> (try simp only [WKe, List.map_set, *]) <;> repeat (first | with_reducible exact EntR.done | refine S.e ?_ | (refine S.f ?_ <;> (try simp only [WKe, hI, List.map_set, hkc, hkl, ↓reduceIte, reduceCtorEq, Int.reduceEq, *])) | with_reducible apply EntR.ex | refine EntR.drop (F := F) ?_ | refine EntR.drop ?_))

theorem rwrite_ok {r : Nat} {a b c d s : SV} {ps : List AP} {xs : List (SL Msg)} {k : Int} {m : List UInt8} (hx : xs.map mo = ps.map AP.ms) (hb : ps.length ≤ 1000000) (hm : (ix ps k).ms.length ≤ 1000000) :
    Trip Try.prog 96 [.pointer (some ⟨r, 0, none⟩), .int .i64 k, s.v].toArray [rB r a b c d, sl true a.v (ps.map AP.c), sl false b.v xs, fzl xs, sl false c.v (ps.map AP.fresh), sl false d.v (ps.map AP.lost), sl true s.v m]
    fun v l' => ∃ b2 c2 d2 xs2, xs2.map mo = (intoA ps k false m).map AP.ms ∧ v = .int .i64 (intoCA ps k false m.length) ∧ l' = [rB r a b2 c2 d2, sl true a.v ((intoA ps k false m).map AP.c), sl false b2.v xs2, fzl xs2, sl false c2.v ((intoA ps k false m).map AP.fresh), sl false d2.v ((intoA ps k false m).map AP.lost)] := by
  intro F K hK
  simp only [List.cons_append, List.nil_append]
  (refine Tr.enter (rs := [.tmp 6]) mixed fn96 rfl (by simp +arith [Try.ntmps96]) fun u => ?_; simp only [cd96, Try.f96])
  ((try simp only [WKb, ↓reduceIte, Nat.reduceEqDiff, Nat.reduceAdd]) <;> (repeat' ((first
    | (refine G.tr ?_; first | refine S.a ?_ | refine Tr.brK ?_ ?_ | (refine G.call 133 ?_; refine S.c ?_ (h := rput_ok ?_ ?_ ?_)) | refine S.n fun _ => ?_ | refine S.i fun hix => ?_ | (refine S.g fun hb => ?_; (try simp only [hb])) | (refine S.s (fun hb => ?_) (fun hb => ?_) <;> ((try simp only [hb]) <;> (try (have hp := hb; simp only [WKs] at hp; (try have hq := Int.not_le.2 hp); (try have hq := Int.not_lt.2 hp))))))
    | rintro _ _ ⟨_, _, _, _, hxs, rfl, rfl⟩
    | ((fail_if_success refine G.tr ?_); exact G.prop S.p)
    | fail) <;> (try simp only [WKb, ↓reduceIte]))))
  all_goals
    apply Tr.fin hK ⟨_, _, _, _, hxs, rfl, rfl⟩
    ((try clear hK) <;> (try simp only [WKe, *]) <;> repeat (first | with_reducible exact EntR.done | refine S.e ?_ | (refine S.f ?_ <;> (try simp only [WKe, ↓reduceIte, reduceCtorEq, Int.reduceEq, *])) | with_reducible apply EntR.ex | refine EntR.drop (F := F) ?_ | refine EntR.drop ?_))

theorem rsend_ok {r : Nat} {a b c d s : SV} {ps : List AP} {xs : List (SL Msg)} {k : Int} {m : List UInt8} (hx : xs.map mo = ps.map AP.ms) (hb : ps.length ≤ 1000000) (hm : (ix ps k).ms.length ≤ 1000000) :
    Trip Try.prog 98 [.pointer (some ⟨r, 0, none⟩), .int .i64 k, s.v].toArray [rB r a b c d, sl true a.v (ps.map AP.c), sl false b.v xs, fzl xs, sl false c.v (ps.map AP.fresh), sl false d.v (ps.map AP.lost), sl true s.v m]
    fun v l' => ∃ b2 c2 d2 xs2, xs2.map mo = (intoA ps k true m).map AP.ms ∧ v = .int .i64 (intoCA ps k true m.length) ∧ l' = [rB r a b2 c2 d2, sl true a.v ((intoA ps k true m).map AP.c), sl false b2.v xs2, fzl xs2, sl false c2.v ((intoA ps k true m).map AP.fresh), sl false d2.v ((intoA ps k true m).map AP.lost)] := by
  intro F K hK
  simp only [List.cons_append, List.nil_append]
  (refine Tr.enter (rs := [.tmp 6]) mixed fn98 rfl (by simp +arith [Try.ntmps98]) fun u => ?_; simp only [cd98, Try.f98])
  ((try simp only [WKb, ↓reduceIte, Nat.reduceEqDiff, Nat.reduceAdd]) <;> (repeat' ((first
    | (refine G.tr ?_; first | refine S.a ?_ | refine Tr.brK ?_ ?_ | (refine G.call 133 ?_; refine S.c ?_ (h := rput_ok ?_ ?_ ?_)) | refine S.n fun _ => ?_ | refine S.i fun hix => ?_ | (refine S.g fun hb => ?_; (try simp only [hb])) | (refine S.s (fun hb => ?_) (fun hb => ?_) <;> ((try simp only [hb]) <;> (try (have hp := hb; simp only [WKs] at hp; (try have hq := Int.not_le.2 hp); (try have hq := Int.not_lt.2 hp))))))
    | rintro _ _ ⟨_, _, _, _, hxs, rfl, rfl⟩
    | ((fail_if_success refine G.tr ?_); exact G.prop S.p)
    | fail) <;> (try simp only [WKb, ↓reduceIte]))))
  all_goals
    apply Tr.fin hK ⟨_, _, _, _, hxs, rfl, rfl⟩
    ((try clear hK) <;> (try simp only [WKe, *]) <;> repeat (first | with_reducible exact EntR.done | refine S.e ?_ | (refine S.f ?_ <;> (try simp only [WKe, ↓reduceIte, reduceCtorEq, Int.reduceEq, *])) | with_reducible apply EntR.ex | refine EntR.drop (F := F) ?_ | refine EntR.drop ?_))

theorem rread_ok {r : Nat} {a b c d : SV} {ps : List AP} {xs : List (SL Msg)} {k : Int} (hx : xs.map mo = ps.map AP.ms) :
    Trip Try.prog 97 [.pointer (some ⟨r, 0, none⟩), .int .i64 k].toArray [rB r a b c d, sl true a.v (ps.map AP.c), sl false b.v xs, fzl xs, sl false c.v (ps.map AP.fresh), sl false d.v (ps.map AP.lost)]
    fun v l' => ∃ t : SV, v = .tuple #[t.v, .int .i64 (outCA ps k false)] ∧ l' = [Fz.fz (SL.mk t (outDA ps k false) : Msg), rB r a b c d, sl true a.v (ps.map AP.c), sl false b.v xs, fzl xs, sl false c.v (ps.map AP.fresh), sl false d.v (ps.map AP.lost)] := by
  intro F K hK
  simp only [List.cons_append, List.nil_append]
  have hdm : (⟨⟨none, 0, 0⟩, []⟩ : Msg) = default := rfl
  have hl := ap_len hx
  have hlc : (ps.map AP.c).length = ps.length := List.length_map _
  have hlo : (ps.map AP.lost).length = ps.length := List.length_map _
  have hlf : (ps.map AP.fresh).length = ps.length := List.length_map _
  (refine Tr.enter (rs := [.tmp 4, .tmp 5]) mixed fn97 rfl (by simp +arith [Try.ntmps97]) fun u => ?_; simp only [cd97, Try.f97])
  cases hc : canA ps k false true
  · have hD : outDA ps k false = [] := by simp [outDA, hc]
    ((try simp only [WKb, ↓reduceIte, Nat.reduceEqDiff, Nat.reduceAdd]) <;> (repeat' ((first
    | (refine G.tr ?_; first | refine S.a ?_ | refine Tr.brK ?_ ?_ | (refine G.call 134 ?_; refine S.c ?_ (h := rcan_ok)) | refine S.n fun _ => ?_ | refine S.i fun hix => ?_ | (refine S.g fun hb => ?_; (try simp only [hb])) | (refine S.s (fun hb => ?_) (fun hb => ?_) <;> ((try simp only [hb]) <;> (try (have hp := hb; simp only [WKs] at hp; (try have hq := Int.not_le.2 hp); (try have hq := Int.not_lt.2 hp))))))
    | rintro _ _ ⟨rfl, rfl⟩
    | ((fail_if_success refine G.tr ?_); exact G.prop S.p)
    | fail) <;> (try simp only [WKb, ↓reduceIte, Nat.reduceEqDiff, hc]))))
    all_goals
      apply Tr.fin hK ⟨⟨none, 0, 0⟩, (by first | (simp [*, outCA]; done) | (simp only [WKe, ↓reduceIte, *, outCA]; done) | (simp only [WKe, ↓reduceIte, *, outCA]; rfl)), rfl⟩
      ((try clear hK) <;> (try simp only [WKe, *]) <;> repeat (first | with_reducible exact EntR.done | refine S.e ?_ | (refine S.f ?_ <;> (try simp only [WKe, hD, hdm, ↓reduceIte, reduceCtorEq, Int.reduceEq, *])) | with_reducible apply EntR.ex | refine EntR.drop (F := F) ?_ | refine EntR.drop ?_))
  · obtain ⟨h0, h1, hq, hi⟩ := canA_t hc
    have hmc := ix_map (f := AP.c) h0 h1
    have hmo := ix_map (f := AP.lost) h0 h1
    have hmf := ix_map (f := AP.fresh) h0 h1
    have hlm := ap_mlen hx h0 h1
    have hms := ap_ms hx h0 h1
    have hkc := ap_keep (f := AP.c) h0 h1
    have hkl := ap_keep (f := AP.lost) h0 h1
    by_cases he : ((ix ps k).ms.length : Int) = 0
    · have hD : outDA ps k false = [] := by simp only [outDA, hc, he, if_true]
      ((try simp only [WKb, ↓reduceIte, Nat.reduceEqDiff, Nat.reduceAdd]) <;> (repeat' ((first
    | (refine G.tr ?_; first | refine S.a ?_ | refine Tr.brK ?_ ?_ | (refine G.call 134 ?_; refine S.c ?_ (h := rcan_ok)) | refine S.n fun _ => ?_ | refine S.i fun hix => ?_ | (refine S.g fun hb => ?_; (try simp only [hb])) | (refine S.s (fun hb => ?_) (fun hb => ?_) <;> ((try simp only [hb]) <;> (try (have hp := hb; simp only [WKs] at hp; (try have hq := Int.not_le.2 hp); (try have hq := Int.not_lt.2 hp))))))
    | rintro _ _ ⟨rfl, rfl⟩
    | ((fail_if_success refine G.tr ?_); exact G.prop S.p)
    | fail) <;> (try simp only [WKb, ↓reduceIte, Nat.reduceEqDiff, hc, hlm]))))
      all_goals
        apply Tr.fin hK ⟨⟨none, 0, 0⟩, (by first | (simp [*, outCA]; done) | (simp only [↓reduceIte, eq_self, *, outCA]; done) | (simp only [↓reduceIte, *, outCA]; rfl)), rfl⟩
        ((try clear hK) <;> (try simp only [WKe, *]) <;> repeat (first | with_reducible exact EntR.done | refine S.e ?_ | (refine S.f ?_ <;> (try simp only [WKe, hD, hdm, ↓reduceIte, reduceCtorEq, Int.reduceEq, *])) | with_reducible apply EntR.ex | refine EntR.drop (F := F) ?_ | refine EntR.drop ?_))
    · have hD : outDA ps k false = (ix (ix xs k).d 0).d := by
        simp only [outDA, hc, he, if_true, if_false]
        rw [← hms, ix_map (f := SL.d) (by omega) (by omega)]
      ((try simp only [WKb, ↓reduceIte, Nat.reduceEqDiff, Nat.reduceAdd]) <;> (repeat' ((first
    | (refine G.tr ?_; first | refine S.a ?_ | refine Tr.brK ?_ ?_ | (refine G.call 134 ?_; refine S.c ?_ (h := rcan_ok)) | refine S.n fun _ => ?_ | refine S.i fun hix => ?_ | (refine S.g fun hb => ?_; (try simp only [hb])) | (refine S.s (fun hb => ?_) (fun hb => ?_) <;> ((try simp only [hb]) <;> (try (have hp := hb; simp only [WKs] at hp; (try have hq := Int.not_le.2 hp); (try have hq := Int.not_lt.2 hp))))))
    | rintro _ _ ⟨rfl, rfl⟩
    | ((fail_if_success refine G.tr ?_); exact G.prop S.p)
    | fail) <;> (try simp only [WKb, ↓reduceIte, Nat.reduceEqDiff, hc, hlm]))))
      all_goals
        apply Tr.fin hK ⟨(ix (ix xs k).d 0).s, (by first | (simp [*, outCA]; done) | (simp only [↓reduceIte, eq_self, *, outCA]; done) | (simp only [WKe, ↓reduceIte, reduceCtorEq, Int.reduceEq, *, outCA, hc, he]; rfl)), rfl⟩
        ((try clear hK) <;> (try simp only [WKe, *]) <;> repeat (first | with_reducible exact EntR.done | refine S.e ?_ | (refine S.f ?_ <;> (try simp only [WKe, hD, hdm, ↓reduceIte, reduceCtorEq, Int.reduceEq, *])) | with_reducible apply EntR.ex | refine EntR.drop (F := F) ?_ | refine EntR.drop ?_))


end Go.Proofs.Ytlmcoiloepoggaa
