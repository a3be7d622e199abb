/- The library's contracts as triples. -/
import Derived.Test.YtgkhjgpgdfbdpaaGreatDoorWkV
namespace Go.Wk
open Go Go.RowKit
theorem Sat.below {w w' : World} (h : Below w.heap.size w w') {l : List Asrt} : Sat w l → Sat w' l := fun ⟨R, h1, h2⟩ =>
  ⟨R, fun b hb => Nat.lt_of_lt_of_le (h1 b hb) h.size, SatR.frame (w := w) (w' := w') (fun _ h => h) h.size ⟨h.os, h.output, h.tape⟩ (fun b hb => h.block b (h1 b hb)) (fun b hn hl => ⟨h.block b hl, hn⟩) h2⟩
theorem Tr.ofCalls {P : Program} {f : FuncId} {args : Array Value} {l : List Asrt} {K : Value → WP} (h : ∀ w, Sat w l → Calls P f args w fun e w' => ∃ v, e = .returned v ∧ K v w') : Tr l (CallK P f args K) := fun w hw =>
  Calls.mono (h w hw) fun _ _ ⟨_, he, hk⟩ => by subst he; exact hk
/-- A package's variable of one cell, as a slice for reading. -/
def mxV (g : Nat) : Value := .slice (some ⟨g, 0, none⟩) 1 1
theorem mx_cell {g : Nat} {m : Int} {F : List Asrt} {w : World} (hw : Sat w (sl true (mxV g) [m] :: F)) : w.cell? ⟨g, 0, none⟩ = some (.int .i64 m) :=
  Cell.slj (i := 0) (j := 0) (x := m) (u := .int .i64 m) (Has.here (A := sl true (mxV g) [m]) (l := F)) rfl rfl w hw
theorem sl_fresh {α : Type} [En α] {xs : List α} {w : World} {T n : Nat} {F : List Asrt} {cs : List Value} (hn : xs.length = n) (hm : n ≤ 9223372036854775807) (hc : cs = flat xs) (h1 : En.sz α = 1) (hw : Sat w F) : Sat (w.alloc (.cells cs.toArray T)) (sl false (.slice (some ⟨w.heap.size, 0, none⟩) n n) xs :: F) := by
  subst hn; subst hc
  refine Sat.mapHead (fun R S hb => ?_) (hw.alloc (.cells (flat xs).toArray T))
  refine .inr ⟨w.heap.size, 0, xs.length, flat xs, T, (0, 0), rfl, ⟨Nat.le_refl _, hm⟩, ⟨hb.1, rfl, by rw [flat_length, h1]; omega⟩, hb.2, ?_⟩
  rw [List.drop_zero, ← flat_length, List.take_length]
theorem flat_str : ∀ xs : List ByteArray, xs.map Value.string = flat ((xs.map (·.data.toList)).map Str.mk)
  | [] => rfl
  | x :: xs => by
    have ih := flat_str xs
    simp only [flat] at ih
    simp only [List.map_cons, ih, flat, List.flatMap_cons]
    rfl
theorem trip_split {P : Program} {f g T : Nat} (hc : ∀ (s sep : ByteArray) (m : Int) (w : World), s.size < 4294967281 → w.cell? ⟨g, 0, none⟩ = some (.int .i64 m) → 1 ≤ sep.size →
      Calls P f #[.string s, .string sep] w fun e w' => e = .returned (.slice (some ⟨w.heap.size, 0, none⟩) (Lib.countB s sep + 1) (Lib.countB s sep + 1)) ∧ w' = w.alloc (.cells ((Lib.splitB sep 0 (Lib.countB s sep) s).map Value.string).toArray T))
    {s : List UInt8} {c : UInt8} {m : Int} (hs : s.length ≤ 4294967280) : Trip P f [.string (bstr s), .string (bstr [c])].toArray [sl true (mxV g) [m]] fun v l' => ∃ t : SV, v = t.v ∧ l' = [sl false t.v ((wordsA c s).map Str.mk)] := by
  intro F K hK
  refine Tr.ofCalls fun w hw => (hc (bstr s) (bstr [c]) m w (by rw [bstr_size]; omega) (mx_cell hw) (Nat.le_refl 1)).mono fun e w' ⟨he, hw'⟩ => ⟨_, he, ?_⟩
  refine hK _ _ ⟨⟨some ⟨w.heap.size, 0, none⟩, Lib.countB (bstr s) (bstr [c]) + 1, Lib.countB (bstr s) (bstr [c]) + 1⟩, rfl, rfl⟩ w' ?_
  subst hw'
  have hl := countB_len (c := c) (s := s)
  refine sl_fresh (xs := (wordsA c s).map Str.mk) (by rw [List.length_map, hl]) ?_ ?_ rfl hw.tail
  · show Lib.countB (bstr s) (bstr [c]) + 1 ≤ 9223372036854775807
    rw [hl, words_len]
    have := List.count_le_length (a := c) (l := s)
    omega
  · rw [flat_str, splitB_words]
theorem trip_trim {P : Program} {f : Nat} (hc : ∀ (s p : ByteArray) (w : World), Calls P f #[.string s, .string p] w fun e w' => e = .returned (.string ⟨(Lib.trimPrefix s.data.toList p.data.toList).toArray⟩) ∧ w' = w)
    {s : List UInt8} : Trip P f [.string (bstr s), .string (bstr [45])].toArray [] fun v l' => v = .string (bstr (trimA s)) ∧ l' = [] := by
  intro F K hK
  refine Tr.ofCalls fun w hw => (hc (bstr s) (bstr [45]) w).mono fun e w' ⟨he, hw'⟩ => ⟨_, he, ?_⟩
  subst hw'
  refine hK _ _ ⟨?_, rfl⟩ w' hw
  rw [bstr_data, bstr_data, trim_lib]; rfl
theorem trip_join {P : Program} {f : Nat} (hc : ∀ (bk o c : Nat) (xs : List ByteArray) (sep : ByteArray) (w : World), (∀ (j : Nat) x, xs[j]? = some x → w.cell? ⟨bk, o + j, none⟩ = some (.string x)) → bk < w.heap.size → xs.length ≤ 140737488355328 → xs.length ≤ c →
      (Lib.join (xs.map (·.data.toList)) sep.data.toList).length ≤ 140737488355328 →
      Calls P f #[.slice (some ⟨bk, o, none⟩) xs.length c, .string sep] w fun e w' => e = .returned (.string ⟨(Lib.join (xs.map (·.data.toList)) sep.data.toList).toArray⟩) ∧ Below w.heap.size w w')
    {ro : Bool} {v : Value} {xs : List Str} {c : UInt8} (h0 : 0 < xs.length) (hn : xs.length ≤ 140737488355328) (hl : (joinA c (xs.map Str.d)).length ≤ 140737488355328) :
    Trip P f [v, .string (bstr [c])].toArray [sl ro v xs] fun v l' => v = .string (bstr (joinA c (xs.map Str.d))) ∧ l' = [] := by
  intro F K hK
  have hx : (xs.map fun x => bstr x.d).map (·.data.toList) = xs.map Str.d := by rw [List.map_map]; rfl
  refine Tr.ofCalls fun w hw => ?_
  have hs : Has (sl ro v xs :: F) (sl ro v xs) := Has.here
  obtain ⟨R, S, h⟩ := hs.sat hw
  rcases sl_cases h with ⟨_, rfl⟩ | ⟨b, off, cap, cs, T, fr, rfl, hcap, hg, hf⟩
  · cases h0
  have hb : b < w.heap.size := by
    rcases Nat.lt_or_ge b w.heap.size with h | h
    · exact h
    · rw [Array.getElem?_eq_none h] at hg; cases hg
  have hcall := hc b off cap (xs.map fun x => bstr x.d) (bstr [c]) w (fun j x hj => by
    rw [List.getElem?_map] at hj
    cases hxj : xs[j]? with
    | none => rw [hxj] at hj; cases hj
    | some y =>
      rw [hxj] at hj
      simp only [Option.map_some, Option.some.injEq] at hj
      subst hj
      have := Cell.slj (i := j) (j := 0) (x := y) (u := .string (bstr y.d)) hs hxj rfl w hw
      simpa [sb, show En.sz Str = 1 from rfl] using this) hb (by rw [List.length_map]; exact hn) (by rw [List.length_map]; exact hcap) (by rw [hx, bstr_data, join_lib]; exact hl)
  rw [List.length_map, hx, bstr_data, join_lib] at hcall
  refine hcall.mono fun e w' ⟨he, hw'⟩ => ⟨_, he, ?_⟩
  exact hK _ _ ⟨rfl, rfl⟩ w' (hw.tail.below hw')
/-- An array of one's own, as a slice. -/
theorem Tr.cutArr {P : Program} {α : Type} [En α] {l F : List Asrt} {K : Value → WP} {T n s b T' : Nat} [hT : ArrT P T n s] {cs : List Value} {xs : List α} (ht : TakeA l (blk b (.cells cs.toArray T' (0, 0))) F) (hc : cs = flat xs) (hn : n = xs.length) (hm : n ≤ 9223372036854775807)
    (hx : Tr (sl false (SV.mk (some ⟨b, 0, none⟩) n n).v xs :: F) (K (SV.mk (some ⟨b, 0, none⟩) n n).v)) : Tr l (GenK P (Instr.sliceAt T (.pointer (some ⟨b, 0, none⟩)) none none none) K) := Tr.imp ht fun w hw => by
  obtain ⟨e, hu, hs⟩ := hT.h
  refine ⟨_, ?_, hx w (Sat.mapHead (A := blk b (.cells cs.toArray T' (0, 0))) (fun R S (hb : _ ∧ _) => .inr ⟨b, 0, n, cs, T', (0, 0), by rw [hn]; rfl, ⟨by omega, by omega⟩, ⟨hb.1, rfl, by rw [hc, flat_length, hn]; omega⟩, hb.2, ?_⟩) hw)⟩
  · cases hi' : P.info? e with
    | none => rw [hi'] at hs; cases hs
    | some inf => simp [Instr.sliceAt, run_underlying hu, Instr.sureAddr, Instr.sliceBounds, sizeOf, typeInfo, hi', Addr.add, SV.v]
  · rw [List.drop_zero, hc, ← flat_length, List.take_length]
theorem mx_of_cell {g : Nat} {m : Int} {w : World} (h : w.cell? ⟨g, 0, none⟩ = some (.int .i64 m)) : ∀ R : Blks, (∀ b, b < w.heap.size → R b) → (sl true (mxV g) [m]).h R (fun _ => False) w := fun R hR => by
  obtain ⟨_, cs, T, fr, hb⟩ := cell_block h
  have hlt : g < w.heap.size := by
    rcases Nat.lt_or_ge g w.heap.size with h' | h'
    · exact h'
    · simp only at hb; rw [Array.getElem?_eq_none h'] at hb; cases hb
  have hc : cs[0]? = some (.int .i64 m) := by
    simp only at hb
    simpa [World.cell?, hb] using h
  refine .inr ⟨g, 0, 1, cs.toList, T, fr, rfl, ⟨Nat.le_refl _, show (1 : Nat) ≤ 9223372036854775807 by omega⟩, hR g hlt, by simpa using hb, ?_⟩
  have hl : cs.toList[0]? = some (.int .i64 m) := by simpa using hc
  cases hcs : cs.toList with
  | nil => rw [hcs] at hl; cases hl
  | cons a r => rw [hcs] at hl; simp only [List.getElem?_cons_zero, Option.some.injEq] at hl; subst hl; rfl
/-! ### steps over strings; other kinds of numbers -/
theorem wrapN64 {n : Int} (h0 : 0 ≤ n) (h1 : n ≤ 18446744073709551615) : IntKind.u64.wrap n = n := by
  have hb : (2 ^ IntKind.u64.bits : Int) = 18446744073709551616 := by decide
  unfold IntKind.wrap
  rw [hb]
  simp only [show IntKind.u64.signed = false from rfl, Bool.false_and, Bool.false_eq_true, if_false]
  omega
theorem wrapN8 {n : Int} (h0 : 0 ≤ n) (h1 : n ≤ 255) : IntKind.u8.wrap n = n := by
  have hb : (2 ^ IntKind.u8.bits : Int) = 256 := by decide
  unfold IntKind.wrap
  rw [hb]
  simp only [show IntKind.u8.signed = false from rfl, Bool.false_and, Bool.false_eq_true, if_false]
  omega
/-- A number below nothing, as one of 64 bits without sign; turned. -/
theorem wrapNeg {n : Int} (h0 : -18446744073709551616 ≤ n) (h1 : n < 0) : IntKind.u64.wrap n = n + 18446744073709551616 := by
  have hb : (2 ^ IntKind.u64.bits : Int) = 18446744073709551616 := by decide
  unfold IntKind.wrap
  rw [hb]
  simp only [show IntKind.u64.signed = false from rfl, Bool.false_and, Bool.false_eq_true, if_false]
  omega
theorem S.t {X X' : WP} {l l' : List Asrt} (hx : Tr l' X') (h : Tr l' X' → Tr l X := by
    intro h
    first
    | (refine G.sidx ?_; (refine A.sidx (by first | omega | assumption | (simp only [WKl]; omega)) (by first | omega | assumption | (simp only [WKl]; omega)) ?_; exact h))
    | (refine G.sadd ?_; (refine A.sadd (by first | omega | assumption | (simp only [WKl]; omega)) ?_; exact h))
    | (refine G.scut ?_; first | (refine A.scut (by first | omega | assumption | (simp only [WKl]; omega)) (by first | omega | assumption | (simp only [WKl]; omega)) (by first | omega | assumption | (simp only [WKl]; omega)) ?_; exact h) | (refine A.scutF (by first | omega | assumption | (simp only [WKl]; omega)) (by first | omega | assumption | (simp only [WKl]; omega)) ?_; exact h) | (refine A.scutT (by first | omega | assumption | (simp only [WKl]; omega)) (by first | omega | assumption | (simp only [WKl]; omega)) ?_; exact h))
    | (refine G.quo ?_; (refine Tr.quo (by omega) ?_; exact h))
    | (refine G.build ?_; (refine A.buildA rfl ?_; exact h))
    | (refine G.fldv ?_; first | (refine A.fldv (by rfl) ?_; exact h) | (refine A.fldvG (by rfl) ?_; exact h))
    | (refine G.aidx ?_; first | (refine A.aidxE (by first | omega | assumption) (by first | omega | assumption) (by rfl) (by rfl) ?_; exact h) | (refine A.aidx (by first | omega | assumption) (by first | omega | assumption) (by rfl) ?_; exact h) | (refine A.aidxG (by first | omega | assumption) (by first | omega | assumption) (by rfl) ?_; exact h))
    | fail) : Tr l X := h hx
theorem WKt : (∀ {l : List UInt8}, Value.string (ByteArray.mk (List.toArray l)) = .string (bstr l)) ∧ (Value.string ByteArray.empty = .string (bstr [])) ∧
  (∀ {P : Program} {K : Value → WP} {T ty : Nat} [StrT P T] {a : List UInt8}, GenK P (Builtin.len_ #[T] ty #[.string (bstr a)]) K = K (.int .i64 (a.length : Int))) ∧
  (∀ {P : Program} {K : Value → WP} {T : TypeId} {x : Operand} {ty : TypeId} {e : Env}, opX P (.unOp .neg T x) ty e K = NegK P (ev e x) K) ∧
  (∀ {P : Program} {K : Value → WP} {k : IntKind} {n : Int}, NegK P (.int k n) K = K (.int k (k.wrap (0 - n)))) ∧
  (∀ {s : List UInt8}, (Value.string (bstr s)).cells.toList = [.string (bstr s)]) :=
  ⟨str_lit, str_emp, len_str, opX_neg, NegK_int, rfl⟩
end Go.Wk
