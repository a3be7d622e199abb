/- Strings: their bytes; pairs of numbers in arrays; structs of numbers compared. -/
import Derived.Test.YtgkhjgpgdfbdpaaGreatDoorWky
import Derived.Laws.StructEq
namespace Go.Wk
open Go
theorem bstr_size {a : List UInt8} : (bstr a).size = a.length := rfl
theorem str_lit {l : List UInt8} : Value.string (ByteArray.mk (List.toArray l)) = .string (bstr l) := nr rfl
theorem str_emp : Value.string ByteArray.empty = .string (bstr []) := nr rfl
theorem bstr_of (s : ByteArray) : bstr s.data.toList = s := rfl
theorem bstr_append (a b : List UInt8) : bstr a ++ bstr b = bstr (a ++ b) := by
  apply ByteArray.ext
  simp [bstr]
theorem bstr_extract (a : List UInt8) (i j : Nat) : (bstr a).extract i j = bstr ((a.take j).drop i) := by
  apply ByteArray.ext
  apply Array.toList_inj.1
  simp only [ByteArray.data_extract, bstr, Array.toList_extract, List.extract_eq_take_drop, List.drop_take]
/-- A byte of a string. -/
def bix (a : List UInt8) (i : Int) : UInt8 := a.getD i.toNat 0
theorem bix_nat {a : List UInt8} {k : Nat} (h : k < a.length) : bix a (k : Int) = a[k] := by simp [bix, h]
section
variable {P : Program} {l F : List Asrt} {K : Value → WP}
theorem len_str {T ty : Nat} [h : StrT P T] {a : List UInt8} : GenK P (Builtin.len_ #[T] ty #[.string (bstr a)]) K = K (.int .i64 (a.length : Int)) := by
  refine GenK_of (fun w => ?_) K
  simp [Builtin.len_, run_underlying h.h, goInt, bstr_size]
theorem A.sidx {T : Nat} [h : StrT P T] {a : List UInt8} {k : IntKind} {i : Int} (h0 : 0 ≤ i) (hi : i < a.length) (hx : Tr l (K (.int .u8 ((bix a i).toNat : Int)))) : Tr l (GenK P (Instr.index T (.string (bstr a)) (.int k i)) K) := fun w hw => by
  refine ⟨_, ?_, hx w hw⟩
  have hlt : i.toNat < (bstr a).size := by rw [bstr_size]; omega
  have hg : (bstr a)[i.toNat]? = some (bix a i) := by
    rw [getElem?_pos (bstr a) i.toNat hlt]
    have h2 : i.toNat < a.length := by omega
    simp [bix, h2, bstr, ByteArray.getElem_eq_getElem_data]
  simp [Instr.index, asIntOf, run_underlying h.h, h0, hg]
theorem G.sidx {T : Nat} {a : List UInt8} {v : Value} (h : Tr l (GenK P (Instr.index T (.string (bstr a)) v) K)) : Tr l (GenK P (Instr.index T (.string (bstr a)) v) K) := h
theorem A.scut {T : Nat} [h : StrT P T] {a : List UInt8} {k k' : IntKind} {lo hi : Int} (h0 : 0 ≤ lo) (h1 : lo ≤ hi) (h2 : hi ≤ a.length) (hx : Tr l (K (.string (bstr ((a.take hi.toNat).drop lo.toNat))))) :
    Tr l (GenK P (Instr.sliceAt T (.string (bstr a)) (some (.int k lo)) (some (.int k' hi)) none) K) := fun w hw => by
  refine ⟨_, ?_, hx w hw⟩
  simp [Instr.sliceAt, Instr.slice, run_underlying h.h, Instr.sliceBounds, Instr.sliceBound, asIntOf, bstr_size, bstr_extract, h0, show 0 ≤ hi by omega, h2, show lo ≤ max hi 0 by omega]
theorem A.scutF {T : Nat} [h : StrT P T] {a : List UInt8} {k : IntKind} {lo : Int} (h0 : 0 ≤ lo) (h2 : lo ≤ a.length) (hx : Tr l (K (.string (bstr (a.drop lo.toNat))))) :
    Tr l (GenK P (Instr.sliceAt T (.string (bstr a)) (some (.int k lo)) none none) K) := fun w hw => by
  refine ⟨_, ?_, hx w hw⟩
  simp [Instr.sliceAt, Instr.slice, run_underlying h.h, Instr.sliceBounds, Instr.sliceBound, asIntOf, bstr_size, bstr_extract, h0, h2]
theorem A.scutT {T : Nat} [h : StrT P T] {a : List UInt8} {k : IntKind} {hi : Int} (h0 : 0 ≤ hi) (h2 : hi ≤ a.length) (hx : Tr l (K (.string (bstr (a.take hi.toNat))))) :
    Tr l (GenK P (Instr.sliceAt T (.string (bstr a)) none (some (.int k hi)) none) K) := fun w hw => by
  refine ⟨_, ?_, hx w hw⟩
  simp [Instr.sliceAt, Instr.slice, run_underlying h.h, Instr.sliceBounds, Instr.sliceBound, asIntOf, bstr_size, bstr_extract, h0, h2]
theorem G.scut {T : Nat} {a : List UInt8} {x y z : Option Value} (h : Tr l (GenK P (Instr.sliceAt T (.string (bstr a)) x y z) K)) : Tr l (GenK P (Instr.sliceAt T (.string (bstr a)) x y z) K) := h
theorem A.sadd {t : TypeId} {x y : Operand} {a b : List UInt8} (h : a.length + b.length ≤ 9223372036854775807) (hx : Tr l (K (.string (bstr (a ++ b))))) : Tr l (BinK P .add t x y (.string (bstr a)) (.string (bstr b)) K) := fun w hw => by
  refine ⟨_, ?_, hx w hw⟩
  have hm : ((bstr a).size : Int) + ((bstr b).size : Int) ≤ 9223372036854775807 := by
    rw [bstr_size, bstr_size]; omega
  simp [eqGuard, binOp, Op.stringOp, hm, bstr_append]
theorem G.sadd {t : TypeId} {x y : Operand} {a b : List UInt8} (h : Tr l (BinK P .add t x y (.string (bstr a)) (.string (bstr b)) K)) : Tr l (BinK P .add t x y (.string (bstr a)) (.string (bstr b)) K) := h
/-- A number, turned. -/
def NegK (P : Program) (v : Value) (K : Value → WP) : WP := GenK P (Op.unary .neg v) K
theorem opX_neg {T : TypeId} {x : Operand} {ty : TypeId} {e : Env} : opX P (.unOp .neg T x) ty e K = NegK P (ev e x) K := by
  funext w
  show opR P _ ty e K w = _
  rw [opR_rd rfl]
  unfold rdR NegK GenK
  apply propext
  constructor
  · rintro ⟨v, hv, hk⟩
    refine ⟨v, ?_, hk⟩
    simp only [execOp, oper, Sem.run_bind] at hv
    cases hr : (Op.unary .neg (ev e x)).run P w with
    | ok u w' => rw [hr] at hv; simp at hv; obtain ⟨rfl, rfl⟩ := hv; rfl
    | halt a b => rw [hr] at hv; simp [Result.andThen] at hv
  · rintro ⟨v, hv, hk⟩
    exact ⟨v, by simp [execOp, oper, hv], hk⟩
theorem NegK_int {k : IntKind} {n : Int} : NegK P (.int k n) K = K (.int k (k.wrap (0 - n))) := by
  refine GenK_of (fun w => ?_) K
  simp [Op.unary, Op.intArith]
end
/-- A string in cells. -/
structure Str where
  d : List UInt8
  deriving DecidableEq
instance : Inhabited Str := ⟨⟨[]⟩⟩
instance : En Str := ⟨fun s => [.string (bstr s.d)], 1, fun _ => rfl, fun _ => rfl, by decide⟩
instance : Fz Str := ⟨fun s => fact (s.d.length ≤ 9223372036854775807), fun _ => dup_fact _⟩
instance de_bstr {l : List Asrt} {s : List UInt8} : De l (.string (bstr s)) (Str.mk s) := ⟨rfl⟩
theorem inp_str {P : Program} {t : Nat} (ht : P.underlying t = some .string) : Inp P t Str := ⟨fun {_ _ _ _ _ _ _ _ _} hsp h => by
  obtain ⟨s, rfl, z⟩ := (inp_string ht).h hsp h
  exact ⟨⟨s.data.toList⟩, rfl, fun R hR => z R hR⟩⟩

/-! ### arrays as values -/
def isAggB (P : Program) (T : Nat) : Bool := match P.underlying T with
  | some (.struct _) | some (.array _ _) => true
  | _ => false
def arrVB (P : Program) (T : Nat) : Option (Nat × Nat × Bool) := match P.underlying T with
  | some (.array n e) => match P.underlying e with
    | some _ => (P.info? e).map fun i => (n, i.size, isAggB P e)
    | none => none
  | _ => none
/-- An array: how many; of how many cells each; is each an aggregate? -/
class ArrV (P : Program) (T : Nat) (n s : outParam Nat) (g : outParam Bool) : Prop where
  h : arrVB P T = some (n, s, g)
theorem arrV_open {P : Program} {T n s : Nat} {g : Bool} (h : arrVB P T = some (n, s, g)) : ∃ e, P.underlying T = some (.array n e) ∧ (∀ w, (sizeOf e).run P w = .ok s w) ∧ ∀ w, (isAgg e).run P w = .ok g w := by
  unfold arrVB at h
  split at h
  · rename_i m e hu
    split at h
    · rename_i d hd
      cases hi : P.info? e with
      | none => rw [hi] at h; cases h
      | some i =>
        rw [hi] at h
        simp only [Option.map_some, Option.some.injEq, Prod.mk.injEq] at h
        obtain ⟨rfl, rfl, rfl⟩ := h
        refine ⟨e, hu, fun w => by simp [sizeOf, typeInfo, hi], fun w => ?_⟩
        unfold isAggB
        cases d <;> simp [isAgg, run_underlying hd, hd]
    · cases h
  · cases h
section
variable {P : Program} {l : List Asrt} {K : Value → WP}
theorem A.aidx {T n s : Nat} [hT : ArrV P T n s false] {cs : List Value} {k : IntKind} {i : Int} {v : Value} (h0 : 0 ≤ i) (hi : i < n) (hv : cs[i.toNat * s]? = some v) (hx : Tr l (K v)) : Tr l (GenK P (Instr.index T (.agg cs.toArray) (.int k i)) K) := fun w hw => by
  obtain ⟨e, hu, hs, ha⟩ := arrV_open hT.h
  refine ⟨_, ?_, hx w hw⟩
  have hs := hs w
  have ha := ha w
  generalize hsz : sizeOf e = sz at hs
  generalize hag : isAgg e = ag at ha
  simp [Instr.index, asIntOf, run_underlying hu, h0, hi, part, hsz, hag, hs, ha, hv]
theorem A.aidxG {T n s : Nat} [hT : ArrV P T n s true] {cs : List Value} {k : IntKind} {i : Int} {v : List Value} (h0 : 0 ≤ i) (hi : i < n) (hv : (cs.take (i.toNat * s + s)).drop (i.toNat * s) = v) (hx : Tr l (K (.agg v.toArray))) : Tr l (GenK P (Instr.index T (.agg cs.toArray) (.int k i)) K) := fun w hw => by
  obtain ⟨e, hu, hs, ha⟩ := arrV_open hT.h
  subst hv
  refine ⟨_, ?_, hx w hw⟩
  have hs := hs w
  have ha := ha w
  generalize hsz : sizeOf e = sz at hs
  generalize hag : isAgg e = ag at ha
  simp [Instr.index, asIntOf, run_underlying hu, h0, hi, part, hsz, hag, hs, ha, List.extract_eq_take_drop, List.drop_take]
theorem G.aidx {T : Nat} {cs : List Value} {v : Value} (h : Tr l (GenK P (Instr.index T (.agg cs.toArray) v) K)) : Tr l (GenK P (Instr.index T (.agg cs.toArray) v) K) := h
/-- An element of a row, as a value. -/
theorem flat_part {α : Type} [En α] [Inhabited α] : ∀ (xs : List α) (i : Nat), i < xs.length → ((flat xs).take (i * En.sz α + En.sz α)).drop (i * En.sz α) = En.enc (ix xs (i : Int))
  | [], i, h => by simp at h
  | x :: xs, 0, _ => by
    have hl := En.len x
    have : (flat (x :: xs)).take (En.sz α) = En.enc x := by
      simp only [flat, List.flatMap_cons]
      rw [← hl, List.take_left']; rfl
    rw [Nat.zero_mul, Nat.zero_add, List.drop_zero, this]; rfl
  | x :: xs, i + 1, h => by
    have ih := flat_part xs i (by simpa using h)
    have hl := En.len x
    have e1 : flat (x :: xs) = En.enc x ++ flat xs := by simp [flat]
    rw [e1, show (i + 1) * En.sz α = (En.enc x).length + i * En.sz α by rw [hl, Nat.succ_mul]; omega, Nat.add_assoc, List.take_length_add_append, List.drop_length_add_append, ih]
    rfl
theorem A.aidxE {α : Type} [En α] [Inhabited α] {T n s : Nat} [hT : ArrV P T n s true] {xs : List α} {k : IntKind} {i : Int} (h0 : 0 ≤ i) (hi : i < n) (hn : n = xs.length) (hs : s = En.sz α) (hx : Tr l (K (.agg (En.enc (ix xs i)).toArray))) : Tr l (GenK P (Instr.index T (.agg (flat xs).toArray) (.int k i)) K) := by
  subst hs
  refine A.aidxG h0 hi (flat_part xs i.toNat (by omega)) ?_
  rw [Int.toNat_of_nonneg h0]; exact hx
end
/-! ### fields of values -/
def fldPB (P : Program) (T f : Nat) : Option (Nat × Nat × Bool) := match P.underlying T with
  | some (.struct fs) => match fs[f]? with
    | some fd => match P.underlying fd.type with
      | some _ => (P.info? fd.type).map fun i => (fd.offset, i.size, isAggB P fd.type)
      | none => none
    | none => none
  | _ => none
/-- A struct's field: where; of how many cells; an aggregate? -/
class FldP (P : Program) (T f : Nat) (off sz : outParam Nat) (g : outParam Bool) : Prop where
  h : fldPB P T f = some (off, sz, g)
theorem fldP_open {P : Program} {T f off sz : Nat} {g : Bool} (h : fldPB P T f = some (off, sz, g)) : ∃ fs fd, P.underlying T = some (.struct fs) ∧ fs[f]? = some fd ∧ fd.offset = off ∧ (∀ w, (sizeOf fd.type).run P w = .ok sz w) ∧ ∀ w, (isAgg fd.type).run P w = .ok g w := by
  unfold fldPB at h
  split at h
  · rename_i fs hu
    split at h
    · rename_i fd hf
      split at h
      · rename_i d hd
        cases hi : P.info? fd.type with
        | none => rw [hi] at h; cases h
        | some i =>
          rw [hi] at h
          simp only [Option.map_some, Option.some.injEq, Prod.mk.injEq] at h
          obtain ⟨rfl, rfl, rfl⟩ := h
          refine ⟨fs, fd, hu, hf, rfl, fun w => by simp [sizeOf, typeInfo, hi], fun w => ?_⟩
          unfold isAggB
          cases d <;> simp [isAgg, run_underlying hd, hd]
      · cases h
    · cases h
  · cases h
section
variable {P : Program} {l : List Asrt} {K : Value → WP}
theorem A.fldv {T f off : Nat} [hT : FldP P T f off 1 false] {cs : List Value} {v : Value} (hv : cs[off]? = some v) (hx : Tr l (K v)) : Tr l (GenK P (Instr.field T (.agg cs.toArray) f) K) := fun w hw => by
  obtain ⟨fs, fd, hu, hf, rfl, hs, ha⟩ := fldP_open hT.h
  refine ⟨_, ?_, hx w hw⟩
  have hs := hs w
  have ha := ha w
  generalize hsz : sizeOf fd.type = sz at hs
  generalize hag : isAgg fd.type = ag at ha
  simp [Instr.field, run_underlying hu, hf, asAgg, part, hag, ha, hv]
theorem A.fldvG {T f off s : Nat} [hT : FldP P T f off s true] {cs v : List Value} (hv : (cs.take (off + s)).drop off = v) (hx : Tr l (K (.agg v.toArray))) : Tr l (GenK P (Instr.field T (.agg cs.toArray) f) K) := fun w hw => by
  obtain ⟨fs, fd, hu, hf, rfl, hs, ha⟩ := fldP_open hT.h
  subst hv
  refine ⟨_, ?_, hx w hw⟩
  have hs := hs w
  have ha := ha w
  generalize hsz : sizeOf fd.type = sz at hs
  generalize hag : isAgg fd.type = ag at ha
  simp [Instr.field, run_underlying hu, hf, asAgg, part, hsz, hag, hs, ha, List.extract_eq_take_drop, List.drop_take]
theorem G.fldv {T f : Nat} {v : Value} (h : Tr l (GenK P (Instr.field T v f) K)) : Tr l (GenK P (Instr.field T v f) K) := h
end
/-! ### structs of numbers, compared -/
def intsB (P : Program) (T n : Nat) : Bool := match P.underlying T with
  | some (.struct fs) => fs.size == n && (List.range n).all (fun i => match fs[i]? with
      | some fd => fd.name != "_" && fd.offset == i && (match P.underlying fd.type with
        | some (.int _) => true
        | _ => false)
      | none => false) && !P.stoodInHeld T && !P.eqGuardType P.depth T
  | _ => false
/-- A struct of n numbers, one a cell. -/
class IntsT (P : Program) (T : Nat) (n : outParam Nat) : Prop where
  h : intsB P T n = true
theorem intsB_open {P : Program} {T n : Nat} (h : intsB P T n = true) : ∃ fs, P.underlying T = some (.struct fs) ∧ fs.size = n ∧ (∀ i, i < n → ∃ fd k, fs[i]? = some fd ∧ fd.name ≠ "_" ∧ fd.offset = i ∧ P.underlying fd.type = some (.int k)) ∧ P.stoodInHeld T = false ∧ P.eqGuardType P.depth T = false := by
  unfold intsB at h
  split at h
  · rename_i fs hu
    simp only [Bool.and_eq_true, beq_iff_eq, List.all_eq_true, List.mem_range, Bool.not_eq_true'] at h
    obtain ⟨⟨⟨h1, h2⟩, h3⟩, h4⟩ := h
    refine ⟨fs, hu, h1, fun i hi => ?_, h3, h4⟩
    have := h2 i hi
    split at this
    · rename_i fd hf
      simp only [Bool.and_eq_true, bne_iff_ne, beq_iff_eq] at this
      obtain ⟨⟨h5, h6⟩, h7⟩ := this
      split at h7
      · rename_i k hk; exact ⟨fd, k, hf, h5, h6, hk⟩
      · cases h7
    · cases this
  · cases h
section
variable {P : Program} {K : Value → WP}
theorem part_scal {t : TypeId} {cs : Array Value} {off : Nat} {v : Value} {w : World} (ha : (isAgg t).run P w = .ok false w) (h : cs[off]? = some v) : (part t cs off).run P w = .ok v w := by
  generalize hagg : isAgg t = ag at ha
  simp [part, hagg, ha, h]
theorem eqFields_ints {k : IntKind} {d : Nat} {w : World} : ∀ (fs : List Field) (pre xs ys : List Int) (pre2 : List Int), fs.length = xs.length → xs.length = ys.length → pre2.length = pre.length →
    (∀ i fd, fs[i]? = some fd → fd.name ≠ "_" ∧ fd.offset = pre.length + i ∧ ∃ kk, P.underlying fd.type = some (.int kk)) →
    (Op.eqFields (d + 1) ((pre ++ xs).map (Value.int k)).toArray ((pre2 ++ ys).map (Value.int k)).toArray fs).run P w = .ok (decide (xs = ys)) w
  | [], _, [], [], _, _, _, _, _ => by simp [Op.eqFields]
  | [], _, _ :: _, _, _, h, _, _, _ => by simp at h
  | [], _, [], _ :: _, _, _, h, _, _ => by simp at h
  | _ :: _, _, [], _, _, h, _, _, _ => by simp at h
  | _ :: _, _, _ :: _, [], _, _, h, _, _ => by simp at h
  | f :: fs, pre, x :: xs, y :: ys, pre2, h1, h2, h3, h => by
    obtain ⟨hn, ho, kk, hk⟩ := h 0 f rfl
    have ih := eqFields_ints (k := k) (d := d) (w := w) fs (pre ++ [x]) xs ys (pre2 ++ [y]) (by simpa using h1) (by simpa using h2) (by simp [h3]) fun i fd hf => by
      obtain ⟨a, b, c⟩ := h (i + 1) fd (by simpa using hf)
      exact ⟨a, by rw [b, List.length_append]; simp; omega, c⟩
    rw [List.append_assoc, List.append_assoc] at ih
    simp only [List.singleton_append] at ih
    have hag : (isAgg f.type).run P w = .ok false w := by simp [isAgg, run_underlying hk]
    have hx : (part f.type ((pre ++ x :: xs).map (Value.int k)).toArray f.offset).run P w = .ok (.int k x) w := part_scal hag (by simp [ho])
    have hy : (part f.type ((pre2 ++ y :: ys).map (Value.int k)).toArray f.offset).run P w = .ok (.int k y) w := part_scal hag (by simp [ho, ← h3])
    unfold Op.eqFields
    rw [if_pos hn]
    simp only [Sem.run_bind, hx, hy, Result.andThen_ok, run_equalIn_int w d f.type k kk x y hk]
    by_cases hxy : x = y
    · subst hxy
      simp only [beq_self_eq_true, Bool.not_true, Bool.false_eq_true, if_false, ih, List.cons.injEq, true_and]
    · have hb : (x == y) = false := by simpa using hxy
      have hc : ¬ (x :: xs = y :: ys) := fun e => hxy (List.cons.inj e).1
      simp only [hb, Bool.not_false, if_true, Sem.run_pure, decide_eq_false hc]
theorem BinK_ints {T n : Nat} [hT : IntsT P T n] {x y : Operand} {k : IntKind} {xs ys : List Int} (h1 : xs.length = n) (h2 : ys.length = n) : BinK P .eql T x y (.agg (xs.map (Value.int k)).toArray) (.agg (ys.map (Value.int k)).toArray) K = K (.bool (decide (xs = ys))) := by
  obtain ⟨fs, hu, hn, hf, hs, hg⟩ := intsB_open hT.h
  refine GenK_of (fun w => ?_) K
  have hgd : (eqGuard .eql T x y (.agg (xs.map (Value.int k)).toArray) (.agg (ys.map (Value.int k)).toArray)).run P w = .ok () w := by
    have hp : (program).run P w = .ok P w := by simp [program, Sem.run]
    simp [eqGuard, hp, hg]
  have hfo : P.fieldsOf T = fs := by simp [Program.fieldsOf, hu]
  have he : (Op.equal T (.agg (xs.map (Value.int k)).toArray) (.agg (ys.map (Value.int k)).toArray)).run P w = .ok (decide (xs = ys)) w := by
    show (Op.equalIn (9998 + 1 + 1) T _ _).run P w = _
    rw [run_equalIn_struct w (9998 + 1) T _ _ (by rw [hfo]; exact hu) hs, hfo]
    have := eqFields_ints (P := P) (k := k) (d := 9998) (w := w) fs.toList [] xs ys [] (by simp [hn, h1]) (by omega) rfl fun i fd hfi => by
      rw [Array.getElem?_toList] at hfi
      have hi : i < n := by rw [← hn]; exact (Array.getElem?_eq_some_iff.1 hfi).1
      obtain ⟨fd', kk, a, b, c, e⟩ := hf i hi
      rw [hfi] at a
      obtain rfl := Option.some.inj a
      exact ⟨b, by simpa using c, kk, e⟩
    simpa using this
  simp only [Sem.run_bind, hgd, Result.andThen_ok, binOp, he, Sem.run_pure]
end
/-! ### building an array -/
def bldAB (P : Program) (T : Nat) : Option Nat := match P.underlying T with
  | some (.array _ e) => (P.info? e).map (·.size)
  | _ => none
class BuildA (P : Program) (T : Nat) (s : outParam Nat) (z : outParam (List Value)) : Prop where
  h : bldAB P T = some s ∧ zeroB P T = some (.agg z.toArray)
section
variable {P : Program} {l : List Asrt} {K : Value → WP}
theorem A.buildA {T s : Nat} {z cs : List Value} {parts : Array (Nat × Value)} [hT : BuildA P T s z] (h : fillP (fun i => some (i * s, s)) z parts.toList = some cs) (hx : Tr l (K (.agg cs.toArray))) : Tr l (GenK P (Instr.build T parts) K) := fun w hw => by
  refine ⟨_, ?_, hx w hw⟩
  obtain ⟨h1, h2⟩ := hT.h
  unfold bldAB at h1
  split at h1
  · rename_i n e hu
    have hz : (zeroValue T).run P w = .ok (.agg z.toArray) w := by
      unfold zeroB at h2
      cases hi : P.info? T with
      | none => rw [hi] at h2; cases h2
      | some i =>
        rw [hi] at h2
        have hz' : i.zero = some (.agg z.toArray) := h2
        simp [zeroValue, typeInfo, hi, hz']
    have hs : (sizeOf e).run P w = .ok s w := by
      cases hi : P.info? e with
      | none => rw [hi] at h1; cases h1
      | some i => rw [hi] at h1; simp at h1; simp [sizeOf, typeInfo, hi, h1]
    unfold Instr.build
    simp only [Sem.run_bind, hz, Result.andThen_ok, run_underlying hu, Value.cells, hs]
    rw [fillP_eq _ _ _ _ h]
    simp
  · cases h1
theorem G.build {T : Nat} {ps : Array (Nat × Value)} (h : Tr l (GenK P (Instr.build T ps) K)) : Tr l (GenK P (Instr.build T ps) K) := h
end
end Go.Wk
