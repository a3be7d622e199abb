/- More laws: numbers of other kinds, remainders, arrays behind a pointer, bytes and strings. -/
import Derived.Test.YtlhmbcmkpafjoaaDoorWkB
namespace Go.Wk
open Go

class IntT (P : Program) (T : Nat) (k : outParam IntKind) : Prop where
  h : P.underlying T = some (.int k)
class StrT (P : Program) (T : Nat) : Prop where
  h : P.underlying T = some .string
/-- A slice of bytes. -/
class BytT (P : Program) (T : Nat) : Prop where
  h : ∃ e, P.underlying T = some (.slice e) ∧ P.underlying e = some (.int .u8)
def bytB (P : Program) (T : Nat) : Bool := match P.underlying T with
  | some (.slice e) => match P.underlying e with
    | some (.int .u8) => true
    | _ => false
  | _ => false
theorem bytB_spec {P : Program} {T : Nat} (h : bytB P T = true) : BytT P T := ⟨by
  unfold bytB at h
  split at h
  · rename_i e he
    split at h
    · rename_i hu; exact ⟨e, he, hu⟩
    · cases h
  · cases h⟩
/-- An array: how many, of how many cells each. -/
class ArrT (P : Program) (T : Nat) (n s : outParam Nat) : Prop where
  h : ∃ e, P.underlying T = some (.array n e) ∧ (P.info? e).map (·.size) = some s
def arrB (P : Program) (T : Nat) : Option (Nat × Nat) := match P.underlying T with
  | some (.array n e) => (P.info? e).map fun i => (n, i.size)
  | _ => none
theorem arrB_spec {P : Program} {T n s : Nat} (h : arrB P T = some (n, s)) : ArrT P T n s := ⟨by
  unfold arrB at h
  split at h
  · rename_i m e he
    cases hi : P.info? e with
    | none => rw [hi] at h; cases h
    | some i =>
      rw [hi] at h
      simp only [Option.map_some, Option.some.injEq, Prod.mk.injEq] at h
      obtain ⟨rfl, rfl⟩ := h
      exact ⟨e, he, by rw [hi]; rfl⟩
  · cases h⟩

section
variable {P : Program} {l : List Asrt} {K : Value → WP}
theorem GenK_conv {s d : Nat} {k k' kv : IntKind} [hs : IntT P s k] [hd : IntT P d k'] {n : Int} : GenK P (convert s d (.int kv n)) K = K (.int k' (k'.wrap n)) := by
  refine GenK_of (fun w => ?_) K
  simp [convert, run_underlying hs.h, run_underlying hd.h, Conv.intToInt]
theorem Tr.rem {t : TypeId} {x y : Operand} {k : IntKind} {m n : Int} (hn : n ≠ 0) (h : Tr l (K (.int k (m.tmod n)))) : Tr l (BinK P .rem t x y (.int k m) (.int k n) K) := by
  have : BinK P .rem t x y (.int k m) (.int k n) K = K (.int k (m.tmod n)) := by simp [BinK, intBin, someK, hn]
  rw [this]; exact h
theorem Tr.quo {t : TypeId} {x y : Operand} {k : IntKind} {m n : Int} (hn : n ≠ 0) (h : Tr l (K (.int k (k.wrap (m.tdiv n))))) : Tr l (BinK P .quo t x y (.int k m) (.int k n) K) := by
  have : BinK P .quo t x y (.int k m) (.int k n) K = K (.int k (k.wrap (m.tdiv n))) := by simp [BinK, intBin, someK, hn]
  rw [this]; exact h
theorem Tr.indexArr {T n s : Nat} [hT : ArrT P T n s] {b o : Nat} {k : IntKind} {i : Int} (h0 : 0 ≤ i) (hi : i < n) (hx : Tr l (K (.pointer (some ⟨b, o + i.toNat * s, none⟩)))) :
    Tr l (GenK P (Instr.indexAt T (.pointer (some ⟨b, o, none⟩)) (.int k i)) K) := fun w hw => by
  obtain ⟨e, hu, hs⟩ := hT.h
  refine ⟨_, ?_, hx w hw⟩
  cases hi' : P.info? e with
  | none => rw [hi'] at hs; cases hs
  | some inf =>
    rw [hi'] at hs
    simp only [Option.map_some, Option.some.injEq] at hs
    simp [Instr.indexAt, asIntOf, run_underlying hu, Instr.sureAddr, h0, hi, sizeOf, typeInfo, hi', hs, add_mk]
end
theorem G.rem {P : Program} {l : List Asrt} {K : Value → WP} {t : TypeId} {x y : Operand} {a b : Value} (h : Tr l (BinK P .rem t x y a b K)) : Tr l (BinK P .rem t x y a b K) := h
theorem G.quo {P : Program} {l : List Asrt} {K : Value → WP} {t : TypeId} {x y : Operand} {a b : Value} (h : Tr l (BinK P .quo t x y a b K)) : Tr l (BinK P .quo t x y a b K) := h
end Go.Wk
