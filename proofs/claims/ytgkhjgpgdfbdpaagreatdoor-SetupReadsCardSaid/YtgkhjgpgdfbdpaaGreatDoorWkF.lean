/- What a program's types say, as closed facts. -/
import Derived.Test.YtgkhjgpgdfbdpaaGreatDoorWk2
namespace Go.Wk
open Go

/-! ### what a program's types say, as closed facts -/
def fldB (P : Program) (T f : Nat) : Option Nat := match P.underlying T with
  | some (.struct fs) => match fs[f]? with
    | some fd => match P.info? fd.type with
      | some i => if i.size = 0 then none else some fd.offset
      | none => none
    | none => none
  | _ => none
/-- One cell: no struct, no array. -/
def scalB (P : Program) (T : Nat) : Bool := (match P.underlying T with
  | some (.struct _) | some (.array _ _) | none => false
  | _ => true) && (match P.info? T with
  | some i => i.size == 1
  | none => false)
/-- A struct or an array, of so many cells. -/
def aggB (P : Program) (T : Nat) : Option Nat := match P.underlying T with
  | some (.struct _) | some (.array _ _) => (P.info? T).map (·.size)
  | _ => none
/-- A slice type: its elements' cells. -/
def slcB (P : Program) (T : Nat) : Option Nat := match P.underlying T with
  | some (.slice e) => (P.info? e).map (·.size)
  | _ => none
def zeroB (P : Program) (T : Nat) : Option Value := (P.info? T).bind (·.zero)

class Fld (P : Program) (T f : Nat) (off : outParam Nat) : Prop where
  h : fldB P T f = some off
class Scal (P : Program) (T : Nat) : Prop where
  h : scalB P T = true
class Agg (P : Program) (T : Nat) (n : outParam Nat) : Prop where
  h : aggB P T = some n
class Siz (P : Program) (T : Nat) (n : outParam Nat) : Prop where
  h : (P.info? T).map (·.size) = some n
class Slc (P : Program) (T : Nat) (n : outParam Nat) : Prop where
  h : slcB P T = some n
class Zer (P : Program) (T : Nat) (v : outParam Value) : Prop where
  h : zeroB P T = some v
class PtrT (P : Program) (T : Nat) : Prop where
  h : ∃ e, P.underlying T = some (.pointer e)
class BoolT (P : Program) (T : Nat) : Prop where
  h : P.underlying T = some .bool
class IsFn (P : Program) (f : Nat) : Prop where
  h : isFnB P f = true
class Und (P : Program) (T : Nat) (d : outParam TypeDesc) : Prop where
  h : P.underlying T = some d

class MapT (P : Program) (T : Nat) (ze : outParam Value) : Prop where
  h : ∃ key elem, P.underlying T = some (.map key elem) ∧ P.underlying key = some (.int .i64) ∧ (P.info? elem).bind (·.zero) = some ze
def mapB (P : Program) (T : Nat) : Option Value := match P.underlying T with
  | some (.map key elem) => match P.underlying key with
    | some (.int .i64) => (P.info? elem).bind (·.zero)
    | _ => none
  | _ => none
theorem mapB_spec {P : Program} {T : Nat} {ze : Value} (h : mapB P T = some ze) : MapT P T ze := ⟨by
  unfold mapB at h
  split at h
  · rename_i key elem hu
    split at h
    · rename_i hk; exact ⟨key, elem, hu, hk, h⟩
    · cases h
  · cases h⟩


/-! ### building a struct -/
def placesB (P : Program) (T : Nat) : Option (List (Nat × Nat)) := match P.underlying T with
  | some (.struct fs) => fs.toList.mapM fun f => (P.info? f.type).map fun i => (f.offset, i.size)
  | _ => none
class BuildT (P : Program) (T : Nat) (pl : outParam (List (Nat × Nat))) (z : outParam (List Value)) : Prop where
  h : placesB P T = some pl ∧ zeroB P T = some (.agg z.toArray)
section
variable {P : Program}
/-- What a slice type's elements are. -/
class SlcT (P : Program) (T : Nat) (e bytes : outParam Nat) (n : outParam Nat) (z : outParam (List Value)) : Prop where
  h : P.underlying T = some (.slice e) ∧ ∃ i, P.info? e = some i ∧ i.size = n ∧ i.bytes = bytes ∧ i.zero.map Value.cells = some z.toArray
def slcTB (P : Program) (T : Nat) : Option (Nat × Nat × Nat × List Value) := match P.underlying T with
  | some (.slice e) => match P.info? e with
    | some i => match i.zero with
      | some z => some (e, i.bytes, i.size, z.cells.toList)
      | none => none
    | none => none
  | _ => none
theorem slcTB_spec {T e bytes n : Nat} {z : List Value} (h : slcTB P T = some (e, bytes, n, z)) : SlcT P T e bytes n z := ⟨by
  unfold slcTB at h
  split at h
  · rename_i e' hu
    split at h
    · rename_i i hi
      split at h
      · rename_i z' hz
        simp only [Option.some.injEq, Prod.mk.injEq] at h
        obtain ⟨rfl, rfl, rfl, rfl⟩ := h
        exact ⟨hu, i, hi, rfl, rfl, by rw [hz]; simp⟩
      · cases h
    · cases h
  · cases h⟩

end
end Go.Wk
