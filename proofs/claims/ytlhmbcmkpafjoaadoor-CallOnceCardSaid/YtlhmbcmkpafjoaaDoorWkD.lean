/- Bytes and strings; what hangs on the elements of a slice. -/
import Derived.Test.YtlhmbcmkpafjoaaDoorWkC
import Derived.Test.YtlhmbcmkpafjoaaDoorWkA
import Derived.Laws.BytesString
import Derived.Laws.IdiomStrings
namespace Go.Wk
open Go

def bstr (bs : List UInt8) : ByteArray := ⟨bs.toArray⟩
theorem bstr_data (bs : List UInt8) : (bstr bs).data.toList = bs := rfl
theorem bstr_inj {a b : List UInt8} (h : bstr a = bstr b) : a = b := by
  have := congrArg (fun s => s.data.toList) h
  simpa [bstr_data] using this
theorem toList_data (s : ByteArray) : s.toList = s.data.toList := by
  have gen : ∀ (n i : Nat) (r : List UInt8), n = s.size - i → i ≤ s.size → ByteArray.toList.loop s i r = r.reverse ++ s.data.toList.drop i := by
    intro n
    induction n with
    | zero =>
      intro i r hn hi
      unfold ByteArray.toList.loop
      rw [if_neg (by omega)]
      have : s.data.toList.drop i = [] := List.drop_eq_nil_of_le (by show s.data.toList.length ≤ i; simp [← ByteArray.size_data] at *; omega)
      rw [this, List.append_nil]
    | succ n ih =>
      intro i r hn hi
      unfold ByteArray.toList.loop
      rw [if_pos (by omega), ih (i + 1) _ (by omega) (by omega)]
      have hlt : i < s.data.toList.length := by simp [← ByteArray.size_data] at *; omega
      rw [List.drop_eq_getElem_cons hlt, List.reverse_cons, List.append_assoc]
      congr 1
      show [s.get! i] ++ _ = _
      have : s.get! i = s.data.toList[i] := by
        simp only [ByteArray.get!]
        rw [Array.getElem!_eq_getD, Array.getD_eq_getD_getElem?]
        simp at hlt
        simp [hlt]
      rw [this]; rfl
  have := gen (s.size - 0) 0 [] rfl (Nat.zero_le _)
  simp only [List.reverse_nil, List.nil_append, List.drop_zero] at this
  exact this
theorem bstr_eq (a b : List UInt8) : ((bstr a).toList == (bstr b).toList) = decide (a = b) := by
  rw [toList_data, toList_data, bstr_data, bstr_data]
  by_cases h : a = b
  · simp [h]
  · simp [h]

theorem flat_bytes : ∀ bs : List UInt8, flat bs = (bs.map fun b => (b.toNat : Int)).map (Value.int .u8)
  | [] => rfl
  | b :: bs => by
    have ih := flat_bytes bs
    simp only [flat] at ih
    simp only [flat, List.flatMap_cons, List.map_cons, ih]
    rfl
section
variable {P : Program} {l F : List Asrt} {K : Value → WP} {ro : Bool} {v : Value}
theorem Tr.bytesStr {S D : Nat} [hS : BytT P S] [hD : StrT P D] {bs : List UInt8} (hs : Has l (sl ro v bs)) (hx : Tr l (K (.string (bstr bs)))) : Tr l (GenK P (convert S D v) K) := fun w hw => by
  obtain ⟨e, he, hu⟩ := hS.h
  obtain ⟨R, S', hA⟩ := hs.sat hw
  refine ⟨_, ?_, hx w hw⟩
  have hc := cells_sl (P := P) hA
  have hv : ∃ a c, v = .slice a bs.length c := sl_slen hs hw
  obtain ⟨a, c, rfl⟩ := hv
  rw [run_convert_bytes_string w S D e a _ _ he hu hD.h]
  cases a with
  | none =>
    have : bs = [] := by
      rcases sl_cases hA with ⟨_, h⟩ | ⟨b, off, cap, cs, T, fr, h, _⟩
      · exact h
      · cases h
    subst this
    rfl
  | some a =>
    have hf : flat bs = (bs.map fun b => (b.toNat : Int)).map (Value.int .u8) := by
      exact flat_bytes bs
    have hl : (loadCells a bs.length).run P w = .ok ((bs.map fun b => (b.toNat : Int)).map (Value.int .u8)).toArray w := by
      rw [← hf]
      have h1 : En.sz UInt8 = 1 := rfl
      simpa [Builtin.firstCells, h1] using hc
    rw [run_bytesToString w a _ _ _ hl, foldl_push_byteCells]
    simp [bstr]
theorem BinK_seq {t : TypeId} {x y : Operand} {a b : List UInt8} : BinK P .eql t x y (.string (bstr a)) (.string (bstr b)) K = K (.bool (decide (a = b))) := by
  refine GenK_of (fun w => ?_) K
  simp [eqGuard, binOp, Op.stringOp, bstr_eq]
theorem BinK_sne {t : TypeId} {x y : Operand} {a b : List UInt8} : BinK P .neq t x y (.string (bstr a)) (.string (bstr b)) K = K (.bool (!decide (a = b))) := by
  refine GenK_of (fun w => ?_) K
  simp [eqGuard, binOp, Op.stringOp, bstr_eq]
end
theorem G.conv {P : Program} {l : List Asrt} {K : Value → WP} {s d : Nat} {v : Value} (h : Tr l (GenK P (convert s d v) K)) : Tr l (GenK P (convert s d v) K) := h
/-- What hangs on one element. -/
theorem Tr.fzAt {α : Type} [En α] [Fz α] {xs : List α} {i : Nat} {x : α} {l : List Asrt} {X : WP} (hs : Has l (fzl xs)) (hi : xs[i]? = some x) (hx : Tr (Fz.fz x :: l) X) : Tr l X := fun w hw => by
  refine hx w ((hs.imp (B := Fz.fz x) fun {_ _ _} hA => ⟨_, hA x (List.mem_of_getElem? hi)⟩).add (Fz.dup x) hw)
end Go.Wk
