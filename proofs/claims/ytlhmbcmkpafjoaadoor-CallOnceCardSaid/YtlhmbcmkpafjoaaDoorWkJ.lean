/- Small lemmas: numbers that do not wrap, lists by places. -/
import Derived.Test.YtlhmbcmkpafjoaaDoorWkH
namespace Go.Wk
open Go
theorem wrapId {n : Int} (h0 : -9223372036854775808 ≤ n) (h1 : n ≤ 9223372036854775807) : IntKind.i64.wrap n = n := by apply Go.IntWalk.i64_in <;> omega
theorem wrapSucc {k : Nat} (h : k < 9223372036854775807) : IntKind.i64.wrap ((k : Int) + 1) = ((k + 1 : Nat) : Int) := by rw [wrapId (by omega) (by omega)]; rfl
theorem if_min {n m : Nat} : (if (n : Int) < m then (n : Int) else m) = ((min n m : Nat) : Int) := by split <;> omega
section
variable {α β : Type} [Inhabited α] {xs : List α}
theorem ix_take {k n : Nat} (h : k < n) : ix (xs.take n) (k : Int) = ix xs (k : Int) := by
  simp only [ix, Int.toNat_natCast, List.getD_eq_getElem?_getD]
  rw [List.getElem?_take_of_lt h]
theorem take_minlen {γ : Type} {ys : List γ} {n : Nat} : ys.take (min n ys.length) = ys.take n := by rw [← List.take_take, List.take_length]
theorem take_ix {k : Nat} (h : k < xs.length) : xs.take (k + 1) = xs.take k ++ [ix xs (k : Int)] := by
  rw [List.take_succ_eq_append_getElem h]; simp [ix, h]
theorem ix_map [Inhabited β] {f : α → β} {k : Int} (h0 : 0 ≤ k) (h1 : k < xs.length) : ix (xs.map f) k = f (ix xs k) := by
  have h2 : k.toNat < xs.length := by omega
  simp [ix, h2]
theorem map_same {f : α → β} {k : Int} (h0 : 0 ≤ k) (h1 : k < xs.length) (x : α) (h : f x = f (ix xs k)) : (xs.set k.toNat x).map f = xs.map f := by
  have := ix_some h0 h1
  obtain ⟨hlt, he⟩ := List.getElem?_eq_some_iff.1 this
  rw [List.map_set, h, ← he]
  apply List.ext_getElem (by simp)
  intro i h1 h2
  rw [List.getElem_set]
  split
  · rename_i e; subst e; simp
  · rfl
theorem ix_out {k : Int} (h : xs.length ≤ k.toNat) : ix xs k = default := by simp [ix, h]
theorem ix_nat {k : Nat} (h : k < xs.length) : ix xs (k : Int) = xs[k] := by simp [ix, h]
theorem ix_snoc {x : α} {k : Nat} (h : k = xs.length) : ix (xs ++ [x]) (k : Int) = x := by subst h; simp [ix]
theorem ix_app {ys : List α} {k : Nat} (h : k < xs.length) : ix (xs ++ ys) (k : Int) = ix xs (k : Int) := by
  simp only [ix, Int.toNat_natCast, List.getD_eq_getElem?_getD]
  rw [List.getElem?_append_left h]
theorem ix_zero {x : α} : ix (x :: xs) 0 = x := rfl
end
end Go.Wk
