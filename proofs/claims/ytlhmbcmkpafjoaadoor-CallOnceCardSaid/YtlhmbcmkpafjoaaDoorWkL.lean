/- Bytes to bytes: a conversion that marks the array. -/
import Derived.Test.YtlhmbcmkpafjoaaDoorWkK
namespace Go.Wk
open Go
theorem modify_set {α : Type} {a : Array α} {i : Nat} {f : α → α} {x : α} (h : a[i]? = some x) : a.modify i f = a.setIfInBounds i (f x) := by
  apply Array.ext_getElem?
  intro j
  rw [Array.getElem?_modify, Array.getElem?_setIfInBounds]
  by_cases hj : i = j
  · subst hj
    have hlt : i < a.size := by
      rcases Nat.lt_or_ge i a.size with h' | h'
      · exact h'
      · rw [Array.getElem?_eq_none h'] at h; cases h
    rw [Array.getElem?_eq_getElem hlt] at h
    simp [hlt, Option.some.inj h]
  · simp [hj]
section
variable {P : Program} {l F : List Asrt} {K : Value → WP} {v : Value}
theorem A.convB {T : Nat} [hT : BytT P T] {xs : List UInt8} [hs : TkS l v UInt8 inferInstance xs F] (h0 : 0 < xs.length) (hx : Tr (sl true v xs :: F) (K v)) : Tr l (EGenK P (convert T T v) K) := Tr.imp hs.h fun w hw => by
  obtain ⟨e, he, hu⟩ := hT.h
  rcases sl_open hw with ⟨rfl, rfl, hw'⟩ | ⟨b, off, cap, cs, T', e1, e2, e5, e7, hw'⟩
  · cases h0
  subst e1
  have hg := hw'.get
  have hlt := hw'.lt
  refine ⟨.slice (some ⟨b, off, none⟩) xs.length cap, w.freeze ⟨b, cs.length, none⟩ 1, ?_, hx _ ?_⟩
  · simp [convert, run_underlying he, run_underlying hu, markStringish, World.shape?, hg]
  · have hh : (w.freeze ⟨b, cs.length, none⟩ 1).heap = w.heap.setIfInBounds b (.cells cs.toArray T' (cs.length, cs.length + 1)) := by
      unfold World.freeze
      rw [if_neg (by decide)]
      dsimp only
      rw [modify_set hg]
      simp
    have h3 := hw'.put (o' := .cells cs.toArray T' (cs.length, cs.length + 1)) hh ⟨rfl, rfl, rfl⟩
    exact Sat.mapHead (A := rob b (.cells cs.toArray T' (cs.length, cs.length + 1))) (fun _ _ (hb : _ ∧ _) => .inr ⟨b, off, cap, cs, T', _, rfl, e2, hb.1, hb.2, e7⟩) h3.freeze
end
theorem G.convE {P : Program} {l : List Asrt} {K : Value → WP} {s d : Nat} {v : Value} (h : Tr l (EGenK P (convert s d v) K)) : Tr l (EGenK P (convert s d v) K) := h
theorem BinK_seq1 {P : Program} {K : Value → WP} {t : TypeId} {x y : Operand} {a : List UInt8} {c : UInt8} : BinK P .eql t x y (.string (bstr a)) (.string ⟨#[c]⟩) K = K (.bool (decide (a = [c]))) := BinK_seq (b := [c])
end Go.Wk
