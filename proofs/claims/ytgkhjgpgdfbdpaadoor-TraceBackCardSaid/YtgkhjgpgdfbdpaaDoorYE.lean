import Derived.Test.YtgkhjgpgdfbdpaaDoorYP
namespace Go.Proofs.YtgkhjgpgdfbdpaaDoor
open Go Go.Wk
set_option maxRecDepth 100000
theorem evsE_app : ∀ {ws r : List (List UInt8)}, (evsE ws).length = ws.length → evsE (ws ++ r) = evsE ws ++ evsE r
  | [], _, _ => rfl
  | a :: ws, r, h => by
    have hu : ∀ x : List (List UInt8), evsE (a :: x) = match oneE a with
      | some e => e :: evsE x
      | none => [] := fun x => rfl
    rw [List.cons_append, hu, hu]
    rw [hu] at h
    cases he : oneE a with
    | none => rw [he] at h; simp at h
    | some e =>
      rw [he] at h
      simp only [List.length_cons, Nat.add_right_cancel_iff] at h
      simp only [List.cons_append]
      rw [evsE_app h]
/-- So far are lines read, and the rest is behind them. -/
def rdS (s : List UInt8) (done : List EvC) (r : List UInt8) : Prop := ∃ ws, wordsA 10 s = ws ++ wordsA 10 r ∧ evsE ws = done ∧ done.length = ws.length
theorem rdS_init {s : List UInt8} : rdS s [] s := ⟨[], rfl, rfl, rfl⟩
theorem rdS_next {s : List UInt8} {done : List EvC} {w r : List UInt8} {e : EvC} (h : rdS s done (w ++ 10 :: r)) (hw : (10 : UInt8) ∉ w) (he : oneE w = some e) : rdS s (done ++ [e]) r := by
  obtain ⟨ws, h1, h2, h3⟩ := h
  rw [wordsA_hit hw] at h1
  refine ⟨ws ++ [w], by rw [h1]; simp, ?_, by simp [h3]⟩
  rw [evsE_app (by rw [h2, h3]), h2]
  unfold evsE
  rw [he]; rfl
theorem readE_big {s : List UInt8} (h : 65536 < s.length) : readE s = ([], 0, 3) := by unfold readE; rw [if_pos h]
theorem rdS_end {s : List UInt8} {done : List EvC} (hl : s.length ≤ 65536) (h : rdS s done []) : readE s = (done, 0, 0) := by
  obtain ⟨ws, h1, h2, h3⟩ := h
  have h1' : wordsA 10 s = ws ++ [[]] := h1
  unfold readE
  rw [if_neg (by omega), h1', List.dropLast_concat, List.getLast?_concat, h2, if_pos ⟨h3, rfl⟩]
theorem rdS_bad {s : List UInt8} {done : List EvC} {w r : List UInt8} (hl : s.length ≤ 65536) (h : rdS s done (w ++ 10 :: r)) (hw : (10 : UInt8) ∉ w) (he : oneE w = none) : readE s = ([], (done.length : Int) + 1, 13) := by
  obtain ⟨ws, h1, h2, h3⟩ := h
  rw [wordsA_hit hw] at h1
  have hd : (wordsA 10 s).dropLast = ws ++ w :: (wordsA 10 r).dropLast := by
    rw [h1, List.dropLast_append_of_ne_nil (by simp), List.dropLast_cons_of_ne_nil (wordsA_ne 10 r)]
  have hev : evsE (wordsA 10 s).dropLast = done := by
    rw [hd, evsE_app (by rw [h2, h3]), h2]
    unfold evsE
    rw [he]; simp
  unfold readE
  rw [if_neg (by omega), hev, if_neg]
  intro ⟨hx, _⟩
  rw [hd] at hx
  simp at hx; omega
theorem rdS_open {s : List UInt8} {done : List EvC} {w : List UInt8} (hl : s.length ≤ 65536) (h : rdS s done w) (hw : (10 : UInt8) ∉ w) (he : w ≠ []) : readE s = ([], (done.length : Int) + 1, 13) := by
  obtain ⟨ws, h1, h2, h3⟩ := h
  rw [wordsA_miss hw] at h1
  unfold readE
  rw [if_neg (by omega), h1, List.dropLast_concat, List.getLast?_concat, h2, if_neg]
  intro ⟨_, hx⟩
  exact he (Option.some.inj hx)
/-- Events printed, or that they are too long. -/
def printE (l : List EvC) : List UInt8 × Int := if 65536 < (textE l).length then ([], 3) else (textE l, 0)
theorem textE_app (l r : List EvC) : textE (l ++ r) = textE l ++ textE r := by simp [textE]
theorem textE_take {l : List EvC} {k : Nat} (h : k < l.length) : textE (l.take (k + 1)) = textE (l.take k) ++ lineE l[k] ++ [10] := by
  rw [List.take_succ_eq_append_getElem h, textE_snoc, List.append_assoc]
theorem textE_le {l : List EvC} (k : Nat) : (textE (l.take k)).length ≤ (textE l).length := by
  have := textE_app (l.take k) (l.drop k)
  rw [List.take_append_drop] at this
  rw [this, List.length_append]; omega
theorem printE_ok {l : List EvC} (h : (textE l).length ≤ 65536) : printE l = (textE l, 0) := if_neg (by omega)
theorem printE_big {l : List EvC} {k : Nat} (h : 65536 < (textE (l.take k)).length) : printE l = ([], 3) := if_pos (by have := textE_le (l := l) k; omega)
theorem printE_zero {l : List EvC} (h : (printE l).2 = 0) : (textE l).length ≤ 65536 := by
  unfold printE at h; split at h
  · simp at h
  · omega
theorem printE_text {l : List EvC} (h : (printE l).2 ≠ 0) : (printE l).1 = [] := by
  unfold printE at h ⊢; split
  · rfl
  · rename_i hx; rw [if_neg hx] at h; simp at h
theorem words_ok_of {s : List UInt8} {l : List EvC} {a e : Int} (h : readE s = (l, a, e)) : ∀ x ∈ l, x.ok := by
  unfold readE at h
  split at h
  · simp only [Prod.mk.injEq] at h; obtain ⟨rfl, _⟩ := h; simp
  · split at h
    · rename_i hg
      simp only [Prod.mk.injEq] at h; obtain ⟨rfl, _⟩ := h
      exact (evsE_all hg.1).2
    · simp only [Prod.mk.injEq] at h; obtain ⟨rfl, _⟩ := h; simp
end Go.Proofs.YtgkhjgpgdfbdpaaDoor
