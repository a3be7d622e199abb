/- strings.Cut and CutPrefix as triples. -/
import Derived.Test.YtgkhjgpgdfbdpaaGreatDoorWkX
import Derived.Lib.IndexMore
import Derived.Deep.Draws
namespace Go.Wk
open Go Go.RowKit
theorem Sat.drewN {w : World} {n : Nat} {l : List Asrt} : Sat w l → Sat (w.drewN n) l := fun ⟨R, h1, h2⟩ =>
  ⟨R, h1, SatR.frame (w := w) (w' := w.drewN n) (fun _ h => h) (Nat.le_refl _) ⟨rfl, rfl, rfl⟩ (fun _ _ => rfl) (fun _ hn _ => ⟨rfl, hn⟩) h2⟩
/-- A text's first line, what is behind it, and whether it ends. -/
def cutA (c : UInt8) (s : List UInt8) : List UInt8 × List UInt8 × Bool := Lib.cut s [c]
theorem cutA_miss {c : UInt8} {s : List UInt8} (h : c ∉ s) : cutA c s = (s, [], false) := by
  unfold cutA Lib.cut
  rw [Lib.index_one]
  rcases index_byte (c := c) (s := s) with ⟨h1, h2⟩ | ⟨w, r, rfl, h2, h3⟩
  · rw [h1, if_neg (by omega)]
  · exact absurd (by simp) h
theorem cutA_hit {c : UInt8} {w r : List UInt8} (h : c ∉ w) : cutA c (w ++ c :: r) = (w, r, true) := by
  unfold cutA Lib.cut
  rw [Lib.index_one]
  rcases index_byte (c := c) (s := w ++ c :: r) with ⟨h1, h2⟩ | ⟨w', r', he, h2, h3⟩
  · exact absurd (by simp) h2
  · have e1 := wordsA_hit (r := r) h
    have e2 := wordsA_hit (r := r') h2
    rw [he] at e1
    rw [e1] at e2
    obtain rfl := (List.cons.inj e2).1
    rw [h3, if_pos (by omega)]
    simp
theorem cut_split {c : UInt8} : ∀ s : List UInt8, c ∉ s ∨ ∃ w r, s = w ++ c :: r ∧ c ∉ w := fun s => by
  rcases index_byte (c := c) (s := s) with ⟨_, h2⟩ | ⟨w, r, h1, h2, _⟩
  · exact .inl h2
  · exact .inr ⟨w, r, h1, h2⟩
theorem trip_cut {P : Program} {f g : Nat} (hc : ∀ (s sep : ByteArray) (m : Int) (w : World), s.size < 4294967281 → w.cell? ⟨g, 0, none⟩ = some (.int .i64 m) →
      Calls P f #[.string s, .string sep] w fun e w' => e = .returned (.tuple #[.string ⟨(Lib.cut s.data.toList sep.data.toList).1.toArray⟩, .string ⟨(Lib.cut s.data.toList sep.data.toList).2.1.toArray⟩, .bool (Lib.cut s.data.toList sep.data.toList).2.2]) ∧ ∃ n, w' = w.drewN n)
    {s : List UInt8} {c : UInt8} {m : Int} (hs : s.length ≤ 4294967280) : Trip P f [.string (bstr s), .string (bstr [c])].toArray [sl true (mxV g) [m]] fun v l' => v = .tuple #[.string (bstr (cutA c s).1), .string (bstr (cutA c s).2.1), .bool (cutA c s).2.2] ∧ l' = [] := by
  intro F K hK
  refine Tr.ofCalls fun w hw => (hc (bstr s) (bstr [c]) m w (by rw [bstr_size]; omega) (mx_cell hw)).mono fun e w' ⟨he, n, hw'⟩ => ⟨_, he, ?_⟩
  subst hw'
  refine hK _ _ ⟨?_, rfl⟩ _ hw.drewN.tail
  rw [bstr_data, bstr_data]; rfl
/-- Without this byte ahead. -/
def cutP (c : UInt8) (s : List UInt8) : List UInt8 := if s.head? = some c then s.drop 1 else s
theorem trip_cutPre {P : Program} {f : Nat} (hc : ∀ (s p : ByteArray) (w : World), Calls P f #[.string s, .string p] w fun e w' => e = .returned (.tuple #[.string ⟨(Lib.trimPrefix s.data.toList p.data.toList).toArray⟩, .bool (Lib.hasPrefix s.data.toList p.data.toList)]) ∧ w' = w)
    {s : List UInt8} {c : UInt8} : Trip P f [.string (bstr s), .string (bstr [c])].toArray [] fun v l' => v = .tuple #[.string (bstr (cutP c s)), .bool (decide (s.head? = some c))] ∧ l' = [] := by
  intro F K hK
  refine Tr.ofCalls fun w hw => (hc (bstr s) (bstr [c]) w).mono fun e w' ⟨he, hw'⟩ => ⟨_, he, ?_⟩
  subst hw'
  refine hK _ _ ⟨?_, rfl⟩ w' hw
  rw [bstr_data, bstr_data]
  unfold Lib.trimPrefix Lib.hasPrefix cutP
  cases s with
  | nil => rfl
  | cons b r =>
    by_cases hb : b = c
    · subst hb; simp [List.isPrefixOf, bstr]
    · have h1 : (c == b) = false := by simpa using fun e : c = b => hb e.symm
      simp [List.isPrefixOf, h1, hb, bstr]
end Go.Wk
