import Derived.Test.YtgkhjgpgdfbdpaaDoorXM
namespace Go.Proofs.YtgkhjgpgdfbdpaaDoor
open Go Go.Wk
set_option maxRecDepth 100000
/-! ### words of calls and faults -/
def faultsA : List (List UInt8) := [[111, 118, 101, 114, 114, 117, 110], [98, 97, 100, 45, 99, 97, 108, 108], [98, 97, 100, 45, 112, 111, 105, 110, 116, 101, 114], [97, 112, 112, 45, 101, 114, 114, 111, 114], [109, 105, 115, 115, 101, 100]]
def faultA (k : Int) : List UInt8 := if 0 ≤ k ∧ k < 5 then ix (faultsA.map Str.mk) k |>.d else []
def isF (no : Int) : Prop := no ≤ -1 ∧ -5 ≤ no
instance (no : Int) : Decidable (isF no) := by unfold isF; infer_instance
def wordA (no : Int) : List UInt8 := if isA no then nameA no else if isF no then 33 :: faultA (-1 - no) else 35 :: decA no
theorem wordA_name {no : Int} (h : isA no) : wordA no = nameA no := if_pos h
theorem wordA_fault {no : Int} (h : isF no) : wordA no = 33 :: faultA (-1 - no) := by unfold wordA; rw [if_neg (by unfold isA; unfold isF at h; omega), if_pos h]
theorem wordA_other {no : Int} (h1 : ¬ isA no) (h2 : ¬ isF no) : wordA no = 35 :: decA no := by unfold wordA; rw [if_neg h1, if_neg h2]
theorem isF_cases {no : Int} (h : isF no) : ∃ k : Nat, k < 5 ∧ no = -1 - (k : Int) := ⟨(-1 - no).toNat, by unfold isF at h; omega, by unfold isF at h; omega⟩
theorem name_head {no : Int} (h : isA no) : ∃ b r, nameA no = b :: r ∧ b ≠ 33 ∧ b ≠ 35 ∧ (10 : UInt8) ∉ nameA no := by
  obtain ⟨k, hk, rfl⟩ := isA_cases h
  have : ∀ k, k < 27 → (nameA ((k + 1 : Nat) : Int)).headD 33 ≠ 33 ∧ (nameA ((k + 1 : Nat) : Int)).headD 35 ≠ 35 ∧ (10 : UInt8) ∉ nameA ((k + 1 : Nat) : Int) := by decide +kernel
  obtain ⟨h1, h2, h3⟩ := this k hk
  cases hn : nameA ((k + 1 : Nat) : Int) with
  | nil => rw [hn] at h1; exact absurd rfl h1
  | cons b r => rw [hn] at h1 h2 h3; exact ⟨b, r, rfl, h1, h2, h3⟩
theorem fault_spec (k : Nat) (h : k < 5) : (10 : UInt8) ∉ faultA (k : Int) ∧ (32 : UInt8) ∉ faultA (k : Int) ∧ (faultA (k : Int)).length ≤ 20 := by
  have : ∀ k, k < 5 → (10 : UInt8) ∉ faultA ((k : Nat) : Int) ∧ (32 : UInt8) ∉ faultA ((k : Nat) : Int) ∧ (faultA ((k : Nat) : Int)).length ≤ 20 := by decide +kernel
  exact this k h
theorem fault_inj {i j : Nat} (hi : i < 5) (hj : j < 5) (h : faultA (i : Int) = faultA (j : Int)) : i = j := by
  have : ∀ a, a < 5 → ∀ b, b < 5 → faultA ((a : Nat) : Int) = faultA ((b : Nat) : Int) → a = b := by decide +kernel
  exact this i hi j hj h
theorem wordA_inj {m n : Int} (h : wordA m = wordA n) : m = n := by
  have hc : ∀ x : Int, isA x ∨ isF x ∨ (¬ isA x ∧ ¬ isF x) := fun x => by
    by_cases h1 : isA x
    · exact .inl h1
    · by_cases h2 : isF x
      · exact .inr (.inl h2)
      · exact .inr (.inr ⟨h1, h2⟩)
  rcases hc m with h1 | h1 | ⟨h1, h1'⟩ <;> rcases hc n with h2 | h2 | ⟨h2, h2'⟩
  · rw [wordA_name h1, wordA_name h2] at h; exact name_inj h1 h2 h
  · rw [wordA_name h1, wordA_fault h2] at h
    obtain ⟨b, r, e, hb, _⟩ := name_head h1
    rw [e] at h; exact absurd (List.cons.inj h).1 hb
  · rw [wordA_name h1, wordA_other h2 h2'] at h
    obtain ⟨b, r, e, _, hb, _⟩ := name_head h1
    rw [e] at h; exact absurd (List.cons.inj h).1 hb
  · rw [wordA_fault h1, wordA_name h2] at h
    obtain ⟨b, r, e, hb, _⟩ := name_head h2
    rw [e] at h; exact absurd (List.cons.inj h).1.symm hb
  · rw [wordA_fault h1, wordA_fault h2] at h
    obtain ⟨i, hi, rfl⟩ := isF_cases h1
    obtain ⟨j, hj, rfl⟩ := isF_cases h2
    have e1 : -1 - (-1 - (i : Int)) = (i : Int) := by omega
    have e2 : -1 - (-1 - (j : Int)) = (j : Int) := by omega
    rw [e1, e2] at h
    rw [fault_inj hi hj (List.cons.inj h).2]
  · rw [wordA_fault h1, wordA_other h2 h2'] at h
    exact absurd (List.cons.inj h).1 (by decide)
  · rw [wordA_other h1 h1', wordA_name h2] at h
    obtain ⟨b, r, e, _, hb, _⟩ := name_head h2
    rw [e] at h; exact absurd (List.cons.inj h).1.symm hb
  · rw [wordA_other h1 h1', wordA_fault h2] at h
    exact absurd (List.cons.inj h).1 (by decide)
  · rw [wordA_other h1 h1', wordA_other h2 h2'] at h
    exact decA_inj (List.cons.inj h).2
theorem dec_no10 (n : Int) : (10 : UInt8) ∉ decA n := fun h => absurd (decA_mem h).1 (by decide)
theorem wordA_clean (n : Int) : (32 : UInt8) ∉ wordA n ∧ (10 : UInt8) ∉ wordA n := by
  unfold wordA
  split
  · rename_i h
    obtain ⟨_, _, _, _, _, h3⟩ := name_head h
    exact ⟨name_no32 _, h3⟩
  · split
    · rename_i h
      obtain ⟨k, hk, rfl⟩ := isF_cases h
      rw [show -1 - (-1 - (k : Int)) = (k : Int) by omega]
      obtain ⟨h1, h2, _⟩ := fault_spec k hk
      simp only [List.mem_cons, not_or]
      exact ⟨⟨by decide, h2⟩, ⟨by decide, h1⟩⟩
    · simp only [List.mem_cons, not_or]
      exact ⟨⟨by decide, dec_no32 n⟩, ⟨by decide, dec_no10 n⟩⟩
theorem wordA_len {n : Int} (h : I64 n) : (wordA n).length ≤ 21 := by
  unfold wordA
  split
  · have := nameA_len n; omega
  · split
    · rename_i h
      obtain ⟨k, hk, rfl⟩ := isF_cases h
      rw [show -1 - (-1 - (k : Int)) = (k : Int) by omega]
      have := (fault_spec k hk).2.2
      simp; omega
    · have := decA_len h
      simp; omega
open Classical in
/-- The call of a word. -/
noncomputable def callW (w : List UInt8) : Option Int := if h : ∃ n, I64 n ∧ wordA n = w then some h.choose else none
theorem callW_some {w : List UInt8} {n : Int} : callW w = some n ↔ I64 n ∧ wordA n = w := by
  unfold callW
  constructor
  · intro h
    split at h
    · rename_i hx
      have := hx.choose_spec
      rw [Option.some.inj h] at this; exact this
    · cases h
  · rintro ⟨h1, h2⟩
    have hx : ∃ n, I64 n ∧ wordA n = w := ⟨n, h1, h2⟩
    rw [dif_pos hx]
    exact congrArg some (wordA_inj (hx.choose_spec.2.trans h2.symm))
theorem callW_none {w : List UInt8} : callW w = none ↔ ∀ n, I64 n → wordA n ≠ w := by
  constructor
  · intro h n h1 h2
    rw [callW_some.2 ⟨h1, h2⟩] at h; cases h
  · intro h
    cases hn : callW w with
    | none => rfl
    | some n => obtain ⟨h1, h2⟩ := callW_some.1 hn; exact absurd h2 (h n h1)
theorem callW_word {n : Int} (h : I64 n) : callW (wordA n) = some n := callW_some.2 ⟨h, rfl⟩
/-- A word that begins with a cross. -/
theorem callW_cross {w : List UInt8} : callW (35 :: w) = match numA w with
    | some n => if wordA n = 35 :: w then some n else none
    | none => none := by
  cases hn : numA w with
  | none =>
    refine callW_none.2 fun n h1 h2 => ?_
    have : decA n = w := by
      by_cases ha : isA n
      · rw [wordA_name ha] at h2
        obtain ⟨b, r, e, _, hb, _⟩ := name_head ha
        rw [e] at h2; exact absurd (List.cons.inj h2).1 hb
      · by_cases hf : isF n
        · rw [wordA_fault hf] at h2
          exact absurd (List.cons.inj h2).1 (by decide)
        · rw [wordA_other ha hf] at h2; exact (List.cons.inj h2).2
    exact numA_none.1 hn n h1 this
  | some n =>
    obtain ⟨h1, h2⟩ := numA_some.1 hn
    simp only
    split
    · rename_i h; exact callW_some.2 ⟨h1, h⟩
    · rename_i h
      refine callW_none.2 fun k hk1 hk2 => h ?_
      have : decA k = w := by
        by_cases ha : isA k
        · rw [wordA_name ha] at hk2
          obtain ⟨b, r, e, _, hb, _⟩ := name_head ha
          rw [e] at hk2; exact absurd (List.cons.inj hk2).1 hb
        · by_cases hf : isF k
          · rw [wordA_fault hf] at hk2
            exact absurd (List.cons.inj hk2).1 (by decide)
          · rw [wordA_other ha hf] at hk2; exact (List.cons.inj hk2).2
      have : k = n := decA_inj (this.trans h2.symm)
      subst this; exact hk2
/-- A word that is none's. -/
theorem callW_name {w : List UInt8} (h : numberA w ≠ 0) : callW w = some (numberA w) := by
  rcases numberA_spec w with ⟨h0, _⟩ | ⟨h1, h2⟩
  · exact absurd h0 h
  · exact callW_some.2 ⟨by have := h1.1; have := h1.2; unfold I64; omega, by rw [wordA_name h1, h2]⟩
theorem callW_rest {w : List UInt8} (h1 : numberA w = 0) (h2 : ∀ r, w ≠ 35 :: r) (h3 : ∀ k : Nat, k < 5 → wordA (-1 - (k : Int)) ≠ w) : callW w = none := by
  refine callW_none.2 fun n hn he => ?_
  by_cases ha : isA n
  · rw [wordA_name ha] at he
    have := numberA_eq ha he
    have := ha.1; omega
  · by_cases hf : isF n
    · obtain ⟨k, hk, rfl⟩ := isF_cases hf
      exact h3 k hk he
    · rw [wordA_other ha hf] at he
      exact h2 _ he.symm
/-! ### events as lines -/
structure EvC where
  part : Int
  win : Int
  proc : Int
  call : Int
  code : Int
  value : Int
  deriving DecidableEq
instance : Inhabited EvC := ⟨⟨0, 0, 0, 0, 0, 0⟩⟩
instance : En EvC := ⟨fun s => [.int .i64 s.part, .int .i64 s.win, .int .i64 s.proc, .int .i64 s.call, .int .i64 s.code, .int .i64 s.value], 6, fun _ => rfl, fun _ => rfl, by decide⟩
def EvC.ok (e : EvC) : Prop := I64 e.part ∧ I64 e.win ∧ I64 e.proc ∧ I64 e.call ∧ I64 e.code ∧ I64 e.value
def evW (e : EvC) : List (List UInt8) := [decA e.part, decA e.win, decA e.proc, wordA e.call, decA e.code, decA e.value]
def lineE (e : EvC) : List UInt8 := joinA 32 (evW e)
theorem evW_clean (e : EvC) : ∀ w ∈ evW e, (32 : UInt8) ∉ w ∧ (10 : UInt8) ∉ w := fun w hw => by
  simp only [evW, List.mem_cons, List.mem_nil_iff, or_false] at hw
  rcases hw with rfl | rfl | rfl | rfl | rfl | rfl
  · exact ⟨dec_no32 _, dec_no10 _⟩
  · exact ⟨dec_no32 _, dec_no10 _⟩
  · exact ⟨dec_no32 _, dec_no10 _⟩
  · exact wordA_clean _
  · exact ⟨dec_no32 _, dec_no10 _⟩
  · exact ⟨dec_no32 _, dec_no10 _⟩
theorem join_mem {c b : UInt8} : ∀ {ws : List (List UInt8)}, b ∈ joinA c ws → b = c ∨ ∃ w ∈ ws, b ∈ w
  | [], h => by simp [joinA] at h
  | [w], h => .inr ⟨w, by simp, h⟩
  | w :: v :: ws, h => by
    rw [joinA_cons] at h
    rcases List.mem_append.1 h with h | h
    · exact .inr ⟨w, by simp, h⟩
    · rcases List.mem_cons.1 h with h | h
      · exact .inl h
      · rcases join_mem h with h | ⟨x, hx, hb⟩
        · exact .inl h
        · exact .inr ⟨x, by simp [hx], hb⟩
theorem lineE_no10 (e : EvC) : (10 : UInt8) ∉ lineE e := fun h => by
  rcases join_mem h with h | ⟨w, hw, hb⟩
  · exact absurd h (by decide)
  · exact (evW_clean e w hw).2 hb
theorem lineE_words (e : EvC) : wordsS (lineE e) = (evW e).map Str.mk := by
  unfold wordsS lineE
  rw [words_join (by simp [evW]) fun w hw => (evW_clean e w hw).1]
theorem lineE_len {e : EvC} (h : e.ok) : (lineE e).length ≤ 132 := by
  obtain ⟨h1, h2, h3, h4, h5, h6⟩ := h
  have := joinA_bound (c := 32) (n := 21) (ws := evW e) fun w hw => by
    simp only [evW, List.mem_cons, List.mem_nil_iff, or_false] at hw
    rcases hw with rfl | rfl | rfl | rfl | rfl | rfl
    · have := decA_len h1; omega
    · have := decA_len h2; omega
    · have := decA_len h3; omega
    · exact wordA_len h4
    · have := decA_len h5; omega
    · have := decA_len h6; omega
  have hl : (evW e).length = 6 := rfl
  unfold lineE; omega
theorem lineE_ne (e : EvC) : lineE e ≠ [] := fun h => by
  have := lineE_words e
  rw [h] at this
  have := congrArg List.length this
  simp [wordsS, wordsA, evW] at this
open Classical in
/-- A line's event. -/
noncomputable def oneE (l : List UInt8) : Option EvC := match wordsS l with
  | [a, b, c, d, e, f] => match numA a.d, numA b.d, numA c.d, callW d.d, numA e.d, numA f.d with
    | some n1, some n2, some n3, some n4, some n5, some n6 => some ⟨n1, n2, n3, n4, n5, n6⟩
    | _, _, _, _, _, _ => none
  | _ => none
theorem oneE_line {e : EvC} (h : e.ok) : oneE (lineE e) = some e := by
  obtain ⟨h1, h2, h3, h4, h5, h6⟩ := h
  unfold oneE
  rw [lineE_words]
  show (match numA (decA e.part), numA (decA e.win), numA (decA e.proc), callW (wordA e.call), numA (decA e.code), numA (decA e.value) with
    | some n1, some n2, some n3, some n4, some n5, some n6 => some (⟨n1, n2, n3, n4, n5, n6⟩ : EvC)
    | _, _, _, _, _, _ => none) = some e
  rw [numA_dec h1, numA_dec h2, numA_dec h3, callW_word h4, numA_dec h5, numA_dec h6]
theorem oneE_some {l : List UInt8} {e : EvC} (h : oneE l = some e) : e.ok ∧ lineE e = l := by
  unfold oneE at h
  split at h
  · rename_i a b c d f g hw
    split at h
    · rename_i n1 n2 n3 n4 n5 n6 e1 e2 e3 e4 e5 e6
      obtain rfl := Option.some.inj h
      obtain ⟨i1, j1⟩ := numA_some.1 e1
      obtain ⟨i2, j2⟩ := numA_some.1 e2
      obtain ⟨i3, j3⟩ := numA_some.1 e3
      obtain ⟨i4, j4⟩ := callW_some.1 e4
      obtain ⟨i5, j5⟩ := numA_some.1 e5
      obtain ⟨i6, j6⟩ := numA_some.1 e6
      refine ⟨⟨i1, i2, i3, i4, i5, i6⟩, ?_⟩
      have hj := join_words (c := 32) l
      have : wordsA 32 l = [a.d, b.d, c.d, d.d, f.d, g.d] := by
        have := congrArg (fun x => x.map Str.d) hw
        simp only [wordsS, mk_d] at this
        exact this
      rw [← hj, this]
      unfold lineE evW
      simp only [j1, j2, j3, j4, j5, j6]
    · cases h
  · cases h
/-- Events as text. -/
def textE (l : List EvC) : List UInt8 := l.flatMap fun e => lineE e ++ [10]
theorem textE_snoc (l : List EvC) (e : EvC) : textE (l ++ [e]) = textE l ++ (lineE e ++ [10]) := by simp [textE]
theorem textE_lines : ∀ l : List EvC, wordsA 10 (textE l) = l.map lineE ++ [[]]
  | [] => rfl
  | e :: l => by
    have ih := textE_lines l
    show wordsA 10 ((lineE e ++ [10]) ++ textE l) = _
    rw [List.append_assoc, List.singleton_append, wordsA_hit (lineE_no10 e), ih]; rfl
/-- What is read of lines, as far as they are events'. -/
noncomputable def evsE : List (List UInt8) → List EvC
  | [] => []
  | l :: r => match oneE l with
    | some e => e :: evsE r
    | none => []
/-- Lines, one behind the other. -/
noncomputable def readE (s : List UInt8) : List EvC × Int × Int :=
  if 65536 < s.length then ([], 0, 3) else
  if (evsE (wordsA 10 s).dropLast).length = (wordsA 10 s).dropLast.length ∧ (wordsA 10 s).getLast? = some [] then (evsE (wordsA 10 s).dropLast, 0, 0)
  else ([], ((evsE (wordsA 10 s).dropLast).length : Int) + 1, 13)
theorem evsE_le : ∀ l : List (List UInt8), (evsE l).length ≤ l.length
  | [] => Nat.le_refl _
  | a :: r => by
    unfold evsE
    split
    · simp only [List.length_cons]; have := evsE_le r; omega
    · simp
theorem evsE_map : ∀ {l : List EvC}, (∀ e ∈ l, e.ok) → evsE (l.map lineE) = l
  | [], _ => rfl
  | e :: l, h => by
    rw [List.map_cons, evsE, oneE_line (h e (by simp))]
    simp only
    rw [evsE_map fun x hx => h x (by simp [hx])]
theorem evsE_all : ∀ {l : List (List UInt8)}, (evsE l).length = l.length → (evsE l).map lineE = l ∧ ∀ e ∈ evsE l, e.ok
  | [], _ => ⟨rfl, by simp [evsE]⟩
  | a :: r, h => by
    unfold evsE at h ⊢
    split at h
    · rename_i e he
      simp only [List.length_cons, Nat.add_right_cancel_iff] at h
      obtain ⟨h1, h2⟩ := evsE_all h
      obtain ⟨h3, h4⟩ := oneE_some he
      refine ⟨by simp only [List.map_cons, h1, h4], fun x hx => ?_⟩
      rcases List.mem_cons.1 hx with rfl | hx
      · exact h3
      · exact h2 x hx
    · simp at h
theorem evsE_cut : ∀ {l : List (List UInt8)} {k : Nat} (h : k < l.length), (evsE (l.take k)).length = k → oneE l[k] = none → (evsE l).length = k
  | [], _, h, _, _ => by simp at h
  | a :: r, 0, _, _, h => by
    unfold evsE
    simp only [List.getElem_cons_zero] at h
    rw [h]; rfl
  | a :: r, k + 1, h, h2, h3 => by
    rw [List.take_succ_cons] at h2
    unfold evsE at h2 ⊢
    split at h2
    · rename_i e he
      simp only [List.length_cons, Nat.add_right_cancel_iff] at h2 ⊢
      exact evsE_cut (by simpa using h) h2 (by simpa using h3)
    · simp at h2
theorem evsE_next : ∀ {l : List (List UInt8)} {k : Nat} (h : k < l.length) {e : EvC}, (evsE (l.take k)).length = k → oneE l[k] = some e → evsE (l.take (k + 1)) = evsE (l.take k) ++ [e]
  | [], _, h, _, _, _ => by simp at h
  | a :: r, 0, _, e, _, h => by
    simp only [List.getElem_cons_zero] at h
    simp [evsE, h]
  | a :: r, k + 1, h, e, h2, h3 => by
    rw [List.take_succ_cons] at h2 ⊢
    rw [List.take_succ_cons]
    unfold evsE at h2 ⊢
    split at h2
    · rename_i e' he
      simp only [List.length_cons, Nat.add_right_cancel_iff] at h2
      simp only [List.cons_append]
      rw [evsE_next (by simpa using h) h2 (by simpa using h3)]
    · simp at h2
/-- What is printed comes back. -/
theorem read_text {l : List EvC} (h : ∀ e ∈ l, e.ok) (hl : (textE l).length ≤ 65536) : readE (textE l) = (l, 0, 0) := by
  unfold readE
  rw [if_neg (by omega), textE_lines]
  have h1 : (l.map lineE ++ [[]]).dropLast = l.map lineE := by simp
  rw [h1, evsE_map h]
  rw [if_pos ⟨by simp, by simp⟩]
theorem dropLast_last {α : Type} : ∀ {l : List α} {x : α}, l.getLast? = some x → l.dropLast ++ [x] = l
  | [], _, h => by simp at h
  | [a], x, h => by simp at h; subst h; rfl
  | a :: b :: l, x, h => by
    rw [List.getLast?_cons_cons] at h
    show a :: ((b :: l).dropLast ++ [x]) = _
    rw [dropLast_last h]
/-- What is read is printed just so. -/
theorem text_read {s : List UInt8} {l : List EvC} {a : Int} (h : readE s = (l, a, 0)) : textE l = s ∧ (∀ e ∈ l, e.ok) ∧ s.length ≤ 65536 := by
  unfold readE at h
  split at h
  · simp at h
  · rename_i hl
    split at h
    · rename_i hg
      obtain ⟨h1, h2⟩ := hg
      simp only [Prod.mk.injEq] at h
      obtain ⟨rfl, _⟩ := h
      obtain ⟨h3, h4⟩ := evsE_all h1
      refine ⟨?_, h4, by omega⟩
      have h5 := dropLast_last h2
      rw [← h3] at h5
      have gen : ∀ l : List EvC, textE l = joinA 10 (l.map lineE ++ [[]]) := fun l => by
        have := join_words (c := 10) (textE l)
        rw [textE_lines] at this
        exact this.symm
      rw [gen, h5]; exact join_words s
    · simp at h
theorem readE_len {s : List UInt8} : ((readE s).1).length ≤ s.length + 1 := by
  unfold readE
  split
  · simp
  · split
    · have h1 := evsE_le (wordsA 10 s).dropLast
      have h2 : (wordsA 10 s).length ≤ s.length + 1 := by
        rw [words_len]
        have := List.count_le_length (a := (10 : UInt8)) (l := s)
        omega
      rw [List.length_dropLast] at h1
      simp only
      omega
    · simp
end Go.Proofs.YtgkhjgpgdfbdpaaDoor
