/- Texts: numbers in decimal; words between blanks; lines. Plain laws. -/
import Derived.Test.YtgkhjgpgdfbdpaaGreatDoorWkS
import Derived.Lib.SplitLaws
import Derived.Lib.Split
import Derived.Lib.Join
namespace Go.Wk

def I64 (n : Int) : Prop := -9223372036854775808 ≤ n ∧ n ≤ 9223372036854775807
theorem I64.lo {n : Int} (h : I64 n) : -9223372036854775808 ≤ n := h.1
theorem I64.hi {n : Int} (h : I64 n) : n ≤ 9223372036854775807 := h.2
/-- The digits of a number. -/
def digA (n : Nat) : List UInt8 := if n < 10 then [UInt8.ofNat (48 + n)] else digA (n / 10) ++ [UInt8.ofNat (48 + n % 10)]
termination_by n
decreasing_by omega
theorem digA_lt {n : Nat} (h : n < 10) : digA n = [UInt8.ofNat (48 + n)] := by rw [digA, if_pos h]
theorem digA_ge {n : Nat} (h : ¬ n < 10) : digA n = digA (n / 10) ++ [UInt8.ofNat (48 + n % 10)] := by rw [digA, if_neg h]
def dval (u : Nat) (b : UInt8) : Nat := 10 * u + (b.toNat - 48)
def valA (l : List UInt8) : Nat := l.foldl dval 0
def isDig (b : UInt8) : Prop := 48 ≤ b.toNat ∧ b.toNat ≤ 57
theorem dig_toNat {k : Nat} (h : k < 10) : (UInt8.ofNat (48 + k)).toNat = 48 + k := by rw [UInt8.toNat_ofNat']; omega
theorem valA_snoc (l : List UInt8) (b : UInt8) : valA (l ++ [b]) = 10 * valA l + (b.toNat - 48) := by simp [valA, dval]
theorem digA_spec (n : Nat) : valA (digA n) = n ∧ (∀ b ∈ digA n, isDig b) ∧ digA n ≠ [] := by
  induction n using Nat.strongRecOn with
  | _ n ih =>
    by_cases h : n < 10
    · rw [digA_lt h]
      have := dig_toNat h
      refine ⟨by simp [valA, dval]; omega, fun b hb => ?_, by simp⟩
      simp only [List.mem_singleton] at hb
      subst hb
      unfold isDig; omega
    · rw [digA_ge h]
      obtain ⟨h1, h2, h3⟩ := ih (n / 10) (by omega)
      have hd := dig_toNat (k := n % 10) (by omega)
      refine ⟨by rw [valA_snoc, h1, hd]; omega, fun b hb => ?_, by simp⟩
      rcases List.mem_append.1 hb with hb | hb
      · exact h2 b hb
      · simp only [List.mem_singleton] at hb
        subst hb
        unfold isDig; omega
theorem digA_val (n : Nat) : valA (digA n) = n := (digA_spec n).1
theorem digA_dig (n : Nat) : ∀ b ∈ digA n, isDig b := (digA_spec n).2.1
theorem digA_ne (n : Nat) : digA n ≠ [] := (digA_spec n).2.2
theorem digA_len : ∀ (k n : Nat), n < 10 ^ (k + 1) → (digA n).length ≤ k + 1
  | 0, n, h => by rw [digA_lt (by simpa using h)]; simp
  | k + 1, n, h => by
    by_cases h1 : n < 10
    · rw [digA_lt h1]; simp
    · rw [digA_ge h1, List.length_append]
      have := digA_len k (n / 10) (by rw [Nat.pow_succ] at h; omega)
      simp; omega
theorem digA_len19 {n : Nat} (h : n < 10000000000000000000) : (digA n).length ≤ 19 := digA_len 18 n (by simpa using h)
theorem digA_len20 {n : Nat} (h : n < 18446744073709551616) : (digA n).length ≤ 20 := digA_len 19 n (by simp; omega)
/-- A number as text. -/
def decA (n : Int) : List UInt8 := if n < 0 then 45 :: digA n.natAbs else digA n.natAbs
theorem decA_neg {n : Int} (h : n < 0) : decA n = 45 :: digA n.natAbs := if_pos h
theorem decA_pos {n : Int} (h : ¬ n < 0) : decA n = digA n.natAbs := if_neg h
theorem not_minus {n : Nat} : ∀ l : List UInt8, digA n ≠ 45 :: l := fun l h => by
  have := digA_dig n 45 (by rw [h]; simp)
  have h2 := this.1
  exact absurd h2 (by decide)
theorem decA_inj {m n : Int} (h : decA m = decA n) : m = n := by
  by_cases h1 : m < 0 <;> by_cases h2 : n < 0
  · rw [decA_neg h1, decA_neg h2] at h
    have := congrArg valA (List.cons.inj h).2
    rw [digA_val, digA_val] at this; omega
  · rw [decA_neg h1, decA_pos h2] at h
    exact absurd h.symm (not_minus _)
  · rw [decA_pos h1, decA_neg h2] at h
    exact absurd h (not_minus _)
  · rw [decA_pos h1, decA_pos h2] at h
    have := congrArg valA h
    rw [digA_val, digA_val] at this; omega
theorem decA_len {n : Int} (h : I64 n) : (decA n).length ≤ 20 := by
  have h1 := h.1; have h2 := h.2
  by_cases hn : n < 0
  · rw [decA_neg hn, List.length_cons]
    have := digA_len19 (n := n.natAbs) (by omega)
    omega
  · rw [decA_pos hn]
    have := digA_len19 (n := n.natAbs) (by omega)
    omega
theorem decA_ne (n : Int) : decA n ≠ [] := by
  by_cases hn : n < 0
  · rw [decA_neg hn]; simp
  · rw [decA_pos hn]; exact digA_ne _
/-- No letter of a number is below the minus. -/
theorem decA_mem {n : Int} {b : UInt8} (h : b ∈ decA n) : 45 ≤ b.toNat ∧ b.toNat ≤ 57 := by
  by_cases hn : n < 0
  · rw [decA_neg hn] at h
    rcases List.mem_cons.1 h with rfl | h
    · decide
    · have := digA_dig _ _ h; unfold isDig at this; omega
  · rw [decA_pos hn] at h
    have := digA_dig _ _ h; unfold isDig at this; omega
open Classical in
/-- The number of which a text is the decimal form. -/
noncomputable def numA (s : List UInt8) : Option Int := if h : ∃ n, I64 n ∧ decA n = s then some h.choose else none
theorem numA_some {s : List UInt8} {n : Int} : numA s = some n ↔ I64 n ∧ decA n = s := by
  unfold numA
  constructor
  · intro h
    split at h
    · rename_i hx
      have := hx.choose_spec
      rw [Option.some.inj h] at this; exact this
    · cases h
  · rintro ⟨h1, h2⟩
    have hx : ∃ n, I64 n ∧ decA n = s := ⟨n, h1, h2⟩
    rw [dif_pos hx]
    exact congrArg some (decA_inj (hx.choose_spec.2.trans h2.symm))
theorem numA_none {s : List UInt8} : numA s = none ↔ ∀ n, I64 n → decA n ≠ s := by
  constructor
  · intro h n h1 h2
    rw [numA_some.2 ⟨h1, h2⟩] at h; cases h
  · intro h
    cases hn : numA s with
    | none => rfl
    | some n => obtain ⟨h1, h2⟩ := numA_some.1 hn; exact absurd h2 (h n h1)
theorem numA_dec {n : Int} (h : I64 n) : numA (decA n) = some n := numA_some.2 ⟨h, rfl⟩
/-- Without a minus in front. -/
def trimA (s : List UInt8) : List UInt8 := match s with
  | 45 :: r => r
  | s => s
theorem trimA_cons {r : List UInt8} : trimA (45 :: r) = r := rfl
theorem trimA_ne {s : List UInt8} (h : ∀ r, s ≠ 45 :: r) : trimA s = s := by
  unfold trimA
  split
  · exact absurd rfl (h _)
  · rfl
theorem trimA_len (s : List UInt8) : (trimA s).length ≤ s.length := by
  unfold trimA; split <;> simp
theorem trimA_dig (n : Nat) : trimA (digA n) = digA n := trimA_ne fun r h => not_minus r h
/-- What a number's text tells. -/
theorem num_law {s : List UInt8} {m : Int} (h : numA s = some m) : trimA s = digA m.natAbs ∧ (trimA s = s ↔ ¬ m < 0) ∧ (trimA s).length ≤ 19 ∧ trimA s ≠ [] ∧ ∀ b ∈ trimA s, isDig b := by
  obtain ⟨h1, rfl⟩ := numA_some.1 h
  have hl := digA_len19 (n := m.natAbs) (by have := h1.1; have := h1.2; omega)
  by_cases hn : m < 0
  · rw [decA_neg hn, trimA_cons]
    exact ⟨rfl, ⟨fun h => by have := congrArg List.length h; simp at this, fun h => absurd hn h⟩, hl, digA_ne _, digA_dig _⟩
  · rw [decA_pos hn, trimA_dig]
    exact ⟨rfl, ⟨fun _ => hn, fun _ => rfl⟩, hl, digA_ne _, digA_dig _⟩
theorem foldl_lt : ∀ (l : List UInt8) (u k : Nat), u < 10 ^ k → (∀ b ∈ l, isDig b) → l.foldl dval u < 10 ^ (k + l.length)
  | [], _, _, h, _ => h
  | b :: l, u, k, h, hd => by
    have h2 := hd b (by simp)
    unfold isDig at h2
    have := foldl_lt l (dval u b) (k + 1) (by unfold dval; rw [Nat.pow_succ]; omega) fun x hx => hd x (by simp [hx])
    rw [List.foldl_cons, List.length_cons]
    rwa [show k + (l.length + 1) = k + 1 + l.length by omega]
theorem valA_lt (l : List UInt8) (h : ∀ b ∈ l, isDig b) : valA l < 10 ^ l.length := by
  have := foldl_lt l 0 0 (by decide) h
  rwa [Nat.zero_add] at this
/-- What is read, is it the number? -/
theorem num_read {s : List UInt8} {n : Int} (hn : I64 n) (h : ∀ m, numA s = some m → n = m) : numA s = if decA n = s then some n else none := by
  split
  · rename_i hd
    exact numA_some.2 ⟨hn, hd⟩
  · rename_i hd
    cases hm : numA s with
    | none => rfl
    | some m =>
      have := h m hm
      subst this
      exact absurd (numA_some.1 hm).2 hd

/-! ### words -/
/-- What stands between the letters c. -/
def wordsA (c : UInt8) : List UInt8 → List (List UInt8)
  | [] => [[]]
  | b :: r => if b = c then [] :: wordsA c r else match wordsA c r with
    | w :: ws => (b :: w) :: ws
    | [] => [[b]]
theorem wordsA_ne (c : UInt8) : ∀ s, wordsA c s ≠ []
  | [] => by simp [wordsA]
  | b :: r => by
    unfold wordsA
    split
    · simp
    · split <;> simp
theorem wordsA_hit {c : UInt8} {r : List UInt8} : ∀ {w : List UInt8}, c ∉ w → wordsA c (w ++ c :: r) = w :: wordsA c r
  | [], _ => by simp [wordsA]
  | b :: w, h => by
    simp only [List.mem_cons, not_or] at h
    have ih := wordsA_hit (r := r) h.2
    show wordsA c (b :: (w ++ c :: r)) = _
    rw [wordsA, if_neg (fun e => h.1 e.symm), ih]
theorem wordsA_miss {c : UInt8} : ∀ {w : List UInt8}, c ∉ w → wordsA c w = [w]
  | [], _ => rfl
  | b :: w, h => by
    simp only [List.mem_cons, not_or] at h
    rw [wordsA, if_neg (fun e => h.1 e.symm), wordsA_miss h.2]
def joinA (c : UInt8) : List (List UInt8) → List UInt8
  | [] => []
  | [w] => w
  | w :: ws => w ++ c :: joinA c ws
theorem joinA_cons {c : UInt8} {w v : List UInt8} {ws : List (List UInt8)} : joinA c (w :: v :: ws) = w ++ c :: joinA c (v :: ws) := rfl
theorem words_join {c : UInt8} : ∀ {ws : List (List UInt8)}, ws ≠ [] → (∀ w ∈ ws, c ∉ w) → wordsA c (joinA c ws) = ws
  | [], h, _ => absurd rfl h
  | [w], _, h => wordsA_miss (h w (by simp))
  | w :: v :: ws, _, h => by
    rw [joinA_cons, wordsA_hit (h w (by simp)), words_join (by simp) fun x hx => h x (by simp [hx])]
theorem join_words {c : UInt8} : ∀ s, joinA c (wordsA c s) = s
  | [] => rfl
  | b :: r => by
    have ih := join_words (c := c) r
    unfold wordsA
    split
    · rename_i hb
      subst hb
      cases hw : wordsA b r with
      | nil => exact absurd hw (wordsA_ne _ _)
      | cons v ws => rw [hw] at ih; rw [joinA_cons, ih]; rfl
    · cases hw : wordsA c r with
      | nil => exact absurd hw (wordsA_ne _ _)
      | cons v ws =>
        rw [hw] at ih
        simp only
        cases ws with
        | nil => simp only [joinA] at ih ⊢; rw [ih]
        | cons x xs => rw [joinA_cons] at ih ⊢; rw [List.cons_append, ih]
theorem words_nc {c : UInt8} : ∀ s, ∀ w ∈ wordsA c s, c ∉ w
  | [], w, h => by simp [wordsA] at h; subst h; simp
  | b :: r, w, h => by
    unfold wordsA at h
    split at h
    · rcases List.mem_cons.1 h with rfl | h
      · simp
      · exact words_nc r w h
    · rename_i hb
      cases hw : wordsA c r with
      | nil => exact absurd hw (wordsA_ne _ _)
      | cons v ws =>
        rw [hw] at h
        simp only at h
        have hm := words_nc (c := c) r
        rw [hw] at hm
        rcases List.mem_cons.1 h with rfl | h
        · simp only [List.mem_cons, not_or]
          exact ⟨fun e => hb e.symm, hm v (by simp)⟩
        · exact hm w (by simp [h])
theorem words_len {c : UInt8} : ∀ s : List UInt8, (wordsA c s).length = s.count c + 1
  | [] => rfl
  | b :: r => by
    have ih := words_len (c := c) r
    unfold wordsA
    split
    · rename_i hb
      subst hb
      simp [ih]
    · rename_i hb
      have : (b == c) = false := by simpa using hb
      rw [List.count_cons, this]
      cases hw : wordsA c r with
      | nil => exact absurd hw (wordsA_ne _ _)
      | cons v ws => rw [hw] at ih; simpa using ih
theorem words_bound {c : UInt8} {s w : List UInt8} : w ∈ wordsA c s → w.length ≤ s.length := by
  induction s generalizing w with
  | nil => intro h; simp [wordsA] at h; subst h; simp
  | cons b r ih =>
    intro h
    unfold wordsA at h
    split at h
    · rcases List.mem_cons.1 h with rfl | h
      · simp
      · have := ih h; simp; omega
    · cases hw : wordsA c r with
      | nil => exact absurd hw (wordsA_ne _ _)
      | cons v ws =>
        rw [hw] at h ih
        simp only at h
        rcases List.mem_cons.1 h with rfl | h
        · have := ih (w := v) (by simp); simp; omega
        · have := ih (w := w) (by simp [h]); simp; omega
/-- What the library's Split gives. -/
theorem index_byte {c : UInt8} {s : List UInt8} : (Lib.indexByte s c = -1 ∧ c ∉ s) ∨ ∃ w r, s = w ++ c :: r ∧ c ∉ w ∧ Lib.indexByte s c = w.length := by
  induction s with
  | nil => exact .inl ⟨rfl, by simp⟩
  | cons b s ih =>
    unfold Lib.indexByte
    by_cases hb : b = c
    · subst hb
      exact .inr ⟨[], s, rfl, by simp, by simp⟩
    · have : (b == c) = false := by simpa using hb
      rw [this]
      rcases ih with ⟨h1, h2⟩ | ⟨w, r, rfl, h2, h3⟩
      · refine .inl ⟨by rw [h1]; rfl, ?_⟩
        simp only [List.mem_cons, not_or]; exact ⟨fun e => hb e.symm, h2⟩
      · refine .inr ⟨b :: w, r, rfl, by simp only [List.mem_cons, not_or]; exact ⟨fun e => hb e.symm, h2⟩, ?_⟩
        have hne : ¬ (Lib.indexByte (w ++ c :: r) c == -1) = true := by
          intro e
          have := beq_iff_eq.1 e
          omega
        rw [if_neg (by simp), if_neg hne, h3]; simp
theorem splitK_words {c : UInt8} : ∀ (k : Nat) (s : List UInt8), s.count c ≤ k → Lib.splitK [c] 0 k s = wordsA c s
  | 0, s, h => by
    have : c ∉ s := by rw [← List.count_eq_zero]; omega
    rw [Lib.splitK, wordsA_miss this]
  | k + 1, s, h => by
    rw [Lib.splitK, Lib.index_one]
    rcases index_byte (c := c) (s := s) with ⟨h1, h2⟩ | ⟨w, r, rfl, h2, h3⟩
    · rw [h1, wordsA_miss h2]; rfl
    · have hne : ¬ (Lib.indexByte (w ++ c :: r) c == -1) = true := by
        intro e
        have := beq_iff_eq.1 e
        omega
      rw [if_neg hne, h3, wordsA_hit h2]
      have hc : r.count c ≤ k := by
        rw [List.count_append, List.count_cons_self] at h
        omega
      have e1 : (w ++ c :: r).take ((w.length : Int).toNat + 0) = w := by simp
      have e2 : (w ++ c :: r).drop ((w.length : Int).toNat + [c].length) = r := by
        have : (w.length : Int).toNat + [c].length = w.length + 1 := by simp
        rw [this, ← List.drop_drop]; simp
      rw [e1, e2, splitK_words k r hc]
theorem splitB_words {c : UInt8} {s : List UInt8} : (Lib.splitB (bstr [c]) 0 (Lib.countB (bstr s) (bstr [c])) (bstr s)).map (·.data.toList) = wordsA c s := by
  rw [Lib.splitB_data]
  refine splitK_words _ s ?_
  have : Lib.countB (bstr s) (bstr [c]) = Lib.count s [c] := rfl
  rw [this, Lib.count_one]
  exact Nat.le_refl _
theorem countB_len {c : UInt8} {s : List UInt8} : Lib.countB (bstr s) (bstr [c]) + 1 = (wordsA c s).length := by
  have : Lib.countB (bstr s) (bstr [c]) = Lib.count s [c] := rfl
  rw [this, Lib.count_one, words_len]
theorem join_lib {c : UInt8} : ∀ ws : List (List UInt8), Lib.join ws [c] = joinA c ws
  | [] => rfl
  | [w] => by simp [Lib.join, joinA]
  | w :: v :: ws => by
    have ih := join_lib (c := c) (v :: ws)
    rw [joinA_cons, ← ih]
    simp [Lib.join, List.intercalate_cons_cons]
theorem trim_lib {s : List UInt8} : Lib.trimPrefix s [45] = trimA s := by
  unfold Lib.trimPrefix Lib.hasPrefix
  cases s with
  | nil => rfl
  | cons b r =>
    by_cases hb : b = 45
    · subst hb; simp [trimA]
    · have h1 : ((45 : UInt8) == b) = false := by simpa using fun e : 45 = b => hb e.symm
      rw [trimA_ne fun x hx => hb (List.cons.inj hx).1]
      simp [List.isPrefixOf, h1]
theorem foldl_mono : ∀ (l : List UInt8) (u : Nat), u ≤ l.foldl dval u
  | [], _ => Nat.le_refl _
  | b :: l, u => Nat.le_trans (by unfold dval; omega) (foldl_mono l (dval u b))
theorem valA_app (l r : List UInt8) : valA l ≤ valA (l ++ r) := by
  unfold valA
  rw [List.foldl_append]
  exact foldl_mono r _
theorem valA_take (l : List UInt8) (k : Nat) : valA (l.take k) ≤ valA l := by
  have := valA_app (l.take k) (l.drop k)
  rwa [List.take_append_drop] at this
/-- A letter more. -/
theorem valA_next {l : List UInt8} {k : Nat} (h : k < l.length) : valA (l.take (k + 1)) = 10 * valA (l.take k) + ((bix l (k : Int)).toNat - 48) := by
  rw [bix_nat h, List.take_succ_eq_append_getElem h, valA_snoc]
theorem dig_next {l : List UInt8} {k : Nat} (h : k < l.length) (hd : ∀ b ∈ l.take k, isDig b) (hb : isDig (bix l (k : Int))) : ∀ b ∈ l.take (k + 1), isDig b := by
  rw [bix_nat h] at hb
  rw [List.take_succ_eq_append_getElem h]
  intro b hm
  rcases List.mem_append.1 hm with hm | hm
  · exact hd b hm
  · simp only [List.mem_singleton] at hm
    subst hm; exact hb
theorem bix_mem {l : List UInt8} {k : Nat} (h : k < l.length) : bix l (k : Int) ∈ l := by rw [bix_nat h]; exact List.getElem_mem h
theorem i64_I64 (n : Int) : I64 (IntKind.i64.wrap n) := by
  have hb : (2 ^ IntKind.i64.bits : Int) = 18446744073709551616 := by decide
  have hc : (2 ^ (IntKind.i64.bits - 1) : Int) = 9223372036854775808 := by decide
  unfold I64 IntKind.wrap
  rw [hb, hc]
  simp only [show IntKind.i64.signed = true from rfl, Bool.true_and, decide_eq_true_eq]
  split <;> omega
/-- What the reader makes of the digits. -/
def numN (s : List UInt8) : Int := if trimA s = s then IntKind.i64.wrap (valA (trimA s) : Nat) else IntKind.i64.wrap (0 - IntKind.i64.wrap (valA (trimA s) : Nat))
theorem i64_id {n : Int} (h0 : -9223372036854775808 ≤ n) (h1 : n ≤ 9223372036854775807) : IntKind.i64.wrap n = n := by apply Go.IntWalk.i64_in <;> omega
theorem numN_spec {s : List UInt8} : I64 (numN s) ∧ ∀ m, numA s = some m → numN s = m := by
  constructor
  · unfold numN; split <;> exact i64_I64 _
  · intro m hm
    obtain ⟨h1, h2, _⟩ := num_law hm
    have h3 := (numA_some.1 hm).1
    have h4 := h3.1; have h5 := h3.2
    unfold numN
    rw [h1, digA_val]
    by_cases hn : m < 0
    · have hne : ¬ trimA s = s := fun e => absurd hn (h2.1 e)
      rw [h1] at hne
      rw [if_neg hne]
      by_cases he : m = -9223372036854775808
      · subst he; rfl
      · rw [i64_id (n := (m.natAbs : Int)) (by omega) (by omega), i64_id (by omega) (by omega)]; omega
    · have he := h2.2 hn
      rw [h1] at he
      rw [if_pos he, i64_id (by omega) (by omega)]; omega
theorem numN_isSome {s : List UInt8} : (numA s).isSome = decide (decA (numN s) = s) := by
  rw [num_read numN_spec.1 numN_spec.2]
  split <;> simp [*]
theorem num_bad {s : List UInt8} (h : trimA s = [] ∨ 19 < (trimA s).length ∨ 20 < s.length ∨ (∃ b ∈ trimA s, ¬ isDig b) ∨ 9223372036854775808 < valA (trimA s) ∨ (trimA s = s ∧ 9223372036854775808 ≤ valA (trimA s))) : numA s = none := by
  cases hm : numA s with
  | none => rfl
  | some m =>
    exfalso
    obtain ⟨h1, h2, h3, h4, h5⟩ := num_law hm
    obtain ⟨h6, h7⟩ := numA_some.1 hm
    have h8 := decA_len h6
    have h9 : valA (trimA s) = m.natAbs := by rw [h1, digA_val]
    have ha := h6.1; have hb := h6.2
    rcases h with h | h | h | ⟨b, hb1, hb2⟩ | h | ⟨h, h'⟩
    · exact h4 h
    · omega
    · rw [h7] at h8; omega
    · exact hb2 (h5 b hb1)
    · omega
    · have := h2.1 h
      omega
theorem num_isSome {s : List UInt8} {n : Int} (hn : I64 n) (h : ∀ m, numA s = some m → n = m) : (numA s).isSome = decide (decA n = s) := by
  rw [num_read hn h]
  split
  · rename_i hd; rw [decide_eq_true hd]; rfl
  · rename_i hd; rw [decide_eq_false hd]; rfl
theorem joinA_snoc {c : UInt8} {w : List UInt8} : ∀ {ws : List (List UInt8)}, ws ≠ [] → joinA c (ws ++ [w]) = joinA c ws ++ c :: w
  | [], h => absurd rfl h
  | [v], _ => rfl
  | v :: x :: ws, _ => by
    have ih := joinA_snoc (c := c) (w := w) (ws := x :: ws) (by simp)
    show v ++ c :: joinA c ((x :: ws) ++ [w]) = _
    rw [ih, joinA_cons]; simp
/-- The words that are found so far. -/
theorem words_step {c : UInt8} {s : List UInt8} {at' k : Nat} (h1 : at' ≤ k) (h2 : k < s.length) (hn : ∀ j : Nat, at' ≤ j → j < k → bix s (j : Int) ≠ c) (hb : bix s (k : Int) = c) : wordsA c (s.drop at') = ((s.take k).drop at') :: wordsA c (s.drop (k + 1)) := by
  have e : s.drop at' = (s.take k).drop at' ++ c :: s.drop (k + 1) := by
    have h3 : s.drop k = c :: s.drop (k + 1) := by
      rw [List.drop_eq_getElem_cons h2, ← bix_nat h2, hb]
    have h4 : s.drop at' = (s.drop at').take (k - at') ++ (s.drop at').drop (k - at') := (List.take_append_drop _ _).symm
    rw [List.drop_drop, show at' + (k - at') = k by omega, h3] at h4
    rw [h4, List.drop_take]
  rw [e, wordsA_hit]
  intro hm
  obtain ⟨j, hj, he⟩ := List.getElem_of_mem hm
  rw [List.getElem_drop, List.getElem_take] at he
  have hjl : at' + j < k := by simp at hj; omega
  have := hn (at' + j) (by omega) hjl
  rw [bix_nat (by omega)] at this
  exact this he
theorem words_last {c : UInt8} {s : List UInt8} {at' : Nat} (h1 : at' ≤ s.length) (hn : ∀ j : Nat, at' ≤ j → j < s.length → bix s (j : Int) ≠ c) : wordsA c (s.drop at') = [(s.take s.length).drop at'] := by
  rw [List.take_length, wordsA_miss]
  intro hm
  obtain ⟨j, hj, he⟩ := List.getElem_of_mem hm
  rw [List.getElem_drop] at he
  have hjl : at' + j < s.length := by simp at hj; omega
  have := hn (at' + j) (by omega) hjl
  rw [bix_nat hjl] at this
  exact this he
theorem joinA_bound {c : UInt8} {n : Nat} : ∀ {ws : List (List UInt8)}, (∀ w ∈ ws, w.length ≤ n) → (joinA c ws).length ≤ (n + 1) * ws.length
  | [], _ => by simp [joinA]
  | [w], h => by
    have := h w (by simp)
    simp only [joinA, List.length_singleton]; omega
  | w :: v :: ws, h => by
    have ih := joinA_bound (c := c) (n := n) (ws := v :: ws) fun x hx => h x (by simp [hx])
    have := h w (by simp)
    rw [joinA_cons, List.length_append, List.length_cons, List.length_cons, Nat.mul_succ]
    omega
end Go.Wk
