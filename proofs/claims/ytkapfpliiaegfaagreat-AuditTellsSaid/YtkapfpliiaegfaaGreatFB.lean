import Derived.Test.YtkapfpliiaegfaaGreatZ09
namespace Go.Proofs.YtkapfpliiaegfaaGreat
open Go Go.Wk Tryz
set_option maxHeartbeats 3200000
set_option maxRecDepth 100000
def vL : List Int → Int
 | [] => 0
 | d :: ds => d + 65536 * vL ds
def dOK (l : List Int) : Prop := ∀ d ∈ l, 0 ≤ d ∧ d < 65536
theorem xEF {d : Int} : ∀ {l : List Int}, vL (l ++ [d]) = vL l + 65536 ^ l.length * d
 | [] => by simp [vL]
 | x :: xs => by
  rw [List.cons_append, vL, vL, xEF, List.length_cons, Int.pow_succ, Int.mul_add, Int.mul_comm (65536 ^ xs.length) 65536, Int.mul_assoc, Int.add_assoc]
theorem xJq {d : Int} : ∀ {l : List Int} {k : Nat}, k < l.length → vL (l.set k d) = vL l + (d - ix l (k : Int)) * 65536 ^ k
 | x :: xs, 0, _ => by
  have : ix (x :: xs) ((0 : Nat) : Int) = x := rfl
  rw [this, List.set_cons_zero, vL, vL, Int.pow_zero]
  omega
 | x :: xs, k + 1, h => by
  have e : ix (x :: xs) ((k + 1 : Nat) : Int) = ix xs (k : Int) := by simp [ix]
  rw [e, List.set_cons_succ, vL, vL, xJq (by simpa using h), Int.pow_succ, Int.mul_add, Int.mul_comm (65536 ^ k), ← Int.mul_assoc, Int.mul_comm 65536 (d - _), Int.mul_assoc, ← Int.add_assoc]
theorem xHZ {l : List Int} {k : Nat} : vL (l.take (k + 1)) = vL (l.take k) + 65536 ^ k * ix l (k : Int) := by
 by_cases h : k < l.length
 ·rw [Yz h, xEF, List.length_take, Nat.min_eq_left (Nat.le_of_lt h)]
 ·have e : ix l (k : Int) = 0 := by
   unfold ix
   rw [Int.toNat_natCast, List.getD_eq_getElem?_getD, List.getElem?_eq_none S.o]; rfl
  rw [List.take_of_length_le S.o, List.take_of_length_le S.o, e]; omega
theorem xKx : ∀ {l : List Int}, dOK l → 0 ≤ vL l
 | [], _ => Int.le_refl 0
 | x :: xs, h => by
  have h1 := h x (List.mem_cons_self ..)
  have h2 := xKx (l := xs) fun d hd => h d (List.mem_cons_of_mem _ hd)
  rw [vL]; omega
theorem xKv : ∀ {l : List Int}, dOK l → vL l < 65536 ^ l.length
 | [], _ => by decide
 | x :: xs, h => by
  have h1 := h x (List.mem_cons_self ..)
  have h2 := xKv (l := xs) fun d hd => h d (List.mem_cons_of_mem _ hd)
  rw [vL, List.length_cons, Int.pow_succ]; omega
theorem xFP {l : List Int} (h : dOK l) (k : Nat) : 0 ≤ ix l (k : Int) ∧ ix l (k : Int) < 65536 := by
 by_cases hk : k < l.length
 ·exact h _ (List.mem_of_getElem? (Yi S.o S.o))
 ·have e : ix l (k : Int) = 0 := by
   unfold ix
   rw [Int.toNat_natCast, List.getD_eq_getElem?_getD, List.getElem?_eq_none S.o]; rfl
  omega
theorem xKa {l : List Int} {k : Nat} {d : Int} (h : dOK l) (h0 : 0 ≤ d) (h1 : d < 65536) : dOK (l.set k d) := fun x hx => by
 rcases List.mem_or_eq_of_mem_set hx with h2 | rfl
 ·exact h _ h2
 ·exact ⟨h0, h1⟩
theorem xqO {l : List Int} {k m : Nat} {d : Int} (hk : k < l.length) : ix (l.set k d) (m : Int) = if m = k then d else ix l (m : Int) := by
 unfold ix
 rw [Int.toNat_natCast, List.getD_eq_getElem?_getD, List.getD_eq_getElem?_getD, List.getElem?_set]
 by_cases h : k = m
 ·subst h; rw [if_pos rfl, if_pos hk, if_pos rfl]; rfl
 ·rw [if_neg h, if_neg (fun e => h e.symm)]
def xIr (l : List Int) (k : Nat) : Int := (ix l ((k / 16 : Nat) : Int) / 2 ^ (k % 16)) % 2
theorem xG5 {l : List Int} (h : dOK l) : ∀ q : Nat, vL l / 65536 ^ q = vL (l.drop q)
 | 0 => by rw [Int.pow_zero, Int.ediv_one, List.drop_zero]
 | q + 1 => by
  rw [Int.pow_succ, ← Int.ediv_ediv_of_nonneg (Int.le_of_lt (Int.pow_pos (by decide))), xG5 h q]
  cases hd : l.drop q with
  | nil =>
   have : l.drop (q + 1) = [] := by
    have := congrArg List.length hd
    rw [List.length_drop, List.length_nil] at this
    exact List.drop_of_length_le S.o
   rw [this]; rfl
  | cons x xs =>
   have e : l.drop (q + 1) = xs := by rw [← List.drop_drop, hd]; rfl
   have hx := h x (List.mem_of_mem_drop (by rw [hd]; exact List.mem_cons_self ..))
   rw [e, vL]; omega
theorem xJ0 {l : List Int} (h : dOK l) : ix l ((0 : Nat) : Int) = vL l % 65536 := by
 cases l with
 | nil => rfl
 | cons x xs =>
  have hx := h x (List.mem_cons_self ..)
  show x = _
  rw [vL]; omega
theorem xJ2 {l : List Int} (h : dOK l) (k : Nat) : xIr l k = (vL l / 2 ^ k) % 2 := by
 have hd : dOK (l.drop (k / 16)) := fun d hd => h d (List.mem_of_mem_drop hd)
 have e0 : ix l ((k / 16 : Nat) : Int) = ix (l.drop (k / 16)) ((0 : Nat) : Int) := by
  unfold ix
  rw [Int.toNat_natCast, Int.toNat_natCast, List.getD_eq_getElem?_getD, List.getD_eq_getElem?_getD, List.getElem?_drop, Nat.add_zero]
 have e1 : (2 : Int) ^ k = 65536 ^ (k / 16) * 2 ^ (k % 16) := by
  rw [show (65536 : Int) = 2 ^ 16 by decide, ← Int.pow_mul, ← Int.pow_add, Nat.div_add_mod]
 unfold xIr
 rw [e0, xJ0 hd, ← xG5 h, e1, ← Int.ediv_ediv_of_nonneg (Int.le_of_lt (Int.pow_pos (by decide)))]
 generalize vL l / 65536 ^ (k / 16) = z
 have hr : k % 16 < 16 := Nat.mod_lt _ (by decide)
 generalize k % 16 = r at hr
 have hr2 : r = 0 ∨ r = 1 ∨ r = 2 ∨ r = 3 ∨ r = 4 ∨ r = 5 ∨ r = 6 ∨ r = 7 ∨ r = 8 ∨ r = 9 ∨ r = 10 ∨ r = 11 ∨ r = 12 ∨ r = 13 ∨ r = 14 ∨ r = 15 := by omega
 rcases hr2 with h | h | h | h | h | h | h | h | h | h | h | h | h | h | h | h <;> subst h <;> simp only [Int.reducePow] <;> omega
theorem xLE {x c : Int} (_hx : 0 ≤ x) (hc : 1 ≤ c) : (x + (c - 1)) / c = x / c + (if 0 < x % c then 1 else 0) := by
 have h1 := Int.emod_nonneg x (show c ≠ 0 by omega)
 have h2 := Int.emod_lt_of_pos x (show 0 < c by omega)
 have h3 := Int.mul_ediv_add_emod x c
 by_cases h : 0 < x % c
 ·rw [if_pos h]
  have e : x + (c - 1) = (x % c - 1) + c * (x / c + 1) := by rw [Int.mul_add, Int.mul_one]; omega
  rw [e, Int.add_mul_ediv_left _ _ S.o, Int.ediv_eq_zero_of_lt S.o S.o]
  omega
 ·rw [if_neg h]
  have e : x + (c - 1) = (c - 1) + c * (x / c) := by omega
  rw [e, Int.add_mul_ediv_left _ _ S.o, Int.ediv_eq_zero_of_lt S.o S.o]
  omega
structure xFe (n : Int) (k : Nat) (m : Int) (ds : List Int) : Prop where
 l : ds.length = k
 d : dOK ds
 m0 : 0 ≤ m
 m9 : m ≤ 9223372036854775807
 e : vL ds + 65536 ^ k * m = n
theorem xJu {l : List Int} {d : Int} (h : dOK l) (h0 : 0 ≤ d) (h1 : d < 65536) : dOK (l ++ [d]) := fun x hx => by
 rcases List.mem_append.1 hx with h2 | h2
 ·exact h _ h2
 ·rw [List.mem_singleton.1 h2]; exact ⟨h0, h1⟩
theorem xFe.step {n : Int} {k : Nat} {m : Int} {ds : List Int} (h : xFe n k m ds) : xFe n (k + 1) (m / 65536) (ds ++ [m % 65536]) := by
 obtain ⟨h1, h2, h3, h4, h5⟩ := h
 refine ⟨by rw [List.length_append, h1]; rfl, xJu h2 S.o S.o, by omega, by omega, ?_⟩
 rw [xEF, h1, ← h5, Int.pow_succ, Int.mul_assoc, Int.add_assoc, ← Int.mul_add]
 congr 2
 omega
theorem xFe.init {n : Int} (h0 : 0 ≤ n) (h9 : n ≤ 9223372036854775807) : xFe n 0 n [] := ⟨rfl, (fun _ h => by cases h), h0, h9, by
 have : vL [] = 0 := rfl
 rw [this, Int.pow_zero]; omega⟩
theorem xFe.fin {n m : Int} {ds : List Int} (h : xFe n 4 m ds) (h9 : n ≤ 9223372036854775807) : vL ds = n := by
 obtain ⟨h1, h2, h3, h4, h5⟩ := h
 have := xKx h2
 simp only [Int.reducePow] at h5
 omega
structure prI (xs ys : List Int) (i k : Nat) (c : Int) (os : List Int) : Prop where
 l : os.length = 9
 d : dOK os
 c0 : 0 ≤ c
 c9 : c ≤ 65535
 e : vL os + c * 65536 ^ (i + k) = vL (xs.take i) * vL ys + ix xs (i : Int) * 65536 ^ i * vL (ys.take k)
 z : ∀ m : Nat, i + 4 ≤ m → i + k ≤ m → ix os (m : Int) = 0
 f : k = 5 → c = 0
theorem prI.step {xs ys os : List Int} {i k : Nat} {c : Int} (hx : dOK xs) (hy : dOK ys) (hy4 : ys.length = 4) (hi : i < 4) (hk : k < 5) (h : prI xs ys i k c os) :
  prI xs ys i (k + 1) ((ix os ((i + k : Nat) : Int) + ix xs (i : Int) * ix ys (k : Int) + c) / 65536) (os.set (i + k) ((ix os ((i + k : Nat) : Int) + ix xs (i : Int) * ix ys (k : Int) + c) % 65536))
  ∧ 0 ≤ ix xs (i : Int) * ix ys (k : Int) ∧ ix xs (i : Int) * ix ys (k : Int) ≤ 4294836225 ∧ 0 ≤ ix os ((i + k : Nat) : Int) ∧ ix os ((i + k : Nat) : Int) < 65536 := by
 obtain ⟨h1, h2, h3, h4, h5, h6, _⟩ := h
 have a1 := xFP hx i
 have a2 := xFP hy k
 have a3 := xFP h2 (i + k)
 have p0 : 0 ≤ ix xs (i : Int) * ix ys (k : Int) := Int.mul_nonneg a1.1 a2.1
 have p9 : ix xs (i : Int) * ix ys (k : Int) ≤ 65535 * 65535 := Int.mul_le_mul S.o S.o a2.1 (by decide)
 have hz : k = 4 → ix ys (k : Int) = 0 ∧ ix os ((i + k : Nat) : Int) = 0 := fun e => by
  subst e
  refine ⟨?_, h6 _ (Nat.le_refl _) (Nat.le_refl _)⟩
  unfold ix
  rw [Int.toNat_natCast, List.getD_eq_getElem?_getD, List.getElem?_eq_none S.o]; rfl
 refine ⟨⟨by rw [List.length_set, h1], xKa h2 S.o S.o, by omega, by omega, ?_, fun m hm1 hm2 => ?_, fun e => ?_⟩, p0, by omega, a3.1, a3.2⟩
 ·rw [xJq S.o, xHZ, ← Nat.add_assoc, Int.pow_succ]
  have e1 : ix xs (i : Int) * 65536 ^ i * (vL (ys.take k) + 65536 ^ k * ix ys (k : Int)) = ix xs (i : Int) * 65536 ^ i * vL (ys.take k) + (ix xs (i : Int) * ix ys (k : Int)) * 65536 ^ (i + k) := by
   rw [Int.mul_add, Int.pow_add]
   congr 1
   rw [Int.mul_assoc, Int.mul_assoc, Int.mul_comm (65536 ^ k) (ix ys _), Int.mul_left_comm (65536 ^ i)]
  rw [e1, ← Int.add_assoc, ← h5]
  generalize ix xs (i : Int) * ix ys (k : Int) = p at *
  generalize ix os ((i + k : Nat) : Int) = o at *
  generalize (65536 : Int) ^ (i + k) = B
  generalize vL os = V
  have e2 : (o + p + c) / 65536 * (B * 65536) = ((o + p + c) / 65536 * 65536) * B := by rw [Int.mul_comm B, Int.mul_assoc]
  rw [e2, Int.add_assoc, ← Int.add_mul, Int.add_assoc V, ← Int.add_mul]
  congr 2
  omega
 ·rw [xqO S.o, if_neg S.o]
  exact h6 m hm1 S.o
 ·obtain ⟨z1, z2⟩ := hz S.o
  rw [z1, z2, Int.mul_zero]; omega
theorem prI.next {xs ys os : List Int} {i : Nat} {c : Int} (hy4 : ys.length = 4) (h : prI xs ys i 5 c os) : prI xs ys (i + 1) 0 0 os := by
 obtain ⟨h1, h2, h3, h4, h5, h6, h7⟩ := h
 refine ⟨h1, h2, Int.le_refl 0, by decide, ?_, fun m hm1 hm2 => h6 m S.o S.o, fun e => by omega⟩
 rw [h7 rfl, Int.zero_mul, List.take_of_length_le (show ys.length ≤ 5 by omega)] at h5
 rw [Int.zero_mul, List.take_zero, xHZ, Int.add_mul]
 show _ = _ + _ * 0
 rw [Int.mul_zero, Int.mul_comm (65536 ^ i)]
 omega
theorem prI.init {xs ys : List Int} : prI xs ys 0 0 0 (List.replicate 9 0) := by
 refine ⟨rfl, fun d hd => ?_, Int.le_refl 0, by decide, ?_, fun m _ _ => ?_, fun e => by omega⟩
 ·rw [List.eq_of_mem_replicate hd]; decide
 ·rw [List.take_zero, List.take_zero]
  show _ = 0 * vL ys + _ * 0
  rw [Int.zero_mul, Int.mul_zero, Int.zero_mul]; decide
 ·have : ∀ d ∈ List.replicate 9 (0 : Int), d = 0 := fun d hd => List.eq_of_mem_replicate hd
  by_cases hm : m < 9
  ·exact this _ (List.mem_of_getElem? (Yi S.o (by rw [List.length_replicate]; omega)))
  ·unfold ix
   rw [Int.toNat_natCast, List.getD_eq_getElem?_getD, List.getElem?_eq_none (by rw [List.length_replicate]; omega)]; rfl
theorem prI.fin {xs ys os : List Int} {c : Int} (hx4 : xs.length = 4) (h : prI xs ys 4 0 c os) : vL os + c * 65536 ^ 4 = vL xs * vL ys := by
 have := h.e
 rw [List.take_zero, List.take_of_length_le (show xs.length ≤ 4 by omega)] at this
 rw [this]
 show _ + _ * 0 = _
 rw [Int.mul_zero, Int.add_zero]
structure ldI (N c : Int) (j : Nat) (left q : Int) (o : Bool) : Prop where
 l : left = (N / 2 ^ j) % c
 q0 : 0 ≤ q
 q9 : q ≤ 9223372036854775807
 f : o = false → q = (N / 2 ^ j) / c
 t : o = true → 9223372036854775807 < (N / 2 ^ j) / c
theorem xKB {N c : Int} (_hc : 1 ≤ c) {j : Nat} : N / 2 ^ j = 2 * (N / 2 ^ (j + 1)) + (N / 2 ^ j) % 2 := by
 have : N / 2 ^ (j + 1) = N / 2 ^ j / 2 := by rw [Int.pow_succ, ← Int.ediv_ediv_of_nonneg (Int.le_of_lt (Int.pow_pos (by decide)))]
 rw [this]; omega
theorem ldI.init {N c : Int} (h0 : 0 ≤ N) (h9 : N < 2 ^ 144) : ldI N c 144 0 0 false := by
 have e : N / 2 ^ 144 = 0 := Int.ediv_eq_zero_of_lt h0 h9
 refine ⟨by rw [e, Int.zero_emod], Int.le_refl 0, by decide, fun _ => by rw [e, Int.zero_ediv], fun h => by cases h⟩
theorem xKS {M c b : Int} (hc : 1 ≤ c) (h0 : 0 ≤ b) (h1 : b ≤ 1) : (c ≤ 2 * (M % c) + b → (2 * M + b) % c = 2 * (M % c) + b - c ∧ (2 * M + b) / c = 2 * (M / c) + 1) ∧ (2 * (M % c) + b < c → (2 * M + b) % c = 2 * (M % c) + b ∧ (2 * M + b) / c = 2 * (M / c)) := by
 have e1 := Int.mul_ediv_add_emod M c
 have e2 := Int.emod_nonneg M (show c ≠ 0 by omega)
 have e3 := Int.emod_lt_of_pos M (show 0 < c by omega)
 refine ⟨fun h => ?_, fun h => ?_⟩
 ·have e : 2 * M + b = (2 * (M % c) + b - c) + c * (2 * (M / c) + 1) := by rw [Int.mul_add, Int.mul_left_comm, Int.mul_one]; omega
  rw [e, Int.add_mul_emod_self_left, Int.add_mul_ediv_left _ _ S.o, Int.emod_eq_of_lt S.o S.o, Int.ediv_eq_zero_of_lt S.o S.o]
  exact ⟨rfl, by omega⟩
 ·have e : 2 * M + b = (2 * (M % c) + b) + c * (2 * (M / c)) := by rw [Int.mul_left_comm]; omega
  rw [e, Int.add_mul_emod_self_left, Int.add_mul_ediv_left _ _ S.o, Int.emod_eq_of_lt S.o S.o, Int.ediv_eq_zero_of_lt S.o S.o]
  exact ⟨rfl, by omega⟩
theorem ldI.step {N c left q : Int} {j : Nat} {o : Bool} (hc : 1 ≤ c) (h : ldI N c (j + 1) left q o) {b : Int} (hb : b = (N / 2 ^ j) % 2) :
  (c ≤ 2 * left + b → (4611686018427387903 < q → ldI N c j (2 * left + b - c) q true) ∧ (q ≤ 4611686018427387903 → ldI N c j (2 * left + b - c) (if o then q else 2 * q + 1) o))
  ∧ (2 * left + b < c → (4611686018427387903 < q → ldI N c j (2 * left + b) q true) ∧ (q ≤ 4611686018427387903 → ldI N c j (2 * left + b) (if o then q else 2 * q + 0) o)) := by
 obtain ⟨h1, h2, h3, h4, h5⟩ := h
 have hd := xKB (N := N) hc (j := j)
 rw [← hb] at hd
 have hm := xKS (M := N / 2 ^ (j + 1)) (b := b) hc S.o S.o
 rw [← hd, ← h1] at hm
 refine ⟨fun hg => ?_, fun hg => ?_⟩
 ·obtain ⟨m1, m2⟩ := hm.1 hg
  refine ⟨fun hq => ⟨m1.symm, h2, h3, (fun e => by cases e), fun _ => ?_⟩, fun hq => ?_⟩
  ·cases o with
   | true => have := h5 rfl; omega
   | false => have := h4 rfl; omega
  ·cases o with
   | true => exact ⟨m1.symm, h2, h3, (fun e => by cases e), fun _ => by have := h5 rfl; omega⟩
   | false => exact ⟨m1.symm, (by show 0 ≤ 2 * q + 1; omega), (by show 2 * q + 1 ≤ _; omega), fun _ => (by have := h4 rfl; show 2 * q + 1 = _; omega), fun e => by cases e⟩
 ·obtain ⟨m1, m2⟩ := hm.2 hg
  refine ⟨fun hq => ⟨m1.symm, h2, h3, (fun e => by cases e), fun _ => ?_⟩, fun hq => ?_⟩
  ·cases o with
   | true => have := h5 rfl; omega
   | false => have := h4 rfl; omega
  ·cases o with
   | true => exact ⟨m1.symm, h2, h3, (fun e => by cases e), fun _ => by have := h5 rfl; omega⟩
   | false => exact ⟨m1.symm, (by show 0 ≤ 2 * q + 0; omega), (by show 2 * q + 0 ≤ _; omega), fun _ => (by have := h4 rfl; show 2 * q + 0 = _; omega), fun e => by cases e⟩
section
attribute [local irreducible] BrK Xq Xt Xv XI FnK XZ Xw XC XV opX opK Yq Yk eqR Yj Yo Ys WL WD W X3 XO Tr drewK Ya X4 Yw Yv X1 YB mp blk rob sl sep ex fact old
section
attribute [local irreducible] vL xIr
section
variable {n a b c : Int} {k : Nat} {s : SV} {ro : Bool} {ds : List Int}
theorem xHC (h0 : 0 ≤ n) (h9 : n ≤ 9223372036854775807) : Xb prog 200 #[.int .i64 n] []
  fun v l' => ∃ (s : SV) (ds : List Int), ds.length = 4 ∧ dOK ds ∧ vL ds = n ∧ v = s.v ∧ l' = [sl false s.v ds] := by
 intro F K hK
 simp only [List.nil_append]
 refine S.I fun u => ?_
 repeat' (first | refine S.x ?_ | refine S.y ?_ ?_ | (refine G.prop ?_; assumption) | intro hb | ((fail_if_success refine G.tr ?_); exact G.prop S.p) | fail)
 refine Tr.nilSl (α := Int) ?_
 refine Tr.loopE (α := Nat × Int × SV × List Int) [0, 3, 4] [2] (fun x => [.int .i64 x.2.1, x.2.2.1.v, .int .i64 x.1]) (fun x => [sl false x.2.2.1.v x.2.2.2]) (fun x => x.1 ≤ 4 ∧ xFe n x.1 x.2.1 x.2.2.2) (fun x => 4 - x.1) (0, n, ⟨none, 0, 0⟩, []) S.T rfl ⟨Nat.zero_le _, xFe.init h0 h9⟩ fun x u hx => ?_
 obtain ⟨k, m, s2, ds⟩ := x
 obtain ⟨hk, hI⟩ := hx
 simp only at hk hI ⊢
 simp only [ap]
 have hl := hI.l
 by_cases hin : k < 4
 ·have hw := Xo (k := k) S.o
  have hst := hI.step
  have m0 := hI.m0
  have m9 := hI.m9
  have ht1 : m.tmod 65536 = m % 65536 := Int.tmod_eq_emod_of_nonneg m0
  have ht2 : m.tdiv 65536 = m / 65536 := Int.tdiv_eq_ediv_of_nonneg m0
  have ht3 : IntKind.i64.wrap (m % 65536) = m % 65536 := Ye S.o S.o
  have ht4 : IntKind.i64.wrap (m / 65536) = m / 65536 := Ye S.o S.o
  have hX := I5 hw ht1 ht2 ht3 ht4; repeat' (first | intro (sv : SV) | refine S.x ?_ | refine S.y ?_ ?_ | (refine G.prop ?_; assumption) | intro hb | ((fail_if_success refine G.tr ?_); exact G.prop S.p) | fail)
  all_goals exact S.R ((k + 1, m / 65536, sv, ds ++ [m % 65536]) : Nat × Int × SV × List Int)
 ·have hke : k = 4 := by omega
  subst hke
  have hfin := hI.fin h9
  have hd := hI.d
  repeat' (first | refine S.x ?_ | refine S.y ?_ ?_ | (refine G.prop ?_; assumption) | intro hb | ((fail_if_success refine G.tr ?_); exact G.prop S.p) | fail)
  all_goals exact Tr.fin hK ⟨s2, ds, hl, hd, hfin, rfl, rfl⟩ S.E
theorem xJ8 (hl : ds.length = 9) (hk : k < 144) (hd : dOK ds) : Xb prog 148 #[s.v, .int .i64 (k : Int)] [sl ro s.v ds]
  fun v l' => v = .int .i64 (xIr ds k) ∧ l' = [sl ro s.v ds] := by
 intro F K hK
 simp only [ap]
 have ht2 : (k : Int).tdiv 16 = ((k / 16 : Nat) : Int) := by rw [Int.tdiv_eq_ediv_of_nonneg S.o]; rfl
 have ht4 : IntKind.i64.wrap ((k / 16 : Nat) : Int) = ((k / 16 : Nat) : Int) := Ye S.o S.o
 have hm2 : (k : Int).tmod 16 = ((k % 16 : Nat) : Int) := by rw [Int.tmod_eq_emod_of_nonneg S.o]; rfl
 have hm4 : IntKind.i64.wrap ((k % 16 : Nat) : Int) = ((k % 16 : Nat) : Int) := Ye S.o S.o
 have hdi := xFP hd (k / 16)
 unfold xIr at hK
 obtain ⟨q, hq⟩ : ∃ q, q = k / 16 := ⟨_, rfl⟩
 obtain ⟨r, hr⟩ : ∃ r, r = k % 16 := ⟨_, rfl⟩
 rw [← hq] at ht2 ht4 hdi hK
 rw [← hr] at hm2 hm4 hK
 have hq9 : q < 9 := by omega
 have hr9 : r < 16 := by omega
 clear hq hr
 refine S.I fun u => ?_
 have hX := And.intro ht2 ht4; repeat' (first | refine S.x ?_ | refine S.y ?_ ?_ | (refine G.prop ?_; assumption) | intro hb | ((fail_if_success refine G.tr ?_); exact G.prop S.p) | fail)
 refine Tr.loopE (α := Nat) [5, 6] [1, 4] (fun j => [.int .i64 (ix ds (q : Int) / 2 ^ j), .int .i64 j]) (fun _ => [sl ro s.v ds]) (fun j => j ≤ r) (fun j => r - j) 0 S.T (by simp only [Int.pow_zero, Int.ediv_one]; rfl) (Nat.zero_le _) fun j u hj => ?_
 simp only [ap]
 have hz0 : 0 ≤ ix ds (q : Int) / 2 ^ j := Int.ediv_nonneg hdi.1 (Int.le_of_lt (Int.pow_pos (by decide)))
 have hz9 : ix ds (q : Int) / 2 ^ j ≤ ix ds (q : Int) := Int.ediv_le_self _ hdi.1
 by_cases hin : j < r
 ·have hw := Xo (k := j) S.o
  have e : ix ds (q : Int) / 2 ^ (j + 1) = ix ds (q : Int) / 2 ^ j / 2 := by rw [Int.pow_succ, ← Int.ediv_ediv_of_nonneg (Int.le_of_lt (Int.pow_pos (by decide)))]
  generalize ix ds (q : Int) / 2 ^ j = z at *
  have hy1 : z.tdiv 2 = z / 2 := Int.tdiv_eq_ediv_of_nonneg hz0
  have hy2 : IntKind.i64.wrap (z / 2) = z / 2 := Ye S.o S.o
  rw [← e] at hy1 hy2
  have hX := I5 hw hy1 hy2 hm2 hm4; repeat' (first | refine S.x ?_ | refine S.y ?_ ?_ | (refine G.prop ?_; assumption) | intro hb | ((fail_if_success refine G.tr ?_); exact G.prop S.p) | fail)
  all_goals exact S.R (j + 1)
 ·have hje : j = r := by omega
  subst hje
  generalize ix ds (q : Int) / 2 ^ j = z at *
  have hy1 : z.tmod 2 = z % 2 := Int.tmod_eq_emod_of_nonneg hz0
  have hy2 : IntKind.i64.wrap (z % 2) = z % 2 := Ye S.o S.o
  have hX := I4 hy1 hy2 hm2 hm4; repeat' (first | refine S.x ?_ | refine S.y ?_ ?_ | (refine G.prop ?_; assumption) | intro hb | ((fail_if_success refine G.tr ?_); exact G.prop S.p) | fail)
  all_goals exact Tr.fin hK ⟨rfl, rfl⟩ S.E
theorem xI3 (a0 : 0 ≤ a) (a9 : a ≤ 9223372036854775807) (b0 : 0 ≤ b) (b9 : b ≤ 9223372036854775807) : Xb prog 147 #[.int .i64 a, .int .i64 b] []
  fun v l' => ∃ (s : SV) (os : List Int), os.length = 9 ∧ dOK os ∧ vL os = a * b ∧ v = s.v ∧ l' = [sl false s.v os] := by
 intro F K hK
 simp only [List.nil_append]
 have ha := xHC a0 a9
 have hb := xHC b0 b9
 refine S.I fun u => ?_
 have hX := @xtG.eq_def; repeat' (first | (refine G.call 200 ?_; first | (refine S.c ?_ (h := ha); rintro _ _ ⟨sx, xs, hxl, hxd, hxv, rfl, rfl⟩) | (refine S.c ?_ (h := hb); rintro _ _ ⟨sy, ys, hyl, hyd, hyv, rfl, rfl⟩)) | refine S.x ?_ | refine S.y ?_ ?_ | (refine G.prop ?_; assumption) | intro hb | ((fail_if_success refine G.tr ?_); exact G.prop S.p) | fail)
 obtain ⟨s2, rfl⟩ : ∃ s2, s2 = hb := ⟨_, rfl⟩
 rw [show List.replicate (Int.toNat 9) (default : Int) = List.replicate 9 0 from rfl]
 refine Tr.loopE (α := Nat × List Int) [8] [4, 5, 6, 7] (fun x => [.int .i64 x.1]) (fun x => [sl false s2.v x.2, sl false sy.v ys, sl false sx.v xs]) (fun x => x.1 ≤ 4 ∧ prI xs ys x.1 0 0 x.2) (fun x => 4 - x.1) (0, List.replicate 9 0) S.T rfl ⟨Nat.zero_le _, prI.init⟩ fun x u hx => ?_
 obtain ⟨i, os⟩ := x
 obtain ⟨hi, hI⟩ := hx
 simp only at hi hI ⊢
 simp only [ap]
 have hol := hI.l
 by_cases hin : i < 4
 ·have hw := Xo (k := i) S.o
  have hX := And.intro @xtG.eq_def hw; repeat' (first | refine S.x ?_ | refine S.y ?_ ?_ | (refine G.prop ?_; assumption) | intro hb | ((fail_if_success refine G.tr ?_); exact G.prop S.p) | fail)
  refine Tr.loopE (α := Nat × Int × List Int) [9, 10] [4, 5, 6, 7, 8] (fun x => [.int .i64 x.2.1, .int .i64 x.1]) (fun x => [sl false s2.v x.2.2, sl false sy.v ys, sl false sx.v xs]) (fun x => x.1 ≤ 5 ∧ prI xs ys i x.1 x.2.1 x.2.2) (fun x => 5 - x.1) (0, 0, os) S.T rfl ⟨Nat.zero_le _, hI⟩ fun x u hx => ?_
  obtain ⟨k, c, os2⟩ := x
  obtain ⟨hk, hJ⟩ := hx
  simp only at hk hJ ⊢
  simp only [ap]
  have hol2 := hJ.l
  by_cases hkn : k < 5
  ·have hw2 := Xo (k := k) S.o
   have hik : IntKind.i64.wrap ((i : Int) + (k : Int)) = ((i + k : Nat) : Int) := Ye S.o S.o
   obtain ⟨hst, p0, p9, o0, o9⟩ := hJ.step hxd hyd hyl hin hkn
   have c0 := hJ.c0
   have c9 := hJ.c9
   obtain ⟨p, hp⟩ : ∃ p, p = ix xs (i : Int) * ix ys (k : Int) := ⟨_, rfl⟩
   obtain ⟨o, ho⟩ : ∃ o, o = ix os2 ((i + k : Nat) : Int) := ⟨_, rfl⟩
   rw [← hp, ← ho] at hst
   rw [← hp] at p0 p9
   rw [← ho] at o0 o9
   have e1 : IntKind.i64.wrap p = p := Ye S.o S.o
   have e2 : IntKind.i64.wrap (o + p) = o + p := Ye S.o S.o
   have e3 : IntKind.i64.wrap (o + p + c) = o + p + c := Ye S.o S.o
   have e4 : (o + p + c).tmod 65536 = (o + p + c) % 65536 := Int.tmod_eq_emod_of_nonneg S.o
   have e5 : (o + p + c).tdiv 65536 = (o + p + c) / 65536 := Int.tdiv_eq_ediv_of_nonneg S.o
   have e6 : IntKind.i64.wrap ((o + p + c) % 65536) = (o + p + c) % 65536 := Ye S.o S.o
   have e7 : IntKind.i64.wrap ((o + p + c) / 65536) = (o + p + c) / 65536 := Ye S.o S.o
   have ho' := ho.symm
   have hp' := hp.symm
   clear ho
   by_cases hk4 : k < 4
   ·clear hp
    have hX := I9 @xtG.eq_def hw2 hik @ho' @hp' @e1 @e2 @e3 (I4 @e4 @e5 @e6 @e7); repeat' (first | refine S.x ?_ | refine S.y ?_ ?_ | (refine G.prop ?_; assumption) | intro hb | ((fail_if_success refine G.tr ?_); exact G.prop S.p) | fail)
    all_goals exact S.R ((k + 1, (o + p + c) / 65536, os2.set (i + k) ((o + p + c) % 65536)) : Nat × Int × List Int)
   ·have hz : p = 0 := by
     have : ix ys (k : Int) = 0 := by
      unfold ix
      rw [Int.toNat_natCast, List.getD_eq_getElem?_getD, List.getElem?_eq_none S.o]; rfl
     rw [hp, this, Int.mul_zero]
    clear hp hp'
    subst hz
    have hX := I9 @xtG.eq_def hw2 hik @ho' @e1 @e2 @e3 @e4 (I4 @e5 @e6 @e7 @Int.mul_zero); repeat' (first | refine S.x ?_ | refine S.y ?_ ?_ | (refine G.prop ?_; assumption) | intro hb | ((fail_if_success refine G.tr ?_); exact G.prop S.p) | fail)
    all_goals exact S.R ((k + 1, (o + 0 + c) / 65536, os2.set (i + k) ((o + 0 + c) % 65536)) : Nat × Int × List Int)
  ·have hke : k = 5 := by omega
   subst hke
   have hnx := hJ.next hyl
   have hX := And.intro @xtG.eq_def hw; repeat' (first | refine S.x ?_ | refine S.y ?_ ?_ | (refine G.prop ?_; assumption) | intro hb | ((fail_if_success refine G.tr ?_); exact G.prop S.p) | fail)
   all_goals exact S.R ((i + 1, os2) : Nat × List Int)
 ·have hie : i = 4 := by omega
  subst hie
  have hf := hI.fin hxl
  have hd := hI.d
  rw [Int.zero_mul, Int.add_zero, hxv, hyv] at hf
  have hX := @xtG.eq_def; repeat' (first | refine S.x ?_ | refine S.y ?_ ?_ | (refine G.prop ?_; assumption) | intro hb | ((fail_if_success refine G.tr ?_); exact G.prop S.p) | fail)
  all_goals exact Tr.fin hK ⟨s2, os, hol, hd, hf, rfl, rfl⟩ S.E
theorem xH2 {up : Bool} (ha : a ≤ 9223372036854775807) (hb : b ≤ 9223372036854775807) (hc : c ≤ 9223372036854775807) : Xb prog 100 #[.int .i64 a, .int .i64 b, .int .i64 c, .bool up] []
  fun v l' => v = .tuple #[.int .i64 (xBZ a b c up).1, .int .i64 (xBZ a b c up).2] ∧ l' = [] := by
 intro F K hK
 simp only [List.nil_append]
 by_cases h0 : a < 0 ∨ b < 0 ∨ c < 1
 ·rw [show xBZ a b c up = (0, 2) from if_pos h0] at hK
  refine S.I fun u => ?_
  by_cases h1 : a < 0
  ·repeat' (first | refine S.x ?_ | refine S.y ?_ ?_ | (refine G.prop ?_; assumption) | intro hb | ((fail_if_success refine G.tr ?_); exact G.prop S.p) | fail)
   all_goals exact S.L
  ·by_cases h2 : b < 0
   ·repeat' (first | refine S.x ?_ | refine S.y ?_ ?_ | (refine G.prop ?_; assumption) | intro hb | ((fail_if_success refine G.tr ?_); exact G.prop S.p) | fail)
    all_goals exact S.L
   ·have h3 : c < 1 := by omega
    repeat' (first | refine S.x ?_ | refine S.y ?_ ?_ | (refine G.prop ?_; assumption) | intro hb | ((fail_if_success refine G.tr ?_); exact G.prop S.p) | fail)
    all_goals exact S.L
 have a0 : 0 ≤ a := by omega
 have b0 : 0 ≤ b := by omega
 have c0 : 1 ≤ c := by omega
 have hmd : xBZ a b c up = if 9223372036854775807 < mdV a b c up then (0, 6) else (mdV a b c up, 0) := if_neg h0
 have hab : 0 ≤ a * b := Int.mul_nonneg a0 b0
 have hmv : mdV a b c up = a * b / c + (if up = true then (if 0 < a * b % c then 1 else 0) else 0) := by
  unfold mdV
  cases up with
  | true => rw [if_pos rfl, if_pos rfl]; exact xLE hab c0
  | false => rw [if_neg (by decide), if_neg (by decide), Int.add_zero, Int.add_zero]
 clear h0
 obtain ⟨gg, hg1, hg2, hg3⟩ : ∃ gg : Int, (¬ a = 0 → IntKind.i64.wrap ((9223372036854775807 : Int).tdiv a) = gg) ∧ (¬ a = 0 → b ≤ gg → a * b ≤ 9223372036854775807) ∧ (a = 0 ∨ ¬ a = 0) := by
  refine ⟨9223372036854775807 / a, fun h => ?_, fun h hbg => ?_, Decidable.em _⟩
  ·rw [Int.tdiv_eq_ediv_of_nonneg (by decide)]
   have := Int.ediv_nonneg (show (0 : Int) ≤ 9223372036854775807 by decide) a0
   have := Int.ediv_le_self a (show (0 : Int) ≤ 9223372036854775807 by decide)
   exact Ye S.o S.o
  ·rw [Int.mul_comm]
   exact (Int.le_ediv_iff_mul_le S.o).1 hbg
 by_cases hfast : a = 0 ∨ b ≤ gg
 ·have hm : a * b ≤ 9223372036854775807 := by
   rcases hg3 with h | h
   ·rw [h, Int.zero_mul]; decide
   ·exact hg2 h S.o
  have hw1 : IntKind.i64.wrap (a * b) = a * b := Ye S.o S.o
  have hq0 : 0 ≤ a * b / c := Int.ediv_nonneg hab S.o
  have hq9 : a * b / c ≤ a * b := Int.ediv_le_self _ hab
  have hq1 : (a * b).tdiv c = a * b / c := Int.tdiv_eq_ediv_of_nonneg hab
  have hr1 : (a * b).tmod c = a * b % c := Int.tmod_eq_emod_of_nonneg hab
  have hr0 := Int.emod_nonneg (a * b) (show c ≠ 0 by omega)
  have hr9 := Int.emod_lt_of_pos (a * b) (show 0 < c by omega)
  have hrq : 0 < a * b % c → a * b / c + 1 ≤ a * b := fun h => by
   have e := Int.mul_ediv_add_emod (a * b) c
   have : a * b / c ≤ c * (a * b / c) := by
    have := Int.mul_le_mul_of_nonneg_right c0 hq0
    omega
   omega
  have hw2 : IntKind.i64.wrap (a * b / c) = a * b / c := Ye S.o S.o
  have hw4 : IntKind.i64.wrap (a * b % c) = a * b % c := Ye S.o S.o
  generalize hx : a * b = x at *
  generalize hz : x / c = z at *
  generalize hy : x % c = y at *
  cases up with
  | true =>
   rw [if_pos rfl] at hmv
   by_cases hy0 : 0 < y
   ·rw [if_pos hy0] at hmv
    have hw3 : IntKind.i64.wrap (z + 1) = z + 1 := Ye S.o (by have := hrq hy0; omega)
    rw [hmd, hmv, if_neg (by have := hrq hy0; omega)] at hK
    clear hmd hmv hg2 hrq
    rcases hg3 with h0 | h0
    ·clear hg1
     refine S.I fun u => ?_
     have hX := I9 hx hw1 hq1 hz hr1 hy hw2 hw3 hw4; repeat' (first | refine S.x ?_ | refine S.y ?_ ?_ | (refine G.prop ?_; assumption) | intro hb | ((fail_if_success refine G.tr ?_); exact G.prop S.p) | fail)
     all_goals exact S.L
    ·have hg4 := hg1 h0
     have hbg : b ≤ gg := by omega
     clear hg1 hfast
     refine S.I fun u => ?_
     have hX := I9 hx hw1 hq1 hz hr1 hy hw2 hw3 (And.intro hw4 hg4); repeat' (first | refine S.x ?_ | refine S.y ?_ ?_ | (refine G.prop ?_; assumption) | intro hb | ((fail_if_success refine G.tr ?_); exact G.prop S.p) | fail)
     all_goals exact S.L
   ·rw [if_neg hy0, Int.add_zero] at hmv
    rw [hmd, hmv, if_neg S.o] at hK
    clear hmd hmv hg2 hrq
    rcases hg3 with h0 | h0
    ·clear hg1
     refine S.I fun u => ?_
     have hX := I8 hx hw1 hq1 hz hr1 hy hw2 hw4; repeat' (first | refine S.x ?_ | refine S.y ?_ ?_ | (refine G.prop ?_; assumption) | intro hb | ((fail_if_success refine G.tr ?_); exact G.prop S.p) | fail)
     all_goals exact S.L
    ·have hg4 := hg1 h0
     have hbg : b ≤ gg := by omega
     clear hg1 hfast
     refine S.I fun u => ?_
     have hX := I9 hx hw1 hq1 hz hr1 hy hw2 hw4 hg4; repeat' (first | refine S.x ?_ | refine S.y ?_ ?_ | (refine G.prop ?_; assumption) | intro hb | ((fail_if_success refine G.tr ?_); exact G.prop S.p) | fail)
     all_goals exact S.L
  | false =>
   rw [if_neg (by decide), Int.add_zero] at hmv
   rw [hmd, hmv, if_neg S.o] at hK
   clear hmd hmv hg2 hrq
   rcases hg3 with h0 | h0
   ·clear hg1
    refine S.I fun u => ?_
    have hX := I8 hx hw1 hq1 hz hr1 hy hw2 hw4; repeat' (first | refine S.x ?_ | refine S.y ?_ ?_ | (refine G.prop ?_; assumption) | intro hb | ((fail_if_success refine G.tr ?_); exact G.prop S.p) | fail)
    all_goals exact S.L
   ·have hg4 := hg1 h0
    have hbg : b ≤ gg := by omega
    clear hg1 hfast
    refine S.I fun u => ?_
    have hX := I9 hx hw1 hq1 hz hr1 hy hw2 hw4 hg4; repeat' (first | refine S.x ?_ | refine S.y ?_ ?_ | (refine G.prop ?_; assumption) | intro hb | ((fail_if_success refine G.tr ?_); exact G.prop S.p) | fail)
    all_goals exact S.L
 ·have hne : ¬ a = 0 := fun h => hfast (.inl h)
  have hgt : gg < b := by omega
  have hg4 := hg1 hne
  clear hg1 hg2 hg3 hfast
  have hpr := xI3 a0 ha b0 hb
  obtain ⟨N, hN⟩ : ∃ N, N = a * b := ⟨_, rfl⟩
  rw [← hN] at hpr hmv hab
  refine S.I fun u => ?_
  have hX := hg4; repeat' (first | (refine G.call 147 ?_; refine S.c ?_ (h := hpr); rintro _ _ ⟨s2, os, hol, hod, hov, rfl, rfl⟩) | refine S.x ?_ | refine S.y ?_ ?_ | (refine G.prop ?_; assumption) | intro hb | ((fail_if_success refine G.tr ?_); exact G.prop S.p) | fail)
  have hN9 : N < 2 ^ 144 := by
   have := xKv hod
   rw [hol, hov] at this
   exact this
  refine Tr.loopE (α := Nat × Int × Int × Bool) [12, 13, 14, 15] [2, 3, 8, 9, 11] (fun x => [.int .i64 x.2.2.1, .bool x.2.2.2, .int .u64 x.2.1, .int .i64 ((x.1 : Int) - 1)]) (fun x => [sl false s2.v os]) (fun x => x.1 ≤ 144 ∧ ldI N c x.1 x.2.1 x.2.2.1 x.2.2.2) (fun x => x.1) (144, 0, 0, false) S.T rfl ⟨Nat.le_refl _, ldI.init hab hN9⟩ fun x u hx => ?_
  obtain ⟨j, left, q, o⟩ := x
  obtain ⟨hj, hI⟩ := hx
  simp only at hj hI ⊢
  simp only [ap]
  cases j with
  | zero =>
   obtain ⟨y1, y2, y3, y4, y5⟩ := hI
   rw [Int.pow_zero, Int.ediv_one] at y1 y4 y5
   have hl0 := Int.emod_nonneg N (show c ≠ 0 by omega)
   have hl9 := Int.emod_lt_of_pos N (show 0 < c by omega)
   rw [← y1] at hl0 hl9 hmv
   cases o with
   | true =>
    have y6 := y5 rfl
    have y7 : 9223372036854775807 < mdV a b c up := by
     rw [hmv]
     have : (0 : Int) ≤ (if up = true then (if 0 < left then 1 else 0) else 0) := by split <;> (try split) <;> decide
     omega
    rw [hmd, if_pos y7] at hK
    clear hmv hmd y1 y4 y5 y6 y7
    cases up <;> repeat' (first | refine S.x ?_ | refine S.y ?_ ?_ | (refine G.prop ?_; assumption) | intro hb | ((fail_if_success refine G.tr ?_); exact G.prop S.p) | fail)
    all_goals exact S.L
   | false =>
    have y6 := y4 rfl
    rw [← y6] at hmv
    clear y1 y4 y5 y6
    cases up with
    | false =>
     rw [if_neg (by decide), Int.add_zero] at hmv
     rw [hmd, hmv, if_neg S.o] at hK
     clear hmv hmd
     repeat' (first | refine S.x ?_ | refine S.y ?_ ?_ | (refine G.prop ?_; assumption) | intro hb | ((fail_if_success refine G.tr ?_); exact G.prop S.p) | fail)
     all_goals exact S.L
    | true =>
     rw [if_pos rfl] at hmv
     by_cases hy0 : 0 < left
     ·rw [if_pos hy0] at hmv
      by_cases hq : q = 9223372036854775807
      ·rw [hmd, hmv, if_pos S.o] at hK
       clear hmv hmd
       repeat' (first | refine S.x ?_ | refine S.y ?_ ?_ | (refine G.prop ?_; assumption) | intro hb | ((fail_if_success refine G.tr ?_); exact G.prop S.p) | fail)
       all_goals exact S.L
      ·have hw := Ye (n := q + 1) S.o S.o
       rw [hmd, hmv, if_neg S.o] at hK
       clear hmv hmd
       have hX := hw; repeat' (first | refine S.x ?_ | refine S.y ?_ ?_ | (refine G.prop ?_; assumption) | intro hb | ((fail_if_success refine G.tr ?_); exact G.prop S.p) | fail)
       all_goals exact S.L
     ·rw [if_neg hy0, Int.add_zero] at hmv
      rw [hmd, hmv, if_neg S.o] at hK
      clear hmv hmd
      repeat' (first | refine S.x ?_ | refine S.y ?_ ?_ | (refine G.prop ?_; assumption) | intro hb | ((fail_if_success refine G.tr ?_); exact G.prop S.p) | fail)
      all_goals exact S.L
  | succ i =>
   clear hmv hmd hK
   have hji : ((i + 1 : Nat) : Int) - 1 = (i : Int) := by omega
   have hw := Ye (n := (i : Int) - 1) S.o S.o
   have hbt := xJ8 (s := s2) (ro := false) (k := i) hol S.o hod
   have hbe := xJ2 hod i
   rw [hov] at hbe
   obtain ⟨b1, hb1⟩ : ∃ b1, b1 = xIr os i := ⟨_, rfl⟩
   rw [← hb1] at hbe hbt
   obtain ⟨ta, tb⟩ := hI.step c0 hbe
   have q0 := hI.q0
   have q9 := hI.q9
   have l0 : 0 ≤ left := by rw [hI.l]; exact Int.emod_nonneg _ S.o
   have l9 : left < c := by rw [hI.l]; exact Int.emod_lt_of_pos _ S.o
   have b0' : 0 ≤ b1 ∧ b1 ≤ 1 := by omega
   clear hbe hb1 hI
   have u1 : IntKind.u64.wrap (2 * left) = 2 * left := uw S.o S.o
   have u2 : IntKind.u64.wrap b1 = b1 := uw S.o S.o
   have u3 : IntKind.u64.wrap (2 * left + b1) = 2 * left + b1 := uw S.o S.o
   have u4 : IntKind.u64.wrap c = c := uw S.o S.o
   by_cases hg : c ≤ 2 * left + b1
   ·have u5 : IntKind.u64.wrap (2 * left + b1 - c) = 2 * left + b1 - c := uw S.o S.o
    obtain ⟨t1, t2⟩ := ta hg
    clear ta tb
    by_cases hq : 4611686018427387903 < q
    ·have z1 := t1 hq
     clear t1 t2
     have hX := I7 hji hw @u1 @u2 @u3 @u4 @u5; repeat' (first | (refine G.call 148 ?_; refine S.c ?_ (h := hbt); rintro _ _ ⟨rfl, rfl⟩) | refine S.x ?_ | refine S.y ?_ ?_ | (refine G.prop ?_; assumption) | intro hb | ((fail_if_success refine G.tr ?_); exact G.prop S.p) | fail)
     all_goals exact S.R ((i, 2 * left + b1 - c, q, true) : Nat × Int × Int × Bool)
    ·have z1 := t2 S.o
     clear t1 t2
     cases o with
     | true =>
      simp only [if_true] at z1
      have hX := I7 hji hw @u1 @u2 @u3 @u4 @u5; repeat' (first | (refine G.call 148 ?_; refine S.c ?_ (h := hbt); rintro _ _ ⟨rfl, rfl⟩) | refine S.x ?_ | refine S.y ?_ ?_ | (refine G.prop ?_; assumption) | intro hb | ((fail_if_success refine G.tr ?_); exact G.prop S.p) | fail)
      all_goals exact S.R ((i, 2 * left + b1 - c, q, true) : Nat × Int × Int × Bool)
     | false =>
      simp only [Bool.false_eq_true, if_false] at z1
      have v1 := Ye (n := 2 * q) S.o S.o
      have v2 := Ye (n := 2 * q + 1) S.o S.o
      have hX := I9 hji hw @u1 @u2 @u3 @u4 @u5 @v1 @v2; repeat' (first | (refine G.call 148 ?_; refine S.c ?_ (h := hbt); rintro _ _ ⟨rfl, rfl⟩) | refine S.x ?_ | refine S.y ?_ ?_ | (refine G.prop ?_; assumption) | intro hb | ((fail_if_success refine G.tr ?_); exact G.prop S.p) | fail)
      all_goals exact S.R ((i, 2 * left + b1 - c, 2 * q + 1, false) : Nat × Int × Int × Bool)
   ·obtain ⟨t1, t2⟩ := tb S.o
    clear ta tb
    by_cases hq : 4611686018427387903 < q
    ·have z1 := t1 hq
     clear t1 t2
     have hX := I6 hji hw @u1 @u2 @u3 @u4; repeat' (first | (refine G.call 148 ?_; refine S.c ?_ (h := hbt); rintro _ _ ⟨rfl, rfl⟩) | refine S.x ?_ | refine S.y ?_ ?_ | (refine G.prop ?_; assumption) | intro hb | ((fail_if_success refine G.tr ?_); exact G.prop S.p) | fail)
     all_goals exact S.R ((i, 2 * left + b1, q, true) : Nat × Int × Int × Bool)
    ·have z1 := t2 S.o
     clear t1 t2
     cases o with
     | true =>
      simp only [if_true] at z1
      have hX := I6 hji hw @u1 @u2 @u3 @u4; repeat' (first | (refine G.call 148 ?_; refine S.c ?_ (h := hbt); rintro _ _ ⟨rfl, rfl⟩) | refine S.x ?_ | refine S.y ?_ ?_ | (refine G.prop ?_; assumption) | intro hb | ((fail_if_success refine G.tr ?_); exact G.prop S.p) | fail)
      all_goals exact S.R ((i, 2 * left + b1, q, true) : Nat × Int × Int × Bool)
     | false =>
      simp only [Bool.false_eq_true, if_false] at z1
      have v1 := Ye (n := 2 * q) S.o S.o
      have v2 := Ye (n := 2 * q + 0) S.o S.o
      have hX := I8 hji hw @u1 @u2 @u3 @u4 @v1 @v2; repeat' (first | (refine G.call 148 ?_; refine S.c ?_ (h := hbt); rintro _ _ ⟨rfl, rfl⟩) | refine S.x ?_ | refine S.y ?_ ?_ | (refine G.prop ?_; assumption) | intro hb | ((fail_if_success refine G.tr ?_); exact G.prop S.p) | fail)
      all_goals exact S.R ((i, 2 * left + b1, 2 * q + 0, false) : Nat × Int × Int × Bool)
