import Derived.Test.YtgkhjgpgdfbdpaaDoorYbx
namespace Go.Proofs.YtgkhjgpgdfbdpaaDoor
open Go Go.Wk
set_option maxRecDepth 100000
/-! ### a map of windows -/
def kvsW (ms : List (Int × SL EvC)) : List (Int × Value) := ms.map fun x => (x.1, x.2.s.v)
def getS (k : Int) : List (Int × SL EvC) → SL EvC
  | [] => ⟨⟨none, 0, 0⟩, []⟩
  | y :: r => if k = y.1 then y.2 else getS k r
def updW (k : Int) (x : SL EvC) : List (Int × SL EvC) → List (Int × SL EvC)
  | [] => [(k, x)]
  | y :: r => if k = y.1 then (k, x) :: r else y :: updW k x r
def eraW (k : Int) : List (Int × SL EvC) → List (Int × SL EvC)
  | [] => []
  | y :: r => if k = y.1 then r else y :: eraW k r
abbrev famW (ms : List (Int × SL EvC)) : Asrt := fam (fun x : Int × SL EvC => sl false x.2.s.v x.2.d) ms
theorem find_W (k : Int) : ∀ ms, (find k (kvsW ms)).getD (.slice none 0 0) = (getS k ms).s.v
  | [] => rfl
  | y :: r => by
    have ih := find_W k r
    unfold kvsW at ih ⊢
    simp only [List.map_cons, find, getS]
    split
    · rfl
    · exact ih
theorem ups_W (k : Int) (x : SL EvC) : ∀ ms, upsert k x.s.v (kvsW ms) = kvsW (updW k x ms)
  | [] => rfl
  | y :: r => by
    have ih := ups_W k x r
    unfold kvsW at ih ⊢
    simp only [List.map_cons, upsert, updW]
    split
    · rfl
    · simp only [List.map_cons, ih]
theorem get_upd (k : Int) (x : SL EvC) (j : Int) : ∀ ms, getS j (updW k x ms) = if j = k then x else getS j ms
  | [] => by
    simp only [updW, getS]
  | y :: r => by
    have ih := get_upd k x j r
    simp only [updW]
    split
    · rename_i h
      subst h
      simp only [getS]
      split <;> rfl
    · rename_i h
      simp only [getS]
      by_cases hj : j = y.1
      · rw [if_pos hj, if_pos hj, if_neg (fun e => h (e.symm.trans hj))]
      · rw [if_neg hj, if_neg hj, ih]
theorem get_era (k j : Int) (h : j ≠ k) : ∀ ms, getS j (eraW k ms) = getS j ms
  | [] => rfl
  | y :: r => by
    have ih := get_era k j h r
    simp only [eraW]
    split
    · rename_i hk
      simp only [getS]
      rw [if_neg (fun e => h (e.trans hk.symm))]
    · simp only [getS, ih]
theorem famW_out {k : Int} : ∀ {ms : List (Int × SL EvC)} {l : List Asrt}, Imp (famW ms :: l) (sl false (getS k ms).s.v (getS k ms).d :: famW (eraW k ms) :: l)
  | [], _ => TakeA.nilS
  | y :: r, l => by
    simp only [getS, eraW]
    split
    · exact fam_cons (A := fun x : Int × SL EvC => sl false x.2.s.v x.2.d) (x := y)
    · exact Imp.trans (fam_cons (A := fun x : Int × SL EvC => sl false x.2.s.v x.2.d) (x := y)) (Imp.trans Imp.swap (Imp.trans famW_out (Imp.cons (Imp.trans Imp.swap (fam_consI (A := fun x : Int × SL EvC => sl false x.2.s.v x.2.d) (x := y))))))
theorem famW_in {k : Int} {x : SL EvC} : ∀ {ms : List (Int × SL EvC)} {l : List Asrt}, Imp (sl false x.s.v x.d :: famW (eraW k ms) :: l) (famW (updW k x ms) :: l)
  | [], _ => by
    simp only [updW, eraW]
    exact fam_consI (A := fun x : Int × SL EvC => sl false x.2.s.v x.2.d) (x := (k, x)) (xs := [])
  | y :: r, l => by
    simp only [updW, eraW]
    split
    · exact fam_consI (A := fun x : Int × SL EvC => sl false x.2.s.v x.2.d) (x := (k, x))
    · exact Imp.trans (Imp.cons (fam_cons (A := fun x : Int × SL EvC => sl false x.2.s.v x.2.d) (x := y))) (Imp.trans Imp.swap (Imp.trans (Imp.cons famW_in) (fam_consI (A := fun x : Int × SL EvC => sl false x.2.s.v x.2.d) (x := y))))
theorem mapOut {k : Int} {ms : List (Int × SL EvC)} {l l' : List Asrt} {X : WP} (ht : TakeA l (famW ms) l') (h : Tr (sl false (getS k ms).s.v (getS k ms).d :: famW (eraW k ms) :: l') X) : Tr l X := h.imp (Imp.trans ht famW_out)
theorem mapIn {k : Int} {s : SV} {d : List EvC} {ms : List (Int × SL EvC)} {l l1 l2 : List Asrt} {X : WP} (h1 : TakeA l (sl false s.v d) l1) (h2 : TakeA l1 (famW (eraW k ms)) l2) (h : Tr (famW (updW k ⟨s, d⟩ ms) :: l2) X) : Tr l X :=
  h.imp (Imp.trans h1 (Imp.trans (Imp.cons h2) (famW_in (x := ⟨s, d⟩))))
/-! ### windows -/
def inW (part : Int) (e : EvC) : Prop := e.part = part ∧ 0 ≤ e.win ∧ e.win ≤ 1000
instance (part : Int) (e : EvC) : Decidable (inW part e) := by unfold inW; infer_instance
def winW (part w : Int) (l : List EvC) : List EvC := l.filter fun e => decide (e.part = part ∧ e.win = w)
def lastW (part : Int) (l : List EvC) : Int := l.foldl (fun m e => if inW part e ∧ m < e.win then e.win else m) (-1)
theorem winW_snoc (part w : Int) (l : List EvC) (e : EvC) : winW part w (l ++ [e]) = if e.part = part ∧ e.win = w then winW part w l ++ [e] else winW part w l := by
  unfold winW
  rw [List.filter_append]
  split
  · rename_i h; rw [List.filter_cons_of_pos (by simpa using h)]; rfl
  · rename_i h; rw [List.filter_cons_of_neg (by simpa using h)]; simp
theorem lastW_snoc (part : Int) (l : List EvC) (e : EvC) : lastW part (l ++ [e]) = if inW part e ∧ lastW part l < e.win then e.win else lastW part l := by
  unfold lastW; rw [List.foldl_append]; rfl
theorem lastW_le (part : Int) (l : List EvC) : -1 ≤ lastW part l ∧ lastW part l ≤ 1000 := by
  suffices h : ∀ (l : List EvC) (m : Int), -1 ≤ m → m ≤ 1000 → -1 ≤ l.foldl (fun m e => if inW part e ∧ m < e.win then e.win else m) m ∧ l.foldl (fun m e => if inW part e ∧ m < e.win then e.win else m) m ≤ 1000 from h l (-1) (by omega) (by omega)
  intro l
  induction l with
  | nil => intro m h1 h2; exact ⟨h1, h2⟩
  | cons e l ih =>
    intro m h1 h2
    simp only [List.foldl_cons]
    split
    · rename_i h
      obtain ⟨⟨_, h3, h4⟩, _⟩ := h
      exact ih _ (by omega) h4
    · exact ih m h1 h2
theorem winW_len (part w : Int) (l : List EvC) : (winW part w l).length ≤ l.length := List.length_filter_le _ _
def winsW (part : Int) (l : List EvC) (n : Nat) : List (List EvC) := (List.range n).map fun w : Nat => winW part (w : Int) l
theorem winsW_next (part : Int) (l : List EvC) (n : Nat) : winsW part l (n + 1) = winsW part l n ++ [winW part (n : Int) l] := by
  unfold winsW; rw [List.range_succ, List.map_append]; rfl
theorem winsW_len (part : Int) (l : List EvC) (n : Nat) : (winsW part l n).length = n := by simp [winsW]
theorem take_snoc {xs : List EvC} {k : Nat} (h : k < xs.length) : xs.take (k + 1) = xs.take k ++ [ix xs (k : Int)] := by
  rw [List.take_succ_eq_append_getElem h]
  have := ix_some (xs := xs) (k := (k : Int)) (by omega) (by omega)
  rw [Int.toNat_natCast, List.getElem?_eq_getElem h] at this
  rw [Option.some.inj this]
/-- The map holds the windows of what was read. -/
def mapW (part : Int) (l : List EvC) (ms : List (Int × SL EvC)) : Prop := ∀ w : Int, 0 ≤ w → w ≤ 1000 → (getS w ms).d = winW part w l
theorem mapW_init {part : Int} : mapW part [] [] := fun _ _ _ => rfl
theorem mapW_skip {part : Int} {l : List EvC} {ms : List (Int × SL EvC)} {e : EvC} (h : mapW part l ms) (he : ¬ inW part e) : mapW part (l ++ [e]) ms := fun w h0 h1 => by
  rw [winW_snoc, if_neg (fun hx => he ⟨hx.1, by omega, by omega⟩)]; exact h w h0 h1
theorem mapW_put {part : Int} {l : List EvC} {ms : List (Int × SL EvC)} {e : EvC} (s : SV) (h : mapW part l ms) (he : inW part e) : mapW part (l ++ [e]) (updW e.win ⟨s, (getS e.win ms).d ++ [e]⟩ ms) := fun w h0 h1 => by
  rw [get_upd, winW_snoc]
  by_cases hw : w = e.win
  · subst hw
    rw [if_pos rfl, if_pos ⟨he.1, rfl⟩, h _ h0 h1]
  · rw [if_neg hw, if_neg (fun hx => hw hx.2.symm), h w h0 h1]
/-! ### faults -/
def cntF (part kind : Int) (l : List EvC) : Int := ((l.filter fun e => decide (e.part = part ∧ e.call = -1 - kind)).length : Int)
theorem cntF_snoc (part kind : Int) (l : List EvC) (e : EvC) : cntF part kind (l ++ [e]) = if e.part = part ∧ e.call = -1 - kind then cntF part kind l + 1 else cntF part kind l := by
  unfold cntF
  rw [List.filter_append]
  split
  · rename_i h; rw [List.filter_cons_of_pos (by simpa using h)]; simp
  · rename_i h; rw [List.filter_cons_of_neg (by simpa using h)]; simp
theorem cntF_le (part kind : Int) (l : List EvC) : 0 ≤ cntF part kind l ∧ cntF part kind l ≤ l.length := by
  unfold cntF
  have := List.length_filter_le (fun e => decide (e.part = part ∧ e.call = -1 - kind)) l
  omega
def faultsF (part : Int) (l : List EvC) : List Int := [cntF part 0 l, cntF part 1 l, cntF part 2 l, cntF part 3 l, cntF part 4 l]
theorem faultsF_skip {part : Int} {l : List EvC} {e : EvC} (h : ¬ (e.part = part ∧ isF e.call)) : faultsF part (l ++ [e]) = faultsF part l := by
  unfold faultsF
  have hk : ∀ kind : Int, 0 ≤ kind → kind < 5 → cntF part kind (l ++ [e]) = cntF part kind l := fun kind h0 h1 => by
    rw [cntF_snoc, if_neg]
    intro ⟨h2, h3⟩
    exact h ⟨h2, by unfold isF; omega⟩
  rw [hk 0 (by omega) (by omega), hk 1 (by omega) (by omega), hk 2 (by omega) (by omega), hk 3 (by omega) (by omega), hk 4 (by omega) (by omega)]
theorem faultsF_put {part : Int} {l : List EvC} {e : EvC} (h : e.part = part) (hf : isF e.call) : (faultsF part l).set (-1 - e.call).toNat (ix (faultsF part l) (-1 - e.call) + 1) = faultsF part (l ++ [e]) := by
  obtain ⟨k, hk, hc⟩ := isF_cases hf
  have e1 : -1 - e.call = (k : Int) := by omega
  rw [e1, Int.toNat_natCast]
  unfold faultsF
  simp only [cntF_snoc, h, hc, true_and]
  obtain rfl | rfl | rfl | rfl | rfl : k = 0 ∨ k = 1 ∨ k = 2 ∨ k = 3 ∨ k = 4 := by omega
  all_goals
    simp +decide only [ix]
    simp
/-- Kinds that are counted, the one at work, and the rest. -/
def faultsK (part : Int) (l : List EvC) (kind k : Nat) : List Int := (List.range 5).map fun j : Nat => if j < kind then cntF part (j : Int) l else if j = kind then cntF part (j : Int) (l.take k) else 0
theorem faultsK_end {part : Int} {l : List EvC} {k : Nat} : faultsK part l 5 k = faultsF part l := rfl
theorem faultsK_init {part : Int} {l : List EvC} : faultsK part l 0 0 = [0, 0, 0, 0, 0] := rfl
theorem faultsK_next {part : Int} {l : List EvC} {kind : Nat} : faultsK part l kind l.length = faultsK part l (kind + 1) 0 := by
  unfold faultsK
  refine List.map_congr_left fun j _ => ?_
  by_cases h1 : j < kind
  · rw [if_pos h1, if_pos (by omega)]
  · by_cases h2 : j = kind
    · rw [if_neg h1, if_pos h2, if_pos (by omega), List.take_length]
    · rw [if_neg h1, if_neg h2, if_neg (by omega)]
      split
      · simp [cntF]
      · rfl
end Go.Proofs.YtgkhjgpgdfbdpaaDoor
