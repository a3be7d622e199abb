import Derived.Test.YtacmaamllpiloaaGreatZ43
namespace Go.Proofs.YtacmaamllpiloaaGreat
open Go Go.Wk
structure Inv (C : CC) (c : CM) : Prop where
 ok : okM C c
 dp : dP c
 p : okP C c
 S : okS C c
 sl : ∀ m, c.slk = some m → okSl m
 sd : ∀ m, c.slk = some m → ∀ k, inR C.progs k → (ix m.ms k).2 = true → ix c.done k = true
def okR1 (c : CM) : Prop := ∀ x ∈ c.rest, 1 ≤ x ∧ x ≤ 1073741824
def roomM (c : CM) : Int := match c.slk with
 | some m => m.room
 | none => 0
def sumN : List (Int × Bool) → Int
 | [] => 0
 | x :: t => (if x.2 = true then 0 else x.1) + sumN t
def lefS (c : CM) : Int := match c.slk with
 | some m => if m.room < sumN m.ms then m.room else sumN m.ms
 | none => 0
section
variable {C : CC} {c c' : CM} {k j n : Int} {m : SlM} {i : Nat} {ms : List (Int × Bool)}
theorem Rch.r1 (h : Rch C i c c') (hr : okR1 c) : okR1 c' := by
 induction h with
 | trans _ _ h1 h2 => exact h2 (h1 hr)
 | le _ _ h1 => exact h1 hr
 | to c k i =>
  intro x hx
  rcases List.mem_or_eq_of_mem_set hx with h' | rfl
  ·exact hr x h'
  ·have := clampC_in (n := (ix (ix C.progs k) (atM (ix C.progs k) i)).cycles)
   omega
 | _ => exact hr
theorem okR1.le (h : okR1 c) : okRs c := fun x hx => by have := h x hx; omega
theorem slk_rest (hm : (restM c k).slk = some m) : ∃ m0, c.slk = some m0 ∧ m = finM m0 k := by
 have hm' : c.slk.map (fun m => finM m k) = some m := hm
 rcases Option.eq_none_or_eq_some c.slk with h | ⟨m0, h⟩
 ·rw [h] at hm'; cases hm'
 ·rw [h] at hm'
  cases hm'
  exact ⟨m0, h, rfl⟩
theorem Rch.slO (h : Rch C i c c') (hs : ∀ m, c.slk = some m → okSl m) : ∀ m, c'.slk = some m → okSl m := by
 induction h with
 | trans _ _ h1 h2 => exact h2 (h1 hs)
 | le _ _ h1 => exact h1 hs
 | rest c k hk =>
  intro m hm
  obtain ⟨m0, h0, rfl⟩ := slk_rest hm
  exact okSl_fin (hs m0 h0)
 | _ => exact hs
theorem setM_ix (hk : inR ms k) (hj : 0 ≤ j) {b : Bool} : ix (setM ms k b) j = if j = k then ((ix ms k).1, b) else ix ms j := by
 unfold setM
 rw [if_pos hk, ix_setR hk hj]
theorem Rch.sdO (hc : okC C) (h : Rch C i c c') (ho : okM C c) (hS : okS C c) (hs : ∀ m, c.slk = some m → ∀ k, inR C.progs k → (ix m.ms k).2 = true → ix c.done k = true) : ∀ m, c'.slk = some m → ∀ k, inR C.progs k → (ix m.ms k).2 = true → ix c'.done k = true := by
 induction h with
 | trans a _ h1 h2 => exact h2 (a.ok hc ho) (a.oS hS) (h1 ho hS hs)
 | le _ _ h1 => exact h1 ho hS hs
 | rest c k hk =>
  intro m hm j hj hd
  obtain ⟨m0, h0, rfl⟩ := slk_rest hm
  have hms : inR m0.ms k := by unfold inR at *; rw [hS m0 h0]; exact hk
  have hkd : inR c.done k := by unfold inR at *; rw [ho.done]; exact hk
  show ix (c.done.set k.toNat true) j = true
  rw [ix_setR hkd hj.1]
  have hd' : (ix (setM m0.ms k true) j).2 = true := hd
  rw [setM_ix hms hj.1] at hd'
  by_cases e : j = k
  ·rw [if_pos e]
  ·rw [if_neg e] at hd' ⊢
   exact hs m0 h0 j hj hd'
 | _ => exact hs
theorem Rch.inv (hc : okC C) (h : Rch C i c c') (hi : Inv C c) : Inv C c' := ⟨h.ok hc hi.ok, h.dP hc hi.ok hi.dp, h.okP hi.p, h.oS hi.S, h.slO hi.sl, h.sdO hc hi.ok hi.S hi.sd⟩
theorem Rch.room (h : Rch C i c c') : roomM c' = roomM c := by
 induction h with
 | trans _ _ h1 h2 => exact h2.trans h1
 | le _ _ h1 => exact h1
 | rest c k hk =>
  unfold roomM
  show (match c.slk.map (fun m => finM m k) with | some m => m.room | none => 0) = _
  rcases Option.eq_none_or_eq_some c.slk with h | ⟨m0, h⟩
  ·rw [h]; rfl
  ·rw [h]; rfl
 | _ => rfl
theorem sumN_set {x : Int × Bool} : ∀ {ms : List (Int × Bool)} {i : Nat}, i < ms.length → sumN (ms.set i x) = sumN ms - (if (ix ms (i : Int)).2 = true then 0 else (ix ms (i : Int)).1) + (if x.2 = true then 0 else x.1)
 | y :: t, 0, _ => by
  have e : ix (y :: t) ((0 : Nat) : Int) = y := rfl
  rw [e]
  simp only [List.set_cons_zero, sumN]
  omega
 | y :: t, i + 1, h => by
  have e : ix (y :: t) ((i + 1 : Nat) : Int) = ix t (i : Int) := rfl
  rw [e]
  have := sumN_set (x := x) (ms := t) (i := i) (by simpa using h)
  simp only [List.set_cons_succ, sumN, this]
  omega
theorem sumN_fin (hs : okSl m) (hk : inR m.ms k) : sumN (setM m.ms k true) ≤ sumN m.ms := by
 unfold setM
 rw [if_pos hk]
 obtain ⟨h0, h1⟩ := hk
 rw [sumN_set (by omega)]
 have := sl_ix hs k
 rw [show ((k.toNat : Nat) : Int) = k from by omega]
 simp only [if_true]
 split <;> omega
theorem sumN_in (h : ∀ x ∈ ms, 0 ≤ x.1) : 0 ≤ sumN ms := by
 induction ms with
 | nil => exact Int.le_refl _
 | cons x t ih =>
  have h1 := h x (List.mem_cons_self ..)
  have h2 := ih fun y hy => h y (List.mem_cons_of_mem _ hy)
  unfold sumN
  split <;> omega
theorem sat_fold (ms : List (Int × Bool)) : ∀ a : Int, (∀ x ∈ ms, 0 ≤ x.1 ∧ x.1 ≤ 1000000000000) → 0 ≤ a → a + 1000000000000 * ms.length ≤ 9000000000000000000 → (runL ms).foldl satA a = a + sumN ms := by
 induction ms with
 | nil => intro a _ _ _; show a = a + 0; omega
 | cons x t ih =>
  intro a h h0 h1
  have hx := h x (List.mem_cons_self ..)
  have ht : ∀ y ∈ t, 0 ≤ y.1 ∧ y.1 ≤ 1000000000000 := fun y hy => h y (List.mem_cons_of_mem _ hy)
  simp only [List.length_cons, Int.natCast_succ] at h1
  unfold sumN
  by_cases hd : x.2 = true
  ·have e : runL (x :: t) = runL t := by unfold runL; rw [List.filter_cons_of_neg (by simp [hd])]
   rw [e, if_pos hd, ih a ht h0 (by omega)]
   omega
  ·have e : runL (x :: t) = x.1 :: runL t := by unfold runL; rw [List.filter_cons_of_pos (by simpa using hd), List.map_cons]
   have ha : satA a x.1 = a + x.1 := by unfold satA; rw [if_pos (by omega)]
   rw [e, if_neg hd, List.foldl_cons, ha, ih (a + x.1) ht (by omega) (by omega)]
   omega
theorem left_sum (hs : okSl m) : leftA m.room m.ms = if m.room < sumN m.ms then m.room else sumN m.ms := by
 have hl := hs.l
 have := sat_fold m.ms 0 hs.h (by decide) (by omega)
 unfold leftA satS
 rw [this, Int.zero_add]
theorem Rch.lef (hc : okC C) (h : Rch C i c c') (ho : okM C c) (hS : okS C c) (hs : ∀ m, c.slk = some m → okSl m) : lefS c' ≤ lefS c := by
 induction h with
 | trans a _ h1 h2 => exact Int.le_trans (h2 (a.ok hc ho) (a.oS hS) (a.slO hs)) (h1 ho hS hs)
 | le _ _ h1 => exact h1 ho hS hs
 | rest c k hk =>
  unfold lefS
  show (match c.slk.map (fun m => finM m k) with | some m => (if m.room < sumN m.ms then m.room else sumN m.ms) | none => 0) ≤ _
  rcases Option.eq_none_or_eq_some c.slk with h | ⟨m0, h⟩
  ·rw [h]; exact Int.le_refl _
  ·rw [h]
   have := sumN_fin (hs m0 h) (k := k) (by unfold inR at *; rw [hS m0 h]; exact hk)
   show (if m0.room < sumN (setM m0.ms k true) then m0.room else sumN (setM m0.ms k true)) ≤ if m0.room < sumN m0.ms then m0.room else sumN m0.ms
   split <;> split <;> omega
 | _ => exact Int.le_refl _
theorem lef_in (hs : ∀ m, c.slk = some m → okSl m) : 0 ≤ lefS c := by
 unfold lefS
 split
 ·rename_i m hm
  have h1 := (hs m hm).r
  have h2 := sumN_in fun x hx => ((hs m hm).h x hx).1
  split <;> omega
 ·decide
theorem left_lef (hs : ∀ m, c.slk = some m → okSl m) : 0 ≤ leftM c ∧ leftM c ≤ lefS c ∧ (¬ whoM c < 0 → leftM c = lefS c) := by
 have h0 := lef_in hs
 by_cases hw : whoM c < 0
 ·have e : leftM c = 0 := by unfold leftM; split <;> first | rw [if_pos hw] | rfl
  rw [e]
  exact ⟨by decide, h0, fun h => absurd hw h⟩
 ·obtain ⟨m, hm, _, _⟩ := who_cases hw
  have e : leftM c = lefS c := by
   unfold leftM lefS
   rw [hm]
   simp only
   rw [if_neg hw, left_sum (hs m hm)]
  rw [e]
  exact ⟨h0, Int.le_refl _, fun _ => rfl⟩
theorem spend_spend (hk : inR m.ms k) {a b : Int} (ha : 0 ≤ a) (hb : 1 ≤ b) (h1 : a + b ≤ (ix m.ms k).1) (h2 : a + b ≤ m.room) : spendM (spendM m k a) k b = spendM m k (a + b) := by
 have hm : ∀ {x y z : Int}, x ≤ y → x ≤ z → min3 x y z = x := fun h1 h2 => by unfold min3; split <;> split <;> omega
 by_cases h0 : a < 1
 ·have ha0 : a = 0 := by omega
  subst ha0
  have e : spendM m k 0 = m := by
   unfold spendM spM spMs
   rw [if_pos hk, if_pos (by decide), if_pos hk, if_pos (by decide), Int.sub_zero]
  rw [e, Int.zero_add]
 ·have e : spendM m k a = ⟨m.room - a, m.ms.set k.toNat ((ix m.ms k).1 - a, (ix m.ms k).2)⟩ := by
   unfold spendM spM spMs
   rw [if_pos hk, if_neg h0, if_pos hk, if_neg h0, hm (by omega) (by omega)]
  have hk' : inR (m.ms.set k.toNat ((ix m.ms k).1 - a, (ix m.ms k).2)) k := by unfold inR at *; rw [List.length_set]; exact hk
  rw [e]
  unfold spendM spM spMs
  simp only
  rw [if_pos hk', if_neg (by omega), if_pos hk', if_neg (by omega), if_pos hk, if_neg (by omega), if_pos hk, if_neg (by omega), ix_setR hk hk.1, if_pos rfl]
  simp only
  rw [hm (x := b) (by omega) (by omega), hm (x := a + b) (by omega) (by omega), List.set_set]
  have e1 : m.room - a - b = m.room - (a + b) := by omega
  have e2 : (ix m.ms k).1 - a - b = (ix m.ms k).1 - (a + b) := by omega
  rw [e1, e2]
theorem ran_eq (hm : c.slk = some m) : ranM C c k n = if ix c.rest k - n = 0 then settleTo C 100 (callCM C (toM C (spentM c m k n) k (ix c.pos k + 1)) k (ix (ix C.progs k) (ix c.pos k))) else settleTo C 100 (spentM c m k n) := by
 unfold ranM spentM
 rw [hm]
 rfl
structure Runs (C : CC) (c : CM) (m : SlM) (k : Int) : Prop where
 hm : c.slk = some m
 h3 : c.mode = 3
 pk : pickM c = k
 hk : inR C.progs k
 ms : inR m.ms k
 rs : inR c.rest k
 w1 : wantM c ≤ ix c.rest k
 w2 : wantM c ≤ (ix m.ms k).1
 w3 : wantM c ≤ m.room
 we : wantM c = min3 (ix c.rest k) (ix m.ms k).1 m.room
theorem runs_of (hi : Inv C c) (hw : ¬ wantM c < 1) : ∃ m, Runs C c m (pickM c) := by
 obtain ⟨m, hm, h3, hp, hwm⟩ := want_of hw
 have hk : inR C.progs (pickM c) := first_in hi.ok hp
 have hms : inR m.ms (pickM c) := by unfold inR at *; rw [hi.S m hm]; exact hk
 have ho : ofM m (pickM c) = (ix m.ms (pickM c)).1 := by unfold ofM; rw [if_pos hms]
 rw [ho] at hwm
 obtain ⟨q1, q2, q3, _⟩ := @min3_le (ix c.rest (pickM c)) (ix m.ms (pickM c)).1 m.room
 exact ⟨m, hm, h3, rfl, hk, hms, by unfold inR at *; rw [hi.ok.rest]; exact hk, by omega, by omega, by omega, hwm⟩
theorem min3_sub {a b c n : Int} : min3 (a - n) (b - n) (c - n) = min3 a b c - n := by
 unfold min3
 split <;> split <;> split <;> split <;> omega
theorem spent_want (hr : Runs C c m k) (h0 : 0 ≤ n) (hn : n ≤ wantM c) : wantM (spentM c m k n) = wantM c - n ∧ ofC (spentM c m k n) k = (ix m.ms k).1 - n := by
 have hp : pickM (spentM c m k n) = k := hr.pk
 have h1 := hr.w2
 have h2 := hr.w3
 have e1 : spM m.room m.ms k n = n := by
  unfold spM
  rw [if_pos hr.ms]
  split
  ·omega
  ·unfold min3; split <;> split <;> omega
 have hms : inR (spMs m.room m.ms k n) k := by unfold inR; rw [spMs_len]; exact hr.ms
 have e2 : (ix (spMs m.room m.ms k n) k).1 = (ix m.ms k).1 - n := by
  have e3 : spM m.room m.ms k n = n := e1
  unfold spMs
  unfold spM at e3
  rw [if_pos hr.ms] at e3 ⊢
  split
  ·rename_i h; rw [if_pos h] at e3; omega
  ·rename_i h
   rw [if_neg h] at e3
   rw [e3, ix_setR hr.ms hr.ms.1, if_pos rfl]
 have e3 : ofM (spendM m k n) k = (ix m.ms k).1 - n := by unfold ofM spendM; simp only; rw [if_pos hms, e2]
 refine ⟨?_, e3⟩
 have hx : wantM (spentM c m k n) = (if c.mode = 3 then (if pickM (spentM c m k n) < 0 then 0 else min3 (ix (c.rest.set k.toNat (ix c.rest k - n)) (pickM (spentM c m k n))) (ofM (spendM m k n) (pickM (spentM c m k n))) (spendM m k n).room) else 0) := rfl
 rw [hx, hp, if_pos hr.h3, if_neg (by have := hr.hk.1; omega), ix_setR hr.rs hr.rs.1, if_pos rfl, e3]
 show min3 _ _ (m.room - spM m.room m.ms k n) = _
 rw [e1, min3_sub, ← hr.we]
theorem spent_stop (hr : Runs C c m k) (h0 : 0 ≤ n) (hn : n < wantM c) : ∀ i, settleTo C i (spentM c m k n) = spentM c m k n := by
 have hp : pickM (spentM c m k n) = k := hr.pk
 have h2 := hr.w2
 refine settle_stop (.inr (.inr ?_))
 rw [hp, (spent_want hr h0 (by omega)).2]
 omega
theorem ran_less (hr : Runs C c m k) (h0 : 0 ≤ n) (hn : n < wantM c) : ranM C c k n = spentM c m k n := by
 have h1 := hr.w1
 rw [ran_eq hr.hm, if_neg (by omega), spent_stop hr h0 hn]
theorem ran_ran (hr : Runs C c m k) {a b : Int} (ha : 0 ≤ a) (hb : 1 ≤ b) (hn : a + b ≤ wantM c) : ranM C (spentM c m k a) k b = ranM C c k (a + b) := by
 have h1 := hr.w2
 have h2 := hr.w3
 have e : spentM (spentM c m k a) (spendM m k a) k b = spentM c m k (a + b) := by
  have er : (c.rest.set k.toNat (ix c.rest k - a)).set k.toNat (ix (c.rest.set k.toNat (ix c.rest k - a)) k - b) = c.rest.set k.toNat (ix c.rest k - (a + b)) := by rw [ix_setR hr.rs hr.rs.1, if_pos rfl, List.set_set, Int.sub_sub]
  show { c with slk := some (spendM (spendM m k a) k b), rest := (c.rest.set k.toNat (ix c.rest k - a)).set k.toNat (ix (c.rest.set k.toNat (ix c.rest k - a)) k - b) } = { c with slk := some (spendM m k (a + b)), rest := c.rest.set k.toNat (ix c.rest k - (a + b)) }
  rw [spend_spend hr.ms ha hb (by omega) (by omega), er]
 have e2 : ix (spentM c m k a).rest k = ix c.rest k - a := by
  show ix (c.rest.set k.toNat (ix c.rest k - a)) k = _
  rw [ix_setR hr.rs hr.rs.1, if_pos rfl]
 rw [ran_eq (m := spendM m k a) rfl, ran_eq hr.hm, e, e2, Int.sub_sub]
 rfl
end
def cycTo (C : CC) (c : CM) : Nat → CM
 | 0 => c
 | n + 1 => cycM C (cycTo C c n)
section
variable {C : CC} {c c' : CM} {k j n : Int} {m : SlM} {i : Nat}
theorem want_in (hi : Inv C c) (hr : okR1 c) : 0 ≤ wantM c := by
 unfold wantM
 split
 ·rename_i m hm
  split
  ·split
   ·decide
   ·rename_i h3 h0
    have hk : inR C.progs (pickM c) := first_in hi.ok h0
    have hrs : inR c.rest (pickM c) := by unfold inR at *; rw [hi.ok.rest]; exact hk
    have h1 := hr _ (List.mem_of_getElem? (ix_some hrs.1 hrs.2))
    have h2 := hi.sl m hm
    have h4 := sl_ix h2 (pickM c)
    have h5 : 0 ≤ ofM m (pickM c) := by unfold ofM; split <;> omega
    obtain ⟨_, _, _, q4⟩ := @min3_le (ix c.rest (pickM c)) (ofM m (pickM c)) m.room
    exact q4 (by omega) h5 h2.r.1
  ·decide
 ·decide
theorem cyc_want (hi : Inv C c) (hr : okR1 c) : cycV c = decide (1 ≤ wantM c) := by
 by_cases hw : whoM c < 0
 ·rw [(cyc_no (C := C) hw).2, want_zero hw]; rfl
 ·obtain ⟨m, hm, h3, hp⟩ := who_cases hw
  have h0 : ¬ pickM c < 0 := by omega
  have hk : inR C.progs (pickM c) := first_in hi.ok h0
  have hms : inR m.ms (pickM c) := by unfold inR at *; rw [hi.S m hm]; exact hk
  have hrs : inR c.rest (pickM c) := by unfold inR at *; rw [hi.ok.rest]; exact hk
  have h1 := hr _ (List.mem_of_getElem? (ix_some hrs.1 hrs.2))
  have h2 := (hi.sl m hm).r
  have h4 := sl_ix (hi.sl m hm) (pickM c)
  have e1 : wantM c = min3 (ix c.rest (pickM c)) (ix m.ms (pickM c)).1 m.room := by
   unfold wantM ofM
   rw [hm]
   simp only
   rw [if_pos h3, if_neg h0, if_pos hms]
  have e2 : spM m.room m.ms (whoM c) 1 = min3 1 m.room (ix m.ms (pickM c)).1 := by
   unfold spM
   rw [hp, if_pos hms, if_neg (by decide)]
  have e3 : (1 ≤ wantM c) ↔ spM m.room m.ms (whoM c) 1 = 1 := by
   rw [e1, e2]
   unfold min3
   constructor
   ·intro h
    split at h <;> split at h <;> split <;> split <;> omega
   ·intro h
    split at h <;> split at h <;> split <;> split <;> omega
  unfold cycV
  rw [hm]
  simp only
  rw [decide_eq_true hw, Bool.true_and]
  exact decide_eq_decide.2 e3.symm
theorem cyc_one (hi : Inv C c) (hr : okR1 c) (hw : 1 ≤ wantM c) : cycM C c = ranM C c (pickM c) 1 := by
 have hv := cyc_want hi hr
 rw [decide_eq_true hw] at hv
 by_cases h0 : whoM c < 0
 ·rw [(cyc_no (C := C) h0).2] at hv; cases hv
 ·obtain ⟨m, hm, h3, hp⟩ := who_cases h0
  by_cases hs : spM m.room m.ms (whoM c) 1 = 1
  ·rw [(cyc_yes (C := C) h0 hm hs).1, hp]
  ·rw [(cyc_out (C := C) h0 hm hs).2] at hv; cases hv
theorem cyc_stop (hi : Inv C c) (hr : okR1 c) (hw : ¬ 1 ≤ wantM c) : cycM C c = c := by
 have hv := cyc_want hi hr
 rw [decide_eq_false hw] at hv
 by_cases h0 : whoM c < 0
 ·exact (cyc_no (C := C) h0).1
 ·obtain ⟨m, hm, h3, hp⟩ := who_cases h0
  by_cases hs : spM m.room m.ms (whoM c) 1 = 1
  ·rw [(cyc_yes (C := C) h0 hm hs).2] at hv; cases hv
  ·rw [(cyc_out (C := C) h0 hm hs).1]
   have hk : inR C.progs (pickM c) := first_in hi.ok (show ¬ pickM c < 0 by omega)
   have hms : inR m.ms (whoM c) := by rw [hp]; unfold inR at *; rw [hi.S m hm]; exact hk
   have h2 := (hi.sl m hm).r
   have h4 := sl_ix (hi.sl m hm) (whoM c)
   have e : spM m.room m.ms (whoM c) 1 = 0 ∧ min3 1 m.room (ix m.ms (whoM c)).1 = 0 := by
    unfold spM at hs ⊢
    rw [if_pos hms, if_neg (by decide)] at hs ⊢
    have : min3 1 m.room (ix m.ms (whoM c)).1 = 0 := by
     obtain ⟨q1, _, _, q4⟩ := @min3_le 1 m.room (ix m.ms (whoM c)).1
     have := q4 (by decide) h2.1 h4.1
     omega
    exact ⟨this, this⟩
   have e2 : spendM m (whoM c) 1 = m := by
    unfold spendM
    rw [e.1]
    unfold spMs
    rw [if_pos hms, if_neg (by decide), e.2, Int.sub_zero, Int.sub_zero]
    have hx := ix_some hms.1 hms.2
    rw [show ((ix m.ms (whoM c)).1, (ix m.ms (whoM c)).2) = ix m.ms (whoM c) from rfl]
    have : m.ms.set (whoM c).toNat (ix m.ms (whoM c)) = m.ms := by
     apply List.ext_getElem?
     intro i
     rw [List.getElem?_set]
     split
     ·rename_i e; subst e
      split
      ·exact hx.symm
      ·rename_i h; exact (List.getElem?_eq_none (Nat.le_of_not_lt h)).symm
     ·rfl
    rw [this]
   rw [e2, ← hm]
theorem spent_inv (hr : Runs C c m k) (hi : Inv C c) : Inv C (spentM c m k n) := by
 have hd : ∀ j, (ix (spMs m.room m.ms k n) j).2 = (ix m.ms j).2 ∨ ¬ inR m.ms j := fun j => by
  by_cases hj : inR m.ms j
  ·left
   have h1 : inR (spMs m.room m.ms k n) j := by unfold inR; rw [spMs_len]; exact hj
   have e := congrArg (fun l => ix l j) (spMs_done (m := m) (k := k) (n := n))
   simp only [doneL] at e
   rw [ixR h1, ixR hj] at e
   exact e
  ·exact .inr hj
 refine ⟨okM_spent hi.ok, hi.dp, hi.p, okS_spent hi.S hr.hm, fun m' hm' => ?_, fun m' hm' j hj hd' => ?_⟩
 ·have : some (spendM m k n) = some m' := hm'
  cases this
  exact okSl_spend (hi.sl m hr.hm)
 ·have : some (spendM m k n) = some m' := hm'
  cases this
  refine hi.sd m hr.hm j hj ?_
  rcases hd j with h | h
  ·rw [← h]; exact hd'
  ·exact absurd (show inR m.ms j from by unfold inR at *; rw [hi.S m hr.hm]; exact hj) h
theorem ran_inv (hc : okC C) (hr : Runs C c m k) (hi : Inv C c) (h1 : okR1 c) (h00 : 0 ≤ n) (hn : n ≤ wantM c) :
  Rch C 122 (spentM c m k n) (ranM C c k n) ∧ okR1 (ranM C c k n) := by
 have h0 := spent_inv (n := n) hr hi
 have hr1 := hr.w1
 rw [ran_eq hr.hm]
 split
 ·rename_i he
  have hpi : 0 ≤ ix c.pos k ∧ ix c.pos k < (ix C.progs k).length := by
   rcases hi.ok.pi k with h | h
   ·exact h
   ·exact absurd hr.hk h
  have hsok : (ix (ix C.progs k) (ix c.pos k)).ok := (hc.pr _ (progs_in hr.hk)).2.2 _ (List.mem_of_getElem? (ix_some hpi.1 hpi.2))
  have a1 : Rch C 0 (spentM c m k n) (toM C (spentM c m k n) k (ix c.pos k + 1)) := .to _ k _ hr.hk (by omega) (by omega)
  have i1 := a1.inv hc h0
  have a2 := rch_call (C := C) hc hr.hk hsok i1.p
  have a3 := rch_settle hc 100 _ (a2.ok hc i1.ok)
  refine ⟨.le (.trans a1 (.trans a2 a3)) (by omega), a3.r1 (a2.r1 ?_)⟩
  intro x hx
  have hx' : x ∈ (c.rest.set k.toNat (ix c.rest k - n)).set k.toNat (clampC (ix (ix C.progs k) (atM (ix C.progs k) (ix c.pos k + 1))).cycles) := hx
  rw [List.set_set] at hx'
  rcases List.mem_or_eq_of_mem_set hx' with h' | rfl
  ·exact h1 x h'
  ·exact clampC_in
 ·rename_i he
  have a3 := rch_settle hc 100 _ h0.ok
  refine ⟨.le a3 (by omega), a3.r1 fun x hx => ?_⟩
  rcases List.mem_or_eq_of_mem_set hx with h' | rfl
  ·exact h1 x h'
  ·have := h1 _ (List.mem_of_getElem? (ix_some hr.rs.1 hr.rs.2))
   omega
theorem cyc_inv (hc : okC C) (hi : Inv C c) (h1 : okR1 c) : Inv C (cycM C c) ∧ okR1 (cycM C c) ∧ (cycM C c).evs.length ≤ c.evs.length + 122 := by
 by_cases hw : 1 ≤ wantM c
 ·obtain ⟨m, hr⟩ := runs_of hi (by omega)
  rw [cyc_one hi h1 hw]
  obtain ⟨a, b⟩ := ran_inv hc hr hi h1 (by decide) hw
  exact ⟨a.inv hc (spent_inv hr hi), b, a.ev⟩
 ·rw [cyc_stop hi h1 hw]
  exact ⟨hi, h1, by omega⟩
theorem cycTo_inv (hc : okC C) (hi : Inv C c) (h1 : okR1 c) : ∀ i, Inv C (cycTo C c i) ∧ okR1 (cycTo C c i)
 | 0 => ⟨hi, h1⟩
 | i + 1 => by
  obtain ⟨a, b⟩ := cycTo_inv hc hi h1 i
  exact ⟨(cyc_inv hc a b).1, (cyc_inv hc a b).2.1⟩
theorem cycTo_add : ∀ j, cycTo C c (i + j) = cycTo C (cycTo C c i) j
 | 0 => rfl
 | j + 1 => congrArg (cycM C) (cycTo_add j)
theorem cycTo_less (hc : okC C) (hi : Inv C c) (h1 : okR1 c) (hr : Runs C c m k) : ∀ i : Nat, 1 ≤ i → (i : Int) ≤ wantM c → cycTo C c i = ranM C c k i
 | 0, h, _ => by omega
 | 1, _, h => by
  show cycM C c = _
  rw [cyc_one hi h1 h, hr.pk]
  rfl
 | i + 2, _, h => by
  have ih := cycTo_less hc hi h1 hr (i + 1) (by omega) (by omega)
  show cycM C (cycTo C c (i + 1)) = _
  obtain ⟨a, b⟩ := cycTo_inv hc hi h1 (i + 1)
  rw [ran_less hr (by omega) (by omega)] at ih
  rw [ih] at a b ⊢
  have hw := (spent_want hr (n := ((i + 1 : Nat) : Int)) (by omega) (by omega)).1
  rw [cyc_one a b (by omega)]
  have hp : pickM (spentM c m k ((i + 1 : Nat) : Int)) = k := hr.pk
  rw [hp, ran_ran hr (by omega) (by decide) (by omega)]
  congr 1
theorem cycTo_runs (hc : okC C) (hi : Inv C c) (h1 : okR1 c) (hr : Runs C c m k) : ∀ i : Nat, (i : Int) < wantM c → cycV (cycTo C c i) = true ∧ (cycTo C c i).evs = c.evs := by
 intro i h
 obtain ⟨a, b⟩ := cycTo_inv hc hi h1 i
 rw [cyc_want a b]
 rcases Nat.eq_zero_or_pos i with rfl | h0
 ·exact ⟨decide_eq_true (by show 1 ≤ wantM c; omega), rfl⟩
 ·rw [cycTo_less hc hi h1 hr i h0 (by omega), ran_less hr (by omega) h]
  exact ⟨decide_eq_true (by rw [(spent_want hr (by omega) (by omega)).1]; omega), rfl⟩
theorem ranA_cyc (hc : okC C) (hi : Inv C c) (h1 : okR1 c) {cyc : Int} : ∃ t : Nat, (t : Int) = ranR c cyc ∧ ranA C c cyc = cycTo C c t ∧ (t : Int) ≤ wantM c ∧ (∀ j : Nat, j < t → cycV (cycTo C c j) = true) ∧ Inv C (ranA C c cyc) ∧ okR1 (ranA C c cyc) ∧ (ranA C c cyc).evs.length ≤ c.evs.length + 122 := by
 have hw0 := want_in hi h1
 unfold ranA ranR
 by_cases h : ranN c cyc < 1
 ·rw [if_pos h, if_pos h]
  exact ⟨0, rfl, rfl, hw0, fun j hj => absurd hj (Nat.not_lt_zero _), hi, h1, by omega⟩
 ·rw [if_neg h, if_neg h]
  have hn : ranN c cyc ≤ wantM c := by unfold ranN; split <;> omega
  obtain ⟨m, hr⟩ := runs_of hi (by omega)
  obtain ⟨t, ht⟩ : ∃ t : Nat, (t : Int) = ranN c cyc := ⟨(ranN c cyc).toNat, by omega⟩
  rw [← ht] at hn h ⊢
  obtain ⟨a, b⟩ := ran_inv hc hr hi h1 (by omega) hn
  exact ⟨t, rfl, (cycTo_less hc hi h1 hr t (by omega) hn).symm, hn, fun j hj => (cycTo_runs hc hi h1 hr j (by omega)).1, a.inv hc (spent_inv hr hi), b, a.ev⟩
theorem spent_room (hr : Runs C c m k) (h0 : 0 ≤ n) (hn : n ≤ wantM c) : roomM (spentM c m k n) = roomM c - n := by
 have h1 := hr.w2
 have h2 := hr.w3
 have e1 : roomM (spentM c m k n) = m.room - spM m.room m.ms k n := rfl
 have e2 : roomM c = m.room := by unfold roomM; rw [hr.hm]
 rw [e1, e2]
 unfold spM
 rw [if_pos hr.ms]
 split
 ·omega
 ·have : min3 n m.room (ix m.ms k).1 = n := by unfold min3; split <;> split <;> omega
  rw [this]
theorem ran_room (hc : okC C) (hr : Runs C c m k) (hi : Inv C c) (h1 : okR1 c) (h0 : 0 ≤ n) (hn : n ≤ wantM c) : roomM (ranM C c k n) = roomM c - n := by
 rw [(ran_inv hc hr hi h1 (by omega) hn).1.room, spent_room hr h0 hn]
theorem room_in (hi : Inv C c) : 0 ≤ roomM c := by
 unfold roomM
 split
 ·rename_i m hm; exact (hi.sl m hm).r.1
 ·decide
theorem want_room (hi : Inv C c) (hw : 1 ≤ wantM c) : wantM c ≤ roomM c := by
 obtain ⟨m, hr⟩ := runs_of hi (by omega)
 have e2 : roomM c = m.room := by unfold roomM; rw [hr.hm]
 rw [e2]; exact hr.w3
theorem ranA_room (hc : okC C) (hi : Inv C c) (h1 : okR1 c) {cyc : Int} : roomM (ranA C c cyc) = roomM c - ranR c cyc := by
 unfold ranA ranR
 by_cases h : ranN c cyc < 1
 ·rw [if_pos h, if_pos h]; omega
 ·rw [if_neg h, if_neg h]
  have hn : ranN c cyc ≤ wantM c := by unfold ranN; split <;> omega
  obtain ⟨m, hr⟩ := runs_of hi (by omega)
  exact ran_room hc hr hi h1 (by omega) hn
theorem ends_once {a b : Nat} (ha : ∀ j : Nat, j < a → cycV (cycTo C c j) = true) (hb : ∀ j : Nat, j < b → cycV (cycTo C c j) = true) (ea : cycV (cycTo C c a) = false) (eb : cycV (cycTo C c b) = false) : a = b := by
 rcases Nat.lt_trichotomy a b with h | h | h
 ·have := hb a h; rw [ea] at this; cases this
 ·exact h
 ·have := ha b h; rw [eb] at this; cases this
end
theorem all_of {α : Type} [Inhabited α] {p : α → Prop} {xs : List α} {n : Nat} (hn : n = xs.length) (h : ∀ j : Nat, j < n → p (ix xs (j : Int))) : ∀ x ∈ xs, p x := fun x hx => by
 obtain ⟨j, hj, e⟩ := List.mem_iff_getElem.1 hx
 have := h j (by omega)
 unfold ix at this
 rw [Int.toNat_natCast, List.getD_eq_getElem?_getD, List.getElem?_eq_getElem hj, e] at this
 exact this
theorem all_succ {p : Nat → Prop} {k : Nat} (h : ∀ j : Nat, j < k → p j) (hk : p k) : ∀ j : Nat, j < k + 1 → p j := fun j hj => by
 by_cases e : j = k
 ·rw [e]; exact hk
 ·exact h j (by omega)
end Go.Proofs.YtacmaamllpiloaaGreat
