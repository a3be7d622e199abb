import Derived.Test.YtlmcoiloepoggaaQE
namespace Go.Proofs.Ytlmcoiloepoggaa
open Go Go.Wk
theorem wr (T : Int) (h0 : 0 ≤ T) (h1 : T ≤ 1000000) : IntKind.i64.wrap (T + 1) = T + 1 := wrap_id (by omega) (by omega)
/-- Turns grow slowly. -/
def Tb.mild (t : Tb) (n : Nat) : Prop := 0 ≤ t.turns ∧ t.turns ≤ n
theorem mild_put {t : Tb} {n : Nat} (h : t.mild n) (hn : n ≤ 100000) (k : Int) (p : One) (s : Int) : (t.put k p s).mild (n + 1) := by
  obtain ⟨h0, h1⟩ := h
  unfold Tb.mild Tb.put Tb.putT
  simp only
  split
  · rw [wr _ h0 (by omega)]; omega
  · omega
theorem mild_mono {t : Tb} {n m : Nat} (h : t.mild n) (hm : n ≤ m) : t.mild m := ⟨h.1, by have := h.2; omega⟩
theorem freeTo_turns (t : Tb) : ∀ k, (t.freeTo k).turns = t.turns
  | 0 => rfl
  | k + 1 => by simp [Tb.freeTo, freeTo_turns t k]
theorem mild_rel {t : Tb} {n : Nat} (h : t.mild n) (hn : n ≤ 90000) (win : Int) : ∀ k, k ≤ 8 → (t.relTo win k).t.mild (n + k)
  | 0, _ => h
  | k + 1, hk => by
    have ih := mild_rel h hn win k (by omega)
    simp only [Tb.relTo, Rl.step]
    split
    · exact mild_mono ih (by omega)
    · split
      · have h2 : ({ (t.relTo win k).t with d := (t.relTo win k).t.d.set k { (t.relTo win k).t.at k with next := IntKind.i64.wrap (win + ((t.relTo win k).t.at k).period) } } : Tb).mild (n + k) := ih
        exact mild_put h2 (by omega) _ _ _
      · exact mild_mono (show ({ (t.relTo win k).t with d := (t.relTo win k).t.d.set k { (t.relTo win k).t.at k with next := IntKind.i64.wrap (win + ((t.relTo win k).t.at k).period) } } : Tb).mild (n + k) from ih) (by omega)
theorem mild_act {t : Tb} {n : Nat} (h : t.mild n) (hn0 : n ≤ 90000) (hl : t.d.length ≤ 8) (a : ActP) : (t.act a).mild (n + 8) := by
  have hn : n ≤ 100000 := by omega
  unfold Tb.act
  repeat' split
  · unfold Tb.start; split
    · exact mild_mono (mild_put h hn _ _ _) (by omega)
    · exact mild_mono h (by omega)
  · unfold Tb.set; split
    · exact mild_mono (mild_put h hn _ _ _) (by omega)
    · exact mild_mono h (by omega)
  · unfold Tb.wait; split
    · exact mild_mono (mild_put h hn _ _ _) (by omega)
    · exact mild_mono h (by omega)
  · unfold Tb.rank; split
    · exact mild_mono (show ({ t with d := _ } : Tb).mild n from h) (by omega)
    · exact mild_mono h (by omega)
  · unfold Tb.park; split
    · exact mild_mono (show ({ t with d := _ } : Tb).mild n from h) (by omega)
    · exact mild_mono h (by omega)
  · exact mild_mono (show (t.freeTo _).mild n from ⟨by rw [freeTo_turns]; exact h.1, by rw [freeTo_turns]; exact h.2⟩) (by omega)
  · exact mild_mono h (by omega)
  · exact mild_mono (mild_rel h hn0 _ _ hl) (by omega)

theorem at_set {t : Tb} {k j : Nat} {x : One} (hk : k < t.d.length) : ({ t with d := t.d.set k x } : Tb).at j = if j = k then x else t.at j := by
  unfold Tb.at
  simp only [Int.natCast_nonneg, if_true, Int.toNat_natCast, List.getD_eq_getElem?_getD, List.getElem?_set]
  by_cases h : k = j
  · subst h; simp [hk]
  · have h2 : ¬ j = k := fun e => h e.symm
    simp [h, h2]
theorem at_put {t : Tb} {k j : Nat} {p : One} {s : Int} (hk : k < t.d.length) : (t.put k p s).at j = if j = k then t.putP p s else t.at j := at_set (t := ⟨t.d, t.putT s⟩) hk
theorem setB_in {t : Tb} {k : Nat} {s : Int} (hk : k < t.d.length) (hs : s = 1 ∨ s = 3) : t.setB k s = true := by
  have h1 : t.has (k : Int) = true := by simp [Tb.has]; omega
  rcases hs with rfl | rfl <;> simp [Tb.setB, h1]
theorem rankB_in {t : Tb} {k : Nat} (hk : k < t.d.length) : t.rankB k 7 = true := by
  have h1 : t.has (k : Int) = true := by simp [Tb.has]; omega
  simp [Tb.rankB, h1]
/-- Everyone suspended, of rank 7. -/
def Tb.calm (t : Tb) : Nat → Tb
  | 0 => t
  | k + 1 => ((t.calm k).set k 3).rank k 7
theorem calm_spec (t : Tb) : ∀ k, k ≤ t.d.length → (t.calm k).d.length = t.d.length ∧ (t.calm k).turns = t.turns ∧ (∀ j : Nat, ((t.calm k).at j).parked = (t.at j).parked) ∧
    ∀ j : Nat, j < k → ((t.calm k).at j).state = 3 ∧ ((t.calm k).at j).prio = 7
  | 0, _ => ⟨rfl, rfl, fun _ => rfl, fun j h => by omega⟩
  | k + 1, hk => by
    obtain ⟨h1, h2, h3, h4⟩ := calm_spec t k (by omega)
    have hkl : k < (t.calm k).d.length := by omega
    simp only [Tb.calm]
    generalize t.calm k = c at *
    have hs : c.set k 3 = c.put k (c.at k) 3 := by unfold Tb.set; rw [if_pos (setB_in hkl (.inr rfl))]
    rw [hs]
    have hpl : (c.put k (c.at k) 3).d.length = c.d.length := by simp [Tb.put]
    have hr : (c.put k (c.at k) 3).rank k 7 = { c.put k (c.at k) 3 with d := (c.put k (c.at k) 3).d.set k { (c.put k (c.at k) 3).at k with prio := 7 } } := by
      unfold Tb.rank; rw [if_pos (rankB_in (by omega))]; simp
    rw [hr]
    have hat : ∀ j : Nat, ({ c.put k (c.at k) 3 with d := (c.put k (c.at k) 3).d.set k { (c.put k (c.at k) 3).at k with prio := 7 } } : Tb).at j = if j = k then { c.putP (c.at k) 3 with prio := 7 } else c.at j := fun j => by
      rw [at_set (by omega)]
      by_cases hj : j = k
      · rw [if_pos hj, if_pos hj, at_put hkl, if_pos rfl]
      · rw [if_neg hj, if_neg hj, at_put hkl, if_neg hj]
    refine ⟨by simp [Tb.put, h1], by simp [Tb.put, Tb.putT, h2], fun j => ?_, fun j hj => ?_⟩
    · rw [hat]
      split
      · rename_i hj; subst hj; simp [Tb.putP, h3]
      · exact h3 j
    · rw [hat]
      split
      · rename_i hj; subst hj; simp [Tb.putP]
      · exact h4 j (by omega)
theorem freeTo_parked (t : Tb) : ∀ k, k ≤ t.d.length → ∀ j : Nat, j < k → ((t.freeTo k).at j).parked = false
  | 0, _, j, h => by omega
  | k + 1, hk, j, hj => by
    have hl := freeTo_len t k
    simp only [Tb.freeTo]
    rw [at_set (by omega)]
    split
    · rfl
    · exact freeTo_parked t k (by omega) j (by omega)
theorem at_beyond {t : Tb} {j : Nat} (h : t.d.length ≤ j) : t.at j = One.zero := by
  unfold Tb.at
  simp [List.getD_eq_getElem?_getD, List.getElem?_eq_none h]
theorem ahead_iff {p q : One} : p.ahead q = true ↔ q.prio < p.prio ∨ (p.prio = q.prio ∧ p.turn < q.turn) := by
  unfold One.ahead
  split
  · rename_i h; simp [h]
  · rename_i h; simp [h]
/-- Nobody of whom it is so stands ahead of the best. -/
theorem best_first (t : Tb) (q : One → Bool) : ∀ k : Nat, (t.bestTo q k = -1 ∨ (0 ≤ t.bestTo q k ∧ t.bestTo q k < k ∧ q (t.at (t.bestTo q k)) = true)) ∧ ∀ j : Nat, j < k → q (t.at j) = true → 0 ≤ t.bestTo q k ∧ ¬ (t.at j).ahead (t.at (t.bestTo q k)) = true
  | 0 => ⟨.inl rfl, fun j h => by omega⟩
  | k + 1 => by
    obtain ⟨h1, h2⟩ := best_first t q k
    simp only [Tb.bestTo]
    generalize t.bestTo q k = b at h1 h2 ⊢
    have hself : ∀ p : One, ¬ p.ahead p = true := fun p h => by rw [ahead_iff] at h; omega
    by_cases hq : q (t.at k) = true
    · by_cases hb : b < 0
      · simp only [hq, hb, decide_true, Bool.true_or, Bool.and_self, if_true]
        refine ⟨.inr ⟨by omega, by omega, trivial⟩, fun j hj hqj => ⟨by omega, ?_⟩⟩
        by_cases hjk : j = k
        · subst hjk; exact hself _
        · have := h2 j (by omega) hqj; omega
      · by_cases ha : (t.at k).ahead (t.at b) = true
        · simp only [hq, ha, Bool.or_true, Bool.and_self, if_true]
          refine ⟨.inr ⟨by omega, by omega, trivial⟩, fun j hj hqj => ⟨by omega, ?_⟩⟩
          by_cases hjk : j = k
          · subst hjk; exact hself _
          · have := (h2 j (by omega) hqj).2
            rw [ahead_iff] at this ha ⊢; omega
        · have ha' := ha
          simp only [Bool.not_eq_true] at ha'
          have hb2 : decide (b < 0) = false := by simpa using hb
          simp only [hq, ha', hb2, Bool.or_false, Bool.and_false, Bool.false_eq_true, if_false]
          have hbb : 0 ≤ b ∧ b < k ∧ q (t.at b) = true := by
            rcases h1 with h1 | h1
            · omega
            · exact h1
          refine ⟨.inr ⟨by omega, by omega, hbb.2.2⟩, fun j hj hqj => ⟨by omega, ?_⟩⟩
          by_cases hjk : j = k
          · subst hjk; exact ha
          · exact (h2 j (by omega) hqj).2
    · simp only [hq, Bool.false_and, Bool.false_eq_true, if_false]
      refine ⟨h1.imp id fun h => ⟨h.1, by omega, h.2.2⟩, fun j hj hqj => ?_⟩
      by_cases hjk : j = k
      · subst hjk; exact absurd hqj hq
      · exact h2 j (by omega) hqj
/-- Who is best, where it is so of these alone, and one stands ahead of the other. -/
theorem best_none {t : Tb} {q : One → Bool} (h : ∀ j : Nat, j < t.d.length → q (t.at j) = false) : t.best q = -1 := by
  obtain ⟨h1, _⟩ := best_first t q t.d.length
  rcases h1 with h1 | ⟨h1, h2, h3⟩
  · exact h1
  · have := h (t.bestTo q t.d.length).toNat (by omega)
    rw [show (((t.bestTo q t.d.length).toNat : Nat) : Int) = t.bestTo q t.d.length by omega, h3] at this
    cases this
theorem best_two {t : Tb} {q : One → Bool} {x : Nat} (y : Nat) (hx : x < t.d.length) (hqx : q (t.at x) = true) (h : ∀ j : Nat, j < t.d.length → q (t.at j) = true → j = x ∨ j = y) (ha : y ≠ x → (t.at x).ahead (t.at y) = true) : t.best q = x := by
  obtain ⟨h1, h2⟩ := best_first t q t.d.length
  obtain ⟨h3, h4⟩ := h2 x hx hqx
  rcases h1 with h1 | ⟨_, h5, h6⟩
  · omega
  · have hbn : (((t.bestTo q t.d.length).toNat : Nat) : Int) = t.bestTo q t.d.length := by omega
    have := h (t.bestTo q t.d.length).toNat (by omega) (by rw [hbn]; exact h6)
    rcases this with e | e
    · show t.bestTo q t.d.length = x; omega
    · by_cases hyx : y = x
      · show t.bestTo q t.d.length = x; omega
      · have hb : t.bestTo q t.d.length = y := by omega
        rw [hb] at h4
        exact absurd (ha hyx) h4
theorem set1 {t : Tb} {k : Nat} (hk : k < t.d.length) : t.set k 1 = t.put k (t.at k) 1 := by unfold Tb.set; rw [if_pos (setB_in hk (.inl rfl))]
/-- All suspended, none parked; x, then y made ready: x is best; x once more: y is. -/
theorem turns_spec {t : Tb} {x y : Nat} (hx : x < t.d.length) (hy : y < t.d.length) (hm : t.mild 1000) (hs : ∀ j : Nat, j < t.d.length → (t.at j).state = 3 ∧ (t.at j).prio = 7 ∧ (t.at j).parked = false) :
    t.best One.ready = -1 ∧ ((t.set x 1).set y 1).best One.ready = x ∧ (x ≠ y → (((t.set x 1).set y 1).set x 1).best One.ready = y) := by
  obtain ⟨hm0, hm1⟩ := hm
  have w1 := wr t.turns hm0 (by omega)
  have w2 := wr (t.turns + 1) (by omega) (by omega)
  have w3 := wr (t.turns + 2) (by omega) (by omega)
  have l1 : (t.put x (t.at x) 1).d.length = t.d.length := by simp [Tb.put]
  have l2 : ∀ p, ((t.put x (t.at x) 1).put y p 1).d.length = t.d.length := fun p => by simp [Tb.put]
  have l3 : ∀ p p', (((t.put x (t.at x) 1).put y p 1).put x p' 1).d.length = t.d.length := fun p p' => by simp [Tb.put]
  rw [set1 hx, set1 (t := t.put x (t.at x) 1) (by omega), set1 (t := (t.put x (t.at x) 1).put y _ 1) (by rw [l2]; exact hx)]
  have e1 : (t.put x (t.at x) 1).turns = t.turns + 1 := by simp [Tb.put, Tb.putT, w1]
  have e2 : ∀ p, ((t.put x (t.at x) 1).put y p 1).turns = t.turns + 2 := fun p => by
    have : ((t.put x (t.at x) 1).put y p 1).turns = IntKind.i64.wrap ((t.put x (t.at x) 1).turns + 1) := by simp [Tb.put, Tb.putT]
    rw [this, e1, w2]; omega
  have pr : ∀ (u : Tb) (p : One), (u.putP p 1).state = 1 ∧ (u.putP p 1).prio = p.prio ∧ (u.putP p 1).parked = p.parked ∧ (u.putP p 1).turn = IntKind.i64.wrap (u.turns + 1) := fun u p => by simp [Tb.putP]
  have rd : ∀ p : One, p.ready = true ↔ p.state = 1 ∧ p.parked = false := fun p => by simp [One.ready]
  have a1 : ∀ j : Nat, (t.put x (t.at x) 1).at j = if j = x then t.putP (t.at x) 1 else t.at j := fun j => at_put hx
  have a2 : ∀ (p : One) (j : Nat), ((t.put x (t.at x) 1).put y p 1).at j = if j = y then (t.put x (t.at x) 1).putP p 1 else (t.put x (t.at x) 1).at j := fun p j => at_put (by omega)
  have a3 : ∀ (p p' : One) (j : Nat), (((t.put x (t.at x) 1).put y p 1).put x p' 1).at j = if j = x then ((t.put x (t.at x) 1).put y p 1).putP p' 1 else ((t.put x (t.at x) 1).put y p 1).at j := fun p p' j => at_put (by rw [l2]; exact hx)
  have px := pr t (t.at x)
  have hsx := hs x hx
  have hsy := hs y hy
  refine ⟨best_none fun j hj => ?_, ?_, fun hxy => ?_⟩
  · have := hs j hj
    cases hr : (t.at j).ready
    · rfl
    · rw [rd] at hr; omega
  · have py := pr (t.put x (t.at x) 1) ((t.put x (t.at x) 1).at y)
    rw [e1, w2] at py
    refine best_two y (by rw [l2]; exact hx) ?_ (fun j hj hr => ?_) (fun hyx => ?_)
    · rw [rd, a2]
      split
      · rename_i e; subst e
        rw [a1, if_pos rfl] at py ⊢
        exact ⟨py.1, py.2.2.1.trans (px.2.2.1.trans hsx.2.2)⟩
      · rw [a1, if_pos rfl]; exact ⟨px.1, px.2.2.1.trans hsx.2.2⟩
    · rw [l2] at hj
      by_cases hjy : j = y
      · exact .inr hjy
      · by_cases hjx : j = x
        · exact .inl hjx
        · rw [rd, a2, if_neg hjy, a1, if_neg hjx] at hr
          have := hs j hj; omega
    · have vx : ∀ p, ((t.put x (t.at x) 1).put y p 1).at x = t.putP (t.at x) 1 := fun p => by rw [a2 p x, if_neg (fun e => hyx e.symm), a1 x, if_pos rfl]
      have vy : ∀ p, ((t.put x (t.at x) 1).put y p 1).at y = (t.put x (t.at x) 1).putP p 1 := fun p => by rw [a2 p y, if_pos rfl]
      have vq : (t.put x (t.at x) 1).at y = t.at y := by rw [a1 y, if_neg hyx]
      rw [ahead_iff, vx, vy]
      right
      rw [vq] at py ⊢
      exact ⟨px.2.1.trans (hsx.2.1.trans (py.2.1.trans hsy.2.1).symm), by rw [px.2.2.2, py.2.2.2, w1]; omega⟩
  · have hyx : ¬ y = x := fun e => hxy e.symm
    have py := pr (t.put x (t.at x) 1) ((t.put x (t.at x) 1).at y)
    have hq0 : (t.put x (t.at x) 1).at y = t.at y := by rw [a1 y, if_neg hyx]
    rw [e1, w2, hq0] at py
    have pz := pr ((t.put x (t.at x) 1).put y ((t.put x (t.at x) 1).at y) 1) (((t.put x (t.at x) 1).put y ((t.put x (t.at x) 1).at y) 1).at x)
    have vx : ∀ p, ((t.put x (t.at x) 1).put y p 1).at x = t.putP (t.at x) 1 := fun p => by rw [a2 p x, if_neg hxy, a1 x, if_pos rfl]
    have vy : ∀ p, ((t.put x (t.at x) 1).put y p 1).at y = (t.put x (t.at x) 1).putP p 1 := fun p => by rw [a2 p y, if_pos rfl]
    have vq : (t.put x (t.at x) 1).at y = t.at y := by rw [a1 y, if_neg hyx]
    have zy : ∀ p p', (((t.put x (t.at x) 1).put y p 1).put x p' 1).at y = (t.put x (t.at x) 1).putP p 1 := fun p p' => by rw [a3 p p' y, if_neg hyx, vy]
    have zx : ∀ p p', (((t.put x (t.at x) 1).put y p 1).put x p' 1).at x = ((t.put x (t.at x) 1).put y p 1).putP p' 1 := fun p p' => by rw [a3 p p' x, if_pos rfl]
    rw [e2, w3, vq, vx] at pz
    rw [vq]
    refine best_two x (by rw [l3]; exact hy) ?_ (fun j hj hr => ?_) (fun _ => ?_)
    · rw [rd, zy]
      exact ⟨py.1, py.2.2.1.trans hsy.2.2⟩
    · rw [l3] at hj
      by_cases hjy : j = y
      · exact .inl hjy
      · by_cases hjx : j = x
        · exact .inr hjx
        · rw [rd, a3 _ _ j, if_neg hjx, a2 _ j, if_neg hjy, a1 j, if_neg hjx] at hr
          have := hs j hj; omega
    · rw [ahead_iff, zy, zx]
      right
      rw [vx]
      exact ⟨(py.2.1.trans hsy.2.1).trans (pz.2.1.trans (px.2.1.trans hsx.2.1)).symm, by rw [py.2.2.2, pz.2.2.2]; omega⟩
end Go.Proofs.Ytlmcoiloepoggaa
