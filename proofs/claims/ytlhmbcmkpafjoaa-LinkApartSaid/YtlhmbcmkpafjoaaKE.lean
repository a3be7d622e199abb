import Derived.Test.YtlhmbcmkpafjoaaKD
namespace Go.Proofs.Ytlhmbcmkpafjoaa
open Go Go.Wk
theorem ix_set_ne2 {α : Type} [Inhabited α] {xs : List α} {k j : Int} (h0 : 0 ≤ k) (h1 : 0 ≤ j) (h : j ≠ k) (y : α) : ix (xs.set k.toNat y) j = ix xs j := by
  unfold ix
  simp only [List.getD_eq_getElem?_getD, List.getElem?_set]
  rw [if_neg (by omega)]
theorem set_ix {α : Type} [Inhabited α] {xs : List α} {k : Int} (h0 : 0 ≤ k) (h1 : k < xs.length) : xs.set k.toNat (ix xs k) = xs := by
  have hl : k.toNat < xs.length := by omega
  apply List.ext_getElem?
  intro j
  rw [List.getElem?_set]
  split
  · rename_i he; subst he; simp [hl, ix]
  · rfl
theorem canA_set {ps : List AP} {n : Nat} {k j : Int} {q i : Bool} {y : AP} (hn : n = k.toNat) (h0 : 0 ≤ k) (h1 : k < ps.length) (hc : y.c = (ix ps k).c) : canA (ps.set n y) j q i = canA ps j q i := by
  subst hn
  have hr : inR (ps.set k.toNat y) j ↔ inR ps j := by unfold inR; rw [List.length_set]
  unfold canA
  by_cases hj : inR ps j
  · rw [if_pos hj, if_pos (hr.2 hj)]
    by_cases e : j = k
    · subst e; rw [ix_set_k h0 h1, hc]
    · rw [ix_set_ne2 h0 hj.1 e]
  · rw [if_neg hj, if_neg (fun h => hj (hr.1 h))]
/-- Nothing is left to go out at this port. -/
def drd (ps : List AP) (j : Int) : Prop := (canA ps j true false = true → (ix ps j).ms = [] ∧ (ix ps j).fresh = false) ∧ (canA ps j false false = true → (ix ps j).fresh = false)
theorem drd_nil {ps : List AP} {j : Int} (h : drd ps j) : drainDA ps j = [] := by
  unfold drainDA
  split
  · rename_i hc; exact (h.1 hc).1
  · split
    · rename_i hc; rw [h.2 hc]; rfl
    · rfl
theorem drd_id {ps : List AP} {j : Int} (h : drd ps j) : drainA ps j = ps := by
  unfold drainA
  split
  · rename_i hc
    obtain ⟨h0, h1, _, _⟩ := canA_t hc
    obtain ⟨e1, e2⟩ := h.1 hc
    have : ({ ix ps j with ms := [], fresh := false } : AP) = ix ps j := by rw [← e1, ← e2]
    rw [this, set_ix h0 h1]
  · split
    · rename_i hc; rw [h.2 hc]; rfl
    · rfl
theorem drain_at {ps : List AP} {k : Int} : drainA ps k = ps ∨ ∃ y : AP, y.c = (ix ps k).c ∧ 0 ≤ k ∧ k < ps.length ∧ drainA ps k = ps.set k.toNat y := by
  unfold drainA
  split
  · rename_i hc
    obtain ⟨h0, h1, _, _⟩ := canA_t hc
    exact .inr ⟨_, by exact rfl, h0, h1, rfl⟩
  · split
    · rename_i hc
      obtain ⟨h0, h1, _, _⟩ := canA_t hc
      split
      · exact .inr ⟨_, by exact rfl, h0, h1, rfl⟩
      · exact .inl rfl
    · exact .inl rfl
theorem drain_can {ps : List AP} {k j : Int} {q i : Bool} : canA (drainA ps k) j q i = canA ps j q i := by
  rcases drain_at (ps := ps) (k := k) with h | ⟨y, hc, h0, h1, h⟩
  · rw [h]
  · rw [h, canA_set rfl h0 h1 hc]
theorem drain_ne {ps : List AP} {k j : Int} (hj : 0 ≤ j) (h : j ≠ k) : ix (drainA ps k) j = ix ps j := by
  rcases drain_at (ps := ps) (k := k) with e | ⟨y, hc, h0, h1, e⟩
  · rw [e]
  · rw [e, ix_set_ne2 h0 hj h]
theorem drain_len {ps : List AP} {k : Int} : (drainA ps k).length = ps.length := by
  rcases drain_at (ps := ps) (k := k) with e | ⟨y, hc, h0, h1, e⟩
  · rw [e]
  · rw [e, List.length_set]
theorem drd_self {ps : List AP} {k : Int} : drd (drainA ps k) k := by
  constructor
  · intro hc
    rw [drain_can] at hc
    obtain ⟨h0, h1, _, _⟩ := canA_t hc
    have : drainA ps k = ps.set k.toNat { ix ps k with ms := [], fresh := false } := by unfold drainA; rw [if_pos hc]
    rw [this, ix_set_k h0 h1]; exact ⟨rfl, rfl⟩
  · intro hc
    rw [drain_can] at hc
    obtain ⟨h0, h1, hq, hi⟩ := canA_t hc
    have hn : ¬ canA ps k true false = true := fun h => by have := (canA_t h).2.2.1; rw [hq] at this; cases this
    cases hf : (ix ps k).fresh
    · have : drainA ps k = ps := by unfold drainA; rw [if_neg hn, if_pos hc, hf]; rfl
      rw [this]; exact hf
    · have : drainA ps k = ps.set k.toNat { ix ps k with fresh := false } := by unfold drainA; rw [if_neg hn, if_pos hc, hf]; rfl
      rw [this, ix_set_k h0 h1]
theorem drd_keep {ps : List AP} {j k : Int} (h : drd ps j) : drd (drainA ps k) j := by
  by_cases e : j = k
  · subst e; exact drd_self
  · constructor
    · intro hc
      rw [drain_can] at hc
      rw [drain_ne (canA_t hc).1 e]; exact h.1 hc
    · intro hc
      rw [drain_can] at hc
      rw [drain_ne (canA_t hc).1 e]; exact h.2 hc
theorem drain_other {ps : List AP} {j k : Int} (e : j ≠ k) : drainDA (drainA ps k) j = drainDA ps j := by
  unfold drainDA
  simp only [drain_can]
  split
  · rename_i hc; rw [drain_ne (canA_t hc).1 e]
  · split
    · rename_i hc; rw [drain_ne (canA_t hc).1 e]
    · rfl
/-- What goes out by these channels, if nothing is lost. -/
def msgsOf (ab : List AP) (chs : List ChanC) (win : Int) (l : List Int) : List (Int × Int × List UInt8) := l.flatMap fun k => (drainDA ab (ix chs k).fo).map fun d => (k, win, d)
def drainAll (ab : List AP) (chs : List ChanC) (l : List Int) : List AP := l.foldl (fun a k => drainA a (ix chs k).fo) ab
theorem msgsOf_snoc {ab : List AP} {chs : List ChanC} {win : Int} {l : List Int} {k : Int} : msgsOf ab chs win (l ++ [k]) = msgsOf ab chs win l ++ (drainDA ab (ix chs k).fo).map fun d => (k, win, d) := by
  simp [msgsOf]
theorem drainAll_snoc {ab : List AP} {chs : List ChanC} {l : List Int} {k : Int} : drainAll ab chs (l ++ [k]) = drainA (drainAll ab chs l) (ix chs k).fo := by simp [drainAll]
def flushMs (ab : List AP) (chs : List ChanC) (part win : Int) : List (Int × Int × List UInt8) := (msgsOf ab chs win (outsA chs part)).take 4096
def delivAll (chs : List ChanC) (ms : List (Int × Int × List UInt8)) (st : St) : St := ms.foldl (fun s m => delivA chs m.1 m.2.2 s) st
theorem delivAll_snoc {chs : List ChanC} {ms : List (Int × Int × List UInt8)} {m : Int × Int × List UInt8} {st : St} : delivAll chs (ms ++ [m]) st = delivA chs m.1 m.2.2 (delivAll chs ms st) := by simp [delivAll]
def inSt (st : St) (part : Int) : Prop := 0 ≤ part ∧ part < st.length
instance (st : St) (part : Int) : Decidable (inSt st part) := by unfold inSt; infer_instance
def flushA (chs : List ChanC) (part win : Int) (st : St) : List (Int × Int × List UInt8) := if inSt st part then flushMs (ix st part) chs part win else []
def flushSt (chs : List ChanC) (part win : Int) (st : St) : St := if inSt st part then delivAll chs (flushMs (ix st part) chs part win) (st.set part.toNat (drainAll (ix st part) chs (outsA chs part))) else st
theorem take_snoc {α : Type} {xs : List α} {y : α} {n : Nat} : (xs ++ [y]).take n = if (xs.take n).length < n then xs.take n ++ [y] else xs.take n := by
  by_cases h : xs.length < n
  · rw [if_pos (by rw [List.length_take]; omega), List.take_of_length_le (by simp; omega), List.take_of_length_le (by omega)]
  · rw [if_neg (by rw [List.length_take]; omega), List.take_append_of_le_length (by omega)]
/-- All bytes are few. -/
def okA (ab : List AP) : Prop := ∀ p ∈ ab, ∀ d ∈ p.ms, d.length ≤ 300
theorem okA_ix {ab : List AP} (h : okA ab) {k : Int} : ∀ d ∈ (ix ab k).ms, d.length ≤ 300 := by
  by_cases hk : k.toNat < ab.length
  · exact h _ (by unfold ix; simp [hk])
  · have : ix ab k = default := by unfold ix; simp [hk]
    rw [this]; intro d hd; cases hd
theorem okA_drain {ab : List AP} (h : okA ab) {k : Int} : ∀ d ∈ drainDA ab k, d.length ≤ 300 := by
  unfold drainDA
  split
  · exact okA_ix h
  · split
    · split
      · exact okA_ix h
      · intro d hd; cases hd
    · intro d hd; cases hd
/-- What is kept of ports that were drained. -/
def kvsO : List Int → List (SL Msg) → List (Int × Value)
  | q :: qs, r :: rs => (q, SV.v r.s) :: kvsO qs rs
  | _, _ => []
theorem kvsO_snoc : ∀ {qs : List Int} {rs : List (SL Msg)} {q : Int} {r : SL Msg}, qs.length = rs.length → kvsO (qs ++ [q]) (rs ++ [r]) = kvsO qs rs ++ [(q, SV.v r.s)]
  | [], [], _, _, _ => rfl
  | [], _ :: _, _, _, h => by simp at h
  | _ :: _, [], _, _, h => by simp at h
  | a :: qs, b :: rs, q, r, h => by
    have := kvsO_snoc (qs := qs) (rs := rs) (q := q) (r := r) (by simpa using h)
    simp only [List.cons_append, kvsO, this]
theorem findO_none : ∀ {qs : List Int} {rs : List (SL Msg)} {k : Int}, qs.length = rs.length → k ∉ qs → find k (kvsO qs rs) = none
  | [], _, _, _, _ => rfl
  | _ :: _, [], _, h, _ => by simp at h
  | a :: qs, b :: rs, k, h, hk => by
    simp only [List.mem_cons, not_or] at hk
    simp only [kvsO, find, if_neg hk.1]
    exact findO_none (by simpa using h) hk.2
theorem findO_some : ∀ {qs : List Int} {rs : List (SL Msg)} {k : Int}, qs.length = rs.length → k ∈ qs → ∃ i : Nat, i < qs.length ∧ ix qs (i : Int) = k ∧ find k (kvsO qs rs) = some (SV.v (ix rs (i : Int)).s)
  | [], _, _, _, hk => by cases hk
  | _ :: _, [], _, h, _ => by simp at h
  | a :: qs, b :: rs, k, h, hk => by
    by_cases e : k = a
    · exact ⟨0, by simp, e.symm, by simp [kvsO, find, e, ix]⟩
    · obtain ⟨i, h1, h2, h3⟩ := findO_some (qs := qs) (rs := rs) (k := k) (by simpa using h) ((List.mem_cons.1 hk).resolve_left e)
      refine ⟨i + 1, by simpa using h1, ?_, ?_⟩
      · rw [← h2]; simp [ix]
      · simp only [kvsO, find, if_neg e, h3]; simp [ix]
/-- While a partition's ports are drained, each once: what is kept. -/
structure Kept (ab0 ab : List AP) (qs : List Int) (rs : List (SL Msg)) : Prop where
  len : qs.length = rs.length
  val : ∀ i : Nat, i < qs.length → (ix rs (i : Int)).d.map SL.d = drainDA ab0 (ix qs (i : Int)) ∧ drd ab (ix qs (i : Int))
  rest : ∀ k, k ∉ qs → drainDA ab k = drainDA ab0 k
theorem Kept.nil {ab : List AP} : Kept ab ab [] [] := ⟨rfl, fun i h => by simp at h, fun _ _ => rfl⟩
theorem ix_app1 {α : Type} [Inhabited α] {xs : List α} {y : α} {i : Nat} (h : i < xs.length) : ix (xs ++ [y]) (i : Int) = ix xs (i : Int) := by
  unfold ix; simp [List.getElem?_append_left h]
theorem ix_app2 {α : Type} [Inhabited α] {xs : List α} {y : α} : ix (xs ++ [y]) (xs.length : Int) = y := by unfold ix; simp
theorem Kept.hit {ab0 ab : List AP} {qs : List Int} {rs : List (SL Msg)} (h : Kept ab0 ab qs rs) {k : Int} (hk : k ∈ qs) : ∃ i : Nat, i < rs.length ∧ find k (kvsO qs rs) = some (SV.v (ix rs (i : Int)).s) ∧ (ix rs (i : Int)).d.map SL.d = drainDA ab0 k ∧ drainA ab k = ab := by
  obtain ⟨i, h1, h2, h3⟩ := findO_some h.len hk
  have := h.val i h1
  rw [h2] at this
  exact ⟨i, by rw [← h.len]; exact h1, h3, this.1, drd_id this.2⟩
theorem Kept.miss {ab0 ab : List AP} {qs : List Int} {rs : List (SL Msg)} (h : Kept ab0 ab qs rs) {k : Int} (hk : k ∉ qs) {r : SL Msg} (hr : r.d.map SL.d = drainDA ab k) : r.d.map SL.d = drainDA ab0 k ∧ Kept ab0 (drainA ab k) (qs ++ [k]) (rs ++ [r]) := by
  have hr0 := hr.trans (h.rest k hk)
  refine ⟨hr0, ⟨by simp [h.len], fun i hi => ?_, fun j hj => ?_⟩⟩
  · simp only [List.length_append, List.length_cons, List.length_nil] at hi
    by_cases e : i < qs.length
    · rw [ix_app1 e, ix_app1 (by rw [← h.len]; exact e)]
      exact ⟨(h.val i e).1, drd_keep (h.val i e).2⟩
    · have e2 : i = qs.length := by omega
      subst e2
      rw [ix_app2]
      have e3 : ix (rs ++ [r]) (qs.length : Int) = r := by rw [h.len]; exact ix_app2
      rw [e3]
      exact ⟨hr0, drd_self⟩
  · simp only [List.mem_append, List.mem_singleton, not_or] at hj
    rw [drain_other hj.2]; exact h.rest j hj.1
end Go.Proofs.Ytlhmbcmkpafjoaa
