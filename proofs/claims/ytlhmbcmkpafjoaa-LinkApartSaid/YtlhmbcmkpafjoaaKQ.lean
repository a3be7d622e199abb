import Derived.Test.YtlhmbcmkpafjoaaKP
namespace Go.Proofs.Ytlhmbcmkpafjoaa
open Go Go.Wk
/-- At a port that goes out at most n messages wait. -/
def fewP (n : Nat) (ab : List AP) : Prop := ∀ p ∈ ab, p.c.i = false → p.ms.length ≤ n
theorem fewP_up {n m : Nat} {ab : List AP} (h : fewP n ab) (hm : n ≤ m) : fewP m ab := fun p hp hi => Nat.le_trans (h p hp hi) hm
theorem fewP_ix {n : Nat} {ab : List AP} (h : fewP n ab) {k : Int} (hi : (ix ab k).c.i = false) : (ix ab k).ms.length ≤ n := by
  by_cases hk : k.toNat < ab.length
  · exact h _ (by unfold ix; simp [hk]) hi
  · have : ix ab k = default := by unfold ix; simp [hk]
    rw [this]; exact Nat.zero_le _
theorem fewP_set {n k : Nat} {ab : List AP} {y : AP} (h : fewP n ab) (hy : y.c.i = false → y.ms.length ≤ n) : fewP n (ab.set k y) := mem_set_all h hy
theorem fewP_into {n : Nat} {ab : List AP} {k : Int} {q : Bool} {m : List UInt8} (h : fewP n ab) : fewP (n + 1) (intoA ab k q m) := by
  have h1 : fewP (n + 1) ab := fewP_up h (by omega)
  unfold intoA
  split
  · rename_i hc
    have := fewP_ix h (canA_t hc).2.2.2
    split
    · split
      · split
        · exact h1
        · refine fewP_set h1 fun _ => ?_
          show ((ix ab k).ms ++ [m]).length ≤ n + 1
          rw [List.length_append, List.length_singleton]; omega
      · refine fewP_set h1 fun _ => ?_
        show [m].length ≤ n + 1
        simp
    · exact h1
  · exact h1
theorem fewP_out {n : Nat} {ab : List AP} {k : Int} {q : Bool} (h : fewP n ab) : fewP n (outA ab k q) := by
  unfold outA
  split
  · rename_i hc
    split
    · split
      · exact h
      · refine fewP_set h fun hi => ?_
        have : (ix ab k).c.i = true := (canA_t hc).2.2.2
        have hi' : (ix ab k).c.i = false := hi
        rw [this] at hi'; cases hi'
    · exact h
  · exact h
theorem fewP_drn {n : Nat} {ab : List AP} {k : Int} (h : fewP n ab) : fewP n (drainA ab k) := by
  unfold drainA
  split
  · exact fewP_set h fun _ => Nat.zero_le _
  · split
    · split
      · exact fewP_set h fun hi => fewP_ix h hi
      · exact h
    · exact h
theorem del_at {ps : List AP} {k : Int} {m : List UInt8} : delA ps k m = ps ∨ ∃ y : AP, y.c = (ix ps k).c ∧ (ix ps k).c.i = true ∧ 0 ≤ k ∧ k < ps.length ∧ delA ps k m = ps.set k.toNat y := by
  unfold delA
  split
  · rename_i hc
    obtain ⟨h0, h1, _, hi⟩ := canA_t hc
    exact .inr ⟨_, by exact rfl, hi, h0, h1, rfl⟩
  · split
    · rename_i hc
      obtain ⟨h0, h1, _, hi⟩ := canA_t hc
      split
      · exact .inr ⟨_, by exact rfl, hi, h0, h1, rfl⟩
      · exact .inr ⟨_, by exact rfl, hi, h0, h1, rfl⟩
    · exact .inl rfl
theorem fewP_del {n : Nat} {ab : List AP} {k : Int} {m : List UInt8} (h : fewP n ab) : fewP n (delA ab k m) := by
  rcases del_at (ps := ab) (k := k) (m := m) with e | ⟨y, hc, hi, h0, h1, e⟩
  · rw [e]; exact h
  · rw [e]
    exact fewP_set h fun hf => by rw [hc, hi] at hf; cases hf
theorem drd_del {ps : List AP} {j k : Int} {m : List UInt8} (h : drd ps j) : drd (delA ps k m) j := by
  rcases del_at (ps := ps) (k := k) (m := m) with e | ⟨y, hc, hi, h0, h1, e⟩
  · rw [e]; exact h
  · rw [e]
    have hne : ∀ {q : Bool}, canA ps j q false = true → j ≠ k := fun hq he => by
      have := (canA_t hq).2.2.2
      rw [he, hi] at this; cases this
    constructor
    · intro hq
      rw [canA_set rfl h0 h1 hc] at hq
      rw [ix_set_ne2 h0 (canA_t hq).1 (hne hq)]; exact h.1 hq
    · intro hq
      rw [canA_set rfl h0 h1 hc] at hq
      rw [ix_set_ne2 h0 (canA_t hq).1 (hne hq)]; exact h.2 hq
def fewS (n : Nat) (st : St) : Prop := ∀ ab ∈ st, fewP n ab
theorem fewS_up {n m : Nat} {st : St} (h : fewS n st) (hm : n ≤ m) : fewS m st := fun ab hab => fewP_up (h ab hab) hm
theorem fewS_ix {n : Nat} {st : St} (h : fewS n st) {k : Int} : fewP n (ix st k) := by
  by_cases hk : k.toNat < st.length
  · exact h _ (by unfold ix; simp [hk])
  · have : ix st k = default := by unfold ix; simp [hk]
    rw [this]; intro p hp; cases hp
theorem fewS_set {n k : Nat} {st : St} {y : List AP} (h : fewS n st) (hy : fewP n y) : fewS n (st.set k y) := mem_set_all h hy
theorem fewS_deliv {n : Nat} {st : St} {chs : List ChanC} {ch : Int} {m : List UInt8} (h : fewS n st) : fewS n (delivA chs ch m st) := by
  unfold delivA
  split
  · exact fewS_set h (fewP_del (fewS_ix h))
  · exact h
theorem fewS_delivAll {n : Nat} {chs : List ChanC} : ∀ {ms : List (Int × Int × List UInt8)} {st : St}, fewS n st → fewS n (delivAll chs ms st)
  | [], _, h => h
  | m :: ms, st, h => by
    unfold delivAll
    rw [List.foldl_cons]
    exact fewS_delivAll (ms := ms) (fewS_deliv h)
theorem fewP_drainAll {n : Nat} {chs : List ChanC} : ∀ {l : List Int} {ab : List AP}, fewP n ab → fewP n (drainAll ab chs l)
  | [], _, h => h
  | k :: l, ab, h => by
    unfold drainAll
    rw [List.foldl_cons]
    exact fewP_drainAll (l := l) (fewP_drn h)
theorem fewS_flush {n : Nat} {st : St} {chs : List ChanC} {part win : Int} (h : fewS n st) : fewS n (flushSt chs part win st) := by
  unfold flushSt
  split
  · exact fewS_delivAll (fewS_set h (fewP_drainAll (fewS_ix h)))
  · exact h
theorem fewS_done {n : Nat} {st : St} {chs : List ChanC} {act part k : Int} {d : List UInt8} (h : fewS n st) : fewS (n + 1) (doneSt chs act part k d st) := by
  have h1 : fewS (n + 1) st := fewS_up h (by omega)
  unfold doneSt
  split
  · exact fewS_flush h1
  · split
    · exact fewS_deliv h1
    · split
      · split
        · exact fewS_set h1 (fewP_into (fewS_ix h))
        · split
          · exact fewS_set h1 (fewP_into (fewS_ix h))
          · split
            · exact fewS_set h1 (fewP_out (fewS_ix h1))
            · exact h1
      · exact h1
theorem fewS_new {ps : List PartD} : fewS 0 (ps.map fun p => newA p.ports.d) := by
  intro ab hab p hp _
  obtain ⟨q, _, rfl⟩ := List.mem_map.1 hab
  obtain ⟨c, _, rfl⟩ := List.mem_map.1 hp
  exact Nat.le_refl _
/- A second flush. -/
theorem drd_drainAll_keep {chs : List ChanC} {j : Int} : ∀ {l : List Int} {ab : List AP}, drd ab j → drd (drainAll ab chs l) j
  | [], _, h => h
  | k :: l, ab, h => by
    unfold drainAll
    rw [List.foldl_cons]
    exact drd_drainAll_keep (l := l) (drd_keep h)
theorem drd_drainAll {chs : List ChanC} : ∀ {l : List Int} {ab : List AP} {k : Int}, k ∈ l → drd (drainAll ab chs l) (ix chs k).fo
  | a :: l, ab, k, h => by
    have e : drainAll ab chs (a :: l) = drainAll (drainA ab (ix chs a).fo) chs l := rfl
    rw [e]
    rcases List.mem_cons.1 h with rfl | h
    · exact drd_drainAll_keep drd_self
    · exact drd_drainAll h
theorem deliv_len {chs : List ChanC} {ch : Int} {m : List UInt8} {st : St} : (delivA chs ch m st).length = st.length := by
  unfold delivA; split
  · exact List.length_set
  · rfl
theorem drd_deliv {chs : List ChanC} {ch part j : Int} {m : List UInt8} {st : St} (hp : inSt st part) (h : drd (ix st part) j) : drd (ix (delivA chs ch m st) part) j := by
  unfold delivA
  split
  · rename_i ht
    obtain ⟨_, h0, h1⟩ := ht
    by_cases e : part = (ix chs ch).tp
    · rw [e, ix_set_k h0 h1, ← e]; exact drd_del h
    · rw [ix_set_ne2 h0 hp.1 e]; exact h
  · exact h
theorem drd_delivAll {chs : List ChanC} {part j : Int} : ∀ {ms : List (Int × Int × List UInt8)} {st : St}, inSt st part → drd (ix st part) j → drd (ix (delivAll chs ms st) part) j
  | [], _, _, h => h
  | m :: ms, st, hp, h => by
    have e : delivAll chs (m :: ms) st = delivAll chs ms (delivA chs m.1 m.2.2 st) := rfl
    rw [e]
    exact drd_delivAll (ms := ms) ⟨hp.1, by rw [deliv_len]; exact hp.2⟩ (drd_deliv hp h)
theorem delivAll_len {chs : List ChanC} : ∀ {ms : List (Int × Int × List UInt8)} {st : St}, (delivAll chs ms st).length = st.length
  | [], _ => rfl
  | m :: ms, st => by
    have e : delivAll chs (m :: ms) st = delivAll chs ms (delivA chs m.1 m.2.2 st) := rfl
    rw [e, delivAll_len (ms := ms), deliv_len]
theorem flush_twice {chs : List ChanC} {part w v : Int} {st : St} : flushA chs part v (flushSt chs part w st) = [] := by
  by_cases hp : inSt st part
  · have hp2 : inSt (st.set part.toNat (drainAll (ix st part) chs (outsA chs part))) part := ⟨hp.1, by rw [List.length_set]; exact hp.2⟩
    unfold flushSt
    rw [if_pos hp]
    unfold flushA
    rw [if_pos ⟨hp.1, by rw [delivAll_len]; exact hp2.2⟩]
    have : msgsOf (ix (delivAll chs (flushMs (ix st part) chs part w) (st.set part.toNat (drainAll (ix st part) chs (outsA chs part)))) part) chs v (outsA chs part) = [] := by
      unfold msgsOf
      rw [List.flatMap_eq_nil_iff]
      intro k hk
      rw [drd_nil (drd_delivAll hp2 (by rw [ix_set_k hp.1 hp.2]; exact drd_drainAll hk))]
      rfl
    show (msgsOf _ chs v (outsA chs part)).take 4096 = []
    rw [this]; rfl
  · unfold flushSt
    rw [if_neg hp]
    unfold flushA
    rw [if_neg hp]
/- What is flushed. -/
theorem outs_memA {chs : List ChanC} {part k : Int} (h : k ∈ outsA chs part) : 0 ≤ k ∧ k < chs.length ∧ (ix chs k).fp = part := by
  unfold outsA outsN at h
  obtain ⟨j, hj, rfl⟩ := List.mem_map.1 h
  rw [List.mem_filter] at hj
  have := List.mem_range.1 hj.1
  exact ⟨by omega, by omega, by simpa using hj.2⟩
theorem outs_lt {chs : List ChanC} {part : Int} : (outsA chs part).Pairwise (· < ·) := by
  unfold outsA outsN
  rw [List.pairwise_map]
  refine List.Pairwise.filter _ (List.Pairwise.imp (fun h => ?_) List.pairwise_lt_range)
  omega
theorem msgs_mem {ab : List AP} {chs : List ChanC} {win : Int} {l : List Int} {m : Int × Int × List UInt8} (h : m ∈ msgsOf ab chs win l) : m.2.1 = win ∧ m.1 ∈ l := by
  obtain ⟨k, hk, hm⟩ := List.mem_flatMap.1 h
  obtain ⟨d, _, rfl⟩ := List.mem_map.1 hm
  exact ⟨rfl, hk⟩
theorem flushA_mem {chs : List ChanC} {part win : Int} {st : St} {m : Int × Int × List UInt8} (h : m ∈ flushA chs part win st) : m.2.1 = win ∧ m.1 ∈ outsA chs part := by
  unfold flushA at h
  split at h
  · exact msgs_mem (List.mem_of_mem_take h)
  · cases h
theorem flushA_le {chs : List ChanC} {part win : Int} {st : St} : (flushA chs part win st).Pairwise (fun x y => x.1 ≤ y.1) := by
  unfold flushA
  split
  · refine List.Pairwise.sublist (List.take_sublist _ _) ?_
    unfold msgsOf
    rw [List.pairwise_flatMap]
    constructor
    · intro k _
      rw [List.pairwise_map]
      exact List.pairwise_of_forall fun _ _ => Int.le_refl _
    · refine outs_lt.imp fun {a b} h x hx y hy => ?_
      obtain ⟨_, _, rfl⟩ := List.mem_map.1 hx
      obtain ⟨_, _, rfl⟩ := List.mem_map.1 hy
      exact Int.le_of_lt h
  · exact List.Pairwise.nil
theorem flushA_len {chs : List ChanC} {part win : Int} {st : St} : (flushA chs part win st).length ≤ 4096 := by
  unfold flushA flushMs
  split
  · rw [List.length_take]; omega
  · exact Nat.zero_le _
theorem drainDA_len {n : Nat} {ab : List AP} (h : fewP n ab) {k : Int} : (drainDA ab k).length ≤ n := by
  unfold drainDA
  split
  · rename_i hc; exact fewP_ix h (canA_t hc).2.2.2
  · split
    · rename_i hc
      split
      · exact fewP_ix h (canA_t hc).2.2.2
      · exact Nat.zero_le _
    · exact Nat.zero_le _
theorem msgs_len {n : Nat} {ab : List AP} (h : fewP n ab) {chs : List ChanC} {win : Int} : ∀ {l : List Int}, (msgsOf ab chs win l).length ≤ l.length * n
  | [] => by simp [msgsOf]
  | k :: l => by
    have e : msgsOf ab chs win (k :: l) = ((drainDA ab (ix chs k).fo).map fun d => (k, win, d)) ++ msgsOf ab chs win l := by simp [msgsOf]
    rw [e, List.length_append, List.length_map, List.length_cons, Nat.succ_mul]
    have h1 := drainDA_len h (k := (ix chs k).fo)
    have h2 := msgs_len h (chs := chs) (win := win) (l := l)
    omega
theorem msgs_of {ab : List AP} {chs : List ChanC} {win a : Int} : ∀ {l : List Int}, l.Pairwise (· < ·) → a ∈ l → (msgsOf ab chs win l).filter (fun m => decide (m.1 = a)) = (drainDA ab (ix chs a).fo).map fun d => (a, win, d)
  | k :: l, hp, ha => by
    have e : msgsOf ab chs win (k :: l) = ((drainDA ab (ix chs k).fo).map fun d => (k, win, d)) ++ msgsOf ab chs win l := by simp [msgsOf]
    rw [List.pairwise_cons] at hp
    rw [e, List.filter_append]
    by_cases hk : a = k
    · subst hk
      have h1 : (((drainDA ab (ix chs a).fo).map fun d => (a, win, d)).filter fun m => decide (m.1 = a)) = (drainDA ab (ix chs a).fo).map fun d => (a, win, d) := by
        rw [List.filter_eq_self]
        intro m hm
        obtain ⟨_, _, rfl⟩ := List.mem_map.1 hm
        simp
      have h2 : (msgsOf ab chs win l).filter (fun m => decide (m.1 = a)) = [] := by
        rw [List.filter_eq_nil_iff]
        intro m hm
        have := hp.1 _ (msgs_mem hm).2
        simp only [decide_eq_true_eq]
        omega
      rw [h1, h2, List.append_nil]
    · have h1 : (((drainDA ab (ix chs k).fo).map fun d => (k, win, d)).filter fun m => decide (m.1 = a)) = [] := by
        rw [List.filter_eq_nil_iff]
        intro m hm
        obtain ⟨_, _, rfl⟩ := List.mem_map.1 hm
        simp only [decide_eq_true_eq]
        omega
      rw [h1, List.nil_append]
      exact msgs_of hp.2 ((List.mem_cons.1 ha).resolve_left hk)
/-- What a channel carries. -/
def carry (ms : List (Int × Int × List UInt8)) (a : Int) : List (List UInt8) := (ms.filter fun m => decide (m.1 = a)).map fun m => m.2.2
theorem flush_same {n : Nat} {chs : List ChanC} {part win a b : Int} {st : St} (h : fewS n st) (hn : n ≤ 256) (ha : a ∈ outsA chs part) (hb : b ∈ outsA chs part) (hab : (ix chs a).fo = (ix chs b).fo) : carry (flushA chs part win st) a = carry (flushA chs part win st) b := by
  unfold flushA
  split
  · have hl : (msgsOf (ix st part) chs win (outsA chs part)).length ≤ 4096 := by
      have h1 := msgs_len (fewS_ix h (k := part)) (chs := chs) (win := win) (l := outsA chs part)
      have h2 : (outsA chs part).length ≤ 16 := Nat.le_trans outsN_len (Nat.min_le_right _ _)
      have h3 : (outsA chs part).length * n ≤ 16 * 256 := Nat.mul_le_mul h2 hn
      omega
    unfold flushMs
    rw [List.take_of_length_le hl]
    unfold carry
    rw [msgs_of outs_lt ha, msgs_of outs_lt hb, hab]
    simp
  · rfl
theorem map_ix {α β : Type} [Inhabited α] [Inhabited β] (f : α → β) {xs : List α} {ys : List β} (h : xs.map f = ys) {k : Nat} (hk : k < xs.length) : f (ix xs (k : Int)) ∈ ys ∧ f (ix xs (k : Int)) = ix ys (k : Int) := by
  subst h
  have e := ix_map (f := f) (xs := xs) (k := (k : Int)) (by omega) (by omega)
  exact ⟨List.mem_map.2 ⟨_, by unfold ix; simp [hk], rfl⟩, e.symm⟩
/-- What is told of all that is flushed, one message after the other. -/
theorem flush_at {chs : List ChanC} {part win : Int} {st : St} {mf : List MsgC} (h : mf.map MsgC.ab = flushA chs part win st) {k : Nat} (hk : k < mf.length) :
    (ix mf (k : Int)).win = win ∧ 0 ≤ (ix mf (k : Int)).ch ∧ (ix mf (k : Int)).ch < chs.length ∧ (ix chs (ix mf (k : Int)).ch).fp = part ∧ (0 < k → (ix mf ((k : Int) - 1)).ch ≤ (ix mf (k : Int)).ch) := by
  obtain ⟨hm, _⟩ := map_ix MsgC.ab h hk
  obtain ⟨h1, h2⟩ := flushA_mem hm
  obtain ⟨h3, h4, h5⟩ := outs_memA h2
  refine ⟨h1, h3, h4, h5, fun h0 => ?_⟩
  have hp := flushA_le (chs := chs) (part := part) (win := win) (st := st)
  rw [← h, List.pairwise_map, List.pairwise_iff_getElem] at hp
  have := hp (k - 1) k (by omega) hk (by omega)
  have e1 : ix mf ((k : Int) - 1) = mf[k - 1]'(by omega) := by
    unfold ix
    rw [show ((k : Int) - 1).toNat = k - 1 by omega]
    simp [List.getD_eq_getElem?_getD, show k - 1 < mf.length by omega]
  have e2 : ix mf (k : Int) = mf[k] := by unfold ix; simp [hk]
  rw [e1, e2]; exact this
end Go.Proofs.Ytlhmbcmkpafjoaa
