import Derived.Test.YtlhmbcmkpafjoaaKL
namespace Go.Proofs.Ytlhmbcmkpafjoaa
open Go Go.Wk
theorem okA_set {ab : List AP} {k : Nat} {y : AP} (h : okA ab) (hy : ∀ d ∈ y.ms, d.length ≤ 300) : okA (ab.set k y) := mem_set_all h hy
theorem okA_into {ab : List AP} {k : Int} {q : Bool} {m : List UInt8} (h : okA ab) (hm : m.length ≤ 300) : okA (intoA ab k q m) := by
  have hx := okA_ix h (k := k)
  unfold intoA
  split
  · split
    · split
      · split
        · exact h
        · refine okA_set h fun d hd => ?_
          rcases List.mem_append.1 hd with h1 | h1
          · exact hx d h1
          · rw [List.mem_singleton.1 h1]; exact hm
      · refine okA_set h fun d hd => ?_
        rw [List.mem_singleton.1 hd]; exact hm
    · exact h
  · exact h
theorem okA_out {ab : List AP} {k : Int} {q : Bool} (h : okA ab) : okA (outA ab k q) := by
  have hx := okA_ix h (k := k)
  unfold outA
  split
  · split
    · split
      · exact h
      · exact okA_set h fun d hd => hx d (List.mem_of_mem_drop hd)
    · exact h
  · exact h
theorem okA_drn {ab : List AP} {k : Int} (h : okA ab) : okA (drainA ab k) := by
  have hx := okA_ix h (k := k)
  unfold drainA
  split
  · exact okA_set h fun d hd => by cases hd
  · split
    · split
      · exact okA_set h hx
      · exact h
    · exact h
theorem okA_del {ab : List AP} {k : Int} {m : List UInt8} (h : okA ab) (hm : m.length ≤ 300) : okA (delA ab k m) := by
  have hx := okA_ix h (k := k)
  unfold delA
  split
  · exact okA_set h fun d hd => by rw [List.mem_singleton.1 hd]; exact hm
  · split
    · split
      · exact okA_set h hx
      · refine okA_set h fun d hd => ?_
        rcases List.mem_append.1 hd with h1 | h1
        · exact hx d h1
        · rw [List.mem_singleton.1 h1]; exact hm
    · exact h
def okS (st : St) : Prop := ∀ ab ∈ st, okA ab
theorem okS_ix {st : St} (h : okS st) {k : Int} : okA (ix st k) := by
  by_cases hk : k.toNat < st.length
  · exact h _ (by unfold ix; simp [hk])
  · have : ix st k = default := by unfold ix; simp [hk]
    rw [this]; intro p hp; cases hp
theorem okS_set {st : St} {k : Nat} {y : List AP} (h : okS st) (hy : okA y) : okS (st.set k y) := mem_set_all h hy
theorem okS_deliv {st : St} {chs : List ChanC} {ch : Int} {m : List UInt8} (h : okS st) (hm : m.length ≤ 300) : okS (delivA chs ch m st) := by
  unfold delivA
  split
  · exact okS_set h (okA_del (okS_ix h) hm)
  · exact h
theorem okS_delivAll {chs : List ChanC} : ∀ {ms : List (Int × Int × List UInt8)} {st : St}, okS st → (∀ m ∈ ms, m.2.2.length ≤ 300) → okS (delivAll chs ms st)
  | [], _, h, _ => h
  | m :: ms, st, h, hm => by
    unfold delivAll
    rw [List.foldl_cons]
    exact okS_delivAll (okS_deliv h (hm m List.mem_cons_self)) fun x hx => hm x (List.mem_cons_of_mem _ hx)
theorem okA_drainAll {chs : List ChanC} : ∀ {l : List Int} {ab : List AP}, okA ab → okA (drainAll ab chs l)
  | [], _, h => h
  | k :: l, ab, h => by
    unfold drainAll
    rw [List.foldl_cons]
    exact okA_drainAll (okA_drn h)
theorem okS_flush {st : St} {chs : List ChanC} {part win : Int} (h : okS st) : okS (flushSt chs part win st) := by
  unfold flushSt
  split
  · exact okS_delivAll (okS_set h (okA_drainAll (okS_ix h))) fun m hm => msgs_ok (okS_ix h) m (List.mem_of_mem_take hm)
  · exact h
theorem apOK_abs {gs : List OneG} {n : Nat} (h : invP gs n) (hn : 1 ≤ n) : apOK (gs.map OneG.abs) n := ⟨by rw [abs_len]; exact h.1, fun p hp => by
  obtain ⟨g, hg, rfl⟩ := List.mem_map.1 hp
  have := (h.2 g hg).2.2
  unfold OneG.abs
  simp only
  split
  · rw [List.length_map]; exact this
  · split <;> simp <;> omega⟩
/-- All ports, and the document's. -/
structure Inv19 (Gs : List PG) (Rs : List RG) (n : Nat) : Prop where
  v : invL Gs n
  x : ∀ g ∈ Rs, g.xs.map mo = g.ps.map AP.ms
  ab : Rs.map RG.ps = Gs.map PG.ab
  ok : okS (Gs.map PG.ab)
  one : 1 ≤ n
theorem Inv19.r {Gs : List PG} {Rs : List RG} {n : Nat} (h : Inv19 Gs Rs n) : invR Rs n := fun g hg => by
  refine ⟨h.x g hg, ?_⟩
  have : g.ps ∈ Gs.map PG.ab := by rw [← h.ab]; exact List.mem_map.2 ⟨g, hg, rfl⟩
  obtain ⟨G, hG, he⟩ := List.mem_map.1 this
  rw [← he]
  exact apOK_abs (h.v G hG) h.one
theorem Inv19.len {Gs : List PG} {Rs : List RG} {n : Nat} (h : Inv19 Gs Rs n) : Rs.length = Gs.length := by simpa using congrArg List.length h.ab
theorem Inv19.up {Gs : List PG} {Rs : List RG} {n m : Nat} (h : Inv19 Gs Rs n) (hm : n ≤ m) : Inv19 Gs Rs m := { h with v := invL_up h.v hm, one := Nat.le_trans h.one hm }
theorem Inv19.step {Gs : List PG} {Rs : List RG} {n m : Nat} (h : Inv19 Gs Rs n) {k : Nat} {gs : List OneG} {b c d : SV} {ps : List AP} {xs : List (SL Msg)} (hnm : n ≤ m) (hp : ps = gs.map OneG.abs) (hi : invP gs m) (hx : xs.map mo = ps.map AP.ms) (ho : okA ps) :
    Inv19 (Gs.set k { ix Gs (k : Int) with gs := gs }) (Rs.set k ⟨(ix Rs (k : Int)).r, (ix Rs (k : Int)).a, b, c, d, ps, xs⟩) m where
  v := invL_set (invL_up h.v hnm) hi
  x := mem_set_all h.x hx
  ab := by rw [List.map_set, List.map_set, h.ab, hp]; rfl
  ok := by rw [List.map_set]; exact okS_set h.ok (by show okA (gs.map OneG.abs); rw [← hp]; exact ho)
  one := Nat.le_trans h.one hnm
theorem Inv19.flush {Gs Gs2 : List PG} {Rs Rs2 : List RG} {n m : Nat} (h : Inv19 Gs Rs n) {chs : List ChanC} {part win : Int} (hnm : n ≤ m) (hv : invL Gs2 m) (hr : invR Rs2 m) (ha : Gs2.map PG.ab = flushSt chs part win (Gs.map PG.ab)) (hb : Rs2.map RG.ps = flushSt chs part win (Rs.map RG.ps)) : Inv19 Gs2 Rs2 m where
  v := hv
  x := fun g hg => (hr g hg).1
  ab := by rw [hb, ha, h.ab]
  ok := by rw [ha]; exact okS_flush h.ok
  one := Nat.le_trans h.one hnm
theorem Inv19.deliv {Gs Gs2 : List PG} {Rs Rs2 : List RG} {n m : Nat} (h : Inv19 Gs Rs n) {chs : List ChanC} {ch : Int} {d : List UInt8} (hnm : n ≤ m) (hd : d.length ≤ 300) (hv : invL Gs2 m) (hr : invR Rs2 m) (ha : Gs2.map PG.ab = delivA chs ch d (Gs.map PG.ab)) (hb : Rs2.map RG.ps = delivA chs ch d (Rs.map RG.ps)) : Inv19 Gs2 Rs2 m where
  v := hv
  x := fun g hg => (hr g hg).1
  ab := by rw [hb, ha, h.ab]
  ok := by rw [ha]; exact okS_deliv h.ok hd
  one := Nat.le_trans h.one hnm
end Go.Proofs.Ytlhmbcmkpafjoaa
