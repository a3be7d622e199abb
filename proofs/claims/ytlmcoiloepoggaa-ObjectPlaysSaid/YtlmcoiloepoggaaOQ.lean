import Derived.Test.YtlmcoiloepoggaaOP
import Derived.Test.YtlmcoiloepoggaaWkP
namespace Go.Proofs.Ytlmcoiloepoggaa
open Go Go.Wk
set_option maxHeartbeats 6400000
set_option maxRecDepth 10000
structure Act20 where
  act : Int
  k : Int
  b : Msg
instance : Inhabited Act20 := ⟨⟨0, 0, default⟩⟩
instance : En Act20 := ⟨fun d => [.int .i64 d.act, .int .i64 d.k, d.b.s.v], 3, fun _ => rfl, fun _ => rfl, by decide⟩
def PoolG.cf (g : PoolG) : Int × Int := (g.size, g.depth)
def PoolC.cf (g : PoolC) : Int × Int := (g.size, g.depth)
structure InvO (cs : List SemC) (cp : List PoolC) (cl : List Int) (gS : List SemG) (gF : List FlagG) (gP : List PoolG) (gL : List SlateG) (n : Nat) : Prop where
  s : gS.map SemG.most = (cs.take 4).map SemC.most
  f : gF.length ≤ 8
  p : gP.map PoolG.cf = (cp.take 4).map PoolC.cf
  l : gL.map SlateG.size = cl.take 4
  ms : ∀ g ∈ gP, g.ms.length ≤ n
  m : ∀ g ∈ gL, g.shown = true → g.m.d.length ≤ 300
theorem ix_take {α : Type} [Inhabited α] {xs : List α} {n : Nat} {k : Int} (h : k.toNat < n) : ix (xs.take n) k = ix xs k := by unfold ix; simp [h]
theorem cf_len {α β γ : Type} {f : α → γ} {g : β → γ} {xs : List α} {ys : List β} (h : xs.map f = (ys.take 4).map g) : xs.length ≤ 4 ∧ xs.length ≤ ys.length := by
  have := congrArg List.length h
  simp at this
  omega
theorem cf_ix {α β γ : Type} [Inhabited α] [Inhabited β] [Inhabited γ] {f : α → γ} {g : β → γ} {xs : List α} {ys : List β} (h : xs.map f = (ys.take 4).map g) {k : Int} (hr : inR xs k) : k < ys.length ∧ g (ix ys k) = f (ix xs k) := by
  have ⟨h1, h2⟩ := cf_len h
  have ⟨h3, h4⟩ := hr
  refine ⟨by omega, ?_⟩
  rw [← ix_map (f := f) h3 h4, h, ix_map (f := g) h3 (by simp; omega), ix_take (by omega)]
theorem map_set_same {α γ : Type} [Inhabited α] {f : α → γ} {xs : List α} {k : Int} {y : α} (hr : inR xs k) (h : f y = f (ix xs k)) : (xs.set k.toNat y).map f = xs.map f := by
  have ⟨h3, h4⟩ := hr
  rw [List.map_set, h]
  apply List.ext_getElem?
  intro j
  rw [List.getElem?_set]
  split
  · rename_i he
    subst he
    have hl : k.toNat < xs.length := by omega
    simp [hl, ix]
  · rfl
theorem mem_set_all {α : Type} {p : α → Prop} {xs : List α} {k : Nat} {y : α} (h : ∀ g ∈ xs, p g) (hy : p y) : ∀ g ∈ xs.set k y, p g := fun g hg => by
  rcases List.mem_or_eq_of_mem_set hg with h1 | h1
  · exact h g h1
  · rw [h1]; exact hy
section
variable {cs : List SemC} {cp : List PoolC} {cl : List Int} {gS : List SemG} {gF : List FlagG} {gP : List PoolG} {gL : List SlateG} {n : Nat}
theorem InvO.lens (h : InvO cs cp cl gS gF gP gL n) : gS.length ≤ 4 ∧ gF.length ≤ 8 ∧ gP.length ≤ 4 ∧ gL.length ≤ 4 :=
  ⟨(cf_len h.s).1, h.f, (cf_len h.p).1, (cf_len (g := id) (h.l.trans (List.map_id _).symm)).1⟩
theorem InvO.hcs (h : InvO cs cp cl gS gF gP gL n) (k : Int) (hr : inR gS k) : k < cs.length ∧ (ix cs k).most = (ix gS k).most := cf_ix h.s hr
theorem InvO.hcp (h : InvO cs cp cl gS gF gP gL n) (k : Int) (hr : inR gP k) : k < cp.length ∧ (ix cp k).size = (ix gP k).size ∧ (ix cp k).depth = (ix gP k).depth := by
  have ⟨h1, h2⟩ := cf_ix h.p hr
  simp only [PoolG.cf, PoolC.cf, Prod.mk.injEq] at h2
  exact ⟨h1, h2⟩
theorem InvO.hcl (h : InvO cs cp cl gS gF gP gL n) (k : Int) (hr : inR gL k) : k < cl.length ∧ ix cl k = (ix gL k).size := cf_ix (g := id) (h.l.trans (List.map_id _).symm) hr
theorem InvO.hm (h : InvO cs cp cl gS gF gP gL n) (k : Int) : (ix gP k).ms.length ≤ n := by
  rcases (show ix gP k ∈ gP ∨ ix gP k = default from by unfold ix; by_cases hk : k.toNat < gP.length; (left; simp [hk]); (right; simp [hk])) with hm | hm
  · exact h.ms _ hm
  · rw [hm]; exact Nat.zero_le _
theorem InvO.hb (h : InvO cs cp cl gS gF gP gL n) (k : Int) : (ix gL k).shown = true → (ix gL k).m.d.length ≤ 300 := by
  rcases (show ix gL k ∈ gL ∨ ix gL k = default from by unfold ix; by_cases hk : k.toNat < gL.length; (left; simp [hk]); (right; simp [hk])) with hm | hm
  · exact h.m _ hm
  · rw [hm]; exact fun _ => Nat.zero_le _
theorem InvO.mono (h : InvO cs cp cl gS gF gP gL n) : InvO cs cp cl gS gF gP gL (n + 1) := { h with ms := fun g hg => Nat.le_succ_of_le (h.ms g hg) }
theorem InvO.take (h : InvO cs cp cl gS gF gP gL n) {k : Int} : InvO cs cp cl (takeG gS k) gF gP gL (n + 1) := { h.mono with
  s := by
    rw [← h.s]; unfold takeG
    split
    · rename_i hr; split
      · rfl
      · exact map_set_same hr rfl
    · rfl }
theorem InvO.give (h : InvO cs cp cl gS gF gP gL n) {k : Int} : InvO cs cp cl (giveG gS k) gF gP gL (n + 1) := { h.mono with
  s := by
    rw [← h.s]; unfold giveG
    split
    · rename_i hr; split
      · rfl
      · exact map_set_same hr rfl
    · rfl }
theorem InvO.flag (h : InvO cs cp cl gS gF gP gL n) {k : Int} {up : Bool} : InvO cs cp cl gS (flagG gF k up) gP gL (n + 1) := { h.mono with
  f := by unfold flagG; split <;> simp [h.f] }
theorem InvO.put (h : InvO cs cp cl gS gF gP gL n) {k : Int} {s : SV} {m : Msg} : InvO cs cp cl gS gF (putG gP k s m) gL (n + 1) := by
  unfold putG
  split
  · rename_i hp
    have hr : inR gP k := by
      unfold putC at hp
      split at hp
      · assumption
      · omega
    exact { h.mono with
      p := by rw [← h.p]; exact map_set_same hr rfl
      ms := mem_set_all h.mono.ms (by have := h.hm k; simp; omega) }
  · exact h.mono
theorem InvO.get (h : InvO cs cp cl gS gF gP gL n) {k : Int} {s : SV} : InvO cs cp cl gS gF (getG gP k s) gL (n + 1) := by
  unfold getG
  split
  · rename_i hp
    have hr : inR gP k := by
      unfold getC at hp
      split at hp
      · assumption
      · omega
    exact { h.mono with
      p := by rw [← h.p]; exact map_set_same hr rfl
      ms := mem_set_all h.mono.ms (by have := h.hm k; simp; omega) }
  · exact h.mono
theorem InvO.shw (h : InvO cs cp cl gS gF gP gL n) {k : Int} {m : Msg} (hm : m.d.length ≤ 300) : InvO cs cp cl gS gF gP (showG gL k m) (n + 1) := by
  unfold showG
  split
  · rename_i hp
    have hr : inR gL k := by
      unfold showC at hp
      split at hp
      · assumption
      · omega
    exact { h.mono with
      l := by rw [← h.l]; exact map_set_same hr rfl
      m := mem_set_all h.m (fun _ => hm) }
  · exact h.mono
theorem InvO.wipe (h : InvO cs cp cl gS gF gP gL n) {k : Int} : InvO cs cp cl gS gF gP (wipeG gL k) (n + 1) := by
  unfold wipeG
  split
  · rename_i hr
    exact { h.mono with
      l := by rw [← h.l]; exact map_set_same hr rfl
      m := mem_set_all h.m (fun _ => Nat.zero_le _) }
  · exact h.mono
end
theorem map_map_eq {α β γ δ : Type} {f : α → β} {f2 : α → γ} {g : δ → β} {g2 : δ → γ} {xs : List α} {ys : List δ} (p : β → γ) (hf : ∀ x, f2 x = p (f x)) (hg : ∀ x, g2 x = p (g x)) (h : xs.map f = ys.map g) : xs.map f2 = ys.map g2 := by
  have h2 : f2 = p ∘ f := funext hf
  have h3 : g2 = p ∘ g := funext hg
  rw [h2, h3, ← List.map_map, ← List.map_map, h]
theorem fresh_inv {c : PartC} {cs : List SemC} {cp : List PoolC} {cl : List Int} {g1 : List SemG} {g2 : List FlagG} {g3 : List PoolG} {g4 : List SlateG} (h1 : g1.map SemG.mo = (cs.take 4).map semM) (h2 : g2.map FlagG.mo = List.replicate (nflags c.flags) false) (h3 : g3.map PoolG.mo = (cp.take 4).map poolM) (h4 : g4.map SlateG.mo = (cl.take 4).map slateM) :
    (∀ n, InvO cs cp cl g1 g2 g3 g4 n) ∧ g1.map SemG.count = (cs.take 4).map SemC.first ∧ g2.map FlagG.up = List.replicate (nflags c.flags) false ∧
    (List.replicate (min 4 cp.length) (default : SL Msg)).map mo = g3.map PoolG.mm ∧ (List.replicate (min 4 cl.length) (default : SL Msg)).map mo = g4.map SlateG.mm := by
  refine ⟨fun n => ⟨map_map_eq (fun p => p.2.1) (fun _ => rfl) (fun _ => rfl) h1, ?_, map_map_eq (fun p => (p.1, p.2.1)) (fun _ => rfl) (fun _ => rfl) h3, ?_, fun g hg => ?_, fun g hg hs => ?_⟩, map_map_eq (fun p => p.2.2) (fun _ => rfl) (fun _ => rfl) h1, h2, ?_, ?_⟩
  · have := congrArg List.length h2
    have h8 := nflags_le c.flags
    simp at this; omega
  · rw [map_map_eq (f2 := SlateG.size) (g2 := id) (fun p => p.1) (fun _ => rfl) (fun _ => rfl) h4, List.map_id]
  · have : PoolG.mo g ∈ (cp.take 4).map poolM := by rw [← h3]; exact List.mem_map_of_mem hg
    obtain ⟨c, _, hc⟩ := List.mem_map.1 this
    have h5 : g.ms.map SL.d = [] := by have := congrArg (fun p => p.2.2) hc; simpa [poolM, PoolG.mo] using this.symm
    have : g.ms.length = 0 := by simpa using congrArg List.length h5
    omega
  · have : SlateG.mo g ∈ (cl.take 4).map slateM := by rw [← h4]; exact List.mem_map_of_mem hg
    obtain ⟨c, _, hc⟩ := List.mem_map.1 this
    have h5 := congrArg (fun p => p.2) hc
    simp [slateM, SlateG.mo, hs] at h5
  · rw [map_map_eq (f2 := PoolG.mm) (g2 := fun _ => ([] : List (List UInt8))) (fun p => p.2.2) (fun _ => rfl) (fun _ => rfl) h3]
    simp only [List.map_replicate, List.map_const', List.length_take]; rfl
  · rw [map_map_eq (f2 := SlateG.mm) (g2 := fun _ => ([] : List (List UInt8))) (fun p => match p.2 with | some m => [m] | none => []) (fun g => by cases h : g.shown <;> simp [SlateG.mm, SlateG.mo, h]) (fun _ => rfl) h4]
    simp only [List.map_replicate, List.map_const', List.length_take]; rfl
attribute [local irreducible] BrK GenK EGenK EUnitK CallK FnK CallV GuardO GuardC CondW opX opK opKc chkR eqR seqK blkK endL WL WD W LoopW BinK Tr drewK resL PickK NotK NilK ExtrK getK Instr.storeAt Instr.loadAt Instr.fieldAt Instr.indexAt Instr.lookup Instr.mapUpdate Instr.box Instr.alloc Instr.build Instr.buildSlice Instr.makeSlice Instr.makeMap Instr.sliceAt Instr.field Instr.index Instr.makeInterface Instr.typeAssert Builtin.len_ Builtin.append_ Builtin.cap_ Builtin.min_ Builtin.max_ Builtin.copy_ Builtin.clear_ convert binOp mp blk rob sl sep ex fact old
theorem got_ok {s t : SV} {xs : List UInt8} {e : Int} : Trip Try.prog 109 [s.v, .int .i64 e, t.v, .int .i64 e].toArray [sl true s.v xs, sl true t.v xs] fun v l' => v = .bool true ∧ l' = [] := by
  intro F K hK
  simp only [List.cons_append, List.nil_append]
  (refine Tr.enter (rs := [.tmp 8]) mixed fn109 rfl (by simp +arith [Try.ntmps109]) fun u => ?_; simp only [cd109, Try.f109])
  ((try simp only [WKb, ↓reduceIte, Nat.reduceEqDiff, Nat.reduceAdd]) <;> (repeat' ((first
    | (refine G.tr ?_; first | refine S.a ?_ | refine Tr.brK ?_ ?_ | refine S.n fun _ => ?_ | refine S.i fun hix => ?_ | (refine S.g fun hb => ?_; (try simp only [hb])) | (refine S.s (fun hb => ?_) (fun hb => ?_) <;> ((try simp only [hb]) <;> (try (have hp := hb; simp only [WKs] at hp; (try have hq := Int.not_le.2 hp); (try have hq := Int.not_lt.2 hp))))))
    | ((fail_if_success refine G.tr ?_); exact G.prop S.p)
    | fail) <;> (try simp only [WKb, WKh, ↓reduceIte, Nat.reduceEqDiff]))))
  all_goals
    refine Tr.fin hK ⟨(by first | (simp [*]; done) | (simp only [WKe, ↓reduceIte, reduceCtorEq, Int.reduceEq, eq_self, *]; done) | (simp only [WKe, ↓reduceIte, reduceCtorEq, Int.reduceEq, *]; rfl)), rfl⟩ ?_
    ((try clear hK) <;> (try simp only [WKe, *]) <;> repeat (first | with_reducible exact EntR.done | refine S.e ?_ | (refine S.f ?_ <;> (try simp only [WKe, ↓reduceIte, reduceCtorEq, Int.reduceEq, *])) | with_reducible apply EntR.ex | refine EntR.drop (F := F) ?_ | refine EntR.drop ?_))

end Go.Proofs.Ytlmcoiloepoggaa
