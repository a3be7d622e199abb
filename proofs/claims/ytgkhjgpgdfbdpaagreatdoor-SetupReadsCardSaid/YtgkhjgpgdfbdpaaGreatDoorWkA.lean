/- What comes in: arguments that can be read, as what one reckons with; and the way back, to the calls of the row. -/
import Derived.Test.YtgkhjgpgdfbdpaaGreatDoorWk9
import Derived.ProofKit
import Derived.Deep.Slices
import Derived.Carry
namespace Go.Wk
open Go Go.ChangeShapes Go.WideShapes Go.RowKit

/-- What is known besides of a thing: of what hangs on it, for reading alone. -/
class Fz (α : Type) [En α] where
  fz : α → Asrt
  dup : ∀ a, Dup (fz a)
instance : Fz Int := ⟨fun n => fact (-9223372036854775808 ≤ n ∧ n ≤ 9223372036854775807), fun _ => dup_fact _⟩
instance : Fz Bool := ⟨fun _ => fact True, fun _ => dup_fact _⟩
instance : Fz UInt8 := ⟨fun _ => fact True, fun _ => dup_fact _⟩
instance : En ByteArray := ⟨fun s => [.string s], 1, fun _ => rfl, fun _ => rfl, by decide⟩
instance : Fz ByteArray := ⟨fun s => fact (s.size ≤ 9223372036854775807), fun _ => dup_fact _⟩

/-- A slice, with its words. -/
structure SL (α : Type) where
  s : SV
  d : List α
instance {α : Type} : Inhabited (SL α) := ⟨⟨⟨none, 0, 0⟩, []⟩⟩
instance {α : Type} : En (SL α) := ⟨fun x => [x.s.v], 1, fun _ => rfl, fun _ => rfl, by decide⟩
def fzl {α : Type} [En α] [Fz α] (xs : List α) : Asrt where
  h R _ w := ∀ x ∈ xs, (Fz.fz x).h R (fun _ => False) w
  loc := fun hR _ hk hs h x hx => (Fz.fz x).loc hR (fun _ h => h) (fun b hb => hb.elim (fun hb => hk b (.inl hb)) False.elim) hs (h x hx)
theorem dup_fzl {α : Type} [En α] [Fz α] (xs : List α) : Dup (fzl xs) := fun h => h
theorem dup_sep {A B : Asrt} (ha : Dup A) (hb : Dup B) : Dup (sep A B) := fun ⟨_, _, _, _, _, h1, h2⟩ => ⟨fun _ => False, fun _ => False, fun _ h => h, fun _ h => h, fun _ h _ => h, ha h1, hb h2⟩
instance {α : Type} [En α] [Fz α] : Fz (SL α) := ⟨fun x => sep (sl true x.s.v x.d) (fzl x.d), fun _ => dup_sep (dup_sl _ _) (dup_fzl _)⟩

theorem sep_l {A B : Asrt} {R : Blks} {w : World} : (sep A B).h R (fun _ => False) w → A.h R (fun _ => False) w := fun ⟨_, _, h1, _, _, h4, _⟩ => A.loc (fun _ h => h) h1 (fun _ _ => rfl) (Same.refl w) h4
theorem sep_r {A B : Asrt} {R : Blks} {w : World} : (sep A B).h R (fun _ => False) w → B.h R (fun _ => False) w := fun ⟨_, _, _, h2, _, _, h5⟩ => B.loc (fun _ h => h) h2 (fun _ _ => rfl) (Same.refl w) h5
theorem sl_of_fz {α : Type} [En α] [Fz α] {x : SL α} {R : Blks} {w : World} (h : (Fz.fz x).h R (fun _ => False) w) : (sl true x.s.v x.d).h R (fun _ => False) w := sep_l h
theorem fzl_of_fz {α : Type} [En α] [Fz α] {x : SL α} {R : Blks} {w : World} (h : (Fz.fz x).h R (fun _ => False) w) : (fzl x.d).h R (fun _ => False) w := sep_r h
/-- A type's cells that can be read hold such a thing. -/
class Inp (P : Program) (t : Nat) (α : Type) [En α] [Fz α] : Prop where
  h : ∀ {H : Type} {enc : TypeId × Value → H} {w : World} {base : Nat} {spare : Nat → Bool} {held : Bool} {fuel : Nat} {cs : List Value} {x : DataW H × List MemPlace}, (∀ b, spare b = true) → DataW.trod enc P w base spare held fuel t cs = some x →
    ∃ a : α, cs = En.enc a ∧ ∀ R : Blks, (∀ b, b < w.heap.size → R b) → (Fz.fz a).h R (fun _ => False) w

section
variable {P : Program}
theorem inp_int {t : Nat} (ht : P.underlying t = some (.int .i64)) : Inp P t Int := ⟨fun _ h => by
  obtain ⟨n, rfl, _, hw⟩ := DataW.trod_int ht h
  refine ⟨n, rfl, fun _ _ => ?_⟩
  simp only [Lit.wf, Bool.and_eq_true, decide_eq_true_eq] at hw
  exact hw⟩
theorem inp_bool {t : Nat} (ht : P.underlying t = some .bool) : Inp P t Bool := ⟨fun _ h => by
  obtain ⟨b, rfl, _⟩ := DataW.trod_bool ht h
  exact ⟨b, rfl, fun _ _ => trivial⟩⟩
theorem inp_u8 {t : Nat} (ht : P.underlying t = some (.int .u8)) : Inp P t UInt8 := ⟨fun _ h => by
  obtain ⟨n, rfl, _, hw⟩ := DataW.trod_int ht h
  simp only [Lit.wf, Bool.and_eq_true, decide_eq_true_eq] at hw
  have h1 : (0 : Int) ≤ n := hw.1
  have h2 : n ≤ 255 := hw.2
  refine ⟨UInt8.ofNat n.toNat, ?_, fun _ _ => trivial⟩
  have : ((UInt8.ofNat n.toNat).toNat : Int) = n := by
    rw [UInt8.toNat_ofNat']
    omega
  show [Value.int .u8 n] = [Value.int .u8 ((UInt8.ofNat n.toNat).toNat : Int)]
  rw [this]⟩
theorem inp_string {t : Nat} (ht : P.underlying t = some .string) : Inp P t ByteArray := ⟨fun _ h => by
  obtain ⟨s, rfl, _, hs⟩ := DataW.trod_string ht h
  refine ⟨s, rfl, fun _ _ => ?_⟩
  unfold maxLen at hs
  exact hs⟩
theorem choose_list {α : Type} {p : Nat → α → Prop} : ∀ (n : Nat), (∀ i, i < n → ∃ x, p i x) → ∃ xs : List α, xs.length = n ∧ ∀ i x, xs[i]? = some x → p i x
  | 0, _ => ⟨[], rfl, fun i x h => by simp at h⟩
  | n + 1, h => by
    obtain ⟨xs, hl, hx⟩ := choose_list n (fun i hi => h i (by omega))
    obtain ⟨y, hy⟩ := h n (by omega)
    refine ⟨xs ++ [y], by simp [hl], fun i x hi => ?_⟩
    by_cases hin : i < n
    · rw [List.getElem?_append_left (by omega)] at hi; exact hx i x hi
    · by_cases hie : i = n
      · subst hie
        rw [List.getElem?_append_right (by omega), hl, Nat.sub_self] at hi
        simp only [List.getElem?_cons_zero, Option.some.injEq] at hi
        subst hi; exact hy
      · rw [List.getElem?_eq_none (by simp; omega)] at hi; cases hi
theorem cell_block {w : World} {a : Addr} {v : Value} (h : w.cell? a = some v) : a.spot = none ∧ ∃ cs T fr, w.heap[a.block]? = some (.cells cs T fr) := by
  cases hb : w.heap[a.block]? with
  | none => simp [World.cell?, hb] at h
  | some o =>
    cases o with
    | cells cs T fr =>
      refine ⟨?_, cs, T, fr, rfl⟩
      cases hs : a.spot with
      | none => rfl
      | some x => simp [World.cell?, hb, hs] at h
    | _ => simp [World.cell?, hb] at h
theorem inp_slice {t e : Nat} {α : Type} [En α] [Fz α] [hI : Inp P e α] (ht : P.underlying t = some (.slice e)) (hc : P.cellsOf e = En.sz α) : Inp P t (SL α) := ⟨fun {H enc w base spare held fuel cs x} hsp h => by
  have mk : ∀ (s : SV) (d : List α), (∀ R : Blks, (∀ b, b < w.heap.size → R b) → (sl true s.v d).h R (fun _ => False) w) → (∀ R : Blks, (∀ b, b < w.heap.size → R b) → ∀ y ∈ d, (Fz.fz y).h R (fun _ => False) w) →
      ∀ R : Blks, (∀ b, b < w.heap.size → R b) → (Fz.fz (⟨s, d⟩ : SL α)).h R (fun _ => False) w := fun s d h1 h2 R hR =>
    ⟨fun _ => False, fun _ => False, fun _ h => h, fun _ h => h, fun _ h _ => h, h1 R hR, h2 R hR⟩
  rcases Go.Deep.open_slice ht h with ⟨rfl, _⟩ | ⟨a, len, cap, m, n, D, Pl, rfl, hb, hl, hm, hmm, hx, hi⟩
  · exact ⟨⟨⟨none, 0, 0⟩, []⟩, rfl, mk _ _ (fun _ _ => .inl ⟨.inl rfl, rfl⟩) (fun _ _ y hy => by cases hy)⟩
  · rw [hsp] at hmm
    simp only [if_true] at hmm
    subst hmm
    unfold maxLen at hm
    by_cases hc0 : m = 0
    · subst hc0
      have : len = 0 := by omega
      subst this
      exact ⟨⟨⟨some a, 0, 0⟩, []⟩, rfl, mk _ _ (fun _ _ => .inl ⟨.inr ⟨rfl, a, rfl⟩, rfl⟩) (fun _ _ y hy => by cases hy)⟩
    · obtain ⟨xs, hxl, hxs⟩ := choose_list (p := fun i (y : α) => (w.cells? base (a.add (i * En.sz α)) (En.sz α) = some (En.enc y)) ∧ ∀ R : Blks, (∀ b, b < w.heap.size → R b) → (Fz.fz y).h R (fun _ => False) w) len (fun i hil => by
        obtain ⟨cs', h1, h2⟩ := hi i (by omega)
        obtain ⟨y, rfl, hy⟩ := hI.h hsp h2
        rw [hc] at h1
        exact ⟨y, h1, hy⟩)
      obtain ⟨cs0, h1, _⟩ := hi 0 (by omega)
      obtain ⟨_, hcl, hcg⟩ := World.cells?_some h1
      have hp := En.pos (α := α)
      have hcell := hcg 0 (by rw [hc]; exact hp)
      rw [List.getElem?_eq_getElem (by rw [hcl, hc]; exact hp)] at hcell
      rw [Nat.zero_mul, Go.Deep.add_add] at hcell
      have ha0 : a.add (0 + 0) = a := by simp [Addr.add]
      rw [ha0] at hcell
      obtain ⟨hs, cs, T, fr, hblk⟩ := cell_block hcell
      obtain ⟨ab, ao, as⟩ := a
      simp only at hs hblk
      subst hs
      have hlt : ab < w.heap.size := by
        rcases Nat.lt_or_ge ab w.heap.size with h | h
        · exact h
        · rw [Array.getElem?_eq_none (by omega)] at hblk; cases hblk
      refine ⟨⟨⟨some ⟨ab, ao, none⟩, len, m⟩, xs⟩, rfl, mk _ _ (fun R hR => .inr ⟨ab, ao, m, cs.toList, T, fr, by simp [SV.v, hxl], ⟨by omega, by omega⟩, hR ab hlt, by simpa using hblk, ?_⟩) (fun R hR y hy => ?_)⟩
      · apply List.ext_getElem?
        intro i
        by_cases hil : i < len * En.sz α
        · have hq : i / En.sz α < len := by rw [Nat.div_lt_iff_lt_mul hp]; exact hil
          have hr : i % En.sz α < En.sz α := Nat.mod_lt _ hp
          have hqe : i / En.sz α * En.sz α + i % En.sz α = i := by rw [Nat.mul_comm]; exact Nat.div_add_mod i _
          have hxg : xs[i / En.sz α]? = some (xs[i / En.sz α]'(by omega)) := by simp [hxl, hq]
          obtain ⟨hce, _⟩ := hxs _ _ hxg
          obtain ⟨_, _, hcg2⟩ := World.cells?_some hce
          have h3 := hcg2 _ hr
          rw [Go.Deep.add_add, hqe] at h3
          have h4 := flat_get xs _ _ _ hxg hr
          rw [hqe] at h4
          rw [hxl, List.getElem?_take_of_lt hil, List.getElem?_drop, h4, ← h3, add_mk]
          simp [World.cell?, hblk]
        · rw [hxl, List.getElem?_eq_none (by simp; omega), List.getElem?_eq_none (by rw [flat_length, hxl]; omega)]
      · obtain ⟨i, hi⟩ := List.getElem?_of_mem hy
        exact (hxs i y hi).2 R hR⟩
end

def pcs (cs : List Value) : Nat → List Nat → List Value
  | _, [] => []
  | off, k :: ks => (cs.drop off).take k ++ pcs cs (off + k) ks
theorem pcs_eq : ∀ (ks : List Nat) (off : Nat) (cs : List Value), cs.length = off + ks.sum → cs.drop off = pcs cs off ks
  | [], off, cs, h => by simp only [pcs]; exact List.drop_eq_nil_of_le (by simp at h; omega)
  | k :: ks, off, cs, h => by
    simp only [pcs]
    rw [← pcs_eq ks (off + k) cs (by simp at h; omega), ← List.drop_drop, List.take_append_drop]
theorem sepI {A B : Asrt} {R : Blks} {w : World} (h1 : A.h R (fun _ => False) w) (h2 : B.h R (fun _ => False) w) : (sep A B).h R (fun _ => False) w :=
  ⟨fun _ => False, fun _ => False, fun _ h => h, fun _ h => h, fun _ h _ => h, h1, h2⟩
/-! ### the way back -/
theorem sat_ro {W : World} : ∀ {l : List Asrt} {U : Blks}, (∀ A ∈ l, ∀ R : Blks, (∀ b, b < W.heap.size → R b) → A.h R (fun _ => False) W) → SatR (fun b => b < W.heap.size) W U l
  | [], _, _ => trivial
  | A :: _, _, h => ⟨fun _ => False, fun _ h => h.elim, h A (by simp) _ (fun _ h => h), sat_ro fun B hB => h B (by simp [hB])⟩
theorem old_at (W : World) (R : Blks) (hR : ∀ b, b < W.heap.size → R b) : (old W).h R (fun _ => False) W := ⟨Same.refl W, Nat.le_refl _, fun b hb => ⟨hR b hb, rfl⟩⟩
theorem calls_of {P : Program} {f : FuncId} {args : Array Value} {pre : List Asrt} {post : Value → List Asrt → Prop} {r : Value} {W : World} (h : Trip P f args pre post) (hr : ∀ v l', post v l' → v = r)
    (hp : ∀ A ∈ pre, ∀ R : Blks, (∀ b, b < W.heap.size → R b) → A.h R (fun _ => False) W) : Calls P f args W fun e w' => e = .returned r ∧ Below W.heap.size W w' := by
  have hk : Tr (pre ++ [old W]) (CallK P f args fun v w' => v = r ∧ Below W.heap.size W w') := h [old W] _ fun v l' hv w' hw => by
    refine ⟨hr v l' hv, ?_⟩
    have hw2 : Sat w' (old W :: l') := hw.perm List.perm_append_comm
    obtain ⟨R, _, S, _, ⟨h1, h2, h3⟩, _⟩ := hw2
    exact ⟨h1.1, h1.2.2, h1.2.1, h2, fun k hk => (h3 k hk).2⟩
  have hw : Sat W (pre ++ [old W]) := ⟨fun b => b < W.heap.size, fun _ h => h, sat_ro fun A hA => by
    rcases List.mem_append.1 hA with h | h
    · exact hp A h
    · simp only [List.mem_singleton] at h
      subst h; exact old_at W⟩
  exact Calls.mono (hk W hw) fun e w' he => by
    cases e with
    | returned v => exact ⟨by rw [he.1], he.2⟩
    | _ => exact he.elim

section
variable {H : Type} {enc : TypeId × Value → H} {P : Program}
theorem okWide_one {W : World} {r : Reach} {b t : Nat} {v : Value} (hs : scalB P t = true) (h : Value.okWide P W r b t v) : v.cells = #[v] := by
  cases v with
  | agg cs =>
    exfalso
    unfold scalB at hs
    simp only [Bool.and_eq_true] at hs
    have hs1 := hs.1
    unfold Value.okWide at h
    cases hu : P.underlying t with
    | none => rw [hu] at hs1; simp at hs1
    | some d => rw [hu] at h hs1; cases d <;> simp [Cell.okWide, Cell.ok, hu] at h hs1
  | _ => rfl
theorem arg_one {α : Type} [En α] [Fz α] {W : World} {r : Reach} {b t : Nat} {spare : Nat → Bool} {held : Bool} {base : Nat} {v : Value} {d : DataW H} {ps : List MemPlace} [hI : Inp P t α] (hs : scalB P t = true) (hok : Value.okWide P W r b t v) (hsp : ∀ b, spare b = true)
    (h : DataW.Trod enc P W base spare held t v d ps) : ∃ a : α, [v] = En.enc a ∧ ∀ R : Blks, (∀ b, b < W.heap.size → R b) → (Fz.fz a).h R (fun _ => False) W := by
  obtain ⟨fuel, hf⟩ := h
  rw [okWide_one hs hok] at hf
  exact hI.h hsp hf
theorem arg_agg {α : Type} [En α] [Fz α] {W : World} {r : Reach} {b t : Nat} {spare : Nat → Bool} {held : Bool} {base : Nat} {v : Value} {d : DataW H} {ps : List MemPlace} [hI : Inp P t α] {fs : Array Field} (hu : P.underlying t = some (.struct fs)) (hok : Value.okWide P W r b t v) (hsp : ∀ b, spare b = true)
    (h : DataW.Trod enc P W base spare held t v d ps) : ∃ a : α, v = .agg (En.enc a).toArray ∧ ∀ R : Blks, (∀ b, b < W.heap.size → R b) → (Fz.fz a).h R (fun _ => False) W := by
  obtain ⟨cs, rfl, _⟩ := okWide_struct hu hok
  obtain ⟨fuel, hf⟩ := h
  obtain ⟨a, ha, hz⟩ := hI.h hsp hf
  refine ⟨a, ?_, hz⟩
  rw [← ha]
  simp [Value.cells]

theorem arg_arr {α : Type} [En α] [Fz α] {W : World} {t : Nat} {spare : Nat → Bool} {held : Bool} {base : Nat} {v : Value} {d : DataW H} {ps : List MemPlace} [hI : Inp P t α] (hne : En.sz α ≠ 1) (hsp : ∀ b, spare b = true)
    (h : DataW.Trod enc P W base spare held t v d ps) : ∃ a : α, v = .agg (En.enc a).toArray ∧ ∀ R : Blks, (∀ b, b < W.heap.size → R b) → (Fz.fz a).h R (fun _ => False) W := by
  obtain ⟨fuel, hf⟩ := h
  obtain ⟨a, ha, hz⟩ := hI.h hsp hf
  refine ⟨a, ?_, hz⟩
  have hs := En.len a
  rw [← ha] at hs
  cases v with
  | agg cs => rw [← ha]; simp [Value.cells]
  | _ => exact absurd hs.symm (by simpa [Value.cells] using hne)

/-- All arguments read as they did, in a world that is as it was below. -/
theorem trodAll_below (hl : laidOutB P = true) {W W' : World} (hb : Below W.heap.size W W') : ∀ {ts : List TypeId} {vs : List Value} {ds : List (DataW H)} {ps : List MemPlace}, ts.all (fun t => P.readableRec t && decide (t < P.types.size)) = true →
    DataW.TrodAll enc P W 0 (fun _ => true) true ts vs ds ps → (∀ x ∈ ps, x.block < W.heap.size) → DataW.TrodAll enc P W' 0 (fun b => decide (b < W.heap.size)) true ts vs ds ps
  | [], vs, ds, ps, _, h, _ => by
    obtain ⟨rfl, rfl, rfl⟩ := trodAll_nil h
    exact trodAll_mk0
  | t :: ts, vs, ds, ps, hr, h, hlt => by
    obtain ⟨v, vs', d, ds', p, q, rfl, rfl, rfl, h1, h2⟩ := trodAll_cons h
    simp only [List.all_cons, Bool.and_eq_true, decide_eq_true_eq] at hr
    exact ⟨p, q, Below.trod hl hr.1.1 hr.1.2 h1 hb (fun x hx => hlt x (by simp [hx])), trodAll_below hl hb hr.2 h2 (fun x hx => hlt x (by simp [hx])), rfl⟩
theorem trodAll_len {w : World} {base : Nat} {spare : Nat → Bool} {held : Bool} : ∀ {ts : List TypeId} {vs : List Value} {ds : List (DataW H)} {ps : List MemPlace}, DataW.TrodAll enc P w base spare held ts vs ds ps → ds.length = ts.length
  | [], _, _, _, h => by obtain ⟨_, rfl, _⟩ := trodAll_nil h; rfl
  | _ :: _, _, _, _, h => by
    obtain ⟨_, _, _, _, _, _, _, rfl, _, _, h2⟩ := trodAll_cons h
    simp [trodAll_len h2]
/-- What a law owes behind its call. -/
theorem law_post {f : Func} {s : ChangeSpec} {apart : Bool} {tb : TypeId} {W W' : World} {args : Array Value} {ds gs : List (DataW H)} {before : List MemPlace} (hl : laidOutB P = true) (hr : f.params.toList.all (fun t => P.readableRec t && decide (t < P.types.size)) = true)
    (hv : s.vars = []) (hrt : f.resultTypes = #[tb]) (htb : P.underlying tb = some .bool)
    (hs : ∀ ds : List (DataW H), ds.length = f.params.toList.length → (s.fn H ds).results = [.lit (.bool true)] ∧ (s.fn H ds).args = ds ∧ (s.fn H ds).vars = [])
    (hW : DataW.Whole enc P f.params.toList s.vars apart W args.toList ds gs before) (hb : Below W.heap.size W W') : s.post enc P f apart true false false W args (.bool true) W' := by
  have hlt : ∀ p ∈ before, p.block < W.heap.size := fun p hp => hW.lt p hp
  have hW0 := hW
  obtain ⟨p, q, hA, hV, rfl, _, _⟩ := hW
  rw [hv] at hV
  obtain ⟨rfl, rfl⟩ := trodVars_none hV
  have hds := hs ds (trodAll_len hA)
  refine ⟨ds, [], p ++ [], [], p, [], hW0, ?_, ?_, ?_, ?_, fun h => by cases h⟩
  · rw [List.append_nil, hds.1, hrt]
    exact trodAll_mk1 (shut_bool htb true)
  · rw [List.append_nil, hds.2.1]
    exact trodAll_below hl hb hr hA (fun x hx => hlt x (by simp [hx]))
  · rw [List.append_nil, hds.2.2, hv]
    rfl
  · exact World.keptBut_mono (fun x hx => by simp at hx) (hb.frame (fun _ => False))
end
end Go.Wk
