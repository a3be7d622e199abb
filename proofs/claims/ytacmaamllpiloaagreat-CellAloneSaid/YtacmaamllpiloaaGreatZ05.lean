import Derived.Test.YtacmaamllpiloaaGreatZ03
import Derived.ProofKit
import Derived.Deep.Slices
import Derived.Carry
import Derived.Test.YtacmaamllpiloaaGreatZ04
import Derived.Laws.BytesString
import Derived.Laws.IdiomStrings
namespace Go.Wk
open Go Go.ChangeShapes Go.WideShapes Go.RowKit
class Fz (α : Type) [En α] where
  fz : α → Asrt
  dup : ∀ a, Dup (fz a)
instance : Fz Int := ⟨fun n => fact (-9223372036854775808 ≤ n ∧ n ≤ 9223372036854775807), fun _ => dup_fact _⟩
instance : Fz Bool := ⟨fun _ => fact True, fun _ => dup_fact _⟩
instance : Fz UInt8 := ⟨fun _ => fact True, fun _ => dup_fact _⟩
instance : En ByteArray := ⟨fun s => [.string s], 1, fun _ => rfl, fun _ => rfl, by decide⟩
instance : Fz ByteArray := ⟨fun s => fact (s.size ≤ 9223372036854775807), fun _ => dup_fact _⟩
structure SL (α : Type) where
  s : SV
  d : List α
instance {α : Type} : Inhabited (SL α) := ⟨⟨⟨none, 0, 0⟩, []⟩⟩
instance {α : Type} : En (SL α) := ⟨fun x => [x.s.v], 1, fun _ => rfl, fun _ => rfl, by decide⟩
def fzl {α : Type} [En α] [Fz α] (xs : List α) : Asrt where
  h R _ w := ∀ x ∈ xs, (Fz.fz x).h R (fun _ => False) w
  loc := fun hR _ hk hs h x hx => (Fz.fz x).loc hR (fun _ h => h) (fun b hb => hb.elim (fun hb => hk b (.inl hb)) False.elim) hs (h x hx)
theorem dup_fzl {α : Type} [En α] [Fz α] (xs : List α) : Dup (fzl xs) := fun h => h
theorem dup_sep {A B : Asrt} (ha : Dup A) (hb : Dup B) : Dup (sep A B) := fun ⟨_, _, _, _, _, h1, h2⟩ => ⟨fun _ => False, fun _ => False, fun _ h => h, fun _ h => h, fun _ h _ => h, ha h1, hb h2⟩
instance {α : Type} [En α] [Fz α] : Fz (SL α) := ⟨fun x => sep (sl true x.s.v x.d) (fzl x.d), fun _ => dup_sep (dup_sl _ _) (dup_fzl _)⟩
theorem sep_l {A B : Asrt} {R : Blks} {w : World} : (sep A B).h R (fun _ => False) w → A.h R (fun _ => False) w := fun ⟨_, _, h1, _, _, h4, _⟩ => A.loc (fun _ h => h) h1 (fun _ _ => rfl) (Same.refl w) h4
theorem sep_r {A B : Asrt} {R : Blks} {w : World} : (sep A B).h R (fun _ => False) w → B.h R (fun _ => False) w := fun ⟨_, _, _, h2, _, _, h5⟩ => B.loc (fun _ h => h) h2 (fun _ _ => rfl) (Same.refl w) h5
theorem sl_of_fz {α : Type} [En α] [Fz α] {x : SL α} {R : Blks} {w : World} (h : (Fz.fz x).h R (fun _ => False) w) : (sl true x.s.v x.d).h R (fun _ => False) w := sep_l h
theorem fzl_of_fz {α : Type} [En α] [Fz α] {x : SL α} {R : Blks} {w : World} (h : (Fz.fz x).h R (fun _ => False) w) : (fzl x.d).h R (fun _ => False) w := sep_r h
class Inp (P : Program) (t : Nat) (α : Type) [En α] [Fz α] : Prop where
  h : ∀ {H : Type} {enc : TypeId × Value → H} {w : World} {base : Nat} {spare : Nat → Bool} {held : Bool} {fuel : Nat} {cs : List Value} {x : DataW H × List MemPlace}, (∀ b, spare b = true) → DataW.trod enc P w base spare held fuel t cs = some x →
    ∃ a : α, cs = En.enc a ∧ ∀ R : Blks, (∀ b, b < w.heap.size → R b) → (Fz.fz a).h R (fun _ => False) w
section
variable {P : Program}
theorem inp_int {t : Nat} (ht : P.underlying t = some (.int .i64)) : Inp P t Int := ⟨fun _ h => by
  obtain ⟨n, rfl, _, hw⟩ := DataW.trod_int ht h
  refine ⟨n, rfl, fun _ _ => ?_⟩
  simp only [Lit.wf, Bool.and_eq_true, decide_eq_true_eq] at hw
  exact hw⟩
theorem inp_bool {t : Nat} (ht : P.underlying t = some .bool) : Inp P t Bool := ⟨fun _ h => by
  obtain ⟨b, rfl, _⟩ := DataW.trod_bool ht h
  exact ⟨b, rfl, fun _ _ => trivial⟩⟩
theorem inp_u8 {t : Nat} (ht : P.underlying t = some (.int .u8)) : Inp P t UInt8 := ⟨fun _ h => by
  obtain ⟨n, rfl, _, hw⟩ := DataW.trod_int ht h
  simp only [Lit.wf, Bool.and_eq_true, decide_eq_true_eq] at hw
  have h1 : (0 : Int) ≤ n := hw.1
  have h2 : n ≤ 255 := hw.2
  refine ⟨UInt8.ofNat n.toNat, ?_, fun _ _ => trivial⟩
  have : ((UInt8.ofNat n.toNat).toNat : Int) = n := by
    rw [UInt8.toNat_ofNat']
    omega
  show [Value.int .u8 n] = [Value.int .u8 ((UInt8.ofNat n.toNat).toNat : Int)]
  rw [this]⟩
theorem choose_list {α : Type} {p : Nat → α → Prop} : ∀ (n : Nat), (∀ i, i < n → ∃ x, p i x) → ∃ xs : List α, xs.length = n ∧ ∀ i x, xs[i]? = some x → p i x
  | 0, _ => ⟨[], rfl, fun i x h => by simp at h⟩
  | n + 1, h => by
    obtain ⟨xs, hl, hx⟩ := choose_list n (fun i hi => h i (by omega))
    obtain ⟨y, hy⟩ := h n (by omega)
    refine ⟨xs ++ [y], by simp [hl], fun i x hi => ?_⟩
    by_cases hin : i < n
    · rw [List.getElem?_append_left (by omega)] at hi; exact hx i x hi
    · by_cases hie : i = n
      · subst hie
        rw [List.getElem?_append_right (by omega), hl, Nat.sub_self] at hi
        simp only [List.getElem?_cons_zero, Option.some.injEq] at hi
        subst hi; exact hy
      · rw [List.getElem?_eq_none (by simp; omega)] at hi; cases hi
theorem cell_block {w : World} {a : Addr} {v : Value} (h : w.cell? a = some v) : a.spot = none ∧ ∃ cs T fr, w.heap[a.block]? = some (.cells cs T fr) := by
  cases hb : w.heap[a.block]? with
  | none => simp [World.cell?, hb] at h
  | some o =>
    cases o with
    | cells cs T fr =>
      refine ⟨?_, cs, T, fr, rfl⟩
      cases hs : a.spot with
      | none => rfl
      | some x => simp [World.cell?, hb, hs] at h
    | _ => simp [World.cell?, hb] at h
theorem inp_slice {t e : Nat} {α : Type} [En α] [Fz α] [hI : Inp P e α] (ht : P.underlying t = some (.slice e)) (hc : P.cellsOf e = En.sz α) : Inp P t (SL α) := ⟨fun {H enc w base spare held fuel cs x} hsp h => by
  have mk : ∀ (s : SV) (d : List α), (∀ R : Blks, (∀ b, b < w.heap.size → R b) → (sl true s.v d).h R (fun _ => False) w) → (∀ R : Blks, (∀ b, b < w.heap.size → R b) → ∀ y ∈ d, (Fz.fz y).h R (fun _ => False) w) →
      ∀ R : Blks, (∀ b, b < w.heap.size → R b) → (Fz.fz (⟨s, d⟩ : SL α)).h R (fun _ => False) w := fun s d h1 h2 R hR =>
    ⟨fun _ => False, fun _ => False, fun _ h => h, fun _ h => h, fun _ h _ => h, h1 R hR, h2 R hR⟩
  rcases Go.Deep.open_slice ht h with ⟨rfl, _⟩ | ⟨a, len, cap, m, n, D, Pl, rfl, hb, hl, hm, hmm, hx, hi⟩
  · exact ⟨⟨⟨none, 0, 0⟩, []⟩, rfl, mk _ _ (fun _ _ => .inl ⟨.inl rfl, rfl⟩) (fun _ _ y hy => by cases hy)⟩
  · rw [hsp] at hmm
    simp only [if_true] at hmm
    subst hmm
    unfold maxLen at hm
    by_cases hc0 : m = 0
    · subst hc0
      have : len = 0 := by omega
      subst this
      exact ⟨⟨⟨some a, 0, 0⟩, []⟩, rfl, mk _ _ (fun _ _ => .inl ⟨.inr ⟨rfl, a, rfl⟩, rfl⟩) (fun _ _ y hy => by cases hy)⟩
    · obtain ⟨xs, hxl, hxs⟩ := choose_list (p := fun i (y : α) => (w.cells? base (a.add (i * En.sz α)) (En.sz α) = some (En.enc y)) ∧ ∀ R : Blks, (∀ b, b < w.heap.size → R b) → (Fz.fz y).h R (fun _ => False) w) len (fun i hil => by
        obtain ⟨cs', h1, h2⟩ := hi i (by omega)
        obtain ⟨y, rfl, hy⟩ := hI.h hsp h2
        rw [hc] at h1
        exact ⟨y, h1, hy⟩)
      obtain ⟨cs0, h1, _⟩ := hi 0 (by omega)
      obtain ⟨_, hcl, hcg⟩ := World.cells?_some h1
      have hp := En.pos (α := α)
      have hcell := hcg 0 (by rw [hc]; exact hp)
      rw [List.getElem?_eq_getElem (by rw [hcl, hc]; exact hp)] at hcell
      rw [Nat.zero_mul, Go.Deep.add_add] at hcell
      have ha0 : a.add (0 + 0) = a := by simp [Addr.add]
      rw [ha0] at hcell
      obtain ⟨hs, cs, T, fr, hblk⟩ := cell_block hcell
      obtain ⟨ab, ao, as⟩ := a
      simp only at hs hblk
      subst hs
      have hlt : ab < w.heap.size := by
        rcases Nat.lt_or_ge ab w.heap.size with h | h
        · exact h
        · rw [Array.getElem?_eq_none (by omega)] at hblk; cases hblk
      refine ⟨⟨⟨some ⟨ab, ao, none⟩, len, m⟩, xs⟩, rfl, mk _ _ (fun R hR => .inr ⟨ab, ao, m, cs.toList, T, fr, by simp [SV.v, hxl], ⟨by omega, by omega⟩, hR ab hlt, by simpa using hblk, ?_⟩) (fun R hR y hy => ?_)⟩
      · apply List.ext_getElem?
        intro i
        by_cases hil : i < len * En.sz α
        · have hq : i / En.sz α < len := by rw [Nat.div_lt_iff_lt_mul hp]; exact hil
          have hr : i % En.sz α < En.sz α := Nat.mod_lt _ hp
          have hqe : i / En.sz α * En.sz α + i % En.sz α = i := by rw [Nat.mul_comm]; exact Nat.div_add_mod i _
          have hxg : xs[i / En.sz α]? = some (xs[i / En.sz α]'(by omega)) := by simp [hxl, hq]
          obtain ⟨hce, _⟩ := hxs _ _ hxg
          obtain ⟨_, _, hcg2⟩ := World.cells?_some hce
          have h3 := hcg2 _ hr
          rw [Go.Deep.add_add, hqe] at h3
          have h4 := flat_get xs _ _ _ hxg hr
          rw [hqe] at h4
          rw [hxl, List.getElem?_take_of_lt hil, List.getElem?_drop, h4, ← h3, add_mk]
          simp [World.cell?, hblk]
        · rw [hxl, List.getElem?_eq_none (by simp; omega), List.getElem?_eq_none (by rw [flat_length, hxl]; omega)]
      · obtain ⟨i, hi⟩ := List.getElem?_of_mem hy
        exact (hxs i y hi).2 R hR⟩
end
def pcs (cs : List Value) : Nat → List Nat → List Value
  | _, [] => []
  | off, k :: ks => (cs.drop off).take k ++ pcs cs (off + k) ks
theorem pcs_eq : ∀ (ks : List Nat) (off : Nat) (cs : List Value), cs.length = off + ks.sum → cs.drop off = pcs cs off ks
  | [], off, cs, h => by simp only [pcs]; exact List.drop_eq_nil_of_le (by simp at h; omega)
  | k :: ks, off, cs, h => by
    simp only [pcs]
    rw [← pcs_eq ks (off + k) cs (by simp at h; omega), ← List.drop_drop, List.take_append_drop]
theorem sepI {A B : Asrt} {R : Blks} {w : World} (h1 : A.h R (fun _ => False) w) (h2 : B.h R (fun _ => False) w) : (sep A B).h R (fun _ => False) w :=
  ⟨fun _ => False, fun _ => False, fun _ h => h, fun _ h => h, fun _ h _ => h, h1, h2⟩
theorem sat_ro {W : World} : ∀ {l : List Asrt} {U : Blks}, (∀ A ∈ l, ∀ R : Blks, (∀ b, b < W.heap.size → R b) → A.h R (fun _ => False) W) → SatR (fun b => b < W.heap.size) W U l
  | [], _, _ => trivial
  | A :: _, _, h => ⟨fun _ => False, fun _ h => h.elim, h A (by simp) _ (fun _ h => h), sat_ro fun B hB => h B (by simp [hB])⟩
theorem old_at (W : World) (R : Blks) (hR : ∀ b, b < W.heap.size → R b) : (old W).h R (fun _ => False) W := ⟨Same.refl W, Nat.le_refl _, fun b hb => ⟨hR b hb, rfl⟩⟩
theorem calls_of {P : Program} {f : FuncId} {args : Array Value} {pre : List Asrt} {post : Value → List Asrt → Prop} {r : Value} {W : World} (h : Trip P f args pre post) (hr : ∀ v l', post v l' → v = r)
    (hp : ∀ A ∈ pre, ∀ R : Blks, (∀ b, b < W.heap.size → R b) → A.h R (fun _ => False) W) : Calls P f args W fun e w' => e = .returned r ∧ Below W.heap.size W w' := by
  have hk : Tr (pre ++ [old W]) (CallK P f args fun v w' => v = r ∧ Below W.heap.size W w') := h [old W] _ fun v l' hv w' hw => by
    refine ⟨hr v l' hv, ?_⟩
    have hw2 : Sat w' (old W :: l') := hw.perm List.perm_append_comm
    obtain ⟨R, _, S, _, ⟨h1, h2, h3⟩, _⟩ := hw2
    exact ⟨h1.1, h1.2.2, h1.2.1, h2, fun k hk => (h3 k hk).2⟩
  have hw : Sat W (pre ++ [old W]) := ⟨fun b => b < W.heap.size, fun _ h => h, sat_ro fun A hA => by
    rcases List.mem_append.1 hA with h | h
    · exact hp A h
    · simp only [List.mem_singleton] at h
      subst h; exact old_at W⟩
  exact Calls.mono (hk W hw) fun e w' he => by
    cases e with
    | returned v => exact ⟨by rw [he.1], he.2⟩
    | _ => exact he.elim
section
variable {H : Type} {enc : TypeId × Value → H} {P : Program}
theorem okWide_one {W : World} {r : Reach} {b t : Nat} {v : Value} (hs : scalB P t = true) (h : Value.okWide P W r b t v) : v.cells = #[v] := by
  cases v with
  | agg cs =>
    exfalso
    unfold scalB at hs
    simp only [Bool.and_eq_true] at hs
    have hs1 := hs.1
    unfold Value.okWide at h
    cases hu : P.underlying t with
    | none => rw [hu] at hs1; simp at hs1
    | some d => rw [hu] at h hs1; cases d <;> simp [Cell.okWide, Cell.ok, hu] at h hs1
  | _ => rfl
theorem arg_one {α : Type} [En α] [Fz α] {W : World} {r : Reach} {b t : Nat} {spare : Nat → Bool} {held : Bool} {base : Nat} {v : Value} {d : DataW H} {ps : List MemPlace} [hI : Inp P t α] (hs : scalB P t = true) (hok : Value.okWide P W r b t v) (hsp : ∀ b, spare b = true)
    (h : DataW.Trod enc P W base spare held t v d ps) : ∃ a : α, [v] = En.enc a ∧ ∀ R : Blks, (∀ b, b < W.heap.size → R b) → (Fz.fz a).h R (fun _ => False) W := by
  obtain ⟨fuel, hf⟩ := h
  rw [okWide_one hs hok] at hf
  exact hI.h hsp hf
theorem arg_agg {α : Type} [En α] [Fz α] {W : World} {r : Reach} {b t : Nat} {spare : Nat → Bool} {held : Bool} {base : Nat} {v : Value} {d : DataW H} {ps : List MemPlace} [hI : Inp P t α] {fs : Array Field} (hu : P.underlying t = some (.struct fs)) (hok : Value.okWide P W r b t v) (hsp : ∀ b, spare b = true)
    (h : DataW.Trod enc P W base spare held t v d ps) : ∃ a : α, v = .agg (En.enc a).toArray ∧ ∀ R : Blks, (∀ b, b < W.heap.size → R b) → (Fz.fz a).h R (fun _ => False) W := by
  obtain ⟨cs, rfl, _⟩ := okWide_struct hu hok
  obtain ⟨fuel, hf⟩ := h
  obtain ⟨a, ha, hz⟩ := hI.h hsp hf
  refine ⟨a, ?_, hz⟩
  rw [← ha]
  simp [Value.cells]
theorem trodAll_below (hl : laidOutB P = true) {W W' : World} (hb : Below W.heap.size W W') : ∀ {ts : List TypeId} {vs : List Value} {ds : List (DataW H)} {ps : List MemPlace}, ts.all (fun t => P.readableRec t && decide (t < P.types.size)) = true →
    DataW.TrodAll enc P W 0 (fun _ => true) true ts vs ds ps → (∀ x ∈ ps, x.block < W.heap.size) → DataW.TrodAll enc P W' 0 (fun b => decide (b < W.heap.size)) true ts vs ds ps
  | [], vs, ds, ps, _, h, _ => by
    obtain ⟨rfl, rfl, rfl⟩ := trodAll_nil h
    exact trodAll_mk0
  | t :: ts, vs, ds, ps, hr, h, hlt => by
    obtain ⟨v, vs', d, ds', p, q, rfl, rfl, rfl, h1, h2⟩ := trodAll_cons h
    simp only [List.all_cons, Bool.and_eq_true, decide_eq_true_eq] at hr
    exact ⟨p, q, Below.trod hl hr.1.1 hr.1.2 h1 hb (fun x hx => hlt x (by simp [hx])), trodAll_below hl hb hr.2 h2 (fun x hx => hlt x (by simp [hx])), rfl⟩
theorem trodAll_len {w : World} {base : Nat} {spare : Nat → Bool} {held : Bool} : ∀ {ts : List TypeId} {vs : List Value} {ds : List (DataW H)} {ps : List MemPlace}, DataW.TrodAll enc P w base spare held ts vs ds ps → ds.length = ts.length
  | [], _, _, _, h => by obtain ⟨_, rfl, _⟩ := trodAll_nil h; rfl
  | _ :: _, _, _, _, h => by
    obtain ⟨_, _, _, _, _, _, _, rfl, _, _, h2⟩ := trodAll_cons h
    simp [trodAll_len h2]
theorem law_post {f : Func} {s : ChangeSpec} {apart : Bool} {tb : TypeId} {W W' : World} {args : Array Value} {ds gs : List (DataW H)} {before : List MemPlace} (hl : laidOutB P = true) (hr : f.params.toList.all (fun t => P.readableRec t && decide (t < P.types.size)) = true)
    (hv : s.vars = []) (hrt : f.resultTypes = #[tb]) (htb : P.underlying tb = some .bool)
    (hs : ∀ ds : List (DataW H), ds.length = f.params.toList.length → (s.fn H ds).results = [.lit (.bool true)] ∧ (s.fn H ds).args = ds ∧ (s.fn H ds).vars = [])
    (hW : DataW.Whole enc P f.params.toList s.vars apart W args.toList ds gs before) (hb : Below W.heap.size W W') : s.post enc P f apart true false false W args (.bool true) W' := by
  have hlt : ∀ p ∈ before, p.block < W.heap.size := fun p hp => hW.lt p hp
  have hW0 := hW
  obtain ⟨p, q, hA, hV, rfl, _, _⟩ := hW
  rw [hv] at hV
  obtain ⟨rfl, rfl⟩ := trodVars_none hV
  have hds := hs ds (trodAll_len hA)
  refine ⟨ds, [], p ++ [], [], p, [], hW0, ?_, ?_, ?_, ?_, fun h => by cases h⟩
  · rw [List.append_nil, hds.1, hrt]
    exact trodAll_mk1 (shut_bool htb true)
  · rw [List.append_nil, hds.2.1]
    exact trodAll_below hl hb hr hA (fun x hx => hlt x (by simp [hx]))
  · rw [List.append_nil, hds.2.2, hv]
    rfl
  · exact World.keptBut_mono (fun x hx => by simp at hx) (hb.frame (fun _ => False))
end
end Go.Wk
namespace Go.Wk
open Go
def bstr (bs : List UInt8) : ByteArray := ⟨bs.toArray⟩
theorem bstr_data (bs : List UInt8) : (bstr bs).data.toList = bs := rfl
theorem toList_data (s : ByteArray) : s.toList = s.data.toList := by
  have gen : ∀ (n i : Nat) (r : List UInt8), n = s.size - i → i ≤ s.size → ByteArray.toList.loop s i r = r.reverse ++ s.data.toList.drop i := by
    intro n
    induction n with
    | zero =>
      intro i r hn hi
      unfold ByteArray.toList.loop
      rw [if_neg (by omega)]
      have : s.data.toList.drop i = [] := List.drop_eq_nil_of_le (by show s.data.toList.length ≤ i; simp [← ByteArray.size_data] at *; omega)
      rw [this, List.append_nil]
    | succ n ih =>
      intro i r hn hi
      unfold ByteArray.toList.loop
      rw [if_pos (by omega), ih (i + 1) _ (by omega) (by omega)]
      have hlt : i < s.data.toList.length := by simp [← ByteArray.size_data] at *; omega
      rw [List.drop_eq_getElem_cons hlt, List.reverse_cons, List.append_assoc]
      congr 1
      show [s.get! i] ++ _ = _
      have : s.get! i = s.data.toList[i] := by
        simp only [ByteArray.get!]
        rw [Array.getElem!_eq_getD, Array.getD_eq_getD_getElem?]
        simp at hlt
        simp [hlt]
      rw [this]; rfl
  have := gen (s.size - 0) 0 [] rfl (Nat.zero_le _)
  simp only [List.reverse_nil, List.nil_append, List.drop_zero] at this
  exact this
theorem bstr_eq (a b : List UInt8) : ((bstr a).toList == (bstr b).toList) = decide (a = b) := by
  rw [toList_data, toList_data, bstr_data, bstr_data]
  by_cases h : a = b
  · simp [h]
  · simp [h]
theorem flat_bytes : ∀ bs : List UInt8, flat bs = (bs.map fun b => (b.toNat : Int)).map (Value.int .u8)
  | [] => rfl
  | b :: bs => by
    have ih := flat_bytes bs
    simp only [flat] at ih
    simp only [flat, List.flatMap_cons, List.map_cons, ih]
    rfl
section
variable {P : Program} {l F : List Asrt} {K : Value → WP} {ro : Bool} {v : Value}
theorem Tr.bytesStr {S D : Nat} [hS : BytT P S] [hD : StrT P D] {bs : List UInt8} (hs : Has l (sl ro v bs)) (hx : Tr l (K (.string (bstr bs)))) : Tr l (GenK P (convert S D v) K) := fun w hw => by
  obtain ⟨e, he, hu⟩ := hS.h
  obtain ⟨R, S', hA⟩ := hs.sat hw
  refine ⟨_, ?_, hx w hw⟩
  have hc := cells_sl (P := P) hA
  have hv : ∃ a c, v = .slice a bs.length c := sl_slen hs hw
  obtain ⟨a, c, rfl⟩ := hv
  rw [run_convert_bytes_string w S D e a _ _ he hu hD.h]
  cases a with
  | none =>
    have : bs = [] := by
      rcases sl_cases hA with ⟨_, h⟩ | ⟨b, off, cap, cs, T, fr, h, _⟩
      · exact h
      · cases h
    subst this
    rfl
  | some a =>
    have hf : flat bs = (bs.map fun b => (b.toNat : Int)).map (Value.int .u8) := by
      exact flat_bytes bs
    have hl : (loadCells a bs.length).run P w = .ok ((bs.map fun b => (b.toNat : Int)).map (Value.int .u8)).toArray w := by
      rw [← hf]
      have h1 : En.sz UInt8 = 1 := rfl
      simpa [Builtin.firstCells, h1] using hc
    rw [run_bytesToString w a _ _ _ hl, foldl_push_byteCells]
    simp [bstr]
theorem BinK_seq {t : TypeId} {x y : Operand} {a b : List UInt8} : BinK P .eql t x y (.string (bstr a)) (.string (bstr b)) K = K (.bool (decide (a = b))) := by
  refine GenK_of (fun w => ?_) K
  simp [eqGuard, binOp, Op.stringOp, bstr_eq]
theorem BinK_sne {t : TypeId} {x y : Operand} {a b : List UInt8} : BinK P .neq t x y (.string (bstr a)) (.string (bstr b)) K = K (.bool (!decide (a = b))) := by
  refine GenK_of (fun w => ?_) K
  simp [eqGuard, binOp, Op.stringOp, bstr_eq]
end
theorem G.conv {P : Program} {l : List Asrt} {K : Value → WP} {s d : Nat} {v : Value} (h : Tr l (GenK P (convert s d v) K)) : Tr l (GenK P (convert s d v) K) := h
end Go.Wk
namespace Go.Wk
open Go
def fam {α : Type} (A : α → Asrt) : List α → Asrt
  | [] => fact True
  | x :: xs => sep (A x) (fam A xs)
section
variable {α : Type} {A : α → Asrt} {l : List Asrt}
theorem fam_nil : Imp l (fam A [] :: l) := Imp.factI trivial
theorem fam_cons {x : α} {xs : List α} : Imp (fam A (x :: xs) :: l) (A x :: fam A xs :: l) := Imp.sep
theorem fam_consI {x : α} {xs : List α} : Imp (A x :: fam A xs :: l) (fam A (x :: xs) :: l) := Imp.sepI
theorem fam_out : ∀ {xs : List α} {i : Nat} {x : α} {l : List Asrt}, xs[i]? = some x → Imp (fam A xs :: l) (A x :: fam A (xs.eraseIdx i) :: l)
  | [], _, _, _, h => by simp at h
  | y :: xs, 0, x, l, h => by
    simp only [List.getElem?_cons_zero, Option.some.injEq] at h
    subst h
    exact fam_cons
  | y :: xs, i + 1, x, l, h => by
    simp only [List.getElem?_cons_succ] at h
    simp only [List.eraseIdx_cons_succ]
    exact Imp.trans fam_cons (Imp.trans Imp.swap (Imp.trans (fam_out h) (Imp.cons (Imp.trans Imp.swap fam_consI))))
theorem fam_in : ∀ {xs : List α} {i : Nat} {x : α} {l : List Asrt}, i < xs.length → Imp (A x :: fam A (xs.eraseIdx i) :: l) (fam A (xs.set i x) :: l)
  | [], _, _, _, h => by simp at h
  | y :: xs, 0, x, l, _ => by
    simp only [List.eraseIdx_cons_zero, List.set_cons_zero]
    exact fam_consI
  | y :: xs, i + 1, x, l, h => by
    simp only [List.eraseIdx_cons_succ, List.set_cons_succ]
    refine Imp.trans (Imp.cons fam_cons) (Imp.trans Imp.swap (Imp.trans (Imp.cons (fam_in (by simpa using h))) fam_consI))
theorem fam_snoc : ∀ {xs : List α} {x : α} {l : List Asrt}, Imp (A x :: fam A xs :: l) (fam A (xs ++ [x]) :: l)
  | [], _, _ => Imp.trans (Imp.cons Imp.tail) (Imp.trans (Imp.trans fam_nil Imp.swap) fam_consI)
  | _ :: _, _, _ => Imp.trans (Imp.cons fam_cons) (Imp.trans Imp.swap (Imp.trans (Imp.cons fam_snoc) fam_consI))
end
theorem TakeA.fam {α : Type} [Inhabited α] {A : α → Asrt} {xs : List α} {k : Int} {l : List Asrt} (h0 : 0 ≤ k) (h1 : k < xs.length) : TakeA (fam A xs :: l) (A (ix xs k)) (fam A (xs.eraseIdx k.toNat) :: l) := fam_out (ix_some h0 h1)
theorem EntR.famSame {α : Type} [Inhabited α] {A : α → Asrt} {xs : List α} {k : Int} {d l l' l2 : List Asrt} (ht : TakeA l (Wk.fam A (xs.eraseIdx k.toNat)) l') (h0 : 0 ≤ k) (h1 : k < xs.length) (h : EntR d l' (A (ix xs k) :: l2)) : EntR d l (Wk.fam A xs :: l2) := by
  have h3 := Imp.trans (Imp.trans ht (Imp.cons h)) Imp.swap
  have h4 := Imp.trans h3 (fam_in (by omega))
  have h5 : xs.set k.toNat (ix xs k) = xs := by
    have := ix_some (xs := xs) h0 h1
    obtain ⟨hlt, he⟩ := List.getElem?_eq_some_iff.1 this
    rw [← he]; simp
  rw [h5] at h4; exact h4
theorem EntR.famSet {α : Type} {A : α → Asrt} {xs : List α} {x : α} {k : Nat} {d l l' l2 : List Asrt} (ht : TakeA l (Wk.fam A (xs.eraseIdx k)) l') (h1 : k < xs.length) (h : EntR d l' (A x :: l2)) : EntR d l (Wk.fam A (xs.set k x) :: l2) :=
  Imp.trans (Imp.trans (Imp.trans ht (Imp.cons h)) Imp.swap) (fam_in h1)
theorem EntR.famSnoc {α : Type} {A : α → Asrt} {xs : List α} {x : α} {d l l' l2 : List Asrt} (ht : TakeA l (Wk.fam A xs) l') (h : EntR d l' (A x :: l2)) : EntR d l (Wk.fam A (xs ++ [x]) :: l2) :=
  Imp.trans (Imp.trans (Imp.trans ht (Imp.cons h)) Imp.swap) fam_snoc
theorem EntR.famNil {α : Type} {A : α → Asrt} {d l l2 : List Asrt} (h : EntR d l l2) : EntR d l (Wk.fam A [] :: l2) := Imp.trans h fam_nil
theorem G.ec {A : Asrt} {d l l2 : List Asrt} (h : EntR d l (A :: l2)) : EntR d l (A :: l2) := h
theorem G.ef {α : Type} {A : α → Asrt} {xs : List α} {d l l2 : List Asrt} (h : EntR d l (Wk.fam A xs :: l2)) : EntR d l (Wk.fam A xs :: l2) := h
theorem TakeA.famNil {α : Type} {A : α → Asrt} {l : List Asrt} : TakeA l (Wk.fam A []) l := fam_nil
theorem TakeA.nilS {α : Type} [En α] {ro : Bool} {l : List Asrt} : TakeA l (sl ro (.slice none 0 0) ([] : List α)) l := fun _ _ _ _ _ h => ⟨fun _ => False, fun _ h => h.elim, .inl ⟨.inl rfl, rfl⟩, h.weaken fun _ hb => hb.elim id False.elim⟩
theorem EntR.nilS {α : Type} [En α] {ro : Bool} {d l l2 : List Asrt} (h : EntR d l l2) : EntR d l (sl ro (.slice none 0 0) ([] : List α) :: l2) := Imp.trans TakeA.nilS (Imp.cons h)
theorem Tr.famAt {α : Type} [Inhabited α] {A : α → Asrt} {xs : List α} (k : Int) {l l' : List Asrt} {X : WP} (ht : TakeA l (Wk.fam A xs) l') (h0 : 0 ≤ k) (h1 : k < xs.length) (h : Tr (A (ix xs k) :: Wk.fam A (xs.eraseIdx k.toNat) :: l') X) : Tr l X :=
  h.imp (Imp.trans ht (TakeA.fam h0 h1))
class FzD (α : Type) [En α] [Fz α] [Inhabited α] : Prop where
  h : ∀ R w, (Fz.fz (default : α)).h R (fun _ => False) w
instance : FzD Int := ⟨fun _ _ => ⟨by decide, by decide⟩⟩
instance : Inhabited UInt8 := ⟨0⟩
instance : FzD UInt8 := ⟨fun _ _ => trivial⟩
instance : FzD Bool := ⟨fun _ _ => trivial⟩
instance {α : Type} [En α] [Fz α] : FzD (SL α) := ⟨fun _ _ => ⟨fun _ => False, fun _ => False, fun _ h => h, fun _ h => h, fun _ h _ => h, .inl ⟨.inl rfl, rfl⟩, fun x hx => by cases hx⟩⟩
class HasZ {α : Type} [En α] [Fz α] (l : List Asrt) (x : α) : Prop where
  h : Has l (Fz.fz x)
class HasF {α : Type} [En α] [Fz α] (l : List Asrt) (xs : List α) : Prop where
  h : Has l (fzl xs)
section
variable {α : Type} [iE : En α] [iF : Fz α] {l : List Asrt}
theorem hasf_mk {xs : List α} (h : ∀ (w : World) (R U : Blks), (∀ b, R b → b < w.heap.size) → (∀ b, R b → U b) → SatR R w U l → ∀ x ∈ xs, (Fz.fz x).h R (fun _ => False) w) : HasF l xs := ⟨fun w R U h1 h2 h3 => ⟨fun _ => False, h w R U h1 h2 h3⟩⟩
theorem hasf_get {xs : List α} (hf : HasF l xs) {w : World} {R U : Blks} (h1 : ∀ b, R b → b < w.heap.size) (h2 : ∀ b, R b → U b) (h3 : SatR R w U l) : ∀ x ∈ xs, (Fz.fz x).h R (fun _ => False) w := let ⟨_, h⟩ := hf.h w R U h1 h2 h3; h
theorem hasz_get {x : α} (hf : HasZ l x) {w : World} {R U : Blks} (h1 : ∀ b, R b → b < w.heap.size) (h2 : ∀ b, R b → U b) (h3 : SatR R w U l) : (Fz.fz x).h R (fun _ => False) w := let ⟨_, h⟩ := hf.h w R U h1 h2 h3; Fz.dup x h
instance hasz_here {x : α} : HasZ (Fz.fz x :: l) x := ⟨Has.here⟩
instance (priority := 500) hasz_next {x : α} {A : Asrt} [h : HasZ l x] : HasZ (A :: l) x := ⟨h.h.next⟩
instance hasf_here {xs : List α} : HasF (fzl xs :: l) xs := ⟨Has.here⟩
instance (priority := 500) hasf_next {xs : List α} {A : Asrt} [h : HasF l xs] : HasF (A :: l) xs := ⟨h.h.next⟩
instance (priority := 800) hasf_nil : HasF l ([] : List α) := hasf_mk fun _ _ _ _ _ _ x hx => by cases hx
instance (priority := 800) hasf_cons {x : α} {xs : List α} [hz : HasZ l x] [hf : HasF l xs] : HasF l (x :: xs) := hasf_mk fun w R U h1 h2 h3 y hy => by
  rcases List.mem_cons.1 hy with rfl | hy
  · exact hasz_get hz h1 h2 h3
  · exact hasf_get hf h1 h2 h3 y hy
instance (priority := 800) hasf_app {xs ys : List α} [hx : HasF l xs] [hy : HasF l ys] : HasF l (xs ++ ys) := hasf_mk fun w R U h1 h2 h3 y h => by
  rcases List.mem_append.1 h with h | h
  · exact hasf_get hx h1 h2 h3 y h
  · exact hasf_get hy h1 h2 h3 y h
instance (priority := 800) hasf_drop {xs : List α} {n : Nat} [hx : HasF l xs] : HasF l (xs.drop n) := hasf_mk fun _ _ _ h1 h2 h3 y h => hasf_get hx h1 h2 h3 y (List.mem_of_mem_drop h)
instance (priority := 800) hasf_set {xs : List α} {n : Nat} {x : α} [hz : HasZ l x] [hx : HasF l xs] : HasF l (xs.set n x) := hasf_mk fun _ _ _ h1 h2 h3 y h => by
  rcases List.mem_or_eq_of_mem_set h with h | rfl
  · exact hasf_get hx h1 h2 h3 y h
  · exact hasz_get hz h1 h2 h3
instance (priority := 800) hasz_ix [Inhabited α] [hd : FzD α] {xs : List α} {k : Int} [hx : HasF l xs] : HasZ l (ix xs k) := ⟨fun w R U h1 h2 h3 => ⟨fun _ => False, by
  by_cases h : k.toNat < xs.length
  · have : ix xs k = xs[k.toNat] := by simp [ix, h]
    rw [this]; exact hasf_get hx h1 h2 h3 _ (List.getElem_mem h)
  · have : ix xs k = default := by simp [ix, Nat.le_of_not_lt h]
    rw [this]; exact hd.h R w⟩⟩
instance (priority := 800) hasz_def [Inhabited α] [hd : FzD α] : HasZ l (default : α) := ⟨fun w R _ _ _ _ => ⟨fun _ => False, hd.h R w⟩⟩
instance (priority := 800) hasf_rep [Inhabited α] [hd : FzD α] {n : Nat} : HasF l (List.replicate n (default : α)) := hasf_mk fun w R _ _ _ _ y h => by
  rw [(List.mem_replicate.1 h).2]; exact hd.h R w
instance (priority := 800) hasf_sl {x : SL α} [hz : HasZ l x] : HasF l (SL.d x) := hasf_mk fun _ _ _ h1 h2 h3 y hy => fzl_of_fz (hasz_get hz h1 h2 h3) y hy
instance (priority := 800) hass_sl {x : SL α} [hz : HasZ l x] : HasS l (SV.v (SL.s x)) true α iE (SL.d x) := ⟨hz.h.imp fun h => ⟨fun _ => False, sl_of_fz (Fz.dup x h)⟩⟩
theorem hasz_sl {s : SV} {d : List α} (hs : HasS l s.v true α iE d) (hf : HasF l d) : HasZ l (SL.mk s d) := ⟨fun w R U h1 h2 h3 => ⟨fun _ => False, by
  obtain ⟨S, h⟩ := hs.h w R U h1 h2 h3
  exact sepI (dup_sl _ _ h) (hasf_get hf h1 h2 h3)⟩⟩
instance (priority := 700) hasz_mk {s : SV} {d : List α} [hs : HasS l s.v true α iE d] [hf : HasF l d] : HasZ l (SL.mk s d) := hasz_sl hs hf
instance (priority := 400) hasz_eta {x : SL α} [hs : HasS l x.s.v true α iE x.d] [hf : HasF l x.d] : HasZ l x := hasz_sl hs hf
end
instance (priority := 900) hasf_u8 {l : List Asrt} {xs : List UInt8} : HasF l xs := hasf_mk fun _ _ _ _ _ _ _ _ => trivial
section
variable {α : Type} [iE : En α] {l F l2 : List Asrt} {d : List Asrt}
theorem TakeA.dupS {v : Value} {xs : List α} [hs : HasS l v true α iE xs] : TakeA l (sl true v xs) l := hs.h.imps (dup_sl v xs)
theorem TakeA.dupF [Fz α] {xs : List α} [hs : HasF l xs] : TakeA l (fzl xs) l := hs.h.imps (dup_fzl xs)
theorem EntR.dupS {v : Value} {xs : List α} [hs : HasS l v true α iE xs] (h : EntR d l l2) : EntR d l (sl true v xs :: l2) := Imp.trans (hs.h.imps (dup_sl v xs)) (Imp.cons h)
theorem EntR.dupF [Fz α] {xs : List α} [hs : HasF l xs] (h : EntR d l l2) : EntR d l (fzl xs :: l2) := Imp.trans (hs.h.imps (dup_fzl xs)) (Imp.cons h)
theorem EntR.dupZ [Fz α] {x : α} [hs : HasZ l x] (h : EntR d l l2) : EntR d l (Fz.fz x :: l2) := Imp.trans (hs.h.imps (Fz.dup x)) (Imp.cons h)
theorem Tr.freezeAt {v : Value} {xs : List α} {X : WP} (ht : TakeA l (sl false v xs) F) (h : Tr (sl true v xs :: F) X) : Tr l X := (Tr.freezeSl h).imp ht
end
structure Pt where
  a : Option Nat
instance : Inhabited Pt := ⟨⟨none⟩⟩
def Pt.v (p : Pt) : Value := .pointer (p.a.map fun b => ⟨b, 0, none⟩)
instance : En Pt := ⟨fun p => [p.v], 1, fun _ => rfl, fun _ => rfl, by decide⟩
theorem Pt.v_some {b : Nat} : (Pt.mk (some b)).v = .pointer (some ⟨b, 0, none⟩) := rfl
theorem Pt.v_none : (Pt.mk none).v = .pointer none := rfl
section
variable {P : Program} {l F : List Asrt} {K : Value → WP} {t : TypeId} {x y : Operand}
theorem und_sliceT {T n : Nat} [h : Slc P T n] : ∃ e, P.underlying T = some (.slice e) := by
  obtain ⟨e, _, hu, _⟩ := und_slc h.h
  exact ⟨e, hu⟩
theorem BinK_slnil {T n : Nat} [h : Slc P T n] {s : SV} : BinK P .eql T x y s.v (.slice none 0 0) K = K (.bool s.a.isNone) := by
  obtain ⟨e, he⟩ := und_sliceT (P := P) (T := T)
  obtain ⟨a, n, c⟩ := s
  refine GenK_of (fun w => ?_) K
  have : (Op.equal T (.slice a n c) (.slice none 0 0)).run P w = .ok a.isNone w := run_equalIn fun d => by
    cases a <;> simp [Op.equalIn, run_underlying he]
  simp [eqGuard, binOp, this, SV.v]
theorem BinK_slnnil {T n : Nat} [h : Slc P T n] {s : SV} : BinK P .neq T x y s.v (.slice none 0 0) K = K (.bool (!s.a.isNone)) := by
  obtain ⟨e, he⟩ := und_sliceT (P := P) (T := T)
  obtain ⟨a, n, c⟩ := s
  refine GenK_of (fun w => ?_) K
  have : (Op.equal T (.slice a n c) (.slice none 0 0)).run P w = .ok a.isNone w := run_equalIn fun d => by
    cases a <;> simp [Op.equalIn, run_underlying he]
  simp [eqGuard, binOp, this, SV.v]
theorem A.byStr {S D : Nat} [BytT P S] [StrT P D] {ro : Bool} {v : Value} {bs : List UInt8} [hs : HasS l v ro UInt8 inferInstance bs] (hx : Tr l (K (.string (bstr bs)))) : Tr l (GenK P (convert S D v) K) := Tr.bytesStr hs.h hx
end
end Go.Wk
namespace Go.Wk
open Go
def conB (P : Program) (T : Nat) : Bool := match P.underlying T with
  | some (.interface _) => false
  | some _ => true
  | none => false
class ConT (P : Program) (T : Nat) : Prop where
  h : conB P T = true
def methB (P : Program) (T : Nat) (m : String) : Option Nat := match P.info? T with
  | some i => match i.methods.find? (·.name == m) with
    | some md => match md.path.isEmpty, md.func, P.underlying T with
      | true, some (f, true), some (.pointer _) => some f
      | _, _, _ => none
    | none => none
  | none => none
class MethT (P : Program) (T : Nat) (m : String) (f : outParam Nat) : Prop where
  h : methB P T m = some f
def InvK (P : Program) (r : Value) (m : String) (args : Array Value) (K : Value → WP) : WP := fun w => upon P K ((callMethod r m args).run P w)
theorem opX_inv {P : Program} {r : Operand} {m : String} {as : Array Operand} {ts : Array TypeId} {ty : TypeId} {e : Env} {K : Value → WP} : opX P (.call ⟨.invoke r m, as, ts⟩) ty e K = InvK P (ev e r) m (as.map (ev e)) K := by
  funext w
  show opR P _ ty e K w = _
  rw [opR_eff rfl]
  unfold effR InvK
  have h0 : (#[ev e r] ++ as.map (ev e))[0]? = some (ev e r) := by rw [← Array.getElem?_toList]; simp
  have h1 : (#[ev e r] ++ as.map (ev e)).extract 1 (#[ev e r] ++ as.map (ev e)).size = as.map (ev e) := by
    apply Array.toList_inj.1
    simp [List.take_of_length_le]
  simp only [execOp, oper, resolve, invoke, Sem.run_bind, Sem.run_pure, Result.andThen_ok, h0, h1]
section
variable {P : Program} {l F : List Asrt} {K : Value → WP}
theorem InvK_ptr {T : Nat} {m : String} {f : Nat} [hm : MethT P T m f] [hf : IsFn P f] {v : Value} {args : Array Value} : InvK P (.iface T v) m args K = CallK P f (#[v] ++ args) K := by
  funext w
  have h := hm.h
  unfold methB at h
  split at h
  · rename_i i hi
    split at h
    · rename_i md hmd
      split at h
      · rename_i h1 h2 h3
        cases h
        have hrun : (callMethod (.iface T v) m args).run P w = .ok (.enter f (#[v] ++ args)) w := by
          have hmeth : ∀ n, (method (n + 1) T v m).run P w = .ok (f, v) w := fun n => by
            simp [method, typeInfo, hi, hmd, follow, (List.isEmpty_iff.1 (by simpa using h1) : md.path.toList = []), h2, receiverAt, run_underlying h3, Place.get]
          have hpos : 0 < Made.depth := by decide
          obtain ⟨n, hn⟩ : ∃ n, P.types.size + Made.depth = n + 1 := ⟨P.types.size + Made.depth - 1, by omega⟩
          simp only [callMethod, Sem.run_bind]
          have hp : (program).run P w = .ok P w := by simp [program, Sem.run]
          rw [hp]
          simp only [Result.andThen_ok, hn, hmeth n, run_callFunc hf.h]
        unfold InvK
        rw [hrun]
        rfl
      · cases h
    · cases h
  · cases h
theorem mkIface {T : Nat} [h : ConT P T] {v : Value} : GenK P (Instr.makeInterface T v) K = K (.iface T v) := by
  refine GenK_of (fun w => ?_) K
  have h := h.h
  unfold conB at h
  cases hu : P.underlying T with
  | none => rw [hu] at h; cases h
  | some d => rw [hu] at h; cases d <;> simp_all [Instr.makeInterface, run_underlying hu]
theorem tyAssert {X T A : Nat} {z v : Value} [h : ConT P A] [hz : Zer P A z] : GenK P (Instr.typeAssert (.iface T v) X A true) K = K (if T = A then .tuple #[v, .bool true] else .tuple #[z, .bool false]) := by
  refine GenK_of (fun w => ?_) K
  have h := h.h
  have hz' : (zeroValue A).run P w = .ok z w := by
    have hz := hz.h
    unfold zeroB at hz
    cases hi : P.info? A with
    | none => rw [hi] at hz; cases hz
    | some i =>
      rw [hi] at hz
      have hz' : i.zero = some z := hz
      simp [zeroValue, typeInfo, hi, hz']
  unfold conB at h
  cases hu : P.underlying A with
  | none => rw [hu] at h; cases h
  | some d => rw [hu] at h; cases d <;> (by_cases ht : T = A <;> simp_all [Instr.typeAssert, run_underlying hu])
end
def cutV (sz : Nat) (v : Value) (lo hi : Nat) : Value := match v with
  | .slice a _ c => .slice (if c = lo then a else a.map (·.add (lo * sz))) (hi - lo) (c - lo)
  | v => v
section
variable {P : Program} {α : Type} [iE : En α] {v : Value} {xs : List α} {l F : List Asrt} {ro : Bool} {K : Value → WP}
theorem sl_cap (hs : Has l (sl ro v xs)) {w : World} (hw : Sat w l) : ∃ a c, v = .slice a xs.length c ∧ xs.length ≤ c := by
  obtain ⟨R, S, h⟩ := hs.sat hw
  rcases sl_cases h with ⟨hn, rfl⟩ | ⟨b, off, cap, cs, T0, fr, rfl, h2, _⟩
  · obtain ⟨a, rfl⟩ := hn.slice
    exact ⟨a, 0, rfl, Nat.le_refl _⟩
  · exact ⟨_, _, rfl, h2⟩
theorem run_cut {T : Nat} [hT : Slc P T (En.sz α)] {lo hi : Option Value} {a : Option Addr} {n c m h : Nat} {w : World} (hb : (Instr.sliceBounds true n c lo hi none).run P w = .ok (m, h, c) w) :
    (Instr.sliceAt T (.slice a n c) lo hi none).run P w = .ok (cutV (En.sz α) (.slice a n c) m h) w := by
  obtain ⟨e, inf, hu, hin, hsz⟩ := und_slc hT.h
  have hsize : (sizeOf e).run P w = .ok (En.sz α) w := by simp [sizeOf, typeInfo, hin, hsz]
  simp [Instr.sliceAt, Instr.slice, run_underlying hu, hb, hsize, cutV]
theorem A.ccTo {T n : Nat} {hi : Int} {k : IntKind} [Slc P T n] [hs : HasS l v ro α iE xs] (hne : n = En.sz α) (h0 : 0 ≤ hi) (h1 : hi ≤ xs.length) (hx : Tr l (K (cutV (En.sz α) v 0 hi.toNat))) :
    Tr l (GenK P (Instr.sliceAt T v none (some (.int k hi)) none) K) := fun w hw => by
  subst hne
  obtain ⟨a, c, rfl, hc⟩ := sl_cap hs.h hw
  exact ⟨_, run_cut (by simp [Instr.sliceBounds, Instr.sliceBound, asIntOf, h0, show hi ≤ (c : Int) by omega]), hx w hw⟩
theorem A.ccFrom {T n : Nat} {lo : Int} {k : IntKind} [Slc P T n] [hs : HasS l v ro α iE xs] (hne : n = En.sz α) (h0 : 0 ≤ lo) (h1 : lo ≤ xs.length) (hx : Tr l (K (cutV (En.sz α) v lo.toNat xs.length))) :
    Tr l (GenK P (Instr.sliceAt T v (some (.int k lo)) none none) K) := fun w hw => by
  subst hne
  obtain ⟨a, c, rfl, hc⟩ := sl_cap hs.h hw
  exact ⟨_, run_cut (by simp [Instr.sliceBounds, Instr.sliceBound, asIntOf, h0, h1]), hx w hw⟩
theorem A.cc3 {T n : Nat} {lo hi mx : Int} {k k' k2 : IntKind} [Slc P T n] [hs : HasS l v ro α iE xs] (hne : n = En.sz α) (h0 : 0 ≤ lo) (h1 : lo ≤ hi) (h2 : hi ≤ mx) (h3 : mx ≤ xs.length) (hx : ∀ u, Tr l (K u)) :
    Tr l (GenK P (Instr.sliceAt T v (some (.int k lo)) (some (.int k' hi)) (some (.int k2 mx))) K) := fun w hw => by
  subst hne
  obtain ⟨a, c, rfl, hc⟩ := sl_cap hs.h hw
  obtain ⟨e, inf, hu, hin, hsz⟩ := und_slc (P := P) (T := T) (n := En.sz α) (by rename_i i; exact i.h)
  have hsize : (sizeOf e).run P w = .ok (En.sz α) w := by simp [sizeOf, typeInfo, hin, hsz]
  suffices h : ∃ u, (Instr.sliceAt T (.slice a xs.length c) (some (.int k lo)) (some (.int k' hi)) (some (.int k2 mx))).run P w = .ok u w from h.elim fun u h => ⟨u, h, hx u w hw⟩
  simp [Instr.sliceAt, Instr.slice, run_underlying hu, Instr.sliceBounds, Instr.sliceBound, asIntOf, hsize, h0, show lo ≤ max hi 0 by omega, show 0 ≤ hi by omega, show hi ≤ max mx 0 by omega, show 0 ≤ mx by omega, show mx ≤ (c : Int) by omega]
theorem flat_split (i : Nat) (xs : List α) : flat xs = flat (xs.take i) ++ flat (xs.drop i) := by rw [← flat_append, List.take_append_drop]
theorem setL_cut {off : Nat} {N : Nat} : ∀ (vs cs : List Value) (k : Nat), k + vs.length ≤ N → ((setL cs (off + k) vs).drop off).take N = setL ((cs.drop off).take N) k vs
  | [], _, _, _ => rfl
  | a :: as, cs, k, hk => by
    simp only [List.length_cons] at hk
    simp only [setL]
    rw [show off + k + 1 = off + (k + 1) by omega, setL_cut as _ _ (by omega), List.drop_set, if_neg (by omega), show off + k - off = k by omega, List.take_set]
theorem setL_flat {i : Nat} {xs ys : List α} (h : i + ys.length ≤ xs.length) : setL (flat xs) (i * En.sz α) (flat ys) = flat (xs.take i ++ ys ++ xs.drop (i + ys.length)) := by
  have hp : (flat (xs.take i)).length = i * En.sz α := by rw [flat_length, List.length_take]; congr 1; omega
  have hd : (flat (xs.drop i)).drop (flat ys).length = flat (xs.drop (i + ys.length)) := by
    rw [flat_split ys.length (xs.drop i), List.drop_drop]
    have : (flat ((xs.drop i).take ys.length)).length = (flat ys).length := by rw [flat_length, flat_length, List.length_take, List.length_drop]; congr 1; omega
    rw [← this, List.drop_left']
    rfl
  have := setL_append (flat (xs.take i)) (flat (xs.drop i)) (flat ys) (by rw [flat_length, flat_length, List.length_drop]; exact Nat.mul_le_mul_right _ (by omega))
  rw [← flat_split, hp, hd] at this
  rw [this, flat_append, flat_append, List.append_assoc]
theorem sl_mk {R S : Blks} {w : World} {b off cap n : Nat} {cs : List Value} {T : Nat} {fr : Nat × Nat} (hR : R b) (hn : xs.length = n) (h1 : n ≤ cap) (h2 : n ≤ 9223372036854775807) (hg : w.heap[b]? = some (.cells cs.toArray T fr)) (hf : (cs.drop off).take (n * En.sz α) = flat xs) :
    (sl true (.slice (some ⟨b, off, none⟩) n cap) xs).h R S w := by
  subst hn
  exact .inr ⟨b, off, cap, cs, T, fr, rfl, ⟨h1, h2⟩, by rw [if_pos rfl]; exact hR, hg, hf⟩
theorem le_bound {a b : Nat} (h : b ≤ 9223372036854775807) (h2 : a ≤ b) : a ≤ 9223372036854775807 := Nat.le_trans h2 h
theorem run_append_room {T T2 ty e e2 sz : Nat} {a : Addr} {n c m : Nat} {x : Value} {vs : List Value} {w w' : World} (hu : P.underlying T = some (.slice e)) (hu2 : P.underlying T2 = some (.slice e2)) (hsize : ∀ w, (sizeOf e).run P w = .ok sz w)
    (hxl : (Builtin.lenOf x).run P w = .ok m w) (hroom : n + m ≤ c) (hx : (Builtin.firstCells sz m x).run P w = .ok vs.toArray w) (hst : (storeCells (a.add (n * sz)) vs 0).run P w = .ok () w') :
    (Builtin.append_ #[T, T2] ty #[.slice (some a) n c, x]).run P w = .ok (.slice (some a) (n + m) c) w' := by
  simp only [Builtin.append_, Sem.run_bind, List.getElem?_toArray, List.getElem?_cons_zero, List.getElem?_cons_succ, run_underlying hu, Result.andThen_ok, hsize, run_underlying hu2, Sem.run_pure, Bool.false_eq_true, if_false, hxl, hroom, if_true, Bool.not_false, hx]
  simp [hst]
theorem A.lenCut {T ty n lo hi : Nat} [Slc P T n] [hs : HasS l v ro α iE xs] (hx : Tr l (K (.int .i64 ((hi - lo : Nat) : Int)))) : Tr l (GenK P (Builtin.len_ #[T] ty #[cutV (En.sz α) v lo hi]) K) := fun w hw => by
  rename_i hT
  obtain ⟨e, i, hu, _, _⟩ := und_slc hT.h
  obtain ⟨a, c, rfl, _⟩ := sl_cap hs.h hw
  refine ⟨_, ?_, hx w hw⟩
  simp [Builtin.len_, run_underlying hu, cutV, goInt]
theorem A.ccCut {T n m : Nat} {lo hi : Int} {k k' : IntKind} [Slc P T n] [hs : HasS l v ro α iE xs] (hne : n = En.sz α) (h0 : 0 ≤ lo) (h1 : lo ≤ hi) (h2 : hi ≤ xs.length) (hx : Tr l (K (cutV (En.sz α) v lo.toNat hi.toNat))) :
    Tr l (GenK P (Instr.sliceAt T (cutV (En.sz α) v 0 m) (some (.int k lo)) (some (.int k' hi)) none) K) := fun w hw => by
  subst hne
  obtain ⟨a, c, rfl, hc⟩ := sl_cap hs.h hw
  have e : cutV (En.sz α) (.slice a xs.length c) 0 m = .slice a m c := by cases a <;> simp [cutV, Addr.add]
  have e2 : cutV (En.sz α) (.slice a m c) lo.toNat hi.toNat = cutV (En.sz α) (.slice a xs.length c) lo.toNat hi.toNat := rfl
  rw [e]
  exact ⟨_, run_cut (m := lo.toNat) (h := hi.toNat) (by simp [Instr.sliceBounds, Instr.sliceBound, asIntOf, h0, show 0 ≤ hi by omega, show hi ≤ (c : Int) by omega, show lo ≤ max hi 0 by omega]), by rw [e2]; exact hx w hw⟩
theorem G.clr {ts : Array Nat} {ty : Nat} {as : Array Value} (h : Tr l (EGenK P (Builtin.clear_ ts ty as) K)) : Tr l (EGenK P (Builtin.clear_ ts ty as) K) := h
theorem Tr.slNil {s : SV} {X : WP} [hs : HasS l s.v ro α iE xs] (h : s.a.isNone = true) (hx : xs = [] → Tr l X) : Tr l X := fun w hw => hx (by
  obtain ⟨R, S, hA⟩ := hs.h.sat hw
  rcases sl_cases hA with ⟨_, rfl⟩ | ⟨b, off, cap, cs, T0, fr, he, _⟩
  · rfl
  · obtain ⟨a, n, c⟩ := s
    simp only [SV.v, Value.slice.injEq] at he
    rw [he.1] at h
    cases h) w hw
theorem A.appCut {T T2 ty e bytes : Nat} {z : List Value} [hT : SlcT P T e bytes (En.sz α) z] [hT2 : Slc P T2 (En.sz α)] {i j n : Nat} [ht : TkS l v α iE xs F] (hij : i < j) (hjn : j ≤ n) (hn : n = xs.length)
    (hk : Tr (sl false v (xs.take i ++ xs.drop j ++ xs.drop (i + (n - j))) :: F) (K (cutV (En.sz α) v 0 (i + (n - j))))) :
    Tr l (EGenK P (Builtin.append_ #[T, T2] ty #[cutV (En.sz α) v 0 i, cutV (En.sz α) v j n]) K) := fun w hw0 => by
  subst hn
  have hw := Imp.sat ht.h hw0
  obtain ⟨hu, inf, hin, hsz, hby, hzz⟩ := hT.h
  obtain ⟨e2, inf2, hu2, hin2, hsz2⟩ := und_slc hT2.h
  have hsize : ∀ w, (sizeOf e).run P w = .ok (En.sz α) w := fun w => by simp [sizeOf, typeInfo, hin, hsz]
  rcases sl_open hw with ⟨_, rfl, _⟩ | ⟨b, off, cap, cs, T', rfl, e3, e5, e7, hwb⟩
  · simp at hjn; omega
  · have hget := hwb.get
    have hd : (xs.drop j).length = xs.length - j := List.length_drop
    have hfl : (flat (xs.drop j)).length = (xs.length - j) * En.sz α := by rw [flat_length, hd]
    have hm1 : (i + (xs.length - j)) * En.sz α ≤ xs.length * En.sz α := Nat.mul_le_mul_right _ (by omega)
    have hm2 : xs.length * En.sz α ≤ cap * En.sz α := Nat.mul_le_mul_right _ e3.1
    have hm3 : (i + (xs.length - j)) * En.sz α = i * En.sz α + (xs.length - j) * En.sz α := Nat.add_mul _ _ _
    have hm4 : xs.length * En.sz α = j * En.sz α + (xs.length - j) * En.sz α := by rw [← Nat.add_mul]; congr 1; omega
    have hx : (Builtin.firstCells (En.sz α) (xs.length - j) (cutV (En.sz α) (.slice (some ⟨b, off, none⟩) xs.length cap) j xs.length)).run P w = .ok (flat (xs.drop j)).toArray w := by
      by_cases hc : cap = j
      · have : xs.length = j := by omega
        have h0 : xs.drop j = [] := List.eq_nil_of_length_eq_zero (by omega)
        simp only [cutV, hc, this, Nat.sub_self, if_true, h0]
        simp [Builtin.firstCells, flat, loadCells, loadCellsFrom]
      · have hf : (cs.drop (off + j * En.sz α)).take ((xs.length - j) * En.sz α) = flat (xs.drop j) := by
          have : (cs.drop (off + j * En.sz α)).take ((xs.length - j) * En.sz α) = ((cs.drop off).take (xs.length * En.sz α)).drop (j * En.sz α) := by
            rw [List.drop_take, List.drop_drop]; congr 1; omega
          rw [this, e7, flat_split j xs]
          have hl : (flat (xs.take j)).length = j * En.sz α := by rw [flat_length, List.length_take]; congr 1; omega
          rw [← hl, List.drop_left']; rfl
        have hh := sl_mk (xs := xs.drop j) (R := fun x => x = b) (S := fun _ => False) (cap := cap - j) rfl hd (by omega) (le_bound e3.2 (by omega)) hget hf
        have := cells_sl (P := P) hh
        rw [hd] at this
        simp only [cutV, if_neg hc, Option.map_some, add_mk]
        exact this
    obtain ⟨w', hr, hs⟩ := run_storeCells (P := P) (T := T') (flat (xs.drop j)) cs b (off + i * En.sz α) 0 (blk b (.cells cs.toArray T' (0, 0)) :: F) _ w
      (fun u hu => by have := flat_one (xs.drop j); rw [List.all_eq_true] at this; exact this u hu) (by omega) hwb Upd.here
    have hv0 : ∀ k, cutV (En.sz α) (.slice (some ⟨b, off, none⟩) xs.length cap) 0 k = .slice (some ⟨b, off, none⟩) k cap := fun k => by simp [cutV, add_mk]
    rw [hv0] at hk ⊢
    refine ⟨_, w', ?_, hk w' ?_⟩
    · have hroom : i + (xs.length - j) ≤ cap := by omega
      have hxl : (Builtin.lenOf (cutV (En.sz α) (.slice (some ⟨b, off, none⟩) xs.length cap) j xs.length)).run P w = .ok (xs.length - j) w := by simp [Builtin.lenOf, cutV]
      exact run_append_room hu hu2 hsize hxl hroom hx (by rw [add_mk]; exact hr)
    · rw [Nat.add_zero] at hs
      have hlen : (xs.take i ++ xs.drop j ++ xs.drop (i + (xs.length - j))).length = xs.length := by simp; omega
      refine sl_close (b := b) (off := off) (cap := cap) (by rw [hlen]) ⟨by rw [hlen]; exact e3.1, by rw [hlen]; exact e3.2⟩ (by rw [setL_length]; exact e5) ?_ hs
      rw [hlen, setL_cut _ _ _ (by omega), e7]
      have := setL_flat (i := i) (xs := xs) (ys := xs.drop j) (by omega)
      rw [hd] at this
      exact this
theorem A.clear {T ty e bytes : Nat} {z : List Value} {dv : α} [hT : SlcT P T e bytes (En.sz α) z] {i n : Nat} [ht : TkS l v α iE xs F] (hz : z = En.enc dv) (hin : i ≤ n) (hn : n = xs.length)
    (hk : Tr (sl false v (xs.take i ++ List.replicate (n - i) dv) :: F) (K (.tuple #[]))) : Tr l (EGenK P (Builtin.clear_ #[T] ty #[cutV (En.sz α) v i n]) K) := fun w hw0 => by
  subst hn
  have hw := Imp.sat ht.h hw0
  obtain ⟨hu, inf, hinf, hsz, hby, hzz⟩ := hT.h
  obtain ⟨z0, hz0, hz1⟩ : ∃ z0, inf.zero = some z0 ∧ z0.cells = z.toArray := by
    cases h : inf.zero with
    | none => rw [h] at hzz; cases hzz
    | some z0 => rw [h] at hzz; exact ⟨z0, rfl, by simpa using hzz⟩
  have hzv : ∀ w, (zeroValue e).run P w = .ok z0 w := fun w => by simp [zeroValue, typeInfo, hinf, hz0]
  by_cases hl : i = xs.length
  · refine ⟨.tuple #[], w, ?_, hk w ?_⟩
    · obtain ⟨a, c, rfl, hc⟩ := sl_cap (l := sl false v xs :: F) Has.here hw
      subst hl
      cases a <;> simp [Builtin.clear_, run_underlying hu, cutV] <;> (try split) <;> simp_all
    · rw [hl, List.take_length, Nat.sub_self, List.replicate_zero, List.append_nil]; exact hw
  · rcases sl_open hw with ⟨_, rfl, _⟩ | ⟨b, off, cap, cs, T', rfl, e3, e5, e7, hwb⟩
    · simp at hin hl; omega
    · have hm1 : xs.length * En.sz α = i * En.sz α + (xs.length - i) * En.sz α := by rw [← Nat.add_mul]; congr 1; omega
      have hm2 : xs.length * En.sz α ≤ cap * En.sz α := Nat.mul_le_mul_right _ e3.1
      have hrep : ∀ m, (Builtin.zeroCells z0.cells m).toList = flat (List.replicate m dv) := fun m => by
        have := range_zero (α := α) z0.cells dv (by rw [hz1, hz]) m
        have hzs : z0.cells.size = En.sz α := by rw [hz1, hz]; simp [En.len]
        unfold Builtin.zeroCells
        rw [hzs] at this ⊢
        rw [this]
      have hfl : (flat (List.replicate (xs.length - i) dv)).length = (xs.length - i) * En.sz α := by rw [flat_length, List.length_replicate]
      obtain ⟨w', hr, hs⟩ := run_storeCells (P := P) (T := T') (flat (List.replicate (xs.length - i) dv)) cs b (off + i * En.sz α) 0 (blk b (.cells cs.toArray T' (0, 0)) :: F) _ w
        (fun u hu => by have := flat_one (List.replicate (xs.length - i) dv); rw [List.all_eq_true] at this; exact this u hu) (by omega) hwb Upd.here
      refine ⟨.tuple #[], w', ?_, hk w' ?_⟩
      · have hc : ¬ cap = i := by omega
        obtain ⟨m, hm⟩ : ∃ m, xs.length - i = m + 1 := ⟨xs.length - i - 1, by omega⟩
        have hrep' := hrep (xs.length - i)
        simp only [cutV, if_neg hc, Option.map_some, add_mk]
        rw [hm] at hr hrep' ⊢
        simp [Builtin.clear_, run_underlying hu, hzv, hrep', hr]
      · rw [Nat.add_zero] at hs
        have hlen : (xs.take i ++ List.replicate (xs.length - i) dv).length = xs.length := by simp; omega
        refine sl_close (b := b) (off := off) (cap := cap) (by rw [hlen]) ⟨by rw [hlen]; exact e3.1, by rw [hlen]; exact e3.2⟩ (by rw [setL_length]; exact e5) ?_ hs
        rw [hlen, setL_cut _ _ _ (by omega), e7]
        have := setL_flat (i := i) (xs := xs) (ys := List.replicate (xs.length - i) dv) (by simp; omega)
        rw [this, List.length_replicate, show i + (xs.length - i) = xs.length by omega, List.drop_length, List.append_nil]
theorem Tr.short {X : WP} {m : Nat} (ht : TakeA l (sl false v xs) F) (hm : m ≤ xs.length) (hk : ∀ s : SV, s.v = cutV (En.sz α) v 0 m → Tr (sl false s.v (xs.take m) :: F) X) : Tr l X := fun w hw0 => by
  have hw := Imp.sat ht hw0
  rcases sl_open hw with ⟨rfl, rfl, hwF⟩ | ⟨b, off, cap, cs, T', rfl, e3, e5, e7, hwb⟩
  · simp at hm
    subst hm
    exact hk ⟨none, 0, 0⟩ (by simp [cutV, SV.v]) w (by show Sat w (sl false (.slice none 0 0) (List.take 0 ([] : List α)) :: F); simpa using sl_nil (α := α) hwF)
  · have hlen : (xs.take m).length = m := by rw [List.length_take]; omega
    refine hk ⟨some ⟨b, off, none⟩, m, cap⟩ (by simp [cutV, SV.v, add_mk]) w (sl_close (b := b) (off := off) (cap := cap) (by rw [hlen]; rfl) ⟨by omega, by omega⟩ e5 ?_ hwb)
    have : (cs.drop off).take (m * En.sz α) = ((cs.drop off).take (xs.length * En.sz α)).take (m * En.sz α) := by
      rw [List.take_take, Nat.min_eq_left (Nat.mul_le_mul_right _ hm)]
    rw [hlen, this, e7, flat_split m xs]
    have hl : (flat (xs.take m)).length = m * En.sz α := by rw [flat_length, hlen]
    rw [← hl, List.take_left']; rfl
theorem max_int {ty T : Nat} {k k' : IntKind} {a b : Int} : GenK P (Builtin.max_ #[T, T] ty #[.int k a, .int k' b]) K = K (.int k (if a < b then b else a)) := by
  refine GenK_of (fun w => ?_) K
  simp [Builtin.max_, Builtin.max2]
theorem A.mks {T e bytes : Nat} {β : Type} [_hE : ElT T β] [En β] [Inhabited β] {z : List Value} [hT : SlcT P T e bytes (En.sz β) z] {n : Int} {k1 k2 : IntKind} (hz : z = En.enc (default : β)) (h0 : 0 ≤ n) (h1 : n ≤ 9223372036854775807) (hn : bytes * n ≤ 281474976710656)
    (hk : ∀ s : SV, Tr (sl false s.v (List.replicate n.toNat (default : β)) :: l) (K s.v)) : Tr l (EGenK P (Instr.makeSlice T (.int k1 n) (.int k2 n)) K) := Tr.makeSlice hz h0 h1 hn hk
theorem A.cut {T n : Nat} {lo hi : Int} {k1 k2 : IntKind} [hT : Slc P T n] [hs : HasS l v true α iE xs] (hne : n = En.sz α) (h0 : 0 ≤ lo) (h1 : lo ≤ hi) (h2 : hi ≤ xs.length)
    (hx : ∀ s : SV, Tr (sl true s.v ((xs.take hi.toNat).drop lo.toNat) :: l) (K s.v)) : Tr l (GenK P (Instr.sliceAt T v (some (.int k1 lo)) (some (.int k2 hi)) none) K) := by
  subst hne; exact Tr.cut hs.h h0 h1 h2 hx
theorem A.cutFrom {T n : Nat} {lo : Int} {k1 : IntKind} [hT : Slc P T n] [hs : HasS l v true α iE xs] (hne : n = En.sz α) (h0 : 0 ≤ lo) (h1 : lo ≤ xs.length)
    (hx : ∀ s : SV, Tr (sl true s.v (xs.drop lo.toNat) :: l) (K s.v)) : Tr l (GenK P (Instr.sliceAt T v (some (.int k1 lo)) none none) K) := fun w hw => by
  subst hne
  obtain ⟨e, inf, hu, hin, hsz⟩ := und_slc hT.h
  have key : (Instr.sliceAt T v (some (.int k1 lo)) none none).run P w = (Instr.sliceAt T v (some (.int k1 lo)) (some (.int .i64 xs.length)) none).run P w := by
    obtain ⟨a, c, rfl, hc⟩ := sl_cap hs.h hw
    have h3 : (xs.length : Int) ≤ c := by omega
    simp [Instr.sliceAt, run_underlying hu, Instr.slice, Instr.sliceBounds, Instr.sliceBound, asIntOf, hc]
  obtain ⟨v', hr, hk⟩ := Tr.cut (P := P) (T := T) (lo := lo) (hi := xs.length) (k1 := k1) (k2 := .i64) (K := K) hs.h h0 h1 (by omega) (fun s => by simpa using hx s) w hw
  exact ⟨v', by rw [key]; exact hr, hk⟩
end
end Go.Wk
namespace Go.Wk
open Go
theorem wrapId {n : Int} (h0 : -9223372036854775808 ≤ n) (h1 : n ≤ 9223372036854775807) : IntKind.i64.wrap n = n := by apply Go.IntWalk.i64_in <;> omega
theorem wrapSucc {k : Nat} (h : k < 9223372036854775807) : IntKind.i64.wrap ((k : Int) + 1) = ((k + 1 : Nat) : Int) := by rw [wrapId (by omega) (by omega)]; rfl
theorem if_min {n m : Nat} : (if (n : Int) < m then (n : Int) else m) = ((min n m : Nat) : Int) := by split <;> omega
section
variable {α β : Type} [Inhabited α] {xs : List α}
theorem ix_take {k n : Nat} (h : k < n) : ix (xs.take n) (k : Int) = ix xs (k : Int) := by
  simp only [ix, Int.toNat_natCast, List.getD_eq_getElem?_getD]
  rw [List.getElem?_take_of_lt h]
theorem take_minlen {γ : Type} {ys : List γ} {n : Nat} : ys.take (min n ys.length) = ys.take n := by rw [← List.take_take, List.take_length]
theorem take_ix {k : Nat} (h : k < xs.length) : xs.take (k + 1) = xs.take k ++ [ix xs (k : Int)] := by
  rw [List.take_succ_eq_append_getElem h]; simp [ix, h]
theorem ix_map [Inhabited β] {f : α → β} {k : Int} (h0 : 0 ≤ k) (h1 : k < xs.length) : ix (xs.map f) k = f (ix xs k) := by
  have h2 : k.toNat < xs.length := by omega
  simp [ix, h2]
theorem map_same {f : α → β} {k : Int} (h0 : 0 ≤ k) (h1 : k < xs.length) (x : α) (h : f x = f (ix xs k)) : (xs.set k.toNat x).map f = xs.map f := by
  have := ix_some h0 h1
  obtain ⟨hlt, he⟩ := List.getElem?_eq_some_iff.1 this
  rw [List.map_set, h, ← he]
  apply List.ext_getElem (by simp)
  intro i h1 h2
  rw [List.getElem_set]
  split
  · rename_i e; subst e; simp
  · rfl
theorem ix_nat {k : Nat} (h : k < xs.length) : ix xs (k : Int) = xs[k] := by simp [ix, h]
end
end Go.Wk
