import Derived.Test.YtgkhjgpgdfbdpaaGreatDoorWkx
/- Small lemmas: numbers that do not wrap, lists by places. -/
namespace Go.Wk
open Go
theorem wrapId {n : Int} (h0 : -9223372036854775808 ≤ n) (h1 : n ≤ 9223372036854775807) : IntKind.i64.wrap n = n := by apply Go.IntWalk.i64_in <;> omega
theorem wrapSucc {k : Nat} (h : k < 9223372036854775807) : IntKind.i64.wrap ((k : Int) + 1) = ((k + 1 : Nat) : Int) := by rw [wrapId (by omega) (by omega)]; rfl
theorem if_min {n m : Nat} : (if (n : Int) < m then (n : Int) else m) = ((min n m : Nat) : Int) := by split <;> omega
section
variable {α β : Type} [Inhabited α] {xs : List α}
theorem ix_take {k n : Nat} (h : k < n) : ix (xs.take n) (k : Int) = ix xs (k : Int) := by
  simp only [ix, Int.toNat_natCast, List.getD_eq_getElem?_getD]
  rw [List.getElem?_take_of_lt h]
theorem take_minlen {γ : Type} {ys : List γ} {n : Nat} : ys.take (min n ys.length) = ys.take n := by rw [← List.take_take, List.take_length]
theorem take_ix {k : Nat} (h : k < xs.length) : xs.take (k + 1) = xs.take k ++ [ix xs (k : Int)] := by
  rw [List.take_succ_eq_append_getElem h]; simp [ix, h]
theorem ix_map [Inhabited β] {f : α → β} {k : Int} (h0 : 0 ≤ k) (h1 : k < xs.length) : ix (xs.map f) k = f (ix xs k) := by
  have h2 : k.toNat < xs.length := by omega
  simp [ix, h2]
theorem map_same {f : α → β} {k : Int} (h0 : 0 ≤ k) (h1 : k < xs.length) (x : α) (h : f x = f (ix xs k)) : (xs.set k.toNat x).map f = xs.map f := by
  have := ix_some h0 h1
  obtain ⟨hlt, he⟩ := List.getElem?_eq_some_iff.1 this
  rw [List.map_set, h, ← he]
  apply List.ext_getElem (by simp)
  intro i h1 h2
  rw [List.getElem_set]
  split
  · rename_i e; subst e; simp
  · rfl
theorem ix_out {k : Int} (h : xs.length ≤ k.toNat) : ix xs k = default := by simp [ix, h]
theorem ix_nat {k : Nat} (h : k < xs.length) : ix xs (k : Int) = xs[k] := by simp [ix, h]
theorem ix_snoc {x : α} {k : Nat} (h : k = xs.length) : ix (xs ++ [x]) (k : Int) = x := by subst h; simp [ix]
theorem ix_app {ys : List α} {k : Nat} (h : k < xs.length) : ix (xs ++ ys) (k : Int) = ix xs (k : Int) := by
  simp only [ix, Int.toNat_natCast, List.getD_eq_getElem?_getD]
  rw [List.getElem?_append_left h]
theorem ix_zero {x : α} : ix (x :: xs) 0 = x := rfl
end
end Go.Wk

/- Values read as things, by instances; literals of slices; stores of elements. -/
namespace Go.Wk
open Go
theorem Trip.mono {P : Program} {f : FuncId} {args : Array Value} {pre : List Asrt} {post post' : Value → List Asrt → Prop} (h : Trip P f args pre post) (hp : ∀ v l', post v l' → post' v l') : Trip P f args pre post' := fun F K hK => h F K fun v l' hv => hK v l' (hp v l' hv)
/-- A value is a thing's. -/
class De (l : List Asrt) {α : Type} [En α] (u : Value) (x : outParam α) : Prop where
  h : u.cells = (En.enc x).toArray
section
variable {l : List Asrt}
instance de_int {n : Int} : De l (.int .i64 n) n := ⟨rfl⟩
instance de_bool {b : Bool} : De l (.bool b) b := ⟨rfl⟩
instance de_u8 {b : UInt8} : De l (.int .u8 (b.toNat : Int)) b := ⟨rfl⟩
instance de_str {s : ByteArray} : De l (.string s) s := ⟨rfl⟩
instance de_pts {b : Nat} : De l (.pointer (some ⟨b, 0, none⟩)) (Pt.mk (some b)) := ⟨rfl⟩
instance de_ptn : De l (.pointer none) (Pt.mk none) := ⟨rfl⟩
instance de_pt {p : Pt} : De l p.v p := ⟨rfl⟩
instance de_agg {α : Type} [En α] {x : α} : De l (.agg (En.enc x).toArray) x := ⟨rfl⟩
instance de_sl {α : Type} {iE : En α} {s : SV} {xs : List α} [_hs : HasS l s.v true α iE xs] : De l s.v (SL.mk s xs) := ⟨rfl⟩
instance de_nil {α : Type} : De l (.slice none 0 0) (SL.mk ⟨none, 0, 0⟩ ([] : List α)) := ⟨rfl⟩
class DeL (l : List Asrt) {α : Type} [En α] (i : Nat) (ps : List (Nat × Value)) (xs : outParam (List α)) : Prop where
  h : ∀ (pre mid : List Value), pre.length = i * En.sz α → xs.length * En.sz α ≤ mid.length → fillP (fun i => some (i * En.sz α, En.sz α)) (pre ++ mid) ps = some (pre ++ (flat xs ++ mid.drop (xs.length * En.sz α)))
instance del_nil {α : Type} [En α] {i : Nat} : DeL l i [] ([] : List α) := ⟨fun pre mid _ _ => by simp [fillP, flat]⟩
theorem del_step {α : Type} [En α] {i j : Nat} {u : Value} {x : α} {ps : List (Nat × Value)} {xs : List α} (hu : De l u x) (hj : j = i + 1) (h : DeL l j ps xs) : DeL l i ((i, u) :: ps) (x :: xs) := ⟨fun pre mid h1 h2 => by
  subst hj
  have hl : (En.enc x).length = En.sz α := En.len x
  have hm : En.sz α ≤ mid.length := by rw [List.length_cons, Nat.succ_mul] at h2; omega
  simp only [fillP, hu.h, List.size_toArray, hl]
  rw [if_pos ⟨trivial, by rw [List.length_append]; omega⟩]
  have hs := setL_append pre mid (En.enc x) (by omega)
  rw [h1] at hs
  rw [hs]
  have := h.h (pre ++ En.enc x) (mid.drop (En.sz α)) (by rw [List.length_append, h1, hl, Nat.succ_mul]) (by rw [List.length_drop]; rw [List.length_cons, Nat.succ_mul] at h2; omega)
  rw [← List.append_assoc, hl, this, List.drop_drop]
  simp only [flat, List.flatMap_cons, List.append_assoc, List.length_cons, Nat.succ_mul]
  congr 4
  rw [Nat.add_comm]⟩
instance del_cons {α : Type} [En α] {i : Nat} {u : Value} {x : α} {ps : List (Nat × Value)} {xs : List α} [hu : De l u x] [h : DeL l (i + 1) ps xs] : DeL l i ((i, u) :: ps) (x :: xs) := del_step hu rfl h
end
section
variable {P : Program} {α : Type} [iE : En α] {v : Value} {xs : List α} {l F : List Asrt} {ro : Bool} {K : Value → WP}
/-- A literal, its places in a row. -/
theorem A.buildL {T e bytes n : Nat} {β : Type} [_hE : ElT T β] [En β] [Inhabited β] {z : List Value} [hT : SlcT P T e bytes (En.sz β) z] {ps : List (Nat × Value)} {ys : List β} [hp : DeL l 0 ps ys] (hz : z = En.enc (default : β)) (hn : ys.length = n) (hsm : n * En.sz β ≤ 16777216)
    (hk : ∀ s : SV, Tr (sl false s.v ys :: l) (K s.v)) : Tr l (EGenK P (Instr.buildSlice T n ps.toArray) K) :=
  Tr.buildSlice (α := β) (xs := ys) (d := default) hz hn hsm (by
    have := hp.h [] (flat (List.replicate n (default : β))) (by simp) (by rw [flat_length, List.length_replicate, hn]; exact Nat.le_refl _)
    rw [List.nil_append, List.nil_append] at this
    rw [List.drop_of_length_le (by rw [flat_length, List.length_replicate, hn]; exact Nat.le_refl _), List.append_nil] at this
    exact this) hk
/-- A store of a whole element. -/
theorem A.stD {T : Nat} {i : Int} {u : Value} {x : α} [Siz P T (En.sz α)] [hs : TkS l v α iE xs F] [hu : De l u x] (h0 : 0 ≤ i) (hi : i < xs.length) (hx : Tr (sl false v (xs.set i.toNat x) :: F) (K undef)) :
    Tr l (EUnitK P (Instr.storeAt T (.pointer (some ⟨(sb v).block, (sb v).off + i.toNat * En.sz α, none⟩)) u) K) := A.stE hu.h h0 hi hx
end
theorem cl_int {k : IntKind} {n : Int} : (Value.int k n).cells.toList = [.int k n] := rfl
theorem cl_bool {b : Bool} : (Value.bool b).cells.toList = [.bool b] := rfl
theorem cl_str {s : ByteArray} : (Value.string s).cells.toList = [.string s] := rfl
theorem cl_sl {s : SV} : s.v.cells.toList = [s.v] := rfl
theorem cl_nil {a : Option Addr} {n c : Nat} : (Value.slice a n c).cells.toList = [.slice a n c] := rfl
theorem cl_ptr {a : Option Addr} : (Value.pointer a).cells.toList = [.pointer a] := rfl
theorem cl_map {a : Option Nat} : (Value.map a).cells.toList = [.map a] := rfl
theorem cl_chan {a : Option Nat} : (Value.chan a).cells.toList = [.chan a] := rfl
theorem cl_ifc {t : Nat} {v : Value} : (Value.iface t v).cells.toList = [.iface t v] := rfl
theorem cl_nifc : Value.nilIface.cells.toList = [.nilIface] := rfl
theorem cl_agg {l : List Value} : (Value.agg l.toArray).cells.toList = l := rfl
/-- A slice's words; a struct's. -/
class DeSV (v : Value) (s : outParam SV) : Prop where
  h : v = s.v
instance desv_v {s : SV} : DeSV s.v s := ⟨rfl⟩
instance desv_nil : DeSV (.slice none 0 0) ⟨none, 0, 0⟩ := ⟨rfl⟩
class DeA {α : Type} [En α] (u : Value) (x : outParam α) : Prop where
  h : u = .agg (En.enc x).toArray
instance dea_enc {α : Type} [En α] {x : α} : DeA (.agg (En.enc x).toArray) x := ⟨rfl⟩
end Go.Wk

/- A store of a part of a slice's element. -/
namespace Go.Wk
open Go
theorem setL_pre : ∀ (vs a c : List Value) (off : Nat), setL (a ++ c) (a.length + off) vs = a ++ setL c off vs
  | [], _, _, _ => rfl
  | u :: us, a, c, off => by
    simp only [setL]
    rw [List.set_append_right _ _ (by omega), show a.length + off - a.length = off by omega, show a.length + off + 1 = a.length + (off + 1) by omega, setL_pre us]
theorem setL_suf : ∀ (vs a c : List Value) (off : Nat), off + vs.length ≤ a.length → setL (a ++ c) off vs = setL a off vs ++ c
  | [], _, _, _, _ => rfl
  | u :: us, a, c, off, h => by
    simp only [List.length_cons] at h
    simp only [setL]
    rw [List.set_append_left _ _ (by omega), setL_suf us _ _ _ (by rw [List.length_set]; omega)]
theorem flat_setF {α : Type} [En α] {j : Nat} {vs : List Value} {x : α} (hj : j + vs.length ≤ En.sz α) : ∀ (xs : List α) (i : Nat) (y : α), xs[i]? = some y → setL (En.enc y) j vs = En.enc x → setL (flat xs) (i * En.sz α + j) vs = flat (xs.set i x)
  | [], _, _, h, _ => by cases h
  | y :: xs, 0, z, h, he => by
    simp only [List.getElem?_cons_zero, Option.some.injEq] at h
    subst h
    simp only [Nat.zero_mul, Nat.zero_add, List.set_cons_zero, flat, List.flatMap_cons]
    rw [setL_suf _ _ _ _ (by rw [En.len]; exact hj), he]
  | y :: xs, i + 1, z, h, he => by
    have ih := flat_setF hj xs i z (by simpa using h) he
    have e : (i + 1) * En.sz α + j = (En.enc y).length + (i * En.sz α + j) := by rw [En.len, Nat.succ_mul]; omega
    simp only [List.set_cons_succ]
    simp only [flat, List.flatMap_cons] at ih ⊢
    rw [e, setL_pre, ih]
section
variable {P : Program} {α : Type} [iE : En α] {v u : Value} {xs : List α} {l F : List Asrt} {K : Value → WP}
theorem Tr.storeEf {T n i j : Nat} {vs : List Value} {x y : α} [hT0 : Siz P T n] (hy : xs[i]? = some y) (hu : u.cells = vs.toArray) (hn : vs.length = n) (h1 : vs.all Value.oneCell' = true) (hj : j + n ≤ En.sz α) (he : setL (En.enc y) j vs = En.enc x)
    (ht : TakeA l (sl false v xs) F) (hx : Tr (sl false v (xs.set i x) :: F) (K undef)) : Tr l (EUnitK P (Instr.storeAt T (.pointer (some ⟨(sb v).block, (sb v).off + i * En.sz α + j, none⟩)) u) K) := fun w hw0 => by
  have hw := Imp.sat ht hw0
  have hi : i < xs.length := (List.getElem?_eq_some_iff.1 hy).1
  rcases sl_open hw with ⟨rfl, rfl, hwF⟩ | ⟨b, off, cap, cs, T', rfl, e3, e5, e7, hwb⟩
  · simp at hi
  · have hle : (i + 1) * En.sz α ≤ xs.length * En.sz α := Nat.mul_le_mul_right _ hi
    have hle2 : xs.length * En.sz α ≤ cap * En.sz α := Nat.mul_le_mul_right _ e3.1
    rw [Nat.succ_mul] at hle
    subst hn
    refine Tr.store (P := P) (T := T) (T' := T') (n := vs.length) (b := b) (off := off + i * En.sz α + j) (cs := cs) (v := u) (vs := vs) (K := K) hu rfl h1 (Upd.here (l := F)) (by omega) ?_ w hwb
    intro w' hw'
    refine hx w' ?_
    refine sl_close (b := b) (off := off) (cap := cap) (cs := setL cs (off + i * En.sz α + j) vs) (T := T') (by simp) (by simpa using e3) (by rw [setL_length]; exact e5) ?_ hw'
    rw [List.length_set, ← flat_setF (by omega) xs i y hy he, ← e7]
    have key : ∀ (vs cs : List Value) (k : Nat), k + vs.length ≤ xs.length * En.sz α → ((setL cs (off + k) vs).drop off).take (xs.length * En.sz α) = setL ((cs.drop off).take (xs.length * En.sz α)) k vs := by
      intro vs
      induction vs with
      | nil => intros; rfl
      | cons a as ih =>
        intro cs k hk
        simp only [List.length_cons] at hk
        simp only [setL]
        rw [show off + k + 1 = off + (k + 1) by omega, ih _ _ (by omega), List.drop_set, if_neg (by omega), show off + k - off = k by omega, List.take_set]
    rw [Nat.add_assoc]
    exact key _ _ _ (by omega)
theorem A.stF {T n i j : Nat} {vs : List Value} {y : α} (x : α) [Siz P T n] [hs : TkS l v α iE xs F] (hy : xs[i]? = some y) (hu : u.cells = vs.toArray) (hn : vs.length = n) (h1 : vs.all Value.oneCell' = true) (hj : j + n ≤ En.sz α) (he : setL (En.enc y) j vs = En.enc x)
    (hx : Tr (sl false v (xs.set i x) :: F) (K undef)) : Tr l (EUnitK P (Instr.storeAt T (.pointer (some ⟨(sb v).block, (sb v).off + i * En.sz α + j, none⟩)) u) K) := Tr.storeEf hy hu hn h1 hj he hs.h hx
end
end Go.Wk

/- Bytes to bytes: a conversion that marks the array. -/
namespace Go.Wk
open Go
theorem modify_set {α : Type} {a : Array α} {i : Nat} {f : α → α} {x : α} (h : a[i]? = some x) : a.modify i f = a.setIfInBounds i (f x) := by
  apply Array.ext_getElem?
  intro j
  rw [Array.getElem?_modify, Array.getElem?_setIfInBounds]
  by_cases hj : i = j
  · subst hj
    have hlt : i < a.size := by
      rcases Nat.lt_or_ge i a.size with h' | h'
      · exact h'
      · rw [Array.getElem?_eq_none h'] at h; cases h
    rw [Array.getElem?_eq_getElem hlt] at h
    simp [hlt, Option.some.inj h]
  · simp [hj]
section
variable {P : Program} {l F : List Asrt} {K : Value → WP} {v : Value}
theorem A.convB {T : Nat} [hT : BytT P T] {xs : List UInt8} [hs : TkS l v UInt8 inferInstance xs F] (h0 : 0 < xs.length) (hx : Tr (sl true v xs :: F) (K v)) : Tr l (EGenK P (convert T T v) K) := Tr.imp hs.h fun w hw => by
  obtain ⟨e, he, hu⟩ := hT.h
  rcases sl_open hw with ⟨rfl, rfl, hw'⟩ | ⟨b, off, cap, cs, T', e1, e2, e5, e7, hw'⟩
  · cases h0
  subst e1
  have hg := hw'.get
  have hlt := hw'.lt
  refine ⟨.slice (some ⟨b, off, none⟩) xs.length cap, w.freeze ⟨b, cs.length, none⟩ 1, ?_, hx _ ?_⟩
  · simp [convert, run_underlying he, run_underlying hu, markStringish, World.shape?, hg]
  · have hh : (w.freeze ⟨b, cs.length, none⟩ 1).heap = w.heap.setIfInBounds b (.cells cs.toArray T' (cs.length, cs.length + 1)) := by
      unfold World.freeze
      rw [if_neg (by decide)]
      dsimp only
      rw [modify_set hg]
      simp
    have h3 := hw'.put (o' := .cells cs.toArray T' (cs.length, cs.length + 1)) hh ⟨rfl, rfl, rfl⟩
    exact Sat.mapHead (A := rob b (.cells cs.toArray T' (cs.length, cs.length + 1))) (fun _ _ (hb : _ ∧ _) => .inr ⟨b, off, cap, cs, T', _, rfl, e2, hb.1, hb.2, e7⟩) h3.freeze
end
theorem G.convE {P : Program} {l : List Asrt} {K : Value → WP} {s d : Nat} {v : Value} (h : Tr l (EGenK P (convert s d v) K)) : Tr l (EGenK P (convert s d v) K) := h
theorem BinK_seq1 {P : Program} {K : Value → WP} {t : TypeId} {x y : Operand} {a : List UInt8} {c : UInt8} : BinK P .eql t x y (.string (bstr a)) (.string ⟨#[c]⟩) K = K (.bool (decide (a = [c]))) := BinK_seq (b := [c])
end Go.Wk

/- The later rewriting laws of the walk, in one theorem. -/
namespace Go.Wk
open Go
theorem WKh : (∀ {P : Program} {r : Operand} {m : String} {as : Array Operand} {ts : Array TypeId} {ty : TypeId} {e : Env} {K : Value → WP}, opX P (Op.call { callee := Callee.invoke r m, args := as, argTypes := ts }) ty e K = InvK P (ev e r) m (Array.map (ev e) as) K) ∧ (∀ {P : Program} {K : Value → WP} {T : Nat} {m : String} {f : Nat} [hm : MethT P T m f] [hf : IsFn P f] {v : Value} {args : Array Value}, InvK P (Value.iface T v) m args K = CallK P f (#[v] ++ args) K) ∧ (∀ {P : Program} {K : Value → WP} {T : Nat} [h : ConT P T] {v : Value}, GenK P (Instr.makeInterface T v) K = K (Value.iface T v)) ∧ (∀ {P : Program} {K : Value → WP} {X T A : Nat} {z v : Value} [h : ConT P A] [hz : Zer P A z], GenK P (Instr.typeAssert (Value.iface T v) X A true) K = K (if T = A then Value.tuple #[v, Value.bool true] else Value.tuple #[z, Value.bool false])) ∧ (∀ {P : Program} {K : Value → WP} {x y : Operand} {T n : Nat} [h : Slc P T n] {s : SV}, BinK P BinOp.eql T x y (SV.v s) (Value.slice none 0 0) K = K (Value.bool (Option.isNone (SV.a s)))) ∧ (∀ {P : Program} {K : Value → WP} {x y : Operand} {T n : Nat} [h : Slc P T n] {s : SV}, BinK P BinOp.neq T x y (SV.v s) (Value.slice none 0 0) K = K (Value.bool !Option.isNone (SV.a s))) ∧ (∀ {P : Program} {K : Value → WP} {s d : Nat} {k k' kv : IntKind} [hs : IntT P s k] [hd : IntT P d k'] {n : Int}, GenK P (convert s d (Value.int kv n)) K = K (Value.int k' (IntKind.wrap k' n))) ∧ (∀ {P : Program} {K : Value → WP} {t : TypeId} {x y : Operand} {a b : List UInt8}, BinK P BinOp.eql t x y (Value.string (bstr a)) (Value.string (bstr b)) K = K (Value.bool (decide (a = b)))) ∧ (∀ {P : Program} {K : Value → WP} {t : TypeId} {x y : Operand} {a b : List UInt8}, BinK P BinOp.neq t x y (Value.string (bstr a)) (Value.string (bstr b)) K = K (Value.bool !decide (a = b))) ∧ (∀ {b : Nat}, Pt.v { a := some b } = Value.pointer (some { block := b, off := 0 })) ∧ Pt.v { a := none } = Value.pointer none ∧ (∀ {P : Program} {K : Value → WP} {ty T : Nat} {k k' : IntKind} {a b : Int}, GenK P (Builtin.max_ #[T, T] ty #[Value.int k a, Value.int k' b]) K = K (Value.int k (if a < b then b else a))) ∧ (∀ {k : IntKind} {n : Int}, Array.toList (Value.cells (Value.int k n)) = [Value.int k n]) ∧ (∀ {b : Bool}, Array.toList (Value.cells (Value.bool b)) = [Value.bool b]) ∧ (∀ {s : ByteArray}, Array.toList (Value.cells (Value.string s)) = [Value.string s]) ∧ (∀ {s : SV}, Array.toList (Value.cells (SV.v s)) = [SV.v s]) ∧ (∀ {a : Option Addr} {n c : Nat}, Array.toList (Value.cells (Value.slice a n c)) = [Value.slice a n c]) ∧ (∀ {a : Option Addr}, Array.toList (Value.cells (Value.pointer a)) = [Value.pointer a]) ∧ (∀ {a : Option Nat}, Array.toList (Value.cells (Value.map a)) = [Value.map a]) ∧ (∀ {a : Option Nat}, Array.toList (Value.cells (Value.chan a)) = [Value.chan a]) ∧ (∀ {t : Nat} {v : Value}, Array.toList (Value.cells (Value.iface t v)) = [Value.iface t v]) ∧ Array.toList (Value.cells Value.nilIface) = [Value.nilIface] ∧ ∀ {l : List Value}, Array.toList (Value.cells (Value.agg (List.toArray l))) = l :=
  And.intro @opX_inv (And.intro @InvK_ptr (And.intro @mkIface (And.intro @tyAssert (And.intro @BinK_slnil (And.intro @BinK_slnnil (And.intro @GenK_conv (And.intro @BinK_seq (And.intro @BinK_sne (And.intro @Pt.v_some (And.intro @Pt.v_none (And.intro @max_int (And.intro @cl_int (And.intro @cl_bool (And.intro @cl_str (And.intro @cl_sl (And.intro @cl_nil (And.intro @cl_ptr (And.intro @cl_map (And.intro @cl_chan (And.intro @cl_ifc (And.intro @cl_nifc (@cl_agg))))))))))))))))))))))
end Go.Wk

/- The steps of the walk, each with its own search as a default proof. -/
namespace Go.Wk
open Go
theorem G.tr {l : List Asrt} {X : WP} (h : Tr l X) : Tr l X := h
/-- A step with one goal. -/
theorem S.a {X X' : WP} {l l' : List Asrt} (hx : Tr l' X') (h : Tr l' X' → Tr l X := by
    intro h
    first
    | (refine G.load ?_; first | (refine A.ldW (by rfl) ?_; exact h) | (refine A.ld1 (by rfl) ?_; exact h) | (refine A.ldN (by rfl) (by rfl) ?_; exact h) | (refine A.lS0 (by assumption) (by rfl) ?_; exact h) | (refine A.lS1 (by assumption) (by rfl) ?_; exact h) | (refine A.lSW (by assumption) (by rfl) ?_; exact h) | (refine A.lSN (by assumption) (by rfl) (by rfl) ?_; exact h))
    | (refine Tr.drewK ?_; exact h)
    | (refine Tr.eqR rfl ?_; exact h)
    | (refine Tr.build rfl ?_; exact h)
    | (refine G.store ?_; first | (refine A.stW (by rfl) (by rfl) (by rfl) (by rfl) ?_; exact h) | (refine A.st (by rfl) (by rfl) (by rfl) (by first | exact Nat.le_of_ble_eq_true rfl | (simp only [WKl, setL_length, En.len]; omega)) ?_; exact h) | (refine A.stD (by first | omega | assumption | (simp only [WKl]; omega)) (by first | omega | assumption | (simp only [WKl]; omega)) ?_; exact h) | (refine A.stE (by rfl) (by first | omega | assumption | (simp only [WKl]; omega)) (by first | omega | assumption | (simp only [WKl]; omega)) ?_; exact h))
    | (refine G.cond ?_; first | (refine Tr.condT (by first | rfl | assumption | (simp only [WKs]; omega)) ?_; exact h) | (refine Tr.condF (by first | rfl | assumption | (simp only [WKs]; omega)) ?_; exact h))
    | (refine G.idx ?_; (refine Tr.indexArr (by omega) (by omega) ?_; exact h))
    | (refine G.len ?_; first | (refine A.len ?_; exact h) | (refine A.lenM ?_; exact h) | (refine Tr.lenMapNil ?_; exact h))
    | (refine G.conv ?_; (refine A.byStr ?_; exact h))
    | (refine G.convE ?_; (refine A.convB (by first | omega | assumption | (simp only [WKl]; omega)) ?_; exact h))
    | (refine G.look ?_; first | (refine A.look ?_; exact h) | (refine Tr.lookupNil ?_; exact h))
    | (refine G.mapu ?_; (refine A.mapu ?_; exact h))
    | (refine G.rem ?_; (refine Tr.rem (by omega) ?_; exact h))
    | fail) : Tr l X := h hx
/-- A step that gives something new. -/
theorem S.n {X : WP} {l : List Asrt} {β : Type} {G : β → Prop} (hx : ∀ x, G x) (h : (∀ x, G x) → Tr l X := by
    intro h
    first
    | (refine Tr.box rfl ?_; exact h)
    | (refine Tr.alloc rfl ?_; exact h)
    | (refine G.app ?_; first | (refine A.app0 (by rfl) (by decide) (by first | omega | assumption | (simp only [WKl]; omega)) ?_; exact h) | (refine A.app (by rfl) (by decide) (by first | omega | assumption | (simp only [WKl]; omega)) ?_; exact h))
    | (refine G.bs ?_; (refine A.buildL (by rfl) (by rfl) (by decide) ?_; exact h))
    | (refine G.cut ?_; first | (refine A.cutTo (by rfl) (by omega) (by omega) ?_; exact h) | (refine A.cutFrom (by rfl) (by omega) (by omega) ?_; exact h) | (refine A.cut (by rfl) (by omega) (by omega) (by omega) ?_; exact h))
    | (refine G.mks ?_; (refine A.mks (by rfl) (by first | omega | assumption | (simp only [WKl]; omega)) (by first | omega | assumption | (simp only [WKl]; omega)) (by first | omega | assumption | (simp only [WKl]; omega)) ?_; exact h))
    | (refine Tr.makeMap ?_; exact h)
    | fail) : Tr l X := h hx
/-- A step that gives a fact. -/
theorem S.i {X X' : WP} {l l' : List Asrt} {p : Prop} (hx : p → Tr l' X') (h : (p → Tr l' X') → Tr l X := by
    intro h
    first
    | (refine G.idx ?_; (refine A.idx (by rfl) (by first | omega | assumption | (simp only [WKl]; omega)) (by first | omega | assumption | (simp only [WKl]; omega)) ?_; exact h))
    | fail) : Tr l X := h hx
theorem S.g {X X' : WP} {l l' : List Asrt} {p : Prop} (hx : p → Tr l' X') (h : (p → Tr l' X') → Tr l X := by
    intro h
    first
    | (refine G.guard ?_; first | (refine Tr.guardTT (by first | rfl | assumption | (simp only [WKs]; omega)) ?_; exact h) | (refine Tr.guardFF (by first | rfl | assumption | (simp only [WKs]; omega)) ?_; exact h))
    | fail) : Tr l X := h hx
/-- A step with two ways. -/
theorem S.s {X X' Y' : WP} {l l' m' : List Asrt} {p q : Prop} (hx : p → Tr l' X') (hy : q → Tr m' Y') (h : (p → Tr l' X') → (q → Tr m' Y') → Tr l X := by
    intro h g
    first
    | (refine G.cond ?_; (refine Tr.condS ?_ ?_; exact h; exact g))
    | (refine G.guard ?_; (refine Tr.guardS ?_ ?_; exact h; exact g))
    | (refine G.guardC ?_; (refine Tr.guardCS ?_ ?_; exact h; exact g))
    | fail) : Tr l X := h hx hy
/-- A call by its contract. -/
theorem S.c {P : Program} {f : FuncId} {args : Array Value} {pre : List Asrt} {post : Value → List Asrt → Prop} {l F : List Asrt} {K : Value → WP} (hk : ∀ v l', post v l' → Tr (l' ++ F) (K v)) (hp : TakeL l pre F := by
    (repeat (first | with_reducible exact TakeL.nil | (apply TakeL.cons; focus ((first | exact TakeA.dupS | exact TakeA.dupF | ((repeat (first | with_reducible exact TakeA.here | exact TakeA.fam (by omega) (by omega) | with_reducible apply TakeA.next)); done) | ((repeat (first | exact TakeA.here | apply TakeA.next)); done) | exact TakeA.famNil | exact TakeA.nilS))) | fail)); done) (h : Trip P f args pre post) : Tr l (CallK P f args K) := Tr.callC hp h hk
/-- A condition. -/
theorem S.p {p : Prop} (h : p := by first | omega | assumption | exact Nat.le_of_ble_eq_true rfl) : p := h
theorem G.ent {d l m : List Asrt} (h : EntR d l m) : EntR d l m := h
/-- Entailment: what needs no unfolding. -/
theorem S.e {d l l' m m' : List Asrt} (hx : EntR d l' m') (h : EntR d l' m' → EntR d l m := by
    (refine fun h => G.ent ?_; (first | (refine G.ec ?_; first | (apply EntR.take; focus ((first | ((repeat (first | with_reducible exact TakeA.here | with_reducible apply TakeA.next)); done) | ((repeat (first | exact TakeA.here | apply TakeA.next)); done)))) | refine EntR.dupS ?_ | refine EntR.dupF ?_ | refine EntR.dupZ ?_ | with_reducible refine EntR.famNil ?_ | refine EntR.nilS ?_ | with_reducible refine EntR.sep ?_ | with_reducible refine EntR.fact (by first | rfl | assumption | omega | simp) ?_ | fail) | fail); (repeat (first | (refine G.ec ?_; first | (apply EntR.take; focus ((first | ((repeat (first | with_reducible exact TakeA.here | with_reducible apply TakeA.next)); done) | ((repeat (first | exact TakeA.here | apply TakeA.next)); done)))) | refine EntR.dupS ?_ | refine EntR.dupF ?_ | refine EntR.dupZ ?_ | with_reducible refine EntR.famNil ?_ | refine EntR.nilS ?_ | with_reducible refine EntR.sep ?_ | with_reducible refine EntR.fact (by first | rfl | assumption | omega | simp) ?_ | fail) | fail)); exact h)) : EntR d l m := h hx
theorem S.f {d l l' m m' : List Asrt} (hx : EntR d l' m') (h : EntR d l' m' → EntR d l m := by
    (refine fun h => G.ef ?_; first | (refine EntR.famSet (by (first | ((repeat (first | with_reducible exact TakeA.here | with_reducible apply TakeA.next)); done) | ((repeat (first | exact TakeA.here | apply TakeA.next)); done))) (by omega) ?_; exact h) | (refine EntR.famSame (by (first | ((repeat (first | with_reducible exact TakeA.here | with_reducible apply TakeA.next)); done) | ((repeat (first | exact TakeA.here | apply TakeA.next)); done))) (by omega) (by omega) ?_; exact h) | (refine EntR.famSnoc (by (first | ((repeat (first | with_reducible exact TakeA.here | with_reducible apply TakeA.next)); done) | ((repeat (first | exact TakeA.here | apply TakeA.next)); done))) ?_; exact h) | fail)) : EntR d l m := h hx
end Go.Wk

/- Cuts whose result is told by the slice and the bounds alone: for regions that draw their order. -/
namespace Go.Wk
open Go
def cutS (sz : Nat) (s : SV) (lo hi : Nat) : SV := ⟨if s.c = lo then s.a else s.a.map (·.add (lo * sz)), hi - lo, s.c - lo⟩
theorem cutS_v {sz : Nat} {s : SV} {lo hi : Nat} : (cutS sz s lo hi).v = cutV sz s.v lo hi := rfl
section
variable {P : Program} {α : Type} [iE : En α] {s : SV} {xs : List α} {l : List Asrt} {K : Value → WP} {T n : Nat}
theorem cut_det {lo hi : Option Value} {ys : List α} {u : Value} (h1 : ∀ K : Value → WP, (∀ s : SV, Tr (sl true s.v ys :: l) (K s.v)) → Tr l (GenK P (Instr.sliceAt T s.v lo hi none) K))
    (h2 : ∀ K : Value → WP, Tr l (K u) → Tr l (GenK P (Instr.sliceAt T s.v lo hi none) K)) (hx : Tr (sl true u ys :: l) (K u)) : Tr l (GenK P (Instr.sliceAt T s.v lo hi none) K) := fun w hw => by
  obtain ⟨v, hr, hs⟩ := h1 (fun v w => Sat w (sl true v ys :: l)) (fun s w hw => hw) w hw
  obtain ⟨v', hr', hv⟩ := h2 (fun v _ => v = u) (fun _ _ => rfl) w hw
  rw [hr] at hr'
  obtain rfl : v = v' := by injection hr'
  subst hv
  exact ⟨v, hr, hx w hs⟩
theorem A.cutFromS {lo : Int} {k1 : IntKind} [hT : Slc P T n] [hs : HasS l s.v true α iE xs] (hne : n = En.sz α) (h0 : 0 ≤ lo) (h1 : lo ≤ xs.length)
    (hx : Tr (sl true (cutS (En.sz α) s lo.toNat xs.length).v (xs.drop lo.toNat) :: l) (K (cutS (En.sz α) s lo.toNat xs.length).v)) : Tr l (GenK P (Instr.sliceAt T s.v (some (.int k1 lo)) none none) K) :=
  cut_det (fun _ h => A.cutFrom hne h0 h1 h) (fun _ h => A.ccFrom hne h0 h1 h) hx
theorem A.cutToS {hi : Int} {k1 : IntKind} [hT : Slc P T n] [hs : HasS l s.v true α iE xs] (hne : n = En.sz α) (h0 : 0 ≤ hi) (h1 : hi ≤ xs.length)
    (hx : Tr (sl true (cutS (En.sz α) s 0 hi.toNat).v (xs.take hi.toNat) :: l) (K (cutS (En.sz α) s 0 hi.toNat).v)) : Tr l (GenK P (Instr.sliceAt T s.v none (some (.int k1 hi)) none) K) :=
  cut_det (fun _ h => A.cutTo hne h0 h1 h) (fun _ h => A.ccTo hne h0 h1 h) hx
end
theorem Trip.pre {P : Program} {f : FuncId} {args : Array Value} {pre pre' : List Asrt} {post : Value → List Asrt → Prop} (h : Trip P f args pre post) (hi : ∀ F, EntR [] (pre' ++ F) (pre ++ F)) : Trip P f args pre' post := fun F K hK w hw => h F K hK w ((hi F).sat hw)
/-- A cut, told. -/
theorem S.d {X X' : WP} {l l' : List Asrt} (hx : Tr l' X') (h : Tr l' X' → Tr l X := by
    intro h
    refine G.cut ?_
    first
    | (refine A.cutToS (by rfl) (by omega) (by omega) ?_; exact h)
    | (refine A.cutFromS (by rfl) (by omega) (by omega) ?_; exact h)
    | fail) : Tr l X := h hx
end Go.Wk

/- The walk in few words: each with its search as a default proof. -/
namespace Go.Wk
open Go
theorem hX : True := trivial
/-- Held, so that no search takes it. -/
structure Hd (Q : Prop) : Prop where
  h : Q
theorem S.x {Q P : Prop} (q : Q) (h : Hd Q → P := by
    intro q
    (first
    | (simp only [WKb, WKh, WKt, ↓reduceIte, Nat.reduceEqDiff, Nat.reduceAdd, Nat.reduceSub, Int.reduceEq, Int.reduceLT, Int.reduceLE, hX]; (repeat ((first | (refine G.load ?_; first | (refine A.ldW (by rfl) ?_) | (refine A.ld1 (by rfl) ?_) | (refine A.ldN (by rfl) (by rfl) ?_) | (refine A.lS0 (by assumption) (by rfl) ?_) | (refine A.lS1 (by assumption) (by rfl) ?_) | (refine A.lSW (by assumption) (by rfl) ?_) | (refine A.lSN (by assumption) (by rfl) (by rfl) ?_)) | (refine Tr.drewK ?_) | (refine Tr.eqR rfl ?_) | (refine Tr.build rfl ?_) | (refine G.store ?_; first | (refine A.stW (by rfl) (by rfl) (by rfl) (by rfl) ?_) | (refine A.st (by rfl) (by rfl) (by rfl) (by first | exact Nat.le_of_ble_eq_true rfl | (simp only [WKl, setL_length, En.len]; omega)) ?_) | (refine A.stD (by first | omega | assumption | (simp only [WKl]; omega)) (by first | omega | assumption | (simp only [WKl]; omega)) ?_) | (refine A.stE (by rfl) (by first | omega | assumption | (simp only [WKl]; omega)) (by first | omega | assumption | (simp only [WKl]; omega)) ?_)) | (refine G.cond ?_; first | (refine Tr.condT (by first | rfl | assumption | (simp only [WKs]; first | omega | assumption)) ?_) | (refine Tr.condF (by first | rfl | assumption | (simp only [WKs]; first | omega | assumption)) ?_)) | (refine G.idx ?_; (refine Tr.indexArr (by omega) (by omega) ?_)) | (refine G.len ?_; first | (refine A.len ?_) | (refine A.lenM ?_) | (refine Tr.lenMapNil ?_)) | (refine G.conv ?_; (refine A.byStr ?_)) | (refine G.convE ?_; (refine A.convB (by first | omega | assumption | (simp only [WKl]; omega)) ?_)) | (refine G.look ?_; first | (refine A.look ?_) | (refine Tr.lookupNil ?_)) | (refine G.mapu ?_; (refine A.mapu ?_)) | (refine G.rem ?_; (refine Tr.rem (by omega) ?_)) | ((refine G.guard ?_; first | refine Tr.guardTT (by first | rfl | assumption | (simp only [WKs]; first | omega | assumption)) ?_ | refine Tr.guardFF (by first | rfl | assumption | (simp only [WKs]; first | omega | assumption)) ?_); intro hb; (try simp only [hb]); clear hb) | (refine G.sidx ?_; refine A.sidx (by first | omega | assumption | (simp only [WKl]; omega)) (by first | omega | assumption | (simp only [WKl]; omega)) ?_) | (refine G.sadd ?_; refine A.sadd (by first | omega | assumption | (simp only [WKl]; omega)) ?_) | (refine G.scut ?_; first | refine A.scut (by first | omega | assumption | (simp only [WKl]; omega)) (by first | omega | assumption | (simp only [WKl]; omega)) (by first | omega | assumption | (simp only [WKl]; omega)) ?_ | refine A.scutF (by first | omega | assumption | (simp only [WKl]; omega)) (by first | omega | assumption | (simp only [WKl]; omega)) ?_ | refine A.scutT (by first | omega | assumption | (simp only [WKl]; omega)) (by first | omega | assumption | (simp only [WKl]; omega)) ?_) | (refine G.quo ?_; refine Tr.quo (by omega) ?_) | (refine G.build ?_; refine A.buildA rfl ?_) | (refine G.fldv ?_; first | refine A.fldv (by rfl) ?_ | refine A.fldvG (by rfl) ?_) | (refine G.aidx ?_; first | refine A.aidxE (by first | omega | assumption) (by first | omega | assumption) (by rfl) (by rfl) ?_ | refine A.aidx (by first | omega | assumption) (by first | omega | assumption) (by rfl) ?_ | refine A.aidxG (by first | omega | assumption) (by first | omega | assumption) (by rfl) ?_)); (try simp only [WKb, WKh, WKt, ↓reduceIte, Nat.reduceEqDiff, Nat.reduceAdd, Nat.reduceSub, Int.reduceEq, Int.reduceLT, Int.reduceLE, hX]))); (first | (first | (refine Tr.box rfl ?_) | (refine Tr.alloc rfl ?_) | (refine G.app ?_; first | (refine A.app0 (by rfl) (by decide) (by first | omega | assumption | (simp only [WKl]; omega)) ?_) | (refine A.app (by rfl) (by decide) (by first | omega | assumption | (simp only [WKl]; omega)) ?_)) | (refine G.bs ?_; (refine A.buildL (by rfl) (by rfl) (by decide) ?_)) | (refine G.cut ?_; first | (refine A.cutTo (by rfl) (by omega) (by omega) ?_) | (refine A.cutFrom (by rfl) (by omega) (by omega) ?_) | (refine A.cut (by rfl) (by omega) (by omega) (by omega) ?_)) | (refine G.mks ?_; (refine A.mks (by rfl) (by first | omega | assumption | (simp only [WKl]; omega)) (by first | omega | assumption | (simp only [WKl]; omega)) (by first | omega | assumption | (simp only [WKl]; omega)) ?_)) | (refine Tr.makeMap ?_) | (refine G.idx ?_; (refine A.idx (by rfl) (by first | omega | assumption | (simp only [WKl]; omega)) (by first | omega | assumption | (simp only [WKl]; omega)) ?_))) | skip); exact q.h)
    | ((first | (refine G.load ?_; first | (refine A.ldW (by rfl) ?_) | (refine A.ld1 (by rfl) ?_) | (refine A.ldN (by rfl) (by rfl) ?_) | (refine A.lS0 (by assumption) (by rfl) ?_) | (refine A.lS1 (by assumption) (by rfl) ?_) | (refine A.lSW (by assumption) (by rfl) ?_) | (refine A.lSN (by assumption) (by rfl) (by rfl) ?_)) | (refine Tr.drewK ?_) | (refine Tr.eqR rfl ?_) | (refine Tr.build rfl ?_) | (refine G.store ?_; first | (refine A.stW (by rfl) (by rfl) (by rfl) (by rfl) ?_) | (refine A.st (by rfl) (by rfl) (by rfl) (by first | exact Nat.le_of_ble_eq_true rfl | (simp only [WKl, setL_length, En.len]; omega)) ?_) | (refine A.stD (by first | omega | assumption | (simp only [WKl]; omega)) (by first | omega | assumption | (simp only [WKl]; omega)) ?_) | (refine A.stE (by rfl) (by first | omega | assumption | (simp only [WKl]; omega)) (by first | omega | assumption | (simp only [WKl]; omega)) ?_)) | (refine G.cond ?_; first | (refine Tr.condT (by first | rfl | assumption | (simp only [WKs]; first | omega | assumption)) ?_) | (refine Tr.condF (by first | rfl | assumption | (simp only [WKs]; first | omega | assumption)) ?_)) | (refine G.idx ?_; (refine Tr.indexArr (by omega) (by omega) ?_)) | (refine G.len ?_; first | (refine A.len ?_) | (refine A.lenM ?_) | (refine Tr.lenMapNil ?_)) | (refine G.conv ?_; (refine A.byStr ?_)) | (refine G.convE ?_; (refine A.convB (by first | omega | assumption | (simp only [WKl]; omega)) ?_)) | (refine G.look ?_; first | (refine A.look ?_) | (refine Tr.lookupNil ?_)) | (refine G.mapu ?_; (refine A.mapu ?_)) | (refine G.rem ?_; (refine Tr.rem (by omega) ?_)) | ((refine G.guard ?_; first | refine Tr.guardTT (by first | rfl | assumption | (simp only [WKs]; first | omega | assumption)) ?_ | refine Tr.guardFF (by first | rfl | assumption | (simp only [WKs]; first | omega | assumption)) ?_); intro hb; (try simp only [hb]); clear hb) | (refine G.sidx ?_; refine A.sidx (by first | omega | assumption | (simp only [WKl]; omega)) (by first | omega | assumption | (simp only [WKl]; omega)) ?_) | (refine G.sadd ?_; refine A.sadd (by first | omega | assumption | (simp only [WKl]; omega)) ?_) | (refine G.scut ?_; first | refine A.scut (by first | omega | assumption | (simp only [WKl]; omega)) (by first | omega | assumption | (simp only [WKl]; omega)) (by first | omega | assumption | (simp only [WKl]; omega)) ?_ | refine A.scutF (by first | omega | assumption | (simp only [WKl]; omega)) (by first | omega | assumption | (simp only [WKl]; omega)) ?_ | refine A.scutT (by first | omega | assumption | (simp only [WKl]; omega)) (by first | omega | assumption | (simp only [WKl]; omega)) ?_) | (refine G.quo ?_; refine Tr.quo (by omega) ?_) | (refine G.build ?_; refine A.buildA rfl ?_) | (refine G.fldv ?_; first | refine A.fldv (by rfl) ?_ | refine A.fldvG (by rfl) ?_) | (refine G.aidx ?_; first | refine A.aidxE (by first | omega | assumption) (by first | omega | assumption) (by rfl) (by rfl) ?_ | refine A.aidx (by first | omega | assumption) (by first | omega | assumption) (by rfl) ?_ | refine A.aidxG (by first | omega | assumption) (by first | omega | assumption) (by rfl) ?_)); (try simp only [WKb, WKh, WKt, ↓reduceIte, Nat.reduceEqDiff, Nat.reduceAdd, Nat.reduceSub, Int.reduceEq, Int.reduceLT, Int.reduceLE, hX]); (repeat ((first | (refine G.load ?_; first | (refine A.ldW (by rfl) ?_) | (refine A.ld1 (by rfl) ?_) | (refine A.ldN (by rfl) (by rfl) ?_) | (refine A.lS0 (by assumption) (by rfl) ?_) | (refine A.lS1 (by assumption) (by rfl) ?_) | (refine A.lSW (by assumption) (by rfl) ?_) | (refine A.lSN (by assumption) (by rfl) (by rfl) ?_)) | (refine Tr.drewK ?_) | (refine Tr.eqR rfl ?_) | (refine Tr.build rfl ?_) | (refine G.store ?_; first | (refine A.stW (by rfl) (by rfl) (by rfl) (by rfl) ?_) | (refine A.st (by rfl) (by rfl) (by rfl) (by first | exact Nat.le_of_ble_eq_true rfl | (simp only [WKl, setL_length, En.len]; omega)) ?_) | (refine A.stD (by first | omega | assumption | (simp only [WKl]; omega)) (by first | omega | assumption | (simp only [WKl]; omega)) ?_) | (refine A.stE (by rfl) (by first | omega | assumption | (simp only [WKl]; omega)) (by first | omega | assumption | (simp only [WKl]; omega)) ?_)) | (refine G.cond ?_; first | (refine Tr.condT (by first | rfl | assumption | (simp only [WKs]; first | omega | assumption)) ?_) | (refine Tr.condF (by first | rfl | assumption | (simp only [WKs]; first | omega | assumption)) ?_)) | (refine G.idx ?_; (refine Tr.indexArr (by omega) (by omega) ?_)) | (refine G.len ?_; first | (refine A.len ?_) | (refine A.lenM ?_) | (refine Tr.lenMapNil ?_)) | (refine G.conv ?_; (refine A.byStr ?_)) | (refine G.convE ?_; (refine A.convB (by first | omega | assumption | (simp only [WKl]; omega)) ?_)) | (refine G.look ?_; first | (refine A.look ?_) | (refine Tr.lookupNil ?_)) | (refine G.mapu ?_; (refine A.mapu ?_)) | (refine G.rem ?_; (refine Tr.rem (by omega) ?_)) | ((refine G.guard ?_; first | refine Tr.guardTT (by first | rfl | assumption | (simp only [WKs]; first | omega | assumption)) ?_ | refine Tr.guardFF (by first | rfl | assumption | (simp only [WKs]; first | omega | assumption)) ?_); intro hb; (try simp only [hb]); clear hb) | (refine G.sidx ?_; refine A.sidx (by first | omega | assumption | (simp only [WKl]; omega)) (by first | omega | assumption | (simp only [WKl]; omega)) ?_) | (refine G.sadd ?_; refine A.sadd (by first | omega | assumption | (simp only [WKl]; omega)) ?_) | (refine G.scut ?_; first | refine A.scut (by first | omega | assumption | (simp only [WKl]; omega)) (by first | omega | assumption | (simp only [WKl]; omega)) (by first | omega | assumption | (simp only [WKl]; omega)) ?_ | refine A.scutF (by first | omega | assumption | (simp only [WKl]; omega)) (by first | omega | assumption | (simp only [WKl]; omega)) ?_ | refine A.scutT (by first | omega | assumption | (simp only [WKl]; omega)) (by first | omega | assumption | (simp only [WKl]; omega)) ?_) | (refine G.quo ?_; refine Tr.quo (by omega) ?_) | (refine G.build ?_; refine A.buildA rfl ?_) | (refine G.fldv ?_; first | refine A.fldv (by rfl) ?_ | refine A.fldvG (by rfl) ?_) | (refine G.aidx ?_; first | refine A.aidxE (by first | omega | assumption) (by first | omega | assumption) (by rfl) (by rfl) ?_ | refine A.aidx (by first | omega | assumption) (by first | omega | assumption) (by rfl) ?_ | refine A.aidxG (by first | omega | assumption) (by first | omega | assumption) (by rfl) ?_)); (try simp only [WKb, WKh, WKt, ↓reduceIte, Nat.reduceEqDiff, Nat.reduceAdd, Nat.reduceSub, Int.reduceEq, Int.reduceLT, Int.reduceLE, hX]))); (first | (first | (refine Tr.box rfl ?_) | (refine Tr.alloc rfl ?_) | (refine G.app ?_; first | (refine A.app0 (by rfl) (by decide) (by first | omega | assumption | (simp only [WKl]; omega)) ?_) | (refine A.app (by rfl) (by decide) (by first | omega | assumption | (simp only [WKl]; omega)) ?_)) | (refine G.bs ?_; (refine A.buildL (by rfl) (by rfl) (by decide) ?_)) | (refine G.cut ?_; first | (refine A.cutTo (by rfl) (by omega) (by omega) ?_) | (refine A.cutFrom (by rfl) (by omega) (by omega) ?_) | (refine A.cut (by rfl) (by omega) (by omega) (by omega) ?_)) | (refine G.mks ?_; (refine A.mks (by rfl) (by first | omega | assumption | (simp only [WKl]; omega)) (by first | omega | assumption | (simp only [WKl]; omega)) (by first | omega | assumption | (simp only [WKl]; omega)) ?_)) | (refine Tr.makeMap ?_) | (refine G.idx ?_; (refine A.idx (by rfl) (by first | omega | assumption | (simp only [WKl]; omega)) (by first | omega | assumption | (simp only [WKl]; omega)) ?_))) | skip); exact q.h)
    | ((first | (refine Tr.box rfl ?_) | (refine Tr.alloc rfl ?_) | (refine G.app ?_; first | (refine A.app0 (by rfl) (by decide) (by first | omega | assumption | (simp only [WKl]; omega)) ?_) | (refine A.app (by rfl) (by decide) (by first | omega | assumption | (simp only [WKl]; omega)) ?_)) | (refine G.bs ?_; (refine A.buildL (by rfl) (by rfl) (by decide) ?_)) | (refine G.cut ?_; first | (refine A.cutTo (by rfl) (by omega) (by omega) ?_) | (refine A.cutFrom (by rfl) (by omega) (by omega) ?_) | (refine A.cut (by rfl) (by omega) (by omega) (by omega) ?_)) | (refine G.mks ?_; (refine A.mks (by rfl) (by first | omega | assumption | (simp only [WKl]; omega)) (by first | omega | assumption | (simp only [WKl]; omega)) (by first | omega | assumption | (simp only [WKl]; omega)) ?_)) | (refine Tr.makeMap ?_) | (refine G.idx ?_; (refine A.idx (by rfl) (by first | omega | assumption | (simp only [WKl]; omega)) (by first | omega | assumption | (simp only [WKl]; omega)) ?_))); exact q.h))) : P := h ⟨q⟩
theorem S.y {A B P : Prop} (a : A) (b : B) (h : Hd A → Hd B → P := by
    intro a b
    first
    | ((first
      | (refine G.cond ?_; refine Tr.condS ?_ ?_)
      | (refine G.guard ?_; refine Tr.guardS ?_ ?_)
      | (refine G.guardC ?_; refine Tr.guardCS ?_ ?_)); (focus (intro hb; (try simp only [hb]); (try simp only [WKs] at hb); (try simp only [WKb, WKh, WKt, ↓reduceIte, Nat.reduceEqDiff, Nat.reduceAdd, Nat.reduceSub, Int.reduceEq, Int.reduceLT, Int.reduceLE, hX]); (try (have hq := Int.not_le.2 hb; revert hq)); (try (have hq := Int.not_lt.2 hb; revert hq)); revert hb; exact a.h)); (focus (intro hb; (try simp only [hb]); (try simp only [WKs] at hb); (try simp only [WKb, WKh, WKt, ↓reduceIte, Nat.reduceEqDiff, Nat.reduceAdd, Nat.reduceSub, Int.reduceEq, Int.reduceLT, Int.reduceLE, hX]); (try (have hq := Int.not_le.2 hb; revert hq)); (try (have hq := Int.not_lt.2 hb; revert hq)); revert hb; exact b.h)))
    | (refine Tr.brK ?_ ?_; exact a.h; exact b.h)) : P := h ⟨a⟩ ⟨b⟩
theorem S.k {P : Program} {f : FuncId} {args : Array Value} {pre : List Asrt} {post : Value → List Asrt → Prop} {l F : List Asrt} {K : Value → WP} {Q : Prop} (q : Q) (hp : TakeL l pre F := by
    (repeat (first | with_reducible exact TakeL.nil | (apply TakeL.cons; focus ((first | exact TakeA.dupS | exact TakeA.dupF | ((repeat (first | with_reducible exact TakeA.here | exact TakeA.fam (by omega) (by omega) | with_reducible apply TakeA.next)); done) | ((repeat (first | exact TakeA.here | apply TakeA.next)); done) | exact TakeA.famNil | exact TakeA.nilS))) | fail)); done) (h : Trip P f args pre post) (hd : Hd Q → ∀ v l', post v l' → Tr (l' ++ F) (K v) := by
    intro q
    first
    | (rintro _ _ ⟨rfl, rfl⟩; (try simp only [WKb, WKh, WKt, ↓reduceIte, Nat.reduceEqDiff, Nat.reduceAdd, Nat.reduceSub, Int.reduceEq, Int.reduceLT, Int.reduceLE, hX]); exact q.h)
    | (rintro _ _ ⟨x, rfl, rfl⟩; (try simp only [WKb, WKh, WKt, ↓reduceIte, Nat.reduceEqDiff, Nat.reduceAdd, Nat.reduceSub, Int.reduceEq, Int.reduceLT, Int.reduceLE, hX]); revert x; exact q.h)
    | (rintro _ _ ⟨x, y, rfl, rfl⟩; (try simp only [WKb, WKh, WKt, ↓reduceIte, Nat.reduceEqDiff, Nat.reduceAdd, Nat.reduceSub, Int.reduceEq, Int.reduceLT, Int.reduceLE, hX]); revert x y; exact q.h)
    | (rintro _ _ ⟨x, y, z, rfl, rfl⟩; (try simp only [WKb, WKh, WKt, ↓reduceIte, Nat.reduceEqDiff, Nat.reduceAdd, Nat.reduceSub, Int.reduceEq, Int.reduceLT, Int.reduceLE, hX]); revert x y z; exact q.h)
    | (rintro _ _ ⟨x, y, z, t, rfl, rfl⟩; (try simp only [WKb, WKh, WKt, ↓reduceIte, Nat.reduceEqDiff, Nat.reduceAdd, Nat.reduceSub, Int.reduceEq, Int.reduceLT, Int.reduceLE, hX]); revert x y z t; exact q.h)
    | (rintro _ _ ⟨x, y, z, t, u, rfl, rfl⟩; (try simp only [WKb, WKh, WKt, ↓reduceIte, Nat.reduceEqDiff, Nat.reduceAdd, Nat.reduceSub, Int.reduceEq, Int.reduceLT, Int.reduceLE, hX]); revert x y z t u; exact q.h)) : Tr l (CallK P f args K) := Tr.callC hp h (hd ⟨q⟩)
theorem S.E {d l m : List Asrt} (h : EntR d l m := by
    ((try clear hK) <;> (try simp only [WKe, ↓reduceIte, reduceCtorEq, Int.reduceEq, hX, *]) <;> (repeat (first | with_reducible exact EntR.done | refine S.e ?_ | (refine S.f ?_ <;> (try simp only [WKe, ↓reduceIte, reduceCtorEq, Int.reduceEq, hX, *])) | with_reducible apply EntR.ex | refine EntR.drop (F := F) ?_ | refine EntR.drop ?_)) <;> (first | exact SV.mk none 0 0 | exact SL.mk ⟨none, 0, 0⟩ [] | fail))) : EntR d l m := h
theorem S.L {P : Prop} (h : P := by
    first
    | (refine Tr.fin hK ⟨by (first | rfl | (simp [*, hX]; done) | (simp only [WKe, ↓reduceIte, reduceCtorEq, Int.reduceEq, eq_self, hX, *]; done)), rfl⟩ ?_; exact S.E)
    | (apply Tr.fin hK ⟨_, by (first | rfl | (simp [*, hX]; done) | (simp only [WKe, ↓reduceIte, reduceCtorEq, Int.reduceEq, eq_self, hX, *]; done)), rfl⟩; exact S.E)
    | (apply Tr.fin hK ⟨_, _, by (first | rfl | (simp [*, hX]; done) | (simp only [WKe, ↓reduceIte, reduceCtorEq, Int.reduceEq, eq_self, hX, *]; done)), rfl⟩; exact S.E)) : P := h
theorem S.V {α : Type} {a b : α} (h : a = b := by
    ((try clear hK) <;> first | rfl | (simp [*, hX]; done) | (simp [*, hX]; omega) | (simp [*, hX] <;> (try split) <;> simp_all <;> omega))) : a = b := h
theorem S.T {l m F : List Asrt} (h : TakeL l m F := by
    (repeat (first | with_reducible exact TakeL.nil | (apply TakeL.cons; focus ((first | exact TakeA.dupS | exact TakeA.dupF | ((repeat (first | with_reducible exact TakeA.here | exact TakeA.fam (by omega) (by omega) | with_reducible apply TakeA.next)); done) | ((repeat (first | exact TakeA.here | apply TakeA.next)); done) | exact TakeA.famNil | exact TakeA.nilS))) | fail)); done) : TakeL l m F := h
theorem S.K {l F : List Asrt} {A : Asrt} (h : TakeA l A F := by
    (first | ((repeat (first | with_reducible exact TakeA.here | with_reducible apply TakeA.next)); done) | ((repeat (first | exact TakeA.here | apply TakeA.next)); done))) : TakeA l A F := h
theorem S.R {α : Type} {slots keep : List Nat} {V : α → List Value} {L : α → List Asrt} {I : α → Prop} {μ : α → Nat} {a : α} {kv : List Value} {e' : Env} {l F : List Asrt} (a' : α)
    (hk : keep.map e' = kv := by simp only [WKb, WKh, WKt, ↓reduceIte, Nat.reduceEqDiff, Nat.reduceAdd, Nat.reduceSub, hX]) (hV : slots.map e' = V a' := by ((try simp only [WKb, WKh, WKt, ↓reduceIte, Nat.reduceEqDiff, Nat.reduceAdd, Nat.reduceSub, hX]); (all_goals ((repeat (refine cons_eq (by first | rfl | ((try clear hK) <;> first | rfl | (simp [*, hX]; done) | (simp [*, hX]; omega) | (simp [*, hX] <;> (try split) <;> simp_all <;> omega))) ?_)); rfl)); done))
    (hI : I a' := by (first | omega | assumption | (simp only []; omega) | (refine ⟨by omega, by assumption⟩) | ((try simp only []); (repeat' (first | omega | assumption | refine And.intro ?_ ?_)); done)))
    (hμ : μ a' < μ a := by (first | omega | (simp only []; omega))) (hL : EntR [] l (L a' ++ F) := by ((try clear hK) <;> (try simp only [WKe, ↓reduceIte, reduceCtorEq, Int.reduceEq, hX, *]) <;> (repeat (first | with_reducible exact EntR.done | refine S.e ?_ | (refine S.f ?_ <;> (try simp only [WKe, ↓reduceIte, reduceCtorEq, Int.reduceEq, hX, *])) | with_reducible apply EntR.ex | refine EntR.drop (F := F) ?_ | refine EntR.drop ?_)) <;> (first | exact SV.mk none 0 0 | exact SL.mk ⟨none, 0, 0⟩ [] | fail))) :
    Tr l (againK keep kv slots V I μ L F a e') := Tr.againE a' hk hV hI hμ hL
end Go.Wk

/- Regions with effects in no fixed order, by states: the slots that count, and what holds. -/
namespace Go.Wk
open Go
/-- The operations of a region of a text. -/
def oelse (a b : Array Oper) : Array Oper := match a with
  | ⟨[]⟩ => b
  | ⟨x :: l⟩ => ⟨x :: l⟩
theorem oelse_nil {b : Array Oper} : oelse #[] b = b := nr rfl
theorem oelse_cons {x : Oper} {l : List Oper} {b : Array Oper} : oelse (List.toArray (x :: l)) b = List.toArray (x :: l) := nr rfl
def opsOf : Code → Nat → Array Oper
  | .region id ops _, n => if id = n then ops else #[]
  | .seq a b, n => oelse (opsOf a n) (opsOf b n)
  | .cond _ a b, n => oelse (opsOf a n) (opsOf b n)
  | .block _ b, n => opsOf b n
  | .loop b, n => opsOf b n
  | _, _ => #[]
theorem Tr.atD {P : Program} {ops : Array Oper} {pl : Plan} {k : Env → WP} {l : List Asrt} {ss : List Nat} {vs : List Value} {e : Env} (h : ∀ u, Tr l (WD P ops pl k (upds u ss vs))) (he : ss.map e = vs) : Tr l (WD P ops pl k e) := by
  subst he
  have := h e
  rwa [upds_self] at this
/-- A frozen slice that stands as a pair. -/
instance (priority := 900) hass_fzmk {α : Type} {iE : En α} [Fz α] {s : SV} {d : List α} {l : List Asrt} : HasS (Fz.fz (SL.mk s d : SL α) :: l) s.v true α iE d :=
  ⟨(Has.here (A := Fz.fz (SL.mk s d : SL α)) (l := l)).imp fun h => ⟨fun _ => False, sl_of_fz (Fz.dup (SL.mk s d : SL α) h)⟩⟩
end Go.Wk
