import Derived.Test.YtacmaamllpiloaaGreatZ05
import Derived.Laws.StructEq
namespace Go.Wk
open Go
theorem Trip.mono {P : Program} {f : FuncId} {args : Array Value} {pre : List Asrt} {post post' : Value → List Asrt → Prop} (h : Trip P f args pre post) (hp : ∀ v l', post v l' → post' v l') : Trip P f args pre post' := fun F K hK => h F K fun v l' hv => hK v l' (hp v l' hv)
class De (l : List Asrt) {α : Type} [En α] (u : Value) (x : outParam α) : Prop where
  h : u.cells = (En.enc x).toArray
section
variable {l : List Asrt}
instance de_int {n : Int} : De l (.int .i64 n) n := ⟨rfl⟩
instance de_bool {b : Bool} : De l (.bool b) b := ⟨rfl⟩
instance de_u8 {b : UInt8} : De l (.int .u8 (b.toNat : Int)) b := ⟨rfl⟩
instance de_pts {b : Nat} : De l (.pointer (some ⟨b, 0, none⟩)) (Pt.mk (some b)) := ⟨rfl⟩
instance de_agg {α : Type} [En α] {x : α} : De l (.agg (En.enc x).toArray) x := ⟨rfl⟩
instance de_sl {α : Type} {iE : En α} {s : SV} {xs : List α} [_hs : HasS l s.v true α iE xs] : De l s.v (SL.mk s xs) := ⟨rfl⟩
class DeL (l : List Asrt) {α : Type} [En α] (i : Nat) (ps : List (Nat × Value)) (xs : outParam (List α)) : Prop where
  h : ∀ (pre mid : List Value), pre.length = i * En.sz α → xs.length * En.sz α ≤ mid.length → fillP (fun i => some (i * En.sz α, En.sz α)) (pre ++ mid) ps = some (pre ++ (flat xs ++ mid.drop (xs.length * En.sz α)))
instance del_nil {α : Type} [En α] {i : Nat} : DeL l i [] ([] : List α) := ⟨fun pre mid _ _ => by simp [fillP, flat]⟩
theorem del_step {α : Type} [En α] {i j : Nat} {u : Value} {x : α} {ps : List (Nat × Value)} {xs : List α} (hu : De l u x) (hj : j = i + 1) (h : DeL l j ps xs) : DeL l i ((i, u) :: ps) (x :: xs) := ⟨fun pre mid h1 h2 => by
  subst hj
  have hl : (En.enc x).length = En.sz α := En.len x
  have hm : En.sz α ≤ mid.length := by rw [List.length_cons, Nat.succ_mul] at h2; omega
  simp only [fillP, hu.h, List.size_toArray, hl]
  rw [if_pos ⟨trivial, by rw [List.length_append]; omega⟩]
  have hs := setL_append pre mid (En.enc x) (by omega)
  rw [h1] at hs
  rw [hs]
  have := h.h (pre ++ En.enc x) (mid.drop (En.sz α)) (by rw [List.length_append, h1, hl, Nat.succ_mul]) (by rw [List.length_drop]; rw [List.length_cons, Nat.succ_mul] at h2; omega)
  rw [← List.append_assoc, hl, this, List.drop_drop]
  simp only [flat, List.flatMap_cons, List.append_assoc, List.length_cons, Nat.succ_mul]
  congr 4
  rw [Nat.add_comm]⟩
instance del_cons {α : Type} [En α] {i : Nat} {u : Value} {x : α} {ps : List (Nat × Value)} {xs : List α} [hu : De l u x] [h : DeL l (i + 1) ps xs] : DeL l i ((i, u) :: ps) (x :: xs) := del_step hu rfl h
end
section
variable {P : Program} {α : Type} [iE : En α] {v : Value} {xs : List α} {l F : List Asrt} {ro : Bool} {K : Value → WP}
theorem A.buildL {T e bytes n : Nat} {β : Type} [_hE : ElT T β] [En β] [Inhabited β] {z : List Value} [hT : SlcT P T e bytes (En.sz β) z] {ps : List (Nat × Value)} {ys : List β} [hp : DeL l 0 ps ys] (hz : z = En.enc (default : β)) (hn : ys.length = n) (hsm : n * En.sz β ≤ 16777216)
    (hk : ∀ s : SV, Tr (sl false s.v ys :: l) (K s.v)) : Tr l (EGenK P (Instr.buildSlice T n ps.toArray) K) :=
  Tr.buildSlice (α := β) (xs := ys) (d := default) hz hn hsm (by
    have := hp.h [] (flat (List.replicate n (default : β))) (by simp) (by rw [flat_length, List.length_replicate, hn]; exact Nat.le_refl _)
    rw [List.nil_append, List.nil_append] at this
    rw [List.drop_of_length_le (by rw [flat_length, List.length_replicate, hn]; exact Nat.le_refl _), List.append_nil] at this
    exact this) hk
theorem A.stD {T : Nat} {i : Int} {u : Value} {x : α} [Siz P T (En.sz α)] [hs : TkS l v α iE xs F] [hu : De l u x] (h0 : 0 ≤ i) (hi : i < xs.length) (hx : Tr (sl false v (xs.set i.toNat x) :: F) (K undef)) :
    Tr l (EUnitK P (Instr.storeAt T (.pointer (some ⟨(sb v).block, (sb v).off + i.toNat * En.sz α, none⟩)) u) K) := A.stE hu.h h0 hi hx
end
theorem cl_int {k : IntKind} {n : Int} : (Value.int k n).cells.toList = [.int k n] := rfl
theorem cl_bool {b : Bool} : (Value.bool b).cells.toList = [.bool b] := rfl
theorem cl_str {s : ByteArray} : (Value.string s).cells.toList = [.string s] := rfl
theorem cl_sl {s : SV} : s.v.cells.toList = [s.v] := rfl
theorem cl_nil {a : Option Addr} {n c : Nat} : (Value.slice a n c).cells.toList = [.slice a n c] := rfl
theorem cl_ptr {a : Option Addr} : (Value.pointer a).cells.toList = [.pointer a] := rfl
theorem cl_map {a : Option Nat} : (Value.map a).cells.toList = [.map a] := rfl
theorem cl_chan {a : Option Nat} : (Value.chan a).cells.toList = [.chan a] := rfl
theorem cl_ifc {t : Nat} {v : Value} : (Value.iface t v).cells.toList = [.iface t v] := rfl
theorem cl_nifc : Value.nilIface.cells.toList = [.nilIface] := rfl
theorem cl_agg {l : List Value} : (Value.agg l.toArray).cells.toList = l := rfl
class DeA {α : Type} [En α] (u : Value) (x : outParam α) : Prop where
  h : u = .agg (En.enc x).toArray
end Go.Wk
namespace Go.Wk
open Go
theorem modify_set {α : Type} {a : Array α} {i : Nat} {f : α → α} {x : α} (h : a[i]? = some x) : a.modify i f = a.setIfInBounds i (f x) := by
  apply Array.ext_getElem?
  intro j
  rw [Array.getElem?_modify, Array.getElem?_setIfInBounds]
  by_cases hj : i = j
  · subst hj
    have hlt : i < a.size := by
      rcases Nat.lt_or_ge i a.size with h' | h'
      · exact h'
      · rw [Array.getElem?_eq_none h'] at h; cases h
    rw [Array.getElem?_eq_getElem hlt] at h
    simp [hlt, Option.some.inj h]
  · simp [hj]
section
variable {P : Program} {l F : List Asrt} {K : Value → WP} {v : Value}
theorem A.convB {T : Nat} [hT : BytT P T] {xs : List UInt8} [hs : TkS l v UInt8 inferInstance xs F] (h0 : 0 < xs.length) (hx : Tr (sl true v xs :: F) (K v)) : Tr l (EGenK P (convert T T v) K) := Tr.imp hs.h fun w hw => by
  obtain ⟨e, he, hu⟩ := hT.h
  rcases sl_open hw with ⟨rfl, rfl, hw'⟩ | ⟨b, off, cap, cs, T', e1, e2, e5, e7, hw'⟩
  · cases h0
  subst e1
  have hg := hw'.get
  have hlt := hw'.lt
  refine ⟨.slice (some ⟨b, off, none⟩) xs.length cap, w.freeze ⟨b, cs.length, none⟩ 1, ?_, hx _ ?_⟩
  · simp [convert, run_underlying he, run_underlying hu, markStringish, World.shape?, hg]
  · have hh : (w.freeze ⟨b, cs.length, none⟩ 1).heap = w.heap.setIfInBounds b (.cells cs.toArray T' (cs.length, cs.length + 1)) := by
      unfold World.freeze
      rw [if_neg (by decide)]
      dsimp only
      rw [modify_set hg]
      simp
    have h3 := hw'.put (o' := .cells cs.toArray T' (cs.length, cs.length + 1)) hh ⟨rfl, rfl, rfl⟩
    exact Sat.mapHead (A := rob b (.cells cs.toArray T' (cs.length, cs.length + 1))) (fun _ _ (hb : _ ∧ _) => .inr ⟨b, off, cap, cs, T', _, rfl, e2, hb.1, hb.2, e7⟩) h3.freeze
end
theorem G.convE {P : Program} {l : List Asrt} {K : Value → WP} {s d : Nat} {v : Value} (h : Tr l (EGenK P (convert s d v) K)) : Tr l (EGenK P (convert s d v) K) := h
end Go.Wk
namespace Go.Wk
open Go
theorem WKh : (∀ {P : Program} {r : Operand} {m : String} {as : Array Operand} {ts : Array TypeId} {ty : TypeId} {e : Env} {K : Value → WP}, opX P (Op.call { callee := Callee.invoke r m, args := as, argTypes := ts }) ty e K = InvK P (ev e r) m (Array.map (ev e) as) K) ∧ (∀ {P : Program} {K : Value → WP} {T : Nat} {m : String} {f : Nat} [hm : MethT P T m f] [hf : IsFn P f] {v : Value} {args : Array Value}, InvK P (Value.iface T v) m args K = CallK P f (#[v] ++ args) K) ∧ (∀ {P : Program} {K : Value → WP} {T : Nat} [h : ConT P T] {v : Value}, GenK P (Instr.makeInterface T v) K = K (Value.iface T v)) ∧ (∀ {P : Program} {K : Value → WP} {X T A : Nat} {z v : Value} [h : ConT P A] [hz : Zer P A z], GenK P (Instr.typeAssert (Value.iface T v) X A true) K = K (if T = A then Value.tuple #[v, Value.bool true] else Value.tuple #[z, Value.bool false])) ∧ (∀ {P : Program} {K : Value → WP} {x y : Operand} {T n : Nat} [h : Slc P T n] {s : SV}, BinK P BinOp.eql T x y (SV.v s) (Value.slice none 0 0) K = K (Value.bool (Option.isNone (SV.a s)))) ∧ (∀ {P : Program} {K : Value → WP} {x y : Operand} {T n : Nat} [h : Slc P T n] {s : SV}, BinK P BinOp.neq T x y (SV.v s) (Value.slice none 0 0) K = K (Value.bool !Option.isNone (SV.a s))) ∧ (∀ {P : Program} {K : Value → WP} {s d : Nat} {k k' kv : IntKind} [hs : IntT P s k] [hd : IntT P d k'] {n : Int}, GenK P (convert s d (Value.int kv n)) K = K (Value.int k' (IntKind.wrap k' n))) ∧ (∀ {P : Program} {K : Value → WP} {t : TypeId} {x y : Operand} {a b : List UInt8}, BinK P BinOp.eql t x y (Value.string (bstr a)) (Value.string (bstr b)) K = K (Value.bool (decide (a = b)))) ∧ (∀ {P : Program} {K : Value → WP} {t : TypeId} {x y : Operand} {a b : List UInt8}, BinK P BinOp.neq t x y (Value.string (bstr a)) (Value.string (bstr b)) K = K (Value.bool !decide (a = b))) ∧ (∀ {b : Nat}, Pt.v { a := some b } = Value.pointer (some { block := b, off := 0 })) ∧ Pt.v { a := none } = Value.pointer none ∧ (∀ {P : Program} {K : Value → WP} {ty T : Nat} {k k' : IntKind} {a b : Int}, GenK P (Builtin.max_ #[T, T] ty #[Value.int k a, Value.int k' b]) K = K (Value.int k (if a < b then b else a))) ∧ (∀ {k : IntKind} {n : Int}, Array.toList (Value.cells (Value.int k n)) = [Value.int k n]) ∧ (∀ {b : Bool}, Array.toList (Value.cells (Value.bool b)) = [Value.bool b]) ∧ (∀ {s : ByteArray}, Array.toList (Value.cells (Value.string s)) = [Value.string s]) ∧ (∀ {s : SV}, Array.toList (Value.cells (SV.v s)) = [SV.v s]) ∧ (∀ {a : Option Addr} {n c : Nat}, Array.toList (Value.cells (Value.slice a n c)) = [Value.slice a n c]) ∧ (∀ {a : Option Addr}, Array.toList (Value.cells (Value.pointer a)) = [Value.pointer a]) ∧ (∀ {a : Option Nat}, Array.toList (Value.cells (Value.map a)) = [Value.map a]) ∧ (∀ {a : Option Nat}, Array.toList (Value.cells (Value.chan a)) = [Value.chan a]) ∧ (∀ {t : Nat} {v : Value}, Array.toList (Value.cells (Value.iface t v)) = [Value.iface t v]) ∧ Array.toList (Value.cells Value.nilIface) = [Value.nilIface] ∧ ∀ {l : List Value}, Array.toList (Value.cells (Value.agg (List.toArray l))) = l :=
  And.intro @opX_inv (And.intro @InvK_ptr (And.intro @mkIface (And.intro @tyAssert (And.intro @BinK_slnil (And.intro @BinK_slnnil (And.intro @GenK_conv (And.intro @BinK_seq (And.intro @BinK_sne (And.intro @Pt.v_some (And.intro @Pt.v_none (And.intro @max_int (And.intro @cl_int (And.intro @cl_bool (And.intro @cl_str (And.intro @cl_sl (And.intro @cl_nil (And.intro @cl_ptr (And.intro @cl_map (And.intro @cl_chan (And.intro @cl_ifc (And.intro @cl_nifc (@cl_agg))))))))))))))))))))))
end Go.Wk
namespace Go.Wk
open Go
theorem G.tr {l : List Asrt} {X : WP} (h : Tr l X) : Tr l X := h
theorem S.a {X X' : WP} {l l' : List Asrt} (hx : Tr l' X') (h : Tr l' X' → Tr l X := by
    intro h
    first
    | (refine G.load ?_; first | (refine A.ldW (by rfl) ?_; exact h) | (refine A.ld1 (by rfl) ?_; exact h) | (refine A.ldN (by rfl) (by rfl) ?_; exact h) | (refine A.lS0 (by assumption) (by rfl) ?_; exact h) | (refine A.lS1 (by assumption) (by rfl) ?_; exact h) | (refine A.lSW (by assumption) (by rfl) ?_; exact h) | (refine A.lSN (by assumption) (by rfl) (by rfl) ?_; exact h))
    | (refine Tr.drewK ?_; exact h)
    | (refine Tr.eqR rfl ?_; exact h)
    | (refine Tr.build rfl ?_; exact h)
    | (refine G.store ?_; first | (refine A.stW (by rfl) (by rfl) (by rfl) (by rfl) ?_; exact h) | (refine A.st (by rfl) (by rfl) (by rfl) (by first | exact Nat.le_of_ble_eq_true rfl | (simp only [WKl, setL_length, En.len]; omega)) ?_; exact h) | (refine A.stD (by first | omega | assumption | (simp only [WKl]; omega)) (by first | omega | assumption | (simp only [WKl]; omega)) ?_; exact h) | (refine A.stE (by rfl) (by first | omega | assumption | (simp only [WKl]; omega)) (by first | omega | assumption | (simp only [WKl]; omega)) ?_; exact h))
    | (refine G.cond ?_; first | (refine Tr.condT (by first | rfl | assumption | (simp only [WKs]; omega)) ?_; exact h) | (refine Tr.condF (by first | rfl | assumption | (simp only [WKs]; omega)) ?_; exact h))
    | (refine G.idx ?_; (refine Tr.indexArr (by omega) (by omega) ?_; exact h))
    | (refine G.len ?_; first | (refine A.len ?_; exact h) | (refine A.lenM ?_; exact h) | (refine Tr.lenMapNil ?_; exact h))
    | (refine G.conv ?_; (refine A.byStr ?_; exact h))
    | (refine G.convE ?_; (refine A.convB (by first | omega | assumption | (simp only [WKl]; omega)) ?_; exact h))
    | (refine G.look ?_; first | (refine A.look ?_; exact h) | (refine Tr.lookupNil ?_; exact h))
    | (refine G.mapu ?_; (refine A.mapu ?_; exact h))
    | (refine G.rem ?_; (refine Tr.rem (by omega) ?_; exact h))
    | fail) : Tr l X := h hx
theorem S.n {X : WP} {l : List Asrt} {β : Type} {G : β → Prop} (hx : ∀ x, G x) (h : (∀ x, G x) → Tr l X := by
    intro h
    first
    | (refine Tr.box rfl ?_; exact h)
    | (refine Tr.alloc rfl ?_; exact h)
    | (refine G.app ?_; first | (refine A.app0 (by rfl) (by decide) (by first | omega | assumption | (simp only [WKl]; omega)) ?_; exact h) | (refine A.app (by rfl) (by decide) (by first | omega | assumption | (simp only [WKl]; omega)) ?_; exact h))
    | (refine G.bs ?_; (refine A.buildL (by rfl) (by rfl) (by decide) ?_; exact h))
    | (refine G.cut ?_; first | (refine A.cutTo (by rfl) (by omega) (by omega) ?_; exact h) | (refine A.cutFrom (by rfl) (by omega) (by omega) ?_; exact h) | (refine A.cut (by rfl) (by omega) (by omega) (by omega) ?_; exact h))
    | (refine G.mks ?_; (refine A.mks (by rfl) (by first | omega | assumption | (simp only [WKl]; omega)) (by first | omega | assumption | (simp only [WKl]; omega)) (by first | omega | assumption | (simp only [WKl]; omega)) ?_; exact h))
    | (refine Tr.makeMap ?_; exact h)
    | fail) : Tr l X := h hx
theorem S.i {X X' : WP} {l l' : List Asrt} {p : Prop} (hx : p → Tr l' X') (h : (p → Tr l' X') → Tr l X := by
    intro h
    first
    | (refine G.idx ?_; (refine A.idx (by rfl) (by first | omega | assumption | (simp only [WKl]; omega)) (by first | omega | assumption | (simp only [WKl]; omega)) ?_; exact h))
    | fail) : Tr l X := h hx
theorem S.g {X X' : WP} {l l' : List Asrt} {p : Prop} (hx : p → Tr l' X') (h : (p → Tr l' X') → Tr l X := by
    intro h
    first
    | (refine G.guard ?_; first | (refine Tr.guardTT (by first | rfl | assumption | (simp only [WKs]; omega)) ?_; exact h) | (refine Tr.guardFF (by first | rfl | assumption | (simp only [WKs]; omega)) ?_; exact h))
    | fail) : Tr l X := h hx
theorem S.s {X X' Y' : WP} {l l' m' : List Asrt} {p q : Prop} (hx : p → Tr l' X') (hy : q → Tr m' Y') (h : (p → Tr l' X') → (q → Tr m' Y') → Tr l X := by
    intro h g
    first
    | (refine G.cond ?_; (refine Tr.condS ?_ ?_; exact h; exact g))
    | (refine G.guard ?_; (refine Tr.guardS ?_ ?_; exact h; exact g))
    | (refine G.guardC ?_; (refine Tr.guardCS ?_ ?_; exact h; exact g))
    | fail) : Tr l X := h hx hy
theorem S.c {P : Program} {f : FuncId} {args : Array Value} {pre : List Asrt} {post : Value → List Asrt → Prop} {l F : List Asrt} {K : Value → WP} (hk : ∀ v l', post v l' → Tr (l' ++ F) (K v)) (hp : TakeL l pre F := by
    (repeat (first | with_reducible exact TakeL.nil | (apply TakeL.cons; focus ((first | exact TakeA.dupS | exact TakeA.dupF | ((repeat (first | with_reducible exact TakeA.here | exact TakeA.fam (by omega) (by omega) | with_reducible apply TakeA.next)); done) | ((repeat (first | exact TakeA.here | apply TakeA.next)); done) | exact TakeA.famNil | exact TakeA.nilS))) | fail)); done) (h : Trip P f args pre post) : Tr l (CallK P f args K) := Tr.callC hp h hk
theorem S.p {p : Prop} (h : p := by first | omega | assumption | exact Nat.le_of_ble_eq_true rfl) : p := h
theorem G.ent {d l m : List Asrt} (h : EntR d l m) : EntR d l m := h
theorem S.e {d l l' m m' : List Asrt} (hx : EntR d l' m') (h : EntR d l' m' → EntR d l m := by
    (refine fun h => G.ent ?_; (first | (refine G.ec ?_; first | (apply EntR.take; focus ((first | ((repeat (first | with_reducible exact TakeA.here | with_reducible apply TakeA.next)); done) | ((repeat (first | exact TakeA.here | apply TakeA.next)); done)))) | refine EntR.dupS ?_ | refine EntR.dupF ?_ | refine EntR.dupZ ?_ | with_reducible refine EntR.famNil ?_ | refine EntR.nilS ?_ | with_reducible refine EntR.sep ?_ | with_reducible refine EntR.fact (by first | rfl | assumption | omega | simp) ?_ | fail) | fail); (repeat (first | (refine G.ec ?_; first | (apply EntR.take; focus ((first | ((repeat (first | with_reducible exact TakeA.here | with_reducible apply TakeA.next)); done) | ((repeat (first | exact TakeA.here | apply TakeA.next)); done)))) | refine EntR.dupS ?_ | refine EntR.dupF ?_ | refine EntR.dupZ ?_ | with_reducible refine EntR.famNil ?_ | refine EntR.nilS ?_ | with_reducible refine EntR.sep ?_ | with_reducible refine EntR.fact (by first | rfl | assumption | omega | simp) ?_ | fail) | fail)); exact h)) : EntR d l m := h hx
theorem S.f {d l l' m m' : List Asrt} (hx : EntR d l' m') (h : EntR d l' m' → EntR d l m := by
    (refine fun h => G.ef ?_; first | (refine EntR.famSet (by (first | ((repeat (first | with_reducible exact TakeA.here | with_reducible apply TakeA.next)); done) | ((repeat (first | exact TakeA.here | apply TakeA.next)); done))) (by omega) ?_; exact h) | (refine EntR.famSame (by (first | ((repeat (first | with_reducible exact TakeA.here | with_reducible apply TakeA.next)); done) | ((repeat (first | exact TakeA.here | apply TakeA.next)); done))) (by omega) (by omega) ?_; exact h) | (refine EntR.famSnoc (by (first | ((repeat (first | with_reducible exact TakeA.here | with_reducible apply TakeA.next)); done) | ((repeat (first | exact TakeA.here | apply TakeA.next)); done))) ?_; exact h) | fail)) : EntR d l m := h hx
end Go.Wk
namespace Go.Wk
open Go
def cutS (sz : Nat) (s : SV) (lo hi : Nat) : SV := ⟨if s.c = lo then s.a else s.a.map (·.add (lo * sz)), hi - lo, s.c - lo⟩
section
variable {P : Program} {α : Type} [iE : En α] {s : SV} {xs : List α} {l : List Asrt} {K : Value → WP} {T n : Nat}
theorem cut_det {lo hi : Option Value} {ys : List α} {u : Value} (h1 : ∀ K : Value → WP, (∀ s : SV, Tr (sl true s.v ys :: l) (K s.v)) → Tr l (GenK P (Instr.sliceAt T s.v lo hi none) K))
    (h2 : ∀ K : Value → WP, Tr l (K u) → Tr l (GenK P (Instr.sliceAt T s.v lo hi none) K)) (hx : Tr (sl true u ys :: l) (K u)) : Tr l (GenK P (Instr.sliceAt T s.v lo hi none) K) := fun w hw => by
  obtain ⟨v, hr, hs⟩ := h1 (fun v w => Sat w (sl true v ys :: l)) (fun s w hw => hw) w hw
  obtain ⟨v', hr', hv⟩ := h2 (fun v _ => v = u) (fun _ _ => rfl) w hw
  rw [hr] at hr'
  obtain rfl : v = v' := by injection hr'
  subst hv
  exact ⟨v, hr, hx w hs⟩
theorem A.cutFromS {lo : Int} {k1 : IntKind} [hT : Slc P T n] [hs : HasS l s.v true α iE xs] (hne : n = En.sz α) (h0 : 0 ≤ lo) (h1 : lo ≤ xs.length)
    (hx : Tr (sl true (cutS (En.sz α) s lo.toNat xs.length).v (xs.drop lo.toNat) :: l) (K (cutS (En.sz α) s lo.toNat xs.length).v)) : Tr l (GenK P (Instr.sliceAt T s.v (some (.int k1 lo)) none none) K) :=
  cut_det (fun _ h => A.cutFrom hne h0 h1 h) (fun _ h => A.ccFrom hne h0 h1 h) hx
theorem A.cutToS {hi : Int} {k1 : IntKind} [hT : Slc P T n] [hs : HasS l s.v true α iE xs] (hne : n = En.sz α) (h0 : 0 ≤ hi) (h1 : hi ≤ xs.length)
    (hx : Tr (sl true (cutS (En.sz α) s 0 hi.toNat).v (xs.take hi.toNat) :: l) (K (cutS (En.sz α) s 0 hi.toNat).v)) : Tr l (GenK P (Instr.sliceAt T s.v none (some (.int k1 hi)) none) K) :=
  cut_det (fun _ h => A.cutTo hne h0 h1 h) (fun _ h => A.ccTo hne h0 h1 h) hx
end
theorem S.d {X X' : WP} {l l' : List Asrt} (hx : Tr l' X') (h : Tr l' X' → Tr l X := by
    intro h
    refine G.cut ?_
    first
    | (refine A.cutToS (by rfl) (by omega) (by omega) ?_; exact h)
    | (refine A.cutFromS (by rfl) (by omega) (by omega) ?_; exact h)
    | fail) : Tr l X := h hx
end Go.Wk
namespace Go.Wk
open Go
theorem hX : True := trivial
structure Hd (Q : Prop) : Prop where
  h : Q
theorem S.x {Q P : Prop} (q : Q) (h : Hd Q → P := by
    intro q
    (first
    | (simp only [WKb, WKh, WKt, ↓reduceIte, Nat.reduceEqDiff, Nat.reduceAdd, Nat.reduceSub, Int.reduceEq, Int.reduceLT, Int.reduceLE, hX]; (repeat ((first | (refine G.load ?_; first | (refine A.ldW (by rfl) ?_) | (refine A.ld1 (by rfl) ?_) | (refine A.ldN (by rfl) (by rfl) ?_) | (refine A.lS0 (by assumption) (by rfl) ?_) | (refine A.lS1 (by assumption) (by rfl) ?_) | (refine A.lSW (by assumption) (by rfl) ?_) | (refine A.lSN (by assumption) (by rfl) (by rfl) ?_)) | (refine Tr.drewK ?_) | (refine Tr.eqR rfl ?_) | (refine Tr.build rfl ?_) | (refine G.store ?_; first | (refine A.stW (by rfl) (by rfl) (by rfl) (by rfl) ?_) | (refine A.st (by rfl) (by rfl) (by rfl) (by first | exact Nat.le_of_ble_eq_true rfl | (simp only [WKl, setL_length, En.len]; omega)) ?_) | (refine A.stD (by first | omega | assumption | (simp only [WKl]; omega)) (by first | omega | assumption | (simp only [WKl]; omega)) ?_) | (refine A.stE (by rfl) (by first | omega | assumption | (simp only [WKl]; omega)) (by first | omega | assumption | (simp only [WKl]; omega)) ?_)) | (refine G.cond ?_; first | (refine Tr.condT (by first | rfl | assumption | (simp only [WKs]; first | omega | assumption)) ?_) | (refine Tr.condF (by first | rfl | assumption | (simp only [WKs]; first | omega | assumption)) ?_)) | (refine G.idx ?_; (refine Tr.indexArr (by omega) (by omega) ?_)) | (refine G.len ?_; first | (refine A.len ?_) | (refine A.lenM ?_) | (refine Tr.lenMapNil ?_)) | (refine G.conv ?_; (refine A.byStr ?_)) | (refine G.convE ?_; (refine A.convB (by first | omega | assumption | (simp only [WKl]; omega)) ?_)) | (refine G.look ?_; first | (refine A.look ?_) | (refine Tr.lookupNil ?_)) | (refine G.mapu ?_; (refine A.mapu ?_)) | (refine G.rem ?_; (refine Tr.rem (by omega) ?_)) | ((refine G.guard ?_; first | refine Tr.guardTT (by first | rfl | assumption | (simp only [WKs]; first | omega | assumption)) ?_ | refine Tr.guardFF (by first | rfl | assumption | (simp only [WKs]; first | omega | assumption)) ?_); intro hb; (try simp only [hb]); clear hb) | (refine G.sidx ?_; refine A.sidx (by first | omega | assumption | (simp only [WKl]; omega)) (by first | omega | assumption | (simp only [WKl]; omega)) ?_) | (refine G.sadd ?_; refine A.sadd (by first | omega | assumption | (simp only [WKl]; omega)) ?_) | (refine G.scut ?_; first | refine A.scut (by first | omega | assumption | (simp only [WKl]; omega)) (by first | omega | assumption | (simp only [WKl]; omega)) (by first | omega | assumption | (simp only [WKl]; omega)) ?_ | refine A.scutF (by first | omega | assumption | (simp only [WKl]; omega)) (by first | omega | assumption | (simp only [WKl]; omega)) ?_ | refine A.scutT (by first | omega | assumption | (simp only [WKl]; omega)) (by first | omega | assumption | (simp only [WKl]; omega)) ?_) | (refine G.quo ?_; refine Tr.quo (by omega) ?_) | (refine G.build ?_; refine A.buildA rfl ?_) | (refine G.fldv ?_; first | refine A.fldv (by rfl) ?_ | refine A.fldvG (by rfl) ?_) | (refine G.aidx ?_; first | refine A.aidxE (by first | omega | assumption) (by first | omega | assumption) (by rfl) (by rfl) ?_ | refine A.aidx (by first | omega | assumption) (by first | omega | assumption) (by rfl) ?_ | refine A.aidxG (by first | omega | assumption) (by first | omega | assumption) (by rfl) ?_)); (try simp only [WKb, WKh, WKt, ↓reduceIte, Nat.reduceEqDiff, Nat.reduceAdd, Nat.reduceSub, Int.reduceEq, Int.reduceLT, Int.reduceLE, hX]))); (first | (first | (refine Tr.box rfl ?_) | (refine Tr.alloc rfl ?_) | (refine G.app ?_; first | (refine A.app0 (by rfl) (by decide) (by first | omega | assumption | (simp only [WKl]; omega)) ?_) | (refine A.app (by rfl) (by decide) (by first | omega | assumption | (simp only [WKl]; omega)) ?_)) | (refine G.bs ?_; (refine A.buildL (by rfl) (by rfl) (by decide) ?_)) | (refine G.cut ?_; first | (refine A.cutTo (by rfl) (by omega) (by omega) ?_) | (refine A.cutFrom (by rfl) (by omega) (by omega) ?_) | (refine A.cut (by rfl) (by omega) (by omega) (by omega) ?_)) | (refine G.mks ?_; (refine A.mks (by rfl) (by first | omega | assumption | (simp only [WKl]; omega)) (by first | omega | assumption | (simp only [WKl]; omega)) (by first | omega | assumption | (simp only [WKl]; omega)) ?_)) | (refine Tr.makeMap ?_) | (refine G.idx ?_; (refine A.idx (by rfl) (by first | omega | assumption | (simp only [WKl]; omega)) (by first | omega | assumption | (simp only [WKl]; omega)) ?_))) | skip); exact q.h)
    | ((first | (refine G.load ?_; first | (refine A.ldW (by rfl) ?_) | (refine A.ld1 (by rfl) ?_) | (refine A.ldN (by rfl) (by rfl) ?_) | (refine A.lS0 (by assumption) (by rfl) ?_) | (refine A.lS1 (by assumption) (by rfl) ?_) | (refine A.lSW (by assumption) (by rfl) ?_) | (refine A.lSN (by assumption) (by rfl) (by rfl) ?_)) | (refine Tr.drewK ?_) | (refine Tr.eqR rfl ?_) | (refine Tr.build rfl ?_) | (refine G.store ?_; first | (refine A.stW (by rfl) (by rfl) (by rfl) (by rfl) ?_) | (refine A.st (by rfl) (by rfl) (by rfl) (by first | exact Nat.le_of_ble_eq_true rfl | (simp only [WKl, setL_length, En.len]; omega)) ?_) | (refine A.stD (by first | omega | assumption | (simp only [WKl]; omega)) (by first | omega | assumption | (simp only [WKl]; omega)) ?_) | (refine A.stE (by rfl) (by first | omega | assumption | (simp only [WKl]; omega)) (by first | omega | assumption | (simp only [WKl]; omega)) ?_)) | (refine G.cond ?_; first | (refine Tr.condT (by first | rfl | assumption | (simp only [WKs]; first | omega | assumption)) ?_) | (refine Tr.condF (by first | rfl | assumption | (simp only [WKs]; first | omega | assumption)) ?_)) | (refine G.idx ?_; (refine Tr.indexArr (by omega) (by omega) ?_)) | (refine G.len ?_; first | (refine A.len ?_) | (refine A.lenM ?_) | (refine Tr.lenMapNil ?_)) | (refine G.conv ?_; (refine A.byStr ?_)) | (refine G.convE ?_; (refine A.convB (by first | omega | assumption | (simp only [WKl]; omega)) ?_)) | (refine G.look ?_; first | (refine A.look ?_) | (refine Tr.lookupNil ?_)) | (refine G.mapu ?_; (refine A.mapu ?_)) | (refine G.rem ?_; (refine Tr.rem (by omega) ?_)) | ((refine G.guard ?_; first | refine Tr.guardTT (by first | rfl | assumption | (simp only [WKs]; first | omega | assumption)) ?_ | refine Tr.guardFF (by first | rfl | assumption | (simp only [WKs]; first | omega | assumption)) ?_); intro hb; (try simp only [hb]); clear hb) | (refine G.sidx ?_; refine A.sidx (by first | omega | assumption | (simp only [WKl]; omega)) (by first | omega | assumption | (simp only [WKl]; omega)) ?_) | (refine G.sadd ?_; refine A.sadd (by first | omega | assumption | (simp only [WKl]; omega)) ?_) | (refine G.scut ?_; first | refine A.scut (by first | omega | assumption | (simp only [WKl]; omega)) (by first | omega | assumption | (simp only [WKl]; omega)) (by first | omega | assumption | (simp only [WKl]; omega)) ?_ | refine A.scutF (by first | omega | assumption | (simp only [WKl]; omega)) (by first | omega | assumption | (simp only [WKl]; omega)) ?_ | refine A.scutT (by first | omega | assumption | (simp only [WKl]; omega)) (by first | omega | assumption | (simp only [WKl]; omega)) ?_) | (refine G.quo ?_; refine Tr.quo (by omega) ?_) | (refine G.build ?_; refine A.buildA rfl ?_) | (refine G.fldv ?_; first | refine A.fldv (by rfl) ?_ | refine A.fldvG (by rfl) ?_) | (refine G.aidx ?_; first | refine A.aidxE (by first | omega | assumption) (by first | omega | assumption) (by rfl) (by rfl) ?_ | refine A.aidx (by first | omega | assumption) (by first | omega | assumption) (by rfl) ?_ | refine A.aidxG (by first | omega | assumption) (by first | omega | assumption) (by rfl) ?_)); (try simp only [WKb, WKh, WKt, ↓reduceIte, Nat.reduceEqDiff, Nat.reduceAdd, Nat.reduceSub, Int.reduceEq, Int.reduceLT, Int.reduceLE, hX]); (repeat ((first | (refine G.load ?_; first | (refine A.ldW (by rfl) ?_) | (refine A.ld1 (by rfl) ?_) | (refine A.ldN (by rfl) (by rfl) ?_) | (refine A.lS0 (by assumption) (by rfl) ?_) | (refine A.lS1 (by assumption) (by rfl) ?_) | (refine A.lSW (by assumption) (by rfl) ?_) | (refine A.lSN (by assumption) (by rfl) (by rfl) ?_)) | (refine Tr.drewK ?_) | (refine Tr.eqR rfl ?_) | (refine Tr.build rfl ?_) | (refine G.store ?_; first | (refine A.stW (by rfl) (by rfl) (by rfl) (by rfl) ?_) | (refine A.st (by rfl) (by rfl) (by rfl) (by first | exact Nat.le_of_ble_eq_true rfl | (simp only [WKl, setL_length, En.len]; omega)) ?_) | (refine A.stD (by first | omega | assumption | (simp only [WKl]; omega)) (by first | omega | assumption | (simp only [WKl]; omega)) ?_) | (refine A.stE (by rfl) (by first | omega | assumption | (simp only [WKl]; omega)) (by first | omega | assumption | (simp only [WKl]; omega)) ?_)) | (refine G.cond ?_; first | (refine Tr.condT (by first | rfl | assumption | (simp only [WKs]; first | omega | assumption)) ?_) | (refine Tr.condF (by first | rfl | assumption | (simp only [WKs]; first | omega | assumption)) ?_)) | (refine G.idx ?_; (refine Tr.indexArr (by omega) (by omega) ?_)) | (refine G.len ?_; first | (refine A.len ?_) | (refine A.lenM ?_) | (refine Tr.lenMapNil ?_)) | (refine G.conv ?_; (refine A.byStr ?_)) | (refine G.convE ?_; (refine A.convB (by first | omega | assumption | (simp only [WKl]; omega)) ?_)) | (refine G.look ?_; first | (refine A.look ?_) | (refine Tr.lookupNil ?_)) | (refine G.mapu ?_; (refine A.mapu ?_)) | (refine G.rem ?_; (refine Tr.rem (by omega) ?_)) | ((refine G.guard ?_; first | refine Tr.guardTT (by first | rfl | assumption | (simp only [WKs]; first | omega | assumption)) ?_ | refine Tr.guardFF (by first | rfl | assumption | (simp only [WKs]; first | omega | assumption)) ?_); intro hb; (try simp only [hb]); clear hb) | (refine G.sidx ?_; refine A.sidx (by first | omega | assumption | (simp only [WKl]; omega)) (by first | omega | assumption | (simp only [WKl]; omega)) ?_) | (refine G.sadd ?_; refine A.sadd (by first | omega | assumption | (simp only [WKl]; omega)) ?_) | (refine G.scut ?_; first | refine A.scut (by first | omega | assumption | (simp only [WKl]; omega)) (by first | omega | assumption | (simp only [WKl]; omega)) (by first | omega | assumption | (simp only [WKl]; omega)) ?_ | refine A.scutF (by first | omega | assumption | (simp only [WKl]; omega)) (by first | omega | assumption | (simp only [WKl]; omega)) ?_ | refine A.scutT (by first | omega | assumption | (simp only [WKl]; omega)) (by first | omega | assumption | (simp only [WKl]; omega)) ?_) | (refine G.quo ?_; refine Tr.quo (by omega) ?_) | (refine G.build ?_; refine A.buildA rfl ?_) | (refine G.fldv ?_; first | refine A.fldv (by rfl) ?_ | refine A.fldvG (by rfl) ?_) | (refine G.aidx ?_; first | refine A.aidxE (by first | omega | assumption) (by first | omega | assumption) (by rfl) (by rfl) ?_ | refine A.aidx (by first | omega | assumption) (by first | omega | assumption) (by rfl) ?_ | refine A.aidxG (by first | omega | assumption) (by first | omega | assumption) (by rfl) ?_)); (try simp only [WKb, WKh, WKt, ↓reduceIte, Nat.reduceEqDiff, Nat.reduceAdd, Nat.reduceSub, Int.reduceEq, Int.reduceLT, Int.reduceLE, hX]))); (first | (first | (refine Tr.box rfl ?_) | (refine Tr.alloc rfl ?_) | (refine G.app ?_; first | (refine A.app0 (by rfl) (by decide) (by first | omega | assumption | (simp only [WKl]; omega)) ?_) | (refine A.app (by rfl) (by decide) (by first | omega | assumption | (simp only [WKl]; omega)) ?_)) | (refine G.bs ?_; (refine A.buildL (by rfl) (by rfl) (by decide) ?_)) | (refine G.cut ?_; first | (refine A.cutTo (by rfl) (by omega) (by omega) ?_) | (refine A.cutFrom (by rfl) (by omega) (by omega) ?_) | (refine A.cut (by rfl) (by omega) (by omega) (by omega) ?_)) | (refine G.mks ?_; (refine A.mks (by rfl) (by first | omega | assumption | (simp only [WKl]; omega)) (by first | omega | assumption | (simp only [WKl]; omega)) (by first | omega | assumption | (simp only [WKl]; omega)) ?_)) | (refine Tr.makeMap ?_) | (refine G.idx ?_; (refine A.idx (by rfl) (by first | omega | assumption | (simp only [WKl]; omega)) (by first | omega | assumption | (simp only [WKl]; omega)) ?_))) | skip); exact q.h)
    | ((first | (refine Tr.box rfl ?_) | (refine Tr.alloc rfl ?_) | (refine G.app ?_; first | (refine A.app0 (by rfl) (by decide) (by first | omega | assumption | (simp only [WKl]; omega)) ?_) | (refine A.app (by rfl) (by decide) (by first | omega | assumption | (simp only [WKl]; omega)) ?_)) | (refine G.bs ?_; (refine A.buildL (by rfl) (by rfl) (by decide) ?_)) | (refine G.cut ?_; first | (refine A.cutTo (by rfl) (by omega) (by omega) ?_) | (refine A.cutFrom (by rfl) (by omega) (by omega) ?_) | (refine A.cut (by rfl) (by omega) (by omega) (by omega) ?_)) | (refine G.mks ?_; (refine A.mks (by rfl) (by first | omega | assumption | (simp only [WKl]; omega)) (by first | omega | assumption | (simp only [WKl]; omega)) (by first | omega | assumption | (simp only [WKl]; omega)) ?_)) | (refine Tr.makeMap ?_) | (refine G.idx ?_; (refine A.idx (by rfl) (by first | omega | assumption | (simp only [WKl]; omega)) (by first | omega | assumption | (simp only [WKl]; omega)) ?_))); exact q.h))) : P := h ⟨q⟩
theorem S.y {A B P : Prop} (a : A) (b : B) (h : Hd A → Hd B → P := by
    intro a b
    first
    | ((first
      | (refine G.cond ?_; refine Tr.condS ?_ ?_)
      | (refine G.guard ?_; refine Tr.guardS ?_ ?_)
      | (refine G.guardC ?_; refine Tr.guardCS ?_ ?_)); (focus (intro hb; (try simp only [hb]); (try simp only [WKs] at hb); (try simp only [WKb, WKh, WKt, ↓reduceIte, Nat.reduceEqDiff, Nat.reduceAdd, Nat.reduceSub, Int.reduceEq, Int.reduceLT, Int.reduceLE, hX]); (try (have hq := Int.not_le.2 hb; revert hq)); (try (have hq := Int.not_lt.2 hb; revert hq)); revert hb; exact a.h)); (focus (intro hb; (try simp only [hb]); (try simp only [WKs] at hb); (try simp only [WKb, WKh, WKt, ↓reduceIte, Nat.reduceEqDiff, Nat.reduceAdd, Nat.reduceSub, Int.reduceEq, Int.reduceLT, Int.reduceLE, hX]); (try (have hq := Int.not_le.2 hb; revert hq)); (try (have hq := Int.not_lt.2 hb; revert hq)); revert hb; exact b.h)))
    | (refine Tr.brK ?_ ?_; exact a.h; exact b.h)) : P := h ⟨a⟩ ⟨b⟩
theorem EntR.famSameN {α : Type} [Inhabited α] {A : α → Asrt} {xs : List α} {k : Nat} {d l l' l2 : List Asrt} (ht : TakeA l (Wk.fam A (xs.eraseIdx k)) l') (h1 : k < xs.length) (h : EntR d l' (A (ix xs (k : Int)) :: l2)) : EntR d l (Wk.fam A xs :: l2) :=
  EntR.famSame (k := (k : Int)) (by rw [Int.toNat_natCast]; exact ht) (by omega) (by omega) h
theorem S.E {d l m : List Asrt} (h : EntR d l m := by
    ((try clear hK) <;> (try simp only [WKe, ↓reduceIte, reduceCtorEq, Int.reduceEq, hX, *]) <;> (repeat (first | with_reducible exact EntR.done | refine S.e ?_ | (refine S.f ?_ <;> (try simp only [WKe, ↓reduceIte, reduceCtorEq, Int.reduceEq, hX, *])) | (refine G.ef ?_; refine EntR.famSameN (by (first | ((repeat (first | with_reducible exact TakeA.here | with_reducible apply TakeA.next)); done) | ((repeat (first | exact TakeA.here | apply TakeA.next)); done))) (by omega) ?_ <;> (try simp only [WKe, ↓reduceIte, reduceCtorEq, Int.reduceEq, hX, *])) | with_reducible apply EntR.ex | refine EntR.drop (F := F) ?_ | refine EntR.drop ?_)) <;> (first | exact SV.mk none 0 0 | exact SL.mk ⟨none, 0, 0⟩ [] | fail))) : EntR d l m := h
theorem S.L {P : Prop} (h : P := by
    first
    | (refine Tr.fin hK ⟨by (first | rfl | (simp [*, hX]; done) | (simp only [WKe, ↓reduceIte, reduceCtorEq, Int.reduceEq, eq_self, hX, *]; done)), rfl⟩ ?_; exact S.E)
    | (apply Tr.fin hK ⟨_, by (first | rfl | (simp [*, hX]; done) | (simp only [WKe, ↓reduceIte, reduceCtorEq, Int.reduceEq, eq_self, hX, *]; done)), rfl⟩; exact S.E)
    | (apply Tr.fin hK ⟨_, _, by (first | rfl | (simp [*, hX]; done) | (simp only [WKe, ↓reduceIte, reduceCtorEq, Int.reduceEq, eq_self, hX, *]; done)), rfl⟩; exact S.E)) : P := h
theorem S.T {l m F : List Asrt} (h : TakeL l m F := by
    (repeat (first | with_reducible exact TakeL.nil | (apply TakeL.cons; focus ((first | exact TakeA.dupS | exact TakeA.dupF | ((repeat (first | with_reducible exact TakeA.here | exact TakeA.fam (by omega) (by omega) | with_reducible apply TakeA.next)); done) | ((repeat (first | exact TakeA.here | apply TakeA.next)); done) | exact TakeA.famNil | exact TakeA.nilS))) | fail)); done) : TakeL l m F := h
theorem S.K {l F : List Asrt} {A : Asrt} (h : TakeA l A F := by
    (first | ((repeat (first | with_reducible exact TakeA.here | with_reducible apply TakeA.next)); done) | ((repeat (first | exact TakeA.here | apply TakeA.next)); done))) : TakeA l A F := h
theorem S.R {α : Type} {slots keep : List Nat} {V : α → List Value} {L : α → List Asrt} {I : α → Prop} {μ : α → Nat} {a : α} {kv : List Value} {e' : Env} {l F : List Asrt} (a' : α)
    (hk : keep.map e' = kv := by simp only [WKb, WKh, WKt, ↓reduceIte, Nat.reduceEqDiff, Nat.reduceAdd, Nat.reduceSub, hX]) (hV : slots.map e' = V a' := by ((try simp only [WKb, WKh, WKt, ↓reduceIte, Nat.reduceEqDiff, Nat.reduceAdd, Nat.reduceSub, hX]); (all_goals ((repeat (refine cons_eq (by first | rfl | ((try clear hK) <;> first | rfl | (simp [*, hX]; done) | (simp [*, hX]; omega) | (simp [*, hX] <;> (try split) <;> simp_all <;> omega))) ?_)); rfl)); done))
    (hI : I a' := by (first | omega | assumption | (simp only []; omega) | (refine ⟨by omega, by assumption⟩) | ((try simp only []); (repeat' (first | omega | assumption | refine And.intro ?_ ?_)); done)))
    (hμ : μ a' < μ a := by (first | omega | (simp only []; omega))) (hL : EntR [] l (L a' ++ F) := by ((try clear hK) <;> (try simp only [WKe, ↓reduceIte, reduceCtorEq, Int.reduceEq, hX, *]) <;> (repeat (first | with_reducible exact EntR.done | refine S.e ?_ | (refine S.f ?_ <;> (try simp only [WKe, ↓reduceIte, reduceCtorEq, Int.reduceEq, hX, *])) | (refine G.ef ?_; refine EntR.famSameN (by (first | ((repeat (first | with_reducible exact TakeA.here | with_reducible apply TakeA.next)); done) | ((repeat (first | exact TakeA.here | apply TakeA.next)); done))) (by omega) ?_ <;> (try simp only [WKe, ↓reduceIte, reduceCtorEq, Int.reduceEq, hX, *])) | with_reducible apply EntR.ex | refine EntR.drop (F := F) ?_ | refine EntR.drop ?_)) <;> (first | exact SV.mk none 0 0 | exact SL.mk ⟨none, 0, 0⟩ [] | fail))) :
    Tr l (againK keep kv slots V I μ L F a e') := Tr.againE a' hk hV hI hμ hL
end Go.Wk
namespace Go.Wk
theorem WKt : True := trivial
end Go.Wk
namespace Go.Wk
open Go
theorem bstr_size {a : List UInt8} : (bstr a).size = a.length := rfl
theorem bstr_append (a b : List UInt8) : bstr a ++ bstr b = bstr (a ++ b) := by
  apply ByteArray.ext
  simp [bstr]
theorem bstr_extract (a : List UInt8) (i j : Nat) : (bstr a).extract i j = bstr ((a.take j).drop i) := by
  apply ByteArray.ext
  apply Array.toList_inj.1
  simp only [ByteArray.data_extract, bstr, Array.toList_extract, List.extract_eq_take_drop, List.drop_take]
def bix (a : List UInt8) (i : Int) : UInt8 := a.getD i.toNat 0
section
variable {P : Program} {l F : List Asrt} {K : Value → WP}
theorem A.sidx {T : Nat} [h : StrT P T] {a : List UInt8} {k : IntKind} {i : Int} (h0 : 0 ≤ i) (hi : i < a.length) (hx : Tr l (K (.int .u8 ((bix a i).toNat : Int)))) : Tr l (GenK P (Instr.index T (.string (bstr a)) (.int k i)) K) := fun w hw => by
  refine ⟨_, ?_, hx w hw⟩
  have hlt : i.toNat < (bstr a).size := by rw [bstr_size]; omega
  have hg : (bstr a)[i.toNat]? = some (bix a i) := by
    rw [getElem?_pos (bstr a) i.toNat hlt]
    have h2 : i.toNat < a.length := by omega
    simp [bix, h2, bstr, ByteArray.getElem_eq_getElem_data]
  simp [Instr.index, asIntOf, run_underlying h.h, h0, hg]
theorem G.sidx {T : Nat} {a : List UInt8} {v : Value} (h : Tr l (GenK P (Instr.index T (.string (bstr a)) v) K)) : Tr l (GenK P (Instr.index T (.string (bstr a)) v) K) := h
theorem A.scut {T : Nat} [h : StrT P T] {a : List UInt8} {k k' : IntKind} {lo hi : Int} (h0 : 0 ≤ lo) (h1 : lo ≤ hi) (h2 : hi ≤ a.length) (hx : Tr l (K (.string (bstr ((a.take hi.toNat).drop lo.toNat))))) :
    Tr l (GenK P (Instr.sliceAt T (.string (bstr a)) (some (.int k lo)) (some (.int k' hi)) none) K) := fun w hw => by
  refine ⟨_, ?_, hx w hw⟩
  simp [Instr.sliceAt, Instr.slice, run_underlying h.h, Instr.sliceBounds, Instr.sliceBound, asIntOf, bstr_size, bstr_extract, h0, show 0 ≤ hi by omega, h2, show lo ≤ max hi 0 by omega]
theorem A.scutF {T : Nat} [h : StrT P T] {a : List UInt8} {k : IntKind} {lo : Int} (h0 : 0 ≤ lo) (h2 : lo ≤ a.length) (hx : Tr l (K (.string (bstr (a.drop lo.toNat))))) :
    Tr l (GenK P (Instr.sliceAt T (.string (bstr a)) (some (.int k lo)) none none) K) := fun w hw => by
  refine ⟨_, ?_, hx w hw⟩
  simp [Instr.sliceAt, Instr.slice, run_underlying h.h, Instr.sliceBounds, Instr.sliceBound, asIntOf, bstr_size, bstr_extract, h0, h2]
theorem A.scutT {T : Nat} [h : StrT P T] {a : List UInt8} {k : IntKind} {hi : Int} (h0 : 0 ≤ hi) (h2 : hi ≤ a.length) (hx : Tr l (K (.string (bstr (a.take hi.toNat))))) :
    Tr l (GenK P (Instr.sliceAt T (.string (bstr a)) none (some (.int k hi)) none) K) := fun w hw => by
  refine ⟨_, ?_, hx w hw⟩
  simp [Instr.sliceAt, Instr.slice, run_underlying h.h, Instr.sliceBounds, Instr.sliceBound, asIntOf, bstr_size, bstr_extract, h0, h2]
theorem G.scut {T : Nat} {a : List UInt8} {x y z : Option Value} (h : Tr l (GenK P (Instr.sliceAt T (.string (bstr a)) x y z) K)) : Tr l (GenK P (Instr.sliceAt T (.string (bstr a)) x y z) K) := h
theorem A.sadd {t : TypeId} {x y : Operand} {a b : List UInt8} (h : a.length + b.length ≤ 9223372036854775807) (hx : Tr l (K (.string (bstr (a ++ b))))) : Tr l (BinK P .add t x y (.string (bstr a)) (.string (bstr b)) K) := fun w hw => by
  refine ⟨_, ?_, hx w hw⟩
  have hm : ((bstr a).size : Int) + ((bstr b).size : Int) ≤ 9223372036854775807 := by
    rw [bstr_size, bstr_size]; omega
  simp [eqGuard, binOp, Op.stringOp, hm, bstr_append]
theorem G.sadd {t : TypeId} {x y : Operand} {a b : List UInt8} (h : Tr l (BinK P .add t x y (.string (bstr a)) (.string (bstr b)) K)) : Tr l (BinK P .add t x y (.string (bstr a)) (.string (bstr b)) K) := h
end
def isAggB (P : Program) (T : Nat) : Bool := match P.underlying T with
  | some (.struct _) | some (.array _ _) => true
  | _ => false
def arrVB (P : Program) (T : Nat) : Option (Nat × Nat × Bool) := match P.underlying T with
  | some (.array n e) => match P.underlying e with
    | some _ => (P.info? e).map fun i => (n, i.size, isAggB P e)
    | none => none
  | _ => none
class ArrV (P : Program) (T : Nat) (n s : outParam Nat) (g : outParam Bool) : Prop where
  h : arrVB P T = some (n, s, g)
theorem arrV_open {P : Program} {T n s : Nat} {g : Bool} (h : arrVB P T = some (n, s, g)) : ∃ e, P.underlying T = some (.array n e) ∧ (∀ w, (sizeOf e).run P w = .ok s w) ∧ ∀ w, (isAgg e).run P w = .ok g w := by
  unfold arrVB at h
  split at h
  · rename_i m e hu
    split at h
    · rename_i d hd
      cases hi : P.info? e with
      | none => rw [hi] at h; cases h
      | some i =>
        rw [hi] at h
        simp only [Option.map_some, Option.some.injEq, Prod.mk.injEq] at h
        obtain ⟨rfl, rfl, rfl⟩ := h
        refine ⟨e, hu, fun w => by simp [sizeOf, typeInfo, hi], fun w => ?_⟩
        unfold isAggB
        cases d <;> simp [isAgg, run_underlying hd, hd]
    · cases h
  · cases h
section
variable {P : Program} {l : List Asrt} {K : Value → WP}
theorem A.aidx {T n s : Nat} [hT : ArrV P T n s false] {cs : List Value} {k : IntKind} {i : Int} {v : Value} (h0 : 0 ≤ i) (hi : i < n) (hv : cs[i.toNat * s]? = some v) (hx : Tr l (K v)) : Tr l (GenK P (Instr.index T (.agg cs.toArray) (.int k i)) K) := fun w hw => by
  obtain ⟨e, hu, hs, ha⟩ := arrV_open hT.h
  refine ⟨_, ?_, hx w hw⟩
  have hs := hs w
  have ha := ha w
  generalize hsz : sizeOf e = sz at hs
  generalize hag : isAgg e = ag at ha
  simp [Instr.index, asIntOf, run_underlying hu, h0, hi, part, hsz, hag, hs, ha, hv]
theorem A.aidxG {T n s : Nat} [hT : ArrV P T n s true] {cs : List Value} {k : IntKind} {i : Int} {v : List Value} (h0 : 0 ≤ i) (hi : i < n) (hv : (cs.take (i.toNat * s + s)).drop (i.toNat * s) = v) (hx : Tr l (K (.agg v.toArray))) : Tr l (GenK P (Instr.index T (.agg cs.toArray) (.int k i)) K) := fun w hw => by
  obtain ⟨e, hu, hs, ha⟩ := arrV_open hT.h
  subst hv
  refine ⟨_, ?_, hx w hw⟩
  have hs := hs w
  have ha := ha w
  generalize hsz : sizeOf e = sz at hs
  generalize hag : isAgg e = ag at ha
  simp [Instr.index, asIntOf, run_underlying hu, h0, hi, part, hsz, hag, hs, ha, List.extract_eq_take_drop, List.drop_take]
theorem G.aidx {T : Nat} {cs : List Value} {v : Value} (h : Tr l (GenK P (Instr.index T (.agg cs.toArray) v) K)) : Tr l (GenK P (Instr.index T (.agg cs.toArray) v) K) := h
theorem flat_part {α : Type} [En α] [Inhabited α] : ∀ (xs : List α) (i : Nat), i < xs.length → ((flat xs).take (i * En.sz α + En.sz α)).drop (i * En.sz α) = En.enc (ix xs (i : Int))
  | [], i, h => by simp at h
  | x :: xs, 0, _ => by
    have hl := En.len x
    have : (flat (x :: xs)).take (En.sz α) = En.enc x := by
      simp only [flat, List.flatMap_cons]
      rw [← hl, List.take_left']; rfl
    rw [Nat.zero_mul, Nat.zero_add, List.drop_zero, this]; rfl
  | x :: xs, i + 1, h => by
    have ih := flat_part xs i (by simpa using h)
    have hl := En.len x
    have e1 : flat (x :: xs) = En.enc x ++ flat xs := by simp [flat]
    rw [e1, show (i + 1) * En.sz α = (En.enc x).length + i * En.sz α by rw [hl, Nat.succ_mul]; omega, Nat.add_assoc, List.take_length_add_append, List.drop_length_add_append, ih]
    rfl
theorem A.aidxE {α : Type} [En α] [Inhabited α] {T n s : Nat} [hT : ArrV P T n s true] {xs : List α} {k : IntKind} {i : Int} (h0 : 0 ≤ i) (hi : i < n) (hn : n = xs.length) (hs : s = En.sz α) (hx : Tr l (K (.agg (En.enc (ix xs i)).toArray))) : Tr l (GenK P (Instr.index T (.agg (flat xs).toArray) (.int k i)) K) := by
  subst hs
  refine A.aidxG h0 hi (flat_part xs i.toNat (by omega)) ?_
  rw [Int.toNat_of_nonneg h0]; exact hx
end
def fldPB (P : Program) (T f : Nat) : Option (Nat × Nat × Bool) := match P.underlying T with
  | some (.struct fs) => match fs[f]? with
    | some fd => match P.underlying fd.type with
      | some _ => (P.info? fd.type).map fun i => (fd.offset, i.size, isAggB P fd.type)
      | none => none
    | none => none
  | _ => none
class FldP (P : Program) (T f : Nat) (off sz : outParam Nat) (g : outParam Bool) : Prop where
  h : fldPB P T f = some (off, sz, g)
theorem fldP_open {P : Program} {T f off sz : Nat} {g : Bool} (h : fldPB P T f = some (off, sz, g)) : ∃ fs fd, P.underlying T = some (.struct fs) ∧ fs[f]? = some fd ∧ fd.offset = off ∧ (∀ w, (sizeOf fd.type).run P w = .ok sz w) ∧ ∀ w, (isAgg fd.type).run P w = .ok g w := by
  unfold fldPB at h
  split at h
  · rename_i fs hu
    split at h
    · rename_i fd hf
      split at h
      · rename_i d hd
        cases hi : P.info? fd.type with
        | none => rw [hi] at h; cases h
        | some i =>
          rw [hi] at h
          simp only [Option.map_some, Option.some.injEq, Prod.mk.injEq] at h
          obtain ⟨rfl, rfl, rfl⟩ := h
          refine ⟨fs, fd, hu, hf, rfl, fun w => by simp [sizeOf, typeInfo, hi], fun w => ?_⟩
          unfold isAggB
          cases d <;> simp [isAgg, run_underlying hd, hd]
      · cases h
    · cases h
  · cases h
section
variable {P : Program} {l : List Asrt} {K : Value → WP}
theorem A.fldv {T f off : Nat} [hT : FldP P T f off 1 false] {cs : List Value} {v : Value} (hv : cs[off]? = some v) (hx : Tr l (K v)) : Tr l (GenK P (Instr.field T (.agg cs.toArray) f) K) := fun w hw => by
  obtain ⟨fs, fd, hu, hf, rfl, hs, ha⟩ := fldP_open hT.h
  refine ⟨_, ?_, hx w hw⟩
  have hs := hs w
  have ha := ha w
  generalize hsz : sizeOf fd.type = sz at hs
  generalize hag : isAgg fd.type = ag at ha
  simp [Instr.field, run_underlying hu, hf, asAgg, part, hag, ha, hv]
theorem A.fldvG {T f off s : Nat} [hT : FldP P T f off s true] {cs v : List Value} (hv : (cs.take (off + s)).drop off = v) (hx : Tr l (K (.agg v.toArray))) : Tr l (GenK P (Instr.field T (.agg cs.toArray) f) K) := fun w hw => by
  obtain ⟨fs, fd, hu, hf, rfl, hs, ha⟩ := fldP_open hT.h
  subst hv
  refine ⟨_, ?_, hx w hw⟩
  have hs := hs w
  have ha := ha w
  generalize hsz : sizeOf fd.type = sz at hs
  generalize hag : isAgg fd.type = ag at ha
  simp [Instr.field, run_underlying hu, hf, asAgg, part, hsz, hag, hs, ha, List.extract_eq_take_drop, List.drop_take]
theorem G.fldv {T f : Nat} {v : Value} (h : Tr l (GenK P (Instr.field T v f) K)) : Tr l (GenK P (Instr.field T v f) K) := h
end
def bldAB (P : Program) (T : Nat) : Option Nat := match P.underlying T with
  | some (.array _ e) => (P.info? e).map (·.size)
  | _ => none
class BuildA (P : Program) (T : Nat) (s : outParam Nat) (z : outParam (List Value)) : Prop where
  h : bldAB P T = some s ∧ zeroB P T = some (.agg z.toArray)
section
variable {P : Program} {l : List Asrt} {K : Value → WP}
theorem A.buildA {T s : Nat} {z cs : List Value} {parts : Array (Nat × Value)} [hT : BuildA P T s z] (h : fillP (fun i => some (i * s, s)) z parts.toList = some cs) (hx : Tr l (K (.agg cs.toArray))) : Tr l (GenK P (Instr.build T parts) K) := fun w hw => by
  refine ⟨_, ?_, hx w hw⟩
  obtain ⟨h1, h2⟩ := hT.h
  unfold bldAB at h1
  split at h1
  · rename_i n e hu
    have hz : (zeroValue T).run P w = .ok (.agg z.toArray) w := by
      unfold zeroB at h2
      cases hi : P.info? T with
      | none => rw [hi] at h2; cases h2
      | some i =>
        rw [hi] at h2
        have hz' : i.zero = some (.agg z.toArray) := h2
        simp [zeroValue, typeInfo, hi, hz']
    have hs : (sizeOf e).run P w = .ok s w := by
      cases hi : P.info? e with
      | none => rw [hi] at h1; cases h1
      | some i => rw [hi] at h1; simp at h1; simp [sizeOf, typeInfo, hi, h1]
    unfold Instr.build
    simp only [Sem.run_bind, hz, Result.andThen_ok, run_underlying hu, Value.cells, hs]
    rw [fillP_eq _ _ _ _ h]
    simp
  · cases h1
theorem G.build {T : Nat} {ps : Array (Nat × Value)} (h : Tr l (GenK P (Instr.build T ps) K)) : Tr l (GenK P (Instr.build T ps) K) := h
end
end Go.Wk
