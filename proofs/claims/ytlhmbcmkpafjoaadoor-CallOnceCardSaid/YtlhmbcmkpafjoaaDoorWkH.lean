/- Methods of values in interfaces; cuts of slices of one's own, an append onto such a cut, clear. -/
import Derived.Test.YtlhmbcmkpafjoaaDoorWkG
namespace Go.Wk
open Go

/-! ### interfaces -/
def conB (P : Program) (T : Nat) : Bool := match P.underlying T with
  | some (.interface _) => false
  | some _ => true
  | none => false
/-- A type that is no interface. -/
class ConT (P : Program) (T : Nat) : Prop where
  h : conB P T = true
instance conT_ptr {P : Program} {T : Nat} [h : PtrT P T] : ConT P T := ⟨by obtain ⟨e, he⟩ := h.h; simp [conB, he]⟩
/-- A pointer type's method, its receiver the pointer itself. -/
def methB (P : Program) (T : Nat) (m : String) : Option Nat := match P.info? T with
  | some i => match i.methods.find? (·.name == m) with
    | some md => match md.path.isEmpty, md.func, P.underlying T with
      | true, some (f, true), some (.pointer _) => some f
      | _, _, _ => none
    | none => none
  | none => none
class MethT (P : Program) (T : Nat) (m : String) (f : outParam Nat) : Prop where
  h : methB P T m = some f
/-- A method's call. -/
def InvK (P : Program) (r : Value) (m : String) (args : Array Value) (K : Value → WP) : WP := fun w => upon P K ((callMethod r m args).run P w)
theorem opX_inv {P : Program} {r : Operand} {m : String} {as : Array Operand} {ts : Array TypeId} {ty : TypeId} {e : Env} {K : Value → WP} : opX P (.call ⟨.invoke r m, as, ts⟩) ty e K = InvK P (ev e r) m (as.map (ev e)) K := by
  funext w
  show opR P _ ty e K w = _
  rw [opR_eff rfl]
  unfold effR InvK
  have h0 : (#[ev e r] ++ as.map (ev e))[0]? = some (ev e r) := by rw [← Array.getElem?_toList]; simp
  have h1 : (#[ev e r] ++ as.map (ev e)).extract 1 (#[ev e r] ++ as.map (ev e)).size = as.map (ev e) := by
    apply Array.toList_inj.1
    simp [List.take_of_length_le]
  simp only [execOp, oper, resolve, invoke, Sem.run_bind, Sem.run_pure, Result.andThen_ok, h0, h1]
section
variable {P : Program} {l F : List Asrt} {K : Value → WP}
theorem InvK_ptr {T : Nat} {m : String} {f : Nat} [hm : MethT P T m f] [hf : IsFn P f] {v : Value} {args : Array Value} : InvK P (.iface T v) m args K = CallK P f (#[v] ++ args) K := by
  funext w
  have h := hm.h
  unfold methB at h
  split at h
  · rename_i i hi
    split at h
    · rename_i md hmd
      split at h
      · rename_i h1 h2 h3
        cases h
        have hrun : (callMethod (.iface T v) m args).run P w = .ok (.enter f (#[v] ++ args)) w := by
          have hmeth : ∀ n, (method (n + 1) T v m).run P w = .ok (f, v) w := fun n => by
            simp [method, typeInfo, hi, hmd, follow, (List.isEmpty_iff.1 (by simpa using h1) : md.path.toList = []), h2, receiverAt, run_underlying h3, Place.get]
          have hpos : 0 < Made.depth := by decide
          obtain ⟨n, hn⟩ : ∃ n, P.types.size + Made.depth = n + 1 := ⟨P.types.size + Made.depth - 1, by omega⟩
          simp only [callMethod, Sem.run_bind]
          have hp : (program).run P w = .ok P w := by simp [program, Sem.run]
          rw [hp]
          simp only [Result.andThen_ok, hn, hmeth n, run_callFunc hf.h]
        unfold InvK
        rw [hrun]
        rfl
      · cases h
    · cases h
  · cases h
theorem G.inv {r : Value} {m : String} {args : Array Value} (h : Tr l (InvK P r m args K)) : Tr l (InvK P r m args K) := h
theorem mkIface {T : Nat} [h : ConT P T] {v : Value} : GenK P (Instr.makeInterface T v) K = K (.iface T v) := by
  refine GenK_of (fun w => ?_) K
  have h := h.h
  unfold conB at h
  cases hu : P.underlying T with
  | none => rw [hu] at h; cases h
  | some d => rw [hu] at h; cases d <;> simp_all [Instr.makeInterface, run_underlying hu]
theorem tyAssert {X T A : Nat} {z v : Value} [h : ConT P A] [hz : Zer P A z] : GenK P (Instr.typeAssert (.iface T v) X A true) K = K (if T = A then .tuple #[v, .bool true] else .tuple #[z, .bool false]) := by
  refine GenK_of (fun w => ?_) K
  have h := h.h
  have hz' : (zeroValue A).run P w = .ok z w := by
    have hz := hz.h
    unfold zeroB at hz
    cases hi : P.info? A with
    | none => rw [hi] at hz; cases hz
    | some i =>
      rw [hi] at hz
      have hz' : i.zero = some z := hz
      simp [zeroValue, typeInfo, hi, hz']
  unfold conB at h
  cases hu : P.underlying A with
  | none => rw [hu] at h; cases h
  | some d => rw [hu] at h; cases d <;> (by_cases ht : T = A <;> simp_all [Instr.typeAssert, run_underlying hu])
end

/-! ### cuts of one's own -/
def cutV (sz : Nat) (v : Value) (lo hi : Nat) : Value := match v with
  | .slice a _ c => .slice (if c = lo then a else a.map (·.add (lo * sz))) (hi - lo) (c - lo)
  | v => v
section
variable {P : Program} {α : Type} [iE : En α] {v : Value} {xs : List α} {l F : List Asrt} {ro : Bool} {K : Value → WP}
theorem sl_cap (hs : Has l (sl ro v xs)) {w : World} (hw : Sat w l) : ∃ a c, v = .slice a xs.length c ∧ xs.length ≤ c := by
  obtain ⟨R, S, h⟩ := hs.sat hw
  rcases sl_cases h with ⟨hn, rfl⟩ | ⟨b, off, cap, cs, T0, fr, rfl, h2, _⟩
  · obtain ⟨a, rfl⟩ := hn.slice
    exact ⟨a, 0, rfl, Nat.le_refl _⟩
  · exact ⟨_, _, rfl, h2⟩
theorem run_cut {T : Nat} [hT : Slc P T (En.sz α)] {lo hi : Option Value} {a : Option Addr} {n c m h : Nat} {w : World} (hb : (Instr.sliceBounds true n c lo hi none).run P w = .ok (m, h, c) w) :
    (Instr.sliceAt T (.slice a n c) lo hi none).run P w = .ok (cutV (En.sz α) (.slice a n c) m h) w := by
  obtain ⟨e, inf, hu, hin, hsz⟩ := und_slc hT.h
  have hsize : (sizeOf e).run P w = .ok (En.sz α) w := by simp [sizeOf, typeInfo, hin, hsz]
  simp [Instr.sliceAt, Instr.slice, run_underlying hu, hb, hsize, cutV]
theorem A.ccTo {T n : Nat} {hi : Int} {k : IntKind} [Slc P T n] [hs : HasS l v ro α iE xs] (hne : n = En.sz α) (h0 : 0 ≤ hi) (h1 : hi ≤ xs.length) (hx : Tr l (K (cutV (En.sz α) v 0 hi.toNat))) :
    Tr l (GenK P (Instr.sliceAt T v none (some (.int k hi)) none) K) := fun w hw => by
  subst hne
  obtain ⟨a, c, rfl, hc⟩ := sl_cap hs.h hw
  exact ⟨_, run_cut (by simp [Instr.sliceBounds, Instr.sliceBound, asIntOf, h0, show hi ≤ (c : Int) by omega]), hx w hw⟩
theorem A.ccFrom {T n : Nat} {lo : Int} {k : IntKind} [Slc P T n] [hs : HasS l v ro α iE xs] (hne : n = En.sz α) (h0 : 0 ≤ lo) (h1 : lo ≤ xs.length) (hx : Tr l (K (cutV (En.sz α) v lo.toNat xs.length))) :
    Tr l (GenK P (Instr.sliceAt T v (some (.int k lo)) none none) K) := fun w hw => by
  subst hne
  obtain ⟨a, c, rfl, hc⟩ := sl_cap hs.h hw
  exact ⟨_, run_cut (by simp [Instr.sliceBounds, Instr.sliceBound, asIntOf, h0, h1]), hx w hw⟩
theorem A.cc3 {T n : Nat} {lo hi mx : Int} {k k' k2 : IntKind} [Slc P T n] [hs : HasS l v ro α iE xs] (hne : n = En.sz α) (h0 : 0 ≤ lo) (h1 : lo ≤ hi) (h2 : hi ≤ mx) (h3 : mx ≤ xs.length) (hx : ∀ u, Tr l (K u)) :
    Tr l (GenK P (Instr.sliceAt T v (some (.int k lo)) (some (.int k' hi)) (some (.int k2 mx))) K) := fun w hw => by
  subst hne
  obtain ⟨a, c, rfl, hc⟩ := sl_cap hs.h hw
  obtain ⟨e, inf, hu, hin, hsz⟩ := und_slc (P := P) (T := T) (n := En.sz α) (by rename_i i; exact i.h)
  have hsize : (sizeOf e).run P w = .ok (En.sz α) w := by simp [sizeOf, typeInfo, hin, hsz]
  suffices h : ∃ u, (Instr.sliceAt T (.slice a xs.length c) (some (.int k lo)) (some (.int k' hi)) (some (.int k2 mx))).run P w = .ok u w from h.elim fun u h => ⟨u, h, hx u w hw⟩
  simp [Instr.sliceAt, Instr.slice, run_underlying hu, Instr.sliceBounds, Instr.sliceBound, asIntOf, hsize, h0, show lo ≤ max hi 0 by omega, show 0 ≤ hi by omega, show hi ≤ max mx 0 by omega, show 0 ≤ mx by omega, show mx ≤ (c : Int) by omega]

theorem flat_split (i : Nat) (xs : List α) : flat xs = flat (xs.take i) ++ flat (xs.drop i) := by rw [← flat_append, List.take_append_drop]
theorem setL_cut {off : Nat} {N : Nat} : ∀ (vs cs : List Value) (k : Nat), k + vs.length ≤ N → ((setL cs (off + k) vs).drop off).take N = setL ((cs.drop off).take N) k vs
  | [], _, _, _ => rfl
  | a :: as, cs, k, hk => by
    simp only [List.length_cons] at hk
    simp only [setL]
    rw [show off + k + 1 = off + (k + 1) by omega, setL_cut as _ _ (by omega), List.drop_set, if_neg (by omega), show off + k - off = k by omega, List.take_set]
theorem setL_flat {i : Nat} {xs ys : List α} (h : i + ys.length ≤ xs.length) : setL (flat xs) (i * En.sz α) (flat ys) = flat (xs.take i ++ ys ++ xs.drop (i + ys.length)) := by
  have hp : (flat (xs.take i)).length = i * En.sz α := by rw [flat_length, List.length_take]; congr 1; omega
  have hd : (flat (xs.drop i)).drop (flat ys).length = flat (xs.drop (i + ys.length)) := by
    rw [flat_split ys.length (xs.drop i), List.drop_drop]
    have : (flat ((xs.drop i).take ys.length)).length = (flat ys).length := by rw [flat_length, flat_length, List.length_take, List.length_drop]; congr 1; omega
    rw [← this, List.drop_left']
    rfl
  have := setL_append (flat (xs.take i)) (flat (xs.drop i)) (flat ys) (by rw [flat_length, flat_length, List.length_drop]; exact Nat.mul_le_mul_right _ (by omega))
  rw [← flat_split, hp, hd] at this
  rw [this, flat_append, flat_append, List.append_assoc]
theorem sl_mk {R S : Blks} {w : World} {b off cap n : Nat} {cs : List Value} {T : Nat} {fr : Nat × Nat} (hR : R b) (hn : xs.length = n) (h1 : n ≤ cap) (h2 : n ≤ 9223372036854775807) (hg : w.heap[b]? = some (.cells cs.toArray T fr)) (hf : (cs.drop off).take (n * En.sz α) = flat xs) :
    (sl true (.slice (some ⟨b, off, none⟩) n cap) xs).h R S w := by
  subst hn
  exact .inr ⟨b, off, cap, cs, T, fr, rfl, ⟨h1, h2⟩, by rw [if_pos rfl]; exact hR, hg, hf⟩
theorem le_bound {a b : Nat} (h : b ≤ 9223372036854775807) (h2 : a ≤ b) : a ≤ 9223372036854775807 := Nat.le_trans h2 h
theorem run_append_room {T T2 ty e e2 sz : Nat} {a : Addr} {n c m : Nat} {x : Value} {vs : List Value} {w w' : World} (hu : P.underlying T = some (.slice e)) (hu2 : P.underlying T2 = some (.slice e2)) (hsize : ∀ w, (sizeOf e).run P w = .ok sz w)
    (hxl : (Builtin.lenOf x).run P w = .ok m w) (hroom : n + m ≤ c) (hx : (Builtin.firstCells sz m x).run P w = .ok vs.toArray w) (hst : (storeCells (a.add (n * sz)) vs 0).run P w = .ok () w') :
    (Builtin.append_ #[T, T2] ty #[.slice (some a) n c, x]).run P w = .ok (.slice (some a) (n + m) c) w' := by
  simp only [Builtin.append_, Sem.run_bind, List.getElem?_toArray, List.getElem?_cons_zero, List.getElem?_cons_succ, run_underlying hu, Result.andThen_ok, hsize, run_underlying hu2, Sem.run_pure, Bool.false_eq_true, if_false, hxl, hroom, if_true, Bool.not_false, hx]
  simp [hst]
theorem A.lenCut {T ty n lo hi : Nat} [Slc P T n] [hs : HasS l v ro α iE xs] (hx : Tr l (K (.int .i64 ((hi - lo : Nat) : Int)))) : Tr l (GenK P (Builtin.len_ #[T] ty #[cutV (En.sz α) v lo hi]) K) := fun w hw => by
  rename_i hT
  obtain ⟨e, i, hu, _, _⟩ := und_slc hT.h
  obtain ⟨a, c, rfl, _⟩ := sl_cap hs.h hw
  refine ⟨_, ?_, hx w hw⟩
  simp [Builtin.len_, run_underlying hu, cutV, goInt]
theorem A.ccCut {T n m : Nat} {lo hi : Int} {k k' : IntKind} [Slc P T n] [hs : HasS l v ro α iE xs] (hne : n = En.sz α) (h0 : 0 ≤ lo) (h1 : lo ≤ hi) (h2 : hi ≤ xs.length) (hx : Tr l (K (cutV (En.sz α) v lo.toNat hi.toNat))) :
    Tr l (GenK P (Instr.sliceAt T (cutV (En.sz α) v 0 m) (some (.int k lo)) (some (.int k' hi)) none) K) := fun w hw => by
  subst hne
  obtain ⟨a, c, rfl, hc⟩ := sl_cap hs.h hw
  have e : cutV (En.sz α) (.slice a xs.length c) 0 m = .slice a m c := by cases a <;> simp [cutV, Addr.add]
  have e2 : cutV (En.sz α) (.slice a m c) lo.toNat hi.toNat = cutV (En.sz α) (.slice a xs.length c) lo.toNat hi.toNat := rfl
  rw [e]
  exact ⟨_, run_cut (m := lo.toNat) (h := hi.toNat) (by simp [Instr.sliceBounds, Instr.sliceBound, asIntOf, h0, show 0 ≤ hi by omega, show hi ≤ (c : Int) by omega, show lo ≤ max hi 0 by omega]), by rw [e2]; exact hx w hw⟩
theorem G.clr {ts : Array Nat} {ty : Nat} {as : Array Value} (h : Tr l (EGenK P (Builtin.clear_ ts ty as) K)) : Tr l (EGenK P (Builtin.clear_ ts ty as) K) := h
theorem Tr.slNil {s : SV} {X : WP} [hs : HasS l s.v ro α iE xs] (h : s.a.isNone = true) (hx : xs = [] → Tr l X) : Tr l X := fun w hw => hx (by
  obtain ⟨R, S, hA⟩ := hs.h.sat hw
  rcases sl_cases hA with ⟨_, rfl⟩ | ⟨b, off, cap, cs, T0, fr, he, _⟩
  · rfl
  · obtain ⟨a, n, c⟩ := s
    simp only [SV.v, Value.slice.injEq] at he
    rw [he.1] at h
    cases h) w hw
/-- What lies behind j is put behind i. -/
theorem A.appCut {T T2 ty e bytes : Nat} {z : List Value} [hT : SlcT P T e bytes (En.sz α) z] [hT2 : Slc P T2 (En.sz α)] {i j n : Nat} [ht : TkS l v α iE xs F] (hij : i < j) (hjn : j ≤ n) (hn : n = xs.length)
    (hk : Tr (sl false v (xs.take i ++ xs.drop j ++ xs.drop (i + (n - j))) :: F) (K (cutV (En.sz α) v 0 (i + (n - j))))) :
    Tr l (EGenK P (Builtin.append_ #[T, T2] ty #[cutV (En.sz α) v 0 i, cutV (En.sz α) v j n]) K) := fun w hw0 => by
  subst hn
  have hw := Imp.sat ht.h hw0
  obtain ⟨hu, inf, hin, hsz, hby, hzz⟩ := hT.h
  obtain ⟨e2, inf2, hu2, hin2, hsz2⟩ := und_slc hT2.h
  have hsize : ∀ w, (sizeOf e).run P w = .ok (En.sz α) w := fun w => by simp [sizeOf, typeInfo, hin, hsz]
  rcases sl_open hw with ⟨_, rfl, _⟩ | ⟨b, off, cap, cs, T', rfl, e3, e5, e7, hwb⟩
  · simp at hjn; omega
  · have hget := hwb.get
    have hd : (xs.drop j).length = xs.length - j := List.length_drop
    have hfl : (flat (xs.drop j)).length = (xs.length - j) * En.sz α := by rw [flat_length, hd]
    have hm1 : (i + (xs.length - j)) * En.sz α ≤ xs.length * En.sz α := Nat.mul_le_mul_right _ (by omega)
    have hm2 : xs.length * En.sz α ≤ cap * En.sz α := Nat.mul_le_mul_right _ e3.1
    have hm3 : (i + (xs.length - j)) * En.sz α = i * En.sz α + (xs.length - j) * En.sz α := Nat.add_mul _ _ _
    have hm4 : xs.length * En.sz α = j * En.sz α + (xs.length - j) * En.sz α := by rw [← Nat.add_mul]; congr 1; omega
    have hx : (Builtin.firstCells (En.sz α) (xs.length - j) (cutV (En.sz α) (.slice (some ⟨b, off, none⟩) xs.length cap) j xs.length)).run P w = .ok (flat (xs.drop j)).toArray w := by
      by_cases hc : cap = j
      · have : xs.length = j := by omega
        have h0 : xs.drop j = [] := List.eq_nil_of_length_eq_zero (by omega)
        simp only [cutV, hc, this, Nat.sub_self, if_true, h0]
        simp [Builtin.firstCells, flat, loadCells, loadCellsFrom]
      · have hf : (cs.drop (off + j * En.sz α)).take ((xs.length - j) * En.sz α) = flat (xs.drop j) := by
          have : (cs.drop (off + j * En.sz α)).take ((xs.length - j) * En.sz α) = ((cs.drop off).take (xs.length * En.sz α)).drop (j * En.sz α) := by
            rw [List.drop_take, List.drop_drop]; congr 1; omega
          rw [this, e7, flat_split j xs]
          have hl : (flat (xs.take j)).length = j * En.sz α := by rw [flat_length, List.length_take]; congr 1; omega
          rw [← hl, List.drop_left']; rfl
        have hh := sl_mk (xs := xs.drop j) (R := fun x => x = b) (S := fun _ => False) (cap := cap - j) rfl hd (by omega) (le_bound e3.2 (by omega)) hget hf
        have := cells_sl (P := P) hh
        rw [hd] at this
        simp only [cutV, if_neg hc, Option.map_some, add_mk]
        exact this
    obtain ⟨w', hr, hs⟩ := run_storeCells (P := P) (T := T') (flat (xs.drop j)) cs b (off + i * En.sz α) 0 (blk b (.cells cs.toArray T' (0, 0)) :: F) _ w
      (fun u hu => by have := flat_one (xs.drop j); rw [List.all_eq_true] at this; exact this u hu) (by omega) hwb Upd.here
    have hv0 : ∀ k, cutV (En.sz α) (.slice (some ⟨b, off, none⟩) xs.length cap) 0 k = .slice (some ⟨b, off, none⟩) k cap := fun k => by simp [cutV, add_mk]
    rw [hv0] at hk ⊢
    refine ⟨_, w', ?_, hk w' ?_⟩
    · have hroom : i + (xs.length - j) ≤ cap := by omega
      have hxl : (Builtin.lenOf (cutV (En.sz α) (.slice (some ⟨b, off, none⟩) xs.length cap) j xs.length)).run P w = .ok (xs.length - j) w := by simp [Builtin.lenOf, cutV]
      exact run_append_room hu hu2 hsize hxl hroom hx (by rw [add_mk]; exact hr)
    · rw [Nat.add_zero] at hs
      have hlen : (xs.take i ++ xs.drop j ++ xs.drop (i + (xs.length - j))).length = xs.length := by simp; omega
      refine sl_close (b := b) (off := off) (cap := cap) (by rw [hlen]) ⟨by rw [hlen]; exact e3.1, by rw [hlen]; exact e3.2⟩ (by rw [setL_length]; exact e5) ?_ hs
      rw [hlen, setL_cut _ _ _ (by omega), e7]
      have := setL_flat (i := i) (xs := xs) (ys := xs.drop j) (by omega)
      rw [hd] at this
      exact this
theorem A.clear {T ty e bytes : Nat} {z : List Value} {dv : α} [hT : SlcT P T e bytes (En.sz α) z] {i n : Nat} [ht : TkS l v α iE xs F] (hz : z = En.enc dv) (hin : i ≤ n) (hn : n = xs.length)
    (hk : Tr (sl false v (xs.take i ++ List.replicate (n - i) dv) :: F) (K (.tuple #[]))) : Tr l (EGenK P (Builtin.clear_ #[T] ty #[cutV (En.sz α) v i n]) K) := fun w hw0 => by
  subst hn
  have hw := Imp.sat ht.h hw0
  obtain ⟨hu, inf, hinf, hsz, hby, hzz⟩ := hT.h
  obtain ⟨z0, hz0, hz1⟩ : ∃ z0, inf.zero = some z0 ∧ z0.cells = z.toArray := by
    cases h : inf.zero with
    | none => rw [h] at hzz; cases hzz
    | some z0 => rw [h] at hzz; exact ⟨z0, rfl, by simpa using hzz⟩
  have hzv : ∀ w, (zeroValue e).run P w = .ok z0 w := fun w => by simp [zeroValue, typeInfo, hinf, hz0]
  by_cases hl : i = xs.length
  · refine ⟨.tuple #[], w, ?_, hk w ?_⟩
    · obtain ⟨a, c, rfl, hc⟩ := sl_cap (l := sl false v xs :: F) Has.here hw
      subst hl
      cases a <;> simp [Builtin.clear_, run_underlying hu, cutV] <;> (try split) <;> simp_all
    · rw [hl, List.take_length, Nat.sub_self, List.replicate_zero, List.append_nil]; exact hw
  · rcases sl_open hw with ⟨_, rfl, _⟩ | ⟨b, off, cap, cs, T', rfl, e3, e5, e7, hwb⟩
    · simp at hin hl; omega
    · have hm1 : xs.length * En.sz α = i * En.sz α + (xs.length - i) * En.sz α := by rw [← Nat.add_mul]; congr 1; omega
      have hm2 : xs.length * En.sz α ≤ cap * En.sz α := Nat.mul_le_mul_right _ e3.1
      have hrep : ∀ m, (Builtin.zeroCells z0.cells m).toList = flat (List.replicate m dv) := fun m => by
        have := range_zero (α := α) z0.cells dv (by rw [hz1, hz]) m
        have hzs : z0.cells.size = En.sz α := by rw [hz1, hz]; simp [En.len]
        unfold Builtin.zeroCells
        rw [hzs] at this ⊢
        rw [this]
      have hfl : (flat (List.replicate (xs.length - i) dv)).length = (xs.length - i) * En.sz α := by rw [flat_length, List.length_replicate]
      obtain ⟨w', hr, hs⟩ := run_storeCells (P := P) (T := T') (flat (List.replicate (xs.length - i) dv)) cs b (off + i * En.sz α) 0 (blk b (.cells cs.toArray T' (0, 0)) :: F) _ w
        (fun u hu => by have := flat_one (List.replicate (xs.length - i) dv); rw [List.all_eq_true] at this; exact this u hu) (by omega) hwb Upd.here
      refine ⟨.tuple #[], w', ?_, hk w' ?_⟩
      · have hc : ¬ cap = i := by omega
        obtain ⟨m, hm⟩ : ∃ m, xs.length - i = m + 1 := ⟨xs.length - i - 1, by omega⟩
        have hrep' := hrep (xs.length - i)
        simp only [cutV, if_neg hc, Option.map_some, add_mk]
        rw [hm] at hr hrep' ⊢
        simp [Builtin.clear_, run_underlying hu, hzv, hrep', hr]
      · rw [Nat.add_zero] at hs
        have hlen : (xs.take i ++ List.replicate (xs.length - i) dv).length = xs.length := by simp; omega
        refine sl_close (b := b) (off := off) (cap := cap) (by rw [hlen]) ⟨by rw [hlen]; exact e3.1, by rw [hlen]; exact e3.2⟩ (by rw [setL_length]; exact e5) ?_ hs
        rw [hlen, setL_cut _ _ _ (by omega), e7]
        have := setL_flat (i := i) (xs := xs) (ys := List.replicate (xs.length - i) dv) (by simp; omega)
        rw [this, List.length_replicate, show i + (xs.length - i) = xs.length by omega, List.drop_length, List.append_nil]
/-- A cut of one's own becomes the slice. -/
theorem Tr.short {X : WP} {m : Nat} (ht : TakeA l (sl false v xs) F) (hm : m ≤ xs.length) (hk : ∀ s : SV, s.v = cutV (En.sz α) v 0 m → Tr (sl false s.v (xs.take m) :: F) X) : Tr l X := fun w hw0 => by
  have hw := Imp.sat ht hw0
  rcases sl_open hw with ⟨rfl, rfl, hwF⟩ | ⟨b, off, cap, cs, T', rfl, e3, e5, e7, hwb⟩
  · simp at hm
    subst hm
    exact hk ⟨none, 0, 0⟩ (by simp [cutV, SV.v]) w (by show Sat w (sl false (.slice none 0 0) (List.take 0 ([] : List α)) :: F); simpa using sl_nil (α := α) hwF)
  · have hlen : (xs.take m).length = m := by rw [List.length_take]; omega
    refine hk ⟨some ⟨b, off, none⟩, m, cap⟩ (by simp [cutV, SV.v, add_mk]) w (sl_close (b := b) (off := off) (cap := cap) (by rw [hlen]; rfl) ⟨by omega, by omega⟩ e5 ?_ hwb)
    have : (cs.drop off).take (m * En.sz α) = ((cs.drop off).take (xs.length * En.sz α)).take (m * En.sz α) := by
      rw [List.take_take, Nat.min_eq_left (Nat.mul_le_mul_right _ hm)]
    rw [hlen, this, e7, flat_split m xs]
    have hl : (flat (xs.take m)).length = m * En.sz α := by rw [flat_length, hlen]
    rw [← hl, List.take_left']; rfl
theorem A.build1R {T e bytes : Nat} [_hE : ElT T (SL α)] [Fz α] {z : List Value} {s : SV} [hT : SlcT P T e bytes 1 z] [_hs : HasS l s.v true α iE xs] (hz : z = [.slice none 0 0])
    (hk : ∀ s' : SV, Tr (sl false s'.v [SL.mk s xs] :: l) (K s'.v)) : Tr l (EGenK P (Instr.buildSlice T 1 [(0, s.v)].toArray) K) :=
  Tr.build1 (β := SL α) (SL.mk s xs) hz rfl (by show 1 ≤ 16777216; decide) hk
theorem A.build1P {T e bytes b : Nat} [_hE : ElT T Pt] {z : List Value} [hT : SlcT P T e bytes 1 z] (hz : z = [.pointer none])
    (hk : ∀ s' : SV, Tr (sl false s'.v [Pt.mk (some b)] :: l) (K s'.v)) : Tr l (EGenK P (Instr.buildSlice T 1 [(0, .pointer (some ⟨b, 0, none⟩))].toArray) K) :=
  Tr.build1 (β := Pt) ⟨some b⟩ hz rfl (by show 1 ≤ 16777216; decide) hk
theorem max_int {ty T : Nat} {k k' : IntKind} {a b : Int} : GenK P (Builtin.max_ #[T, T] ty #[.int k a, .int k' b]) K = K (.int k (if a < b then b else a)) := by
  refine GenK_of (fun w => ?_) K
  simp [Builtin.max_, Builtin.max2]
theorem A.mks {T e bytes : Nat} {β : Type} [_hE : ElT T β] [En β] [Inhabited β] {z : List Value} [hT : SlcT P T e bytes (En.sz β) z] {n : Int} {k1 k2 : IntKind} (hz : z = En.enc (default : β)) (h0 : 0 ≤ n) (h1 : n ≤ 9223372036854775807) (hn : bytes * n ≤ 281474976710656)
    (hk : ∀ s : SV, Tr (sl false s.v (List.replicate n.toNat (default : β)) :: l) (K s.v)) : Tr l (EGenK P (Instr.makeSlice T (.int k1 n) (.int k2 n)) K) := Tr.makeSlice hz h0 h1 hn hk
theorem A.cut {T n : Nat} {lo hi : Int} {k1 k2 : IntKind} [hT : Slc P T n] [hs : HasS l v true α iE xs] (hne : n = En.sz α) (h0 : 0 ≤ lo) (h1 : lo ≤ hi) (h2 : hi ≤ xs.length)
    (hx : ∀ s : SV, Tr (sl true s.v ((xs.take hi.toNat).drop lo.toNat) :: l) (K s.v)) : Tr l (GenK P (Instr.sliceAt T v (some (.int k1 lo)) (some (.int k2 hi)) none) K) := by
  subst hne; exact Tr.cut hs.h h0 h1 h2 hx
theorem A.cutFrom {T n : Nat} {lo : Int} {k1 : IntKind} [hT : Slc P T n] [hs : HasS l v true α iE xs] (hne : n = En.sz α) (h0 : 0 ≤ lo) (h1 : lo ≤ xs.length)
    (hx : ∀ s : SV, Tr (sl true s.v (xs.drop lo.toNat) :: l) (K s.v)) : Tr l (GenK P (Instr.sliceAt T v (some (.int k1 lo)) none none) K) := fun w hw => by
  subst hne
  obtain ⟨e, inf, hu, hin, hsz⟩ := und_slc hT.h
  have key : (Instr.sliceAt T v (some (.int k1 lo)) none none).run P w = (Instr.sliceAt T v (some (.int k1 lo)) (some (.int .i64 xs.length)) none).run P w := by
    obtain ⟨a, c, rfl, hc⟩ := sl_cap hs.h hw
    have h3 : (xs.length : Int) ≤ c := by omega
    simp [Instr.sliceAt, run_underlying hu, Instr.slice, Instr.sliceBounds, Instr.sliceBound, asIntOf, hc]
  obtain ⟨v', hr, hk⟩ := Tr.cut (P := P) (T := T) (lo := lo) (hi := xs.length) (k1 := k1) (k2 := .i64) (K := K) hs.h h0 h1 (by omega) (fun s => by simpa using hx s) w hw
  exact ⟨v', by rw [key]; exact hr, hk⟩
end
end Go.Wk
