import Derived.Test.YtacmaamllpiloaaGreatZ06
import Derived.Test.YtacmaamllpiloaaGreatWk2
import Derived.RangeFuncRecord
namespace Go.Wk
open Go
theorem setL_pre : ∀ (vs a c : List Value) (off : Nat), setL (a ++ c) (a.length + off) vs = a ++ setL c off vs
  | [], _, _, _ => rfl
  | u :: us, a, c, off => by
    simp only [setL]
    rw [List.set_append_right _ _ (by omega), show a.length + off - a.length = off by omega, show a.length + off + 1 = a.length + (off + 1) by omega, setL_pre us]
theorem setL_suf : ∀ (vs a c : List Value) (off : Nat), off + vs.length ≤ a.length → setL (a ++ c) off vs = setL a off vs ++ c
  | [], _, _, _, _ => rfl
  | u :: us, a, c, off, h => by
    simp only [List.length_cons] at h
    simp only [setL]
    rw [List.set_append_left _ _ (by omega), setL_suf us _ _ _ (by rw [List.length_set]; omega)]
theorem flat_setF {α : Type} [En α] {j : Nat} {vs : List Value} {x : α} (hj : j + vs.length ≤ En.sz α) : ∀ (xs : List α) (i : Nat) (y : α), xs[i]? = some y → setL (En.enc y) j vs = En.enc x → setL (flat xs) (i * En.sz α + j) vs = flat (xs.set i x)
  | [], _, _, h, _ => by cases h
  | y :: xs, 0, z, h, he => by
    simp only [List.getElem?_cons_zero, Option.some.injEq] at h
    subst h
    simp only [Nat.zero_mul, Nat.zero_add, List.set_cons_zero, flat, List.flatMap_cons]
    rw [setL_suf _ _ _ _ (by rw [En.len]; exact hj), he]
  | y :: xs, i + 1, z, h, he => by
    have ih := flat_setF hj xs i z (by simpa using h) he
    have e : (i + 1) * En.sz α + j = (En.enc y).length + (i * En.sz α + j) := by rw [En.len, Nat.succ_mul]; omega
    simp only [List.set_cons_succ]
    simp only [flat, List.flatMap_cons] at ih ⊢
    rw [e, setL_pre, ih]
section
variable {P : Program} {α : Type} [iE : En α] {v u : Value} {xs : List α} {l F : List Asrt} {K : Value → WP}
theorem Tr.storeEf {T n i j : Nat} {vs : List Value} {x y : α} [hT0 : Siz P T n] (hy : xs[i]? = some y) (hu : u.cells = vs.toArray) (hn : vs.length = n) (h1 : vs.all Value.oneCell' = true) (hj : j + n ≤ En.sz α) (he : setL (En.enc y) j vs = En.enc x)
    (ht : TakeA l (sl false v xs) F) (hx : Tr (sl false v (xs.set i x) :: F) (K undef)) : Tr l (EUnitK P (Instr.storeAt T (.pointer (some ⟨(sb v).block, (sb v).off + i * En.sz α + j, none⟩)) u) K) := fun w hw0 => by
  have hw := Imp.sat ht hw0
  have hi : i < xs.length := (List.getElem?_eq_some_iff.1 hy).1
  rcases sl_open hw with ⟨rfl, rfl, hwF⟩ | ⟨b, off, cap, cs, T', rfl, e3, e5, e7, hwb⟩
  · simp at hi
  · have hle : (i + 1) * En.sz α ≤ xs.length * En.sz α := Nat.mul_le_mul_right _ hi
    have hle2 : xs.length * En.sz α ≤ cap * En.sz α := Nat.mul_le_mul_right _ e3.1
    rw [Nat.succ_mul] at hle
    subst hn
    refine Tr.store (P := P) (T := T) (T' := T') (n := vs.length) (b := b) (off := off + i * En.sz α + j) (cs := cs) (v := u) (vs := vs) (K := K) hu rfl h1 (Upd.here (l := F)) (by omega) ?_ w hwb
    intro w' hw'
    refine hx w' ?_
    refine sl_close (b := b) (off := off) (cap := cap) (cs := setL cs (off + i * En.sz α + j) vs) (T := T') (by simp) (by simpa using e3) (by rw [setL_length]; exact e5) ?_ hw'
    rw [List.length_set, ← flat_setF (by omega) xs i y hy he, ← e7]
    have key : ∀ (vs cs : List Value) (k : Nat), k + vs.length ≤ xs.length * En.sz α → ((setL cs (off + k) vs).drop off).take (xs.length * En.sz α) = setL ((cs.drop off).take (xs.length * En.sz α)) k vs := by
      intro vs
      induction vs with
      | nil => intros; rfl
      | cons a as ih =>
        intro cs k hk
        simp only [List.length_cons] at hk
        simp only [setL]
        rw [show off + k + 1 = off + (k + 1) by omega, ih _ _ (by omega), List.drop_set, if_neg (by omega), show off + k - off = k by omega, List.take_set]
    rw [Nat.add_assoc]
    exact key _ _ _ (by omega)
theorem A.stF {T n i j : Nat} {vs : List Value} {y : α} (x : α) [Siz P T n] [hs : TkS l v α iE xs F] (hy : xs[i]? = some y) (hu : u.cells = vs.toArray) (hn : vs.length = n) (h1 : vs.all Value.oneCell' = true) (hj : j + n ≤ En.sz α) (he : setL (En.enc y) j vs = En.enc x)
    (hx : Tr (sl false v (xs.set i x) :: F) (K undef)) : Tr l (EUnitK P (Instr.storeAt T (.pointer (some ⟨(sb v).block, (sb v).off + i * En.sz α + j, none⟩)) u) K) := Tr.storeEf hy hu hn h1 hj he hs.h hx
end
theorem cutV_whole {sz : Nat} {a : Option Addr} {n c : Nat} : cutV sz (.slice a n c) 0 n = .slice a n c := by
  cases a <;> simp [cutV, Addr.add]
theorem sl_cut {α : Type} [iE : En α] {v : Value} {xs : List α} {ro : Bool} {lo hi : Nat} (h1 : lo ≤ hi) (h2 : hi ≤ xs.length) {R S : Blks} {w : World} (h : (sl ro v xs).h R S w) : (sl ro (cutV (En.sz α) v lo hi) ((xs.take hi).drop lo)).h R S w := by
  rcases h with ⟨hn, rfl⟩ | ⟨b, off, cap, cs, T, fr, rfl, h3, h4, h5, h6⟩
  · simp at h2
    subst h2
    obtain rfl : lo = 0 := by omega
    obtain ⟨a, rfl⟩ := hn.slice
    have e : cutV (En.sz α) (.slice a 0 0) 0 0 = .slice a 0 0 := cutV_whole
    rw [e]
    exact .inl ⟨hn, rfl⟩
  · have hlen : ((xs.take hi).drop lo).length = hi - lo := by simp; omega
    have hcut : flat ((xs.take hi).drop lo) = ((flat xs).drop (lo * En.sz α)).take ((hi - lo) * En.sz α) := by
      have key : ∀ (ys : List α) (n : Nat), flat (ys.take n) = (flat ys).take (n * En.sz α) ∧ flat (ys.drop n) = (flat ys).drop (n * En.sz α) := by
        intro ys
        induction ys with
        | nil => intro n; simp [flat]
        | cons y ys ih =>
          intro n
          cases n with
          | zero => simp [flat]
          | succ n =>
            obtain ⟨i1, i2⟩ := ih n
            simp only [flat, List.take_succ_cons, List.drop_succ_cons, List.flatMap_cons] at i1 i2 ⊢
            have e : (n + 1) * En.sz α = (En.enc y).length + n * En.sz α := by rw [En.len, Nat.succ_mul]; omega
            have t1 : (En.enc y).take ((En.enc y).length + n * En.sz α) = En.enc y := List.take_of_length_le (Nat.le_add_right _ _)
            have t2 : (En.enc y).drop ((En.enc y).length + n * En.sz α) = [] := List.drop_eq_nil_of_le (Nat.le_add_right _ _)
            rw [e, List.take_append, List.drop_append, i1, i2, t1, t2, Nat.add_sub_cancel_left]
            exact ⟨rfl, rfl⟩
      rw [(key _ _).2, (key _ _).1, List.drop_take, Nat.sub_mul]
    by_cases hc : cap = lo
    · have : (xs.take hi).drop lo = [] := List.eq_nil_of_length_eq_zero (by rw [hlen]; omega)
      refine .inr ⟨b, off, 0, cs, T, fr, ?_, ⟨by rw [hlen]; omega, by rw [hlen]; omega⟩, ?_, h5, ?_⟩
      · subst hc; simp [cutV, hlen]
      · cases ro
        · refine ⟨h4.1, h4.2.1, ?_⟩
          have := h4.2.2
          rw [Nat.zero_mul]
          have := Nat.zero_le (cap * En.sz α)
          omega
        · exact h4
      · rw [this]; simp [flat]
    · refine .inr ⟨b, off + lo * En.sz α, cap - lo, cs, T, fr, ?_, ⟨by rw [hlen]; omega, by rw [hlen]; omega⟩, ?_, h5, ?_⟩
      · simp [cutV, hc, hlen, add_mk]
      · cases ro
        · refine ⟨h4.1, h4.2.1, ?_⟩
          have h7 := h4.2.2
          have : lo * En.sz α + (cap - lo) * En.sz α = cap * En.sz α := by rw [← Nat.add_mul]; congr 1; omega
          omega
        · exact h4
      · rw [hlen, hcut, ← h6, ← List.drop_drop, List.drop_take, List.take_take]
        congr 1
        have : (hi - lo) * En.sz α ≤ xs.length * En.sz α - lo * En.sz α := by rw [← Nat.sub_mul]; exact Nat.mul_le_mul_right _ (by omega)
        omega
theorem hass_cut {α : Type} [iE : En α] {l : List Asrt} {v : Value} {xs : List α} {ro : Bool} {lo hi : Nat} (h1 : lo ≤ hi) (h2 : hi ≤ xs.length) (hs : HasS l v ro α iE xs) : HasS l (cutV (En.sz α) v lo hi) ro α iE ((xs.take hi).drop lo) := ⟨fun w R U a b c => by
  obtain ⟨S, h⟩ := hs.h w R U a b c
  exact ⟨S, sl_cut h1 h2 h⟩⟩
theorem A.copyCut {P : Program} {α : Type} [iE : En α] {v x : Value} {xs ys : List α} {l F : List Asrt} {K : Value → WP} {ro : Bool} {T T2 ty e bytes lo n : Nat} {z : List Value} [hT : SlcT P T e bytes (En.sz α) z] [ht : TkS l v α iE xs F] [hs : HasS F x ro α iE ys] (hlo : lo + ys.length ≤ xs.length) (hn : n = xs.length)
    (hk : Tr (sl false v (xs.take lo ++ ys ++ xs.drop (lo + ys.length)) :: F) (K (.int .i64 ys.length))) : Tr l (EGenK P (Builtin.copy_ #[T, T2] ty #[cutV (En.sz α) v lo n, x]) K) := fun w hw0 => by
  subst hn
  have hw := Imp.sat ht.h hw0
  obtain ⟨hu, inf, hinf, hsz, hby, hzz⟩ := hT.h
  obtain ⟨Rx, Sx, hxh⟩ := (Has.next (B := sl false v xs) hs.h).sat hw
  have hfx : (Builtin.firstCells (En.sz α) ys.length x).run P w = .ok (flat ys).toArray w := cells_sl hxh
  obtain ⟨ax, cx, rfl, _⟩ := sl_cap (Has.next (B := sl false v xs) hs.h) hw
  have hmin : ∀ m, ys.length ≤ m → Nat.min ys.length m = ys.length := fun m h => Nat.min_eq_left h
  have hsize : ∀ w, (sizeOf e).run P w = .ok (En.sz α) w := fun w => by simp [sizeOf, typeInfo, hinf, hsz]
  by_cases hy : ys = []
  · subst hy
    have e0 : xs.take lo ++ ([] : List α) ++ xs.drop (lo + ([] : List α).length) = xs := by simp
    rw [e0] at hk
    refine ⟨.int .i64 0, w, ?_, hk w hw⟩
    obtain ⟨a, c, rfl, hc⟩ := sl_cap (l := sl false v xs :: F) Has.here hw
    have hfx' : (Builtin.firstCells (En.sz α) 0 (.slice ax 0 cx)).run P w = .ok #[] w := hfx
    cases a <;> simp [Builtin.copy_, run_underlying hu, cutV, Builtin.lenOf, hsize, hfx', goInt, storeCells] <;> (try split) <;> simp_all
  · have hpos := List.length_pos_iff.2 hy
    rcases sl_open hw with ⟨_, rfl, _⟩ | ⟨b, off, cap, cs, T', rfl, e3, e5, e7, hwb⟩
    · exact absurd (show lo + ys.length ≤ 0 from hlo) (by omega)
    · have hm2 : xs.length * En.sz α ≤ cap * En.sz α := Nat.mul_le_mul_right _ e3.1
      have hm3 : lo * En.sz α + ys.length * En.sz α ≤ xs.length * En.sz α := by rw [← Nat.add_mul]; exact Nat.mul_le_mul_right _ hlo
      have hfl : (flat ys).length = ys.length * En.sz α := flat_length ys
      obtain ⟨w', hr, hs'⟩ := run_storeCells (P := P) (T := T') (flat ys) cs b (off + lo * En.sz α) 0 (blk b (.cells cs.toArray T' (0, 0)) :: F) _ w
        (fun u hu => by have := flat_one ys; rw [List.all_eq_true] at this; exact this u hu) (by omega) hwb Upd.here
      refine ⟨.int .i64 ys.length, w', ?_, hk w' ?_⟩
      · have hc : ¬ cap = lo := by omega
        simp only [cutV, if_neg hc, Option.map_some, add_mk]
        simp [Builtin.copy_, run_underlying hu, Builtin.lenOf, hsize, hfx, hmin _ (show ys.length ≤ xs.length - lo by omega), goInt, hr]
      · have hlen : (xs.take lo ++ ys ++ xs.drop (lo + ys.length)).length = xs.length := by simp; omega
        refine sl_close (b := b) (off := off) (cap := cap) (by rw [hlen]) ⟨by rw [hlen]; exact e3.1, by rw [hlen]; exact e3.2⟩ (by rw [setL_length]; exact e5) ?_ hs'
        rw [hlen, Nat.add_zero, setL_cut _ _ _ (by omega), e7]
        exact setL_flat hlo
theorem A.ccV {P : Program} {α : Type} [iE : En α] {v : Value} {xs : List α} {l : List Asrt} {ro : Bool} {K : Value → WP} {T n : Nat} {lo hi : Int} {k k' : IntKind} [Slc P T n] [hs : HasS l v ro α iE xs] (hne : n = En.sz α) (h0 : 0 ≤ lo) (h1 : lo ≤ hi) (h2 : hi ≤ xs.length) (hx : Tr l (K (cutV (En.sz α) v lo.toNat hi.toNat))) :
    Tr l (GenK P (Instr.sliceAt T v (some (.int k lo)) (some (.int k' hi)) none) K) := fun w hw => by
  subst hne
  obtain ⟨a, c, rfl, hc⟩ := sl_cap hs.h hw
  exact ⟨_, run_cut (m := lo.toNat) (h := hi.toNat) (by simp [Instr.sliceBounds, Instr.sliceBound, asIntOf, h0, show 0 ≤ hi by omega, show hi ≤ (c : Int) by omega, show lo ≤ max hi 0 by omega]), hx w hw⟩
theorem A.clearV {P : Program} {α : Type} [iE : En α] {v : Value} {xs : List α} {l F : List Asrt} {K : Value → WP} {T ty e bytes : Nat} {z : List Value} (dv : α) [hT : SlcT P T e bytes (En.sz α) z] [ht : TkS l v α iE xs F] (hz : z = En.enc dv)
    (hk : Tr (sl false v (List.replicate xs.length dv) :: F) (K (.tuple #[]))) : Tr l (EGenK P (Builtin.clear_ #[T] ty #[v]) K) := fun w hw0 => by
  have hw := Imp.sat ht.h hw0
  obtain ⟨a, c, rfl, hc⟩ := sl_cap (l := sl false v xs :: F) Has.here hw
  have := A.clear (P := P) (T := T) (ty := ty) (l := l) (F := F) (K := K) (v := .slice a xs.length c) (xs := xs) (i := 0) (n := xs.length) (dv := dv) hz (Nat.zero_le _) rfl (by simpa using hk) w hw0
  rw [cutV_whole] at this
  exact this
section
variable {α : Type}
def upto (f : α → α) (xs : List α) (k : Nat) : List α := (xs.take k).map f ++ xs.drop k
theorem upto_zero {f : α → α} {xs : List α} : upto f xs 0 = xs := rfl
theorem upto_all {f : α → α} {xs : List α} : upto f xs xs.length = xs.map f := by simp [upto]
theorem upto_len {f : α → α} {xs : List α} {k : Nat} : (upto f xs k).length = xs.length := by simp [upto]; omega
end
section
variable {α β : Type} [Inhabited α]
theorem upto_ix {f : α → α} {xs : List α} {k : Nat} (h : k < xs.length) : ix (upto f xs k) (k : Int) = ix xs (k : Int) := by
  have h1 : (upto f xs k)[k]? = xs[k]? := by
    unfold upto
    rw [List.getElem?_append_right (by simp; omega)]
    simp [Nat.min_eq_left (Nat.le_of_lt h)]
  simp [ix, h1]
theorem upto_set {f : α → α} {xs : List α} {k : Nat} (h : k < xs.length) : (upto f xs k).set k (f (ix xs (k : Int))) = upto f xs (k + 1) := by
  have hx : ix xs (k : Int) = xs[k] := by simp [ix, h]
  have hl : ((xs.take k).map f).length = k := by simp; omega
  unfold upto
  rw [List.set_append_right _ _ (by omega), hl, Nat.sub_self, List.take_succ_eq_append_getElem h, List.map_append, List.append_assoc, List.drop_eq_getElem_cons h, hx]
  rfl
end
def sepL : List Asrt → Asrt
  | [] => fact True
  | A :: l => sep A (sepL l)
def pk {γ : Type} (f : γ → List Asrt) (p : γ → Prop) : Asrt := ex fun g => sep (fact (p g)) (sepL (f g))
theorem Imp.sepL {m l : List Asrt} : Imp (m ++ l) (Wk.sepL m :: l) := by
  induction m with
  | nil => exact Imp.factI trivial
  | cons A m ih => exact Imp.trans (Imp.cons ih) Imp.sepI
theorem Tr.sepL {m l : List Asrt} {X : WP} (h : Tr (m ++ l) X) : Tr (Wk.sepL m :: l) X := by
  induction m generalizing l with
  | nil => exact Tr.fact_iff.2 fun _ => h
  | cons A m ih => exact Tr.sep_iff.2 ((ih (l := A :: l) (h.imp (Imp.of_perm (by simp)))).imp Imp.swap)
theorem Imp.pk {γ : Type} {f : γ → List Asrt} {p : γ → Prop} {l : List Asrt} (g : γ) (hp : p g) : Imp (f g ++ l) (Wk.pk f p :: l) :=
  Imp.trans Imp.sepL (Imp.trans (Imp.factI hp) (Imp.trans Imp.sepI (Imp.exI (f := fun g => Wk.sep (fact (p g)) (Wk.sepL (f g))) g)))
theorem Tr.pk {γ : Type} {f : γ → List Asrt} {p : γ → Prop} {l : List Asrt} {X : WP} (h : ∀ g, p g → Tr (f g ++ l) X) : Tr (Wk.pk f p :: l) X :=
  Tr.ex_iff.2 fun g => Tr.sep_iff.2 (Tr.fact_iff.2 fun hp => Tr.sepL (h g hp))
theorem Trip.pk {P : Program} {fn : FuncId} {args : Array Value} {γ : Type} {f : γ → List Asrt} {p : γ → Prop} {rest : List Asrt} {post : Value → List Asrt → Prop}
    (h : ∀ g, p g → ∀ (F : List Asrt) (K : Value → WP), (∀ v l', post v l' → Tr (l' ++ F) (K v)) → Tr (f g ++ (rest ++ F)) (CallK P fn args K)) : Trip P fn args (Wk.pk f p :: rest) post :=
  fun F K hK => Tr.pk fun g hg => h g hg F K hK
end Go.Wk
namespace Go.Wk
open Go
section
variable {P : Program} {T : Nat → Plan} {n : Nat}
def jumpK (Q : Post) (e : Env) : Option Code → WP
  | none => Q .normal e
  | some .ret => Q .ret e
  | some (.exit id) => Q (.exit id) e
  | some (.goto l) => Q (.goto l) e
  | _ => fun _ => False
def RangeK (P : Program) (n : Nat) (g : Operand) (ps : Array Tmp) (assign body : Code) (Q : List Nat → Post) (ms : List Nat) (e : Env) : WP := fun w =>
  ∃ gf lb, ev e g = .func (.func gf) #[] lb ∧ isFnB P gf = true ∧ ∀ r : Loop, r.state = .ready → r.pending = none → r.params = ps → r.assign = assign → r.body = body → (∀ t, r.tmps.getD t undef = e t) → r.tmps.size = n →
    CallK P gf (#[.func (.yield (w.heap.size + 1)) #[] #[]] ++ lb) (fun _ w3 => ∃ pe st, st ≠ .busy ∧ w3.heap[w.heap.size + 1]? = some (.loop { r with state := st, pending := pe }) ∧
      jumpK (Q (w.heap.size :: ms)) e pe (w3.putObj (w.heap.size + 1) (.loop { r with state := .exhausted, pending := pe }))) ((w.alloc (.deferred (some []))).alloc (.loop r))
def WM (P : Program) (n : Nat) (T : Nat → Plan) : Code → (List Nat → Post) → List Nat → Env → WP
  | .seq a b, Q, ms, e => WM P n T a (fun ms' => seqK (fun e' => WM P n T b Q ms' e') (Q ms')) ms e
  | .block id b, Q, ms, e => WM P n T b (fun ms' => blkK id (Q ms')) ms e
  | .rangeFunc g ps assign body, Q, ms, e => RangeK P n g ps assign body Q ms e
  | c, Q, ms, e => W P T c (Q ms) e
def codeM (n : Nat) (T : Nat → Plan) : Code → Bool
  | .seq a b => codeM n T a && codeM n T b
  | .block _ b => codeM n T b
  | .rangeFunc _ _ _ _ => true
  | c => codeOK n T c && codeOK' T c
def marksD (ms : List Nat) : List Deferred := ms.map fun D => { target := .collected D, args := #[] }
def liftM (n : Nat) (Q : List Nat → Post) : Exit → Act → World → Prop := fun x a w => a.tmps.size = n ∧ ∃ ms, a.defers = marksD ms ∧ Q ms x (envOf a) w
theorem liftM_of {Q : List Nat → Post} {ms : List Nat} (e : Exit) (a : Act) (w : World) (h : lift n (marksD ms) (Q ms) e a w) : liftM n Q e a w := ⟨h.1, ms, h.2.1, h.2.2⟩
theorem WM_sound (hm : P.follows .mixedOrders = true) {m : Nat} : ∀ (c : Code) (Q : List Nat → Post) (ms : List Nat) (a : Act) (w : World), codeM n T c = true → a.tmps.size = n → a.defers = marksD ms → WM P n T c Q ms (envOf a) w → c.wpIn (Fw none) m P (liftM n Q) a w := by
  intro c
  induction c with
  | seq x y ihx ihy =>
    intro Q ms a w hok hs hd h
    simp only [codeM, Bool.and_eq_true] at hok
    simp only [WM] at h
    refine wpIn_seq (wpIn_mono (ihx _ ms a w hok.1 hs hd h) fun e a w hl => ?_)
    obtain ⟨hs, ms', hd, h⟩ := hl
    cases e with
    | normal => exact ihy Q ms' a w hok.2 hs hd h
    | _ => exact ⟨hs, ms', hd, h⟩
  | block id b ih =>
    intro Q ms a w hok hs hd h
    simp only [codeM] at hok
    simp only [WM] at h
    refine wpIn_block (wpIn_mono (ih _ ms a w hok hs hd h) fun e a w hl => ?_)
    obtain ⟨hs, ms', hd, h⟩ := hl
    cases e with
    | exit id' =>
      simp only [blkK] at h
      simp only [Exit.inBlock]
      by_cases he : id' = id
      · rw [if_pos he] at h ⊢; exact ⟨hs, ms', hd, h⟩
      · rw [if_neg he] at h ⊢; exact ⟨hs, ms', hd, h⟩
    | _ => exact ⟨hs, ms', hd, h⟩
  | rangeFunc g ps assign body =>
    intro Q ms a w hok hs hd h
    simp only [WM] at h
    obtain ⟨gf, lb, hg, hf, h⟩ := h
    rw [ev_envOf] at hg
    refine wpIn_rangeFunc fun fn _ => ?_
    have hc := h { state := .ready, pending := none, fn, tmps := a.tmps, params := ps, assign, body, defers := w.heap.size } rfl rfl rfl rfl rfl (fun t => rfl) hs
    refine ⟨w.heap.size + 1, [{ target := .collected w.heap.size, args := #[] }], (w.alloc (.deferred (some []))).alloc (.loop { state := .ready, pending := none, fn, tmps := a.tmps, params := ps, assign, body, defers := w.heap.size }), { target := .fn (.func gf) lb, args := #[.func (.yield (w.heap.size + 1)) #[] #[]] }, (w.alloc (.deferred (some []))).alloc (.loop { state := .ready, pending := none, fn, tmps := a.tmps, params := ps, assign, body, defers := w.heap.size }), gf,
      #[.func (.yield (w.heap.size + 1)) #[] #[]] ++ lb, (w.alloc (.deferred (some []))).alloc (.loop { state := .ready, pending := none, fn, tmps := a.tmps, params := ps, assign, body, defers := w.heap.size }), run_enterLoop_outer _ _ _ _ _, ?_, fun _ _ => trivial, ?_, (fun h => by cases h), ?_⟩
    · simp only [resolve, hg]
      simp [go_sem]
    · simp [invoke, go_sem, run_callFunc hf]
    · refine calls_in (Calls.mono hc fun e w3 he => ?_) none _
      cases e with
      | returned v =>
        obtain ⟨pe, st, hst, hl, hj⟩ := he
        refine ⟨pe, _, run_endLoop hl hst, ?_⟩
        have fin : ∀ (x : Exit) (w' : World), Q (w.heap.size :: ms) x (envOf a) w' → liftM n Q x { a with defers := [{ target := .collected w.heap.size, args := #[] }] ++ a.defers } w' := fun x w' hq => ⟨hs, w.heap.size :: ms, by rw [hd]; rfl, hq⟩
        cases pe with
        | none => exact fin _ _ hj
        | some c =>
          cases c with
          | ret => exact wpIn_ret (fin _ _ hj)
          | exit id => exact wpIn_exit (fin _ _ hj)
          | goto l => exact wpIn_goto (fin _ _ hj)
          | _ => exact hj.elim
      | panicked ch => exact he.elim
      | outgrown => exact he.elim
  | _ =>
    intro Q ms a w hok hs hd h
    simp only [codeM, Bool.and_eq_true] at hok
    simp only [WM] at h
    exact wpIn_mono (W_sound hm _ (Q ms) a w hok.1 hok.2 hs hd h) liftM_of
def marksK : List Nat → WP → WP
  | [], X => X
  | D :: ms, X => fun w => w.heap[D]? = some (.deferred (some [])) ∧ marksK ms X (w.putObj D (.deferred none))
def endM (P : Program) (rs : List ResultVar) (K : Value → WP) (ms : List Nat) : Post
  | .normal, e => marksK ms (resL P e rs fun vs => K (one vs))
  | .ret, e => marksK ms (resL P e rs fun vs => K (one vs))
  | _, _ => fun _ => False
theorem leaves_marks {fn : Func} {tmps : Array Value} {rs : List ResultVar} {K : Value → WP} {R : Ending → World → Prop} (hR : ∀ v w, K v w → R (.returned v) w) (hrs : fn.results = rs.toArray) :
    ∀ (ms : List Nat) (w : World), marksK ms (resL P (envOf { tmps := tmps, defers := [] }) rs fun vs => K (one vs)) w → LeavesInM (Fw none) 0 P fn tmps R (marksD ms) .returning w
  | [], w, h => by
    obtain ⟨v, hr, hk⟩ := resK_of h
    rw [← hrs] at hr
    exact ⟨v, hr, hR _ _ hk⟩
  | D :: ms, w, h => ⟨by simp, .inl ⟨D, _, rfl, run_takeDeferred h.1, leaves_marks hR hrs ms _ h.2⟩⟩
theorem CallK_enterM (hm : P.follows .mixedOrders = true) {f : FuncId} {fn : Func} {c : Code} (hf : P.funcs[f]? = some fn) (hb : fn.body = some c) (hok : codeM fn.ntmps T c = true) {args : List Value} {K : Value → WP} {w : World} {rs : List ResultVar} (hrs : fn.results = rs.toArray) (ha : args.length ≤ fn.ntmps)
    (h : ∀ u, WM P fn.ntmps T c (endM P rs K) [] (argE u 0 args) w) : CallK P f args.toArray K w := by
  unfold CallK
  refine callsIn_wide.1 (callsIn_of_wp_marks (n := 0) hf hb trivial (wpIn_mono (WM_sound (m := 0) hm c (endM P rs K) [] _ w hok (by simp; omega) rfl ?_) fun e a w hl => ?_) rfl)
  · have := h (env0 fn.ntmps args.toArray)
    rw [← env0_arg] at this
    exact this
  · obtain ⟨hs, ms, hd, h⟩ := hl
    have fin : marksK ms (resL P (envOf a) rs fun vs => K (one vs)) w → LeavesInM (Fw none) 0 P fn a.tmps (fun | .returned v, w' => K v w' | _, _ => False) a.defers .returning w := fun h => by
      rw [hd]
      exact leaves_marks (K := K) (fun v w hk => hk) hrs ms w h
    cases e with
    | normal => exact fin h
    | ret => exact fin h
    | exit id => exact h.elim
    | goto l => exact h.elim
    | panic ch => exact h.elim
    | outgrown => exact h.elim
def updsA (e : Env) : List (Tmp × Value) → Env
  | [] => e
  | (p, v) :: r => updsA (upd e p v) r
def botP : Post := fun _ _ _ => False
def roundP (P : Program) (l : Nat) (K : Value → WP) : Post
  | .normal, _ => fun w => ∃ v w', (Instr.endRound l none).run P w = .ok v w' ∧ K v w'
  | .ret, _ => fun w => ∃ v w', (Instr.endRound l (some .ret)).run P w = .ok v w' ∧ K v w'
  | .exit id, _ => fun w => ∃ v w', (Instr.endRound l (some (.exit id))).run P w = .ok v w' ∧ K v w'
  | .goto t, _ => fun w => ∃ v w', (Instr.endRound l (some (.goto t))).run P w = .ok v w' ∧ K v w'
  | _, _ => fun _ => False
theorem env_fold {e : Env} : ∀ (l : List (Tmp × Value)) (tmps : Array Value), (∀ t, tmps.getD t undef = e t) → (∀ x ∈ l, x.1 < tmps.size) →
    (∀ t, (l.foldl (fun tmps (x : Tmp × Value) => tmps.setIfInBounds x.1 x.2) tmps).getD t undef = updsA e l t) ∧ (l.foldl (fun tmps (x : Tmp × Value) => tmps.setIfInBounds x.1 x.2) tmps).size = tmps.size
  | [], tmps, h, _ => ⟨h, rfl⟩
  | (p, v) :: r, tmps, h, hb => by
    have hp := hb (p, v) (by simp)
    obtain ⟨h1, h2⟩ := env_fold (e := upd e p v) r (tmps.setIfInBounds p v) (fun t => by
      unfold upd
      by_cases ht : t = p
      · subst ht; rw [if_pos rfl]; simp [hp]
      · rw [if_neg ht, ← h t]
        simp [Array.getElem?_setIfInBounds_ne (Ne.symm ht)]) (fun x hx => by rw [Array.size_setIfInBounds]; exact hb x (by simp [hx]))
    exact ⟨h1, by rw [List.foldl_cons]; rw [h2, Array.size_setIfInBounds]⟩
theorem round_of (hm : P.follows .mixedOrders = true) {l : Nat} {r : Loop} {e : Env} {args : Array Value} {K : Value → WP} {w : World} (hl : w.heap[l]? = some (.loop r)) (hsz : args.size = r.params.size) (hn : r.tmps.size = n) (he : ∀ t, r.tmps.getD t undef = e t)
    (hps : ∀ p ∈ r.params.toList, p < n) (hok : codeOK n T r.assign = true) (hok' : codeOK' T r.assign = true) (hob : codeOK n T r.body = true) (hob' : codeOK' T r.body = true)
    (h : W P T r.assign (seqK (fun e1 w1 => ∃ w2, (Instr.beginRound l).run P w1 = .ok () w2 ∧ W P T r.body (roundP P l K) e1 w2) botP) (updsA e (r.params.toList.zip args.toList)) w) : YieldK P l args K w := by
  refine ⟨r.fn, _, r.assign, r.body, run_yield hl hsz, RoundW.of (m := 0) (roundIn_of_wpIn (F := Fence.wide) (n := 0) trivial ?_)⟩
  have hf := env_fold (e := e) (r.params.toList.zip args.toList) r.tmps he (fun x hx => by rw [hn]; exact hps x.1 (List.of_mem_zip hx).1)
  have hfold : (r.params.zip args).foldl (fun tmps (x : Tmp × Value) => tmps.setIfInBounds x.1 x.2) r.tmps = (r.params.toList.zip args.toList).foldl (fun tmps (x : Tmp × Value) => tmps.setIfInBounds x.1 x.2) r.tmps := by
    rw [← Array.foldl_toList, Array.toList_zip]
  have henv : envOf { tmps := (r.params.zip args).foldl (fun tmps (x : Tmp × Value) => tmps.setIfInBounds x.1 x.2) r.tmps, defers := [] } = updsA e (r.params.toList.zip args.toList) := by
    funext t
    show (Array.getD _ t undef) = _
    rw [hfold]; exact hf.1 t
  rw [← henv] at h
  refine wpIn_mono (W_sound (ro := some l) (m := 0) (D := []) hm r.assign _ _ w hok hok' (by show (Array.size _) = n; rw [hfold, hf.2, hn]) rfl h) fun x a1 w1 hx => ?_
  obtain ⟨hs1, hd1, hx⟩ := hx
  cases x with
  | normal =>
    obtain ⟨w2, hb, hw⟩ := hx
    refine ⟨w2, hb, wpIn_mono (W_sound (ro := some l) (m := 0) (D := []) hm r.body _ a1 w2 hob hob' hs1 hd1 hw) fun y a2 w3 hy => ?_⟩
    obtain ⟨_, _, hy⟩ := hy
    cases y with
    | normal => exact hy
    | ret => exact hy
    | exit id => exact hy
    | goto t => exact hy
    | panic ch => exact hy.elim
    | outgrown => exact hy.elim
  | _ => exact hx.elim
end
end Go.Wk
namespace Go.Wk
open Go
section
variable {P : Program} {T : Nat → Plan} {n : Nat} {l F : List Asrt} {Q : List Nat → Post} {ms : List Nat} {e : Env}
theorem Tr.enterM (hm : P.follows .mixedOrders = true) {f : FuncId} {fn : Func} {c : Code} (hf : P.funcs[f]? = some fn) (hb : fn.body = some c) (hok : codeM fn.ntmps T c = true) {args : List Value} {rs : List ResultVar} {K : Value → WP} (hrs : fn.results = rs.toArray) (ha : args.length ≤ fn.ntmps)
    (h : ∀ u, Tr l (WM P fn.ntmps T c (endM P rs K) [] (argE u 0 args))) : Tr l (CallK P f args.toArray K) := fun w hw => CallK_enterM hm hf hb hok hrs ha fun u => h u w hw
theorem WM_seq {a b : Code} : WM P n T (.seq a b) Q ms e = WM P n T a (fun ms' => seqK (fun e' => WM P n T b Q ms' e') (Q ms')) ms e := rfl
theorem WM_block {id : Nat} {b : Code} : WM P n T (.block id b) Q ms e = WM P n T b (fun ms' => blkK id (Q ms')) ms e := rfl
theorem WM_rf {g : Operand} {ps : Array Tmp} {a b : Code} : WM P n T (.rangeFunc g ps a b) Q ms e = RangeK P n g ps a b Q ms e := rfl
theorem WM_region {id : Nat} {ops : Array Oper} {d : Bool} : WM P n T (.region id ops d) Q ms e = W P T (.region id ops d) (Q ms) e := rfl
theorem WM_ret : WM P n T .ret Q ms e = Q ms .ret e := rfl
theorem WM_cond {c : Operand} {x y : Code} : WM P n T (.cond c x y) Q ms e = W P T (.cond c x y) (Q ms) e := rfl
theorem WM_skip : WM P n T .skip Q ms e = Q ms .normal e := rfl
theorem endM_n {rs : List ResultVar} {K : Value → WP} : endM P rs K ms .normal e = marksK ms (resL P e rs fun vs => K (one vs)) := rfl
theorem endM_r {rs : List ResultVar} {K : Value → WP} : endM P rs K ms .ret e = marksK ms (resL P e rs fun vs => K (one vs)) := rfl
theorem marksK_nil {X : WP} : marksK [] X = X := rfl
theorem Tr.mark {D : Nat} {X : WP} (ht : TakeA l (blk D (.deferred (some []))) F) (h : Tr F (marksK ms X)) : Tr l (marksK (D :: ms) X) := Tr.imp ht fun w hw => by
  have hg := hw.get
  have hp : Sat (w.putObj D (.deferred none)) (blk D (.deferred none) :: F) := hw.put rfl ⟨rfl, rfl, rfl⟩
  exact ⟨hg, h _ hp.tail⟩
end
def Rounds {α : Type} (P : Program) (L : Nat) (encs : α → Array Value) (ok : α → Prop) (J Jx : List α → Asrt) (N : Nat) : Prop :=
  ∀ (pre : List α) (x : α) (G : List Asrt) (K : Value → WP), pre.length < N → ok x → Tr (J (pre ++ [x]) :: G) (K (.bool true)) → Tr (Jx (pre ++ [x]) :: G) (K (.bool false)) → Tr (J pre :: G) (YieldK P L (encs x) K)
def IterT {α : Type} (P : Program) (gf : Nat) (lb : List Value) (encs : α → Array Value) (ok : α → Prop) (DL : List Asrt) (S Sp : List α → Prop) (N : Nat) : Prop :=
  ∀ (L : Nat) (J Jx : List α → Asrt), Rounds P L encs ok J Jx N → ∀ (F : List Asrt) (K : Value → WP), (∀ v xs, S xs → Tr (J xs :: (DL ++ F)) (K v)) → (∀ v pre, Sp pre → Tr (Jx pre :: (DL ++ F)) (K v)) →
    Tr (J [] :: (DL ++ F)) (CallK P gf (.func (.yield L) #[] #[] :: lb).toArray K)
section
variable {α : Type} {P : Program} {T : Nat → Plan} {n : Nat} {l F : List Asrt} {Q : List Nat → Post} {ms : List Nat} {e : Env}
theorem Tr.yield {L : Nat} {encs : α → Array Value} {ok : α → Prop} {J Jx : List α → Asrt} {N : Nat} {pre : List α} {K : Value → WP} (hR : Rounds P L encs ok J Jx N) (x : α) {as : Array Value} (ha : as = encs x) (hN : pre.length < N) (hx : ok x) (ht : TakeA l (J pre) F) (h1 : Tr (J (pre ++ [x]) :: F) (K (.bool true))) (h2 : Tr (Jx (pre ++ [x]) :: F) (K (.bool false))) :
    Tr l (YieldK P L as K) := by subst ha; exact Tr.imp ht (hR pre x F K hN hx h1 h2)
theorem sat_swap {w : World} {A B : Asrt} {l : List Asrt} (h : Sat w (A :: B :: l)) : Sat w (B :: A :: l) := h.perm (List.Perm.swap _ _ _)
theorem Tr.range {gf N : Nat} {lb : List Value} {g : Operand} {ps : Array Tmp} {assign body : Code} {encs : α → Array Value} {ok : α → Prop} {DL : List Asrt} {S Sp : List α → Prop} {I Ix : List α → Asrt} {a1 : α → Env} (hm : P.follows .mixedOrders = true)
    (hit : IterT P gf lb encs ok DL S Sp N) (hg : ev e g = .func (.func gf) #[] lb.toArray) (hf : isFnB P gf = true) (ht : TakeL l (I [] :: DL) F)
    (hsz : ∀ x, (encs x).size = ps.size) (hps : ∀ p ∈ ps.toList, p < n) (hok : codeOK n T assign = true) (hok' : codeOK' T assign = true) (hob : codeOK n T body = true) (hob' : codeOK' T body = true)
    (hasg : ∀ x X, W P T assign X (updsA e (ps.toList.zip (encs x).toList)) = X .normal (a1 x))
    (hbody : ∀ pre x G (R : Post), pre.length < N → ok x → (∀ u, Tr (I (pre ++ [x]) :: G) (R .normal u)) → (∀ u, Tr (Ix (pre ++ [x]) :: G) (R .ret u)) → Tr (I pre :: G) (W P T body R (a1 x)))
    (hdone : ∀ D xs, S xs → Tr (I xs :: blk D (.deferred (some [])) :: (DL ++ F)) (Q (D :: ms) .normal e))
    (hstop : ∀ D pre, Sp pre → Tr (Ix pre :: blk D (.deferred (some [])) :: (DL ++ F)) (Q (D :: ms) .ret e)) : Tr l (RangeK P n g ps assign body Q ms e) := fun w hw0 => by
  have hw : Sat w (I [] :: (DL ++ F)) := ht.sat hw0
  refine ⟨gf, lb.toArray, hg, hf, fun r hr1 hr2 hr3 hr4 hr5 hr6 hr7 => ?_⟩
  have h1 := hw.alloc (.deferred (some []))
  have h2 := h1.alloc (.loop r)
  have hL : (w.alloc (.deferred (some []))).heap.size = w.heap.size + 1 := by simp
  rw [hL] at h2
  have hrr : ({ r with state := .ready, pending := none } : Loop) = r := by rw [← hr1, ← hr2]
  have hround : Rounds P (w.heap.size + 1) encs ok (fun pre => sep (blk (w.heap.size + 1) (.loop r)) (I pre)) (fun pre => sep (blk (w.heap.size + 1) (.loop { r with state := .done, pending := some .ret })) (Ix pre)) N := by
    intro pre x G K hN hx hK1 hK2
    refine Tr.sep_iff.2 fun w1 hw1 => ?_
    have hl := hw1.get
    refine round_of (n := n) (T := T) (e := e) hm hl (by rw [hsz, hr3]) hr7 hr6 (by rw [hr3]; exact hps) (by rw [hr4]; exact hok) (by rw [hr4]; exact hok') (by rw [hr5]; exact hob) (by rw [hr5]; exact hob') ?_
    rw [hr3, hr4, hasg]
    refine ⟨_, run_beginRound hl hr1, ?_⟩
    subst hr5
    have hw2 : Sat (w1.putObj (w.heap.size + 1) (.loop { r with state := .busy })) (blk (w.heap.size + 1) (.loop { r with state := .busy }) :: I pre :: G) := hw1.put rfl ⟨rfl, rfl, rfl⟩
    refine hbody pre x (blk (w.heap.size + 1) (.loop { r with state := .busy }) :: G) _ hN hx (fun u w3 hw3 => ?_) (fun u w3 hw3 => ?_) _ (sat_swap hw2)
    · have hw3 := sat_swap hw3
      have hl3 := hw3.get
      refine ⟨_, _, run_endRound none hl3, ?_⟩
      refine hK1 _ (Imp.sepI.sat ?_)
      have : Sat (w3.putObj (w.heap.size + 1) (.loop { r with state := .ready, pending := none })) (blk (w.heap.size + 1) (.loop { r with state := .ready, pending := none }) :: I (pre ++ [x]) :: G) := hw3.put rfl ⟨rfl, rfl, rfl⟩
      rw [hrr] at this
      show Sat (w3.putObj (w.heap.size + 1) (.loop { r with state := .ready, pending := none })) _
      rw [hrr]; exact this
    · have hw3 := sat_swap hw3
      have hl3 := hw3.get
      refine ⟨_, _, run_endRound (some .ret) hl3, ?_⟩
      refine hK2 _ (Imp.sepI.sat ?_)
      exact hw3.put rfl ⟨rfl, rfl, rfl⟩
  have hshuf : ∀ {A B C : Asrt} {L1 L2 : List Asrt}, List.Perm (A :: B :: C :: (L1 ++ L2)) (A :: C :: (L1 ++ B :: L2)) := fun {A B C L1 L2} => by
    refine List.Perm.cons A ((List.Perm.swap C B _).trans (List.Perm.cons C ?_))
    exact (List.perm_middle (l₁ := L1) (l₂ := L2) (a := B)).symm
  have hst : Sat _ (sep (blk (w.heap.size + 1) (.loop r)) (I []) :: (DL ++ (blk w.heap.size (.deferred (some [])) :: F))) := Imp.sepI.sat (h2.perm hshuf)
  have happ : (#[.func (.yield (w.heap.size + 1)) #[] #[]] ++ lb.toArray : Array Value) = (.func (.yield (w.heap.size + 1)) #[] #[] :: lb).toArray := by simp
  rw [happ]
  refine hit (w.heap.size + 1) _ _ hround (blk w.heap.size (.deferred (some [])) :: F) _ (fun v xs hS => Tr.sep_iff.2 fun w3 hw3 => ?_) (fun v pre hS => Tr.sep_iff.2 fun w3 hw3 => ?_) _ hst
  · have hl3 := hw3.get
    refine ⟨none, .ready, by simp, by rw [hrr]; exact hl3, ?_⟩
    have hp : Sat (w3.putObj (w.heap.size + 1) (.loop { r with state := .exhausted, pending := none })) (blk (w.heap.size + 1) (.loop { r with state := .exhausted, pending := none }) :: I xs :: (DL ++ blk w.heap.size (.deferred (some [])) :: F)) := hw3.put rfl ⟨rfl, rfl, rfl⟩
    exact hdone _ xs hS _ (sat_swap (hp.perm hshuf.symm).tail)
  · have hl3 := hw3.get
    refine ⟨some .ret, .done, by simp, hl3, ?_⟩
    have hp : Sat (w3.putObj (w.heap.size + 1) (.loop { r with state := .exhausted, pending := some .ret })) (blk (w.heap.size + 1) (.loop { r with state := .exhausted, pending := some .ret }) :: Ix pre :: (DL ++ blk w.heap.size (.deferred (some [])) :: F)) := hw3.put rfl ⟨rfl, rfl, rfl⟩
    exact hstop _ pre hS _ (sat_swap (hp.perm hshuf.symm).tail)
end
end Go.Wk
