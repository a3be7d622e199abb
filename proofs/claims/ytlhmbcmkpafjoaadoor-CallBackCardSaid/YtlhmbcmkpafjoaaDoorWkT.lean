/- Search by instances: what an operation wants of a list of assertions. -/
import Derived.Test.YtlhmbcmkpafjoaaDoorWkC
namespace Go.Wk
open Go

/-- The cells of a block, to be read. -/
class Rd (l : List Asrt) (b : Nat) (cs : outParam (List Value)) : Prop where
  h : ∀ {off : Nat} {v : Value}, cs[off]? = some v → Cell l ⟨b, off, none⟩ v
instance rd_blk {b : Nat} {cs : List Value} {T : Nat} {fr : Nat × Nat} {l : List Asrt} : Rd (blk b (.cells cs.toArray T fr) :: l) b cs := ⟨Cell.blk⟩
instance rd_rob {b : Nat} {cs : List Value} {T : Nat} {fr : Nat × Nat} {l : List Asrt} : Rd (rob b (.cells cs.toArray T fr) :: l) b cs := ⟨Cell.rob⟩
instance (priority := 500) rd_next {A : Asrt} {l : List Asrt} {b : Nat} {cs : List Value} [h : Rd l b cs] : Rd (A :: l) b cs := ⟨fun e => (h.h e).next⟩
/-- A slice that is there. -/
class HasS (l : List Asrt) (v : Value) (ro : outParam Bool) (α : outParam Type) (i : outParam (En α)) (xs : outParam (List α)) : Prop where
  h : Has l (sl ro v xs)
instance hass_here {l : List Asrt} {v : Value} {ro : Bool} {α : Type} {i : En α} {xs : List α} : HasS (sl ro v xs :: l) v ro α i xs := ⟨Has.here⟩
instance (priority := 500) hass_next {A : Asrt} {l : List Asrt} {v : Value} {ro : Bool} {α : Type} {i : En α} {xs : List α} [h : HasS l v ro α i xs] : HasS (A :: l) v ro α i xs := ⟨h.h.next⟩
/-- A slice of one's own, taken out. -/
class TkS (l : List Asrt) (v : Value) (α : outParam Type) (i : outParam (En α)) (xs : outParam (List α)) (F : outParam (List Asrt)) : Prop where
  h : TakeA l (sl false v xs) F
instance tks_here {l : List Asrt} {v : Value} {α : Type} {i : En α} {xs : List α} : TkS (sl false v xs :: l) v α i xs l := ⟨TakeA.here⟩
instance (priority := 500) tks_next {A : Asrt} {l F : List Asrt} {v : Value} {α : Type} {i : En α} {xs : List α} [h : TkS l v α i xs F] : TkS (A :: l) v α i xs (A :: F) := ⟨h.h.next⟩
/-- A block of one's own, taken out. -/
class TkB (l : List Asrt) (b : Nat) (cs : outParam (List Value)) (T : outParam Nat) (F : outParam (List Asrt)) : Prop where
  h : TakeA l (blk b (.cells cs.toArray T (0, 0))) F
instance tkb_here {l : List Asrt} {b T : Nat} {cs : List Value} : TkB (blk b (.cells cs.toArray T (0, 0)) :: l) b cs T l := ⟨TakeA.here⟩
instance (priority := 500) tkb_next {A : Asrt} {l F : List Asrt} {b T : Nat} {cs : List Value} [h : TkB l b cs T F] : TkB (A :: l) b cs T (A :: F) := ⟨h.h.next⟩
/-- A map that is there; taken out. -/
class HasM (l : List Asrt) (m : Nat) (kvs : outParam (List (Int × Value))) : Prop where
  h : Has l (mp m kvs)
instance hasm_here {l : List Asrt} {m : Nat} {kvs : List (Int × Value)} : HasM (mp m kvs :: l) m kvs := ⟨Has.here⟩
instance (priority := 500) hasm_next {A : Asrt} {l : List Asrt} {m : Nat} {kvs : List (Int × Value)} [h : HasM l m kvs] : HasM (A :: l) m kvs := ⟨h.h.next⟩
class TkM (l : List Asrt) (m : Nat) (kvs : outParam (List (Int × Value))) (F : outParam (List Asrt)) : Prop where
  h : TakeA l (mp m kvs) F
instance tkm_here {l : List Asrt} {m : Nat} {kvs : List (Int × Value)} : TkM (mp m kvs :: l) m kvs l := ⟨TakeA.here⟩
instance (priority := 500) tkm_next {A : Asrt} {l F : List Asrt} {m : Nat} {kvs : List (Int × Value)} [h : TkM l m kvs F] : TkM (A :: l) m kvs (A :: F) := ⟨h.h.next⟩

theorem cellsAt_of {l : List Asrt} {b off n : Nat} {cs vs : List Value} (hr : Rd l b cs) (h : (cs.drop off).take n = vs) (hl : vs.length = n) : CellsAt l ⟨b, off, none⟩ n vs := ⟨hl, fun w hw i hi => by
  subst h
  rw [add_mk]
  have h2 : off + i < cs.length := by simp at hi; omega
  have := hr.h (off := off + i) (v := cs[off + i]) (by simp [h2]) w hw
  rw [this]; simp⟩

section
variable {P : Program} {l F : List Asrt} {K : Value → WP} {T b off n : Nat} {cs vs : List Value} {v u : Value}
theorem A.ldW [Agg P T n] [hR : Rd l b cs] (hl : cs.length = n) (hx : Tr l (K (.agg cs.toArray))) : Tr l (GenK P (Instr.loadAt T (.pointer (some ⟨b, 0, none⟩))) K) :=
  Tr.loadN (cellsAt_of hR (by rw [List.drop_zero, ← hl, List.take_length]) hl) hx
theorem A.ld1 [Scal P T] [hR : Rd l b cs] (h : cs[off]? = some v) (hx : Tr l (K v)) : Tr l (GenK P (Instr.loadAt T (.pointer (some ⟨b, off, none⟩))) K) := Tr.load1 (hR.h h) hx
theorem A.ldN [Agg P T n] [hR : Rd l b cs] (h : (cs.drop off).take n = vs) (hl : vs.length = n) (hx : Tr l (K (.agg vs.toArray))) : Tr l (GenK P (Instr.loadAt T (.pointer (some ⟨b, off, none⟩))) K) :=
  Tr.loadN (cellsAt_of hR h hl) hx
theorem A.stW {T' : Nat} [Siz P T n] [hB : TkB l b cs T' F] (hvs : v.cells = vs.toArray) (hn : vs.length = n) (h1 : vs.all Value.oneCell' = true) (hl : cs.length = n) (hx : Tr (blk b (.cells vs.toArray T' (0, 0)) :: F) (K undef)) :
    Tr l (EUnitK P (Instr.storeAt T (.pointer (some ⟨b, 0, none⟩)) v) K) := (Tr.storeW hvs hn h1 Upd.here hl hx).imp hB.h
theorem A.st {T' : Nat} [Siz P T n] [hB : TkB l b cs T' F] (hvs : v.cells = vs.toArray) (hn : vs.length = n) (h1 : vs.all Value.oneCell' = true) (hl : off + n ≤ cs.length) (hx : Tr (blk b (.cells (setL cs off vs).toArray T' (0, 0)) :: F) (K undef)) :
    Tr l (EUnitK P (Instr.storeAt T (.pointer (some ⟨b, off, none⟩)) v) K) := (Tr.store hvs hn h1 Upd.here hl hx).imp hB.h
end
section
variable {P : Program} {l F : List Asrt} {K : Value → WP} {T n : Nat} {v u : Value} {ro : Bool} {α : Type} {iE : En α} {xs : List α}
theorem A.lS0 {i : Nat} {x : α} [Scal P T] [hs : HasS l v ro α iE xs] (hi : xs[i]? = some x) (hj : (En.enc x)[0]? = some u) (hx : Tr l (K u)) : Tr l (GenK P (Instr.loadAt T (.pointer (some ⟨(sb v).block, (sb v).off + i * En.sz α, none⟩))) K) :=
  Tr.load1 (Cell.sl0 hs.h hi hj) hx
theorem A.lS1 {i j : Nat} {x : α} [Scal P T] [hs : HasS l v ro α iE xs] (hi : xs[i]? = some x) (hj : (En.enc x)[j]? = some u) (hx : Tr l (K u)) : Tr l (GenK P (Instr.loadAt T (.pointer (some ⟨(sb v).block, (sb v).off + i * En.sz α + j, none⟩))) K) :=
  Tr.load1 (Cell.slj hs.h hi hj) hx
theorem A.lSW {i : Nat} {x : α} [Agg P T n] [hs : HasS l v ro α iE xs] (hi : xs[i]? = some x) (hl : (En.enc x).length = n) (hx : Tr l (K (.agg (En.enc x).toArray))) : Tr l (GenK P (Instr.loadAt T (.pointer (some ⟨(sb v).block, (sb v).off + i * En.sz α, none⟩))) K) :=
  Tr.loadN (CellsAt.sl0 hs.h hi hl) hx
theorem A.lSN {i j : Nat} {x : α} {us : List Value} [Agg P T n] [hs : HasS l v ro α iE xs] (hi : xs[i]? = some x) (hj : ((En.enc x).drop j).take n = us) (hl : us.length = n) (hx : Tr l (K (.agg us.toArray))) :
    Tr l (GenK P (Instr.loadAt T (.pointer (some ⟨(sb v).block, (sb v).off + i * En.sz α + j, none⟩))) K) := Tr.loadN (CellsAt.slj hs.h hi hj hl) hx
theorem A.stE {i : Int} {x : α} [Siz P T (En.sz α)] [hs : TkS l v α iE xs F] (hu : u.cells = (En.enc x).toArray) (h0 : 0 ≤ i) (hi : i < xs.length) (hx : Tr (sl false v (xs.set i.toNat x) :: F) (K undef)) :
    Tr l (EUnitK P (Instr.storeAt T (.pointer (some ⟨(sb v).block, (sb v).off + i.toNat * En.sz α, none⟩)) u) K) := Tr.storeElI hs.h hu h0 hi hx
theorem A.idx [Inhabited α] {i : Int} {k : IntKind} [Slc P T n] [hs : HasS l v ro α iE xs] (hne : n = En.sz α) (h0 : 0 ≤ i) (hi : i < xs.length) (hx : xs[i.toNat]? = some (ix xs i) → Tr l (K (.pointer (some ⟨(sb v).block, (sb v).off + i.toNat * En.sz α, none⟩)))) :
    Tr l (GenK P (Instr.indexAt T v (.int k i)) K) := Tr.indexI hs.h hne h0 hi hx
theorem A.len {ty : Nat} [Slc P T n] [hs : HasS l v ro α iE xs] (hx : Tr l (K (.int .i64 xs.length))) : Tr l (GenK P (Builtin.len_ #[T] ty #[v]) K) := Tr.len hs.h hx
theorem A.cutTo {hi : Int} {k2 : IntKind} [Slc P T n] [hs : HasS l v true α iE xs] (hne : n = En.sz α) (h1 : 0 ≤ hi) (h2 : hi ≤ xs.length) (hx : ∀ s : SV, Tr (sl true s.v (xs.take hi.toNat) :: l) (K s.v)) :
    Tr l (GenK P (Instr.sliceAt T v none (some (.int k2 hi)) none) K) := Tr.cutTo hs.h hne h1 h2 hx
theorem A.lenM {m ty : Nat} {ze : Value} {kvs : List (Int × Value)} [MapT P T ze] [hs : HasM l m kvs] (hx : Tr l (K (.int .i64 kvs.length))) : Tr l (GenK P (Builtin.len_ #[T] ty #[.map (some m)]) K) := Tr.lenMap hs.h hx
theorem A.look {m : Nat} {ze : Value} {kvs : List (Int × Value)} [MapT P T ze] {k : Int} {ok : Bool} [hs : HasM l m kvs] (hx : Tr l (K (if ok then .tuple #[(find k kvs).getD ze, .bool (find k kvs).isSome] else (find k kvs).getD ze))) :
    Tr l (GenK P (Instr.lookup T (.map (some m)) (.int .i64 k) ok) K) := Tr.lookup hs.h hx
theorem A.mapu {m : Nat} {ze : Value} {kvs : List (Int × Value)} [MapT P T ze] {k : Int} [hs : TkM l m kvs F] (hx : Tr (mp m (upsert k u kvs) :: F) (K undef)) : Tr l (EUnitK P (Instr.mapUpdate T (.map (some m)) (.int .i64 k) u) K) :=
  (Tr.mapUpdate UpdA.here hx).imp hs.h
theorem A.app {T2 ty e bytes : Nat} {z : List Value} {x : Value} {ys : List α} [hT : SlcT P T e bytes (En.sz α) z] [hT2 : Slc P T2 (En.sz α)] [ht : TkS l v α iE xs F] [hs : HasS F x ro α iE ys] (hz : z.length = En.sz α) (hb : 0 < bytes)
    (hlen : (2 * (xs.length + ys.length) + 1000) * bytes ≤ 2 ^ 48) (hk : ∀ s : SV, Tr (sl false s.v (xs ++ ys) :: F) (K s.v)) : Tr l (EGenK P (Builtin.append_ #[T, T2] ty #[v, x]) K) := Tr.append hz ht.h hs.h hb hlen hk
theorem A.app0 {T2 ty e bytes : Nat} {z : List Value} {x : Value} {ys : List α} [hT : SlcT P T e bytes (En.sz α) z] [hT2 : Slc P T2 (En.sz α)] [hs : HasS l x ro α iE ys] (hz : z.length = En.sz α) (hb : 0 < bytes)
    (hlen : (2 * ys.length + 1000) * bytes ≤ 2 ^ 48) (hk : ∀ s : SV, Tr (sl false s.v ys :: l) (K s.v)) : Tr l (EGenK P (Builtin.append_ #[T, T2] ty #[.slice none 0 0, x]) K) :=
  Tr.nilSl (α := α) (Tr.append (α := α) (xs := []) (ys := ys) hz TakeA.here hs.h hb (by simpa using hlen) hk)
end
/-- A call by its contract: first what it takes. -/
theorem Tr.callC {P : Program} {f : FuncId} {args : Array Value} {pre : List Asrt} {post : Value → List Asrt → Prop} {l F : List Asrt} {K : Value → WP} (hp : TakeL l pre F) (h : Trip P f args pre post)
    (hk : ∀ v l', post v l' → Tr (l' ++ F) (K v)) : Tr l (CallK P f args K) := Tr.callT h hp hk
theorem G.prop {p : Prop} (h : p) : p := h
theorem G.take {l l' : List Asrt} {A : Asrt} (h : TakeA l A l') : TakeA l A l' := h
end Go.Wk
