/- Values read as things, by instances; literals of slices; stores of elements. -/
import Derived.Test.YtlhmbcmkpafjoaaDoorWkJ
namespace Go.Wk
open Go
theorem Trip.mono {P : Program} {f : FuncId} {args : Array Value} {pre : List Asrt} {post post' : Value → List Asrt → Prop} (h : Trip P f args pre post) (hp : ∀ v l', post v l' → post' v l') : Trip P f args pre post' := fun F K hK => h F K fun v l' hv => hK v l' (hp v l' hv)
/-- A value is a thing's. -/
class De (l : List Asrt) {α : Type} [En α] (u : Value) (x : outParam α) : Prop where
  h : u.cells = (En.enc x).toArray
section
variable {l : List Asrt}
instance de_int {n : Int} : De l (.int .i64 n) n := ⟨rfl⟩
instance de_bool {b : Bool} : De l (.bool b) b := ⟨rfl⟩
instance de_u8 {b : UInt8} : De l (.int .u8 (b.toNat : Int)) b := ⟨rfl⟩
instance de_str {s : ByteArray} : De l (.string s) s := ⟨rfl⟩
instance de_pts {b : Nat} : De l (.pointer (some ⟨b, 0, none⟩)) (Pt.mk (some b)) := ⟨rfl⟩
instance de_ptn : De l (.pointer none) (Pt.mk none) := ⟨rfl⟩
instance de_pt {p : Pt} : De l p.v p := ⟨rfl⟩
instance de_agg {α : Type} [En α] {x : α} : De l (.agg (En.enc x).toArray) x := ⟨rfl⟩
instance de_sl {α : Type} {iE : En α} {s : SV} {xs : List α} [_hs : HasS l s.v true α iE xs] : De l s.v (SL.mk s xs) := ⟨rfl⟩
instance de_nil {α : Type} : De l (.slice none 0 0) (SL.mk ⟨none, 0, 0⟩ ([] : List α)) := ⟨rfl⟩
class DeL (l : List Asrt) {α : Type} [En α] (i : Nat) (ps : List (Nat × Value)) (xs : outParam (List α)) : Prop where
  h : ∀ (pre mid : List Value), pre.length = i * En.sz α → xs.length * En.sz α ≤ mid.length → fillP (fun i => some (i * En.sz α, En.sz α)) (pre ++ mid) ps = some (pre ++ (flat xs ++ mid.drop (xs.length * En.sz α)))
instance del_nil {α : Type} [En α] {i : Nat} : DeL l i [] ([] : List α) := ⟨fun pre mid _ _ => by simp [fillP, flat]⟩
theorem del_step {α : Type} [En α] {i j : Nat} {u : Value} {x : α} {ps : List (Nat × Value)} {xs : List α} (hu : De l u x) (hj : j = i + 1) (h : DeL l j ps xs) : DeL l i ((i, u) :: ps) (x :: xs) := ⟨fun pre mid h1 h2 => by
  subst hj
  have hl : (En.enc x).length = En.sz α := En.len x
  have hm : En.sz α ≤ mid.length := by rw [List.length_cons, Nat.succ_mul] at h2; omega
  simp only [fillP, hu.h, List.size_toArray, hl]
  rw [if_pos ⟨trivial, by rw [List.length_append]; omega⟩]
  have hs := setL_append pre mid (En.enc x) (by omega)
  rw [h1] at hs
  rw [hs]
  have := h.h (pre ++ En.enc x) (mid.drop (En.sz α)) (by rw [List.length_append, h1, hl, Nat.succ_mul]) (by rw [List.length_drop]; rw [List.length_cons, Nat.succ_mul] at h2; omega)
  rw [← List.append_assoc, hl, this, List.drop_drop]
  simp only [flat, List.flatMap_cons, List.append_assoc, List.length_cons, Nat.succ_mul]
  congr 4
  rw [Nat.add_comm]⟩
instance del_cons {α : Type} [En α] {i : Nat} {u : Value} {x : α} {ps : List (Nat × Value)} {xs : List α} [hu : De l u x] [h : DeL l (i + 1) ps xs] : DeL l i ((i, u) :: ps) (x :: xs) := del_step hu rfl h
end
section
variable {P : Program} {α : Type} [iE : En α] {v : Value} {xs : List α} {l F : List Asrt} {ro : Bool} {K : Value → WP}
/-- A literal, its places in a row. -/
theorem A.buildL {T e bytes n : Nat} {β : Type} [_hE : ElT T β] [En β] [Inhabited β] {z : List Value} [hT : SlcT P T e bytes (En.sz β) z] {ps : List (Nat × Value)} {ys : List β} [hp : DeL l 0 ps ys] (hz : z = En.enc (default : β)) (hn : ys.length = n) (hsm : n * En.sz β ≤ 16777216)
    (hk : ∀ s : SV, Tr (sl false s.v ys :: l) (K s.v)) : Tr l (EGenK P (Instr.buildSlice T n ps.toArray) K) :=
  Tr.buildSlice (α := β) (xs := ys) (d := default) hz hn hsm (by
    have := hp.h [] (flat (List.replicate n (default : β))) (by simp) (by rw [flat_length, List.length_replicate, hn]; exact Nat.le_refl _)
    rw [List.nil_append, List.nil_append] at this
    rw [List.drop_of_length_le (by rw [flat_length, List.length_replicate, hn]; exact Nat.le_refl _), List.append_nil] at this
    exact this) hk
/-- A store of a whole element. -/
theorem A.stD {T : Nat} {i : Int} {u : Value} {x : α} [Siz P T (En.sz α)] [hs : TkS l v α iE xs F] [hu : De l u x] (h0 : 0 ≤ i) (hi : i < xs.length) (hx : Tr (sl false v (xs.set i.toNat x) :: F) (K undef)) :
    Tr l (EUnitK P (Instr.storeAt T (.pointer (some ⟨(sb v).block, (sb v).off + i.toNat * En.sz α, none⟩)) u) K) := A.stE hu.h h0 hi hx
end
theorem cl_int {k : IntKind} {n : Int} : (Value.int k n).cells.toList = [.int k n] := rfl
theorem cl_bool {b : Bool} : (Value.bool b).cells.toList = [.bool b] := rfl
theorem cl_str {s : ByteArray} : (Value.string s).cells.toList = [.string s] := rfl
theorem cl_sl {s : SV} : s.v.cells.toList = [s.v] := rfl
theorem cl_nil {a : Option Addr} {n c : Nat} : (Value.slice a n c).cells.toList = [.slice a n c] := rfl
theorem cl_ptr {a : Option Addr} : (Value.pointer a).cells.toList = [.pointer a] := rfl
theorem cl_map {a : Option Nat} : (Value.map a).cells.toList = [.map a] := rfl
theorem cl_chan {a : Option Nat} : (Value.chan a).cells.toList = [.chan a] := rfl
theorem cl_ifc {t : Nat} {v : Value} : (Value.iface t v).cells.toList = [.iface t v] := rfl
theorem cl_nifc : Value.nilIface.cells.toList = [.nilIface] := rfl
theorem cl_agg {l : List Value} : (Value.agg l.toArray).cells.toList = l := rfl
/-- A slice's words; a struct's. -/
class DeSV (v : Value) (s : outParam SV) : Prop where
  h : v = s.v
instance desv_v {s : SV} : DeSV s.v s := ⟨rfl⟩
instance desv_nil : DeSV (.slice none 0 0) ⟨none, 0, 0⟩ := ⟨rfl⟩
class DeA {α : Type} [En α] (u : Value) (x : outParam α) : Prop where
  h : u = .agg (En.enc x).toArray
instance dea_enc {α : Type} [En α] {x : α} : DeA (.agg (En.enc x).toArray) x := ⟨rfl⟩
end Go.Wk
