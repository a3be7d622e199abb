import Derived.Test.YtacmaamllpiloaaGreatZ19
import Derived.Test.YtacmaamllpiloaaGreatMB
import Derived.Test.YtacmaamllpiloaaGreatZ07
import Derived.Test.YtacmaamllpiloaaGreatZ06
namespace Go.Proofs.YtacmaamllpiloaaGreat
open Go Go.Wk
set_option maxHeartbeats 3200000
set_option maxRecDepth 100000
theorem cut_SV {s : SV} {lo hi : Nat} {sz : Nat} : ∃ s' : SV, cutV sz s.v lo hi = s'.v := ⟨⟨if s.c = lo then s.a else s.a.map (·.add (lo * sz)), hi - lo, s.c - lo⟩, rfl⟩
attribute [local irreducible] BrK GenK EGenK EUnitK CallK FnK CallV GuardO GuardC CondW opX opK opKc chkR eqR seqK blkK endL WL WD W LoopW BinK Tr drewK resL PickK NotK NilK ExtrK getK Instr.storeAt Instr.loadAt Instr.fieldAt Instr.indexAt Instr.lookup Instr.mapUpdate Instr.box Instr.alloc Instr.build Instr.buildSlice Instr.makeSlice Instr.makeMap Instr.sliceAt Instr.field Instr.index Instr.makeInterface Instr.typeAssert Builtin.len_ Builtin.append_ Builtin.cap_ Builtin.min_ Builtin.max_ Builtin.copy_ Builtin.clear_ convert binOp mp blk rob sl sep ex fact old
theorem cloneC_ok {s : SV} {xs : List UInt8} {lo hi : Nat} (h1 : lo ≤ hi) (h2 : hi ≤ xs.length) (hn : xs.length ≤ 1000000000) : Trip Tryz.prog 68 [cutV (En.sz UInt8) s.v lo hi].toArray [sl false s.v xs]
    fun v l' => ∃ s' : SV, v = s'.v ∧ l' = [sl true s'.v ((xs.take hi).drop lo), sl false s.v xs] := by
  intro F K hK
  simp only [List.cons_append, List.nil_append] at hK ⊢
  obtain ⟨s2, e2⟩ := cut_SV (s := s) (lo := lo) (hi := hi) (sz := En.sz UInt8)
  have hc := fun l => hass_cut (l := sl false s.v xs :: l) h1 h2 hass_here
  rw [e2] at hc ⊢
  have hl : ((xs.take hi).drop lo).length ≤ 1000000000 := by simp; omega
  generalize (xs.take hi).drop lo = ys at hK hc hl
  (refine Tr.enter (rs := [.tmp 2]) mixed fn68 rfl (by simp +arith [Tryz.ntmps68]) fun u => ?_; simp only [cd68, Tryz.f68])
  have hc' := fun l A => @hass_next A _ _ _ _ _ _ (hc l)
  refine S.x ?_
  refine S.y ?_ ?_
  all_goals intro hb
  · refine Tr.slNil (ro := false) (xs := ys) hb fun hx => ?_
    subst hx
    have hX := @pl68.eq_def; repeat' (first | refine S.x ?_ | refine S.y ?_ ?_ | (refine G.prop ?_; assumption) | intro hb | ((fail_if_success refine G.tr ?_); exact G.prop S.p) | fail)
    refine Tr.nilSl (α := UInt8) ?_
    refine Tr.freezeAt S.K ?_
    refine Tr.fin hK ⟨⟨none, 0, 0⟩, rfl, rfl⟩ ?_
    exact S.E
  · have hX := @pl68.eq_def; repeat' (first | refine S.x ?_ | intro hb | fail)
    refine Tr.freezeAt (v := hb.v) (xs := ys) S.K ?_
    exact Tr.fin hK ⟨hb, rfl, rfl⟩ S.E
end Go.Proofs.YtacmaamllpiloaaGreat
namespace Go.Proofs.YtacmaamllpiloaaGreat
open Go Go.Wk
set_option maxHeartbeats 3200000
set_option maxRecDepth 100000
def rgP (gs : List RegG) : Option Nat → Value
  | some k => .pointer (some ⟨(ix gs (k : Int)).b, 0, none⟩)
  | none => .pointer none
abbrev memL (p : Nat) (s : SV) (gs : List RegG) : List Asrt := [memB p s, sl false s.v (gs.map RegG.pt), fam regA gs]
def ldB (ms : List RegM) (a n : Int) : List UInt8 := match fI ms a n false with
  | some k => ((ix ms (k : Int)).d.take ((a - (ix ms (k : Int)).base).toNat + n.toNat)).drop (a - (ix ms (k : Int)).base).toNat
  | none => []
def ldO (ms : List RegM) (a n : Int) : Bool := (fI ms a n false).isSome
def stO (ms : List RegM) (a n : Int) : Bool := (fI ms a n true).isSome
theorem hasB_dec {m : RegM} {a n : Int} {wr : Bool} (h : hasB m a n wr = true) : 0 ≤ n ∧ m.base ≤ a ∧ a - m.base ≤ m.d.length ∧ n ≤ (m.d.length : Int) - (a - m.base) := by
  unfold hasB at h
  simp only [Bool.and_eq_true, decide_eq_true_eq] at h
  exact h.1
attribute [local irreducible] BrK GenK EGenK EUnitK CallK FnK CallV GuardO GuardC CondW opX opK opKc chkR eqR seqK blkK endL WL WD W LoopW BinK Tr drewK resL PickK NotK NilK ExtrK getK Instr.storeAt Instr.loadAt Instr.fieldAt Instr.indexAt Instr.lookup Instr.mapUpdate Instr.box Instr.alloc Instr.build Instr.buildSlice Instr.makeSlice Instr.makeMap Instr.sliceAt Instr.field Instr.index Instr.makeInterface Instr.typeAssert Builtin.len_ Builtin.append_ Builtin.cap_ Builtin.min_ Builtin.max_ Builtin.copy_ Builtin.clear_ convert binOp mp blk rob sl sep ex fact old
attribute [local irreducible] hasB fI
theorem mfind_ok {p : Nat} {s : SV} {gs : List RegG} {b1 b2 b3 : Nat} {a n : Int} {wr : Bool} (hr : ∀ g ∈ gs, okR g.mo) (ha : a ≤ 9223372036854775807) (ha2 : -9223372036854775808 ≤ a) :
    Trip Tryz.prog 243 [.pointer (some ⟨p, 0, none⟩), .func (.func 244) #[] [.pointer (some ⟨b1, 0, none⟩), .pointer (some ⟨b2, 0, none⟩), .pointer (some ⟨b3, 0, none⟩)].toArray].toArray (memL p s gs ++ capA b1 b2 b3 a n wr)
    fun v l' => v = rgP gs (fI (gs.map RegG.mo) a n wr) ∧ l' = memL p s gs ++ capA b1 b2 b3 a n wr := by
  intro F K hK
  simp only [List.cons_append, List.nil_append] at hK ⊢
  have hlm : (gs.map RegG.pt).length = gs.length := List.length_map _
  (refine Tr.enter (rs := [.tmp 4]) mixed fn243 rfl (by simp +arith [Tryz.ntmps243]) fun u => ?_; simp only [cd243, Tryz.f243])
  cases hf : fI (gs.map RegG.mo) a n wr with
  | none =>
    have hv : fV (gs.map RegG.mo) a n wr = -1 := by unfold fV; rw [hf]
    rw [hf] at hK
    have hX := And.intro @pl243.eq_def hv; repeat' (first | refine S.x ?_ | (refine G.call 250 ?_; refine S.c ?_ (h := idxf_ok (by assumption) (by assumption) (by assumption))) | rintro _ _ ⟨rfl, rfl⟩ | fail)
    all_goals exact Tr.fin hK ⟨rfl, rfl⟩ S.E
  | some k =>
    have hv : fV (gs.map RegG.mo) a n wr = (k : Int) := by unfold fV; rw [hf]
    rw [hf] at hK
    have hk := (fI_some hf).1
    rw [List.length_map] at hk
    have hm := ix_map (f := RegG.pt) (xs := gs) (k := (k : Int)) (by omega) (by omega)
    have hX := And.intro @pl243.eq_def (And.intro hv hm); repeat' (first | refine S.x ?_ | (refine G.call 250 ?_; refine S.c ?_ (h := idxf_ok (by assumption) (by assumption) (by assumption))) | rintro _ _ ⟨rfl, rfl⟩ | intro hb | fail)
    all_goals exact Tr.fin hK ⟨rfl, rfl⟩ S.E
theorem mof_ok {p : Nat} {s : SV} {gs : List RegG} {a n : Int} {wr : Bool} (hr : ∀ g ∈ gs, okR g.mo) (ha : a ≤ 9223372036854775807) (ha2 : -9223372036854775808 ≤ a) :
    Trip Tryz.prog 228 [.pointer (some ⟨p, 0, none⟩), .int .i64 a, .int .i64 n, .bool wr].toArray (memL p s gs)
    fun v l' => v = rgP gs (fI (gs.map RegG.mo) a n wr) ∧ l' = memL p s gs := by
  intro F K hK
  simp only [List.cons_append, List.nil_append] at hK ⊢
  (refine Tr.enter (rs := [.tmp 8]) mixed fn228 rfl (by simp +arith [Tryz.ntmps228]) fun u => ?_; simp only [cd228, Tryz.f228])
  have hX := @pl228.eq_def; repeat' (first | refine S.x ?_ | (refine G.call 243 ?_; refine S.c ?_ (h := mfind_ok (by assumption) (by assumption) (by assumption))) | rintro _ _ ⟨rfl, rfl⟩ | intro hb | fail)
  all_goals exact Tr.fin hK ⟨rfl, rfl⟩ S.E
theorem mmay_ok {p : Nat} {s : SV} {gs : List RegG} {a n : Int} {wr : Bool} (hr : ∀ g ∈ gs, okR g.mo) (ha : a ≤ 9223372036854775807) (ha2 : -9223372036854775808 ≤ a) :
    Trip Tryz.prog 230 [.pointer (some ⟨p, 0, none⟩), .int .i64 a, .int .i64 n, .bool wr].toArray (memL p s gs)
    fun v l' => v = .bool (fI (gs.map RegG.mo) a n wr).isSome ∧ l' = memL p s gs := by
  intro F K hK
  simp only [List.cons_append, List.nil_append] at hK ⊢
  (refine Tr.enter (rs := [.tmp 8]) mixed fn230 rfl (by simp +arith [Tryz.ntmps230]) fun u => ?_; simp only [cd230, Tryz.f230])
  cases hf : fI (gs.map RegG.mo) a n wr
  all_goals
    have hX := And.intro @pl230.eq_def (And.intro hf @rgP.eq_def); repeat' (first | refine S.x ?_ | (refine G.call 228 ?_; refine S.c ?_ (h := mof_ok (by assumption) (by assumption) (by assumption))) | rintro _ _ ⟨rfl, rfl⟩ | fail)
    all_goals exact Tr.fin hK ⟨by rw [hf]; rfl, rfl⟩ S.E
theorem mload_ok {p : Nat} {s : SV} {gs : List RegG} {a n : Int} (hr : ∀ g ∈ gs, okR g.mo) (ha : a ≤ 9223372036854775807) (ha2 : -9223372036854775808 ≤ a) :
    Trip Tryz.prog 231 [.pointer (some ⟨p, 0, none⟩), .int .i64 a, .int .i64 n].toArray (memL p s gs)
    fun v l' => ∃ s' : SV, v = .tuple [s'.v, .bool (ldO (gs.map RegG.mo) a n)].toArray ∧ l' = memL p s gs ++ [sl true s'.v (ldB (gs.map RegG.mo) a n)] := by
  intro F K hK
  simp only [List.cons_append, List.nil_append] at hK ⊢
  (refine Tr.enter (rs := [.tmp 6, .tmp 7]) mixed fn231 rfl (by simp +arith [Tryz.ntmps231]) fun u => ?_; simp only [cd231, Tryz.f231])
  cases hf : fI (gs.map RegG.mo) a n false with
  | none =>
    have e1 : ldO (gs.map RegG.mo) a n = false := by unfold ldO; rw [hf]; rfl
    have e2 : ldB (gs.map RegG.mo) a n = [] := by unfold ldB; rw [hf]
    rw [e1, e2] at hK
    have hX := And.intro @pl231.eq_def (And.intro hf @rgP.eq_def); repeat' (first | refine S.x ?_ | (refine G.call 228 ?_; refine S.c ?_ (h := mof_ok (by assumption) (by assumption) (by assumption))) | rintro _ _ ⟨rfl, rfl⟩ | fail)
    all_goals exact Tr.fin hK ⟨⟨none, 0, 0⟩, rfl, rfl⟩ S.E
  | some k =>
    obtain ⟨hk, hb0⟩ := fI_some hf
    rw [List.length_map] at hk
    have e1 : ldO (gs.map RegG.mo) a n = true := by unfold ldO; rw [hf]; rfl
    have e2 : ldB (gs.map RegG.mo) a n = (((ix gs (k : Int)).d.take ((a - (ix gs (k : Int)).base).toNat + n.toNat)).drop (a - (ix gs (k : Int)).base).toNat) := by unfold ldB; rw [hf]; simp only []; rw [mo_ix hk]; rfl
    rw [e1, e2] at hK
    rw [mo_ix hk] at hb0
    obtain ⟨p0, p1, p2, p3⟩ := hasB_dec hb0
    obtain ⟨b0, b1, hl⟩ := hr _ (ix_memR hk)
    simp only [RegG.mo] at p1 p2 p3 b0 b1 hl
    have hw1 : IntKind.i64.wrap (a - (ix gs (k : Int)).base) = a - (ix gs (k : Int)).base := wrapId (by omega) (by omega)
    have hw2 : IntKind.i64.wrap (a - (ix gs (k : Int)).base + n) = a - (ix gs (k : Int)).base + n := wrapId (by omega) (by omega)
    have hn : (a - (ix gs (k : Int)).base + n).toNat = (a - (ix gs (k : Int)).base).toNat + n.toNat := by omega
    have h1 : (a - (ix gs (k : Int)).base).toNat ≤ (a - (ix gs (k : Int)).base).toNat + n.toNat := by omega
    have h2 : (a - (ix gs (k : Int)).base).toNat + n.toNat ≤ (ix gs (k : Int)).d.length := by omega
    have h3 : (ix gs (k : Int)).d.length ≤ 1000000000 := by omega
    have hX := And.intro @pl231.eq_def (And.intro hf @rgP.eq_def); repeat' (first | refine S.x ?_ | (refine G.call 228 ?_; refine S.c ?_ (h := mof_ok (by assumption) (by assumption) (by assumption))) | rintro _ _ ⟨rfl, rfl⟩ | fail)
    refine Tr.famAt (xs := gs) (k : Int) S.K (by omega) (by omega) (regA_open ?_)
    have hX := And.intro @pl231.eq_def (And.intro hw1 hw2); repeat' (first | refine S.x ?_ | (refine G.call 68 ?_; first | refine S.c ?_ (h := cloneC_ok (by assumption) (by assumption) (by assumption)) | fail) | rintro _ _ ⟨_, rfl, rfl⟩ | (refine G.cut ?_; refine A.ccV rfl (by omega) (by omega) (by omega) ?_; rw [hn]) | fail)
    all_goals
      apply Tr.fin hK ⟨_, rfl, rfl⟩
      have hX := @regA.eq_def
      exact S.E
end Go.Proofs.YtacmaamllpiloaaGreat
namespace Go.Proofs.YtacmaamllpiloaaGreat
open Go Go.Wk
set_option maxHeartbeats 3200000
set_option maxRecDepth 100000
structure OneS where
  b : Nat
  has : Int
  done : Bool
instance inh_OneS : Inhabited OneS := ⟨⟨0, 0, false⟩⟩
def OneS.pt (g : OneS) : Pt := ⟨some g.b⟩
def OneS.mo (g : OneS) : Int × Bool := (g.has, g.done)
def oneS (g : OneS) : Asrt := blk g.b (.cells [.int .i64 g.has, .bool g.done].toArray 148 (0, 0))
abbrev slkB (p : Nat) (room : Int) (s : SV) : Asrt := blk p (.cells [.int .i64 room, s.v, .bool true].toArray 145 (0, 0))
instance elt_slk : ElT 143 Pt := ⟨⟩
def satA (a b : Int) : Int := if a + b ≤ 9223372036854775807 then a + b else 9223372036854775807
attribute [local irreducible] BrK GenK EGenK EUnitK CallK FnK CallV GuardO GuardC CondW opX opK opKc chkR eqR seqK blkK endL WL WD W LoopW BinK Tr drewK resL PickK NotK NilK ExtrK getK Instr.storeAt Instr.loadAt Instr.fieldAt Instr.indexAt Instr.lookup Instr.mapUpdate Instr.box Instr.alloc Instr.build Instr.buildSlice Instr.makeSlice Instr.makeMap Instr.sliceAt Instr.field Instr.index Instr.makeInterface Instr.typeAssert Builtin.len_ Builtin.append_ Builtin.cap_ Builtin.min_ Builtin.max_ Builtin.copy_ Builtin.clear_ convert binOp mp blk rob sl sep ex fact old
theorem sat_ok {a b : Int} (h0 : 0 ≤ a) (h1 : a ≤ 9223372036854775807) (h2 : 0 ≤ b) (h3 : b ≤ 9223372036854775807) : Trip Tryz.prog 103 [.int .i64 a, .int .i64 b].toArray [] fun v l' => v = .int .i64 (satA a b) ∧ l' = [] := by
  intro F K hK
  simp only [List.nil_append]
  by_cases hs : a + b ≤ 9223372036854775807
  · have hw : IntKind.i64.wrap (a + b) = a + b := wrapId (by omega) (by omega)
    have hv : satA a b = a + b := if_pos hs
    (refine Tr.enter (rs := [.tmp 4]) mixed fn103 rfl (by simp +arith [Tryz.ntmps103]) fun u => ?_; simp only [cd103, Tryz.f103])
    have hX := And.intro @pl103.eq_def hw; repeat' (first | refine S.x ?_ | refine S.y ?_ ?_ | intro hb | fail)
    all_goals first
      | (exfalso; omega)
      | exact Tr.fin hK ⟨by rw [hv], rfl⟩ S.E
  · have hw : IntKind.i64.wrap (a + b) = a + b - 18446744073709551616 := by
      unfold IntKind.wrap
      rw [show (2 ^ IntKind.i64.bits : Int) = 18446744073709551616 from by decide]
      simp only [show IntKind.i64.signed = true from rfl, Bool.true_and, decide_eq_true_eq]
      rw [show (2 ^ (IntKind.i64.bits - 1) : Int) = 9223372036854775808 from by decide]
      rw [if_pos (by omega)]
      omega
    have hv : satA a b = 9223372036854775807 := if_neg hs
    (refine Tr.enter (rs := [.tmp 4]) mixed fn103 rfl (by simp +arith [Tryz.ntmps103]) fun u => ?_; simp only [cd103, Tryz.f103])
    have hX := And.intro @pl103.eq_def hw; repeat' (first | refine S.x ?_ | fail)
    all_goals first
      | (exfalso; omega)
      | exact Tr.fin hK ⟨by rw [hv], rfl⟩ S.E
theorem clamp_ok {n a b : Int} : Trip Tryz.prog 104 [.int .i64 n, .int .i64 a, .int .i64 b].toArray [] fun v l' => v = .int .i64 (if n < a then a else if b < n then b else n) ∧ l' = [] := by
  intro F K hK
  simp only [List.nil_append]
  (refine Tr.enter (rs := [.tmp 6]) mixed fn104 rfl (by simp +arith [Tryz.ntmps104]) fun u => ?_; simp only [cd104, Tryz.f104])
  have hX := @pl104.eq_def; repeat' (first | refine S.x ?_ | refine S.y ?_ ?_ | intro hb | fail)
  all_goals exact S.L
theorem sfind_in {p : Nat} {room : Int} {s : SV} {gs : List OneS} {k : Int} (h0 : 0 ≤ k) (h1 : k < gs.length) : Trip Tryz.prog 101 [.pointer (some ⟨p, 0, none⟩), .int .i64 k].toArray [slkB p room s, sl false s.v (gs.map OneS.pt)]
    fun v l' => v = .pointer (some ⟨(ix gs k).b, 0, none⟩) ∧ l' = [slkB p room s, sl false s.v (gs.map OneS.pt)] := by
  intro F K hK
  simp only [List.cons_append, List.nil_append]
  have hm := ix_map (f := OneS.pt) h0 h1
  have hl : (gs.map OneS.pt).length = gs.length := List.length_map _
  (refine Tr.enter (rs := [.tmp 4]) mixed fn101 rfl (by simp +arith [Tryz.ntmps101]) fun u => ?_; simp only [cd101, Tryz.f101])
  have hX := And.intro @pl101.eq_def hm; repeat' (first | refine S.x ?_ | intro hb | fail)
  all_goals first
    | (exfalso; omega)
    | exact S.L
theorem sfind_out {p : Nat} {room : Int} {s : SV} {gs : List OneS} {k : Int} (h : ¬ (0 ≤ k ∧ k < gs.length)) : Trip Tryz.prog 101 [.pointer (some ⟨p, 0, none⟩), .int .i64 k].toArray [slkB p room s, sl false s.v (gs.map OneS.pt)]
    fun v l' => v = .pointer none ∧ l' = [slkB p room s, sl false s.v (gs.map OneS.pt)] := by
  intro F K hK
  simp only [List.cons_append, List.nil_append]
  have hl : (gs.map OneS.pt).length = gs.length := List.length_map _
  (refine Tr.enter (rs := [.tmp 4]) mixed fn101 rfl (by simp +arith [Tryz.ntmps101]) fun u => ?_; simp only [cd101, Tryz.f101])
  have hX := @pl101.eq_def; repeat' (first | refine S.x ?_ | refine S.y ?_ ?_ | intro hb | fail)
  all_goals first
    | (exfalso; omega)
    | exact S.L
end Go.Proofs.YtacmaamllpiloaaGreat
namespace Go.Proofs.YtacmaamllpiloaaGreat
open Go Go.Wk
set_option maxHeartbeats 3200000
set_option maxRecDepth 100000
theorem min_int3 {P : Program} {ty T : Nat} {k k2 k3 : IntKind} {a b c : Int} {K : Value → WP} : GenK P (Builtin.min_ #[T, T, T] ty #[.int k a, .int k2 b, .int k3 c]) K = K (.int k (if c < (if b < a then b else a) then c else (if b < a then b else a))) := by
  refine GenK_of (fun w => ?_) K
  simp [Builtin.min_, Builtin.min2]
def min3 (a b c : Int) : Int := if c < (if b < a then b else a) then c else (if b < a then b else a)
def ofA (gs : List OneS) (k : Int) : Int := if inR gs k then (ix gs k).has else 0
def spA (room : Int) (gs : List OneS) (k n : Int) : Int := if inR gs k then (if n < 1 then 0 else min3 n room (ix gs k).has) else 0
def spG (room : Int) (gs : List OneS) (k n : Int) : List OneS := if inR gs k then (if n < 1 then gs else gs.set k.toNat { ix gs k with has := (ix gs k).has - min3 n room (ix gs k).has }) else gs
theorem pt_set {α γ : Type} [Inhabited α] {f : α → γ} {xs : List α} {k : Int} {y : α} (h0 : 0 ≤ k) (h1 : k < xs.length) (h : f y = f (ix xs k)) : (xs.set k.toNat y).map f = xs.map f := by
  have hx := ix_some h0 h1
  rw [List.map_set, h]
  obtain ⟨hlt, he⟩ := List.getElem?_eq_some_iff.1 hx
  have e2 : f (ix xs k) = (xs.map f)[k.toNat]'(by rw [List.length_map]; exact hlt) := by rw [List.getElem_map, he]
  rw [e2, List.set_getElem_self]
theorem oneSl_open {g : OneS} {l : List Asrt} {X : WP} (h : Tr (blk g.b (.cells [.int .i64 g.has, .bool g.done].toArray 148 (0, 0)) :: l) X) : Tr (oneS g :: l) X := h
attribute [local irreducible] BrK GenK EGenK EUnitK CallK FnK CallV GuardO GuardC CondW opX opK opKc chkR eqR seqK blkK endL WL WD W LoopW BinK Tr drewK resL PickK NotK NilK ExtrK getK Instr.storeAt Instr.loadAt Instr.fieldAt Instr.indexAt Instr.lookup Instr.mapUpdate Instr.box Instr.alloc Instr.build Instr.buildSlice Instr.makeSlice Instr.makeMap Instr.sliceAt Instr.field Instr.index Instr.makeInterface Instr.typeAssert Builtin.len_ Builtin.append_ Builtin.cap_ Builtin.min_ Builtin.max_ Builtin.copy_ Builtin.clear_ convert binOp mp blk rob sl sep ex fact old
theorem of_ok {p : Nat} {room : Int} {s : SV} {gs : List OneS} {k : Int} : Trip Tryz.prog 40 [.pointer (some ⟨p, 0, none⟩), .int .i64 k].toArray [slkB p room s, fam oneS gs, sl false s.v (gs.map OneS.pt)]
    fun v l' => v = .int .i64 (ofA gs k) ∧ l' = [slkB p room s, fam oneS gs, sl false s.v (gs.map OneS.pt)] := by
  intro F K hK
  simp only [List.cons_append, List.nil_append]
  by_cases h : inR gs k
  · have ⟨h0, h1⟩ := h
    refine Tr.famAt (A := oneS) k S.K h0 h1 (oneSl_open ?_)
    (refine Tr.enter (rs := [.tmp 4]) mixed fn40 rfl (by simp +arith [Tryz.ntmps40]) fun u => ?_; simp only [cd40, Tryz.f40])
    have hX := And.intro @pl40.eq_def @OneS.pt.eq_def; repeat' (first | refine S.x ?_ | (refine G.call 101 ?_; first | refine S.c ?_ (h := sfind_in (by omega) (by omega)) | fail) | rintro _ _ ⟨rfl, rfl⟩ | fail)
    all_goals
      have hX := And.intro @ofA.eq_def @oneS.eq_def
      exact S.L
  · have h' := h
    unfold inR at h'
    (refine Tr.enter (rs := [.tmp 4]) mixed fn40 rfl (by simp +arith [Tryz.ntmps40]) fun u => ?_; simp only [cd40, Tryz.f40])
    have hX := @pl40.eq_def; repeat' (first | refine S.x ?_ | (refine G.call 101 ?_; first | refine S.c ?_ (h := sfind_out (by omega))) | rintro _ _ ⟨rfl, rfl⟩ | fail)
    all_goals
      have hX := @ofA.eq_def
      exact S.L
theorem sroom_ok {p : Nat} {room : Int} {s : SV} : Trip Tryz.prog 41 [.pointer (some ⟨p, 0, none⟩)].toArray [slkB p room s] fun v l' => v = .int .i64 room ∧ l' = [slkB p room s] := by
  intro F K hK
  simp only [List.cons_append, List.nil_append]
  (refine Tr.enter (rs := [.tmp 2]) mixed fn41 rfl (by simp +arith [Tryz.ntmps41]) fun u => ?_; simp only [cd41, Tryz.f41])
  have hX := @pl41.eq_def; repeat' (first | refine S.x ?_ | fail)
  all_goals exact S.L
theorem min3_le {a b c : Int} : min3 a b c ≤ a ∧ min3 a b c ≤ b ∧ min3 a b c ≤ c ∧ (0 ≤ a → 0 ≤ b → 0 ≤ c → 0 ≤ min3 a b c) := by
  unfold min3
  split <;> split <;> omega
theorem spend_ok {p : Nat} {room : Int} {s : SV} {gs : List OneS} {k n : Int} (hr : 0 ≤ room ∧ room ≤ 1000000000000) (hh : 0 ≤ (ix gs k).has ∧ (ix gs k).has ≤ 1000000000000) : Trip Tryz.prog 43 [.pointer (some ⟨p, 0, none⟩), .int .i64 k, .int .i64 n].toArray [slkB p room s, fam oneS gs, sl false s.v (gs.map OneS.pt)]
    fun v l' => v = .int .i64 (spA room gs k n) ∧ l' = [slkB p (room - spA room gs k n) s, fam oneS (spG room gs k n), sl false s.v ((spG room gs k n).map OneS.pt)] := by
  intro F K hK
  simp only [List.cons_append, List.nil_append]
  by_cases h : inR gs k
  · have ⟨h0, h1⟩ := h
    have hsm : n < 1 → spA room gs k n = 0 ∧ spG room gs k n = gs := fun hn => by unfold spA spG; rw [if_pos h, if_pos h, if_pos hn, if_pos hn]; exact ⟨rfl, rfl⟩
    refine Tr.famAt (A := oneS) k S.K h0 h1 (oneSl_open ?_)
    by_cases hn : n < 1
    · obtain ⟨e1, e2⟩ := hsm hn
      rw [e1, e2, Int.sub_zero] at hK
      (refine Tr.enter (rs := [.tmp 6]) mixed fn43 rfl (by simp +arith [Tryz.ntmps43]) fun u => ?_; simp only [cd43, Tryz.f43])
      have hX := And.intro @pl43.eq_def @OneS.pt.eq_def; repeat' (first | refine S.x ?_ | (refine G.call 101 ?_; first | refine S.c ?_ (h := sfind_in (by omega) (by omega)) | fail) | rintro _ _ ⟨rfl, rfl⟩ | fail)
      all_goals
        have hX := @oneS.eq_def
        exact S.L
    · have e1 : spA room gs k n = min3 n room (ix gs k).has := by unfold spA; rw [if_pos h, if_neg hn]
      have e2 : spG room gs k n = gs.set k.toNat { ix gs k with has := (ix gs k).has - min3 n room (ix gs k).has } := by unfold spG; rw [if_pos h, if_neg hn]
      obtain ⟨m1, m2, m3, m4⟩ := @min3_le n room (ix gs k).has
      have m5 := m4 (by omega) hr.1 hh.1
      have hmm : (gs.set k.toNat { ix gs k with has := (ix gs k).has - min3 n room (ix gs k).has }).map OneS.pt = gs.map OneS.pt := pt_set h0 h1 rfl
      rw [e1, e2, hmm] at hK
      have m6 : ∀ P ty T K, GenK P (Builtin.min_ #[T, T, T] ty #[.int .i64 n, .int .i64 room, .int .i64 (ix gs k).has]) K = K (.int .i64 (min3 n room (ix gs k).has)) := fun P ty T K => min_int3
      generalize min3 n room (ix gs k).has = m at *
      have w1 : IntKind.i64.wrap ((ix gs k).has - m) = (ix gs k).has - m := wrapId (by omega) (by omega)
      have w2 : IntKind.i64.wrap (room - m) = room - m := wrapId (by omega) (by omega)
      (refine Tr.enter (rs := [.tmp 6]) mixed fn43 rfl (by simp +arith [Tryz.ntmps43]) fun u => ?_; simp only [cd43, Tryz.f43])
      have hX := And.intro @pl43.eq_def (And.intro @OneS.pt.eq_def (And.intro @m6 (And.intro @w1 @w2))); repeat' (first | refine S.x ?_ | (refine G.call 101 ?_; first | refine S.c ?_ (h := sfind_in (by omega) (by omega)) | fail) | rintro _ _ ⟨rfl, rfl⟩ | fail)
      all_goals
        have hX := @oneS.eq_def
        exact S.L
  · have e1 : spA room gs k n = 0 := if_neg h
    have e2 : spG room gs k n = gs := if_neg h
    rw [e1, e2, Int.sub_zero] at hK
    have h' := h
    unfold inR at h'
    (refine Tr.enter (rs := [.tmp 6]) mixed fn43 rfl (by simp +arith [Tryz.ntmps43]) fun u => ?_; simp only [cd43, Tryz.f43])
    have hX := @pl43.eq_def; repeat' (first | refine S.x ?_ | (refine G.call 101 ?_; first | refine S.c ?_ (h := sfind_out (by omega))) | rintro _ _ ⟨rfl, rfl⟩ | fail)
    all_goals exact S.L
end Go.Proofs.YtacmaamllpiloaaGreat
