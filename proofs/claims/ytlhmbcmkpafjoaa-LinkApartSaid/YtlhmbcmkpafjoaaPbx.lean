import Derived.Test.YtlhmbcmkpafjoaaPax
import Derived.Test.YtlhmbcmkpafjoaaWky
namespace Go.Proofs.Ytlhmbcmkpafjoaa
open Go Go.Wk
set_option maxHeartbeats 3200000
set_option maxRecDepth 10000
theorem drain0_ok {p : Nat} {s : SV} {gs : List OneG} {k : Int} (hd : drainD gs k = []) (hl0 : (ix gs k).m.d.length ≤ 1000000) : Trip Try.prog 73 [.pointer (some ⟨p, 0, none⟩), .int .i64 k].toArray [poB p s, fam oneA gs, sl false s.v (gs.map OneG.pt)]
    fun v l' => ∃ s2, v = SV.v s2 ∧ l' = [poB p s, fam oneA (drainG gs k), sl false s.v ((drainG gs k).map OneG.pt), sl false (SV.v s2) ([] : List Msg), fzl ([] : List Msg)] := by
  refine Trip.mono (drain_ok hl0) ?_
  rintro v l' ⟨⟨s2, d⟩, h, rfl, rfl⟩
  have h' : d.map SL.d = drainD gs k := h
  rw [hd] at h'
  have : d = [] := by simpa using h'
  subst this
  exact ⟨s2, rfl, rfl⟩
theorem drain1_ok {p : Nat} {s : SV} {gs : List OneG} {k : Int} (hl0 : (ix gs k).m.d.length ≤ 1000000) : Trip Try.prog 73 [.pointer (some ⟨p, 0, none⟩), .int .i64 k].toArray [poB p s, fam oneA gs, sl false s.v (gs.map OneG.pt)]
    fun v l' => ∃ s2 d, d.map SL.d = drainD gs k ∧ v = SV.v s2 ∧ l' = [poB p s, fam oneA (drainG gs k), sl false s.v ((drainG gs k).map OneG.pt), sl false (SV.v s2) (d : List Msg), fzl d] := by
  refine Trip.mono (drain_ok hl0) ?_
  rintro v l' ⟨⟨s2, d⟩, h, rfl, rfl⟩
  exact ⟨s2, d, h, rfl, rfl⟩
theorem same2_ok {s1 s2 : SV} {xs ys : List Msg} (h : xs.map SL.d = ys.map SL.d) : Trip Try.prog 60 [s1.v, s2.v].toArray [sl true s1.v xs, fzl xs, sl true s2.v ys, fzl ys] fun v l' => v = .bool true ∧ l' = [] := by
  refine Trip.mono same18_ok ?_
  rintro v l' ⟨rfl, rfl⟩
  exact ⟨by rw [decide_eq_true h], rfl⟩



section
variable {b c b2 c2 : Nat} {s s2 : SV} {m m2 m3 : Msg} {n : Nat} {t f t2 f2 : Bool}
abbrev sA (b c : Nat) (m : Msg) (t f : Bool) : OneG := ⟨b, false, true, 300, 0, 0, c, ⟨none, 0, 0⟩, [], m, t, f⟩
abbrev sB (b c : Nat) (m : Msg) (t f : Bool) : OneG := ⟨b, false, false, 300, 0, 0, c, ⟨none, 0, 0⟩, [], m, t, f⟩
theorem sAB_mk1 : OneG.mk0 b c ⟨false, true, 300, 0⟩ = sA b c default false false := rfl
theorem sAB_mk2 : OneG.mk0 b c ⟨false, false, 300, 0⟩ = sB b c default false false := rfl
theorem sAB_out1 : outC [sA b c m t f, sB b2 c2 m2 t2 f2] 0 false = (if t = true then 0 else 1) := rfl
theorem sAB_out2 : outD [sA b c m true f, sB b2 c2 m2 t2 f2] 0 false = m.d := rfl
theorem sAB_out3 : outG [sA b c m t f, sB b2 c2 m2 t2 f2] 0 false s = [sA b c m t f, sB b2 c2 m2 t2 f2] := rfl
theorem sAB_del1 : delB [sA b c m t f, sB b2 c2 m2 t2 f2] 0 = true := rfl
theorem sAB_del2 : delG [sA b c m t f, sB b2 c2 m2 t2 f2] 0 s m3 = [sA b c m3 true true, sB b2 c2 m2 t2 f2] := rfl
theorem sAB_into1 : intoC [sA b c m t f, sB b2 c2 m2 t2 f2] 1 false n = (if lenOK n 300 = true then 0 else 2) := rfl
theorem sAB_into2 : intoG [sA b c m t f, sB b2 c2 m2 t2 f2] 1 false s m3 = (if lenOK m3.d.length 300 = true then [sA b c m t f, sB b2 c2 m3 true true] else [sA b c m t f, sB b2 c2 m2 t2 f2]) := rfl
theorem sAB_dr1 : drainD [sA b c m t f, sB b2 c2 m2 t2 true] 1 = [m2.d] := rfl
theorem sAB_dr2 : drainG [sA b c m t f, sB b2 c2 m2 t2 true] 1 = [sA b c m t f, sB b2 c2 m2 t2 false] := rfl
theorem sAB_dr3 : drainG [sA b c m t f, sB b2 c2 m2 t2 false] 1 = [sA b c m t f, sB b2 c2 m2 t2 false] := rfl
theorem sAB_len : lenP [sA b c m t f, sB b2 c2 m2 true f2] 1 = 1 := rfl
theorem sAB_pt1 : (sA b c m t f).pt = ⟨some b⟩ := rfl
theorem sAB_pt2 : (sB b c m t f).pt = ⟨some b⟩ := rfl
end
theorem ix_20 {x y : OneG} : ix [x, y] 0 = x := rfl
theorem ix_21 {x y : OneG} : ix [x, y] 1 = y := rfl
theorem wrapU (n : UInt8) : IntKind.i64.wrap (n.toNat : Int) = n.toNat := wrapId (by omega) (by have := n.toNat_lt; omega)
attribute [local irreducible] BrK GenK EGenK EUnitK CallK FnK CallV GuardO GuardC CondW opX opK opKc chkR eqR seqK blkK endL WL WD W LoopW BinK Tr drewK resL PickK NotK NilK ExtrK getK Instr.storeAt Instr.loadAt Instr.fieldAt Instr.indexAt Instr.lookup Instr.mapUpdate Instr.box Instr.alloc Instr.build Instr.buildSlice Instr.makeSlice Instr.makeMap Instr.sliceAt Instr.field Instr.index Instr.makeInterface Instr.typeAssert Builtin.len_ Builtin.append_ Builtin.cap_ Builtin.min_ Builtin.max_ Builtin.copy_ Builtin.clear_ convert binOp mp blk rob sl sep ex fact old
end Go.Proofs.Ytlhmbcmkpafjoaa

namespace Go.Proofs.Ytlhmbcmkpafjoaa
open Go Go.Wk
set_option maxHeartbeats 3200000
set_option maxRecDepth 10000
def OneG.conf (g : OneG) : PortC := ⟨g.q, g.i, g.size, g.depth⟩
theorem mk0_conf {b c : Nat} {x : PortC} : (OneG.mk0 b c x).conf = x := rfl
theorem mk0_pt {b c : Nat} {x : PortC} : (OneG.mk0 b c x).pt = ⟨some b⟩ := rfl
theorem mk0_core {b c : Nat} {x : PortC} : (OneG.mk0 b c x).core = portM x := rfl
theorem ix_set_self {xs : List OneG} {k : Nat} {x : OneG} (h : k < xs.length) : ix (xs.set k x) (k : Int) = x := by rw [ix_nat (by simpa using h)]; simp
theorem ix_set_ne {xs : List OneG} {k j : Nat} {x : OneG} (h : j ≠ k) (hj : j < xs.length) : ix (xs.set k x) (j : Int) = ix xs (j : Int) := by
  rw [ix_nat (by simpa using hj), ix_nat hj, List.getElem_set_ne (Ne.symm h)]
theorem oneA_conf {g : OneG} : oneA g = oneA g := rfl
theorem one_open {g : OneG} {l : List Asrt} {X : WP} (hx : ∀ v0, Tr (onB g.b g.q g.i g.size g.depth v0 g.lost :: l) X) : Tr (oneA g :: l) X := by
  cases hq : g.q
  · refine oneS_open hq ?_
    have := hx (.iface 154 (.pointer (some ⟨g.c, 0, none⟩)))
    rw [hq] at this
    exact this.imp (Imp.cons (Imp.trans Imp.tail Imp.tail))
  · refine oneQ_open hq ?_
    have := hx (.iface 151 (.pointer (some ⟨g.c, 0, none⟩)))
    rw [hq] at this
    exact this.imp (Imp.cons (Imp.trans Imp.tail (Imp.trans Imp.tail Imp.tail)))
theorem clear_core {gs g2 : List OneG} (hl : g2.length = gs.length) (_hcf : g2.map OneG.conf = gs.map OneG.conf) (h : ∀ j : Nat, j < gs.length → (ix g2 (j : Int)).core = portM (ix gs (j : Int)).conf) : g2.map OneG.core = gs.map fun g => portM g.conf :=
  List.ext_getElem (by simp [hl]) fun i h1 h2 => by
    have h1' : i < gs.length := by simpa using h2
    have := h i h1'
    rw [ix_nat (by omega), ix_nat h1'] at this
    simpa using this
attribute [local irreducible] BrK GenK EGenK EUnitK CallK FnK CallV GuardO GuardC CondW opX opK opKc chkR eqR seqK blkK endL WL WD W LoopW BinK Tr drewK resL PickK NotK NilK ExtrK getK Instr.storeAt Instr.loadAt Instr.fieldAt Instr.indexAt Instr.lookup Instr.mapUpdate Instr.box Instr.alloc Instr.build Instr.buildSlice Instr.makeSlice Instr.makeMap Instr.sliceAt Instr.field Instr.index Instr.makeInterface Instr.typeAssert Builtin.len_ Builtin.append_ Builtin.cap_ Builtin.min_ Builtin.max_ Builtin.copy_ Builtin.clear_ convert binOp mp blk rob sl sep ex fact old
theorem pcan0_ok {k : Int} {q i : Bool} : Trip Try.prog 76 [.pointer none, .int .i64 k, .bool q, .bool i].toArray [] fun v l' => v = .bool false ∧ l' = [] := by
  intro F K hK
  simp only [List.nil_append]
  (refine Tr.enter (rs := [.tmp 8]) mixed fn76 rfl (by simp +arith [Try.ntmps76]) fun u => ?_; simp only [cd76, Try.f76])
  ((try simp only [WKb, ↓reduceIte, Nat.reduceEqDiff, Nat.reduceAdd]) <;> (repeat' ((first
    | (refine G.tr ?_; first | refine S.a ?_ | refine Tr.brK ?_ ?_ | (refine G.call 75 ?_; first | refine S.c ?_ (h := find_none) | refine S.c ?_ (h := find_in (by omega) (by omega)) | refine S.c ?_ (h := find_out (by omega))) | refine S.n fun _ => ?_ | refine S.i fun hix => ?_ | (refine S.g fun hb => ?_; (try simp only [hb])) | (refine S.s (fun hb => ?_) (fun hb => ?_) <;> ((try simp only [hb]) <;> (try (have hp := hb; simp only [WKs] at hp; (try have hq := Int.not_le.2 hp); (try have hq := Int.not_lt.2 hp))))))
    | rintro _ _ ⟨rfl, rfl⟩
    | ((fail_if_success refine G.tr ?_); exact G.prop S.p)
    | fail) <;> (try simp only [WKb, ↓reduceIte, Nat.reduceEqDiff]))))
  all_goals
    refine Tr.fin hK ⟨rfl, rfl⟩ ?_
    ((try clear hK) <;> (try simp only [WKe, *]) <;> repeat (first | with_reducible exact EntR.done | refine S.e ?_ | (refine S.f ?_ <;> (try simp only [WKe, ↓reduceIte, reduceCtorEq, Int.reduceEq, *])) | with_reducible apply EntR.ex | refine EntR.drop (F := F) ?_ | refine EntR.drop ?_))

theorem plen0_ok {k : Int} : Trip Try.prog 63 [.pointer none, .int .i64 k].toArray [] fun v l' => v = .int .i64 0 ∧ l' = [] := by
  intro F K hK
  simp only [List.nil_append]
  (refine Tr.enter (rs := [.tmp 4]) mixed fn63 rfl (by simp +arith [Try.ntmps63]) fun u => ?_; simp only [cd63, Try.f63])
  ((try simp only [WKb, ↓reduceIte, Nat.reduceEqDiff, Nat.reduceAdd]) <;> (repeat' ((first
    | (refine G.tr ?_; first | refine S.a ?_ | refine Tr.brK ?_ ?_ | (refine G.call 75 ?_; first | refine S.c ?_ (h := find_none) | refine S.c ?_ (h := find_in (by omega) (by omega)) | refine S.c ?_ (h := find_out (by omega))) | (refine G.call 101 ?_; refine S.c ?_ (h := qlen_ok)) | (refine G.call 103 ?_; refine S.c ?_ (h := slen_ok)) | refine S.n fun _ => ?_ | refine S.i fun hix => ?_ | (refine S.g fun hb => ?_; (try simp only [hb])) | (refine S.s (fun hb => ?_) (fun hb => ?_) <;> ((try simp only [hb]) <;> (try (have hp := hb; simp only [WKs] at hp; (try have hq := Int.not_le.2 hp); (try have hq := Int.not_lt.2 hp))))))
    | rintro _ _ ⟨rfl, rfl⟩
    | ((fail_if_success refine G.tr ?_); exact G.prop S.p)
    | fail) <;> (try simp only [WKb, ↓reduceIte]))))
  all_goals
    refine Tr.fin hK ⟨rfl, rfl⟩ ?_
    ((try clear hK) <;> (try simp only [WKe, *]) <;> repeat (first | with_reducible exact EntR.done | refine S.e ?_ | (refine S.f ?_ <;> (try simp only [WKe, ↓reduceIte, reduceCtorEq, Int.reduceEq, *])) | with_reducible apply EntR.ex | refine EntR.drop (F := F) ?_ | refine EntR.drop ?_))

theorem plost0_ok {k : Int} : Trip Try.prog 64 [.pointer none, .int .i64 k].toArray [] fun v l' => v = .int .i64 0 ∧ l' = [] := by
  intro F K hK
  simp only [List.nil_append]
  (refine Tr.enter (rs := [.tmp 4]) mixed fn64 rfl (by simp +arith [Try.ntmps64]) fun u => ?_; simp only [cd64, Try.f64])
  ((try simp only [WKb, ↓reduceIte, Nat.reduceEqDiff, Nat.reduceAdd]) <;> (repeat' ((first
    | (refine G.tr ?_; first | refine S.a ?_ | refine Tr.brK ?_ ?_ | (refine G.call 75 ?_; first | refine S.c ?_ (h := find_none) | refine S.c ?_ (h := find_in (by omega) (by omega)) | refine S.c ?_ (h := find_out (by omega))) | refine S.n fun _ => ?_ | refine S.i fun hix => ?_ | (refine S.g fun hb => ?_; (try simp only [hb])) | (refine S.s (fun hb => ?_) (fun hb => ?_) <;> ((try simp only [hb]) <;> (try (have hp := hb; simp only [WKs] at hp; (try have hq := Int.not_le.2 hp); (try have hq := Int.not_lt.2 hp))))))
    | rintro _ _ ⟨rfl, rfl⟩
    | ((fail_if_success refine G.tr ?_); exact G.prop S.p)
    | fail) <;> (try simp only [WKb, ↓reduceIte]))))
  all_goals
    refine Tr.fin hK ⟨rfl, rfl⟩ ?_
    ((try clear hK) <;> (try simp only [WKe, *]) <;> repeat (first | with_reducible exact EntR.done | refine S.e ?_ | (refine S.f ?_ <;> (try simp only [WKe, ↓reduceIte, reduceCtorEq, Int.reduceEq, *])) | with_reducible apply EntR.ex | refine EntR.drop (F := F) ?_ | refine EntR.drop ?_))

theorem pinto0_ok {k : Int} {q : Bool} {v0 : Value} : Trip Try.prog 65 [.pointer none, .int .i64 k, .bool q, v0].toArray [] fun v l' => v = .int .i64 3 ∧ l' = [] := by
  intro F K hK
  simp only [List.nil_append]
  (refine Tr.enter (rs := [.tmp 8]) mixed fn65 rfl (by simp +arith [Try.ntmps65]) fun u => ?_; simp only [cd65, Try.f65])
  ((try simp only [WKb, ↓reduceIte, Nat.reduceEqDiff, Nat.reduceAdd]) <;> (repeat' ((first
    | (refine G.tr ?_; first | refine S.a ?_ | refine Tr.brK ?_ ?_ | (refine G.call 76 ?_; first | refine S.c ?_ (h := pcan0_ok) | refine S.c ?_ (h := can_ok)) | (refine G.call 102 ?_; refine S.c ?_ (h := qput_ok ?_ ?_)) | (refine G.call 104 ?_; refine S.c ?_ (h := sput_ok ?_)) | refine S.n fun _ => ?_ | refine S.i fun hix => ?_ | (refine S.g fun hb => ?_; (try simp only [hb])) | (refine S.s (fun hb => ?_) (fun hb => ?_) <;> ((try simp only [hb]) <;> (try (have hp := hb; simp only [WKs] at hp; (try have hq := Int.not_le.2 hp); (try have hq := Int.not_lt.2 hp))))))
    | rintro _ _ ⟨rfl, rfl⟩
    | rintro _ _ ⟨_, rfl, rfl⟩
    | rintro _ _ ⟨_, _, rfl, rfl⟩
    | ((fail_if_success refine G.tr ?_); exact G.prop S.p)
    | fail) <;> (try simp only [WKb, ↓reduceIte]))))
  all_goals
    refine Tr.fin hK ⟨rfl, rfl⟩ ?_
    ((try clear hK) <;> (try simp only [WKe, *]) <;> repeat (first | with_reducible exact EntR.done | refine S.e ?_ | (refine S.f ?_ <;> (try simp only [WKe, ↓reduceIte, reduceCtorEq, Int.reduceEq, *])) | with_reducible apply EntR.ex | refine EntR.drop (F := F) ?_ | refine EntR.drop ?_))

theorem pwrite0_ok {k : Int} {v0 : Value} : Trip Try.prog 42 [.pointer none, .int .i64 k, v0].toArray [] fun v l' => v = .int .i64 3 ∧ l' = [] := by
  intro F K hK
  simp only [List.nil_append]
  (refine Tr.enter (rs := [.tmp 6]) mixed fn42 rfl (by simp +arith [Try.ntmps42]) fun u => ?_; simp only [cd42, Try.f42])
  ((try simp only [WKb, ↓reduceIte, Nat.reduceEqDiff, Nat.reduceAdd]) <;> (repeat' ((first
    | (refine G.tr ?_; first | refine S.a ?_ | refine Tr.brK ?_ ?_ | (refine G.call 65 ?_; first | refine S.c ?_ (h := pinto0_ok) | refine S.c ?_ (h := into_ok ?_ ?_)) | refine S.n fun _ => ?_ | refine S.i fun hix => ?_ | (refine S.g fun hb => ?_; (try simp only [hb])) | (refine S.s (fun hb => ?_) (fun hb => ?_) <;> ((try simp only [hb]) <;> (try (have hp := hb; simp only [WKs] at hp; (try have hq := Int.not_le.2 hp); (try have hq := Int.not_lt.2 hp))))))
    | rintro _ _ ⟨rfl, rfl⟩
    | rintro _ _ ⟨_, _, rfl, rfl⟩
    | ((fail_if_success refine G.tr ?_); exact G.prop S.p)
    | fail) <;> (try simp only [WKb, ↓reduceIte]))))
  all_goals
    refine Tr.fin hK ⟨rfl, rfl⟩ ?_
    ((try clear hK) <;> (try simp only [WKe, *]) <;> repeat (first | with_reducible exact EntR.done | refine S.e ?_ | (refine S.f ?_ <;> (try simp only [WKe, ↓reduceIte, reduceCtorEq, Int.reduceEq, *])) | with_reducible apply EntR.ex | refine EntR.drop (F := F) ?_ | refine EntR.drop ?_))

theorem psend0_ok {k : Int} {v0 : Value} : Trip Try.prog 49 [.pointer none, .int .i64 k, v0].toArray [] fun v l' => v = .int .i64 3 ∧ l' = [] := by
  intro F K hK
  simp only [List.nil_append]
  (refine Tr.enter (rs := [.tmp 6]) mixed fn49 rfl (by simp +arith [Try.ntmps49]) fun u => ?_; simp only [cd49, Try.f49])
  ((try simp only [WKb, ↓reduceIte, Nat.reduceEqDiff, Nat.reduceAdd]) <;> (repeat' ((first
    | (refine G.tr ?_; first | refine S.a ?_ | refine Tr.brK ?_ ?_ | (refine G.call 65 ?_; first | refine S.c ?_ (h := pinto0_ok) | refine S.c ?_ (h := into_ok ?_ ?_)) | refine S.n fun _ => ?_ | refine S.i fun hix => ?_ | (refine S.g fun hb => ?_; (try simp only [hb])) | (refine S.s (fun hb => ?_) (fun hb => ?_) <;> ((try simp only [hb]) <;> (try (have hp := hb; simp only [WKs] at hp; (try have hq := Int.not_le.2 hp); (try have hq := Int.not_lt.2 hp))))))
    | rintro _ _ ⟨rfl, rfl⟩
    | rintro _ _ ⟨_, _, rfl, rfl⟩
    | ((fail_if_success refine G.tr ?_); exact G.prop S.p)
    | fail) <;> (try simp only [WKb, ↓reduceIte]))))
  all_goals
    refine Tr.fin hK ⟨rfl, rfl⟩ ?_
    ((try clear hK) <;> (try simp only [WKe, *]) <;> repeat (first | with_reducible exact EntR.done | refine S.e ?_ | (refine S.f ?_ <;> (try simp only [WKe, ↓reduceIte, reduceCtorEq, Int.reduceEq, *])) | with_reducible apply EntR.ex | refine EntR.drop (F := F) ?_ | refine EntR.drop ?_))

theorem pout0_ok {k : Int} {q : Bool} : Trip Try.prog 66 [.pointer none, .int .i64 k, .bool q].toArray [] fun v l' => v = .tuple #[.slice none 0 0, .int .i64 3] ∧ l' = [] := by
  intro F K hK
  simp only [List.nil_append]
  (refine Tr.enter (rs := [.tmp 6, .tmp 7]) mixed fn66 rfl (by simp +arith [Try.ntmps66]) fun u => ?_; simp only [cd66, Try.f66])
  ((try simp only [WKb, ↓reduceIte, Nat.reduceEqDiff, Nat.reduceAdd]) <;> (repeat' ((first
    | (refine G.tr ?_; first | refine S.a ?_ | refine Tr.brK ?_ ?_ | (refine G.call 76 ?_; first | refine S.c ?_ (h := pcan0_ok) | refine S.c ?_ (h := can_ok)) | (refine G.call 77 ?_; first | refine S.c ?_ (h := firstq_ok) | refine S.c ?_ (h := firsts_ok ?_)) | refine S.n fun _ => ?_ | refine S.i fun hix => ?_ | (refine S.g fun hb => ?_; (try simp only [hb])) | (refine S.s (fun hb => ?_) (fun hb => ?_) <;> ((try simp only [hb]) <;> (try (have hp := hb; simp only [WKs] at hp; (try have hq := Int.not_le.2 hp); (try have hq := Int.not_lt.2 hp))))))
    | rintro _ _ ⟨rfl, rfl⟩
    | rintro _ _ ⟨_, rfl, rfl⟩
    | ((fail_if_success refine G.tr ?_); exact G.prop S.p)
    | fail) <;> (try simp only [WKb, ↓reduceIte, Nat.reduceEqDiff]))))
  all_goals
    refine Tr.fin hK ⟨rfl, rfl⟩ ?_
    ((try clear hK) <;> (try simp only [WKe, *]) <;> repeat (first | with_reducible exact EntR.done | refine S.e ?_ | (refine S.f ?_ <;> (try simp only [WKe, ↓reduceIte, reduceCtorEq, Int.reduceEq, *])) | with_reducible apply EntR.ex | refine EntR.drop (F := F) ?_ | refine EntR.drop ?_))

theorem pread0_ok {k : Int} : Trip Try.prog 43 [.pointer none, .int .i64 k].toArray [] fun v l' => v = .tuple #[.slice none 0 0, .int .i64 3] ∧ l' = [] := by
  intro F K hK
  simp only [List.nil_append]
  (refine Tr.enter (rs := [.tmp 4, .tmp 5]) mixed fn43 rfl (by simp +arith [Try.ntmps43]) fun u => ?_; simp only [cd43, Try.f43])
  ((try simp only [WKb, ↓reduceIte, Nat.reduceEqDiff, Nat.reduceAdd]) <;> (repeat' ((first
    | (refine G.tr ?_; first | refine S.a ?_ | refine Tr.brK ?_ ?_ | (refine G.call 66 ?_; first | refine S.c ?_ (h := pout0_ok) | refine S.c ?_ (h := out_ok ?_)) | refine S.n fun _ => ?_ | refine S.i fun hix => ?_ | (refine S.g fun hb => ?_; (try simp only [hb])) | (refine S.s (fun hb => ?_) (fun hb => ?_) <;> ((try simp only [hb]) <;> (try (have hp := hb; simp only [WKs] at hp; (try have hq := Int.not_le.2 hp); (try have hq := Int.not_lt.2 hp))))))
    | rintro _ _ ⟨rfl, rfl⟩
    | rintro _ _ ⟨_, _, hrd, rfl, rfl⟩
    | ((fail_if_success refine G.tr ?_); exact G.prop S.p)
    | fail) <;> (try simp only [WKb, ↓reduceIte, Nat.reduceEqDiff]))))
  all_goals
    refine Tr.fin hK ⟨rfl, rfl⟩ ?_
    ((try clear hK) <;> (try simp only [WKe, *]) <;> repeat (first | with_reducible exact EntR.done | refine S.e ?_ | (refine S.f ?_ <;> (try simp only [WKe, ↓reduceIte, reduceCtorEq, Int.reduceEq, *])) | with_reducible apply EntR.ex | refine EntR.drop (F := F) ?_ | refine EntR.drop ?_))

theorem preceive0_ok {k : Int} : Trip Try.prog 51 [.pointer none, .int .i64 k].toArray [] fun v l' => v = .tuple #[.slice none 0 0, .int .i64 3] ∧ l' = [] := by
  intro F K hK
  simp only [List.nil_append]
  (refine Tr.enter (rs := [.tmp 4, .tmp 5]) mixed fn51 rfl (by simp +arith [Try.ntmps51]) fun u => ?_; simp only [cd51, Try.f51])
  ((try simp only [WKb, ↓reduceIte, Nat.reduceEqDiff, Nat.reduceAdd]) <;> (repeat' ((first
    | (refine G.tr ?_; first | refine S.a ?_ | refine Tr.brK ?_ ?_ | (refine G.call 66 ?_; first | refine S.c ?_ (h := pout0_ok) | refine S.c ?_ (h := out_ok ?_)) | refine S.n fun _ => ?_ | refine S.i fun hix => ?_ | (refine S.g fun hb => ?_; (try simp only [hb])) | (refine S.s (fun hb => ?_) (fun hb => ?_) <;> ((try simp only [hb]) <;> (try (have hp := hb; simp only [WKs] at hp; (try have hq := Int.not_le.2 hp); (try have hq := Int.not_lt.2 hp))))))
    | rintro _ _ ⟨rfl, rfl⟩
    | rintro _ _ ⟨_, _, hrd, rfl, rfl⟩
    | ((fail_if_success refine G.tr ?_); exact G.prop S.p)
    | fail) <;> (try simp only [WKb, ↓reduceIte, Nat.reduceEqDiff]))))
  all_goals
    refine Tr.fin hK ⟨rfl, rfl⟩ ?_
    ((try clear hK) <;> (try simp only [WKe, *]) <;> repeat (first | with_reducible exact EntR.done | refine S.e ?_ | (refine S.f ?_ <;> (try simp only [WKe, ↓reduceIte, reduceCtorEq, Int.reduceEq, *])) | with_reducible apply EntR.ex | refine EntR.drop (F := F) ?_ | refine EntR.drop ?_))

theorem pdrain0_ok {k : Int} : Trip Try.prog 73 [.pointer none, .int .i64 k].toArray [] fun v l' => v = .slice none 0 0 ∧ l' = [] := by
  intro F K hK
  simp only [List.nil_append]
  (refine Tr.enter (rs := [.tmp 4]) mixed fn73 rfl (by simp +arith [Try.ntmps73]) fun u => ?_; simp only [cd73, Try.f73])
  ((try simp only [WKb, ↓reduceIte, Nat.reduceEqDiff, Nat.reduceAdd]) <;> (repeat' ((first
    | (refine G.tr ?_; first | refine S.a ?_ | refine Tr.brK ?_ ?_ | (refine G.call 75 ?_; first | refine S.c ?_ (h := find_none) | refine S.c ?_ (h := find_in (by omega) (by omega)) | refine S.c ?_ (h := find_out (by omega))) | (refine G.call 57 ?_; refine S.c ?_ (h := clone_ok (by omega))) | refine S.n fun _ => ?_ | refine S.i fun hix => ?_ | (refine S.g fun hb => ?_; (try simp only [hb])) | (refine S.s (fun hb => ?_) (fun hb => ?_) <;> ((try simp only [hb]) <;> (try (have hp := hb; simp only [WKs] at hp; (try have hq := Int.not_le.2 hp); (try have hq := Int.not_lt.2 hp))))))
    | rintro _ _ ⟨rfl, rfl⟩
    | rintro _ _ ⟨_, rfl, rfl⟩
    | ((fail_if_success refine G.tr ?_); exact G.prop S.p)
    | fail) <;> (try simp only [WKb, ↓reduceIte, Nat.reduceEqDiff]))))
  all_goals
    refine Tr.fin hK ⟨rfl, rfl⟩ ?_
    ((try clear hK) <;> (try simp only [WKe, *]) <;> repeat (first | with_reducible exact EntR.done | refine S.e ?_ | (refine S.f ?_ <;> (try simp only [WKe, ↓reduceIte, reduceCtorEq, Int.reduceEq, *])) | with_reducible apply EntR.ex | refine EntR.drop (F := F) ?_ | refine EntR.drop ?_))

theorem pdeliver0_ok {k : Int} {v0 : Value} : Trip Try.prog 68 [.pointer none, .int .i64 k, v0].toArray [] fun v l' => v = .bool false ∧ l' = [] := by
  intro F K hK
  simp only [List.nil_append]
  (refine Tr.enter (rs := [.tmp 6]) mixed fn68 rfl (by simp +arith [Try.ntmps68]) fun u => ?_; simp only [cd68, Try.f68])
  ((try simp only [WKb, ↓reduceIte, Nat.reduceEqDiff, Nat.reduceAdd]) <;> (repeat' ((first
    | (refine G.tr ?_; first | refine S.a ?_ | refine Tr.brK ?_ ?_ | (refine G.call 75 ?_; first | refine S.c ?_ (h := find_none) | refine S.c ?_ (h := find_in (by omega) (by omega)) | refine S.c ?_ (h := find_out (by omega))) | (refine G.call 102 ?_; refine S.c ?_ (h := qput_ok ?_ ?_)) | (refine G.call 104 ?_; refine S.c ?_ (h := sput_ok ?_)) | refine S.n fun _ => ?_ | refine S.i fun hix => ?_ | (refine S.g fun hb => ?_; (try simp only [hb])) | (refine S.s (fun hb => ?_) (fun hb => ?_) <;> ((try simp only [hb]) <;> (try (have hp := hb; simp only [WKs] at hp; (try have hq := Int.not_le.2 hp); (try have hq := Int.not_lt.2 hp))))))
    | rintro _ _ ⟨rfl, rfl⟩
    | rintro _ _ ⟨_, rfl, rfl⟩
    | rintro _ _ ⟨_, _, rfl, rfl⟩
    | ((fail_if_success refine G.tr ?_); exact G.prop S.p)
    | fail) <;> (try simp only [WKb, ↓reduceIte, Nat.reduceEqDiff]))))
  all_goals
    refine Tr.fin hK ⟨rfl, rfl⟩ ?_
    ((try clear hK) <;> (try simp only [WKe, *]) <;> repeat (first | with_reducible exact EntR.done | refine S.e ?_ | (refine S.f ?_ <;> (try simp only [WKe, ↓reduceIte, reduceCtorEq, Int.reduceEq, *])) | with_reducible apply EntR.ex | refine EntR.drop (F := F) ?_ | refine EntR.drop ?_))

theorem inR_nil18 {α : Type} {k : Int} : inR ([] : List α) k = False := by unfold inR; simp
theorem pnil1 {k : Int} {q i : Bool} : canB [] k q i = false := by simp [canB, inR_nil18]
theorem pnil2 {k : Int} : sizeP [] k = 0 ∧ lenP [] k = 0 ∧ lostP [] k = 0 ∧ drainD [] k = [] ∧ drainG [] k = [] ∧ delB [] k = false := by simp [sizeP, lenP, lostP, drainD, drainG, delB, inR_nil18]
theorem pnil3 {k : Int} {q : Bool} : outC [] k q = 3 ∧ outD [] k q = [] := by simp [outD, outC, canB, inR_nil18]
theorem pnil4 {k : Int} {q : Bool} {s : SV} : outG [] k q s = [] := by simp [outG, canB, inR_nil18]
theorem pnil5 {k : Int} {q : Bool} {n : Nat} : intoC [] k q n = 3 := by simp [intoC, canB, inR_nil18]
theorem pnil6 {k : Int} {q : Bool} {s : SV} {m : Msg} : intoG [] k q s m = [] := by simp [intoG, canB, inR_nil18]
theorem pnil7 {k : Int} {s : SV} {m : Msg} : delG [] k s m = [] := by simp [delG, inR_nil18]
theorem pnil8 {k : Int} : (ix ([] : List OneG) k).ms = [] ∧ (ix ([] : List OneG) k).m.d = [] := by
  have : ix ([] : List OneG) k = default := by simp [ix]
  rw [this]; exact ⟨rfl, rfl⟩
theorem pnilsz : ([] : List OneG).map OneG.pt = [] ∧ (([] : List UInt8).length : Int) = 0 ∧ (([] : List Msg).length : Int) = 0 ∧ IntKind.i64.wrap (0 + 0) = 0 := ⟨rfl, rfl, rfl, rfl⟩
theorem pdrain1_ok {p : Nat} {s : SV} {k : Int} : Trip Try.prog 73 [.pointer (some ⟨p, 0, none⟩), .int .i64 k].toArray [poB p s, fam oneA [], sl false s.v ([] : List Pt)]
    fun v l' => ∃ s2, v = SV.v s2 ∧ l' = [poB p s, fam oneA [], sl false s.v ([] : List Pt), sl false (SV.v s2) ([] : List Msg), fzl ([] : List Msg)] := by
  have := drain0_ok (p := p) (s := s) (gs := []) (k := k) pnil2.2.2.2.1 (by rw [pnil8.2]; simp)
  rw [show drainG [] k = [] from pnil2.2.2.2.2.1] at this
  exact this

instance : ElT 61 Pt := ⟨⟩
structure Act18 where
  act : Int
  k : Int
  b : Msg
instance : Inhabited Act18 := ⟨⟨0, 0, default⟩⟩
instance : En Act18 := ⟨fun d => [.int .i64 d.act, .int .i64 d.k, d.b.s.v], 3, fun _ => rfl, fun _ => rfl, by decide⟩
theorem ix_none (b : Nat) : ix [Pt.mk none, Pt.mk (some b)] ((0 : Nat) : Int) = Pt.mk none ∧ ix [Pt.mk none, Pt.mk (some b)] ((1 : Nat) : Int) = Pt.mk (some b) := ⟨rfl, rfl⟩
end Go.Proofs.Ytlhmbcmkpafjoaa

namespace Go.Proofs.Ytlhmbcmkpafjoaa
open Go Go.Wk
set_option maxHeartbeats 6400000
set_option maxRecDepth 10000
/-- A port of the document, ps it is told of. -/
structure AP where
  c : PortC
  ms : List (List UInt8)
  fresh : Bool
  lost : Int
instance : Inhabited AP := ⟨⟨default, [], false, 0⟩⟩
instance : ElT 137 (SL Msg) := ⟨⟩
def mo (x : SL Msg) : List (List UInt8) := x.d.map SL.d
abbrev rB (r : Nat) (a b c d : SV) : Asrt := blk r (.cells [a.v, b.v, c.v, d.v].toArray 140 (0, 0))
def canA (ps : List AP) (k : Int) (q i : Bool) : Bool := if inR ps k then (((ix ps k).c.q == q) && ((ix ps k).c.i == i)) else false
def intoCA (ps : List AP) (k : Int) (q : Bool) (n : Nat) : Int := if canA ps k q false = true then (if lenOK n (ix ps k).c.size = true then (if q = true then (if (ix ps k).c.depth ≤ (ix ps k).ms.length then 1 else 0) else 0) else 2) else 3
def intoA (ps : List AP) (k : Int) (q : Bool) (m : List UInt8) : List AP := if canA ps k q false = true then (if lenOK m.length (ix ps k).c.size = true then (if q = true then (if (ix ps k).c.depth ≤ (ix ps k).ms.length then ps else ps.set k.toNat { ix ps k with ms := (ix ps k).ms ++ [m], fresh := false }) else ps.set k.toNat { ix ps k with ms := [m], fresh := true }) else ps) else ps
def outCA (ps : List AP) (k : Int) (q : Bool) : Int := if canA ps k q true = true then (if ((ix ps k).ms.length : Int) = 0 then 1 else 0) else 3
def outDA (ps : List AP) (k : Int) (q : Bool) : List UInt8 := if canA ps k q true = true then (if ((ix ps k).ms.length : Int) = 0 then [] else ix (ix ps k).ms 0) else []
def outA (ps : List AP) (k : Int) (q : Bool) : List AP := if canA ps k q true = true then (if q = true then (if ((ix ps k).ms.length : Int) = 0 then ps else ps.set k.toNat { ix ps k with ms := (ix ps k).ms.drop 1, fresh := false }) else ps) else ps
def drainDA (ps : List AP) (k : Int) : List (List UInt8) := if canA ps k true false = true then (ix ps k).ms else if canA ps k false false = true then (if (ix ps k).fresh = true then (ix ps k).ms else []) else []
def drainA (ps : List AP) (k : Int) : List AP := if canA ps k true false = true then ps.set k.toNat { ix ps k with ms := [], fresh := false } else if canA ps k false false = true then (if (ix ps k).fresh = true then ps.set k.toNat { ix ps k with fresh := false } else ps) else ps
def delBA (ps : List AP) (k : Int) : Bool := if canA ps k false true = true then true else if canA ps k true true = true then !decide ((ix ps k).c.depth ≤ (ix ps k).ms.length) else false
def delA (ps : List AP) (k : Int) (m : List UInt8) : List AP := if canA ps k false true = true then ps.set k.toNat { ix ps k with ms := [m], fresh := false } else if canA ps k true true = true then (if (ix ps k).c.depth ≤ (ix ps k).ms.length then ps.set k.toNat { ix ps k with fresh := false, lost := IntKind.i64.wrap ((ix ps k).lost + 1) } else ps.set k.toNat { ix ps k with ms := (ix ps k).ms ++ [m], fresh := false }) else ps
theorem ap_len {ps : List AP} {xs : List (SL Msg)} (h : xs.map mo = ps.map AP.ms) : xs.length = ps.length := by simpa using congrArg List.length h
theorem ap_ms {ps : List AP} {xs : List (SL Msg)} (h : xs.map mo = ps.map AP.ms) {k : Int} (h0 : 0 ≤ k) (h1 : k < ps.length) : (ix xs k).d.map SL.d = (ix ps k).ms := by
  have hl := ap_len h
  rw [← ix_map (f := AP.ms) h0 h1, ← h, ix_map (f := mo) h0 (by omega)]; rfl
theorem ap_mlen {ps : List AP} {xs : List (SL Msg)} (h : xs.map mo = ps.map AP.ms) {k : Int} (h0 : 0 ≤ k) (h1 : k < ps.length) : (ix xs k).d.length = (ix ps k).ms.length := by
  rw [← ap_ms h h0 h1]; simp
attribute [local irreducible] BrK GenK EGenK EUnitK CallK FnK CallV GuardO GuardC CondW opX opK opKc chkR eqR seqK blkK endL WL WD W LoopW BinK Tr drewK resL PickK NotK NilK ExtrK getK Instr.storeAt Instr.loadAt Instr.fieldAt Instr.indexAt Instr.lookup Instr.mapUpdate Instr.box Instr.alloc Instr.build Instr.buildSlice Instr.makeSlice Instr.makeMap Instr.sliceAt Instr.field Instr.index Instr.makeInterface Instr.typeAssert Builtin.len_ Builtin.append_ Builtin.cap_ Builtin.min_ Builtin.max_ Builtin.copy_ Builtin.clear_ convert binOp mp blk rob sl sep ex fact old
theorem rcan_ok {r : Nat} {a b c d : SV} {ps : List AP} {k : Int} {q i : Bool} : Trip Try.prog 71 [.pointer (some ⟨r, 0, none⟩), .int .i64 k, .bool q, .bool i].toArray [rB r a b c d, sl true a.v (ps.map AP.c)]
    fun v l' => v = .bool (canA ps k q i) ∧ l' = [rB r a b c d, sl true a.v (ps.map AP.c)] := by
  intro F K hK
  simp only [List.cons_append, List.nil_append]
  have hl : (ps.map AP.c).length = ps.length := List.length_map _
  (refine Tr.enter (rs := [.tmp 8]) mixed fn71 rfl (by simp +arith [Try.ntmps71]) fun u => ?_; simp only [cd71, Try.f71])
  by_cases h : inR ps k
  · have ⟨h0, h1⟩ := h
    have hm := ix_map (f := AP.c) h0 h1
    ((try simp only [WKb, ↓reduceIte, Nat.reduceEqDiff, Nat.reduceAdd]) <;> (repeat' ((first
    | (refine G.tr ?_; first | refine S.a ?_ | refine Tr.brK ?_ ?_ | refine S.n fun _ => ?_ | refine S.i fun hix => ?_ | (refine S.g fun hb => ?_; (try simp only [hb])) | (refine S.s (fun hb => ?_) (fun hb => ?_) <;> ((try simp only [hb]) <;> (try (have hp := hb; simp only [WKs] at hp; (try have hq := Int.not_le.2 hp); (try have hq := Int.not_lt.2 hp))))))
    | ((fail_if_success refine G.tr ?_); exact G.prop S.p)
    | fail) <;> (try simp only [WKb, ↓reduceIte, Nat.reduceEqDiff, hm]))))
    all_goals
      refine Tr.fin hK ⟨(by first | (simp [*, canA]; done) | (simp only [WKe, ↓reduceIte, reduceCtorEq, Int.reduceEq, eq_self, *, canA]; done) | (simp only [WKe, ↓reduceIte, reduceCtorEq, Int.reduceEq, *, canA]; rfl)), rfl⟩ ?_
      ((try clear hK) <;> (try simp only [WKe, *]) <;> repeat (first | with_reducible exact EntR.done | refine S.e ?_ | (refine S.f ?_ <;> (try simp only [WKe, ↓reduceIte, reduceCtorEq, Int.reduceEq, *])) | with_reducible apply EntR.ex | refine EntR.drop (F := F) ?_ | refine EntR.drop ?_))
  · have h' := h
    unfold inR at h'
    ((try simp only [WKb, ↓reduceIte, Nat.reduceEqDiff, Nat.reduceAdd]) <;> (repeat' ((first
    | (refine G.tr ?_; first | refine S.a ?_ | refine Tr.brK ?_ ?_ | refine S.n fun _ => ?_ | refine S.i fun hix => ?_ | (refine S.g fun hb => ?_; (try simp only [hb])) | (refine S.s (fun hb => ?_) (fun hb => ?_) <;> ((try simp only [hb]) <;> (try (have hp := hb; simp only [WKs] at hp; (try have hq := Int.not_le.2 hp); (try have hq := Int.not_lt.2 hp))))))
    | ((fail_if_success refine G.tr ?_); exact G.prop S.p)
    | fail) <;> (try simp only [WKb, ↓reduceIte, Nat.reduceEqDiff]))))
    all_goals
      refine Tr.fin hK ⟨(by first | (simp [*, canA]; done) | (simp only [WKe, ↓reduceIte, reduceCtorEq, Int.reduceEq, eq_self, *, canA]; done) | (simp only [WKe, ↓reduceIte, reduceCtorEq, Int.reduceEq, *, canA]; rfl)), rfl⟩ ?_
      ((try clear hK) <;> (try simp only [WKe, *]) <;> repeat (first | with_reducible exact EntR.done | refine S.e ?_ | (refine S.f ?_ <;> (try simp only [WKe, ↓reduceIte, reduceCtorEq, Int.reduceEq, *])) | with_reducible apply EntR.ex | refine EntR.drop (F := F) ?_ | refine EntR.drop ?_))

theorem rset_ok {r : Nat} {a b c d s : SV} {xs : List (SL Msg)} {fs : List Bool} {os : List Int} {k lo : Int} {fr : Bool} {ms : List Msg} (h0 : 0 ≤ k) (h1 : k < xs.length) (h2 : fs.length = xs.length) (h3 : os.length = xs.length) (hb : xs.length ≤ 1000000) :
    Trip Try.prog 72 [.pointer (some ⟨r, 0, none⟩), .int .i64 k, s.v, .bool fr, .int .i64 lo].toArray [rB r a b c d, sl false b.v xs, fzl xs, sl false c.v fs, sl false d.v os, sl true s.v ms, fzl ms]
    fun v l' => ∃ b2 c2 d2, v = .tuple #[] ∧ l' = [rB r a b2 c2 d2, sl false b2.v (xs.set k.toNat (SL.mk s ms)), fzl (xs.set k.toNat (SL.mk s ms)), sl false c2.v (fs.set k.toNat fr), sl false d2.v (os.set k.toNat lo)] := by
  intro F K hK
  simp only [List.cons_append, List.nil_append]
  (refine Tr.enter (rs := []) mixed fn72 rfl (by simp +arith [Try.ntmps72]) fun u => ?_; simp only [cd72, Try.f72])
  ((try simp only [WKb, Nat.reduceAdd]) <;> (repeat' ((first
    | (refine G.tr ?_; first | refine S.a ?_ | refine Tr.brK ?_ ?_ | refine S.n fun _ => ?_ | refine S.i fun hix => ?_ | (refine S.g fun hb => ?_; (try simp only [hb])) | (refine S.s (fun hb => ?_) (fun hb => ?_) <;> ((try simp only [hb]) <;> (try (have hp := hb; simp only [WKs] at hp; (try have hq := Int.not_le.2 hp); (try have hq := Int.not_lt.2 hp))))))
    | ((fail_if_success refine G.tr ?_); exact G.prop S.p)
    | fail) <;> (try simp only [WKb, ↓reduceIte, Nat.reduceEqDiff, Nat.reduceAdd]))))
  all_goals
    apply Tr.fin hK ⟨_, _, _, rfl, rfl⟩
    ((try clear hK) <;> (try simp only [WKe, *]) <;> repeat (first | with_reducible exact EntR.done | refine S.e ?_ | (refine S.f ?_ <;> (try simp only [WKe, ↓reduceIte, reduceCtorEq, Int.reduceEq, *])) | with_reducible apply EntR.ex | refine EntR.drop (F := F) ?_ | refine EntR.drop ?_))

theorem canA_t {ps : List AP} {k : Int} {q i : Bool} (h : canA ps k q i = true) : 0 ≤ k ∧ k < ps.length ∧ (ix ps k).c.q = q ∧ (ix ps k).c.i = i := by
  unfold canA at h
  split at h
  · rename_i hr
    simp only [Bool.and_eq_true, beq_iff_eq] at h
    exact ⟨hr.1, hr.2, h.1, h.2⟩
  · cases h
theorem lenOK_t {n : Nat} {s : Int} : lenOK n s = true ↔ 1 ≤ (n : Int) ∧ (n : Int) ≤ s := by unfold lenOK; simp
theorem ap_set {ps : List AP} {xs : List (SL Msg)} (h : xs.map mo = ps.map AP.ms) {k : Nat} {y : SL Msg} {g : AP} (hg : mo y = g.ms) : (xs.set k y).map mo = (ps.set k g).map AP.ms := by rw [List.map_set, List.map_set, h, hg]
theorem ap_keep {β : Type} {f : AP → β} {ps : List AP} {k : Int} (h0 : 0 ≤ k) (h1 : k < ps.length) : (ps.map f).set k.toNat (f (ix ps k)) = ps.map f := by rw [← List.map_set]; exact map_same h0 h1 _ rfl
theorem rput_ok {r : Nat} {a b c d s : SV} {ps : List AP} {xs : List (SL Msg)} {k : Int} {q : Bool} {m : List UInt8} (hx : xs.map mo = ps.map AP.ms) (hb : ps.length ≤ 1000000) (hm : (ix ps k).ms.length ≤ 1000000) :
    Trip Try.prog 70 [.pointer (some ⟨r, 0, none⟩), .int .i64 k, .bool q, s.v].toArray [rB r a b c d, sl true a.v (ps.map AP.c), sl false b.v xs, fzl xs, sl false c.v (ps.map AP.fresh), sl false d.v (ps.map AP.lost), sl true s.v m]
    fun v l' => ∃ b2 c2 d2 xs2, xs2.map mo = (intoA ps k q m).map AP.ms ∧ v = .int .i64 (intoCA ps k q m.length) ∧ l' = [rB r a b2 c2 d2, sl true a.v ((intoA ps k q m).map AP.c), sl false b2.v xs2, fzl xs2, sl false c2.v ((intoA ps k q m).map AP.fresh), sl false d2.v ((intoA ps k q m).map AP.lost)] := by
  intro F K hK
  simp only [List.cons_append, List.nil_append]
  have hl := ap_len hx
  have hlc : (ps.map AP.c).length = ps.length := List.length_map _
  have hlo : (ps.map AP.lost).length = ps.length := List.length_map _
  have hlf : (ps.map AP.fresh).length = ps.length := List.length_map _
  (refine Tr.enter (rs := [.tmp 8]) mixed fn70 rfl (by simp +arith [Try.ntmps70]) fun u => ?_; simp only [cd70, Try.f70])
  cases hc : canA ps k q false
  · have hI : intoA ps k q m = ps := by simp [intoA, hc]
    ((try simp only [WKb, ↓reduceIte, Nat.reduceEqDiff, Nat.reduceAdd]) <;> (repeat' ((first
    | (refine G.tr ?_; first | refine S.a ?_ | refine Tr.brK ?_ ?_ | (refine G.call 71 ?_; refine S.c ?_ (h := rcan_ok)) | (refine G.call 72 ?_; refine S.c ?_ (h := rset_ok ?_ ?_ ?_ ?_ ?_)) | refine S.n fun _ => ?_ | refine S.i fun hix => ?_ | (refine S.g fun hb => ?_; (try simp only [hb])) | (refine S.s (fun hb => ?_) (fun hb => ?_) <;> ((try simp only [hb]) <;> (try (have hp := hb; simp only [WKs] at hp; (try have hq := Int.not_le.2 hp); (try have hq := Int.not_lt.2 hp))))))
    | rintro _ _ ⟨rfl, rfl⟩
    | rintro _ _ ⟨_, _, _, rfl, rfl⟩
    | ((fail_if_success refine G.tr ?_); exact G.prop S.p)
    | fail) <;> (try simp only [WKb, ↓reduceIte, hc]))))
    all_goals
      apply Tr.fin hK ⟨b, c, d, xs, by rw [hI]; exact hx, (by first | (simp [*, intoCA]; done) | (simp only [WKe, ↓reduceIte, reduceCtorEq, Int.reduceEq, eq_self, *, intoCA, hc]; done) | (simp only [WKe, ↓reduceIte, reduceCtorEq, Int.reduceEq, *, intoCA, hc]; rfl)), rfl⟩
      ((try clear hK) <;> (try simp only [WKe, *]) <;> repeat (first | with_reducible exact EntR.done | refine S.e ?_ | (refine S.f ?_ <;> (try simp only [WKe, hI, ↓reduceIte, reduceCtorEq, Int.reduceEq, *])) | with_reducible apply EntR.ex | refine EntR.drop (F := F) ?_ | refine EntR.drop ?_))
  · obtain ⟨h0, h1, hq, hi⟩ := canA_t hc
    have hmc := ix_map (f := AP.c) h0 h1
    have hmo := ix_map (f := AP.lost) h0 h1
    have hlm := ap_mlen hx h0 h1
    have hkc := ap_keep (f := AP.c) h0 h1
    have hkl := ap_keep (f := AP.lost) h0 h1
    cases hn : lenOK m.length (ix ps k).c.size
    · have hI : intoA ps k q m = ps := by simp [intoA, hc, hn]
      have hn' : ¬ (1 ≤ (m.length : Int) ∧ (m.length : Int) ≤ (ix ps k).c.size) := fun h => by rw [lenOK_t.2 h] at hn; cases hn
      ((try simp only [WKb, ↓reduceIte, Nat.reduceEqDiff, Nat.reduceAdd]) <;> (repeat' ((first
    | (refine G.tr ?_; first | refine S.a ?_ | refine Tr.brK ?_ ?_ | (refine G.call 71 ?_; refine S.c ?_ (h := rcan_ok)) | (refine G.call 72 ?_; refine S.c ?_ (h := rset_ok ?_ ?_ ?_ ?_ ?_)) | refine S.n fun _ => ?_ | refine S.i fun hix => ?_ | (refine S.g fun hb => ?_; (try simp only [hb])) | (refine S.s (fun hb => ?_) (fun hb => ?_) <;> ((try simp only [hb]) <;> (try (have hp := hb; simp only [WKs] at hp; (try have hq := Int.not_le.2 hp); (try have hq := Int.not_lt.2 hp))))))
    | rintro _ _ ⟨rfl, rfl⟩
    | rintro _ _ ⟨_, _, _, rfl, rfl⟩
    | ((fail_if_success refine G.tr ?_); exact G.prop S.p)
    | fail) <;> (try simp only [WKb, ↓reduceIte, Nat.reduceEqDiff, hc, hmc]))))
      all_goals
        apply Tr.fin hK ⟨b, c, d, xs, by rw [hI]; exact hx, (by first | (simp [*, intoCA]; done) | (simp only [WKe, ↓reduceIte, reduceCtorEq, Int.reduceEq, eq_self, *, intoCA, hc, hn]; done) | (simp only [WKe, ↓reduceIte, reduceCtorEq, Int.reduceEq, *, intoCA, hc, hn]; rfl)), rfl⟩
        ((try clear hK) <;> (try simp only [WKe, *]) <;> repeat (first | with_reducible exact EntR.done | refine S.e ?_ | (refine S.f ?_ <;> (try simp only [WKe, hI, ↓reduceIte, reduceCtorEq, Int.reduceEq, *])) | with_reducible apply EntR.ex | refine EntR.drop (F := F) ?_ | refine EntR.drop ?_))
    · have hn' := lenOK_t.1 hn
      cases q
      · have hI : intoA ps k false m = ps.set k.toNat { ix ps k with ms := [m], fresh := true } := by simp [intoA, hc, hn]
        have hS : ∀ t, (xs.set k.toNat ⟨t, [⟨s, m⟩]⟩).map mo = (intoA ps k false m).map AP.ms := fun t => by rw [hI]; exact ap_set hx rfl
        ((try simp only [WKb, ↓reduceIte, Nat.reduceEqDiff, Nat.reduceAdd]) <;> (repeat' ((first
    | (refine G.tr ?_; first | refine S.a ?_ | refine Tr.brK ?_ ?_ | (refine G.call 71 ?_; refine S.c ?_ (h := rcan_ok)) | (refine G.call 72 ?_; refine S.c ?_ (h := rset_ok ?_ ?_ ?_ ?_ ?_)) | refine S.n fun _ => ?_ | refine S.i fun hix => ?_ | (refine S.g fun hb => ?_; (try simp only [hb])) | (refine S.s (fun hb => ?_) (fun hb => ?_) <;> ((try simp only [hb]) <;> (try (have hp := hb; simp only [WKs] at hp; (try have hq := Int.not_le.2 hp); (try have hq := Int.not_lt.2 hp))))))
    | rintro _ _ ⟨rfl, rfl⟩
    | rintro _ _ ⟨_, _, _, rfl, rfl⟩
    | (refine G.call 72 ?_; refine Tr.freezeAt (α := Msg) (by (repeat (first | exact TakeA.here | apply TakeA.next)); done) ?_)
    | ((fail_if_success refine G.tr ?_); exact G.prop S.p)
    | fail) <;> (try simp only [WKb, ↓reduceIte, Nat.reduceEqDiff, hc, hmc, hmo]))))
        all_goals
          apply Tr.fin hK ⟨_, _, _, _, hS _, (by first | (simp [*, intoCA]; done) | (simp only [WKe, ↓reduceIte, reduceCtorEq, Int.reduceEq, eq_self, *, intoCA, hc, hn]; done) | (simp only [WKe, ↓reduceIte, reduceCtorEq, Int.reduceEq, *, intoCA, hc, hn]; rfl)), rfl⟩
          ((try clear hK) <;> (try simp only [WKe, List.map_set, *]) <;> repeat (first | with_reducible exact EntR.done | refine S.e ?_ | (refine S.f ?_ <;> (try simp only [WKe, hI, List.map_set, hkc, hkl, ↓reduceIte, reduceCtorEq, Int.reduceEq, *])) | with_reducible apply EntR.ex | refine EntR.drop (F := F) ?_ | refine EntR.drop ?_))
      · by_cases hf : (ix ps k).c.depth ≤ (ix ps k).ms.length
        · have hI : intoA ps k true m = ps := by simp [intoA, hc, hn, hf]
          ((try simp only [WKb, ↓reduceIte, Nat.reduceEqDiff, Nat.reduceAdd]) <;> (repeat' ((first
    | (refine G.tr ?_; first | refine S.a ?_ | refine Tr.brK ?_ ?_ | (refine G.call 71 ?_; refine S.c ?_ (h := rcan_ok)) | (refine G.call 72 ?_; refine S.c ?_ (h := rset_ok ?_ ?_ ?_ ?_ ?_)) | refine S.n fun _ => ?_ | refine S.i fun hix => ?_ | (refine S.g fun hb => ?_; (try simp only [hb])) | (refine S.s (fun hb => ?_) (fun hb => ?_) <;> ((try simp only [hb]) <;> (try (have hp := hb; simp only [WKs] at hp; (try have hq := Int.not_le.2 hp); (try have hq := Int.not_lt.2 hp))))))
    | rintro _ _ ⟨rfl, rfl⟩
    | rintro _ _ ⟨_, _, _, rfl, rfl⟩
    | (refine G.call 72 ?_; refine Tr.freezeAt (α := Msg) (by (repeat (first | exact TakeA.here | apply TakeA.next)); done) ?_)
    | ((fail_if_success refine G.tr ?_); exact G.prop S.p)
    | fail) <;> (try simp only [WKb, ↓reduceIte, Nat.reduceEqDiff, pl70, hc, hmc, hlm]))))
          all_goals
            apply Tr.fin hK ⟨b, c, d, xs, by rw [hI]; exact hx, (by first | (simp [*, intoCA]; done) | (simp only [WKe, ↓reduceIte, reduceCtorEq, Int.reduceEq, eq_self, *, intoCA, hc, hn, hf]; done) | (simp only [WKe, ↓reduceIte, reduceCtorEq, Int.reduceEq, *, intoCA, hc, hn, hf]; rfl)), rfl⟩
            ((try clear hK) <;> (try simp only [WKe, *]) <;> repeat (first | with_reducible exact EntR.done | refine S.e ?_ | (refine S.f ?_ <;> (try simp only [WKe, hI, ↓reduceIte, reduceCtorEq, Int.reduceEq, *])) | with_reducible apply EntR.ex | refine EntR.drop (F := F) ?_ | refine EntR.drop ?_))
        · have hI : intoA ps k true m = ps.set k.toNat { ix ps k with ms := (ix ps k).ms ++ [m], fresh := false } := by simp [intoA, hc, hn, hf]
          have hS : ∀ t, (xs.set k.toNat ⟨t, (ix xs k).d ++ [⟨s, m⟩]⟩).map mo = (intoA ps k true m).map AP.ms := fun t => by
            rw [hI]; exact ap_set hx (by simp [mo, ap_ms hx h0 h1])
          ((try simp only [WKb, ↓reduceIte, Nat.reduceEqDiff, Nat.reduceAdd]) <;> (repeat' ((first
    | (refine G.tr ?_; first | refine S.a ?_ | refine Tr.brK ?_ ?_ | (refine G.call 71 ?_; refine S.c ?_ (h := rcan_ok)) | (refine G.call 72 ?_; refine S.c ?_ (h := rset_ok ?_ ?_ ?_ ?_ ?_)) | refine S.n fun _ => ?_ | refine S.i fun hix => ?_ | (refine S.g fun hb => ?_; (try simp only [hb])) | (refine S.s (fun hb => ?_) (fun hb => ?_) <;> ((try simp only [hb]) <;> (try (have hp := hb; simp only [WKs] at hp; (try have hq := Int.not_le.2 hp); (try have hq := Int.not_lt.2 hp))))))
    | rintro _ _ ⟨rfl, rfl⟩
    | rintro _ _ ⟨_, _, _, rfl, rfl⟩
    | (refine G.call 72 ?_; refine Tr.freezeAt (α := Msg) (by (repeat (first | exact TakeA.here | apply TakeA.next)); done) ?_)
    | ((fail_if_success refine G.tr ?_); exact G.prop S.p)
    | fail) <;> (try simp only [WKb, ↓reduceIte, Nat.reduceEqDiff, pl70, hc, hmc, hmo, hlm]))))
          all_goals
            apply Tr.fin hK ⟨_, _, _, _, hS _, (by first | (simp [*, intoCA]; done) | (simp only [WKe, ↓reduceIte, reduceCtorEq, Int.reduceEq, eq_self, *, intoCA, hc, hn, hf]; done) | (simp only [WKe, ↓reduceIte, reduceCtorEq, Int.reduceEq, *, intoCA, hc, hn, hf]; rfl)), rfl⟩
            ((try clear hK) <;> (try simp only [WKe, List.map_set, *]) <;> repeat (first | with_reducible exact EntR.done | refine S.e ?_ | (refine S.f ?_ <;> (try simp only [WKe, hI, List.map_set, hkc, hkl, ↓reduceIte, reduceCtorEq, Int.reduceEq, *])) | with_reducible apply EntR.ex | refine EntR.drop (F := F) ?_ | refine EntR.drop ?_))

theorem rwrite_ok {r : Nat} {a b c d s : SV} {ps : List AP} {xs : List (SL Msg)} {k : Int} {m : List UInt8} (hx : xs.map mo = ps.map AP.ms) (hb : ps.length ≤ 1000000) (hm : (ix ps k).ms.length ≤ 1000000) :
    Trip Try.prog 48 [.pointer (some ⟨r, 0, none⟩), .int .i64 k, s.v].toArray [rB r a b c d, sl true a.v (ps.map AP.c), sl false b.v xs, fzl xs, sl false c.v (ps.map AP.fresh), sl false d.v (ps.map AP.lost), sl true s.v m]
    fun v l' => ∃ b2 c2 d2 xs2, xs2.map mo = (intoA ps k false m).map AP.ms ∧ v = .int .i64 (intoCA ps k false m.length) ∧ l' = [rB r a b2 c2 d2, sl true a.v ((intoA ps k false m).map AP.c), sl false b2.v xs2, fzl xs2, sl false c2.v ((intoA ps k false m).map AP.fresh), sl false d2.v ((intoA ps k false m).map AP.lost)] := by
  intro F K hK
  simp only [List.cons_append, List.nil_append]
  (refine Tr.enter (rs := [.tmp 6]) mixed fn48 rfl (by simp +arith [Try.ntmps48]) fun u => ?_; simp only [cd48, Try.f48])
  ((try simp only [WKb, ↓reduceIte, Nat.reduceEqDiff, Nat.reduceAdd]) <;> (repeat' ((first
    | (refine G.tr ?_; first | refine S.a ?_ | refine Tr.brK ?_ ?_ | (refine G.call 70 ?_; refine S.c ?_ (h := rput_ok ?_ ?_ ?_)) | refine S.n fun _ => ?_ | refine S.i fun hix => ?_ | (refine S.g fun hb => ?_; (try simp only [hb])) | (refine S.s (fun hb => ?_) (fun hb => ?_) <;> ((try simp only [hb]) <;> (try (have hp := hb; simp only [WKs] at hp; (try have hq := Int.not_le.2 hp); (try have hq := Int.not_lt.2 hp))))))
    | rintro _ _ ⟨_, _, _, _, hxs, rfl, rfl⟩
    | ((fail_if_success refine G.tr ?_); exact G.prop S.p)
    | fail) <;> (try simp only [WKb, ↓reduceIte]))))
  all_goals
    apply Tr.fin hK ⟨_, _, _, _, hxs, rfl, rfl⟩
    ((try clear hK) <;> (try simp only [WKe, *]) <;> repeat (first | with_reducible exact EntR.done | refine S.e ?_ | (refine S.f ?_ <;> (try simp only [WKe, ↓reduceIte, reduceCtorEq, Int.reduceEq, *])) | with_reducible apply EntR.ex | refine EntR.drop (F := F) ?_ | refine EntR.drop ?_))

theorem rsend_ok {r : Nat} {a b c d s : SV} {ps : List AP} {xs : List (SL Msg)} {k : Int} {m : List UInt8} (hx : xs.map mo = ps.map AP.ms) (hb : ps.length ≤ 1000000) (hm : (ix ps k).ms.length ≤ 1000000) :
    Trip Try.prog 50 [.pointer (some ⟨r, 0, none⟩), .int .i64 k, s.v].toArray [rB r a b c d, sl true a.v (ps.map AP.c), sl false b.v xs, fzl xs, sl false c.v (ps.map AP.fresh), sl false d.v (ps.map AP.lost), sl true s.v m]
    fun v l' => ∃ b2 c2 d2 xs2, xs2.map mo = (intoA ps k true m).map AP.ms ∧ v = .int .i64 (intoCA ps k true m.length) ∧ l' = [rB r a b2 c2 d2, sl true a.v ((intoA ps k true m).map AP.c), sl false b2.v xs2, fzl xs2, sl false c2.v ((intoA ps k true m).map AP.fresh), sl false d2.v ((intoA ps k true m).map AP.lost)] := by
  intro F K hK
  simp only [List.cons_append, List.nil_append]
  (refine Tr.enter (rs := [.tmp 6]) mixed fn50 rfl (by simp +arith [Try.ntmps50]) fun u => ?_; simp only [cd50, Try.f50])
  ((try simp only [WKb, ↓reduceIte, Nat.reduceEqDiff, Nat.reduceAdd]) <;> (repeat' ((first
    | (refine G.tr ?_; first | refine S.a ?_ | refine Tr.brK ?_ ?_ | (refine G.call 70 ?_; refine S.c ?_ (h := rput_ok ?_ ?_ ?_)) | refine S.n fun _ => ?_ | refine S.i fun hix => ?_ | (refine S.g fun hb => ?_; (try simp only [hb])) | (refine S.s (fun hb => ?_) (fun hb => ?_) <;> ((try simp only [hb]) <;> (try (have hp := hb; simp only [WKs] at hp; (try have hq := Int.not_le.2 hp); (try have hq := Int.not_lt.2 hp))))))
    | rintro _ _ ⟨_, _, _, _, hxs, rfl, rfl⟩
    | ((fail_if_success refine G.tr ?_); exact G.prop S.p)
    | fail) <;> (try simp only [WKb, ↓reduceIte]))))
  all_goals
    apply Tr.fin hK ⟨_, _, _, _, hxs, rfl, rfl⟩
    ((try clear hK) <;> (try simp only [WKe, *]) <;> repeat (first | with_reducible exact EntR.done | refine S.e ?_ | (refine S.f ?_ <;> (try simp only [WKe, ↓reduceIte, reduceCtorEq, Int.reduceEq, *])) | with_reducible apply EntR.ex | refine EntR.drop (F := F) ?_ | refine EntR.drop ?_))

theorem rread_ok {r : Nat} {a b c d : SV} {ps : List AP} {xs : List (SL Msg)} {k : Int} (hx : xs.map mo = ps.map AP.ms) :
    Trip Try.prog 53 [.pointer (some ⟨r, 0, none⟩), .int .i64 k].toArray [rB r a b c d, sl true a.v (ps.map AP.c), sl false b.v xs, fzl xs, sl false c.v (ps.map AP.fresh), sl false d.v (ps.map AP.lost)]
    fun v l' => ∃ t : SV, v = .tuple #[t.v, .int .i64 (outCA ps k false)] ∧ l' = [Fz.fz (SL.mk t (outDA ps k false) : Msg), rB r a b c d, sl true a.v (ps.map AP.c), sl false b.v xs, fzl xs, sl false c.v (ps.map AP.fresh), sl false d.v (ps.map AP.lost)] := by
  intro F K hK
  simp only [List.cons_append, List.nil_append]
  have hdm : (⟨⟨none, 0, 0⟩, []⟩ : Msg) = default := rfl
  have hl := ap_len hx
  have hlc : (ps.map AP.c).length = ps.length := List.length_map _
  have hlo : (ps.map AP.lost).length = ps.length := List.length_map _
  have hlf : (ps.map AP.fresh).length = ps.length := List.length_map _
  (refine Tr.enter (rs := [.tmp 4, .tmp 5]) mixed fn53 rfl (by simp +arith [Try.ntmps53]) fun u => ?_; simp only [cd53, Try.f53])
  cases hc : canA ps k false true
  · have hD : outDA ps k false = [] := by simp [outDA, hc]
    ((try simp only [WKb, ↓reduceIte, Nat.reduceEqDiff, Nat.reduceAdd]) <;> (repeat' ((first
    | (refine G.tr ?_; first | refine S.a ?_ | refine Tr.brK ?_ ?_ | (refine G.call 71 ?_; refine S.c ?_ (h := rcan_ok)) | refine S.n fun _ => ?_ | refine S.i fun hix => ?_ | (refine S.g fun hb => ?_; (try simp only [hb])) | (refine S.s (fun hb => ?_) (fun hb => ?_) <;> ((try simp only [hb]) <;> (try (have hp := hb; simp only [WKs] at hp; (try have hq := Int.not_le.2 hp); (try have hq := Int.not_lt.2 hp))))))
    | rintro _ _ ⟨rfl, rfl⟩
    | ((fail_if_success refine G.tr ?_); exact G.prop S.p)
    | fail) <;> (try simp only [WKb, ↓reduceIte, Nat.reduceEqDiff, hc]))))
    all_goals
      apply Tr.fin hK ⟨⟨none, 0, 0⟩, (by first | (simp [*, outCA]; done) | (simp only [WKe, ↓reduceIte, *, outCA]; done) | (simp only [WKe, ↓reduceIte, *, outCA]; rfl)), rfl⟩
      ((try clear hK) <;> (try simp only [WKe, *]) <;> repeat (first | with_reducible exact EntR.done | refine S.e ?_ | (refine S.f ?_ <;> (try simp only [WKe, hD, hdm, ↓reduceIte, reduceCtorEq, Int.reduceEq, *])) | with_reducible apply EntR.ex | refine EntR.drop (F := F) ?_ | refine EntR.drop ?_))
  · obtain ⟨h0, h1, hq, hi⟩ := canA_t hc
    have hmc := ix_map (f := AP.c) h0 h1
    have hmo := ix_map (f := AP.lost) h0 h1
    have hmf := ix_map (f := AP.fresh) h0 h1
    have hlm := ap_mlen hx h0 h1
    have hms := ap_ms hx h0 h1
    have hkc := ap_keep (f := AP.c) h0 h1
    have hkl := ap_keep (f := AP.lost) h0 h1
    by_cases he : ((ix ps k).ms.length : Int) = 0
    · have hD : outDA ps k false = [] := by simp only [outDA, hc, he, if_true]
      ((try simp only [WKb, ↓reduceIte, Nat.reduceEqDiff, Nat.reduceAdd]) <;> (repeat' ((first
    | (refine G.tr ?_; first | refine S.a ?_ | refine Tr.brK ?_ ?_ | (refine G.call 71 ?_; refine S.c ?_ (h := rcan_ok)) | refine S.n fun _ => ?_ | refine S.i fun hix => ?_ | (refine S.g fun hb => ?_; (try simp only [hb])) | (refine S.s (fun hb => ?_) (fun hb => ?_) <;> ((try simp only [hb]) <;> (try (have hp := hb; simp only [WKs] at hp; (try have hq := Int.not_le.2 hp); (try have hq := Int.not_lt.2 hp))))))
    | rintro _ _ ⟨rfl, rfl⟩
    | ((fail_if_success refine G.tr ?_); exact G.prop S.p)
    | fail) <;> (try simp only [WKb, ↓reduceIte, Nat.reduceEqDiff, hc, hlm]))))
      all_goals
        apply Tr.fin hK ⟨⟨none, 0, 0⟩, (by first | (simp [*, outCA]; done) | (simp only [↓reduceIte, eq_self, *, outCA]; done) | (simp only [↓reduceIte, *, outCA]; rfl)), rfl⟩
        ((try clear hK) <;> (try simp only [WKe, *]) <;> repeat (first | with_reducible exact EntR.done | refine S.e ?_ | (refine S.f ?_ <;> (try simp only [WKe, hD, hdm, ↓reduceIte, reduceCtorEq, Int.reduceEq, *])) | with_reducible apply EntR.ex | refine EntR.drop (F := F) ?_ | refine EntR.drop ?_))
    · have hD : outDA ps k false = (ix (ix xs k).d 0).d := by
        simp only [outDA, hc, he, if_true, if_false]
        rw [← hms, ix_map (f := SL.d) (by omega) (by omega)]
      ((try simp only [WKb, ↓reduceIte, Nat.reduceEqDiff, Nat.reduceAdd]) <;> (repeat' ((first
    | (refine G.tr ?_; first | refine S.a ?_ | refine Tr.brK ?_ ?_ | (refine G.call 71 ?_; refine S.c ?_ (h := rcan_ok)) | refine S.n fun _ => ?_ | refine S.i fun hix => ?_ | (refine S.g fun hb => ?_; (try simp only [hb])) | (refine S.s (fun hb => ?_) (fun hb => ?_) <;> ((try simp only [hb]) <;> (try (have hp := hb; simp only [WKs] at hp; (try have hq := Int.not_le.2 hp); (try have hq := Int.not_lt.2 hp))))))
    | rintro _ _ ⟨rfl, rfl⟩
    | ((fail_if_success refine G.tr ?_); exact G.prop S.p)
    | fail) <;> (try simp only [WKb, ↓reduceIte, Nat.reduceEqDiff, hc, hlm]))))
      all_goals
        apply Tr.fin hK ⟨(ix (ix xs k).d 0).s, (by first | (simp [*, outCA]; done) | (simp only [↓reduceIte, eq_self, *, outCA]; done) | (simp only [WKe, ↓reduceIte, reduceCtorEq, Int.reduceEq, *, outCA, hc, he]; rfl)), rfl⟩
        ((try clear hK) <;> (try simp only [WKe, *]) <;> repeat (first | with_reducible exact EntR.done | refine S.e ?_ | (refine S.f ?_ <;> (try simp only [WKe, hD, hdm, ↓reduceIte, reduceCtorEq, Int.reduceEq, *])) | with_reducible apply EntR.ex | refine EntR.drop (F := F) ?_ | refine EntR.drop ?_))


end Go.Proofs.Ytlhmbcmkpafjoaa

namespace Go.Proofs.Ytlhmbcmkpafjoaa
open Go Go.Wk
set_option maxHeartbeats 6400000
set_option maxRecDepth 10000
attribute [local irreducible] BrK GenK EGenK EUnitK CallK FnK CallV GuardO GuardC CondW opX opK opKc chkR eqR seqK blkK endL WL WD W LoopW BinK Tr drewK resL PickK NotK NilK ExtrK getK Instr.storeAt Instr.loadAt Instr.fieldAt Instr.indexAt Instr.lookup Instr.mapUpdate Instr.box Instr.alloc Instr.build Instr.buildSlice Instr.makeSlice Instr.makeMap Instr.sliceAt Instr.field Instr.index Instr.makeInterface Instr.typeAssert Builtin.len_ Builtin.append_ Builtin.cap_ Builtin.min_ Builtin.max_ Builtin.copy_ Builtin.clear_ convert binOp mp blk rob sl sep ex fact old
theorem rreceive_ok {r : Nat} {a b c d : SV} {ps : List AP} {xs : List (SL Msg)} {k : Int} (hx : xs.map mo = ps.map AP.ms) (hb : ps.length ≤ 1000000) (hm : (ix ps k).ms.length ≤ 1000000) :
    Trip Try.prog 52 [.pointer (some ⟨r, 0, none⟩), .int .i64 k].toArray [rB r a b c d, sl true a.v (ps.map AP.c), sl false b.v xs, fzl xs, sl false c.v (ps.map AP.fresh), sl false d.v (ps.map AP.lost)]
    fun v l' => ∃ b2 c2 d2 xs2 t, xs2.map mo = (outA ps k true).map AP.ms ∧ v = .tuple #[SV.v t, .int .i64 (outCA ps k true)] ∧ l' = [Fz.fz (SL.mk t (outDA ps k true) : Msg), rB r a b2 c2 d2, sl true a.v ((outA ps k true).map AP.c), sl false b2.v xs2, fzl xs2, sl false c2.v ((outA ps k true).map AP.fresh), sl false d2.v ((outA ps k true).map AP.lost)] := by
  intro F K hK
  simp only [List.cons_append, List.nil_append]
  have hdm : (⟨⟨none, 0, 0⟩, []⟩ : Msg) = default := rfl
  have hl := ap_len hx
  have hlc : (ps.map AP.c).length = ps.length := List.length_map _
  have hlo : (ps.map AP.lost).length = ps.length := List.length_map _
  have hlf : (ps.map AP.fresh).length = ps.length := List.length_map _
  (refine Tr.enter (rs := [.tmp 4, .tmp 5]) mixed fn52 rfl (by simp +arith [Try.ntmps52]) fun u => ?_; simp only [cd52, Try.f52])
  cases hc : canA ps k true true
  · have hD : outDA ps k true = [] := by simp [outDA, hc]
    have hI : outA ps k true = ps := by simp [outA, hc]
    ((try simp only [WKb, ↓reduceIte, Nat.reduceEqDiff, Nat.reduceAdd]) <;> (repeat' ((first
    | (refine G.tr ?_; first | refine S.a ?_ | refine Tr.brK ?_ ?_ | (refine G.call 71 ?_; refine S.c ?_ (h := rcan_ok)) | (refine G.call 72 ?_; refine S.c ?_ (h := rset_ok ?_ ?_ ?_ ?_ ?_)) | refine S.n fun _ => ?_ | refine S.i fun hix => ?_ | (refine S.g fun hb => ?_; (try simp only [hb])) | (refine S.s (fun hb => ?_) (fun hb => ?_) <;> ((try simp only [hb]) <;> (try (have hp := hb; simp only [WKs] at hp; (try have hq := Int.not_le.2 hp); (try have hq := Int.not_lt.2 hp))))))
    | rintro _ _ ⟨rfl, rfl⟩
    | rintro _ _ ⟨_, _, _, rfl, rfl⟩
    | ((fail_if_success refine G.tr ?_); exact G.prop S.p)
    | fail) <;> (try simp only [WKb, ↓reduceIte, Nat.reduceEqDiff, hc]))))
    all_goals
      apply Tr.fin hK ⟨b, c, d, xs, ⟨none, 0, 0⟩, by rw [hI]; exact hx, (by first | (simp [*, outCA]; done) | (simp only [WKe, ↓reduceIte, *, outCA]; done) | (simp only [WKe, ↓reduceIte, *, outCA]; rfl)), rfl⟩
      ((try clear hK) <;> (try simp only [WKe, *]) <;> repeat (first | with_reducible exact EntR.done | refine S.e ?_ | (refine S.f ?_ <;> (try simp only [WKe, hD, hI, hdm, ↓reduceIte, reduceCtorEq, Int.reduceEq, *])) | with_reducible apply EntR.ex | refine EntR.drop (F := F) ?_ | refine EntR.drop ?_))
  · obtain ⟨h0, h1, hq, hi⟩ := canA_t hc
    have hmc := ix_map (f := AP.c) h0 h1
    have hmo := ix_map (f := AP.lost) h0 h1
    have hmf := ix_map (f := AP.fresh) h0 h1
    have hlm := ap_mlen hx h0 h1
    have hms := ap_ms hx h0 h1
    have hkc := ap_keep (f := AP.c) h0 h1
    have hkl := ap_keep (f := AP.lost) h0 h1
    by_cases he : ((ix ps k).ms.length : Int) = 0
    · have hD : outDA ps k true = [] := by simp only [outDA, hc, he, if_true]
      have hI : outA ps k true = ps := by simp only [outA, hc, he, if_true]
      ((try simp only [WKb, ↓reduceIte, Nat.reduceEqDiff, Nat.reduceAdd]) <;> (repeat' ((first
    | (refine G.tr ?_; first | refine S.a ?_ | refine Tr.brK ?_ ?_ | (refine G.call 71 ?_; refine S.c ?_ (h := rcan_ok)) | (refine G.call 72 ?_; refine S.c ?_ (h := rset_ok ?_ ?_ ?_ ?_ ?_)) | refine S.n fun _ => ?_ | refine S.i fun hix => ?_ | (refine S.g fun hb => ?_; (try simp only [hb])) | (refine S.s (fun hb => ?_) (fun hb => ?_) <;> ((try simp only [hb]) <;> (try (have hp := hb; simp only [WKs] at hp; (try have hq := Int.not_le.2 hp); (try have hq := Int.not_lt.2 hp))))))
    | rintro _ _ ⟨rfl, rfl⟩
    | rintro _ _ ⟨_, _, _, rfl, rfl⟩
    | ((fail_if_success refine G.tr ?_); exact G.prop S.p)
    | fail) <;> (try simp only [WKb, ↓reduceIte, Nat.reduceEqDiff, hc, hlm]))))
      all_goals
        apply Tr.fin hK ⟨b, c, d, xs, ⟨none, 0, 0⟩, by rw [hI]; exact hx, (by first | (simp [*, outCA]; done) | (simp only [↓reduceIte, eq_self, *, outCA]; done) | (simp only [↓reduceIte, *, outCA]; rfl)), rfl⟩
        ((try clear hK) <;> (try simp only [WKe, *]) <;> repeat (first | with_reducible exact EntR.done | refine S.e ?_ | (refine S.f ?_ <;> (try simp only [WKe, hD, hI, hdm, ↓reduceIte, reduceCtorEq, Int.reduceEq, *])) | with_reducible apply EntR.ex | refine EntR.drop (F := F) ?_ | refine EntR.drop ?_))
    · have hD : outDA ps k true = (ix (ix xs k).d 0).d := by
        simp only [outDA, hc, he, if_true, if_false]
        rw [← hms, ix_map (f := SL.d) (by omega) (by omega)]
      have hI : outA ps k true = ps.set k.toNat { ix ps k with ms := (ix ps k).ms.drop 1, fresh := false } := by simp only [outA, hc, he, if_true, if_false]
      have hS : ∀ t, (xs.set k.toNat ⟨t, (ix xs k).d.drop 1⟩).map mo = (outA ps k true).map AP.ms := fun t => by
        rw [hI]; exact ap_set hx (by simp [mo, ← hms])
      ((try simp only [WKb, ↓reduceIte, Nat.reduceEqDiff, Nat.reduceAdd]) <;> (repeat' ((first
    | (refine G.tr ?_; first | refine S.d ?_ | refine S.a ?_ | refine Tr.brK ?_ ?_ | (refine G.call 71 ?_; refine S.c ?_ (h := rcan_ok)) | (refine G.call 72 ?_; refine S.c ?_ (h := rset_ok ?_ ?_ ?_ ?_ ?_)) | refine S.n fun _ => ?_ | refine S.i fun hix => ?_ | (refine S.g fun hb => ?_; (try simp only [hb])) | (refine S.s (fun hb => ?_) (fun hb => ?_) <;> ((try simp only [hb]) <;> (try (have hp := hb; simp only [WKs] at hp; (try have hq := Int.not_le.2 hp); (try have hq := Int.not_lt.2 hp))))))
    | rintro _ _ ⟨rfl, rfl⟩
    | rintro _ _ ⟨_, _, _, rfl, rfl⟩
    | (refine G.call 72 ?_; refine Tr.freezeAt (α := Msg) (by (repeat (first | exact TakeA.here | apply TakeA.next)); done) ?_)
    | ((fail_if_success refine G.tr ?_); exact G.prop S.p)
    | fail) <;> (try simp only [WKb, ↓reduceIte, Nat.reduceEqDiff, pl52, hc, hmo, hlm]))))
      all_goals
        apply Tr.fin hK ⟨_, _, _, _, (ix (ix xs k).d 0).s, hS _, (by first | (simp [*, outCA]; done) | (simp only [↓reduceIte, eq_self, *, outCA]; done) | (simp only [WKe, ↓reduceIte, reduceCtorEq, Int.reduceEq, *, outCA, hc, he]; rfl)), rfl⟩
        ((try clear hK) <;> (try simp only [WKe, List.map_set, *]) <;> repeat (first | with_reducible exact EntR.done | refine S.e ?_ | (refine S.f ?_ <;> (try simp only [WKe, hD, hI, List.map_set, hkc, hkl, ↓reduceIte, reduceCtorEq, Int.reduceEq, *])) | with_reducible apply EntR.ex | refine EntR.drop (F := F) ?_ | refine EntR.drop ?_))

theorem rdeliver_ok {r : Nat} {a b c d s : SV} {ps : List AP} {xs : List (SL Msg)} {k : Int} {m : List UInt8} (hx : xs.map mo = ps.map AP.ms) (hb : ps.length ≤ 1000000) (hm : (ix ps k).ms.length ≤ 1000000) :
    Trip Try.prog 69 [.pointer (some ⟨r, 0, none⟩), .int .i64 k, s.v].toArray [rB r a b c d, sl true a.v (ps.map AP.c), sl false b.v xs, fzl xs, sl false c.v (ps.map AP.fresh), sl false d.v (ps.map AP.lost), sl true s.v m]
    fun v l' => ∃ b2 c2 d2 xs2, xs2.map mo = (delA ps k m).map AP.ms ∧ v = .bool (delBA ps k) ∧ l' = [rB r a b2 c2 d2, sl true a.v ((delA ps k m).map AP.c), sl false b2.v xs2, fzl xs2, sl false c2.v ((delA ps k m).map AP.fresh), sl false d2.v ((delA ps k m).map AP.lost)] := by
  intro F K hK
  simp only [List.cons_append, List.nil_append]
  have hdm : (⟨⟨none, 0, 0⟩, []⟩ : Msg) = default := rfl
  have hl := ap_len hx
  have hlc : (ps.map AP.c).length = ps.length := List.length_map _
  have hlo : (ps.map AP.lost).length = ps.length := List.length_map _
  have hlf : (ps.map AP.fresh).length = ps.length := List.length_map _
  (refine Tr.enter (rs := [.tmp 6]) mixed fn69 rfl (by simp +arith [Try.ntmps69]) fun u => ?_; simp only [cd69, Try.f69])
  cases hc : canA ps k false true
  · cases hc2 : canA ps k true true
    · have hI : delA ps k m = ps := by simp [delA, hc, hc2]
      ((try simp only [WKb, ↓reduceIte, Nat.reduceEqDiff, Nat.reduceAdd]) <;> (repeat' ((first
    | (refine G.tr ?_; first | refine S.a ?_ | refine Tr.brK ?_ ?_ | (refine G.call 71 ?_; refine S.c ?_ (h := rcan_ok)) | (refine G.call 72 ?_; refine S.c ?_ (h := rset_ok ?_ ?_ ?_ ?_ ?_)) | refine S.n fun _ => ?_ | refine S.i fun hix => ?_ | (refine S.g fun hb => ?_; (try simp only [hb])) | (refine S.s (fun hb => ?_) (fun hb => ?_) <;> ((try simp only [hb]) <;> (try (have hp := hb; simp only [WKs] at hp; (try have hq := Int.not_le.2 hp); (try have hq := Int.not_lt.2 hp))))))
    | rintro _ _ ⟨rfl, rfl⟩
    | rintro _ _ ⟨_, _, _, rfl, rfl⟩
    | ((fail_if_success refine G.tr ?_); exact G.prop S.p)
    | fail) <;> (try simp only [WKb, ↓reduceIte, Nat.reduceEqDiff, hc, hc2]))))
      all_goals
        apply Tr.fin hK ⟨b, c, d, xs, by rw [hI]; exact hx, (by first | (simp [*, delBA]; done) | (simp only [WKe, ↓reduceIte, reduceCtorEq, Int.reduceEq, eq_self, *, delBA, hc, hc2]; done) | (simp only [WKe, ↓reduceIte, reduceCtorEq, Int.reduceEq, *, delBA, hc, hc2]; rfl)), rfl⟩
        ((try clear hK) <;> (try simp only [WKe, *]) <;> repeat (first | with_reducible exact EntR.done | refine S.e ?_ | (refine S.f ?_ <;> (try simp only [WKe, hI, ↓reduceIte, reduceCtorEq, Int.reduceEq, *])) | with_reducible apply EntR.ex | refine EntR.drop (F := F) ?_ | refine EntR.drop ?_))
    · obtain ⟨h0, h1, hq, hi⟩ := canA_t hc2
      have hmc := ix_map (f := AP.c) h0 h1
      have hmo := ix_map (f := AP.lost) h0 h1
      have hlm := ap_mlen hx h0 h1
      have hms := ap_ms hx h0 h1
      have hkc := ap_keep (f := AP.c) h0 h1
      have hkl := ap_keep (f := AP.lost) h0 h1
      by_cases hf : (ix ps k).c.depth ≤ (ix ps k).ms.length
      · have hI : delA ps k m = ps.set k.toNat { ix ps k with fresh := false, lost := IntKind.i64.wrap ((ix ps k).lost + 1) } := by simp [delA, hc, hc2, hf]
        have hS : (xs.set k.toNat ⟨(ix xs k).s, (ix xs k).d⟩).map mo = (delA ps k m).map AP.ms := by
          rw [hI]; exact ap_set hx (by simp [mo, hms])
        ((try simp only [WKb, ↓reduceIte, Nat.reduceEqDiff, Nat.reduceAdd]) <;> (repeat' ((first
    | (refine G.tr ?_; first | refine S.a ?_ | refine Tr.brK ?_ ?_ | (refine G.call 71 ?_; refine S.c ?_ (h := rcan_ok)) | (refine G.call 72 ?_; refine S.c ?_ (h := rset_ok ?_ ?_ ?_ ?_ ?_)) | refine S.n fun _ => ?_ | refine S.i fun hix => ?_ | (refine S.g fun hb => ?_; (try simp only [hb])) | (refine S.s (fun hb => ?_) (fun hb => ?_) <;> ((try simp only [hb]) <;> (try (have hp := hb; simp only [WKs] at hp; (try have hq := Int.not_le.2 hp); (try have hq := Int.not_lt.2 hp))))))
    | rintro _ _ ⟨rfl, rfl⟩
    | rintro _ _ ⟨_, _, _, rfl, rfl⟩
    | (refine G.call 72 ?_; refine Tr.freezeAt (α := Msg) (by (repeat (first | exact TakeA.here | apply TakeA.next)); done) ?_)
    | ((fail_if_success refine G.tr ?_); exact G.prop S.p)
    | fail) <;> (try simp only [WKb, ↓reduceIte, Nat.reduceEqDiff, pl69, hc, hc2, hmc, hmo, hlm]))))
        all_goals
          apply Tr.fin hK ⟨_, _, _, _, hS, (by first | (simp [*, delBA]; done) | (simp only [WKe, ↓reduceIte, reduceCtorEq, Int.reduceEq, eq_self, *, delBA, hc, hc2, hf]; done) | (simp only [WKe, ↓reduceIte, reduceCtorEq, Int.reduceEq, *, delBA, hc, hc2, hf]; rfl)), rfl⟩
          ((try clear hK) <;> (try simp only [WKe, List.map_set, *]) <;> repeat (first | with_reducible exact EntR.done | refine S.e ?_ | (refine S.f ?_ <;> (try simp only [WKe, hI, List.map_set, hkc, hkl, ↓reduceIte, reduceCtorEq, Int.reduceEq, *])) | with_reducible apply EntR.ex | refine EntR.drop (F := F) ?_ | refine EntR.drop ?_))
      · have hI : delA ps k m = ps.set k.toNat { ix ps k with ms := (ix ps k).ms ++ [m], fresh := false } := by simp [delA, hc, hc2, hf]
        have hS : ∀ t, (xs.set k.toNat ⟨t, (ix xs k).d ++ [⟨s, m⟩]⟩).map mo = (delA ps k m).map AP.ms := fun t => by
          rw [hI]; exact ap_set hx (by simp [mo, hms])
        ((try simp only [WKb, ↓reduceIte, Nat.reduceEqDiff, Nat.reduceAdd]) <;> (repeat' ((first
    | (refine G.tr ?_; first | refine S.a ?_ | refine Tr.brK ?_ ?_ | (refine G.call 71 ?_; refine S.c ?_ (h := rcan_ok)) | (refine G.call 72 ?_; refine S.c ?_ (h := rset_ok ?_ ?_ ?_ ?_ ?_)) | refine S.n fun _ => ?_ | refine S.i fun hix => ?_ | (refine S.g fun hb => ?_; (try simp only [hb])) | (refine S.s (fun hb => ?_) (fun hb => ?_) <;> ((try simp only [hb]) <;> (try (have hp := hb; simp only [WKs] at hp; (try have hq := Int.not_le.2 hp); (try have hq := Int.not_lt.2 hp))))))
    | rintro _ _ ⟨rfl, rfl⟩
    | rintro _ _ ⟨_, _, _, rfl, rfl⟩
    | (refine G.call 72 ?_; refine Tr.freezeAt (α := Msg) (by (repeat (first | exact TakeA.here | apply TakeA.next)); done) ?_)
    | ((fail_if_success refine G.tr ?_); exact G.prop S.p)
    | fail) <;> (try simp only [WKb, ↓reduceIte, Nat.reduceEqDiff, pl69, hc, hc2, hmc, hmo, hlm]))))
        all_goals
          apply Tr.fin hK ⟨_, _, _, _, hS _, (by first | (simp [*, delBA]; done) | (simp only [WKe, ↓reduceIte, reduceCtorEq, Int.reduceEq, eq_self, *, delBA, hc, hc2, hf]; done) | (simp only [WKe, ↓reduceIte, reduceCtorEq, Int.reduceEq, *, delBA, hc, hc2, hf]; rfl)), rfl⟩
          ((try clear hK) <;> (try simp only [WKe, List.map_set, *]) <;> repeat (first | with_reducible exact EntR.done | refine S.e ?_ | (refine S.f ?_ <;> (try simp only [WKe, hI, List.map_set, hkc, hkl, ↓reduceIte, reduceCtorEq, Int.reduceEq, *])) | with_reducible apply EntR.ex | refine EntR.drop (F := F) ?_ | refine EntR.drop ?_))
  · obtain ⟨h0, h1, hq, hi⟩ := canA_t hc
    have hmc := ix_map (f := AP.c) h0 h1
    have hmo := ix_map (f := AP.lost) h0 h1
    have hmf := ix_map (f := AP.fresh) h0 h1
    have hlm := ap_mlen hx h0 h1
    have hms := ap_ms hx h0 h1
    have hkc := ap_keep (f := AP.c) h0 h1
    have hkl := ap_keep (f := AP.lost) h0 h1
    have hI : delA ps k m = ps.set k.toNat { ix ps k with ms := [m], fresh := false } := by simp [delA, hc]
    have hS : ∀ t, (xs.set k.toNat ⟨t, [⟨s, m⟩]⟩).map mo = (delA ps k m).map AP.ms := fun t => by rw [hI]; exact ap_set hx rfl
    ((try simp only [WKb, ↓reduceIte, Nat.reduceEqDiff, Nat.reduceAdd]) <;> (repeat' ((first
    | (refine G.tr ?_; first | refine S.a ?_ | refine Tr.brK ?_ ?_ | (refine G.call 71 ?_; refine S.c ?_ (h := rcan_ok)) | (refine G.call 72 ?_; refine S.c ?_ (h := rset_ok ?_ ?_ ?_ ?_ ?_)) | refine S.n fun _ => ?_ | refine S.i fun hix => ?_ | (refine S.g fun hb => ?_; (try simp only [hb])) | (refine S.s (fun hb => ?_) (fun hb => ?_) <;> ((try simp only [hb]) <;> (try (have hp := hb; simp only [WKs] at hp; (try have hq := Int.not_le.2 hp); (try have hq := Int.not_lt.2 hp))))))
    | rintro _ _ ⟨rfl, rfl⟩
    | rintro _ _ ⟨_, _, _, rfl, rfl⟩
    | (refine G.call 72 ?_; refine Tr.freezeAt (α := Msg) (by (repeat (first | exact TakeA.here | apply TakeA.next)); done) ?_)
    | ((fail_if_success refine G.tr ?_); exact G.prop S.p)
    | fail) <;> (try simp only [WKb, ↓reduceIte, Nat.reduceEqDiff, hc, hmo]))))
    all_goals
      apply Tr.fin hK ⟨_, _, _, _, hS _, (by first | (simp [*, delBA]; done) | (simp only [WKe, ↓reduceIte, reduceCtorEq, Int.reduceEq, eq_self, *, delBA, hc]; done) | (simp only [WKe, ↓reduceIte, reduceCtorEq, Int.reduceEq, *, delBA, hc]; rfl)), rfl⟩
      ((try clear hK) <;> (try simp only [WKe, List.map_set, *]) <;> repeat (first | with_reducible exact EntR.done | refine S.e ?_ | (refine S.f ?_ <;> (try simp only [WKe, hI, List.map_set, hkc, hkl, ↓reduceIte, reduceCtorEq, Int.reduceEq, *])) | with_reducible apply EntR.ex | refine EntR.drop (F := F) ?_ | refine EntR.drop ?_))

theorem rset0_ok {r : Nat} {a b c d : SV} {xs : List (SL Msg)} {fs : List Bool} {os : List Int} {k lo : Int} {fr : Bool} (h0 : 0 ≤ k) (h1 : k < xs.length) (h2 : fs.length = xs.length) (h3 : os.length = xs.length) (hb : xs.length ≤ 1000000) :
    Trip Try.prog 72 [.pointer (some ⟨r, 0, none⟩), .int .i64 k, .slice none 0 0, .bool fr, .int .i64 lo].toArray [rB r a b c d, sl false b.v xs, fzl xs, sl false c.v fs, sl false d.v os]
    fun v l' => ∃ b2 c2 d2, v = .tuple #[] ∧ l' = [rB r a b2 c2 d2, sl false b2.v (xs.set k.toNat default), fzl (xs.set k.toNat default), sl false c2.v (fs.set k.toNat fr), sl false d2.v (os.set k.toNat lo)] := by
  refine Trip.pre (rset_ok (b := b) (c := c) (d := d) (s := ⟨none, 0, 0⟩) (ms := []) h0 h1 h2 h3 hb) fun F => ?_
  have hn : SV.v ⟨none, 0, 0⟩ = .slice none 0 0 := rfl
  rw [hn]
  ((try clear hK) <;> (try simp only [WKe, *]) <;> repeat (first | with_reducible exact EntR.done | refine S.e ?_ | (refine S.f ?_ <;> (try simp only [WKe, ↓reduceIte, reduceCtorEq, Int.reduceEq, *])) | with_reducible apply EntR.ex | refine EntR.drop (F := F) ?_ | refine EntR.drop ?_))

theorem ix_set_k {α : Type} [Inhabited α] {xs : List α} {k : Int} (h0 : 0 ≤ k) (h1 : k < xs.length) (y : α) : ix (xs.set k.toNat y) k = y := by
  obtain ⟨n, rfl⟩ := Int.eq_ofNat_of_zero_le h0
  have hn : n < xs.length := by omega
  have := ix_nat (xs := xs.set n y) (k := n) (by simpa using hn)
  simpa using this
theorem rdrain_ok {r : Nat} {a b c d : SV} {ps : List AP} {xs : List (SL Msg)} {k : Int} (hx : xs.map mo = ps.map AP.ms) (hb : ps.length ≤ 1000000) :
    Trip Try.prog 67 [.pointer (some ⟨r, 0, none⟩), .int .i64 k].toArray [rB r a b c d, sl true a.v (ps.map AP.c), sl false b.v xs, fzl xs, sl false c.v (ps.map AP.fresh), sl false d.v (ps.map AP.lost)]
    fun v l' => ∃ b2 c2 d2 xs2 t, ∃ ms : List Msg, xs2.map mo = (drainA ps k).map AP.ms ∧ ms.map SL.d = drainDA ps k ∧ v = SV.v t ∧ l' = [sl true (SV.v t) ms, fzl ms, rB r a b2 c2 d2, sl true a.v ((drainA ps k).map AP.c), sl false b2.v xs2, fzl xs2, sl false c2.v ((drainA ps k).map AP.fresh), sl false d2.v ((drainA ps k).map AP.lost)] := by
  intro F K hK
  simp only [List.cons_append, List.nil_append]
  have hdm : (⟨⟨none, 0, 0⟩, []⟩ : Msg) = default := rfl
  have hl := ap_len hx
  have hlc : (ps.map AP.c).length = ps.length := List.length_map _
  have hlo : (ps.map AP.lost).length = ps.length := List.length_map _
  have hlf : (ps.map AP.fresh).length = ps.length := List.length_map _
  (refine Tr.enter (rs := [.tmp 4]) mixed fn67 rfl (by simp +arith [Try.ntmps67]) fun u => ?_; simp only [cd67, Try.f67])
  have hn : SV.v ⟨none, 0, 0⟩ = .slice none 0 0 := rfl
  cases hc : canA ps k true false
  · cases hc2 : canA ps k false false
    · have hD : drainDA ps k = [] := by simp [drainDA, hc, hc2]
      have hI : drainA ps k = ps := by simp [drainA, hc, hc2]
      ((try simp only [WKb, ↓reduceIte, Nat.reduceEqDiff, Nat.reduceAdd]) <;> (repeat' ((first
    | (refine G.tr ?_; first | refine S.a ?_ | refine Tr.brK ?_ ?_ | (refine G.call 71 ?_; refine S.c ?_ (h := rcan_ok)) | (refine G.call 72 ?_; first | refine S.c ?_ (h := rset0_ok ?_ ?_ ?_ ?_ ?_) | refine S.c ?_ (h := rset_ok ?_ ?_ ?_ ?_ ?_)) | refine S.n fun _ => ?_ | refine S.i fun hix => ?_ | (refine S.g fun hb => ?_; (try simp only [hb])) | (refine S.s (fun hb => ?_) (fun hb => ?_) <;> ((try simp only [hb]) <;> (try (have hp := hb; simp only [WKs] at hp; (try have hq := Int.not_le.2 hp); (try have hq := Int.not_lt.2 hp))))))
    | rintro _ _ ⟨rfl, rfl⟩
    | rintro _ _ ⟨_, _, _, rfl, rfl⟩
    | ((fail_if_success refine G.tr ?_); exact G.prop S.p)
    | fail) <;> (try simp only [WKb, ↓reduceIte, Nat.reduceEqDiff, hc, hc2]))))
      all_goals
        apply Tr.fin hK ⟨b, c, d, xs, ⟨none, 0, 0⟩, [], by rw [hI]; exact hx, by rw [hD]; rfl, rfl, rfl⟩
        ((try clear hK) <;> (try simp only [WKe, *]) <;> repeat (first | with_reducible exact EntR.done | refine S.e ?_ | (refine S.f ?_ <;> (try simp only [WKe, hI, hn, ↓reduceIte, reduceCtorEq, Int.reduceEq, *])) | with_reducible apply EntR.ex | refine EntR.drop (F := F) ?_ | refine EntR.drop ?_))
    · obtain ⟨h0, h1, hq, hi⟩ := canA_t hc2
      have hmo := ix_map (f := AP.lost) h0 h1
      have hmf := ix_map (f := AP.fresh) h0 h1
      have hms := ap_ms hx h0 h1
      have hkc := ap_keep (f := AP.c) h0 h1
      have hkl := ap_keep (f := AP.lost) h0 h1
      have hsx := fun y => ix_set_k (xs := xs) h0 (by omega) y
      have hsl : ∀ y : SL Msg, (xs.set k.toNat y).length = xs.length := fun y => by simp
      cases hf : (ix ps k).fresh
      · have hD : drainDA ps k = [] := by simp [drainDA, hc, hc2, hf]
        have hI : drainA ps k = ps := by simp [drainA, hc, hc2, hf]
        ((try simp only [WKb, ↓reduceIte, Nat.reduceEqDiff, Nat.reduceAdd]) <;> (repeat' ((first
    | (refine G.tr ?_; first | refine S.a ?_ | refine Tr.brK ?_ ?_ | (refine G.call 71 ?_; refine S.c ?_ (h := rcan_ok)) | (refine G.call 72 ?_; first | refine S.c ?_ (h := rset0_ok ?_ ?_ ?_ ?_ ?_) | refine S.c ?_ (h := rset_ok ?_ ?_ ?_ ?_ ?_)) | refine S.n fun _ => ?_ | refine S.i fun hix => ?_ | (refine S.g fun hb => ?_; (try simp only [hb])) | (refine S.s (fun hb => ?_) (fun hb => ?_) <;> ((try simp only [hb]) <;> (try (have hp := hb; simp only [WKs] at hp; (try have hq := Int.not_le.2 hp); (try have hq := Int.not_lt.2 hp))))))
    | rintro _ _ ⟨rfl, rfl⟩
    | rintro _ _ ⟨_, _, _, rfl, rfl⟩
    | ((fail_if_success refine G.tr ?_); exact G.prop S.p)
    | fail) <;> (try simp only [WKb, ↓reduceIte, Nat.reduceEqDiff, hc, hc2, hmf, hf]))))
        all_goals
          apply Tr.fin hK ⟨b, c, d, xs, ⟨none, 0, 0⟩, [], by rw [hI]; exact hx, by rw [hD]; rfl, rfl, rfl⟩
          ((try clear hK) <;> (try simp only [WKe, *]) <;> repeat (first | with_reducible exact EntR.done | refine S.e ?_ | (refine S.f ?_ <;> (try simp only [WKe, hI, hn, ↓reduceIte, reduceCtorEq, Int.reduceEq, *])) | with_reducible apply EntR.ex | refine EntR.drop (F := F) ?_ | refine EntR.drop ?_))
      · have hD : drainDA ps k = (ix ps k).ms := by simp [drainDA, hc, hc2, hf]
        have hI : drainA ps k = ps.set k.toNat { ix ps k with fresh := false } := by simp [drainA, hc, hc2, hf]
        have hS : (xs.set k.toNat ⟨(ix xs k).s, (ix xs k).d⟩).map mo = (drainA ps k).map AP.ms := by rw [hI]; exact ap_set hx (by simp [mo, hms])
        ((try simp only [WKb, ↓reduceIte, Nat.reduceEqDiff, Nat.reduceAdd]) <;> (repeat' ((first
    | (refine G.tr ?_; first | refine S.a ?_ | refine Tr.brK ?_ ?_ | (refine G.call 71 ?_; refine S.c ?_ (h := rcan_ok)) | (refine G.call 72 ?_; first | refine S.c ?_ (h := rset0_ok ?_ ?_ ?_ ?_ ?_) | refine S.c ?_ (h := rset_ok ?_ ?_ ?_ ?_ ?_)) | refine S.n fun _ => ?_ | refine S.i fun hix => ?_ | (refine S.g fun hb => ?_; (try simp only [hb])) | (refine S.s (fun hb => ?_) (fun hb => ?_) <;> ((try simp only [hb]) <;> (try (have hp := hb; simp only [WKs] at hp; (try have hq := Int.not_le.2 hp); (try have hq := Int.not_lt.2 hp))))))
    | rintro _ _ ⟨rfl, rfl⟩
    | rintro _ _ ⟨_, _, _, rfl, rfl⟩
    | (refine G.call 72 ?_; refine Tr.freezeAt (α := Msg) (by (repeat (first | exact TakeA.here | apply TakeA.next)); done) ?_)
    | ((fail_if_success refine G.tr ?_); exact G.prop S.p)
    | fail) <;> (try simp only [WKb, ↓reduceIte, Nat.reduceEqDiff, pl67, hc, hc2, hmf, hf, hmo, hsx]))))
        all_goals
          apply Tr.fin hK ⟨_, _, _, _, (ix xs k).s, (ix xs k).d, hS, by rw [hD]; exact hms, rfl, rfl⟩
          ((try clear hK) <;> (try simp only [WKe, List.map_set, *]) <;> repeat (first | with_reducible exact EntR.done | refine S.e ?_ | (refine S.f ?_ <;> (try simp only [WKe, hI, List.map_set, hkc, hkl, ↓reduceIte, reduceCtorEq, Int.reduceEq, *])) | with_reducible apply EntR.ex | refine EntR.drop (F := F) ?_ | refine EntR.drop ?_))
  · obtain ⟨h0, h1, hq, hi⟩ := canA_t hc
    have hmo := ix_map (f := AP.lost) h0 h1
    have hms := ap_ms hx h0 h1
    have hkc := ap_keep (f := AP.c) h0 h1
    have hkl := ap_keep (f := AP.lost) h0 h1
    have hD : drainDA ps k = (ix ps k).ms := by simp [drainDA, hc]
    have hI : drainA ps k = ps.set k.toNat { ix ps k with ms := [], fresh := false } := by simp [drainA, hc]
    have hS : (xs.set k.toNat default).map mo = (drainA ps k).map AP.ms := by rw [hI]; exact ap_set hx rfl
    ((try simp only [WKb, ↓reduceIte, Nat.reduceEqDiff, Nat.reduceAdd]) <;> (repeat' ((first
    | (refine G.tr ?_; first | refine S.a ?_ | refine Tr.brK ?_ ?_ | (refine G.call 71 ?_; refine S.c ?_ (h := rcan_ok)) | (refine G.call 72 ?_; first | refine S.c ?_ (h := rset0_ok ?_ ?_ ?_ ?_ ?_) | refine S.c ?_ (h := rset_ok ?_ ?_ ?_ ?_ ?_)) | refine S.n fun _ => ?_ | refine S.i fun hix => ?_ | (refine S.g fun hb => ?_; (try simp only [hb])) | (refine S.s (fun hb => ?_) (fun hb => ?_) <;> ((try simp only [hb]) <;> (try (have hp := hb; simp only [WKs] at hp; (try have hq := Int.not_le.2 hp); (try have hq := Int.not_lt.2 hp))))))
    | rintro _ _ ⟨rfl, rfl⟩
    | rintro _ _ ⟨_, _, _, rfl, rfl⟩
    | ((fail_if_success refine G.tr ?_); exact G.prop S.p)
    | fail) <;> (try simp only [WKb, ↓reduceIte, Nat.reduceEqDiff, hc, hmo]))))
    all_goals
      apply Tr.fin hK ⟨_, _, _, _, (ix xs k).s, (ix xs k).d, hS, by rw [hD]; exact hms, rfl, rfl⟩
      ((try clear hK) <;> (try simp only [WKe, List.map_set, *]) <;> repeat (first | with_reducible exact EntR.done | refine S.e ?_ | (refine S.f ?_ <;> (try simp only [WKe, hI, List.map_set, hkc, hkl, ↓reduceIte, reduceCtorEq, Int.reduceEq, *])) | with_reducible apply EntR.ex | refine EntR.drop (F := F) ?_ | refine EntR.drop ?_))

end Go.Proofs.Ytlhmbcmkpafjoaa

namespace Go.Proofs.Ytlhmbcmkpafjoaa
open Go Go.Wk
set_option maxHeartbeats 64000000
set_option maxRecDepth 10000
def newA (cs : List PortC) : List AP := (cs.take 8).map fun c => ⟨c, [], false, 0⟩
theorem newA_c {cs : List PortC} : (newA cs).map AP.c = cs.take 8 := by simp [newA, Function.comp_def]
theorem newA_f {cs : List PortC} : (newA cs).map AP.fresh = List.replicate (min 8 cs.length) false := by simp [newA, Function.comp_def, List.map_const']
theorem newA_l {cs : List PortC} : (newA cs).map AP.lost = List.replicate (min 8 cs.length) 0 := by simp [newA, Function.comp_def, List.map_const']
theorem newA_m {cs : List PortC} : (List.replicate (min 8 cs.length) (default : SL Msg)).map mo = (newA cs).map AP.ms := by simp [newA, Function.comp_def, List.map_const']; exact .inr rfl
theorem newA_len {cs : List PortC} : (newA cs).length = min 8 cs.length := by simp [newA]
attribute [local irreducible] BrK GenK EGenK EUnitK CallK FnK CallV GuardO GuardC CondW opX opK opKc chkR eqR seqK blkK endL WL WD W LoopW BinK Tr drewK resL PickK NotK NilK ExtrK getK Instr.storeAt Instr.loadAt Instr.fieldAt Instr.indexAt Instr.lookup Instr.mapUpdate Instr.box Instr.alloc Instr.build Instr.buildSlice Instr.makeSlice Instr.makeMap Instr.sliceAt Instr.field Instr.index Instr.makeInterface Instr.typeAssert Builtin.len_ Builtin.append_ Builtin.cap_ Builtin.min_ Builtin.max_ Builtin.copy_ Builtin.clear_ convert binOp mp blk rob sl sep ex fact old
theorem rnew_ok {s : SV} {cs : List PortC} : Trip Try.prog 44 [s.v].toArray [sl true s.v cs]
    fun v l' => ∃ r a b c d xs, xs.map mo = (newA cs).map AP.ms ∧ v = .pointer (some ⟨r, 0, none⟩) ∧ l' = [rB r a b c d, sl true a.v ((newA cs).map AP.c), sl false b.v xs, fzl xs, sl false c.v ((newA cs).map AP.fresh), sl false d.v ((newA cs).map AP.lost)] := by
  intro F K hK
  simp only [List.cons_append, List.nil_append]
  have hd0 : (default : Int) = 0 := rfl
  have hd1 : (default : Bool) = false := rfl
  refine Tr.bound (xs := cs) Has.here fun hbx => ?_
  (refine Tr.enter (rs := [.tmp 2]) mixed fn44 rfl (by simp +arith [Try.ntmps44]) fun u => ?_; simp only [cd44, Try.f44])
  by_cases hn : 8 < cs.length
  · have hm : min 8 cs.length = 8 := by omega
    have leaf : ∀ (r : Nat) (a b c d : SV), Tr ([blk r (.cells [a.v, b.v, c.v, d.v].toArray 140 (0, 0)), sl false d.v (List.replicate (Int.toNat 8) (default : Int)), sl false c.v (List.replicate (Int.toNat 8) (default : Bool)), sl false b.v (List.replicate (Int.toNat 8) (default : SL Msg)), sl false a.v (cs.take (Int.toNat 8))] ++ F) (K (.pointer (some ⟨r, 0, none⟩))) := by
      intro r a b c d
      simp only [List.cons_append, List.nil_append]
      refine Tr.freezeAt (α := PortC) (by (repeat (first | exact TakeA.here | apply TakeA.next)); done) ?_
      apply Tr.fin hK ⟨_, _, _, _, _, _, newA_m, rfl, rfl⟩
      ((try clear hK) <;> (try simp only [WKe, newA_c, newA_f, newA_l, *]) <;> repeat (first | with_reducible exact EntR.done | refine S.e ?_ | (refine S.f ?_ <;> (try simp only [WKe, newA_c, newA_f, newA_l, hm, hd0, hd1, ↓reduceIte, reduceCtorEq, Int.reduceEq, *])) | with_reducible apply EntR.ex | refine EntR.drop (F := F) ?_ | refine EntR.drop ?_))
    ((try simp only [WKb, ↓reduceIte, Nat.reduceEqDiff]) <;> (repeat' ((first
    | (refine G.tr ?_; first | refine S.d ?_ | refine S.a ?_ | refine Tr.brK ?_ ?_ | refine S.n fun _ => ?_ | refine S.i fun hix => ?_ | (refine S.g fun hb => ?_; (try simp only [hb])) | (refine S.s (fun hb => ?_) (fun hb => ?_) <;> ((try simp only [hb]) <;> (try (have hp := hb; simp only [WKs] at hp; (try have hq := Int.not_le.2 hp); (try have hq := Int.not_lt.2 hp))))))
    | ((fail_if_success refine G.tr ?_); exact G.prop S.p)
    | fail) <;> (try simp only [WKb, WKh, ↓reduceIte, Nat.reduceEqDiff, Nat.reduceAdd, pl44]))))
    all_goals (apply Tr.ent2 ?hh (leaf _ _ _ _ _); case hh => (repeat (first | with_reducible exact EntR.done | refine S.e ?_ | refine EntR.drop (F := F) ?_ | refine EntR.drop ?_)))
  · have hm : min 8 cs.length = cs.length := by omega
    have ht : cs.take 8 = cs := List.take_of_length_le (by omega)
    have ht2 : cs.take ((cs.length : Int)).toNat = cs := List.take_of_length_le (by simp)
    have leaf : ∀ (r : Nat) (a b c d : SV), Tr ([blk r (.cells [a.v, b.v, c.v, d.v].toArray 140 (0, 0)), sl false d.v (List.replicate (Int.toNat (cs.length : Int)) (default : Int)), sl false c.v (List.replicate (Int.toNat (cs.length : Int)) (default : Bool)), sl false b.v (List.replicate (Int.toNat (cs.length : Int)) (default : SL Msg)), sl false a.v (cs.take (Int.toNat (cs.length : Int)))] ++ F) (K (.pointer (some ⟨r, 0, none⟩))) := by
      intro r a b c d
      simp only [List.cons_append, List.nil_append]
      refine Tr.freezeAt (α := PortC) (by (repeat (first | exact TakeA.here | apply TakeA.next)); done) ?_
      apply Tr.fin hK ⟨_, _, _, _, _, _, newA_m, rfl, rfl⟩
      ((try clear hK) <;> (try simp only [WKe, newA_c, newA_f, newA_l, List.take_length, *]) <;> repeat (first | with_reducible exact EntR.done | refine S.e ?_ | (refine S.f ?_ <;> (try simp only [WKe, newA_c, newA_f, newA_l, hm, hd0, hd1, ht, List.take_length, ↓reduceIte, reduceCtorEq, Int.reduceEq, *])) | with_reducible apply EntR.ex | refine EntR.drop (F := F) ?_ | refine EntR.drop ?_))
    ((try simp only [WKb, ↓reduceIte, Nat.reduceEqDiff]) <;> (repeat' ((first
    | (refine G.tr ?_; first | refine S.d ?_ | refine S.a ?_ | refine Tr.brK ?_ ?_ | refine S.n fun _ => ?_ | refine S.i fun hix => ?_ | (refine S.g fun hb => ?_; (try simp only [hb])) | (refine S.s (fun hb => ?_) (fun hb => ?_) <;> ((try simp only [hb]) <;> (try (have hp := hb; simp only [WKs] at hp; (try have hq := Int.not_le.2 hp); (try have hq := Int.not_lt.2 hp))))))
    | ((fail_if_success refine G.tr ?_); exact G.prop S.p)
    | fail) <;> (try simp only [WKb, WKh, ↓reduceIte, Nat.reduceEqDiff, Nat.reduceAdd, pl44]))))
    all_goals (apply Tr.ent2 ?hh (leaf _ _ _ _ _); case hh => (repeat (first | with_reducible exact EntR.done | refine S.e ?_ | refine EntR.drop (F := F) ?_ | refine EntR.drop ?_)))

end Go.Proofs.Ytlhmbcmkpafjoaa

namespace Go.Proofs.Ytlhmbcmkpafjoaa
open Go Go.Wk
/-- A port, as it is told of. -/
def OneG.abs (g : OneG) : AP := ⟨g.conf, if g.q = true then g.ms.map SL.d else if g.there = true then [g.m.d] else [], !g.q && !g.i && g.fresh, g.lost⟩
def OneG.wf (g : OneG) (n : Nat) : Prop := (g.q = false → g.fresh = true → g.there = true) ∧ g.m.d.length ≤ 300 ∧ g.ms.length ≤ n
def invP (gs : List OneG) (n : Nat) : Prop := gs.length ≤ 8 ∧ ∀ g ∈ gs, g.wf n
theorem abs_len {gs : List OneG} : (gs.map OneG.abs).length = gs.length := List.length_map _
theorem abs_ix {gs : List OneG} {k : Int} (h : inR gs k) : ix (gs.map OneG.abs) k = (ix gs k).abs := ix_map (f := OneG.abs) h.1 h.2
theorem abs_inR {gs : List OneG} {k : Int} : inR (gs.map OneG.abs) k = inR gs k := by unfold inR; rw [abs_len]
theorem abs_can {gs : List OneG} {k : Int} {q i : Bool} : canB gs k q i = canA (gs.map OneG.abs) k q i := by
  unfold canB canA
  simp only [abs_inR]
  split
  · rename_i h; rw [abs_ix h]; rfl
  · rfl
theorem canB_t {gs : List OneG} {k : Int} {q i : Bool} (h : canB gs k q i = true) : inR gs k ∧ (ix gs k).q = q ∧ (ix gs k).i = i := by
  unfold canB at h
  split at h
  · rename_i hr
    simp only [Bool.and_eq_true, beq_iff_eq] at h
    exact ⟨hr, h.1, h.2⟩
  · cases h
theorem abs_q {g : OneG} (h : g.q = true) : g.abs.ms = g.ms.map SL.d := if_pos h
theorem abs_s {g : OneG} (h : g.q = false) : g.abs.ms = if g.there = true then [g.m.d] else [] := if_neg (by rw [h]; simp)
theorem abs_set {gs : List OneG} {k : Nat} {g : OneG} : (gs.set k g).map OneG.abs = (gs.map OneG.abs).set k g.abs := List.map_set
theorem set_abs {gs : List OneG} {k : Int} (h : inR gs k) {g : OneG} (hg : g.abs = (ix gs k).abs) : (gs.set k.toNat g).map OneG.abs = gs.map OneG.abs := map_same (f := OneG.abs) h.1 h.2 g hg
theorem abs_intoC {gs : List OneG} {k : Int} {q : Bool} {n : Nat} : intoC gs k q n = intoCA (gs.map OneG.abs) k q n := by
  unfold intoC intoCA
  rw [abs_can]
  split
  · rename_i h
    rw [← abs_can] at h
    obtain ⟨hr, hq, hi⟩ := canB_t h
    rw [abs_ix hr]
    show (if lenOK n (ix gs k).size = true then _ else _) = (if lenOK n (ix gs k).size = true then _ else _)
    split
    · split
      · rename_i hq2
        rw [abs_q (hq.trans hq2), List.length_map]; rfl
      · rfl
    · rfl
  · rfl
theorem abs_into {gs : List OneG} {k : Int} {q : Bool} {s : SV} {m : Msg} : (intoG gs k q s m).map OneG.abs = intoA (gs.map OneG.abs) k q m.d := by
  unfold intoG intoA
  rw [abs_can]
  split
  · rename_i h
    rw [← abs_can] at h
    obtain ⟨hr, hq, hi⟩ := canB_t h
    rw [abs_ix hr]
    show List.map OneG.abs (if lenOK m.d.length (ix gs k).size = true then _ else _) = (if lenOK m.d.length (ix gs k).size = true then _ else _)
    split
    · cases q
      · simp only [Bool.false_eq_true, if_false]
        rw [abs_set]; congr 1
        simp [putP, hq, OneG.abs, OneG.conf, hi]
      · simp only [if_true]
        rw [abs_q hq, List.length_map]
        show _ = if (ix gs k).depth ≤ ((ix gs k).ms.length : Int) then _ else _
        split
        · rename_i hf
          refine set_abs hr ?_
          simp [putP, hq, OneG.abs, OneG.conf, qput, hf]
        · rename_i hf
          rw [abs_set]; congr 1
          simp [putP, hq, OneG.abs, OneG.conf, qput, hf]
    · rfl
  · rfl
theorem abs_outC {gs : List OneG} {k : Int} {q : Bool} : outC gs k q = outCA (gs.map OneG.abs) k q := by
  unfold outC outCA
  rw [abs_can]
  split
  · rename_i h
    rw [← abs_can] at h
    obtain ⟨hr, hq, hi⟩ := canB_t h
    rw [abs_ix hr]
    cases q
    · rw [abs_s hq]; cases (ix gs k).there <;> rfl
    · rw [abs_q hq, List.length_map]; rfl
  · rfl
theorem abs_outD {gs : List OneG} {k : Int} {q : Bool} : outD gs k q = outDA (gs.map OneG.abs) k q := by
  cases h : canB gs k q true
  · have h2 : canA (gs.map OneG.abs) k q true = false := by rw [← abs_can]; exact h
    simp [outD, outC, outDA, h, h2]
  · have h2 : canA (gs.map OneG.abs) k q true = true := by rw [← abs_can]; exact h
    obtain ⟨hr, hq, hi⟩ := canB_t h
    simp only [outD, outC, outDA, h, h2, if_true, abs_ix hr]
    cases q
    · rw [abs_s hq]; cases (ix gs k).there <;> simp [ix]
    · rw [abs_q hq, List.length_map]
      by_cases hz : ((ix gs k).ms.length : Int) = 0
      · simp only [hz, if_true]; rfl
      · simp only [hz, if_true, if_false]
        rw [ix_map (f := SL.d) (by omega) (by omega)]
theorem abs_out {gs : List OneG} {k : Int} {q : Bool} {s : SV} : (outG gs k q s).map OneG.abs = outA (gs.map OneG.abs) k q := by
  unfold outG outA
  rw [abs_can]
  split
  · rename_i h
    rw [← abs_can] at h
    obtain ⟨hr, hq, hi⟩ := canB_t h
    rw [abs_ix hr]
    cases q
    · rfl
    · simp only [if_true]
      rw [abs_q hq, List.length_map]
      split
      · rename_i hz
        refine set_abs hr ?_
        have : (ix gs k).ms = [] := List.eq_nil_of_length_eq_zero (by omega)
        simp [OneG.abs, OneG.conf, hq, this]
      · rw [abs_set]; congr 1
        simp [OneG.abs, OneG.conf, hq]
  · rfl
theorem abs_inR' {gs : List OneG} {k : Int} {q i : Bool} (h : canB gs k q i = false) : ¬ (inR gs k ∧ (ix gs k).q = q ∧ (ix gs k).i = i) := fun ⟨h1, h2, h3⟩ => by
  simp [canB, h1, h2, h3] at h
theorem abs_canF {gs : List OneG} {k : Int} {q i : Bool} (h : ¬ (inR gs k ∧ (ix gs k).q = q ∧ (ix gs k).i = i)) : canA (gs.map OneG.abs) k q i = false := by
  rw [← abs_can]
  cases h2 : canB gs k q i with
  | false => rfl
  | true => exact absurd (canB_t h2) h
theorem abs_canT {gs : List OneG} {k : Int} {q i : Bool} (hr : inR gs k) (hq : (ix gs k).q = q) (hi : (ix gs k).i = i) : canA (gs.map OneG.abs) k q i = true := by
  rw [← abs_can]; simp [canB, hr, hq, hi]
theorem wf_ix {gs : List OneG} {n : Nat} (h : invP gs n) {k : Int} (hr : inR gs k) : (ix gs k).wf n := by
  have := ix_some (xs := gs) hr.1 hr.2
  exact h.2 _ (List.mem_of_getElem? this)
theorem abs_drain {gs : List OneG} {n : Nat} (hw : invP gs n) {k : Int} : drainD gs k = drainDA (gs.map OneG.abs) k ∧ (drainG gs k).map OneG.abs = drainA (gs.map OneG.abs) k := by
  by_cases hr : inR gs k
  · have hwf := (wf_ix hw hr).1
    cases hi : (ix gs k).i
    · cases hq : (ix gs k).q
      · have c1 : canA (gs.map OneG.abs) k true false = false := abs_canF (by simp [hq])
        have c2 : canA (gs.map OneG.abs) k false false = true := abs_canT hr hq hi
        have hfr : (ix gs k).abs.fresh = (ix gs k).fresh := by simp [OneG.abs, hq, hi]
        simp only [drainD, drainG, drainDA, drainA, c1, c2, hr, hi, hq, if_true, if_false, Bool.false_eq_true, abs_ix hr, hfr]
        cases hf : (ix gs k).fresh
        · refine ⟨rfl, ?_⟩
          simp only [Bool.false_eq_true, if_false]
          exact set_abs hr (by simp [OneG.abs, OneG.conf, hf, hq, hi])
        · simp only [if_true]
          refine ⟨by rw [abs_s hq, hwf hq hf]; rfl, ?_⟩
          rw [abs_set]; congr 1
          simp [OneG.abs, OneG.conf, hq, hi]
      · have c1 : canA (gs.map OneG.abs) k true false = true := abs_canT hr hq hi
        simp only [drainD, drainG, drainDA, drainA, c1, hr, hi, hq, if_true, if_false, Bool.false_eq_true, abs_ix hr]
        refine ⟨(abs_q hq).symm, ?_⟩
        rw [abs_set]; congr 1
        simp [OneG.abs, OneG.conf, hq, hi]
    · have c1 : canA (gs.map OneG.abs) k true false = false := abs_canF (by simp [hi])
      have c2 : canA (gs.map OneG.abs) k false false = false := abs_canF (by simp [hi])
      simp [drainD, drainG, drainDA, drainA, c1, c2, hr, hi]
  · have c1 : canA (gs.map OneG.abs) k true false = false := abs_canF (by simp [hr])
    have c2 : canA (gs.map OneG.abs) k false false = false := abs_canF (by simp [hr])
    simp [drainD, drainG, drainDA, drainA, c1, c2, hr]
theorem abs_del {gs : List OneG} {k : Int} {s : SV} {m : Msg} : delB gs k = delBA (gs.map OneG.abs) k ∧ (delG gs k s m).map OneG.abs = delA (gs.map OneG.abs) k m.d := by
  by_cases hr : inR gs k
  · cases hi : (ix gs k).i
    · have c1 : canA (gs.map OneG.abs) k true true = false := abs_canF (by simp [hi])
      have c2 : canA (gs.map OneG.abs) k false true = false := abs_canF (by simp [hi])
      simp [delB, delG, delBA, delA, c1, c2, hr, hi]
    · cases hq : (ix gs k).q
      · have c2 : canA (gs.map OneG.abs) k false true = true := abs_canT hr hq hi
        simp only [delB, delG, delBA, delA, c2, hr, hi, hq, if_true, if_false, Bool.false_eq_true, abs_ix hr]
        refine ⟨trivial, ?_⟩
        rw [abs_set]; congr 1
        simp [delP, OneG.abs, OneG.conf, hq, hi]
      · have c1 : canA (gs.map OneG.abs) k true true = true := abs_canT hr hq hi
        have c2 : canA (gs.map OneG.abs) k false true = false := abs_canF (by simp [hq])
        have hl : (ix gs k).abs.ms.length = (ix gs k).ms.length := by rw [abs_q hq, List.length_map]
        simp only [delB, delG, delBA, delA, c1, c2, hr, hi, hq, if_true, if_false, Bool.false_eq_true, abs_ix hr, hl]
        refine ⟨rfl, ?_⟩
        rw [abs_set]
        show _ = if (ix gs k).depth ≤ ((ix gs k).ms.length : Int) then _ else _
        by_cases hf : (ix gs k).depth ≤ ((ix gs k).ms.length : Int)
        · rw [if_pos hf]; congr 1
          simp [delP, OneG.abs, OneG.conf, hq, hf]
        · rw [if_neg hf]; congr 1
          simp [delP, OneG.abs, OneG.conf, hq, hf]
  · have c1 : canA (gs.map OneG.abs) k true true = false := abs_canF (by simp [hr])
    have c2 : canA (gs.map OneG.abs) k false true = false := abs_canF (by simp [hr])
    simp [delB, delG, delBA, delA, c1, c2, hr]
theorem wf_mono {g : OneG} {n : Nat} (h : g.wf n) : g.wf (n + 1) := ⟨h.1, h.2.1, by have := h.2.2; omega⟩
theorem inv_mono {gs : List OneG} {n : Nat} (h : invP gs n) : invP gs (n + 1) := ⟨h.1, fun g hg => wf_mono (h.2 g hg)⟩
theorem inv_set {gs : List OneG} {n k : Nat} {g : OneG} (h : invP gs n) (hg : g.wf n) : invP (gs.set k g) n := ⟨by rw [List.length_set]; exact h.1, fun x hx => by
  rcases List.mem_or_eq_of_mem_set hx with h' | rfl
  · exact h.2 x h'
  · exact hg⟩
theorem inv_into {gs : List OneG} {n : Nat} {k : Int} {q : Bool} {s : SV} {m : Msg} (h : invP gs n) (hm : m.d.length ≤ 300) : invP (intoG gs k q s m) (n + 1) := by
  unfold intoG
  split
  · rename_i hc
    obtain ⟨hr, hq, hi⟩ := canB_t hc
    have hw := wf_mono (wf_ix h hr)
    split
    · refine inv_set (inv_mono h) ?_
      unfold putP
      split
      · refine ⟨hw.1, hw.2.1, ?_⟩
        show (qput (ix gs k).ms _ m).length ≤ n + 1
        have := (wf_ix h hr).2.2
        unfold qput; split <;> simp <;> omega
      · exact ⟨fun _ _ => rfl, hm, hw.2.2⟩
    · exact inv_mono h
  · exact inv_mono h
theorem inv_del {gs : List OneG} {n : Nat} {k : Int} {s : SV} {m : Msg} (h : invP gs n) (hm : m.d.length ≤ 300) : invP (delG gs k s m) (n + 1) := by
  unfold delG
  split
  · rename_i hr
    have hw := wf_mono (wf_ix h hr)
    split
    · refine inv_set (inv_mono h) ?_
      unfold delP
      split
      · split
        · exact ⟨hw.1, hw.2.1, hw.2.2⟩
        · refine ⟨hw.1, hw.2.1, ?_⟩
          have := (wf_ix h hr).2.2
          show ((ix gs k).ms ++ [m]).length ≤ n + 1
          simp; omega
      · exact ⟨fun _ _ => rfl, hm, hw.2.2⟩
    · exact inv_mono h
  · exact inv_mono h
theorem inv_out {gs : List OneG} {n : Nat} {k : Int} {q : Bool} {s : SV} (h : invP gs n) : invP (outG gs k q s) n := by
  unfold outG
  split
  · rename_i hc
    obtain ⟨hr, hq, hi⟩ := canB_t hc
    have hw := wf_ix h hr
    split
    · refine inv_set h ⟨hw.1, hw.2.1, ?_⟩
      have := hw.2.2
      show ((ix gs k).ms.drop 1).length ≤ n
      simp; omega
    · exact h
  · exact h
theorem inv_drain {gs : List OneG} {n : Nat} {k : Int} (h : invP gs n) : invP (drainG gs k) n := by
  unfold drainG
  split
  · rename_i hr
    have hw := wf_ix h hr
    split
    · exact h
    · split
      · exact inv_set h ⟨hw.1, hw.2.1, Nat.zero_le _⟩
      · exact inv_set h ⟨fun _ hf => (by cases hf), hw.2.1, hw.2.2⟩
  · exact h
theorem core_wf {g : OneG} {x : PortC} (h : g.core = portM x) : g.wf 0 ∧ g.abs = ⟨x, [], false, 0⟩ := by
  rw [core_mk h]
  refine ⟨⟨fun _ hf => (by cases hf), Nat.zero_le _, Nat.le_refl _⟩, ?_⟩
  obtain ⟨q, i, sz, d⟩ := x
  cases q <;> cases i <;> rfl
theorem core_inv {gs : List OneG} {cs : List PortC} (h : gs.map OneG.core = cs.map portM) (hl : cs.length ≤ 8) : invP gs 0 ∧ gs.map OneG.abs = cs.map fun c => ⟨c, [], false, 0⟩ := by
  have hlen : gs.length = cs.length := by simpa using congrArg List.length h
  have hg : ∀ (i : Nat) (h1 : i < gs.length) (h2 : i < cs.length), gs[i].core = portM cs[i] := fun i h1 h2 => by
    have : (gs.map OneG.core)[i]'(by simpa using h1) = (cs.map portM)[i]'(by simpa using h2) := by simp only [h]
    simpa using this
  refine ⟨⟨by omega, fun g hgm => ?_⟩, List.ext_getElem (by simp [hlen]) fun i h1 h2 => ?_⟩
  · obtain ⟨i, h1, rfl⟩ := List.getElem_of_mem hgm
    exact (core_wf (hg i h1 (by omega))).1
  · have h1' : i < gs.length := by simpa using h1
    simpa using (core_wf (hg i h1' (by omega))).2
end Go.Proofs.Ytlhmbcmkpafjoaa

namespace Go.Proofs.Ytlhmbcmkpafjoaa
open Go Go.Wk
set_option maxHeartbeats 6400000
set_option maxRecDepth 10000
theorem lenP_in {gs : List OneG} {xs : List (SL Msg)} (hx : xs.map mo = (gs.map OneG.abs).map AP.ms) {k : Int} (hr : inR gs k) : lenP gs k = ((ix xs k).d.length : Int) := by
  rw [ap_mlen hx hr.1 (by rw [abs_len]; exact hr.2), abs_ix hr]
  unfold lenP
  rw [if_pos hr]
  cases hq : (ix gs k).q
  · rw [abs_s hq]; cases (ix gs k).there <;> rfl
  · rw [abs_q hq, List.length_map]; rfl
theorem outP {gs : List OneG} {k : Int} (h : ¬ inR gs k) : lenP gs k = 0 ∧ lostP gs k = 0 ∧ sizeP gs k = 0 := by simp [lenP, lostP, sizeP, h]
theorem outP2 {gs : List OneG} {k : Int} {q i : Bool} (h : ¬ inR gs k) : canB gs k q i = false := by simp [canB, h]
theorem w00 : IntKind.i64.wrap (0 + 0) = 0 := rfl
attribute [local irreducible] BrK GenK EGenK EUnitK CallK FnK CallV GuardO GuardC CondW opX opK opKc chkR eqR seqK blkK endL WL WD W LoopW BinK Tr drewK resL PickK NotK NilK ExtrK getK Instr.storeAt Instr.loadAt Instr.fieldAt Instr.indexAt Instr.lookup Instr.mapUpdate Instr.box Instr.alloc Instr.build Instr.buildSlice Instr.makeSlice Instr.makeMap Instr.sliceAt Instr.field Instr.index Instr.makeInterface Instr.typeAssert Builtin.len_ Builtin.append_ Builtin.cap_ Builtin.min_ Builtin.max_ Builtin.copy_ Builtin.clear_ convert binOp mp blk rob sl sep ex fact old
def clearA (ps : List AP) : List AP := ps.map fun g => ⟨g.c, [], false, 0⟩
theorem clearA_new {ps : List AP} (h : ps.length ≤ 8) : newA (ps.map AP.c) = clearA ps := by
  unfold newA clearA
  rw [List.take_of_length_le (by simpa using h), List.map_map]; rfl
theorem clearA_c {ps : List AP} : (clearA ps).map AP.c = ps.map AP.c := by simp [clearA]
end Go.Proofs.Ytlhmbcmkpafjoaa

namespace Go.Proofs.Ytlhmbcmkpafjoaa
open Go Go.Wk
set_option maxHeartbeats 6400000
set_option maxRecDepth 10000
theorem ix_cases {α : Type} [Inhabited α] (xs : List α) (k : Int) : ix xs k ∈ xs ∨ ix xs k = default := by
  unfold ix
  by_cases h : k.toNat < xs.length
  · left; simp [h]
  · right; simp [h]
theorem m_len {gs : List OneG} {n : Nat} (h : invP gs n) (k : Int) : (ix gs k).m.d.length ≤ 1000000 := by
  rcases ix_cases gs k with hm | hm
  · have := (h.2 _ hm).2.1; omega
  · rw [hm]; exact Nat.zero_le _
theorem ms_len {gs : List OneG} {n : Nat} (h : invP gs n) (hn : n ≤ 100000) (k : Int) : (ix gs k).ms.length ≤ 1000000 := by
  rcases ix_cases gs k with hm | hm
  · have := (h.2 _ hm).2.2; omega
  · rw [hm]; exact Nat.zero_le _
theorem abs_ms_len {gs : List OneG} {n : Nat} (h : invP gs n) (hn : n ≤ 100000) (k : Int) : (ix (gs.map OneG.abs) k).ms.length ≤ 1000000 := by
  rcases ix_cases (gs.map OneG.abs) k with hm | hm
  · obtain ⟨g, hg, he⟩ := List.mem_map.1 hm
    rw [← he]
    have := (h.2 _ hg).2.2
    unfold OneG.abs
    simp only
    split
    · rw [List.length_map]; omega
    · split <;> simp
  · rw [hm]; exact Nat.zero_le _
theorem abs_len8 {gs : List OneG} {n : Nat} (h : invP gs n) : (gs.map OneG.abs).length ≤ 8 := by rw [abs_len]; exact h.1
theorem clear_abs {gs gs2 : List OneG} {n : Nat} (h : invP gs n) (hc : gs2.map OneG.core = gs.map fun g => portM g.conf) : invP gs2 (n + 1) ∧ gs2.map OneG.abs = clearA (gs.map OneG.abs) := by
  have h2 : gs2.map OneG.core = (gs.map OneG.conf).map portM := by rw [hc, List.map_map]; rfl
  obtain ⟨a, b⟩ := core_inv h2 (by simpa using h.1)
  refine ⟨⟨a.1, fun g hg => ⟨(a.2 g hg).1, (a.2 g hg).2.1, by have := (a.2 g hg).2.2; omega⟩⟩, ?_⟩
  rw [b, clearA, List.map_map, List.map_map]; rfl
theorem outA_f {ps : List AP} {k : Int} : outA ps k false = ps := by simp [outA]
theorem outG_f {gs : List OneG} {k : Int} {s : SV} : outG gs k false s = gs := by simp [outG]
attribute [local irreducible] BrK GenK EGenK EUnitK CallK FnK CallV GuardO GuardC CondW opX opK opKc chkR eqR seqK blkK endL WL WD W LoopW BinK Tr drewK resL PickK NotK NilK ExtrK getK Instr.storeAt Instr.loadAt Instr.fieldAt Instr.indexAt Instr.lookup Instr.mapUpdate Instr.box Instr.alloc Instr.build Instr.buildSlice Instr.makeSlice Instr.makeMap Instr.sliceAt Instr.field Instr.index Instr.makeInterface Instr.typeAssert Builtin.len_ Builtin.append_ Builtin.cap_ Builtin.min_ Builtin.max_ Builtin.copy_ Builtin.clear_ convert binOp mp blk rob sl sep ex fact old
end Go.Proofs.Ytlhmbcmkpafjoaa
