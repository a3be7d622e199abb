import Derived.Test.YtacmaamllpiloaaGreatZ15
namespace Go.Proofs.YtacmaamllpiloaaGreat
open Go Go.Wk Tryz
set_option maxHeartbeats 64000000
set_option maxRecDepth 10000
section
attribute [local irreducible] BrK Xq Xt Xv XI FnK XZ Xw XC XV opX opK Yq Yk eqR Yj Yo Ys WL WD W X3 XO Tr drewK Ya X4 Yw Yv X1 YB mp blk rob sl sep ex fact old Instr.storeAt Instr.loadAt Instr.fieldAt Instr.indexAt Instr.lookup Instr.mapUpdate Instr.box Instr.alloc Instr.build Instr.buildSlice Instr.makeSlice Instr.makeMap Instr.sliceAt Instr.field Instr.index Instr.makeInterface Instr.typeAssert Builtin.len_ Builtin.append_ Builtin.cap_ Builtin.min_ Builtin.max_ Builtin.copy_ Builtin.clear_ convert binOp
theorem xhL {r : Nat} {a b c d : SV} {ps : List AP} {xs : List (SL Msg)} {k : Int} (hx : xs.map mo = ps.map AP.ms) (hb : ps.length ≤ 1000000) (hm : (ix ps k).ms.length ≤ 1000000) :
  Xb prog 130 #[.pointer (some ⟨r, 0, none⟩), .int .i64 k] [rB r a b c d, sl true a.v (ps.map AP.c), sl false b.v xs, fzl xs, sl false c.v (ps.map AP.fresh), sl false d.v (ps.map AP.lost)]
  fun v l' => ∃ b2 c2 d2 xs2 t, xs2.map mo = (Z1 ps k true).map AP.ms ∧ v = .tuple #[SV.v t, .int .i64 (Y3 ps k true)] ∧ l' = [Fz.fz (SL.mk t (YS ps k true) : Msg), rB r a b2 c2 d2, sl true a.v ((Z1 ps k true).map AP.c), sl false b2.v xs2, fzl xs2, sl false c2.v ((Z1 ps k true).map AP.fresh), sl false d2.v ((Z1 ps k true).map AP.lost)] := by
 intro F K hK
 simp only [ap]
 have hdm : (⟨⟨none, 0, 0⟩, []⟩ : Msg) = default := rfl
 have hl := xbe hx
 have hlc : (ps.map AP.c).length = ps.length := List.length_map _
 have hlo : (ps.map AP.lost).length = ps.length := List.length_map _
 have hlf : (ps.map AP.fresh).length = ps.length := List.length_map _
 refine S.I fun u => ?_
 cases hc : Yu ps k true true
 ·have hD : YS ps k true = [] := by simp [YS, hc]
  have hI : Z1 ps k true = ps := by simp [Z1, hc]
  ((try simp only [WKb, ↓reduceIte, Nat.reduceEqDiff, Nat.reduceAdd]) <;> (repeat' ((first
  | (refine G.tr ?_; first | (refine G.call 87 ?_; refine S.c ?_ (h := YR)) | fail)
  | rintro _ _ ⟨rfl, rfl⟩
  | fail) <;> (try simp only [WKb, ↓reduceIte, Nat.reduceEqDiff, hc]))))
  all_goals
   apply Tr.fin hK ⟨b, c, d, xs, ⟨none, 0, 0⟩, by rw [hI]; exact hx, (by first | (simp only [WKe, ↓reduceIte, *, Y3]; rfl)), rfl⟩
   ((try clear hK) <;> (try simp only [WKe, *]) <;> repeat (first | with_reducible exact Xd.done | refine S.e ?_ | refine Xd.drop (F := F) ?_ | fail))
 ·obtain ⟨h0, h1, hq, hi⟩ := xa7 hc
  have hmc := Xp (f := AP.c) h0 h1
  have hmo := Xp (f := AP.lost) h0 h1
  have hmf := Xp (f := AP.fresh) h0 h1
  have hlm := xaI hx h0 h1
  have hms := xcL hx h0 h1
  have hkc := ZP (f := AP.c) h0 h1
  have hkl := ZP (f := AP.lost) h0 h1
  by_cases he : ((ix ps k).ms.length : Int) = 0
  ·have hD : YS ps k true = [] := by simp only [YS, hc, he, if_true]
   have hI : Z1 ps k true = ps := by simp only [Z1, hc, he, if_true]
   ((try simp only [WKb, ↓reduceIte, Nat.reduceEqDiff, Nat.reduceAdd]) <;> (repeat' ((first
  | (refine G.tr ?_; first | refine S.a ?_ | (refine G.call 87 ?_; refine S.c ?_ (h := YR)) | refine S.i fun hix => ?_ | fail)
  | rintro _ _ ⟨rfl, rfl⟩
  | fail) <;> (try simp only [WKb, ↓reduceIte, Nat.reduceEqDiff, hc, hlm]))))
   all_goals
    apply Tr.fin hK ⟨b, c, d, xs, ⟨none, 0, 0⟩, by rw [hI]; exact hx, (by first | (simp only [↓reduceIte, *, Y3]; rfl)), rfl⟩
    ((try clear hK) <;> (try simp only [WKe, *]) <;> repeat (first | with_reducible exact Xd.done | refine S.e ?_ | refine Xd.drop (F := F) ?_ | fail))
  ·have hD : YS ps k true = (ix (ix xs k).d 0).d := by
    simp only [YS, hc, he, if_true, if_false]
    rw [← hms, Xp (f := SL.d) S.o S.o]
   have hI : Z1 ps k true = ps.set k.toNat { ix ps k with ms := (ix ps k).ms.drop 1, fresh := false } := by simp only [Z1, hc, he, if_true, if_false]
   have hS : ∀ t, (xs.set k.toNat ⟨t, (ix xs k).d.drop 1⟩).map mo = (Z1 ps k true).map AP.ms := fun t => by
    rw [hI]; exact Q8 hx (by simp [mo, ← hms])
   ((try simp only [WKb, ↓reduceIte, Nat.reduceEqDiff, Nat.reduceAdd]) <;> (repeat' ((first
  | (refine G.tr ?_; first | refine S.d ?_ | refine S.a ?_ | (refine G.call 87 ?_; refine S.c ?_ (h := YR)) | (refine G.call 88 ?_; refine S.c ?_ (h := Vo ?_ ?_ ?_ ?_ ?_)) | refine S.n fun _ => ?_ | refine S.i fun hix => ?_ | fail)
  | rintro _ _ ⟨rfl, rfl⟩
  | rintro _ _ ⟨_, _, _, rfl, rfl⟩
  | (refine G.call 88 ?_; refine Tr.freezeAt (α := Msg) (by (repeat (first | exact Xm.here | fail)); done) ?_)
  | ((fail_if_success refine G.tr ?_); exact G.prop S.p)
  | fail) <;> (try simp only [WKb, ↓reduceIte, Nat.reduceEqDiff, Nat.reduceAdd, xtk, hc, hmo, hlm]))))
   all_goals
    apply Tr.fin hK ⟨_, _, _, _, (ix (ix xs k).d 0).s, hS _, (by first | (simp only [↓reduceIte, eq_self, *, Y3]; done) | fail), rfl⟩
    ((try clear hK) <;> (try simp only [WKe, List.map_set, *]) <;> repeat (first | with_reducible exact Xd.done | refine S.e ?_ | refine Xd.drop (F := F) ?_ | fail))
theorem xhN {r : Nat} {a b c d s : SV} {ps : List AP} {xs : List (SL Msg)} {k : Int} {m : List UInt8} (hx : xs.map mo = ps.map AP.ms) (hb : ps.length ≤ 1000000) (hm : (ix ps k).ms.length ≤ 1000000) :
  Xb prog 66 #[.pointer (some ⟨r, 0, none⟩), .int .i64 k, s.v] [rB r a b c d, sl true a.v (ps.map AP.c), sl false b.v xs, fzl xs, sl false c.v (ps.map AP.fresh), sl false d.v (ps.map AP.lost), sl true s.v m]
  fun v l' => ∃ b2 c2 d2 xs2, xs2.map mo = (J0 ps k m).map AP.ms ∧ v = .bool (QQ ps k) ∧ l' = [rB r a b2 c2 d2, sl true a.v ((J0 ps k m).map AP.c), sl false b2.v xs2, fzl xs2, sl false c2.v ((J0 ps k m).map AP.fresh), sl false d2.v ((J0 ps k m).map AP.lost)] := by
 intro F K hK
 simp only [ap]
 have hdm : (⟨⟨none, 0, 0⟩, []⟩ : Msg) = default := rfl
 have hl := xbe hx
 have hlc : (ps.map AP.c).length = ps.length := List.length_map _
 have hlo : (ps.map AP.lost).length = ps.length := List.length_map _
 have hlf : (ps.map AP.fresh).length = ps.length := List.length_map _
 refine S.I fun u => ?_
 cases hc : Yu ps k false true
 ·cases hc2 : Yu ps k true true
  ·have hI : J0 ps k m = ps := by simp [J0, hc, hc2]
   ((try simp only [WKb, ↓reduceIte, Nat.reduceEqDiff, Nat.reduceAdd]) <;> (repeat' ((first
  | (refine G.tr ?_; first | (refine G.call 87 ?_; refine S.c ?_ (h := YR)) | fail)
  | rintro _ _ ⟨rfl, rfl⟩
  | fail) <;> (try simp only [WKb, ↓reduceIte, Nat.reduceEqDiff, hc, hc2]))))
   all_goals
    apply Tr.fin hK ⟨b, c, d, xs, by rw [hI]; exact hx, (by first | (simp [*, QQ]; done) | fail), rfl⟩
    ((try clear hK) <;> (try simp only [WKe, *]) <;> repeat (first | with_reducible exact Xd.done | refine S.e ?_ | refine Xd.drop (F := F) ?_ | fail))
  ·obtain ⟨h0, h1, hq, hi⟩ := xa7 hc2
   have hmc := Xp (f := AP.c) h0 h1
   have hmo := Xp (f := AP.lost) h0 h1
   have hlm := xaI hx h0 h1
   have hms := xcL hx h0 h1
   have hkc := ZP (f := AP.c) h0 h1
   have hkl := ZP (f := AP.lost) h0 h1
   by_cases hf : (ix ps k).c.depth ≤ (ix ps k).ms.length
   ·have hI : J0 ps k m = ps.set k.toNat { ix ps k with fresh := false, lost := IntKind.i64.wrap ((ix ps k).lost + 1) } := by simp [J0, hc, hc2, hf]
    have hS : (xs.set k.toNat ⟨(ix xs k).s, (ix xs k).d⟩).map mo = (J0 ps k m).map AP.ms := by
     rw [hI]; exact Q8 hx (by simp [mo, hms])
    ((try simp only [WKb, ↓reduceIte, Nat.reduceEqDiff, Nat.reduceAdd]) <;> (repeat' ((first
  | (refine G.tr ?_; first | refine S.a ?_ | (refine G.call 87 ?_; refine S.c ?_ (h := YR)) | (refine G.call 88 ?_; refine S.c ?_ (h := Vo ?_ ?_ ?_ ?_ ?_)) | refine S.i fun hix => ?_ | fail)
  | rintro _ _ ⟨rfl, rfl⟩
  | rintro _ _ ⟨_, _, _, rfl, rfl⟩
  | ((fail_if_success refine G.tr ?_); exact G.prop S.p)
  | fail) <;> (try simp only [WKb, ↓reduceIte, Nat.reduceEqDiff, Nat.reduceAdd, xvW, hc, hc2, hmc, hmo, hlm]))))
    all_goals
     apply Tr.fin hK ⟨_, _, _, _, hS, (by first | (simp [*, QQ]; done) | fail), rfl⟩
     ((try clear hK) <;> (try simp only [WKe, List.map_set, *]) <;> repeat (first | with_reducible exact Xd.done | refine S.e ?_ | refine Xd.drop (F := F) ?_ | fail))
   ·have hI : J0 ps k m = ps.set k.toNat { ix ps k with ms := (ix ps k).ms ++ [m], fresh := false } := by simp [J0, hc, hc2, hf]
    have hS : ∀ t, (xs.set k.toNat ⟨t, (ix xs k).d ++ [⟨s, m⟩]⟩).map mo = (J0 ps k m).map AP.ms := fun t => by
     rw [hI]; exact Q8 hx (by simp [mo, hms])
    ((try simp only [WKb, ↓reduceIte, Nat.reduceEqDiff, Nat.reduceAdd]) <;> (repeat' ((first
  | (refine G.tr ?_; first | refine S.a ?_ | refine Tr.brK ?_ ?_ | (refine G.call 87 ?_; refine S.c ?_ (h := YR)) | (refine G.call 88 ?_; refine S.c ?_ (h := Vo ?_ ?_ ?_ ?_ ?_)) | refine S.n fun _ => ?_ | refine S.i fun hix => ?_ | fail)
  | rintro _ _ ⟨rfl, rfl⟩
  | rintro _ _ ⟨_, _, _, rfl, rfl⟩
  | (refine G.call 88 ?_; refine Tr.freezeAt (α := Msg) (by (repeat (first | exact Xm.here | fail)); done) ?_)
  | ((fail_if_success refine G.tr ?_); exact G.prop S.p)
  | fail) <;> (try simp only [WKb, ↓reduceIte, Nat.reduceEqDiff, Nat.reduceAdd, xvW, hc, hc2, hmc, hmo, hlm]))))
    all_goals
     apply Tr.fin hK ⟨_, _, _, _, hS _, (by first | (simp [*, QQ]; done) | fail), rfl⟩
     ((try clear hK) <;> (try simp only [WKe, List.map_set, *]) <;> repeat (first | with_reducible exact Xd.done | refine S.e ?_ | refine Xd.drop (F := F) ?_ | fail))
 ·obtain ⟨h0, h1, hq, hi⟩ := xa7 hc
  have hmc := Xp (f := AP.c) h0 h1
  have hmo := Xp (f := AP.lost) h0 h1
  have hmf := Xp (f := AP.fresh) h0 h1
  have hlm := xaI hx h0 h1
  have hms := xcL hx h0 h1
  have hkc := ZP (f := AP.c) h0 h1
  have hkl := ZP (f := AP.lost) h0 h1
  have hI : J0 ps k m = ps.set k.toNat { ix ps k with ms := [m], fresh := false } := by simp [J0, hc]
  have hS : ∀ t, (xs.set k.toNat ⟨t, [⟨s, m⟩]⟩).map mo = (J0 ps k m).map AP.ms := fun t => by rw [hI]; exact Q8 hx rfl
  ((try simp only [WKb, ↓reduceIte, Nat.reduceEqDiff, Nat.reduceAdd]) <;> (repeat' ((first
  | (refine G.tr ?_; first | refine S.a ?_ | (refine G.call 87 ?_; refine S.c ?_ (h := YR)) | (refine G.call 88 ?_; refine S.c ?_ (h := Vo ?_ ?_ ?_ ?_ ?_)) | refine S.n fun _ => ?_ | refine S.i fun hix => ?_ | fail)
  | rintro _ _ ⟨rfl, rfl⟩
  | rintro _ _ ⟨_, _, _, rfl, rfl⟩
  | (refine G.call 88 ?_; refine Tr.freezeAt (α := Msg) (by (repeat (first | exact Xm.here | fail)); done) ?_)
  | ((fail_if_success refine G.tr ?_); exact G.prop S.p)
  | fail) <;> (try simp only [WKb, ↓reduceIte, Nat.reduceEqDiff, hc, hmo]))))
  all_goals
   apply Tr.fin hK ⟨_, _, _, _, hS _, (by first | (simp [*, QQ]; done) | fail), rfl⟩
   ((try clear hK) <;> (try simp only [WKe, List.map_set, *]) <;> repeat (first | with_reducible exact Xd.done | refine S.e ?_ | refine Xd.drop (F := F) ?_ | fail))
theorem xpV {r : Nat} {a b c d : SV} {xs : List (SL Msg)} {fs : List Bool} {os : List Int} {k lo : Int} {fr : Bool} (h0 : 0 ≤ k) (h1 : k < xs.length) (h2 : fs.length = xs.length) (h3 : os.length = xs.length) (hb : xs.length ≤ 1000000) :
  Xb prog 88 #[.pointer (some ⟨r, 0, none⟩), .int .i64 k, .slice none 0 0, .bool fr, .int .i64 lo] [rB r a b c d, sl false b.v xs, fzl xs, sl false c.v fs, sl false d.v os]
  fun v l' => ∃ b2 c2 d2, v = .tuple #[] ∧ l' = [rB r a b2 c2 d2, sl false b2.v (xs.set k.toNat default), fzl (xs.set k.toNat default), sl false c2.v (fs.set k.toNat fr), sl false d2.v (os.set k.toNat lo)] := by
 refine Xb.pre (Vo (b := b) (c := c) (d := d) (s := ⟨none, 0, 0⟩) (ms := []) h0 h1 h2 h3 hb) fun F => ?_
 have hn : SV.v ⟨none, 0, 0⟩ = .slice none 0 0 := rfl
 rw [hn]
 ((try clear hK) <;> (try simp only [WKe, *]) <;> repeat (first | with_reducible exact Xd.done | refine S.e ?_ | fail))
theorem xoT {α : Type} [Inhabited α] {xs : List α} {k : Int} (h0 : 0 ≤ k) (h1 : k < xs.length) (y : α) : ix (xs.set k.toNat y) k = y := by
 obtain ⟨n, rfl⟩ := Int.eq_ofNat_of_zero_le h0
 have hn : n < xs.length := by omega
 have := xcv (xs := xs.set n y) (k := n) (by simpa using hn)
 simpa using this
theorem xnw {r : Nat} {a b c d : SV} {ps : List AP} {xs : List (SL Msg)} {k : Int} (hx : xs.map mo = ps.map AP.ms) (hb : ps.length ≤ 1000000) :
  Xb prog 29 #[.pointer (some ⟨r, 0, none⟩), .int .i64 k] [rB r a b c d, sl true a.v (ps.map AP.c), sl false b.v xs, fzl xs, sl false c.v (ps.map AP.fresh), sl false d.v (ps.map AP.lost)]
  fun v l' => ∃ b2 c2 d2 xs2 t, ∃ ms : List Msg, xs2.map mo = (YQ ps k).map AP.ms ∧ ms.map SL.d = Zl ps k ∧ v = SV.v t ∧ l' = [sl true (SV.v t) ms, fzl ms, rB r a b2 c2 d2, sl true a.v ((YQ ps k).map AP.c), sl false b2.v xs2, fzl xs2, sl false c2.v ((YQ ps k).map AP.fresh), sl false d2.v ((YQ ps k).map AP.lost)] := by
 intro F K hK
 simp only [ap]
 have hdm : (⟨⟨none, 0, 0⟩, []⟩ : Msg) = default := rfl
 have hl := xbe hx
 have hlc : (ps.map AP.c).length = ps.length := List.length_map _
 have hlo : (ps.map AP.lost).length = ps.length := List.length_map _
 have hlf : (ps.map AP.fresh).length = ps.length := List.length_map _
 refine S.I fun u => ?_
 have hn : SV.v ⟨none, 0, 0⟩ = .slice none 0 0 := rfl
 cases hc : Yu ps k true false
 ·cases hc2 : Yu ps k false false
  ·have hD : Zl ps k = [] := by simp [Zl, hc, hc2]
   have hI : YQ ps k = ps := by simp [YQ, hc, hc2]
   ((try simp only [WKb, ↓reduceIte, Nat.reduceEqDiff, Nat.reduceAdd]) <;> (repeat' ((first
  | (refine G.tr ?_; first | (refine G.call 87 ?_; refine S.c ?_ (h := YR)) | fail)
  | rintro _ _ ⟨rfl, rfl⟩
  | fail) <;> (try simp only [WKb, ↓reduceIte, Nat.reduceEqDiff, hc, hc2]))))
   all_goals
    apply Tr.fin hK ⟨b, c, d, xs, ⟨none, 0, 0⟩, [], by rw [hI]; exact hx, by rw [hD]; rfl, rfl, rfl⟩
    ((try clear hK) <;> (try simp only [WKe, *]) <;> repeat (first | with_reducible exact Xd.done | refine S.e ?_ | refine Xd.drop (F := F) ?_ | fail))
  ·obtain ⟨h0, h1, hq, hi⟩ := xa7 hc2
   have hmo := Xp (f := AP.lost) h0 h1
   have hmf := Xp (f := AP.fresh) h0 h1
   have hms := xcL hx h0 h1
   have hkc := ZP (f := AP.c) h0 h1
   have hkl := ZP (f := AP.lost) h0 h1
   have hsx := fun y => xoT (xs := xs) h0 S.o y
   have hsl : ∀ y : SL Msg, (xs.set k.toNat y).length = xs.length := fun y => by simp
   cases hf : (ix ps k).fresh
   ·have hD : Zl ps k = [] := by simp [Zl, hc, hc2, hf]
    have hI : YQ ps k = ps := by simp [YQ, hc, hc2, hf]
    ((try simp only [WKb, ↓reduceIte, Nat.reduceEqDiff, Nat.reduceAdd]) <;> (repeat' ((first
  | (refine G.tr ?_; first | refine S.a ?_ | (refine G.call 87 ?_; refine S.c ?_ (h := YR)) | refine S.i fun hix => ?_ | fail)
  | rintro _ _ ⟨rfl, rfl⟩
  | fail) <;> (try simp only [WKb, ↓reduceIte, Nat.reduceEqDiff, hc, hc2, hmf, hf]))))
    all_goals
     apply Tr.fin hK ⟨b, c, d, xs, ⟨none, 0, 0⟩, [], by rw [hI]; exact hx, by rw [hD]; rfl, rfl, rfl⟩
     ((try clear hK) <;> (try simp only [WKe, *]) <;> repeat (first | with_reducible exact Xd.done | refine S.e ?_ | refine Xd.drop (F := F) ?_ | fail))
   ·have hD : Zl ps k = (ix ps k).ms := by simp [Zl, hc, hc2, hf]
    have hI : YQ ps k = ps.set k.toNat { ix ps k with fresh := false } := by simp [YQ, hc, hc2, hf]
    have hS : (xs.set k.toNat ⟨(ix xs k).s, (ix xs k).d⟩).map mo = (YQ ps k).map AP.ms := by rw [hI]; exact Q8 hx (by simp [mo, hms])
    ((try simp only [WKb, ↓reduceIte, Nat.reduceEqDiff, Nat.reduceAdd]) <;> (repeat' ((first
  | (refine G.tr ?_; first | refine S.a ?_ | (refine G.call 87 ?_; refine S.c ?_ (h := YR)) | (refine G.call 88 ?_; first | refine S.c ?_ (h := Vo ?_ ?_ ?_ ?_ ?_)) | refine S.i fun hix => ?_ | fail)
  | rintro _ _ ⟨rfl, rfl⟩
  | rintro _ _ ⟨_, _, _, rfl, rfl⟩
  | ((fail_if_success refine G.tr ?_); exact G.prop S.p)
  | fail) <;> (try simp only [WKb, ↓reduceIte, Nat.reduceEqDiff, Nat.reduceAdd, xvU, hc, hc2, hmf, hf, hmo, hsx]))))
    all_goals
     apply Tr.fin hK ⟨_, _, _, _, (ix xs k).s, (ix xs k).d, hS, by rw [hD]; exact hms, rfl, rfl⟩
     ((try clear hK) <;> (try simp only [WKe, List.map_set, *]) <;> repeat (first | with_reducible exact Xd.done | refine S.e ?_ | refine Xd.drop (F := F) ?_ | fail))
 ·obtain ⟨h0, h1, hq, hi⟩ := xa7 hc
  have hmo := Xp (f := AP.lost) h0 h1
  have hms := xcL hx h0 h1
  have hkc := ZP (f := AP.c) h0 h1
  have hkl := ZP (f := AP.lost) h0 h1
  have hD : Zl ps k = (ix ps k).ms := by simp [Zl, hc]
  have hI : YQ ps k = ps.set k.toNat { ix ps k with ms := [], fresh := false } := by simp [YQ, hc]
  have hS : (xs.set k.toNat default).map mo = (YQ ps k).map AP.ms := by rw [hI]; exact Q8 hx rfl
  ((try simp only [WKb, ↓reduceIte, Nat.reduceEqDiff, Nat.reduceAdd]) <;> (repeat' ((first
  | (refine G.tr ?_; first | refine S.a ?_ | (refine G.call 87 ?_; refine S.c ?_ (h := YR)) | (refine G.call 88 ?_; refine S.c ?_ (h := xpV ?_ ?_ ?_ ?_ ?_)) | refine S.i fun hix => ?_ | fail)
  | rintro _ _ ⟨rfl, rfl⟩
  | rintro _ _ ⟨_, _, _, rfl, rfl⟩
  | ((fail_if_success refine G.tr ?_); exact G.prop S.p)
  | fail) <;> (try simp only [WKb, ↓reduceIte, Nat.reduceEqDiff, hc, hmo]))))
  all_goals
   apply Tr.fin hK ⟨_, _, _, _, (ix xs k).s, (ix xs k).d, hS, by rw [hD]; exact hms, rfl, rfl⟩
   ((try clear hK) <;> (try simp only [WKe, List.map_set, *]) <;> repeat (first | with_reducible exact Xd.done | refine S.e ?_ | refine Xd.drop (F := F) ?_ | fail))
def Wm (cs : List Zd) : List AP := (cs.take 8).map fun c => ⟨c, [], false, 0⟩
theorem xqa {cs : List Zd} : (Wm cs).map AP.c = cs.take 8 := by simp [Wm, Function.comp_def]
theorem xoP {cs : List Zd} : (Wm cs).map AP.fresh = List.replicate (min 8 cs.length) false := by simp [Wm, Function.comp_def, List.map_const']
theorem xqN {cs : List Zd} : (Wm cs).map AP.lost = List.replicate (min 8 cs.length) 0 := by simp [Wm, Function.comp_def, List.map_const']
theorem xpQ {cs : List Zd} : (List.replicate (min 8 cs.length) (default : SL Msg)).map mo = (Wm cs).map AP.ms := by simp [Wm, Function.comp_def, List.map_const']; exact .inr rfl
theorem xqc {cs : List Zd} : (Wm cs).length = min 8 cs.length := by simp [Wm]
theorem xed {s : SV} {cs : List Zd} : Xb prog 62 #[s.v] [sl true s.v cs]
  fun v l' => ∃ r a b c d xs, xs.map mo = (Wm cs).map AP.ms ∧ v = .pointer (some ⟨r, 0, none⟩) ∧ l' = [rB r a b c d, sl true a.v ((Wm cs).map AP.c), sl false b.v xs, fzl xs, sl false c.v ((Wm cs).map AP.fresh), sl false d.v ((Wm cs).map AP.lost)] := by
 intro F K hK
 simp only [ap]
 have hd0 : (default : Int) = 0 := rfl
 have hd1 : (default : Bool) = false := rfl
 refine Tr.bound (xs := cs) Has.here fun hbx => ?_
 refine S.I fun u => ?_
 by_cases hn : 8 < cs.length
 ·have hm : min 8 cs.length = 8 := by omega
  have leaf : ∀ (r : Nat) (a b c d : SV), Tr ([blk r (.cells #[a.v, b.v, c.v, d.v] 139 (0, 0)), sl false d.v (List.replicate (Int.toNat 8) (default : Int)), sl false c.v (List.replicate (Int.toNat 8) (default : Bool)), sl false b.v (List.replicate (Int.toNat 8) (default : SL Msg)), sl false a.v (cs.take (Int.toNat 8))] ++ F) (K (.pointer (some ⟨r, 0, none⟩))) := by
   intro r a b c d
   simp only [ap]
   refine Tr.freezeAt (α := Zd) (by (repeat (first | exact Xm.here | apply Xm.next)); done) ?_
   apply Tr.fin hK ⟨_, _, _, _, _, _, xpQ, rfl, rfl⟩
   ((try clear hK) <;> (try simp only [WKe, xqa, xoP, xqN, *]) <;> repeat (first | with_reducible exact Xd.done | refine S.e ?_ | fail))
  ((try simp only [WKb, ↓reduceIte, Nat.reduceEqDiff]) <;> (repeat' ((first
  | (refine G.tr ?_; first | refine S.d ?_ | refine S.a ?_ | refine Tr.brK ?_ ?_ | refine S.n fun _ => ?_ | fail)
  | fail) <;> (try simp only [WKb, WKh, ↓reduceIte, Nat.reduceEqDiff, Nat.reduceAdd, xwN]))))
  all_goals (apply Tr.ent2 ?hh (leaf _ _ _ _ _); case hh => (repeat (first | with_reducible exact Xd.done | refine S.e ?_ | refine Xd.drop (F := F) ?_ | fail)))
 ·have hm : min 8 cs.length = cs.length := by omega
  have ht : cs.take 8 = cs := List.take_of_length_le S.o
  have ht2 : cs.take ((cs.length : Int)).toNat = cs := List.take_of_length_le (by simp)
  have leaf : ∀ (r : Nat) (a b c d : SV), Tr ([blk r (.cells #[a.v, b.v, c.v, d.v] 139 (0, 0)), sl false d.v (List.replicate (Int.toNat (cs.length : Int)) (default : Int)), sl false c.v (List.replicate (Int.toNat (cs.length : Int)) (default : Bool)), sl false b.v (List.replicate (Int.toNat (cs.length : Int)) (default : SL Msg)), sl false a.v (cs.take (Int.toNat (cs.length : Int)))] ++ F) (K (.pointer (some ⟨r, 0, none⟩))) := by
   intro r a b c d
   simp only [ap]
   refine Tr.freezeAt (α := Zd) (by (repeat (first | exact Xm.here | apply Xm.next)); done) ?_
   apply Tr.fin hK ⟨_, _, _, _, _, _, xpQ, rfl, rfl⟩
   ((try clear hK) <;> (try simp only [WKe, xqa, xoP, xqN, List.take_length, *]) <;> repeat (first | with_reducible exact Xd.done | refine S.e ?_ | fail))
  ((try simp only [WKb, ↓reduceIte, Nat.reduceEqDiff]) <;> (repeat' ((first
  | (refine G.tr ?_; first | refine S.d ?_ | refine S.a ?_ | refine Tr.brK ?_ ?_ | refine S.n fun _ => ?_ | fail)
  | fail) <;> (try simp only [WKb, WKh, ↓reduceIte, Nat.reduceEqDiff, Nat.reduceAdd, xwN]))))
  all_goals (apply Tr.ent2 ?hh (leaf _ _ _ _ _); case hh => (repeat (first | with_reducible exact Xd.done | refine S.e ?_ | refine Xd.drop (F := F) ?_ | fail)))
section
variable {b c b2 c2 : Nat} {s s2 : SV} {m m2 m3 : Msg} {n : Nat} {t f t2 f2 : Bool}
abbrev sA (b c : Nat) (m : Msg) (t f : Bool) : Xg := ⟨b, false, true, 300, 0, 0, c, ⟨none, 0, 0⟩, [], m, t, f⟩
abbrev sB (b c : Nat) (m : Msg) (t f : Bool) : Xg := ⟨b, false, false, 300, 0, 0, c, ⟨none, 0, 0⟩, [], m, t, f⟩
end
end
def Xg.conf (g : Xg) : Zd := ⟨g.q, g.i, g.size, g.depth⟩
theorem xqz {b c : Nat} {x : Zd} : (Xg.mk0 b c x).core = JJ x := rfl
theorem xiy {xs : List Xg} {k : Nat} {x : Xg} (h : k < xs.length) : ix (xs.set k x) (k : Int) = x := by rw [xcv (by simpa using h)]; simp
theorem xmO {xs : List Xg} {k j : Nat} {x : Xg} (h : j ≠ k) (hj : j < xs.length) : ix (xs.set k x) (j : Int) = ix xs (j : Int) := by
 rw [xcv (by simpa using hj), xcv hj, List.getElem_set_ne (Ne.symm h)]
theorem xpZ {g : Xg} {l : List Xc} {X : WP} (hx : ∀ v0, Tr (onB g.b g.q g.i g.size g.depth v0 g.lost :: l) X) : Tr (Ym g :: l) X := by
 cases hq : g.q
 ·refine Z0 hq ?_
  have := hx (.iface 124 (.pointer (some ⟨g.c, 0, none⟩)))
  rw [hq] at this
  exact this.imp (Imp.cons (Imp.trans Imp.tail Imp.tail))
 ·refine Z8 hq ?_
  have := hx (.iface 121 (.pointer (some ⟨g.c, 0, none⟩)))
  rw [hq] at this
  exact this.imp (Imp.cons (Imp.trans Imp.tail (Imp.trans Imp.tail Imp.tail)))
theorem xj3 {gs g2 : List Xg} (hl : g2.length = gs.length) (_hcf : g2.map Xg.conf = gs.map Xg.conf) (h : ∀ j : Nat, j < gs.length → (ix g2 (j : Int)).core = JJ (ix gs (j : Int)).conf) : g2.map Xg.core = gs.map fun g => JJ g.conf :=
 List.ext_getElem (by simp [hl]) fun i h1 h2 => by
  have h1' : i < gs.length := by simpa using h2
  have := h i h1'
  rw [xcv S.o, xcv h1'] at this
  simpa using this
section
attribute [local irreducible] BrK Xq Xt Xv XI FnK XZ Xw XC XV opX opK Yq Yk eqR Yj Yo Ys WL WD W X3 XO Tr drewK Ya X4 Yw Yv X1 YB mp blk rob sl sep ex fact old
theorem xmY {p : Nat} {s : SV} {gs : List Xg} : Xb prog 225 #[.pointer (some ⟨p, 0, none⟩)] [poB p s, fam Ym gs, sl false s.v (gs.map Xg.pt)]
  fun v l' => ∃ gs', gs'.map Xg.pt = gs.map Xg.pt ∧ gs'.map Xg.core = gs.map (fun g => JJ g.conf) ∧ v = .tuple #[] ∧ l' = [poB p s, fam Ym gs', sl false s.v (gs.map Xg.pt)] := by
 intro F K hK
 simp only [ap]
 refine Tr.bound (xs := gs.map Xg.pt) (Has.next (Has.next Has.here)) fun hbx => ?_
 have hlp : (gs.map Xg.pt).length = gs.length := List.length_map _
 refine S.I fun u => ?_
 repeat' (first | refine S.x ?_ | fail)
 refine Tr.loopE (α := Nat × List Xg) [11] [9, 10] (fun x => [.int .i64 x.1]) (fun x => [fam Ym x.2])
  (fun x => x.1 ≤ gs.length ∧ x.2.length = gs.length ∧ x.2.map Xg.pt = gs.map Xg.pt ∧ x.2.map Xg.conf = gs.map Xg.conf ∧ ∀ j : Nat, j < x.1 → (ix x.2 (j : Int)).core = JJ (ix gs (j : Int)).conf) (fun x => gs.length - x.1) (0, gs) S.T rfl ⟨by omega, rfl, rfl, rfl, fun j hj => by omega⟩ fun x u hx => ?_
 obtain ⟨k, g2⟩ := x
 simp only at hx ⊢
 obtain ⟨hk, hl, hpt, hcf, hco⟩ := hx
 by_cases hkn : k < gs.length
 ·have hw := Xo (k := k) S.o
  have hm : ix (gs.map Xg.pt) (k : Int) = (ix gs (k : Int)).pt := Xp (f := Xg.pt) S.o S.o
  have hm2 : ix (gs.map Xg.pt) (k : Int) = ⟨some (ix g2 (k : Int)).b⟩ := by rw [← hpt, Xp (f := Xg.pt) S.o S.o]; rfl
  have hlp2 : (gs.map Xg.pt).length = gs.length := List.length_map _
  have hc2 : (ix g2 (k : Int)).conf = (ix gs (k : Int)).conf := by rw [← Xp (f := Xg.conf) S.o S.o, hcf, Xp (f := Xg.conf) S.o S.o]
  simp only [ap]
  refine Tr.famAt (A := Ym) k S.K S.o S.o ?_
  refine xpZ fun v0 => ?_
  have hX := And.intro hw hm2; repeat' (first | refine S.x ?_ | (refine G.call 114 ?_; refine S.c ?_ (h := xk3)) | rintro _ _ ⟨_, rfl, rfl⟩ | intro hb | fail)
  all_goals
   rename_i w
   have hA : (g2.set k (Xg.mk0 (ix g2 (k : Int)).b w (ix g2 (k : Int)).conf)).length = gs.length := by simp [hl]
   have hB : (g2.set k (Xg.mk0 (ix g2 (k : Int)).b w (ix g2 (k : Int)).conf)).map Xg.pt = gs.map Xg.pt := by
    rw [← hpt]; exact YW (f := Xg.pt) (k := (k : Int)) S.o S.o _ rfl
   have hC : (g2.set k (Xg.mk0 (ix g2 (k : Int)).b w (ix g2 (k : Int)).conf)).map Xg.conf = gs.map Xg.conf := by
    rw [← hcf]; exact YW (f := Xg.conf) (k := (k : Int)) S.o S.o _ rfl
   have hD : ∀ j : Nat, j < k + 1 → (ix (g2.set k (Xg.mk0 (ix g2 (k : Int)).b w (ix g2 (k : Int)).conf)) (j : Int)).core = JJ (ix gs (j : Int)).conf := fun j hj => by
    by_cases he : j = k
    ·subst he
     rw [xiy S.o, xqz, hc2]
    ·rw [xmO he S.o]
     exact hco j S.o
   clear hm2 hm hpt hcf
   (have hX := @Xg.conf.eq_def; exact S.R (k + 1, g2.set k (Xg.mk0 (ix g2 (k : Int)).b w (ix g2 (k : Int)).conf)))
 ·have hkk : k = gs.length := by omega
  repeat' (first | refine S.x ?_ | fail)
  all_goals
   apply Tr.fin hK ⟨g2, hpt, xj3 hl hcf (fun j hj => hco j S.o), rfl, rfl⟩
   exact S.E
