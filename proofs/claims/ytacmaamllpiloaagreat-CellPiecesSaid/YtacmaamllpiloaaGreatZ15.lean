import Derived.Test.YtacmaamllpiloaaGreatZ14
namespace Go.Proofs.YtacmaamllpiloaaGreat
open Go Go.Wk Tryz
set_option maxHeartbeats 6400000
set_option maxRecDepth 10000
def Xg.core (g : Xg) : Bool × Bool × Int × Int × Int × SV × List Msg × Msg × Bool × Bool := (g.q, g.i, g.size, g.depth, g.lost, g.s, g.ms, g.m, g.there, g.fresh)
def JJ (c : Zd) : Bool × Bool × Int × Int × Int × SV × List Msg × Msg × Bool × Bool := (c.q, c.i, c.size, c.depth, 0, ⟨none, 0, 0⟩, [], default, false, false)
def Xg.mk0 (b c : Nat) (x : Zd) : Xg := ⟨b, x.q, x.i, x.size, x.depth, 0, c, ⟨none, 0, 0⟩, [], default, false, false⟩
section
attribute [local irreducible] BrK Xq Xt Xv XI FnK XZ Xw XC XV opX opK Yq Yk eqR Yj Yo Ys WL WD W X3 XO Tr drewK Ya X4 Yw Yv X1 YB mp blk rob sl sep ex fact old Instr.storeAt Instr.loadAt Instr.fieldAt Instr.indexAt Instr.lookup Instr.mapUpdate Instr.box Instr.alloc Instr.build Instr.buildSlice Instr.makeSlice Instr.makeMap Instr.sliceAt Instr.field Instr.index Instr.makeInterface Instr.typeAssert Builtin.len_ Builtin.append_ Builtin.cap_ Builtin.min_ Builtin.max_ Builtin.copy_ Builtin.clear_ convert binOp
theorem xrn {p : Nat} {s : SV} {gs : List Xg} {k : Int} (hl0 : (ix gs k).m.d.length ≤ 1000000) : Xb prog 165 #[.pointer (some ⟨p, 0, none⟩), .int .i64 k] [poB p s, fam Ym gs, sl false s.v (gs.map Xg.pt)]
  fun v l' => ∃ s3 r, r.d = JW gs k false ∧ v = .tuple #[SV.v (SL.s r), .int .i64 (Z2 gs k false)] ∧ l' = [poB p s, fam Ym (W8 gs k false s3), sl false s.v ((W8 gs k false s3).map Xg.pt), Fz.fz (r : Msg)] := by
 intro F K hK
 simp only [ap]
 refine S.I fun u => ?_
 ((try simp only [WKb, ↓reduceIte, Nat.reduceEqDiff, Nat.reduceAdd]) <;> (repeat' ((first
  | (refine G.tr ?_; first | (refine G.call 151 ?_; refine S.c ?_ (h := xoA ?_)) | fail)
  | rintro _ _ ⟨_, _, hrd, rfl, rfl⟩
  | ((fail_if_success refine G.tr ?_); exact G.prop S.p)
  | fail) <;> (try simp only [WKb, ↓reduceIte, Nat.reduceEqDiff]))))
 all_goals
  apply Tr.fin hK ⟨_, _, hrd, rfl, rfl⟩
  ((try clear hK) <;> (try simp only [WKe, *]) <;> repeat (first | with_reducible exact Xd.done | fail))
theorem xjM {p : Nat} {s : SV} {gs : List Xg} {k : Int} (hl0 : (ix gs k).m.d.length ≤ 1000000) : Xb prog 95 #[.pointer (some ⟨p, 0, none⟩), .int .i64 k] [poB p s, fam Ym gs, sl false s.v (gs.map Xg.pt)]
  fun v l' => ∃ s3 r, r.d = JW gs k true ∧ v = .tuple #[SV.v (SL.s r), .int .i64 (Z2 gs k true)] ∧ l' = [poB p s, fam Ym (W8 gs k true s3), sl false s.v ((W8 gs k true s3).map Xg.pt), Fz.fz (r : Msg)] := by
 intro F K hK
 simp only [ap]
 refine S.I fun u => ?_
 ((try simp only [WKb, ↓reduceIte, Nat.reduceEqDiff, Nat.reduceAdd]) <;> (repeat' ((first
  | (refine G.tr ?_; first | (refine G.call 151 ?_; refine S.c ?_ (h := xoA ?_)) | fail)
  | rintro _ _ ⟨_, _, hrd, rfl, rfl⟩
  | ((fail_if_success refine G.tr ?_); exact G.prop S.p)
  | fail) <;> (try simp only [WKb, ↓reduceIte, Nat.reduceEqDiff]))))
 all_goals
  apply Tr.fin hK ⟨_, _, hrd, rfl, rfl⟩
  ((try clear hK) <;> (try simp only [WKe, *]) <;> repeat (first | with_reducible exact Xd.done | fail))
theorem xk3 {b : Nat} {q i : Bool} {sz d lost : Int} {v0 : Value} : Xb prog 114 #[.pointer (some ⟨b, 0, none⟩)] [onB b q i sz d v0 lost]
  fun v l' => ∃ c, v = .tuple #[] ∧ l' = [Ym (Xg.mk0 b c ⟨q, i, sz, d⟩)] := by
 intro F K hK
 simp only [ap]
 have hdm : (⟨⟨none, 0, 0⟩, []⟩ : Msg) = default := rfl
 cases q
 ·refine S.I fun u => ?_
  ((try simp only [WKb, ↓reduceIte]) <;> (repeat' ((first
  | (refine G.tr ?_; first | refine S.a ?_ | refine S.n fun _ => ?_ | fail)
  | fail) <;> (try simp only [WKb, WKh, ↓reduceIte, Nat.reduceEqDiff, Nat.reduceAdd]))))
  all_goals
   apply Tr.fin hK ⟨_, rfl, rfl⟩
   ((try clear hK) <;> (try simp only [WKe, Ym, Xg.mk0, ↓reduceIte, *]) <;> repeat (first | with_reducible exact Xd.done | refine S.e ?_ | fail))
 ·refine S.I fun u => ?_
  ((try simp only [WKb, ↓reduceIte]) <;> (repeat' ((first
  | (refine G.tr ?_; first | refine S.a ?_ | refine S.n fun _ => ?_ | fail)
  | fail) <;> (try simp only [WKb, WKh, ↓reduceIte, Nat.reduceEqDiff, Nat.reduceAdd]))))
  all_goals
   apply Tr.fin hK ⟨_, rfl, rfl⟩
   ((try clear hK) <;> (try simp only [WKe, Ym, Xg.mk0, ↓reduceIte, *]) <;> repeat (first | with_reducible exact Xd.done | refine S.e ?_ | fail))
theorem xrB {s : SV} {cs : List Zd} : Xb prog 53 #[s.v] [sl true s.v cs]
  fun v l' => ∃ p s1 gs, gs.map Xg.core = (cs.take 8).map JJ ∧ v = .pointer (some ⟨p, 0, none⟩) ∧ l' = [poB p s1, fam Ym gs, sl false s1.v (gs.map Xg.pt)] := by
 intro F K hK
 simp only [ap]
 have hmin : (if (8 : Int) < cs.length then (8 : Int) else cs.length) = ((min 8 cs.length : Nat) : Int) := xeL (n := 8)
 refine S.I fun u => ?_
 ((try simp only [WKb]) <;> (repeat' ((first
  | (refine G.tr ?_; first | refine S.a ?_ | refine S.n fun _ => ?_ | fail)
  | fail) <;> (try simp only [WKb, ↓reduceIte, Nat.reduceEqDiff, hmin]))))
 rename_i p s1
 refine Tr.loopE (α := Nat × SV × List Xg) [15] [2, 3, 13, 14] (fun x => [.int .i64 x.1]) (fun x => [poB p x.2.1, sl false x.2.1.v (x.2.2.map Xg.pt), fam Ym x.2.2]) (fun x => x.1 ≤ min 8 cs.length ∧ x.2.2.length = x.1 ∧ x.2.2.map Xg.core = (cs.take x.1).map JJ) (fun x => min 8 cs.length - x.1) (0, ⟨none, 0, 0⟩, []) (by (repeat (first | exact YK.nil | (apply YK.cons; focus ((first | ((repeat (first | exact Xm.here | apply Xm.next)); done) | exact Xm.famNil | exact Xm.nilS))) | fail)); done) rfl ⟨by omega, rfl, rfl⟩ fun x u hx => ?_
 obtain ⟨k, s2, gs⟩ := x
 simp only at hx ⊢
 obtain ⟨hk, hl, hm⟩ := hx
 have hlt : (cs.take (((min 8 cs.length : Nat) : Int)).toNat).length = min 8 cs.length := by simp
 have hlm : (gs.map Xg.pt).length = k := by simp [hl]
 by_cases hkn : k < min 8 cs.length
 ·have hw := Xo (k := k) S.o
  have hxt : ix (cs.take (((min 8 cs.length : Nat) : Int)).toNat) (k : Int) = ix cs (k : Int) := xbX (by simp; omega)
  have hmk : ∀ b c, (gs ++ [Xg.mk0 b c (ix cs (k : Int))]).map Xg.core = (cs.take (k + 1)).map JJ := fun b c => by rw [Yz S.o, List.map_append, List.map_append, hm]; rfl
  have hln : ∀ b c, (gs ++ [Xg.mk0 b c (ix cs (k : Int))]).length = k + 1 := fun b c => by simp [hl]
  ((try simp only [WKb, ↓reduceIte, Nat.reduceEqDiff]) <;> (repeat' ((first
  | (refine G.tr ?_; first | refine S.a ?_ | (refine G.call 114 ?_; refine S.c ?_ (h := xk3)) | refine S.n fun _ => ?_ | refine S.i fun hix => ?_ | fail)
  | rintro _ _ ⟨_, rfl, rfl⟩
  | fail) <;> (try simp only [WKb, WKh, ↓reduceIte, Nat.reduceEqDiff, hw, hxt]))))
  all_goals
   rename_i cb ob cq sA sB
   have hmk' := hmk ob cq
   have hln' := hln ob cq
   have hpt : (Xg.mk0 ob cq (ix cs (k : Int))).pt = ⟨some ob⟩ := rfl
   (apply Tr.againE (k + 1, _, gs ++ [Xg.mk0 ob cq (ix cs (k : Int))]); (focus (simp only [WKb, ↓reduceIte, Nat.reduceEqDiff])); (focus ((try simp only [WKb, ↓reduceIte]); (all_goals ((repeat (refine Jl (by first | rfl | ((try clear hK) <;> first | (simp [*, List.map_append, List.map_cons, List.map_nil, hpt, hw]; done) | (simp [*, List.map_append, List.map_cons, List.map_nil, hpt, hw]; omega) | (simp [*, List.map_append, List.map_cons, List.map_nil, hpt, hw] <;> (try split) <;> simp_all <;> omega))) ?_)); rfl)); done)); (focus (first | ((try simp only []); (repeat' (first | omega | refine And.intro ?_ ?_)); done))); (focus (first | omega | fail)); (focus (((try clear hK) <;> (try simp only [WKe, List.map_append, List.map_cons, List.map_nil, *]) <;> repeat (first | with_reducible exact Xd.done | refine S.e ?_ | (refine S.f ?_ <;> (try simp only [WKe, List.map_append, List.map_cons, List.map_nil, hpt, hw, ↓reduceIte, reduceCtorEq, Int.reduceEq, *])) | refine Xd.drop (F := F) ?_ | fail)))))
 ·have hkk : k = min 8 cs.length := by omega
  ((try simp only [WKb, ↓reduceIte, Nat.reduceEqDiff]) <;> (repeat' ((first
  | (refine G.tr ?_; first | refine S.a ?_ | fail)
  | fail) <;> (try simp only [WKb, ↓reduceIte, Nat.reduceEqDiff]))))
  all_goals
   apply Tr.fin hK ⟨_, _, gs, by rw [hm, hkk, Vg], rfl, rfl⟩
   ((try clear hK) <;> (try simp only [WKe, *]) <;> repeat (first | with_reducible exact Xd.done | refine S.e ?_ | refine Xd.drop (F := F) ?_ | fail))
theorem xqv {p : Nat} {s : SV} {gs : List Xg} {k : Int} (hl0 : (ix gs k).m.d.length ≤ 1000000) : Xb prog 24 #[.pointer (some ⟨p, 0, none⟩), .int .i64 k] [poB p s, fam Ym gs, sl false s.v (gs.map Xg.pt)]
  fun v l' => ∃ r : SL Msg, r.d.map SL.d = Wa gs k ∧ v = SV.v (SL.s r) ∧ l' = [poB p s, fam Ym (JD gs k), sl false s.v ((JD gs k).map Xg.pt), sl false (SV.v (SL.s r)) (SL.d r), fzl (SL.d r)] := by
 intro F K hK
 simp only [ap]
 by_cases h : inR gs k
 ·have ⟨h0, h1⟩ := h
  have hm := Xp (f := Xg.pt) h0 h1
  have hl : (gs.map Xg.pt).length = gs.length := List.length_map _
  have hs := fun q i sz d lo c s ms m t f => YW (f := Xg.pt) h0 h1 ⟨(ix gs k).b, q, i, sz, d, lo, c, s, ms, m, t, f⟩ rfl
  refine Tr.famAt (A := Ym) k (by (repeat (first | exact Xm.here | apply Xm.next)); done) h0 h1 ?_
  cases hq : (ix gs k).q
  ·refine Z0 hq ?_
   refine S.I fun u => ?_
   ((try simp only [WKb, ↓reduceIte, Nat.reduceEqDiff, Nat.reduceAdd]) <;> (repeat' ((first
  | (refine G.tr ?_; first | refine S.a ?_ | (refine G.call 67 ?_; refine S.c ?_ (h := Jm S.o S.o)) | (refine G.call 68 ?_; refine S.c ?_ (h := We S.o)) | refine S.n fun _ => ?_ | (refine S.s (fun hb => ?_) (fun hb => ?_) <;> ((try simp only [hb]) <;> (try (have hp := hb; simp only [WKs] at hp; (try have hq := Int.not_le.2 hp); (try have hq := Int.not_lt.2 hp))))))
  | rintro _ _ ⟨rfl, rfl⟩
  | rintro _ _ ⟨_, rfl, rfl⟩
  | fail) <;> (try simp only [WKb, WKh, ↓reduceIte, Nat.reduceEqDiff, Nat.reduceAdd]))))
   all_goals
    (first | apply Tr.fin hK ⟨⟨⟨none, 0, 0⟩, []⟩, (by first | (simp [*, Wa]; done) | fail), rfl, rfl⟩ | apply Tr.fin hK ⟨⟨_, [SL.mk _ (ix gs k).m.d]⟩, (by first | (simp [*, Wa]; done) | fail), rfl, rfl⟩)
    ((try clear hK) <;> (try simp only [WKe, JD, ↓reduceIte, *]) <;> repeat (first | with_reducible exact Xd.done | refine S.e ?_ | (refine S.f ?_ <;> (try simp only [WKe, Ym, ↓reduceIte, *])) | refine Xd.drop (F := F) ?_ | fail))
    all_goals first | exact SV.mk none 0 0 | exact SL.mk ⟨none, 0, 0⟩ []
  ·refine Z8 hq ?_
   refine S.I fun u => ?_
   ((try simp only [WKb, ↓reduceIte, Nat.reduceEqDiff, Nat.reduceAdd]) <;> (repeat' ((first
  | (refine G.tr ?_; first | refine S.a ?_ | (refine G.call 67 ?_; refine S.c ?_ (h := Jm S.o S.o)) | (refine S.s (fun hb => ?_) (fun hb => ?_) <;> ((try simp only [hb]) <;> (try (have hp := hb; simp only [WKs] at hp; (try have hq := Int.not_le.2 hp); (try have hq := Int.not_lt.2 hp))))))
  | rintro _ _ ⟨rfl, rfl⟩
  | fail) <;> (try simp only [WKb, WKh, ↓reduceIte, Nat.reduceEqDiff]))))
   all_goals
    (first | apply Tr.fin hK ⟨⟨⟨none, 0, 0⟩, []⟩, (by first | (simp [*, Wa]; done) | fail), rfl, rfl⟩ | apply Tr.fin hK ⟨⟨(ix gs k).s, (ix gs k).ms⟩, (by first | (simp [*, Wa]; done) | fail), rfl, rfl⟩ | fail)
    ((try clear hK) <;> (try simp only [WKe, JD, ↓reduceIte, *]) <;> repeat (first | with_reducible exact Xd.done | refine S.e ?_ | (refine S.f ?_ <;> (try simp only [Ym, ↓reduceIte, *])) | fail))
    all_goals first | exact SV.mk none 0 0 | exact SL.mk ⟨none, 0, 0⟩ []
 ·have h' := h
  unfold inR at h'
  refine S.I fun u => ?_
  ((try simp only [WKb, ↓reduceIte, Nat.reduceEqDiff, Nat.reduceAdd]) <;> (repeat' ((first
  | (refine G.tr ?_; first | (refine G.call 67 ?_; first | refine S.c ?_ (h := W2 S.o)) | fail)
  | rintro _ _ ⟨rfl, rfl⟩
  | fail) <;> (try simp only [WKb, ↓reduceIte, Nat.reduceEqDiff]))))
  all_goals
   (first | apply Tr.fin hK ⟨⟨⟨none, 0, 0⟩, []⟩, (by first | (simp [*, Wa]; done) | fail), rfl, rfl⟩ | fail)
   ((try clear hK) <;> (try simp only [WKe, JD, ↓reduceIte, *]) <;> repeat (first | with_reducible exact Xd.done | refine S.e ?_ | fail))
   all_goals first | exact SV.mk none 0 0 | exact SL.mk ⟨none, 0, 0⟩ []
theorem xrI {g : Xg} {x : Zd} (h : g.core = JJ x) : g = Xg.mk0 g.b g.c x := by
 obtain ⟨b, q, i, sz, d, lo, c, s, ms, m, t, f⟩ := g
 simp only [Xg.core, JJ, Prod.mk.injEq] at h
 obtain ⟨rfl, rfl, rfl, rfl, rfl, rfl, rfl, rfl, rfl, rfl⟩ := h
 rfl
end
theorem xpt {p : Nat} {s : SV} {gs : List Xg} {k : Int} (hl0 : (ix gs k).m.d.length ≤ 1000000) : Xb prog 165 #[.pointer (some ⟨p, 0, none⟩), .int .i64 k] [poB p s, fam Ym gs, sl false s.v (gs.map Xg.pt)]
  fun v l' => ∃ s3 s4, v = .tuple #[SV.v s4, .int .i64 (Z2 gs k false)] ∧ l' = [poB p s, fam Ym (W8 gs k false s3), sl false s.v ((W8 gs k false s3).map Xg.pt), Fz.fz (SL.mk s4 (JW gs k false) : Msg)] := by
 refine Xb.mono (xrn hl0) ?_
 rintro v l' ⟨s3, ⟨s4, d⟩, h, rfl, rfl⟩
 have h' : d = JW gs k false := h
 subst h'
 exact ⟨s3, s4, rfl, rfl⟩
theorem xhg {p : Nat} {s : SV} {gs : List Xg} {k : Int} (hl0 : (ix gs k).m.d.length ≤ 1000000) : Xb prog 95 #[.pointer (some ⟨p, 0, none⟩), .int .i64 k] [poB p s, fam Ym gs, sl false s.v (gs.map Xg.pt)]
  fun v l' => ∃ s3 s4, v = .tuple #[SV.v s4, .int .i64 (Z2 gs k true)] ∧ l' = [poB p s, fam Ym (W8 gs k true s3), sl false s.v ((W8 gs k true s3).map Xg.pt), Fz.fz (SL.mk s4 (JW gs k true) : Msg)] := by
 refine Xb.mono (xjM hl0) ?_
 rintro v l' ⟨s3, ⟨s4, d⟩, h, rfl, rfl⟩
 have h' : d = JW gs k true := h
 subst h'
 exact ⟨s3, s4, rfl, rfl⟩
instance {l : List Xc} : De l (.int .u8 120) (120 : UInt8) := ⟨rfl⟩
instance {l : List Xc} : De l (.int .u8 121) (121 : UInt8) := ⟨rfl⟩
instance xwR {l : List Xc} {s : SV} {d : List UInt8} : ZV (Fz.fz (SL.mk s d : Msg) :: l) s.v true UInt8 inferInstance d := xrZ (x := (SL.mk s d : Msg))
section
variable {b c : Nat} {s s2 : SV} {m m2 m3 : Msg} {n : Nat} {lo : Int} {ms : List Msg}
abbrev g4 (b c : Nat) (lo : Int) (s : SV) (ms : List Msg) : Xg := ⟨b, true, true, 4, 1, lo, c, s, ms, default, false, false⟩
end
section
attribute [local irreducible] BrK Xq Xt Xv XI FnK XZ Xw XC XV opX opK Yq Yk eqR Yj Yo Ys WL WD W X3 XO Tr drewK Ya X4 Yw Yv X1 YB mp blk rob sl sep ex fact old
structure AP where
 c : Zd
 ms : List (List UInt8)
 fresh : Bool
 lost : Int
instance : Inhabited AP := ⟨⟨default, [], false, 0⟩⟩
instance : ElT 137 (SL Msg) := ⟨⟩
def mo (x : SL Msg) : List (List UInt8) := x.d.map SL.d
abbrev rB (r : Nat) (a b c d : SV) : Xc := blk r (.cells #[a.v, b.v, c.v, d.v] 139 (0, 0))
def Yu (ps : List AP) (k : Int) (q i : Bool) : Bool := if inR ps k then (((ix ps k).c.q == q) && ((ix ps k).c.i == i)) else false
def YU (ps : List AP) (k : Int) (q : Bool) (n : Nat) : Int := if Yu ps k q false = true then (if Wf n (ix ps k).c.size = true then (if q = true then (if (ix ps k).c.depth ≤ (ix ps k).ms.length then 1 else 0) else 0) else 2) else 3
def Yh (ps : List AP) (k : Int) (q : Bool) (m : List UInt8) : List AP := if Yu ps k q false = true then (if Wf m.length (ix ps k).c.size = true then (if q = true then (if (ix ps k).c.depth ≤ (ix ps k).ms.length then ps else ps.set k.toNat { ix ps k with ms := (ix ps k).ms ++ [m], fresh := false }) else ps.set k.toNat { ix ps k with ms := [m], fresh := true }) else ps) else ps
def Y3 (ps : List AP) (k : Int) (q : Bool) : Int := if Yu ps k q true = true then (if ((ix ps k).ms.length : Int) = 0 then 1 else 0) else 3
def YS (ps : List AP) (k : Int) (q : Bool) : List UInt8 := if Yu ps k q true = true then (if ((ix ps k).ms.length : Int) = 0 then [] else ix (ix ps k).ms 0) else []
def Z1 (ps : List AP) (k : Int) (q : Bool) : List AP := if Yu ps k q true = true then (if q = true then (if ((ix ps k).ms.length : Int) = 0 then ps else ps.set k.toNat { ix ps k with ms := (ix ps k).ms.drop 1, fresh := false }) else ps) else ps
def Zl (ps : List AP) (k : Int) : List (List UInt8) := if Yu ps k true false = true then (ix ps k).ms else if Yu ps k false false = true then (if (ix ps k).fresh = true then (ix ps k).ms else []) else []
def YQ (ps : List AP) (k : Int) : List AP := if Yu ps k true false = true then ps.set k.toNat { ix ps k with ms := [], fresh := false } else if Yu ps k false false = true then (if (ix ps k).fresh = true then ps.set k.toNat { ix ps k with fresh := false } else ps) else ps
def QQ (ps : List AP) (k : Int) : Bool := if Yu ps k false true = true then true else if Yu ps k true true = true then !decide ((ix ps k).c.depth ≤ (ix ps k).ms.length) else false
def J0 (ps : List AP) (k : Int) (m : List UInt8) : List AP := if Yu ps k false true = true then ps.set k.toNat { ix ps k with ms := [m], fresh := false } else if Yu ps k true true = true then (if (ix ps k).c.depth ≤ (ix ps k).ms.length then ps.set k.toNat { ix ps k with fresh := false, lost := IntKind.i64.wrap ((ix ps k).lost + 1) } else ps.set k.toNat { ix ps k with ms := (ix ps k).ms ++ [m], fresh := false }) else ps
theorem xbe {ps : List AP} {xs : List (SL Msg)} (h : xs.map mo = ps.map AP.ms) : xs.length = ps.length := by simpa using congrArg List.length h
theorem xcL {ps : List AP} {xs : List (SL Msg)} (h : xs.map mo = ps.map AP.ms) {k : Int} (h0 : 0 ≤ k) (h1 : k < ps.length) : (ix xs k).d.map SL.d = (ix ps k).ms := by
 have hl := xbe h
 rw [← Xp (f := AP.ms) h0 h1, ← h, Xp (f := mo) h0 S.o]; rfl
theorem xaI {ps : List AP} {xs : List (SL Msg)} (h : xs.map mo = ps.map AP.ms) {k : Int} (h0 : 0 ≤ k) (h1 : k < ps.length) : (ix xs k).d.length = (ix ps k).ms.length := by
 rw [← xcL h h0 h1]; simp
theorem YR {r : Nat} {a b c d : SV} {ps : List AP} {k : Int} {q i : Bool} : Xb prog 87 #[.pointer (some ⟨r, 0, none⟩), .int .i64 k, .bool q, .bool i] [rB r a b c d, sl true a.v (ps.map AP.c)]
  fun v l' => v = .bool (Yu ps k q i) ∧ l' = [rB r a b c d, sl true a.v (ps.map AP.c)] := by
 intro F K hK
 simp only [ap]
 have hl : (ps.map AP.c).length = ps.length := List.length_map _
 refine S.I fun u => ?_
 by_cases h : inR ps k
 ·have ⟨h0, h1⟩ := h
  have hm := Xp (f := AP.c) h0 h1
  have hX := hm; repeat' (first | refine S.x ?_ | refine S.y ?_ ?_ | intro hb | fail)
  all_goals
   refine Tr.fin hK ⟨(by first | (simp [*, Yu]; done) | fail), rfl⟩ ?_
   exact S.E
 ·have h' := h
  unfold inR at h'
  repeat' (first | refine S.x ?_ | refine S.y ?_ ?_ | intro hb | fail)
  all_goals
   refine Tr.fin hK ⟨(by first | (simp [*, Yu]; done) | fail), rfl⟩ ?_
   exact S.E
theorem Vo {r : Nat} {a b c d s : SV} {xs : List (SL Msg)} {fs : List Bool} {os : List Int} {k lo : Int} {fr : Bool} {ms : List Msg} (h0 : 0 ≤ k) (h1 : k < xs.length) (h2 : fs.length = xs.length) (h3 : os.length = xs.length) (hb : xs.length ≤ 1000000) :
  Xb prog 88 #[.pointer (some ⟨r, 0, none⟩), .int .i64 k, s.v, .bool fr, .int .i64 lo] [rB r a b c d, sl false b.v xs, fzl xs, sl false c.v fs, sl false d.v os, sl true s.v ms, fzl ms]
  fun v l' => ∃ b2 c2 d2, v = .tuple #[] ∧ l' = [rB r a b2 c2 d2, sl false b2.v (xs.set k.toNat (SL.mk s ms)), fzl (xs.set k.toNat (SL.mk s ms)), sl false c2.v (fs.set k.toNat fr), sl false d2.v (os.set k.toNat lo)] := by
 intro F K hK
 simp only [ap]
 refine S.I fun u => ?_
 repeat' (first | refine S.x ?_ | intro hb | fail)
 all_goals
  apply Tr.fin hK ⟨_, _, _, rfl, rfl⟩
  exact S.E
theorem xa7 {ps : List AP} {k : Int} {q i : Bool} (h : Yu ps k q i = true) : 0 ≤ k ∧ k < ps.length ∧ (ix ps k).c.q = q ∧ (ix ps k).c.i = i := by
 unfold Yu at h
 split at h
 ·rename_i hr
  simp only [Bool.and_eq_true, beq_iff_eq] at h
  exact ⟨hr.1, hr.2, h.1, h.2⟩
 ·cases h
theorem xkS {n : Nat} {s : Int} : Wf n s = true ↔ 1 ≤ (n : Int) ∧ (n : Int) ≤ s := by unfold Wf; simp
theorem Q8 {ps : List AP} {xs : List (SL Msg)} (h : xs.map mo = ps.map AP.ms) {k : Nat} {y : SL Msg} {g : AP} (hg : mo y = g.ms) : (xs.set k y).map mo = (ps.set k g).map AP.ms := by rw [List.map_set, List.map_set, h, hg]
theorem ZP {β : Type} {f : AP → β} {ps : List AP} {k : Int} (h0 : 0 ≤ k) (h1 : k < ps.length) : (ps.map f).set k.toNat (f (ix ps k)) = ps.map f := by rw [← List.map_set]; exact YW h0 h1 _ rfl
theorem xiq {r : Nat} {a b c d s : SV} {ps : List AP} {xs : List (SL Msg)} {k : Int} {q : Bool} {m : List UInt8} (hx : xs.map mo = ps.map AP.ms) (hb : ps.length ≤ 1000000) (hm : (ix ps k).ms.length ≤ 1000000) :
  Xb prog 199 #[.pointer (some ⟨r, 0, none⟩), .int .i64 k, .bool q, s.v] [rB r a b c d, sl true a.v (ps.map AP.c), sl false b.v xs, fzl xs, sl false c.v (ps.map AP.fresh), sl false d.v (ps.map AP.lost), sl true s.v m]
  fun v l' => ∃ b2 c2 d2 xs2, xs2.map mo = (Yh ps k q m).map AP.ms ∧ v = .int .i64 (YU ps k q m.length) ∧ l' = [rB r a b2 c2 d2, sl true a.v ((Yh ps k q m).map AP.c), sl false b2.v xs2, fzl xs2, sl false c2.v ((Yh ps k q m).map AP.fresh), sl false d2.v ((Yh ps k q m).map AP.lost)] := by
 intro F K hK
 simp only [ap]
 have hl := xbe hx
 have hlc : (ps.map AP.c).length = ps.length := List.length_map _
 have hlo : (ps.map AP.lost).length = ps.length := List.length_map _
 have hlf : (ps.map AP.fresh).length = ps.length := List.length_map _
 refine S.I fun u => ?_
 cases hc : Yu ps k q false
 ·have hI : Yh ps k q m = ps := by simp [Yh, hc]
  have hX := And.intro @xjo hc; repeat' (first | refine S.x ?_ | (refine G.call 87 ?_; refine S.c ?_ (h := YR)) | rintro _ _ ⟨rfl, rfl⟩ | fail)
  all_goals
   apply Tr.fin hK ⟨b, c, d, xs, by rw [hI]; exact hx, (by first | (simp [*, YU]; done) | fail), rfl⟩
   (have hX := hI; exact S.E)
 ·obtain ⟨h0, h1, hq, hi⟩ := xa7 hc
  have hmc := Xp (f := AP.c) h0 h1
  have hmo := Xp (f := AP.lost) h0 h1
  have hlm := xaI hx h0 h1
  have hkc := ZP (f := AP.c) h0 h1
  have hkl := ZP (f := AP.lost) h0 h1
  cases hn : Wf m.length (ix ps k).c.size
  ·have hI : Yh ps k q m = ps := by simp [Yh, hc, hn]
   have hn' : ¬ (1 ≤ (m.length : Int) ∧ (m.length : Int) ≤ (ix ps k).c.size) := fun h => by rw [xkS.2 h] at hn; cases hn
   have hX := I3 @xjo hc hmc; repeat' (first | refine S.x ?_ | refine S.y ?_ ?_ | (refine G.call 87 ?_; refine S.c ?_ (h := YR)) | rintro _ _ ⟨rfl, rfl⟩ | intro hb | fail)
   all_goals
    apply Tr.fin hK ⟨b, c, d, xs, by rw [hI]; exact hx, (by first | (simp [*, YU]; done) | fail), rfl⟩
    (have hX := hI; exact S.E)
  ·have hn' := xkS.1 hn
   cases q
   ·have hI : Yh ps k false m = ps.set k.toNat { ix ps k with ms := [m], fresh := true } := by simp [Yh, hc, hn]
    have hS : ∀ t, (xs.set k.toNat ⟨t, [⟨s, m⟩]⟩).map mo = (Yh ps k false m).map AP.ms := fun t => by rw [hI]; exact Q8 hx rfl
    have hX := I4 @xjo hc hmc hmo; repeat' (first | refine S.x ?_ | (refine G.call 87 ?_; refine S.c ?_ (h := YR)) | (refine G.call 88 ?_; refine S.c ?_ (h := Vo ?_ ?_ ?_ ?_ ?_)) | rintro _ _ ⟨rfl, rfl⟩ | rintro _ _ ⟨_, _, _, rfl, rfl⟩ | (refine G.prop ?_; assumption) | intro hb | (refine G.call 88 ?_; refine Tr.freezeAt (α := Msg) S.K ?_) | ((fail_if_success refine G.tr ?_); exact G.prop S.p) | fail)
    all_goals
     apply Tr.fin hK ⟨_, _, _, _, hS _, (by first | (simp [*, YU]; done) | fail), rfl⟩
     (have hX := And.intro hI (And.intro @List.map_set.{0,0} (And.intro hkc hkl)); exact S.E)
   ·by_cases hf : (ix ps k).c.depth ≤ (ix ps k).ms.length
    ·have hI : Yh ps k true m = ps := by simp [Yh, hc, hn, hf]
     have hX := I5 @xjo hc hmc hmo hlm; repeat' (first | refine S.x ?_ | (refine G.call 87 ?_; refine S.c ?_ (h := YR)) | rintro _ _ ⟨rfl, rfl⟩ | intro hb | fail)
     all_goals
      apply Tr.fin hK ⟨b, c, d, xs, by rw [hI]; exact hx, (by first | (simp [*, YU]; done) | fail), rfl⟩
      (have hX := hI; exact S.E)
    ·have hI : Yh ps k true m = ps.set k.toNat { ix ps k with ms := (ix ps k).ms ++ [m], fresh := false } := by simp [Yh, hc, hn, hf]
     have hS : ∀ t, (xs.set k.toNat ⟨t, (ix xs k).d ++ [⟨s, m⟩]⟩).map mo = (Yh ps k true m).map AP.ms := fun t => by
      rw [hI]; exact Q8 hx (by simp [mo, xcL hx h0 h1])
     have hX := I5 @xjo hc hmc hmo hlm; repeat' (first | refine S.x ?_ | refine S.y ?_ ?_ | (refine G.call 87 ?_; refine S.c ?_ (h := YR)) | (refine G.call 88 ?_; refine S.c ?_ (h := Vo ?_ ?_ ?_ ?_ ?_)) | rintro _ _ ⟨rfl, rfl⟩ | rintro _ _ ⟨_, _, _, rfl, rfl⟩ | (refine G.prop ?_; assumption) | intro hb | (refine G.call 88 ?_; refine Tr.freezeAt (α := Msg) S.K ?_) | ((fail_if_success refine G.tr ?_); exact G.prop S.p) | fail)
     all_goals
      apply Tr.fin hK ⟨_, _, _, _, hS _, (by first | (simp [*, YU]; done) | fail), rfl⟩
      (have hX := And.intro hI (And.intro @List.map_set.{0,0} (And.intro hkc hkl)); exact S.E)
theorem xmX {r : Nat} {a b c d s : SV} {ps : List AP} {xs : List (SL Msg)} {k : Int} {m : List UInt8} (hx : xs.map mo = ps.map AP.ms) (hb : ps.length ≤ 1000000) (hm : (ix ps k).ms.length ≤ 1000000) :
  Xb prog 210 #[.pointer (some ⟨r, 0, none⟩), .int .i64 k, s.v] [rB r a b c d, sl true a.v (ps.map AP.c), sl false b.v xs, fzl xs, sl false c.v (ps.map AP.fresh), sl false d.v (ps.map AP.lost), sl true s.v m]
  fun v l' => ∃ b2 c2 d2 xs2, xs2.map mo = (Yh ps k false m).map AP.ms ∧ v = .int .i64 (YU ps k false m.length) ∧ l' = [rB r a b2 c2 d2, sl true a.v ((Yh ps k false m).map AP.c), sl false b2.v xs2, fzl xs2, sl false c2.v ((Yh ps k false m).map AP.fresh), sl false d2.v ((Yh ps k false m).map AP.lost)] := by
 intro F K hK
 simp only [ap]
 refine S.I fun u => ?_
 repeat' (first | refine S.x ?_ | (refine G.call 199 ?_; refine S.c ?_ (h := xiq ?_ ?_ ?_)) | rintro _ _ ⟨_, _, _, _, hxs, rfl, rfl⟩ | (refine G.prop ?_; assumption) | fail)
 all_goals
  apply Tr.fin hK ⟨_, _, _, _, hxs, rfl, rfl⟩
  exact S.E
theorem xp1 {r : Nat} {a b c d s : SV} {ps : List AP} {xs : List (SL Msg)} {k : Int} {m : List UInt8} (hx : xs.map mo = ps.map AP.ms) (hb : ps.length ≤ 1000000) (hm : (ix ps k).ms.length ≤ 1000000) :
  Xb prog 129 #[.pointer (some ⟨r, 0, none⟩), .int .i64 k, s.v] [rB r a b c d, sl true a.v (ps.map AP.c), sl false b.v xs, fzl xs, sl false c.v (ps.map AP.fresh), sl false d.v (ps.map AP.lost), sl true s.v m]
  fun v l' => ∃ b2 c2 d2 xs2, xs2.map mo = (Yh ps k true m).map AP.ms ∧ v = .int .i64 (YU ps k true m.length) ∧ l' = [rB r a b2 c2 d2, sl true a.v ((Yh ps k true m).map AP.c), sl false b2.v xs2, fzl xs2, sl false c2.v ((Yh ps k true m).map AP.fresh), sl false d2.v ((Yh ps k true m).map AP.lost)] := by
 intro F K hK
 simp only [ap]
 refine S.I fun u => ?_
 repeat' (first | refine S.x ?_ | (refine G.call 199 ?_; refine S.c ?_ (h := xiq ?_ ?_ ?_)) | rintro _ _ ⟨_, _, _, _, hxs, rfl, rfl⟩ | (refine G.prop ?_; assumption) | fail)
 all_goals
  apply Tr.fin hK ⟨_, _, _, _, hxs, rfl, rfl⟩
  exact S.E
theorem xq5 {r : Nat} {a b c d : SV} {ps : List AP} {xs : List (SL Msg)} {k : Int} (hx : xs.map mo = ps.map AP.ms) :
  Xb prog 206 #[.pointer (some ⟨r, 0, none⟩), .int .i64 k] [rB r a b c d, sl true a.v (ps.map AP.c), sl false b.v xs, fzl xs, sl false c.v (ps.map AP.fresh), sl false d.v (ps.map AP.lost)]
  fun v l' => ∃ t : SV, v = .tuple #[t.v, .int .i64 (Y3 ps k false)] ∧ l' = [Fz.fz (SL.mk t (YS ps k false) : Msg), rB r a b c d, sl true a.v (ps.map AP.c), sl false b.v xs, fzl xs, sl false c.v (ps.map AP.fresh), sl false d.v (ps.map AP.lost)] := by
 intro F K hK
 simp only [ap]
 have hdm : (⟨⟨none, 0, 0⟩, []⟩ : Msg) = default := rfl
 have hl := xbe hx
 have hlc : (ps.map AP.c).length = ps.length := List.length_map _
 have hlo : (ps.map AP.lost).length = ps.length := List.length_map _
 have hlf : (ps.map AP.fresh).length = ps.length := List.length_map _
 refine S.I fun u => ?_
 cases hc : Yu ps k false true
 ·have hD : YS ps k false = [] := by simp [YS, hc]
  have hX := hc; repeat' (first | refine S.x ?_ | (refine G.call 87 ?_; refine S.c ?_ (h := YR)) | rintro _ _ ⟨rfl, rfl⟩ | fail)
  all_goals
   apply Tr.fin hK ⟨⟨none, 0, 0⟩, (by first | (simp only [WKe, ↓reduceIte, *, Y3]; rfl)), rfl⟩
   (have hX := And.intro hD hdm; exact S.E)
 ·obtain ⟨h0, h1, hq, hi⟩ := xa7 hc
  have hmc := Xp (f := AP.c) h0 h1
  have hmo := Xp (f := AP.lost) h0 h1
  have hmf := Xp (f := AP.fresh) h0 h1
  have hlm := xaI hx h0 h1
  have hms := xcL hx h0 h1
  have hkc := ZP (f := AP.c) h0 h1
  have hkl := ZP (f := AP.lost) h0 h1
  by_cases he : ((ix ps k).ms.length : Int) = 0
  ·have hD : YS ps k false = [] := by simp only [YS, hc, he, if_true]
   have hX := And.intro hc hlm; repeat' (first | refine S.x ?_ | (refine G.call 87 ?_; refine S.c ?_ (h := YR)) | rintro _ _ ⟨rfl, rfl⟩ | intro hb | fail)
   all_goals
    apply Tr.fin hK ⟨⟨none, 0, 0⟩, (by first | (simp only [↓reduceIte, *, Y3]; rfl)), rfl⟩
    (have hX := And.intro hD hdm; exact S.E)
  ·have hD : YS ps k false = (ix (ix xs k).d 0).d := by
    simp only [YS, hc, he, if_true, if_false]
    rw [← hms, Xp (f := SL.d) S.o S.o]
   have hX := And.intro hc hlm; repeat' (first | refine S.x ?_ | (refine G.call 87 ?_; refine S.c ?_ (h := YR)) | rintro _ _ ⟨rfl, rfl⟩ | intro hb | fail)
   all_goals
    apply Tr.fin hK ⟨(ix (ix xs k).d 0).s, (by first | (simp only [↓reduceIte, eq_self, *, Y3]; done) | fail), rfl⟩
    (have hX := And.intro hD hdm; exact S.E)
