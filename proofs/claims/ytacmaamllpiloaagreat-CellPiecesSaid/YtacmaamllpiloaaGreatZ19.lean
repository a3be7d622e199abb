import Derived.Test.YtacmaamllpiloaaGreatZ13
namespace Go.Proofs.YtacmaamllpiloaaGreat
open Go Go.Wk Tryz
set_option maxHeartbeats 64000000
set_option maxRecDepth 10000
def cq : List Nat := [1, 2, 3, 6, 7, 8, 12, 13, 14, 18, 19, 20, 24, 25, 26]
def cp0 : Xj := .r 28 1 (.e 29 [] (.r 30 1 .fin))
def cp1 : Xj := .e 27 [1, 2, 3] cp0
def cp2 : Xj := .e 22 cq cp1
def cp3 : Xj := .e 21 [1, 2, 3, 24, 25, 26] cp1
def cp4 : Xj := .br (.e 21 [1, 2, 3, 24, 25, 26] cp2) (.e 22 cq cp3)
def cp5 : Xj := .e 16 cq cp3
def cp6 : Xj := .br (.e 16 cq cp4) (.e 22 cq cp5)
def cp7 : Xj := .e 15 [1, 2, 3, 18, 19, 20, 24, 25, 26] cp3
def cp8 : Xj := .br (.e 15 [1, 2, 3, 18, 19, 20, 24, 25, 26] cp4) (.e 22 cq cp7)
def cp9 : Xj := .br (.e 15 [1, 2, 3, 18, 19, 20, 24, 25, 26] cp5) (.e 16 cq cp7)
def xrE : Xj := .br (.e 15 [1, 2, 3, 18, 19, 20, 24, 25, 26] cp6) (.br (.e 16 cq cp8) (.e 22 cq cp9))
def xpp : Xj := .e 10 cq cp7
def xsL : Xj := .br (.e 10 cq cp8) (.e 22 cq xpp)
def xtf : Xj := .br (.e 10 cq cp9) (.e 16 cq xpp)
def xvo : Xj := .br (.e 10 cq xrE) (.br (.e 16 cq xsL) (.e 22 cq xtf))
def xnI : Xj := .e 9 [1, 2, 3, 12, 13, 14, 18, 19, 20, 24, 25, 26] cp7
def xpw : Xj := .br (.e 9 [1, 2, 3, 12, 13, 14, 18, 19, 20, 24, 25, 26] cp8) (.e 22 cq xnI)
def xqV : Xj := .br (.e 9 [1, 2, 3, 12, 13, 14, 18, 19, 20, 24, 25, 26] cp9) (.e 16 cq xnI)
def xrv : Xj := .br (.e 9 [1, 2, 3, 12, 13, 14, 18, 19, 20, 24, 25, 26] xrE) (.br (.e 16 cq xpw) (.e 22 cq xqV))
def xoj : Xj := .br (.e 9 [1, 2, 3, 12, 13, 14, 18, 19, 20, 24, 25, 26] xpp) (.e 10 cq xnI)
def xsK : Xj := .br (.e 9 [1, 2, 3, 12, 13, 14, 18, 19, 20, 24, 25, 26] xsL) (.br (.e 10 cq xpw) (.e 22 cq xoj))
def xsd : Xj := .br (.e 9 [1, 2, 3, 12, 13, 14, 18, 19, 20, 24, 25, 26] xtf) (.br (.e 10 cq xqV) (.e 16 cq xoj))
def xt9 : Xj := .br (.e 9 [1, 2, 3, 12, 13, 14, 18, 19, 20, 24, 25, 26] xvo) (.br (.e 10 cq xrv) (.br (.e 16 cq xsK) (.e 22 cq xsd)))
def xpF : Xj := .e 4 cq xnI
def xrz : Xj := .br (.e 4 cq xpw) (.e 22 cq xpF)
def xrr : Xj := .br (.e 4 cq xqV) (.e 16 cq xpF)
def xvr : Xj := .br (.e 4 cq xrv) (.br (.e 16 cq xrz) (.e 22 cq xrr))
def xrC : Xj := .br (.e 4 cq xoj) (.e 10 cq xpF)
def xt5 : Xj := .br (.e 4 cq xsK) (.br (.e 10 cq xrz) (.e 22 cq xrC))
def xt1 : Xj := .br (.e 4 cq xsd) (.br (.e 10 cq xrr) (.e 16 cq xrC))
def xua : Xj := .br (.e 4 cq xt9) (.br (.e 10 cq xvr) (.br (.e 16 cq xt5) (.e 22 cq xt1)))
def xre : Nat → Xj
 | 1 => .r 0 4 (.r 5 4 (.r 11 4 (.r 17 4 (.r 23 4 (xua)))))
 | _ => .fin
theorem xuI : xsB prog 241 Tryz.f241 (bd Tryz.f241) xre := ⟨Tryz.func241, rfl, by kernel_rfl, by kernel_rfl⟩
instance xtj : ElT 137 (SL Msg) := ⟨⟩
abbrev rOB (b : Nat) (o : ObW) : Xc := blk b (.cells #[o.c.regions.v, o.c.procs.v, o.c.ports.v, o.c.sems.v, .int .i64 o.c.flags, o.c.pools.v, o.c.slates.v, .int .i64 o.c.cap, .int .i64 o.c.budget, .int .i64 o.c.ladder, o.c.acts.v, o.ss.v, o.fs.v, o.ps.v, o.ls.v] 201 (0, 0))
section
attribute [local irreducible] BrK Xq Xt Xv XI FnK XZ Xw XC XV opX opK Yq Yk eqR Yj Yo Ys WL WD W X3 XO Tr drewK Ya X4 Yw Yv X1 YB mp blk rob sl sep ex fact old
section
variable (r : Nat) (o : ObW) (ns : List Int) (fs : List Bool) (xs ys : List (SL Msg)) (F : List Xc) (k : Env → WP)
abbrev cL (l : List Xc) : List Xc := rOB r o :: sl false o.ss.v ns :: sl false o.fs.v fs :: sl false o.ps.v xs :: sl false o.ls.v ys :: l
structure CK : Prop where
 h1 : ns.length ≤ 1000000
 h2 : fs.length ≤ 1000000
 h3 : xs.length ≤ 1000000
 h4 : ys.length ≤ 1000000
 hk : ∀ (r2 : Nat) (a b c d : SV) (e : Env), e 2 = .pointer (some ⟨r2, 0, none⟩) → Tr (cL r o ns fs xs ys (rOB r2 ⟨o.c, a, b, c, d⟩ :: sl false a.v ns :: sl false b.v fs :: sl false c.v xs :: sl false d.v ys :: F)) (k e)
abbrev cT (p : Xj) (u : Env) (l : List Xc) (s : List Nat) (v : List Value) : Prop :=
 Tr (cL r o ns fs xs ys l) (WD prog (YE (bd Tryz.f241) 1) p k (xa9 u ([3, 4, 5, 6, 8, 9, 10, 11, 14, 15, 16, 17, 20, 21, 22, 23, 26, 27, 28, 29] ++ s) ([.pointer (some ⟨r, 0, none⟩), .pointer (some ⟨r, 0, none⟩), .pointer (some ⟨r, 0, none⟩), .agg #[o.c.regions.v, o.c.procs.v, o.c.ports.v, o.c.sems.v, .int .i64 o.c.flags, o.c.pools.v, o.c.slates.v, .int .i64 o.c.cap, .int .i64 o.c.budget, .int .i64 o.c.ladder, o.c.acts.v], .pointer (some ⟨r, 0, none⟩), .pointer (some ⟨r, 0, none⟩), .pointer (some ⟨r, 11, none⟩), o.ss.v, .pointer (some ⟨r, 0, none⟩), .pointer (some ⟨r, 0, none⟩), .pointer (some ⟨r, 12, none⟩), o.fs.v, .pointer (some ⟨r, 0, none⟩), .pointer (some ⟨r, 0, none⟩), .pointer (some ⟨r, 13, none⟩), o.ps.v, .pointer (some ⟨r, 0, none⟩), .pointer (some ⟨r, 0, none⟩), .pointer (some ⟨r, 14, none⟩), o.ls.v] ++ v)))
end
theorem cD {P : Program} {ops : Array Oper} {p : Xj} {k : Env → WP} {e : Env} {ss : List Nat} {vs : List Value} {l l' : List Xc} (h : ∀ u, Tr l' (WD P ops p k (xa9 u ss vs)))
  (hs : ss.map e = vs := by ((try simp only [WKb, List.map_cons, List.map_nil]); (repeat (refine Jl (by exact rfl) ?_)); exact rfl)) (hh : Xd [] l l' := by (repeat (first | with_reducible exact Xd.done | refine S.e ?_ | fail))) : Tr l (WD P ops p k e) :=
 Tr.ent2 hh (Tr.atD h hs)
section
variable {r : Nat} {o : ObW} {ns : List Int} {fs : List Bool} {xs ys : List (SL Msg)} {F : List Xc} {k : Env → WP} {g4 g9 g10 g15 g16 g21 g22 g27 : SV}
theorem cl0 (H : CK r o ns fs xs ys F k) (u : Env) : cT r o ns fs xs ys k cp0 u (sl false g9.v ns :: sl false g15.v fs :: sl false g21.v xs :: sl false g27.v ys :: F) [12, 18, 24, 30] [g9.v, g15.v, g21.v, g27.v] := by
 have h1 := H.h1; have h2 := H.h2; have h3 := H.h3; have h4 := H.h4
 simp only [cT, cL, ap, YE, bd, Tryz.f241, XQ, XF, ↓reduceIte, Nat.reduceEqDiff, cp0]
 repeat' (first | refine S.x ?_ | intro hb | fail)
 apply Tr.ent2 ?hh (H.hk _ g9 g15 g21 g27 _ ?hs)
 case hs => exact rfl
 case hh => (repeat (first | with_reducible exact Xd.done | refine S.e ?_ | fail))
theorem cl1 (H : CK r o ns fs xs ys F k) (u : Env) : cT r o ns fs xs ys k cp1 u (sl false g9.v ns :: sl false g15.v fs :: sl false g21.v xs :: sl false g22.v ([] : List (SL Msg)) :: F) [12, 18, 24, 25] [g9.v, g15.v, g21.v, g22.v] := by
 have h1 := H.h1; have h2 := H.h2; have h3 := H.h3; have h4 := H.h4
 simp only [cT, cL, ap, YE, bd, Tryz.f241, XQ, XF, ↓reduceIte, Nat.reduceEqDiff, cp1]
 repeat' (first | refine S.x ?_ | intro hb | fail)
 exact cD (cl0 H)
theorem cl2 (H : CK r o ns fs xs ys F k) (u : Env) : cT r o ns fs xs ys k cp2 u (sl false g9.v ns :: sl false g15.v fs :: sl false g21.v xs :: F) [12, 18, 24] [g9.v, g15.v, g21.v] := by
 have h1 := H.h1; have h2 := H.h2; have h3 := H.h3; have h4 := H.h4
 simp only [cT, cL, ap, YE, bd, Tryz.f241, XQ, XF, ↓reduceIte, Nat.reduceEqDiff, cp2, cq]
 repeat' (first | refine S.x ?_ | intro hb | fail)
 exact cD (cl1 H)
theorem cl3 (H : CK r o ns fs xs ys F k) (u : Env) : cT r o ns fs xs ys k cp3 u (sl false g9.v ns :: sl false g15.v fs :: sl false g16.v ([] : List (SL Msg)) :: sl false g22.v ([] : List (SL Msg)) :: F) [12, 18, 19, 25] [g9.v, g15.v, g16.v, g22.v] := by
 have h1 := H.h1; have h2 := H.h2; have h3 := H.h3; have h4 := H.h4
 simp only [cT, cL, ap, YE, bd, Tryz.f241, XQ, XF, ↓reduceIte, Nat.reduceEqDiff, cp3]
 repeat' (first | refine S.x ?_ | intro hb | fail)
 exact cD (cl1 H)
theorem cl4 (H : CK r o ns fs xs ys F k) (u : Env) : cT r o ns fs xs ys k cp4 u (sl false g9.v ns :: sl false g15.v fs :: sl false g16.v ([] : List (SL Msg)) :: F) [12, 18, 19] [g9.v, g15.v, g16.v] := by
 have h1 := H.h1; have h2 := H.h2; have h3 := H.h3; have h4 := H.h4
 simp only [cT, cL, ap, YE, bd, Tryz.f241, XQ, XF, ↓reduceIte, Nat.reduceEqDiff, cp4, cq]
 repeat' (first | refine S.x ?_ | refine S.y ?_ ?_ | intro hb | fail)
 ·exact cD (cl2 H)
 ·exact cD (cl3 H)
theorem cl5 (H : CK r o ns fs xs ys F k) (u : Env) : cT r o ns fs xs ys k cp5 u (sl false g9.v ns :: sl false g15.v fs :: sl false g22.v ([] : List (SL Msg)) :: F) [12, 18, 25] [g9.v, g15.v, g22.v] := by
 have h1 := H.h1; have h2 := H.h2; have h3 := H.h3; have h4 := H.h4
 simp only [cT, cL, ap, YE, bd, Tryz.f241, XQ, XF, ↓reduceIte, Nat.reduceEqDiff, cp5, cq]
 repeat' (first | refine S.x ?_ | intro hb | fail)
 exact cD (cl3 H)
theorem cl6 (H : CK r o ns fs xs ys F k) (u : Env) : cT r o ns fs xs ys k cp6 u (sl false g9.v ns :: sl false g15.v fs :: F) [12, 18] [g9.v, g15.v] := by
 have h1 := H.h1; have h2 := H.h2; have h3 := H.h3; have h4 := H.h4
 simp only [cT, cL, ap, YE, bd, Tryz.f241, XQ, XF, ↓reduceIte, Nat.reduceEqDiff, cp6, cq]
 repeat' (first | refine S.x ?_ | refine S.y ?_ ?_ | intro hb | fail)
 ·exact cD (cl4 H)
 ·exact cD (cl5 H)
theorem cl7 (H : CK r o ns fs xs ys F k) (u : Env) : cT r o ns fs xs ys k cp7 u (sl false g9.v ns :: sl false g10.v ([] : List (Bool)) :: sl false g16.v ([] : List (SL Msg)) :: sl false g22.v ([] : List (SL Msg)) :: F) [12, 13, 19, 25] [g9.v, g10.v, g16.v, g22.v] := by
 have h1 := H.h1; have h2 := H.h2; have h3 := H.h3; have h4 := H.h4
 simp only [cT, cL, ap, YE, bd, Tryz.f241, XQ, XF, ↓reduceIte, Nat.reduceEqDiff, cp7]
 repeat' (first | refine S.x ?_ | intro hb | fail)
 exact cD (cl3 H)
theorem cl8 (H : CK r o ns fs xs ys F k) (u : Env) : cT r o ns fs xs ys k cp8 u (sl false g9.v ns :: sl false g10.v ([] : List (Bool)) :: sl false g16.v ([] : List (SL Msg)) :: F) [12, 13, 19] [g9.v, g10.v, g16.v] := by
 have h1 := H.h1; have h2 := H.h2; have h3 := H.h3; have h4 := H.h4
 simp only [cT, cL, ap, YE, bd, Tryz.f241, XQ, XF, ↓reduceIte, Nat.reduceEqDiff, cp8, cq]
 repeat' (first | refine S.x ?_ | refine S.y ?_ ?_ | intro hb | fail)
 ·exact cD (cl4 H)
 ·exact cD (cl7 H)
theorem cl9 (H : CK r o ns fs xs ys F k) (u : Env) : cT r o ns fs xs ys k cp9 u (sl false g9.v ns :: sl false g10.v ([] : List (Bool)) :: sl false g22.v ([] : List (SL Msg)) :: F) [12, 13, 25] [g9.v, g10.v, g22.v] := by
 have h1 := H.h1; have h2 := H.h2; have h3 := H.h3; have h4 := H.h4
 simp only [cT, cL, ap, YE, bd, Tryz.f241, XQ, XF, ↓reduceIte, Nat.reduceEqDiff, cp9, cq]
 repeat' (first | refine S.x ?_ | refine S.y ?_ ?_ | intro hb | fail)
 ·exact cD (cl5 H)
 ·exact cD (cl7 H)
theorem xvI (H : CK r o ns fs xs ys F k) (u : Env) : cT r o ns fs xs ys k xrE u (sl false g9.v ns :: sl false g10.v ([] : List (Bool)) :: F) [12, 13] [g9.v, g10.v] := by
 have h1 := H.h1; have h2 := H.h2; have h3 := H.h3; have h4 := H.h4
 simp only [cT, cL, ap, YE, bd, Tryz.f241, XQ, XF, ↓reduceIte, Nat.reduceEqDiff, xrE, cq]
 repeat' (first | refine S.x ?_ | refine S.y ?_ ?_ | intro hb | fail)
 ·exact cD (cl6 H)
 ·exact cD (cl8 H)
 ·exact cD (cl9 H)
theorem xuy (H : CK r o ns fs xs ys F k) (u : Env) : cT r o ns fs xs ys k xpp u (sl false g9.v ns :: sl false g16.v ([] : List (SL Msg)) :: sl false g22.v ([] : List (SL Msg)) :: F) [12, 19, 25] [g9.v, g16.v, g22.v] := by
 have h1 := H.h1; have h2 := H.h2; have h3 := H.h3; have h4 := H.h4
 simp only [cT, cL, ap, YE, bd, Tryz.f241, XQ, XF, ↓reduceIte, Nat.reduceEqDiff, xpp, cq]
 repeat' (first | refine S.x ?_ | intro hb | fail)
 exact cD (cl7 H)
theorem xwJ (H : CK r o ns fs xs ys F k) (u : Env) : cT r o ns fs xs ys k xsL u (sl false g9.v ns :: sl false g16.v ([] : List (SL Msg)) :: F) [12, 19] [g9.v, g16.v] := by
 have h1 := H.h1; have h2 := H.h2; have h3 := H.h3; have h4 := H.h4
 simp only [cT, cL, ap, YE, bd, Tryz.f241, XQ, XF, ↓reduceIte, Nat.reduceEqDiff, xsL, cq]
 repeat' (first | refine S.x ?_ | refine S.y ?_ ?_ | intro hb | fail)
 ·exact cD (cl8 H)
 ·exact cD (xuy H)
theorem xw2 (H : CK r o ns fs xs ys F k) (u : Env) : cT r o ns fs xs ys k xtf u (sl false g9.v ns :: sl false g22.v ([] : List (SL Msg)) :: F) [12, 25] [g9.v, g22.v] := by
 have h1 := H.h1; have h2 := H.h2; have h3 := H.h3; have h4 := H.h4
 simp only [cT, cL, ap, YE, bd, Tryz.f241, XQ, XF, ↓reduceIte, Nat.reduceEqDiff, xtf, cq]
 repeat' (first | refine S.x ?_ | refine S.y ?_ ?_ | intro hb | fail)
 ·exact cD (cl9 H)
 ·exact cD (xuy H)
theorem xxq (H : CK r o ns fs xs ys F k) (u : Env) : cT r o ns fs xs ys k xvo u (sl false g9.v ns :: F) [12] [g9.v] := by
 have h1 := H.h1; have h2 := H.h2; have h3 := H.h3; have h4 := H.h4
 simp only [cT, cL, ap, YE, bd, Tryz.f241, XQ, XF, ↓reduceIte, Nat.reduceEqDiff, xvo, cq]
 repeat' (first | refine S.x ?_ | refine S.y ?_ ?_ | intro hb | fail)
 ·exact cD (xvI H)
 ·exact cD (xwJ H)
 ·exact cD (xw2 H)
theorem xrq (H : CK r o ns fs xs ys F k) (u : Env) : cT r o ns fs xs ys k xnI u (sl false g4.v ([] : List (Int)) :: sl false g10.v ([] : List (Bool)) :: sl false g16.v ([] : List (SL Msg)) :: sl false g22.v ([] : List (SL Msg)) :: F) [7, 13, 19, 25] [g4.v, g10.v, g16.v, g22.v] := by
 have h1 := H.h1; have h2 := H.h2; have h3 := H.h3; have h4 := H.h4
 simp only [cT, cL, ap, YE, bd, Tryz.f241, XQ, XF, ↓reduceIte, Nat.reduceEqDiff, xnI]
 repeat' (first | refine S.x ?_ | intro hb | fail)
 exact cD (cl7 H)
theorem xt0 (H : CK r o ns fs xs ys F k) (u : Env) : cT r o ns fs xs ys k xpw u (sl false g4.v ([] : List (Int)) :: sl false g10.v ([] : List (Bool)) :: sl false g16.v ([] : List (SL Msg)) :: F) [7, 13, 19] [g4.v, g10.v, g16.v] := by
 have h1 := H.h1; have h2 := H.h2; have h3 := H.h3; have h4 := H.h4
 simp only [cT, cL, ap, YE, bd, Tryz.f241, XQ, XF, ↓reduceIte, Nat.reduceEqDiff, xpw, cq]
 repeat' (first | refine S.x ?_ | refine S.y ?_ ?_ | intro hb | fail)
 ·exact cD (cl8 H)
 ·exact cD (xrq H)
theorem xuw (H : CK r o ns fs xs ys F k) (u : Env) : cT r o ns fs xs ys k xqV u (sl false g4.v ([] : List (Int)) :: sl false g10.v ([] : List (Bool)) :: sl false g22.v ([] : List (SL Msg)) :: F) [7, 13, 25] [g4.v, g10.v, g22.v] := by
 have h1 := H.h1; have h2 := H.h2; have h3 := H.h3; have h4 := H.h4
 simp only [cT, cL, ap, YE, bd, Tryz.f241, XQ, XF, ↓reduceIte, Nat.reduceEqDiff, xqV, cq]
 repeat' (first | refine S.x ?_ | refine S.y ?_ ?_ | intro hb | fail)
 ·exact cD (cl9 H)
 ·exact cD (xrq H)
theorem xv4 (H : CK r o ns fs xs ys F k) (u : Env) : cT r o ns fs xs ys k xrv u (sl false g4.v ([] : List (Int)) :: sl false g10.v ([] : List (Bool)) :: F) [7, 13] [g4.v, g10.v] := by
 have h1 := H.h1; have h2 := H.h2; have h3 := H.h3; have h4 := H.h4
 simp only [cT, cL, ap, YE, bd, Tryz.f241, XQ, XF, ↓reduceIte, Nat.reduceEqDiff, xrv, cq]
 repeat' (first | refine S.x ?_ | refine S.y ?_ ?_ | intro hb | fail)
 ·exact cD (xvI H)
 ·exact cD (xt0 H)
 ·exact cD (xuw H)
theorem xul (H : CK r o ns fs xs ys F k) (u : Env) : cT r o ns fs xs ys k xoj u (sl false g4.v ([] : List (Int)) :: sl false g16.v ([] : List (SL Msg)) :: sl false g22.v ([] : List (SL Msg)) :: F) [7, 19, 25] [g4.v, g16.v, g22.v] := by
 have h1 := H.h1; have h2 := H.h2; have h3 := H.h3; have h4 := H.h4
 simp only [cT, cL, ap, YE, bd, Tryz.f241, XQ, XF, ↓reduceIte, Nat.reduceEqDiff, xoj, cq]
 repeat' (first | refine S.x ?_ | refine S.y ?_ ?_ | intro hb | fail)
 ·exact cD (xuy H)
 ·exact cD (xrq H)
theorem xwg (H : CK r o ns fs xs ys F k) (u : Env) : cT r o ns fs xs ys k xsK u (sl false g4.v ([] : List (Int)) :: sl false g16.v ([] : List (SL Msg)) :: F) [7, 19] [g4.v, g16.v] := by
 have h1 := H.h1; have h2 := H.h2; have h3 := H.h3; have h4 := H.h4
 simp only [cT, cL, ap, YE, bd, Tryz.f241, XQ, XF, ↓reduceIte, Nat.reduceEqDiff, xsK, cq]
 repeat' (first | refine S.x ?_ | refine S.y ?_ ?_ | intro hb | fail)
 ·exact cD (xwJ H)
 ·exact cD (xt0 H)
 ·exact cD (xul H)
theorem xwZ (H : CK r o ns fs xs ys F k) (u : Env) : cT r o ns fs xs ys k xsd u (sl false g4.v ([] : List (Int)) :: sl false g22.v ([] : List (SL Msg)) :: F) [7, 25] [g4.v, g22.v] := by
 have h1 := H.h1; have h2 := H.h2; have h3 := H.h3; have h4 := H.h4
 simp only [cT, cL, ap, YE, bd, Tryz.f241, XQ, XF, ↓reduceIte, Nat.reduceEqDiff, xsd, cq]
 repeat' (first | refine S.x ?_ | refine S.y ?_ ?_ | intro hb | fail)
 ·exact cD (xw2 H)
 ·exact cD (xuw H)
 ·exact cD (xul H)
theorem xxu (H : CK r o ns fs xs ys F k) (u : Env) : cT r o ns fs xs ys k xt9 u (sl false g4.v ([] : List (Int)) :: F) [7] [g4.v] := by
 have h1 := H.h1; have h2 := H.h2; have h3 := H.h3; have h4 := H.h4
 simp only [cT, cL, ap, YE, bd, Tryz.f241, XQ, XF, ↓reduceIte, Nat.reduceEqDiff, xt9, cq]
 repeat' (first | refine S.x ?_ | refine S.y ?_ ?_ | intro hb | fail)
 ·exact cD (xxq H)
 ·exact cD (xv4 H)
 ·exact cD (xwg H)
 ·exact cD (xwZ H)
theorem xu4 (H : CK r o ns fs xs ys F k) (u : Env) : cT r o ns fs xs ys k xpF u (sl false g10.v ([] : List (Bool)) :: sl false g16.v ([] : List (SL Msg)) :: sl false g22.v ([] : List (SL Msg)) :: F) [13, 19, 25] [g10.v, g16.v, g22.v] := by
 have h1 := H.h1; have h2 := H.h2; have h3 := H.h3; have h4 := H.h4
 simp only [cT, cL, ap, YE, bd, Tryz.f241, XQ, XF, ↓reduceIte, Nat.reduceEqDiff, xpF, cq]
 repeat' (first | refine S.x ?_ | intro hb | fail)
 exact cD (xrq H)
theorem xwI (H : CK r o ns fs xs ys F k) (u : Env) : cT r o ns fs xs ys k xrz u (sl false g10.v ([] : List (Bool)) :: sl false g16.v ([] : List (SL Msg)) :: F) [13, 19] [g10.v, g16.v] := by
 have h1 := H.h1; have h2 := H.h2; have h3 := H.h3; have h4 := H.h4
 simp only [cT, cL, ap, YE, bd, Tryz.f241, XQ, XF, ↓reduceIte, Nat.reduceEqDiff, xrz, cq]
 repeat' (first | refine S.x ?_ | refine S.y ?_ ?_ | intro hb | fail)
 ·exact cD (xt0 H)
 ·exact cD (xu4 H)
theorem xw5 (H : CK r o ns fs xs ys F k) (u : Env) : cT r o ns fs xs ys k xrr u (sl false g10.v ([] : List (Bool)) :: sl false g22.v ([] : List (SL Msg)) :: F) [13, 25] [g10.v, g22.v] := by
 have h1 := H.h1; have h2 := H.h2; have h3 := H.h3; have h4 := H.h4
 simp only [cT, cL, ap, YE, bd, Tryz.f241, XQ, XF, ↓reduceIte, Nat.reduceEqDiff, xrr, cq]
 repeat' (first | refine S.x ?_ | refine S.y ?_ ?_ | intro hb | fail)
 ·exact cD (xuw H)
 ·exact cD (xu4 H)
theorem xxG (H : CK r o ns fs xs ys F k) (u : Env) : cT r o ns fs xs ys k xvr u (sl false g10.v ([] : List (Bool)) :: F) [13] [g10.v] := by
 have h1 := H.h1; have h2 := H.h2; have h3 := H.h3; have h4 := H.h4
 simp only [cT, cL, ap, YE, bd, Tryz.f241, XQ, XF, ↓reduceIte, Nat.reduceEqDiff, xvr, cq]
 repeat' (first | refine S.x ?_ | refine S.y ?_ ?_ | intro hb | fail)
 ·exact cD (xv4 H)
 ·exact cD (xwI H)
 ·exact cD (xw5 H)
theorem xwd (H : CK r o ns fs xs ys F k) (u : Env) : cT r o ns fs xs ys k xrC u (sl false g16.v ([] : List (SL Msg)) :: sl false g22.v ([] : List (SL Msg)) :: F) [19, 25] [g16.v, g22.v] := by
 have h1 := H.h1; have h2 := H.h2; have h3 := H.h3; have h4 := H.h4
 simp only [cT, cL, ap, YE, bd, Tryz.f241, XQ, XF, ↓reduceIte, Nat.reduceEqDiff, xrC, cq]
 repeat' (first | refine S.x ?_ | refine S.y ?_ ?_ | intro hb | fail)
 ·exact cD (xul H)
 ·exact cD (xu4 H)
theorem xxv (H : CK r o ns fs xs ys F k) (u : Env) : cT r o ns fs xs ys k xt5 u (sl false g16.v ([] : List (SL Msg)) :: F) [19] [g16.v] := by
 have h1 := H.h1; have h2 := H.h2; have h3 := H.h3; have h4 := H.h4
 simp only [cT, cL, ap, YE, bd, Tryz.f241, XQ, XF, ↓reduceIte, Nat.reduceEqDiff, xt5, cq]
 repeat' (first | refine S.x ?_ | refine S.y ?_ ?_ | intro hb | fail)
 ·exact cD (xwg H)
 ·exact cD (xwI H)
 ·exact cD (xwd H)
theorem xxy (H : CK r o ns fs xs ys F k) (u : Env) : cT r o ns fs xs ys k xt1 u (sl false g22.v ([] : List (SL Msg)) :: F) [25] [g22.v] := by
 have h1 := H.h1; have h2 := H.h2; have h3 := H.h3; have h4 := H.h4
 simp only [cT, cL, ap, YE, bd, Tryz.f241, XQ, XF, ↓reduceIte, Nat.reduceEqDiff, xt1, cq]
 repeat' (first | refine S.x ?_ | refine S.y ?_ ?_ | intro hb | fail)
 ·exact cD (xwZ H)
 ·exact cD (xw5 H)
 ·exact cD (xwd H)
theorem xxt (H : CK r o ns fs xs ys F k) (u : Env) : cT r o ns fs xs ys k xua u (F) [] [] := by
 have h1 := H.h1; have h2 := H.h2; have h3 := H.h3; have h4 := H.h4
 simp only [cT, cL, ap, YE, bd, Tryz.f241, XQ, XF, ↓reduceIte, Nat.reduceEqDiff, xua, cq]
 repeat' (first | refine S.x ?_ | refine S.y ?_ ?_ | intro hb | fail)
 ·exact cD (xxu H)
 ·exact cD (xxG H)
 ·exact cD (xxv H)
 ·exact cD (xxy H)
end
theorem J9 {r : Nat} {o : ObW} {ns : List Int} {fs : List Bool} {xs ys : List (SL Msg)} (h1 : ns.length ≤ 1000000) (h2 : fs.length ≤ 1000000) (h3 : xs.length ≤ 1000000) (h4 : ys.length ≤ 1000000) :
  Xb prog 241 #[.pointer (some ⟨r, 0, none⟩)] [rOB r o, sl false o.ss.v ns, sl false o.fs.v fs, sl false o.ps.v xs, sl false o.ls.v ys]
  fun v l' => ∃ r2 a b c d, v = .pointer (some ⟨r2, 0, none⟩) ∧ l' = [rOB r o, rOB r2 ⟨o.c, a, b, c, d⟩, sl false (SV.v a) ns, sl false (SV.v b) fs, sl false (SV.v c) xs, sl false (SV.v d) ys] := by
 intro F K hK
 simp only [ap]
 (refine Tr.enter (rs := [.tmp 2]) mixed xuI rfl (by simp +arith [Tryz.ntmps241]) fun u => ?_; simp only [bd, Tryz.f241])
 have hX := @xre.eq_def; repeat' (first | refine S.x ?_ | fail)
 refine cD (xxt ⟨h1, h2, h3, h4, ?_⟩)
 intro r2 a b c d e he
 have hX := he; repeat' (first | refine S.x ?_ | fail)
 all_goals
  apply Tr.fin hK ⟨_, _, _, _, _, rfl, rfl⟩
  (repeat (first | with_reducible exact Xd.done | refine S.e ?_ | refine Xd.drop (F := F) ?_ | fail))
def omo (x : SL Msg) : List (List UInt8) := x.d.map SL.d
def Xu.mm (g : Xu) : List (List UInt8) := g.ms.map SL.d
def Xi.mm (g : Xi) : List (List UInt8) := if g.shown = true then [g.m.d] else []
theorem ZT {r r2 : Nat} {o o2 : ObW} : Xb prog 238 #[.pointer (some ⟨r, 0, none⟩), .pointer (some ⟨r2, 0, none⟩)] [rOB r o, rOB r2 o2]
  fun v l' => v = .tuple #[] ∧ l' = [rOB r ⟨o.c, o2.ss, o2.fs, o2.ps, o2.ls⟩] := by
 intro F K hK
 simp only [ap]
 refine S.I fun u => ?_
 repeat' (first | refine S.x ?_ | fail)
 all_goals
  refine Tr.fin hK ⟨rfl, rfl⟩ ?_
  exact S.E
theorem xpi {r : Nat} {o : ObW} {gS : List XL} {gF : List Xr} {xs ys : List (SL Msg)} {k : Int} (h1 : gS.length ≤ 100000) (h2 : gF.length ≤ 100000) (h3 : xs.length ≤ 100000) (h4 : ys.length ≤ 100000) :
  Xb prog 211 #[.pointer (some ⟨r, 0, none⟩), .int .i64 k] [rOB r o, sl false o.ss.v (gS.map XL.count), sl false o.fs.v (gF.map Xr.up), sl false o.ps.v xs, fzl xs, sl false o.ls.v ys, fzl ys]
  fun v l' => ∃ a b c d, v = .int .i64 (xbD gS k) ∧ l' = [rOB r ⟨o.c, a, b, c, d⟩, sl false (SV.v a) ((V1 gS k).map XL.count), sl false (SV.v b) ((gF).map Xr.up), sl false (SV.v c) xs, fzl xs, sl false (SV.v d) ys, fzl ys] := by
 intro F K hK
 simp only [ap]
 have hl1 : (gS.map XL.count).length = gS.length := List.length_map _
 have hl2 : (gF.map Xr.up).length = gF.length := List.length_map _
 refine S.I fun u => ?_
 by_cases h : inR gS k
 ·have ⟨h0, h1'⟩ := h
  have hm := Xp (f := XL.count) h0 h1'
  by_cases hc : (ix gS k).count < 1
  ·have hI : V1 gS k = gS := by simp [V1, h, hc]
   have hX := And.intro @xk4.eq_def hm; repeat' (first | refine S.x ?_ | intro hb | fail)
   all_goals
    apply Tr.fin hK ⟨o.ss, o.fs, o.ps, o.ls, (by first | (simp [*, xbD]; done) | fail), rfl⟩
    (have hX := hI; exact S.E)
  ·have hI : V1 gS k = gS.set k.toNat { ix gS k with count := IntKind.i64.wrap ((ix gS k).count - 1) } := by simp [V1, h, hc]
   have hX := And.intro @xk4.eq_def hm; repeat' (first | refine S.x ?_ | (refine G.call 241 ?_; refine S.c ?_ (h := J9 ?_ ?_ ?_ ?_)) | (refine G.call 238 ?_; refine S.c ?_ (h := ZT)) | rintro _ _ ⟨rfl, rfl⟩ | rintro _ _ ⟨_, _, _, _, _, rfl, rfl⟩ | intro hb | ((fail_if_success refine G.tr ?_); exact G.prop S.p) | fail)
   all_goals
    apply Tr.fin hK ⟨_, _, _, _, (by first | (simp [*, xbD]; done) | fail), rfl⟩
    (have hX := And.intro hI @List.map_set.{0,0}; exact S.E)
 ·have h' := h
  unfold inR at h'
  have hI : V1 gS k = gS := by simp [V1, h]
  have hX := @xk4.eq_def; repeat' (first | refine S.x ?_ | refine S.y ?_ ?_ | intro hb | fail)
  all_goals
   apply Tr.fin hK ⟨o.ss, o.fs, o.ps, o.ls, (by first | (simp [*, xbD]; done) | fail), rfl⟩
   (have hX := hI; exact S.E)
theorem xqW {r : Nat} {o : ObW} {gS : List XL} {gF : List Xr} {xs ys : List (SL Msg)} {k : Int} {cs : List JO} (h1 : gS.length ≤ 100000) (h2 : gF.length ≤ 100000) (h3 : xs.length ≤ 100000) (h4 : ys.length ≤ 100000) (hcs : ∀ k : Int, inR gS k → k < cs.length ∧ (ix cs k).most = (ix gS k).most) :
  Xb prog 212 #[.pointer (some ⟨r, 0, none⟩), .int .i64 k] [rOB r o, sl false o.ss.v (gS.map XL.count), sl false o.fs.v (gF.map Xr.up), sl false o.ps.v xs, fzl xs, sl false o.ls.v ys, fzl ys, sl true o.c.sems.v cs]
  fun v l' => ∃ a b c d, v = .int .i64 (xbx gS k) ∧ l' = [rOB r ⟨o.c, a, b, c, d⟩, sl false (SV.v a) ((VZ gS k).map XL.count), sl false (SV.v b) ((gF).map Xr.up), sl false (SV.v c) xs, fzl xs, sl false (SV.v d) ys, fzl ys] := by
 intro F K hK
 simp only [ap]
 have hl1 : (gS.map XL.count).length = gS.length := List.length_map _
 have hl2 : (gF.map Xr.up).length = gF.length := List.length_map _
 refine S.I fun u => ?_
 by_cases h : inR gS k
 ·have ⟨h0, h1'⟩ := h
  have hm := Xp (f := XL.count) h0 h1'
  obtain ⟨hc1, hc2⟩ := hcs k h
  by_cases hc : (ix gS k).most ≤ (ix gS k).count
  ·have hI : VZ gS k = gS := by simp [VZ, h, hc]
   have hX := I3 @xld.eq_def hm hc2; repeat' (first | refine S.x ?_ | intro hb | fail)
   all_goals
    apply Tr.fin hK ⟨o.ss, o.fs, o.ps, o.ls, (by first | (simp [*, xbx]; done) | fail), rfl⟩
    (have hX := hI; exact S.E)
  ·have hI : VZ gS k = gS.set k.toNat { ix gS k with count := IntKind.i64.wrap ((ix gS k).count + 1) } := by simp [VZ, h, hc]
   have hX := I3 @xld.eq_def hm hc2; repeat' (first | refine S.x ?_ | (refine G.call 241 ?_; refine S.c ?_ (h := J9 ?_ ?_ ?_ ?_)) | (refine G.call 238 ?_; refine S.c ?_ (h := ZT)) | rintro _ _ ⟨rfl, rfl⟩ | rintro _ _ ⟨_, _, _, _, _, rfl, rfl⟩ | intro hb | ((fail_if_success refine G.tr ?_); exact G.prop S.p) | fail)
   all_goals
    apply Tr.fin hK ⟨_, _, _, _, (by first | (simp [*, xbx]; done) | fail), rfl⟩
    (have hX := And.intro hI @List.map_set.{0,0}; exact S.E)
 ·have h' := h
  unfold inR at h'
  have hI : VZ gS k = gS := by simp [VZ, h]
  have hX := @xld.eq_def; repeat' (first | refine S.x ?_ | refine S.y ?_ ?_ | intro hb | fail)
  all_goals
   apply Tr.fin hK ⟨o.ss, o.fs, o.ps, o.ls, (by first | (simp [*, xbx]; done) | fail), rfl⟩
   (have hX := hI; exact S.E)
theorem xn1 {r : Nat} {o : ObW} {gS : List XL} {gF : List Xr} {xs ys : List (SL Msg)} {k : Int} {up : Bool} (h1 : gS.length ≤ 100000) (h2 : gF.length ≤ 100000) (h3 : xs.length ≤ 100000) (h4 : ys.length ≤ 100000) :
  Xb prog 213 #[.pointer (some ⟨r, 0, none⟩), .int .i64 k, .bool up] [rOB r o, sl false o.ss.v (gS.map XL.count), sl false o.fs.v (gF.map Xr.up), sl false o.ps.v xs, fzl xs, sl false o.ls.v ys, fzl ys]
  fun v l' => ∃ a b c d, v = .int .i64 (VC gF k) ∧ l' = [rOB r ⟨o.c, a, b, c, d⟩, sl false (SV.v a) ((gS).map XL.count), sl false (SV.v b) ((W0 gF k up).map Xr.up), sl false (SV.v c) xs, fzl xs, sl false (SV.v d) ys, fzl ys] := by
 intro F K hK
 simp only [ap]
 have hl1 : (gS.map XL.count).length = gS.length := List.length_map _
 have hl2 : (gF.map Xr.up).length = gF.length := List.length_map _
 refine S.I fun u => ?_
 by_cases h : inR gF k
 ·have ⟨h0, h1'⟩ := h
  have hI : W0 gF k up = gF.set k.toNat { ix gF k with up := up } := by simp [W0, h]
  repeat' (first | refine S.x ?_ | (refine G.call 241 ?_; refine S.c ?_ (h := J9 ?_ ?_ ?_ ?_)) | (refine G.call 238 ?_; refine S.c ?_ (h := ZT)) | rintro _ _ ⟨rfl, rfl⟩ | rintro _ _ ⟨_, _, _, _, _, rfl, rfl⟩ | intro hb | ((fail_if_success refine G.tr ?_); exact G.prop S.p) | fail)
  all_goals
   apply Tr.fin hK ⟨_, _, _, _, (by first | (simp [*, VC]; done) | fail), rfl⟩
   (have hX := And.intro hI @List.map_set.{0,0}; exact S.E)
 ·have h' := h
  unfold inR at h'
  have hI : W0 gF k up = gF := by simp [W0, h]
  repeat' (first | refine S.x ?_ | refine S.y ?_ ?_ | intro hb | fail)
  all_goals
   apply Tr.fin hK ⟨o.ss, o.fs, o.ps, o.ls, (by first | (simp [*, VC]; done) | fail), rfl⟩
   (have hX := hI; exact S.E)
theorem xuh {r : Nat} {o : ObW} {gF : List Xr} {k : Int} : Xb prog 214 #[.pointer (some ⟨r, 0, none⟩), .int .i64 k] [rOB r o, sl false o.fs.v (gF.map Xr.up)]
  fun v l' => v = .tuple #[.bool (upB gF k), .int .i64 (VC gF k)] ∧ l' = [rOB r o, sl false o.fs.v (gF.map Xr.up)] := by
 intro F K hK
 simp only [ap]
 have hl2 : (gF.map Xr.up).length = gF.length := List.length_map _
 refine S.I fun u => ?_
 by_cases h : inR gF k
 ·have ⟨h0, h1'⟩ := h
  have hm := Xp (f := Xr.up) h0 h1'
  have hX := hm; repeat' (first | refine S.x ?_ | intro hb | fail)
  all_goals
   refine Tr.fin hK ⟨(by first | (simp [*, VC, upB]; done) | fail), rfl⟩ ?_
   exact S.E
 ·have h' := h
  unfold inR at h'
  repeat' (first | refine S.x ?_ | refine S.y ?_ ?_ | intro hb | fail)
  all_goals
   refine Tr.fin hK ⟨(by first | (simp [*, VC, upB]; done) | fail), rfl⟩ ?_
   exact S.E
