import Derived.Test.YtmebccjndhlpoaaGreatZ41
namespace Go.Proofs.YtmebccjndhlpoaaGreat
open Go Go.Wk Tryz
set_option maxHeartbeats 3200000
set_option maxRecDepth 100000
theorem xJY {xs : List xBM} {Gs : List PG} : (xCh xs Gs).map xBM.c = List.zipWith (fun c p => { c with pts := p }) (xs.map xBM.c) (Gs.map PG.ab) := by
 unfold xCh
 rw [List.map_zipWith, List.zipWith_map]
theorem xFy.ab {xs : List xBM} {Gs : List PG} {ac : List xBL} {seen : List Int} {E : Nat} (h : xFy xs Gs ac seen E) : Gs.map PG.ab = (xs.map xBM.c).map CM.pts := by
 refine List.ext_getElem (by simp [h.lG]) fun i h1 h2 => ?_
 have hx : i < xs.length := by simpa using h2
 have hg : i < Gs.length := by simpa using h1
 have e := (h.i (i : Int) S.o S.o).a
 have e1 : ix xs (i : Int) = xs[i] := by simp [ix, hx]
 have e2 : ix Gs (i : Int) = Gs[i] := by simp [ix, hg]
 rw [e1, e2] at e
 simpa using e
structure Tie (Cs : List CC) (xs : List xBM) (ac : List xBL) (t : PlM) : Prop where
 C : xs.map xBM.C = Cs
 c : xs.map xBM.c = t.cs
 y : ac.map xBL.cyc = t.cyc
theorem Tie.win {c : xs2} {Cs : List CC} {xs : List xBM} {Gs Gs2 : List PG} {ac : List xBL} {seen : List Int} {E : Nat} {k q : Int} {ls : List xBI} {chs : List xBK} {x2 : xBM} {R : CM × Int} {t : PlM} (h : xFy xs Gs ac seen E) (ht : Tie Cs xs ac t) (h0 : 0 ≤ k) (h1 : k < xs.length) (hbud : ac.map xBL.bud = c.parts.d.map YF.budget)
  (hR : R = xCW (ix xs k).C ls (ix ac k).bud q (ix xs k).c (ix ac k).cyc) (hC : x2.C = (ix xs k).C) (hc : x2.c = R.1) (hab : Gs2.map PG.ab = xB5 chs k R.1.win ((Gs.map PG.ab).set k.toNat R.1.pts)) :
  Tie Cs (xCh (xs.set k.toNat x2) Gs2) (ac.set k.toNat { ix ac k with cyc := R.2 }) (xDZ Cs (c.parts.d.map YF.budget) ls q chs k t) ∧ R = xCW (ix Cs k) ls (ix (c.parts.d.map YF.budget) k) q (ix t.cs k) (ix t.cyc k) := by
 have e1 : ix Cs k = (ix xs k).C := by rw [← ht.C]; exact Xp (f := xBM.C) h0 h1
 have e2 : ix t.cs k = (ix xs k).c := by rw [← ht.c]; exact Xp (f := xBM.c) h0 h1
 have hka : k < ac.length := by rw [h.lA]; exact h1
 have e3 : ix t.cyc k = (ix ac k).cyc := by rw [← ht.y]; exact Xp (f := xBL.cyc) h0 hka
 have e4 : ix (c.parts.d.map YF.budget) k = (ix ac k).bud := by rw [← hbud]; exact Xp (f := xBL.bud) h0 hka
 have hR2 : R = xCW (ix Cs k) ls (ix (c.parts.d.map YF.budget) k) q (ix t.cs k) (ix t.cyc k) := by rw [e1, e2, e3, e4]; exact hR
 refine ⟨⟨?_, ?_, ?_⟩, hR2⟩
 ·have hl2 : Gs2.length = xs.length := by
   have := congrArg List.length hab
   rw [xF6, List.length_set, List.length_map, List.length_map] at this
   rw [this]; exact h.lG
  have : (xCh (xs.set k.toNat x2) Gs2).map xBM.C = (xs.set k.toNat x2).map xBM.C := by
   refine List.ext_getElem (by simp [xCh, hl2]) fun i h1 h2 => ?_
   simp only [xCh, List.getElem_map, List.getElem_zipWith]
  rw [this, ← ht.C]
  exact xC7 h0 h1 hC
 ·rw [xJY, hab, List.map_set, hc, ht.c, h.ab, ht.c]
  unfold xDZ
  rw [← hR2]
 ·rw [List.map_set, ht.y]
  unfold xDZ
  rw [← hR2]
instance xMc : ElT 45 (SL Int) := ⟨⟩
theorem xEF {c : xs2} {Cs : List CC} {buds : List Int} {level : Int} : ∀ {ws : List xB9} {t : PlM}, (xC6 c Cs buds level ws t).sheds = t.sheds ∧ (xC6 c Cs buds level ws t).modes = t.modes ∧ (xC6 c Cs buds level ws t).creds = t.creds
 | [], _ => ⟨rfl, rfl, rfl⟩
 | w :: ws, t => by
  unfold xC6
  obtain ⟨h1, h2, h3⟩ := xEF (ws := ws) (t := if isM (ix c.parts.d w.part).ladder level = true then t else xDZ Cs buds c.levels.d (qM c.quantum) c.chans.d w.part t)
  rw [h1, h2, h3]
  split <;> exact ⟨rfl, rfl, rfl⟩
structure SyG where
 ev : SV
 ms : SV
 xs : List xBM
 Gs : List PG
 ac : List xBL
 seen : List Int
 m : List xBH
 t : PlM
structure SyI (c : xs2) (Cs : List CC) (px : List Pt) (pg : List Pt) (pa : List Pt) (E : Nat) (x : SyG) : Prop where
 s : xFy x.xs x.Gs x.ac x.seen E
 t : Tie Cs x.xs x.ac x.t
 n : x.xs.length = c.parts.d.length
 b : x.ac.map xBL.bud = c.parts.d.map YF.budget
 ev : x.t.evs.length ≤ E
 ml : x.m.length ≤ E
 ma : x.m.map xBH.ab = x.t.ms
 px : x.xs.map xBM.pt = px
 pg : x.Gs.map PG.pt = pg
 pa : x.ac.map xBL.pt = pa
theorem xGG {xs : List xBM} {Gs : List PG} {ac : List xBL} {seen : List Int} {E : Nat} (h : xFy xs Gs ac seen E) : xFy xs Gs (ac.map fun g => ({ g with cyc := 0 } : xBL)) seen E := by
 refine ⟨h.lG, by rw [List.length_map]; exact h.lA, h.lS, fun k h0 h1 => ?_, h.s, h.e, h.st, h.w, h.n⟩
 have e : ix (ac.map fun g => ({ g with cyc := 0 } : xBL)) k = xBL.mk (ix ac k).b (ix ac k).bud 0 := Xp (f := fun g : xBL => xBL.mk g.b g.bud 0) h0 (by rw [h.lA]; exact h1)
 have i := h.i k h0 h1
 rw [e]
 exact ⟨i.c, i.r, ⟨i.i.i, i.i.r, i.i.m, by show (0 : Int) ≤ 0; omega, by show (0 : Int) ≤ _; omega⟩, i.p, i.a, i.w⟩
theorem SyI.refill {c : xs2} {Cs : List CC} {px pg pa : List Pt} {E : Nat} {x : SyG} (h : SyI c Cs px pg pa E x) : SyI c Cs px pg pa E { x with ac := x.ac.map fun g => ({ g with cyc := 0 } : xBL), t := { x.t with cyc := x.t.cyc.map fun _ => 0 } } := by
 refine ⟨xGG h.s, ⟨h.t.C, h.t.c, ?_⟩, h.n, ?_, h.ev, h.ml, h.ma, h.px, h.pg, ?_⟩
 ·show (x.ac.map _).map xBL.cyc = x.t.cyc.map _
  rw [← h.t.y, List.map_map, List.map_map]; rfl
 ·show (x.ac.map _).map xBL.bud = _
  rw [← h.b, List.map_map]; rfl
 ·show (x.ac.map _).map xBL.pt = _
  rw [← h.pa, List.map_map]; rfl
theorem SyI.win {c : xs2} {Cs : List CC} {px pg pa : List Pt} {E : Nat} {x : SyG} {k : Int} {se sm : SV} {x2 : xBM} {m2 : List xBH} {Gs2 : List PG} {R : CM × Int} (h : SyI c Cs px pg pa E x) (h0 : 0 ≤ k) (h1 : k < x.xs.length)
  (hR : R = xCW (ix x.xs k).C c.levels.d (ix x.ac k).bud (qM c.quantum) (ix x.xs k).c (ix x.ac k).cyc) (hb : x2.b = (ix x.xs k).b) (hC : x2.C = (ix x.xs k).C) (hc : x2.c = R.1) (hr : Rel x2.C x2.c x2.w x2.gs) (hi : xDt x2.C x2.c R.2) (hokA : okA R.1.pts)
  (hpt : Gs2.map PG.pt = x.Gs.map PG.pt) (hab : Gs2.map PG.ab = xB5 c.chans.d k R.1.win ((x.Gs.map PG.ab).set k.toNat R.1.pts)) (hw : ∀ g ∈ Gs2, wfP g.gs) (hm : m2.map xBH.ab = xCF c.chans.d k R.1.win ((x.Gs.map PG.ab).set k.toNat R.1.pts)) :
  SyI c Cs px pg pa (E + 200000) ⟨se, sm, xCh (x.xs.set k.toNat x2) Gs2, Gs2, x.ac.set k.toNat { ix x.ac k with cyc := R.2 }, x.seen.set k.toNat (R.1.evs.length : Int), x.m ++ m2, xDZ Cs (c.parts.d.map YF.budget) c.levels.d (qM c.quantum) c.chans.d k x.t⟩
   ∧ fam xCN (xCh (x.xs.set k.toNat x2) Gs2) = fam xCN (x.xs.set k.toNat x2) ∧ (xDZ Cs (c.parts.d.map YF.budget) c.levels.d (qM c.quantum) c.chans.d k x.t).evs = x.t.evs ++ R.1.evs.drop (ix x.xs k).c.evs.length ∧ (x.m ++ m2).length ≤ E + 200000 := by
 obtain ⟨_, v2, v3⟩ := xKu (ls := c.levels.d) (bud := (ix x.ac k).bud) (q := qM c.quantum) (h.s.i k h0 h1).c (h.s.i k h0 h1).i (h.s.n k h0 h1)
 rw [← hR] at v2 v3
 have hS := h.s.win (chs := c.chans.d) (win := R.1.win) h0 h1 hC hc hr hi hpt hab hw v3 hokA
 obtain ⟨hT, hR2⟩ := h.t.win (c := c) h.s h0 h1 h.b hR hC hc hab
 have hl2 : Gs2.length = x.Gs.length := by have := congrArg List.length hpt; simpa using this
 have hls : (x.xs.set k.toNat x2).length = x.xs.length := List.length_set
 have hG2 : Gs2.length = (x.xs.set k.toNat x2).length := by rw [hls, hl2]; exact h.s.lG
 have e2 : ix x.t.cs k = (ix x.xs k).c := by rw [← h.t.c]; exact Xp (f := xBM.c) h0 h1
 have he : (xDZ Cs (c.parts.d.map YF.budget) c.levels.d (qM c.quantum) c.chans.d k x.t).evs = x.t.evs ++ R.1.evs.drop (ix x.xs k).c.evs.length := by
  show x.t.evs ++ _ = _
  rw [← hR2, e2]
 have hml : m2.length ≤ 4096 := by
  have := congrArg List.length hm
  rw [List.length_map] at this
  rw [this]; exact xEr
 have hmx : (x.m ++ m2).length ≤ E + 200000 := by
  rw [List.length_append]
  have := h.ml
  omega
 refine ⟨⟨hS, hT, ?_, ?_, ?_, hmx, ?_, ?_, ?_, ?_⟩, xE1 hG2, he, hmx⟩
 ·show (xCh _ _).length = _
  rw [xD0 hG2, hls]; exact h.n
 ·show (x.ac.set k.toNat _).map xBL.bud = _
  rw [← h.b]; exact xC7 h0 (by rw [h.s.lA]; exact h1) rfl
 ·show (xDZ _ _ _ _ _ _ _).evs.length ≤ _
  rw [he, List.length_append, List.length_drop]
  have := h.ev
  omega
 ·show (x.m ++ m2).map xBH.ab = x.t.ms ++ _
  rw [List.map_append, h.ma, hm, ← hR2, h.s.ab, h.t.c]
 ·show (xCh _ _).map xBM.pt = _
  have : (xCh (x.xs.set k.toNat x2) Gs2).map xBM.pt = (x.xs.set k.toNat x2).map xBM.pt := by
   refine List.ext_getElem (by simp [xCh, hl2, h.s.lG]) fun i h1 h2 => ?_
   simp only [xCh, List.getElem_map, List.getElem_zipWith]
   rfl
  rw [this, ← h.px]
  exact xC7 h0 h1 (by unfold xBM.pt; rw [hb])
 ·exact hpt.trans h.pg
 ·show (x.ac.set k.toNat _).map xBL.pt = _
  rw [← h.pa]; exact xC7 h0 (by rw [h.s.lA]; exact h1) rfl
theorem SyI.up {c : xs2} {Cs : List CC} {px pg pa : List Pt} {E E2 : Nat} {x : SyG} (h : SyI c Cs px pg pa E x) (hE : E ≤ E2) : SyI c Cs px pg pa E2 x := by
 refine ⟨⟨h.s.lG, h.s.lA, h.s.lS, h.s.i, h.s.s, fun k h0 h1 => Nat.le_trans (h.s.e k h0 h1) hE, h.s.st, h.s.w, h.s.n⟩, h.t, h.n, h.b, Nat.le_trans h.ev hE, Nat.le_trans h.ml hE, h.ma, h.px, h.pg, h.pa⟩
abbrev xJf (p : Nat) (c : xs2) (y : SyW) (s : SV) (pa : List Pt) (x : SyG) : List Xc := [xGl p c { y with ev := x.ev, ms := x.ms }, sl false y.sn.v x.seen, sl false x.ev.v x.t.evs, sl false x.ms.v x.m, fzl x.m, xEy y.bk s, sl false s.v pa, fam (xCx (qM c.quantum) c.pow) x.ac, fam xCN x.xs, fam xBT x.Gs]
theorem xIu {x y f : Int} (hf : 1 ≤ f) : (x + y + (f - 1)) / f ≤ (x + (f - 1)) / f + (y + (f - 1)) / f := by
 have h1 : x < ((x + (f - 1)) / f) * f + 1 := by
  have := Int.lt_ediv_add_one_mul_self (x + (f - 1)) (show 0 < f by omega)
  have e : ((x + (f - 1)) / f + 1) * f = ((x + (f - 1)) / f) * f + f := by rw [Int.add_mul, Int.one_mul]
  omega
 have h2 : y < ((y + (f - 1)) / f) * f + 1 := by
  have := Int.lt_ediv_add_one_mul_self (y + (f - 1)) (show 0 < f by omega)
  have e : ((y + (f - 1)) / f + 1) * f = ((y + (f - 1)) / f) * f + f := by rw [Int.add_mul, Int.one_mul]
  omega
 refine Int.le_of_lt_add_one (Int.ediv_lt_of_lt_mul S.o ?_)
 have e : ((x + (f - 1)) / f + (y + (f - 1)) / f + 1) * f = ((x + (f - 1)) / f) * f + ((y + (f - 1)) / f) * f + f := by rw [Int.add_mul, Int.add_mul, Int.one_mul]
 rw [e]
 omega
theorem xEz {a d b f : Int} (hf : 1 ≤ f) (hb : 0 ≤ b) (h : a ≤ d) : mdV a b f true ≤ mdV d b f true := by
 unfold mdV
 refine Int.ediv_le_ediv S.o ?_
 have := Int.mul_le_mul_of_nonneg_right h hb
 omega
theorem xJ9 {a d b f : Int} (hf : 1 ≤ f) : mdV (a + d) b f true ≤ mdV a b f true + mdV d b f true := by
 unfold mdV
 rw [if_pos rfl, Int.add_mul]
 exact xIu hf
section
variable {ls : List xBI} {n a d bud q cyc : Int}
theorem xGP (h : (xBJ ls n).2 = 0) : ∃ w f : Int, 0 ≤ w ∧ 1 ≤ f ∧ 0 ≤ n ∧ (∀ m, 0 ≤ m → xBJ ls m = if 9223372036854775807 < mdV m w f true then (0, 6) else (mdV m w f true, 0)) ∧ (xBJ ls n).1 = mdV n w f true ∧ mdV n w f true ≤ 9223372036854775807 := by
 have h0 := h
 unfold xBJ at h
 split at h
 ·exact absurd h (by decide)
 ·rename_i h1
  simp only [not_or] at h1
  split at h
  ·rename_i h2
   obtain ⟨w, hw⟩ : ∃ w, w = (xBU 1000 (xBQ ls).power 1 false).1 := ⟨_, rfl⟩
   have hw0 : 0 ≤ w := by
    rw [hw]
    unfold xBU
    split
    ·exact (by decide : (0 : Int) ≤ 0)
    ·split
     ·exact (by decide : (0 : Int) ≤ 0)
     ·show 0 ≤ mdV _ _ _ _
      unfold mdV
      have : 0 ≤ 1000 * (xBQ ls).power := by omega
      rw [if_neg (by decide), Int.ediv_one]
      omega
   have hall : ∀ m, 0 ≤ m → xBJ ls m = if 9223372036854775807 < mdV m w (xBQ ls).freq true then (0, 6) else (mdV m w (xBQ ls).freq true, 0) := fun m hm => by
    unfold xBJ
    rw [if_neg S.o, if_pos h2, ← hw]
    show xBU m w (xBQ ls).freq true = _
    unfold xBU
    rw [if_neg S.o]
   refine ⟨w, (xBQ ls).freq, hw0, by omega, by omega, hall, ?_, ?_⟩
   ·have e := hall n S.o
    rw [e] at h0 ⊢
    split at h0
    ·exact absurd h0 (by decide)
    ·rename_i h3
     rw [if_neg h3]
   ·have e := hall n S.o
    rw [e] at h0
    split at h0
    ·exact absurd h0 (by decide)
    ·omega
  ·rename_i h2
   exact absurd h h2
theorem xMq {a b c : Int} {up : Bool} : 0 ≤ (xBU a b c up).1 := by
 unfold xBU
 split
 ·exact (by decide : (0 : Int) ≤ 0)
 ·rename_i h
  split
  ·exact (by decide : (0 : Int) ≤ 0)
  ·show 0 ≤ mdV a b c up
   unfold mdV
   have := Int.mul_nonneg (show 0 ≤ a by omega) (show 0 ≤ b by omega)
   refine Int.ediv_nonneg ?_ S.o
   split <;> omega
theorem xDL : 0 ≤ (xBJ ls n).1 := by
 unfold xBJ
 split
 ·exact (by decide : (0 : Int) ≤ 0)
 ·split
  ·exact xMq
  ·exact (by decide : (0 : Int) ≤ 0)
theorem xIj (h : (xBJ ls d).2 = 0) (h0 : 0 ≤ a) (h1 : a ≤ d) : (xBJ ls a).2 = 0 ∧ (xBJ ls a).1 ≤ (xBJ ls d).1 := by
 obtain ⟨w, f, hw, hf, hn, hall, e, hm⟩ := xGP h
 have := xEz (b := w) hf hw h1
 rw [e, hall a h0, if_neg S.o]
 exact ⟨rfl, this⟩
theorem xJH (h : (xBJ ls (a + d)).2 = 0) (h0 : 0 ≤ a) (h1 : 0 ≤ d) : (xBJ ls (a + d)).1 ≤ (xBJ ls a).1 + (xBJ ls d).1 := by
 obtain ⟨w, f, hw, hf, hn, hall, e, hm⟩ := xGP h
 have m1 := xEz (b := w) hf hw (show a ≤ a + d by omega)
 have m2 := xEz (b := w) hf hw (show d ≤ a + d by omega)
 rw [e, hall a h0, if_neg S.o, hall d h1, if_neg S.o]
 exact xJ9 hf
theorem xKs {b c : Int} : (xBU 0 b c true).1 = 0 := by
 unfold xBU
 split
 ·rfl
 ·rename_i h
  split
  ·rfl
  ·show mdV 0 b c true = 0
   unfold mdV
   rw [if_pos rfl, Int.zero_mul, Int.zero_add]
   exact Int.ediv_eq_zero_of_lt S.o S.o
theorem xFj : (xBJ ls 0).1 = 0 := by
 unfold xBJ
 split
 ·rfl
 ·split
  ·exact xKs
  ·rfl
theorem xJS {c : CM} {k : Int} (h : 1 ≤ k) : 0 ≤ xcH c k ∧ xcH c k ≤ k := by
 unfold xcH xc8
 split <;> split <;> omega
def okY (ls : List xBI) (q bud cyc : Int) : Prop := 0 ≤ cyc ∧ (xBJ ls cyc).1 ≤ bud + (xBJ ls q).1
theorem xHT {c : CM} (hq : (xBJ ls q).2 = 0) (h : okY ls q bud cyc) (hp : ¬ xBO ls bud q cyc (X0 c) < 1) : okY ls q bud (xCb ls cyc (xcH c (xBO ls bud q cyc (X0 c)))) := by
 obtain ⟨h0, h1⟩ := h
 obtain ⟨_, p1, _, p3⟩ := xFQ hp
 have p4 := xKk hp
 obtain ⟨r0, r1⟩ := xJS (c := c) p1
 generalize xcH c (xBO ls bud q cyc (X0 c)) = r at *
 unfold xCb
 split
 ·exact ⟨h0, h1⟩
 ·split
  ·exact ⟨h0, h1⟩
  ·split
   ·rename_i h2
    have a1 := xJH h2 h0 r0
    have a2 := (xIj hq r0 S.o).2
    exact ⟨by omega, by omega⟩
   ·exact ⟨h0, h1⟩
theorem xFF {C : CC} (hq : (xBJ ls q).2 = 0) : ∀ (n : Nat) {c : CM} {cyc : Int}, okY ls q bud cyc → okY ls q bud (xCt C ls bud q n c cyc).2
 | 0, _, _, h => h
 | n + 1, c, cyc, h => by
  unfold xCt
  split
  ·exact h
  ·rename_i hp
   exact xFF hq n (xHT hq h hp)
theorem xIF {C : CC} {c : CM} (hq : (xBJ ls q).2 = 0) (h : okY ls q bud cyc) : okY ls q bud (xCW C ls bud q c cyc).2 := xFF hq _ h
end
structure xEW (ls : List xBI) (q : Int) (buds : List Int) (t : PlM) : Prop where
 l : t.cyc.length = buds.length
 y : ∀ k : Int, okY ls q (ix buds k) (ix t.cyc k)
 r : ∀ cr ∈ t.creds, cr.length = buds.length ∧ ∀ k : Int, 0 ≤ k → k < buds.length → 0 ≤ ix cr k ∧ ix cr k ≤ ix buds k + (xBJ ls q).1
section
variable {c : xs2} {Cs : List CC} {buds : List Int} {q : Int} {t : PlM}
theorem xKI {α : Type} [Inhabited α] {xs : List α} {k j : Int} {y : α} : ix (xs.set k.toNat y) j = if j.toNat = k.toNat ∧ k.toNat < xs.length then y else ix xs j := by
 unfold ix
 rw [List.getD_eq_getElem?_getD, List.getD_eq_getElem?_getD, List.getElem?_set]
 by_cases h : k.toNat = j.toNat
 ·rw [if_pos h]
  by_cases h2 : k.toNat < xs.length
  ·rw [if_pos h2, if_pos ⟨h.symm, h2⟩]; rfl
  ·rw [if_neg h2, if_neg (fun h3 => h2 h3.2)]
   rw [List.getElem?_eq_none S.o]
 ·rw [if_neg h, if_neg (fun h3 => h h3.1.symm)]
theorem xKm {k : Int} (hq : (xBJ c.levels.d q).2 = 0) (h : xEW c.levels.d q buds t) : xEW c.levels.d q buds (xDZ Cs buds c.levels.d q c.chans.d k t) := by
 refine ⟨by show (t.cyc.set _ _).length = _; rw [List.length_set]; exact h.l, fun j => ?_, h.r⟩
 show okY _ _ _ (ix (t.cyc.set k.toNat _) j)
 rw [xKI]
 split
 ·rename_i hj
  have e : ix buds j = ix buds k := by unfold ix; rw [hj.1]
  rw [e]
  exact xIF hq (h.y k)
 ·exact h.y j
theorem xF2 {level : Int} (hq : (xBJ c.levels.d (qM c.quantum)).2 = 0) : ∀ {ws : List xB9} {t : PlM}, xEW c.levels.d (qM c.quantum) buds t → xEW c.levels.d (qM c.quantum) buds (xC6 c Cs buds level ws t)
 | [], _, h => h
 | w :: ws, t, h => by
  unfold xC6
  refine xF2 hq ?_
  split
  ·exact h
  ·exact xKm hq h
theorem xH4 {g : xBR} (hq : (xBJ c.levels.d (qM c.quantum)).2 = 0) (hb : ∀ k : Int, 0 ≤ ix buds k) (h : xEW c.levels.d (qM c.quantum) buds t) : xEW c.levels.d (qM c.quantum) buds (xCi c Cs buds g t) := by
 have h0 : xEW c.levels.d (qM c.quantum) buds { t with cyc := t.cyc.map fun _ => 0 } := by
  refine ⟨by show (t.cyc.map _).length = _; rw [List.length_map]; exact h.l, fun k => ?_, h.r⟩
  have e : ix (t.cyc.map fun _ => (0 : Int)) k = 0 := by
   unfold ix
   rw [List.getD_eq_getElem?_getD, List.getElem?_map]
   cases t.cyc[k.toNat]? <;> rfl
  show okY _ _ _ (ix (t.cyc.map fun _ => (0 : Int)) k)
  rw [e]
  refine ⟨Int.le_refl _, ?_⟩
  rw [xFj]
  have := hb k
  have := xDL (ls := c.levels.d) (n := qM c.quantum)
  omega
 have h1 := xF2 (Cs := Cs) (level := g.level) (ws := xB3 c g) hq h0
 unfold xCi
 refine ⟨h1.l, h1.y, fun cr hcr => ?_⟩
 rcases List.mem_append.1 hcr with hc | hc
 ·exact h1.r cr hc
 ·rw [List.mem_singleton.1 hc]
  refine ⟨by rw [List.length_map]; exact h1.l, fun k k0 k1 => ?_⟩
  rw [Xp (f := fun n => (xBJ c.levels.d n).1) k0 (by rw [h1.l]; exact k1)]
  exact ⟨xDL, (h1.y k).2⟩
theorem xHg (hq : (xBJ c.levels.d (qM c.quantum)).2 = 0) (hb : ∀ k : Int, 0 ≤ ix buds k) : ∀ {ps : List xBR} {t : PlM}, xEW c.levels.d (qM c.quantum) buds t → xEW c.levels.d (qM c.quantum) buds (ps.foldl (fun t g => xCi c Cs buds g t) t)
 | [], _, h => h
 | g :: ps, t, h => by
  rw [List.foldl_cons]
  exact xHg hq hb (xH4 hq hb h)
end
theorem xKR {ls : List xBI} {n : Int} : (xBJ ls n).1 ≤ 9223372036854775807 := by
 unfold xBJ
 split
 ·exact (by decide : (0 : Int) ≤ 9223372036854775807)
 ·split
  ·exact xE0
  ·exact (by decide : (0 : Int) ≤ 9223372036854775807)
instance xMe {l : List Xc} {ls : List xBI} {gs : List xBL} : J8 l (xCP ls gs) := Va fun _ _ _ _ _ _ x hx => by
 obtain ⟨g, _, rfl⟩ := List.mem_map.1 hx
 have h1 := xDL (ls := ls) (n := g.cyc)
 have h2 := xKR (ls := ls) (n := g.cyc)
 exact ⟨by omega, h2⟩
theorem Tr.bringF {α : Type} [En α] [Fz α] (xs : List α) {l : List Xc} {X : WP} [hs : J8 l xs] (h : Tr (fzl xs :: l) X) : Tr l X := Tr.imp (hs.h.imps (xg2 xs)) h
section
attribute [local irreducible] BrK Xq Xt Xv XI FnK XZ Xw XC XV opX opK Yq Yk eqR Yj Yo Ys WL WD W X3 XO Tr drewK Ya X4 Yw Yv X1 YB mp blk rob sl sep ex fact old
section
attribute [local irreducible] xBG inB xBZ xB7 xBJ xB8 Zg Zw Y1 X2 objX xCx xBT xCN xCW xB5 xCF xDZ xCh
section
variable {p : Nat} {c : xs2} {y : SyW} {px pg pa : List Pt} {s : SV} {E : Nat} {Cs : List CC} {g : xBR} {cr : List (SL Int)} {x : SyG}
theorem xId (hs : shC c) (hco : xDC c) (hty : okT c.levels.d) (h : SyI c Cs px pg pa E x) (hcr : cr.map SL.d = x.t.creds) (hg : xIb c g) (hE : E ≤ 210000000) (h1 : x.t.sheds.length ≤ 1000) (h2 : x.t.modes.length ≤ 1000) (h3 : cr.length ≤ 1000) :
  Xb prog 27 #[.pointer (some ⟨p, 0, none⟩), .agg (En.enc g).toArray] (xJf p c y s pa x ++ [sl true y.cs.v px, sl true y.ps.v pg, sl false y.sh.v x.t.sheds, sl false y.md.v x.t.modes, sl false y.cr.v cr, fzl cr, sl true c.levels.s.v c.levels.d, sl true c.chans.s.v c.chans.d, sl true c.modes.s.v c.modes.d, fzl c.modes.d, sl true c.parts.s.v c.parts.d])
  fun v l' => ∃ (y2 : SyW) (x2 : SyG) (cr2 : List (SL Int)), y2.bd = y.bd ∧ y2.cs = y.cs ∧ y2.ps = y.ps ∧ y2.sn = y.sn ∧ y2.bk = y.bk ∧ x2.t = xCi c Cs (c.parts.d.map YF.budget) g x.t ∧ SyI c Cs px pg pa (E + 3200000) x2 ∧ cr2.map SL.d = x2.t.creds ∧ v = .tuple #[] ∧
   l' = xJf p c y2 s pa x2 ++ [sl false y2.sh.v x2.t.sheds, sl false y2.md.v x2.t.modes, sl false y2.cr.v cr2, fzl cr2] := by
 intro F K hK
 simp only [ap] at hK ⊢
 obtain ⟨xev, xms, xs, Gs, ac, seen, m, t⟩ := x
 simp only at hK h1 h2 hcr ⊢
 have hR := h.refill
 simp only at hR
 have hg1 := hg.1
 have hg2 := hg.2
 have hpq := h.pa
 obtain ⟨hm1, hm2, hm3⟩ := xHd hco.n8 (hco.m g.mode hg1 hg2)
 have hrf := xGo (p := y.bk) (s := s) (q := qM c.quantum) (pw := c.pow) (gs := ac)
 have hpz := hR.pa
 simp only at hpz hpq
 unfold xEj at hrf
 rw [hpq, hpz] at hrf
 have hwl : (ix c.modes.d g.mode).wins.d.length ≤ 1000000000 := by omega
 have hsp : xCI (ix c.modes.d g.mode).wins.d g.at_ = xB3 c g := rfl
 refine S.I fun u => ?_
 have hX := I3 @xnR.eq_def hsp hpq; repeat' (first | rintro _ _ ⟨rfl, rfl⟩ | rintro _ _ ⟨_, rfl, rfl⟩ | (refine G.call 44 ?_; refine S.c ?_ (h := hrf)) | refine S.x ?_ | (refine G.call 45 ?_; refine S.c ?_ (h := xEX ‹_›)) | intro hb | fail)
 rename_i bp _
 obtain ⟨ws, hws⟩ : ∃ ws, ws = xB3 c g := ⟨_, rfl⟩
 obtain ⟨T, hT⟩ : ∃ T, T = xC6 c Cs (c.parts.d.map YF.budget) g.level ws { t with cyc := t.cyc.map fun _ => 0 } := ⟨_, rfl⟩
 have hwn : ws.length ≤ 16 := by rw [hws]; exact xEJ (xHh hco) hg
 have hwp : ∀ k : Int, 0 ≤ k → k < ws.length → 0 ≤ (ix ws k).part ∧ (ix ws k).part < c.parts.d.length := fun k h0 h1 => by
  have hm : ix ws k ∈ (ix c.modes.d g.mode).wins.d.map (xF3 g.at_) := (show ws = (ix c.modes.d g.mode).wins.d.map (xF3 g.at_) from hws) ▸ List.mem_of_getElem? (Yi h0 h1)
  obtain ⟨w, hw, e⟩ := List.mem_map.1 hm
  rw [← e]
  exact hm3 w hw
 rw [← hws]
 refine Tr.loopE (α := Nat × SyG) [24] [0, 3, 22, 23] (fun z => [.int .i64 z.1]) (fun z => blk bp (.cells (En.enc g).toArray 89 (0, 0)) :: xJf p c y s pa z.2) (fun z => z.1 ≤ ws.length ∧ SyI c Cs px pg pa (E + z.1 * 200000) z.2 ∧ xC6 c Cs (c.parts.d.map YF.budget) g.level (ws.drop z.1) z.2.t = T) (fun z => ws.length - z.1) (0, ⟨xev, xms, xs, Gs, ac.map fun g => ⟨g.b, g.bud, 0⟩, seen, m, { t with cyc := t.cyc.map fun _ => 0 }⟩) S.T rfl ⟨Nat.zero_le _, by simp only [Nat.zero_mul, Nat.add_zero]; exact hR, hT.symm⟩ fun z u hz => ?_
 obtain ⟨k, vev, vms, ys, Hs, bc, sn, mm, t1⟩ := z
 obtain ⟨hk, hI, hW⟩ := hz
 simp only at hk hI hW ⊢
 simp only [ap]
 have hTe := hT
 clear hrf hR hT h hpz hpq
 have hwj : ws.length ≤ 1000000000 := by omega
 have hpx := hI.px
 have hpg := hI.pg
 have hpa := hI.pa
 have hE1 := hI.ev
 have hE2 := hI.ml
 simp only at hpx hpg hpa hE1 hE2
 by_cases hin : k < ws.length
 ·have hw := Xo (k := k) S.o
  obtain ⟨r0, r1⟩ := hwp (k : Int) S.o S.o
  have hst : xC6 c Cs (c.parts.d.map YF.budget) g.level (ws.drop k) t1 = xC6 c Cs (c.parts.d.map YF.budget) g.level (ws.drop (k + 1)) (if isM (ix c.parts.d (ix ws (k : Int)).part).ladder g.level = true then t1 else xDZ Cs (c.parts.d.map YF.budget) c.levels.d (qM c.quantum) c.chans.d (ix ws (k : Int)).part t1) := by
   rw [List.drop_eq_getElem_cons hin, show ws[k] = ix ws (k : Int) by simp [ix, hin]]
   rfl
  rw [hst] at hW
  have hsh := xKG (ladder := (ix c.parts.d (ix ws (k : Int)).part).ladder) (level := g.level)
  cases hr : isM (ix c.parts.d (ix ws (k : Int)).part).ladder g.level with
  | true =>
   rw [hr, if_pos rfl] at hW
   rw [hr] at hsh
   have hI2 : SyI c Cs px pg pa (E + (k + 1) * 200000) ⟨vev, vms, ys, Hs, bc, sn, mm, t1⟩ := hI.up S.o
   clear hI
   have hX := And.intro @xnR.eq_def hw; repeat' (first | rintro _ _ ⟨rfl, rfl⟩ | (refine G.call 46 ?_; refine S.c ?_ (h := hsh)) | refine S.x ?_ | intro hb | fail)
   all_goals exact S.R ((k + 1, ⟨vev, vms, ys, Hs, bc, sn, mm, t1⟩) : Nat × SyG)
  | false =>
   rw [hr, if_neg (by decide)] at hW
   rw [hr] at hsh
   have hk1 : (ix ws (k : Int)).part < ys.length := by have := hI.n; simp only at this; omega
   have hwn2 := xGI (p := p) (c := c) (y := { y with ev := vev, ms := vms }) (k := (ix ws (k : Int)).part) (q := qM c.quantum) (pw := c.pow) (ls := c.levels.d) (ac := bc) (s := s) (xs := ys) (Gs := Hs) (seen := sn) (evs := t1.evs) (ms := mm) hI.s.lG hI.s.lA hI.s.lS r0 hk1 (hI.s.i _ r0 hk1) (hI.s.s _ r0 hk1) hI.s.w hI.s.st (hI.s.n _ r0 hk1) (by have := hI.s.e _ r0 hk1; simp only at this; omega) S.o S.o hs.l hty
   rw [hpx, hpg, hpa, show c.pow.levels = c.levels.s from rfl] at hwn2
   have hwin := fun (se sm : SV) (x2 : xBM) (m2 : List xBH) (Gs2 : List PG) (R : CM × Int) => hI.win (k := (ix ws (k : Int)).part) (se := se) (sm := sm) (x2 := x2) (m2 := m2) (Gs2 := Gs2) (R := R) r0 hk1
   simp only at hwin
   clear hI
   have hX := And.intro @xnR.eq_def hw; repeat' (first | rintro _ _ ⟨rfl, rfl⟩ | rintro _ _ ⟨se, sm, x2, m2, Gs2, R, e1, e2, e3, e4, e5, e6, e7, e8, e9, e10, e11, rfl, rfl⟩ | (refine G.call 46 ?_; refine S.c ?_ (h := hsh)) | (refine G.call 47 ?_; refine S.c ?_ (h := hwn2)) | refine S.x ?_ | intro hb | fail)
   all_goals
    obtain ⟨hN, hf, he, _⟩ := hwin se sm x2 m2 Gs2 R e1 e2 e3 e4 e5 e6 e7 (e8.trans hpg.symm) e9 e10 e11
    rw [← hf, ← he]
    have hI2 := hN.up (E2 := E + (k + 1) * 200000) S.o
    clear hwin hN hf he
    exact S.R ((k + 1, ⟨se, sm, xCh (ys.set (ix ws (k : Int)).part.toNat x2) Gs2, Gs2, bc.set (ix ws (k : Int)).part.toNat { ix bc (ix ws (k : Int)).part with cyc := R.2 }, sn.set (ix ws (k : Int)).part.toNat (R.1.evs.length : Int), mm ++ m2, xDZ Cs (c.parts.d.map YF.budget) c.levels.d (qM c.quantum) c.chans.d (ix ws (k : Int)).part t1⟩) : Nat × SyG)
 ·have hke : k = ws.length := by omega
  subst hke
  rw [List.drop_length] at hW
  have hla := xKF (p := y.bk) (s := s) (q := qM c.quantum) (pw := c.pow) (gs := bc) (ls := c.levels.d) (by have := hI.s.lA; have := hI.n; have := hco.n8; simp only at *; omega) hs.l hty (fun g hg => by
   obtain ⟨j, hj, e⟩ := List.mem_iff_getElem.1 hg
   have hla := hI.s.lA
   have h2 := (hI.s.i (j : Int) S.o (by simp only at *; omega)).i.c1
   have e2 : ix bc (j : Int) = g := by simp [ix, hj, e]
   simp only [e2] at h2
   omega)
  unfold xEj at hla
  rw [hpa, show c.pow.levels = c.levels.s from rfl] at hla
  obtain ⟨w1, w2, w3⟩ := xEF (c := c) (Cs := Cs) (buds := c.parts.d.map YF.budget) (level := g.level) (ws := ws) (t := { t with cyc := t.cyc.map fun _ => 0 })
  rw [← hTe] at w1 w2 w3
  have hF : xCi c Cs (c.parts.d.map YF.budget) g t = { t1 with sheds := t.sheds ++ [g.level], modes := t.modes ++ [g.mode], creds := t.creds ++ [xCP c.levels.d bc] } := by
   unfold xCi
   simp only
   rw [← hws, ← hTe, w1, w2, w3, ← hW]
   unfold xC6 xCP
   simp only
   rw [← hI.t.y, List.map_map]
   rfl
  rw [hF] at hK
  have hX := @xnR.eq_def; repeat' (first | intro (sv : SV) | (refine G.call 48 ?_; refine S.c ?_ (h := hla)) | (rintro _ _ ⟨s2, rfl, rfl⟩; simp only [ap]; refine Tr.freezeAt (v := s2.v) (xs := xCP c.levels.d bc) S.K ?_) | refine S.x ?_ | fail)
  rename_i a1 a2 a3 a4 a5
  refine Tr.bringF (cr ++ [⟨s2, xCP c.levels.d bc⟩]) ?_
  have hI3 := hI.up (E2 := E + 3200000) S.o
  refine Tr.fin hK ⟨{ y with sh := a2, md := a4, cr := sv }, ⟨vev, vms, ys, Hs, bc, sn, mm, { t1 with sheds := t.sheds ++ [g.level], modes := t.modes ++ [g.mode], creds := t.creds ++ [xCP c.levels.d bc] }⟩, cr ++ [⟨s2, xCP c.levels.d bc⟩], rfl, rfl, rfl, rfl, rfl, rfl, ⟨hI3.s, ⟨hI3.t.C, hI3.t.c, hI3.t.y⟩, hI3.n, hI3.b, hI3.ev, hI3.ml, hI3.ma, hI3.px, hI3.pg, hI3.pa⟩, by rw [List.map_append, hcr]; rfl, rfl, rfl⟩ ?_
  exact S.E
