import Derived.Test.YtacmaamllpiloaaGreatZ22
namespace Go.Proofs.YtacmaamllpiloaaGreat
open Go Go.Wk Tryz
set_option maxHeartbeats 3200000
set_option maxRecDepth 100000
instance xxj : ElT 38 EvC := ⟨⟩
instance xvy : ElT 80 XE := ⟨⟩
instance xvF : ElT 31 Pt := ⟨⟩
instance xxf {a1 a2 a3 a4 a5 a6 : Int} {l : List Xc} : De l (.agg #[.int .i64 a1, .int .i64 a2, .int .i64 a3, .int .i64 a4, .int .i64 a5, .int .i64 a6]) (EvC.mk a1 a2 a3 a4 a5 a6) := ⟨rfl⟩
structure Xe where
 b : Nat
 ps : SV
 prog : List XE
 pos : Int
 rest : Int
 addr : Int
 ds : SV
 dd : List UInt8
 done : Bool
instance xvv : Inhabited Xe := ⟨⟨0, ⟨none, 0, 0⟩, [], 0, 0, 0, ⟨none, 0, 0⟩, [], false⟩⟩
def Xe.pt (g : Xe) : Pt := ⟨some g.b⟩
abbrev xfo (g : Xe) : Xc := blk g.b (.cells #[g.ps.v, .int .i64 g.pos, .int .i64 g.rest, .int .i64 g.addr, g.ds.v, .bool g.done] 82 (0, 0))
def Zg (g : Xe) : Xc := sep (xfo g) (sep (sl true g.ps.v g.prog) (sl true g.ds.v g.dd))
theorem Y5 {g : Xe} {l : List Xc} {X : WP} (h : Tr (xfo g :: sl true g.ps.v g.prog :: sl true g.ds.v g.dd :: l) X) : Tr (Zg g :: l) X :=
 Tr.sep_iff.2 ((Tr.sep_iff.2 (h.imp (Imp.of_perm (List.perm_middle (l₁ := [sl true g.ps.v g.prog, sl true g.ds.v g.dd]))))).imp Imp.swap)
structure CW where
 ts : SV
 tb : Nat
 mem : Nat
 pts : Nat
 obs : Nat
 mon : Nat
 slk : Option Nat
 ev : SV
abbrev ptr (b : Nat) : Value := .pointer (some ⟨b, 0, none⟩)
def slP : Option Nat → Value
 | some b => .pointer (some ⟨b, 0, none⟩)
 | none => .pointer none
def Zw (o : Option Nat) (m : Option SlM) : Xc := match o, m with
 | some b, some m => slkX b m
 | _, _ => fact True
abbrev ZA (b : Nat) (C : CC) (mode win : Int) (w : CW) : Xc := blk b (.cells #[C.conf.regions.s.v, C.conf.procs.s.v, C.conf.ports.s.v, C.conf.sems.s.v, .int .i64 C.conf.flags, C.conf.pools.s.v, C.conf.slates.s.v, .int .i64 C.conf.cap, .int .i64 C.conf.budget, .int .i64 C.conf.ladder, C.conf.acts.s.v,
 .int .i64 C.part, .int .i64 mode, .int .i64 win, w.ts.v, ptr w.tb, ptr w.mem, ptr w.pts, ptr w.obs, ptr w.mon, slP w.slk, w.ev.v] 40 (0, 0))
abbrev Xh (b : Nat) (C : CC) (c : CM) (w : CW) (gs : List Xe) : List Xc := [ZA b C c.mode c.win w, sl false w.ts.v (gs.map Xe.pt), fam Zg gs, YG w.tb c.tb, Y1 w.mem c.mem, X2 w.pts c.pts, objX w.obs C.conf c.obs, xsI w.mon C.conf.acts.d, Zw w.slk c.slk, sl false w.ev.v c.evs, sl true C.conf.procs.s.v C.conf.procs.d]
def JM (o : One) : Prop := o.state = 2 ∧ (o.call = 11 ∨ o.call = 18)
structure okC (C : CC) : Prop where
 n0 : 1 ≤ C.progs.length
 n8 : C.progs.length ≤ 8
 np : C.conf.procs.d.length = C.progs.length
 pr : ∀ p ∈ C.progs, p ≠ [] ∧ p.length ≤ 1000000 ∧ ∀ s ∈ p, s.ok
 cap : C.conf.cap ≤ 1000000000000
 cost : ∀ x ∈ C.conf.procs.d, x.cost ≤ 1000000000000
 dep : ∀ x ∈ C.conf.pools.d, x.depth ≤ 16
 pz : ∀ x ∈ C.conf.pools.d, x.size ≤ 300
 lz : ∀ x ∈ C.conf.slates.d, x ≤ 300
 oz : ∀ x ∈ C.conf.ports.d, x.size ≤ 300
 od : ∀ x ∈ C.conf.ports.d, x.depth ≤ 16
 rz : ∀ x ∈ C.conf.regions.d, 0 ≤ x.base ∧ x.base ≤ 1048576
structure okM (C : CC) (c : CM) : Prop where
 tb : c.tb.d.length = C.progs.length
 pos : c.pos.length = C.progs.length
 rest : c.rest.length = C.progs.length
 addr : c.addr.length = C.progs.length
 data : c.data.length = C.progs.length
 done : c.done.length = C.progs.length
 pi : ∀ k : Int, 0 ≤ ix c.pos k ∧ ix c.pos k < (ix C.progs k).length ∨ ¬ inR C.progs k
 ad : ∀ x ∈ c.addr, okZ x
 dl : ∀ x ∈ c.data, x.length ≤ 300
structure Rel (C : CC) (c : CM) (w : CW) (gs : List Xe) : Prop where
 ok : okM C c
 hp : gs.map Xe.prog = C.progs
 hi : gs.map Xe.pos = c.pos
 hr : gs.map Xe.rest = c.rest
 ha : gs.map Xe.addr = c.addr
 hd : gs.map Xe.done = c.done
 hw : ∀ k : Int, inR gs k → JM (c.tb.at k) → (ix gs k).dd = ix c.data k
 hs : w.slk.isSome = c.slk.isSome
def few (c : CM) (n : Nat) : Prop := c.evs.length + n ≤ 1000000000000
section
attribute [local irreducible] BrK Xq Xt Xv XI FnK XZ Xw XC XV opX opK Yq Yk eqR Yj Yo Ys WL WD W X3 XO Tr drewK Ya X4 Yw Yv X1 YB mp blk rob sl sep ex fact old
section
attribute [local irreducible] Zg Zw Y1 X2 objX
section
variable {b : Nat} {C : CC} {c : CM} {w : CW} {gs : List Xe} {k call code value : Int}
theorem Zq {mode win : Int} {es : List EvC} (hf : es.length + 1 ≤ 1000000000000) : Xb prog 90 #[ptr b, .int .i64 k, .int .i64 call, .int .i64 code, .int .i64 value] [ZA b C mode win w, sl false w.ev.v es]
  fun v l' => ∃ ev : SV, v = .tuple #[] ∧ l' = [ZA b C mode win { w with ev := ev }, sl false ev.v (es ++ [⟨C.part, win, k, call, code, value⟩])] := by
 intro F K hK
 simp only [ap]
 refine S.I fun u => ?_
 have hX := @xv8.eq_def; repeat' (first | intro (sv : SV) | refine S.x ?_ | fail)
 all_goals exact Tr.fin hK ⟨sv, rfl, rfl⟩ S.E
theorem Xx {mode win : Int} {es : List EvC} {s : XE} (hf : es.length + 1 ≤ 1000000000000) : Xb prog 159 #[ptr b, .int .i64 k, .agg (En.enc s).toArray, .int .i64 code] [ZA b C mode win w, sl false w.ev.v es]
  fun v l' => ∃ ev : SV, v = .tuple #[] ∧ l' = [ZA b C mode win { w with ev := ev }, sl false ev.v (es ++ [⟨C.part, win, k, s.call, code, 0⟩])] := by
 intro F K hK
 simp only [ap]
 refine S.I fun u => ?_
 repeat' (first | refine S.x ?_ | (refine G.call 90 ?_; refine S.c ?_ (h := Zq ?_)) | rintro _ _ ⟨_, rfl, rfl⟩ | (refine G.prop ?_; assumption) | intro hb | fail)
 all_goals
  rename_i sv
  exact Tr.fin hK ⟨sv, rfl, rfl⟩ S.E
theorem ZB {mode win : Int} (hl : gs.length = C.progs.length) : Xb prog 158 #[ptr b, .int .i64 k] [ZA b C mode win w, sl false w.ts.v (gs.map Xe.pt)]
  fun v l' => v = .bool (decide (0 ≤ k) && decide (k < C.progs.length)) ∧ l' = [ZA b C mode win w, sl false w.ts.v (gs.map Xe.pt)] := by
 intro F K hK
 simp only [ap]
 have hlm : (gs.map Xe.pt).length = C.progs.length := by rw [List.length_map]; exact hl
 refine S.I fun u => ?_
 have hX := hlm; repeat' (first | refine S.x ?_ | refine S.y ?_ ?_ | intro hb | fail)
 all_goals exact S.L
end
end
section
variable {t : Tb} {k j : Int} {o : One} {st : Int}
theorem xa6 (hl : inR t.d k) {n : Int} : (Tb.mk (t.d.set k.toNat o) n).at j = if j = k then o else t.at j := by
 unfold Tb.at
 obtain ⟨h0, h1⟩ := hl
 simp only [List.getD_eq_getElem?_getD, List.getElem?_set]
 by_cases hj : j = k
 ·subst hj
  rw [if_pos h0, if_pos rfl, if_pos rfl, if_pos S.o]; rfl
 ·rw [if_neg hj]
  by_cases h : 0 ≤ j
  ·rw [if_pos h, if_pos h, if_neg S.o]
  ·rw [if_neg h, if_neg h]
theorem Vw : t.has k = true ↔ inR t.d k := by unfold Tb.has inR; simp
theorem xjY (hl : inR t.d k) : (t.put k o st).at j = if j = k then t.putP o st else t.at j := xa6 hl
theorem xcG : (t.putP o st).state = st ∧ (t.putP o st).parked = o.parked := by
 unfold Tb.putP
 simp only
 constructor <;> (repeat' split) <;> rfl
def JY (t t' : Tb) : Prop := ∀ j, JM (t'.at j) → JM (t.at j)
theorem V0 : JY t t := fun _ h => h
theorem WG {t1 t2 t3 : Tb} (h1 : JY t1 t2) (h2 : JY t2 t3) : JY t1 t3 := fun j h => h1 j (h2 j h)
theorem xaD (hl : inR t.d k) (hs : st ≠ 2) : JY t (t.put k o st) ∧ ¬ JM ((t.put k o st).at k) := by
 have h0 : ¬ JM (t.putP o st) := fun h => hs (xcG.1.symm.trans h.1)
 refine ⟨fun j hj => ?_, ?_⟩
 ·rw [xjY hl] at hj
  split at hj
  ·exact absurd hj h0
  ·exact hj
 ·rw [xjY hl, if_pos rfl]; exact h0
theorem xlK (h : t.setB k st = true) : inR t.d k ∧ st ≠ 2 := by
 unfold Tb.setB at h
 simp only [Bool.and_eq_true, Bool.not_eq_true', decide_eq_true_eq, decide_eq_false_iff_not] at h
 exact ⟨Vw.1 h.1, h.2.2.2⟩
theorem VQ : JY t (t.set k st) := by
 unfold Tb.set
 split
 ·rename_i h
  obtain ⟨h1, h2⟩ := xlK h
  exact (xaD h1 h2).1
 ·exact V0
theorem xdq (hl : inR t.d k) (h0 : 0 ≤ st) (h5 : st < 5) (h2 : st ≠ 2) : ¬ JM ((t.set k st).at k) := by
 have hb : t.setB k st = true := by
  unfold Tb.setB
  simp only [Bool.and_eq_true, Bool.not_eq_true', decide_eq_true_eq, decide_eq_false_iff_not]
  exact ⟨Vw.2 hl, h0, h5, h2⟩
 unfold Tb.set
 rw [if_pos hb]
 exact (xaD hl h2).2
theorem xl6 : (t.park k).at j = if j = k ∧ t.has k = true then { t.at k with parked := true } else t.at j := by
 unfold Tb.park
 by_cases h : t.has k = true
 ·rw [if_pos h]
  have := xa6 (t := t) (j := j) (o := { t.at k with parked := true }) (Vw.1 h) (n := t.turns)
  refine this.trans ?_
  by_cases hj : j = k
  ·rw [if_pos hj, if_pos ⟨hj, h⟩]
  ·rw [if_neg hj, if_neg fun h => hj h.1]
 ·rw [if_neg h, if_neg fun hh => h hh.2]
theorem xbf : JY t (t.park k) := fun j hj => by
 rw [xl6] at hj
 split at hj
 ·rename_i h; rw [h.1]; exact hj
 ·exact hj
theorem Wy {win : Int} : JY t (t.start k win) := by
 unfold Tb.start
 split
 ·rename_i h
  have hb : t.has k = true := by
   unfold Tb.startB at h
   simp only [Bool.and_eq_true] at h
   exact h.1
  exact (xaD (Vw.1 hb) (by decide)).1
 ·exact V0
theorem xj6 {p : Int} : JY t (t.rank k p) := fun j hj => by
 unfold Tb.rank at hj
 split at hj
 ·rename_i h
  have hb : t.has k = true := by
   unfold Tb.rankB at h
   simp only [Bool.and_eq_true] at h
   exact h.1
  have e := xa6 (t := t) (j := j) (o := { t.at k with prio := p }) (Vw.1 hb) (n := t.turns)
  rw [show ({ t with d := t.d.set k.toNat { t.at k with prio := p } } : Tb) = Tb.mk (t.d.set k.toNat { t.at k with prio := p }) t.turns from rfl, e] at hj
  split at hj
  ·rename_i hjk; rw [hjk]; exact hj
  ·exact hj
 ·exact hj
theorem xk0 {c wh wk : Int} (hl : inR t.d k) : (t.wait k c wh wk).at j = if j = k then t.putP { t.at k with call := c, what := wh, wake := wk } 2 else t.at j := by
 unfold Tb.wait
 rw [if_pos (Vw.2 hl)]
 exact xjY hl
theorem Zf : (t.set k st).d.length = t.d.length := by unfold Tb.set Tb.put; split <;> simp
theorem xdT : (t.park k).d.length = t.d.length := by unfold Tb.park; split <;> simp
theorem xe1 {win : Int} : (t.start k win).d.length = t.d.length := by unfold Tb.start Tb.put; split <;> simp
theorem xhS {p : Int} : (t.rank k p).d.length = t.d.length := by unfold Tb.rank; split <;> simp
theorem xdL {c wh wk : Int} : (t.wait k c wh wk).d.length = t.d.length := by unfold Tb.wait Tb.put; split <;> simp
end
section
section
variable {b : Nat} {C : CC} {c : CM} {w : CW} {gs : List Xe} {k : Int} {t : Tb}
theorem JU (h : Rel C c w gs) : gs.length = C.progs.length := by rw [← h.hp, List.length_map]
theorem ZO (h : Rel C c w gs) (hk : inR C.progs k) : inR gs k := by unfold inR at *; rw [JU h]; exact hk
theorem xdN (h : okM C c) (hl : t.d.length = c.tb.d.length) : okM C { c with tb := t } := ⟨hl.trans h.tb, h.pos, h.rest, h.addr, h.data, h.done, h.pi, h.ad, h.dl⟩
theorem WO (h : Rel C c w gs) (hl : t.d.length = c.tb.d.length) (hn : JY c.tb t) : Rel C { c with tb := t } w gs :=
 ⟨xdN h.ok hl, h.hp, h.hi, h.hr, h.ha, h.hd, fun k hk hw => h.hw k hk (hn k hw), h.hs⟩
theorem X6 {β : Type} {f : Xe → β} {x : Xe} (hk : inR gs k) (hf : f x = f (ix gs k)) : (gs.set k.toNat x).map f = gs.map f := QI hk.1 hk.2 hf
theorem YY {α : Type} [Inhabited α] {xs : List α} {k j : Int} {x : α} (hk : inR xs k) (hj : 0 ≤ j) : ix (xs.set k.toNat x) j = if j = k then x else ix xs j := by
 obtain ⟨h0, h1⟩ := hk
 unfold ix
 simp only [List.getD_eq_getElem?_getD, List.getElem?_set]
 by_cases h : j = k
 ·subst h
  rw [if_pos rfl, if_pos rfl, if_pos S.o]; rfl
 ·rw [if_neg h, if_neg S.o]
theorem xgU {s : SV} {d : List UInt8} (h : Rel C c w gs) (hk : inR gs k) (hn : ¬ JM (c.tb.at k)) : Rel C c w (gs.set k.toNat { ix gs k with ds := s, dd := d }) :=
 ⟨h.ok, (X6 (f := Xe.prog) hk (by rfl)).trans h.hp, (X6 (f := Xe.pos) hk (by rfl)).trans h.hi, (X6 (f := Xe.rest) hk (by rfl)).trans h.hr, (X6 (f := Xe.addr) hk (by rfl)).trans h.ha, (X6 (f := Xe.done) hk (by rfl)).trans h.hd, fun j hj hw => by
  have hj' : inR gs j := by unfold inR at *; simpa using hj
  rw [YY hk hj'.1]
  by_cases e : j = k
  ·rw [e] at hw; exact absurd hw hn
  ·rw [if_neg e]; exact h.hw j hj' hw, h.hs⟩
end
attribute [local irreducible] Zw Y1 X2 objX
section
variable {b : Nat} {C : CC} {c : CM} {w : CW} {gs : List Xe} {k : Int}
theorem WV (hr : Rel C c w gs) (hk : inR C.progs k) : Xb prog 144 #[ptr b, .int .i64 k] (Xh b C c w gs)
  fun v l' => ∃ gs2, Rel C (XW c k 0) w gs2 ∧ v = .tuple #[] ∧ l' = Xh b C (XW c k 0) w gs2 := by
 intro F K hK
 simp only [ap] at hK ⊢
 have hkg := ZO hr hk
 obtain ⟨h0, h1⟩ := hkg
 have hm := Xp (f := Xe.pt) (xs := gs) (k := k) h0 h1
 have hlm : (gs.map Xe.pt).length = gs.length := List.length_map _
 have hpt : ∀ s, (gs.set k.toNat { ix gs k with ds := s, dd := [] }).map Xe.pt = gs.map Xe.pt := fun s => X6 ⟨h0, h1⟩ rfl
 have hr2 : ∀ s, Rel C (XW c k 0) w (gs.set k.toNat { ix gs k with ds := s, dd := [] }) := fun s => by
  refine xgU (WO hr Zf VQ) ⟨h0, h1⟩ (xdq ?_ (by decide) (by decide) (by decide))
  unfold inR at *
  rw [hr.ok.tb]
  exact hk
 refine S.I fun u => ?_
 refine Tr.famAt (xs := gs) k S.K S.o S.o (Y5 ?_)
 have hX := And.intro hm @Xe.pt.eq_def; repeat' (first | refine S.x ?_ | (refine G.call 150 ?_; refine S.c ?_ (h := xeb _ _ _ _)) | rintro _ _ ⟨rfl, rfl⟩ | intro hb | fail)
 all_goals
  refine Tr.fin hK ⟨gs.set k.toNat { ix gs k with ds := ⟨none, 0, 0⟩, dd := [] }, hr2 _, rfl, rfl⟩ ?_
  simp only [Xh, ap]
  rw [hpt]
  have hX := I3 @Zg.eq_def @XW.eq_def @slP.eq_def
  exact S.E
end
end
section
theorem xkp {p : List XE} {i : Int} (h0 : 0 ≤ i) (h1 : i ≤ p.length) (hp : 0 < p.length) : 0 ≤ atM p i ∧ atM p i < p.length ∧ Int.tmod i p.length = atM p i := by
 unfold atM
 rw [Int.tmod_eq_emod_of_nonneg h0]
 by_cases h : (p.length : Int) ≤ i
 ·rw [if_pos h]
  have : i = p.length := by omega
  subst this
  refine ⟨by omega, by omega, ?_⟩
  exact Int.emod_self
 ·rw [if_neg h]
  exact ⟨h0, by omega, Int.emod_eq_of_lt h0 S.o⟩
def Xe.to (g : Xe) (i : Int) : Xe := { g with pos := atM g.prog i, rest := WQ (ix g.prog (atM g.prog i)).cycles }
attribute [local irreducible] Zw Y1 X2 objX
section
variable {g : Xe} {i : Int}
theorem xhW (h0 : 0 ≤ g.pos) (h1 : g.pos < g.prog.length) : Xb prog 44 #[ptr g.b] [xfo g, sl true g.ps.v g.prog]
  fun v l' => v = .agg (En.enc (ix g.prog g.pos)).toArray ∧ l' = [xfo g, sl true g.ps.v g.prog] := by
 intro F K hK
 simp only [ap]
 refine S.I fun u => ?_
 have hX := @xvR.eq_def; repeat' (first | refine S.x ?_ | intro hb | fail)
 all_goals exact Tr.fin hK ⟨rfl, rfl⟩ S.E
theorem xf7 (h0 : 0 ≤ i) (h1 : i ≤ g.prog.length) (hp : 0 < g.prog.length) : Xb prog 45 #[ptr g.b, .int .i64 i] [xfo g, sl true g.ps.v g.prog]
  fun v l' => v = .tuple #[] ∧ l' = [xfo (g.to i), sl true g.ps.v g.prog] := by
 intro F K hK
 simp only [ap]
 obtain ⟨a0, a1, a2⟩ := xkp h0 h1 hp
 have hcl : ∀ n : Int, (if n < 1 then 1 else if 1073741824 < n then 1073741824 else n) = WQ n := fun n => rfl
 unfold Xe.to at hK
 generalize atM g.prog i = j at *
 refine S.I fun u => ?_
 have hX := And.intro @a2 hcl; repeat' (first | rintro _ _ ⟨rfl, rfl⟩ | (refine G.call 44 ?_; refine S.c ?_ (h := xhW (g := { g with pos := j }) a0 a1)) | refine S.x ?_ | (refine G.call 104 ?_; refine S.c ?_ (h := xp3)) | fail)
 all_goals exact Tr.fin hK ⟨rfl, rfl⟩ S.E
end
section
variable {b : Nat} {C : CC} {c : CM} {w : CW} {gs : List Xe} {k i : Int}
theorem xg7 (h : Rel C c w gs) (hk : inR C.progs k) : (ix gs k).prog = ix C.progs k := by
 have hg := ZO h hk
 rw [← h.hp, Xp (f := Xe.prog) hg.1 hg.2]
theorem xac {xs : List (List XE)} (hk : inR xs k) : ix xs k ∈ xs := List.mem_of_getElem? (Yi hk.1 hk.2)
theorem W7 (hc : okC C) (hk : inR C.progs k) : 0 < (ix C.progs k).length ∧ (ix C.progs k).length ≤ 1000000 := by
 have h := hc.pr _ (xac hk)
 exact ⟨List.length_pos_iff.2 h.1, h.2.1⟩
theorem xj4 (hc : okC C) (h : okM C c) (hk : inR C.progs k) (h0 : 0 ≤ i) (h1 : i ≤ (ix C.progs k).length) : okM C (toM C c k i) := by
 obtain ⟨a0, a1, _⟩ := xkp h0 h1 (W7 hc hk).1
 have hkp : inR c.pos k := by unfold inR at *; rw [h.pos]; exact hk
 refine ⟨h.tb, by simpa [toM] using h.pos, by simpa [toM] using h.rest, h.addr, h.data, h.done, fun j => ?_, h.ad, h.dl⟩
 by_cases hj : inR C.progs j
 ·left
  show 0 ≤ ix (c.pos.set k.toNat _) j ∧ ix (c.pos.set k.toNat _) j < _
  rw [YY hkp hj.1]
  by_cases e : j = k
  ·subst e; rw [if_pos rfl]; exact ⟨a0, a1⟩
  ·rw [if_neg e]
   rcases h.pi j with h' | h'
   ·exact h'
   ·exact absurd hj h'
 ·exact .inr hj
theorem xoi (hc : okC C) (h : Rel C c w gs) (hk : inR C.progs k) (h0 : 0 ≤ i) (h1 : i ≤ (ix C.progs k).length) : Rel C (toM C c k i) w (gs.set k.toNat ((ix gs k).to i)) := by
 have hg := ZO h hk
 have hp := xg7 h hk
 refine ⟨xj4 hc h.ok hk h0 h1, (X6 (f := Xe.prog) hg (by rfl)).trans h.hp, ?_, ?_, (X6 (f := Xe.addr) hg (by rfl)).trans h.ha, (X6 (f := Xe.done) hg (by rfl)).trans h.hd, fun j hj hw => ?_, h.hs⟩
 ·rw [List.map_set, h.hi]
  show c.pos.set k.toNat (atM (ix gs k).prog i) = _
  rw [hp]; rfl
 ·rw [List.map_set, h.hr]
  show c.rest.set k.toNat (WQ (ix (ix gs k).prog (atM (ix gs k).prog i)).cycles) = _
  rw [hp]; rfl
 ·have hj' : inR gs j := by unfold inR at *; simpa using hj
  rw [YY hg hj'.1]
  by_cases e : j = k
  ·rw [if_pos e]
   subst e
   exact h.hw j hj' hw
  ·rw [if_neg e]; exact h.hw j hj' hw
end
end
section
section
variable {b : Nat} {C : CC} {c : CM} {w : CW} {gs : List Xe} {k win : Int}
def Xe.st (g : Xe) : Xe := { g.to 0 with ds := ⟨none, 0, 0⟩, dd := [] }
theorem xp2 (h : Rel C c w gs) : Rel C (xea c k) w gs := WO h xdT xbf
theorem xmL (hc : okC C) (h : Rel C c w gs) (hk : inR C.progs k) (hn : ¬ JM (c.tb.at k)) : Rel C (Yd C c k win) w (gs.set k.toNat (ix gs k).st) := by
 have h1 : Rel C (toM C c k 0) w (gs.set k.toNat ((ix gs k).to 0)) := xoi hc h hk (by decide) S.o
 have h2 : Rel C { toM C c k 0 with tb := (toM C c k 0).tb.start k win } w (gs.set k.toNat ((ix gs k).to 0)) := WO h1 xe1 Wy
 have hg := ZO h hk
 have hg2 : inR (gs.set k.toNat ((ix gs k).to 0)) k := by unfold inR at *; simpa using hg
 have h3 := xgU (s := ⟨none, 0, 0⟩) (d := []) h2 hg2 (fun hw => hn (Wy (t := c.tb) _ hw))
 rw [YY hg hg.1, if_pos rfl, List.set_set] at h3
 unfold Yd
 simp only
 split
 ·exact xp2 h3
 ·exact h3
end
attribute [local irreducible] Zw Y1 X2 objX
section
variable {b : Nat} {C : CC} {c : CM} {w : CW} {gs : List Xe} {k win : Int}
theorem W3 (hc : okC C) (hr : Rel C c w gs) (hk : inR C.progs k) (hn : ¬ JM (c.tb.at k)) : Xb prog 59 #[ptr b, .int .i64 k, .int .i64 win] (Xh b C c w gs)
  fun v l' => ∃ gs2, Rel C (Yd C c k win) w gs2 ∧ v = .tuple #[] ∧ l' = Xh b C (Yd C c k win) w gs2 := by
 intro F K hK
 simp only [ap] at hK ⊢
 have hrel := xmL (win := win) hc hr hk hn
 have hkg := ZO hr hk
 obtain ⟨h0, h1⟩ := hkg
 have hm := Xp (f := Xe.pt) (xs := gs) (k := k) h0 h1
 have hlm : (gs.map Xe.pt).length = gs.length := List.length_map _
 have hpt : (gs.set k.toNat (ix gs k).st).map Xe.pt = gs.map Xe.pt := X6 ⟨h0, h1⟩ (by rfl)
 have hpl := W7 hc hk
 rw [← xg7 hr hk] at hpl
 have hz : (0 : Int) ≤ (ix gs k).prog.length := by omega
 have hdn : (ix gs k).done = ix c.done k := by rw [← hr.hd, Xp (f := Xe.done) h0 h1]
 have hst : Yd C c k win = if ix c.done k = true then xea { toM C c k 0 with tb := c.tb.start k win } k else { toM C c k 0 with tb := c.tb.start k win } := rfl
 refine S.I fun u => ?_
 refine Tr.famAt (xs := gs) k S.K S.o S.o (Y5 ?_)
 cases hd : ix c.done k with
 | true =>
  rw [hd, if_pos rfl] at hst
  rw [hst] at hK hrel
  rw [hd] at hdn
  have hX := I4 hm @Xe.pt.eq_def @Xe.to.eq_def hdn; repeat' (first | rintro _ _ ⟨rfl, rfl⟩ | (refine G.call 45 ?_; refine S.c ?_ (h := xf7 (g := ix gs k) (i := 0) (by decide) hz hpl.1)) | refine S.x ?_ | (refine G.call 117 ?_; refine S.c ?_ (h := xi7 _ _ _ _)) | (refine G.call 118 ?_; refine S.c ?_ (h := xlD _ _ _)) | intro hb | fail)
  all_goals
   refine Tr.fin hK ⟨gs.set k.toNat (ix gs k).st, hrel, rfl, rfl⟩ ?_
   simp only [Xh, ap]
   rw [hpt]
   have hX := I6 hdn @Zg.eq_def @Xe.st.eq_def @Xe.to.eq_def @toM.eq_def @xea.eq_def
   exact S.E
 | false =>
  rw [hd, if_neg (by decide)] at hst
  rw [hst] at hK hrel
  rw [hd] at hdn
  have hX := I4 hm @Xe.pt.eq_def @Xe.to.eq_def hdn; repeat' (first | rintro _ _ ⟨rfl, rfl⟩ | (refine G.call 45 ?_; refine S.c ?_ (h := xf7 (g := ix gs k) (i := 0) (by decide) hz hpl.1)) | refine S.x ?_ | (refine G.call 117 ?_; refine S.c ?_ (h := xi7 _ _ _ _)) | intro hb | fail)
  all_goals
   refine Tr.fin hK ⟨gs.set k.toNat (ix gs k).st, hrel, rfl, rfl⟩ ?_
   simp only [Xh, ap]
   rw [hpt]
   have hX := I6 hdn @Zg.eq_def @Xe.st.eq_def @Xe.to.eq_def @toM.eq_def @xea.eq_def
   exact S.E
end
end
section
section
variable {b : Nat} {C : CC} {c : CM} {w : CW} {gs : List Xe} {k : Int}
theorem xq8 (h : Rel C c w gs) (hk : inR C.progs k) : Rel C (YX c k) w (gs.set k.toNat { ix gs k with done := true }) := by
 have hg := ZO h hk
 refine ⟨⟨xdT.trans h.ok.tb, h.ok.pos, h.ok.rest, h.ok.addr, h.ok.data, by simpa [YX] using h.ok.done, h.ok.pi, h.ok.ad, h.ok.dl⟩, (X6 (f := Xe.prog) hg (by rfl)).trans h.hp, (X6 (f := Xe.pos) hg (by rfl)).trans h.hi, (X6 (f := Xe.rest) hg (by rfl)).trans h.hr, (X6 (f := Xe.addr) hg (by rfl)).trans h.ha, ?_, fun j hj hw => ?_, ?_⟩
 ·rw [List.map_set, h.hd]; rfl
 ·have hj' : inR gs j := by unfold inR at *; simpa using hj
  have hw' := xbf (t := c.tb) (k := k) j hw
  rw [YY hg hj'.1]
  by_cases e : j = k
  ·rw [if_pos e]; subst e; exact h.hw j hj' hw'
  ·rw [if_neg e]; exact h.hw j hj' hw'
 ·show w.slk.isSome = (c.slk.map fun m => QT m k).isSome
  rw [Option.isSome_map]; exact h.hs
theorem Qe {m : SlM} (h : Rel C c w gs) (hm : c.slk = some m) : ∃ sb, w.slk = some sb := by
 have := h.hs
 rw [hm] at this
 exact Option.isSome_iff_exists.1 this
end
attribute [local irreducible] Y1 X2 objX slkX
section
variable {b : Nat} {C : CC} {c : CM} {w : CW} {gs : List Xe} {k : Int} {m : SlM}
theorem xdE (hr : Rel C c w gs) (hk : inR C.progs k) (hm : c.slk = some m) : Xb prog 100 #[ptr b, .int .i64 k] (Xh b C c w gs)
  fun v l' => ∃ gs2, Rel C (YX c k) w gs2 ∧ v = .tuple #[] ∧ l' = Xh b C (YX c k) w gs2 := by
 intro F K hK
 simp only [ap] at hK ⊢
 have hrel := xq8 hr hk
 obtain ⟨sb, hs⟩ := Qe hr hm
 have hkg := ZO hr hk
 obtain ⟨h0, h1⟩ := hkg
 have hmp := Xp (f := Xe.pt) (xs := gs) (k := k) h0 h1
 have hlm : (gs.map Xe.pt).length = gs.length := List.length_map _
 have hpt : (gs.set k.toNat { ix gs k with done := true }).map Xe.pt = gs.map Xe.pt := X6 ⟨h0, h1⟩ (by rfl)
 have hsl : Zw w.slk c.slk = slkX sb m := by rw [hs, hm]; rfl
 have hsp : slP w.slk = .pointer (some ⟨sb, 0, none⟩) := by rw [hs]; rfl
 have hsr : Zw w.slk (YX c k).slk = slkX sb (QT m k) := by rw [hs]; unfold YX; rw [hm]; rfl
 simp only [hsl]
 refine S.I fun u => ?_
 refine Tr.famAt (xs := gs) k S.K S.o S.o (Y5 ?_)
 have hX := I3 hmp @Xe.pt.eq_def hsp; repeat' (first | refine S.x ?_ | (refine G.call 118 ?_; refine S.c ?_ (h := xlD _ _ _)) | (refine G.call 155 ?_; first | refine S.c ?_ (h := xrG)) | rintro _ _ ⟨rfl, rfl⟩ | rintro _ _ ⟨_, rfl, rfl⟩ | intro hb | fail)
 all_goals
  refine Tr.fin hK ⟨_, hrel, rfl, rfl⟩ ?_
  simp only [ap]
  rw [hpt, hsr]
  have hX := And.intro @Zg.eq_def @YX.eq_def
  exact S.E
end
end
section
section
variable {b : Nat} {C : CC} {c : CM} {w : CW} {gs : List Xe} {k call code value : Int} {s : SV}
theorem Xs (h : Rel C c w gs) : Rel C (Xa C c k call code value) { w with ev := s } gs :=
 ⟨⟨h.ok.tb, h.ok.pos, h.ok.rest, h.ok.addr, h.ok.data, h.ok.done, h.ok.pi, h.ok.ad, h.ok.dl⟩, h.hp, h.hi, h.hr, h.ha, h.hd, h.hw, h.hs⟩
theorem xkM (h : Rel C c w gs) (hk : inR C.progs k) : inR c.tb.d k := by unfold inR at *; rw [h.ok.tb]; exact hk
theorem xsv (h : Rel C c w gs) (hk : inR C.progs k) : Rel C (Zc C c k call code value) { w with ev := s } (gs.set k.toNat { ix gs k with ds := ⟨none, 0, 0⟩, dd := [] }) :=
 xgU (WO (Xs h) Zf VQ) (ZO h hk) (xdq (t := c.tb) (xkM h hk) (by decide) (by decide) (by decide))
theorem xgK {ms : List XH} (h : Rel C c w gs) : Rel C { c with mem := ms } w gs :=
 ⟨⟨h.ok.tb, h.ok.pos, h.ok.rest, h.ok.addr, h.ok.data, h.ok.done, h.ok.pi, h.ok.ad, h.ok.dl⟩, h.hp, h.hi, h.hr, h.ha, h.hd, h.hw, h.hs⟩
end
attribute [local irreducible] Y1 X2 objX Zw
section
variable {b : Nat} {C : CC} {c : CM} {w : CW} {gs : List Xe} {k call code value : Int}
theorem ZE (hr : Rel C c w gs) (hk : inR C.progs k) (hf : few c 1) : Xb prog 94 #[ptr b, .int .i64 k, .int .i64 call, .int .i64 code, .int .i64 value] (Xh b C c w gs)
  fun v l' => ∃ w2 gs2, Rel C (Zc C c k call code value) w2 gs2 ∧ v = .tuple #[] ∧ l' = Xh b C (Zc C c k call code value) w2 gs2 := by
 intro F K hK
 simp only [ap] at hK ⊢
 have hrel := fun s => xsv (s := s) (call := call) (code := code) (value := value) hr hk
 unfold few at hf
 obtain ⟨h0, h1⟩ := ZO hr hk
 have hmp := Xp (f := Xe.pt) (xs := gs) (k := k) h0 h1
 have hlm : (gs.map Xe.pt).length = gs.length := List.length_map _
 have hpt : (gs.set k.toNat { ix gs k with ds := ⟨none, 0, 0⟩, dd := [] }).map Xe.pt = gs.map Xe.pt := X6 ⟨h0, h1⟩ (by rfl)
 refine S.I fun u => ?_
 have hX := And.intro hmp @Xe.pt.eq_def; repeat' (first | refine S.x ?_ | (refine G.call 90 ?_; refine S.c ?_ (h := Zq ?_)) | rintro _ _ ⟨_, rfl, rfl⟩ | (refine G.prop ?_; assumption) | intro hb | fail)
 refine Tr.famAt (xs := gs) k S.K S.o S.o (Y5 ?_)
 have hX := And.intro hmp @Xe.pt.eq_def; repeat' (first | refine S.x ?_ | (refine G.call 150 ?_; refine S.c ?_ (h := xeb _ _ _ _)) | rintro _ _ ⟨rfl, rfl⟩ | fail)
 all_goals
  rename_i ev
  refine Tr.fin hK ⟨{ w with ev := ev }, _, hrel ev, rfl, rfl⟩ ?_
  simp only [ap]
  rw [hpt]
  have hX := I4 @Zg.eq_def @Zc.eq_def @XW.eq_def @Xa.eq_def
  exact S.E
theorem xsP (h : Rel C c w gs) (hk : inR C.progs k) : okZ (ix c.addr k) := by
 have ha : inR c.addr k := by unfold inR at *; rw [h.ok.addr]; exact hk
 exact h.ok.ad _ (List.mem_of_getElem? (Yi ha.1 ha.2))
theorem xbc {s3 : SV} {bs : List UInt8} (hr : Rel C c w gs) (hk : inR C.progs k) (hf : few c 1) : Xb prog 96 #[ptr b, .int .i64 k, .int .i64 call, s3.v] (sl true s3.v bs :: Xh b C c w gs)
  fun v l' => ∃ w2 gs2, Rel C (Zy C c k call bs) w2 gs2 ∧ v = .tuple #[] ∧ l' = Xh b C (Zy C c k call bs) w2 gs2 := by
 intro F K hK
 simp only [ap] at hK ⊢
 obtain ⟨h0, h1⟩ := ZO hr hk
 have hmp := Xp (f := Xe.pt) (xs := gs) (k := k) h0 h1
 have hlm : (gs.map Xe.pt).length = gs.length := List.length_map _
 have had : (ix gs k).addr = ix c.addr k := by rw [← hr.ha, Xp (f := Xe.addr) h0 h1]
 have hz := xsP hr hk
 have hrm := xgK (ms := stB c.mem (ix c.addr k) bs) hr
 have hf2 : few { c with mem := stB c.mem (ix c.addr k) bs } 1 := hf
 refine S.I fun u => ?_
 refine Tr.famAt (xs := gs) k S.K S.o S.o (Y5 ?_)
 have hX := I4 @xui.eq_def hmp @Xe.pt.eq_def had; repeat' (first | refine S.x ?_ | (refine G.call 152 ?_; first | refine S.c ?_ (h := xfK ‹_›)) | rintro _ _ ⟨rfl, rfl⟩ | intro hb | fail)
 refine Tr.imp (l' := Xh b C { c with mem := stB c.mem (ix c.addr k) bs } w gs ++ F) ?_ ?_
 ·simp only [ap]
  have hX := @Zg.eq_def
  show Xd [] _ _
  exact S.E
 simp only [ap]
 have hX := @xui.eq_def; repeat' (first | rintro _ _ ⟨w2, gs2, hrel, rfl, rfl⟩ | (refine G.call 94 ?_; refine S.c ?_ (h := ZE (c := { c with mem := stB c.mem (ix c.addr k) bs }) hrm hk hf2)) | refine S.x ?_ | fail)
 all_goals exact Tr.fin hK ⟨w2, gs2, hrel, rfl, rfl⟩ S.E
