import Derived.Test.YtacmaamllpiloaaGreatZ33
namespace Go.Proofs.YtacmaamllpiloaaGreat
open Go Go.Wk Tryz
set_option maxHeartbeats 3200000
set_option maxRecDepth 100000
section
instance xvA : ElT 49 (SL XE) := ⟨⟩
def Y7 : List XE := [⟨1, 3, 0, 0, 0, 0⟩]
def Vq (xs : List (SL XE)) (k : Nat) : List XE := if k < xs.length ∧ (ix xs (k : Int)).d ≠ [] then (ix xs (k : Int)).d else Y7
def J1 (xs : List (SL XE)) (n : Nat) : List (List XE) := (List.range n).map (Vq xs)
def V4 (C : CC) : CM where
 mode := 3
 win := -1
 pos := List.replicate C.progs.length 0
 rest := List.replicate C.progs.length 0
 addr := List.replicate C.progs.length 0
 data := List.replicate C.progs.length []
 done := List.replicate C.progs.length false
 tb := Tb.new C.conf.procs.d
 mem := (C.conf.regions.d.take 4).map Wo
 pts := Wm C.conf.ports.d
 obs := xcC C.conf
 slk := none
 evs := []
def Qn (C : CC) : CM := XS C (V4 C) 0 C.progs.length
section
variable {C : CC} {w : CW} {gs : List Xe} {xs : List (SL XE)} {n k : Nat}
theorem xeG : (J1 xs n).length = n := by simp [J1]
theorem xeC (hc : okC C) : okM C (V4 C) := by
 refine ⟨?_, List.length_replicate, List.length_replicate, List.length_replicate, List.length_replicate, List.length_replicate, fun k => ?_, fun x hx => ?_, fun x hx => ?_⟩
 ·show ((C.conf.procs.d.take 8).map One.new).length = _
  rw [List.length_map, List.length_take, hc.np]
  exact Nat.min_eq_right hc.n8
 ·by_cases hk : inR C.progs k
  ·left
   have e : ix (List.replicate C.progs.length (0 : Int)) k = 0 := by
    unfold ix
    rw [List.getD_eq_getElem?_getD, List.getElem?_replicate]
    split <;> rfl
   show 0 ≤ ix (List.replicate C.progs.length (0 : Int)) k ∧ ix (List.replicate C.progs.length (0 : Int)) k < _
   rw [e]
   have := (W7 hc hk).1
   exact ⟨by decide, by omega⟩
  ·exact .inr hk
 ·rw [List.eq_of_mem_replicate hx]; exact ⟨by decide, by decide⟩
 ·rw [List.eq_of_mem_replicate hx]; exact Nat.zero_le _
theorem xdU (j : Int) : ¬ JM ((V4 C).tb.at j) := by
 intro h
 have h1 : ((Tb.new C.conf.procs.d).at j).state = 2 := h.1
 unfold Tb.new Tb.at at h1
 split at h1
 ·rw [List.getD_eq_getElem?_getD, List.getElem?_map] at h1
  cases hx : (C.conf.procs.d.take 8)[j.toNat]? with
  | none => rw [hx] at h1; exact absurd (show (0 : Int) = 2 from h1) (by decide)
  | some y => rw [hx] at h1; exact absurd (show (0 : Int) = 2 from h1) (by decide)
 ·exact absurd (show (0 : Int) = 2 from h1) (by decide)
def Xe.fresh (b : Nat) (s : SV) (p : List XE) : Xe := ⟨b, s, p, 0, 0, 0, ⟨none, 0, 0⟩, [], false⟩
structure xbA (g : Xe) : Prop where
 pos : g.pos = 0
 rest : g.rest = 0
 addr : g.addr = 0
 done : g.done = false
theorem xaC {β : Type} {f : Xe → β} {y : β} (h : ∀ g ∈ gs, f g = y) : gs.map f = List.replicate gs.length y := by
 rw [List.eq_replicate_iff]
 refine ⟨List.length_map _, fun b hb => ?_⟩
 obtain ⟨g, hg, rfl⟩ := List.mem_map.1 hb
 exact h g hg
theorem xo4 (hc : okC C) (hp : gs.map Xe.prog = C.progs) (hf : ∀ g ∈ gs, xbA g) (hs : w.slk = none) : Rel C (V4 C) w gs := by
 have hl : gs.length = C.progs.length := by rw [← hp, List.length_map]
 refine ⟨xeC hc, hp, ?_, ?_, ?_, ?_, fun k _ hw => absurd hw (xdU k), by rw [hs]; rfl⟩
 ·rw [xaC fun g hg => (hf g hg).pos, hl]; rfl
 ·rw [xaC fun g hg => (hf g hg).rest, hl]; rfl
 ·rw [xaC fun g hg => (hf g hg).addr, hl]; rfl
 ·rw [xaC fun g hg => (hf g hg).done, hl]; rfl
end
end
section
attribute [local irreducible] BrK Xq Xt Xv XI FnK XZ Xw XC XV opX opK Yq Yk eqR Yj Yo Ys WL WD W X3 XO Tr drewK Ya X4 Yw Yv X1 YB mp blk rob sl sep ex fact old
section
attribute [local irreducible] Y1 X2 objX Zw
section
variable {C : CC} {xs : List (SL XE)} {s2 : SV} {u0 : Value}
theorem xla [hu : DeA u0 C.conf] (hc : okC C) (hp : C.progs = J1 xs C.progs.length) : Xb prog 19 #[u0, .int .i64 C.part, s2.v]
  [sl true C.conf.regions.s.v C.conf.regions.d, sl true C.conf.procs.s.v C.conf.procs.d, sl true C.conf.ports.s.v C.conf.ports.d, sl true C.conf.sems.s.v C.conf.sems.d, sl true C.conf.pools.s.v C.conf.pools.d, sl true C.conf.slates.s.v C.conf.slates.d, sl true C.conf.acts.s.v C.conf.acts.d, sl true s2.v xs, fzl xs]
  fun v l' => ∃ b w gs, Rel C (Qn C) w gs ∧ v = ptr b ∧ l' = Xh b C (Qn C) w gs := by
 intro F K hK
 simp only [ap] at hK ⊢
 obtain rfl := hu.h
 have h8 := hc.n8
 have hrz := hc.rz
 have hod := hc.od
 refine S.I fun u => ?_
 have hX := @xho.eq_def; repeat' (first | rintro _ _ ⟨rfl, rfl⟩ | rintro _ _ ⟨_, rfl, rfl⟩ | (refine G.call 54 ?_; refine S.c ?_ (h := xqX (c := C.conf) (hu := ⟨rfl⟩) hc.dep)) | refine S.x ?_ | (refine G.call 51 ?_; refine S.c ?_ (h := xuN _ _)) | (refine G.call 52 ?_; refine S.c ?_ (h := xqh ‹_›)) | (refine G.call 53 ?_; refine S.c ?_ (h := xod ‹_›)) | (refine G.call 55 ?_; refine S.c ?_ (h := xsD)) | (refine G.call 56 ?_; refine S.c ?_ (h := xdO _ _)) | intro hb | fail)
 rename_i a1 a2 a3 a4 a5
 revert hb
 intro cbk
 obtain ⟨w0, hw0⟩ : ∃ w0 : CW, w0 = ⟨⟨none, 0, 0⟩, a1, a2, a3, a4, a5, none, ⟨none, 0, 0⟩⟩ := ⟨_, rfl⟩
 have hen : (((((((((ZM [Value.slice none 0 0, Value.slice none 0 0, Value.slice none 0 0, Value.slice none 0 0, Value.int IntKind.i64 0, Value.slice none 0 0, Value.slice none 0 0, Value.int IntKind.i64 0, Value.int IntKind.i64 0, Value.int IntKind.i64 0, Value.slice none 0 0, Value.int IntKind.i64 0, Value.int IntKind.i64 0, Value.int IntKind.i64 0, Value.slice none 0 0, Value.pointer none, Value.pointer none, Value.pointer none, Value.pointer none, Value.pointer none, Value.pointer none, Value.slice none 0 0]
  0 (En.enc C.conf)).set 11 (Value.int IntKind.i64 C.part)).set 12 (Value.int IntKind.i64 3)).set 13 (Value.int IntKind.i64 (-1))).set 15 (ptr a1)).set 16 (ptr a2)).set 17 (ptr a3)).set 18 (ptr a4)).set 19 (ptr a5)) = [C.conf.regions.s.v, C.conf.procs.s.v, C.conf.ports.s.v, C.conf.sems.s.v, .int .i64 C.conf.flags, C.conf.pools.s.v, C.conf.slates.s.v, .int .i64 C.conf.cap, .int .i64 C.conf.budget, .int .i64 C.conf.ladder, C.conf.acts.s.v,
 .int .i64 C.part, .int .i64 3, .int .i64 (-1), w0.ts.v, ptr w0.tb, ptr w0.mem, ptr w0.pts, ptr w0.obs, ptr w0.mon, slP w0.slk, w0.ev.v] := by rw [hw0]; rfl
 rw [hen]
 clear hen
 have htn : (Tb.new C.conf.procs.d).d.length = C.progs.length := by
  show ((C.conf.procs.d.take 8).map One.new).length = _
  rw [List.length_map, List.length_take, hc.np]
  exact Nat.min_eq_right h8
 have hw1 : w0.ts = ⟨none, 0, 0⟩ ∧ w0.tb = a1 ∧ w0.mem = a2 ∧ w0.pts = a3 ∧ w0.obs = a4 ∧ w0.mon = a5 ∧ w0.slk = none ∧ w0.ev = ⟨none, 0, 0⟩ := by rw [hw0]; exact ⟨rfl, rfl, rfl, rfl, rfl, rfl, rfl, rfl⟩
 clear hw0
 obtain ⟨t1, t2, t3, t4, t5, t6, t7, t8⟩ := hw1
 refine Tr.loopE (α := Nat × SV × List Xe) [34] [2, 6, 7, 33] (fun x => [.int .i64 x.1]) (fun x => [ZA cbk C 3 (-1) { w0 with ts := x.2.1 }, sl false x.2.1.v (x.2.2.map Xe.pt), fam Zg x.2.2]) (fun x => x.1 ≤ C.progs.length ∧ x.2.2.length = x.1 ∧ x.2.2.map Xe.prog = C.progs.take x.1 ∧ ∀ g ∈ x.2.2, xbA g) (fun x => C.progs.length - x.1) (0, w0.ts, []) (by rw [t1]; exact S.T) rfl ⟨Nat.zero_le _, rfl, rfl, fun _ h => by cases h⟩ fun x u hx => ?_
 obtain ⟨k, ts, gs⟩ := x
 obtain ⟨hk, hl, hm, hfr⟩ := hx
 simp only at hk hl hm hfr ⊢
 simp only [ap]
 have hlm : (gs.map Xe.pt).length = k := by rw [List.length_map]; exact hl
 by_cases hin : k < C.progs.length
 ·have hw := Xo (k := k) S.o
  have hpk : ix C.progs (k : Int) = Vq xs k := by
   rw [hp]; unfold J1
   rw [Xp S.o (by simp; exact_mod_cast hin)]
   congr 1
   simp [ix, hin]
  by_cases hq : k < xs.length
  ·by_cases he : (ix xs (k : Int)).d = []
   ·have hd0 : (ix xs (k : Int)).d.length = 0 := by rw [he]; rfl
    have he' := he
    clear he
    have hX := I3 @xho.eq_def hw hd0; repeat' (first | rintro _ _ ⟨si, rfl, rfl⟩ | intro (nc : Nat) | intro (sv : SV) | refine S.x ?_ | (refine G.call 57 ?_; refine S.c ?_ (h := xcr)) | intro hb | fail)
    all_goals
     refine Tr.freezeAt (v := si.v) (xs := Y7) S.K ?_
     have hpk' : Vq xs k = Y7 := by unfold Vq; rw [if_neg (fun h => h.2 he')]
     have hm' : (gs ++ [Xe.fresh nc si (Y7)]).map Xe.prog = C.progs.take (k + 1) := by rw [Yz hin, List.map_append, hm, hpk, hpk']; rfl
     have hln : (gs ++ [Xe.fresh nc si (Y7)]).length = k + 1 := by rw [List.length_append, hl]; rfl
     have hfr' : ∀ g ∈ gs ++ [Xe.fresh nc si (Y7)], xbA g := fun g hg => by
      rcases List.mem_append.1 hg with h | h
      ·exact hfr g h
      ·rw [List.mem_singleton.1 h]; exact ⟨rfl, rfl, rfl, rfl⟩
     have hpt : (gs ++ [Xe.fresh nc si (Y7)]).map Xe.pt = gs.map Xe.pt ++ [Pt.mk (some nc)] := by rw [List.map_append]; rfl
     have hta : Zg (Xe.fresh nc si (Y7)) = sep (blk nc (.cells #[si.v, .int .i64 0, .int .i64 0, .int .i64 0, .slice none 0 0, .bool false] 82 (0, 0))) (sep (sl true si.v (Y7)) (sl true (.slice none 0 0) ([] : List UInt8))) := rfl
     clear hm hfr hl
     have hX := And.intro hpt hta
     exact S.R ((k + 1, sv, gs ++ [Xe.fresh nc si (Y7)]) : Nat × SV × List Xe)
   ·have hd0 : 0 < (ix xs (k : Int)).d.length := List.length_pos_iff.2 he
    have hdl : (ix xs (k : Int)).d.length ≤ 1000000000 := by
     have h1 := hc.pr _ (xac (xs := C.progs) (k := (k : Int)) ⟨by omega, by omega⟩)
     rw [hpk] at h1
     unfold Vq at h1
     rw [if_pos ⟨hq, he⟩] at h1
     have := h1.2.1
     omega
    have he' := he
    clear he
    have hX := And.intro @xho.eq_def hw; repeat' (first | rintro _ _ ⟨si, rfl, rfl⟩ | intro (nc : Nat) | intro (sv : SV) | refine S.x ?_ | (refine G.call 57 ?_; refine S.c ?_ (h := xcr)) | (refine G.call 58 ?_; refine S.c ?_ (h := xnh ‹_›)) | intro hb | fail)
    all_goals
     refine Tr.freezeAt (v := si.v) (xs := (ix xs (k : Int)).d) S.K ?_
     have hpk' : Vq xs k = (ix xs (k : Int)).d := by unfold Vq; rw [if_pos ⟨hq, he'⟩]
     have hm' : (gs ++ [Xe.fresh nc si ((ix xs (k : Int)).d)]).map Xe.prog = C.progs.take (k + 1) := by rw [Yz hin, List.map_append, hm, hpk, hpk']; rfl
     have hln : (gs ++ [Xe.fresh nc si ((ix xs (k : Int)).d)]).length = k + 1 := by rw [List.length_append, hl]; rfl
     have hfr' : ∀ g ∈ gs ++ [Xe.fresh nc si ((ix xs (k : Int)).d)], xbA g := fun g hg => by
      rcases List.mem_append.1 hg with h | h
      ·exact hfr g h
      ·rw [List.mem_singleton.1 h]; exact ⟨rfl, rfl, rfl, rfl⟩
     have hpt : (gs ++ [Xe.fresh nc si ((ix xs (k : Int)).d)]).map Xe.pt = gs.map Xe.pt ++ [Pt.mk (some nc)] := by rw [List.map_append]; rfl
     have hta : Zg (Xe.fresh nc si ((ix xs (k : Int)).d)) = sep (blk nc (.cells #[si.v, .int .i64 0, .int .i64 0, .int .i64 0, .slice none 0 0, .bool false] 82 (0, 0))) (sep (sl true si.v ((ix xs (k : Int)).d)) (sl true (.slice none 0 0) ([] : List UInt8))) := rfl
     clear hm hfr hl
     have hX := And.intro hpt hta
     exact S.R ((k + 1, sv, gs ++ [Xe.fresh nc si ((ix xs (k : Int)).d)]) : Nat × SV × List Xe)
  ·have hX := And.intro @xho.eq_def hw; repeat' (first | rintro _ _ ⟨si, rfl, rfl⟩ | intro (nc : Nat) | intro (sv : SV) | refine S.x ?_ | (refine G.call 57 ?_; refine S.c ?_ (h := xcr)) | fail)
   all_goals
    refine Tr.freezeAt (v := si.v) (xs := Y7) S.K ?_
    have hpk' : Vq xs k = Y7 := by unfold Vq; rw [if_neg (fun h => hq h.1)]
    have hm' : (gs ++ [Xe.fresh nc si (Y7)]).map Xe.prog = C.progs.take (k + 1) := by rw [Yz hin, List.map_append, hm, hpk, hpk']; rfl
    have hln : (gs ++ [Xe.fresh nc si (Y7)]).length = k + 1 := by rw [List.length_append, hl]; rfl
    have hfr' : ∀ g ∈ gs ++ [Xe.fresh nc si (Y7)], xbA g := fun g hg => by
     rcases List.mem_append.1 hg with h | h
     ·exact hfr g h
     ·rw [List.mem_singleton.1 h]; exact ⟨rfl, rfl, rfl, rfl⟩
    have hpt : (gs ++ [Xe.fresh nc si (Y7)]).map Xe.pt = gs.map Xe.pt ++ [Pt.mk (some nc)] := by rw [List.map_append]; rfl
    have hta : Zg (Xe.fresh nc si (Y7)) = sep (blk nc (.cells #[si.v, .int .i64 0, .int .i64 0, .int .i64 0, .slice none 0 0, .bool false] 82 (0, 0))) (sep (sl true si.v (Y7)) (sl true (.slice none 0 0) ([] : List UInt8))) := rfl
    clear hm hfr hl
    have hX := And.intro hpt hta
    exact S.R ((k + 1, sv, gs ++ [Xe.fresh nc si (Y7)]) : Nat × SV × List Xe)
 ·have hke : k = C.progs.length := by omega
  rw [hke, List.take_length] at hm
  have hrb := xo4 (w := { w0 with ts := ts }) hc hm hfr t7
  subst t2 t3 t4 t5 t6
  have hso : Zw none none = fact True := by rw [Zw.eq_def]
  obtain ⟨cb, hcb⟩ : ∃ cb, cb = V4 C := ⟨_, rfl⟩
  refine Tr.nilSl (α := EvC) ?_
  refine Tr.imp (l' := Xh cbk C cb { w0 with ts := ts } gs ++ F) ?_ ?_
  ·subst hcb
   simp only [ap]
   have hX := I3 t8 hso @V4.eq_def
   clear hfr hm hp hrb
   show Xd [] _ _
   exact S.E
  rw [← hcb] at hrb
  have hN : Qn C = XS C cb 0 C.progs.length := by rw [hcb]; rfl
  rw [hN] at hK
  have hns : ∀ j, ¬ JM (cb.tb.at j) := fun j => by rw [hcb]; exact xdU j
  have hl2 : (gs.map Xe.pt).length = C.progs.length := by rw [List.length_map, JU hrb]
  clear hcb hN hp hm hfr hl hlm t1 t7 t8 hso
  obtain ⟨w1, hw1⟩ : ∃ w1 : CW, w1 = { w0 with ts := ts } := ⟨_, rfl⟩
  rw [← hw1] at hrb ⊢
  clear hw1
  simp only [ap]
  have hX := And.intro @xho.eq_def hl2; repeat' (first | refine S.x ?_ | fail)
  refine Tr.loopE (α := Nat × List Xe) [76] [6, 7, 75] (fun x => [.int .i64 x.1]) (fun x => Xh cbk C (XS C cb 0 x.1) w1 x.2) (fun x => x.1 ≤ C.progs.length ∧ Rel C (XS C cb 0 x.1) w1 x.2) (fun x => C.progs.length - x.1) (0, gs) S.T rfl ⟨Nat.zero_le _, hrb⟩ fun y u2 hy => ?_
  obtain ⟨j, g4⟩ := y
  obtain ⟨hj, hrj⟩ := hy
  simp only at hj hrj ⊢
  simp only [ap]
  by_cases hjn : j < C.progs.length
  ·have hw := Xo (k := j) S.o
   have hkj : inR C.progs (j : Int) := ⟨by omega, by omega⟩
   have hnj : ¬ JM ((XS C cb 0 j).tb.at (j : Int)) := fun h => hns _ (WS j _ h)
   have hst : Yd C (XS C cb 0 j) (j : Int) 0 = XS C cb 0 (j + 1) := rfl
   have hX := I3 @xho.eq_def hw hl2; repeat' (first | rintro _ _ ⟨g5, hr5, rfl, rfl⟩ | (refine G.call 59 ?_; refine S.c ?_ (h := W3 hc hrj hkj hnj)) | refine S.x ?_ | fail)
   all_goals
    rw [hst] at hr5
    have hX := hst
    clear hrj hns
    exact S.R ((j + 1, g5) : Nat × List Xe)
  ·have hje : j = C.progs.length := by omega
   subst hje
   have hX := And.intro @xho.eq_def hl2; repeat' (first | refine S.x ?_ | fail)
   all_goals exact Tr.fin hK ⟨_, w1, g4, hrj, rfl, rfl⟩ S.E
end
end
section
structure RW where
 pg : SV
 pa : SV
 re : SV
 ad : SV
 da : SV
 dn : SV
 tb : Nat
 mem : Nat
 pts : Nat
 obs : Nat
 slk : Option Nat
 ev : SV
 px : List (SL XE)
 dx : List (SL UInt8)
def rslkO (o : Option Nat) (m : Option SlM) : Xc := match o, m with
 | some b, some m => rslkX b m
 | _, _ => fact True
abbrev Vy (r : Nat) (C : CC) (mode win : Int) (w : RW) : Xc := blk r (.cells #[C.conf.regions.s.v, C.conf.procs.s.v, C.conf.ports.s.v, C.conf.sems.s.v, .int .i64 C.conf.flags, C.conf.pools.s.v, C.conf.slates.s.v, .int .i64 C.conf.cap, .int .i64 C.conf.budget, .int .i64 C.conf.ladder, C.conf.acts.s.v,
 .int .i64 C.part, .int .i64 mode, .int .i64 win, w.pg.v, w.pa.v, w.re.v, w.ad.v, w.da.v, w.dn.v, ptr w.tb, ptr w.mem, ptr w.pts, ptr w.obs, slP w.slk, w.ev.v] 75 (0, 0))
abbrev Xf (r : Nat) (C : CC) (c : CM) (w : RW) : List Xc := [Vy r C c.mode c.win w, sl false w.pg.v w.px, fzl w.px, sl false w.pa.v c.pos, sl false w.re.v c.rest, sl false w.ad.v c.addr, sl false w.da.v w.dx, fzl w.dx, sl false w.dn.v c.done, Yg w.tb c.tb, Yr w.mem c.mem, XT w.pts c.pts, robjX w.obs C.conf c.obs, rslkO w.slk c.slk, sl false w.ev.v c.evs, sl true C.conf.procs.s.v C.conf.procs.d, sl true C.conf.acts.s.v C.conf.acts.d]
structure Xl (C : CC) (c : CM) (w : RW) : Prop where
 ok : okM C c
 hp : w.px.map SL.d = C.progs
 hd : w.dx.map SL.d = c.data
 hs : w.slk.isSome = c.slk.isSome
attribute [local irreducible] Yr XT robjX rslkO Yg
section
variable {r : Nat} {C : CC} {c : CM} {w : RW} {k call code value : Int}
theorem Xn {mode win : Int} {es : List EvC} (hf : es.length + 1 ≤ 1000000000000) : Xb prog 71 #[ptr r, .int .i64 k, .int .i64 call, .int .i64 code, .int .i64 value] [Vy r C mode win w, sl false w.ev.v es]
  fun v l' => ∃ ev : SV, v = .tuple #[] ∧ l' = [Vy r C mode win { w with ev := ev }, sl false ev.v (es ++ [⟨C.part, win, k, call, code, value⟩])] := by
 intro F K hK
 simp only [ap]
 refine S.I fun u => ?_
 have hX := @xvL.eq_def; repeat' (first | intro (sv : SV) | refine S.x ?_ | fail)
 all_goals exact Tr.fin hK ⟨sv, rfl, rfl⟩ S.E
theorem xbH {s : SV} {xs : List Int} {n : Int} (hk : inR xs k) (hl : xs.length ≤ 1000000) : Xb prog 84 #[s.v, .int .i64 k, .int .i64 n] [sl false s.v xs]
  fun v l' => ∃ s' : SV, v = s'.v ∧ l' = [sl false s'.v (xs.set k.toNat n)] := by
 intro F K hK
 simp only [ap]
 obtain ⟨h0, h1⟩ := hk
 refine S.I fun u => ?_
 repeat' (first | intro (sv : SV) | refine S.x ?_ | intro hb | fail)
 all_goals exact Tr.fin hK ⟨sv, rfl, rfl⟩ S.E
end
end
section
section
variable {C : CC} {c c' : CM} {w : RW} {k : Int}
theorem xas (h : Xl C c w) (ho : okM C c') (hd : c'.data = c.data) (hs : c'.slk.isSome = c.slk.isSome) : Xl C c' w := ⟨ho, h.hp, h.hd.trans hd.symm, h.hs.trans hs.symm⟩
theorem xhG {w' : RW} (h : Xl C c w) (hp : w'.px = w.px) (hd : w'.dx = w.dx) (hs : w'.slk = w.slk) : Xl C c w' := ⟨h.ok, by rw [hp]; exact h.hp, by rw [hd]; exact h.hd, by rw [hs]; exact h.hs⟩
theorem JK (h : Xl C c w) : w.px.length = C.progs.length := by rw [← h.hp, List.length_map]
theorem xl8 (h : Xl C c w) (hk : inR C.progs k) : (ix w.px k).d = ix C.progs k := by
 have hg : inR w.px k := by unfold inR at *; rw [JK h]; exact hk
 rw [← h.hp, Xp (f := SL.d) hg.1 hg.2]
theorem xlO (h : Xl C c w) (hk : inR C.progs k) : (ix w.dx k).d = ix c.data k := by
 have hl : w.dx.length = c.data.length := by rw [← h.hd, List.length_map]
 have hg : inR w.dx k := by unfold inR at *; rw [hl, h.ok.data]; exact hk
 rw [← h.hd, Xp (f := SL.d) hg.1 hg.2]
end
attribute [local irreducible] Yr XT robjX rslkO Yg
section
variable {r : Nat} {C : CC} {c : CM} {w : RW} {k i win : Int}
theorem xpA (hc : okC C) (hr : Xl C c w) (hk : inR C.progs k) (h0 : 0 ≤ i) (h1 : i ≤ (ix C.progs k).length) : Xb prog 85 #[ptr r, .int .i64 k, .int .i64 i] (Xf r C c w)
  fun v l' => ∃ w2, Xl C (toM C c k i) w2 ∧ v = .tuple #[] ∧ l' = Xf r C (toM C c k i) w2 := by
 intro F K hK
 simp only [ap] at hK ⊢
 have h8 := hc.n8
 have hpl := W7 hc hk
 have hpx := JK hr
 have hpk := xl8 hr hk
 have hpn : (ix w.px k).d.length = (ix C.progs k).length := by rw [hpk]
 have hk1 : inR c.pos k := by unfold inR at *; rw [hr.ok.pos]; exact hk
 have hk2 : inR c.rest k := by unfold inR at *; rw [hr.ok.rest]; exact hk
 have hl1 : c.pos.length ≤ 1000000 := by rw [hr.ok.pos]; omega
 have hl2 : c.rest.length ≤ 1000000 := by rw [hr.ok.rest]; omega
 have hrel : Xl C (toM C c k i) w := xas hr (xj4 hc hr.ok hk h0 h1) rfl rfl
 obtain ⟨g0, g1⟩ := hk
 obtain ⟨j, hj⟩ : ∃ j, j = atM (ix C.progs k) i := ⟨_, rfl⟩
 obtain ⟨n, hn⟩ : ∃ n, n = WQ (ix (ix C.progs k) j).cycles := ⟨_, rfl⟩
 have hj2 : 0 ≤ j ∧ j < (ix C.progs k).length := by
  have := xkp h0 h1 hpl.1
  rw [← hj] at this
  exact ⟨this.1, this.2.1⟩
 obtain ⟨j0, j1⟩ := hj2
 have htm : toM C c k i = { c with pos := c.pos.set k.toNat j, rest := c.rest.set k.toNat n } := by rw [hn, hj]; rfl
 rw [htm] at hK hrel
 have hii : (if ((ix C.progs k).length : Int) ≤ i then 0 else i) = j := by rw [hj]; rfl
 have hci : (if (ix (ix C.progs k) j).cycles < 1 then 1 else if 1073741824 < (ix (ix C.progs k) j).cycles then 1073741824 else (ix (ix C.progs k) j).cycles) = n := by rw [hn]; rfl
 have hi1 := fun s => xbH (s := s) (n := j) (xs := c.pos) hk1 hl1
 have hi2 := fun s => xbH (s := s) (n := n) (xs := c.rest) hk2 hl2
 clear hj hn htm h1
 generalize ix C.progs k = P at *
 subst hpk
 refine S.I fun u => ?_
 by_cases hil : ((ix w.px k).d.length : Int) ≤ i
 ·rw [if_pos hil] at hii
  subst hii
  by_cases hc1 : (ix (ix w.px k).d 0).cycles < 1
  ·rw [if_pos hc1] at hci
   subst hci
   repeat' (first | rintro _ _ ⟨_, rfl, rfl⟩ | (refine G.call 84 ?_; first | refine S.c ?_ (h := hi1 (s := w.pa)) | refine S.c ?_ (h := hi2 (s := w.re))) | refine S.x ?_ | intro hb | fail)
   all_goals
    rename_i s1 s2
    exact Tr.fin hK ⟨{ w with pa := s1, re := s2 }, xhG hrel rfl rfl rfl, rfl, rfl⟩ S.E
  ·rw [if_neg hc1] at hci
   by_cases hc2 : 1073741824 < (ix (ix w.px k).d 0).cycles
   ·rw [if_pos hc2] at hci
    subst hci
    repeat' (first | rintro _ _ ⟨_, rfl, rfl⟩ | (refine G.call 84 ?_; first | refine S.c ?_ (h := hi1 (s := w.pa)) | refine S.c ?_ (h := hi2 (s := w.re))) | refine S.x ?_ | intro hb | fail)
    all_goals
     rename_i s1 s2
     exact Tr.fin hK ⟨{ w with pa := s1, re := s2 }, xhG hrel rfl rfl rfl, rfl, rfl⟩ S.E
   ·rw [if_neg hc2] at hci
    subst hci
    repeat' (first | rintro _ _ ⟨_, rfl, rfl⟩ | (refine G.call 84 ?_; first | refine S.c ?_ (h := hi1 (s := w.pa)) | refine S.c ?_ (h := hi2 (s := w.re))) | refine S.x ?_ | intro hb | fail)
    all_goals
     rename_i s1 s2
     exact Tr.fin hK ⟨{ w with pa := s1, re := s2 }, xhG hrel rfl rfl rfl, rfl, rfl⟩ S.E
 ·rw [if_neg hil] at hii
  subst hii
  by_cases hc1 : (ix (ix w.px k).d i).cycles < 1
  ·rw [if_pos hc1] at hci
   subst hci
   repeat' (first | rintro _ _ ⟨_, rfl, rfl⟩ | (refine G.call 84 ?_; first | refine S.c ?_ (h := hi1 (s := w.pa)) | refine S.c ?_ (h := hi2 (s := w.re))) | refine S.x ?_ | intro hb | fail)
   all_goals
    rename_i s1 s2
    exact Tr.fin hK ⟨{ w with pa := s1, re := s2 }, xhG hrel rfl rfl rfl, rfl, rfl⟩ S.E
  ·rw [if_neg hc1] at hci
   by_cases hc2 : 1073741824 < (ix (ix w.px k).d i).cycles
   ·rw [if_pos hc2] at hci
    subst hci
    repeat' (first | rintro _ _ ⟨_, rfl, rfl⟩ | (refine G.call 84 ?_; first | refine S.c ?_ (h := hi1 (s := w.pa)) | refine S.c ?_ (h := hi2 (s := w.re))) | refine S.x ?_ | intro hb | fail)
    all_goals
     rename_i s1 s2
     exact Tr.fin hK ⟨{ w with pa := s1, re := s2 }, xhG hrel rfl rfl rfl, rfl, rfl⟩ S.E
   ·rw [if_neg hc2] at hci
    subst hci
    repeat' (first | rintro _ _ ⟨_, rfl, rfl⟩ | (refine G.call 84 ?_; first | refine S.c ?_ (h := hi1 (s := w.pa)) | refine S.c ?_ (h := hi2 (s := w.re))) | refine S.x ?_ | intro hb | fail)
    all_goals
     rename_i s1 s2
     exact Tr.fin hK ⟨{ w with pa := s1, re := s2 }, xhG hrel rfl rfl rfl, rfl, rfl⟩ S.E
end
end
section
section
variable {C : CC} {c : CM} {w : RW} {k win : Int} {t : Tb} {m : SlM}
theorem xaU (h : Xl C c w) (hl : t.d.length = c.tb.d.length) : Xl C { c with tb := t } w := xas h (xdN h.ok hl) rfl rfl
theorem Yf (hc : okC C) (h : Xl C c w) : c.tb.d.length ≤ 1000000 := by rw [h.ok.tb]; have := hc.n8; omega
theorem xcN : (Yd C c k win).data = c.data ∧ (Yd C c k win).slk = c.slk := by
 unfold Yd
 simp only
 split <;> exact ⟨rfl, rfl⟩
theorem xrY (hc : okC C) (h : Xl C c w) (hk : inR C.progs k) : Xl C (YX c k) w :=
 xas h ((Rch.rest c k hk).ok hc h.ok) rfl (by show (c.slk.map _).isSome = _; rw [Option.isSome_map])
theorem VS (h : Xl C c w) (hm : c.slk = some m) : ∃ sb, w.slk = some sb := by
 have := h.hs
 rw [hm] at this
 exact Option.isSome_iff_exists.1 this
end
attribute [local irreducible] Yr XT robjX rslkX Yg
section
variable {r : Nat} {C : CC} {c : CM} {w : RW} {k i win : Int} {m : SlM}
theorem WC (hc : okC C) (hr : Xl C c w) (hk : inR C.progs k) : Xb prog 64 #[ptr r, .int .i64 k, .int .i64 win] (Xf r C c w)
  fun v l' => ∃ w2, Xl C (Yd C c k win) w2 ∧ v = .tuple #[] ∧ l' = Xf r C (Yd C c k win) w2 := by
 intro F K hK
 simp only [ap] at hK ⊢
 have hto := xpA (r := r) hc hr hk (i := 0) (by decide) S.o
 have hrs := fun w2 (h : Xl C (toM C c k 0) w2) => xas (c' := Yd C c k win) h ((xaE (win := win) hk).ok hc hr.ok) xcN.1 (by rw [xcN.2]; rfl)
 have hkd : inR c.done k := by unfold inR at *; rw [hr.ok.done]; exact hk
 obtain ⟨g0, g1⟩ := hkd
 obtain ⟨c1, hc1⟩ : ∃ c1, c1 = toM C c k 0 := ⟨_, rfl⟩
 have hdn : c1.done = c.done := by rw [hc1]; rfl
 have htl : c1.tb.d.length ≤ 1000000 := by rw [hc1]; exact (Yf hc hr : c.tb.d.length ≤ 1000000)
 have hst : Yd C c k win = if ix c.done k = true then xea { c1 with tb := c1.tb.start k win } k else { c1 with tb := c1.tb.start k win } := by rw [hc1]; rfl
 have htl2 : (c1.tb.start k win).d.length ≤ 1000000 := by rw [xe1]; exact htl
 rw [← hc1] at hto hrs
 clear hc1
 refine S.I fun u => ?_
 cases hd : ix c.done k with
 | true =>
  rw [hd, if_pos rfl] at hst
  rw [hst] at hK hrs
  rw [← hdn] at hd g1
  have hX := hd; repeat' (first | rintro _ _ ⟨rfl, rfl⟩ | rintro _ _ ⟨w2, hr2, rfl, rfl⟩ | (refine G.call 85 ?_; refine S.c ?_ (h := hto)) | refine S.x ?_ | (refine G.call 120 ?_; refine S.c ?_ (h := xfs ?_)) | (refine G.call 121 ?_; refine S.c ?_ (h := xib ?_)) | (refine G.prop ?_; assumption) | intro hb | fail)
  all_goals
   refine Tr.fin hK ⟨w2, hrs _ hr2, rfl, rfl⟩ ?_
   simp only [ap]
   clear hdn hrs
   have hX := @xea.eq_def
   exact S.E
 | false =>
  rw [hd, if_neg (by decide)] at hst
  rw [hst] at hK hrs
  rw [← hdn] at hd g1
  have hX := hd; repeat' (first | rintro _ _ ⟨rfl, rfl⟩ | rintro _ _ ⟨w2, hr2, rfl, rfl⟩ | (refine G.call 85 ?_; refine S.c ?_ (h := hto)) | refine S.x ?_ | (refine G.call 120 ?_; refine S.c ?_ (h := xfs ?_)) | (refine G.prop ?_; assumption) | intro hb | fail)
  all_goals
   refine Tr.fin hK ⟨w2, hrs _ hr2, rfl, rfl⟩ ?_
   simp only [ap]
   clear hdn hrs
   exact S.E
theorem xci (hc : okC C) (hr : Xl C c w) (hk : inR C.progs k) (hm : c.slk = some m) : Xb prog 133 #[ptr r, .int .i64 k] (Xf r C c w)
  fun v l' => ∃ w2, Xl C (YX c k) w2 ∧ v = .tuple #[] ∧ l' = Xf r C (YX c k) w2 := by
 intro F K hK
 simp only [ap] at hK ⊢
 have h8 := hc.n8
 have hrel := xrY hc hr hk
 have htl := Yf hc hr
 have hkd : inR c.done k := by unfold inR at *; rw [hr.ok.done]; exact hk
 obtain ⟨g0, g1⟩ := hkd
 have hl1 : c.done.length ≤ 1000000 := by rw [hr.ok.done]; omega
 obtain ⟨sb, hs⟩ := VS hr hm
 have hsl : rslkO w.slk c.slk = rslkX sb m := by rw [hs, hm]; rfl
 have hsp : slP w.slk = .pointer (some ⟨sb, 0, none⟩) := by rw [hs]; rfl
 have hsr : rslkO w.slk (YX c k).slk = rslkX sb (QT m k) := by rw [hs]; unfold YX; rw [hm]; rfl
 simp only [hsl]
 refine S.I fun u => ?_
 have hX := hsp; repeat' (first | intro (sv : SV) | refine S.x ?_ | (refine G.call 121 ?_; refine S.c ?_ (h := xib ?_)) | (refine G.call 201 ?_; first | refine S.c ?_ (h := xsQ)) | rintro _ _ ⟨rfl, rfl⟩ | rintro _ _ ⟨_, rfl, rfl⟩ | (refine G.prop ?_; assumption) | intro hb | fail)
 all_goals
  refine Tr.fin hK ⟨{ w with dn := sv }, xhG hrel rfl rfl rfl, rfl, rfl⟩ ?_
  simp only [ap]
  rw [hsr]
  have hX := @YX.eq_def
  exact S.E
