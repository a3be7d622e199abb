import Derived.Test.YtacmaamllpiloaaGreatZ45
import Derived.Test.YtacmaamllpiloaaGreatZ46
namespace Go.Proofs.YtacmaamllpiloaaGreat
open Go Go.Wk
set_option maxHeartbeats 3200000
set_option maxRecDepth 100000
instance (priority := 900) hasf_idle {l : List Asrt} : HasF l idleP := hasf_mk fun w R U _ _ _ y hy => by
 rw [List.mem_singleton.1 hy]
 exact sepI ⟨by decide, by decide⟩ (sepI ⟨by decide, by decide⟩ (sepI ⟨by decide, by decide⟩ (sepI ⟨by decide, by decide⟩ (sepI ⟨by decide, by decide⟩ (sepI ⟨by decide, by decide⟩ trivial)))))
theorem Tr.fzSteps {xs : List (SL StepC)} {l : List Asrt} {X : WP} [hf : HasF l xs] (h : (∀ x ∈ xs, ∀ s ∈ x.d, s.ok) → Tr l X) : Tr l X := fun w hw => by
 obtain ⟨R, h1, h3⟩ := hw
 refine h (fun x hx s hs => ?_) w ⟨R, h1, h3⟩
 have h5 := fzl_of_fz (hasf_get hf h1 (fun _ h => h) h3 x hx) s hs
 exact ⟨sep_l (sep_r (sep_r h5)), sep_l (sep_r (sep_r (sep_r h5))), sep_l (sep_r (sep_r (sep_r (sep_r h5)))), sep_l (sep_r (sep_r (sep_r (sep_r (sep_r h5)))))⟩
theorem rr_base {C : CC} {w : RW} (hc : okC C) (hp : w.px.map SL.d = C.progs) (hd : w.dx.map SL.d = List.replicate C.progs.length []) (hs : w.slk = none) : Rrel C (baseM C) w := ⟨okM_base hc, hp, hd, by rw [hs]; rfl⟩
attribute [local irreducible] BrK GenK EGenK EUnitK CallK FnK CallV GuardO GuardC CondW opX opK opKc chkR eqR seqK blkK endL WL WD W LoopW BinK Tr drewK resL PickK NotK NilK ExtrK getK Instr.storeAt Instr.loadAt Instr.fieldAt Instr.indexAt Instr.lookup Instr.mapUpdate Instr.box Instr.alloc Instr.build Instr.buildSlice Instr.makeSlice Instr.makeMap Instr.sliceAt Instr.field Instr.index Instr.makeInterface Instr.typeAssert Builtin.len_ Builtin.append_ Builtin.cap_ Builtin.min_ Builtin.max_ Builtin.copy_ Builtin.clear_ convert binOp mp blk rob sl sep ex fact old
attribute [local irreducible] rmemX rportX robjX rslkO
section
variable {C : CC} {xs : List (SL StepC)} {s2 : SV} {u0 : Value}
theorem rcnew_ok [hu : DeA u0 C.conf] (hc : okC C) (hp : C.progs = progsM xs C.progs.length) : Trip Tryz.prog 20 [u0, .int .i64 C.part, s2.v].toArray
  [sl true C.conf.regions.s.v C.conf.regions.d, sl true C.conf.procs.s.v C.conf.procs.d, sl true C.conf.ports.s.v C.conf.ports.d, sl true C.conf.sems.s.v C.conf.sems.d, sl true C.conf.pools.s.v C.conf.pools.d, sl true C.conf.slates.s.v C.conf.slates.d, sl true C.conf.acts.s.v C.conf.acts.d, sl true s2.v xs, fzl xs]
  fun v l' => ∃ r w, Rrel C (newM C) w ∧ v = ptr r ∧ l' = rcellL r C (newM C) w := by
 intro F K hK
 simp only [List.cons_append, List.nil_append] at hK ⊢
 obtain rfl := hu.h
 have h8 := hc.n8
 have hrz := hc.rz
 have hod := hc.od
 (refine Tr.enter (rs := [.tmp 6]) mixed fn20 rfl (by simp +arith [Tryz.ntmps20]) fun u => ?_; simp only [cd20, Tryz.f20])
 have hX := @pl20.eq_def; repeat' (first | rintro _ _ ⟨_, rfl, rfl⟩ | (refine G.call 63 ?_; refine S.c ?_ (h := yonew_ok (c := C.conf) (hu := ⟨rfl⟩) hc.dep)) | refine S.x ?_ | (refine G.call 60 ?_; first | refine S.c ?_ (h := rnew_ok _ _) | fail) | (refine G.call 61 ?_; first | refine S.c ?_ (h := ymnew_ok (by assumption)) | fail) | (refine G.call 62 ?_; first | refine S.c ?_ (h := ypnew_ok (by assumption)) | fail) | intro hb | fail)
 rename_i a1 a2 a3 a4
 revert hb
 intro rbk
 obtain ⟨w0, hw0⟩ : ∃ w0 : RW, w0 = ⟨⟨none, 0, 0⟩, ⟨none, 0, 0⟩, ⟨none, 0, 0⟩, ⟨none, 0, 0⟩, ⟨none, 0, 0⟩, ⟨none, 0, 0⟩, a1, a2, a3, a4, none, ⟨none, 0, 0⟩, [], []⟩ := ⟨_, rfl⟩
 have hen : ((((((((setL [Value.slice none 0 0, Value.slice none 0 0, Value.slice none 0 0, Value.slice none 0 0, Value.int IntKind.i64 0, Value.slice none 0 0, Value.slice none 0 0, Value.int IntKind.i64 0, Value.int IntKind.i64 0, Value.int IntKind.i64 0, Value.slice none 0 0, Value.int IntKind.i64 0, Value.int IntKind.i64 0, Value.int IntKind.i64 0, Value.slice none 0 0, Value.slice none 0 0, Value.slice none 0 0, Value.slice none 0 0, Value.slice none 0 0, Value.slice none 0 0, Value.pointer none, Value.pointer none, Value.pointer none, Value.pointer none, Value.pointer none, Value.slice none 0 0]
  0 (En.enc C.conf)).set 11 (Value.int IntKind.i64 C.part)).set 12 (Value.int IntKind.i64 3)).set 13 (Value.int IntKind.i64 (-1))).set 20 (ptr a1)).set 21 (ptr a2)).set 22 (ptr a3)).set 23 (ptr a4)) = [C.conf.regions.s.v, C.conf.procs.s.v, C.conf.ports.s.v, C.conf.sems.s.v, .int .i64 C.conf.flags, C.conf.pools.s.v, C.conf.slates.s.v, .int .i64 C.conf.cap, .int .i64 C.conf.budget, .int .i64 C.conf.ladder, C.conf.acts.s.v,
 .int .i64 C.part, .int .i64 3, .int .i64 (-1), w0.pg.v, w0.pa.v, w0.re.v, w0.ad.v, w0.da.v, w0.dn.v, ptr w0.tb, ptr w0.mem, ptr w0.pts, ptr w0.obs, slP w0.slk, w0.ev.v] := by rw [hw0]; rfl
 rw [hen]
 clear hen
 have htn : (Tb.new C.conf.procs.d).d.length = C.progs.length := by
  show ((C.conf.procs.d.take 8).map One.new).length = _
  rw [List.length_map, List.length_take, hc.np]
  exact Nat.min_eq_right h8
 have hw1 : w0.pg = ⟨none, 0, 0⟩ ∧ w0.tb = a1 ∧ w0.mem = a2 ∧ w0.pts = a3 ∧ w0.obs = a4 ∧ w0.slk = none ∧ w0.ev = ⟨none, 0, 0⟩ ∧ w0.px = [] ∧ w0.dx = [] := by rw [hw0]; exact ⟨rfl, rfl, rfl, rfl, rfl, rfl, rfl, rfl, rfl⟩
 clear hw0
 obtain ⟨t1, t2, t3, t4, t5, t6, t7, t8, t9⟩ := hw1
 obtain ⟨tb, htb⟩ : ∃ tb, tb = Tb.new C.conf.procs.d := ⟨_, rfl⟩
 rw [← htb] at htn ⊢
 refine Tr.refO (a := a1) (t := tb) S.K fun sr => ?_
 have hld : (tb.d.map ROne.mk).length = C.progs.length := by rw [List.length_map]; exact htn
 have hX := And.intro @pl20.eq_def hld; repeat' (first | refine S.x ?_ | fail)
 refine Tr.refF (a := a1) (t := tb) (s := sr) S.K S.K ?_
 clear hld
 refine Tr.loopE (α := Nat × SV × List (SL StepC)) [9] [2, 6, 7, 8] (fun x => [.int .i64 x.1]) (fun x => [rcellB rbk C 3 (-1) { w0 with pg := x.2.1 }, sl false x.2.1.v x.2.2, fzl x.2.2]) (fun x => x.1 ≤ C.progs.length ∧ x.2.2.length = x.1 ∧ x.2.2.map SL.d = C.progs.take x.1) (fun x => C.progs.length - x.1) (0, w0.pg, []) (by rw [t1]; exact S.T) rfl ⟨Nat.zero_le _, rfl, rfl⟩ fun x u hx => ?_
 obtain ⟨k, pg, px⟩ := x
 obtain ⟨hk, hl, hm⟩ := hx
 simp only at hk hl hm ⊢
 simp only [List.cons_append, List.nil_append]
 by_cases hin : k < C.progs.length
 ·have hw := wrapSucc (k := k) (by omega)
  have hpk : ix C.progs (k : Int) = progM xs k := by
   rw [hp]; unfold progsM
   rw [ix_map (by omega) (by simp; exact_mod_cast hin)]
   congr 1
   simp [ix, hin]
  by_cases hq : k < xs.length
  ·by_cases he : (ix xs (k : Int)).d = []
   ·have hd0 : (ix xs (k : Int)).d.length = 0 := by rw [he]; rfl
    have he' := he
    clear he
    have hX := And.intro @pl20.eq_def (And.intro hw hd0); repeat' (first | intro (sv : SV) | refine S.x ?_ | intro hb | fail)
    refine Tr.freezeAt (v := sv.v) (xs := idleP) S.K ?_
    have hX := And.intro @pl20.eq_def hw; repeat' (first | intro (sw : SV) | refine S.x ?_ | fail)
    all_goals
     have hpk' : progM xs k = idleP := by unfold progM; rw [if_neg (fun h => h.2 he')]
     have hm' : (px ++ [SL.mk sv idleP]).map SL.d = C.progs.take (k + 1) := by rw [take_ix hin, List.map_append, hm, hpk, hpk']; rfl
     have hln : (px ++ [SL.mk sv idleP]).length = k + 1 := by rw [List.length_append, hl]; rfl
     clear hm hl
     exact S.R ((k + 1, sw, px ++ [SL.mk sv idleP]) : Nat × SV × List (SL StepC))
   ·have hd0 : 0 < (ix xs (k : Int)).d.length := List.length_pos_iff.2 he
    have he' := he
    clear he
    have hX := And.intro @pl20.eq_def hw; repeat' (first | intro (sv : SV) | refine S.x ?_ | intro hb | fail)
    all_goals
     have hpk' : progM xs k = (ix xs (k : Int)).d := by unfold progM; rw [if_pos ⟨hq, he'⟩]
     have hm' : (px ++ [SL.mk (ix xs (k : Int)).s (ix xs (k : Int)).d]).map SL.d = C.progs.take (k + 1) := by rw [take_ix hin, List.map_append, hm, hpk, hpk']; rfl
     have hln : (px ++ [SL.mk (ix xs (k : Int)).s (ix xs (k : Int)).d]).length = k + 1 := by rw [List.length_append, hl]; rfl
     clear hm hl
     exact S.R ((k + 1, sv, px ++ [SL.mk (ix xs (k : Int)).s (ix xs (k : Int)).d]) : Nat × SV × List (SL StepC))
  ·have hX := And.intro @pl20.eq_def hw; repeat' (first | intro (sv : SV) | refine S.x ?_ | fail)
   refine Tr.freezeAt (v := sv.v) (xs := idleP) S.K ?_
   have hX := And.intro @pl20.eq_def hw; repeat' (first | intro (sw : SV) | refine S.x ?_ | fail)
   all_goals
    have hpk' : progM xs k = idleP := by unfold progM; rw [if_neg (fun h => hq h.1)]
    have hm' : (px ++ [SL.mk sv idleP]).map SL.d = C.progs.take (k + 1) := by rw [take_ix hin, List.map_append, hm, hpk, hpk']; rfl
    have hln : (px ++ [SL.mk sv idleP]).length = k + 1 := by rw [List.length_append, hl]; rfl
    clear hm hl
    exact S.R ((k + 1, sw, px ++ [SL.mk sv idleP]) : Nat × SV × List (SL StepC))
 ·have hke : k = C.progs.length := by omega
  rw [hke, List.take_length] at hm
  subst t2 t3 t4 t5
  have hso : rslkO none none = fact True := by rw [rslkO.eq_def]
  refine Tr.nilSl (α := EvC) ?_
  have hX := @pl20.eq_def; repeat' (first | refine S.x ?_ | intro hb | fail)
  rename_i q1 q2 q3 q4
  obtain ⟨q5, hq5⟩ : ∃ q5, q5 = hb := ⟨_, rfl⟩
  subst hq5
  obtain ⟨w1, hw1⟩ : ∃ w1 : RW, w1 = { w0 with pg := pg, pa := q1, re := q2, ad := q3, da := q4, dn := q5, px := px, dx := List.replicate C.progs.length default } := ⟨_, rfl⟩
  have hrb : Rrel C (baseM C) w1 := by rw [hw1]; exact rr_base hc hm (by rw [List.map_replicate]; rfl) t6
  obtain ⟨cb, hcb⟩ : ∃ cb, cb = baseM C := ⟨_, rfl⟩
  refine Tr.imp (l' := rcellL rbk C cb w1 ++ F) ?_ ?_
  ·subst hcb hw1 htb
   simp only [List.cons_append, List.nil_append, Int.toNat_natCast, t6, t7]
   have hX := And.intro hso @baseM.eq_def
   clear hm hp hrb hin hke
   show EntR [] _ _
   exact S.E
  rw [← hcb] at hrb
  have hN : newM C = startTo C cb 0 C.progs.length := by rw [hcb]; rfl
  rw [hN] at hK
  clear hcb hN hp hm hl htb htn t1 t6 t7 t8 t9 hso hw1
  simp only [List.cons_append, List.nil_append]
  have hX := @pl20.eq_def; repeat' (first | refine S.x ?_ | refine S.y ?_ ?_ | (refine G.call 60 ?_; first | refine S.c ?_ (h := rnew_ok _ _) | refine S.c ?_ (h := rnew_ok)) | (refine G.call 61 ?_; first | refine S.c ?_ (h := ymnew_ok (by assumption)) | refine S.c ?_ (h := rmnew_ok)) | (refine G.call 62 ?_; first | refine S.c ?_ (h := ypnew_ok (by assumption)) | refine S.c ?_ (h := rpnew_ok)) | (refine G.call 63 ?_; refine S.c ?_ (h := rnew20_ok)) | rintro _ _ ⟨_, rfl, rfl⟩ | rintro _ _ ⟨_, _, _, _, _, rfl, rfl⟩ | rintro _ _ ⟨_, _, _, _, _, _, hxs, rfl, rfl⟩ | (refine G.prop ?_; assumption) | intro hb | ((fail_if_success refine G.tr ?_); exact G.prop S.p) | fail)
  refine Tr.loopE (α := Nat × RW) [11] [6, 7, 8] (fun x => [.int .i64 x.1]) (fun x => rcellL rbk C (startTo C cb 0 x.1) x.2) (fun x => x.1 ≤ C.progs.length ∧ Rrel C (startTo C cb 0 x.1) x.2) (fun x => C.progs.length - x.1) (0, w1) S.T rfl ⟨Nat.zero_le _, hrb⟩ fun y u2 hy => ?_
  obtain ⟨j, w3⟩ := y
  obtain ⟨hj, hrj⟩ := hy
  simp only at hj hrj ⊢
  simp only [List.cons_append, List.nil_append]
  by_cases hjn : j < C.progs.length
  ·have hw := wrapSucc (k := j) (by omega)
   have hkj : inR C.progs (j : Int) := ⟨by omega, by omega⟩
   have hst : startM C (startTo C cb 0 j) (j : Int) 0 = startTo C cb 0 (j + 1) := rfl
   have hsk := rstart24_ok (r := rbk) (win := 0) hc hrj hkj
   rw [hst] at hsk
   clear hrj
   have hX := And.intro @pl20.eq_def hw; repeat' (first | rintro _ _ ⟨w5, hr5, rfl, rfl⟩ | (refine G.call 64 ?_; refine S.c ?_ (h := hsk)) | refine S.x ?_ | fail)
   all_goals
    have hX := hst
    exact S.R ((j + 1, w5) : Nat × RW)
  ·have hje : j = C.progs.length := by omega
   subst hje
   have hX := @pl20.eq_def; repeat' (first | refine S.x ?_ | fail)
   all_goals exact Tr.fin hK ⟨rbk, w3, hrj, rfl, rfl⟩ S.E
end
end Go.Proofs.YtacmaamllpiloaaGreat
namespace Go.Proofs.YtacmaamllpiloaaGreat
open Go Go.Wk
section
variable {C : CC} {c : CM} {p : Int}
theorem ranR_min {cyc : Int} (hw : 1 ≤ wantM c) (hcy : 1 ≤ cyc) : ranR c cyc = (if wantM c < cyc then wantM c else cyc) ∧ 1 ≤ ranR c cyc := by
 unfold ranR ranN
 split <;> split <;> omega
end
end Go.Proofs.YtacmaamllpiloaaGreat
namespace Go.Proofs.YtacmaamllpiloaaGreat
open Go Go.Wk
set_option maxHeartbeats 3200000
set_option maxRecDepth 100000
attribute [local irreducible] BrK GenK EGenK EUnitK CallK FnK CallV GuardO GuardC CondW opX opK opKc chkR eqR seqK blkK endL WL WD W LoopW BinK Tr drewK resL PickK NotK NilK ExtrK getK Instr.storeAt Instr.loadAt Instr.fieldAt Instr.indexAt Instr.lookup Instr.mapUpdate Instr.box Instr.alloc Instr.build Instr.buildSlice Instr.makeSlice Instr.makeMap Instr.sliceAt Instr.field Instr.index Instr.makeInterface Instr.typeAssert Builtin.len_ Builtin.append_ Builtin.cap_ Builtin.min_ Builtin.max_ Builtin.copy_ Builtin.clear_ convert binOp mp blk rob sl sep ex fact old
attribute [local irreducible] memX portX objX slkO taskA rmemX rportX robjX rslkO refA newM beginM cycTo ranA arrM drM
section
variable {l : LifeD}
theorem left_room {C : CC} {c : CM} (hi : Inv C c) : leftM c ≤ 1000000000000 := by
 have h := (left_lef hi.sl).2.1
 have h2 := room_le hi
 have h3 := room_in hi
 unfold roomM at h2 h3
 unfold lefS at h
 split at h
 ·rename_i m hm
  rw [hm] at h2 h3
  simp only at h2 h3
  split at h <;> omega
 ·omega
theorem cbounds_ok : Trip Tryz.prog 4 [.agg (En.enc l).toArray].toArray (lifeL l)
  fun v l' => v = .bool true ∧ l' = [] := by
 intro F K hK
 simp only [List.cons_append, List.nil_append] at hK ⊢
 obtain ⟨conf, progs, wins⟩ := l
 try simp only at hK ⊢
 refine Tr.fzSteps (xs := progs.d) fun hst => ?_
 have hmay := may_ok (l := ⟨conf, progs, wins⟩)
 try simp only at hmay
 by_cases hL : okLife ⟨conf, progs, wins⟩
 ·have hc : okC (lifeC ⟨conf, progs, wins⟩ 1) := life_c hL hst
  have hpr : (lifeC ⟨conf, progs, wins⟩ 1).progs = progsM progs.d (lifeC ⟨conf, progs, wins⟩ 1).progs.length := life_p
  have hw24 := hL.w
  have h9 := hL.c
  have h10 := hL.p.c1
  try simp only at hw24 h9 h10
  have hnc := cnew_ok (u0 := .agg (En.enc conf).toArray) (s2 := progs.s) (hu := ⟨rfl⟩) hc hpr
  have hnr := rcnew_ok (u0 := .agg (En.enc conf).toArray) (s2 := progs.s) (hu := ⟨rfl⟩) hc hpr
  obtain ⟨i1, i2, i3⟩ := new_inv hc
  clear hL hst hpr
  obtain ⟨C, hC⟩ : ∃ C, C = lifeC ⟨conf, progs, wins⟩ 1 := ⟨_, rfl⟩
  have hcf : C.conf = conf := by rw [hC]; rfl
  have hpt : C.part = 1 := by rw [hC]; rfl
  rw [← hC] at hc hnc hnr i1 i2 i3
  rw [hcf, hpt] at hnc hnr
  clear hC
  have q1 := hc.cap
  have q2 := hc.cost
  have q3 : C.conf.procs.d.length ≤ 100000 := by rw [hc.np]; have := hc.n8; omega
  have hrm : (newSl C.conf).room = C.conf.cap := by unfold newSl; simp only; rw [hcf, if_pos (by omega)]
  have hnl : newL C = leftA (newSl conf).room (newSl conf).ms := by unfold newL; rw [hcf]
  rw [hcf] at q1 q2 q3
  have hsn := ysnew_ok (u0 := .agg (En.enc conf).toArray) (c := conf) (hd := ⟨rfl⟩) q1 q2 q3
  have hsl := fun r => yleft_ok (r := r) (m := newSl conf)
  rw [← hnl] at hsl
  obtain ⟨cN, hN⟩ : ∃ cN, cN = newM C := ⟨_, rfl⟩
  rw [← hN] at hnc hnr i1 i2 i3
  clear hN q1 q2 q3 hnl
  (refine Tr.enter (rs := [.tmp 2]) mixed fn4 rfl (by simp +arith [Tryz.ntmps4]) fun u => ?_; simp only [cd4, Tryz.f4])
  have hX := @pl4.eq_def; repeat' (first | rintro _ _ ⟨rfl, rfl⟩ | rintro _ _ ⟨bm, hbm, rfl, rfl⟩ | rintro _ _ ⟨r, w2, hr2, rfl, rfl⟩ | rintro _ _ ⟨b, w, gs, hr, rfl, rfl⟩ | (refine G.call 18 ?_; refine S.c ?_ (h := hmay)) | (refine G.call 19 ?_; refine S.c ?_ (h := hnc)) | (refine G.call 20 ?_; refine S.c ?_ (h := hnr)) | refine S.x ?_ | refine S.y ?_ ?_ | (refine G.call 17 ?_; refine S.c ?_ (h := works24_ok)) | intro hb | fail)
  ·exact S.L
  refine Tr.loopE (α := Nat × CM × CW × List TaskG × CM) [2, 5] [1, 3, 4] (fun x => [.bool false, .int .i64 x.1]) (fun x => cellL b C x.2.1 x.2.2.1 x.2.2.2.1 ++ rcellL r C x.2.2.2.2 w2) (fun x => x.1 ≤ wins.d.length ∧ x.1 ≤ 12 ∧ Rel C x.2.1 x.2.2.1 x.2.2.2.1 ∧ Inv C x.2.1 ∧ okR1 x.2.1 ∧ x.2.1.evs.length ≤ x.1 * 60000) (fun x => 12 - x.1) (0, cN, w, gs, cN) S.T rfl ⟨Nat.zero_le _, Nat.zero_le _, hr, i1, i2, by rw [i3]; exact Nat.zero_le _⟩ fun x u hx => ?_
  clear hr hr2 i1 i2 i3 hnc hnr hmay
  obtain ⟨k, c, w, gs, cr⟩ := x
  obtain ⟨hk, hk2, hr, hi, h1, he⟩ := hx
  simp only at hk hk2 hr hi h1 he ⊢
  simp only [List.cons_append, List.nil_append]
  by_cases hin : k < wins.d.length ∧ k < 12
  ·obtain ⟨hin, hin2⟩ := hin
   have hw := wrapSucc (k := k) (by omega)
   obtain ⟨hm1, hm2⟩ := hw24 k hin hin2
   have har := arrive_ok (b := b) (r := r) (C := C) (C2 := C) (c := c) (c2 := cr) (w := w) (gs := gs) (w2 := w2) (x := ix wins.d (k : Int)) hm1 hm2
   obtain ⟨j1, j2⟩ := arr_inv (x := ix wins.d (k : Int)) hc hi h1
   have hra : Rel C (arrM c (ix wins.d (k : Int))) w gs := rel_arr hr
   have hea : (arrM c (ix wins.d (k : Int))).evs = c.evs := by rw [arrM.eq_def]
   obtain ⟨ca, hca⟩ : ∃ ca, ca = arrM c (ix wins.d (k : Int)) := ⟨_, rfl⟩
   obtain ⟨cq, hcq⟩ : ∃ cq, cq = arrM cr (ix wins.d (k : Int)) := ⟨_, rfl⟩
   rw [← hca] at har j1 j2 hra hea
   rw [← hcq] at har
   have hfa : few ca 500 := by unfold few; rw [hea]; omega
   obtain ⟨b1, b2, b3, b4, b5⟩ := begin_inv hc j1 j2
   have hcb := cbegin_ok (b := b) hc hra hfa
   obtain ⟨cb, hcbe⟩ : ∃ cb, cb = beginM C ca := ⟨_, rfl⟩
   rw [← hcbe] at b1 b2 b3 b4 b5 hcb
   rw [hea] at b3
   rw [hrm, hcf] at b4
   have hlf := fun w gs (h : Rel C cb w gs) => cleft_ok (b := b) hc h
   obtain ⟨lb, hlb⟩ : ∃ lb, lb = leftM cb := ⟨_, rfl⟩
   have hlb0 := (left_lef b1.sl).1
   rw [← hlb] at b5 hlf hlb0
   have hlr := left_room b1
   rw [← hlb] at hlr
   have hlb3 : lb ≤ 1000000000000 := by omega
   obtain ⟨nl, hnl⟩ : ∃ nl, nl = newL C := ⟨_, rfl⟩
   rw [← hnl] at b5 hsl
   clear hca hcq hcbe hea hra hr hi h1 j1 j2 hfa hnl
   have hX := And.intro @pl4.eq_def hw; repeat' (first | rintro _ _ ⟨rfl, rfl⟩ | rintro _ _ ⟨sb, rfl, rfl⟩ | rintro _ _ ⟨w3, gs3, hr3, rfl, rfl⟩ | (refine G.call 21 ?_; refine S.c ?_ (h := har)) | (refine G.call 8 ?_; refine S.c ?_ (h := hcb)) | (refine G.call 22 ?_; refine S.c ?_ (h := hsn)) | (refine G.call 23 ?_; refine S.c ?_ (h := hsl _)) | (refine G.call 10 ?_; refine S.c ?_ (h := hlf _ _ hr3)) | refine S.x ?_ | intro hb | fail)
   refine Tr.loopE (α := Nat × Int × CM × CW × List TaskG) [2, 8, 9] [1, 3, 4, 5, 7] (fun x => [.bool false, .int .i64 x.2.1, .int .i64 x.1]) (fun x => cellL b C x.2.2.1 x.2.2.2.1 x.2.2.2.2) (fun x => x.1 ≤ 401 ∧ Rel C x.2.2.1 x.2.2.2.1 x.2.2.2.2 ∧ Inv C x.2.2.1 ∧ okR1 x.2.2.1 ∧ x.2.2.1.evs.length ≤ k * 60000 + 500 + x.1 * 130 ∧ 0 ≤ x.2.1 ∧ x.2.1 + leftM x.2.2.1 ≤ lb ∧ roomM x.2.2.1 ≤ 400 - x.1) (fun x => 401 - x.1) (0, 0, cb, w3, gs3) S.T rfl ⟨by simp only; omega, hr3, b1, b2, by simp only; omega, Int.le_refl _, by simp only; omega, by simp only; omega⟩ fun y u2 hy => ?_
   clear hr3 b1 b2 b3 b4 b5 hcb har hlf hlb
   obtain ⟨n, sm, c1, w5, gs5⟩ := y
   obtain ⟨hn, hr5, hi5, h5, he5, hs0, hs1, hs2⟩ := hy
   simp only at hn hr5 hi5 h5 he5 hs0 hs1 hs2 ⊢
   simp only [List.cons_append, List.nil_append]
   have hwt := cwant_ok (b := b) hc hr5
   have hlt := cleft_ok (b := b) hc hr5
   have hr0 := room_in hi5
   have hl0 := (left_lef hi5.sl).1
   by_cases hwp : 0 < wantM c1
   ·have hwr := want_room hi5 (by omega)
    have hn4 : n ≤ 400 := by omega
    have hw2 := wrapSucc (k := n) (by omega)
    have hran := cran_ok (b := b) (cyc := wantM c1) hc hr5 (by unfold few; omega) hi5.dp hi5.p h5.le
    obtain ⟨t, t1, t2, t3, t4, t5, t6, t7⟩ := ranA_cyc hc hi5 h5 (cyc := wantM c1)
    obtain ⟨l1, l2⟩ := ranA_left hc hi5 h5 (cyc := wantM c1)
    have hro := ranA_room hc hi5 h5 (cyc := wantM c1)
    have hrr := (ranR_min (c := c1) (cyc := wantM c1) (by omega) (by omega)).2
    obtain ⟨m, hm⟩ : ∃ m, m = ranR c1 (wantM c1) := ⟨_, rfl⟩
    obtain ⟨c2, hc2⟩ : ∃ c2, c2 = ranA C c1 (wantM c1) := ⟨_, rfl⟩
    rw [← hm, ← hc2] at hran
    rw [← hm] at l1 hrr
    rw [← hm, ← hc2] at l2 hro
    rw [← hc2] at t5 t6 t7
    have hlt2 := fun w gs (h : Rel C c2 w gs) => cleft_ok (b := b) hc h
    have hl20 := (left_lef t5.sl).1
    have w1 : IntKind.i64.wrap (sm + m) = sm + m := wrapId (by omega) (by omega)
    have w2 : IntKind.i64.wrap (leftM c1 - m) = leftM c1 - m := wrapId (by omega) (by omega)
    clear t1 t2 t3 t4 hm hc2 hi5 h5
    have hX := And.intro @pl4.eq_def (And.intro hw2 (And.intro @w1 @w2)); repeat' (first | rintro _ _ ⟨rfl, rfl⟩ | rintro _ _ ⟨w7, gs7, hr7, rfl, rfl⟩ | (refine G.call 9 ?_; refine S.c ?_ (h := hwt)) | (refine G.call 10 ?_; first | refine S.c ?_ (h := hlt) | refine S.c ?_ (h := hlt2 _ _ hr7)) | (refine G.call 11 ?_; refine S.c ?_ (h := hran)) | refine S.x ?_ | fail)
    all_goals exact S.R ((n + 1, sm + m, c2, w7, gs7) : Nat × Int × CM × CW × List TaskG)
   ·have hw0 : wantM c1 = 0 := by have := want_in hi5 h5; omega
    rw [hw0] at hwt
    have hn4 : n ≤ 400 := by omega
    have hd := dr_inv (o := (ix wins.d (k : Int)).out) hc hi5 h5
    have hr9 : Rel C (drM c1 (ix wins.d (k : Int)).out) w5 gs5 := rel_dr hr5
    have hed : (drM c1 (ix wins.d (k : Int)).out).evs = c1.evs := by rw [drM.eq_def]
    have he9 : (drM c1 (ix wins.d (k : Int)).out).evs.length ≤ (k + 1) * 60000 := by rw [hed]; omega
    obtain ⟨hd1, hd2⟩ := hd
    clear hw0 hwp
    have hX := And.intro @pl4.eq_def hw; repeat' (first | rintro _ _ ⟨rfl, rfl⟩ | rintro _ _ ⟨ds, dm, hdm, rfl, rfl⟩ | (refine G.call 9 ?_; refine S.c ?_ (h := hwt)) | (refine G.call 24 ?_; refine S.c ?_ (h := xdrain_ok)) | refine S.x ?_ | (refine G.call 13 ?_; refine S.c ?_ (h := cports_ok)) | intro hb | fail)
    all_goals
     have hX := @drM.eq_def
     exact S.R ((k + 1, drM c1 (ix wins.d (k : Int)).out, w5, gs5, cq) : Nat × CM × CW × List TaskG × CM)
  ·have hX := @pl4.eq_def; repeat' (first | refine S.x ?_ | refine S.y ?_ ?_ | intro hb | fail)
   all_goals exact S.L
 ·clear hst
  (refine Tr.enter (rs := [.tmp 2]) mixed fn4 rfl (by simp +arith [Tryz.ntmps4]) fun u => ?_; simp only [cd4, Tryz.f4])
  have hX := @pl4.eq_def; repeat' (first | rintro _ _ ⟨rfl, rfl⟩ | rintro _ _ ⟨bm, hbm, rfl, rfl⟩ | (refine G.call 18 ?_; refine S.c ?_ (h := hmay)) | refine S.x ?_ | refine S.y ?_ ?_ | (refine G.call 17 ?_; refine S.c ?_ (h := works24_ok)) | intro hb | fail)
  all_goals first
   | exact absurd (hbm (by assumption)) hL
   | exact S.L
end
end Go.Proofs.YtacmaamllpiloaaGreat
