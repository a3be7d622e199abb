import Derived.Test.YtacmaamllpiloaaGreatZ42
namespace Go.Proofs.YtacmaamllpiloaaGreat
open Go Go.Wk
set_option maxHeartbeats 3200000
set_option maxRecDepth 100000
section
variable {C : CC} {c c' : CM} {w : RW} {k : Int}
theorem rr_of (h : Rrel C c w) (ho : okM C c') (hd : c'.data = c.data) (hs : c'.slk.isSome = c.slk.isSome) : Rrel C c' w := ⟨ho, h.hp, h.hd.trans hd.symm, h.hs.trans hs.symm⟩
theorem rr_w {w' : RW} (h : Rrel C c w) (hp : w'.px = w.px) (hd : w'.dx = w.dx) (hs : w'.slk = w.slk) : Rrel C c w' := ⟨h.ok, by rw [hp]; exact h.hp, by rw [hd]; exact h.hd, by rw [hs]; exact h.hs⟩
theorem rr_plen (h : Rrel C c w) : w.px.length = C.progs.length := by rw [← h.hp, List.length_map]
theorem rr_prog (h : Rrel C c w) (hk : inR C.progs k) : (ix w.px k).d = ix C.progs k := by
 have hg : inR w.px k := by unfold inR at *; rw [rr_plen h]; exact hk
 rw [← h.hp, ix_map (f := SL.d) hg.1 hg.2]
end
attribute [local irreducible] BrK GenK EGenK EUnitK CallK FnK CallV GuardO GuardC CondW opX opK opKc chkR eqR seqK blkK endL WL WD W LoopW BinK Tr drewK resL PickK NotK NilK ExtrK getK Instr.storeAt Instr.loadAt Instr.fieldAt Instr.indexAt Instr.lookup Instr.mapUpdate Instr.box Instr.alloc Instr.build Instr.buildSlice Instr.makeSlice Instr.makeMap Instr.sliceAt Instr.field Instr.index Instr.makeInterface Instr.typeAssert Builtin.len_ Builtin.append_ Builtin.cap_ Builtin.min_ Builtin.max_ Builtin.copy_ Builtin.clear_ convert binOp mp blk rob sl sep ex fact old
attribute [local irreducible] rmemX rportX robjX rslkO refA
section
variable {r : Nat} {C : CC} {c : CM} {w : RW} {k i win : Int}
theorem rto_ok (hc : okC C) (hr : Rrel C c w) (hk : inR C.progs k) (h0 : 0 ≤ i) (h1 : i ≤ (ix C.progs k).length) : Trip Tryz.prog 85 [ptr r, .int .i64 k, .int .i64 i].toArray (rcellL r C c w)
  fun v l' => ∃ w2, Rrel C (toM C c k i) w2 ∧ v = .tuple #[] ∧ l' = rcellL r C (toM C c k i) w2 := by
 intro F K hK
 simp only [List.cons_append, List.nil_append] at hK ⊢
 have h8 := hc.n8
 have hpl := prog_len hc hk
 have hpx := rr_plen hr
 have hpk := rr_prog hr hk
 have hpn : (ix w.px k).d.length = (ix C.progs k).length := by rw [hpk]
 have hk1 : inR c.pos k := by unfold inR at *; rw [hr.ok.pos]; exact hk
 have hk2 : inR c.rest k := by unfold inR at *; rw [hr.ok.rest]; exact hk
 have hl1 : c.pos.length ≤ 1000000 := by rw [hr.ok.pos]; omega
 have hl2 : c.rest.length ≤ 1000000 := by rw [hr.ok.rest]; omega
 have hrel : Rrel C (toM C c k i) w := rr_of hr (okM_to hc hr.ok hk h0 h1) rfl rfl
 obtain ⟨g0, g1⟩ := hk
 obtain ⟨j, hj⟩ : ∃ j, j = atM (ix C.progs k) i := ⟨_, rfl⟩
 obtain ⟨n, hn⟩ : ∃ n, n = clampC (ix (ix C.progs k) j).cycles := ⟨_, rfl⟩
 have hj2 : 0 ≤ j ∧ j < (ix C.progs k).length := by
  have := atM_in h0 h1 hpl.1
  rw [← hj] at this
  exact ⟨this.1, this.2.1⟩
 obtain ⟨j0, j1⟩ := hj2
 have htm : toM C c k i = { c with pos := c.pos.set k.toNat j, rest := c.rest.set k.toNat n } := by rw [hn, hj]; rfl
 rw [htm] at hK hrel
 have hii : (if ((ix C.progs k).length : Int) ≤ i then 0 else i) = j := by rw [hj]; rfl
 have hci : (if (ix (ix C.progs k) j).cycles < 1 then 1 else if 1073741824 < (ix (ix C.progs k) j).cycles then 1073741824 else (ix (ix C.progs k) j).cycles) = n := by rw [hn]; rfl
 have hi1 := fun s => rints_ok (s := s) (n := j) (xs := c.pos) hk1 hl1
 have hi2 := fun s => rints_ok (s := s) (n := n) (xs := c.rest) hk2 hl2
 clear hj hn htm h1
 generalize ix C.progs k = P at *
 subst hpk
 (refine Tr.enter (rs := []) mixed fn85 rfl (by simp +arith [Tryz.ntmps85]) fun u => ?_; simp only [cd85, Tryz.f85])
 by_cases hil : ((ix w.px k).d.length : Int) ≤ i
 ·rw [if_pos hil] at hii
  subst hii
  by_cases hc1 : (ix (ix w.px k).d 0).cycles < 1
  ·rw [if_pos hc1] at hci
   subst hci
   have hX := @pl85.eq_def; repeat' (first | rintro _ _ ⟨_, rfl, rfl⟩ | (refine G.call 84 ?_; first | refine S.c ?_ (h := hi1 (s := w.pa)) | refine S.c ?_ (h := hi2 (s := w.re))) | refine S.x ?_ | intro hb | fail)
   all_goals
    rename_i s1 s2
    exact Tr.fin hK ⟨{ w with pa := s1, re := s2 }, rr_w hrel rfl rfl rfl, rfl, rfl⟩ S.E
  ·rw [if_neg hc1] at hci
   by_cases hc2 : 1073741824 < (ix (ix w.px k).d 0).cycles
   ·rw [if_pos hc2] at hci
    subst hci
    have hX := @pl85.eq_def; repeat' (first | rintro _ _ ⟨_, rfl, rfl⟩ | (refine G.call 84 ?_; first | refine S.c ?_ (h := hi1 (s := w.pa)) | refine S.c ?_ (h := hi2 (s := w.re))) | refine S.x ?_ | intro hb | fail)
    all_goals
     rename_i s1 s2
     exact Tr.fin hK ⟨{ w with pa := s1, re := s2 }, rr_w hrel rfl rfl rfl, rfl, rfl⟩ S.E
   ·rw [if_neg hc2] at hci
    subst hci
    have hX := @pl85.eq_def; repeat' (first | rintro _ _ ⟨_, rfl, rfl⟩ | (refine G.call 84 ?_; first | refine S.c ?_ (h := hi1 (s := w.pa)) | refine S.c ?_ (h := hi2 (s := w.re))) | refine S.x ?_ | intro hb | fail)
    all_goals
     rename_i s1 s2
     exact Tr.fin hK ⟨{ w with pa := s1, re := s2 }, rr_w hrel rfl rfl rfl, rfl, rfl⟩ S.E
 ·rw [if_neg hil] at hii
  subst hii
  by_cases hc1 : (ix (ix w.px k).d i).cycles < 1
  ·rw [if_pos hc1] at hci
   subst hci
   have hX := @pl85.eq_def; repeat' (first | rintro _ _ ⟨_, rfl, rfl⟩ | (refine G.call 84 ?_; first | refine S.c ?_ (h := hi1 (s := w.pa)) | refine S.c ?_ (h := hi2 (s := w.re))) | refine S.x ?_ | intro hb | fail)
   all_goals
    rename_i s1 s2
    exact Tr.fin hK ⟨{ w with pa := s1, re := s2 }, rr_w hrel rfl rfl rfl, rfl, rfl⟩ S.E
  ·rw [if_neg hc1] at hci
   by_cases hc2 : 1073741824 < (ix (ix w.px k).d i).cycles
   ·rw [if_pos hc2] at hci
    subst hci
    have hX := @pl85.eq_def; repeat' (first | rintro _ _ ⟨_, rfl, rfl⟩ | (refine G.call 84 ?_; first | refine S.c ?_ (h := hi1 (s := w.pa)) | refine S.c ?_ (h := hi2 (s := w.re))) | refine S.x ?_ | intro hb | fail)
    all_goals
     rename_i s1 s2
     exact Tr.fin hK ⟨{ w with pa := s1, re := s2 }, rr_w hrel rfl rfl rfl, rfl, rfl⟩ S.E
   ·rw [if_neg hc2] at hci
    subst hci
    have hX := @pl85.eq_def; repeat' (first | rintro _ _ ⟨_, rfl, rfl⟩ | (refine G.call 84 ?_; first | refine S.c ?_ (h := hi1 (s := w.pa)) | refine S.c ?_ (h := hi2 (s := w.re))) | refine S.x ?_ | intro hb | fail)
    all_goals
     rename_i s1 s2
     exact Tr.fin hK ⟨{ w with pa := s1, re := s2 }, rr_w hrel rfl rfl rfl, rfl, rfl⟩ S.E
end
end Go.Proofs.YtacmaamllpiloaaGreat
namespace Go.Proofs.YtacmaamllpiloaaGreat
open Go Go.Wk
set_option maxHeartbeats 3200000
set_option maxRecDepth 100000
section
variable {C : CC} {c : CM} {w : RW} {k win : Int} {t : Tb} {m : SlM}
theorem rr_tl (hc : okC C) (h : Rrel C c w) : c.tb.d.length ≤ 1000000 := by rw [h.ok.tb]; have := hc.n8; omega
theorem startM_data : (startM C c k win).data = c.data ∧ (startM C c k win).slk = c.slk := by
 unfold startM
 simp only
 split <;> exact ⟨rfl, rfl⟩
end
attribute [local irreducible] BrK GenK EGenK EUnitK CallK FnK CallV GuardO GuardC CondW opX opK opKc chkR eqR seqK blkK endL WL WD W LoopW BinK Tr drewK resL PickK NotK NilK ExtrK getK Instr.storeAt Instr.loadAt Instr.fieldAt Instr.indexAt Instr.lookup Instr.mapUpdate Instr.box Instr.alloc Instr.build Instr.buildSlice Instr.makeSlice Instr.makeMap Instr.sliceAt Instr.field Instr.index Instr.makeInterface Instr.typeAssert Builtin.len_ Builtin.append_ Builtin.cap_ Builtin.min_ Builtin.max_ Builtin.copy_ Builtin.clear_ convert binOp mp blk rob sl sep ex fact old
attribute [local irreducible] rmemX rportX robjX rslkX refA
section
variable {r : Nat} {C : CC} {c : CM} {w : RW} {k i win : Int} {m : SlM}
theorem rstart24_ok (hc : okC C) (hr : Rrel C c w) (hk : inR C.progs k) : Trip Tryz.prog 64 [ptr r, .int .i64 k, .int .i64 win].toArray (rcellL r C c w)
  fun v l' => ∃ w2, Rrel C (startM C c k win) w2 ∧ v = .tuple #[] ∧ l' = rcellL r C (startM C c k win) w2 := by
 intro F K hK
 simp only [List.cons_append, List.nil_append] at hK ⊢
 have hto := rto_ok (r := r) hc hr hk (i := 0) (by decide) (by omega)
 have hrs := fun w2 (h : Rrel C (toM C c k 0) w2) => rr_of (c' := startM C c k win) h ((rch_start (win := win) hk).ok hc hr.ok) startM_data.1 (by rw [startM_data.2]; rfl)
 have hkd : inR c.done k := by unfold inR at *; rw [hr.ok.done]; exact hk
 obtain ⟨g0, g1⟩ := hkd
 obtain ⟨c1, hc1⟩ : ∃ c1, c1 = toM C c k 0 := ⟨_, rfl⟩
 have hdn : c1.done = c.done := by rw [hc1]; rfl
 have htl : c1.tb.d.length ≤ 1000000 := by rw [hc1]; exact (rr_tl hc hr : c.tb.d.length ≤ 1000000)
 have hst : startM C c k win = if ix c.done k = true then parkM { c1 with tb := c1.tb.start k win } k else { c1 with tb := c1.tb.start k win } := by rw [hc1]; rfl
 have htl2 : (c1.tb.start k win).d.length ≤ 1000000 := by rw [start_len]; exact htl
 rw [← hc1] at hto hrs
 clear hc1
 (refine Tr.enter (rs := []) mixed fn64 rfl (by simp +arith [Tryz.ntmps64]) fun u => ?_; simp only [cd64, Tryz.f64])
 cases hd : ix c.done k with
 | true =>
  rw [hd, if_pos rfl] at hst
  rw [hst] at hK hrs
  rw [← hdn] at hd g1
  have hX := And.intro @pl64.eq_def hd; repeat' (first | rintro _ _ ⟨rfl, rfl⟩ | rintro _ _ ⟨w2, hr2, rfl, rfl⟩ | (refine G.call 85 ?_; refine S.c ?_ (h := hto)) | refine S.x ?_ | (refine G.call 120 ?_; first | refine S.c ?_ (h := rstart_ok ?_) | fail) | (refine G.call 121 ?_; first | refine S.c ?_ (h := rpark_ok ?_) | fail) | (refine G.prop ?_; assumption) | intro hb | fail)
  all_goals
   refine Tr.fin hK ⟨w2, hrs _ hr2, rfl, rfl⟩ ?_
   simp only [List.cons_append, List.nil_append]
   clear hdn hrs
   have hX := @parkM.eq_def
   exact S.E
 | false =>
  rw [hd, if_neg (by decide)] at hst
  rw [hst] at hK hrs
  rw [← hdn] at hd g1
  have hX := And.intro @pl64.eq_def hd; repeat' (first | rintro _ _ ⟨rfl, rfl⟩ | rintro _ _ ⟨w2, hr2, rfl, rfl⟩ | (refine G.call 85 ?_; refine S.c ?_ (h := hto)) | refine S.x ?_ | (refine G.call 120 ?_; first | refine S.c ?_ (h := rstart_ok ?_) | fail) | (refine G.prop ?_; assumption) | intro hb | fail)
  all_goals
   refine Tr.fin hK ⟨w2, hrs _ hr2, rfl, rfl⟩ ?_
   simp only [List.cons_append, List.nil_append]
   clear hdn hrs
   exact S.E
end
end Go.Proofs.YtacmaamllpiloaaGreat
namespace Go.Proofs.YtacmaamllpiloaaGreat
open Go Go.Wk
set_option maxHeartbeats 3200000
set_option maxRecDepth 100000
def okS (C : CC) (c : CM) : Prop := ∀ m, c.slk = some m → m.ms.length = C.progs.length
section
variable {C : CC} {c c' : CM} {w : RW} {k call p : Int} {m : SlM} {n : Nat}
theorem setM_len {ms : List (Int × Bool)} {b : Bool} : (setM ms k b).length = ms.length := by
 unfold setM
 split
 ·exact List.length_set
 ·rfl
theorem Rch.oS (h : Rch C n c c') (hs : okS C c) : okS C c' := by
 induction h with
 | trans _ _ h1 h2 => exact h2 (h1 hs)
 | le _ _ h1 => exact h1 hs
 | rest c k hk =>
  intro m hm
  have hm' : c.slk.map (fun m => finM m k) = some m := hm
  rcases Option.eq_none_or_eq_some c.slk with h | ⟨m0, h⟩
  ·rw [h] at hm'; cases hm'
  ·rw [h] at hm'
   have := hs m0 h
   cases hm'
   show (setM m0.ms k true).length = _
   rw [setM_len]; exact this
 | _ => exact hs
end
attribute [local irreducible] BrK GenK EGenK EUnitK CallK FnK CallV GuardO GuardC CondW opX opK opKc chkR eqR seqK blkK endL WL WD W LoopW BinK Tr drewK resL PickK NotK NilK ExtrK getK Instr.storeAt Instr.loadAt Instr.fieldAt Instr.indexAt Instr.lookup Instr.mapUpdate Instr.box Instr.alloc Instr.build Instr.buildSlice Instr.makeSlice Instr.makeMap Instr.sliceAt Instr.field Instr.index Instr.makeInterface Instr.typeAssert Builtin.len_ Builtin.append_ Builtin.cap_ Builtin.min_ Builtin.max_ Builtin.copy_ Builtin.clear_ convert binOp mp blk rob sl sep ex fact old
attribute [local irreducible] rmemX rportX robjX rslkX refA
end Go.Proofs.YtacmaamllpiloaaGreat
namespace Go.Proofs.YtacmaamllpiloaaGreat
open Go Go.Wk
set_option maxHeartbeats 3200000
set_option maxRecDepth 100000
attribute [local irreducible] BrK GenK EGenK EUnitK CallK FnK CallV GuardO GuardC CondW opX opK opKc chkR eqR seqK blkK endL WL WD W LoopW BinK Tr drewK resL PickK NotK NilK ExtrK getK Instr.storeAt Instr.loadAt Instr.fieldAt Instr.indexAt Instr.lookup Instr.mapUpdate Instr.box Instr.alloc Instr.build Instr.buildSlice Instr.makeSlice Instr.makeMap Instr.sliceAt Instr.field Instr.index Instr.makeInterface Instr.typeAssert Builtin.len_ Builtin.append_ Builtin.cap_ Builtin.min_ Builtin.max_ Builtin.copy_ Builtin.clear_ convert binOp mp blk rob sl sep ex fact old
attribute [local irreducible] rmemX rportX robjX rslkX refA
section
variable {r : Nat} {C : CC} {c : CM} {w : RW} {p : Int}
theorem who_cases (h0 : ¬ whoM c < 0) : ∃ m, c.slk = some m ∧ c.mode = 3 ∧ whoM c = pickM c := by
 unfold whoM at h0 ⊢
 split at h0
 ·rename_i m hm
  split at h0
  ·rename_i h3
   exact ⟨m, hm, h3, by rw [if_pos h3]⟩
  ·omega
 ·omega
theorem want_zero (h0 : whoM c < 0) : wantM c = 0 := by
 unfold wantM
 unfold whoM at h0
 split
 ·rename_i m hm
  rw [hm] at h0
  simp only at h0
  split
  ·rename_i h3
   rw [if_pos h3] at h0
   rw [if_pos h0]
  ·rfl
 ·rfl
end
end Go.Proofs.YtacmaamllpiloaaGreat
namespace Go.Proofs.YtacmaamllpiloaaGreat
open Go Go.Wk
set_option maxHeartbeats 3200000
set_option maxRecDepth 100000
section
variable {C : CC} {c : CM} {w : RW} {k : Int}
theorem okM_win (h : okM C c) : okM C (winM C c) := ⟨(freeTo_len _ _).trans h.tb, h.pos, h.rest, h.addr, h.data, by simp [winM], h.pi, h.ad, h.dl⟩
theorem okS_win (hc : okC C) : okS C (winM C c) := fun m hm => by
 have hm' : some (newSl C.conf) = some m := hm
 cases hm'
 show (C.conf.procs.d.map newS).length = _
 rw [List.length_map, hc.np]
end
theorem Tr.refO {a : Nat} {t : Tb} {l F : List Asrt} {X : WP} (ht : TakeA l (refA a t) F) (h : ∀ s : SV, Tr (refB a s t.turns :: refS s t.d :: F) X) : Tr l X :=
 Tr.imp ht (Tr.ex_iff.2 fun s => Tr.sep_iff.2 (h s))
theorem Tr.refF {a : Nat} {t : Tb} {s : SV} {l l1 l2 : List Asrt} {X : WP} (h1 : TakeA l (refB a s t.turns) l1) (h2 : TakeA l1 (refS s t.d) l2) (h : Tr (refA a t :: l2) X) : Tr l X :=
 Tr.imp (Imp.trans h1 (Imp.trans (Imp.cons h2) (Imp.trans Imp.sepI (Imp.exI (f := fun s : SV => sep (refB a s t.turns) (refS s t.d)) s)))) h
attribute [local irreducible] BrK GenK EGenK EUnitK CallK FnK CallV GuardO GuardC CondW opX opK opKc chkR eqR seqK blkK endL WL WD W LoopW BinK Tr drewK resL PickK NotK NilK ExtrK getK Instr.storeAt Instr.loadAt Instr.fieldAt Instr.indexAt Instr.lookup Instr.mapUpdate Instr.box Instr.alloc Instr.build Instr.buildSlice Instr.makeSlice Instr.makeMap Instr.sliceAt Instr.field Instr.index Instr.makeInterface Instr.typeAssert Builtin.len_ Builtin.append_ Builtin.cap_ Builtin.min_ Builtin.max_ Builtin.copy_ Builtin.clear_ convert binOp mp blk rob sl sep ex fact old
attribute [local irreducible] rmemX rportX robjX rslkX refA
attribute [local irreducible] sendTo recvTo portsTo relsM wakesM settleTo begin2
end Go.Proofs.YtacmaamllpiloaaGreat
namespace Go.Proofs.YtacmaamllpiloaaGreat
open Go Go.Wk
set_option maxHeartbeats 3200000
set_option maxRecDepth 100000
def cycV (c : CM) : Bool := match c.slk with
 | some m => decide (¬ whoM c < 0) && decide (spM m.room m.ms (whoM c) 1 = 1)
 | none => false
def cycM (C : CC) (c : CM) : CM := match c.slk with
 | some m => if whoM c < 0 then c else if spM m.room m.ms (whoM c) 1 = 1 then ranM C c (whoM c) 1 else { c with slk := some (spendM m (whoM c) 1) }
 | none => c
section
variable {C : CC} {c : CM} {w : RW} {k n : Int} {m : SlM}
theorem cyc_no (h : whoM c < 0) : cycM C c = c ∧ cycV c = false := by
 unfold cycM cycV
 split
 ·rename_i m hm
  rw [if_pos h, decide_eq_false (by omega)]
  exact ⟨rfl, rfl⟩
 ·rename_i hm
  exact ⟨rfl, rfl⟩
theorem cyc_out (h : ¬ whoM c < 0) (hm : c.slk = some m) (hs : ¬ spM m.room m.ms (whoM c) 1 = 1) : cycM C c = { c with slk := some (spendM m (whoM c) 1) } ∧ cycV c = false := by
 unfold cycM cycV
 rw [hm]
 simp only
 rw [if_neg h, if_neg hs, decide_eq_false hs, Bool.and_false]
 exact ⟨rfl, rfl⟩
theorem cyc_yes (h : ¬ whoM c < 0) (hm : c.slk = some m) (hs : spM m.room m.ms (whoM c) 1 = 1) : cycM C c = ranM C c (whoM c) 1 ∧ cycV c = true := by
 unfold cycM cycV
 rw [hm]
 simp only
 rw [if_neg h, if_pos hs, decide_eq_true hs, decide_eq_true h]
 exact ⟨rfl, rfl⟩
theorem okM_spent (h : okM C c) : okM C (spentM c m k n) := ⟨h.tb, h.pos, by simpa [spentM] using h.rest, h.addr, h.data, h.done, h.pi, h.ad, h.dl⟩
theorem spMs_len : (spMs m.room m.ms k n).length = m.ms.length := by
 unfold spMs
 split
 ·split
  ·rfl
  ·exact List.length_set
 ·rfl
theorem okS_spent (hS : okS C c) (hm : c.slk = some m) : okS C (spentM c m k n) := fun m' hm' => by
 have : some (spendM m k n) = some m' := hm'
 cases this
 show (spMs m.room m.ms k n).length = _
 rw [spMs_len]; exact hS m hm
end
attribute [local irreducible] BrK GenK EGenK EUnitK CallK FnK CallV GuardO GuardC CondW opX opK opKc chkR eqR seqK blkK endL WL WD W LoopW BinK Tr drewK resL PickK NotK NilK ExtrK getK Instr.storeAt Instr.loadAt Instr.fieldAt Instr.indexAt Instr.lookup Instr.mapUpdate Instr.box Instr.alloc Instr.build Instr.buildSlice Instr.makeSlice Instr.makeMap Instr.sliceAt Instr.field Instr.index Instr.makeInterface Instr.typeAssert Builtin.len_ Builtin.append_ Builtin.cap_ Builtin.min_ Builtin.max_ Builtin.copy_ Builtin.clear_ convert binOp mp blk rob sl sep ex fact old
attribute [local irreducible] rmemX rportX robjX rslkX refA
attribute [local irreducible] sendTo recvTo portsTo relsM wakesM settleTo begin2
end Go.Proofs.YtacmaamllpiloaaGreat
