import Derived.Test.YtacmaamllpiloaaGreatZ31
namespace Go.Proofs.YtacmaamllpiloaaGreat
open Go Go.Wk
section
variable {C : CC} {c : CM} {k call code value win kind p w st : Int} {cold : Bool} {b : List UInt8} {s : StepC}
theorem first_in {q : One → Bool} (ho : okM C c) (h : ¬ c.tb.best q < 0) : inR C.progs (c.tb.best q) := by
 have h1 := best_in (t := c.tb) (q := q) (by omega)
 unfold inR at *
 rw [← ho.tb]; exact h1
theorem rch_set : Rch C 0 c (setTM c k st) := .tb c _ set_more
theorem rch_start (hk : inR C.progs k) : Rch C 0 c (startM C c k win) := by
 have h1 : Rch C 0 c { toM C c k 0 with tb := (toM C c k 0).tb.start k win } := .trans (.to c k 0 hk (by decide) (by omega)) (.tb _ _ start_more)
 unfold startM
 simp only
 split
 ·exact .trans h1 (.tb _ _ park_more)
 ·exact h1
theorem rch_stopTo : ∀ n, Rch C 0 c (stopTo c n)
 | 0 => .refl c
 | n + 1 => .trans (rch_stopTo n) rch_set
theorem rch_startTo : ∀ n, n ≤ C.progs.length → Rch C 0 c (startTo C c win n)
 | 0, _ => .refl c
 | n + 1, h => .trans (rch_startTo n (by omega)) (rch_start ⟨by omega, by omega⟩)
theorem rch_idle : Rch C 0 c (idleM C c) := .trans (.mode c) (rch_stopTo _)
theorem clear_c {ps : List AP} : (clearA ps).map AP.c = ps.map AP.c := by
 unfold clearA
 simp [Function.comp_def]
theorem rch_clear : Rch C 0 c (clearM C c cold) := by
 have h1 : Rch C 0 c { c with mem := if cold = true then c.mem.map RegM.clr else c.mem } := .mem c _
 have h2 := h1.one (.obs _ (newO C.conf))
 exact h2.one (.pts _ (clearA c.pts) clear_c)
theorem rch_anew : Rch C 0 c (anewM C c cold) := .trans (.trans rch_clear (rch_stopTo _)) (rch_startTo _ (Nat.le_refl _))
theorem rch_fault (hk : inR C.progs k) : Rch C 1 c (faultM C c k kind) := by
 have h1 : Rch C 1 c (noteM C c k (-1 - kind) (actA C.conf.acts.d kind) 0) := .note c _ _ _ _
 unfold faultM
 simp only
 split
 ·exact .trans h1 rch_set
 ·split
  ·exact .trans h1 (.trans rch_set (rch_start hk))
  ·split
   ·exact .trans h1 rch_anew
   ·split
    ·exact .trans h1 rch_idle
    ·exact h1
theorem rch_end : Rch C 1 c (endM C c k call code value) := .trans (.note c _ _ _ _) rch_set
theorem rch_gets : Rch C 1 c (getsM C c k call b) := .trans (.mem c _) rch_end
theorem canA_in {ps : List AP} {q i : Bool} (h : canA ps p q i = true) : inR ps p := by
 unfold canA at h
 split at h
 ·assumption
 ·cases h
theorem set_c {ps : List AP} {x : AP} (hr : inR ps p) (h : x.c = (ix ps p).c) : (ps.set p.toNat x).map AP.c = ps.map AP.c := pt_set hr.1 hr.2 h
theorem into_c {ps : List AP} {q : Bool} : (intoA ps p q b).map AP.c = ps.map AP.c := by
 unfold intoA
 split
 ·rename_i h
  have hr := canA_in h
  split
  ·split
   ·split
    ·rfl
    ·exact set_c hr rfl
   ·exact set_c hr rfl
  ·rfl
 ·rfl
theorem out_c {ps : List AP} {q : Bool} : (outA ps p q).map AP.c = ps.map AP.c := by
 unfold outA
 split
 ·rename_i h
  have hr := canA_in h
  split
  ·split
   ·rfl
   ·exact set_c hr rfl
  ·rfl
 ·rfl
theorem rch_into {q : Bool} : Rch C 0 c { c with pts := intoA c.pts p q b } := .pts c _ into_c
theorem rch_out {q : Bool} : Rch C 0 c { c with pts := outA c.pts p q } := .pts c _ out_c
theorem rch_send : ∀ n c, Rch C n c (sendTo C p n c)
 | 0, c => .refl c
 | n + 1, c => by
  unfold sendTo
  simp only
  split
  ·exact .le (.refl c) (by omega)
  ·split
   ·exact .le (.trans (.trans rch_into rch_end) (rch_send n _)) (by omega)
   ·exact .le rch_into (by omega)
theorem rch_recv : ∀ n c, Rch C n c (recvTo C p n c)
 | 0, c => .refl c
 | n + 1, c => by
  unfold recvTo
  simp only
  split
  ·exact .le (.refl c) (by omega)
  ·split
   ·exact .le (.trans (.trans rch_out rch_gets) (rch_recv n _)) (by omega)
   ·exact .le rch_out (by omega)
theorem rch_ports : ∀ n, Rch C (40 * n) c (portsTo C c n)
 | 0 => .refl c
 | n + 1 => .le (.trans (.trans (rch_ports n) (rch_send 20 _)) (rch_recv 20 _)) (by omega)
theorem rch_settle (hc : okC C) : ∀ n c, okM C c → Rch C n c (settleTo C n c)
 | 0, c, _ => .refl c
 | n + 1, c, ho => by
  unfold settleTo
  split
  ·split
   ·exact .le (.refl c) (by omega)
   ·rename_i h
    have hk := first_in ho h
    split
    ·exact .le (.refl c) (by omega)
    ·have h1 : Rch C 1 c (faultM C (restM c (pickM c)) (pickM c) 0) := .le (.trans (.rest c _ hk) (rch_fault hk)) (by omega)
     exact .le (.trans h1 (rch_settle hc n _ (h1.ok hc ho))) (by omega)
  ·exact .le (.refl c) (by omega)
theorem rch_rel {l : List Int} : ∀ n, Rch C n c (relN C c l n)
 | 0 => .refl c
 | n + 1 => .trans (rch_rel n) (.note _ _ _ _ _)
theorem rch_miss {l : List Int} : ∀ n, (∀ i : Nat, i < n → inR C.progs (ix l (i : Int))) → Rch C n c (missTo C c l n)
 | 0, _ => .refl c
 | n + 1, h => by
  have ih := rch_miss (l := l) n fun i hi => h i (by omega)
  unfold missTo
  split
  ·exact .trans ih (rch_fault (h n (by omega)))
  ·exact .le ih (by omega)
theorem rch_due {l : List Int} : ∀ n, Rch C n c (dueM C c l n)
 | 0 => .refl c
 | n + 1 => .trans (rch_due n) rch_end
theorem rch_flag : ∀ n c, Rch C n c (flagTo C w n c)
 | 0, c => .refl c
 | n + 1, c => by
  unfold flagTo
  split
  ·exact .le (.refl c) (by omega)
  ·exact .le (.trans rch_end (rch_flag n _)) (by omega)
theorem rch_slate : ∀ n c, Rch C n c (slateTo C w b n c)
 | 0, c => .refl c
 | n + 1, c => by
  unfold slateTo
  split
  ·exact .le (.refl c) (by omega)
  ·exact .le (.trans rch_gets (rch_slate n _)) (by omega)
theorem rch_wait (hk : inR C.progs k) (hs : s.ok) (hb : b.length ≤ 300) : Rch C 1 c (waitM C c k s b) := by
 unfold waitM
 split
 ·exact .note c _ _ _ _
 ·exact .le (.trans (.wait c k s.b b hk hs.2.1 hb) (.tb _ _ wait_more)) (by omega)
theorem rch_bad (hk : inR C.progs k) : Rch C 2 c (badM C c k s) := .trans (.note c _ _ _ _) (rch_fault hk)
theorem rch_from {size : Int} (hk : inR C.progs k) : Rch C 2 c (fromM C c k s size) := by
 unfold fromM
 split
 ·exact rch_bad hk
 ·exact .le (.note c _ _ _ _) (by omega)
theorem rch_got : Rch C 1 c (gotM C c k s b) := .trans (.mem c _) (.note _ _ _ _ _)
theorem rch_sleep (hk : inR C.progs k) : Rch C 1 c (sleepM C c k s) := by
 unfold sleepM
 split
 ·split
  ·exact .le (.trans rch_set (.rest _ k hk)) (by omega)
  ·exact .note c _ _ _ _
 ·split
  ·split
   ·exact .note c _ _ _ _
   ·exact .trans (.note c _ _ _ _) rch_set
  ·split
   ·exact .le (.trans (.tb c _ wait_more) (.rest _ k hk)) (by omega)
   ·exact .note c _ _ _ _
theorem rch_others : Rch C 1 c (othersM C c k s) := by
 unfold othersM
 split
 ·exact .note c _ _ _ _
 ·rename_i hn
  have hk : inR C.progs s.a := by
   unfold inR
   by_cases h : 0 ≤ s.a ∧ s.a < C.progs.length
   ·exact h
   ·exact absurd (.inl h) hn
  split
  ·split
   ·exact .note c _ _ _ _
   ·exact .le (.trans (.tb c _ rank_more) (.note _ _ _ _ _)) (by omega)
  ·split
   ·exact .le (.trans rch_set (.note _ _ _ _ _)) (by omega)
   ·split
    ·exact .le (.trans (rch_start hk) (.note _ _ _ _ _)) (by omega)
    ·split
     ·exact .le (.trans rch_set (.note _ _ _ _ _)) (by omega)
     ·exact .note c _ _ _ _
theorem from_len {size : Int} (h : fromB c s size = true) (hz : size ≤ 300) : (ldB c.mem s.b s.c).length ≤ 300 := by
 unfold fromB at h
 simp only [Bool.and_eq_true, decide_eq_true_eq] at h
 have : (ldB c.mem s.b s.c).length ≤ s.c.toNat := by
  unfold ldB
  split
  ·rw [List.length_drop, List.length_take]; omega
  ·exact Nat.zero_le _
 omega
theorem rch_port (hk : inR C.progs k) (hs : s.ok) (hz : sizePA c.pts s.a ≤ 300) : Rch C 2 c (portM2 C c k s) := by
 unfold portM2
 simp only
 split
 ·split
  ·split
   ·split
    ·exact .le (.trans rch_out rch_got) (by omega)
    ·split
     ·exact .le (.trans rch_out (rch_wait hk hs (Nat.zero_le _))) (by omega)
     ·exact .le (.trans rch_out (.note _ _ _ _ _)) (by omega)
   ·exact rch_bad hk
  ·split
   ·rename_i hf
    split
    ·split
     ·exact .le (.trans rch_into (.note _ _ _ _ _)) (by omega)
     ·exact .le (.trans rch_into (rch_wait hk hs (from_len hf hz))) (by omega)
    ·exact .le (.trans rch_into (.note _ _ _ _ _)) (by omega)
   ·exact rch_from hk
 ·exact .le (.note c _ _ _ _) (by omega)
theorem rch_signal (hk : inR C.progs k) (hs : s.ok) : Rch C 22 c (signalM C c k s) := by
 unfold signalM
 simp only
 split
 ·split
  ·exact .le (.trans (.obs c _) (rch_wait hk hs (Nat.zero_le _))) (by omega)
  ·exact .le (.trans (.obs c _) (.note _ _ _ _ _)) (by omega)
 ·split
  ·split
   ·exact .le (.trans (.note c _ _ _ _) rch_end) (by omega)
   ·exact .le (.trans (.obs c _) (.note _ _ _ _ _)) (by omega)
  ·split
   ·exact .le (.trans (.trans (.obs c _) (.note _ _ _ _ _)) (rch_flag 20 _)) (by omega)
   ·split
    ·exact .le (.trans (.obs c _) (.note _ _ _ _ _)) (by omega)
    ·split
     ·exact .le (.note c _ _ _ _) (by omega)
     ·exact .le (rch_wait hk hs (Nat.zero_le _)) (by omega)
theorem rch_refill : Rch C 1 c (refillM C c p) := by
 unfold refillM
 split
 ·exact .le (.refl c) (by omega)
 ·simp only
  split
  ·exact .trans (.obs c _) rch_end
  ·exact .le (.obs c _) (by omega)
theorem rch_pool (_hc : okC C) (hk : inR C.progs k) (hs : s.ok) (hz : (ix C.conf.pools.d s.a).size ≤ 300) : Rch C 2 c (poolCM C c k s) := by
 unfold poolCM
 split
 ·simp only
  split
  ·split
   ·split
    ·exact .le (.trans (.trans (.obs c _) rch_got) rch_refill) (by omega)
    ·exact .le (.trans (.obs c _) (rch_wait hk hs (Nat.zero_le _))) (by omega)
   ·exact rch_bad hk
  ·split
   ·rename_i hf
    split
    ·exact .trans (.note c _ _ _ _) rch_gets
    ·split
     ·exact .le (.trans (.obs c _) (.note _ _ _ _ _)) (by omega)
     ·exact .le (.trans (.obs c _) (rch_wait hk hs (from_len hf hz))) (by omega)
   ·exact rch_from hk
 ·exact .le (.note c _ _ _ _) (by omega)
theorem rch_slateC (hk : inR C.progs k) (hs : s.ok) : Rch C 21 c (slateCM C c k s) := by
 unfold slateCM
 split
 ·simp only
  split
  ·exact .le (.trans (.obs c _) (.note _ _ _ _ _)) (by omega)
  ·split
   ·split
    ·split
     ·exact .le rch_got (by omega)
     ·exact .le (rch_wait hk hs (Nat.zero_le _)) (by omega)
    ·exact .le (rch_bad hk) (by omega)
   ·split
    ·exact .le (.trans (.trans (.obs c _) (.note _ _ _ _ _)) (rch_slate 20 _)) (by omega)
    ·exact .le (rch_from hk) (by omega)
 ·exact .le (.note c _ _ _ _) (by omega)
theorem rch_memory (hk : inR C.progs k) : Rch C 2 c (memoryM C c k s) := by
 unfold memoryM
 split
 ·split
  ·exact .le (.trans (.mem c _) (.note _ _ _ _ _)) (by omega)
  ·exact .le (.trans (.mem c _) (rch_bad hk)) (by omega)
 ·split
  ·exact .le (.note c _ _ _ _) (by omega)
  ·exact rch_bad hk
theorem rch_become : Rch C 1 c (becomeM C c k s) := by
 unfold becomeM
 split
 ·exact .trans (.note c _ _ _ _) rch_idle
 ·split
  ·exact .trans (.note c _ _ _ _) rch_anew
  ·split
   ·exact .note c _ _ _ _
   ·exact .note c _ _ _ _
end
end Go.Proofs.YtacmaamllpiloaaGreat
namespace Go.Proofs.YtacmaamllpiloaaGreat
open Go Go.Wk
section
variable {t : Tb} {k : Int} {o : One} {win : Int} {r : Rl}
theorem mk_noNew {n : Int} (hl : inR t.d k) (h : waitD o → waitD (t.at k)) : noNew t (Tb.mk (t.d.set k.toNat o) n) := fun j hj => by
 rw [at_set hl] at hj
 by_cases e : j = k
 ·rw [if_pos e] at hj; rw [e]; exact h hj
 ·rw [if_neg e] at hj; exact hj
theorem step_keeps {k : Nat} (hk : k < r.t.d.length) : noNew r.t (r.step win k).t ∧ moreP r.t (r.step win k).t := by
 have hl : inR r.t.d (k : Int) := ⟨by omega, by omega⟩
 have h1 : noNew r.t (Tb.mk (r.t.d.set (k : Int).toNat { r.t.at k with next := IntKind.i64.wrap (win + (r.t.at k).period) }) r.t.turns) := mk_noNew hl fun h => h
 have h2 : moreP r.t (Tb.mk (r.t.d.set (k : Int).toNat { r.t.at k with next := IntKind.i64.wrap (win + (r.t.at k).period) }) r.t.turns) := moreP_set hl fun h => h
 have hl2 : inR (Tb.mk (r.t.d.set (k : Int).toNat { r.t.at k with next := IntKind.i64.wrap (win + (r.t.at k).period) }) r.t.turns).d (k : Int) := by
  unfold inR at *; simpa using hl
 have ha : (Tb.mk (r.t.d.set (k : Int).toNat { r.t.at k with next := IntKind.i64.wrap (win + (r.t.at k).period) }) r.t.turns).at k = { r.t.at k with next := IntKind.i64.wrap (win + (r.t.at k).period) } := by
  rw [at_set hl, if_pos rfl]
 unfold Rl.step
 simp only
 split
 ·exact ⟨noNew_refl, moreP_refl⟩
 ·split
  ·exact ⟨noNew_trans h1 (put_noNew hl2 (by decide)).1, moreP_trans h2 (moreP_put hl2 fun h => by rw [ha] at h; exact h)⟩
  ·exact ⟨h1, h2⟩
theorem relTo_keeps : ∀ n, n ≤ t.d.length → noNew t (t.relTo win n).t ∧ moreP t (t.relTo win n).t
 | 0, _ => ⟨noNew_refl, moreP_refl⟩
 | n + 1, h => by
  obtain ⟨h1, h2⟩ := relTo_keeps n (by omega)
  obtain ⟨h3, h4⟩ := step_keeps (r := t.relTo win n) (win := win) (k := n) (by rw [h2.1]; omega)
  exact ⟨noNew_trans h1 h3, moreP_trans h2 h4⟩
theorem relTo_mis : ∀ n, ∀ x ∈ (t.relTo win n).mis, 0 ≤ x ∧ x < (n : Int)
 | 0, x, h => by simp [Tb.relTo] at h
 | n + 1, x, h => by
  have ih := relTo_mis n x
  simp only [Tb.relTo, Rl.step] at h
  split at h
  ·have := ih h; omega
  ·split at h
   ·have := ih h; omega
   ·rcases List.mem_append.1 h with h' | h'
    ·have := ih h'; omega
    ·have := List.mem_singleton.1 h'; omega
theorem dueTo_in : ∀ n, ∀ x ∈ t.dueTo win n, 0 ≤ x ∧ x < (n : Int)
 | 0, x, h => by simp [Tb.dueTo] at h
 | n + 1, x, h => by
  have ih := dueTo_in n x
  simp only [Tb.dueTo] at h
  rcases List.mem_append.1 h with h' | h'
  ·have := ih h'; omega
  ·split at h'
   ·have := List.mem_singleton.1 h'; omega
   ·cases h'
theorem ix_mem {l : List Int} {i : Nat} (h : i < l.length) : ix l (i : Int) ∈ l := List.mem_of_getElem? (ix_some (by omega) (by omega))
end
def relsM (C : CC) (c : CM) : CM :=
 missTo C (relN C { c with tb := (c.tb.relTo c.win c.tb.d.length).t } (c.tb.relTo c.win c.tb.d.length).rel (c.tb.relTo c.win c.tb.d.length).rel.length) (c.tb.relTo c.win c.tb.d.length).mis (c.tb.relTo c.win c.tb.d.length).mis.length
def wakesM (C : CC) (c : CM) : CM := dueM C c (c.tb.dueTo c.win c.tb.d.length) (c.tb.dueTo c.win c.tb.d.length).length
section
variable {C : CC} {c : CM}
theorem begin2_eq : begin2 C c = settleTo C 100 (wakesM C (portsTo C (relsM C c) 8)) := by simp only [begin2, relsM, wakesM]
theorem mis_in (h : okM C c) {i : Nat} (hi : i < (c.tb.relTo c.win c.tb.d.length).mis.length) : inR C.progs (ix (c.tb.relTo c.win c.tb.d.length).mis (i : Int)) := by
 have := relTo_mis (t := c.tb) (win := c.win) _ _ (ix_mem hi)
 unfold inR
 rw [← h.tb]; exact this
theorem due_in (h : okM C c) {i : Nat} (hi : i < (c.tb.dueTo c.win c.tb.d.length).length) : inR C.progs (ix (c.tb.dueTo c.win c.tb.d.length) (i : Int)) := by
 have := dueTo_in (t := c.tb) (win := c.win) _ _ (ix_mem hi)
 unfold inR
 rw [← h.tb]; exact this
theorem rch_rels (hc : okC C) (h : okM C c) : Rch C 16 c (relsM C c) := by
 obtain ⟨h1, h2, h3⟩ := relTo_len c.tb c.win c.tb.d.length
 have h8 := hc.n8
 have htb := h.tb
 unfold relsM
 exact .le (.trans (.trans (.tb c _ (relTo_keeps _ (Nat.le_refl _)).2) (rch_rel _)) (rch_miss _ fun i hi => mis_in h hi)) (by omega)
theorem rch_wakes (hc : okC C) (h : okM C c) : Rch C 8 c (wakesM C c) := by
 have h1 := dueTo_len c.tb c.win c.tb.d.length
 have h8 := hc.n8
 have htb := h.tb
 exact .le (rch_due _) (by omega)
theorem rch_begin2 (hc : okC C) (h : okM C c) : Rch C 444 c (begin2 C c) := by
 have h1 := rch_rels hc h
 have h2 := Rch.trans h1 (rch_ports (C := C) (c := relsM C c) 8)
 have h3 := Rch.trans h2 (rch_wakes hc (h2.ok hc h))
 rw [begin2_eq]
 exact .le (Rch.trans h3 (rch_settle hc 100 _ (h3.ok hc h))) (by omega)
end
end Go.Proofs.YtacmaamllpiloaaGreat
namespace Go.Proofs.YtacmaamllpiloaaGreat
open Go Go.Wk
set_option maxHeartbeats 3200000
set_option maxRecDepth 100000
section
variable {C : CC} {c : CM} {l : List Int}
theorem missTo_few (h : ∀ i : Nat, i < l.length → inR C.progs (ix l (i : Int))) (n : Nat) (hn : n ≤ l.length) {k : Nat} (hf : few c (n + k)) : few (missTo C c l n) k :=
 (rch_miss (l := l) n fun i hi => h i (by omega)).few hf
end
attribute [local irreducible] BrK GenK EGenK EUnitK CallK FnK CallV GuardO GuardC CondW opX opK opKc chkR eqR seqK blkK endL WL WD W LoopW BinK Tr drewK resL PickK NotK NilK ExtrK getK Instr.storeAt Instr.loadAt Instr.fieldAt Instr.indexAt Instr.lookup Instr.mapUpdate Instr.box Instr.alloc Instr.build Instr.buildSlice Instr.makeSlice Instr.makeMap Instr.sliceAt Instr.field Instr.index Instr.makeInterface Instr.typeAssert Builtin.len_ Builtin.append_ Builtin.cap_ Builtin.min_ Builtin.max_ Builtin.copy_ Builtin.clear_ convert binOp mp blk rob sl sep ex fact old
attribute [local irreducible] memX portX objX slkO
section
variable {b : Nat} {C : CC} {c : CM} {w : CW} {gs : List TaskG} {k p : Int}
theorem creleases_ok (hc : okC C) (hr : Rel C c w gs) (hf : few c 16) : Trip Tryz.prog 34 [ptr b].toArray (cellL b C c w gs)
  fun v l' => ∃ w2 gs2, Rel C (relsM C c) w2 gs2 ∧ v = .tuple #[] ∧ l' = cellL b C (relsM C c) w2 gs2 := by
 intro F K hK
 simp only [List.cons_append, List.nil_append] at hK ⊢
 have h8 := hc.n8
 have htb := hr.ok.tb
 have htl : c.tb.d.length ≤ 1000000 := by omega
 obtain ⟨r, hrr⟩ : ∃ r, r = c.tb.relTo c.win c.tb.d.length := ⟨_, rfl⟩
 have hlen := relTo_len c.tb c.win c.tb.d.length
 have hkp := relTo_keeps (t := c.tb) (win := c.win) c.tb.d.length (Nat.le_refl _)
 have hmi := fun i hi => mis_in (i := i) hr.ok hi
 have hrm : relsM C c = missTo C (relN C { c with tb := r.t } r.rel r.rel.length) r.mis r.mis.length := by rw [hrr]; rfl
 rw [← hrr] at hlen hkp hmi
 rw [hrm] at hK
 have hr0 : Rel C { c with tb := r.t } w gs := rel_tb hr hkp.2.1 hkp.1
 obtain ⟨l1, l2, l3⟩ := hlen
 have l2 : r.rel.length ≤ 8 := by omega
 have l3 : r.mis.length ≤ 8 := by omega
 (refine Tr.enter (rs := []) mixed fn34 rfl (by simp +arith [Tryz.ntmps34]) fun u => ?_; simp only [cd34, Tryz.f34])
 have hX := @pl34.eq_def; repeat' (first | refine S.x ?_ | (refine G.call 89 ?_; first | refine S.c ?_ (h := release_ok _ _ _ ?_) | fail) | rintro _ _ ⟨_, _, rfl, rfl⟩ | (refine G.prop ?_; assumption) | fail)
 rename_i s1 s2
 rw [← hrr]
 obtain ⟨c0, hc0⟩ : ∃ c0 : CM, c0 = { c with tb := r.t } := ⟨_, rfl⟩
 refine Tr.imp (l' := sl false s1.v r.rel :: sl false s2.v r.mis :: cellL b C c0 w gs ++ F) ?_ ?_
 ·subst hc0
  simp only [List.cons_append, List.nil_append]
  show EntR [] _ _
  exact S.E
 rw [← hc0] at hK hr0
 have hf0 : few c0 16 := by unfold few at *; rw [hc0]; exact hf
 clear hrm hrr hf hr hc0 hkp htb htl
 simp only [List.cons_append, List.nil_append]
 have hX := @pl34.eq_def; repeat' (first | refine S.x ?_ | refine S.y ?_ ?_ | (refine G.call 89 ?_; first | refine S.c ?_ (h := release_ok _ _ _ ?_) | refine S.c ?_ (h := release_ok _ _ _ (by assumption))) | (refine G.call 90 ?_; refine S.c ?_ (h := cnote_ok ?_)) | (refine G.call 91 ?_; refine S.c ?_ (h := cfault_ok (by assumption) (by assumption) (by assumption) (by assumption) (by assumption) (by assumption))) | rintro _ _ ⟨_, rfl, rfl⟩ | rintro _ _ ⟨_, _, rfl, rfl⟩ | rintro _ _ ⟨_, _, hrel, rfl, rfl⟩ | (refine G.prop ?_; assumption) | intro hb | ((fail_if_success refine G.tr ?_); exact G.prop S.p) | fail)
 refine Tr.loopE (α := Nat × CW) [22] [0, 3, 20, 21] (fun x => [.int .i64 x.1]) (fun x => cellL b C (relN C c0 r.rel x.1) x.2 gs) (fun x => x.1 ≤ r.rel.length ∧ Rel C (relN C c0 r.rel x.1) x.2 gs) (fun x => r.rel.length - x.1) (0, w) S.T rfl ⟨Nat.zero_le _, hr0⟩ fun x u hx => ?_
 obtain ⟨i, w1⟩ := x
 obtain ⟨hi, hri⟩ := hx
 simp only at hi hri ⊢
 simp only [List.cons_append, List.nil_append]
 by_cases hin : i < r.rel.length
 ·have hw := wrapSucc (k := i) (by omega)
  have hst : noteM C (relN C c0 r.rel i) (ix r.rel (i : Int)) 1 0 0 = relN C c0 r.rel (i + 1) := rfl
  have hfi : few (relN C c0 r.rel i) 1 := (rch_rel (l := r.rel) i).few (by unfold few at *; omega)
  unfold few at hfi
  have hX := And.intro @pl34.eq_def hw; repeat' (first | rintro _ _ ⟨sv, rfl, rfl⟩ | (refine G.call 90 ?_; refine S.c ?_ (h := cnote_ok hfi)) | refine S.x ?_ | intro hb | fail)
  all_goals
   have hrs : Rel C (relN C c0 r.rel (i + 1)) { w1 with ev := sv } gs := rel_note hri
   clear hri
   have hX := And.intro @relN.eq_2 @noteM.eq_def
   exact S.R ((i + 1, { w1 with ev := sv }) : Nat × CW)
 ·have hie : i = r.rel.length := by omega
  subst hie
  obtain ⟨c1, hc1⟩ : ∃ c1, c1 = relN C c0 r.rel r.rel.length := ⟨_, rfl⟩
  have hf1 : few c1 8 := by rw [hc1]; exact (rch_rel (l := r.rel) r.rel.length).few (by unfold few at *; omega)
  rw [← hc1] at hK hri ⊢
  clear hc1
  have hX := @pl34.eq_def; repeat' (first | refine S.x ?_ | fail)
  refine Tr.loopE (α := Nat × CW × List TaskG) [32] [0, 30, 31] (fun x => [.int .i64 x.1]) (fun x => cellL b C (missTo C c1 r.mis x.1) x.2.1 x.2.2) (fun x => x.1 ≤ r.mis.length ∧ Rel C (missTo C c1 r.mis x.1) x.2.1 x.2.2) (fun x => r.mis.length - x.1) (0, w1, gs) S.T rfl ⟨Nat.zero_le _, hri⟩ fun y u2 hy => ?_
  obtain ⟨j, w2, g2⟩ := y
  obtain ⟨hj, hrj⟩ := hy
  simp only at hj hrj ⊢
  simp only [List.cons_append, List.nil_append]
  by_cases hjn : j < r.mis.length
  ·have hw := wrapSucc (k := j) (by omega)
   have hst : missTo C c1 r.mis (j + 1) = if (missTo C c1 r.mis j).mode = 3 then faultM C (missTo C c1 r.mis j) (ix r.mis (j : Int)) 4 else missTo C c1 r.mis j := rfl
   have hk := hmi j hjn
   have hfj : few (missTo C c1 r.mis j) 1 := missTo_few hmi j (by omega) (by unfold few at *; omega)
   by_cases hm : (missTo C c1 r.mis j).mode = 3
   ·rw [if_pos hm] at hst
    have hX := And.intro @pl34.eq_def hw; repeat' (first | rintro _ _ ⟨w3, g3, hr3, rfl, rfl⟩ | (refine G.call 91 ?_; refine S.c ?_ (h := cfault_ok hc hrj hk hfj (by decide) (by decide))) | refine S.x ?_ | intro hb | fail)
    all_goals
     rw [← hst] at hr3
     have hX := hst
     clear hrj
     exact S.R ((j + 1, w3, g3) : Nat × CW × List TaskG)
   ·rw [if_neg hm] at hst
    rw [← hst] at hrj
    have hX := And.intro @pl34.eq_def hw; repeat' (first | refine S.x ?_ | intro hb | fail)
    all_goals
     have hX := hst
     clear hst
     exact S.R ((j + 1, w2, g2) : Nat × CW × List TaskG)
  ·have hje : j = r.mis.length := by omega
   subst hje
   have hX := @pl34.eq_def; repeat' (first | refine S.x ?_ | fail)
   all_goals exact Tr.fin hK ⟨w2, g2, hrj, rfl, rfl⟩ S.E
theorem cwakes_ok (hc : okC C) (hr : Rel C c w gs) (hf : few c 8) : Trip Tryz.prog 37 [ptr b].toArray (cellL b C c w gs)
  fun v l' => ∃ w2 gs2, Rel C (wakesM C c) w2 gs2 ∧ v = .tuple #[] ∧ l' = cellL b C (wakesM C c) w2 gs2 := by
 intro F K hK
 simp only [List.cons_append, List.nil_append] at hK ⊢
 have h8 := hc.n8
 have htb := hr.ok.tb
 have htl : c.tb.d.length ≤ 1000000 := by omega
 obtain ⟨l, hl⟩ : ∃ l, l = c.tb.dueTo c.win c.tb.d.length := ⟨_, rfl⟩
 have hlen := dueTo_len c.tb c.win c.tb.d.length
 have hdi := fun i hi => due_in (i := i) hr.ok hi
 have hrm : wakesM C c = dueM C c l l.length := by rw [hl]; rfl
 rw [← hl] at hlen hdi
 rw [hrm] at hK
 (refine Tr.enter (rs := []) mixed fn37 rfl (by simp +arith [Tryz.ntmps37]) fun u => ?_; simp only [cd37, Tryz.f37])
 have hX := @pl37.eq_def; repeat' (first | refine S.x ?_ | (refine G.call 97 ?_; first | refine S.c ?_ (h := due_ok _ _ _ ?_) | fail) | rintro _ _ ⟨_, rfl, rfl⟩ | (refine G.prop ?_; assumption) | fail)
 rename_i s1
 rw [← hl]
 have hl8 : l.length ≤ 8 := by omega
 clear hrm hl htb htl hlen
 refine Tr.loopE (α := Nat × CW × List TaskG) [18] [0, 16, 17] (fun x => [.int .i64 x.1]) (fun x => cellL b C (dueM C c l x.1) x.2.1 x.2.2) (fun x => x.1 ≤ l.length ∧ Rel C (dueM C c l x.1) x.2.1 x.2.2) (fun x => l.length - x.1) (0, w, gs) S.T rfl ⟨Nat.zero_le _, hr⟩ fun y u2 hy => ?_
 obtain ⟨j, w2, g2⟩ := y
 obtain ⟨hj, hrj⟩ := hy
 simp only at hj hrj ⊢
 simp only [List.cons_append, List.nil_append]
 by_cases hjn : j < l.length
 ·have hw := wrapSucc (k := j) (by omega)
  have hst : dueM C c l (j + 1) = endM C (dueM C c l j) (ix l (j : Int)) ((dueM C c l j).tb.at (ix l (j : Int))).call (if ((dueM C c l j).tb.at (ix l (j : Int))).call = 2 then 0 else 5) 0 := rfl
  have hk := hdi j hjn
  have hfj : few (dueM C c l j) 1 := (rch_due (l := l) j).few (by unfold few at *; omega)
  by_cases hm : ((dueM C c l j).tb.at (ix l (j : Int))).call = 2
  ·rw [if_pos hm] at hst
   have hX := And.intro @pl37.eq_def hw; repeat' (first | rintro _ _ ⟨rfl, rfl⟩ | rintro _ _ ⟨w3, g3, hr3, rfl, rfl⟩ | (refine G.call 94 ?_; refine S.c ?_ (h := ccomplete_ok hrj hk hfj)) | refine S.x ?_ | (refine G.call 98 ?_; refine S.c ?_ (h := waits_ok _ _ _)) | intro hb | fail)
   all_goals
    rw [← hst] at hr3
    have hX := hst
    clear hrj
    exact S.R ((j + 1, w3, g3) : Nat × CW × List TaskG)
  ·rw [if_neg hm] at hst
   have hX := And.intro @pl37.eq_def hw; repeat' (first | rintro _ _ ⟨rfl, rfl⟩ | rintro _ _ ⟨w3, g3, hr3, rfl, rfl⟩ | (refine G.call 94 ?_; refine S.c ?_ (h := ccomplete_ok hrj hk hfj)) | refine S.x ?_ | (refine G.call 98 ?_; refine S.c ?_ (h := waits_ok _ _ _)) | intro hb | fail)
   all_goals
    rw [← hst] at hr3
    have hX := hst
    clear hrj
    exact S.R ((j + 1, w3, g3) : Nat × CW × List TaskG)
 ·have hje : j = l.length := by omega
  subst hje
  have hX := @pl37.eq_def; repeat' (first | refine S.x ?_ | fail)
  all_goals exact Tr.fin hK ⟨w2, g2, hrj, rfl, rfl⟩ S.E
end
end Go.Proofs.YtacmaamllpiloaaGreat
