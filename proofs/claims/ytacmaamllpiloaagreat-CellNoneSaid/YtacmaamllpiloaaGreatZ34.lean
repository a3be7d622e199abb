import Derived.Test.YtacmaamllpiloaaGreatZ33
namespace Go.Proofs.YtacmaamllpiloaaGreat
open Go Go.Wk
set_option maxHeartbeats 3200000
set_option maxRecDepth 100000
attribute [local irreducible] BrK GenK EGenK EUnitK CallK FnK CallV GuardO GuardC CondW opX opK opKc chkR eqR seqK blkK endL WL WD W LoopW BinK Tr drewK resL PickK NotK NilK ExtrK getK Instr.storeAt Instr.loadAt Instr.fieldAt Instr.indexAt Instr.lookup Instr.mapUpdate Instr.box Instr.alloc Instr.build Instr.buildSlice Instr.makeSlice Instr.makeMap Instr.sliceAt Instr.field Instr.index Instr.makeInterface Instr.typeAssert Builtin.len_ Builtin.append_ Builtin.cap_ Builtin.min_ Builtin.max_ Builtin.copy_ Builtin.clear_ convert binOp mp blk rob sl sep ex fact old
attribute [local irreducible] memX portX objX slkO
section
variable {b : Nat} {C : CC} {c : CM} {w : CW} {gs : List TaskG} {k p : Int}
theorem creceivers_ok (hc : okC C) (hr : Rel C c w gs) (hf : few c 8) : Trip Tryz.prog 36 [ptr b, .int .i64 p].toArray (cellL b C c w gs)
    fun v l' => ∃ w2 gs2, Rel C (recvTo C p 20 c) w2 gs2 ∧ v = .tuple #[] ∧ l' = cellL b C (recvTo C p 20 c) w2 gs2 := by
  intro F K hK
  simp only [List.cons_append, List.nil_append] at hK ⊢
  have h8 := hc.n8
  have htb := hr.ok.tb
  have hcn : cnt (One.waits 12 p) c.tb ≤ 8 := Nat.le_trans cnt_le (by omega)
  have hf0 : few c (cnt (One.waits 12 p) c.tb) := by unfold few at *; omega
  obtain ⟨R, hR⟩ : ∃ R, R = recvTo C p 20 c := ⟨_, rfl⟩
  rw [← hR] at hK
  (refine Tr.enter (rs := []) mixed fn36 rfl (by simp +arith [Tryz.ntmps36]) fun u => ?_; simp only [cd36, Tryz.f36])
  have hX := @pl36.eq_def; repeat' (first | refine S.x ?_ | (refine G.call 92 ?_; refine S.c ?_ (h := first_ok _ _ _ _ ?_)) | rintro _ _ ⟨rfl, rfl⟩ | ((fail_if_success refine G.tr ?_); exact G.prop S.p) | fail)
  refine Tr.loopE (α := CM × Nat × CW × List TaskG) [4] [0, 1] (fun x => [.int .i64 (firstM x.1 12 p)]) (fun x => cellL b C x.1 x.2.2.1 x.2.2.2) (fun x => recvTo C p x.2.1 x.1 = R ∧ cnt (One.waits 12 p) x.1.tb < x.2.1 ∧ few x.1 (cnt (One.waits 12 p) x.1.tb) ∧ Rel C x.1 x.2.2.1 x.2.2.2) (fun x => x.2.1) (c, 20, w, gs) S.T rfl ⟨hR.symm, by simp only; omega, hf0, hr⟩ fun x u hx => ?_
  obtain ⟨c1, n, w1, g1⟩ := x
  obtain ⟨he, hn, hf1, hr1⟩ := hx
  simp only at he hn hf1 hr1 ⊢
  simp only [List.cons_append, List.nil_append]
  have htb1 := hr1.ok.tb
  clear hr hf hf0 htb hcn hR
  by_cases h0 : firstM c1 12 p < 0
  · rw [recvTo_stop h0] at he
    rw [← he] at hK
    have hX := @pl36.eq_def; repeat' (first | refine S.x ?_ | fail)
    all_goals exact Tr.fin hK ⟨w1, g1, hr1, rfl, rfl⟩ S.E
  · obtain ⟨m, rfl⟩ : ∃ m, n = m + 1 := ⟨n - 1, by omega⟩
    have hk := first_prog hr1 h0
    obtain ⟨c2, hc2⟩ : ∃ c2 : CM, c2 = { c1 with pts := outA c1.pts p true } := ⟨_, rfl⟩
    have hrp : Rel C c2 w1 g1 := by rw [hc2]; exact rel_pts hr1
    obtain ⟨bs, hbs⟩ : ∃ bs, bs = outDA c1.pts p true := ⟨_, rfl⟩
    have hce : cnt (One.waits 12 p) (getsM C c2 (firstM c1 12 p) 12 bs).tb + 1 = cnt (One.waits 12 p) c1.tb := cnt_end (c2 := { c2 with mem := stB c2.mem (ix c2.addr (firstM c1 12 p)) bs }) h0 (by rw [hc2])
    have hev : c2.evs = c1.evs := by rw [hc2]
    unfold recvTo at he
    rw [if_neg h0] at he
    simp only at he
    rw [← hc2, ← hbs] at he
    generalize firstM c1 12 p = k at *
    obtain ⟨c3, hc3⟩ : ∃ c3 : CM, c3 = getsM C c2 k 12 bs := ⟨_, rfl⟩
    have hl3 : c3.tb.d.length ≤ 1000000 := by rw [hc3, getsM_tb, set_len, hrp.ok.tb]; omega
    have hf2 : few c2 1 := by unfold few at *; rw [hev]; omega
    have hf3 : few c3 (cnt (One.waits 12 p) c3.tb) := by
      rw [← hc3] at hce
      unfold few at *
      have : c3.evs.length = c2.evs.length + 1 := by rw [hc3]; simp [getsM, endM, noteM, setTM]
      rw [this, hev]; omega
    rw [← hc3] at hce he
    by_cases hcode : outCA c1.pts p true = 0
    · rw [if_pos hcode] at he
      have hX := @pl36.eq_def; repeat' (first | refine S.x ?_ | (refine G.call 95 ?_; first | refine S.c ?_ (h := xrecv_ok) | fail) | rintro _ _ ⟨_, rfl, rfl⟩ | fail)
      rename_i s3
      refine Tr.imp (l' := sl true s3.v bs :: cellL b C c2 w1 g1 ++ F) ?_ ?_
      · subst hc2 hbs
        simp only [List.cons_append, List.nil_append]
        show EntR [] _ _
        exact S.E
      simp only [List.cons_append, List.nil_append]
      have hco := carrive_ok (b := b) (call := 12) (bs := bs) (s3 := s3) hrp hk hf2
      rw [← hc3] at hco
      clear hrp hr1 hc2 hc3 hev hbs
      have hX := @pl36.eq_def; repeat' (first | rintro _ _ ⟨rfl, rfl⟩ | rintro _ _ ⟨w2, gs2, hrel, rfl, rfl⟩ | (refine G.call 96 ?_; refine S.c ?_ (h := hco)) | refine S.x ?_ | (refine G.call 92 ?_; refine S.c ?_ (h := first_ok _ _ _ _ ?_)) | (refine G.prop ?_; assumption) | fail)
      all_goals exact S.R ((c3, m, w2, gs2) : CM × Nat × CW × List TaskG)
    · rw [if_neg hcode] at he
      rw [← he] at hK
      have hX := @pl36.eq_def; repeat' (first | refine S.x ?_ | (refine G.call 95 ?_; first | refine S.c ?_ (h := xrecv_ok) | fail) | rintro _ _ ⟨_, rfl, rfl⟩ | fail)
      all_goals
        refine Tr.fin hK ⟨w1, g1, hrp, rfl, rfl⟩ ?_
        subst hc2
        simp only [List.cons_append, List.nil_append]
        exact S.E
end
end Go.Proofs.YtacmaamllpiloaaGreat
namespace Go.Proofs.YtacmaamllpiloaaGreat
open Go Go.Wk
def moreP (t t' : Tb) : Prop := t'.d.length = t.d.length ∧ ∀ j, (t.at j).parked = true → (t'.at j).parked = true
section
variable {t t' : Tb} {k j : Int} {o : One} {st : Int}
theorem moreP_refl : moreP t t := ⟨rfl, fun _ h => h⟩
theorem moreP_trans {t1 t2 t3 : Tb} (h1 : moreP t1 t2) (h2 : moreP t2 t3) : moreP t1 t3 := ⟨h2.1.trans h1.1, fun j h => h2.2 j (h1.2 j h)⟩
theorem moreP_set {n : Int} (hl : inR t.d k) (h : (t.at k).parked = true → o.parked = true) : moreP t (Tb.mk (t.d.set k.toNat o) n) := ⟨List.length_set, fun j hj => by
  rw [at_set hl]
  by_cases e : j = k
  · rw [if_pos e]; rw [e] at hj; exact h hj
  · rw [if_neg e]; exact hj⟩
theorem moreP_put (hl : inR t.d k) (h : (t.at k).parked = true → o.parked = true) : moreP t (t.put k o st) := moreP_set (t := t) (n := t.putT st) hl fun hp => by
  rw [putP_wait.2]; exact h hp
theorem set_more : moreP t (t.set k st) := by
  unfold Tb.set
  split
  · rename_i h; exact moreP_put (setB_in h).1 fun h => h
  · exact moreP_refl
theorem park_more : moreP t (t.park k) := by
  unfold Tb.park
  split
  · rename_i h
    exact moreP_set (t := t) (n := t.turns) (has_in.1 h) fun _ => rfl
  · exact moreP_refl
theorem start_more {win : Int} : moreP t (t.start k win) := by
  unfold Tb.start
  split
  · rename_i h
    unfold Tb.startB at h
    simp only [Bool.and_eq_true] at h
    exact moreP_put (has_in.1 h.1) fun h => h
  · exact moreP_refl
theorem rank_more {p : Int} : moreP t (t.rank k p) := by
  unfold Tb.rank
  split
  · rename_i h
    unfold Tb.rankB at h
    simp only [Bool.and_eq_true] at h
    exact moreP_set (t := t) (n := t.turns) (has_in.1 h.1) fun h => h
  · exact moreP_refl
theorem wait_more {c wh wk : Int} : moreP t (t.wait k c wh wk) := by
  unfold Tb.wait
  split
  · rename_i h; exact moreP_put (has_in.1 h) fun h => h
  · exact moreP_refl
theorem park_in (hl : inR t.d k) : ((t.park k).at k).parked = true := by
  rw [park_at, if_pos ⟨rfl, has_in.2 hl⟩]
end
inductive Rch (C : CC) : Nat → CM → CM → Prop
  | refl (c : CM) : Rch C 0 c c
  | trans {n m : Nat} {c1 c2 c3 : CM} : Rch C n c1 c2 → Rch C m c2 c3 → Rch C (n + m) c1 c3
  | note (c : CM) (k call code value : Int) : Rch C 1 c (noteM C c k call code value)
  | tb (c : CM) (t' : Tb) : moreP c.tb t' → Rch C 0 c { c with tb := t' }
  | to (c : CM) (k i : Int) : inR C.progs k → 0 ≤ i → i ≤ (ix C.progs k).length → Rch C 0 c (toM C c k i)
  | rest (c : CM) (k : Int) : inR C.progs k → Rch C 0 c (restM c k)
  | mem (c : CM) (ms : List RegM) : Rch C 0 c { c with mem := ms }
  | pts (c : CM) (ps : List AP) : ps.map AP.c = c.pts.map AP.c → Rch C 0 c { c with pts := ps }
  | obs (c : CM) (o : ObM) : Rch C 0 c { c with obs := o }
  | mode (c : CM) : Rch C 0 c { c with mode := 0 }
  | le {n m : Nat} {c1 c2 : CM} : Rch C n c1 c2 → n ≤ m → Rch C m c1 c2
  | wait (c : CM) (k a : Int) (d : List UInt8) : inR C.progs k → okZ a → d.length ≤ 300 → Rch C 0 c { c with addr := c.addr.set k.toNat a, data := c.data.set k.toNat d }
def dP (c : CM) : Prop := ∀ k : Int, 0 ≤ k → ix c.done k = true → (c.tb.at k).parked = true
section
variable {C : CC} {n m : Nat} {c c' c1 c2 c3 : CM} {k call code value win : Int}
theorem Rch.ev (h : Rch C n c c') : c'.evs.length ≤ c.evs.length + n := by
  induction h with
  | refl => exact Nat.le_refl _
  | trans _ _ h1 h2 => omega
  | note => simp [noteM]
  | le _ h1 h2 => omega
  | _ => exact Nat.le_refl _
theorem Rch.few {k : Nat} (h : Rch C n c c') (hf : few c (n + k)) : Go.Proofs.YtacmaamllpiloaaGreat.few c' k := by
  have := h.ev
  unfold Go.Proofs.YtacmaamllpiloaaGreat.few at *
  omega
theorem Rch.sk (h : Rch C n c c') : c'.slk.isSome = c.slk.isSome := by
  induction h with
  | trans _ _ h1 h2 => exact h2.trans h1
  | le _ _ h1 => exact h1
  | rest c k => show (c.slk.map _).isSome = _; rw [Option.isSome_map]
  | _ => rfl
theorem Rch.ok (hc : okC C) (h : Rch C n c c') (ho : okM C c) : okM C c' := by
  induction h with
  | refl => exact ho
  | trans _ _ h1 h2 => exact h2 (h1 ho)
  | le _ _ h1 => exact h1 ho
  | tb c t' ht => exact okM_tb ho ht.1
  | to c k i hk h0 h1 => exact okM_to hc ho hk h0 h1
  | rest c k hk => exact ⟨park_len.trans ho.tb, ho.pos, ho.rest, ho.addr, ho.data, by simpa [restM] using ho.done, ho.pi, ho.ad, ho.dl⟩
  | wait c k a d hk ha hd => exact ⟨ho.tb, ho.pos, ho.rest, by simpa using ho.addr, by simpa using ho.data, ho.done, ho.pi, fun x hx => by
      rcases List.mem_or_eq_of_mem_set hx with h' | rfl
      · exact ho.ad x h'
      · exact ha, fun x hx => by
      rcases List.mem_or_eq_of_mem_set hx with h' | rfl
      · exact ho.dl x h'
      · exact hd⟩
  | _ => exact ⟨ho.tb, ho.pos, ho.rest, ho.addr, ho.data, ho.done, ho.pi, ho.ad, ho.dl⟩
theorem Rch.dP (hc : okC C) (h : Rch C n c c') (ho : okM C c) (hd : dP c) : Go.Proofs.YtacmaamllpiloaaGreat.dP c' := by
  induction h with
  | refl => exact hd
  | trans a _ h1 h2 => exact h2 (a.ok hc ho) (h1 ho hd)
  | le _ _ h1 => exact h1 ho hd
  | tb c t' ht => exact fun k h0 hk => ht.2 k (hd k h0 hk)
  | rest c k hk =>
    intro j h0 hj
    show ((c.tb.park k).at j).parked = true
    by_cases e : j = k
    · subst e
      refine park_in ?_
      unfold inR at *
      rw [ho.tb]; exact hk
    · refine park_more.2 j (hd j h0 ?_)
      have hj' : ix (c.done.set k.toNat true) j = true := hj
      rw [ix_setR (by unfold inR at *; rw [ho.done]; exact hk) h0, if_neg e] at hj'
      exact hj'
  | _ => exact hd
theorem Rch.one (h1 : Rch C n c1 c2) (h : Rch C 0 c2 c3) : Rch C n c1 c3 := .trans h1 h
end
end Go.Proofs.YtacmaamllpiloaaGreat
namespace Go.Proofs.YtacmaamllpiloaaGreat
open Go Go.Wk
section
variable {C : CC} {c : CM} {k call code value win kind p w st : Int} {cold : Bool} {b : List UInt8} {s : StepC}
theorem first_in {q : One → Bool} (ho : okM C c) (h : ¬ c.tb.best q < 0) : inR C.progs (c.tb.best q) := by
  have h1 := best_in (t := c.tb) (q := q) (by omega)
  unfold inR at *
  rw [← ho.tb]; exact h1
theorem rch_set : Rch C 0 c (setTM c k st) := .tb c _ set_more
theorem rch_start (hk : inR C.progs k) : Rch C 0 c (startM C c k win) := by
  have h1 : Rch C 0 c { toM C c k 0 with tb := (toM C c k 0).tb.start k win } := .trans (.to c k 0 hk (by decide) (by omega)) (.tb _ _ start_more)
  unfold startM
  simp only
  split
  · exact .trans h1 (.tb _ _ park_more)
  · exact h1
theorem rch_stopTo : ∀ n, Rch C 0 c (stopTo c n)
  | 0 => .refl c
  | n + 1 => .trans (rch_stopTo n) rch_set
theorem rch_startTo : ∀ n, n ≤ C.progs.length → Rch C 0 c (startTo C c win n)
  | 0, _ => .refl c
  | n + 1, h => .trans (rch_startTo n (by omega)) (rch_start ⟨by omega, by omega⟩)
theorem rch_idle : Rch C 0 c (idleM C c) := .trans (.mode c) (rch_stopTo _)
theorem clear_c {ps : List AP} : (clearA ps).map AP.c = ps.map AP.c := by
  unfold clearA
  simp [Function.comp_def]
theorem rch_clear : Rch C 0 c (clearM C c cold) := by
  have h1 : Rch C 0 c { c with mem := if cold = true then c.mem.map RegM.clr else c.mem } := .mem c _
  have h2 := h1.one (.obs _ (newO C.conf))
  exact h2.one (.pts _ (clearA c.pts) clear_c)
theorem rch_anew : Rch C 0 c (anewM C c cold) := .trans (.trans rch_clear (rch_stopTo _)) (rch_startTo _ (Nat.le_refl _))
theorem rch_fault (hk : inR C.progs k) : Rch C 1 c (faultM C c k kind) := by
  have h1 : Rch C 1 c (noteM C c k (-1 - kind) (actA C.conf.acts.d kind) 0) := .note c _ _ _ _
  unfold faultM
  simp only
  split
  · exact .trans h1 rch_set
  · split
    · exact .trans h1 (.trans rch_set (rch_start hk))
    · split
      · exact .trans h1 rch_anew
      · split
        · exact .trans h1 rch_idle
        · exact h1
theorem rch_end : Rch C 1 c (endM C c k call code value) := .trans (.note c _ _ _ _) rch_set
theorem rch_gets : Rch C 1 c (getsM C c k call b) := .trans (.mem c _) rch_end
theorem canA_in {ps : List AP} {q i : Bool} (h : canA ps p q i = true) : inR ps p := by
  unfold canA at h
  split at h
  · assumption
  · cases h
theorem set_c {ps : List AP} {x : AP} (hr : inR ps p) (h : x.c = (ix ps p).c) : (ps.set p.toNat x).map AP.c = ps.map AP.c := pt_set hr.1 hr.2 h
theorem into_c {ps : List AP} {q : Bool} : (intoA ps p q b).map AP.c = ps.map AP.c := by
  unfold intoA
  split
  · rename_i h
    have hr := canA_in h
    split
    · split
      · split
        · rfl
        · exact set_c hr rfl
      · exact set_c hr rfl
    · rfl
  · rfl
theorem out_c {ps : List AP} {q : Bool} : (outA ps p q).map AP.c = ps.map AP.c := by
  unfold outA
  split
  · rename_i h
    have hr := canA_in h
    split
    · split
      · rfl
      · exact set_c hr rfl
    · rfl
  · rfl
theorem rch_into {q : Bool} : Rch C 0 c { c with pts := intoA c.pts p q b } := .pts c _ into_c
theorem rch_out {q : Bool} : Rch C 0 c { c with pts := outA c.pts p q } := .pts c _ out_c
theorem rch_send : ∀ n c, Rch C n c (sendTo C p n c)
  | 0, c => .refl c
  | n + 1, c => by
    unfold sendTo
    simp only
    split
    · exact .le (.refl c) (by omega)
    · split
      · exact .le (.trans (.trans rch_into rch_end) (rch_send n _)) (by omega)
      · exact .le rch_into (by omega)
theorem rch_recv : ∀ n c, Rch C n c (recvTo C p n c)
  | 0, c => .refl c
  | n + 1, c => by
    unfold recvTo
    simp only
    split
    · exact .le (.refl c) (by omega)
    · split
      · exact .le (.trans (.trans rch_out rch_gets) (rch_recv n _)) (by omega)
      · exact .le rch_out (by omega)
theorem rch_ports : ∀ n, Rch C (40 * n) c (portsTo C c n)
  | 0 => .refl c
  | n + 1 => .le (.trans (.trans (rch_ports n) (rch_send 20 _)) (rch_recv 20 _)) (by omega)
theorem rch_settle (hc : okC C) : ∀ n c, okM C c → Rch C n c (settleTo C n c)
  | 0, c, _ => .refl c
  | n + 1, c, ho => by
    unfold settleTo
    split
    · split
      · exact .le (.refl c) (by omega)
      · rename_i h
        have hk := first_in ho h
        split
        · exact .le (.refl c) (by omega)
        · have h1 : Rch C 1 c (faultM C (restM c (pickM c)) (pickM c) 0) := .le (.trans (.rest c _ hk) (rch_fault hk)) (by omega)
          exact .le (.trans h1 (rch_settle hc n _ (h1.ok hc ho))) (by omega)
    · exact .le (.refl c) (by omega)
theorem rch_rel {l : List Int} : ∀ n, Rch C n c (relN C c l n)
  | 0 => .refl c
  | n + 1 => .trans (rch_rel n) (.note _ _ _ _ _)
theorem rch_miss {l : List Int} : ∀ n, (∀ i : Nat, i < n → inR C.progs (ix l (i : Int))) → Rch C n c (missTo C c l n)
  | 0, _ => .refl c
  | n + 1, h => by
    have ih := rch_miss (l := l) n fun i hi => h i (by omega)
    unfold missTo
    split
    · exact .trans ih (rch_fault (h n (by omega)))
    · exact .le ih (by omega)
theorem rch_due {l : List Int} : ∀ n, Rch C n c (dueM C c l n)
  | 0 => .refl c
  | n + 1 => .trans (rch_due n) rch_end
theorem rch_flag : ∀ n c, Rch C n c (flagTo C w n c)
  | 0, c => .refl c
  | n + 1, c => by
    unfold flagTo
    split
    · exact .le (.refl c) (by omega)
    · exact .le (.trans rch_end (rch_flag n _)) (by omega)
theorem rch_slate : ∀ n c, Rch C n c (slateTo C w b n c)
  | 0, c => .refl c
  | n + 1, c => by
    unfold slateTo
    split
    · exact .le (.refl c) (by omega)
    · exact .le (.trans rch_gets (rch_slate n _)) (by omega)
theorem rch_wait (hk : inR C.progs k) (hs : s.ok) (hb : b.length ≤ 300) : Rch C 1 c (waitM C c k s b) := by
  unfold waitM
  split
  · exact .note c _ _ _ _
  · exact .le (.trans (.wait c k s.b b hk hs.2.1 hb) (.tb _ _ wait_more)) (by omega)
theorem rch_bad (hk : inR C.progs k) : Rch C 2 c (badM C c k s) := .trans (.note c _ _ _ _) (rch_fault hk)
theorem rch_from {size : Int} (hk : inR C.progs k) : Rch C 2 c (fromM C c k s size) := by
  unfold fromM
  split
  · exact rch_bad hk
  · exact .le (.note c _ _ _ _) (by omega)
theorem rch_got : Rch C 1 c (gotM C c k s b) := .trans (.mem c _) (.note _ _ _ _ _)
theorem rch_sleep (hk : inR C.progs k) : Rch C 1 c (sleepM C c k s) := by
  unfold sleepM
  split
  · split
    · exact .le (.trans rch_set (.rest _ k hk)) (by omega)
    · exact .note c _ _ _ _
  · split
    · split
      · exact .note c _ _ _ _
      · exact .trans (.note c _ _ _ _) rch_set
    · split
      · exact .le (.trans (.tb c _ wait_more) (.rest _ k hk)) (by omega)
      · exact .note c _ _ _ _
theorem rch_others : Rch C 1 c (othersM C c k s) := by
  unfold othersM
  split
  · exact .note c _ _ _ _
  · rename_i hn
    have hk : inR C.progs s.a := by
      unfold inR
      by_cases h : 0 ≤ s.a ∧ s.a < C.progs.length
      · exact h
      · exact absurd (.inl h) hn
    split
    · split
      · exact .note c _ _ _ _
      · exact .le (.trans (.tb c _ rank_more) (.note _ _ _ _ _)) (by omega)
    · split
      · exact .le (.trans rch_set (.note _ _ _ _ _)) (by omega)
      · split
        · exact .le (.trans (rch_start hk) (.note _ _ _ _ _)) (by omega)
        · split
          · exact .le (.trans rch_set (.note _ _ _ _ _)) (by omega)
          · exact .note c _ _ _ _
theorem from_len {size : Int} (h : fromB c s size = true) (hz : size ≤ 300) : (ldB c.mem s.b s.c).length ≤ 300 := by
  unfold fromB at h
  simp only [Bool.and_eq_true, decide_eq_true_eq] at h
  have : (ldB c.mem s.b s.c).length ≤ s.c.toNat := by
    unfold ldB
    split
    · rw [List.length_drop, List.length_take]; omega
    · exact Nat.zero_le _
  omega
theorem rch_port (hk : inR C.progs k) (hs : s.ok) (hz : sizePA c.pts s.a ≤ 300) : Rch C 2 c (portM2 C c k s) := by
  unfold portM2
  simp only
  split
  · split
    · split
      · split
        · exact .le (.trans rch_out rch_got) (by omega)
        · split
          · exact .le (.trans rch_out (rch_wait hk hs (Nat.zero_le _))) (by omega)
          · exact .le (.trans rch_out (.note _ _ _ _ _)) (by omega)
      · exact rch_bad hk
    · split
      · rename_i hf
        split
        · split
          · exact .le (.trans rch_into (.note _ _ _ _ _)) (by omega)
          · exact .le (.trans rch_into (rch_wait hk hs (from_len hf hz))) (by omega)
        · exact .le (.trans rch_into (.note _ _ _ _ _)) (by omega)
      · exact rch_from hk
  · exact .le (.note c _ _ _ _) (by omega)
theorem rch_signal (hk : inR C.progs k) (hs : s.ok) : Rch C 22 c (signalM C c k s) := by
  unfold signalM
  simp only
  split
  · split
    · exact .le (.trans (.obs c _) (rch_wait hk hs (Nat.zero_le _))) (by omega)
    · exact .le (.trans (.obs c _) (.note _ _ _ _ _)) (by omega)
  · split
    · split
      · exact .le (.trans (.note c _ _ _ _) rch_end) (by omega)
      · exact .le (.trans (.obs c _) (.note _ _ _ _ _)) (by omega)
    · split
      · exact .le (.trans (.trans (.obs c _) (.note _ _ _ _ _)) (rch_flag 20 _)) (by omega)
      · split
        · exact .le (.trans (.obs c _) (.note _ _ _ _ _)) (by omega)
        · split
          · exact .le (.note c _ _ _ _) (by omega)
          · exact .le (rch_wait hk hs (Nat.zero_le _)) (by omega)
theorem rch_refill : Rch C 1 c (refillM C c p) := by
  unfold refillM
  split
  · exact .le (.refl c) (by omega)
  · simp only
    split
    · exact .trans (.obs c _) rch_end
    · exact .le (.obs c _) (by omega)
theorem rch_pool (_hc : okC C) (hk : inR C.progs k) (hs : s.ok) (hz : (ix C.conf.pools.d s.a).size ≤ 300) : Rch C 2 c (poolCM C c k s) := by
  unfold poolCM
  split
  · simp only
    split
    · split
      · split
        · exact .le (.trans (.trans (.obs c _) rch_got) rch_refill) (by omega)
        · exact .le (.trans (.obs c _) (rch_wait hk hs (Nat.zero_le _))) (by omega)
      · exact rch_bad hk
    · split
      · rename_i hf
        split
        · exact .trans (.note c _ _ _ _) rch_gets
        · split
          · exact .le (.trans (.obs c _) (.note _ _ _ _ _)) (by omega)
          · exact .le (.trans (.obs c _) (rch_wait hk hs (from_len hf hz))) (by omega)
      · exact rch_from hk
  · exact .le (.note c _ _ _ _) (by omega)
theorem rch_slateC (hk : inR C.progs k) (hs : s.ok) : Rch C 21 c (slateCM C c k s) := by
  unfold slateCM
  split
  · simp only
    split
    · exact .le (.trans (.obs c _) (.note _ _ _ _ _)) (by omega)
    · split
      · split
        · split
          · exact .le rch_got (by omega)
          · exact .le (rch_wait hk hs (Nat.zero_le _)) (by omega)
        · exact .le (rch_bad hk) (by omega)
      · split
        · exact .le (.trans (.trans (.obs c _) (.note _ _ _ _ _)) (rch_slate 20 _)) (by omega)
        · exact .le (rch_from hk) (by omega)
  · exact .le (.note c _ _ _ _) (by omega)
theorem rch_memory (hk : inR C.progs k) : Rch C 2 c (memoryM C c k s) := by
  unfold memoryM
  split
  · split
    · exact .le (.trans (.mem c _) (.note _ _ _ _ _)) (by omega)
    · exact .le (.trans (.mem c _) (rch_bad hk)) (by omega)
  · split
    · exact .le (.note c _ _ _ _) (by omega)
    · exact rch_bad hk
theorem rch_become : Rch C 1 c (becomeM C c k s) := by
  unfold becomeM
  split
  · exact .trans (.note c _ _ _ _) rch_idle
  · split
    · exact .trans (.note c _ _ _ _) rch_anew
    · split
      · exact .note c _ _ _ _
      · exact .note c _ _ _ _
end
end Go.Proofs.YtacmaamllpiloaaGreat
