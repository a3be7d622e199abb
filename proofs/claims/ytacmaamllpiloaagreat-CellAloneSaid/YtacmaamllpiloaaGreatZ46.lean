import Derived.Test.YtacmaamllpiloaaGreatGA
import Derived.Test.YtacmaamllpiloaaGreatHX
import Derived.Test.YtacmaamllpiloaaGreatZ43
import Derived.KernelRfl
namespace Go.Proofs.YtacmaamllpiloaaGreat
open Go Go.Wk
def EvC.re (p : Int) (e : EvC) : EvC := { e with part := p }
def CM.re (c : CM) (p : Int) : CM := { c with evs := c.evs.map (EvC.re p) }
def CC.re (C : CC) (p : Int) : CC := { C with part := p }
section
variable {C : CC} {c : CM} {k p win call code value kind st i n : Int} {s : StepC} {b : List UInt8} {cold : Bool} {l : List Int}
theorem re_ite {a : Prop} [Decidable a] {x y : CM} : (if a then x else y).re p = if a then x.re p else y.re p := by split <;> rfl
theorem re_mk {mode win : Int} {pos rest addr : List Int} {data : List (List UInt8)} {done : List Bool} {tb : Tb} {mem : List RegM} {pts : List AP} {obs : ObM} {slk : Option SlM} :
  CM.mk mode win pos rest addr data done tb mem pts obs slk (c.re p).evs = (CM.mk mode win pos rest addr data done tb mem pts obs slk c.evs).re p := rfl
theorem re1 : (c.re p).mode = c.mode := rfl
theorem re2 : (c.re p).win = c.win := rfl
theorem re3 : (c.re p).pos = c.pos := rfl
theorem re4 : (c.re p).rest = c.rest := rfl
theorem re5 : (c.re p).addr = c.addr := rfl
theorem re6 : (c.re p).data = c.data := rfl
theorem re7 : (c.re p).done = c.done := rfl
theorem re8 : (c.re p).tb = c.tb := rfl
theorem re9 : (c.re p).mem = c.mem := rfl
theorem re10 : (c.re p).pts = c.pts := rfl
theorem re11 : (c.re p).obs = c.obs := rfl
theorem re12 : (c.re p).slk = c.slk := rfl
theorem re13 : (C.re p).conf = C.conf := rfl
theorem re14 : (C.re p).progs = C.progs := rfl
theorem re_note : noteM (C.re p) (c.re p) k call code value = (noteM C c k call code value).re p := by
 unfold noteM CM.re
 simp only [List.map_append]
 rfl
theorem re_to : toM (C.re p) (c.re p) k i = (toM C c k i).re p := rfl
theorem re_start : startM (C.re p) (c.re p) k win = (startM C c k win).re p := by
 by_cases h : ix c.done k = true
 ·have e1 : startM (C.re p) (c.re p) k win = parkM { toM (C.re p) (c.re p) k 0 with tb := (toM (C.re p) (c.re p) k 0).tb.start k win } k := if_pos h
  have e2 : startM C c k win = parkM { toM C c k 0 with tb := (toM C c k 0).tb.start k win } k := if_pos h
  rw [e1, e2]
  rfl
 ·have e1 : startM (C.re p) (c.re p) k win = { toM (C.re p) (c.re p) k 0 with tb := (toM (C.re p) (c.re p) k 0).tb.start k win } := if_neg h
  have e2 : startM C c k win = { toM C c k 0 with tb := (toM C c k 0).tb.start k win } := if_neg h
  rw [e1, e2]
  rfl
theorem re_set : setTM (c.re p) k st = (setTM c k st).re p := rfl
theorem re_rest : restM (c.re p) k = (restM c k).re p := rfl
theorem re_stop : ∀ n, stopTo (c.re p) n = (stopTo c n).re p
 | 0 => rfl
 | n + 1 => by
  unfold stopTo
  rw [re_stop n, re_set]
theorem re_idle : idleM (C.re p) (c.re p) = (idleM C c).re p := by
 unfold idleM
 simp only [re2, re3, re4, re5, re6, re7, re8, re9, re10, re11, re12, re14, re_mk, re_stop]
theorem re_starts : ∀ n, startTo (C.re p) (c.re p) win n = (startTo C c win n).re p
 | 0 => rfl
 | n + 1 => by
  unfold startTo
  rw [re_starts n, re_start]
theorem re_clear : clearM (C.re p) (c.re p) cold = (clearM C c cold).re p := rfl
theorem re_anew : anewM (C.re p) (c.re p) cold = (anewM C c cold).re p := by
 unfold anewM
 simp only [re_clear, re2, re14, re_stop, re_starts]
theorem re_fault : faultM (C.re p) (c.re p) k kind = (faultM C c k kind).re p := by
 unfold faultM
 simp only [re_note, re_set, re_start, re_anew, re_idle, re_ite, re2, re13]
theorem re_end : endM (C.re p) (c.re p) k call code value = (endM C c k call code value).re p := by
 unfold endM
 simp only [re_note, re_set]
theorem re_gets : getsM (C.re p) (c.re p) k call b = (getsM C c k call b).re p := by
 unfold getsM
 simp only [re1, re2, re3, re4, re5, re6, re7, re8, re9, re10, re11, re12, re_mk, re_end]
theorem re_first {w : Int} : firstM (c.re p) call w = firstM c call w := rfl
theorem re_pick : pickM (c.re p) = pickM c := rfl
theorem re_of : ofC (c.re p) k = ofC c k := rfl
theorem re_send {q : Int} : ∀ n c, sendTo (C.re p) q n (c.re p) = (sendTo C q n c).re p
 | 0, _ => rfl
 | n + 1, c => by
  rw [sendTo.eq_2, sendTo.eq_2]
  simp only [re_ite, re_first, re1, re2, re3, re4, re5, re6, re7, re8, re9, re10, re11, re12, re_mk, re_end, re_send n]
theorem re_recv {q : Int} : ∀ n c, recvTo (C.re p) q n (c.re p) = (recvTo C q n c).re p
 | 0, _ => rfl
 | n + 1, c => by
  rw [recvTo.eq_2, recvTo.eq_2]
  simp only [re_ite, re_first, re1, re2, re3, re4, re5, re6, re7, re8, re9, re10, re11, re12, re_mk, re_gets, re_recv n]
theorem re_ports : ∀ n, portsTo (C.re p) (c.re p) n = (portsTo C c n).re p
 | 0 => rfl
 | n + 1 => by
  rw [portsTo.eq_2, portsTo.eq_2, re_ports n, re_send, re_recv]
theorem re_settle : ∀ n c, settleTo (C.re p) n (c.re p) = (settleTo C n c).re p
 | 0, _ => rfl
 | n + 1, c => by
  rw [settleTo.eq_2, settleTo.eq_2]
  simp only [re_ite, re_pick, re_of, re1, re_rest, re_fault, re_settle n]
theorem re_rel : ∀ n, relN (C.re p) (c.re p) l n = (relN C c l n).re p
 | 0 => rfl
 | n + 1 => by
  rw [relN.eq_2, relN.eq_2, re_rel n, re_note]
theorem re_miss : ∀ n, missTo (C.re p) (c.re p) l n = (missTo C c l n).re p
 | 0 => rfl
 | n + 1 => by
  rw [missTo.eq_2, missTo.eq_2, re_miss n]
  simp only [re_ite, re1, re_fault]
theorem re_due : ∀ n, dueM (C.re p) (c.re p) l n = (dueM C c l n).re p
 | 0 => rfl
 | n + 1 => by
  rw [dueM.eq_2, dueM.eq_2, re_due n]
  simp only [re8, re_end]
  rfl
theorem re_win : winM (C.re p) (c.re p) = (winM C c).re p := rfl
theorem re_begin2 : begin2 (C.re p) (c.re p) = (begin2 C c).re p := by
 unfold begin2
 simp only [re1, re2, re3, re4, re5, re6, re7, re8, re9, re10, re11, re12, re_mk, re_rel, re_miss, re_ports, re_due, re_settle]
theorem re_begin : beginM (C.re p) (c.re p) = (beginM C c).re p := by
 unfold beginM
 simp only [re_win, re_ite, re1, re_begin2]
theorem re_who : whoM (c.re p) = whoM c := rfl
theorem re_want : wantM (c.re p) = wantM c := rfl
theorem re_wait : waitM (C.re p) (c.re p) k s b = (waitM C c k s b).re p := by
 unfold waitM
 simp only [re_ite, re_note, re1, re2, re3, re4, re5, re6, re7, re8, re9, re10, re11, re12, re_mk]
theorem re_bad : badM (C.re p) (c.re p) k s = (badM C c k s).re p := by
 unfold badM
 simp only [re_note, re_fault]
theorem re_from : fromM (C.re p) (c.re p) k s n = (fromM C c k s n).re p := by
 unfold fromM
 simp only [re_ite, re_note, re_bad]
theorem re_fromB : fromB (c.re p) s n = fromB c s n := rfl
theorem re_intoB : intoB (c.re p) s n = intoB c s n := rfl
theorem re_got : gotM (C.re p) (c.re p) k s b = (gotM C c k s b).re p := by
 unfold gotM
 simp only [re_note, re1, re2, re3, re4, re5, re6, re7, re8, re9, re10, re11, re12, re_mk]
theorem re_sleep : sleepM (C.re p) (c.re p) k s = (sleepM C c k s).re p := by
 unfold sleepM
 simp only [re_ite, re_note, re_set, re_rest, re1, re2, re3, re4, re5, re6, re7, re8, re9, re10, re11, re12, re13, re_mk]
theorem re_others : othersM (C.re p) (c.re p) k s = (othersM C c k s).re p := by
 unfold othersM
 simp only [re_ite, re_note, re_set, re_start, re1, re2, re3, re4, re5, re6, re7, re8, re9, re10, re11, re12, re14, re_mk]
theorem re_port : portM2 (C.re p) (c.re p) k s = (portM2 C c k s).re p := by
 unfold portM2
 simp only [re_ite, re_note, re_wait, re_got, re_bad, re_from, re_fromB, re_intoB, re1, re2, re3, re4, re5, re6, re7, re8, re9, re10, re11, re12, re_mk]
theorem re_flag {w : Int} : ∀ n c, flagTo (C.re p) w n (c.re p) = (flagTo C w n c).re p
 | 0, _ => rfl
 | n + 1, c => by
  rw [flagTo.eq_2, flagTo.eq_2]
  simp only [re_ite, re_first, re_end, re_flag n]
theorem re_signal : signalM (C.re p) (c.re p) k s = (signalM C c k s).re p := by
 unfold signalM
 simp only [re_ite, re_note, re_wait, re_end, re_flag, re_first, re1, re2, re3, re4, re5, re6, re7, re8, re9, re10, re11, re12, re_mk]
theorem re_refill {q : Int} : refillM (C.re p) (c.re p) q = (refillM C c q).re p := by
 unfold refillM
 simp only [re_ite, re_first, re_end, re1, re2, re3, re4, re5, re6, re7, re8, re9, re10, re11, re12, re_mk]
theorem re_pool : poolCM (C.re p) (c.re p) k s = (poolCM C c k s).re p := by
 unfold poolCM
 simp only [re_ite, re_note, re_wait, re_got, re_gets, re_bad, re_from, re_fromB, re_intoB, re_first, re_refill, re1, re2, re3, re4, re5, re6, re7, re8, re9, re10, re11, re12, re13, re_mk]
theorem re_slate {w : Int} : ∀ n c, slateTo (C.re p) w b n (c.re p) = (slateTo C w b n c).re p
 | 0, _ => rfl
 | n + 1, c => by
  rw [slateTo.eq_2, slateTo.eq_2]
  simp only [re_ite, re_first, re_gets, re_slate n]
theorem re_slateC : slateCM (C.re p) (c.re p) k s = (slateCM C c k s).re p := by
 unfold slateCM
 simp only [re_ite, re_note, re_wait, re_got, re_bad, re_from, re_fromB, re_intoB, re_slate, re1, re2, re3, re4, re5, re6, re7, re8, re9, re10, re11, re12, re13, re_mk]
theorem re_memory : memoryM (C.re p) (c.re p) k s = (memoryM C c k s).re p := by
 unfold memoryM
 simp only [re_ite, re_note, re_bad, re1, re2, re3, re4, re5, re6, re7, re8, re9, re10, re11, re12, re_mk]
theorem re_become : becomeM (C.re p) (c.re p) k s = (becomeM C c k s).re p := by
 unfold becomeM
 simp only [re_ite, re_note, re_idle, re_anew]
theorem re_call : callCM (C.re p) (c.re p) k s = (callCM C c k s).re p := by
 unfold callCM
 simp only [re_ite, re_note, re_sleep, re_others, re_port, re_signal, re_pool, re_slateC, re_fault, re_memory, re_become, re1, re2]
theorem re_ran : ranM (C.re p) (c.re p) k n = (ranM C c k n).re p := by
 unfold ranM
 simp only [re_ite, re_call, re_to, re_settle, re1, re2, re3, re4, re5, re6, re7, re8, re9, re10, re11, re12, re14, re_mk]
theorem re_ranA : ranA (C.re p) (c.re p) n = (ranA C c n).re p := by
 unfold ranA
 simp only [re_ite, re_pick, re_ran, show ranN (c.re p) n = ranN c n from rfl]
theorem re_cyc : cycM (C.re p) (c.re p) = (cycM C c).re p := by
 unfold cycM
 rw [re12]
 rcases Option.eq_none_or_eq_some c.slk with h | ⟨m, h⟩
 ·rw [h]
 ·rw [h]
  simp only [re_ite, re_who, re_ran, re1, re2, re3, re4, re5, re6, re7, re8, re9, re10, re11, re_mk]
theorem re_cycTo : ∀ n, cycTo (C.re p) (c.re p) n = (cycTo C c n).re p
 | 0 => rfl
 | n + 1 => by
  unfold cycTo
  rw [re_cycTo n, re_cyc]
theorem re_new : newM (C.re p) = (newM C).re p := by
 unfold newM
 exact re_starts (c := baseM C) C.progs.length
end
end Go.Proofs.YtacmaamllpiloaaGreat
namespace Go.Proofs.YtacmaamllpiloaaGreat
open Go Go.Wk
def newL (C : CC) : Int := leftA (newSl C.conf).room (newSl C.conf).ms
section
variable {C : CC} {c : CM} {k p : Int} {b : List UInt8} {ps : List AP}
theorem newS_open {xs : List ProcC} {k : Int} : (ix (xs.map newS) k).2 = false := by
 rcases ix_cases (xs.map newS) k with h | h
 ·obtain ⟨x, _, e⟩ := List.mem_map.1 h
  rw [← e]; rfl
 ·rw [h]; rfl
theorem okSl_conf (hc : okC C) : okSl (newSl C.conf) := okSl_new hc.cap hc.cost (by rw [hc.np]; have := hc.n8; omega)
theorem win_inv (hc : okC C) (hi : Inv C c) : Inv C (winM C c) := ⟨okM_win hi.ok, dP_win, hi.p, okS_win hc, fun m hm => by
 have : some (newSl C.conf) = some m := hm
 cases this
 exact okSl_conf hc, fun m hm k _ hd => by
 have : some (newSl C.conf) = some m := hm
 cases this
 rw [show (ix (newSl C.conf).ms k).2 = false from newS_open] at hd
 cases hd⟩
theorem begin_rch (hc : okC C) (hi : Inv C c) : Rch C 444 (winM C c) (beginM C c) := by
 unfold beginM
 split
 ·exact rch_begin2 hc (win_inv hc hi).ok
 ·exact .le (.refl _) (by omega)
theorem begin_inv (hc : okC C) (hi : Inv C c) (h1 : okR1 c) : Inv C (beginM C c) ∧ okR1 (beginM C c) ∧ (beginM C c).evs.length ≤ c.evs.length + 444 ∧ roomM (beginM C c) = (newSl C.conf).room ∧ leftM (beginM C c) ≤ newL C := by
 have hr := begin_rch hc hi
 have hw := win_inv hc hi
 refine ⟨hr.inv hc hw, hr.r1 (show okR1 (winM C c) from h1), hr.ev, hr.room, ?_⟩
 refine Int.le_trans (left_lef (hr.inv hc hw).sl).2.1 (Int.le_trans (hr.lef hc hw.ok hw.S hw.sl) (Int.le_of_eq ?_))
 show (if (newSl C.conf).room < sumN (newSl C.conf).ms then (newSl C.conf).room else sumN (newSl C.conf).ms) = newL C
 exact (left_sum (okSl_conf hc)).symm
theorem del_c : (delA ps k b).map AP.c = ps.map AP.c := by
 unfold delA
 split
 ·rename_i h
  exact set_c (canA_in h) rfl
 ·split
  ·rename_i h
   split
   ·exact set_c (canA_in h) rfl
   ·exact set_c (canA_in h) rfl
  ·rfl
theorem drain_c : (drainA ps k).map AP.c = ps.map AP.c := by
 unfold drainA
 split
 ·rename_i h
  exact set_c (canA_in h) rfl
 ·split
  ·rename_i h
   split
   ·exact set_c (canA_in h) rfl
   ·rfl
  ·rfl
theorem pts_inv (hc : okC C) (hi : Inv C c) (h1 : okR1 c) (h : ps.map AP.c = c.pts.map AP.c) : Inv C { c with pts := ps } ∧ okR1 { c with pts := ps } := ⟨(Rch.pts c ps h).inv hc hi, h1⟩
theorem base_inv (hc : okC C) : Inv C (baseM C) := by
 have hn : ∀ m : SlM, (baseM C).slk = some m → False := fun m hm => by cases (show (none : Option SlM) = some m from hm)
 refine ⟨okM_base hc, fun k h0 hk => ?_, ?_, fun m hm => (hn m hm).elim, fun m hm => (hn m hm).elim, fun m hm => (hn m hm).elim⟩
 ·have h1 : ix (List.replicate C.progs.length false) k = true := hk
  have h2 : ix (List.replicate C.progs.length false) k = false := by
   unfold ix
   rw [List.getD_eq_getElem?_getD, List.getElem?_replicate]
   split <;> rfl
  rw [h1] at h2
  cases h2
 ·show (newA C.conf.ports.d).map AP.c = _
  unfold newA
  rw [List.map_map]
  exact List.map_id _
theorem start_rest {win : Int} : (startM C c k win).rest = (toM C c k 0).rest := by
 unfold startM
 simp only
 split <;> rfl
theorem starts_rest (n : Nat) (hn : n ≤ c.rest.length) {win : Int} : (startTo C c win n).rest.length = c.rest.length ∧ ∀ j : Nat, j < n → 1 ≤ ix (startTo C c win n).rest (j : Int) ∧ ix (startTo C c win n).rest (j : Int) ≤ 1073741824 := by
 induction n with
 | zero => exact ⟨rfl, fun j hj => absurd hj (Nat.not_lt_zero _)⟩
 | succ n ih =>
  obtain ⟨h1, h2⟩ := ih (by omega)
  have e : (startTo C c win (n + 1)).rest = (startTo C c win n).rest.set (n : Int).toNat (clampC (ix (ix C.progs (n : Int)) (atM (ix C.progs (n : Int)) 0)).cycles) := by
   show (startM C (startTo C c win n) (n : Int) win).rest = _
   rw [start_rest]
   rfl
  rw [e]
  refine ⟨by rw [List.length_set]; exact h1, fun j hj => ?_⟩
  have hr : inR (startTo C c win n).rest (n : Int) := ⟨by omega, by omega⟩
  rw [ix_setR hr (by omega)]
  split
  ·exact clampC_in
  ·exact h2 j (by omega)
theorem new_inv (hc : okC C) : Inv C (newM C) ∧ okR1 (newM C) ∧ (newM C).evs = [] := by
 have hr : Rch C 0 (baseM C) (newM C) := rch_startTo _ (Nat.le_refl _)
 have hl : (baseM C).rest.length = C.progs.length := List.length_replicate
 obtain ⟨h1, h2⟩ := starts_rest (C := C) (c := baseM C) (win := 0) C.progs.length (by omega)
 refine ⟨hr.inv hc (base_inv hc), fun x hx => ?_, ?_⟩
 ·obtain ⟨j, hj, e⟩ := List.mem_iff_getElem.1 hx
  have h3 := h2 j (by rw [← hl, ← h1]; exact hj)
  have h4 : ix (newM C).rest (j : Int) = x := by
   unfold ix
   rw [Int.toNat_natCast, List.getD_eq_getElem?_getD, List.getElem?_eq_getElem hj, e]
   rfl
  rw [← h4]; exact h3
 ·have := hr.ev
  exact List.length_eq_zero_iff.1 (Nat.le_zero.1 this)
end
end Go.Proofs.YtacmaamllpiloaaGreat
namespace Go.Proofs.YtacmaamllpiloaaGreat
open Go Go.Wk
set_option maxHeartbeats 3200000
set_option maxRecDepth 100000
def delTo (ps : List AP) (p : Int) (xs : List (SL UInt8)) : Nat → List AP
 | 0 => ps
 | n + 1 => delA (delTo ps p xs n) p (ix xs (n : Int)).d
theorem ix_p {α : Type} [Inhabited α] {p : α → Prop} {xs : List α} {k : Int} (h : ∀ x ∈ xs, p x) (hk : inR xs k) : p (ix xs k) := h _ (List.mem_of_getElem? (ix_some hk.1 hk.2))
structure okLife (l : LifeD) : Prop where
 p : okPart l.conf
 c : l.conf.cap ≤ 400
 s : l.progs.d.length ≤ 20 ∧ ∀ x ∈ l.progs.d, x.d.length ≤ 100
 w : ∀ j : Nat, j < l.wins.d.length → j < 12 → (ix l.wins.d (j : Int)).msgs.d.length ≤ 20 ∧ ∀ x ∈ (ix l.wins.d (j : Int)).msgs.d, x.d.length ≤ 64
def lifeC (l : LifeD) (part : Int) : CC := ⟨l.conf, part, progsM l.progs.d l.conf.procs.d.length⟩
abbrev lifeL (l : LifeD) : List Asrt := [sl true l.conf.regions.s.v l.conf.regions.d, sl true l.conf.procs.s.v l.conf.procs.d, sl true l.conf.ports.s.v l.conf.ports.d, sl true l.conf.sems.s.v l.conf.sems.d, sl true l.conf.pools.s.v l.conf.pools.d, sl true l.conf.slates.s.v l.conf.slates.d, sl true l.conf.acts.s.v l.conf.acts.d, sl true l.progs.s.v l.progs.d, fzl l.progs.d, sl true l.wins.s.v l.wins.d, fzl l.wins.d]
def arrM (c : CM) (x : WinL) : CM := { c with pts := delTo c.pts x.port x.msgs.d x.msgs.d.length }
def drM (c : CM) (o : Int) : CM := { c with pts := drainA c.pts o }
section
variable {l : LifeD} {part : Int} {C : CC} {c : CM} {w : CW} {gs : List TaskG} {w2 : RW} {x : WinL} {o : Int}
theorem life_p : (lifeC l part).progs = progsM l.progs.d (lifeC l part).progs.length := by
 show progsM _ _ = progsM _ (progsM _ _).length
 rw [progsM_len]
theorem life_c (h : okLife l) (hs : ∀ x ∈ l.progs.d, ∀ s ∈ x.d, s.ok) : okC (lifeC l part) := by
 have hl : (lifeC l part).progs.length = l.conf.procs.d.length := progsM_len
 refine ⟨by rw [hl]; exact h.p.n1, by rw [hl]; exact h.p.n8, hl.symm, fun p hp => ?_, by have := h.c; show l.conf.cap ≤ _; omega, fun x hx => by have := h.p.p x hx; omega, fun x hx => (h.p.b.1 x hx).2, fun x hx => by have := (h.p.b.1 x hx).1; omega, fun x hx => by have := h.p.b.2 x hx; omega, fun x hx => by have := (h.p.o x hx).1; omega, fun x hx => (h.p.o x hx).2, h.p.r⟩
 obtain ⟨k, hk, rfl⟩ := List.mem_map.1 hp
 unfold progM
 split
 ·rename_i hk
  have hm : ix l.progs.d (k : Int) ∈ l.progs.d := List.mem_of_getElem? (ix_some (by omega) (by omega))
  have h1 := h.s.2 _ hm
  exact ⟨hk.2, by omega, hs _ hm⟩
 ·refine ⟨by simp [idleP], by decide, fun s hs => ?_⟩
  rw [List.mem_singleton.1 hs]
  exact ⟨by decide, by decide, by decide, by decide⟩
theorem del_toc {ps : List AP} {p : Int} {xs : List (SL UInt8)} : ∀ n, (delTo ps p xs n).map AP.c = ps.map AP.c
 | 0 => rfl
 | n + 1 => by
  unfold delTo
  rw [del_c, del_toc n]
theorem arr_inv (hc : okC C) (hi : Inv C c) (h1 : okR1 c) : Inv C (arrM c x) ∧ okR1 (arrM c x) := pts_inv hc hi h1 (del_toc _)
theorem dr_inv (hc : okC C) (hi : Inv C c) (h1 : okR1 c) : Inv C (drM c o) ∧ okR1 (drM c o) := pts_inv hc hi h1 drain_c
theorem rel_arr (h : Rel C c w gs) : Rel C (arrM c x) w gs := rel_pts h
theorem rel_dr (h : Rel C c w gs) : Rel C (drM c o) w gs := rel_pts h
end
attribute [local irreducible] BrK GenK EGenK EUnitK CallK FnK CallV GuardO GuardC CondW opX opK opKc chkR eqR seqK blkK endL WL WD W LoopW BinK Tr drewK resL PickK NotK NilK ExtrK getK Instr.storeAt Instr.loadAt Instr.fieldAt Instr.indexAt Instr.lookup Instr.mapUpdate Instr.box Instr.alloc Instr.build Instr.buildSlice Instr.makeSlice Instr.makeMap Instr.sliceAt Instr.field Instr.index Instr.makeInterface Instr.typeAssert Builtin.len_ Builtin.append_ Builtin.cap_ Builtin.min_ Builtin.max_ Builtin.copy_ Builtin.clear_ convert binOp mp blk rob sl sep ex fact old
attribute [local irreducible] portX rportX
section
variable {b r : Nat} {C C2 : CC} {mode win mode2 win2 : Int} {w : CW} {w2 : RW} {ps ps2 : List AP} {x : WinL} {c c2 : CM} {gs : List TaskG}
theorem arrive0_ok (hl : x.msgs.d.length ≤ 20) (hm : ∀ y ∈ x.msgs.d, y.d.length ≤ 64) : Trip Tryz.prog 21 [ptr b, ptr r, .agg (En.enc x).toArray].toArray [cellB b C mode win w, portX w.pts ps, rcellB r C2 mode2 win2 w2, rportX w2.pts ps2, sl true x.msgs.s.v x.msgs.d, fzl x.msgs.d]
  fun v l' => v = .tuple #[] ∧ l' = [cellB b C mode win w, portX w.pts (delTo ps x.port x.msgs.d x.msgs.d.length), rcellB r C2 mode2 win2 w2, rportX w2.pts (delTo ps2 x.port x.msgs.d x.msgs.d.length)] := by
 intro F K hK
 simp only [List.cons_append, List.nil_append] at hK ⊢
 obtain ⟨p, msgs, o⟩ := x
 simp only at hl hm hK ⊢
 (refine Tr.enter (rs := []) mixed fn21 rfl (by simp +arith [Tryz.ntmps21]) fun u => ?_; simp only [cd21, Tryz.f21])
 have hX := @pl21.eq_def; repeat' (first | refine S.x ?_ | intro hb | fail)
 refine Tr.loopE (α := Nat) [6] [0, 1, 5] (fun k => [.int .i64 k]) (fun k => [cellB b C mode win w, portX w.pts (delTo ps p msgs.d k), rcellB r C2 mode2 win2 w2, rportX w2.pts (delTo ps2 p msgs.d k)]) (fun k => k ≤ msgs.d.length) (fun k => msgs.d.length - k) 0 S.T rfl (Nat.zero_le _) fun k u hk => ?_
 simp only [List.cons_append, List.nil_append]
 by_cases hin : k < msgs.d.length
 ·have hw := wrapSucc (k := k) (by omega)
  have hle : (ix msgs.d (k : Int)).d.length ≤ 300 := by
   have := ix_p (p := fun y : SL UInt8 => y.d.length ≤ 64) hm ⟨by omega, by omega⟩ (k := (k : Int))
   omega
  have hX := @delTo.eq_2
  have hX := And.intro @pl21.eq_def hw; repeat' (first | rintro _ _ ⟨rfl, rfl⟩ | (refine G.call 65 ?_; refine S.c ?_ (h := xdel_ok hle)) | (refine G.call 66 ?_; refine S.c ?_ (h := ydel_ok)) | refine S.x ?_ | (refine G.call 13 ?_; refine S.c ?_ (h := cports_ok)) | intro hb | fail)
  all_goals exact S.R (k + 1)
 ·have hke : k = msgs.d.length := by omega
  subst hke
  have hX := @pl21.eq_def; repeat' (first | refine S.x ?_ | fail)
  all_goals exact S.L
theorem arrive_ok (hl : x.msgs.d.length ≤ 20) (hm : ∀ y ∈ x.msgs.d, y.d.length ≤ 64) : Trip Tryz.prog 21 [ptr b, ptr r, .agg (En.enc x).toArray].toArray (cellL b C c w gs ++ rcellL r C2 c2 w2 ++ [sl true x.msgs.s.v x.msgs.d, fzl x.msgs.d])
  fun v l' => v = .tuple #[] ∧ l' = cellL b C (arrM c x) w gs ++ rcellL r C2 (arrM c2 x) w2 := by
 intro F K hK
 simp only [List.cons_append, List.nil_append] at hK ⊢
 refine S.c ?_ (h := arrive0_ok hl hm)
 rintro _ _ ⟨rfl, rfl⟩
 refine Tr.fin hK ⟨rfl, rfl⟩ ?_
 have hX := @arrM.eq_def
 simp only [List.cons_append, List.nil_append]
 exact S.E
end
end Go.Proofs.YtacmaamllpiloaaGreat
namespace Go.Proofs.YtacmaamllpiloaaGreat
open Go Go.Wk
def nilV : SV := ⟨none, 0, 0⟩
def confW (s2 s7 : SV) : PartD := ⟨⟨nilV, []⟩, ⟨s2, [⟨0, 0, 5⟩]⟩, ⟨nilV, []⟩, ⟨nilV, []⟩, 0, ⟨nilV, []⟩, ⟨nilV, []⟩, 20, 0, 0, ⟨s7, [0, 0, 0, 0, 0]⟩⟩
def workC (s2 s7 : SV) : CC := ⟨confW s2 s7, 3, [[⟨4, 8, 0, 0, 0, 0⟩]]⟩
def workB (s2 s7 : SV) : CM := beginM (workC s2 s7) (newM (workC s2 s7))
def workD (s2 s7 : SV) : CM := ranA (workC s2 s7) (workB s2 s7) 9
def workE (s2 s7 : SV) : CM := ranA (workC s2 s7) (workD s2 s7) 9
section
variable {s2 s7 : SV}
theorem work_c : okC (workC s2 s7) := by
 refine ⟨by show 1 ≤ 1; decide, by show 1 ≤ 8; decide, rfl, fun p hp => ?_, by show (20 : Int) ≤ 1000000000000; decide, fun x hx => ?_, fun x hx => (by cases hx), fun x hx => (by cases hx), fun x hx => (by cases hx), fun x hx => (by cases hx), fun x hx => (by cases hx), fun x hx => (by cases hx)⟩
 ·have e : p = [⟨4, 8, 0, 0, 0, 0⟩] := List.mem_singleton.1 hp
  subst e
  refine ⟨by simp, by show 1 ≤ 1000000; decide, fun s hs => ?_⟩
  have e : s = ⟨4, 8, 0, 0, 0, 0⟩ := List.mem_singleton.1 hs
  subst e
  exact ⟨by decide, by decide, by decide, by decide⟩
 ·have e : x = ⟨0, 0, 5⟩ := List.mem_singleton.1 hx
  subst e
  decide
theorem work_p {t : SV} : (workC s2 s7).progs = progsM [⟨t, [⟨4, 8, 0, 0, 0, 0⟩]⟩] (workC s2 s7).progs.length := rfl
theorem work_1 : wantM (workB s2 s7) = 4 := by kernel_rfl
theorem work_2 : ranR (workB s2 s7) 9 = 4 := by kernel_rfl
theorem work_3 : ranR (workD s2 s7) 9 = 1 := by kernel_rfl
theorem work_4 : wantM (workE s2 s7) = 0 := by kernel_rfl
theorem work_5 : (workE s2 s7).evs = [⟨3, 0, 0, 8, 0, 0⟩, ⟨3, 0, 0, -1, 0, 0⟩] := by kernel_rfl
end
end Go.Proofs.YtacmaamllpiloaaGreat
