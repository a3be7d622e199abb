import Derived.Test.YtacmaamllpiloaaGreatZ21
namespace Go.Proofs.YtacmaamllpiloaaGreat
open Go Go.Wk Tryz
set_option maxHeartbeats 3200000
set_option maxRecDepth 100000
section
attribute [local irreducible] BrK Xq Xt Xv XI FnK XZ Xw XC XV opX opK Yq Yk eqR Yj Yo Ys WL WD W X3 XO Tr drewK Ya X4 Yw Yv X1 YB mp blk rob sl sep ex fact old
section
attribute [local irreducible] YZ QR Wr
theorem xoF {u0 : Value} {c : YF} [hd : DeA u0 c] (hn : c.procs.d.length ≤ 100000) : Xb prog 22 #[u0] [sl true c.procs.s.v c.procs.d]
  fun v l' => ∃ (b : Nat) (s1 s2 : SV), v = .pointer (some ⟨b, 0, none⟩) ∧ l' = [xbJ b (if 0 < c.cap then c.cap else 0) s1 s2, sl false s1.v (Jc (c.procs.d.map Jj)), sl false s2.v (Zp (c.procs.d.map Jj))] := by
 obtain rfl := hd.h
 intro F K hK
 simp only [ap]
 obtain ⟨rm, hrm⟩ : ∃ rm, rm = (if 0 < c.cap then c.cap else 0) := ⟨_, rfl⟩
 rw [← hrm] at hK
 have l0 : Jc ((c.procs.d.take 0).map Jj) = [] := rfl
 have l1 : Zp ((c.procs.d.take 0).map Jj) = [] := rfl
 refine S.I fun u => ?_
 by_cases hc : 0 < c.cap
 ·rw [if_pos hc] at hrm
  subst hrm
  repeat' (first | intro (nb : Nat) | refine S.x ?_ | fail)
  refine Tr.loopE (α := Nat × SV × SV) [4] [1, 2, 3] (fun x => [.int .i64 x.1]) (fun x => [xbJ nb c.cap x.2.1 x.2.2, sl false x.2.1.v (Jc ((c.procs.d.take x.1).map Jj)), sl false x.2.2.v (Zp ((c.procs.d.take x.1).map Jj))]) (fun x => x.1 ≤ c.procs.d.length) (fun x => c.procs.d.length - x.1) (0, ⟨none, 0, 0⟩, ⟨none, 0, 0⟩) (by simp only [l0, l1]; exact S.T) rfl (Nat.zero_le _) fun x u hk => ?_
  obtain ⟨k, s1, s2⟩ := x
  simp only at hk ⊢
  have hl1 : (Jc ((c.procs.d.take k).map Jj)).length = k := by simp; omega
  have hl2 : (Zp ((c.procs.d.take k).map Jj)).length = k := by simp; omega
  by_cases hin : k < c.procs.d.length
  ·have hw := Xo (k := k) S.o
   have hz1 : Jc ((c.procs.d.take (k + 1)).map Jj) = Jc ((c.procs.d.take k).map Jj) ++ [if 0 < (ix c.procs.d (k : Int)).cost then (ix c.procs.d (k : Int)).cost else 0] := by rw [Yz hin, List.map_append]; simp [Jj]
   have hz2 : Zp ((c.procs.d.take (k + 1)).map Jj) = Zp ((c.procs.d.take k).map Jj) ++ [false] := by rw [Yz hin, List.map_append]; simp [Jj]
   by_cases hneg : (ix c.procs.d (k : Int)).cost < 0
   ·rw [if_neg S.o] at hz1
    have hX := hw; repeat' (first | intro (sv : SV) | refine S.x ?_ | intro hb | fail)
    all_goals
     rename_i s6 _
     exact S.R (k + 1, s6, sv)
   ·have hcc : (if 0 < (ix c.procs.d (k : Int)).cost then (ix c.procs.d (k : Int)).cost else 0) = (ix c.procs.d (k : Int)).cost := by split <;> omega
    rw [hcc] at hz1
    clear hcc
    have hX := hw; repeat' (first | intro (sv : SV) | refine S.x ?_ | intro hb | fail)
    all_goals
     rename_i s6 _
     exact S.R (k + 1, s6, sv)
  ·have hke : k = c.procs.d.length := by omega
   have ht : c.procs.d.take k = c.procs.d := by rw [hke]; exact List.take_length
   rw [ht]
   repeat' (first | refine S.x ?_ | fail)
   all_goals exact Tr.fin hK ⟨_, s1, s2, rfl, rfl⟩ S.E
 ·rw [if_neg hc] at hrm
  subst hrm
  repeat' (first | intro (nb : Nat) | refine S.x ?_ | fail)
  refine Tr.loopE (α := Nat × SV × SV) [4] [1, 2, 3] (fun x => [.int .i64 x.1]) (fun x => [xbJ nb 0 x.2.1 x.2.2, sl false x.2.1.v (Jc ((c.procs.d.take x.1).map Jj)), sl false x.2.2.v (Zp ((c.procs.d.take x.1).map Jj))]) (fun x => x.1 ≤ c.procs.d.length) (fun x => c.procs.d.length - x.1) (0, ⟨none, 0, 0⟩, ⟨none, 0, 0⟩) (by simp only [l0, l1]; exact S.T) rfl (Nat.zero_le _) fun x u hk => ?_
  obtain ⟨k, s1, s2⟩ := x
  simp only at hk ⊢
  have hl1 : (Jc ((c.procs.d.take k).map Jj)).length = k := by simp; omega
  have hl2 : (Zp ((c.procs.d.take k).map Jj)).length = k := by simp; omega
  by_cases hin : k < c.procs.d.length
  ·have hw := Xo (k := k) S.o
   have hz1 : Jc ((c.procs.d.take (k + 1)).map Jj) = Jc ((c.procs.d.take k).map Jj) ++ [if 0 < (ix c.procs.d (k : Int)).cost then (ix c.procs.d (k : Int)).cost else 0] := by rw [Yz hin, List.map_append]; simp [Jj]
   have hz2 : Zp ((c.procs.d.take (k + 1)).map Jj) = Zp ((c.procs.d.take k).map Jj) ++ [false] := by rw [Yz hin, List.map_append]; simp [Jj]
   by_cases hneg : (ix c.procs.d (k : Int)).cost < 0
   ·rw [if_neg S.o] at hz1
    have hX := hw; repeat' (first | intro (sv : SV) | refine S.x ?_ | intro hb | fail)
    all_goals
     rename_i s6 _
     exact S.R (k + 1, s6, sv)
   ·have hcc : (if 0 < (ix c.procs.d (k : Int)).cost then (ix c.procs.d (k : Int)).cost else 0) = (ix c.procs.d (k : Int)).cost := by split <;> omega
    rw [hcc] at hz1
    clear hcc
    have hX := hw; repeat' (first | intro (sv : SV) | refine S.x ?_ | intro hb | fail)
    all_goals
     rename_i s6 _
     exact S.R (k + 1, s6, sv)
  ·have hke : k = c.procs.d.length := by omega
   have ht : c.procs.d.take k = c.procs.d := by rw [hke]; exact List.take_length
   rw [ht]
   repeat' (first | refine S.x ?_ | fail)
   all_goals exact Tr.fin hK ⟨_, s1, s2, rfl, rfl⟩ S.E
end
end
structure SlM where
 room : Int
 ms : List (Int × Bool)
structure Vz (m : SlM) : Prop where
 r : 0 ≤ m.room ∧ m.room ≤ 1000000000000
 h : ∀ x ∈ m.ms, 0 ≤ x.1 ∧ x.1 ≤ 1000000000000
 l : m.ms.length ≤ 100000
def ofM (m : SlM) (k : Int) : Int := if inR m.ms k then (ix m.ms k).1 else 0
def X8 (m : SlM) (k n : Int) : SlM := ⟨m.room - spM m.room m.ms k n, VJ m.room m.ms k n⟩
def QT (m : SlM) (k : Int) : SlM := ⟨m.room, Qm m.ms k true⟩
def Z9 (c : YF) : SlM := ⟨if 0 < c.cap then c.cap else 0, c.procs.d.map Jj⟩
theorem xcQ {m : SlM} (h : Vz m) (k : Int) : 0 ≤ (ix m.ms k).1 ∧ (ix m.ms k).1 ≤ 1000000000000 := by
 rcases ZH m.ms k with hm | hm
 ·exact h.h _ hm
 ·rw [hm]; exact ⟨by decide, by decide⟩
theorem xnU {m : SlM} (h : Vz m) : ∀ k : Nat, k < m.ms.length → okI (ix m.ms (k : Int)).1 := fun k _ => by
 have := xcQ h (k : Int)
 unfold okI
 omega
theorem xa3 {m : SlM} {k n : Int} (h : Vz m) : Vz (X8 m k n) := by
 have hi := xcQ h k
 unfold X8 spM VJ
 split
 ·rename_i hr
  split
  ·exact ⟨by simpa using h.r, h.h, h.l⟩
  ·obtain ⟨m1, m2, m3, m4⟩ := @Qu n m.room (ix m.ms k).1
   have m5 := m4 S.o h.r.1 hi.1
   have := h.r
   refine ⟨by simp only; omega, fun x hx => ?_, by simpa using h.l⟩
   rcases List.mem_or_eq_of_mem_set hx with h' | rfl
   ·exact h.h x h'
   ·simp only; omega
 ·exact ⟨by simpa using h.r, h.h, h.l⟩
theorem xdK {m : SlM} {k : Int} (h : Vz m) : Vz (QT m k) := ⟨h.r, by
 unfold QT Qm
 split
 ·intro x hx
  rcases List.mem_or_eq_of_mem_set hx with h' | rfl
  ·exact h.h x h'
  ·exact xcQ h k
 ·exact h.h, by
 unfold QT Qm
 split
 ·simpa using h.l
 ·exact h.l⟩
theorem xdJ {c : YF} (h1 : c.cap ≤ 1000000000000) (h2 : ∀ x ∈ c.procs.d, x.cost ≤ 1000000000000) (h3 : c.procs.d.length ≤ 100000) : Vz (Z9 c) := ⟨by unfold Z9; simp only; split <;> omega, fun x hx => by
 obtain ⟨y, hy, rfl⟩ := List.mem_map.1 hx
 have := h2 y hy
 unfold Jj
 simp only
 split <;> omega, by simpa [Z9] using h3⟩
def xbz (b : Nat) (room : Int) (s : SV) (gs : List XU) : List Xc := [QF b room s, sl false s.v (gs.map XU.pt), fam Vx gs]
def slkX (b : Nat) (m : SlM) : Xc := pk (fun g : SV × List XU => xbz b m.room g.1 g.2) (fun g => g.2.map XU.mo = m.ms ∧ Vz m)
theorem Xd.slkX {b : Nat} {m : SlM} {s : SV} {gs : List XU} {d l l2 : List Xc} (h1 : gs.map XU.mo = m.ms) (h2 : Vz m) (h : Xd d l (xbz b m.room s gs ++ l2)) : Xd d l (Go.Proofs.YtacmaamllpiloaaGreat.slkX b m :: l2) :=
 Imp.trans h (Imp.pk (f := fun g : SV × List XU => xbz b m.room g.1 g.2) (p := fun g => g.2.map XU.mo = m.ms ∧ Vz m) (s, gs) ⟨h1, h2⟩)
def Vu (r : Nat) (m : SlM) (s1 s2 : SV) : List Xc := [xbJ r m.room s1 s2, sl false s1.v (Jc m.ms), sl false s2.v (Zp m.ms)]
def rslkX (r : Nat) (m : SlM) : Xc := pk (fun g : SV × SV => Vu r m g.1 g.2) (fun _ => Vz m)
theorem Xd.rslkX {r : Nat} {m : SlM} {s1 s2 : SV} {d l l2 : List Xc} (h2 : Vz m) (h : Xd d l (Vu r m s1 s2 ++ l2)) : Xd d l (Go.Proofs.YtacmaamllpiloaaGreat.rslkX r m :: l2) :=
 Imp.trans h (Imp.pk (f := fun g : SV × SV => Vu r m g.1 g.2) (p := fun _ => Vz m) (s1, s2) h2)
section
variable {gs : List XU} {m : SlM} {k n : Int}
theorem xqJ (h : gs.map XU.mo = m.ms) : gs.length = m.ms.length := by rw [← h, List.length_map]
theorem xvV (h : gs.map XU.mo = m.ms) : ofA gs k = ofM m k := by
 unfold ofA ofM
 rw [← h]
 simp only [Z6]
 split
 ·rename_i hr; rw [ixR hr]; rfl
 ·rfl
theorem xtN (h : gs.map XU.mo = m.ms) (hk : Vz m) : 0 ≤ (ix gs k).has ∧ (ix gs k).has ≤ 1000000000000 := by
 rcases ZH gs k with hm | hm
 ·exact hk.h (XU.mo (ix gs k)) (by rw [← h]; exact List.mem_map_of_mem hm)
 ·rw [hm]; exact ⟨by decide, by decide⟩
theorem xqE (h : gs.map XU.mo = m.ms) (hk : Vz m) : ∀ k : Nat, k < gs.length → okI (ix gs (k : Int)).has := fun k _ => by
 have := xtN (k := (k : Int)) h hk
 unfold okI
 omega
theorem xws (h : gs.map XU.mo = m.ms) : spA m.room gs k n = spM m.room m.ms k n ∧ (spG m.room gs k n).map XU.mo = VJ m.room m.ms k n := by
 unfold spA spG spM VJ
 rw [← h]
 simp only [Z6]
 split
 ·rename_i hr
  rw [ixR hr]
  split
  ·exact ⟨rfl, rfl⟩
  ·exact ⟨rfl, List.map_set⟩
 ·exact ⟨rfl, rfl⟩
theorem xtY (h : gs.map XU.mo = m.ms) : (xnO gs k).map XU.mo = Qm m.ms k true := by
 unfold xnO Qm
 rw [← h]
 simp only [Z6]
 split
 ·rename_i hr
  rw [ixR hr, List.map_set]
  rfl
 ·rfl
end
section
attribute [local irreducible] BrK Xq Xt Xv XI FnK XZ Xw XC XV opX opK Yq Yk eqR Yj Yo Ys WL WD W X3 XO Tr drewK Ya X4 Yw Yv X1 YB mp blk rob sl sep ex fact old
section
variable {b r : Nat} {m : SlM} {k n : Int} {c : YF}
theorem xkl : Xb prog 40 #[.pointer (some ⟨b, 0, none⟩), .int .i64 k] [slkX b m]
  fun v l' => v = .int .i64 (ofM m k) ∧ l' = [slkX b m] := by
 refine Xb.pk fun g hg F K hK => ?_
 obtain ⟨h1, h2⟩ := hg
 simp only [xbz, ap]
 refine S.c ?_ (h := xwr (gs := g.2))
 rintro _ _ ⟨rfl, rfl⟩
 refine Tr.fin hK ⟨by rw [xvV h1], rfl⟩ ?_
 refine Xd.slkX (s := g.1) h1 h2 ?_
 simp only [xbz, List.append_eq, ap]
 exact S.E
theorem xq0 : Xb prog 41 #[.pointer (some ⟨b, 0, none⟩)] [slkX b m]
  fun v l' => v = .int .i64 m.room ∧ l' = [slkX b m] := by
 refine Xb.pk fun g hg F K hK => ?_
 obtain ⟨h1, h2⟩ := hg
 simp only [xbz, ap]
 refine S.c ?_ (h := xqZ)
 rintro _ _ ⟨rfl, rfl⟩
 refine Tr.fin hK ⟨rfl, rfl⟩ ?_
 refine Xd.slkX (s := g.1) h1 h2 ?_
 simp only [xbz, List.append_eq, ap]
 exact S.E
theorem xop : Xb prog 42 #[.pointer (some ⟨b, 0, none⟩)] [slkX b m]
  fun v l' => v = .int .i64 (Wr m.room m.ms) ∧ l' = [slkX b m] := by
 refine Xb.pk fun g hg F K hK => ?_
 obtain ⟨h1, h2⟩ := hg
 simp only [xbz, ap]
 refine S.c ?_ (h := xg8 (gs := g.2) (xqE h1 h2) (by rw [xqJ h1]; exact h2.l))
 rintro _ _ ⟨rfl, rfl⟩
 refine Tr.fin hK ⟨by rw [h1], rfl⟩ ?_
 refine Xd.slkX (s := g.1) h1 h2 ?_
 simp only [xbz, List.append_eq, ap]
 exact S.E
theorem xmU : Xb prog 43 #[.pointer (some ⟨b, 0, none⟩), .int .i64 k, .int .i64 n] [slkX b m]
  fun v l' => v = .int .i64 (spM m.room m.ms k n) ∧ l' = [slkX b (X8 m k n)] := by
 refine Xb.pk fun g hg F K hK => ?_
 obtain ⟨h1, h2⟩ := hg
 simp only [xbz, ap]
 refine S.c ?_ (h := xnZ (gs := g.2) h2.r (xtN h1 h2))
 rintro _ _ ⟨rfl, rfl⟩
 have e := xws (k := k) (n := n) h1
 refine Tr.fin hK ⟨by rw [e.1], rfl⟩ ?_
 refine Xd.slkX (s := g.1) (m := X8 m k n) e.2 (xa3 h2) ?_
 simp only [xbz, X8, List.append_eq, ap]
 rw [e.1]
 exact S.E
theorem xrG : Xb prog 155 #[.pointer (some ⟨b, 0, none⟩), .int .i64 k] [slkX b m]
  fun v l' => ∃ n : Int, v = .int .i64 n ∧ l' = [slkX b (QT m k)] := by
 refine Xb.pk fun g hg F K hK => ?_
 obtain ⟨h1, h2⟩ := hg
 simp only [xbz, ap]
 refine S.c ?_ (h := xnG (gs := g.2) (xqE h1 h2) (by rw [xqJ h1]; exact h2.l))
 rintro _ _ ⟨n, rfl, rfl⟩
 refine Tr.fin hK ⟨n, rfl, rfl⟩ ?_
 refine Xd.slkX (s := g.1) (m := QT m k) (xtY h1) (xdK h2) ?_
 simp only [xbz, QT, List.append_eq, ap]
 exact S.E
theorem xqI {u0 : Value} [hd : DeA u0 c] (h1 : c.cap ≤ 1000000000000) (h2 : ∀ x ∈ c.procs.d, x.cost ≤ 1000000000000) (h3 : c.procs.d.length ≤ 100000) : Xb prog 32 #[u0] [sl true c.procs.s.v c.procs.d]
  fun v l' => ∃ b : Nat, v = .pointer (some ⟨b, 0, none⟩) ∧ l' = [slkX b (Z9 c)] := by
 intro F K hK
 simp only [ap]
 refine S.c ?_ (h := xrR (c := c) h3)
 rintro _ _ ⟨b, s, gs, hg, rfl, rfl⟩
 refine Tr.fin hK ⟨b, rfl, rfl⟩ ?_
 refine Xd.slkX (s := s) (m := Z9 c) hg (xdJ h1 h2 h3) ?_
 simp only [xbz, Z9, List.append_eq, ap]
 exact S.E
theorem xqY : Xb prog 23 #[.pointer (some ⟨r, 0, none⟩)] [rslkX r m]
  fun v l' => v = .int .i64 (Wr m.room m.ms) ∧ l' = [rslkX r m] := by
 refine Xb.pk fun g hg F K hK => ?_
 simp only [Vu, ap]
 refine S.c ?_ (h := xd3 (xnU hg) hg.l)
 rintro _ _ ⟨rfl, rfl⟩
 refine Tr.fin hK ⟨rfl, rfl⟩ ?_
 refine Xd.rslkX (s1 := g.1) (s2 := g.2) hg ?_
 simp only [Vu, List.append_eq, ap]
 exact S.E
theorem xft : Zp (VJ m.room m.ms k n) = Zp m.ms := by
 unfold VJ
 split
 ·rename_i hr
  split
  ·rfl
  ·exact xm4 hr.1 hr.2
 ·rfl
theorem xfd : Xb prog 83 #[.pointer (some ⟨r, 0, none⟩), .int .i64 k, .int .i64 n] [rslkX r m]
  fun v l' => v = .int .i64 (spM m.room m.ms k n) ∧ l' = [rslkX r (X8 m k n)] := by
 refine Xb.pk fun g hg F K hK => ?_
 simp only [Vu, ap]
 refine S.c ?_ (h := xnA hg.r (xcQ hg k) hg.l)
 rintro _ _ ⟨s, rfl, rfl⟩
 refine Tr.fin hK ⟨rfl, rfl⟩ ?_
 refine Xd.rslkX (m := X8 m k n) (s1 := s) (s2 := g.2) (xa3 hg) ?_
 simp only [Vu, X8, xft, List.append_eq, ap]
 exact S.E
theorem xsQ : Xb prog 201 #[.pointer (some ⟨r, 0, none⟩), .int .i64 k, .bool true] [rslkX r m]
  fun v l' => ∃ n : Int, v = .int .i64 n ∧ l' = [rslkX r (QT m k)] := by
 refine Xb.pk fun g hg F K hK => ?_
 simp only [Vu, ap]
 refine S.c ?_ (h := xqg (xnU hg) hg.l)
 rintro _ _ ⟨n, s, rfl, rfl⟩
 refine Tr.fin hK ⟨n, rfl, rfl⟩ ?_
 refine Xd.rslkX (m := QT m k) (s1 := g.1) (s2 := s) (xdK hg) ?_
 simp only [Vu, QT, List.append_eq, ap]
 exact S.E
theorem xoa {u0 : Value} [hd : DeA u0 c] (h1 : c.cap ≤ 1000000000000) (h2 : ∀ x ∈ c.procs.d, x.cost ≤ 1000000000000) (h3 : c.procs.d.length ≤ 100000) : Xb prog 22 #[u0] [sl true c.procs.s.v c.procs.d]
  fun v l' => ∃ b : Nat, v = .pointer (some ⟨b, 0, none⟩) ∧ l' = [rslkX b (Z9 c)] := by
 intro F K hK
 simp only [ap]
 refine S.c ?_ (h := xoF (c := c) h3)
 rintro _ _ ⟨b, s1, s2, rfl, rfl⟩
 refine Tr.fin hK ⟨b, rfl, rfl⟩ ?_
 refine Xd.rslkX (m := Z9 c) (s1 := s1) (s2 := s2) (xdJ h1 h2 h3) ?_
 simp only [Vu, Z9, List.append_eq, ap]
 exact S.E
end
end
section
variable {a : Nat} {t : Tb} {call what : Int}
theorem xbq (hn : t.d.length ≤ 1000000) : Xb prog 132 #[.pointer (some ⟨a, 0, none⟩)] [Yg a t]
  fun v l' => v = .int .i64 (t.best One.ready) ∧ l' = [Yg a t] := fun F K hK => by
 simp only [ap, Yg]
 refine Tr.ex_iff.2 fun s => Tr.sep_iff.2 ?_
 refine xpT (s := s) hn F K ?_
 rintro v l' ⟨rfl, rfl⟩
 refine Tr.imp ?_ (hK _ _ ⟨rfl, rfl⟩)
 exact Imp.trans Imp.sepI (Imp.exI (f := fun s : SV => sep (Zi a s t.turns) (Zj s t.d)) s)
theorem X5 (hn : t.d.length ≤ 1000000) : Xb prog 128 #[.pointer (some ⟨a, 0, none⟩), .int .i64 call, .int .i64 what] [Yg a t]
  fun v l' => v = .int .i64 (t.best (One.waits call what)) ∧ l' = [Yg a t] := fun F K hK => by
 simp only [ap, Yg]
 refine Tr.ex_iff.2 fun s => Tr.sep_iff.2 ?_
 refine xmM (s := s) hn F K ?_
 rintro v l' ⟨rfl, rfl⟩
 refine Tr.imp ?_ (hK _ _ ⟨rfl, rfl⟩)
 exact Imp.trans Imp.sepI (Imp.exI (f := fun s : SV => sep (Zi a s t.turns) (Zj s t.d)) s)
end
structure XE where
 cycles : Int
 call : Int
 a : Int
 b : Int
 c : Int
 d : Int
instance xvx : Inhabited XE := ⟨⟨0, 0, 0, 0, 0, 0⟩⟩
instance xvN : En XE := ⟨fun s => [.int .i64 s.cycles, .int .i64 s.call, .int .i64 s.a, .int .i64 s.b, .int .i64 s.c, .int .i64 s.d], 6, fun _ => rfl, fun _ => rfl, by decide⟩
def XE.ok (s : XE) : Prop := okZ s.a ∧ okZ s.b ∧ okZ s.c ∧ okZ s.d
structure EvC where
 part : Int
 win : Int
 proc : Int
 call : Int
 code : Int
 value : Int
instance xxh : Inhabited EvC := ⟨⟨0, 0, 0, 0, 0, 0⟩⟩
instance xxs : En EvC := ⟨fun s => [.int .i64 s.part, .int .i64 s.win, .int .i64 s.proc, .int .i64 s.call, .int .i64 s.code, .int .i64 s.value], 6, fun _ => rfl, fun _ => rfl, by decide⟩
structure CC where
 conf : YF
 part : Int
 progs : List (List XE)
structure CM where
 mode : Int
 win : Int
 pos : List Int
 rest : List Int
 addr : List Int
 data : List (List UInt8)
 done : List Bool
 tb : Tb
 mem : List XH
 pts : List AP
 obs : ObM
 slk : Option SlM
 evs : List EvC
section
variable (C : CC) (c : CM) (k : Int)
def Xa (call code value : Int) : CM := { c with evs := c.evs ++ [⟨C.part, c.win, k, call, code, value⟩] }
def WQ (n : Int) : Int := if n < 1 then 1 else if 1073741824 < n then 1073741824 else n
def atM (p : List XE) (i : Int) : Int := if (p.length : Int) ≤ i then 0 else i
def toM (i : Int) : CM := { c with pos := c.pos.set k.toNat (atM (ix C.progs k) i), rest := c.rest.set k.toNat (WQ (ix (ix C.progs k) (atM (ix C.progs k) i)).cycles) }
def xea : CM := { c with tb := c.tb.park k }
def Yd (win : Int) : CM :=
 let c1 := { toM C c k 0 with tb := (toM C c k 0).tb.start k win }
 if ix c.done k = true then xea c1 k else c1
def XW (st : Int) : CM := { c with tb := c.tb.set k st }
def YX : CM := { c with done := c.done.set k.toNat true, tb := c.tb.park k, slk := c.slk.map fun m => QT m k }
def X7 : Nat → CM
 | 0 => c
 | n + 1 => XW (X7 n) (n : Int) 0
def WU : CM := X7 { c with mode := 0 } C.progs.length
def XS (win : Int) : Nat → CM
 | 0 => c
 | n + 1 => Yd C (XS win n) (n : Int) win
def QZ (cold : Bool) : CM := { c with mem := if cold = true then c.mem.map XH.clr else c.mem, obs := xcC C.conf, pts := ZN c.pts }
def Qi (cold : Bool) : CM := XS C (X7 (QZ C c cold) C.progs.length) c.win C.progs.length
def Yx (kind : Int) : CM :=
 let act := Zk C.conf.acts.d kind
 let c1 := Xa C c k (-1 - kind) act 0
 if act = 1 then XW c1 k 0 else if act = 2 then Yd C (XW c1 k 0) k c.win else if act = 3 then Qi C c1 true else if act = 4 then WU C c1 else c1
def Zc (call code value : Int) : CM := XW (Xa C c k call code value) k 1
def Zy (call : Int) (b : List UInt8) : CM := Zc C { c with mem := stB c.mem (ix c.addr k) b } k call 0 b.length
end
section
variable (C : CC)
def XB (c : CM) (call what : Int) : Int := c.tb.best (One.waits call what)
def XJ (c : CM) : Int := c.tb.best One.ready
def Yy (p : Int) : Nat → CM → CM
 | 0, c => c
 | n + 1, c => if XB c 11 p < 0 then c else
  let c1 := { c with pts := Yh c.pts p true (ix c.data (XB c 11 p)) }
  if YU c.pts p true (ix c.data (XB c 11 p)).length = 0 then Yy p n (Zc C c1 (XB c 11 p) 11 0 0) else c1
def YJ (p : Int) : Nat → CM → CM
 | 0, c => c
 | n + 1, c => if XB c 12 p < 0 then c else
  let c1 := { c with pts := Z1 c.pts p true }
  if Y3 c.pts p true = 0 then YJ p n (Zy C c1 (XB c 12 p) 12 (YS c.pts p true)) else c1
def XA (c : CM) : Nat → CM
 | 0 => c
 | n + 1 => YJ C (n : Int) 20 (Yy C (n : Int) 20 (XA c n))
def ofC (c : CM) (k : Int) : Int := match c.slk with
 | some m => ofM m k
 | none => 0
def XM : Nat → CM → CM
 | 0, c => c
 | n + 1, c => if c.mode = 3 then (if XJ c < 0 then c else if 0 < ofC c (XJ c) then c else XM n (Yx C (YX c (XJ c)) (XJ c) 0)) else c
def W4 (c : CM) (l : List Int) : Nat → CM
 | 0 => c
 | n + 1 => Xa C (W4 c l n) (ix l (n : Int)) 1 0 0
def YN (c : CM) (l : List Int) : Nat → CM
 | 0 => c
 | n + 1 => if (YN c l n).mode = 3 then Yx C (YN c l n) (ix l (n : Int)) 4 else YN c l n
def JA (c : CM) (l : List Int) : Nat → CM
 | 0 => c
 | n + 1 =>
  let d := JA c l n
  let k := ix l (n : Int)
  Zc C d k (d.tb.at k).call (if (d.tb.at k).call = 2 then 0 else 5) 0
def QU (c : CM) : CM := { c with win := IntKind.i64.wrap (c.win + 1), slk := some (Z9 C.conf), tb := c.tb.free, done := List.replicate C.progs.length false }
def xbb (c : CM) : CM :=
 let r := c.tb.relTo c.win c.tb.d.length
 let c1 := W4 C { c with tb := r.t } r.rel r.rel.length
 let c2 := YN C c1 r.mis r.mis.length
 let c3 := XA C c2 8
 let l := c3.tb.dueTo c3.win c3.tb.d.length
 XM C 100 (JA C c3 l l.length)
def ZL (c : CM) : CM := if (QU C c).mode = 3 then xbb C (QU C c) else QU C c
def Yl (c : CM) : Int := match c.slk with
 | some _ => if c.mode = 3 then XJ c else -1
 | none => -1
def X0 (c : CM) : Int := match c.slk with
 | some m => if c.mode = 3 then (if XJ c < 0 then 0 else Zn (ix c.rest (XJ c)) (ofM m (XJ c)) m.room) else 0
 | none => 0
def JZ (c : CM) : Int := match c.slk with
 | some m => if Yl c < 0 then 0 else Wr m.room m.ms
 | none => 0
def YP (c : CM) (k : Int) (s : XE) (b : List UInt8) : CM :=
 if s.d = 0 then Xa C c k s.call 1 0 else
 { c with addr := c.addr.set k.toNat s.b, data := c.data.set k.toNat b, tb := c.tb.wait k s.call s.a (if 1000 < s.d then IntKind.i64.wrap (c.win + 1000) else if 0 < s.d then IntKind.i64.wrap (c.win + s.d) else -1) }
def JV (c : CM) (k : Int) (s : XE) : CM := Yx C (Xa C c k s.call 8 0) k 2
def Zx (c : CM) (s : XE) (size : Int) : Bool := decide (1 ≤ s.c) && decide (s.c ≤ size) && ldO c.mem s.b s.c
def Jb (c : CM) (k : Int) (s : XE) (size : Int) : CM := if 1 ≤ s.c ∧ s.c ≤ size then JV C c k s else Xa C c k s.call 2 0
def ZR (c : CM) (s : XE) (size : Int) : Bool := (fI c.mem s.b size true).isSome
def WY (c : CM) (k : Int) (s : XE) (b : List UInt8) : CM := Xa C { c with mem := stB c.mem s.b b } k s.call 0 b.length
def XY (c : CM) (k : Int) (s : XE) : CM :=
 if s.call = 1 then (if 0 < (ix C.conf.procs.d k).period then YX (XW c k 4) k else Xa C c k 1 4 0)
 else if s.call = 3 then (if 0 < (ix C.conf.procs.d k).period then Xa C c k 3 4 0 else XW (Xa C c k 3 0 0) k 3)
 else if 1 ≤ s.a ∧ s.a ≤ 1000 then YX { c with tb := c.tb.wait k 2 0 (IntKind.i64.wrap (c.win + s.a)) } k else Xa C c k 2 2 0
def Xk (c : CM) (k : Int) (s : XE) : CM :=
 if ¬ (0 ≤ s.a ∧ s.a < C.progs.length) ∨ (s.call = 4 ∧ s.a = k) ∨ (s.call = 7 ∧ (s.b < 0 ∨ 63 < s.b)) then Xa C c k s.call 2 0
 else if s.call = 7 then (if (c.tb.at s.a).state = 0 then Xa C c k s.call 4 0 else Xa C { c with tb := c.tb.rank s.a s.b } k s.call 0 0)
 else if s.call = 4 ∧ (c.tb.at s.a).state = 3 then Xa C (XW c s.a 1) k s.call 0 0
 else if s.call = 5 ∧ (c.tb.at s.a).state = 0 then Xa C (Yd C c s.a c.win) k s.call 0 0
 else if s.call = 6 ∧ (c.tb.at s.a).state ≠ 0 then Xa C (XW c s.a 0) k s.call 0 0
 else Xa C c k s.call 6 0
def Yt (c : CM) (k : Int) (s : XE) : CM :=
  let q : Bool := decide (11 ≤ s.call)
  let i : Bool := decide (s.call = 10 ∨ s.call = 12)
  if Yu c.pts s.a q i = true then
    (if i = true then
      (if ZR c s (Yb c.pts s.a) = true then
        (let c1 := { c with pts := Z1 c.pts s.a q }
         if Y3 c.pts s.a q = 0 then WY C c1 k s (YS c.pts s.a q) else if q = true then YP C c1 k s [] else Xa C c1 k s.call (Y3 c.pts s.a q) 0)
       else JV C c k s)
     else
      (if Zx c s (Yb c.pts s.a) = true then
        (let b := ldB c.mem s.b s.c
         let c1 := { c with pts := Yh c.pts s.a q b }
         if q = true then (if YU c.pts s.a q b.length = 0 then Xa C c1 k s.call 0 0 else YP C c1 k s b) else Xa C c1 k s.call (YU c.pts s.a q b.length) 0)
       else Jb C c k s (Yb c.pts s.a)))
  else Xa C c k s.call 3 0
def J7 (w : Int) : Nat → CM → CM
 | 0, c => c
 | n + 1, c => if XB c 17 w < 0 then c else J7 w n (Zc C c (XB c 17 w) 17 0 0)
def XG (c : CM) (k : Int) (s : XE) : CM :=
 if s.call = 13 then (let c1 := { c with obs := { c.obs with sems := xbI c.obs.sems s.a } }
  if VA c.obs.sems s.a = 1 then YP C c1 k s [] else Xa C c1 k 13 (VA c.obs.sems s.a) 0)
 else if s.call = 14 then (if 0 ≤ XB c 13 s.a then Zc C (Xa C c k 14 0 0) (XB c 13 s.a) 13 0 0
  else Xa C { c with obs := { c.obs with sems := QX c.obs.sems s.a } } k 14 (QO c.obs.sems s.a) 0)
 else if s.call = 15 then J7 C s.a 20 (Xa C { c with obs := { c.obs with flags := JS c.obs.flags s.a true } } k 15 (YT c.obs.flags s.a) 0)
 else if s.call = 16 then Xa C { c with obs := { c.obs with flags := JS c.obs.flags s.a false } } k 16 (YT c.obs.flags s.a) 0
 else if upM c.obs.flags s.a = true ∨ YT c.obs.flags s.a ≠ 0 then Xa C c k 17 (YT c.obs.flags s.a) 0 else YP C c k s []
def ZD (c : CM) (p : Int) : CM :=
 if XB c 18 p < 0 then c else
 let b := ix c.data (XB c 18 p)
 let c1 := { c with obs := { c.obs with pools := xbK c.obs.pools p b } }
 if Vs c.obs.pools p b.length = 0 then Zc C c1 (XB c 18 p) 18 0 0 else c1
def Yn (c : CM) (k : Int) (s : XE) : CM :=
  if 0 ≤ s.a ∧ s.a < (C.conf.pools.d.length : Int) ∧ s.a < 4 then
    (let size := (ix C.conf.pools.d s.a).size
     if s.call = 19 then
      (if ZR c s size = true then
        (let c1 := { c with obs := { c.obs with pools := xap c.obs.pools s.a } }
         if Jy c.obs.pools s.a = 0 then ZD C (WY C c1 k s (Wg c.obs.pools s.a)) s.a else YP C c1 k s [])
       else JV C c k s)
     else if Zx c s size = true then
      (let b := ldB c.mem s.b s.c
       if 0 ≤ XB c 19 s.a then Zy C (Xa C c k 18 0 0) (XB c 19 s.a) 19 b
       else (let c1 := { c with obs := { c.obs with pools := xbK c.obs.pools s.a b } }
        if Vs c.obs.pools s.a b.length = 0 then Xa C c1 k 18 0 0 else YP C c1 k s b))
     else Jb C c k s size)
  else Xa C c k s.call 3 0
def Z5 (w : Int) (b : List UInt8) : Nat → CM → CM
 | 0, c => c
 | n + 1, c => if XB c 21 w < 0 then c else Z5 w b n (Zy C c (XB c 21 w) 21 b)
def XN (c : CM) (k : Int) (s : XE) : CM :=
  if 0 ≤ s.a ∧ s.a < (C.conf.slates.d.length : Int) ∧ s.a < 4 then
    (let size := ix C.conf.slates.d s.a
     if s.call = 22 then Xa C { c with obs := { c.obs with slates := Wj c.obs.slates s.a } } k 22 (QM c.obs.slates s.a) 0
     else if s.call = 21 then
      (if ZR c s size = true then (if WJ c.obs.slates s.a = 0 then WY C c k s (WI c.obs.slates s.a) else YP C c k s []) else JV C c k s)
     else if Zx c s size = true then
      (let b := ldB c.mem s.b s.c
       Z5 C s.a b 20 (Xa C { c with obs := { c.obs with slates := QC c.obs.slates s.a b } } k 20 (Qq c.obs.slates s.a b.length) 0))
     else Jb C c k s size)
  else Xa C c k s.call 3 0
def Ze (c : CM) (k : Int) (s : XE) : CM :=
 if s.call = 25 then (if stO c.mem s.a 4 = true then Xa C { c with mem := stB c.mem s.a (b4 s.b) } k 25 0 0 else JV C { c with mem := stB c.mem s.a (b4 s.b) } k s)
 else if ldO c.mem s.a 4 = true then Xa C c k 24 0 (wdB c.mem s.a) else JV C c k s
def Vb (c : CM) (k : Int) (s : XE) : CM :=
 if s.a = 0 then WU C (Xa C c k 27 0 0) else if s.a = 1 ∨ s.a = 2 then Qi C (Xa C c k 27 0 0) (decide (s.a = 1)) else if s.a = 3 then Xa C c k 27 6 0 else Xa C c k 27 2 0
def XR (c : CM) (k : Int) (s : XE) : CM :=
 if 1 ≤ s.call ∧ s.call ≤ 3 then XY C c k s else if 4 ≤ s.call ∧ s.call ≤ 7 then Xk C c k s else if s.call = 8 then Xa C c k 8 0 c.win
 else if 9 ≤ s.call ∧ s.call ≤ 12 then Yt C c k s else if 13 ≤ s.call ∧ s.call ≤ 17 then XG C c k s else if s.call = 18 ∨ s.call = 19 then Yn C c k s
 else if 20 ≤ s.call ∧ s.call ≤ 22 then XN C c k s else if s.call = 23 then Yx C (Xa C c k 23 0 s.a) k 3 else if s.call = 24 ∨ s.call = 25 then Ze C c k s
 else if s.call = 26 then Xa C c k 26 0 c.mode else if s.call = 27 then Vb C c k s else Yx C (Xa C c k s.call 7 0) k 1
def xan (c : CM) (k n : Int) : CM :=
 let c1 := { c with slk := c.slk.map fun m => X8 m k n, rest := c.rest.set k.toNat (ix c.rest k - n) }
 if ix c.rest k - n = 0 then XM C 100 (XR C (toM C c1 k (ix c.pos k + 1)) k (ix (ix C.progs k) (ix c.pos k))) else XM C 100 c1
