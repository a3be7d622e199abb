import Derived.Test.YtgkhjgpgdfbdpaaGreatDoorUax
namespace Go.Proofs.YtgkhjgpgdfbdpaaGreatDoor
open Go Go.Wk
set_option maxRecDepth 100000
/-! ### what is read is printed just so -/
theorem cut_text {t : List UInt8} (h : (cutA 10 t).2.2 = true) : t = (cutA 10 t).1 ++ 10 :: (cutA 10 t).2.1 := by
  by_cases hm : (10 : UInt8) ∈ t
  · obtain ⟨a, b, rfl, ha⟩ := List.eq_append_cons_of_mem hm
    rw [cutA_hit ha]
  · rw [cutA_miss hm] at h
    cases h
theorem hd_text {r : Rd} {k : Nat} {l : List Int} (h : hdU r = some (k, l)) : r.t = lineT (k, l) ++ 10 :: (nextU r).t ∧ ∀ n ∈ l, I64 n := by
  unfold hdU at h
  cases hq : wordsA 10 r.t with
  | nil => exact absurd hq (wordsA_ne _ _)
  | cons w q =>
    rw [hq] at h
    cases q with
    | nil => cases h
    | cons v q =>
      simp only at h
      obtain ⟨_, h2, h3, _⟩ := tokU_some h
      obtain ⟨c1, c2, _⟩ := cut_more hq
      have := cut_text c2
      rw [c1] at this
      rw [h2]
      exact ⟨this, h3⟩
theorem textT_cons (t : Tok) (l : List Tok) : textT (t :: l) = lineT t ++ 10 :: textT l := by simp [textT]
theorem textT_app (l m : List Tok) : textT (l ++ m) = textT l ++ textT m := by simp [textT]
theorem some_text {α : Type} {k : Nat} {many : Int} {one : List Int → Rd → α × Rd} (tk : α → List Tok) (ok : α → Prop) (hk : k < 16)
    (hone : ∀ l r, r.bad = false → (many < 0 ∨ (l.length : Int) = many) → (∀ n ∈ l, I64 n) → (one l r).2.bad = false → lineT (k, l) ++ 10 :: r.t = textT (tk (one l r).1) ++ (one l r).2.t ∧ ok (one l r).1) :
    ∀ n r out, r.bad = false → (someU (wordU k) many one n r out).2.bad = false →
      ∃ xs, (someU (wordU k) many one n r out).1 = out ++ xs ∧ xs.length ≤ n ∧ (∀ x ∈ xs, ok x) ∧ r.t = textT (xs.flatMap tk) ++ (someU (wordU k) many one n r out).2.t := by
  intro n
  induction n with
  | zero => exact fun r out _ _ => ⟨[], by simp [someU], Nat.le_refl _, (fun x hx => (by cases hx)), by simp [someU, textT]⟩
  | succ n ih =>
    intro r out hb hz
    cases hp : peekU r (wordU k) with
    | none =>
      have e : someU (wordU k) many one (n + 1) r out = (out, r) := by unfold someU; rw [hp]
      rw [e]
      exact ⟨[], by simp, Nat.zero_le _, (fun x hx => (by cases hx)), by simp [textT]⟩
    | some l =>
      have hd := ((peek_some hk).1 hp).2
      obtain ⟨ht, hl64⟩ := hd_text hd
      by_cases hl : (many < 0 ∨ (l.length : Int) = many) ∧ l.length ≤ 64
      · have hy := take_yes hp hl.1 hl.2
        have hnb : (nextU r).bad = false := hb
        have e : someU (wordU k) many one (n + 1) r out = someU (wordU k) many one n (one l (nextU r)).2 (out ++ [(one l (nextU r)).1]) := by
          conv => lhs; unfold someU
          simp only [hp, hy, hnb]
          rfl
        rw [e] at hz ⊢
        cases hyb : (one l (nextU r)).2.bad with
        | true =>
          rw [some_bad hyb] at hz
          rw [hyb] at hz
          cases hz
        | false =>
          obtain ⟨o1, o2⟩ := hone l (nextU r) hnb hl.1 hl64 hyb
          obtain ⟨xs, h1, h2, h3, h4⟩ := ih (one l (nextU r)).2 (out ++ [(one l (nextU r)).1]) hyb hz
          refine ⟨(one l (nextU r)).1 :: xs, by rw [h1]; simp, by rw [List.length_cons]; omega, fun x hx => ?_, ?_⟩
          · rcases List.mem_cons.1 hx with rfl | hx
            · exact o2
            · exact h3 x hx
          · rw [ht, o1, List.flatMap_cons, textT_app, List.append_assoc, ← h4]
      · have hy := take_no hp hl
        have e : someU (wordU k) many one (n + 1) r out = (out, badU r) := by
          conv => lhs; unfold someU
          simp only [hp, hy]
          rfl
        rw [e] at hz
        cases hz
theorem take_text {k : Nat} {many : Int} {r : Rd} (hk : k < 16) (h : (takeU r (wordU k) many).2.bad = false) :
    r.t = lineT (k, (takeU r (wordU k) many).1) ++ 10 :: (takeU r (wordU k) many).2.t ∧ (∀ n ∈ (takeU r (wordU k) many).1, I64 n) ∧ (takeU r (wordU k) many).1.length ≤ 64 ∧ (many < 0 ∨ ((takeU r (wordU k) many).1.length : Int) = many) ∧ r.bad = false := by
  cases hp : peekU r (wordU k) with
  | none => rw [take_none hp] at h; cases h
  | some l =>
    obtain ⟨hb, hd⟩ := (peek_some hk).1 hp
    by_cases hl : (many < 0 ∨ (l.length : Int) = many) ∧ l.length ≤ 64
    · rw [take_yes hp hl.1 hl.2]
      obtain ⟨h1, h2⟩ := hd_text hd
      exact ⟨h1, h2, hl.2, hl.1, hb⟩
    · rw [take_no hp hl] at h
      cases h
/-- All numbers are such. -/
def okPv (p : PartV) : Prop := (∀ x ∈ p.regions, I64 x.base ∧ I64 x.size) ∧ (∀ x ∈ p.procs, I64 x.prio ∧ I64 x.period ∧ I64 x.cost) ∧ (∀ x ∈ p.ports, I64 x.size ∧ I64 x.depth) ∧ (∀ x ∈ p.sems, I64 x.first ∧ I64 x.most) ∧ I64 p.flags ∧ (∀ x ∈ p.pools, I64 x.size ∧ I64 x.depth) ∧ (∀ x ∈ p.slates, I64 x) ∧ I64 p.cap ∧ I64 p.budget ∧ I64 p.ladder ∧ ∀ x ∈ p.acts, I64 x
def okCh (x : ChanC) : Prop := I64 x.fp ∧ I64 x.fo ∧ I64 x.tp ∧ I64 x.to
def okWi (x : WinC) : Prop := I64 x.part ∧ I64 x.start ∧ I64 x.len
def okMo (m : ModeV) : Prop := I64 m.frame ∧ ∀ x ∈ m.wins, okWi x
def okLe (x : LevelC) : Prop := I64 x.freq ∧ I64 x.power
def okNa (x : NapC) : Prop := I64 x.power ∧ I64 x.enter ∧ I64 x.wake
def okU (c : ConfV) : Prop := (∀ p ∈ c.parts, okPv p) ∧ (∀ x ∈ c.chans, okCh x) ∧ (∀ m ∈ c.modes, okMo m) ∧ (∀ x ∈ c.levels, okLe x) ∧ (∀ x ∈ c.naps, okNa x) ∧ I64 c.sw ∧ I64 c.idle ∧ I64 c.change ∧ I64 c.quantum ∧ I64 c.slow ∧ I64 c.ppm ∧ (∀ x ∈ c.down, I64 x) ∧ ∀ x ∈ c.up, I64 x
theorem gU_ok {l : List Int} (h : ∀ n ∈ l, I64 n) (i : Nat) : I64 (gU l i) := by
  unfold gU
  rw [List.getD_eq_getElem?_getD]
  cases hi : l[i]? with
  | none => simp; unfold I64; omega
  | some x => simp only [Option.getD_some]; exact h x (List.mem_of_getElem? hi)
theorem len1 {l : List Int} (h : ((l.length : Nat) : Int) = 1) : l = [gU l 0] := by
  match l, h with
  | [a], _ => rfl
theorem len2 {l : List Int} (h : ((l.length : Nat) : Int) = 2) : l = [gU l 0, gU l 1] := by
  match l, h with
  | [a, b], _ => rfl
theorem len3 {l : List Int} (h : ((l.length : Nat) : Int) = 3) : l = [gU l 0, gU l 1, gU l 2] := by
  match l, h with
  | [a, b, c], _ => rfl
theorem len4 {l : List Int} (h : ((l.length : Nat) : Int) = 4) : l = [gU l 0, gU l 1, gU l 2, gU l 3] := by
  match l, h with
  | [a, b, c, d], _ => rfl
theorem len6 {l : List Int} (h : ((l.length : Nat) : Int) = 6) : l = [gU l 0, gU l 1, gU l 2, gU l 3, gU l 4, gU l 5] := by
  match l, h with
  | [a, b, c, d, e, f], _ => rfl
theorem bit_is {n : Int} (h : isB n = true) : bitU (n == 1) = n := by
  unfold isB at h
  simp at h
  rcases h with rfl | rfl <;> rfl
theorem truth_ok {r : Rd} {n : Int} (hb : r.bad = false) (h : (truthU r n).bad = false) : isB n = true ∧ truthU r n = r := by
  cases hn : isB n with
  | true => exact ⟨rfl, truth_yes hn⟩
  | false => rw [truth_no hn hb] at h; cases h
theorem many_pos {l : List Int} {m : Int} (hm : 0 ≤ m) (h : m < 0 ∨ (l.length : Int) = m) : (l.length : Int) = m := h.resolve_left (by omega)
/-- A plain line. -/
theorem line_one {k : Nat} {l : List Int} {t : Tok} (h : (k, l) = t) (r : Rd) : lineT (k, l) ++ 10 :: r.t = textT [t] ++ r.t := by
  rw [h]; simp [textT]
theorem part_text {l : List Int} {r : Rd} (hb : r.bad = false) (hl : (l.length : Int) = 4) (h64 : ∀ n ∈ l, I64 n) (h : (partO l r).2.bad = false) :
    lineT (0, l) ++ 10 :: r.t = textT (partT (partO l r).1) ++ (partO l r).2.t ∧ okPv (partO l r).1 ∧ shortP (partO l r).1 := by
  unfold partO at h ⊢
  simp only at h ⊢
  generalize hza : someU (wordU 1) 3 regO 64 r [] = za at h ⊢
  generalize hzb : someU (wordU 2) 3 procO 64 za.2 [] = zb at h ⊢
  generalize hzc : someU (wordU 3) 4 portO 64 zb.2 [] = zc at h ⊢
  generalize hzd : someU (wordU 4) 2 semO 64 zc.2 [] = zd at h ⊢
  generalize hze : someU (wordU 5) 2 poolO 64 zd.2 [] = ze at h ⊢
  generalize hzf : someU (wordU 6) 1 slateO 64 ze.2 [] = zf at h ⊢
  obtain ⟨t1, t2, t3, _, hf0⟩ := take_text (by decide) h
  have hbad : ∀ {α : Type} {k : Nat} {many : Int} {one : List Int → Rd → α × Rd} {r : Rd} {z : List α × Rd}, someU (wordU k) many one 64 r [] = z → z.2.bad = false → r.bad = false := fun {α k many one r z} hz hf => by
    cases hr : r.bad with
    | false => rfl
    | true => rw [some_bad hr] at hz; rw [← hz, hr] at hf; cases hf
  have he0 := hbad hzf hf0
  have hd0 := hbad hze he0
  have hc0 := hbad hzd hd0
  have hb0 := hbad hzc hc0
  have ha0 := hbad hzb hb0
  obtain ⟨xa, a1, a2, a3, a4⟩ := some_text (k := 1) (many := 3) (one := regO) (fun x => [regT x]) (fun x => I64 x.base ∧ I64 x.size) (by decide) (fun l r hb hl h64 h => by
    obtain ⟨i1, i2⟩ := truth_ok hb h
    have hr : (regO l r).2 = r := i2
    rw [hr]
    refine ⟨line_one ?_ r, gU_ok h64 0, gU_ok h64 1⟩
    show _ = (1, [gU l 0, gU l 1, bitU (gU l 2 == 1)])
    rw [bit_is i1, ← len3 (many_pos (by decide) hl)]) 64 r [] hb (by rw [hza]; exact ha0)
  obtain ⟨xb, b1, b2, b3, b4⟩ := some_text (k := 2) (many := 3) (one := procO) (fun x => [procT x]) (fun x => I64 x.prio ∧ I64 x.period ∧ I64 x.cost) (by decide) (fun l r hb hl h64 h => by
    refine ⟨line_one ?_ r, gU_ok h64 0, gU_ok h64 1, gU_ok h64 2⟩
    show _ = (2, [gU l 0, gU l 1, gU l 2])
    rw [← len3 (many_pos (by decide) hl)]) 64 za.2 [] ha0 (by rw [hzb]; exact hb0)
  obtain ⟨xc, c1, c2, c3, c4⟩ := some_text (k := 3) (many := 4) (one := portO) (fun x => [portT x]) (fun x => I64 x.size ∧ I64 x.depth) (by decide) (fun l r hb hl h64 h => by
    have hh : (truthU (truthU r (gU l 0)) (gU l 1)).bad = false := h
    cases i0 : isB (gU l 0) with
    | false => rw [truth_no i0 hb, truth_bad rfl] at hh; cases hh
    | true =>
      rw [truth_yes i0] at hh
      obtain ⟨i1, i2⟩ := truth_ok hb hh
      have hr : (portO l r).2 = r := by unfold portO; rw [truth_yes i0, i2]
      rw [hr]
      refine ⟨line_one ?_ r, gU_ok h64 2, gU_ok h64 3⟩
      show _ = (3, [bitU (gU l 0 == 1), bitU (gU l 1 == 1), gU l 2, gU l 3])
      rw [bit_is i0, bit_is i1, ← len4 (many_pos (by decide) hl)]) 64 zb.2 [] hb0 (by rw [hzc]; exact hc0)
  obtain ⟨xd, d1, d2, d3, d4⟩ := some_text (k := 4) (many := 2) (one := semO) (fun x => [semT x]) (fun x => I64 x.first ∧ I64 x.most) (by decide) (fun l r hb hl h64 h => by
    refine ⟨line_one ?_ r, gU_ok h64 0, gU_ok h64 1⟩
    show _ = (4, [gU l 0, gU l 1])
    rw [← len2 (many_pos (by decide) hl)]) 64 zc.2 [] hc0 (by rw [hzd]; exact hd0)
  obtain ⟨xe, e1, e2, e3, e4⟩ := some_text (k := 5) (many := 2) (one := poolO) (fun x => [poolT x]) (fun x => I64 x.size ∧ I64 x.depth) (by decide) (fun l r hb hl h64 h => by
    refine ⟨line_one ?_ r, gU_ok h64 0, gU_ok h64 1⟩
    show _ = (5, [gU l 0, gU l 1])
    rw [← len2 (many_pos (by decide) hl)]) 64 zd.2 [] hd0 (by rw [hze]; exact he0)
  obtain ⟨xf, f1, f2, f3, f4⟩ := some_text (k := 6) (many := 1) (one := slateO) (fun x => [slateT x]) (fun x => I64 x) (by decide) (fun l r hb hl h64 h => by
    refine ⟨line_one ?_ r, gU_ok h64 0⟩
    show _ = (6, [gU l 0])
    rw [← len1 (many_pos (by decide) hl)]) 64 ze.2 [] he0 (by rw [hzf]; exact hf0)
  rw [hza] at a1 a4
  rw [hzb] at b1 b4
  rw [hzc] at c1 c4
  rw [hzd] at d1 d4
  rw [hze] at e1 e4
  rw [hzf] at f1 f4
  rw [List.nil_append] at a1 b1 c1 d1 e1 f1
  have fm : ∀ {α : Type} (f : α → Tok) (l : List α), l.flatMap (fun x => [f x]) = l.map f := fun f l => by induction l <;> simp_all
  refine ⟨?_, ⟨by rw [a1]; exact a3, by rw [b1]; exact b3, by rw [c1]; exact c3, by rw [d1]; exact d3, gU_ok h64 0, by rw [e1]; exact e3, by rw [f1]; exact f3, gU_ok h64 1, gU_ok h64 2, gU_ok h64 3, t2⟩, by rw [a1]; exact a2, by rw [b1]; exact b2, by rw [c1]; exact c2, by rw [d1]; exact d2, by rw [e1]; exact e2, by rw [f1]; exact f2, t3⟩
  rw [a4, b4, c4, d4, e4, f4, t1]
  simp only [fm, ← a1, ← b1, ← c1, ← d1, ← e1, ← f1]
  have hh : ((0, l) : Tok) = (0, [gU l 0, gU l 1, gU l 2, gU l 3]) := by rw [← len4 hl]
  rw [hh]
  unfold partT
  simp only [textT_cons, textT_app, List.append_assoc, List.cons_append]
  rfl
end Go.Proofs.YtgkhjgpgdfbdpaaGreatDoor

namespace Go.Proofs.YtgkhjgpgdfbdpaaGreatDoor
open Go Go.Wk
set_option maxRecDepth 100000
theorem some_good {α : Type} {k : Nat} {many : Int} {one : List Int → Rd → α × Rd} {r : Rd} {z : List α × Rd} (hz : someU (wordU k) many one 64 r [] = z) (hf : z.2.bad = false) : r.bad = false := by
  cases hr : r.bad with
  | false => rfl
  | true => rw [some_bad hr] at hz; rw [← hz, hr] at hf; cases hf
theorem mode_text {l : List Int} {r : Rd} (hb : r.bad = false) (hl : (l.length : Int) = 1) (h64 : ∀ n ∈ l, I64 n) (h : (modeO l r).2.bad = false) :
    lineT (9, l) ++ 10 :: r.t = textT (modeT (modeO l r).1) ++ (modeO l r).2.t ∧ okMo (modeO l r).1 ∧ (modeO l r).1.wins.length ≤ 64 := by
  unfold modeO at h ⊢
  simp only at h ⊢
  obtain ⟨xs, a1, a2, a3, a4⟩ := some_text (k := 10) (many := 3) (one := winO) (fun x => [winT x]) okWi (by decide) (fun l r hb hl h64 h => by
    refine ⟨line_one ?_ r, gU_ok h64 0, gU_ok h64 1, gU_ok h64 2⟩
    show _ = (10, [gU l 0, gU l 1, gU l 2])
    rw [← len3 (many_pos (by decide) hl)]) 64 r [] hb h
  rw [List.nil_append] at a1
  rw [a1]
  refine ⟨?_, ⟨gU_ok h64 0, a3⟩, a2⟩
  have fm : ∀ l : List WinC, l.flatMap (fun x => [winT x]) = l.map winT := fun l => by induction l <;> simp_all
  have hh : ((9, l) : Tok) = (9, [gU l 0]) := by rw [← len1 hl]
  rw [a4, hh, fm]
  unfold modeT
  rw [textT_cons, List.append_assoc, List.cons_append]
theorem config_text {r : Rd} (hb : r.bad = false) (h : (configU r).2.bad = false) : r.t = textT (toksU (configU r).1) ++ (configU r).2.t ∧ okU (configU r).1 ∧ shortU (configU r).1 := by
  unfold configU at h ⊢
  simp only at h ⊢
  generalize hza : someU (wordU 0) 4 partO 64 r [] = za at h ⊢
  generalize hzb : someU (wordU 8) 4 chanO 64 za.2 [] = zb at h ⊢
  generalize hzc : someU (wordU 9) 1 modeO 64 zb.2 [] = zc at h ⊢
  generalize hzd : someU (wordU 11) 2 levelO 64 zc.2 [] = zd at h ⊢
  generalize hze : someU (wordU 12) 3 napO 64 zd.2 [] = ze at h ⊢
  generalize hx : takeU ze.2 (wordU 13) 6 = x at h ⊢
  generalize hy : takeU x.2 (wordU 14) (-1) = y at h ⊢
  obtain ⟨u1, u2, u3, _, hy0⟩ := take_text (by decide) h
  have hy0' : (takeU x.2 (wordU 14) (-1)).2.bad = false := by rw [hy]; exact hy0
  obtain ⟨v1, v2, v3, _, hx0⟩ := take_text (by decide) hy0'
  have hx0' : (takeU ze.2 (wordU 13) 6).2.bad = false := by rw [hx]; exact hx0
  obtain ⟨w1, w2, _, w4, he0⟩ := take_text (by decide) hx0'
  have hd0 := some_good hze he0
  have hc0 := some_good hzd hd0
  have hb0 := some_good hzc hc0
  have ha0 := some_good hzb hb0
  obtain ⟨xa, a1, a2, a3, a4⟩ := some_text (k := 0) (many := 4) (one := partO) partT (fun p => okPv p ∧ shortP p) (by decide) (fun l r hb hl h64 h => part_text hb (many_pos (by decide) hl) h64 h) 64 r [] hb (by rw [hza]; exact ha0)
  obtain ⟨xb, b1, b2, b3, b4⟩ := some_text (k := 8) (many := 4) (one := chanO) (fun x => [chanT x]) okCh (by decide) (fun l r hb hl h64 h => by
    refine ⟨line_one ?_ r, gU_ok h64 0, gU_ok h64 1, gU_ok h64 2, gU_ok h64 3⟩
    show _ = (8, [gU l 0, gU l 1, gU l 2, gU l 3])
    rw [← len4 (many_pos (by decide) hl)]) 64 za.2 [] ha0 (by rw [hzb]; exact hb0)
  obtain ⟨xc, c1, c2, c3, c4⟩ := some_text (k := 9) (many := 1) (one := modeO) modeT (fun m => okMo m ∧ m.wins.length ≤ 64) (by decide) (fun l r hb hl h64 h => mode_text hb (many_pos (by decide) hl) h64 h) 64 zb.2 [] hb0 (by rw [hzc]; exact hc0)
  obtain ⟨xd, d1, d2, d3, d4⟩ := some_text (k := 11) (many := 2) (one := levelO) (fun x => [levelT x]) okLe (by decide) (fun l r hb hl h64 h => by
    refine ⟨line_one ?_ r, gU_ok h64 0, gU_ok h64 1⟩
    show _ = (11, [gU l 0, gU l 1])
    rw [← len2 (many_pos (by decide) hl)]) 64 zc.2 [] hc0 (by rw [hzd]; exact hd0)
  obtain ⟨xe, e1, e2, e3, e4⟩ := some_text (k := 12) (many := 3) (one := napO) (fun x => [napT x]) okNa (by decide) (fun l r hb hl h64 h => by
    refine ⟨line_one ?_ r, gU_ok h64 0, gU_ok h64 1, gU_ok h64 2⟩
    show _ = (12, [gU l 0, gU l 1, gU l 2])
    rw [← len3 (many_pos (by decide) hl)]) 64 zd.2 [] hd0 (by rw [hze]; exact he0)
  rw [hza] at a1 a4
  rw [hzb] at b1 b4
  rw [hzc] at c1 c4
  rw [hzd] at d1 d4
  rw [hze] at e1 e4
  rw [hx] at w1 w2 w4
  rw [hy] at v1 v2 v3
  rw [List.nil_append] at a1 b1 c1 d1 e1
  have fm : ∀ {α : Type} (f : α → Tok) (l : List α), l.flatMap (fun x => [f x]) = l.map f := fun f l => by induction l <;> simp_all
  refine ⟨?_, ⟨by rw [a1]; exact fun p hp => (a3 p hp).1, by rw [b1]; exact b3, by rw [c1]; exact fun p hp => (c3 p hp).1, by rw [d1]; exact d3, by rw [e1]; exact e3, gU_ok w2 0, gU_ok w2 1, gU_ok w2 2, gU_ok w2 3, gU_ok w2 4, gU_ok w2 5, v2, u2⟩,
    by rw [a1]; exact a2, by rw [b1]; exact b2, by rw [c1]; exact c2, by rw [d1]; exact d2, by rw [e1]; exact e2, v3, u3, by rw [a1]; exact fun p hp => (a3 p hp).2, by rw [c1]; exact fun p hp => (c3 p hp).2⟩
  rw [a4, b4, c4, d4, e4, w1, v1, u1]
  simp only [fm, ← a1, ← b1, ← c1, ← d1, ← e1]
  have hh : ((13, x.1) : Tok) = (13, [gU x.1 0, gU x.1 1, gU x.1 2, gU x.1 3, gU x.1 4, gU x.1 5]) := by rw [← len6 (many_pos (by decide) w4)]
  rw [hh]
  unfold toksU
  simp only [textT_cons, textT_app, List.append_assoc, List.cons_append]
  rfl
/-- What is read without an error is printed just so; else it is nothing. -/
theorem readU_inv (s : List UInt8) : ((readU s).2.2 = 0 ∧ (readU s).2.1 = 0 ∧ textT (toksU (readU s).1) = s ∧ okU (readU s).1 ∧ shortU (readU s).1 ∧ s.length ≤ 65536) ∨ ((readU s).2.2 ≠ 0 ∧ (readU s).1 = ConfV.none) := by
  unfold readU
  by_cases hs : 65536 < s.length
  · rw [if_pos hs]
    exact .inr ⟨fun h => absurd (show (3 : Int) = 0 from h) (by decide), rfl⟩
  · rw [if_neg hs]
    by_cases hq : (configU ⟨s, 1, false⟩).2.bad = true ∨ (configU ⟨s, 1, false⟩).2.t ≠ []
    · rw [if_pos hq]
      exact .inr ⟨fun h => absurd (show (13 : Int) = 0 from h) (by decide), rfl⟩
    · rw [if_neg hq]
      have h1 : (configU ⟨s, 1, false⟩).2.bad = false := by
        cases hb : (configU ⟨s, 1, false⟩).2.bad with
        | false => rfl
        | true => exact absurd (.inl hb) hq
      have h2 : (configU ⟨s, 1, false⟩).2.t = [] := Classical.byContradiction fun h => hq (.inr h)
      obtain ⟨t1, t2, t3⟩ := config_text (r := ⟨s, 1, false⟩) rfl h1
      rw [h2, List.append_nil] at t1
      exact .inl ⟨rfl, rfl, t1.symm, t2, t3, by omega⟩
end Go.Proofs.YtgkhjgpgdfbdpaaGreatDoor

namespace Go.Proofs.YtgkhjgpgdfbdpaaGreatDoor
open Go Go.Wk
set_option maxRecDepth 100000
/-! ### what is printed is read back -/
noncomputable def hdX (t : List UInt8) : Option Tok := match wordsA 10 t with
  | w :: _ :: _ => tokU w
  | _ => none
def okTk (t : Tok) : Prop := t.1 < 16 ∧ ∀ n ∈ t.2, I64 n
theorem hdX_line {t : Tok} {s : List UInt8} (h : okTk t) : hdX (lineT t ++ 10 :: s) = some t := by
  unfold hdX
  rw [wordsA_hit (line_no10 t)]
  cases hq : wordsA 10 s with
  | nil => exact absurd hq (wordsA_ne _ _)
  | cons v q => exact tokU_line h.1 h.2
theorem next_line {t : Tok} {s : List UInt8} {r : Rd} (h : r.t = lineT t ++ 10 :: s) (hb : r.bad = false) : nextU r = ⟨s, r.at' + 1, false⟩ := by
  unfold nextU
  rw [h, cutA_hit (line_no10 t), hb]
theorem some_back {α : Type} {k : Nat} {many : Int} {one : List Int → Rd → α × Rd} (tk : α → List Tok) (nx : List UInt8 → Prop) (hk : k < 16) (t' : List UInt8)
    (hstop : ∀ l, hdX t' ≠ some (k, l)) : ∀ (xs : List α)
    (_ : ∀ x ∈ xs, ∃ l ts, tk x = (k, l) :: ts ∧ (many < 0 ∨ (l.length : Int) = many) ∧ l.length ≤ 64 ∧ (∀ n ∈ l, I64 n) ∧ ∀ r t2, r.bad = false → r.t = textT ts ++ t2 → nx t2 → ∃ a, one l r = (x, ⟨t2, a, false⟩))
    (_ : ∀ ys : List α, (∀ y ∈ ys, y ∈ xs) → nx (textT (ys.flatMap tk) ++ t')),
    ∀ n r out, xs.length ≤ n → r.bad = false → r.t = textT (xs.flatMap tk) ++ t' → ∃ a, someU (wordU k) many one n r out = (out ++ xs, ⟨t', a, false⟩)
  | [], _, _, n, r, out, _, hb, ht => by
    have ht' : r.t = t' := by rw [ht]; rfl
    have hr : r = ⟨t', r.at', false⟩ := by
      cases r
      simp only at hb ht'
      subst hb
      subst ht'
      rfl
    refine ⟨r.at', ?_⟩
    rw [← hr, List.append_nil]
    cases n with
    | zero => rfl
    | succ n =>
      have hp : peekU r (wordU k) = none := by
        cases hp : peekU r (wordU k) with
        | none => rfl
        | some l =>
          have := ((peek_some hk).1 hp).2
          exact absurd (show hdX t' = some (k, l) by rw [← ht']; exact this) (hstop l)
      unfold someU
      rw [hp]
  | x :: xs, hone, hnx, n, r, out, hn, hb, ht => by
    obtain ⟨l, ts, h1, h2, h3, h4, h5⟩ := hone x (List.mem_cons_self ..)
    cases n with
    | zero => simp at hn
    | succ n =>
      have hr : r.t = lineT (k, l) ++ 10 :: (textT ts ++ (textT (xs.flatMap tk) ++ t')) := by
        rw [ht, List.flatMap_cons, h1, textT_app, textT_cons]
        simp
      have hd : hdU r = some (k, l) := by
        have := hdX_line (t := (k, l)) (s := textT ts ++ (textT (xs.flatMap tk) ++ t')) ⟨hk, h4⟩
        rw [← hr] at this
        exact this
      have hp : peekU r (wordU k) = some l := (peek_some hk).2 ⟨hb, hd⟩
      have hy := take_yes hp h2 h3
      have hx := next_line hr hb
      obtain ⟨a, ha⟩ := h5 (nextU r) (textT (xs.flatMap tk) ++ t') hb (by rw [hx]) (hnx xs fun y hy => List.mem_cons_of_mem _ hy)
      have e : someU (wordU k) many one (n + 1) r out = someU (wordU k) many one n (one l (nextU r)).2 (out ++ [(one l (nextU r)).1]) := by
        conv => lhs; unfold someU
        have hnb : (nextU r).bad = false := hb
        simp only [hp, hy, hnb]
        rfl
      rw [e, ha]
      obtain ⟨b, hb'⟩ := some_back tk nx hk t' hstop xs (fun y hy => hone y (List.mem_cons_of_mem _ hy)) (fun ys hys => hnx ys fun y hy => List.mem_cons_of_mem _ (hys y hy)) n ⟨textT (xs.flatMap tk) ++ t', a, false⟩ (out ++ [x]) (by simp at hn; omega) rfl rfl
      exact ⟨b, by rw [hb']; simp⟩
/-- A row of lines of other kinds. -/
def gT (k : Nat) (L : List Tok) : Prop := L ≠ [] ∧ ∀ t ∈ L, t.1 ≠ k ∧ okTk t
theorem gT_stop {k : Nat} {L : List Tok} {t : List UInt8} (h : gT k L) : ∀ l, hdX (textT L ++ t) ≠ some (k, l) := by
  obtain ⟨h1, h2⟩ := h
  cases L with
  | nil => exact absurd rfl h1
  | cons x L =>
    intro l
    obtain ⟨h3, h4⟩ := h2 x (List.mem_cons_self ..)
    have e : textT (x :: L) ++ t = lineT x ++ 10 :: (textT L ++ t) := by rw [textT_cons]; simp
    rw [e, hdX_line h4]
    intro he
    exact h3 (by rw [Option.some.inj he])
theorem gT_app {α : Type} {k : Nat} {f : α → Tok} {xs : List α} {L : List Tok} (h : ∀ x ∈ xs, (f x).1 ≠ k ∧ okTk (f x)) (hL : gT k L) : gT k (xs.map f ++ L) :=
  ⟨by simp [hL.1], fun t ht => by
    rcases List.mem_append.1 ht with ht | ht
    · obtain ⟨x, hx, rfl⟩ := List.mem_map.1 ht
      exact h x hx
    · exact hL.2 t ht⟩
theorem gT_flat {α : Type} {k : Nat} {f : α → List Tok} {xs : List α} {L : List Tok} (h : ∀ x ∈ xs, ∀ t ∈ f x, t.1 ≠ k ∧ okTk t) (hL : gT k L) : gT k (xs.flatMap f ++ L) :=
  ⟨by simp [hL.1], fun t ht => by
    rcases List.mem_append.1 ht with ht | ht
    · obtain ⟨x, hx, ht⟩ := List.mem_flatMap.1 ht
      exact h x hx t ht
    · exact hL.2 t ht⟩
theorem gT_cons {k : Nat} {t : Tok} {L : List Tok} (h : t.1 ≠ k ∧ okTk t) (hL : gT k L) : gT k (t :: L) :=
  ⟨by simp, fun x hx => by
    rcases List.mem_cons.1 hx with rfl | hx
    · exact h
    · exact hL.2 x hx⟩
theorem gT_one {k : Nat} {t : Tok} (h : t.1 ≠ k ∧ okTk t) : gT k [t] := ⟨by simp, fun x hx => by rw [List.mem_singleton.1 hx]; exact h⟩
theorem plain_back {α : Type} {k : Nat} {many : Int} {one : List Int → Rd → α × Rd} (f : α → Tok) (hk : k < 16) {xs : List α} {L : List Tok} {t2 : List UInt8}
    (hf : ∀ x ∈ xs, (f x).1 = k ∧ (many < 0 ∨ ((f x).2.length : Int) = many) ∧ (f x).2.length ≤ 64 ∧ okTk (f x) ∧ ∀ r, r.bad = false → one (f x).2 r = (x, r)) (hL : gT k L) (hn : xs.length ≤ 64) (r : Rd) (hb : r.bad = false)
    (ht : r.t = textT (xs.map f ++ L) ++ t2) : ∃ a, someU (wordU k) many one 64 r [] = (xs, ⟨textT L ++ t2, a, false⟩) := by
  have fm : ∀ l : List α, l.flatMap (fun x => [f x]) = l.map f := fun l => by induction l <;> simp_all
  obtain ⟨a, ha⟩ := some_back (k := k) (many := many) (one := one) (fun x => [f x]) (fun _ => True) hk (textT L ++ t2) (gT_stop hL) xs (fun x hx => by
    obtain ⟨h1, h2, h3, h4, h5⟩ := hf x hx
    refine ⟨(f x).2, [], by rw [← h1], h2, h3, h4.2, fun r t2 hb ht _ => ⟨r.at', ?_⟩⟩
    rw [h5 r hb]
    have ht' : r.t = t2 := by rw [ht]; rfl
    cases r
    simp only at hb ht'
    rw [hb, ht']) (fun _ _ => trivial) 64 r [] hn hb (by rw [ht, fm, textT_app, List.append_assoc])
  exact ⟨a, by rw [ha, List.nil_append]⟩
theorem take_back {k : Nat} {many : Int} {l : List Int} {t2 : List UInt8} {r : Rd} (hk : k < 16) (hl : many < 0 ∨ (l.length : Int) = many) (h64 : l.length ≤ 64) (hi : ∀ n ∈ l, I64 n) (hb : r.bad = false) (ht : r.t = lineT (k, l) ++ 10 :: t2) :
    ∃ a, takeU r (wordU k) many = (l, ⟨t2, a, false⟩) := by
  have hd : hdU r = some (k, l) := by
    have := hdX_line (t := (k, l)) (s := t2) ⟨hk, hi⟩
    rw [← ht] at this
    exact this
  refine ⟨r.at' + 1, ?_⟩
  rw [take_yes ((peek_some hk).2 ⟨hb, hd⟩) hl h64, next_line ht hb]
theorem bit_eq (b : Bool) : (bitU b == 1) = b := by cases b <;> rfl
theorem bit_B (b : Bool) : isB (bitU b) = true := by cases b <;> rfl
theorem bit_ok (b : Bool) : I64 (bitU b) := by cases b <;> (unfold bitU I64; simp)
theorem I64s1 {a : Int} (h : I64 a) : ∀ n ∈ [a], I64 n := fun n hn => by rw [List.mem_singleton.1 hn]; exact h
theorem I64s {a : Int} {l : List Int} (h : I64 a) (hl : ∀ n ∈ l, I64 n) : ∀ n ∈ a :: l, I64 n := fun n hn => by
  rcases List.mem_cons.1 hn with rfl | hn
  · exact h
  · exact hl n hn
theorem reg_tk {x : RegC} (h : I64 x.base ∧ I64 x.size) : okTk (regT x) := ⟨show (1 : Nat) < 16 by decide, I64s (h.1) (I64s (h.2) (I64s1 (bit_ok _)))⟩
theorem proc_tk {x : ProcC} (h : I64 x.prio ∧ I64 x.period ∧ I64 x.cost) : okTk (procT x) := ⟨show (2 : Nat) < 16 by decide, I64s (h.1) (I64s (h.2.1) (I64s1 (h.2.2)))⟩
theorem port_tk {x : PortC} (h : I64 x.size ∧ I64 x.depth) : okTk (portT x) := ⟨show (3 : Nat) < 16 by decide, I64s (bit_ok _) (I64s (bit_ok _) (I64s (h.1) (I64s1 (h.2))))⟩
theorem sem_tk {x : SemC} (h : I64 x.first ∧ I64 x.most) : okTk (semT x) := ⟨show (4 : Nat) < 16 by decide, I64s (h.1) (I64s1 (h.2))⟩
theorem pool_tk {x : PoolC} (h : I64 x.size ∧ I64 x.depth) : okTk (poolT x) := ⟨show (5 : Nat) < 16 by decide, I64s (h.1) (I64s1 (h.2))⟩
theorem slate_tk {x : Int} (h : I64 x) : okTk (slateT x) := ⟨show (6 : Nat) < 16 by decide, I64s1 (h)⟩
theorem chan_tk {x : ChanC} (h : okCh x) : okTk (chanT x) := ⟨show (8 : Nat) < 16 by decide, I64s (h.1) (I64s (h.2.1) (I64s (h.2.2.1) (I64s1 (h.2.2.2))))⟩
theorem win_tk {x : WinC} (h : okWi x) : okTk (winT x) := ⟨show (10 : Nat) < 16 by decide, I64s (h.1) (I64s (h.2.1) (I64s1 (h.2.2)))⟩
theorem level_tk {x : LevelC} (h : okLe x) : okTk (levelT x) := ⟨show (11 : Nat) < 16 by decide, I64s (h.1) (I64s1 (h.2))⟩
theorem nap_tk {x : NapC} (h : okNa x) : okTk (napT x) := ⟨show (12 : Nat) < 16 by decide, I64s (h.1) (I64s (h.2.1) (I64s1 (h.2.2)))⟩
theorem reg_back (x : RegC) (r : Rd) (_ : r.bad = false) : regO (regT x).2 r = (x, r) := by
  unfold regO regT
  simp only
  have h : truthU r (gU [x.base, x.size, bitU x.w] 2) = r := truth_yes (bit_B _)
  rw [h]
  show (RegC.mk x.base x.size (bitU x.w == 1), r) = _
  rw [bit_eq]
theorem port_back (x : PortC) (r : Rd) (_ : r.bad = false) : portO (portT x).2 r = (x, r) := by
  unfold portO portT
  simp only
  have h : truthU r (gU [bitU x.q, bitU x.i, x.size, x.depth] 0) = r := truth_yes (bit_B _)
  have h2 : truthU r (gU [bitU x.q, bitU x.i, x.size, x.depth] 1) = r := truth_yes (bit_B _)
  rw [h, h2]
  show (PortC.mk (bitU x.q == 1) (bitU x.i == 1) x.size x.depth, r) = _
  rw [bit_eq, bit_eq]
def partTs (p : PartV) : List Tok := p.regions.map regT ++ (p.procs.map procT ++ (p.ports.map portT ++ (p.sems.map semT ++ (p.pools.map poolT ++ (p.slates.map slateT ++ [(7, p.acts)])))))
theorem partT_eq (p : PartV) : partT p = headT p :: partTs p := by
  unfold partT partTs
  simp
theorem part_back {p : PartV} {r : Rd} {t2 : List UInt8} (ho : okPv p) (hs : shortP p) (hb : r.bad = false) (ht : r.t = textT (partTs p) ++ t2) :
    ∃ a, partO [p.flags, p.cap, p.budget, p.ladder] r = (p, ⟨t2, a, false⟩) := by
  obtain ⟨p1, p2, p3, p4, _, p6, p7, _, _, _, p11⟩ := ho
  obtain ⟨s1, s2, s3, s4, s5, s6, s7⟩ := hs
  have g1 : gT 1 (p.procs.map procT ++ (p.ports.map portT ++ (p.sems.map semT ++ (p.pools.map poolT ++ (p.slates.map slateT ++ [(7, p.acts)]))))) := gT_app (fun x hx => ⟨show (2 : Nat) ≠ 1 by decide, proc_tk (p2 x hx)⟩) (gT_app (fun x hx => ⟨show (3 : Nat) ≠ 1 by decide, port_tk (p3 x hx)⟩) (gT_app (fun x hx => ⟨show (4 : Nat) ≠ 1 by decide, sem_tk (p4 x hx)⟩) (gT_app (fun x hx => ⟨show (5 : Nat) ≠ 1 by decide, pool_tk (p6 x hx)⟩) (gT_app (fun x hx => ⟨show (6 : Nat) ≠ 1 by decide, slate_tk (p7 x hx)⟩) (gT_one (t := ((7, p.acts) : Tok)) ⟨show (7 : Nat) ≠ 1 by decide, show (7 : Nat) < 16 by decide, p11⟩)))))
  obtain ⟨a1, e1⟩ := plain_back (k := 1) (many := 3) (one := regO) regT (by decide) (xs := p.regions) (L := p.procs.map procT ++ (p.ports.map portT ++ (p.sems.map semT ++ (p.pools.map poolT ++ (p.slates.map slateT ++ [(7, p.acts)]))))) (t2 := t2) (fun x hx => ⟨rfl, .inr rfl, show (3 : Nat) ≤ 64 by decide, reg_tk (p1 x hx), reg_back x⟩) g1 s1 r hb ht
  have g2 : gT 2 (p.ports.map portT ++ (p.sems.map semT ++ (p.pools.map poolT ++ (p.slates.map slateT ++ [(7, p.acts)])))) := gT_app (fun x hx => ⟨show (3 : Nat) ≠ 2 by decide, port_tk (p3 x hx)⟩) (gT_app (fun x hx => ⟨show (4 : Nat) ≠ 2 by decide, sem_tk (p4 x hx)⟩) (gT_app (fun x hx => ⟨show (5 : Nat) ≠ 2 by decide, pool_tk (p6 x hx)⟩) (gT_app (fun x hx => ⟨show (6 : Nat) ≠ 2 by decide, slate_tk (p7 x hx)⟩) (gT_one (t := ((7, p.acts) : Tok)) ⟨show (7 : Nat) ≠ 2 by decide, show (7 : Nat) < 16 by decide, p11⟩))))
  obtain ⟨a2, e2⟩ := plain_back (k := 2) (many := 3) (one := procO) procT (by decide) (xs := p.procs) (L := p.ports.map portT ++ (p.sems.map semT ++ (p.pools.map poolT ++ (p.slates.map slateT ++ [(7, p.acts)])))) (t2 := t2) (fun x hx => ⟨rfl, .inr rfl, show (3 : Nat) ≤ 64 by decide, proc_tk (p2 x hx), fun r _ => rfl⟩) g2 s2 ⟨_, a1, false⟩ rfl rfl
  have g3 : gT 3 (p.sems.map semT ++ (p.pools.map poolT ++ (p.slates.map slateT ++ [(7, p.acts)]))) := gT_app (fun x hx => ⟨show (4 : Nat) ≠ 3 by decide, sem_tk (p4 x hx)⟩) (gT_app (fun x hx => ⟨show (5 : Nat) ≠ 3 by decide, pool_tk (p6 x hx)⟩) (gT_app (fun x hx => ⟨show (6 : Nat) ≠ 3 by decide, slate_tk (p7 x hx)⟩) (gT_one (t := ((7, p.acts) : Tok)) ⟨show (7 : Nat) ≠ 3 by decide, show (7 : Nat) < 16 by decide, p11⟩)))
  obtain ⟨a3, e3⟩ := plain_back (k := 3) (many := 4) (one := portO) portT (by decide) (xs := p.ports) (L := p.sems.map semT ++ (p.pools.map poolT ++ (p.slates.map slateT ++ [(7, p.acts)]))) (t2 := t2) (fun x hx => ⟨rfl, .inr rfl, show (4 : Nat) ≤ 64 by decide, port_tk (p3 x hx), port_back x⟩) g3 s3 ⟨_, a2, false⟩ rfl rfl
  have g4 : gT 4 (p.pools.map poolT ++ (p.slates.map slateT ++ [(7, p.acts)])) := gT_app (fun x hx => ⟨show (5 : Nat) ≠ 4 by decide, pool_tk (p6 x hx)⟩) (gT_app (fun x hx => ⟨show (6 : Nat) ≠ 4 by decide, slate_tk (p7 x hx)⟩) (gT_one (t := ((7, p.acts) : Tok)) ⟨show (7 : Nat) ≠ 4 by decide, show (7 : Nat) < 16 by decide, p11⟩))
  obtain ⟨a4, e4⟩ := plain_back (k := 4) (many := 2) (one := semO) semT (by decide) (xs := p.sems) (L := p.pools.map poolT ++ (p.slates.map slateT ++ [(7, p.acts)])) (t2 := t2) (fun x hx => ⟨rfl, .inr rfl, show (2 : Nat) ≤ 64 by decide, sem_tk (p4 x hx), fun r _ => rfl⟩) g4 s4 ⟨_, a3, false⟩ rfl rfl
  have g5 : gT 5 (p.slates.map slateT ++ [(7, p.acts)]) := gT_app (fun x hx => ⟨show (6 : Nat) ≠ 5 by decide, slate_tk (p7 x hx)⟩) (gT_one (t := ((7, p.acts) : Tok)) ⟨show (7 : Nat) ≠ 5 by decide, show (7 : Nat) < 16 by decide, p11⟩)
  obtain ⟨a5, e5⟩ := plain_back (k := 5) (many := 2) (one := poolO) poolT (by decide) (xs := p.pools) (L := p.slates.map slateT ++ [(7, p.acts)]) (t2 := t2) (fun x hx => ⟨rfl, .inr rfl, show (2 : Nat) ≤ 64 by decide, pool_tk (p6 x hx), fun r _ => rfl⟩) g5 s5 ⟨_, a4, false⟩ rfl rfl
  have g6 : gT 6 ([(7, p.acts)]) := gT_one (t := ((7, p.acts) : Tok)) ⟨show (7 : Nat) ≠ 6 by decide, show (7 : Nat) < 16 by decide, p11⟩
  obtain ⟨a6, e6⟩ := plain_back (k := 6) (many := 1) (one := slateO) slateT (by decide) (xs := p.slates) (L := [(7, p.acts)]) (t2 := t2) (fun x hx => ⟨rfl, .inr rfl, show (1 : Nat) ≤ 64 by decide, slate_tk (p7 x hx), fun r _ => rfl⟩) g6 s6 ⟨_, a5, false⟩ rfl rfl
  obtain ⟨a7, e7⟩ := take_back (k := 7) (many := -1) (l := p.acts) (t2 := t2) (r := ⟨textT [(7, p.acts)] ++ t2, a6, false⟩) (by decide) (.inl (by decide)) s7 p11 rfl (by simp [textT])
  refine ⟨a7, ?_⟩
  unfold partO
  simp only [e1, e2, e3, e4, e5, e6, e7]
  rfl
theorem mode_back {m : ModeV} {r : Rd} {t2 : List UInt8} (ho : okMo m) (hs : m.wins.length ≤ 64) (hb : r.bad = false) (ht : r.t = textT (m.wins.map winT) ++ t2) (hx : ∀ l, hdX t2 ≠ some (10, l)) :
    ∃ a, modeO [m.frame] r = (m, ⟨t2, a, false⟩) := by
  have fm : ∀ l : List WinC, l.flatMap (fun x => [winT x]) = l.map winT := fun l => by induction l <;> simp_all
  obtain ⟨a, ha⟩ := some_back (k := 10) (many := 3) (one := winO) (fun x => [winT x]) (fun _ => True) (by decide) t2 hx m.wins (fun x hx => by
    refine ⟨(winT x).2, [], rfl, .inr rfl, show (3 : Nat) ≤ 64 by decide, (win_tk (ho.2 x hx)).2, fun r t2 hb ht _ => ⟨r.at', ?_⟩⟩
    have ht' : r.t = t2 := by rw [ht]; rfl
    cases r
    simp only at hb ht'
    rw [hb, ht']
    rfl) (fun _ _ => trivial) 64 r [] hs hb (by rw [ht, fm])
  refine ⟨a, ?_⟩
  unfold modeO
  simp only [ha]
  rfl
end Go.Proofs.YtgkhjgpgdfbdpaaGreatDoor

namespace Go.Proofs.YtgkhjgpgdfbdpaaGreatDoor
open Go Go.Wk
set_option maxRecDepth 100000
def restT (c : ConfV) : List Tok := [powerT c, (14, c.down), (15, c.up)]
theorem toks_eq (c : ConfV) : toksU c = c.parts.flatMap partT ++ (c.chans.map chanT ++ (c.modes.flatMap modeT ++ (c.levels.map levelT ++ (c.naps.map napT ++ restT c)))) := by
  unfold toksU restT
  simp
theorem rest_g {c : ConfV} (ho : okU c) {k : Nat} (hk : k < 13) : gT k (restT c) := by
  obtain ⟨_, _, _, _, _, p1, p2, p3, p4, p5, p6, p7, p8⟩ := ho
  refine gT_cons ⟨show (13 : Nat) ≠ k by omega, show (13 : Nat) < 16 by decide, I64s p1 (I64s p2 (I64s p3 (I64s p4 (I64s p5 (I64s1 p6)))))⟩ (gT_cons ⟨show (14 : Nat) ≠ k by omega, show (14 : Nat) < 16 by decide, p7⟩ (gT_one ⟨show (15 : Nat) ≠ k by omega, show (15 : Nat) < 16 by decide, p8⟩))
theorem naps_g {c : ConfV} (ho : okU c) {k : Nat} (hk : k < 12) : gT k (c.naps.map napT ++ restT c) := gT_app (fun x hx => ⟨show (12 : Nat) ≠ k by omega, nap_tk (ho.2.2.2.2.1 x hx)⟩) (rest_g ho (by omega))
theorem levels_g {c : ConfV} (ho : okU c) {k : Nat} (hk : k < 11) : gT k (c.levels.map levelT ++ (c.naps.map napT ++ restT c)) := gT_app (fun x hx => ⟨show (11 : Nat) ≠ k by omega, level_tk (ho.2.2.2.1 x hx)⟩) (naps_g ho (by omega))
theorem mode_toks {m : ModeV} (ho : okMo m) {k : Nat} (hk : k < 9) : ∀ t ∈ modeT m, t.1 ≠ k ∧ okTk t := fun t ht => by
  unfold modeT at ht
  rcases List.mem_cons.1 ht with rfl | ht
  · exact ⟨show (9 : Nat) ≠ k by omega, show (9 : Nat) < 16 by decide, I64s1 ho.1⟩
  · obtain ⟨x, hx, rfl⟩ := List.mem_map.1 ht
    exact ⟨show (10 : Nat) ≠ k by omega, win_tk (ho.2 x hx)⟩
theorem modes_g {c : ConfV} (ho : okU c) {k : Nat} (hk : k < 9) : gT k (c.modes.flatMap modeT ++ (c.levels.map levelT ++ (c.naps.map napT ++ restT c))) := gT_flat (fun m hm => mode_toks (ho.2.2.1 m hm) hk) (levels_g ho (by omega))
theorem chans_g {c : ConfV} (ho : okU c) {k : Nat} (hk : k < 8) : gT k (c.chans.map chanT ++ (c.modes.flatMap modeT ++ (c.levels.map levelT ++ (c.naps.map napT ++ restT c)))) := gT_app (fun x hx => ⟨show (8 : Nat) ≠ k by omega, chan_tk (ho.2.1 x hx)⟩) (modes_g ho (by omega))
theorem config_back {c : ConfV} {r : Rd} (ho : okU c) (hs : shortU c) (hb : r.bad = false) (ht : r.t = textT (toksU c)) : ∃ a, configU r = (c, ⟨[], a, false⟩) := by
  obtain ⟨s1, s2, s3, s4, s5, s6, s7, s8, s9⟩ := hs
  obtain ⟨o1, o2, o3, o4, o5, o6, o7, o8, o9, o10, o11, o12, o13⟩ := id ho
  rw [toks_eq, textT_app] at ht
  obtain ⟨a1, e1⟩ := some_back (k := 0) (many := 4) (one := partO) partT (fun _ => True) (by decide) (textT (c.chans.map chanT ++ (c.modes.flatMap modeT ++ (c.levels.map levelT ++ (c.naps.map napT ++ restT c)))))
    (by have := gT_stop (t := []) (chans_g ho (k := 0) (by decide)); rwa [List.append_nil] at this) c.parts (fun p hp => by
      have h := o1 p hp
      obtain ⟨_, _, _, _, h5, _, _, h8, h9, h10, _⟩ := id h
      exact ⟨[p.flags, p.cap, p.budget, p.ladder], partTs p, partT_eq p, .inr rfl, show (4 : Nat) ≤ 64 by decide, I64s h5 (I64s h8 (I64s h9 (I64s1 h10))), fun r t2 hb ht _ => part_back h (s8 p hp) hb ht⟩) (fun _ _ => trivial) 64 r [] s1 hb ht
  rw [List.nil_append] at e1
  obtain ⟨a2, e2⟩ := plain_back (k := 8) (many := 4) (one := chanO) chanT (by decide) (xs := c.chans) (L := c.modes.flatMap modeT ++ (c.levels.map levelT ++ (c.naps.map napT ++ restT c))) (t2 := []) (fun x hx => ⟨rfl, .inr rfl, show (4 : Nat) ≤ 64 by decide, chan_tk (o2 x hx), fun r _ => rfl⟩) (modes_g ho (by decide)) s2 ⟨textT (c.chans.map chanT ++ (c.modes.flatMap modeT ++ (c.levels.map levelT ++ (c.naps.map napT ++ restT c)))), a1, false⟩ rfl (List.append_nil _).symm
  rw [List.append_nil, textT_app (c.modes.flatMap modeT)] at e2
  obtain ⟨a3, e3⟩ := some_back (k := 9) (many := 1) (one := modeO) modeT (fun t => ∀ l, hdX t ≠ some (10, l)) (by decide) (textT (c.levels.map levelT ++ (c.naps.map napT ++ restT c)))
    (by have := gT_stop (t := []) (levels_g ho (k := 9) (by decide)); rwa [List.append_nil] at this) c.modes (fun m hm => ⟨[m.frame], m.wins.map winT, rfl, .inr rfl, show (1 : Nat) ≤ 64 by decide, I64s1 (o3 m hm).1, fun r t2 hb ht hn => mode_back (o3 m hm) (s9 m hm) hb ht hn⟩)
    (fun ys hys => by
      cases ys with
      | nil => have := gT_stop (t := []) (levels_g ho (k := 10) (by decide)); rwa [List.append_nil] at this
      | cons m ys =>
        intro l
        have e : textT ((m :: ys).flatMap modeT) ++ textT (c.levels.map levelT ++ (c.naps.map napT ++ restT c)) = lineT (9, [m.frame]) ++ 10 :: (textT (m.wins.map winT ++ ys.flatMap modeT) ++ textT (c.levels.map levelT ++ (c.naps.map napT ++ restT c))) := by
          rw [List.flatMap_cons]
          unfold modeT
          rw [List.cons_append, textT_cons]
          simp
        rw [e, hdX_line ⟨show (9 : Nat) < 16 by decide, I64s1 (o3 m (hys m (List.mem_cons_self ..))).1⟩]
        intro h
        cases h) 64 ⟨_, a2, false⟩ [] s3 rfl rfl
  rw [List.nil_append] at e3
  obtain ⟨a4, e4⟩ := plain_back (k := 11) (many := 2) (one := levelO) levelT (by decide) (xs := c.levels) (L := c.naps.map napT ++ restT c) (t2 := []) (fun x hx => ⟨rfl, .inr rfl, show (2 : Nat) ≤ 64 by decide, level_tk (o4 x hx), fun r _ => rfl⟩) (naps_g ho (by decide)) s4 ⟨textT (c.levels.map levelT ++ (c.naps.map napT ++ restT c)), a3, false⟩ rfl (List.append_nil _).symm
  obtain ⟨a5, e5⟩ := plain_back (k := 12) (many := 3) (one := napO) napT (by decide) (xs := c.naps) (L := restT c) (t2 := []) (fun x hx => ⟨rfl, .inr rfl, show (3 : Nat) ≤ 64 by decide, nap_tk (o5 x hx), fun r _ => rfl⟩) (rest_g ho (by decide)) s5 ⟨_, a4, false⟩ rfl rfl
  obtain ⟨a6, e6⟩ := take_back (k := 13) (many := 6) (l := [c.sw, c.idle, c.change, c.quantum, c.slow, c.ppm]) (t2 := textT [(14, c.down), (15, c.up)]) (r := ⟨textT (restT c) ++ [], a5, false⟩) (by decide) (.inr rfl) (show (6 : Nat) ≤ 64 by decide) (I64s o6 (I64s o7 (I64s o8 (I64s o9 (I64s o10 (I64s1 o11)))))) rfl (by rw [List.append_nil]; exact textT_cons _ _)
  obtain ⟨a7, e7⟩ := take_back (k := 14) (many := -1) (l := c.down) (t2 := textT [(15, c.up)]) (r := ⟨textT [(14, c.down), (15, c.up)], a6, false⟩) (by decide) (.inl (by decide)) s6 o12 rfl (textT_cons _ _)
  obtain ⟨a8, e8⟩ := take_back (k := 15) (many := -1) (l := c.up) (t2 := []) (r := ⟨textT [(15, c.up)], a7, false⟩) (by decide) (.inl (by decide)) s7 o13 rfl (textT_cons _ _)
  refine ⟨a8, ?_⟩
  unfold configU
  simp only [e1, e2, e3, e4, e5, e6, e7, e8]
  rfl
/-- What is printed is read back. -/
theorem readU_print {c : ConfV} (ho : okU c) (hs : shortU c) (hl : (textT (toksU c)).length ≤ 65536) : readU (textT (toksU c)) = (c, 0, 0) := by
  obtain ⟨a, ha⟩ := config_back (r := ⟨textT (toksU c), 1, false⟩) ho hs rfl rfl
  unfold readU
  rw [if_neg (by omega), ha]
  simp
end Go.Proofs.YtgkhjgpgdfbdpaaGreatDoor
