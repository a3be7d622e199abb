import Derived.Test.YtmebccjndhlpoaaGreatZ09
namespace Go.Proofs.YtmebccjndhlpoaaGreat
open Go Go.Wk Tryz
set_option maxHeartbeats 3200000
set_option maxRecDepth 100000
theorem xD6 {α : Type} {p : α → Bool} {a : α} : ∀ {l : List α} {i : Int}, 0 ≤ i → decide (0 ≤ xBG (fun x _ => !p x) a l i) = l.any p
 | [], _, _ => rfl
 | x :: xs, i, h => by
  unfold xBG
  cases hp : p x with
  | false => rw [Bool.not_false, if_pos rfl, xD6 S.o, List.any_cons, hp, Bool.false_or]
  | true => rw [Bool.not_true, if_neg (by decide), List.any_cons, hp, Bool.true_or]; exact decide_eq_true h
instance xMj : ElT 22 YF := ⟨⟩
theorem xL8 {x y : Operand} {a b c d : Int} {K : Value → WP} : XO prog .eql 114 x y (.agg #[.int .i64 a, .int .i64 b]) (.agg #[.int .i64 c, .int .i64 d]) K = K (.bool (decide ([a, b] = [c, d]))) := xH8 (xs := [a, b]) (ys := [c, d]) rfl rfl
theorem xEk {x : xBK} : List.take 2 (List.drop 2 (En.enc x)) = [.int .i64 x.tp, .int .i64 x.to] := rfl
theorem xEm {x : xBK} : List.take 2 (List.drop 0 (En.enc x)) = [.int .i64 x.fp, .int .i64 x.fo] := rfl
theorem xEp {x : xBK} : List.take 2 (En.enc x) = [.int .i64 x.fp, .int .i64 x.fo] := rfl
def xCO (c : xs2) (p o : Int) : Zd := ix (ix c.parts.d p).ports.d o
def xCm (c : xs2) (p o : Int) : Bool := inB p 0 (IntKind.i64.wrap ((c.parts.d.length : Int) - 1)) && inB o 0 (IntKind.i64.wrap (((ix c.parts.d p).ports.d.length : Int) - 1))
def xDq (x : xBK) (q : Bool) (y : xBK) : Bool := decide ([y.tp, y.to] = [x.tp, x.to]) || (q && decide ([y.fp, y.fo] = [x.fp, x.fo]))
def xDO (c : xs2) (k : Int) : Bool :=
 if inB k 0 (IntKind.i64.wrap ((c.chans.d.length : Int) - 1)) = false then false
 else if xCm c (ix c.chans.d k).fp (ix c.chans.d k).fo = true ∧ xCm c (ix c.chans.d k).tp (ix c.chans.d k).to = true then
  let a := xCO c (ix c.chans.d k).fp (ix c.chans.d k).fo
  let b := xCO c (ix c.chans.d k).tp (ix c.chans.d k).to
  if (ix c.chans.d k).fp = (ix c.chans.d k).tp ∨ a.i = true ∨ b.i = false ∨ (a.q == b.q) = false ∨ b.size < a.size then false
  else !((c.chans.d.take k.toNat).any (xDq (ix c.chans.d k) a.q))
 else false
theorem xB4 {n a b : Int} (h : inB n a b = true) : a ≤ n ∧ n ≤ b := by
 unfold inB at h
 rw [Bool.and_eq_true] at h
 exact ⟨of_decide_eq_true h.1, of_decide_eq_true h.2⟩
structure shC (x : xs2) : Prop where
 p : x.parts.d.length ≤ 1000000000
 c : x.chans.d.length ≤ 1000000000
 m : x.modes.d.length ≤ 1000000000
 l : x.levels.d.length ≤ 1000000000
 n : x.naps.d.length ≤ 1000000000
 d : x.down.d.length ≤ 1000000000
 u : x.up.d.length ≤ 1000000000
 ps : ∀ p ∈ x.parts.d, shP p
 ms : ∀ m ∈ x.modes.d, m.wins.d.length ≤ 1000000000
section
attribute [local irreducible] BrK Xq Xt Xv XI FnK XZ Xw XC XV opX opK Yq Yk eqR Yj Yo Ys WL WD W X3 XO Tr drewK Ya X4 Yw Yv X1 YB mp blk rob sl sep ex fact old
section
attribute [local irreducible] xBG inB xBZ
theorem xKe {p : xBK → Bool} {g : Nat} {cap : List Value} {Z : Xc} {ro : Bool} {s : SV} {l : List xBK} [hg : xqo prog g] (hl : l.length ≤ 1000000000) (hf : ∀ x : xBK, x ∈ l → Xb prog g (.agg (En.enc x).toArray :: cap).toArray [Z] fun v l' => v = .bool (p x) ∧ l' = [Z]) :
  Xb prog 209 #[s.v, .func (.func g) #[] cap.toArray] [sl ro s.v l, Z] fun v l' => v = .int .i64 (xBG (fun x _ => !p x) default l 0) ∧ l' = [sl ro s.v l, Z] := by
 intro F K hK
 simp only [ap]
 refine S.I fun u => ?_
 repeat' (first | refine S.x ?_ | fail)
 refine Tr.loopE (α := Nat) [4, 8] [0, 1, 7] (fun x => [.int .i64 0, .int .i64 x]) (fun x => [sl ro s.v l, Z]) (fun x => x ≤ l.length ∧ xBG (fun x _ => !p x) default l 0 = xBG (fun x _ => !p x) (ahd l x) (l.drop x) x) (fun x => l.length - x) 0 S.T rfl ⟨Nat.zero_le _, rfl⟩ fun k u hk => ?_
 obtain ⟨hk, hm⟩ := hk
 simp only [ap]
 by_cases hin : k < l.length
 ·have hw := Xo (k := k) S.o
  have hfk := hf (ix l (k : Int)) (xB6 hin)
  rw [xB2 hin] at hm
  cases ha : p (ix l (k : Int)) with
  | false =>
   rw [ha, Bool.not_false, if_pos rfl] at hm
   have hX := And.intro hw ha; repeat' (first | rintro _ _ ⟨rfl, rfl⟩ | (refine G.call g ?_; refine S.c ?_ (h := hfk)) | refine S.x ?_ | intro hb | fail)
   all_goals exact S.R (k + 1)
  | true =>
   rw [ha, Bool.not_true, if_neg (by decide)] at hm
   rw [hm] at hK
   clear hm
   have hX := ha; repeat' (first | rintro _ _ ⟨rfl, rfl⟩ | (refine G.call g ?_; refine S.c ?_ (h := hfk)) | refine S.x ?_ | intro hb | fail)
   all_goals exact Tr.fin hK ⟨rfl, rfl⟩ S.E
 ·have hke : k = l.length := by omega
  subst hke
  rw [List.drop_length] at hm
  rw [hm] at hK
  unfold xBG at hK
  clear hm
  repeat' (first | refine S.x ?_ | fail)
  all_goals exact Tr.fin hK ⟨rfl, rfl⟩ S.E
theorem xJ5 {p : xBK → Bool} {g : Nat} {cap : List Value} {Z : Xc} {ro : Bool} {s : SV} {l : List xBK} [hg : xqo prog g] (hl : l.length ≤ 1000000000) (hf : ∀ x : xBK, x ∈ l → Xb prog g (.agg (En.enc x).toArray :: cap).toArray [Z] fun v l' => v = .bool (p x) ∧ l' = [Z]) :
  Xb prog 159 #[s.v, .func (.func g) #[] cap.toArray] [sl ro s.v l, Z] fun v l' => v = .bool (l.any p) ∧ l' = [sl ro s.v l, Z] := by
 intro F K hK
 simp only [ap]
 rw [← xD6 (p := p) (a := default) (l := l) (i := 0) (Int.le_refl 0)] at hK
 have hi := xKe (ro := ro) (s := s) hl hf
 refine S.I fun u => ?_
 repeat' (first | rintro _ _ ⟨rfl, rfl⟩ | (refine G.call 209 ?_; refine S.c ?_ (h := hi)) | refine S.x ?_ | fail)
 all_goals exact Tr.fin hK ⟨rfl, rfl⟩ S.E
section
variable {c : xs2}
theorem xFW (hs : shC c) {p o : Int} : Xb prog 158 #[.agg (En.enc c).toArray, .agg #[.int .i64 p, .int .i64 o]] [sl true c.parts.s.v c.parts.d, fzl c.parts.d]
  fun v l' => v = .tuple #[.agg (En.enc (if xCm c p o = true then xCO c p o else default)).toArray, .bool (xCm c p o)] ∧ l' = [] := by
 intro F K hK
 simp only [ap]
 by_cases h1 : inB p 0 (IntKind.i64.wrap ((c.parts.d.length : Int) - 1)) = true
 ·have hp := xB4 h1
  have hwl := hs.p
  have hw : IntKind.i64.wrap ((c.parts.d.length : Int) - 1) = (c.parts.d.length : Int) - 1 := Ye S.o S.o
  rw [hw] at hp
  obtain ⟨hp0, hp1⟩ := hp
  have hso := (hs.ps _ (List.mem_of_getElem? (Yi hp0 S.o))).o
  by_cases h2 : inB o 0 (IntKind.i64.wrap (((ix c.parts.d p).ports.d.length : Int) - 1)) = true
  ·have ho := xB4 h2
   have hw2 : IntKind.i64.wrap (((ix c.parts.d p).ports.d.length : Int) - 1) = ((ix c.parts.d p).ports.d.length : Int) - 1 := Ye S.o S.o
   rw [hw2] at ho
   obtain ⟨ho0, ho1⟩ := ho
   have hpi : xCm c p o = true := by unfold xCm; rw [h1, h2]; rfl
   rw [if_pos hpi, hpi] at hK
   unfold xCO at hK
   clear hw hw2 hpi
   refine S.I fun u => ?_
   have hX := I3 @xGL.eq_def h1 h2; repeat' (first | refine S.x ?_ | (refine G.call 60 ?_; refine S.c ?_ (h := xB1)) | rintro _ _ ⟨rfl, rfl⟩ | intro hb | fail)
   all_goals exact Tr.fin hK ⟨rfl, rfl⟩ S.E
  ·have h2' : inB o 0 (IntKind.i64.wrap (((ix c.parts.d p).ports.d.length : Int) - 1)) = false := by simpa using h2
   have hpi : xCm c p o = false := by unfold xCm; rw [h1, h2']; rfl
   rw [hpi, if_neg (by decide)] at hK
   clear hw hpi h2
   refine S.I fun u => ?_
   have hX := I3 @xGL.eq_def h1 @h2'; repeat' (first | refine S.x ?_ | (refine G.call 60 ?_; refine S.c ?_ (h := xB1)) | rintro _ _ ⟨rfl, rfl⟩ | intro hb | fail)
   all_goals exact Tr.fin hK ⟨rfl, rfl⟩ S.E
 ·have h1' : inB p 0 (IntKind.i64.wrap ((c.parts.d.length : Int) - 1)) = false := by simpa using h1
  have hpi : xCm c p o = false := by unfold xCm; rw [h1']; rfl
  rw [hpi, if_neg (by decide)] at hK
  clear hpi h1
  refine S.I fun u => ?_
  have hX := And.intro @xGL.eq_def @h1'; repeat' (first | refine S.x ?_ | (refine G.call 60 ?_; refine S.c ?_ (h := xB1)) | rintro _ _ ⟨rfl, rfl⟩ | intro hb | fail)
  all_goals exact Tr.fin hK ⟨rfl, rfl⟩ S.E
theorem xH0 {x y : xBK} {a : Zd} {b1 b2 : Nat} : Xb prog 160 (.agg (En.enc y).toArray :: [.pointer (some ⟨b1, 0, none⟩), .pointer (some ⟨b2, 0, none⟩)]).toArray [blk b1 (.cells (En.enc x).toArray 116 (0, 0)), blk b2 (.cells (En.enc a).toArray 199 (0, 0))]
  fun v l' => v = .bool (xDq x a.q y) ∧ l' = [blk b1 (.cells (En.enc x).toArray 116 (0, 0)), blk b2 (.cells (En.enc a).toArray 199 (0, 0))] := by
 intro F K hK
 simp only [ap]
 unfold xDq at hK
 obtain ⟨x1, x2, x3, x4⟩ := x
 obtain ⟨y1, y2, y3, y4⟩ := y
 obtain ⟨a1, a2, a3, a4⟩ := a
 simp only at hK
 generalize hd1 : decide ([y3, y4] = [x3, x4]) = d1 at hK
 generalize hd2 : decide ([y1, y2] = [x1, x2]) = d2 at hK
 refine S.I fun u => ?_
 have hX := I6 @xEm @xEp @xEk @xL8 hd1 hd2; repeat' (first | refine S.x ?_ | refine S.y ?_ ?_ | intro hb | fail)
 all_goals exact Tr.fin hK ⟨S.v, rfl⟩ S.E
end
section
variable {c : xs2} {k : Int}
theorem xGb (hs : shC c) : Xb prog 109 #[.agg (En.enc c).toArray, .int .i64 k] [sl true c.parts.s.v c.parts.d, fzl c.parts.d, sl true c.chans.s.v c.chans.d]
  fun v l' => v = .bool (xDO c k) ∧ l' = [] := by
 intro F K hK
 simp only [ap]
 have hcl := hs.c
 by_cases h1 : inB k 0 (IntKind.i64.wrap ((c.chans.d.length : Int) - 1)) = true
 ·have hk := xB4 h1
  have hw : IntKind.i64.wrap ((c.chans.d.length : Int) - 1) = (c.chans.d.length : Int) - 1 := Ye S.o S.o
  rw [hw] at hk
  obtain ⟨hk0, hk1⟩ := hk
  obtain ⟨x, hx⟩ : ∃ x, x = ix c.chans.d k := ⟨_, rfl⟩
  have hM : xDO c k = if xCm c x.fp x.fo = true ∧ xCm c x.tp x.to = true then (if x.fp = x.tp ∨ (xCO c x.fp x.fo).i = true ∨ (xCO c x.tp x.to).i = false ∨ ((xCO c x.fp x.fo).q == (xCO c x.tp x.to).q) = false ∨ (xCO c x.tp x.to).size < (xCO c x.fp x.fo).size then false else !((c.chans.d.take k.toNat).any (xDq x (xCO c x.fp x.fo).q))) else false := by
   unfold xDO
   rw [h1, if_neg (by decide), ← hx]
  rw [hM] at hK
  have hf1 := xFW hs (p := x.fp) (o := x.fo)
  have hf2 := xFW hs (p := x.tp) (o := x.to)
  have hcon := fun (a : Zd) b1 b2 s => Xb.unz (xJ5 (ro := true) (s := s) (l := c.chans.d.take k.toNat) (p := xDq x a.q) (g := 160) (cap := [.pointer (some ⟨b1, 0, none⟩), .pointer (some ⟨b2, 0, none⟩)]) (by rw [List.length_take]; omega) fun y _ => Xb.zs (xH0 (x := x) (y := y) (a := a) (b1 := b1) (b2 := b2)))
  have hx2 := hx.symm
  clear hM hx hw
  cases hi1 : xCm c x.fp x.fo with
  | false =>
   rw [hi1, if_neg (fun h => by cases h.1)] at hK
   rw [hi1, if_neg (by decide)] at hf1
   generalize xCm c x.tp x.to = i2 at *
   refine S.I fun u => ?_
   have hX := I5 h1 hx2 @xEm @xEp @xEk; repeat' (first | rintro _ _ ⟨rfl, rfl⟩ | (refine G.call 158 ?_; first | refine S.c ?_ (h := hf1) | refine S.c ?_ (h := hf2)) | refine S.x ?_ | (refine G.call 60 ?_; refine S.c ?_ (h := xB1)) | intro hb | fail)
   all_goals exact Tr.fin hK ⟨rfl, rfl⟩ S.E
  | true =>
   rw [hi1, if_pos rfl] at hf1
   cases hi2 : xCm c x.tp x.to with
   | false =>
    rw [hi2, if_neg (fun h => by cases h.2)] at hK
    rw [hi2, if_neg (by decide)] at hf2
    refine S.I fun u => ?_
    have hX := I5 h1 hx2 @xEm @xEp @xEk; repeat' (first | rintro _ _ ⟨rfl, rfl⟩ | (refine G.call 158 ?_; first | refine S.c ?_ (h := hf1) | refine S.c ?_ (h := hf2)) | refine S.x ?_ | (refine G.call 60 ?_; refine S.c ?_ (h := xB1)) | intro hb | fail)
    all_goals exact Tr.fin hK ⟨rfl, rfl⟩ S.E
   | true =>
    rw [hi1, hi2, if_pos ⟨rfl, rfl⟩] at hK
    rw [hi2, if_pos rfl] at hf2
    have hcon := hcon (xCO c x.fp x.fo)
    generalize xCO c x.fp x.fo = a at *
    generalize xCO c x.tp x.to = b at *
    generalize (c.chans.d.take k.toNat).any (xDq x a.q) = r at *
    refine S.I fun u => ?_
    have hX := I5 h1 hx2 @xEm @xEp @xEk; repeat' (first | rintro _ _ ⟨rfl, rfl⟩ | (refine G.call 158 ?_; first | refine S.c ?_ (h := hf1) | refine S.c ?_ (h := hf2)) | (refine G.call 159 ?_; refine S.c ?_ (h := hcon _ _ _)) | refine S.x ?_ | refine S.y ?_ ?_ | (refine G.call 60 ?_; refine S.c ?_ (h := xB1)) | intro hb | fail)
    all_goals exact Tr.fin hK ⟨S.v, rfl⟩ S.E
 ·have h1' : inB k 0 (IntKind.i64.wrap ((c.chans.d.length : Int) - 1)) = false := by simpa using h1
  rw [show xDO c k = false by unfold xDO; rw [h1', if_pos rfl]] at hK
  clear h1
  refine S.I fun u => ?_
  have hX := @h1'; repeat' (first | refine S.x ?_ | (refine G.call 60 ?_; refine S.c ?_ (h := xB1)) | rintro _ _ ⟨rfl, rfl⟩ | intro hb | fail)
  all_goals exact Tr.fin hK ⟨rfl, rfl⟩ S.E
end
end
section
theorem xC1 {α : Type} {may : α → α → Bool} : ∀ {l : List α} {a : α} {i : Int}, 0 ≤ i → ¬ 0 ≤ xBG may a l i → ∀ x ∈ l, ∃ b, may x b = true
 | [], _, _, _, _, x, hx => by cases hx
 | y :: ys, a, i, h0, h, x, hx => by
  unfold xBG at h
  by_cases hm : may y a = true
  ·rw [if_pos hm] at h
   rcases List.mem_cons.1 hx with rfl | hx
   ·exact ⟨a, hm⟩
   ·exact xC1 S.o h x hx
  ·rw [if_neg hm] at h; exact absurd h0 h
theorem xDr {ask : Int → Int} : ∀ {n k : Nat}, (xB7 ask n k).1 = 0 → ∀ j : Nat, k ≤ j → j < k + n → ask j = 0
 | 0, k, _, j, h1, h2 => by omega
 | n + 1, k, h, j, h1, h2 => by
  unfold xB7 at h
  by_cases ha : ask k = 0
  ·rw [if_pos ha] at h
   by_cases e : j = k
   ·rw [e]; exact ha
   ·exact xDr h j S.o S.o
  ·rw [if_neg ha] at h; exact absurd h ha
def xCR (c : xs2) (m : xCp) (x a : xCC) : Bool := inB x.part 0 (IntKind.i64.wrap ((c.parts.d.length : Int) - 1)) && (inB x.start (IntKind.i64.wrap (a.start + a.len)) m.frame && inB x.len 1 (IntKind.i64.wrap (m.frame - x.start)))
def xDs (c : xs2) (x : xCC) : Bool := xG2 c.levels.d c.sw (ix c.parts.d x.part).cap x.len
def xDc (c : xs2) (k : Int) : Int :=
 if inB k 0 (IntKind.i64.wrap ((c.modes.d.length : Int) - 1)) = false then 26
 else if inB (ix c.modes.d k).frame 1 1000000000 = false ∨ 16 < ((ix c.modes.d k).wins.d.length : Int) ∨ 0 ≤ xBG (xCR c (ix c.modes.d k)) default (ix c.modes.d k).wins.d 0 then 26
 else if 0 ≤ xBG (fun x _ => xDs c x) default (ix c.modes.d k).wins.d 0 then 29 else 0
def xDE (c : xs2) : Int × Int := if 16 < (c.chans.d.length : Int) then (25, 0) else xB7 (fun k => if xDO c k = true then 0 else 25) c.chans.d.length 0
def xDD (c : xs2) : Int × Int := if inB c.modes.d.length 1 4 = false then (26, 0) else xB7 (xDc c) c.modes.d.length 0
def xs2.pow (c : xs2) : xDJ := ⟨c.levels.s, c.naps.s, c.sw, c.idle, c.change, c.quantum, c.slow, c.ppm⟩
def xEN (c : xs2) : Int × Int := xB7 (fun k => xDf (ix c.parts.d k)) c.parts.d.length 0
def xB8 (c : xs2) : Int × Int :=
 if inB c.parts.d.length 1 8 = false then (20, 0)
 else if ¬ (xEN c).1 = 0 then xEN c
 else if ¬ (xCy c.levels.d c.naps.d c.pow).1 = 0 then xCy c.levels.d c.naps.d c.pow
 else if ¬ (xDE c).1 = 0 then xDE c
 else if ¬ (xDD c).1 = 0 then xDD c
 else xEZ c.down.d c.up.d
structure okF (c : xs2) : Prop where
 t : okT c.levels.d
 c : ∀ p : Int, 0 ≤ p → p < c.parts.d.length → (ix c.parts.d p).cap ≤ 9223372036854775807
theorem xI6 {p : YF} (h : xDf p = 0) : xDK p = true := by
 unfold xDf at h
 split at h
 ·cases h
 split at h
 ·cases h
 split at h
 ·cases h
 split at h
 ·cases h
 split at h
 ·cases h
 ·rename_i h5
  cases hr : xDK p with
  | true => rfl
  | false => exact absurd hr h5
theorem xLU {c : xs2} (h1 : (xEN c).1 = 0) (h2 : (xCy c.levels.d c.naps.d c.pow).1 = 0) : okF c := by
 refine ⟨?_, fun p h0 hp => ?_⟩
 ·unfold xCy at h2
  split at h2
  ·cases h2
  rename_i hn
  split at h2
  ·cases h2
  rename_i hf
  have hn2 : inB (c.levels.d.length : Int) 1 6 = true := by simpa using hn
  have hl := (xB4 hn2).1
  have hm : xBQ c.levels.d ∈ c.levels.d := by
   unfold xBQ
   rw [if_neg S.o]
   exact xB6 S.o
  obtain ⟨b, hb⟩ := xC1 (Int.le_refl 0) hf _ hm
  unfold xCj at hb
  rw [Bool.and_eq_true, Bool.and_eq_true] at hb
  have e1 := (xB4 hb.1).2
  have e2 := (xB4 hb.2.1).2
  exact ⟨by omega, by omega⟩
 ·have h := xDr h1 p.toNat (Nat.zero_le _) S.o
  have e : ((p.toNat : Nat) : Int) = p := Int.toNat_of_nonneg h0
  simp only [e] at h
  have hr := xI6 h
  unfold xDK at hr
  rw [Bool.and_eq_true] at hr
  have := (xB4 hr.1).2
  omega
attribute [local irreducible] xBG inB xBZ
section
variable {c : xs2} {k : Int}
theorem xIl {m : xCp} {x a : xCC} {b1 b2 : Nat} : Xb prog 161 (.agg (En.enc x).toArray :: .agg (En.enc a).toArray :: [.pointer (some ⟨b1, 0, none⟩), .pointer (some ⟨b2, 0, none⟩)]).toArray [blk b1 (.cells (En.enc c).toArray 33 (0, 0)), blk b2 (.cells (En.enc m).toArray 107 (0, 0)), sl true c.parts.s.v c.parts.d]
  fun v l' => v = .bool (xCR c m x a) ∧ l' = [blk b1 (.cells (En.enc c).toArray 33 (0, 0)), blk b2 (.cells (En.enc m).toArray 107 (0, 0)), sl true c.parts.s.v c.parts.d] := by
 intro F K hK
 simp only [ap]
 unfold xCR at hK
 obtain ⟨x1, x2, x3⟩ := x
 obtain ⟨a1, a2, a3⟩ := a
 simp only at hK
 refine S.I fun u => ?_
 repeat' (first | refine S.x ?_ | refine S.y ?_ ?_ | (refine G.call 60 ?_; refine S.c ?_ (h := xB1)) | rintro _ _ ⟨rfl, rfl⟩ | intro hb | fail)
 all_goals exact Tr.fin hK ⟨S.v, rfl⟩ S.E
theorem xHz {x a : xCC} {b1 : Nat} (hs : shC c) (ho : okF c) (h0 : 0 ≤ x.part) (h1 : x.part < c.parts.d.length) : Xb prog 163 (.agg (En.enc x).toArray :: .agg (En.enc a).toArray :: [.pointer (some ⟨b1, 0, none⟩)]).toArray [blk b1 (.cells (En.enc c).toArray 33 (0, 0)), sl true c.parts.s.v c.parts.d, sl true c.levels.s.v c.levels.d]
  fun v l' => v = .bool (xDs c x) ∧ l' = [blk b1 (.cells (En.enc c).toArray 33 (0, 0)), sl true c.parts.s.v c.parts.d, sl true c.levels.s.v c.levels.d] := by
 intro F K hK
 simp only [ap]
 unfold xDs at hK
 have hf : Xb prog 164 #[.agg (En.enc c.pow).toArray, .int .i64 (ix c.parts.d x.part).cap, .int .i64 x.len] [sl true c.levels.s.v c.levels.d] (fun v l' => v = .bool (xG2 c.levels.d c.sw (ix c.parts.d x.part).cap x.len) ∧ l' = []) := xHD (p := c.pow) hs.l ho.t (ho.c x.part h0 h1)
 obtain ⟨x1, x2, x3⟩ := x
 simp only at hK h0 h1 hf
 refine S.I fun u => ?_
 have hX := @xKZ.eq_def; repeat' (first | rintro _ _ ⟨rfl, rfl⟩ | (refine G.call 164 ?_; refine S.c ?_ (h := hf)) | refine S.x ?_ | intro hb | fail)
 all_goals exact Tr.fin hK ⟨rfl, rfl⟩ S.E
theorem xJb (hs : shC c) (ho : okF c) : Xb prog 111 #[.agg (En.enc c).toArray, .int .i64 k] [sl true c.parts.s.v c.parts.d, sl true c.modes.s.v c.modes.d, fzl c.modes.d, sl true c.levels.s.v c.levels.d]
  fun v l' => v = .int .i64 (xDc c k) ∧ l' = [] := by
 intro F K hK
 simp only [ap]
 have hml := hs.m
 by_cases h1 : inB k 0 (IntKind.i64.wrap ((c.modes.d.length : Int) - 1)) = true
 ·have hk := xB4 h1
  have hw : IntKind.i64.wrap ((c.modes.d.length : Int) - 1) = (c.modes.d.length : Int) - 1 := Ye S.o S.o
  rw [hw] at hk
  obtain ⟨hk0, hk1⟩ := hk
  have hwl := hs.ms _ (List.mem_of_getElem? (Yi hk0 S.o))
  have hM : xDc c k = if inB (ix c.modes.d k).frame 1 1000000000 = false ∨ 16 < ((ix c.modes.d k).wins.d.length : Int) ∨ 0 ≤ xBG (xCR c (ix c.modes.d k)) default (ix c.modes.d k).wins.d 0 then 26 else if 0 ≤ xBG (fun x _ => xDs c x) default (ix c.modes.d k).wins.d 0 then 29 else 0 := by
   unfold xDc
   rw [h1, if_neg (by decide)]
  rw [hM] at hK
  have hf1 := fun b1 b2 => Xb.unz (xFc (ro := true) (s := (ix c.modes.d k).wins.s) (l := (ix c.modes.d k).wins.d) (may := xCR c (ix c.modes.d k)) (g := 161) (cap := [.pointer (some ⟨b1, 0, none⟩), .pointer (some ⟨b2, 0, none⟩)]) hwl fun x a _ => Xb.zs (xIl (c := c) (m := ix c.modes.d k) (x := x) (a := a) (b1 := b1) (b2 := b2)))
  clear hM hw
  by_cases hf : 0 ≤ xBG (xCR c (ix c.modes.d k)) default (ix c.modes.d k).wins.d 0
  ·generalize xBG (xCR c (ix c.modes.d k)) default (ix c.modes.d k).wins.d 0 = i1 at *
   refine S.I fun u => ?_
   have hX := h1; repeat' (first | rintro _ _ ⟨rfl, rfl⟩ | (refine G.call 162 ?_; refine S.c ?_ (h := hf1 _ _)) | refine S.x ?_ | refine S.y ?_ ?_ | (refine G.call 60 ?_; refine S.c ?_ (h := xB1)) | intro hb | fail)
   all_goals exact Tr.fin hK ⟨S.v, rfl⟩ S.E
  ·have hin : ∀ x ∈ (ix c.modes.d k).wins.d, 0 ≤ x.part ∧ x.part < c.parts.d.length := fun x hx => by
    obtain ⟨b, hb⟩ := xC1 (Int.le_refl 0) hf x hx
    unfold xCR at hb
    rw [Bool.and_eq_true] at hb
    have h3 := xB4 hb.1
    have hpl := hs.p
    rw [Ye S.o S.o] at h3
    omega
   have hf2 := fun b1 => Xb.unz (xFc (ro := true) (s := (ix c.modes.d k).wins.s) (l := (ix c.modes.d k).wins.d) (may := fun x _ => xDs c x) (g := 163) (cap := [.pointer (some ⟨b1, 0, none⟩)]) hwl fun x a hx => Xb.zs (xHz (c := c) (x := x) (a := a) (b1 := b1) hs ho (hin x hx).1 (hin x hx).2))
   generalize xBG (xCR c (ix c.modes.d k)) default (ix c.modes.d k).wins.d 0 = i1 at *
   generalize xBG (fun x _ => xDs c x) default (ix c.modes.d k).wins.d 0 = i2 at *
   clear hin
   refine S.I fun u => ?_
   have hX := h1; repeat' (first | rintro _ _ ⟨rfl, rfl⟩ | (refine G.call 162 ?_; first | refine S.c ?_ (h := hf1 _ _) | refine S.c ?_ (h := hf2 _)) | refine S.x ?_ | refine S.y ?_ ?_ | (refine G.call 60 ?_; refine S.c ?_ (h := xB1)) | intro hb | fail)
   all_goals exact Tr.fin hK ⟨S.v, rfl⟩ S.E
 ·have h1' : inB k 0 (IntKind.i64.wrap ((c.modes.d.length : Int) - 1)) = false := by simpa using h1
  rw [show xDc c k = 26 by unfold xDc; rw [h1', if_pos rfl]] at hK
  clear h1
  refine S.I fun u => ?_
  have hX := @h1'; repeat' (first | refine S.x ?_ | (refine G.call 60 ?_; refine S.c ?_ (h := xB1)) | rintro _ _ ⟨rfl, rfl⟩ | intro hb | fail)
  all_goals exact Tr.fin hK ⟨rfl, rfl⟩ S.E
end
end
section
abbrev cfB (b : Nat) (c : xs2) : Xc := blk b (.cells (En.enc c).toArray 33 (0, 0))
abbrev cfP (b : Nat) : Value := .pointer (some ⟨b, 0, none⟩)
attribute [local irreducible] xBG inB xBZ xB7
section
variable {c : xs2} {k : Int} {b : Nat}
theorem xGE (hs : shC c) : Xb prog 108 (.int .i64 k :: [cfP b]).toArray [cfB b c, sl true c.parts.s.v c.parts.d, fzl c.parts.d, sl true c.chans.s.v c.chans.d]
  fun v l' => v = .int .i64 (if xDO c k = true then 0 else 25) ∧ l' = [cfB b c, sl true c.parts.s.v c.parts.d, fzl c.parts.d, sl true c.chans.s.v c.chans.d] := by
 intro F K hK
 simp only [ap]
 have hc := xGb (k := k) hs
 refine S.I fun u => ?_
 repeat' (first | rintro _ _ ⟨rfl, rfl⟩ | (refine G.call 109 ?_; refine S.c ?_ (h := hc)) | refine S.x ?_ | refine S.y ?_ ?_ | intro hb | fail)
 all_goals exact Tr.fin hK ⟨S.v, rfl⟩ S.E
theorem xGK (hs : shC c) (ho : okF c) : Xb prog 110 (.int .i64 k :: [cfP b]).toArray [cfB b c, sl true c.parts.s.v c.parts.d, sl true c.modes.s.v c.modes.d, fzl c.modes.d, sl true c.levels.s.v c.levels.d]
  fun v l' => v = .int .i64 (xDc c k) ∧ l' = [cfB b c, sl true c.parts.s.v c.parts.d, sl true c.modes.s.v c.modes.d, fzl c.modes.d, sl true c.levels.s.v c.levels.d] := by
 intro F K hK
 simp only [ap]
 have hc := xJb (k := k) hs ho
 refine S.I fun u => ?_
 repeat' (first | rintro _ _ ⟨rfl, rfl⟩ | (refine G.call 111 ?_; refine S.c ?_ (h := hc)) | refine S.x ?_ | fail)
 all_goals exact Tr.fin hK ⟨rfl, rfl⟩ S.E
theorem xGh {k : Nat} (hs : shC c) (hk : k < c.parts.d.length) : Xb prog 62 (.int .i64 (k : Int) :: [cfP b]).toArray [cfB b c, sl true c.parts.s.v c.parts.d, fzl c.parts.d]
  fun v l' => v = .int .i64 (xDf (ix c.parts.d (k : Int))) ∧ l' = [cfB b c, sl true c.parts.s.v c.parts.d, fzl c.parts.d] := by
 intro F K hK
 simp only [ap]
 have hc := xIx (u0 := .agg (En.enc (ix c.parts.d (k : Int))).toArray) (p := ix c.parts.d (k : Int)) (hs.ps _ (xB6 hk))
 refine S.I fun u => ?_
 repeat' (first | rintro _ _ ⟨rfl, rfl⟩ | (refine G.call 63 ?_; refine S.c ?_ (h := hc)) | refine S.x ?_ | intro hb | fail)
 all_goals exact Tr.fin hK ⟨rfl, rfl⟩ S.E
theorem xHt (hs : shC c) : Xb prog 65 #[.agg (En.enc c).toArray] [sl true c.parts.s.v c.parts.d, fzl c.parts.d, sl true c.chans.s.v c.chans.d]
  fun v l' => v = .tuple #[.int .i64 (xDE c).1, .int .i64 (xDE c).2] ∧ l' = [] := by
 intro F K hK
 simp only [ap]
 unfold xDE at hK
 have hn := fun b => Xb.unz0 (xDh (ask := fun k => if xDO c k = true then 0 else 25) (g := 108) (cap := [cfP b]) hs.c fun k _ => Xb.zs (xGE (k := (k : Int)) (b := b) hs))
 by_cases h : 16 < (c.chans.d.length : Int)
 ·rw [if_pos h] at hK
  refine S.I fun u => ?_
  repeat' (first | refine S.x ?_ | intro hb | fail)
  all_goals exact Tr.fin hK ⟨rfl, rfl⟩ S.E
 ·rw [if_neg h] at hK
  generalize xB7 (fun k => if xDO c k = true then 0 else 25) c.chans.d.length 0 = r at *
  refine S.I fun u => ?_
  repeat' (first | rintro _ _ ⟨rfl, rfl⟩ | (refine G.call 61 ?_; refine S.c ?_ (h := hn _)) | refine S.x ?_ | intro hb | fail)
  all_goals exact Tr.fin hK ⟨rfl, rfl⟩ S.E
theorem xHH (hs : shC c) (ho : okF c) : Xb prog 66 #[.agg (En.enc c).toArray] [sl true c.parts.s.v c.parts.d, sl true c.modes.s.v c.modes.d, fzl c.modes.d, sl true c.levels.s.v c.levels.d]
  fun v l' => v = .tuple #[.int .i64 (xDD c).1, .int .i64 (xDD c).2] ∧ l' = [] := by
 intro F K hK
 simp only [ap]
 unfold xDD at hK
 have hn := fun b => Xb.unz0 (xDh (ask := xDc c) (g := 110) (cap := [cfP b]) hs.m fun k _ => Xb.zs (xGK (k := (k : Int)) (b := b) hs ho))
 by_cases h : inB c.modes.d.length 1 4 = false
 ·rw [if_pos h] at hK
  refine S.I fun u => ?_
  have hX := h; repeat' (first | refine S.x ?_ | (refine G.call 60 ?_; refine S.c ?_ (h := xB1)) | rintro _ _ ⟨rfl, rfl⟩ | intro hb | fail)
  all_goals exact Tr.fin hK ⟨rfl, rfl⟩ S.E
 ·rw [if_neg h] at hK
  have h' : inB c.modes.d.length 1 4 = true := by simpa using h
  generalize xB7 (xDc c) c.modes.d.length 0 = r at *
  clear h
  refine S.I fun u => ?_
  have hX := @h'; repeat' (first | rintro _ _ ⟨rfl, rfl⟩ | (refine G.call 61 ?_; refine S.c ?_ (h := hn _)) | refine S.x ?_ | (refine G.call 60 ?_; refine S.c ?_ (h := xB1)) | intro hb | fail)
  all_goals exact Tr.fin hK ⟨rfl, rfl⟩ S.E
theorem xHv (hs : shC c) : Xb prog 37 #[.agg (En.enc c).toArray] [sl true c.parts.s.v c.parts.d, fzl c.parts.d, sl true c.chans.s.v c.chans.d, sl true c.modes.s.v c.modes.d, fzl c.modes.d, sl true c.levels.s.v c.levels.d, sl true c.naps.s.v c.naps.d, sl true c.down.s.v c.down.d, sl true c.up.s.v c.up.d]
  fun v l' => v = .tuple #[.int .i64 (xB8 c).1, .int .i64 (xB8 c).2] ∧ l' = [] := by
 intro F K hK
 simp only [ap]
 unfold xB8 at hK
 have hn := fun b => Xb.unz0 (xDh (ask := fun k => xDf (ix c.parts.d k)) (g := 62) (cap := [cfP b]) hs.p fun k hk => Xb.zs (xGh (k := k) (b := b) hs hk))
 have hp : Xb prog 64 #[.agg (En.enc c.pow).toArray] [sl true c.levels.s.v c.levels.d, sl true c.naps.s.v c.naps.d] (fun v l' => v = .tuple #[.int .i64 (xCy c.levels.d c.naps.d c.pow).1, .int .i64 (xCy c.levels.d c.naps.d c.pow).2] ∧ l' = []) := xHC hs.l hs.n
 have hsh := xIV (sd := c.down.s) (su := c.up.s) hs.d hs.u
 have hch := xHt hs
 have hof := xLU (c := c)
 by_cases h0 : inB c.parts.d.length 1 8 = false
 ·rw [if_pos h0] at hK
  refine S.I fun u => ?_
  have hX := h0; repeat' (first | refine S.x ?_ | (refine G.call 60 ?_; refine S.c ?_ (h := xB1)) | rintro _ _ ⟨rfl, rfl⟩ | intro hb | fail)
  all_goals exact Tr.fin hK ⟨rfl, rfl⟩ S.E
 ·rw [if_neg h0] at hK
  have h0' : inB c.parts.d.length 1 8 = true := by simpa using h0
  have hpm : xB7 (fun k => xDf (ix c.parts.d k)) c.parts.d.length 0 = xEN c := rfl
  rw [hpm] at hn
  generalize hr1 : xEN c = r1 at *
  generalize hr2 : xCy c.levels.d c.naps.d c.pow = r2 at *
  clear h0 hpm hr1 hr2
  by_cases h1 : ¬ r1.1 = 0
  ·rw [if_pos h1] at hK
   refine S.I fun u => ?_
   have hX := @h0'; repeat' (first | rintro _ _ ⟨rfl, rfl⟩ | (refine G.call 61 ?_; refine S.c ?_ (h := hn _)) | refine S.x ?_ | (refine G.call 60 ?_; refine S.c ?_ (h := xB1)) | intro hb | fail)
   all_goals exact Tr.fin hK ⟨rfl, rfl⟩ S.E
  ·rw [if_neg h1] at hK
   have h1' : r1.1 = 0 := by omega
   by_cases h2 : ¬ r2.1 = 0
   ·rw [if_pos h2] at hK
    refine S.I fun u => ?_
    have hX := And.intro @h0' @h1'; repeat' (first | rintro _ _ ⟨rfl, rfl⟩ | (refine G.call 61 ?_; refine S.c ?_ (h := hn _)) | (refine G.call 64 ?_; refine S.c ?_ (h := hp)) | refine S.x ?_ | (refine G.call 60 ?_; refine S.c ?_ (h := xB1)) | intro hb | fail)
    all_goals exact Tr.fin hK ⟨rfl, rfl⟩ S.E
   ·rw [if_neg h2] at hK
    have h2' : r2.1 = 0 := by omega
    have hmo := xHH hs (hof h1' h2')
    generalize xDE c = r3 at *
    generalize xDD c = r4 at *
    generalize xEZ c.down.d c.up.d = r5 at *
    refine S.I fun u => ?_
    have hX := I3 @h0' @h1' @h2'; repeat' (first | rintro _ _ ⟨rfl, rfl⟩ | (refine G.call 61 ?_; refine S.c ?_ (h := hn _)) | (refine G.call 64 ?_; refine S.c ?_ (h := hp)) | (refine G.call 65 ?_; refine S.c ?_ (h := hch)) | (refine G.call 66 ?_; refine S.c ?_ (h := hmo)) | (refine G.call 67 ?_; refine S.c ?_ (h := hsh)) | refine S.x ?_ | refine S.y ?_ ?_ | (refine G.call 60 ?_; refine S.c ?_ (h := xB1)) | intro hb | fail)
    all_goals exact Tr.fin hK ⟨S.v, rfl⟩ S.E
