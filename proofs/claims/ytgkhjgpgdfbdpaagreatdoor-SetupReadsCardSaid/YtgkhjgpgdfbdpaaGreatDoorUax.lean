import Derived.Test.YtgkhjgpgdfbdpaaGreatDoorCG
import Derived.Test.YtgkhjgpgdfbdpaaGreatDoorWkY
namespace Go.Proofs.YtgkhjgpgdfbdpaaGreatDoor
open Go Go.Wk
set_option maxRecDepth 100000
/-! ### configurations as texts, in plain words -/
structure PartV where
  regions : List RegC
  procs : List ProcC
  ports : List PortC
  sems : List SemC
  flags : Int
  pools : List PoolC
  slates : List Int
  cap : Int
  budget : Int
  ladder : Int
  acts : List Int
instance : Inhabited PartV := ⟨⟨[], [], [], [], 0, [], [], 0, 0, 0, []⟩⟩
structure ModeV where
  frame : Int
  wins : List WinC
instance : Inhabited ModeV := ⟨⟨0, []⟩⟩
structure ConfV where
  parts : List PartV
  chans : List ChanC
  modes : List ModeV
  levels : List LevelC
  naps : List NapC
  sw : Int
  idle : Int
  change : Int
  quantum : Int
  slow : Int
  ppm : Int
  down : List Int
  up : List Int
def ConfV.none : ConfV := ⟨[], [], [], [], [], 0, 0, 0, 0, 0, 0, [], []⟩
def PartD.v (p : PartD) : PartV := ⟨p.regions.d, p.procs.d, p.ports.d, p.sems.d, p.flags, p.pools.d, p.slates.d, p.cap, p.budget, p.ladder, p.acts.d⟩
def ModeD.v (m : ModeD) : ModeV := ⟨m.frame, m.wins.d⟩
def ConfD.v (c : ConfD) : ConfV := ⟨c.parts.d.map PartD.v, c.chans.d, c.modes.d.map ModeD.v, c.levels.d, c.naps.d, c.sw, c.idle, c.change, c.quantum, c.slow, c.ppm, c.down.d, c.up.d⟩
/-- The words of lines. -/
def wordU (k : Nat) : List UInt8 := match k with
  | 0 => [112, 97, 114, 116]
  | 1 => [114, 101, 103, 105, 111, 110]
  | 2 => [112, 114, 111, 99, 101, 115, 115]
  | 3 => [112, 111, 114, 116]
  | 4 => [115, 101, 109]
  | 5 => [112, 111, 111, 108]
  | 6 => [115, 108, 97, 116, 101]
  | 7 => [97, 99, 116, 115]
  | 8 => [99, 104, 97, 110, 110, 101, 108]
  | 9 => [109, 111, 100, 101]
  | 10 => [119, 105, 110, 100, 111, 119]
  | 11 => [108, 101, 118, 101, 108]
  | 12 => [110, 97, 112]
  | 13 => [112, 111, 119, 101, 114]
  | 14 => [100, 111, 119, 110]
  | 15 => [117, 112]
  | _ => []
abbrev Tok := Nat × List Int
def numL (l : List Int) : List UInt8 := l.flatMap fun n => 32 :: decA n
def lineU (w : List UInt8) (l : List Int) : List UInt8 := w ++ numL l
def lineT (t : Tok) : List UInt8 := lineU (wordU t.1) t.2
def bitU (b : Bool) : Int := if b then 1 else 0
def regT (x : RegC) : Tok := (1, [x.base, x.size, bitU x.w])
def procT (x : ProcC) : Tok := (2, [x.prio, x.period, x.cost])
def portT (x : PortC) : Tok := (3, [bitU x.q, bitU x.i, x.size, x.depth])
def semT (x : SemC) : Tok := (4, [x.first, x.most])
def poolT (x : PoolC) : Tok := (5, [x.size, x.depth])
def slateT (n : Int) : Tok := (6, [n])
def headT (p : PartV) : Tok := (0, [p.flags, p.cap, p.budget, p.ladder])
def partT (p : PartV) : List Tok := headT p :: (p.regions.map regT ++ p.procs.map procT ++ p.ports.map portT ++ p.sems.map semT ++ p.pools.map poolT ++ p.slates.map slateT ++ [(7, p.acts)])
def chanT (x : ChanC) : Tok := (8, [x.fp, x.fo, x.tp, x.to])
def winT (x : WinC) : Tok := (10, [x.part, x.start, x.len])
def modeT (m : ModeV) : List Tok := (9, [m.frame]) :: m.wins.map winT
def levelT (x : LevelC) : Tok := (11, [x.freq, x.power])
def napT (x : NapC) : Tok := (12, [x.power, x.enter, x.wake])
def powerT (c : ConfV) : Tok := (13, [c.sw, c.idle, c.change, c.quantum, c.slow, c.ppm])
def toksU (c : ConfV) : List Tok := c.parts.flatMap partT ++ c.chans.map chanT ++ c.modes.flatMap modeT ++ c.levels.map levelT ++ c.naps.map napT ++ [powerT c, (14, c.down), (15, c.up)]
def textT (l : List Tok) : List UInt8 := l.flatMap fun t => lineT t ++ [10]
def shortP (p : PartV) : Prop := p.regions.length ≤ 64 ∧ p.procs.length ≤ 64 ∧ p.ports.length ≤ 64 ∧ p.sems.length ≤ 64 ∧ p.pools.length ≤ 64 ∧ p.slates.length ≤ 64 ∧ p.acts.length ≤ 64
def shortU (c : ConfV) : Prop := c.parts.length ≤ 64 ∧ c.chans.length ≤ 64 ∧ c.modes.length ≤ 64 ∧ c.levels.length ≤ 64 ∧ c.naps.length ≤ 64 ∧ c.down.length ≤ 64 ∧ c.up.length ≤ 64 ∧ (∀ p ∈ c.parts, shortP p) ∧ ∀ m ∈ c.modes, m.wins.length ≤ 64
open Classical in
/-- What is printed: the text, the error. -/
noncomputable def printU (c : ConfV) : List UInt8 × Int := if shortU c ∧ (textT (toksU c)).length ≤ 65536 then (textT (toksU c), 0) else ([], 3)
/-! ### reading a line -/
noncomputable def numsU : List (List UInt8) → Option (List Int)
  | [] => some []
  | w :: r => match numA w, numsU r with
    | some n, some l => some (n :: l)
    | _, _ => none
def lowU (w : List UInt8) : Prop := w ≠ [] ∧ ∀ b ∈ w, 97 ≤ b.toNat ∧ b.toNat ≤ 122
instance {w : List UInt8} : Decidable (lowU w) := by unfold lowU; infer_instance
/-- A line's word and numbers. -/
noncomputable def wordsU (s : List UInt8) : Option (List UInt8 × List Int) := match wordsA 32 s with
  | [] => none
  | w :: r => if lowU w then (numsU r).map fun l => (w, l) else none
theorem numsU_map {l : List Int} (h : ∀ n ∈ l, I64 n) : numsU (l.map decA) = some l := by
  induction l with
  | nil => rfl
  | cons n l ih =>
    have h1 := numA_dec (h n (List.mem_cons_self ..))
    have h2 := ih fun m hm => h m (List.mem_cons_of_mem _ hm)
    simp only [List.map_cons, numsU, h1, h2]
theorem numsU_some : ∀ {r : List (List UInt8)} {l : List Int}, numsU r = some l → r = l.map decA ∧ ∀ n ∈ l, I64 n
  | [], l, h => by
    obtain rfl := Option.some.inj h
    exact ⟨rfl, fun n hn => by cases hn⟩
  | w :: r, l, h => by
    unfold numsU at h
    cases hw : numA w with
    | none => rw [hw] at h; cases h
    | some n =>
      cases hr : numsU r with
      | none => rw [hw, hr] at h; cases h
      | some m =>
        rw [hw, hr] at h
        obtain rfl := Option.some.inj h
        obtain ⟨i1, i2⟩ := numsU_some hr
        obtain ⟨j1, j2⟩ := numA_some.1 hw
        refine ⟨by rw [List.map_cons, j2, ← i1], fun k hk => ?_⟩
        rcases List.mem_cons.1 hk with rfl | hk
        · exact j1
        · exact i2 k hk
theorem numL_join (w : List UInt8) : ∀ l : List Int, joinA 32 (w :: l.map decA) = w ++ numL l
  | [] => by simp [joinA, numL]
  | n :: l => by
    rw [List.map_cons, joinA_cons, numL_join (decA n) l]
    simp [numL]
theorem dec_no32' (n : Int) : (32 : UInt8) ∉ decA n := fun h => absurd (decA_mem h).1 (by decide)
theorem low_no32 {w : List UInt8} (h : lowU w) : (32 : UInt8) ∉ w := fun hm => absurd (h.2 32 hm).1 (by decide)
theorem lineU_words {w : List UInt8} {l : List Int} (h : (32 : UInt8) ∉ w) : wordsA 32 (lineU w l) = w :: l.map decA := by
  unfold lineU
  rw [← numL_join, words_join (by simp)]
  intro x hx
  rcases List.mem_cons.1 hx with rfl | hx
  · exact h
  · obtain ⟨n, _, rfl⟩ := List.mem_map.1 hx
    exact dec_no32' n
theorem wordsU_line {w : List UInt8} {l : List Int} (h : lowU w) (hl : ∀ n ∈ l, I64 n) : wordsU (lineU w l) = some (w, l) := by
  unfold wordsU
  rw [lineU_words (low_no32 h)]
  simp only [if_pos h, numsU_map hl, Option.map_some]
theorem wordsU_some {s w : List UInt8} {l : List Int} (h : wordsU s = some (w, l)) : s = lineU w l ∧ lowU w ∧ ∀ n ∈ l, I64 n := by
  unfold wordsU at h
  have hj := join_words (c := 32) s
  cases hw : wordsA 32 s with
  | nil => exact absurd hw (wordsA_ne 32 s)
  | cons v r =>
    rw [hw] at h hj
    simp only at h
    split at h
    · rename_i hl
      cases hr : numsU r with
      | none => rw [hr] at h; cases h
      | some m =>
        rw [hr] at h
        simp only [Option.map_some, Option.some.injEq, Prod.mk.injEq] at h
        obtain ⟨rfl, rfl⟩ := h
        obtain ⟨h1, h2⟩ := numsU_some hr
        refine ⟨?_, hl, h2⟩
        rw [← hj, h1, numL_join]
        rfl
    · cases h
/-- The kind of a line's word. -/
def orderU (w : List UInt8) : Option Nat := (List.range 16).find? fun k => decide (wordU k = w)
theorem orderU_word : ∀ k, k < 16 → orderU (wordU k) = some k := by decide
theorem orderU_some {w : List UInt8} {k : Nat} (h : orderU w = some k) : k < 16 ∧ wordU k = w := by
  unfold orderU at h
  exact ⟨by simpa using List.mem_of_find?_eq_some h, by simpa using List.find?_some h⟩
theorem orderU_none {w : List UInt8} (h : orderU w = none) : ∀ k, k < 16 → wordU k ≠ w := fun k hk he => by
  unfold orderU at h
  rw [List.find?_eq_none] at h
  exact absurd (h k (by simpa using hk)) (by simp [he])
theorem word_low : ∀ k, k < 16 → lowU (wordU k) := by decide
/-- A line's kind and numbers. -/
noncomputable def tokU (s : List UInt8) : Option Tok := match wordsU s with
  | none => none
  | some (w, l) => (orderU w).map fun k => (k, l)
theorem tokU_line {k : Nat} {l : List Int} (hk : k < 16) (hl : ∀ n ∈ l, I64 n) : tokU (lineT (k, l)) = some (k, l) := by
  unfold tokU lineT
  rw [wordsU_line (word_low k hk) hl]
  simp only [orderU_word k hk, Option.map_some]
theorem tokU_some {s : List UInt8} {k : Nat} {l : List Int} (h : tokU s = some (k, l)) : k < 16 ∧ lineT (k, l) = s ∧ (∀ n ∈ l, I64 n) ∧ wordsU s = some (wordU k, l) := by
  unfold tokU at h
  cases hw : wordsU s with
  | none => rw [hw] at h; cases h
  | some x =>
    obtain ⟨w, m⟩ := x
    rw [hw] at h
    cases ho : orderU w with
    | none => simp only [ho, Option.map_none] at h; cases h
    | some j =>
      simp only [ho, Option.map_some, Option.some.injEq, Prod.mk.injEq] at h
      obtain ⟨rfl, rfl⟩ := h
      obtain ⟨h1, h2⟩ := orderU_some ho
      obtain ⟨h3, h4, h5⟩ := wordsU_some hw
      exact ⟨h1, by rw [h3]; unfold lineT; rw [h2], h5, by rw [h2]⟩
theorem line_no10 (t : Tok) : (10 : UInt8) ∉ lineT t := fun h => by
  unfold lineT lineU numL at h
  rcases List.mem_append.1 h with h | h
  · have : ∀ k, (10 : UInt8) ∉ wordU k := fun k => by unfold wordU; split <;> decide
    exact this _ h
  · obtain ⟨n, _, h⟩ := List.mem_flatMap.1 h
    rcases List.mem_cons.1 h with h | h
    · cases h
    · exact absurd (decA_mem h).1 (by decide)
theorem text_lines : ∀ {l : List Tok}, wordsA 10 (textT l) = l.map lineT ++ [[]]
  | [] => wordsA_miss (w := []) List.not_mem_nil
  | t :: l => by
    have h : textT (t :: l) = lineT t ++ 10 :: textT l := by simp [textT]
    rw [h, wordsA_hit (line_no10 t), text_lines]
    rfl
end Go.Proofs.YtgkhjgpgdfbdpaaGreatDoor

namespace Go.Proofs.YtgkhjgpgdfbdpaaGreatDoor
open Go Go.Wk
set_option maxRecDepth 100000
/-! ### a configuration's lines, one by one (the document) -/
def gU (l : List Int) (i : Nat) : Int := l.getD i 0
def lastP (c : ConfV) : PartV := c.parts.getLast?.getD default
def lastM (c : ConfV) : ModeV := c.modes.getLast?.getD default
def setP (c : ConfV) (p : PartV) : ConfV := { c with parts := c.parts.dropLast ++ [p] }
def setM (c : ConfV) (m : ModeV) : ConfV := { c with modes := c.modes.dropLast ++ [m] }
def canU (k was : Nat) : Bool :=
  if k = 0 then was == 16 || was == 7
  else if k < 7 then decide (was < 7) && decide (was ≤ k)
  else if k = 7 then decide (was < 7)
  else if k = 8 || k = 9 then was == 16 || was == 7 || was == 8 || (decide (9 ≤ was) && decide (was ≤ 10) && k == 9)
  else if k = 10 then was == 9 || was == 10
  else if k = 11 || k = 12 || k = 13 then was == 16 || (decide (7 ≤ was) && decide (was ≤ 12) && decide (was ≤ k) && (was != 9 || decide (9 < k)))
  else was + 1 == k
def manyU (k : Nat) : Int := [4, 3, 3, 4, 2, 2, 1, -1, 4, 1, 3, 2, 3, 6, -1, -1].getD k 0
def countU (c : ConfV) (k : Nat) : Nat := match k with
  | 0 => c.parts.length
  | 1 => (lastP c).regions.length
  | 2 => (lastP c).procs.length
  | 3 => (lastP c).ports.length
  | 4 => (lastP c).sems.length
  | 5 => (lastP c).pools.length
  | 6 => (lastP c).slates.length
  | 8 => c.chans.length
  | 9 => c.modes.length
  | 10 => (lastM c).wins.length
  | 11 => c.levels.length
  | 12 => c.naps.length
  | _ => 0
def regU (l : List Int) : RegC := ⟨gU l 0, gU l 1, gU l 2 == 1⟩
def procU (l : List Int) : ProcC := ⟨gU l 0, gU l 1, gU l 2⟩
def portU (l : List Int) : PortC := ⟨gU l 0 == 1, gU l 1 == 1, gU l 2, gU l 3⟩
def semU (l : List Int) : SemC := ⟨gU l 0, gU l 1⟩
def poolU (l : List Int) : PoolC := ⟨gU l 0, gU l 1⟩
def chanU (l : List Int) : ChanC := ⟨gU l 0, gU l 1, gU l 2, gU l 3⟩
def winU (l : List Int) : WinC := ⟨gU l 0, gU l 1, gU l 2⟩
def levelU (l : List Int) : LevelC := ⟨gU l 0, gU l 1⟩
def napU (l : List Int) : NapC := ⟨gU l 0, gU l 1, gU l 2⟩
def headU (l : List Int) : PartV := ⟨[], [], [], [], gU l 0, [], [], gU l 1, gU l 2, gU l 3, []⟩
def isB (n : Int) : Bool := n == 0 || n == 1
def innerU (p : PartV) (k : Nat) (l : List Int) : PartV := match k with
  | 1 => { p with regions := p.regions ++ [regU l] }
  | 2 => { p with procs := p.procs ++ [procU l] }
  | 3 => { p with ports := p.ports ++ [portU l] }
  | 4 => { p with sems := p.sems ++ [semU l] }
  | 5 => { p with pools := p.pools ++ [poolU l] }
  | 6 => { p with slates := p.slates ++ [gU l 0] }
  | _ => { p with acts := l }
/-- Whether a line's truths are such. -/
def fineU (k : Nat) (l : List Int) : Bool := match k with
  | 1 => isB (gU l 2)
  | 3 => isB (gU l 0) && isB (gU l 1)
  | _ => true
def putU (c : ConfV) (k : Nat) (l : List Int) : ConfV :=
  if k = 0 then { c with parts := c.parts ++ [headU l] }
  else if k < 8 then setP c (innerU (lastP c) k l)
  else if k = 8 then { c with chans := c.chans ++ [chanU l] }
  else if k = 9 then { c with modes := c.modes ++ [⟨gU l 0, []⟩] }
  else if k = 10 then setM c ⟨(lastM c).frame, (lastM c).wins ++ [winU l]⟩
  else if k = 11 then { c with levels := c.levels ++ [levelU l] }
  else if k = 12 then { c with naps := c.naps ++ [napU l] }
  else if k = 13 then { c with sw := gU l 0, idle := gU l 1, change := gU l 2, quantum := gU l 3, slow := gU l 4, ppm := gU l 5 }
  else if k = 14 then { c with down := l }
  else { c with up := l }
/-- Whether a line may stand there. -/
def mayU (c : ConfV) (was : Nat) (t : Tok) : Bool := canU t.1 was && (decide (manyU t.1 < 0) || (t.2.length : Int) == manyU t.1) && decide (t.2.length ≤ 64) && decide (countU c t.1 < 64)
def stepU (c : ConfV) (was : Nat) (t : Tok) : Option ConfV := if mayU c was t && fineU t.1 t.2 then some (putU c t.1 t.2) else none
/-- All lines from here on: the configuration, the line of an error, the error. The last line is the one that does not end. -/
noncomputable def runU (c : ConfV) (was : Nat) (n : Int) : List (List UInt8) → ConfV × Int × Int
  | [] => (ConfV.none, n, 13)
  | w :: r => if r = [] then (if w = [] ∧ was = 15 then (c, 0, 0) else (ConfV.none, n, 13))
    else match tokU w with
      | none => (ConfV.none, n, 13)
      | some t => match stepU c was t with
        | none => (ConfV.none, n, 13)
        | some c' => runU c' t.1 (n + 1) r
noncomputable def readD (s : List UInt8) : ConfV × Int × Int := if 65536 < s.length then (ConfV.none, 0, 3) else runU ConfV.none 16 1 (wordsA 10 s)
/-! ### a reader of lines (the program) -/
structure Rd where
  t : List UInt8
  at' : Int
  bad : Bool
noncomputable def peekU (r : Rd) (w : List UInt8) : Option (List Int) := match wordsU (cutA 10 r.t).1 with
  | some (v, l) => if (cutA 10 r.t).2.2 = true ∧ v = w ∧ r.bad = false then some l else none
  | none => none
def nextU (r : Rd) : Rd := ⟨(cutA 10 r.t).2.1, r.at' + 1, r.bad⟩
def zerosU (many : Int) : List Int := List.replicate (max 0 many).toNat 0
def badU (r : Rd) : Rd := ⟨r.t, r.at', true⟩
noncomputable def takeU (r : Rd) (w : List UInt8) (many : Int) : List Int × Rd := match peekU r w with
  | some l => if (many < 0 ∨ (l.length : Int) = many) ∧ l.length ≤ 64 then (l, nextU r) else (zerosU many, badU r)
  | none => (zerosU many, badU r)
def truthU (r : Rd) (n : Int) : Rd := if n ≠ 0 ∧ n ≠ 1 ∧ r.bad = false then ⟨r.t, r.at' - 1, true⟩ else r
noncomputable def someU {α : Type} (w : List UInt8) (many : Int) (one : List Int → Rd → α × Rd) : Nat → Rd → List α → List α × Rd
  | 0, r, out => (out, r)
  | n + 1, r, out => match peekU r w with
    | none => (out, r)
    | some _ => if (takeU r w many).2.bad then (out, (takeU r w many).2)
      else someU w many one n (one (takeU r w many).1 (takeU r w many).2).2 (out ++ [(one (takeU r w many).1 (takeU r w many).2).1])
def regO (l : List Int) (r : Rd) : RegC × Rd := (regU l, truthU r (gU l 2))
def procO (l : List Int) (r : Rd) : ProcC × Rd := (procU l, r)
def portO (l : List Int) (r : Rd) : PortC × Rd := (portU l, truthU (truthU r (gU l 0)) (gU l 1))
def semO (l : List Int) (r : Rd) : SemC × Rd := (semU l, r)
def poolO (l : List Int) (r : Rd) : PoolC × Rd := (poolU l, r)
def slateO (l : List Int) (r : Rd) : Int × Rd := (gU l 0, r)
def chanO (l : List Int) (r : Rd) : ChanC × Rd := (chanU l, r)
def winO (l : List Int) (r : Rd) : WinC × Rd := (winU l, r)
def levelO (l : List Int) (r : Rd) : LevelC × Rd := (levelU l, r)
def napO (l : List Int) (r : Rd) : NapC × Rd := (napU l, r)
noncomputable def partO (l : List Int) (r : Rd) : PartV × Rd :=
  let a := someU (wordU 1) 3 regO 64 r []
  let b := someU (wordU 2) 3 procO 64 a.2 []
  let c := someU (wordU 3) 4 portO 64 b.2 []
  let d := someU (wordU 4) 2 semO 64 c.2 []
  let e := someU (wordU 5) 2 poolO 64 d.2 []
  let f := someU (wordU 6) 1 slateO 64 e.2 []
  let h := takeU f.2 (wordU 7) (-1)
  (⟨a.1, b.1, c.1, d.1, gU l 0, e.1, f.1, gU l 1, gU l 2, gU l 3, h.1⟩, h.2)
noncomputable def modeO (l : List Int) (r : Rd) : ModeV × Rd :=
  let a := someU (wordU 10) 3 winO 64 r []
  (⟨gU l 0, a.1⟩, a.2)
noncomputable def configU (r : Rd) : ConfV × Rd :=
  let a := someU (wordU 0) 4 partO 64 r []
  let b := someU (wordU 8) 4 chanO 64 a.2 []
  let c := someU (wordU 9) 1 modeO 64 b.2 []
  let d := someU (wordU 11) 2 levelO 64 c.2 []
  let e := someU (wordU 12) 3 napO 64 d.2 []
  let l := takeU e.2 (wordU 13) 6
  let m := takeU l.2 (wordU 14) (-1)
  let n := takeU m.2 (wordU 15) (-1)
  (⟨a.1, b.1, c.1, d.1, e.1, gU l.1 0, gU l.1 1, gU l.1 2, gU l.1 3, gU l.1 4, gU l.1 5, m.1, n.1⟩, n.2)
noncomputable def readU (s : List UInt8) : ConfV × Int × Int := if 65536 < s.length then (ConfV.none, 0, 3)
  else if (configU ⟨s, 1, false⟩).2.bad = true ∨ (configU ⟨s, 1, false⟩).2.t ≠ [] then (ConfV.none, (configU ⟨s, 1, false⟩).2.at', 13)
  else ((configU ⟨s, 1, false⟩).1, 0, 0)
end Go.Proofs.YtgkhjgpgdfbdpaaGreatDoor

namespace Go.Proofs.YtgkhjgpgdfbdpaaGreatDoor
open Go Go.Wk
set_option maxRecDepth 100000
/-! ### the reader of lines answers as the document does -/
theorem cut_one {t : List UInt8} {w : List UInt8} (h : wordsA 10 t = [w]) : w = t ∧ cutA 10 t = (t, [], false) := by
  by_cases hm : (10 : UInt8) ∈ t
  · obtain ⟨a, b, rfl, ha⟩ := List.eq_append_cons_of_mem hm
    rw [wordsA_hit ha] at h
    have := wordsA_ne 10 b
    simp only [List.cons.injEq] at h
    exact absurd h.2 this
  · rw [wordsA_miss hm] at h
    exact ⟨(List.cons.inj h).1.symm, cutA_miss hm⟩
theorem cut_more {t : List UInt8} {w v : List UInt8} {r : List (List UInt8)} (h : wordsA 10 t = w :: v :: r) : (cutA 10 t).1 = w ∧ (cutA 10 t).2.2 = true ∧ wordsA 10 (cutA 10 t).2.1 = v :: r := by
  by_cases hm : (10 : UInt8) ∈ t
  · obtain ⟨a, b, rfl, ha⟩ := List.eq_append_cons_of_mem hm
    rw [wordsA_hit ha] at h
    obtain ⟨rfl, h2⟩ := List.cons.inj h
    rw [cutA_hit ha]
    exact ⟨rfl, rfl, h2⟩
  · rw [wordsA_miss hm] at h
    cases h
/-- The next line, if it ends. -/
noncomputable def hdU (r : Rd) : Option Tok := match wordsA 10 r.t with
  | w :: _ :: _ => tokU w
  | _ => none
theorem hd_lt {r : Rd} {k : Nat} {l : List Int} (h : hdU r = some (k, l)) : k < 16 := by
  unfold hdU at h
  split at h
  · exact (tokU_some h).1
  · cases h
theorem peek_some {r : Rd} {k : Nat} {l : List Int} (hk : k < 16) : peekU r (wordU k) = some l ↔ r.bad = false ∧ hdU r = some (k, l) := by
  unfold peekU hdU
  cases hw : wordsA 10 r.t with
  | nil => exact absurd hw (wordsA_ne _ _)
  | cons w q =>
    cases q with
    | nil =>
      obtain ⟨_, h2⟩ := cut_one hw
      rw [h2]
      simp only
      constructor
      · intro h
        split at h
        · simp at h
        · cases h
      · intro h; exact absurd h.2 (by simp)
    | cons v q =>
      obtain ⟨h1, h2, _⟩ := cut_more hw
      rw [h1, h2]
      simp only
      constructor
      · intro h
        split at h
        · rename_i x m hx
          split at h
          · rename_i hc
            obtain ⟨_, rfl, hb⟩ := hc
            obtain rfl := Option.some.inj h
            refine ⟨hb, ?_⟩
            unfold tokU
            rw [hx]
            simp only [orderU_word k hk, Option.map_some]
          · cases h
        · cases h
      · rintro ⟨hb, h⟩
        rw [(tokU_some h).2.2.2]
        simp only [hb, and_self, if_true]
theorem peek_none {r : Rd} {k : Nat} (hk : k < 16) (hb : r.bad = false) (h : peekU r (wordU k) = none) : ∀ l, hdU r ≠ some (k, l) := fun l hl => by
  rw [(peek_some hk).2 ⟨hb, hl⟩] at h
  cases h
theorem peek_bad {r : Rd} {w : List UInt8} (hb : r.bad = true) : peekU r w = none := by
  unfold peekU
  split
  · rw [if_neg]; rintro ⟨_, _, h⟩; rw [hb] at h; cases h
  · rfl
noncomputable def runR (c : ConfV) (was : Nat) (r : Rd) : ConfV × Int × Int := runU c was r.at' (wordsA 10 r.t)
theorem run_none {c : ConfV} {was : Nat} {r : Rd} (h : hdU r = none) (hw : r.t ≠ [] ∨ was ≠ 15) : runR c was r = (ConfV.none, r.at', 13) := by
  unfold hdU at h
  unfold runR
  cases hq : wordsA 10 r.t with
  | nil => exact absurd hq (wordsA_ne _ _)
  | cons w q =>
    cases q with
    | nil =>
      obtain ⟨rfl, _⟩ := cut_one hq
      unfold runU
      rw [if_pos rfl, if_neg]
      rintro ⟨h1, h2⟩
      rcases hw with hw | hw
      · exact hw h1
      · exact hw h2
    | cons v q =>
      rw [hq] at h
      unfold runU
      rw [if_neg (by simp)]
      simp only at h ⊢
      rw [h]
theorem run_step {c : ConfV} {was : Nat} {r : Rd} {t : Tok} (h : hdU r = some t) : runR c was r = match stepU c was t with
    | none => (ConfV.none, r.at', 13)
    | some c' => runR c' t.1 (nextU r) := by
  unfold hdU at h
  unfold runR
  cases hq : wordsA 10 r.t with
  | nil => exact absurd hq (wordsA_ne _ _)
  | cons w q =>
    rw [hq] at h
    cases q with
    | nil => cases h
    | cons v q =>
      simp only at h
      obtain ⟨_, _, h3⟩ := cut_more hq
      rw [runU, if_neg (by simp)]
      simp only [h, nextU, h3]
      all_goals (cases stepU c was t <;> rfl)
theorem run_no {c : ConfV} {was : Nat} {r : Rd} {t : Tok} (h : hdU r = some t) (hs : stepU c was t = none) : runR c was r = (ConfV.none, r.at', 13) := by rw [run_step h, hs]
theorem run_yes {c : ConfV} {was : Nat} {r : Rd} {t : Tok} {c' : ConfV} (h : hdU r = some t) (hs : stepU c was t = some c') : runR c was r = runR c' t.1 (nextU r) := by rw [run_step h, hs]
/-- Such a line may not stand there. -/
def rejU (c : ConfV) (was : Nat) (r : Rd) (k : Nat) : Prop := ∀ l, hdU r = some (k, l) → stepU c was (k, l) = none
theorem step_may {c : ConfV} {was : Nat} {t : Tok} (h : mayU c was t = false) : stepU c was t = none := by
  unfold stepU
  rw [h]; rfl
theorem rej_can {c : ConfV} {was k : Nat} {r : Rd} (h : canU k was = false) : rejU c was r k := fun l _ => step_may (by unfold mayU; rw [h]; rfl)
theorem some_bad {α : Type} {w : List UInt8} {many : Int} {one : List Int → Rd → α × Rd} {r : Rd} {out : List α} (h : r.bad = true) : ∀ n, someU w many one n r out = (out, r)
  | 0 => rfl
  | n + 1 => by
    unfold someU
    rw [peek_bad h]
theorem take_bad {r : Rd} {w : List UInt8} {many : Int} (h : r.bad = true) : takeU r w many = (zerosU many, badU r) := by
  unfold takeU
  rw [peek_bad h]
theorem take_none {r : Rd} {w : List UInt8} {many : Int} (h : peekU r w = none) : takeU r w many = (zerosU many, badU r) := by
  unfold takeU
  rw [h]
theorem take_yes {r : Rd} {w : List UInt8} {many : Int} {l : List Int} (h : peekU r w = some l) (h1 : many < 0 ∨ (l.length : Int) = many) (h2 : l.length ≤ 64) : takeU r w many = (l, nextU r) := by
  unfold takeU
  simp only [h]
  exact if_pos ⟨h1, h2⟩
theorem take_no {r : Rd} {w : List UInt8} {many : Int} {l : List Int} (h : peekU r w = some l) (h1 : ¬ ((many < 0 ∨ (l.length : Int) = many) ∧ l.length ≤ 64)) : takeU r w many = (zerosU many, badU r) := by
  unfold takeU
  simp only [h]
  exact if_neg h1
theorem may_many {c : ConfV} {was : Nat} {k : Nat} {l : List Int} (h : ¬ ((manyU k < 0 ∨ (l.length : Int) = manyU k) ∧ l.length ≤ 64)) : mayU c was (k, l) = false := by
  unfold mayU
  simp only
  by_cases h1 : manyU k < 0 ∨ (l.length : Int) = manyU k
  · have h2 : ¬ l.length ≤ 64 := fun h2 => h ⟨h1, h2⟩
    rw [decide_eq_false h2]
    simp
  · have h3 : (decide (manyU k < 0) || (l.length : Int) == manyU k) = false := by
      simp only [not_or] at h1
      simp [h1.1, h1.2]
    rw [h3]
    simp
theorem may_yes {c : ConfV} {was : Nat} {k : Nat} {l : List Int} (h0 : canU k was = true) (h1 : manyU k < 0 ∨ (l.length : Int) = manyU k) (h2 : l.length ≤ 64) (h3 : countU c k < 64) : mayU c was (k, l) = true := by
  unfold mayU
  simp only [h0, decide_eq_true h2, decide_eq_true h3, Bool.true_and, Bool.and_true]
  rcases h1 with h1 | h1
  · simp [h1]
  · simp [h1]
/-- What a line's maker makes of it. -/
def oneR {α : Type} (E : List α → ConfV) (I : List α → Nat → Rd → Prop) (k : Nat) (out : List α) (l : List Int) (r : Rd) (y : α × Rd) : Prop :=
  (y.2.bad = true ∧ (if fineU k l = true then runR (putU (E out) k l) k (nextU r) else (ConfV.none, r.at', 13)) = (ConfV.none, y.2.at', 13)) ∨
  (fineU k l = true ∧ y.2.bad = false ∧ ∃ was', I (out ++ [y.1]) was' y.2 ∧ runR (putU (E out) k l) k (nextU r) = runR (E (out ++ [y.1])) was' y.2)
theorem some_run {α : Type} {k : Nat} {many : Int} {one : List Int → Rd → α × Rd} (E : List α → ConfV) (I : List α → Nat → Rd → Prop) (hk : k < 16) (hm : manyU k = many)
    (hcount : ∀ out, countU (E out) k = out.length) (hI : ∀ out was r, I out was r → r.bad = false ∧ canU k was = true)
    (hone : ∀ out was r l, I out was r → hdU r = some (k, l) → (many < 0 ∨ (l.length : Int) = many) → oneR E I k out l r (one l (nextU r))) :
    ∀ n r out was, n + out.length = 64 → I out was r →
      ((someU (wordU k) many one n r out).2.bad = true ∧ runR (E out) was r = (ConfV.none, (someU (wordU k) many one n r out).2.at', 13)) ∨
      ((someU (wordU k) many one n r out).2.bad = false ∧ ∃ was', I (someU (wordU k) many one n r out).1 was' (someU (wordU k) many one n r out).2 ∧ rejU (E (someU (wordU k) many one n r out).1) was' (someU (wordU k) many one n r out).2 k ∧
        runR (E out) was r = runR (E (someU (wordU k) many one n r out).1) was' (someU (wordU k) many one n r out).2) := by
  intro n
  induction n with
  | zero =>
    intro r out was hn hi
    obtain ⟨hb, hc⟩ := hI _ _ _ hi
    refine .inr ⟨hb, was, hi, fun l _ => step_may ?_, rfl⟩
    unfold mayU
    have : ¬ countU (E out) k < 64 := by rw [hcount]; omega
    show (canU k was && (decide (manyU k < 0) || (l.length : Int) == manyU k) && decide (l.length ≤ 64) && decide (countU (E out) k < 64)) = false
    rw [decide_eq_false this, Bool.and_false]
  | succ n ih =>
    intro r out was hn hi
    obtain ⟨hb, hc⟩ := hI _ _ _ hi
    cases hp : peekU r (wordU k) with
    | none =>
      have e : someU (wordU k) many one (n + 1) r out = (out, r) := by unfold someU; rw [hp]
      rw [e]
      exact .inr ⟨hb, was, hi, fun l hl => absurd hl (peek_none hk hb hp l), rfl⟩
    | some l =>
      have hd := ((peek_some hk).1 hp).2
      by_cases hl : (many < 0 ∨ (l.length : Int) = many) ∧ l.length ≤ 64
      · have ht := take_yes hp hl.1 hl.2
        have hnb : (nextU r).bad = false := hb
        have e : someU (wordU k) many one (n + 1) r out = someU (wordU k) many one n (one l (nextU r)).2 (out ++ [(one l (nextU r)).1]) := by
          conv => lhs; unfold someU
          simp only [hp, ht, hnb]
          rfl
        rw [e]
        have hmay : mayU (E out) was (k, l) = true := may_yes hc (by rw [hm]; exact hl.1) hl.2 (by rw [hcount]; omega)
        have hrun : runR (E out) was r = if fineU k l = true then runR (putU (E out) k l) k (nextU r) else (ConfV.none, r.at', 13) := by
          rw [run_step hd]
          unfold stepU
          simp only [hmay, Bool.true_and]
          by_cases hf : fineU k l = true
          · simp only [hf, if_true]
          · simp only [hf]
            rfl
        rcases hone out was r l hi hd hl.1 with ⟨h1, h2⟩ | ⟨h1, h2, was', h3, h4⟩
        · rw [some_bad h1]
          exact .inl ⟨h1, by rw [hrun, h2]⟩
        · have := ih (one l (nextU r)).2 (out ++ [(one l (nextU r)).1]) was' (by rw [List.length_append, List.length_singleton]; omega) h3
          rw [hrun, if_pos h1, h4]
          exact this
      · have ht := take_no hp hl
        have e : someU (wordU k) many one (n + 1) r out = (out, badU r) := by
          conv => lhs; unfold someU
          simp only [hp, ht]
          rfl
        rw [e]
        refine .inl ⟨rfl, ?_⟩
        rw [run_no hd (step_may (may_many (by rw [hm]; exact hl)))]
        rfl
end Go.Proofs.YtgkhjgpgdfbdpaaGreatDoor

namespace Go.Proofs.YtgkhjgpgdfbdpaaGreatDoor
open Go Go.Wk
set_option maxRecDepth 100000
theorem stage_run {α : Type} {k : Nat} {many : Int} {one : List Int → Rd → α × Rd} (E : List α → ConfV) (mk : List Int → α) (A J : Nat → Prop) (hk : k < 16) (hm : manyU k = many)
    (hcount : ∀ out, countU (E out) k = out.length) (hA : ∀ w, A w → canU k w = true) (hAk : A k) (hJ : ∀ j, J j → canU j k = false)
    (hput : ∀ out l, putU (E out) k l = E (out ++ [mk l]))
    (hone : ∀ l r, r.bad = false → (fineU k l = true → one l r = (mk l, r)) ∧ (fineU k l = false → (one l r).2.bad = true ∧ (one l r).2.at' = r.at' - 1)) :
    ∀ r was, r.bad = false → A was → (∀ j, J j → rejU (E []) was r j) →
      ((someU (wordU k) many one 64 r []).2.bad = true ∧ runR (E []) was r = (ConfV.none, (someU (wordU k) many one 64 r []).2.at', 13)) ∨
      ((someU (wordU k) many one 64 r []).2.bad = false ∧ ∃ was', A was' ∧ (∀ j, J j → rejU (E (someU (wordU k) many one 64 r []).1) was' (someU (wordU k) many one 64 r []).2 j) ∧ rejU (E (someU (wordU k) many one 64 r []).1) was' (someU (wordU k) many one 64 r []).2 k ∧
        runR (E []) was r = runR (E (someU (wordU k) many one 64 r []).1) was' (someU (wordU k) many one 64 r []).2) := by
  intro r was hb ha hj
  have h := some_run (one := one) E (fun out was r => r.bad = false ∧ A was ∧ ∀ j, J j → rejU (E out) was r j) hk hm hcount (fun out was r hi => ⟨hi.1, hA _ hi.2.1⟩) (fun out was r l hi hd hl => ?_) 64 r [] was rfl ⟨hb, ha, hj⟩
  · rcases h with h | ⟨h1, was', ⟨_, h2, h3⟩, h4, h5⟩
    · exact .inl h
    · exact .inr ⟨h1, was', h2, h3, h4, h5⟩
  · have hn : (nextU r).bad = false := hi.1
    obtain ⟨o1, o2⟩ := hone l (nextU r) hn
    unfold oneR
    cases hf : fineU k l with
    | true =>
      rw [o1 hf]
      exact .inr ⟨rfl, hn, k, ⟨hn, hAk, fun j h => rej_can (hJ j h)⟩, by rw [hput]⟩
    | false =>
      obtain ⟨h1, h2⟩ := o2 hf
      refine .inl ⟨h1, ?_⟩
      rw [h2]
      have : (nextU r).at' - 1 = r.at' := Int.add_sub_cancel ..
      rw [this]
      rfl
theorem take_run {k : Nat} {many : Int} (c : ConfV) (A J : Nat → Prop) (hk : k < 16) (hm : manyU k = many) (hcount : countU c k < 64) (hf : ∀ l, fineU k l = true)
    (hA : ∀ w, A w → canU k w = true) (hall : ∀ w, A w → ∀ j, j < 16 → j ≠ k → J j ∨ canU j w = false) (h15 : ∀ w, A w → w ≠ 15) :
    ∀ r was, r.bad = false → A was → (∀ j, J j → rejU c was r j) →
      ((takeU r (wordU k) many).2.bad = true ∧ runR c was r = (ConfV.none, (takeU r (wordU k) many).2.at', 13)) ∨
      ((takeU r (wordU k) many).2.bad = false ∧ runR c was r = runR (putU c k (takeU r (wordU k) many).1) k (takeU r (wordU k) many).2) := by
  intro r was hb ha hj
  cases hp : peekU r (wordU k) with
  | none =>
    rw [take_none hp]
    refine .inl ⟨rfl, ?_⟩
    cases hd : hdU r with
    | none => exact run_none hd (.inr (h15 _ ha))
    | some t =>
      obtain ⟨j, l⟩ := t
      have hjk : j ≠ k := fun e => by subst e; exact peek_none hk hb hp l hd
      rcases hall _ ha j (hd_lt hd) hjk with h | h
      · exact run_no hd (hj j h l hd)
      · exact run_no hd (rej_can h l hd)
  | some l =>
    have hd := ((peek_some hk).1 hp).2
    by_cases hl : (many < 0 ∨ (l.length : Int) = many) ∧ l.length ≤ 64
    · rw [take_yes hp hl.1 hl.2]
      have hs : stepU c was (k, l) = some (putU c k l) := by
        unfold stepU
        rw [may_yes (hA _ ha) (by rw [hm]; exact hl.1) hl.2 hcount, hf]
        rfl
      exact .inr ⟨hb, run_yes hd hs⟩
    · rw [take_no hp hl]
      exact .inl ⟨rfl, run_no hd (step_may (may_many (by rw [hm]; exact hl)))⟩
theorem truth_yes {r : Rd} {n : Int} (h : isB n = true) : truthU r n = r := by
  unfold truthU
  rw [if_neg]
  rintro ⟨h1, h2, _⟩
  unfold isB at h
  simp at h
  rcases h with h | h
  · exact h1 h
  · exact h2 h
theorem truth_no {r : Rd} {n : Int} (h : isB n = false) (hb : r.bad = false) : truthU r n = ⟨r.t, r.at' - 1, true⟩ := by
  unfold isB at h
  simp at h
  unfold truthU
  rw [if_pos ⟨h.1, h.2, hb⟩]
theorem truth_bad {r : Rd} {n : Int} (hb : r.bad = true) : truthU r n = r := by
  unfold truthU
  rw [if_neg]
  rintro ⟨_, _, h⟩
  rw [hb] at h
  cases h
theorem reg_one (l : List Int) (r : Rd) (hb : r.bad = false) : (fineU 1 l = true → regO l r = (regU l, r)) ∧ (fineU 1 l = false → (regO l r).2.bad = true ∧ (regO l r).2.at' = r.at' - 1) := by
  unfold regO
  refine ⟨fun h => by rw [truth_yes h], fun h => ?_⟩
  rw [truth_no h hb]
  exact ⟨rfl, rfl⟩
theorem port_one (l : List Int) (r : Rd) (hb : r.bad = false) : (fineU 3 l = true → portO l r = (portU l, r)) ∧ (fineU 3 l = false → (portO l r).2.bad = true ∧ (portO l r).2.at' = r.at' - 1) := by
  unfold portO
  have e : fineU 3 l = (isB (gU l 0) && isB (gU l 1)) := rfl
  rw [e]
  cases h0 : isB (gU l 0) with
  | true =>
    rw [truth_yes h0]
    refine ⟨fun h => by rw [truth_yes (by simpa using h)], fun h => ?_⟩
    rw [truth_no (by simpa using h) hb]
    exact ⟨rfl, rfl⟩
  | false =>
    rw [truth_no h0 hb, truth_bad rfl]
    exact ⟨fun h => by simp at h, fun _ => ⟨rfl, rfl⟩⟩
theorem plain_one {α : Type} {k : Nat} (mk : List Int → α) (hf : ∀ l, fineU k l = true) (l : List Int) (r : Rd) (_ : r.bad = false) : (fineU k l = true → (mk l, r) = (mk l, r)) ∧ (fineU k l = false → r.bad = true ∧ r.at' = r.at' - 1) := ⟨fun _ => rfl, fun h => by rw [hf l] at h; cases h⟩
/-! ### a partition -/
def Ep (ps : List PartV) (p : PartV) : ConfV := { ConfV.none with parts := ps ++ [p] }
theorem Ep_last (ps : List PartV) (p : PartV) : lastP (Ep ps p) = p := by simp [lastP, Ep]
theorem Ep_put (ps : List PartV) (p : PartV) {k : Nat} (h0 : 0 < k) (h8 : k < 8) (l : List Int) : putU (Ep ps p) k l = Ep ps (innerU p k l) := by
  unfold putU
  rw [if_neg (by omega), if_pos h8, Ep_last]
  simp [setP, Ep]
theorem can_in : ∀ k, k < 7 → 0 < k → ∀ w, w < k + 1 → canU k w = true := by decide
theorem can_lo : ∀ k, k < 7 → 0 < k → ∀ j, j < k → canU j k = false := by decide
theorem can_seven : ∀ w, w < 7 → canU 7 w = true ∧ ∀ j, j < 16 → 7 < j → canU j w = false := by decide
theorem part_run {ps : List PartV} {l : List Int} {r : Rd} (hb : r.bad = false) :
    ((partO l r).2.bad = true ∧ runR (Ep ps (headU l)) 0 r = (ConfV.none, (partO l r).2.at', 13)) ∨
    ((partO l r).2.bad = false ∧ runR (Ep ps (headU l)) 0 r = runR (Ep ps (partO l r).1) 7 (partO l r).2) := by
  have hz : ∀ {α : Type} {k : Nat} (E : List α → ConfV) {many : Int} {one : List Int → Rd → α × Rd} (mk : List Int → α), k < 7 → 0 < k → manyU k = many → (∀ out, countU (E out) k = out.length) → (∀ out l, putU (E out) k l = E (out ++ [mk l])) →
      (∀ l r, r.bad = false → (fineU k l = true → one l r = (mk l, r)) ∧ (fineU k l = false → (one l r).2.bad = true ∧ (one l r).2.at' = r.at' - 1)) → ∀ (r : Rd) (was : Nat), r.bad = false → was < k + 1 → (∀ j, j < k → rejU (E []) was r j) →
      ((someU (wordU k) many one 64 r []).2.bad = true ∧ runR (E []) was r = (ConfV.none, (someU (wordU k) many one 64 r []).2.at', 13)) ∨
      ((someU (wordU k) many one 64 r []).2.bad = false ∧ ∃ was', was' < k + 1 ∧ (∀ j, j < k + 1 → rejU (E (someU (wordU k) many one 64 r []).1) was' (someU (wordU k) many one 64 r []).2 j) ∧
        runR (E []) was r = runR (E (someU (wordU k) many one 64 r []).1) was' (someU (wordU k) many one 64 r []).2) := by
    intro α k E many one mk h7 h0 hm hc hp ho r was hb hw hj
    rcases stage_run E mk (fun w => w < k + 1) (fun j => j < k) (by omega) hm hc (fun w h => can_in k h7 h0 w h) (Nat.lt_succ_self k) (fun j h => can_lo k h7 h0 j h) hp ho r was hb hw hj with h | ⟨h1, was', h2, h3, h4, h5⟩
    · exact .inl h
    · refine .inr ⟨h1, was', h2, fun j hj => ?_, h5⟩
      by_cases e : j = k
      · subst e; exact h4
      · exact h3 j (by omega)
  unfold partO
  simp only
  generalize hza : someU (wordU 1) 3 regO 64 r [] = za
  generalize hzb : someU (wordU 2) 3 procO 64 za.2 [] = zb
  generalize hzc : someU (wordU 3) 4 portO 64 zb.2 [] = zc
  generalize hzd : someU (wordU 4) 2 semO 64 zc.2 [] = zd
  generalize hze : someU (wordU 5) 2 poolO 64 zd.2 [] = ze
  generalize hzf : someU (wordU 6) 1 slateO 64 ze.2 [] = zf
  have ha := hz (k := 1) (many := 3) (fun out => Ep ps ⟨out, [], [], [], gU l 0, [], [], gU l 1, gU l 2, gU l 3, []⟩) (one := regO) regU (by decide) (by decide) rfl (fun out => by simp [countU, Ep_last]) (fun out l => by rw [Ep_put _ _ (by decide) (by decide)]; rfl) reg_one r 0 hb (by decide) (fun j hj => by
    obtain rfl : j = 0 := by omega
    exact rej_can (by decide))
  rw [hza] at ha
  have e0 : Ep ps (headU l) = Ep ps ⟨[], [], [], [], gU l 0, [], [], gU l 1, gU l 2, gU l 3, []⟩ := rfl
  rw [e0]
  rcases ha with ⟨a1, a2⟩ | ⟨a1, wa, a2, a3, a4⟩
  · have e1 : zb = ([], za.2) := by rw [← hzb]; exact some_bad a1 64
    have e2 : zc = ([], za.2) := by rw [← hzc, e1]; exact some_bad a1 64
    have e3 : zd = ([], za.2) := by rw [← hzd, e2]; exact some_bad a1 64
    have e4 : ze = ([], za.2) := by rw [← hze, e3]; exact some_bad a1 64
    have e5 : zf = ([], za.2) := by rw [← hzf, e4]; exact some_bad a1 64
    rw [e5, take_bad a1]
    exact .inl ⟨rfl, a2⟩
  rw [a4]
  have hB := hz (k := 2) (many := 3) (fun out => Ep ps ⟨za.1, out, [], [], gU l 0, [], [], gU l 1, gU l 2, gU l 3, []⟩) (one := procO) procU (by decide) (by decide) rfl (fun out => by simp [countU, Ep_last]) (fun out l => by rw [Ep_put _ _ (by decide) (by decide)]; rfl) (plain_one procU fun _ => rfl) za.2 wa a1 (by omega) a3
  rw [hzb] at hB
  rcases hB with ⟨b1, b2⟩ | ⟨b1, wb, b2, b3, b4⟩
  · have e2 : zc = ([], zb.2) := by rw [← hzc]; exact some_bad b1 64
    have e3 : zd = ([], zb.2) := by rw [← hzd, e2]; exact some_bad b1 64
    have e4 : ze = ([], zb.2) := by rw [← hze, e3]; exact some_bad b1 64
    have e5 : zf = ([], zb.2) := by rw [← hzf, e4]; exact some_bad b1 64
    rw [e5, take_bad b1]
    exact .inl ⟨rfl, b2⟩
  rw [b4]
  have hC := hz (k := 3) (many := 4) (fun out => Ep ps ⟨za.1, zb.1, out, [], gU l 0, [], [], gU l 1, gU l 2, gU l 3, []⟩) (one := portO) portU (by decide) (by decide) rfl (fun out => by simp [countU, Ep_last]) (fun out l => by rw [Ep_put _ _ (by decide) (by decide)]; rfl) port_one zb.2 wb b1 (by omega) b3
  rw [hzc] at hC
  rcases hC with ⟨c1, c2⟩ | ⟨c1, wc, c2, c3, c4⟩
  · have e3 : zd = ([], zc.2) := by rw [← hzd]; exact some_bad c1 64
    have e4 : ze = ([], zc.2) := by rw [← hze, e3]; exact some_bad c1 64
    have e5 : zf = ([], zc.2) := by rw [← hzf, e4]; exact some_bad c1 64
    rw [e5, take_bad c1]
    exact .inl ⟨rfl, c2⟩
  rw [c4]
  have hD := hz (k := 4) (many := 2) (fun out => Ep ps ⟨za.1, zb.1, zc.1, out, gU l 0, [], [], gU l 1, gU l 2, gU l 3, []⟩) (one := semO) semU (by decide) (by decide) rfl (fun out => by simp [countU, Ep_last]) (fun out l => by rw [Ep_put _ _ (by decide) (by decide)]; rfl) (plain_one semU fun _ => rfl) zc.2 wc c1 (by omega) c3
  rw [hzd] at hD
  rcases hD with ⟨d1, d2⟩ | ⟨d1, wd, d2, d3, d4⟩
  · have e4 : ze = ([], zd.2) := by rw [← hze]; exact some_bad d1 64
    have e5 : zf = ([], zd.2) := by rw [← hzf, e4]; exact some_bad d1 64
    rw [e5, take_bad d1]
    exact .inl ⟨rfl, d2⟩
  rw [d4]
  have hE := hz (k := 5) (many := 2) (fun out => Ep ps ⟨za.1, zb.1, zc.1, zd.1, gU l 0, out, [], gU l 1, gU l 2, gU l 3, []⟩) (one := poolO) poolU (by decide) (by decide) rfl (fun out => by simp [countU, Ep_last]) (fun out l => by rw [Ep_put _ _ (by decide) (by decide)]; rfl) (plain_one poolU fun _ => rfl) zd.2 wd d1 (by omega) d3
  rw [hze] at hE
  rcases hE with ⟨f1, f2⟩ | ⟨f1, we, f2, f3, f4⟩
  · have e5 : zf = ([], ze.2) := by rw [← hzf]; exact some_bad f1 64
    rw [e5, take_bad f1]
    exact .inl ⟨rfl, f2⟩
  rw [f4]
  have hF := hz (k := 6) (many := 1) (fun out => Ep ps ⟨za.1, zb.1, zc.1, zd.1, gU l 0, ze.1, out, gU l 1, gU l 2, gU l 3, []⟩) (one := slateO) (fun l => gU l 0) (by decide) (by decide) rfl (fun out => by simp [countU, Ep_last]) (fun out l => by rw [Ep_put _ _ (by decide) (by decide)]; rfl) (plain_one (fun l => gU l 0) fun _ => rfl) ze.2 we f1 (by omega) f3
  rw [hzf] at hF
  rcases hF with ⟨g1, g2⟩ | ⟨g1, wf, g2, g3, g4⟩
  · rw [take_bad g1]
    exact .inl ⟨rfl, g2⟩
  rw [g4]
  rcases take_run (k := 7) (many := -1) (Ep ps ⟨za.1, zb.1, zc.1, zd.1, gU l 0, ze.1, zf.1, gU l 1, gU l 2, gU l 3, []⟩) (fun w => w < 7) (fun j => j < 7) (by decide) rfl (show (0 : Nat) < 64 by decide) (fun _ => rfl) (fun w h => (can_seven w h).1) (fun w h j h1 h2 => if h3 : j < 7 then .inl h3 else .inr ((can_seven w h).2 j h1 (by omega))) (fun w h => by omega) zf.2 wf g1 (by omega) g3 with h | ⟨h1, h2⟩
  · exact .inl h
  · refine .inr ⟨h1, ?_⟩
    rw [h2, Ep_put _ _ (by decide) (by decide)]
    rfl
end Go.Proofs.YtgkhjgpgdfbdpaaGreatDoor

namespace Go.Proofs.YtgkhjgpgdfbdpaaGreatDoor
open Go Go.Wk
set_option maxRecDepth 100000
def Ec (P : List PartV) (C : List ChanC) (M : List ModeV) (L : List LevelC) (N : List NapC) : ConfV := ⟨P, C, M, L, N, 0, 0, 0, 0, 0, 0, [], []⟩
theorem mode_run {P : List PartV} {C : List ChanC} {ms : List ModeV} {l : List Int} {r : Rd} {was : Nat} (hb : r.bad = false) (hw : was ∈ [9, 10]) :
    ((modeO l r).2.bad = true ∧ runR (Ec P C (ms ++ [⟨gU l 0, []⟩]) [] []) was r = (ConfV.none, (modeO l r).2.at', 13)) ∨
    ((modeO l r).2.bad = false ∧ ∃ w, w ∈ [9, 10] ∧ rejU (Ec P C (ms ++ [(modeO l r).1]) [] []) w (modeO l r).2 10 ∧ runR (Ec P C (ms ++ [⟨gU l 0, []⟩]) [] []) was r = runR (Ec P C (ms ++ [(modeO l r).1]) [] []) w (modeO l r).2) := by
  have hl : ∀ m : ModeV, lastM (Ec P C (ms ++ [m]) [] []) = m := fun m => by simp [lastM, Ec]
  rcases stage_run (k := 10) (many := 3) (one := winO) (fun out => Ec P C (ms ++ [⟨gU l 0, out⟩]) [] []) winU (fun w => w ∈ [9, 10]) (fun _ => False) (by decide) rfl (fun out => by simp [countU, hl]) (by decide) (by decide) (fun _ h => h.elim)
    (fun out l' => by
      show setM _ ⟨(lastM _).frame, (lastM _).wins ++ [winU l']⟩ = _
      rw [hl]
      simp [setM, Ec]) (plain_one winU fun _ => rfl) r was hb hw (fun _ h => h.elim) with h | ⟨h1, w, h2, _, h4, h5⟩
  · exact .inl h
  · exact .inr ⟨h1, w, h2, h4, h5⟩
theorem bad_chain {r : Rd} (h : r.bad = true) : (takeU (takeU (takeU r (wordU 13) 6).2 (wordU 14) (-1)).2 (wordU 15) (-1)).2 = badU (badU (badU r)) := by
  rw [take_bad h, take_bad (r := badU r) rfl, take_bad (r := badU (badU r)) rfl]
theorem config_run {r : Rd} (hb : r.bad = false) :
    ((configU r).2.bad = true ∧ runR ConfV.none 16 r = (ConfV.none, (configU r).2.at', 13)) ∨
    ((configU r).2.bad = false ∧ runR ConfV.none 16 r = runR (configU r).1 15 (configU r).2) := by
  unfold configU
  simp only
  generalize hza : someU (wordU 0) 4 partO 64 r [] = za
  generalize hzb : someU (wordU 8) 4 chanO 64 za.2 [] = zb
  generalize hzc : someU (wordU 9) 1 modeO 64 zb.2 [] = zc
  generalize hzd : someU (wordU 11) 2 levelO 64 zc.2 [] = zd
  generalize hze : someU (wordU 12) 3 napO 64 zd.2 [] = ze
  have e0 : ConfV.none = Ec [] [] [] [] [] := rfl
  have hA := some_run (k := 0) (many := 4) (one := partO) (fun out => Ec out [] [] [] []) (fun _ w r => r.bad = false ∧ w ∈ [16, 7]) (by decide) rfl (fun _ => rfl)
    (fun _ w _ h => ⟨h.1, (show ∀ w ∈ [16, 7], canU 0 w = true by decide) w h.2⟩)
    (fun out w r l hi hd hl => by
      unfold oneR
      rcases part_run (ps := out) (l := l) (r := nextU r) hi.1 with ⟨h1, h2⟩ | ⟨h1, h2⟩
      · exact .inl ⟨h1, h2⟩
      · exact .inr ⟨rfl, h1, 7, ⟨h1, by decide⟩, h2⟩) 64 r [] 16 rfl ⟨hb, by decide⟩
  rw [hza] at hA
  rw [e0]
  rcases hA with ⟨a1, a2⟩ | ⟨a1, wa, ⟨_, a2⟩, a3, a4⟩
  · have e1 : zb = ([], za.2) := by rw [← hzb]; exact some_bad a1 64
    have e2 : zc = ([], za.2) := by rw [← hzc, e1]; exact some_bad a1 64
    have e3 : zd = ([], za.2) := by rw [← hzd, e2]; exact some_bad a1 64
    have e4 : ze = ([], za.2) := by rw [← hze, e3]; exact some_bad a1 64
    rw [e4, bad_chain a1]
    exact .inl ⟨rfl, a2⟩
  rw [a4]
  have hB := stage_run (k := 8) (many := 4) (one := chanO) (fun out => Ec za.1 out [] [] []) chanU (fun w => w ∈ [16, 7, 8]) (fun j => j < 8) (by decide) rfl (fun _ => rfl) (by decide) (by decide) (by decide) (fun _ _ => rfl) (plain_one chanU fun _ => rfl) za.2 wa a1
    ((show ∀ w ∈ [16, 7], w ∈ [16, 7, 8] by decide) wa a2) (fun j hj => by
      by_cases e : j = 0
      · subst e; exact a3
      · exact rej_can ((show ∀ w ∈ [16, 7], ∀ j, j < 8 → j ≠ 0 → canU j w = false by decide) wa a2 j hj e))
  rw [hzb] at hB
  rcases hB with ⟨b1, b2⟩ | ⟨b1, wb, b2, b3, b4, b5⟩
  · have e2 : zc = ([], zb.2) := by rw [← hzc]; exact some_bad b1 64
    have e3 : zd = ([], zb.2) := by rw [← hzd, e2]; exact some_bad b1 64
    have e4 : ze = ([], zb.2) := by rw [← hze, e3]; exact some_bad b1 64
    rw [e4, bad_chain b1]
    exact .inl ⟨rfl, b2⟩
  rw [b5]
  have hC := some_run (k := 9) (many := 1) (one := modeO) (fun out => Ec za.1 zb.1 out [] []) (fun out w r => r.bad = false ∧ w ∈ [16, 7, 8, 9, 10] ∧ ∀ j, j < 9 ∨ j = 10 → rejU (Ec za.1 zb.1 out [] []) w r j) (by decide) rfl (fun _ => rfl)
    (fun _ w _ h => ⟨h.1, (show ∀ w ∈ [16, 7, 8, 9, 10], canU 9 w = true by decide) w h.2.1⟩)
    (fun out w r l hi hd hl => by
      unfold oneR
      rcases mode_run (P := za.1) (C := zb.1) (ms := out) (l := l) (r := nextU r) (was := 9) hi.1 (by decide) with ⟨h1, h2⟩ | ⟨h1, w', h2, h3, h4⟩
      · exact .inl ⟨h1, h2⟩
      · refine .inr ⟨rfl, h1, w', ⟨h1, (show ∀ w ∈ [9, 10], w ∈ [16, 7, 8, 9, 10] by decide) w' h2, fun j hj => ?_⟩, h4⟩
        rcases hj with hj | hj
        · exact rej_can ((show ∀ w ∈ [9, 10], ∀ j, j < 9 → canU j w = false by decide) w' h2 j hj)
        · subst hj; exact h3) 64 zb.2 [] wb rfl ⟨b1, (show ∀ w ∈ [16, 7, 8], w ∈ [16, 7, 8, 9, 10] by decide) wb b2, fun j hj => by
      by_cases h8 : j < 8
      · exact b3 j h8
      by_cases e : j = 8
      · subst e; exact b4
      obtain rfl : j = 10 := by omega
      exact rej_can ((show ∀ w ∈ [16, 7, 8], canU 10 w = false by decide) wb b2)⟩
  rw [hzc] at hC
  rcases hC with ⟨c1, c2⟩ | ⟨c1, wc, ⟨_, c2, c3⟩, c4, c5⟩
  · have e3 : zd = ([], zc.2) := by rw [← hzd]; exact some_bad c1 64
    have e4 : ze = ([], zc.2) := by rw [← hze, e3]; exact some_bad c1 64
    rw [e4, bad_chain c1]
    exact .inl ⟨rfl, c2⟩
  rw [c5]
  have hD := stage_run (k := 11) (many := 2) (one := levelO) (fun out => Ec za.1 zb.1 zc.1 out []) levelU (fun w => w ∈ [16, 7, 8, 9, 10, 11]) (fun j => j < 11) (by decide) rfl (fun _ => rfl) (by decide) (by decide) (by decide) (fun _ _ => rfl) (plain_one levelU fun _ => rfl) zc.2 wc c1
    ((show ∀ w ∈ [16, 7, 8, 9, 10], w ∈ [16, 7, 8, 9, 10, 11] by decide) wc c2) (fun j hj => by
      by_cases e : j = 9
      · subst e; exact c4
      · exact c3 j (by omega))
  rw [hzd] at hD
  rcases hD with ⟨d1, d2⟩ | ⟨d1, wd, d2, d3, d4, d5⟩
  · have e4 : ze = ([], zd.2) := by rw [← hze]; exact some_bad d1 64
    rw [e4, bad_chain d1]
    exact .inl ⟨rfl, d2⟩
  rw [d5]
  have hE := stage_run (k := 12) (many := 3) (one := napO) (fun out => Ec za.1 zb.1 zc.1 zd.1 out) napU (fun w => w ∈ [16, 7, 8, 9, 10, 11, 12]) (fun j => j < 12) (by decide) rfl (fun _ => rfl) (by decide) (by decide) (by decide) (fun _ _ => rfl) (plain_one napU fun _ => rfl) zd.2 wd d1
    ((show ∀ w ∈ [16, 7, 8, 9, 10, 11], w ∈ [16, 7, 8, 9, 10, 11, 12] by decide) wd d2) (fun j hj => by
      by_cases e : j = 11
      · subst e; exact d4
      · exact d3 j (by omega))
  rw [hze] at hE
  rcases hE with ⟨f1, f2⟩ | ⟨f1, we, f2, f3, f4, f5⟩
  · rw [bad_chain f1]
    exact .inl ⟨rfl, f2⟩
  rw [f5]
  generalize hl : takeU ze.2 (wordU 13) 6 = x
  generalize hm : takeU x.2 (wordU 14) (-1) = y
  generalize hn : takeU y.2 (wordU 15) (-1) = z
  have hF := take_run (k := 13) (many := 6) (Ec za.1 zb.1 zc.1 zd.1 ze.1) (fun w => w ∈ [16, 7, 8, 9, 10, 11, 12]) (fun j => j < 13) (by decide) rfl (show (0 : Nat) < 64 by decide) (fun _ => rfl) (by decide)
    (fun w h j h1 h2 => if h3 : j < 13 then .inl h3 else .inr ((show ∀ w ∈ [16, 7, 8, 9, 10, 11, 12], ∀ j, j < 16 → 13 < j → canU j w = false by decide) w h j h1 (by omega))) (by decide) ze.2 we f1 f2 (fun j hj => by
      by_cases e : j = 12
      · subst e; exact f4
      · exact f3 j (by omega))
  rw [hl] at hF
  rcases hF with ⟨g1, g2⟩ | ⟨g1, g2⟩
  · rw [take_bad g1] at hm
    subst hm
    rw [take_bad (r := badU x.2) rfl] at hn
    subst hn
    exact .inl ⟨rfl, g2⟩
  rw [g2]
  have hG := take_run (k := 14) (many := -1) (putU (Ec za.1 zb.1 zc.1 zd.1 ze.1) 13 x.1) (fun w => w = 13) (fun _ => False) (by decide) rfl (show (0 : Nat) < 64 by decide) (fun _ => rfl) (fun w h => by subst h; decide)
    (fun w h j h1 h2 => .inr (by subst h; exact (show ∀ j, j < 16 → j ≠ 14 → canU j 13 = false by decide) j h1 h2)) (fun w h => by subst h; decide) x.2 13 g1 rfl (fun _ h => h.elim)
  rw [hm] at hG
  rcases hG with ⟨i1, i2⟩ | ⟨i1, i2⟩
  · rw [take_bad i1] at hn
    subst hn
    exact .inl ⟨rfl, i2⟩
  rw [i2]
  have hH := take_run (k := 15) (many := -1) (putU (putU (Ec za.1 zb.1 zc.1 zd.1 ze.1) 13 x.1) 14 y.1) (fun w => w = 14) (fun _ => False) (by decide) rfl (show (0 : Nat) < 64 by decide) (fun _ => rfl) (fun w h => by subst h; decide)
    (fun w h j h1 h2 => .inr (by subst h; exact (show ∀ j, j < 16 → j ≠ 15 → canU j 14 = false by decide) j h1 h2)) (fun w h => by subst h; decide) y.2 14 i1 rfl (fun _ h => h.elim)
  rw [hn] at hH
  rcases hH with h | ⟨j1, j2⟩
  · exact .inl h
  · exact .inr ⟨j1, j2⟩
/-- The program's reader answers as the document does. -/
theorem readU_readD (s : List UInt8) : readU s = readD s := by
  unfold readU readD
  by_cases hs : 65536 < s.length
  · rw [if_pos hs, if_pos hs]
  · rw [if_neg hs, if_neg hs]
    have e : runU ConfV.none 16 1 (wordsA 10 s) = runR ConfV.none 16 ⟨s, 1, false⟩ := rfl
    rw [e]
    generalize hq : configU ⟨s, 1, false⟩ = q
    have h := config_run (r := ⟨s, 1, false⟩) rfl
    rw [hq] at h
    rcases h with ⟨h1, h2⟩ | ⟨h1, h2⟩
    · rw [if_pos (.inl h1), h2]
    · rw [h2]
      by_cases ht : q.2.t = []
      · rw [if_neg (by rintro (h | h); · rw [h1] at h; cases h
                       · exact h ht)]
        unfold runR
        rw [ht]
        have : wordsA 10 ([] : List UInt8) = [[]] := wordsA_miss (w := []) List.not_mem_nil
        rw [this]
        unfold runU
        simp
      · rw [if_pos (.inr ht)]
        cases hd : hdU q.2 with
        | none => rw [run_none hd (.inl ht)]
        | some t =>
          obtain ⟨j, l⟩ := t
          rw [run_no hd (rej_can ((show ∀ j, j < 16 → canU j 15 = false by decide) j (hd_lt hd)) l hd)]
end Go.Proofs.YtgkhjgpgdfbdpaaGreatDoor
