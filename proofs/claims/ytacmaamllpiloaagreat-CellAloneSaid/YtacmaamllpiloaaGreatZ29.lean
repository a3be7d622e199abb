import Derived.Test.YtacmaamllpiloaaGreatZ16
import Derived.Test.YtacmaamllpiloaaGreatZ28
namespace Go.Proofs.YtacmaamllpiloaaGreat
open Go Go.Wk
structure StepC where
 cycles : Int
 call : Int
 a : Int
 b : Int
 c : Int
 d : Int
instance inh_StepC : Inhabited StepC := ⟨⟨0, 0, 0, 0, 0, 0⟩⟩
instance en_StepC : En StepC := ⟨fun s => [.int .i64 s.cycles, .int .i64 s.call, .int .i64 s.a, .int .i64 s.b, .int .i64 s.c, .int .i64 s.d], 6, fun _ => rfl, fun _ => rfl, by decide⟩
def StepC.ok (s : StepC) : Prop := okZ s.a ∧ okZ s.b ∧ okZ s.c ∧ okZ s.d
structure EvC where
 part : Int
 win : Int
 proc : Int
 call : Int
 code : Int
 value : Int
instance inh_EvC : Inhabited EvC := ⟨⟨0, 0, 0, 0, 0, 0⟩⟩
instance en_EvC : En EvC := ⟨fun s => [.int .i64 s.part, .int .i64 s.win, .int .i64 s.proc, .int .i64 s.call, .int .i64 s.code, .int .i64 s.value], 6, fun _ => rfl, fun _ => rfl, by decide⟩
structure CC where
 conf : PartD
 part : Int
 progs : List (List StepC)
structure CM where
 mode : Int
 win : Int
 pos : List Int
 rest : List Int
 addr : List Int
 data : List (List UInt8)
 done : List Bool
 tb : Tb
 mem : List RegM
 pts : List AP
 obs : ObM
 slk : Option SlM
 evs : List EvC
section
variable (C : CC) (c : CM) (k : Int)
def noteM (call code value : Int) : CM := { c with evs := c.evs ++ [⟨C.part, c.win, k, call, code, value⟩] }
def clampC (n : Int) : Int := if n < 1 then 1 else if 1073741824 < n then 1073741824 else n
def atM (p : List StepC) (i : Int) : Int := if (p.length : Int) ≤ i then 0 else i
def toM (i : Int) : CM := { c with pos := c.pos.set k.toNat (atM (ix C.progs k) i), rest := c.rest.set k.toNat (clampC (ix (ix C.progs k) (atM (ix C.progs k) i)).cycles) }
def parkM : CM := { c with tb := c.tb.park k }
def startM (win : Int) : CM :=
 let c1 := { toM C c k 0 with tb := (toM C c k 0).tb.start k win }
 if ix c.done k = true then parkM c1 k else c1
def setTM (st : Int) : CM := { c with tb := c.tb.set k st }
def restM : CM := { c with done := c.done.set k.toNat true, tb := c.tb.park k, slk := c.slk.map fun m => finM m k }
def stopTo : Nat → CM
 | 0 => c
 | n + 1 => setTM (stopTo n) (n : Int) 0
def idleM : CM := stopTo { c with mode := 0 } C.progs.length
def startTo (win : Int) : Nat → CM
 | 0 => c
 | n + 1 => startM C (startTo win n) (n : Int) win
def clearM (cold : Bool) : CM := { c with mem := if cold = true then c.mem.map RegM.clr else c.mem, obs := newO C.conf, pts := clearA c.pts }
def anewM (cold : Bool) : CM := startTo C (stopTo (clearM C c cold) C.progs.length) c.win C.progs.length
def faultM (kind : Int) : CM :=
 let act := actA C.conf.acts.d kind
 let c1 := noteM C c k (-1 - kind) act 0
 if act = 1 then setTM c1 k 0 else if act = 2 then startM C (setTM c1 k 0) k c.win else if act = 3 then anewM C c1 true else if act = 4 then idleM C c1 else c1
def endM (call code value : Int) : CM := setTM (noteM C c k call code value) k 1
def getsM (call : Int) (b : List UInt8) : CM := endM C { c with mem := stB c.mem (ix c.addr k) b } k call 0 b.length
end
section
variable (C : CC)
def firstM (c : CM) (call what : Int) : Int := c.tb.best (One.waits call what)
def pickM (c : CM) : Int := c.tb.best One.ready
def sendTo (p : Int) : Nat → CM → CM
 | 0, c => c
 | n + 1, c => if firstM c 11 p < 0 then c else
  let c1 := { c with pts := intoA c.pts p true (ix c.data (firstM c 11 p)) }
  if intoCA c.pts p true (ix c.data (firstM c 11 p)).length = 0 then sendTo p n (endM C c1 (firstM c 11 p) 11 0 0) else c1
def recvTo (p : Int) : Nat → CM → CM
 | 0, c => c
 | n + 1, c => if firstM c 12 p < 0 then c else
  let c1 := { c with pts := outA c.pts p true }
  if outCA c.pts p true = 0 then recvTo p n (getsM C c1 (firstM c 12 p) 12 (outDA c.pts p true)) else c1
def portsTo (c : CM) : Nat → CM
 | 0 => c
 | n + 1 => recvTo C (n : Int) 20 (sendTo C (n : Int) 20 (portsTo c n))
def ofC (c : CM) (k : Int) : Int := match c.slk with
 | some m => ofM m k
 | none => 0
def settleTo : Nat → CM → CM
 | 0, c => c
 | n + 1, c => if c.mode = 3 then (if pickM c < 0 then c else if 0 < ofC c (pickM c) then c else settleTo n (faultM C (restM c (pickM c)) (pickM c) 0)) else c
def relN (c : CM) (l : List Int) : Nat → CM
 | 0 => c
 | n + 1 => noteM C (relN c l n) (ix l (n : Int)) 1 0 0
def missTo (c : CM) (l : List Int) : Nat → CM
 | 0 => c
 | n + 1 => if (missTo c l n).mode = 3 then faultM C (missTo c l n) (ix l (n : Int)) 4 else missTo c l n
def dueM (c : CM) (l : List Int) : Nat → CM
 | 0 => c
 | n + 1 =>
  let d := dueM c l n
  let k := ix l (n : Int)
  endM C d k (d.tb.at k).call (if (d.tb.at k).call = 2 then 0 else 5) 0
def winM (c : CM) : CM := { c with win := IntKind.i64.wrap (c.win + 1), slk := some (newSl C.conf), tb := c.tb.free, done := List.replicate C.progs.length false }
def begin2 (c : CM) : CM :=
 let r := c.tb.relTo c.win c.tb.d.length
 let c1 := relN C { c with tb := r.t } r.rel r.rel.length
 let c2 := missTo C c1 r.mis r.mis.length
 let c3 := portsTo C c2 8
 let l := c3.tb.dueTo c3.win c3.tb.d.length
 settleTo C 100 (dueM C c3 l l.length)
def beginM (c : CM) : CM := if (winM C c).mode = 3 then begin2 C (winM C c) else winM C c
def whoM (c : CM) : Int := match c.slk with
 | some _ => if c.mode = 3 then pickM c else -1
 | none => -1
def wantM (c : CM) : Int := match c.slk with
 | some m => if c.mode = 3 then (if pickM c < 0 then 0 else min3 (ix c.rest (pickM c)) (ofM m (pickM c)) m.room) else 0
 | none => 0
def leftM (c : CM) : Int := match c.slk with
 | some m => if whoM c < 0 then 0 else leftA m.room m.ms
 | none => 0
def waitM (c : CM) (k : Int) (s : StepC) (b : List UInt8) : CM :=
 if s.d = 0 then noteM C c k s.call 1 0 else
 { c with addr := c.addr.set k.toNat s.b, data := c.data.set k.toNat b, tb := c.tb.wait k s.call s.a (if 1000 < s.d then IntKind.i64.wrap (c.win + 1000) else if 0 < s.d then IntKind.i64.wrap (c.win + s.d) else -1) }
def badM (c : CM) (k : Int) (s : StepC) : CM := faultM C (noteM C c k s.call 8 0) k 2
def fromB (c : CM) (s : StepC) (size : Int) : Bool := decide (1 ≤ s.c) && decide (s.c ≤ size) && ldO c.mem s.b s.c
def fromM (c : CM) (k : Int) (s : StepC) (size : Int) : CM := if 1 ≤ s.c ∧ s.c ≤ size then badM C c k s else noteM C c k s.call 2 0
def intoB (c : CM) (s : StepC) (size : Int) : Bool := (fI c.mem s.b size true).isSome
def gotM (c : CM) (k : Int) (s : StepC) (b : List UInt8) : CM := noteM C { c with mem := stB c.mem s.b b } k s.call 0 b.length
def sleepM (c : CM) (k : Int) (s : StepC) : CM :=
 if s.call = 1 then (if 0 < (ix C.conf.procs.d k).period then restM (setTM c k 4) k else noteM C c k 1 4 0)
 else if s.call = 3 then (if 0 < (ix C.conf.procs.d k).period then noteM C c k 3 4 0 else setTM (noteM C c k 3 0 0) k 3)
 else if 1 ≤ s.a ∧ s.a ≤ 1000 then restM { c with tb := c.tb.wait k 2 0 (IntKind.i64.wrap (c.win + s.a)) } k else noteM C c k 2 2 0
def othersM (c : CM) (k : Int) (s : StepC) : CM :=
 if ¬ (0 ≤ s.a ∧ s.a < C.progs.length) ∨ (s.call = 4 ∧ s.a = k) ∨ (s.call = 7 ∧ (s.b < 0 ∨ 63 < s.b)) then noteM C c k s.call 2 0
 else if s.call = 7 then (if (c.tb.at s.a).state = 0 then noteM C c k s.call 4 0 else noteM C { c with tb := c.tb.rank s.a s.b } k s.call 0 0)
 else if s.call = 4 ∧ (c.tb.at s.a).state = 3 then noteM C (setTM c s.a 1) k s.call 0 0
 else if s.call = 5 ∧ (c.tb.at s.a).state = 0 then noteM C (startM C c s.a c.win) k s.call 0 0
 else if s.call = 6 ∧ (c.tb.at s.a).state ≠ 0 then noteM C (setTM c s.a 0) k s.call 0 0
 else noteM C c k s.call 6 0
def portM2 (c : CM) (k : Int) (s : StepC) : CM :=
  let q : Bool := decide (11 ≤ s.call)
  let i : Bool := decide (s.call = 10 ∨ s.call = 12)
  if canA c.pts s.a q i = true then
    (if i = true then
      (if intoB c s (sizePA c.pts s.a) = true then
        (let c1 := { c with pts := outA c.pts s.a q }
         if outCA c.pts s.a q = 0 then gotM C c1 k s (outDA c.pts s.a q) else if q = true then waitM C c1 k s [] else noteM C c1 k s.call (outCA c.pts s.a q) 0)
       else badM C c k s)
     else
      (if fromB c s (sizePA c.pts s.a) = true then
        (let b := ldB c.mem s.b s.c
         let c1 := { c with pts := intoA c.pts s.a q b }
         if q = true then (if intoCA c.pts s.a q b.length = 0 then noteM C c1 k s.call 0 0 else waitM C c1 k s b) else noteM C c1 k s.call (intoCA c.pts s.a q b.length) 0)
       else fromM C c k s (sizePA c.pts s.a)))
  else noteM C c k s.call 3 0
def flagTo (w : Int) : Nat → CM → CM
 | 0, c => c
 | n + 1, c => if firstM c 17 w < 0 then c else flagTo w n (endM C c (firstM c 17 w) 17 0 0)
def signalM (c : CM) (k : Int) (s : StepC) : CM :=
 if s.call = 13 then (let c1 := { c with obs := { c.obs with sems := takeM c.obs.sems s.a } }
  if takeMC c.obs.sems s.a = 1 then waitM C c1 k s [] else noteM C c1 k 13 (takeMC c.obs.sems s.a) 0)
 else if s.call = 14 then (if 0 ≤ firstM c 13 s.a then endM C (noteM C c k 14 0 0) (firstM c 13 s.a) 13 0 0
  else noteM C { c with obs := { c.obs with sems := giveM c.obs.sems s.a } } k 14 (giveMC c.obs.sems s.a) 0)
 else if s.call = 15 then flagTo C s.a 20 (noteM C { c with obs := { c.obs with flags := flagMs c.obs.flags s.a true } } k 15 (flagMC c.obs.flags s.a) 0)
 else if s.call = 16 then noteM C { c with obs := { c.obs with flags := flagMs c.obs.flags s.a false } } k 16 (flagMC c.obs.flags s.a) 0
 else if upM c.obs.flags s.a = true ∨ flagMC c.obs.flags s.a ≠ 0 then noteM C c k 17 (flagMC c.obs.flags s.a) 0 else waitM C c k s []
def refillM (c : CM) (p : Int) : CM :=
 if firstM c 18 p < 0 then c else
 let b := ix c.data (firstM c 18 p)
 let c1 := { c with obs := { c.obs with pools := putM c.obs.pools p b } }
 if putMC c.obs.pools p b.length = 0 then endM C c1 (firstM c 18 p) 18 0 0 else c1
def poolCM (c : CM) (k : Int) (s : StepC) : CM :=
  if 0 ≤ s.a ∧ s.a < (C.conf.pools.d.length : Int) ∧ s.a < 4 then
    (let size := (ix C.conf.pools.d s.a).size
     if s.call = 19 then
      (if intoB c s size = true then
        (let c1 := { c with obs := { c.obs with pools := getMs c.obs.pools s.a } }
         if getMC c.obs.pools s.a = 0 then refillM C (gotM C c1 k s (getMD c.obs.pools s.a)) s.a else waitM C c1 k s [])
       else badM C c k s)
     else if fromB c s size = true then
      (let b := ldB c.mem s.b s.c
       if 0 ≤ firstM c 19 s.a then getsM C (noteM C c k 18 0 0) (firstM c 19 s.a) 19 b
       else (let c1 := { c with obs := { c.obs with pools := putM c.obs.pools s.a b } }
        if putMC c.obs.pools s.a b.length = 0 then noteM C c1 k 18 0 0 else waitM C c1 k s b))
     else fromM C c k s size)
  else noteM C c k s.call 3 0
def slateTo (w : Int) (b : List UInt8) : Nat → CM → CM
 | 0, c => c
 | n + 1, c => if firstM c 21 w < 0 then c else slateTo w b n (getsM C c (firstM c 21 w) 21 b)
def slateCM (c : CM) (k : Int) (s : StepC) : CM :=
  if 0 ≤ s.a ∧ s.a < (C.conf.slates.d.length : Int) ∧ s.a < 4 then
    (let size := ix C.conf.slates.d s.a
     if s.call = 22 then noteM C { c with obs := { c.obs with slates := wipeMs c.obs.slates s.a } } k 22 (wipeMC c.obs.slates s.a) 0
     else if s.call = 21 then
      (if intoB c s size = true then (if lookMC c.obs.slates s.a = 0 then gotM C c k s (lookMD c.obs.slates s.a) else waitM C c k s []) else badM C c k s)
     else if fromB c s size = true then
      (let b := ldB c.mem s.b s.c
       slateTo C s.a b 20 (noteM C { c with obs := { c.obs with slates := showMs c.obs.slates s.a b } } k 20 (showMC c.obs.slates s.a b.length) 0))
     else fromM C c k s size)
  else noteM C c k s.call 3 0
def memoryM (c : CM) (k : Int) (s : StepC) : CM :=
 if s.call = 25 then (if stO c.mem s.a 4 = true then noteM C { c with mem := stB c.mem s.a (b4 s.b) } k 25 0 0 else badM C { c with mem := stB c.mem s.a (b4 s.b) } k s)
 else if ldO c.mem s.a 4 = true then noteM C c k 24 0 (wdB c.mem s.a) else badM C c k s
def becomeM (c : CM) (k : Int) (s : StepC) : CM :=
 if s.a = 0 then idleM C (noteM C c k 27 0 0) else if s.a = 1 ∨ s.a = 2 then anewM C (noteM C c k 27 0 0) (decide (s.a = 1)) else if s.a = 3 then noteM C c k 27 6 0 else noteM C c k 27 2 0
def callCM (c : CM) (k : Int) (s : StepC) : CM :=
 if 1 ≤ s.call ∧ s.call ≤ 3 then sleepM C c k s else if 4 ≤ s.call ∧ s.call ≤ 7 then othersM C c k s else if s.call = 8 then noteM C c k 8 0 c.win
 else if 9 ≤ s.call ∧ s.call ≤ 12 then portM2 C c k s else if 13 ≤ s.call ∧ s.call ≤ 17 then signalM C c k s else if s.call = 18 ∨ s.call = 19 then poolCM C c k s
 else if 20 ≤ s.call ∧ s.call ≤ 22 then slateCM C c k s else if s.call = 23 then faultM C (noteM C c k 23 0 s.a) k 3 else if s.call = 24 ∨ s.call = 25 then memoryM C c k s
 else if s.call = 26 then noteM C c k 26 0 c.mode else if s.call = 27 then becomeM C c k s else faultM C (noteM C c k s.call 7 0) k 1
def ranM (c : CM) (k n : Int) : CM :=
 let c1 := { c with slk := c.slk.map fun m => spendM m k n, rest := c.rest.set k.toNat (ix c.rest k - n) }
 if ix c.rest k - n = 0 then settleTo C 100 (callCM C (toM C c1 k (ix c.pos k + 1)) k (ix (ix C.progs k) (ix c.pos k))) else settleTo C 100 c1
end
end Go.Proofs.YtacmaamllpiloaaGreat
namespace Go.Proofs.YtacmaamllpiloaaGreat
open Go Go.Wk
set_option maxHeartbeats 3200000
set_option maxRecDepth 100000
instance elt_evs : ElT 38 EvC := ⟨⟩
instance elt_steps : ElT 80 StepC := ⟨⟩
instance elt_tasks : ElT 31 Pt := ⟨⟩
instance dea_evc {a1 a2 a3 a4 a5 a6 : Int} {l : List Asrt} : De l (.agg [.int .i64 a1, .int .i64 a2, .int .i64 a3, .int .i64 a4, .int .i64 a5, .int .i64 a6].toArray) (EvC.mk a1 a2 a3 a4 a5 a6) := ⟨rfl⟩
structure TaskG where
 b : Nat
 ps : SV
 prog : List StepC
 pos : Int
 rest : Int
 addr : Int
 ds : SV
 dd : List UInt8
 done : Bool
instance inh_TaskG : Inhabited TaskG := ⟨⟨0, ⟨none, 0, 0⟩, [], 0, 0, 0, ⟨none, 0, 0⟩, [], false⟩⟩
def TaskG.pt (g : TaskG) : Pt := ⟨some g.b⟩
abbrev taskB (g : TaskG) : Asrt := blk g.b (.cells [g.ps.v, .int .i64 g.pos, .int .i64 g.rest, .int .i64 g.addr, g.ds.v, .bool g.done].toArray 82 (0, 0))
def taskA (g : TaskG) : Asrt := sep (taskB g) (sep (sl true g.ps.v g.prog) (sl true g.ds.v g.dd))
theorem taskA_open {g : TaskG} {l : List Asrt} {X : WP} (h : Tr (taskB g :: sl true g.ps.v g.prog :: sl true g.ds.v g.dd :: l) X) : Tr (taskA g :: l) X :=
 Tr.sep_iff.2 ((Tr.sep_iff.2 (h.imp (Imp.of_perm (List.perm_middle (l₁ := [sl true g.ps.v g.prog, sl true g.ds.v g.dd]))))).imp Imp.swap)
structure CW where
 ts : SV
 tb : Nat
 mem : Nat
 pts : Nat
 obs : Nat
 mon : Nat
 slk : Option Nat
 ev : SV
abbrev ptr (b : Nat) : Value := .pointer (some ⟨b, 0, none⟩)
def slP : Option Nat → Value
 | some b => .pointer (some ⟨b, 0, none⟩)
 | none => .pointer none
def slkO (o : Option Nat) (m : Option SlM) : Asrt := match o, m with
 | some b, some m => slkX b m
 | _, _ => fact True
abbrev cellB (b : Nat) (C : CC) (mode win : Int) (w : CW) : Asrt := blk b (.cells [C.conf.regions.s.v, C.conf.procs.s.v, C.conf.ports.s.v, C.conf.sems.s.v, .int .i64 C.conf.flags, C.conf.pools.s.v, C.conf.slates.s.v, .int .i64 C.conf.cap, .int .i64 C.conf.budget, .int .i64 C.conf.ladder, C.conf.acts.s.v,
 .int .i64 C.part, .int .i64 mode, .int .i64 win, w.ts.v, ptr w.tb, ptr w.mem, ptr w.pts, ptr w.obs, ptr w.mon, slP w.slk, w.ev.v].toArray 40 (0, 0))
abbrev cellL (b : Nat) (C : CC) (c : CM) (w : CW) (gs : List TaskG) : List Asrt := [cellB b C c.mode c.win w, sl false w.ts.v (gs.map TaskG.pt), fam taskA gs, tabA w.tb c.tb, memX w.mem c.mem, portX w.pts c.pts, objX w.obs C.conf c.obs, monA w.mon C.conf.acts.d, slkO w.slk c.slk, sl false w.ev.v c.evs, sl true C.conf.procs.s.v C.conf.procs.d]
def waitD (o : One) : Prop := o.state = 2 ∧ (o.call = 11 ∨ o.call = 18)
structure okC (C : CC) : Prop where
 n0 : 1 ≤ C.progs.length
 n8 : C.progs.length ≤ 8
 np : C.conf.procs.d.length = C.progs.length
 pr : ∀ p ∈ C.progs, p ≠ [] ∧ p.length ≤ 1000000 ∧ ∀ s ∈ p, s.ok
 cap : C.conf.cap ≤ 1000000000000
 cost : ∀ x ∈ C.conf.procs.d, x.cost ≤ 1000000000000
 dep : ∀ x ∈ C.conf.pools.d, x.depth ≤ 16
 pz : ∀ x ∈ C.conf.pools.d, x.size ≤ 300
 lz : ∀ x ∈ C.conf.slates.d, x ≤ 300
 oz : ∀ x ∈ C.conf.ports.d, x.size ≤ 300
 od : ∀ x ∈ C.conf.ports.d, x.depth ≤ 16
 rz : ∀ x ∈ C.conf.regions.d, 0 ≤ x.base ∧ x.base ≤ 1048576
structure okM (C : CC) (c : CM) : Prop where
 tb : c.tb.d.length = C.progs.length
 pos : c.pos.length = C.progs.length
 rest : c.rest.length = C.progs.length
 addr : c.addr.length = C.progs.length
 data : c.data.length = C.progs.length
 done : c.done.length = C.progs.length
 pi : ∀ k : Int, 0 ≤ ix c.pos k ∧ ix c.pos k < (ix C.progs k).length ∨ ¬ inR C.progs k
 ad : ∀ x ∈ c.addr, okZ x
 dl : ∀ x ∈ c.data, x.length ≤ 300
structure Rel (C : CC) (c : CM) (w : CW) (gs : List TaskG) : Prop where
 ok : okM C c
 hp : gs.map TaskG.prog = C.progs
 hi : gs.map TaskG.pos = c.pos
 hr : gs.map TaskG.rest = c.rest
 ha : gs.map TaskG.addr = c.addr
 hd : gs.map TaskG.done = c.done
 hw : ∀ k : Int, inR gs k → waitD (c.tb.at k) → (ix gs k).dd = ix c.data k
 hs : w.slk.isSome = c.slk.isSome
def few (c : CM) (n : Nat) : Prop := c.evs.length + n ≤ 1000000000000
attribute [local irreducible] BrK GenK EGenK EUnitK CallK FnK CallV GuardO GuardC CondW opX opK opKc chkR eqR seqK blkK endL WL WD W LoopW BinK Tr drewK resL PickK NotK NilK ExtrK getK Instr.storeAt Instr.loadAt Instr.fieldAt Instr.indexAt Instr.lookup Instr.mapUpdate Instr.box Instr.alloc Instr.build Instr.buildSlice Instr.makeSlice Instr.makeMap Instr.sliceAt Instr.field Instr.index Instr.makeInterface Instr.typeAssert Builtin.len_ Builtin.append_ Builtin.cap_ Builtin.min_ Builtin.max_ Builtin.copy_ Builtin.clear_ convert binOp mp blk rob sl sep ex fact old
attribute [local irreducible] taskA slkO memX portX objX
section
variable {b : Nat} {C : CC} {c : CM} {w : CW} {gs : List TaskG} {k call code value : Int}
theorem cnote_ok {mode win : Int} {es : List EvC} (hf : es.length + 1 ≤ 1000000000000) : Trip Tryz.prog 90 [ptr b, .int .i64 k, .int .i64 call, .int .i64 code, .int .i64 value].toArray [cellB b C mode win w, sl false w.ev.v es]
  fun v l' => ∃ ev : SV, v = .tuple #[] ∧ l' = [cellB b C mode win { w with ev := ev }, sl false ev.v (es ++ [⟨C.part, win, k, call, code, value⟩])] := by
 intro F K hK
 simp only [List.cons_append, List.nil_append]
 (refine Tr.enter (rs := []) mixed fn90 rfl (by simp +arith [Tryz.ntmps90]) fun u => ?_; simp only [cd90, Tryz.f90])
 have hX := @pl90.eq_def; repeat' (first | intro (sv : SV) | refine S.x ?_ | fail)
 all_goals exact Tr.fin hK ⟨sv, rfl, rfl⟩ S.E
theorem ctell_ok {mode win : Int} {es : List EvC} {s : StepC} (hf : es.length + 1 ≤ 1000000000000) : Trip Tryz.prog 159 [ptr b, .int .i64 k, .agg (En.enc s).toArray, .int .i64 code].toArray [cellB b C mode win w, sl false w.ev.v es]
  fun v l' => ∃ ev : SV, v = .tuple #[] ∧ l' = [cellB b C mode win { w with ev := ev }, sl false ev.v (es ++ [⟨C.part, win, k, s.call, code, 0⟩])] := by
 intro F K hK
 simp only [List.cons_append, List.nil_append]
 (refine Tr.enter (rs := []) mixed fn159 rfl (by simp +arith [Tryz.ntmps159]) fun u => ?_; simp only [cd159, Tryz.f159])
 have hX := @pl159.eq_def; repeat' (first | refine S.x ?_ | (refine G.call 90 ?_; refine S.c ?_ (h := cnote_ok ?_)) | rintro _ _ ⟨_, rfl, rfl⟩ | (refine G.prop ?_; assumption) | intro hb | fail)
 all_goals
  rename_i sv
  exact Tr.fin hK ⟨sv, rfl, rfl⟩ S.E
theorem chas_ok {mode win : Int} (hl : gs.length = C.progs.length) : Trip Tryz.prog 158 [ptr b, .int .i64 k].toArray [cellB b C mode win w, sl false w.ts.v (gs.map TaskG.pt)]
  fun v l' => v = .bool (decide (0 ≤ k) && decide (k < C.progs.length)) ∧ l' = [cellB b C mode win w, sl false w.ts.v (gs.map TaskG.pt)] := by
 intro F K hK
 simp only [List.cons_append, List.nil_append]
 have hlm : (gs.map TaskG.pt).length = C.progs.length := by rw [List.length_map]; exact hl
 (refine Tr.enter (rs := [.tmp 4]) mixed fn158 rfl (by simp +arith [Tryz.ntmps158]) fun u => ?_; simp only [cd158, Tryz.f158])
 have hX := And.intro @pl158.eq_def hlm; repeat' (first | refine S.x ?_ | refine S.y ?_ ?_ | intro hb | fail)
 all_goals exact S.L
end
end Go.Proofs.YtacmaamllpiloaaGreat
namespace Go.Proofs.YtacmaamllpiloaaGreat
open Go Go.Wk
section
variable {t : Tb} {k j : Int} {o : One} {st : Int}
theorem at_set (hl : inR t.d k) {n : Int} : (Tb.mk (t.d.set k.toNat o) n).at j = if j = k then o else t.at j := by
 unfold Tb.at
 obtain ⟨h0, h1⟩ := hl
 simp only [List.getD_eq_getElem?_getD, List.getElem?_set]
 by_cases hj : j = k
 ·subst hj
  rw [if_pos h0, if_pos rfl, if_pos rfl, if_pos (by omega)]; rfl
 ·rw [if_neg hj]
  by_cases h : 0 ≤ j
  ·rw [if_pos h, if_pos h, if_neg (by omega)]
  ·rw [if_neg h, if_neg h]
theorem has_in : t.has k = true ↔ inR t.d k := by unfold Tb.has inR; simp
theorem put_at (hl : inR t.d k) : (t.put k o st).at j = if j = k then t.putP o st else t.at j := at_set hl
theorem putP_wait : (t.putP o st).state = st ∧ (t.putP o st).parked = o.parked := by
 unfold Tb.putP
 simp only
 constructor <;> (repeat' split) <;> rfl
def noNew (t t' : Tb) : Prop := ∀ j, waitD (t'.at j) → waitD (t.at j)
theorem noNew_refl : noNew t t := fun _ h => h
theorem noNew_trans {t1 t2 t3 : Tb} (h1 : noNew t1 t2) (h2 : noNew t2 t3) : noNew t1 t3 := fun j h => h1 j (h2 j h)
theorem put_noNew (hl : inR t.d k) (hs : st ≠ 2) : noNew t (t.put k o st) ∧ ¬ waitD ((t.put k o st).at k) := by
 have h0 : ¬ waitD (t.putP o st) := fun h => hs (putP_wait.1.symm.trans h.1)
 refine ⟨fun j hj => ?_, ?_⟩
 ·rw [put_at hl] at hj
  split at hj
  ·exact absurd hj h0
  ·exact hj
 ·rw [put_at hl, if_pos rfl]; exact h0
theorem setB_in (h : t.setB k st = true) : inR t.d k ∧ st ≠ 2 := by
 unfold Tb.setB at h
 simp only [Bool.and_eq_true, Bool.not_eq_true', decide_eq_true_eq, decide_eq_false_iff_not] at h
 exact ⟨has_in.1 h.1, h.2.2.2⟩
theorem set_noNew : noNew t (t.set k st) := by
 unfold Tb.set
 split
 ·rename_i h
  obtain ⟨h1, h2⟩ := setB_in h
  exact (put_noNew h1 h2).1
 ·exact noNew_refl
theorem set_not (hl : inR t.d k) (h0 : 0 ≤ st) (h5 : st < 5) (h2 : st ≠ 2) : ¬ waitD ((t.set k st).at k) := by
 have hb : t.setB k st = true := by
  unfold Tb.setB
  simp only [Bool.and_eq_true, Bool.not_eq_true', decide_eq_true_eq, decide_eq_false_iff_not]
  exact ⟨has_in.2 hl, h0, h5, h2⟩
 unfold Tb.set
 rw [if_pos hb]
 exact (put_noNew hl h2).2
theorem park_at : (t.park k).at j = if j = k ∧ t.has k = true then { t.at k with parked := true } else t.at j := by
 unfold Tb.park
 by_cases h : t.has k = true
 ·rw [if_pos h]
  have := at_set (t := t) (j := j) (o := { t.at k with parked := true }) (has_in.1 h) (n := t.turns)
  refine this.trans ?_
  by_cases hj : j = k
  ·rw [if_pos hj, if_pos ⟨hj, h⟩]
  ·rw [if_neg hj, if_neg fun h => hj h.1]
 ·rw [if_neg h, if_neg fun hh => h hh.2]
theorem park_noNew : noNew t (t.park k) := fun j hj => by
 rw [park_at] at hj
 split at hj
 ·rename_i h; rw [h.1]; exact hj
 ·exact hj
theorem start_noNew {win : Int} : noNew t (t.start k win) := by
 unfold Tb.start
 split
 ·rename_i h
  have hb : t.has k = true := by
   unfold Tb.startB at h
   simp only [Bool.and_eq_true] at h
   exact h.1
  exact (put_noNew (has_in.1 hb) (by decide)).1
 ·exact noNew_refl
theorem rank_noNew {p : Int} : noNew t (t.rank k p) := fun j hj => by
 unfold Tb.rank at hj
 split at hj
 ·rename_i h
  have hb : t.has k = true := by
   unfold Tb.rankB at h
   simp only [Bool.and_eq_true] at h
   exact h.1
  have e := at_set (t := t) (j := j) (o := { t.at k with prio := p }) (has_in.1 hb) (n := t.turns)
  rw [show ({ t with d := t.d.set k.toNat { t.at k with prio := p } } : Tb) = Tb.mk (t.d.set k.toNat { t.at k with prio := p }) t.turns from rfl, e] at hj
  split at hj
  ·rename_i hjk; rw [hjk]; exact hj
  ·exact hj
 ·exact hj
theorem wait_at {c wh wk : Int} (hl : inR t.d k) : (t.wait k c wh wk).at j = if j = k then t.putP { t.at k with call := c, what := wh, wake := wk } 2 else t.at j := by
 unfold Tb.wait
 rw [if_pos (has_in.2 hl)]
 exact put_at hl
theorem set_len : (t.set k st).d.length = t.d.length := by unfold Tb.set Tb.put; split <;> simp
theorem park_len : (t.park k).d.length = t.d.length := by unfold Tb.park; split <;> simp
theorem start_len {win : Int} : (t.start k win).d.length = t.d.length := by unfold Tb.start Tb.put; split <;> simp
theorem rank_len {p : Int} : (t.rank k p).d.length = t.d.length := by unfold Tb.rank; split <;> simp
theorem wait_len {c wh wk : Int} : (t.wait k c wh wk).d.length = t.d.length := by unfold Tb.wait Tb.put; split <;> simp
end
end Go.Proofs.YtacmaamllpiloaaGreat
namespace Go.Proofs.YtacmaamllpiloaaGreat
open Go Go.Wk
set_option maxHeartbeats 3200000
set_option maxRecDepth 100000
section
variable {b : Nat} {C : CC} {c : CM} {w : CW} {gs : List TaskG} {k : Int} {t : Tb}
theorem rel_len (h : Rel C c w gs) : gs.length = C.progs.length := by rw [← h.hp, List.length_map]
theorem rel_in (h : Rel C c w gs) (hk : inR C.progs k) : inR gs k := by unfold inR at *; rw [rel_len h]; exact hk
theorem okM_tb (h : okM C c) (hl : t.d.length = c.tb.d.length) : okM C { c with tb := t } := ⟨hl.trans h.tb, h.pos, h.rest, h.addr, h.data, h.done, h.pi, h.ad, h.dl⟩
theorem rel_tb (h : Rel C c w gs) (hl : t.d.length = c.tb.d.length) (hn : noNew c.tb t) : Rel C { c with tb := t } w gs :=
 ⟨okM_tb h.ok hl, h.hp, h.hi, h.hr, h.ha, h.hd, fun k hk hw => h.hw k hk (hn k hw), h.hs⟩
theorem map_setE {β : Type} {f : TaskG → β} {x : TaskG} (hk : inR gs k) (hf : f x = f (ix gs k)) : (gs.set k.toNat x).map f = gs.map f := pt_set hk.1 hk.2 hf
theorem ix_setR {α : Type} [Inhabited α] {xs : List α} {k j : Int} {x : α} (hk : inR xs k) (hj : 0 ≤ j) : ix (xs.set k.toNat x) j = if j = k then x else ix xs j := by
 obtain ⟨h0, h1⟩ := hk
 unfold ix
 simp only [List.getD_eq_getElem?_getD, List.getElem?_set]
 by_cases h : j = k
 ·subst h
  rw [if_pos rfl, if_pos rfl, if_pos (by omega)]; rfl
 ·rw [if_neg h, if_neg (by omega)]
theorem rel_nil {s : SV} {d : List UInt8} (h : Rel C c w gs) (hk : inR gs k) (hn : ¬ waitD (c.tb.at k)) : Rel C c w (gs.set k.toNat { ix gs k with ds := s, dd := d }) :=
 ⟨h.ok, (map_setE (f := TaskG.prog) hk (by rfl)).trans h.hp, (map_setE (f := TaskG.pos) hk (by rfl)).trans h.hi, (map_setE (f := TaskG.rest) hk (by rfl)).trans h.hr, (map_setE (f := TaskG.addr) hk (by rfl)).trans h.ha, (map_setE (f := TaskG.done) hk (by rfl)).trans h.hd, fun j hj hw => by
  have hj' : inR gs j := by unfold inR at *; simpa using hj
  rw [ix_setR hk hj'.1]
  by_cases e : j = k
  ·rw [e] at hw; exact absurd hw hn
  ·rw [if_neg e]; exact h.hw j hj' hw, h.hs⟩
end
attribute [local irreducible] BrK GenK EGenK EUnitK CallK FnK CallV GuardO GuardC CondW opX opK opKc chkR eqR seqK blkK endL WL WD W LoopW BinK Tr drewK resL PickK NotK NilK ExtrK getK Instr.storeAt Instr.loadAt Instr.fieldAt Instr.indexAt Instr.lookup Instr.mapUpdate Instr.box Instr.alloc Instr.build Instr.buildSlice Instr.makeSlice Instr.makeMap Instr.sliceAt Instr.field Instr.index Instr.makeInterface Instr.typeAssert Builtin.len_ Builtin.append_ Builtin.cap_ Builtin.min_ Builtin.max_ Builtin.copy_ Builtin.clear_ convert binOp mp blk rob sl sep ex fact old
attribute [local irreducible] slkO memX portX objX
section
variable {b : Nat} {C : CC} {c : CM} {w : CW} {gs : List TaskG} {k : Int}
theorem cstop_ok (hr : Rel C c w gs) (hk : inR C.progs k) : Trip Tryz.prog 144 [ptr b, .int .i64 k].toArray (cellL b C c w gs)
  fun v l' => ∃ gs2, Rel C (setTM c k 0) w gs2 ∧ v = .tuple #[] ∧ l' = cellL b C (setTM c k 0) w gs2 := by
 intro F K hK
 simp only [List.cons_append, List.nil_append] at hK ⊢
 have hkg := rel_in hr hk
 obtain ⟨h0, h1⟩ := hkg
 have hm := ix_map (f := TaskG.pt) (xs := gs) (k := k) h0 h1
 have hlm : (gs.map TaskG.pt).length = gs.length := List.length_map _
 have hpt : ∀ s, (gs.set k.toNat { ix gs k with ds := s, dd := [] }).map TaskG.pt = gs.map TaskG.pt := fun s => map_setE ⟨h0, h1⟩ rfl
 have hr2 : ∀ s, Rel C (setTM c k 0) w (gs.set k.toNat { ix gs k with ds := s, dd := [] }) := fun s => by
  refine rel_nil (rel_tb hr set_len set_noNew) ⟨h0, h1⟩ (set_not ?_ (by decide) (by decide) (by decide))
  unfold inR at *
  rw [hr.ok.tb]
  exact hk
 (refine Tr.enter (rs := []) mixed fn144 rfl (by simp +arith [Tryz.ntmps144]) fun u => ?_; simp only [cd144, Tryz.f144])
 refine Tr.famAt (xs := gs) k S.K (by omega) (by omega) (taskA_open ?_)
 have hX := And.intro @pl144.eq_def (And.intro hm @TaskG.pt.eq_def); repeat' (first | refine S.x ?_ | (refine G.call 150 ?_; refine S.c ?_ (h := set_ok _ _ _ _)) | rintro _ _ ⟨rfl, rfl⟩ | intro hb | fail)
 all_goals
  refine Tr.fin hK ⟨gs.set k.toNat { ix gs k with ds := ⟨none, 0, 0⟩, dd := [] }, hr2 _, rfl, rfl⟩ ?_
  simp only [cellL, List.cons_append, List.nil_append]
  rw [hpt]
  have hX := And.intro @taskA.eq_def (And.intro @setTM.eq_def @slP.eq_def)
  exact S.E
end
end Go.Proofs.YtacmaamllpiloaaGreat
