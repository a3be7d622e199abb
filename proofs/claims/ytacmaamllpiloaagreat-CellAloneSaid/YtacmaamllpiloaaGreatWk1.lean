import Derived.WalkKit
import Derived.OrdersIn
import Derived.RangeFuncSeq
import Derived.StillTail
namespace Go.Wk
open Go
def isEff : Op → Bool
  | .move _ | .assign _ | .pick .. | .load .. | .nilCheck _ | .binOp .. | .unOp .. | .makeInterface .. | .makeFunc .. | .slice ..
  | .fieldAddr .. | .field .. | .indexAddr .. | .index .. | .lookup .. | .extract .. | .typeAssert .. | .build .. => false
  | .convert s d _ => s == d
  | .call { callee := .builtin .len, .. } | .call { callee := .builtin .cap, .. } | .call { callee := .builtin .min, .. } | .call { callee := .builtin .max, .. } => false
  | _ => true
def isPure : Op → Bool
  | .move _ | .assign _ | .pick .. | .extract .. | .unOp .not _ _ => true
  | _ => false
structure PStep where
  i : Nat
  eff : Bool
  chk : List Nat
abbrev Line := List PStep
inductive Plan where
  | fin : Plan
  | st : PStep → Plan → Plan
  | br : Plan → Plan → Plan
section
variable (P : Program) (ops : Array Oper)
def dep (j i : Nat) : Bool := match ops[i]? with
  | some o => o.after.any fun e => Region.binds .any e && e.on == j
  | none => false
def anc (j i : Nat) : Bool := ((Region.before ops).getD i 0).testBit j
def opAt (i : Nat) (f : Oper → Bool) : Bool := match ops[i]? with
  | some o => f o
  | none => false
def pairB (p s : PStep) : Bool :=
  p.i != s.i && !anc ops s.i p.i && !dep ops s.i p.i && (p.eff ||
    !s.eff || anc ops p.i s.i || ((s.chk.contains p.i || opAt ops p.i fun o => isPure o.op) && opAt ops p.i fun o => s.chk.all fun c => match ops[c]?, o.dst with
      | some oc, some d => !(oc.looksAt ops).contains d || anc ops p.i c
      | _, _ => true))
def stepB (n : Nat) (path : Line) (s : PStep) : Bool :=
  opAt ops s.i fun o => isEff o.op == s.eff && (s.eff || o.dst.isSome) && (match o.dst with | some d => decide (d < n) | none => true) && (match o.op with | .select .. => false | .defer _ => false | _ => true) &&
    o.after.all (fun e => !Region.binds .any e || path.any (fun p => p.i == e.on))
def nextB (n : Nat) (path : Line) (s : PStep) : Bool :=
  decide (path.length < ops.size) && decide (s.i < ops.size) && path.all (fun p => pairB ops p s) && stepB ops n path s && s.chk.all fun c => path.any (fun p => p.i == c) && opAt ops c fun o => !isEff o.op
def altsB (path : Line) (l : List Nat) : Bool := (List.range ops.size).all fun i => path.any (fun p => p.i == i) || l.contains i ||
  opAt ops i fun o => o.after.any fun e => Region.binds .any e && !path.any fun p => p.i == e.on
def heads : Plan → List Nat
  | .fin => []
  | .st s _ => [s.i]
  | .br a b => heads a ++ heads b
def treeB (n : Nat) : Bool → Line → Plan → Bool
  | c, path, .fin => !c && decide (path.length = ops.size) && (List.range ops.size).all fun k => path.any fun p => p.i == k
  | c, path, .st s t => nextB ops n path s && (if s.eff then c || altsB ops path [s.i] else !c) && treeB n false (path ++ [s]) t
  | c, path, .br a b => (c || altsB ops path (heads a ++ heads b)) && treeB n true path a && treeB n true path b
def ancsB : Bool := (List.range ops.size).all fun i => (List.range ops.size).all fun y =>
  !anc ops y i || dep ops y i || (List.range ops.size).any fun d => dep ops d i && anc ops y d && decide (d < i)
def dstsB : Bool := (List.range ops.size).all fun x => (List.range ops.size).all fun y =>
  match ops[x]?, ops[y]? with
  | some ox, some oy => (match ox.dst with
    | some d => (x == y || oy.dst != some d) && (!(oy.looksAt ops).contains d || anc ops x y || anc ops y x)
    | none => true)
  | _, _ => true
def opsB : Bool := ancsB ops && dstsB ops && Region.noSelect ops && (List.range ops.size).all (fun k => !anc ops k k && !dep ops k k && opAt ops k fun o => isEff o.op || o.dst.isSome)
def planOK (n : Nat) (plan : Plan) : Bool := opsB ops && treeB ops n false [] plan
end
section
variable {P : Program} {ops : Array Oper}
theorem opAt_spec {i : Nat} {f : Oper → Bool} (h : opAt ops i f = true) : ∃ o, ops[i]? = some o ∧ f o = true := by
  unfold opAt at h
  split at h
  · rename_i o ho; exact ⟨o, ho, h⟩
  · cases h
def Okc (P : Program) (ops : Array Oper) (c : Nat) (a : Act) (w : World) : Prop :=
  ∀ oc, ops[c]? = some oc → Region.wanted oc (yielded ops a.tmps) = true → ∃ d, oc.dst = some d ∧ (execOp a.eval oc).run P w = .ok (.value (a.tmps.getD d undef)) w
def Fw (ro : Option Nat) : Fence := { fn := fun _ => True, depth := none, alive := false, round := ro }
def RoundW (P : Program) (l : Nat) (f : FuncId) (tmps : Array Value) (assign body : Code) (w : World) (R : Ending → World → Prop) : Prop := RoundIn Fence.wide 0 P l f tmps assign body w R
theorem RoundW.mono {P : Program} {l : Nat} {f : FuncId} {tmps : Array Value} {assign body : Code} {w : World} {R R' : Ending → World → Prop} (h : RoundW P l f tmps assign body w R) (hr : ∀ e w', R e w' → R' e w') : RoundW P l f tmps assign body w R' := RoundIn.mono h hr
theorem RoundW.inn {P : Program} {l : Nat} {f : FuncId} {tmps : Array Value} {assign body : Code} {w : World} {R : Ending → World → Prop} (h : RoundW P l f tmps assign body w R) (ro : Option Nat) (m : Nat) : RoundIn (Fw ro) m P l f tmps assign body w R :=
  ⟨trivial, fun c cs _ => h.2 c cs (room_wide _)⟩
theorem RoundW.of {P : Program} {l : Nat} {f : FuncId} {tmps : Array Value} {assign body : Code} {w : World} {R : Ending → World → Prop} {m : Nat} (h : RoundIn Fence.wide m P l f tmps assign body w R) : RoundW P l f tmps assign body w R :=
  ⟨trivial, fun c cs _ => h.2 c cs (room_wide _)⟩
theorem calls_in {P : Program} {f : FuncId} {args : Array Value} {w : World} {R : Ending → World → Prop} (h : Calls P f args w R) (ro : Option Nat) (m : Nat) : CallsIn (Fw ro) m P f args w R := callsIn_wide.2 h
theorem rows_in {P : Program} {row : String} {args : Array Value} {w : World} {R : Value → World → Prop} (h : Rows P row args w R) (ro : Option Nat) (m : Nat) : RowsIn (Fw ro) m P row args w R := fun c cs _ =>
  let ⟨v, w', r, s⟩ := h c cs; ⟨v, w', r, stepsIn_wide.2 s⟩
def effW (P : Program) (o : Oper) (a : Act) (next : Act → World → Prop) : Result Next → Prop
  | .ok (.value v) w' => next (a.put o.dst v) w'
  | .ok .skip w' => next (a.put o.dst undef) w'
  | .ok (.enter f args) w' => Calls P f args w' fun
      | .returned v, w'' => next (a.put o.dst v) w''
      | _, _ => False
  | .ok (.row row args) w' => Rows P row args w' fun v w'' => next (a.put o.dst v) w''
  | .ok (.round l f tmps assign body) w' => RoundW P l f tmps assign body w' fun
      | .returned v, w'' => next (a.put o.dst v) w''
      | _, _ => False
  | _ => False
def opG (P : Program) (ops : Array Oper) (s : PStep) (rem : List Nat) (K : Act → World → Prop) (a : Act) (w : World) : Prop :=
  match ops[s.i]? with
  | none => False
  | some o =>
    if Region.wanted o (yielded ops a.tmps) then
      if s.eff then effW P o a (fun a' w' => (∀ c ∈ s.chk, c ∉ rem → Okc P ops c a' w') ∧ K a' w') ((execOp a.eval o).run P w)
      else ∃ v, (execOp a.eval o).run P w = .ok (.value v) w ∧ K (a.put o.dst v) w
    else K (a.put o.dst undef) w
def GW (P : Program) (ops : Array Oper) (Q : Act → World → Prop) : Line → Act → World → Prop
  | [], a, w => Q a w
  | s :: r, a, w => opG P ops s (r.map (·.i)) (GW P ops Q r) a w
def GT (P : Program) (ops : Array Oper) (Q : Act → World → Prop) : Plan → Act → World → Prop
  | .fin, a, w => Q a w
  | .st s t, a, w => opG P ops s [] (GT P ops Q t) a w
  | .br x y, a, w => GT P ops Q x a w ∧ GT P ops Q y a w
theorem wp_of_effW {o : Oper} {a : Act} {w : World} {K : Act → World → Prop} {Q : Exit → Act → World → Prop} {ro : Option Nat} {m : Nat} (hd : ∀ c, o.op ≠ .defer c) (h : effW P o a K ((execOp a.eval o).run P w)) : o.wpIn (Fw ro) m P a w K Q := by
  refine ⟨fun _ _ => trivial, ?_⟩
  rw [Oper.semAt_eq _ _ _ hd]
  generalize (execOp a.eval o).run P w = r at *
  cases r with
  | ok n w' =>
    cases n <;> simp only [effW] at h <;> simp only [Oper.uponIn] <;> first
      | exact h
      | exact ⟨fun h => (by cases h), calls_in (Calls.mono h (fun e w'' he => by cases e <;> first | exact he | exact he.elim)) _ _⟩
      | exact ⟨fun h => (by cases h), rows_in h _ _⟩
      | exact ⟨fun h => (by cases h), RoundW.inn (RoundW.mono h (fun e w'' he => by cases e <;> first | exact he | exact he.elim)) _ _⟩
  | halt x w' => simp only [effW] at h
theorem wpOp_of_opG {s : PStep} {rem : List Nat} {K : Act → World → Prop} {a : Act} {w : World} {Q : Exit → Act → World → Prop} {ro : Option Nat} {m : Nat} (hd : ∀ o, ops[s.i]? = some o → ∀ c, o.op ≠ .defer c) (h : opG P ops s rem K a w) :
    wpOpIn (Fw ro) m P ops Q s.i K a w := by
  unfold opG at h
  unfold wpOpIn
  split
  · rename_i ho; simp only [ho] at h
  · rename_i o ho
    simp only [ho] at h
    split
    · rename_i hw
      simp only [hw, if_true] at h
      split at h
      · exact Oper.wpIn_mono (fun _ _ h => h.2) (wp_of_effW (hd o ho) h)
      · obtain ⟨v, hr, hk⟩ := h
        refine ⟨fun _ _ => trivial, ?_⟩
        rw [Oper.semAt_eq _ _ _ (hd o ho), hr]
        exact hk
    · rename_i hw; simp only [hw] at h; exact ⟨fun _ _ => trivial, h⟩
def Yld (P : Program) (ops : Array Oper) (o : Oper) (v : Value) (a : Act) (w : World) : Prop :=
  (Region.wanted o (yielded ops a.tmps) = true ∧ (execOp a.eval o).run P w = .ok (.value v) w) ∨ (Region.wanted o (yielded ops a.tmps) = false ∧ v = undef)
theorem run_pure_world {o : Oper} (h : isPure o.op = true) {ρ : Operand → Value} {w w' : World} {v : Value} (hr : (execOp ρ o).run P w = .ok (.value v) w) :
    (execOp ρ o).run P w' = .ok (.value v) w' := by
  obtain ⟨dst, op, type, pos, after, guard⟩ := o
  cases op <;> simp only [isPure, Bool.false_eq_true] at h <;> simp only [execOp] at hr ⊢
  case move x => simp at hr ⊢; exact hr
  case assign x => simp at hr ⊢; exact hr
  case pick c x y =>
    simp only [Sem.run_bind] at hr ⊢
    cases hc : ρ c <;> simp [asBool, hc] at hr ⊢
    exact hr
  case unOp op t x =>
    cases op <;> simp only [Bool.false_eq_true] at h
    simp only [Sem.run_bind] at hr ⊢
    cases hx : ρ x <;> simp [Op.unary, hx] at hr ⊢
    exact hr
  case extract t i =>
    simp only [Sem.run_bind] at hr ⊢
    cases hx : ρ t <;> simp [Instr.extract, hx] at hr ⊢
    rename_i vs
    cases hv : vs[i]? <;> simp [hv] at hr ⊢
    exact hr
theorem apart2 {x y : Oper} (h1 : ∀ d, x.dst = some d → d ∉ y.looksAt ops) (a : Act) (v : Value) (hs : ∀ cs b, y.op ≠ .select cs b) :
    execOp (a.put x.dst v).eval y = execOp a.eval y ∧ Region.wanted y (yielded ops (a.put x.dst v).tmps) = Region.wanted y (yielded ops a.tmps) :=
  ⟨execOp_put y hs a x.dst v h1, wanted_put y a x.dst v h1⟩
theorem getD_put_ne {a : Act} {x : Option Tmp} {v : Value} {d : Tmp} (h : x ≠ some d) : (a.put x v).tmps.getD d undef = a.tmps.getD d undef := by
  cases x with
  | none => rfl
  | some e =>
    have : e ≠ d := fun he => h (by rw [he])
    simp [Act.put, Array.getElem?_setIfInBounds_ne this]
theorem Okc_drop {c : Nat} {x : Oper} {v : Value} {a : Act} {w : World} (hs : ∀ o cs b, ops[c]? = some o → o.op ≠ .select cs b)
    (h1 : ∀ o, ops[c]? = some o → ∀ d, x.dst = some d → d ∉ o.looksAt ops ∧ o.dst ≠ some d) (h : Okc P ops c (a.put x.dst v) w) : Okc P ops c a w := by
  intro oc hc hw
  obtain ⟨e1, e2⟩ := apart2 (ops := ops) (x := x) (y := oc) (fun d hd => (h1 oc hc d hd).1) a v (fun cs b => hs oc cs b hc)
  obtain ⟨d, hd, hr⟩ := h oc hc (by rw [e2]; exact hw)
  rw [e1, getD_put_ne (fun he => (h1 oc hc d he).2 hd)] at hr
  exact ⟨d, hd, hr⟩
theorem size_put (a : Act) (x : Option Tmp) (v : Value) : (a.put x v).tmps.size = a.tmps.size := by
  cases x <;> simp [Act.put]
structure OpsFacts (ops : Array Oper) : Prop where
  ancs : ∀ i y, i < ops.size → y < ops.size → anc ops y i = true → dep ops y i = true ∨ ∃ d, d < ops.size ∧ dep ops d i = true ∧ anc ops y d = true ∧ d < i
  nosel : Region.noSelect ops = true
  self : ∀ k, k < ops.size → anc ops k k = false
  selfd : ∀ k, k < ops.size → dep ops k k = false
  rdst : ∀ (j : Nat) o, ops[j]? = some o → isEff o.op = false → o.dst.isSome = true
  dsts : ∀ x y ox oy d, ops[x]? = some ox → ops[y]? = some oy → ox.dst = some d → (x = y ∨ oy.dst ≠ some d) ∧ (d ∈ oy.looksAt ops → anc ops x y = true ∨ anc ops y x = true)
structure PlanFacts (ops : Array Oper) (n : Nat) (plan : Line) : Prop extends OpsFacts ops where
  lt : ∀ s ∈ plan, s.i < ops.size
  pairs : plan.Pairwise fun p s => pairB ops p s = true
  step : ∀ s ∈ plan, stepB ops n plan s = true
  chks : ∀ s ∈ plan, ∀ c ∈ s.chk, c ∈ plan.map (·.i)
theorem opsFacts (h : opsB ops = true) : OpsFacts ops := by
  simp only [opsB, Bool.and_eq_true, List.all_eq_true] at h
  obtain ⟨⟨⟨h6, h7⟩, h8⟩, h9⟩ := h
  simp only [List.mem_range, Bool.not_eq_true'] at h9
  refine ⟨fun i y hi hy ha => ?_, h8, fun k hk => (h9 k hk).1.1, fun k hk => (h9 k hk).1.2, fun j o hj he => ?_, fun x y ox oy d hx hy hd => ?_⟩
  · simp only [ancsB, List.all_eq_true, List.mem_range, Bool.or_eq_true, List.any_eq_true, Bool.and_eq_true, Bool.not_eq_true'] at h6
    simp only [decide_eq_true_eq] at h6
    rcases h6 i hi y hy with (h | h) | ⟨d, hd, ⟨h, h'⟩, h''⟩
    · rw [h] at ha; cases ha
    · exact .inl h
    · exact .inr ⟨d, hd, h, h', h''⟩
  · obtain ⟨o', ho', h⟩ := opAt_spec (h9 j (Array.getElem?_eq_some_iff.1 hj).1).2
    obtain rfl : o = o' := Option.some.inj (hj.symm.trans ho')
    simpa [he] using h
  · have hxl : x < ops.size := (Array.getElem?_eq_some_iff.1 hx).1
    have hyl : y < ops.size := (Array.getElem?_eq_some_iff.1 hy).1
    simp only [dstsB, List.all_eq_true, List.mem_range] at h7
    have := h7 x hxl y hyl
    simp only [hx, hy, hd, Bool.and_eq_true, Bool.or_eq_true, beq_iff_eq, bne_iff_ne, Bool.not_eq_true', ne_eq] at this
    refine ⟨this.1, fun hm => ?_⟩
    rcases this.2 with (h | h) | h
    · simp at h; exact absurd hm h
    · exact .inl h
    · exact .inr h
theorem stepB_mono {n : Nat} {path path' : Line} {s : PStep} (h : ∀ p ∈ path, p ∈ path') (hs : stepB ops n path s = true) : stepB ops n path' s = true := by
  obtain ⟨o, ho, h1⟩ := opAt_spec hs
  unfold stepB opAt
  rw [ho]
  simp only [Bool.and_eq_true] at h1 ⊢
  refine ⟨h1.1, ?_⟩
  rw [Array.all_eq_true'] at *
  intro e he
  have := h1.2 e he
  simp only [Bool.or_eq_true, List.any_eq_true] at this ⊢
  rcases this with h2 | ⟨p, hp, h2⟩
  · exact .inl h2
  · exact .inr ⟨p, h p hp, h2⟩
theorem PlanFacts.nil {n : Nat} (O : OpsFacts ops) : PlanFacts ops n [] := { O with lt := by simp, pairs := .nil, step := by simp, chks := by simp }
theorem PlanFacts.snoc {n : Nat} {path : Line} {s : PStep} (F : PlanFacts ops n path) (h : nextB ops n path s = true) : PlanFacts ops n (path ++ [s]) := by
  simp only [nextB, Bool.and_eq_true, decide_eq_true_eq, List.all_eq_true] at h
  obtain ⟨⟨⟨⟨_, h1⟩, h2⟩, h3⟩, h4⟩ := h
  refine { F.toOpsFacts with lt := fun x hx => ?_, pairs := ?_, step := fun x hx => ?_, chks := fun x hx c hc => ?_ }
  · rcases List.mem_append.1 hx with hx | hx
    · exact F.lt x hx
    · simp only [List.mem_singleton] at hx; subst hx; exact h1
  · rw [List.pairwise_append]
    exact ⟨F.pairs, List.pairwise_singleton _ _, fun p hp q hq => by simp only [List.mem_singleton] at hq; subst hq; exact h2 p hp⟩
  · rcases List.mem_append.1 hx with hx | hx
    · exact stepB_mono (fun p hp => List.mem_append.2 (.inl hp)) (F.step x hx)
    · simp only [List.mem_singleton] at hx; subst hx
      exact stepB_mono (fun p hp => List.mem_append.2 (.inl hp)) h3
  · rw [List.map_append, List.mem_append]
    left
    rcases List.mem_append.1 hx with hx | hx
    · exact F.chks x hx c hc
    · simp only [List.mem_singleton] at hx; subst hx
      obtain ⟨p, hp, he⟩ := List.any_eq_true.1 (h4 c hc).1
      exact List.mem_map.2 ⟨p, hp, by simpa using he⟩
theorem noSel {n : Nat} {plan : Line} (F : PlanFacts ops n plan) {s : PStep} (hs : s ∈ plan) {o : Oper} (ho : ops[s.i]? = some o) : (∀ cs b, o.op ≠ .select cs b) ∧ (∀ c, o.op ≠ .defer c) ∧ (s.eff = false → o.dst.isSome = true) ∧
    isEff o.op = s.eff ∧ (∀ d, o.dst = some d → d < n) := by
  obtain ⟨o', ho', h⟩ := opAt_spec (F.step s hs)
  obtain rfl : o = o' := Option.some.inj (ho.symm.trans ho')
  simp only [Bool.and_eq_true, beq_iff_eq, Bool.or_eq_true] at h
  obtain ⟨⟨⟨⟨h1, h2⟩, h4⟩, h3⟩, _⟩ := h
  refine ⟨fun cs b e => ?_, fun c e => ?_, fun e => ?_, h1, fun d hd => ?_⟩
  · rw [e] at h3; simp at h3
  · rw [e] at h3; simp at h3
  · rcases h2 with h2 | h2
    · rw [e] at h2; cases h2
    · exact h2
  · rw [hd] at h4; simpa using h4
theorem opG_put {n : Nat} {plan : Line} (F : PlanFacts ops n plan) {p j : PStep} (hp : p ∈ plan) (hj : j ∈ plan) (hpj : pairB ops p j = true) (hna : anc ops p.i j.i = false)
    {op : Oper} (hop : ops[p.i]? = some op) (hpe : p.eff = false) {rem : List Nat} (hprem : p.i ∉ rem) (hcl : ∀ c ∈ j.chk, c < ops.size → c ≠ p.i → c ∉ rem → anc ops p.i c = false)
    {v : Value} {a : Act} {w : World} {K : Act → World → Prop} (hsz : a.tmps.size = n) (hy : Yld P ops op v a w) (h : opG P ops j rem K (a.put op.dst v) w) :
    opG P ops j (p.i :: rem) (fun a' w' => Yld P ops op v a' w' ∧ K (a'.put op.dst v) w') a w := by
  unfold opG at h ⊢
  split at h
  · exact h.elim
  rename_i oj hoj
  have hpl : p.i < ops.size := F.lt p hp
  have hjl : j.i < ops.size := F.lt j hj
  obtain ⟨hselj, hdefj, hdstj, heffj, _⟩ := noSel F hj hoj
  obtain ⟨hselp, hdefp, hdstp, heffp, hlp⟩ := noSel F hp hop
  have hpj' := hpj
  simp only [pairB, Bool.and_eq_true, bne_iff_ne, ne_eq, Bool.not_eq_true', hpe, Bool.false_or, hna, Bool.or_false, Bool.or_eq_true, Bool.and_eq_true] at hpj'
  obtain ⟨⟨⟨hne, hnajp⟩, _⟩, hpj3⟩ := hpj'
  have h1 : ∀ d, op.dst = some d → d ∉ oj.looksAt ops := fun d hd hm => by
    have := (F.dsts p.i j.i op oj d hop hoj hd).2 hm
    rw [hna, hnajp] at this; simp at this
  have h2 : ∀ d, op.dst = some d → oj.dst ≠ some d := fun d hd => (F.dsts p.i j.i op oj d hop hoj hd).1.resolve_left hne
  have h3 : ∀ d, oj.dst = some d → d ∉ op.looksAt ops := fun d hd hm => by
    have := (F.dsts j.i p.i oj op d hoj hop hd).2 hm
    rw [hnajp, hna] at this; simp at this
  obtain ⟨e1, e2⟩ := apart2 (ops := ops) (x := op) (y := oj) h1 a v hselj
  rw [e2] at h
  have keep : ∀ u, Region.wanted op (yielded ops (a.put oj.dst u).tmps) = Region.wanted op (yielded ops a.tmps) ∧ execOp (a.put oj.dst u).eval op = execOp a.eval op := fun u =>
    ⟨(apart2 (ops := ops) (x := oj) (y := op) h3 a u hselp).2, (apart2 (ops := ops) (x := oj) (y := op) h3 a u hselp).1⟩
  have keepy : ∀ u, Yld P ops op v (a.put oj.dst u) w := fun u => by
    unfold Yld at *
    rw [(keep u).1, (keep u).2]; exact hy
  split
  · rename_i hw
    simp only [hw, if_true] at h
    split
    · rename_i hje
      simp only [hje, if_true] at h
      have after : ∀ u w', (∀ c ∈ j.chk, c ∉ rem → Okc P ops c ((a.put op.dst v).put oj.dst u) w') → K ((a.put op.dst v).put oj.dst u) w' →
          (∀ c ∈ j.chk, c ∉ p.i :: rem → Okc P ops c (a.put oj.dst u) w') ∧ Yld P ops op v (a.put oj.dst u) w' ∧ K ((a.put oj.dst u).put op.dst v) w' := by
        intro u w' hc hk
        rw [Act.put_comm a v u h2] at hc hk
        refine ⟨fun c hmc hn => ?_, ?_, hk⟩
        · simp only [List.mem_cons, not_or] at hn
          have hcc := hc c hmc hn.2
          rcases Nat.lt_or_ge c ops.size with hlt | hge
          · refine Okc_drop (x := op) (v := v) (fun o cs b ho => ?_) (fun o ho d hd => ⟨fun hm => ?_, ?_⟩) hcc
            · exact Region.noSelect_spec F.nosel c o cs b ho
            · rcases hpj3 with h | h
              · rw [hje] at h; cases h
              · obtain ⟨o', ho', hall⟩ := opAt_spec h.2
                obtain rfl : op = o' := Option.some.inj (hop.symm.trans ho')
                have := List.all_eq_true.1 hall c hmc
                simp only [ho, hd, Bool.or_eq_true, Bool.not_eq_true'] at this
                rcases this with h | h
                · simp at h; exact h hm
                · rw [hcl c hmc hlt hn.1 hn.2] at h; cases h
            · exact (F.dsts p.i c op o d hop ho hd).1.resolve_left (fun e => hn.1 e.symm)
          · intro oc hoc
            rw [Array.getElem?_eq_none hge] at hoc; cases hoc
        · rcases hy with ⟨hwp, hrp⟩ | ⟨hwp, rfl⟩
          · left
            rw [(keep u).1, (keep u).2]
            refine ⟨hwp, ?_⟩
            rcases hpj3 with h | ⟨h, _⟩
            · rw [hje] at h; cases h
            · rcases h with h | h
              rotate_left
              · obtain ⟨o', ho', hpure⟩ := opAt_spec h
                obtain rfl : op = o' := Option.some.inj (hop.symm.trans ho')
                exact run_pure_world hpure hrp
              · have hm : p.i ∈ j.chk := by simpa using h
                have h4 : ∀ d, op.dst = some d → d ∉ op.looksAt ops := fun d hd hm => by
                  have := (F.dsts p.i p.i op op d hop hop hd).2 hm
                  rw [F.self p.i hpl] at this; simp at this
                obtain ⟨e5, e6⟩ := apart2 (ops := ops) (x := op) (y := op) h4 (a.put oj.dst u) v hselp
                obtain ⟨d, hd, hr⟩ := hc p.i hm hprem op hop (by rw [e6, (keep u).1]; exact hwp)
                rw [e5, (keep u).2] at hr
                have hv : ((a.put oj.dst u).put op.dst v).tmps.getD d undef = v := by
                  have hdl := hlp d hd
                  have hs2 : (a.put oj.dst u).tmps.size = n := by rw [size_put]; exact hsz
                  generalize a.put oj.dst u = b at hs2
                  simp only [Act.put, hd]
                  simp [hs2, hdl]
                rw [hv] at hr
                exact hr
          · right
            rw [(keep u).1]
            exact ⟨hwp, rfl⟩
      rw [e1] at h
      generalize hres : (execOp a.eval oj).run P w = r at h ⊢
      cases r with
      | ok nx w' =>
        cases nx with
        | value u => simp only [effW] at h ⊢; exact after u w' h.1 h.2
        | skip => simp only [effW] at h ⊢; exact after undef w' h.1 h.2
        | enter f args =>
          simp only [effW] at h ⊢
          exact Calls.mono h fun e w'' he => by
            cases e with
            | returned u => exact after u w'' he.1 he.2
            | panicked ch => exact he
            | outgrown => exact he
        | row row args => simp only [effW] at h ⊢; exact Rows.mono h fun u w'' he => after u w'' he.1 he.2
        | round l f tmps assign body =>
          simp only [effW] at h ⊢
          exact RoundW.mono h fun e w'' he => by
            cases e with
            | returned u => exact after u w'' he.1 he.2
            | panicked ch => exact he
            | outgrown => exact he
        | _ => simp only [effW] at h
      | halt x w' => simp only [effW] at h
    · rename_i hje
      simp only [hje] at h
      obtain ⟨u, hr, hk⟩ := h
      rw [e1] at hr
      exact ⟨u, hr, keepy u, by rw [← Act.put_comm a v u h2]; exact hk⟩
  · rename_i hw
    simp only [hw] at h
    exact ⟨keepy _, by rw [← Act.put_comm a v undef h2]; exact h⟩
theorem opG_mono {s : PStep} {rem : List Nat} {K K' : Act → World → Prop} {a : Act} {w : World} (hk : ∀ a' w', a'.tmps.size = a.tmps.size → K a' w' → K' a' w') (h : opG P ops s rem K a w) : opG P ops s rem K' a w := by
  unfold opG at h ⊢
  split at h
  · exact h.elim
  rename_i o ho
  have hs : ∀ v, (a.put o.dst v).tmps.size = a.tmps.size := fun v => size_put a o.dst v
  split
  · rename_i hw
    simp only [hw, if_true] at h
    split
    · rename_i he
      simp only [he, if_true] at h
      generalize (execOp a.eval o).run P w = r at h ⊢
      cases r with
      | ok nx w' =>
        cases nx with
        | value u => simp only [effW] at h ⊢; exact ⟨h.1, hk _ _ (hs _) h.2⟩
        | skip => simp only [effW] at h ⊢; exact ⟨h.1, hk _ _ (hs _) h.2⟩
        | enter f args =>
          simp only [effW] at h ⊢
          exact Calls.mono h fun e w'' he => by
            cases e with
            | returned u => exact ⟨he.1, hk _ _ (hs _) he.2⟩
            | panicked ch => exact he
            | outgrown => exact he
        | row row args => simp only [effW] at h ⊢; exact Rows.mono h fun u w'' he => ⟨he.1, hk _ _ (hs _) he.2⟩
        | round l f tmps assign body =>
          simp only [effW] at h ⊢
          exact RoundW.mono h fun e w'' he => by
            cases e with
            | returned u => exact ⟨he.1, hk _ _ (hs _) he.2⟩
            | panicked ch => exact he
            | outgrown => exact he
        | _ => simp only [effW] at h
      | halt x w' => simp only [effW] at h
    · rename_i he
      simp only [he] at h
      obtain ⟨v, hr, h'⟩ := h
      exact ⟨v, hr, hk _ _ (hs _) h'⟩
  · rename_i hw
    simp only [hw] at h
    exact hk _ _ (hs _) h
theorem bring {n : Nat} {plan : Line} (F : PlanFacts ops n plan) {Q : Act → World → Prop} (j : PStep) (post : Line) : ∀ (pre : Line) (a : Act) (w : World),
    (pre ++ j :: post).Sublist plan → (∀ p ∈ pre, p.eff = false) → (∀ p ∈ pre, anc ops p.i j.i = false) → (∀ x ∈ pre ++ j :: post, ∀ c ∈ j.chk, c < ops.size → c ∉ (pre ++ j :: post).map (·.i) → anc ops x.i c = false) → a.tmps.size = n →
    GW P ops Q (pre ++ j :: post) a w → opG P ops j ((pre ++ post).map (·.i)) (GW P ops Q (pre ++ post)) a w
  | [], a, w, _, _, _, _, _, h => h
  | p :: pre, a, w, hsub, hre, hna, hcl, hsz, h => by
    have hp : p ∈ plan := hsub.subset (by simp)
    have hj : j ∈ plan := hsub.subset (by simp)
    have hpw := F.pairs.sublist hsub
    have hpj : pairB ops p j = true := by
      simp only [List.cons_append, List.pairwise_cons] at hpw
      exact hpw.1 j (by simp)
    have hnapj := hna p (by simp)
    have hpe : p.eff = false := hre p (by simp)
    have hsub' : (pre ++ j :: post).Sublist plan := (List.sublist_cons_self p _).trans hsub
    have hpnot : p.i ∉ (pre ++ j :: post).map (·.i) := by
      intro hm
      obtain ⟨s, hs, he⟩ := List.mem_map.1 hm
      simp only [List.cons_append, List.pairwise_cons] at hpw
      have := hpw.1 s hs
      simp only [pairB, Bool.and_eq_true, bne_iff_ne, ne_eq] at this
      exact this.1.1.1 he.symm
    have hcl' : ∀ x ∈ pre ++ j :: post, ∀ c ∈ j.chk, c < ops.size → c ∉ (pre ++ j :: post).map (·.i) → anc ops x.i c = false := by
      intro x hx c hck hc hn
      by_cases hcp : c = p.i
      · subst hcp
        simp only [List.cons_append, List.pairwise_cons] at hpw
        have := hpw.1 x hx
        simp only [pairB, Bool.and_eq_true, Bool.not_eq_true'] at this
        exact this.1.1.2
      · exact hcl x (by simp at hx ⊢; right; exact hx) c hck hc (by simp only [List.cons_append, List.map_cons, List.mem_cons, not_or]; exact ⟨hcp, hn⟩)
    have hprem : p.i ∉ (pre ++ post).map (·.i) := fun hm => hpnot (by
      simp only [List.map_append, List.mem_append, List.map_cons, List.mem_cons] at hm ⊢
      rcases hm with h | h
      · exact .inl h
      · exact .inr (.inr h))
    have hclp : ∀ c ∈ j.chk, c < ops.size → c ≠ p.i → c ∉ (pre ++ post).map (·.i) → anc ops p.i c = false := by
      intro c hck hc hcp hn
      by_cases hcj : c = j.i
      · subst hcj; exact hnapj
      · refine hcl p (by simp) c hck hc ?_
        simp only [List.cons_append, List.map_cons, List.map_append, List.mem_cons, List.mem_append, not_or] at hn ⊢
        exact ⟨hcp, hn.1, hcj, hn.2⟩
    simp only [List.cons_append, GW] at h
    unfold opG at h
    split at h
    · exact h.elim
    rename_i op hop
    have hput : ∀ v, (a.put op.dst v).tmps.size = n := fun v => by rw [size_put]; exact hsz
    have main : ∀ v, Yld P ops op v a w → GW P ops Q (pre ++ j :: post) (a.put op.dst v) w → opG P ops j ((p :: pre ++ post).map (·.i)) (GW P ops Q (p :: pre ++ post)) a w := by
      intro v hy hg
      have ih := bring F j post pre (a.put op.dst v) w hsub' (fun q hq => hre q (by simp [hq])) (fun q hq => hna q (by simp [hq])) hcl' (hput v) hg
      have := opG_put F hp hj hpj hnapj hop hpe hprem hclp hsz hy ih
      refine opG_mono (fun a' w' _ h => ?_) this
      obtain ⟨hy', hk⟩ := h
      simp only [List.cons_append, GW]
      unfold opG
      simp only [hop]
      rcases hy' with ⟨h1, h2⟩ | ⟨h1, rfl⟩
      · simp only [h1, if_true, hpe, Bool.false_eq_true, if_false]
        exact ⟨v, h2, hk⟩
      · simp only [h1, Bool.false_eq_true, if_false]
        exact hk
    split at h
    · rename_i hw
      simp only [hpe, Bool.false_eq_true, if_false] at h
      obtain ⟨v, hr, hg⟩ := h
      exact main v (.inl ⟨hw, hr⟩) hg
    · rename_i hw
      exact main undef (.inr ⟨by simpa using hw, rfl⟩) h
theorem opG_rem {s : PStep} (hs : s.eff = false) (rem rem' : List Nat) (K : Act → World → Prop) : opG P ops s rem K = opG P ops s rem' K := by
  funext a w
  unfold opG
  simp only [hs, Bool.false_eq_true, if_false]
theorem GW_mono {K K' : Act → World → Prop} (hk : ∀ a w, K a w → K' a w) : ∀ (r : Line) (a : Act) (w : World), GW P ops K r a w → GW P ops K' r a w
  | [], a, w, h => hk a w h
  | s :: r, a, w, h => opG_mono (fun a' w' _ h' => GW_mono hk r a' w' h') h
theorem GW_snoc {K : Act → World → Prop} {s : PStep} : ∀ (r : Line), (∀ p ∈ r, p.eff = false) → GW P ops K (r ++ [s]) = GW P ops (opG P ops s [] K) r
  | [], _ => rfl
  | p :: r, h => by
    have ih := GW_snoc (K := K) (s := s) r (fun q hq => h q (by simp [hq]))
    funext a w
    simp only [List.cons_append, GW, ih]
    rw [opG_rem (h p (by simp))]
theorem treeFront {n : Nat} : ∀ (t : Plan) (path : Line), treeB ops n false path t = true → PlanFacts ops n path → path.length ≤ ops.size → ∃ rs t', (∀ r ∈ rs, PStep.eff r = false) ∧ PlanFacts ops n (path ++ rs) ∧ (path ++ rs).length ≤ ops.size ∧
    (t' = .fin ∧ (path ++ rs).length = ops.size ∧ (∀ k, k < ops.size → k ∈ (path ++ rs).map (·.i)) ∨ altsB ops (path ++ rs) (heads t') = true ∧ treeB ops n true (path ++ rs) t' = true) ∧
    ∀ (Q : Act → World → Prop) (pre : Line), (∀ p ∈ pre, PStep.eff p = false) → GW P ops (GT P ops Q t) pre = GW P ops (GT P ops Q t') (pre ++ rs)
  | .fin, path, h, F, hl => by
    refine ⟨[], .fin, by simp, by simpa using F, by simpa using hl, .inl ⟨rfl, ?_⟩, fun Q pre _ => by simp⟩
    simp only [treeB, Bool.and_eq_true, decide_eq_true_eq, List.all_eq_true, List.mem_range, List.any_eq_true, beq_iff_eq] at h
    rw [List.append_nil]
    exact ⟨h.1.2, fun k hk => by obtain ⟨p, hp, he⟩ := h.2 k hk; exact List.mem_map.2 ⟨p, hp, he⟩⟩
  | .br a b, path, h, F, hl => by
    refine ⟨[], .br a b, by simp, by simpa using F, by simpa using hl, .inr ?_, fun Q pre _ => by simp⟩
    simp only [treeB, Bool.false_or, Bool.and_eq_true, List.append_nil, Bool.true_or, heads] at h ⊢
    exact ⟨h.1.1, ⟨trivial, h.1.2⟩, h.2⟩
  | .st s t, path, h, F, hl => by
    cases he : s.eff with
    | true =>
      refine ⟨[], .st s t, by simp, by simpa using F, by simpa using hl, .inr ?_, fun Q pre _ => by simp⟩
      simp only [treeB, he, if_true, Bool.false_or, Bool.and_eq_true, List.append_nil, Bool.true_or, heads] at h ⊢
      exact ⟨h.1.2, ⟨h.1.1, trivial⟩, h.2⟩
    | false =>
      simp only [treeB, he, Bool.false_eq_true, if_false, Bool.not_false, Bool.and_eq_true, and_true] at h
      have hlt : path.length < ops.size := by
        have := h.1
        simp only [nextB, Bool.and_eq_true, decide_eq_true_eq] at this
        exact this.1.1.1.1
      obtain ⟨rs, t', h1, h2, h3, h4, h5⟩ := treeFront t (path ++ [s]) h.2 (F.snoc h.1) (by simp; omega)
      rw [List.append_assoc, List.singleton_append] at h2 h3 h4
      refine ⟨s :: rs, t', fun r hr => ?_, h2, h3, h4, fun Q pre hpre => ?_⟩
      · rcases List.mem_cons.1 hr with rfl | hr
        · exact he
        · exact h1 r hr
      · have := h5 Q (pre ++ [s]) (fun p hp => by
          rcases List.mem_append.1 hp with hp | hp
          · exact hpre p hp
          · simp only [List.mem_singleton] at hp; subst hp; exact he)
        rw [List.append_assoc, List.singleton_append] at this
        rw [← this, GW_snoc pre hpre]
        rfl
theorem heads_some {n : Nat} {path : Line} : ∀ {t : Plan}, treeB ops n true path t = true → ∃ j, j ∈ heads t
  | .fin, h => by simp [treeB] at h
  | .st s t, _ => ⟨s.i, by simp [heads]⟩
  | .br a b, h => by
    simp only [treeB, Bool.true_or, Bool.true_and, Bool.and_eq_true] at h
    obtain ⟨j, hj⟩ := heads_some h.1
    exact ⟨j, by simp [heads, hj]⟩
theorem pickh {n : Nat} {path : Line} {j : Nat} : ∀ {t : Plan}, treeB ops n true path t = true → j ∈ heads t → ∃ s t', s.i = j ∧ nextB ops n path s = true ∧ treeB ops n false (path ++ [s]) t' = true ∧
    ∀ (Q : Act → World → Prop) (a : Act) (w : World), GT P ops Q t a w → opG P ops s [] (GT P ops Q t') a w
  | .fin, h, _ => by simp [treeB] at h
  | .st s t, h, hj => by
    simp only [heads, List.mem_singleton] at hj
    simp only [treeB, Bool.true_or, Bool.and_eq_true] at h
    exact ⟨s, t, hj.symm, h.1.1, h.2, fun Q a w h => h⟩
  | .br x y, h, hj => by
    simp only [treeB, Bool.true_or, Bool.true_and, Bool.and_eq_true] at h
    simp only [heads, List.mem_append] at hj
    rcases hj with hj | hj
    · obtain ⟨s, t', h1, h2, h3, h4⟩ := pickh h.1 hj
      exact ⟨s, t', h1, h2, h3, fun Q a w h => h4 Q a w h.1⟩
    · obtain ⟨s, t', h1, h2, h3, h4⟩ := pickh h.2 hj
      exact ⟨s, t', h1, h2, h3, fun Q a w h => h4 Q a w h.2⟩
theorem PlanFacts.apart {n : Nat} {path : Line} (F : PlanFacts ops n path) : path.Pairwise fun p q => p.i ≠ q.i := F.pairs.imp fun h => by
  simp only [pairB, Bool.and_eq_true, bne_iff_ne, ne_eq] at h; exact h.1.1.1
theorem PlanFacts.depS {n : Nat} {path : Line} (F : PlanFacts ops n path) {s : PStep} (hs : s ∈ path) {o : Oper} (ho : ops[s.i]? = some o) {e : Edge} (he : e ∈ o.after) (hb : Region.binds .any e = true) : e.on ∈ path.map (·.i) := by
  obtain ⟨o', ho', hst⟩ := opAt_spec (F.step s hs)
  obtain rfl : o = o' := Option.some.inj (ho.symm.trans ho')
  simp only [Bool.and_eq_true] at hst
  have hon := hst.2
  rw [Array.all_eq_true'] at hon
  have := hon e he
  simp only [hb, Bool.not_true, Bool.false_or, List.any_eq_true, beq_iff_eq] at this
  obtain ⟨t, ht, hte⟩ := this
  exact List.mem_map.2 ⟨t, ht, hte⟩
structure St (ops : Array Oper) (n : Nat) (path pre : Line) (listed : Array Bool) : Prop where
  F : PlanFacts ops n path
  len : path.length ≤ ops.size
  sub : pre.Sublist path
  rd : ∀ p ∈ pre, p.eff = false
  ls : listed.size = ops.size
  inn : ∀ x, x < ops.size → (listed.getD x true = false ↔ x ∈ pre.map (·.i) ∨ x ∉ path.map (·.i))
  down : ∀ x, x < ops.size → x ∈ path.map (·.i) → x ∉ pre.map (·.i) → ∀ y, dep ops y x = true → y ∈ path.map (·.i) ∧ y ∉ pre.map (·.i)
theorem not_both {path rs : Line} (h : (path ++ rs).Pairwise fun p q => p.i ≠ q.i) {x : Nat} (h1 : x ∈ path.map (·.i)) (h2 : x ∈ rs.map (·.i)) : False := by
  obtain ⟨p, hp, rfl⟩ := List.mem_map.1 h1
  obtain ⟨q, hq, he⟩ := List.mem_map.1 h2
  exact (List.pairwise_append.1 h).2.2 p hp q hq he.symm
theorem St.shift {n : Nat} {path pre rs : Line} {listed : Array Bool} (S : St ops n path pre listed) (hr : ∀ r ∈ rs, r.eff = false) (F : PlanFacts ops n (path ++ rs)) (hl : (path ++ rs).length ≤ ops.size) : St ops n (path ++ rs) (pre ++ rs) listed := by
  refine ⟨F, hl, S.sub.append (List.Sublist.refl rs), fun p hp => (List.mem_append.1 hp).elim (S.rd p) (hr p), S.ls, fun x hx => ?_, fun x hx h1 h2 y hy => ?_⟩
  · rw [S.inn x hx]
    simp only [List.map_append, List.mem_append, not_or]
    constructor
    · rintro (h | h)
      · exact .inl (.inl h)
      · by_cases hm : x ∈ rs.map (·.i)
        · exact .inl (.inr hm)
        · exact .inr ⟨h, hm⟩
    · rintro ((h | h) | h)
      · exact .inl h
      · exact .inr fun h' => not_both F.apart h' h
      · exact .inr h.1
  · simp only [List.map_append, List.mem_append, not_or] at h1 h2 ⊢
    have := S.down x hx (h1.resolve_right h2.2) h2.1 y hy
    exact ⟨.inl this.1, this.2, fun h => not_both F.apart this.1 h⟩
theorem gt_sound {n : Nat} {ro : Option Nat} {m : Nat} {Q : Act → World → Prop} {Q' : Exit → Act → World → Prop} (hQ : ∀ a w, a.tmps.size = n → Q a w → Q' .normal a w) :
    ∀ (k : Nat) (t : Plan) (path pre : Line) (listed : Array Bool) (a : Act) (w : World), treeB ops n false path t = true → St ops n path pre listed → pre.length + (ops.size - path.length) = k → a.tmps.size = n →
      GW P ops (GT P ops Q t) pre a w → wpAnyIn (Fw ro) m P .any ops Q' k listed a w := by
  intro k
  induction k with
  | zero =>
    intro t path pre listed a w ht S hk hsz h
    obtain ⟨rs, t', h1, h2, h3, h4, h5⟩ := treeFront (P := P) t path ht S.F S.len
    rw [h5 Q pre S.rd] at h
    have S' := S.shift h1 h2 h3
    have hk' : (pre ++ rs).length + (ops.size - (path ++ rs).length) = 0 := by
      rw [List.length_append] at h3 ⊢
      rw [List.length_append]
      omega
    have hp : pre ++ rs = [] := List.eq_nil_of_length_eq_zero (by omega)
    rcases h4 with ⟨rfl, h6, h7⟩ | ⟨_, h7⟩
    · rw [hp] at h S'
      refine ⟨?_, hQ _ _ hsz h⟩
      rw [List.eq_nil_iff_forall_not_mem]
      intro j hj
      obtain ⟨hjun, oj, hoj, _⟩ := mem_ready.1 hj
      have hjl : j < ops.size := (Array.getElem?_eq_some_iff.1 hoj).1
      have := (S'.inn j hjl).1 hjun
      simp only [List.map_nil, List.not_mem_nil, false_or] at this
      exact this (h7 j hjl)
    · obtain ⟨j, hj⟩ := heads_some h7
      obtain ⟨s, _, _, h8, _, _⟩ := pickh (P := P) h7 hj
      simp only [nextB, Bool.and_eq_true, decide_eq_true_eq] at h8
      have := h8.1.1.1.1
      omega
  | succ k ih =>
    intro t0 path0 pre0 listed a w ht0 S0 hk0 hsz h0
    obtain ⟨rs, t, h1, h2, h3, h4, h5⟩ := treeFront (P := P) t0 path0 ht0 S0.F S0.len
    rw [h5 Q pre0 S0.rd] at h0
    have S := S0.shift h1 h2 h3
    have hk : (pre0 ++ rs).length + (ops.size - (path0 ++ rs).length) = k + 1 := by
      rw [List.length_append] at h3 ⊢
      rw [List.length_append]
      omega
    clear h5 ht0 hk0 S0 h1
    generalize pre0 ++ rs = pre at *
    generalize path0 ++ rs = path at *
    have ready_of : ∀ (s : PStep) (o : Oper), ops[s.i]? = some o → s.i < ops.size → (s.i ∈ pre.map (·.i) ∨ s.i ∉ path.map (·.i)) → (∀ e ∈ o.after, Region.binds .any e = true → e.on ∈ path.map (·.i) ∧ e.on ∉ pre.map (·.i)) → s.i ∈ Region.ready .any ops listed := by
      intro s o ho hsl hu hd
      refine mem_ready.2 ⟨(S.inn s.i hsl).2 hu, o, ho, fun e he hb => ?_⟩
      obtain ⟨hm, hn⟩ := hd e he hb
      have hel : e.on < ops.size := by
        obtain ⟨p, hp, he'⟩ := List.mem_map.1 hm
        exact he' ▸ S.F.lt p hp
      have h3 : listed.getD e.on true = true := by
        cases hh : listed.getD e.on true with
        | true => rfl
        | false => exact absurd hm (((S.inn e.on hel).1 hh).resolve_left hn)
      have hel' : e.on < listed.size := by rw [S.ls]; exact hel
      simp [hel'] at h3 ⊢
      exact h3
    refine ⟨fun hno => ?_, fun j hj => ?_⟩
    · exfalso
      cases pre with
      | cons s r =>
        have hs : s ∈ path := S.sub.subset (by simp)
        have hsl := S.F.lt s hs
        obtain ⟨o, ho, _⟩ := opAt_spec (S.F.step s hs)
        have := ready_of s o ho hsl (.inl (by simp)) (fun e he hb => ?_)
        · rw [hno] at this; cases this
        · refine ⟨S.F.depS hs ho he hb, fun hm => ?_⟩
          have hdep : dep ops e.on s.i = true := by
            unfold dep
            rw [ho]
            exact Array.any_eq_true'.2 ⟨e, he, by simp [hb]⟩
          rw [List.map_cons, List.mem_cons] at hm
          rcases hm with hm | hm
          · rw [hm, S.F.selfd s.i hsl] at hdep; cases hdep
          · obtain ⟨q, hq, hqe⟩ := List.mem_map.1 hm
            have hpw := S.F.pairs.sublist S.sub
            rw [List.pairwise_cons] at hpw
            have := hpw.1 q hq
            simp only [pairB, Bool.and_eq_true, Bool.not_eq_true'] at this
            have h2 := this.1.2
            rw [hqe, hdep] at h2; cases h2
      | nil =>
        rcases h4 with ⟨rfl, h6, _⟩ | ⟨_, h7⟩
        · simp at hk; omega
        · obtain ⟨j, hj⟩ := heads_some h7
          obtain ⟨s, _, _, h8, _, _⟩ := pickh (P := P) h7 hj
          have F' := S.F.snoc h8
          have hsl := F'.lt s (by simp)
          obtain ⟨o, ho, _⟩ := opAt_spec (F'.step s (by simp))
          have hnot : s.i ∉ path.map (·.i) := fun hm => not_both F'.apart hm (by simp)
          have := ready_of s o ho hsl (.inr hnot) (fun e he hb => ?_)
          · rw [hno] at this; cases this
          · refine ⟨?_, by simp⟩
            have hm := F'.depS (s := s) (by simp) ho he hb
            simp only [List.map_append, List.map_cons, List.map_nil, List.mem_append, List.mem_singleton] at hm
            rcases hm with hm | hm
            · exact hm
            · exfalso
              have hdep : dep ops e.on s.i = true := by
                unfold dep
                rw [ho]
                exact Array.any_eq_true'.2 ⟨e, he, by simp [hb]⟩
              rw [hm, S.F.selfd s.i hsl] at hdep; cases hdep
    · obtain ⟨hjun, oj, hoj, hall⟩ := mem_ready.1 hj
      have hjl : j < ops.size := (Array.getElem?_eq_some_iff.1 hoj).1
      have hsize : ∀ y, dep ops y j = true → y < ops.size ∧ y ∈ path.map (·.i) ∧ y ∉ pre.map (·.i) := by
        intro y hd
        unfold dep at hd
        rw [hoj] at hd
        obtain ⟨e, he, hb⟩ := Array.any_eq_true'.1 hd
        simp only [Bool.and_eq_true, beq_iff_eq] at hb
        have h1 := hall e he hb.1
        rw [hb.2] at h1
        have hyl : y < ops.size := by
          rcases Nat.lt_or_ge y ops.size with h | h
          · exact h
          · rw [Array.getD_eq_getD_getElem?, Array.getElem?_eq_none (by rw [S.ls]; exact h)] at h1; cases h1
        refine ⟨hyl, ?_⟩
        have h2 : ¬ listed.getD y true = false := fun h2 => by
          rw [getD_both h2] at h1
          cases h1
        rw [S.inn y hyl] at h2
        simp only [not_or, Classical.not_not] at h2
        exact ⟨h2.2, h2.1⟩
      have hancs : ∀ (m x : Nat), x ≤ m → x < ops.size → (x ∈ path.map (·.i) ∧ x ∉ pre.map (·.i)) ∨ x = j → ∀ y, y < ops.size → anc ops y x = true → y ∈ path.map (·.i) ∧ y ∉ pre.map (·.i) := by
        intro m
        induction m with
        | zero =>
          intro x hx hxl hc y hyl ha
          rcases S.F.ancs x y hxl hyl ha with hd | ⟨d, _, _, _, hlt⟩
          · rcases hc with hc | hc
            · exact S.down x hxl hc.1 hc.2 y hd
            · exact (hsize y (hc ▸ hd)).2
          · omega
        | succ m ihm =>
          intro x hx hxl hc y hyl ha
          have hdd : ∀ y, dep ops y x = true → y ∈ path.map (·.i) ∧ y ∉ pre.map (·.i) := fun y hd => by
            rcases hc with hc | hc
            · exact S.down x hxl hc.1 hc.2 y hd
            · exact (hsize y (hc ▸ hd)).2
          rcases S.F.ancs x y hxl hyl ha with hd | ⟨d, hdl, hd, had, hlt⟩
          · exact hdd y hd
          · exact ihm d (by omega) hdl (.inl (hdd d hd)) y hyl had
      have hlisted : ∀ x, x < ops.size → (listed.setIfInBounds j true).getD x true = if x = j then true else listed.getD x true := fun x hx => by
        by_cases hxj : x = j
        · subst hxj; simp [S.ls, hx]
        · rw [getD_set_ne true (Ne.symm hxj), if_neg hxj]
      by_cases hjp : j ∈ pre.map (·.i)
      · obtain ⟨s, hs, rfl⟩ := List.mem_map.1 hjp
        obtain ⟨pre1, post, rfl⟩ := List.append_of_mem hs
        have hna : ∀ p ∈ pre1, anc ops p.i s.i = false := fun p hp => by
          cases hh : anc ops p.i s.i with
          | false => rfl
          | true => exact absurd (List.mem_map.2 ⟨p, by simp [hp], rfl⟩) (hancs s.i s.i (Nat.le_refl _) hjl (.inr rfl) p.i (S.F.lt p (S.sub.subset (by simp [hp]))) hh).2
        have hb := bring S.F s post pre1 a w S.sub (fun p hp => S.rd p (by simp [hp])) hna (fun x hx c hck hc hn => by
          cases hh : anc ops x.i c with
          | false => rfl
          | true => exact absurd (List.mem_map.2 ⟨x, hx, rfl⟩) (hancs c c (Nat.le_refl _) hc (.inl ⟨S.F.chks s (S.sub.subset hs) c hck, hn⟩) x.i (S.F.lt x (S.sub.subset hx)) hh).2) hsz h0
        refine wpOp_of_opG (fun o ho => (noSel S.F (S.sub.subset hs) ho).2.1) (opG_mono (fun a' w' hsz' hg => ?_) hb)
        have hnd := S.F.apart.sublist S.sub
        have hsnot : s.i ∉ (pre1 ++ post).map (·.i) := by
          rw [List.pairwise_append] at hnd
          obtain ⟨_, h2, h3⟩ := hnd
          rw [List.pairwise_cons] at h2
          intro hm
          rw [List.map_append, List.mem_append] at hm
          rcases hm with hm | hm
          · obtain ⟨q, hq, he⟩ := List.mem_map.1 hm
            exact h3 q hq s (by simp) he
          · obtain ⟨q, hq, he⟩ := List.mem_map.1 hm
            exact h2.1 q hq he.symm
        have hspath : s.i ∈ path.map (·.i) := List.mem_map.2 ⟨s, S.sub.subset hs, rfl⟩
        have hmem : ∀ x, x ∈ (pre1 ++ s :: post).map (·.i) ↔ x = s.i ∨ x ∈ (pre1 ++ post).map (·.i) := fun x => by
          simp only [List.map_append, List.map_cons, List.mem_append, List.mem_cons]
          constructor
          · rintro (h | h | h)
            · exact .inr (.inl h)
            · exact .inl h
            · exact .inr (.inr h)
          · rintro (h | h | h)
            · exact .inr (.inl h)
            · exact .inl h
            · exact .inr (.inr h)
        have htree : ∃ t1 path1, treeB ops n false path1 t1 = true ∧ path1 = path ∧ ∀ Q, GT P ops Q t = GT P ops Q t1 := by
          rcases h4 with ⟨rfl, h6, h7⟩ | ⟨h6, h7⟩
          · refine ⟨.fin, path, ?_, rfl, fun _ => rfl⟩
            simp only [treeB, Bool.not_false, Bool.true_and, Bool.and_eq_true, decide_eq_true_eq, List.all_eq_true, List.mem_range, List.any_eq_true, beq_iff_eq]
            exact ⟨h6, fun k hk => by obtain ⟨p, hp, he⟩ := List.mem_map.1 (h7 k hk); exact ⟨p, hp, he⟩⟩
          · refine ⟨t, path, ?_, rfl, fun _ => rfl⟩
            cases t with
            | fin => simp [treeB] at h7
            | st s' t' =>
              simp only [treeB, Bool.true_or, Bool.and_eq_true, heads] at h7 h6 ⊢
              have he : s'.eff = true := by
                cases he : s'.eff with
                | true => rfl
                | false => rw [he] at h7; simp at h7
              rw [he]
              simp only [Bool.false_or, if_true]
              exact ⟨⟨h7.1.1, h6⟩, h7.2⟩
            | br x y =>
              simp only [treeB, Bool.true_or, Bool.true_and, Bool.and_eq_true, heads, Bool.false_or] at h7 h6 ⊢
              exact ⟨⟨h6, h7.1⟩, h7.2⟩
        obtain ⟨t1, path1, ht1, rfl, hgt⟩ := htree
        rw [hgt] at hg
        refine ih t1 path1 (pre1 ++ post) _ a' w' ht1 ⟨S.F, S.len, (List.Sublist.append (List.Sublist.refl pre1) (List.sublist_cons_self s post)).trans S.sub, fun p hp => S.rd p (by
          rcases List.mem_append.1 hp with hp | hp
          · simp [hp]
          · simp [hp]), by simp [S.ls], fun x hx => ?_, fun x hx hm hn y hd => ?_⟩ (by simp at hk ⊢; omega) (by rw [hsz', hsz]) hg
        · rw [hlisted x hx]
          by_cases hxs : x = s.i
          · subst hxs
            rw [if_pos rfl]
            simp only [Bool.true_eq_false, false_iff, not_or, Classical.not_not]
            exact ⟨hsnot, hspath⟩
          · rw [if_neg hxs, S.inn x hx, hmem x]
            simp only [hxs, false_or]
        · have key : y ∈ path1.map (·.i) ∧ y ∉ (pre1 ++ s :: post).map (·.i) := by
            by_cases hxs : x = s.i
            · subst hxs; exact (hsize y hd).2
            · exact S.down x hx hm (fun h => ((hmem x).1 h).elim hxs hn) y hd
          exact ⟨key.1, fun h => key.2 ((hmem y).2 (.inr h))⟩
      · have hjn : j ∉ path.map (·.i) := ((S.inn j hjl).1 hjun).resolve_left hjp
        rcases h4 with ⟨rfl, h6, h7⟩ | ⟨h6, h7⟩
        · exact absurd (h7 j hjl) hjn
        have hjh : j ∈ heads t := by
          simp only [altsB, List.all_eq_true, List.mem_range, Bool.or_eq_true, List.any_eq_true, beq_iff_eq] at h6
          rcases h6 j hjl with (⟨p, hp, he⟩ | h) | h
          · exact absurd (List.mem_map.2 ⟨p, hp, he⟩) hjn
          · simpa using h
          · exfalso
            obtain ⟨o, ho, h⟩ := opAt_spec h
            obtain rfl : oj = o := Option.some.inj (hoj.symm.trans ho)
            obtain ⟨e, he, h⟩ := Array.any_eq_true'.1 h
            simp only [Bool.and_eq_true, Bool.not_eq_true'] at h
            have hd : dep ops e.on j = true := by
              unfold dep
              rw [hoj]
              exact Array.any_eq_true'.2 ⟨e, he, by simp [h.1]⟩
            obtain ⟨p, hp, hpe⟩ := List.mem_map.1 (hsize e.on hd).2.1
            rw [List.any_eq_false] at h
            exact h.2 p hp (by simp [hpe])
        obtain ⟨s, t', rfl, h8, h9, h10⟩ := pickh (P := P) h7 hjh
        have F' := S.F.snoc h8
        have hg := GW_mono (h10 Q) pre a w h0
        rw [← GW_snoc pre S.rd] at hg
        have hna : ∀ p ∈ pre, anc ops p.i s.i = false := fun p hp => by
          cases hh : anc ops p.i s.i with
          | false => rfl
          | true => exact absurd (List.mem_map.2 ⟨p, hp, rfl⟩) (hancs s.i s.i (Nat.le_refl _) hjl (.inr rfl) p.i (S.F.lt p (S.sub.subset hp)) hh).2
        have hchk : ∀ c ∈ s.chk, c ∈ path.map (·.i) := fun c hc => by
          simp only [nextB, Bool.and_eq_true, List.all_eq_true] at h8
          obtain ⟨p, hp, he⟩ := List.any_eq_true.1 (h8.2 c hc).1
          exact List.mem_map.2 ⟨p, hp, by simpa using he⟩
        have hb := bring F' s [] pre a w (S.sub.append (List.Sublist.refl [s])) S.rd hna (fun x hx c hck hc hn => by
          cases hh : anc ops x.i c with
          | false => rfl
          | true =>
            exfalso
            have hcn : c ∉ pre.map (·.i) := fun hm => hn (by rw [List.map_append, List.mem_append]; exact .inl hm)
            have hd := hancs c c (Nat.le_refl _) hc (.inl ⟨hchk c hck, hcn⟩) x.i (F'.lt x ((S.sub.append (List.Sublist.refl [s])).subset hx)) hh
            rcases List.mem_append.1 hx with hx | hx
            · exact hd.2 (List.mem_map.2 ⟨x, hx, rfl⟩)
            · simp only [List.mem_singleton] at hx; subst hx; exact hjn hd.1) hsz hg
        refine wpOp_of_opG (fun o ho => (noSel F' (by simp) ho).2.1) (opG_mono (fun a' w' hsz' hg => ?_) hb)
        rw [List.append_nil] at hg
        have hlt : path.length < ops.size := by
          simp only [nextB, Bool.and_eq_true, decide_eq_true_eq] at h8
          exact h8.1.1.1.1
        have hmem : ∀ x, x ∈ (path ++ [s]).map (·.i) ↔ x ∈ path.map (·.i) ∨ x = s.i := fun x => by simp
        refine ih t' (path ++ [s]) pre _ a' w' h9 ⟨F', by simp; omega, S.sub.trans (List.sublist_append_left path [s]), S.rd, by simp [S.ls], fun x hx => ?_, fun x hx hm hn y hd => ?_⟩ (by simp; omega) (by rw [hsz', hsz]) hg
        · rw [hlisted x hx, hmem x]
          by_cases hxs : x = s.i
          · subst hxs
            rw [if_pos rfl]
            simp only [Bool.true_eq_false, false_iff, not_or, Classical.not_not, or_true, and_true]
            exact hjp
          · rw [if_neg hxs, S.inn x hx]
            simp only [hxs, or_false]
        · rw [hmem x] at hm
          rw [hmem y]
          by_cases hxs : x = s.i
          · subst hxs
            exact ⟨.inl (hsize y hd).2.1, (hsize y hd).2.2⟩
          · have := S.down x hx (hm.resolve_right hxs) hn y hd
            exact ⟨.inl this.1, this.2⟩
theorem wp_region_plan {n : Nat} {plan : Plan} {id : Nat} {Q : Exit → Act → World → Prop} {a : Act} {w : World} {ro : Option Nat} {m : Nat} (hm : P.follows .mixedOrders = true) (hok : planOK ops n plan = true) (hsz : a.tmps.size = n)
    (h : GT P ops (fun a w => a.tmps.size = n → Q .normal a w) plan a { w with drawn := w.drawn + 1 }) : (Code.region id ops true).wpIn (Fw ro) m P Q a w := by
  simp only [planOK, Bool.and_eq_true] at hok
  have O := opsFacts hok.1
  refine wpIn_region_any hm ?_
  have := gt_sound (P := P) (Q' := Q) (ro := ro) (m := m) (fun a w hs h => h hs) ops.size plan [] [] (Array.replicate ops.size false) a { w with drawn := w.drawn + 1 } hok.2 ⟨.nil O, by simp, List.Sublist.refl _, by simp, by simp, fun x hx => by
    simp only [Array.getD_eq_getD_getElem?]
    simp only [hx, Array.getElem?_replicate, if_true, Option.getD_some, List.map_nil, List.not_mem_nil, not_false_eq_true, or_true], fun x hx hm => by simp at hm⟩ (by simp) hsz h
  exact this
end
end Go.Wk
