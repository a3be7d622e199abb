/- Regions that draw their order: one walk along a plan serves every order that the edges allow. -/
import Derived.WalkKit
import Derived.StillTail
namespace Go.Wk
open Go

/-- Does an operation change the world (or may it)? -/
def isEff : Op → Bool
  | .move _ | .assign _ | .pick .. | .load .. | .nilCheck _ | .binOp .. | .unOp .. | .makeInterface .. | .makeFunc .. | .slice ..
  | .fieldAddr .. | .field .. | .indexAddr .. | .index .. | .lookup .. | .extract .. | .typeAssert .. | .build .. | .convert .. => false
  | .call { callee := .builtin .len, .. } | .call { callee := .builtin .cap, .. } | .call { callee := .builtin .min, .. } | .call { callee := .builtin .max, .. } => false
  | _ => true
/-- Does it hang on nothing but its operands? -/
def isPure : Op → Bool
  | .move _ | .assign _ | .pick .. | .extract .. | .unOp .not _ _ => true
  | _ => false

structure PStep where
  i : Nat
  eff : Bool
  chk : List Nat
abbrev Plan := List PStep

section
variable (P : Program) (ops : Array Oper)

def dep (j i : Nat) : Bool := match ops[i]? with
  | some o => o.after.any fun e => Region.binds .any e && e.on == j
  | none => false
def anc (j i : Nat) : Bool := ((Region.before ops).getD i 0).testBit j
def opAt (i : Nat) (f : Oper → Bool) : Bool := match ops[i]? with
  | some o => f o
  | none => false

/-- What is asked of two steps of a plan, p ahead of s. -/
def pairB (p s : PStep) : Bool :=
  p.i != s.i && !anc ops s.i p.i && !dep ops s.i p.i && (if p.eff then anc ops p.i s.i else
    !s.eff || anc ops p.i s.i || ((s.chk.contains p.i || opAt ops p.i fun o => isPure o.op) && opAt ops p.i fun o => s.chk.all fun c => match ops[c]?, o.dst with
      | some oc, some d => !(oc.looksAt ops).contains d || anc ops p.i c
      | _, _ => true))
def pairsB : Plan → Bool
  | [] => true
  | p :: r => r.all (pairB ops p) && pairsB r
def stepB (n : Nat) (plan : Plan) (s : PStep) : Bool :=
  opAt ops s.i fun o => isEff o.op == s.eff && (s.eff || o.dst.isSome) && (match o.dst with | some d => decide (d < n) | none => true) && (match o.op with | .select .. => false | .defer _ => false | _ => true) &&
    o.after.all (fun e => !Region.binds .any e || plan.any (fun p => p.i == e.on)) 
def ancsB : Bool := (List.range ops.size).all fun i => (List.range ops.size).all fun y =>
  !anc ops y i || dep ops y i || (List.range ops.size).any fun d => dep ops d i && anc ops y d && decide (d < i)
def dstsB : Bool := (List.range ops.size).all fun x => (List.range ops.size).all fun y =>
  match ops[x]?, ops[y]? with
  | some ox, some oy => (match ox.dst with
    | some d => (x == y || oy.dst != some d) && (!(oy.looksAt ops).contains d || anc ops x y || anc ops y x)
    | none => true)
  | _, _ => true
def planOK (n : Nat) (plan : Plan) : Bool :=
  decide (plan.length = ops.size) && plan.all (fun s => decide (s.i < ops.size)) && pairsB ops plan && plan.all (stepB ops n plan) && ancsB ops && dstsB ops && Region.noSelect ops && (List.range ops.size).all (fun k => !anc ops k k && !dep ops k k && plan.any fun p => p.i == k)
end

section
variable {P : Program} {ops : Array Oper}

theorem opAt_spec {i : Nat} {f : Oper → Bool} (h : opAt ops i f = true) : ∃ o, ops[i]? = some o ∧ f o = true := by
  unfold opAt at h
  split at h
  · rename_i o ho; exact ⟨o, ho, h⟩
  · cases h

def Okc (P : Program) (ops : Array Oper) (c : Nat) (a : Act) (w : World) : Prop :=
  ∀ oc, ops[c]? = some oc → Region.wanted oc (yielded ops a.tmps) = true → ∃ d, oc.dst = some d ∧ (execOp a.eval oc).run P w = .ok (.value (a.tmps.getD d undef)) w

/-- An operation that may change the world: what is asked of its result. -/
def effW (P : Program) (o : Oper) (a : Act) (next : Act → World → Prop) : Result Next → Prop
  | .ok (.value v) w' => next (a.put o.dst v) w'
  | .ok .skip w' => next (a.put o.dst undef) w'
  | .ok (.enter f args) w' => Calls P f args w' fun
      | .returned v, w'' => next (a.put o.dst v) w''
      | _, _ => False
  | .ok (.row row args) w' => Rows P row args w' fun v w'' => next (a.put o.dst v) w''
  | _ => False

/-- A step of a plan; rem: what comes later. -/
def opG (P : Program) (ops : Array Oper) (s : PStep) (rem : List Nat) (K : Act → World → Prop) (a : Act) (w : World) : Prop :=
  match ops[s.i]? with
  | none => False
  | some o =>
    if Region.wanted o (yielded ops a.tmps) then
      if s.eff then effW P o a (fun a' w' => (∀ c ∈ s.chk, c ∉ rem → Okc P ops c a' w') ∧ K a' w') ((execOp a.eval o).run P w)
      else ∃ v, (execOp a.eval o).run P w = .ok (.value v) w ∧ K (a.put o.dst v) w
    else K (a.put o.dst undef) w

def GW (P : Program) (ops : Array Oper) (Q : Act → World → Prop) : Plan → Act → World → Prop
  | [], a, w => Q a w
  | s :: r, a, w => opG P ops s (r.map (·.i)) (GW P ops Q r) a w

theorem wp_of_effW {o : Oper} {a : Act} {w : World} {K : Act → World → Prop} {Q : Exit → Act → World → Prop} (h : effW P o a K ((execOp a.eval o).run P w)) : o.wp P a w K Q := by
  unfold Oper.wp
  generalize (execOp a.eval o).run P w = r at *
  cases r with
  | ok n w' =>
    cases n <;> simp only [effW] at h <;> simp only [Oper.upon] <;> first
      | exact h
      | exact Calls.mono h (fun e w'' he => by cases e <;> first | exact he | exact he.elim)
  | halt x w' => simp only [effW] at h

theorem wpOp_of_opG {s : PStep} {rem : List Nat} {K : Act → World → Prop} {a : Act} {w : World} {Q : Exit → Act → World → Prop} (h : opG P ops s rem K a w) :
    wpOp P ops Q s.i K a w := by
  unfold opG at h
  unfold wpOp
  split
  · rename_i ho; simp only [ho] at h
  · rename_i o ho
    simp only [ho] at h
    split
    · rename_i hw
      simp only [hw, if_true] at h
      split at h
      · exact .inl (Oper.wp_mono (fun _ _ h => h.2) (wp_of_effW h))
      · obtain ⟨v, hr, hk⟩ := h
        left
        unfold Oper.wp
        rw [hr]
        exact hk
    · rename_i hw; simp only [hw] at h; exact h

/-- What the read p gives, now or later. -/
def Yld (P : Program) (ops : Array Oper) (o : Oper) (v : Value) (a : Act) (w : World) : Prop :=
  (Region.wanted o (yielded ops a.tmps) = true ∧ (execOp a.eval o).run P w = .ok (.value v) w) ∨ (Region.wanted o (yielded ops a.tmps) = false ∧ v = undef)

theorem run_pure_world {o : Oper} (h : isPure o.op = true) {ρ : Operand → Value} {w w' : World} {v : Value} (hr : (execOp ρ o).run P w = .ok (.value v) w) :
    (execOp ρ o).run P w' = .ok (.value v) w' := by
  obtain ⟨dst, op, type, pos, after, guard⟩ := o
  cases op <;> simp only [isPure, Bool.false_eq_true] at h <;> simp only [execOp] at hr ⊢
  case move x => simp at hr ⊢; exact hr
  case assign x => simp at hr ⊢; exact hr
  case pick c x y =>
    simp only [Sem.run_bind] at hr ⊢
    cases hc : ρ c <;> simp [asBool, hc] at hr ⊢
    exact hr
  case unOp op t x =>
    cases op <;> simp only [Bool.false_eq_true] at h
    simp only [Sem.run_bind] at hr ⊢
    cases hx : ρ x <;> simp [Op.unary, hx] at hr ⊢
    exact hr
  case extract t i =>
    simp only [Sem.run_bind] at hr ⊢
    cases hx : ρ t <;> simp [Instr.extract, hx] at hr ⊢
    rename_i vs
    cases hv : vs[i]? <;> simp [hv] at hr ⊢
    exact hr

theorem apart2 {x y : Oper} (h1 : ∀ d, x.dst = some d → d ∉ y.looksAt ops) (a : Act) (v : Value) (hs : ∀ cs b, y.op ≠ .select cs b) :
    execOp (a.put x.dst v).eval y = execOp a.eval y ∧ Region.wanted y (yielded ops (a.put x.dst v).tmps) = Region.wanted y (yielded ops a.tmps) :=
  ⟨execOp_put y hs a x.dst v h1, wanted_put y a x.dst v h1⟩

theorem getD_put_ne {a : Act} {x : Option Tmp} {v : Value} {d : Tmp} (h : x ≠ some d) : (a.put x v).tmps.getD d undef = a.tmps.getD d undef := by
  cases x with
  | none => rfl
  | some e =>
    have : e ≠ d := fun he => h (by rw [he])
    simp [Act.put, Array.getElem?_setIfInBounds_ne this]

theorem Okc_drop {c : Nat} {x : Oper} {v : Value} {a : Act} {w : World} (hs : ∀ o cs b, ops[c]? = some o → o.op ≠ .select cs b)
    (h1 : ∀ o, ops[c]? = some o → ∀ d, x.dst = some d → d ∉ o.looksAt ops ∧ o.dst ≠ some d) (h : Okc P ops c (a.put x.dst v) w) : Okc P ops c a w := by
  intro oc hc hw
  obtain ⟨e1, e2⟩ := apart2 (ops := ops) (x := x) (y := oc) (fun d hd => (h1 oc hc d hd).1) a v (fun cs b => hs oc cs b hc)
  obtain ⟨d, hd, hr⟩ := h oc hc (by rw [e2]; exact hw)
  rw [e1, getD_put_ne (fun he => (h1 oc hc d he).2 hd)] at hr
  exact ⟨d, hd, hr⟩

theorem size_put (a : Act) (x : Option Tmp) (v : Value) : (a.put x v).tmps.size = a.tmps.size := by
  cases x <;> simp [Act.put]

/-- The static facts. -/
structure PlanFacts (ops : Array Oper) (n : Nat) (plan : Plan) : Prop where
  len : plan.length = ops.size
  lt : ∀ s ∈ plan, s.i < ops.size
  pairs : plan.Pairwise fun p s => pairB ops p s = true
  step : ∀ s ∈ plan, stepB ops n plan s = true
  ancs : ∀ i y, i < ops.size → y < ops.size → anc ops y i = true → dep ops y i = true ∨ ∃ d, d < ops.size ∧ dep ops d i = true ∧ anc ops y d = true ∧ d < i
  nosel : Region.noSelect ops = true
  self : ∀ k, k < ops.size → anc ops k k = false
  selfd : ∀ k, k < ops.size → dep ops k k = false
  full : ∀ k, k < ops.size → ∃ s ∈ plan, s.i = k
  dsts : ∀ x y ox oy d, ops[x]? = some ox → ops[y]? = some oy → ox.dst = some d → (x = y ∨ oy.dst ≠ some d) ∧ (d ∈ oy.looksAt ops → anc ops x y = true ∨ anc ops y x = true)

theorem pairsB_spec : ∀ {plan : Plan}, pairsB ops plan = true → plan.Pairwise fun p s => pairB ops p s = true
  | [], _ => .nil
  | p :: r, h => by
    simp only [pairsB, Bool.and_eq_true, List.all_eq_true] at h
    exact .cons h.1 (pairsB_spec h.2)

theorem planFacts {n : Nat} {plan : Plan} (h : planOK ops n plan = true) : PlanFacts ops n plan := by
  simp only [planOK, Bool.and_eq_true, decide_eq_true_eq, List.all_eq_true] at h
  obtain ⟨⟨⟨⟨⟨⟨⟨h1, h2⟩, h3⟩, h4⟩, h6⟩, h7⟩, h8⟩, h9⟩ := h
  simp only [List.mem_range, Bool.not_eq_true', List.any_eq_true, beq_iff_eq] at h9
  refine ⟨h1, h2, pairsB_spec h3, h4, fun i y hi hy ha => ?_, h8, fun k hk => (h9 k hk).1.1, fun k hk => (h9 k hk).1.2, fun k hk => (h9 k hk).2, fun x y ox oy d hx hy hd => ?_⟩
  · simp only [ancsB, List.all_eq_true, List.mem_range, Bool.or_eq_true, List.any_eq_true, Bool.and_eq_true, Bool.not_eq_true'] at h6
    simp only [decide_eq_true_eq] at h6
    rcases h6 i hi y hy with (h | h) | ⟨d, hd, ⟨h, h'⟩, h''⟩
    · rw [h] at ha; cases ha
    · exact .inl h
    · exact .inr ⟨d, hd, h, h', h''⟩
  · have hxl : x < ops.size := (Array.getElem?_eq_some_iff.1 hx).1
    have hyl : y < ops.size := (Array.getElem?_eq_some_iff.1 hy).1
    simp only [dstsB, List.all_eq_true, List.mem_range] at h7
    have := h7 x hxl y hyl
    simp only [hx, hy, hd, Bool.and_eq_true, Bool.or_eq_true, beq_iff_eq, bne_iff_ne, Bool.not_eq_true', ne_eq] at this
    refine ⟨this.1, fun hm => ?_⟩
    rcases this.2 with (h | h) | h
    · simp at h; exact absurd hm h
    · exact .inl h
    · exact .inr h

theorem noSel {n : Nat} {plan : Plan} (F : PlanFacts ops n plan) {s : PStep} (hs : s ∈ plan) {o : Oper} (ho : ops[s.i]? = some o) : (∀ cs b, o.op ≠ .select cs b) ∧ (∀ c, o.op ≠ .defer c) ∧ (s.eff = false → o.dst.isSome = true) ∧
    isEff o.op = s.eff ∧ (∀ d, o.dst = some d → d < n) := by
  obtain ⟨o', ho', h⟩ := opAt_spec (F.step s hs)
  obtain rfl : o = o' := Option.some.inj (ho.symm.trans ho')
  simp only [Bool.and_eq_true, beq_iff_eq, Bool.or_eq_true] at h
  obtain ⟨⟨⟨⟨h1, h2⟩, h4⟩, h3⟩, _⟩ := h
  refine ⟨fun cs b e => ?_, fun c e => ?_, fun e => ?_, h1, fun d hd => ?_⟩
  · rw [e] at h3; simp at h3
  · rw [e] at h3; simp at h3
  · rcases h2 with h2 | h2
    · rw [e] at h2; cases h2
    · exact h2
  · rw [hd] at h4; simpa using h4

/-- The step j with p's result not yet laid: p gives the same afterwards. -/
theorem opG_put {n : Nat} {plan : Plan} (F : PlanFacts ops n plan) {p j : PStep} (hp : p ∈ plan) (hj : j ∈ plan) (hpj : pairB ops p j = true) (hna : anc ops p.i j.i = false)
    {op : Oper} (hop : ops[p.i]? = some op) (hpe : p.eff = false) {rem : List Nat} (hprem : p.i ∉ rem) (hcl : ∀ c, c < ops.size → c ≠ p.i → c ∉ rem → anc ops p.i c = false)
    {v : Value} {a : Act} {w : World} {K : Act → World → Prop} (hsz : a.tmps.size = n) (hy : Yld P ops op v a w) (h : opG P ops j rem K (a.put op.dst v) w) :
    opG P ops j (p.i :: rem) (fun a' w' => Yld P ops op v a' w' ∧ K (a'.put op.dst v) w') a w := by
  unfold opG at h ⊢
  split at h
  · exact h.elim
  rename_i oj hoj
  have hpl : p.i < ops.size := F.lt p hp
  have hjl : j.i < ops.size := F.lt j hj
  obtain ⟨hselj, hdefj, hdstj, heffj, _⟩ := noSel F hj hoj
  obtain ⟨hselp, hdefp, hdstp, heffp, hlp⟩ := noSel F hp hop
  have hpj' := hpj
  simp only [pairB, Bool.and_eq_true, bne_iff_ne, ne_eq, Bool.not_eq_true', hpe, Bool.false_eq_true, if_false, hna, Bool.or_false, Bool.or_eq_true, Bool.and_eq_true] at hpj'
  obtain ⟨⟨⟨hne, hnajp⟩, _⟩, hpj3⟩ := hpj'
  -- the two are apart
  have h1 : ∀ d, op.dst = some d → d ∉ oj.looksAt ops := fun d hd hm => by
    have := (F.dsts p.i j.i op oj d hop hoj hd).2 hm
    rw [hna, hnajp] at this; simp at this
  have h2 : ∀ d, op.dst = some d → oj.dst ≠ some d := fun d hd => (F.dsts p.i j.i op oj d hop hoj hd).1.resolve_left hne
  have h3 : ∀ d, oj.dst = some d → d ∉ op.looksAt ops := fun d hd hm => by
    have := (F.dsts j.i p.i oj op d hoj hop hd).2 hm
    rw [hnajp, hna] at this; simp at this
  obtain ⟨e1, e2⟩ := apart2 (ops := ops) (x := op) (y := oj) h1 a v hselj
  rw [e2] at h
  have keep : ∀ u, Region.wanted op (yielded ops (a.put oj.dst u).tmps) = Region.wanted op (yielded ops a.tmps) ∧ execOp (a.put oj.dst u).eval op = execOp a.eval op := fun u =>
    ⟨(apart2 (ops := ops) (x := oj) (y := op) h3 a u hselp).2, (apart2 (ops := ops) (x := oj) (y := op) h3 a u hselp).1⟩
  have keepy : ∀ u, Yld P ops op v (a.put oj.dst u) w := fun u => by
    unfold Yld at *
    rw [(keep u).1, (keep u).2]; exact hy
  split
  · rename_i hw
    simp only [hw, if_true] at h
    split
    · rename_i hje
      simp only [hje, if_true] at h
      -- what holds behind an effect
      have after : ∀ u w', (∀ c ∈ j.chk, c ∉ rem → Okc P ops c ((a.put op.dst v).put oj.dst u) w') → K ((a.put op.dst v).put oj.dst u) w' →
          (∀ c ∈ j.chk, c ∉ p.i :: rem → Okc P ops c (a.put oj.dst u) w') ∧ Yld P ops op v (a.put oj.dst u) w' ∧ K ((a.put oj.dst u).put op.dst v) w' := by
        intro u w' hc hk
        rw [Act.put_comm a v u h2] at hc hk
        refine ⟨fun c hmc hn => ?_, ?_, hk⟩
        · simp only [List.mem_cons, not_or] at hn
          have hcc := hc c hmc hn.2
          rcases Nat.lt_or_ge c ops.size with hlt | hge
          · refine Okc_drop (x := op) (v := v) (fun o cs b ho => ?_) (fun o ho d hd => ⟨fun hm => ?_, ?_⟩) hcc
            · exact Region.noSelect_spec F.nosel c o cs b ho
            · rcases hpj3 with h | h
              · rw [hje] at h; cases h
              · obtain ⟨o', ho', hall⟩ := opAt_spec h.2
                obtain rfl : op = o' := Option.some.inj (hop.symm.trans ho')
                have := List.all_eq_true.1 hall c hmc
                simp only [ho, hd, Bool.or_eq_true, Bool.not_eq_true'] at this
                rcases this with h | h
                · simp at h; exact h hm
                · rw [hcl c hlt hn.1 hn.2] at h; cases h
            · exact (F.dsts p.i c op o d hop ho hd).1.resolve_left (fun e => hn.1 e.symm)
          · intro oc hoc
            rw [Array.getElem?_eq_none hge] at hoc; cases hoc
        · rcases hy with ⟨hwp, hrp⟩ | ⟨hwp, rfl⟩
          · left
            rw [(keep u).1, (keep u).2]
            refine ⟨hwp, ?_⟩
            rcases hpj3 with h | ⟨h, _⟩
            · rw [hje] at h; cases h
            · rcases h with h | h
              rotate_left
              · obtain ⟨o', ho', hpure⟩ := opAt_spec h
                obtain rfl : op = o' := Option.some.inj (hop.symm.trans ho')
                exact run_pure_world hpure hrp
              · have hm : p.i ∈ j.chk := by simpa using h
                have h4 : ∀ d, op.dst = some d → d ∉ op.looksAt ops := fun d hd hm => by
                  have := (F.dsts p.i p.i op op d hop hop hd).2 hm
                  rw [F.self p.i hpl] at this; simp at this
                obtain ⟨e5, e6⟩ := apart2 (ops := ops) (x := op) (y := op) h4 (a.put oj.dst u) v hselp
                obtain ⟨d, hd, hr⟩ := hc p.i hm hprem op hop (by rw [e6, (keep u).1]; exact hwp)
                rw [e5, (keep u).2] at hr
                have hv : ((a.put oj.dst u).put op.dst v).tmps.getD d undef = v := by
                  have hdl := hlp d hd
                  have hs2 : (a.put oj.dst u).tmps.size = n := by rw [size_put]; exact hsz
                  generalize a.put oj.dst u = b at hs2
                  simp only [Act.put, hd]
                  simp [hs2, hdl]
                rw [hv] at hr
                exact hr
          · right
            rw [(keep u).1]
            exact ⟨hwp, rfl⟩
      rw [e1] at h
      generalize hres : (execOp a.eval oj).run P w = r at h ⊢
      cases r with
      | ok nx w' =>
        cases nx with
        | value u => simp only [effW] at h ⊢; exact after u w' h.1 h.2
        | skip => simp only [effW] at h ⊢; exact after undef w' h.1 h.2
        | enter f args =>
          simp only [effW] at h ⊢
          exact Calls.mono h fun e w'' he => by
            cases e with
            | returned u => exact after u w'' he.1 he.2
            | panicked ch => exact he
            | outgrown => exact he
        | row row args => simp only [effW] at h ⊢; exact Rows.mono h fun u w'' he => after u w'' he.1 he.2
        | _ => simp only [effW] at h
      | halt x w' => simp only [effW] at h
    · rename_i hje
      simp only [hje] at h
      obtain ⟨u, hr, hk⟩ := h
      rw [e1] at hr
      exact ⟨u, hr, keepy u, by rw [← Act.put_comm a v u h2]; exact hk⟩
  · rename_i hw
    simp only [hw] at h
    exact ⟨keepy _, by rw [← Act.put_comm a v undef h2]; exact h⟩

theorem opG_mono {s : PStep} {rem : List Nat} {K K' : Act → World → Prop} {a : Act} {w : World} (hk : ∀ a' w', a'.tmps.size = a.tmps.size → K a' w' → K' a' w') (h : opG P ops s rem K a w) : opG P ops s rem K' a w := by
  unfold opG at h ⊢
  split at h
  · exact h.elim
  rename_i o ho
  have hs : ∀ v, (a.put o.dst v).tmps.size = a.tmps.size := fun v => size_put a o.dst v
  split
  · rename_i hw
    simp only [hw, if_true] at h
    split
    · rename_i he
      simp only [he, if_true] at h
      generalize (execOp a.eval o).run P w = r at h ⊢
      cases r with
      | ok nx w' =>
        cases nx with
        | value u => simp only [effW] at h ⊢; exact ⟨h.1, hk _ _ (hs _) h.2⟩
        | skip => simp only [effW] at h ⊢; exact ⟨h.1, hk _ _ (hs _) h.2⟩
        | enter f args =>
          simp only [effW] at h ⊢
          exact Calls.mono h fun e w'' he => by
            cases e with
            | returned u => exact ⟨he.1, hk _ _ (hs _) he.2⟩
            | panicked ch => exact he
            | outgrown => exact he
        | row row args => simp only [effW] at h ⊢; exact Rows.mono h fun u w'' he => ⟨he.1, hk _ _ (hs _) he.2⟩
        | _ => simp only [effW] at h
      | halt x w' => simp only [effW] at h
    · rename_i he
      simp only [he] at h
      obtain ⟨v, hr, h'⟩ := h
      exact ⟨v, hr, hk _ _ (hs _) h'⟩
  · rename_i hw
    simp only [hw] at h
    exact hk _ _ (hs _) h

/-- Any step that is ready may come first. -/
theorem bring {n : Nat} {plan : Plan} (F : PlanFacts ops n plan) {Q : Act → World → Prop} (j : PStep) (post : Plan) : ∀ (pre : Plan) (a : Act) (w : World),
    (pre ++ j :: post).Sublist plan → (∀ p ∈ pre, anc ops p.i j.i = false) → (∀ x ∈ pre ++ j :: post, ∀ c, c < ops.size → c ∉ (pre ++ j :: post).map (·.i) → anc ops x.i c = false) → a.tmps.size = n →
    GW P ops Q (pre ++ j :: post) a w → opG P ops j ((pre ++ post).map (·.i)) (GW P ops Q (pre ++ post)) a w
  | [], a, w, _, _, _, _, h => h
  | p :: pre, a, w, hsub, hna, hcl, hsz, h => by
    have hp : p ∈ plan := hsub.subset (by simp)
    have hj : j ∈ plan := hsub.subset (by simp)
    have hpw := F.pairs.sublist hsub
    have hpj : pairB ops p j = true := by
      simp only [List.cons_append, List.pairwise_cons] at hpw
      exact hpw.1 j (by simp)
    have hnapj := hna p (by simp)
    have hpe : p.eff = false := by
      cases hpe : p.eff with
      | false => rfl
      | true =>
        simp only [pairB, hpe, if_true, Bool.and_eq_true] at hpj
        rw [hnapj] at hpj
        exact absurd hpj.2 (by simp)
    have hsub' : (pre ++ j :: post).Sublist plan := (List.sublist_cons_self p _).trans hsub
    have hpnot : p.i ∉ (pre ++ j :: post).map (·.i) := by
      intro hm
      obtain ⟨s, hs, he⟩ := List.mem_map.1 hm
      simp only [List.cons_append, List.pairwise_cons] at hpw
      have := hpw.1 s hs
      simp only [pairB, Bool.and_eq_true, bne_iff_ne, ne_eq] at this
      exact this.1.1.1 he.symm
    have hcl' : ∀ x ∈ pre ++ j :: post, ∀ c, c < ops.size → c ∉ (pre ++ j :: post).map (·.i) → anc ops x.i c = false := by
      intro x hx c hc hn
      by_cases hcp : c = p.i
      · subst hcp
        simp only [List.cons_append, List.pairwise_cons] at hpw
        have := hpw.1 x hx
        simp only [pairB, Bool.and_eq_true, Bool.not_eq_true'] at this
        exact this.1.1.2
      · exact hcl x (by simp at hx ⊢; right; exact hx) c hc (by simp only [List.cons_append, List.map_cons, List.mem_cons, not_or]; exact ⟨hcp, hn⟩)
    have hprem : p.i ∉ (pre ++ post).map (·.i) := fun hm => hpnot (by
      simp only [List.map_append, List.mem_append, List.map_cons, List.mem_cons] at hm ⊢
      rcases hm with h | h
      · exact .inl h
      · exact .inr (.inr h))
    have hclp : ∀ c, c < ops.size → c ≠ p.i → c ∉ (pre ++ post).map (·.i) → anc ops p.i c = false := by
      intro c hc hcp hn
      by_cases hcj : c = j.i
      · subst hcj; exact hnapj
      · refine hcl p (by simp) c hc ?_
        simp only [List.cons_append, List.map_cons, List.map_append, List.mem_cons, List.mem_append, not_or] at hn ⊢
        exact ⟨hcp, hn.1, hcj, hn.2⟩
    -- p runs
    simp only [List.cons_append, GW] at h
    unfold opG at h
    split at h
    · exact h.elim
    rename_i op hop
    have hput : ∀ v, (a.put op.dst v).tmps.size = n := fun v => by rw [size_put]; exact hsz
    have main : ∀ v, Yld P ops op v a w → GW P ops Q (pre ++ j :: post) (a.put op.dst v) w → opG P ops j ((p :: pre ++ post).map (·.i)) (GW P ops Q (p :: pre ++ post)) a w := by
      intro v hy hg
      have ih := bring F j post pre (a.put op.dst v) w hsub' (fun q hq => hna q (by simp [hq])) hcl' (hput v) hg
      have := opG_put F hp hj hpj hnapj hop hpe hprem hclp hsz hy ih
      refine opG_mono (fun a' w' _ h => ?_) this
      obtain ⟨hy', hk⟩ := h
      simp only [List.cons_append, GW]
      unfold opG
      simp only [hop]
      rcases hy' with ⟨h1, h2⟩ | ⟨h1, rfl⟩
      · simp only [h1, if_true, hpe, Bool.false_eq_true, if_false]
        exact ⟨v, h2, hk⟩
      · simp only [h1, Bool.false_eq_true, if_false]
        exact hk
    split at h
    · rename_i hw
      simp only [hpe, Bool.false_eq_true, if_false] at h
      obtain ⟨v, hr, hg⟩ := h
      exact main v (.inl ⟨hw, hr⟩) hg
    · rename_i hw
      exact main undef (.inr ⟨by simpa using hw, rfl⟩) h

theorem gw_sound {n : Nat} {plan : Plan} (F : PlanFacts ops n plan) {Q : Act → World → Prop} {Q' : Exit → Act → World → Prop} (hQ : ∀ a w, a.tmps.size = n → Q a w → Q' .normal a w) :
    ∀ (rem : Plan) (listed : Array Bool) (a : Act) (w : World), rem.Sublist plan → listed.size = ops.size →
      (∀ x, x < ops.size → (listed.getD x true = false ↔ x ∈ rem.map (·.i))) → (∀ x, x < ops.size → x ∉ rem.map (·.i) → ∀ y, dep ops y x = true → y ∉ rem.map (·.i)) → a.tmps.size = n →
      GW P ops Q rem a w → wpAny P .any ops Q' rem.length listed a w := by
  intro rem
  generalize hlen : rem.length = k
  induction k generalizing rem with
  | zero =>
    intro listed a w hsub hls hin _ hsz h
    have : rem = [] := List.eq_nil_of_length_eq_zero hlen
    subst this
    refine ⟨?_, hQ _ _ hsz h⟩
    rw [List.eq_nil_iff_forall_not_mem]
    intro j hj
    obtain ⟨hjun, oj, hoj, _⟩ := mem_ready.1 hj
    have := (hin j (Array.getElem?_eq_some_iff.1 hoj).1).1 hjun
    simp at this
  | succ k ih =>
    intro listed a w hsub hls hin hdown hsz h
    refine ⟨fun h0 => ?_, fun j hj => ?_⟩
    · exfalso
      -- the first one is ready
      obtain ⟨s, r, rfl⟩ : ∃ s r, rem = s :: r := by
        cases rem with
        | nil => simp at hlen
        | cons s r => exact ⟨s, r, rfl⟩
      have hs : s ∈ plan := hsub.subset (by simp)
      obtain ⟨o, ho, hst⟩ := opAt_spec (F.step s hs)
      have hsl := F.lt s hs
      have : s.i ∈ Region.ready .any ops listed := by
        refine mem_ready.2 ⟨(hin s.i hsl).2 (by simp), o, ho, fun e he hb => ?_⟩
        simp only [Bool.and_eq_true] at hst
        have hon := hst.2
        rw [Array.all_eq_true'] at hon
        have := hon e he
        simp only [hb, Bool.not_true, Bool.false_or, List.any_eq_true, beq_iff_eq] at this
        obtain ⟨t, ht, hte⟩ := this
        have hdep : dep ops e.on s.i = true := by
          unfold dep
          rw [ho]
          exact Array.any_eq_true'.2 ⟨e, he, by simp [hb]⟩
        have hel : e.on < ops.size := hte ▸ F.lt t ht
        have hnot : e.on ∉ (s :: r).map (·.i) := by
          intro hm
          rw [List.map_cons, List.mem_cons] at hm
          rcases hm with hm | hm
          · rw [hm, F.selfd s.i hsl] at hdep; cases hdep
          · obtain ⟨q, hq, hqe⟩ := List.mem_map.1 hm
            have hpw := F.pairs.sublist hsub
            rw [List.pairwise_cons] at hpw
            have := hpw.1 q hq
            simp only [pairB, Bool.and_eq_true, Bool.not_eq_true'] at this
            have h2 := this.1.2
            rw [hqe, hdep] at h2; cases h2
        have h3 : listed.getD e.on true = true := by
          cases hh : listed.getD e.on true with
          | true => rfl
          | false => exact absurd ((hin e.on hel).1 hh) hnot
        have hel' : e.on < listed.size := by rw [hls]; exact hel
        simp [hel'] at h3 ⊢
        exact h3
      rw [h0] at this; cases this
    · obtain ⟨hjun, oj, hoj, hall⟩ := mem_ready.1 hj
      have hjl : j < ops.size := (Array.getElem?_eq_some_iff.1 hoj).1
      obtain ⟨s, hs, rfl⟩ := List.mem_map.1 ((hin j hjl).1 hjun)
      obtain ⟨pre, post, rfl⟩ := List.append_of_mem hs
      have hexe : ∀ y, dep ops y s.i = true → y ∉ (pre ++ s :: post).map (·.i) := by
        intro y hd hm
        unfold dep at hd
        rw [hoj] at hd
        obtain ⟨e, he, hb⟩ := Array.any_eq_true'.1 hd
        simp only [Bool.and_eq_true, beq_iff_eq] at hb
        have h1 := hall e he hb.1
        rw [hb.2] at h1
        obtain ⟨t, ht, rfl⟩ := List.mem_map.1 hm
        have h2 := (hin t.i (F.lt t (hsub.subset ht))).2 hm
        rw [getD_both h2] at h1
        cases h1
      -- ancestors of what is done are done
      have hancs : ∀ (m x : Nat), x ≤ m → x < ops.size → x ∉ (pre ++ s :: post).map (·.i) ∨ x = s.i → ∀ y, y < ops.size → anc ops y x = true → y ∉ (pre ++ s :: post).map (·.i) := by
        intro m
        induction m with
        | zero =>
          intro x hx hxl hc y hyl ha
          rcases F.ancs x y hxl hyl ha with hd | ⟨d, _, _, _, hlt⟩
          · rcases hc with hc | hc
            · exact hdown x hxl hc y hd
            · exact hexe y (hc ▸ hd)
          · omega
        | succ m ihm =>
          intro x hx hxl hc y hyl ha
          have hdd : ∀ y, dep ops y x = true → y ∉ (pre ++ s :: post).map (·.i) := fun y hd => by
            rcases hc with hc | hc
            · exact hdown x hxl hc y hd
            · exact hexe y (hc ▸ hd)
          rcases F.ancs x y hxl hyl ha with hd | ⟨d, hdl, hd, had, hlt⟩
          · exact hdd y hd
          · exact ihm d (by omega) hdl (.inl (hdd d hd)) y hyl had
      have hb := bring F s post pre a w hsub (fun p hp => by
        cases hh : anc ops p.i s.i with
        | false => rfl
        | true => exact absurd (List.mem_map.2 ⟨p, by simp [hp], rfl⟩) (hancs s.i s.i (Nat.le_refl _) hjl (.inr rfl) p.i (F.lt p (hsub.subset (by simp [hp]))) hh)) (fun x hx c hc hn => by
        cases hh : anc ops x.i c with
        | false => rfl
        | true => exact absurd (List.mem_map.2 ⟨x, hx, rfl⟩) (hancs c c (Nat.le_refl _) hc (.inl hn) x.i (F.lt x (hsub.subset hx)) hh)) hsz h
      refine wpOp_of_opG (opG_mono (fun a' w' hsz' hg => ?_) hb)
      have hnd : (pre ++ s :: post).Pairwise fun p q => p.i ≠ q.i := (F.pairs.sublist hsub).imp fun h => by
        simp only [pairB, Bool.and_eq_true, bne_iff_ne, ne_eq] at h; exact h.1.1.1
      have hsnot : s.i ∉ (pre ++ post).map (·.i) := by
        rw [List.pairwise_append] at hnd
        obtain ⟨_, h2, h3⟩ := hnd
        rw [List.pairwise_cons] at h2
        intro hm
        rw [List.map_append, List.mem_append] at hm
        rcases hm with hm | hm
        · obtain ⟨q, hq, he⟩ := List.mem_map.1 hm
          exact h3 q hq s (by simp) he
        · obtain ⟨q, hq, he⟩ := List.mem_map.1 hm
          exact h2.1 q hq he.symm
      refine ih (pre ++ post) (by simp at hlen ⊢; omega) _ a' w' ((List.Sublist.append (List.Sublist.refl pre) (List.sublist_cons_self s post)).trans hsub) (by simp [hls]) (fun x hx => ?_) (fun x hx hn y hd hm => ?_) (by rw [hsz', hsz]) hg
      · by_cases hxs : x = s.i
        · subst hxs
          have : (listed.setIfInBounds s.i true).getD s.i true = true := by simp [hls, hx]
          rw [this]
          simp only [Bool.true_eq_false, false_iff]
          exact hsnot
        · rw [getD_set_ne true (Ne.symm hxs), hin x hx]
          simp only [List.map_append, List.map_cons, List.mem_append, List.mem_cons, hxs, false_or]
      · have hm' : y ∈ (pre ++ s :: post).map (·.i) := by
          simp only [List.map_append, List.map_cons, List.mem_append, List.mem_cons] at hm ⊢
          rcases hm with h | h
          · exact .inl h
          · exact .inr (.inr h)
        by_cases hxs : x = s.i
        · subst hxs; exact hexe y hd hm'
        · refine hdown x hx ?_ y hd hm'
          simp only [List.map_append, List.map_cons, List.mem_append, List.mem_cons, hxs, false_or] at hn ⊢
          exact hn

/-- A region that draws, by a plan. -/
theorem wp_region_plan {n : Nat} {plan : Plan} {id : Nat} {Q : Exit → Act → World → Prop} {a : Act} {w : World} (hm : P.follows .mixedOrders = true) (hok : planOK ops n plan = true) (hsz : a.tmps.size = n)
    (h : GW P ops (fun a w => a.tmps.size = n → Q .normal a w) plan a { w with drawn := w.drawn + 1 }) : (Code.region id ops true).wp P Q a w := by
  have F := planFacts hok
  refine wp_region_any hm ?_
  have := gw_sound F (Q' := Q) (fun a w hs h => h hs) plan (Array.replicate ops.size false) a { w with drawn := w.drawn + 1 } (List.Sublist.refl _) (by simp) (fun x hx => by
    obtain ⟨s, hs, he⟩ := F.full x hx
    simp only [Array.getD_eq_getD_getElem?, List.mem_map]
    simp only [hx, Array.getElem?_replicate, if_true, Option.getD_some, true_iff]
    exact ⟨s, hs, he⟩) (fun x hx hn => by
    obtain ⟨s, hs, he⟩ := F.full x hx
    exact absurd (List.mem_map.2 ⟨s, hs, he⟩) hn) hsz h
  rwa [F.len] at this
end
end Go.Wk
