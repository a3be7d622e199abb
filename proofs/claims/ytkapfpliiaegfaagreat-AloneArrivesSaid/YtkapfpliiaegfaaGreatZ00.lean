import Derived.WalkKit
import Derived.OrdersIn
import Derived.RangeFuncSeq
import Derived.StillTail
import Derived.KernelRfl
namespace Go.Wk
open Go
def Vp : Op → Bool
  | .move _ | .assign _ | .pick .. | .load .. | .nilCheck _ | .binOp .. | .unOp .. | .makeInterface .. | .makeFunc .. | .slice ..
  | .fieldAddr .. | .field .. | .indexAddr .. | .index .. | .lookup .. | .extract .. | .typeAssert .. | .build .. => false
  | .convert s d _ => s == d
  | .call { callee := .builtin .len, .. } | .call { callee := .builtin .cap, .. } | .call { callee := .builtin .min, .. } | .call { callee := .builtin .max, .. } => false
  | _ => true
def xju : Op → Bool
  | .move _ | .assign _ | .pick .. | .extract .. | .unOp .not _ _ => true
  | _ => false
structure JH where
  i : Nat
  eff : Bool
  chk : List Nat
abbrev Vj := List JH
inductive Xj where
  | fin : Xj
  | st : JH → Xj → Xj
  | br : Xj → Xj → Xj
def Xj.r : Nat → Nat → Xj → Xj
  | _, 0, t => t
  | i, n + 1, t => .st ⟨i, false, []⟩ (Xj.r (i + 1) n t)
def Xj.e (i : Nat) (c : List Nat) (t : Xj) : Xj := .st ⟨i, true, c⟩ t
def np : Nat → Xj := fun _ => .fin
section
variable (P : Program) (ops : Array Oper)
def dep (j i : Nat) : Bool := match ops[i]? with
  | some o => o.after.any fun e => Region.binds .any e && e.on == j
  | none => false
def anc (j i : Nat) : Bool := ((Region.before ops).getD i 0).testBit j
def xgx (i : Nat) (f : Oper → Bool) : Bool := match ops[i]? with
  | some o => f o
  | none => false
def xbR (p s : JH) : Bool :=
  p.i != s.i && !anc ops s.i p.i && !dep ops s.i p.i && (p.eff ||
    !s.eff || anc ops p.i s.i || ((s.chk.contains p.i || xgx ops p.i fun o => xju o.op) && xgx ops p.i fun o => s.chk.all fun c => match ops[c]?, o.dst with
      | some oc, some d => !(oc.looksAt ops).contains d || anc ops p.i c
      | _, _ => true))
def xiU (n : Nat) (path : Vj) (s : JH) : Bool :=
  xgx ops s.i fun o => Vp o.op == s.eff && (s.eff || o.dst.isSome) && (match o.dst with | some d => decide (d < n) | none => true) && (match o.op with | .select .. => false | .defer _ => false | _ => true) &&
    o.after.all (fun e => !Region.binds .any e || path.any (fun p => p.i == e.on))
def xbO (n : Nat) (path : Vj) (s : JH) : Bool :=
  decide (path.length < ops.size) && decide (s.i < ops.size) && path.all (fun p => xbR ops p s) && xiU ops n path s && s.chk.all fun c => path.any (fun p => p.i == c) && xgx ops c fun o => !Vp o.op
def xkR (path : Vj) (l : List Nat) : Bool := (List.range ops.size).all fun i => path.any (fun p => p.i == i) || l.contains i ||
  xgx ops i fun o => o.after.any fun e => Region.binds .any e && !path.any fun p => p.i == e.on
def VG : Xj → List Nat
  | .fin => []
  | .st s _ => [s.i]
  | .br a b => VG a ++ VG b
def Zt (n : Nat) : Bool → Vj → Xj → Bool
  | c, path, .fin => !c && decide (path.length = ops.size) && (List.range ops.size).all fun k => path.any fun p => p.i == k
  | c, path, .st s t => xbO ops n path s && (if s.eff then c || xkR ops path [s.i] else !c) && Zt n false (path ++ [s]) t
  | c, path, .br a b => (c || xkR ops path (VG a ++ VG b)) && Zt n true path a && Zt n true path b
def xtB : Bool := (List.range ops.size).all fun i => (List.range ops.size).all fun y =>
  !anc ops y i || dep ops y i || (List.range ops.size).any fun d => dep ops d i && anc ops y d && decide (d < i)
def xtt : Bool := (List.range ops.size).all fun x => (List.range ops.size).all fun y =>
  match ops[x]?, ops[y]? with
  | some ox, some oy => (match ox.dst with
    | some d => (x == y || oy.dst != some d) && (!(oy.looksAt ops).contains d || anc ops x y || anc ops y x)
    | none => true)
  | _, _ => true
def xuq : Bool := xtB ops && xtt ops && Region.noSelect ops && (List.range ops.size).all (fun k => !anc ops k k && !dep ops k k && xgx ops k fun o => Vp o.op || o.dst.isSome)
def xeE (n : Nat) (plan : Xj) : Bool := xuq ops && Zt ops n false [] plan
end
section
variable {P : Program} {ops : Array Oper}
theorem Zr {i : Nat} {f : Oper → Bool} (h : xgx ops i f = true) : ∃ o, ops[i]? = some o ∧ f o = true := by
  unfold xgx at h
  split at h
  · rename_i o ho; exact ⟨o, ho, h⟩
  · cases h
def Okc (P : Program) (ops : Array Oper) (c : Nat) (a : Act) (w : World) : Prop :=
  ∀ oc, ops[c]? = some oc → Region.wanted oc (yielded ops a.tmps) = true → ∃ d, oc.dst = some d ∧ (execOp a.eval oc).run P w = .ok (.value (a.tmps.getD d undef)) w
def Fw (ro : Option Nat) : Fence := { fn := fun _ => True, depth := none, alive := false, round := ro }
def Jf (P : Program) (l : Nat) (f : FuncId) (tmps : Array Value) (assign body : Code) (w : World) (R : Ending → World → Prop) : Prop := RoundIn Fence.wide 0 P l f tmps assign body w R
theorem Jf.mono {P : Program} {l : Nat} {f : FuncId} {tmps : Array Value} {assign body : Code} {w : World} {R R' : Ending → World → Prop} (h : Jf P l f tmps assign body w R) (hr : ∀ e w', R e w' → R' e w') : Jf P l f tmps assign body w R' := RoundIn.mono h hr
theorem Jf.inn {P : Program} {l : Nat} {f : FuncId} {tmps : Array Value} {assign body : Code} {w : World} {R : Ending → World → Prop} (h : Jf P l f tmps assign body w R) (ro : Option Nat) (m : Nat) : RoundIn (Fw ro) m P l f tmps assign body w R :=
  ⟨trivial, fun c cs _ => h.2 c cs (room_wide _)⟩
theorem Jf.of {P : Program} {l : Nat} {f : FuncId} {tmps : Array Value} {assign body : Code} {w : World} {R : Ending → World → Prop} {m : Nat} (h : RoundIn Fence.wide m P l f tmps assign body w R) : Jf P l f tmps assign body w R :=
  ⟨trivial, fun c cs _ => h.2 c cs (room_wide _)⟩
theorem xhD {P : Program} {f : FuncId} {args : Array Value} {w : World} {R : Ending → World → Prop} (h : Calls P f args w R) (ro : Option Nat) (m : Nat) : CallsIn (Fw ro) m P f args w R := callsIn_wide.2 h
theorem xsM {P : Program} {row : String} {args : Array Value} {w : World} {R : Value → World → Prop} (h : Rows P row args w R) (ro : Option Nat) (m : Nat) : RowsIn (Fw ro) m P row args w R := fun c cs _ =>
  let ⟨v, w', r, s⟩ := h c cs; ⟨v, w', r, stepsIn_wide.2 s⟩
def Qh (P : Program) (o : Oper) (a : Act) (next : Act → World → Prop) : Result Next → Prop
  | .ok (.value v) w' => next (a.put o.dst v) w'
  | .ok .skip w' => next (a.put o.dst undef) w'
  | .ok (.enter f args) w' => Calls P f args w' fun
      | .returned v, w'' => next (a.put o.dst v) w''
      | _, _ => False
  | .ok (.row row args) w' => Rows P row args w' fun v w'' => next (a.put o.dst v) w''
  | .ok (.round l f tmps assign body) w' => Jf P l f tmps assign body w' fun
      | .returned v, w'' => next (a.put o.dst v) w''
      | _, _ => False
  | _ => False
def opG (P : Program) (ops : Array Oper) (s : JH) (rem : List Nat) (K : Act → World → Prop) (a : Act) (w : World) : Prop :=
  match ops[s.i]? with
  | none => False
  | some o =>
    if Region.wanted o (yielded ops a.tmps) then
      if s.eff then Qh P o a (fun a' w' => (∀ c ∈ s.chk, c ∉ rem → Okc P ops c a' w') ∧ K a' w') ((execOp a.eval o).run P w)
      else ∃ v, (execOp a.eval o).run P w = .ok (.value v) w ∧ K (a.put o.dst v) w
    else K (a.put o.dst undef) w
def GW (P : Program) (ops : Array Oper) (Q : Act → World → Prop) : Vj → Act → World → Prop
  | [], a, w => Q a w
  | s :: r, a, w => opG P ops s (r.map (·.i)) (GW P ops Q r) a w
def GT (P : Program) (ops : Array Oper) (Q : Act → World → Prop) : Xj → Act → World → Prop
  | .fin, a, w => Q a w
  | .st s t, a, w => opG P ops s [] (GT P ops Q t) a w
  | .br x y, a, w => GT P ops Q x a w ∧ GT P ops Q y a w
theorem xdV {o : Oper} {a : Act} {w : World} {K : Act → World → Prop} {Q : Exit → Act → World → Prop} {ro : Option Nat} {m : Nat} (hd : ∀ c, o.op ≠ .defer c) (h : Qh P o a K ((execOp a.eval o).run P w)) : o.wpIn (Fw ro) m P a w K Q := by
  refine ⟨fun _ _ => trivial, ?_⟩
  rw [Oper.semAt_eq _ _ _ hd]
  generalize (execOp a.eval o).run P w = r at *
  cases r with
  | ok n w' =>
    cases n <;> simp only [Qh] at h <;> simp only [Oper.uponIn] <;> first
      | exact h
      | exact ⟨fun h => (by cases h), xhD (Calls.mono h (fun e w'' he => by cases e <;> first | exact he | exact he.elim)) _ _⟩
      | exact ⟨fun h => (by cases h), xsM h _ _⟩
      | exact ⟨fun h => (by cases h), Jf.inn (Jf.mono h (fun e w'' he => by cases e <;> first | exact he | exact he.elim)) _ _⟩
  | halt x w' => simp only [Qh] at h
theorem xc0 {s : JH} {rem : List Nat} {K : Act → World → Prop} {a : Act} {w : World} {Q : Exit → Act → World → Prop} {ro : Option Nat} {m : Nat} (hd : ∀ o, ops[s.i]? = some o → ∀ c, o.op ≠ .defer c) (h : opG P ops s rem K a w) :
    wpOpIn (Fw ro) m P ops Q s.i K a w := by
  unfold opG at h
  unfold wpOpIn
  split
  · rename_i ho; simp only [ho] at h
  · rename_i o ho
    simp only [ho] at h
    split
    · rename_i hw
      simp only [hw, if_true] at h
      split at h
      · exact Oper.wpIn_mono (fun _ _ h => h.2) (xdV (hd o ho) h)
      · obtain ⟨v, hr, hk⟩ := h
        refine ⟨fun _ _ => trivial, ?_⟩
        rw [Oper.semAt_eq _ _ _ (hd o ho), hr]
        exact hk
    · rename_i hw; simp only [hw] at h; exact ⟨fun _ _ => trivial, h⟩
def Yld (P : Program) (ops : Array Oper) (o : Oper) (v : Value) (a : Act) (w : World) : Prop :=
  (Region.wanted o (yielded ops a.tmps) = true ∧ (execOp a.eval o).run P w = .ok (.value v) w) ∨ (Region.wanted o (yielded ops a.tmps) = false ∧ v = undef)
theorem xel {o : Oper} (h : xju o.op = true) {ρ : Operand → Value} {w w' : World} {v : Value} (hr : (execOp ρ o).run P w = .ok (.value v) w) :
    (execOp ρ o).run P w' = .ok (.value v) w' := by
  obtain ⟨dst, op, type, pos, after, guard⟩ := o
  cases op <;> simp only [xju, Bool.false_eq_true] at h <;> simp only [execOp] at hr ⊢
  case move x => simp at hr ⊢; exact hr
  case assign x => simp at hr ⊢; exact hr
  case pick c x y =>
    simp only [Sem.run_bind] at hr ⊢
    cases hc : ρ c <;> simp [asBool, hc] at hr ⊢
    exact hr
  case unOp op t x =>
    cases op <;> simp only [Bool.false_eq_true] at h
    simp only [Sem.run_bind] at hr ⊢
    cases hx : ρ x <;> simp [Op.unary, hx] at hr ⊢
    exact hr
  case extract t i =>
    simp only [Sem.run_bind] at hr ⊢
    cases hx : ρ t <;> simp [Instr.extract, hx] at hr ⊢
    rename_i vs
    cases hv : vs[i]? <;> simp [hv] at hr ⊢
    exact hr
theorem xet {x y : Oper} (h1 : ∀ d, x.dst = some d → d ∉ y.looksAt ops) (a : Act) (v : Value) (hs : ∀ cs b, y.op ≠ .select cs b) :
    execOp (a.put x.dst v).eval y = execOp a.eval y ∧ Region.wanted y (yielded ops (a.put x.dst v).tmps) = Region.wanted y (yielded ops a.tmps) :=
  ⟨execOp_put y hs a x.dst v h1, wanted_put y a x.dst v h1⟩
theorem xh9 {a : Act} {x : Option Tmp} {v : Value} {d : Tmp} (h : x ≠ some d) : (a.put x v).tmps.getD d undef = a.tmps.getD d undef := by
  cases x with
  | none => rfl
  | some e =>
    have : e ≠ d := fun he => h (by rw [he])
    simp [Act.put, Array.getElem?_setIfInBounds_ne this]
theorem xpG {c : Nat} {x : Oper} {v : Value} {a : Act} {w : World} (hs : ∀ o cs b, ops[c]? = some o → o.op ≠ .select cs b)
    (h1 : ∀ o, ops[c]? = some o → ∀ d, x.dst = some d → d ∉ o.looksAt ops ∧ o.dst ≠ some d) (h : Okc P ops c (a.put x.dst v) w) : Okc P ops c a w := by
  intro oc hc hw
  obtain ⟨e1, e2⟩ := xet (ops := ops) (x := x) (y := oc) (fun d hd => (h1 oc hc d hd).1) a v (fun cs b => hs oc cs b hc)
  obtain ⟨d, hd, hr⟩ := h oc hc (by rw [e2]; exact hw)
  rw [e1, xh9 (fun he => (h1 oc hc d he).2 hd)] at hr
  exact ⟨d, hd, hr⟩
theorem xad (a : Act) (x : Option Tmp) (v : Value) : (a.put x v).tmps.size = a.tmps.size := by
  cases x <;> simp [Act.put]
structure OpsFacts (ops : Array Oper) : Prop where
  ancs : ∀ i y, i < ops.size → y < ops.size → anc ops y i = true → dep ops y i = true ∨ ∃ d, d < ops.size ∧ dep ops d i = true ∧ anc ops y d = true ∧ d < i
  nosel : Region.noSelect ops = true
  self : ∀ k, k < ops.size → anc ops k k = false
  selfd : ∀ k, k < ops.size → dep ops k k = false
  rdst : ∀ (j : Nat) o, ops[j]? = some o → Vp o.op = false → o.dst.isSome = true
  dsts : ∀ x y ox oy d, ops[x]? = some ox → ops[y]? = some oy → ox.dst = some d → (x = y ∨ oy.dst ≠ some d) ∧ (d ∈ oy.looksAt ops → anc ops x y = true ∨ anc ops y x = true)
structure YC (ops : Array Oper) (n : Nat) (plan : Vj) : Prop extends OpsFacts ops where
  lt : ∀ s ∈ plan, s.i < ops.size
  pairs : plan.Pairwise fun p s => xbR ops p s = true
  step : ∀ s ∈ plan, xiU ops n plan s = true
  chks : ∀ s ∈ plan, ∀ c ∈ s.chk, c ∈ plan.map (·.i)
theorem xii (h : xuq ops = true) : OpsFacts ops := by
  simp only [xuq, Bool.and_eq_true, List.all_eq_true] at h
  obtain ⟨⟨⟨h6, h7⟩, h8⟩, h9⟩ := h
  simp only [List.mem_range, Bool.not_eq_true'] at h9
  refine ⟨fun i y hi hy ha => ?_, h8, fun k hk => (h9 k hk).1.1, fun k hk => (h9 k hk).1.2, fun j o hj he => ?_, fun x y ox oy d hx hy hd => ?_⟩
  · simp only [xtB, List.all_eq_true, List.mem_range, Bool.or_eq_true, List.any_eq_true, Bool.and_eq_true, Bool.not_eq_true'] at h6
    simp only [decide_eq_true_eq] at h6
    rcases h6 i hi y hy with (h | h) | ⟨d, hd, ⟨h, h'⟩, h''⟩
    · rw [h] at ha; cases ha
    · exact .inl h
    · exact .inr ⟨d, hd, h, h', h''⟩
  · obtain ⟨o', ho', h⟩ := Zr (h9 j (Array.getElem?_eq_some_iff.1 hj).1).2
    obtain rfl : o = o' := Option.some.inj (hj.symm.trans ho')
    simpa [he] using h
  · have hxl : x < ops.size := (Array.getElem?_eq_some_iff.1 hx).1
    have hyl : y < ops.size := (Array.getElem?_eq_some_iff.1 hy).1
    simp only [xtt, List.all_eq_true, List.mem_range] at h7
    have := h7 x hxl y hyl
    simp only [hx, hy, hd, Bool.and_eq_true, Bool.or_eq_true, beq_iff_eq, bne_iff_ne, Bool.not_eq_true', ne_eq] at this
    refine ⟨this.1, fun hm => ?_⟩
    rcases this.2 with (h | h) | h
    · simp at h; exact absurd hm h
    · exact .inl h
    · exact .inr h
theorem xeQ {n : Nat} {path path' : Vj} {s : JH} (h : ∀ p ∈ path, p ∈ path') (hs : xiU ops n path s = true) : xiU ops n path' s = true := by
  obtain ⟨o, ho, h1⟩ := Zr hs
  unfold xiU xgx
  rw [ho]
  simp only [Bool.and_eq_true] at h1 ⊢
  refine ⟨h1.1, ?_⟩
  rw [Array.all_eq_true'] at *
  intro e he
  have := h1.2 e he
  simp only [Bool.or_eq_true, List.any_eq_true] at this ⊢
  rcases this with h2 | ⟨p, hp, h2⟩
  · exact .inl h2
  · exact .inr ⟨p, h p hp, h2⟩
theorem YC.nil {n : Nat} (O : OpsFacts ops) : YC ops n [] := { O with lt := by simp, pairs := .nil, step := by simp, chks := by simp }
theorem YC.snoc {n : Nat} {path : Vj} {s : JH} (F : YC ops n path) (h : xbO ops n path s = true) : YC ops n (path ++ [s]) := by
  simp only [xbO, Bool.and_eq_true, decide_eq_true_eq, List.all_eq_true] at h
  obtain ⟨⟨⟨⟨_, h1⟩, h2⟩, h3⟩, h4⟩ := h
  refine { F.toOpsFacts with lt := fun x hx => ?_, pairs := ?_, step := fun x hx => ?_, chks := fun x hx c hc => ?_ }
  · rcases List.mem_append.1 hx with hx | hx
    · exact F.lt x hx
    · simp only [List.mem_singleton] at hx; subst hx; exact h1
  · rw [List.pairwise_append]
    exact ⟨F.pairs, List.pairwise_singleton _ _, fun p hp q hq => by simp only [List.mem_singleton] at hq; subst hq; exact h2 p hp⟩
  · rcases List.mem_append.1 hx with hx | hx
    · exact xeQ (fun p hp => List.mem_append.2 (.inl hp)) (F.step x hx)
    · simp only [List.mem_singleton] at hx; subst hx
      exact xeQ (fun p hp => List.mem_append.2 (.inl hp)) h3
  · rw [List.map_append, List.mem_append]
    left
    rcases List.mem_append.1 hx with hx | hx
    · exact F.chks x hx c hc
    · simp only [List.mem_singleton] at hx; subst hx
      obtain ⟨p, hp, he⟩ := List.any_eq_true.1 (h4 c hc).1
      exact List.mem_map.2 ⟨p, hp, by simpa using he⟩
theorem xlJ {n : Nat} {plan : Vj} (F : YC ops n plan) {s : JH} (hs : s ∈ plan) {o : Oper} (ho : ops[s.i]? = some o) : (∀ cs b, o.op ≠ .select cs b) ∧ (∀ c, o.op ≠ .defer c) ∧ (s.eff = false → o.dst.isSome = true) ∧
    Vp o.op = s.eff ∧ (∀ d, o.dst = some d → d < n) := by
  obtain ⟨o', ho', h⟩ := Zr (F.step s hs)
  obtain rfl : o = o' := Option.some.inj (ho.symm.trans ho')
  simp only [Bool.and_eq_true, beq_iff_eq, Bool.or_eq_true] at h
  obtain ⟨⟨⟨⟨h1, h2⟩, h4⟩, h3⟩, _⟩ := h
  refine ⟨fun cs b e => ?_, fun c e => ?_, fun e => ?_, h1, fun d hd => ?_⟩
  · rw [e] at h3; simp at h3
  · rw [e] at h3; simp at h3
  · rcases h2 with h2 | h2
    · rw [e] at h2; cases h2
    · exact h2
  · rw [hd] at h4; simpa using h4
theorem xr2 {n : Nat} {plan : Vj} (F : YC ops n plan) {p j : JH} (hp : p ∈ plan) (hj : j ∈ plan) (hpj : xbR ops p j = true) (hna : anc ops p.i j.i = false)
    {op : Oper} (hop : ops[p.i]? = some op) (hpe : p.eff = false) {rem : List Nat} (hprem : p.i ∉ rem) (hcl : ∀ c ∈ j.chk, c < ops.size → c ≠ p.i → c ∉ rem → anc ops p.i c = false)
    {v : Value} {a : Act} {w : World} {K : Act → World → Prop} (hsz : a.tmps.size = n) (hy : Yld P ops op v a w) (h : opG P ops j rem K (a.put op.dst v) w) :
    opG P ops j (p.i :: rem) (fun a' w' => Yld P ops op v a' w' ∧ K (a'.put op.dst v) w') a w := by
  unfold opG at h ⊢
  split at h
  · exact h.elim
  rename_i oj hoj
  have hpl : p.i < ops.size := F.lt p hp
  have hjl : j.i < ops.size := F.lt j hj
  obtain ⟨hselj, hdefj, hdstj, heffj, _⟩ := xlJ F hj hoj
  obtain ⟨hselp, hdefp, hdstp, heffp, hlp⟩ := xlJ F hp hop
  have hpj' := hpj
  simp only [xbR, Bool.and_eq_true, bne_iff_ne, ne_eq, Bool.not_eq_true', hpe, Bool.false_or, hna, Bool.or_false, Bool.or_eq_true, Bool.and_eq_true] at hpj'
  obtain ⟨⟨⟨hne, hnajp⟩, _⟩, hpj3⟩ := hpj'
  have h1 : ∀ d, op.dst = some d → d ∉ oj.looksAt ops := fun d hd hm => by
    have := (F.dsts p.i j.i op oj d hop hoj hd).2 hm
    rw [hna, hnajp] at this; simp at this
  have h2 : ∀ d, op.dst = some d → oj.dst ≠ some d := fun d hd => (F.dsts p.i j.i op oj d hop hoj hd).1.resolve_left hne
  have h3 : ∀ d, oj.dst = some d → d ∉ op.looksAt ops := fun d hd hm => by
    have := (F.dsts j.i p.i oj op d hoj hop hd).2 hm
    rw [hnajp, hna] at this; simp at this
  obtain ⟨e1, e2⟩ := xet (ops := ops) (x := op) (y := oj) h1 a v hselj
  rw [e2] at h
  have keep : ∀ u, Region.wanted op (yielded ops (a.put oj.dst u).tmps) = Region.wanted op (yielded ops a.tmps) ∧ execOp (a.put oj.dst u).eval op = execOp a.eval op := fun u =>
    ⟨(xet (ops := ops) (x := oj) (y := op) h3 a u hselp).2, (xet (ops := ops) (x := oj) (y := op) h3 a u hselp).1⟩
  have keepy : ∀ u, Yld P ops op v (a.put oj.dst u) w := fun u => by
    unfold Yld at *
    rw [(keep u).1, (keep u).2]; exact hy
  split
  · rename_i hw
    simp only [hw, if_true] at h
    split
    · rename_i hje
      simp only [hje, if_true] at h
      have after : ∀ u w', (∀ c ∈ j.chk, c ∉ rem → Okc P ops c ((a.put op.dst v).put oj.dst u) w') → K ((a.put op.dst v).put oj.dst u) w' →
          (∀ c ∈ j.chk, c ∉ p.i :: rem → Okc P ops c (a.put oj.dst u) w') ∧ Yld P ops op v (a.put oj.dst u) w' ∧ K ((a.put oj.dst u).put op.dst v) w' := by
        intro u w' hc hk
        rw [Act.put_comm a v u h2] at hc hk
        refine ⟨fun c hmc hn => ?_, ?_, hk⟩
        · simp only [List.mem_cons, not_or] at hn
          have hcc := hc c hmc hn.2
          rcases Nat.lt_or_ge c ops.size with hlt | hge
          · refine xpG (x := op) (v := v) (fun o cs b ho => ?_) (fun o ho d hd => ⟨fun hm => ?_, ?_⟩) hcc
            · exact Region.noSelect_spec F.nosel c o cs b ho
            · rcases hpj3 with h | h
              · rw [hje] at h; cases h
              · obtain ⟨o', ho', hall⟩ := Zr h.2
                obtain rfl : op = o' := Option.some.inj (hop.symm.trans ho')
                have := List.all_eq_true.1 hall c hmc
                simp only [ho, hd, Bool.or_eq_true, Bool.not_eq_true'] at this
                rcases this with h | h
                · simp at h; exact h hm
                · rw [hcl c hmc hlt hn.1 hn.2] at h; cases h
            · exact (F.dsts p.i c op o d hop ho hd).1.resolve_left (fun e => hn.1 e.symm)
          · intro oc hoc
            rw [Array.getElem?_eq_none hge] at hoc; cases hoc
        · rcases hy with ⟨hwp, hrp⟩ | ⟨hwp, rfl⟩
          · left
            rw [(keep u).1, (keep u).2]
            refine ⟨hwp, ?_⟩
            rcases hpj3 with h | ⟨h, _⟩
            · rw [hje] at h; cases h
            · rcases h with h | h
              rotate_left
              · obtain ⟨o', ho', hpure⟩ := Zr h
                obtain rfl : op = o' := Option.some.inj (hop.symm.trans ho')
                exact xel hpure hrp
              · have hm : p.i ∈ j.chk := by simpa using h
                have h4 : ∀ d, op.dst = some d → d ∉ op.looksAt ops := fun d hd hm => by
                  have := (F.dsts p.i p.i op op d hop hop hd).2 hm
                  rw [F.self p.i hpl] at this; simp at this
                obtain ⟨e5, e6⟩ := xet (ops := ops) (x := op) (y := op) h4 (a.put oj.dst u) v hselp
                obtain ⟨d, hd, hr⟩ := hc p.i hm hprem op hop (by rw [e6, (keep u).1]; exact hwp)
                rw [e5, (keep u).2] at hr
                have hv : ((a.put oj.dst u).put op.dst v).tmps.getD d undef = v := by
                  have hdl := hlp d hd
                  have hs2 : (a.put oj.dst u).tmps.size = n := by rw [xad]; exact hsz
                  generalize a.put oj.dst u = b at hs2
                  simp only [Act.put, hd]
                  simp [hs2, hdl]
                rw [hv] at hr
                exact hr
          · right
            rw [(keep u).1]
            exact ⟨hwp, rfl⟩
      rw [e1] at h
      generalize hres : (execOp a.eval oj).run P w = r at h ⊢
      cases r with
      | ok nx w' =>
        cases nx with
        | value u => simp only [Qh] at h ⊢; exact after u w' h.1 h.2
        | skip => simp only [Qh] at h ⊢; exact after undef w' h.1 h.2
        | enter f args =>
          simp only [Qh] at h ⊢
          exact Calls.mono h fun e w'' he => by
            cases e with
            | returned u => exact after u w'' he.1 he.2
            | panicked ch => exact he
            | outgrown => exact he
        | row row args => simp only [Qh] at h ⊢; exact Rows.mono h fun u w'' he => after u w'' he.1 he.2
        | round l f tmps assign body =>
          simp only [Qh] at h ⊢
          exact Jf.mono h fun e w'' he => by
            cases e with
            | returned u => exact after u w'' he.1 he.2
            | panicked ch => exact he
            | outgrown => exact he
        | _ => simp only [Qh] at h
      | halt x w' => simp only [Qh] at h
    · rename_i hje
      simp only [hje] at h
      obtain ⟨u, hr, hk⟩ := h
      rw [e1] at hr
      exact ⟨u, hr, keepy u, by rw [← Act.put_comm a v u h2]; exact hk⟩
  · rename_i hw
    simp only [hw] at h
    exact ⟨keepy _, by rw [← Act.put_comm a v undef h2]; exact h⟩
theorem xb5 {s : JH} {rem : List Nat} {K K' : Act → World → Prop} {a : Act} {w : World} (hk : ∀ a' w', a'.tmps.size = a.tmps.size → K a' w' → K' a' w') (h : opG P ops s rem K a w) : opG P ops s rem K' a w := by
  unfold opG at h ⊢
  split at h
  · exact h.elim
  rename_i o ho
  have hs : ∀ v, (a.put o.dst v).tmps.size = a.tmps.size := fun v => xad a o.dst v
  split
  · rename_i hw
    simp only [hw, if_true] at h
    split
    · rename_i he
      simp only [he, if_true] at h
      generalize (execOp a.eval o).run P w = r at h ⊢
      cases r with
      | ok nx w' =>
        cases nx with
        | value u => simp only [Qh] at h ⊢; exact ⟨h.1, hk _ _ (hs _) h.2⟩
        | skip => simp only [Qh] at h ⊢; exact ⟨h.1, hk _ _ (hs _) h.2⟩
        | enter f args =>
          simp only [Qh] at h ⊢
          exact Calls.mono h fun e w'' he => by
            cases e with
            | returned u => exact ⟨he.1, hk _ _ (hs _) he.2⟩
            | panicked ch => exact he
            | outgrown => exact he
        | row row args => simp only [Qh] at h ⊢; exact Rows.mono h fun u w'' he => ⟨he.1, hk _ _ (hs _) he.2⟩
        | round l f tmps assign body =>
          simp only [Qh] at h ⊢
          exact Jf.mono h fun e w'' he => by
            cases e with
            | returned u => exact ⟨he.1, hk _ _ (hs _) he.2⟩
            | panicked ch => exact he
            | outgrown => exact he
        | _ => simp only [Qh] at h
      | halt x w' => simp only [Qh] at h
    · rename_i he
      simp only [he] at h
      obtain ⟨v, hr, h'⟩ := h
      exact ⟨v, hr, hk _ _ (hs _) h'⟩
  · rename_i hw
    simp only [hw] at h
    exact hk _ _ (hs _) h
theorem xoR {n : Nat} {plan : Vj} (F : YC ops n plan) {Q : Act → World → Prop} (j : JH) (post : Vj) : ∀ (pre : Vj) (a : Act) (w : World),
    (pre ++ j :: post).Sublist plan → (∀ p ∈ pre, p.eff = false) → (∀ p ∈ pre, anc ops p.i j.i = false) → (∀ x ∈ pre ++ j :: post, ∀ c ∈ j.chk, c < ops.size → c ∉ (pre ++ j :: post).map (·.i) → anc ops x.i c = false) → a.tmps.size = n →
    GW P ops Q (pre ++ j :: post) a w → opG P ops j ((pre ++ post).map (·.i)) (GW P ops Q (pre ++ post)) a w
  | [], a, w, _, _, _, _, _, h => h
  | p :: pre, a, w, hsub, hre, hna, hcl, hsz, h => by
    have hp : p ∈ plan := hsub.subset (by simp)
    have hj : j ∈ plan := hsub.subset (by simp)
    have hpw := F.pairs.sublist hsub
    have hpj : xbR ops p j = true := by
      simp only [List.cons_append, List.pairwise_cons] at hpw
      exact hpw.1 j (by simp)
    have hnapj := hna p (by simp)
    have hpe : p.eff = false := hre p (by simp)
    have hsub' : (pre ++ j :: post).Sublist plan := (List.sublist_cons_self p _).trans hsub
    have hpnot : p.i ∉ (pre ++ j :: post).map (·.i) := by
      intro hm
      obtain ⟨s, hs, he⟩ := List.mem_map.1 hm
      simp only [List.cons_append, List.pairwise_cons] at hpw
      have := hpw.1 s hs
      simp only [xbR, Bool.and_eq_true, bne_iff_ne, ne_eq] at this
      exact this.1.1.1 he.symm
    have hcl' : ∀ x ∈ pre ++ j :: post, ∀ c ∈ j.chk, c < ops.size → c ∉ (pre ++ j :: post).map (·.i) → anc ops x.i c = false := by
      intro x hx c hck hc hn
      by_cases hcp : c = p.i
      · subst hcp
        simp only [List.cons_append, List.pairwise_cons] at hpw
        have := hpw.1 x hx
        simp only [xbR, Bool.and_eq_true, Bool.not_eq_true'] at this
        exact this.1.1.2
      · exact hcl x (by simp at hx ⊢; right; exact hx) c hck hc (by simp only [List.cons_append, List.map_cons, List.mem_cons, not_or]; exact ⟨hcp, hn⟩)
    have hprem : p.i ∉ (pre ++ post).map (·.i) := fun hm => hpnot (by
      simp only [List.map_append, List.mem_append, List.map_cons, List.mem_cons] at hm ⊢
      rcases hm with h | h
      · exact .inl h
      · exact .inr (.inr h))
    have hclp : ∀ c ∈ j.chk, c < ops.size → c ≠ p.i → c ∉ (pre ++ post).map (·.i) → anc ops p.i c = false := by
      intro c hck hc hcp hn
      by_cases hcj : c = j.i
      · subst hcj; exact hnapj
      · refine hcl p (by simp) c hck hc ?_
        simp only [List.cons_append, List.map_cons, List.map_append, List.mem_cons, List.mem_append, not_or] at hn ⊢
        exact ⟨hcp, hn.1, hcj, hn.2⟩
    simp only [List.cons_append, GW] at h
    unfold opG at h
    split at h
    · exact h.elim
    rename_i op hop
    have hput : ∀ v, (a.put op.dst v).tmps.size = n := fun v => by rw [xad]; exact hsz
    have main : ∀ v, Yld P ops op v a w → GW P ops Q (pre ++ j :: post) (a.put op.dst v) w → opG P ops j ((p :: pre ++ post).map (·.i)) (GW P ops Q (p :: pre ++ post)) a w := by
      intro v hy hg
      have ih := xoR F j post pre (a.put op.dst v) w hsub' (fun q hq => hre q (by simp [hq])) (fun q hq => hna q (by simp [hq])) hcl' (hput v) hg
      have := xr2 F hp hj hpj hnapj hop hpe hprem hclp hsz hy ih
      refine xb5 (fun a' w' _ h => ?_) this
      obtain ⟨hy', hk⟩ := h
      simp only [List.cons_append, GW]
      unfold opG
      simp only [hop]
      rcases hy' with ⟨h1, h2⟩ | ⟨h1, rfl⟩
      · simp only [h1, if_true, hpe, Bool.false_eq_true, if_false]
        exact ⟨v, h2, hk⟩
      · simp only [h1, Bool.false_eq_true, if_false]
        exact hk
    split at h
    · rename_i hw
      simp only [hpe, Bool.false_eq_true, if_false] at h
      obtain ⟨v, hr, hg⟩ := h
      exact main v (.inl ⟨hw, hr⟩) hg
    · rename_i hw
      exact main undef (.inr ⟨by simpa using hw, rfl⟩) h
theorem xr8 {s : JH} (hs : s.eff = false) (rem rem' : List Nat) (K : Act → World → Prop) : opG P ops s rem K = opG P ops s rem' K := by
  funext a w
  unfold opG
  simp only [hs, Bool.false_eq_true, if_false]
theorem xmC {K K' : Act → World → Prop} (hk : ∀ a w, K a w → K' a w) : ∀ (r : Vj) (a : Act) (w : World), GW P ops K r a w → GW P ops K' r a w
  | [], a, w, h => hk a w h
  | _ :: r, _, _, h => xb5 (fun a' w' _ h' => xmC hk r a' w' h') h
theorem xgE {K : Act → World → Prop} {s : JH} : ∀ (r : Vj), (∀ p ∈ r, p.eff = false) → GW P ops K (r ++ [s]) = GW P ops (opG P ops s [] K) r
  | [], _ => rfl
  | p :: r, h => by
    have ih := xgE (K := K) (s := s) r (fun q hq => h q (by simp [hq]))
    funext a w
    simp only [List.cons_append, GW, ih]
    rw [xr8 (h p (by simp))]
theorem xco {n : Nat} : ∀ (t : Xj) (path : Vj), Zt ops n false path t = true → YC ops n path → path.length ≤ ops.size → ∃ rs t', (∀ r ∈ rs, JH.eff r = false) ∧ YC ops n (path ++ rs) ∧ (path ++ rs).length ≤ ops.size ∧
    (t' = .fin ∧ (path ++ rs).length = ops.size ∧ (∀ k, k < ops.size → k ∈ (path ++ rs).map (·.i)) ∨ xkR ops (path ++ rs) (VG t') = true ∧ Zt ops n true (path ++ rs) t' = true) ∧
    ∀ (Q : Act → World → Prop) (pre : Vj), (∀ p ∈ pre, JH.eff p = false) → GW P ops (GT P ops Q t) pre = GW P ops (GT P ops Q t') (pre ++ rs)
  | .fin, path, h, F, hl => by
    refine ⟨[], .fin, by simp, by simpa using F, by simpa using hl, .inl ⟨rfl, ?_⟩, fun Q pre _ => by simp⟩
    simp only [Zt, Bool.and_eq_true, decide_eq_true_eq, List.all_eq_true, List.mem_range, List.any_eq_true, beq_iff_eq] at h
    rw [List.append_nil]
    exact ⟨h.1.2, fun k hk => by obtain ⟨p, hp, he⟩ := h.2 k hk; exact List.mem_map.2 ⟨p, hp, he⟩⟩
  | .br a b, path, h, F, hl => by
    refine ⟨[], .br a b, by simp, by simpa using F, by simpa using hl, .inr ?_, fun Q pre _ => by simp⟩
    simp only [Zt, Bool.false_or, Bool.and_eq_true, List.append_nil, Bool.true_or, VG] at h ⊢
    exact ⟨h.1.1, ⟨trivial, h.1.2⟩, h.2⟩
  | .st s t, path, h, F, hl => by
    cases he : s.eff with
    | true =>
      refine ⟨[], .st s t, by simp, by simpa using F, by simpa using hl, .inr ?_, fun Q pre _ => by simp⟩
      simp only [Zt, he, if_true, Bool.false_or, Bool.and_eq_true, List.append_nil, Bool.true_or, VG] at h ⊢
      exact ⟨h.1.2, ⟨h.1.1, trivial⟩, h.2⟩
    | false =>
      simp only [Zt, he, Bool.false_eq_true, if_false, Bool.not_false, Bool.and_eq_true, and_true] at h
      have hlt : path.length < ops.size := by
        have := h.1
        simp only [xbO, Bool.and_eq_true, decide_eq_true_eq] at this
        exact this.1.1.1.1
      obtain ⟨rs, t', h1, h2, h3, h4, h5⟩ := xco t (path ++ [s]) h.2 (F.snoc h.1) (by simp; omega)
      rw [List.append_assoc, List.singleton_append] at h2 h3 h4
      refine ⟨s :: rs, t', fun r hr => ?_, h2, h3, h4, fun Q pre hpre => ?_⟩
      · rcases List.mem_cons.1 hr with rfl | hr
        · exact he
        · exact h1 r hr
      · have := h5 Q (pre ++ [s]) (fun p hp => by
          rcases List.mem_append.1 hp with hp | hp
          · exact hpre p hp
          · simp only [List.mem_singleton] at hp; subst hp; exact he)
        rw [List.append_assoc, List.singleton_append] at this
        rw [← this, xgE pre hpre]
        rfl
theorem xa4 {n : Nat} {path : Vj} : ∀ {t : Xj}, Zt ops n true path t = true → ∃ j, j ∈ VG t
  | .fin, h => by simp [Zt] at h
  | .st s t, _ => ⟨s.i, by simp [VG]⟩
  | .br a b, h => by
    simp only [Zt, Bool.true_or, Bool.true_and, Bool.and_eq_true] at h
    obtain ⟨j, hj⟩ := xa4 h.1
    exact ⟨j, by simp [VG, hj]⟩
theorem xhU {n : Nat} {path : Vj} {j : Nat} : ∀ {t : Xj}, Zt ops n true path t = true → j ∈ VG t → ∃ s t', s.i = j ∧ xbO ops n path s = true ∧ Zt ops n false (path ++ [s]) t' = true ∧
    ∀ (Q : Act → World → Prop) (a : Act) (w : World), GT P ops Q t a w → opG P ops s [] (GT P ops Q t') a w
  | .fin, h, _ => by simp [Zt] at h
  | .st s t, h, hj => by
    simp only [VG, List.mem_singleton] at hj
    simp only [Zt, Bool.true_or, Bool.and_eq_true] at h
    exact ⟨s, t, hj.symm, h.1.1, h.2, fun Q a w h => h⟩
  | .br x y, h, hj => by
    simp only [Zt, Bool.true_or, Bool.true_and, Bool.and_eq_true] at h
    simp only [VG, List.mem_append] at hj
    rcases hj with hj | hj
    · obtain ⟨s, t', h1, h2, h3, h4⟩ := xhU h.1 hj
      exact ⟨s, t', h1, h2, h3, fun Q a w h => h4 Q a w h.1⟩
    · obtain ⟨s, t', h1, h2, h3, h4⟩ := xhU h.2 hj
      exact ⟨s, t', h1, h2, h3, fun Q a w h => h4 Q a w h.2⟩
theorem YC.apart {n : Nat} {path : Vj} (F : YC ops n path) : path.Pairwise fun p q => p.i ≠ q.i := F.pairs.imp fun h => by
  simp only [xbR, Bool.and_eq_true, bne_iff_ne, ne_eq] at h; exact h.1.1.1
theorem YC.depS {n : Nat} {path : Vj} (F : YC ops n path) {s : JH} (hs : s ∈ path) {o : Oper} (ho : ops[s.i]? = some o) {e : Edge} (he : e ∈ o.after) (hb : Region.binds .any e = true) : e.on ∈ path.map (·.i) := by
  obtain ⟨o', ho', hst⟩ := Zr (F.step s hs)
  obtain rfl : o = o' := Option.some.inj (ho.symm.trans ho')
  simp only [Bool.and_eq_true] at hst
  have hon := hst.2
  rw [Array.all_eq_true'] at hon
  have := hon e he
  simp only [hb, Bool.not_true, Bool.false_or, List.any_eq_true, beq_iff_eq] at this
  obtain ⟨t, ht, hte⟩ := this
  exact List.mem_map.2 ⟨t, ht, hte⟩
structure St (ops : Array Oper) (n : Nat) (path pre : Vj) (listed : Array Bool) : Prop where
  F : YC ops n path
  len : path.length ≤ ops.size
  sub : pre.Sublist path
  rd : ∀ p ∈ pre, p.eff = false
  ls : listed.size = ops.size
  inn : ∀ x, x < ops.size → (listed.getD x true = false ↔ x ∈ pre.map (·.i) ∨ x ∉ path.map (·.i))
  down : ∀ x, x < ops.size → x ∈ path.map (·.i) → x ∉ pre.map (·.i) → ∀ y, dep ops y x = true → y ∈ path.map (·.i) ∧ y ∉ pre.map (·.i)
theorem xee {path rs : Vj} (h : (path ++ rs).Pairwise fun p q => p.i ≠ q.i) {x : Nat} (h1 : x ∈ path.map (·.i)) (h2 : x ∈ rs.map (·.i)) : False := by
  obtain ⟨p, hp, rfl⟩ := List.mem_map.1 h1
  obtain ⟨q, hq, he⟩ := List.mem_map.1 h2
  exact (List.pairwise_append.1 h).2.2 p hp q hq he.symm
theorem St.shift {n : Nat} {path pre rs : Vj} {listed : Array Bool} (S : St ops n path pre listed) (hr : ∀ r ∈ rs, r.eff = false) (F : YC ops n (path ++ rs)) (hl : (path ++ rs).length ≤ ops.size) : St ops n (path ++ rs) (pre ++ rs) listed := by
  refine ⟨F, hl, S.sub.append (List.Sublist.refl rs), fun p hp => (List.mem_append.1 hp).elim (S.rd p) (hr p), S.ls, fun x hx => ?_, fun x hx h1 h2 y hy => ?_⟩
  · rw [S.inn x hx]
    simp only [List.map_append, List.mem_append, not_or]
    constructor
    · rintro (h | h)
      · exact .inl (.inl h)
      · by_cases hm : x ∈ rs.map (·.i)
        · exact .inl (.inr hm)
        · exact .inr ⟨h, hm⟩
    · rintro ((h | h) | h)
      · exact .inl h
      · exact .inr fun h' => xee F.apart h' h
      · exact .inr h.1
  · simp only [List.map_append, List.mem_append, not_or] at h1 h2 ⊢
    have := S.down x hx (h1.resolve_right h2.2) h2.1 y hy
    exact ⟨.inl this.1, this.2, fun h => xee F.apart this.1 h⟩
theorem xp0 {n : Nat} {ro : Option Nat} {m : Nat} {Q : Act → World → Prop} {Q' : Exit → Act → World → Prop} (hQ : ∀ a w, a.tmps.size = n → Q a w → Q' .normal a w) :
    ∀ (k : Nat) (t : Xj) (path pre : Vj) (listed : Array Bool) (a : Act) (w : World), Zt ops n false path t = true → St ops n path pre listed → pre.length + (ops.size - path.length) = k → a.tmps.size = n →
      GW P ops (GT P ops Q t) pre a w → wpAnyIn (Fw ro) m P .any ops Q' k listed a w := by
  intro k
  induction k with
  | zero =>
    intro t path pre listed a w ht S hk hsz h
    obtain ⟨rs, t', h1, h2, h3, h4, h5⟩ := xco (P := P) t path ht S.F S.len
    rw [h5 Q pre S.rd] at h
    have S' := S.shift h1 h2 h3
    have hk' : (pre ++ rs).length + (ops.size - (path ++ rs).length) = 0 := by
      rw [List.length_append] at h3 ⊢
      rw [List.length_append]
      omega
    have hp : pre ++ rs = [] := List.eq_nil_of_length_eq_zero (by omega)
    rcases h4 with ⟨rfl, h6, h7⟩ | ⟨_, h7⟩
    · rw [hp] at h S'
      refine ⟨?_, hQ _ _ hsz h⟩
      rw [List.eq_nil_iff_forall_not_mem]
      intro j hj
      obtain ⟨hjun, oj, hoj, _⟩ := mem_ready.1 hj
      have hjl : j < ops.size := (Array.getElem?_eq_some_iff.1 hoj).1
      have := (S'.inn j hjl).1 hjun
      simp only [List.map_nil, List.not_mem_nil, false_or] at this
      exact this (h7 j hjl)
    · obtain ⟨j, hj⟩ := xa4 h7
      obtain ⟨s, _, _, h8, _, _⟩ := xhU (P := P) h7 hj
      simp only [xbO, Bool.and_eq_true, decide_eq_true_eq] at h8
      have := h8.1.1.1.1
      omega
  | succ k ih =>
    intro t0 path0 pre0 listed a w ht0 S0 hk0 hsz h0
    obtain ⟨rs, t, h1, h2, h3, h4, h5⟩ := xco (P := P) t0 path0 ht0 S0.F S0.len
    rw [h5 Q pre0 S0.rd] at h0
    have S := S0.shift h1 h2 h3
    have hk : (pre0 ++ rs).length + (ops.size - (path0 ++ rs).length) = k + 1 := by
      rw [List.length_append] at h3 ⊢
      rw [List.length_append]
      omega
    clear h5 ht0 hk0 S0 h1
    generalize pre0 ++ rs = pre at *
    generalize path0 ++ rs = path at *
    have ready_of : ∀ (s : JH) (o : Oper), ops[s.i]? = some o → s.i < ops.size → (s.i ∈ pre.map (·.i) ∨ s.i ∉ path.map (·.i)) → (∀ e ∈ o.after, Region.binds .any e = true → e.on ∈ path.map (·.i) ∧ e.on ∉ pre.map (·.i)) → s.i ∈ Region.ready .any ops listed := by
      intro s o ho hsl hu hd
      refine mem_ready.2 ⟨(S.inn s.i hsl).2 hu, o, ho, fun e he hb => ?_⟩
      obtain ⟨hm, hn⟩ := hd e he hb
      have hel : e.on < ops.size := by
        obtain ⟨p, hp, he'⟩ := List.mem_map.1 hm
        exact he' ▸ S.F.lt p hp
      have h3 : listed.getD e.on true = true := by
        cases hh : listed.getD e.on true with
        | true => rfl
        | false => exact absurd hm (((S.inn e.on hel).1 hh).resolve_left hn)
      have hel' : e.on < listed.size := by rw [S.ls]; exact hel
      simp [hel'] at h3 ⊢
      exact h3
    refine ⟨fun hno => ?_, fun j hj => ?_⟩
    · exfalso
      cases pre with
      | cons s r =>
        have hs : s ∈ path := S.sub.subset (by simp)
        have hsl := S.F.lt s hs
        obtain ⟨o, ho, _⟩ := Zr (S.F.step s hs)
        have := ready_of s o ho hsl (.inl (by simp)) (fun e he hb => ?_)
        · rw [hno] at this; cases this
        · refine ⟨S.F.depS hs ho he hb, fun hm => ?_⟩
          have hdep : dep ops e.on s.i = true := by
            unfold dep
            rw [ho]
            exact Array.any_eq_true'.2 ⟨e, he, by simp [hb]⟩
          rw [List.map_cons, List.mem_cons] at hm
          rcases hm with hm | hm
          · rw [hm, S.F.selfd s.i hsl] at hdep; cases hdep
          · obtain ⟨q, hq, hqe⟩ := List.mem_map.1 hm
            have hpw := S.F.pairs.sublist S.sub
            rw [List.pairwise_cons] at hpw
            have := hpw.1 q hq
            simp only [xbR, Bool.and_eq_true, Bool.not_eq_true'] at this
            have h2 := this.1.2
            rw [hqe, hdep] at h2; cases h2
      | nil =>
        rcases h4 with ⟨rfl, h6, _⟩ | ⟨_, h7⟩
        · simp at hk; omega
        · obtain ⟨j, hj⟩ := xa4 h7
          obtain ⟨s, _, _, h8, _, _⟩ := xhU (P := P) h7 hj
          have F' := S.F.snoc h8
          have hsl := F'.lt s (by simp)
          obtain ⟨o, ho, _⟩ := Zr (F'.step s (by simp))
          have hnot : s.i ∉ path.map (·.i) := fun hm => xee F'.apart hm (by simp)
          have := ready_of s o ho hsl (.inr hnot) (fun e he hb => ?_)
          · rw [hno] at this; cases this
          · refine ⟨?_, by simp⟩
            have hm := F'.depS (s := s) (by simp) ho he hb
            simp only [List.map_append, List.map_cons, List.map_nil, List.mem_append, List.mem_singleton] at hm
            rcases hm with hm | hm
            · exact hm
            · exfalso
              have hdep : dep ops e.on s.i = true := by
                unfold dep
                rw [ho]
                exact Array.any_eq_true'.2 ⟨e, he, by simp [hb]⟩
              rw [hm, S.F.selfd s.i hsl] at hdep; cases hdep
    · obtain ⟨hjun, oj, hoj, hall⟩ := mem_ready.1 hj
      have hjl : j < ops.size := (Array.getElem?_eq_some_iff.1 hoj).1
      have hsize : ∀ y, dep ops y j = true → y < ops.size ∧ y ∈ path.map (·.i) ∧ y ∉ pre.map (·.i) := by
        intro y hd
        unfold dep at hd
        rw [hoj] at hd
        obtain ⟨e, he, hb⟩ := Array.any_eq_true'.1 hd
        simp only [Bool.and_eq_true, beq_iff_eq] at hb
        have h1 := hall e he hb.1
        rw [hb.2] at h1
        have hyl : y < ops.size := by
          rcases Nat.lt_or_ge y ops.size with h | h
          · exact h
          · rw [Array.getD_eq_getD_getElem?, Array.getElem?_eq_none (by rw [S.ls]; exact h)] at h1; cases h1
        refine ⟨hyl, ?_⟩
        have h2 : ¬ listed.getD y true = false := fun h2 => by
          rw [getD_both h2] at h1
          cases h1
        rw [S.inn y hyl] at h2
        simp only [not_or, Classical.not_not] at h2
        exact ⟨h2.2, h2.1⟩
      have hancs : ∀ (m x : Nat), x ≤ m → x < ops.size → (x ∈ path.map (·.i) ∧ x ∉ pre.map (·.i)) ∨ x = j → ∀ y, y < ops.size → anc ops y x = true → y ∈ path.map (·.i) ∧ y ∉ pre.map (·.i) := by
        intro m
        induction m with
        | zero =>
          intro x hx hxl hc y hyl ha
          rcases S.F.ancs x y hxl hyl ha with hd | ⟨d, _, _, _, hlt⟩
          · rcases hc with hc | hc
            · exact S.down x hxl hc.1 hc.2 y hd
            · exact (hsize y (hc ▸ hd)).2
          · omega
        | succ m ihm =>
          intro x hx hxl hc y hyl ha
          have hdd : ∀ y, dep ops y x = true → y ∈ path.map (·.i) ∧ y ∉ pre.map (·.i) := fun y hd => by
            rcases hc with hc | hc
            · exact S.down x hxl hc.1 hc.2 y hd
            · exact (hsize y (hc ▸ hd)).2
          rcases S.F.ancs x y hxl hyl ha with hd | ⟨d, hdl, hd, had, hlt⟩
          · exact hdd y hd
          · exact ihm d (by omega) hdl (.inl (hdd d hd)) y hyl had
      have hlisted : ∀ x, x < ops.size → (listed.setIfInBounds j true).getD x true = if x = j then true else listed.getD x true := fun x hx => by
        by_cases hxj : x = j
        · subst hxj; simp [S.ls, hx]
        · rw [getD_set_ne true (Ne.symm hxj), if_neg hxj]
      by_cases hjp : j ∈ pre.map (·.i)
      · obtain ⟨s, hs, rfl⟩ := List.mem_map.1 hjp
        obtain ⟨pre1, post, rfl⟩ := List.append_of_mem hs
        have hna : ∀ p ∈ pre1, anc ops p.i s.i = false := fun p hp => by
          cases hh : anc ops p.i s.i with
          | false => rfl
          | true => exact absurd (List.mem_map.2 ⟨p, by simp [hp], rfl⟩) (hancs s.i s.i (Nat.le_refl _) hjl (.inr rfl) p.i (S.F.lt p (S.sub.subset (by simp [hp]))) hh).2
        have hb := xoR S.F s post pre1 a w S.sub (fun p hp => S.rd p (by simp [hp])) hna (fun x hx c hck hc hn => by
          cases hh : anc ops x.i c with
          | false => rfl
          | true => exact absurd (List.mem_map.2 ⟨x, hx, rfl⟩) (hancs c c (Nat.le_refl _) hc (.inl ⟨S.F.chks s (S.sub.subset hs) c hck, hn⟩) x.i (S.F.lt x (S.sub.subset hx)) hh).2) hsz h0
        refine xc0 (fun o ho => (xlJ S.F (S.sub.subset hs) ho).2.1) (xb5 (fun a' w' hsz' hg => ?_) hb)
        have hnd := S.F.apart.sublist S.sub
        have hsnot : s.i ∉ (pre1 ++ post).map (·.i) := by
          rw [List.pairwise_append] at hnd
          obtain ⟨_, h2, h3⟩ := hnd
          rw [List.pairwise_cons] at h2
          intro hm
          rw [List.map_append, List.mem_append] at hm
          rcases hm with hm | hm
          · obtain ⟨q, hq, he⟩ := List.mem_map.1 hm
            exact h3 q hq s (by simp) he
          · obtain ⟨q, hq, he⟩ := List.mem_map.1 hm
            exact h2.1 q hq he.symm
        have hspath : s.i ∈ path.map (·.i) := List.mem_map.2 ⟨s, S.sub.subset hs, rfl⟩
        have hmem : ∀ x, x ∈ (pre1 ++ s :: post).map (·.i) ↔ x = s.i ∨ x ∈ (pre1 ++ post).map (·.i) := fun x => by
          simp only [List.map_append, List.map_cons, List.mem_append, List.mem_cons]
          constructor
          · rintro (h | h | h)
            · exact .inr (.inl h)
            · exact .inl h
            · exact .inr (.inr h)
          · rintro (h | h | h)
            · exact .inr (.inl h)
            · exact .inl h
            · exact .inr (.inr h)
        have htree : ∃ t1 path1, Zt ops n false path1 t1 = true ∧ path1 = path ∧ ∀ Q, GT P ops Q t = GT P ops Q t1 := by
          rcases h4 with ⟨rfl, h6, h7⟩ | ⟨h6, h7⟩
          · refine ⟨.fin, path, ?_, rfl, fun _ => rfl⟩
            simp only [Zt, Bool.not_false, Bool.true_and, Bool.and_eq_true, decide_eq_true_eq, List.all_eq_true, List.mem_range, List.any_eq_true, beq_iff_eq]
            exact ⟨h6, fun k hk => by obtain ⟨p, hp, he⟩ := List.mem_map.1 (h7 k hk); exact ⟨p, hp, he⟩⟩
          · refine ⟨t, path, ?_, rfl, fun _ => rfl⟩
            cases t with
            | fin => simp [Zt] at h7
            | st s' t' =>
              simp only [Zt, Bool.true_or, Bool.and_eq_true, VG] at h7 h6 ⊢
              have he : s'.eff = true := by
                cases he : s'.eff with
                | true => rfl
                | false => rw [he] at h7; simp at h7
              rw [he]
              simp only [Bool.false_or, if_true]
              exact ⟨⟨h7.1.1, h6⟩, h7.2⟩
            | br x y =>
              simp only [Zt, Bool.true_or, Bool.true_and, Bool.and_eq_true, VG, Bool.false_or] at h7 h6 ⊢
              exact ⟨⟨h6, h7.1⟩, h7.2⟩
        obtain ⟨t1, path1, ht1, rfl, hgt⟩ := htree
        rw [hgt] at hg
        refine ih t1 path1 (pre1 ++ post) _ a' w' ht1 ⟨S.F, S.len, (List.Sublist.append (List.Sublist.refl pre1) (List.sublist_cons_self s post)).trans S.sub, fun p hp => S.rd p (by
          rcases List.mem_append.1 hp with hp | hp
          · simp [hp]
          · simp [hp]), by simp [S.ls], fun x hx => ?_, fun x hx hm hn y hd => ?_⟩ (by simp at hk ⊢; omega) (by rw [hsz', hsz]) hg
        · rw [hlisted x hx]
          by_cases hxs : x = s.i
          · subst hxs
            rw [if_pos rfl]
            simp only [Bool.true_eq_false, false_iff, not_or, Classical.not_not]
            exact ⟨hsnot, hspath⟩
          · rw [if_neg hxs, S.inn x hx, hmem x]
            simp only [hxs, false_or]
        · have key : y ∈ path1.map (·.i) ∧ y ∉ (pre1 ++ s :: post).map (·.i) := by
            by_cases hxs : x = s.i
            · subst hxs; exact (hsize y hd).2
            · exact S.down x hx hm (fun h => ((hmem x).1 h).elim hxs hn) y hd
          exact ⟨key.1, fun h => key.2 ((hmem y).2 (.inr h))⟩
      · have hjn : j ∉ path.map (·.i) := ((S.inn j hjl).1 hjun).resolve_left hjp
        rcases h4 with ⟨rfl, h6, h7⟩ | ⟨h6, h7⟩
        · exact absurd (h7 j hjl) hjn
        have hjh : j ∈ VG t := by
          simp only [xkR, List.all_eq_true, List.mem_range, Bool.or_eq_true, List.any_eq_true, beq_iff_eq] at h6
          rcases h6 j hjl with (⟨p, hp, he⟩ | h) | h
          · exact absurd (List.mem_map.2 ⟨p, hp, he⟩) hjn
          · simpa using h
          · exfalso
            obtain ⟨o, ho, h⟩ := Zr h
            obtain rfl : oj = o := Option.some.inj (hoj.symm.trans ho)
            obtain ⟨e, he, h⟩ := Array.any_eq_true'.1 h
            simp only [Bool.and_eq_true, Bool.not_eq_true'] at h
            have hd : dep ops e.on j = true := by
              unfold dep
              rw [hoj]
              exact Array.any_eq_true'.2 ⟨e, he, by simp [h.1]⟩
            obtain ⟨p, hp, hpe⟩ := List.mem_map.1 (hsize e.on hd).2.1
            rw [List.any_eq_false] at h
            exact h.2 p hp (by simp [hpe])
        obtain ⟨s, t', rfl, h8, h9, h10⟩ := xhU (P := P) h7 hjh
        have F' := S.F.snoc h8
        have hg := xmC (h10 Q) pre a w h0
        rw [← xgE pre S.rd] at hg
        have hna : ∀ p ∈ pre, anc ops p.i s.i = false := fun p hp => by
          cases hh : anc ops p.i s.i with
          | false => rfl
          | true => exact absurd (List.mem_map.2 ⟨p, hp, rfl⟩) (hancs s.i s.i (Nat.le_refl _) hjl (.inr rfl) p.i (S.F.lt p (S.sub.subset hp)) hh).2
        have hchk : ∀ c ∈ s.chk, c ∈ path.map (·.i) := fun c hc => by
          simp only [xbO, Bool.and_eq_true, List.all_eq_true] at h8
          obtain ⟨p, hp, he⟩ := List.any_eq_true.1 (h8.2 c hc).1
          exact List.mem_map.2 ⟨p, hp, by simpa using he⟩
        have hb := xoR F' s [] pre a w (S.sub.append (List.Sublist.refl [s])) S.rd hna (fun x hx c hck hc hn => by
          cases hh : anc ops x.i c with
          | false => rfl
          | true =>
            exfalso
            have hcn : c ∉ pre.map (·.i) := fun hm => hn (by rw [List.map_append, List.mem_append]; exact .inl hm)
            have hd := hancs c c (Nat.le_refl _) hc (.inl ⟨hchk c hck, hcn⟩) x.i (F'.lt x ((S.sub.append (List.Sublist.refl [s])).subset hx)) hh
            rcases List.mem_append.1 hx with hx | hx
            · exact hd.2 (List.mem_map.2 ⟨x, hx, rfl⟩)
            · simp only [List.mem_singleton] at hx; subst hx; exact hjn hd.1) hsz hg
        refine xc0 (fun o ho => (xlJ F' (by simp) ho).2.1) (xb5 (fun a' w' hsz' hg => ?_) hb)
        rw [List.append_nil] at hg
        have hlt : path.length < ops.size := by
          simp only [xbO, Bool.and_eq_true, decide_eq_true_eq] at h8
          exact h8.1.1.1.1
        have hmem : ∀ x, x ∈ (path ++ [s]).map (·.i) ↔ x ∈ path.map (·.i) ∨ x = s.i := fun x => by simp
        refine ih t' (path ++ [s]) pre _ a' w' h9 ⟨F', by simp; omega, S.sub.trans (List.sublist_append_left path [s]), S.rd, by simp [S.ls], fun x hx => ?_, fun x hx hm hn y hd => ?_⟩ (by simp; omega) (by rw [hsz', hsz]) hg
        · rw [hlisted x hx, hmem x]
          by_cases hxs : x = s.i
          · subst hxs
            rw [if_pos rfl]
            simp only [Bool.true_eq_false, false_iff, not_or, Classical.not_not, or_true, and_true]
            exact hjp
          · rw [if_neg hxs, S.inn x hx]
            simp only [hxs, or_false]
        · rw [hmem x] at hm
          rw [hmem y]
          by_cases hxs : x = s.i
          · subst hxs
            exact ⟨.inl (hsize y hd).2.1, (hsize y hd).2.2⟩
          · have := S.down x hx (hm.resolve_right hxs) hn y hd
            exact ⟨.inl this.1, this.2⟩
theorem xeq {n : Nat} {plan : Xj} {id : Nat} {Q : Exit → Act → World → Prop} {a : Act} {w : World} {ro : Option Nat} {m : Nat} (hm : P.follows .mixedOrders = true) (hok : xeE ops n plan = true) (hsz : a.tmps.size = n)
    (h : GT P ops (fun a w => a.tmps.size = n → Q .normal a w) plan a { w with drawn := w.drawn + 1 }) : (Code.region id ops true).wpIn (Fw ro) m P Q a w := by
  simp only [xeE, Bool.and_eq_true] at hok
  have O := xii hok.1
  refine wpIn_region_any hm ?_
  have := xp0 (P := P) (Q' := Q) (ro := ro) (m := m) (fun a w hs h => h hs) ops.size plan [] [] (Array.replicate ops.size false) a { w with drawn := w.drawn + 1 } hok.2 ⟨.nil O, by simp, List.Sublist.refl _, by simp, by simp, fun x hx => by
    simp only [Array.getD_eq_getD_getElem?]
    simp only [hx, Array.getElem?_replicate, if_true, Option.getD_some, List.map_nil, List.not_mem_nil, not_false_eq_true, or_true], fun x hx hm => by simp at hm⟩ (by simp) hsz h
  exact this
end
abbrev Env := Nat → Value
abbrev WP := World → Prop
abbrev Jh := Exit → Env → WP
def upd (e : Env) (i : Nat) (v : Value) : Env := fun j => if j = i then v else e j
def put (e : Env) (d : Option Tmp) (v : Value) : Env := match d with
  | some i => upd e i v
  | none => e
def ev (e : Env) : Operand → Value
  | .tmp t => e t
  | .const v => v
  | .global g => .pointer (some ⟨g, 0, none⟩)
  | .func f => .func (.func f) #[] #[]
def Y6 (a : Act) : Env := fun t => a.tmps.getD t undef
def JX (o : Op) (ty : TypeId) : Oper := { dst := none, op := o, type := ty, pos := "", after := #[], guard := none }
def rdR (P : Program) (o : Op) (ty : TypeId) (e : Env) (K : Value → WP) : WP := fun w => ∃ v, (execOp (ev e) (JX o ty)).run P w = .ok (.value v) w ∧ K v w
def XI (P : Program) (f : FuncId) (args : Array Value) (K : Value → WP) : WP := fun w => Calls P f args w fun
  | .returned v, w' => K v w'
  | _, _ => False
def xkd (P : Program) (K : Value → WP) : Result Next → Prop
  | .ok (.value v) w' => K v w'
  | .ok .skip w' => K undef w'
  | .ok (.enter f args) w' => XI P f args K w'
  | .ok (.row row args) w' => Rows P row args w' fun v w'' => K v w''
  | .ok (.round l f tmps assign body) w' => Jf P l f tmps assign body w' fun
      | .returned v, w'' => K v w''
      | _, _ => False
  | _ => False
def xew (P : Program) (o : Op) (ty : TypeId) (e : Env) (K : Value → WP) : WP := fun w => xkd P K ((execOp (ev e) (JX o ty)).run P w)
def opR (P : Program) (o : Op) (ty : TypeId) (e : Env) (K : Value → WP) : WP := if Vp o then xew P o ty e K else rdR P o ty e K
def Xq (P : Program) (s : Sem Value) (K : Value → WP) : WP := fun w => ∃ v, s.run P w = .ok v w ∧ K v w
def Xt (P : Program) (s : Sem Value) (K : Value → WP) : WP := fun w => ∃ v w', s.run P w = .ok v w' ∧ K v w'
def Xv (P : Program) (s : Sem Unit) (K : Value → WP) : WP := fun w => ∃ w', s.run P w = .ok () w' ∧ K undef w'
def X4 (c x y : Value) (K : Value → WP) : WP := match c with
  | .bool b => K (if b = true then x else y)
  | _ => fun _ => False
def Yw (x : Value) (K : Value → WP) : WP := match x with
  | .bool b => K (.bool (!b))
  | _ => fun _ => False
def Yv (x : Value) (K : Value → WP) : WP := match x with
  | .pointer (some a) => K (.pointer (some a))
  | _ => fun _ => False
def X1 (x : Value) (i : Nat) (K : Value → WP) : WP := match x with
  | .tuple vs => match vs[i]? with
    | some v => K v
    | none => fun _ => False
  | _ => fun _ => False
def xhR (P : Program) (src dst : TypeId) (x : Value) (K : Value → WP) : WP := if src = dst then Xt P (convert src dst x) K else Xq P (convert src dst x) K
def Je (op : BinOp) (k : IntKind) (m n : Int) : Option Value := match op with
  | .add => some (.int k (k.wrap (m + n)))
  | .sub => some (.int k (k.wrap (m - n)))
  | .mul => some (.int k (k.wrap (m * n)))
  | .quo => if n = 0 then none else some (.int k (k.wrap (m.tdiv n)))
  | .rem => if n = 0 then none else some (.int k (m.tmod n))
  | .eql => some (.bool (decide (m = n)))
  | .neq => some (.bool (!decide (m = n)))
  | .lss => some (.bool (decide (m < n)))
  | .leq => some (.bool (decide (m ≤ n)))
  | .gtr => some (.bool (decide (n < m)))
  | .geq => some (.bool (decide (n ≤ m)))
  | _ => none
def VF (o : Option Value) (K : Value → WP) (X : WP) : WP := match o with
  | some v => K v
  | none => X
def XO (P : Program) (op : BinOp) (t : TypeId) (x y : Operand) (a b : Value) (K : Value → WP) : WP := match a, b with
  | .int k m, .int k' n => if k = k' then VF (Je op k m n) K (Xq P (binOp op t (.int k m) (.int k' n)) K) else fun _ => False
  | a, b => Xq P (do eqGuard op t x y a b; binOp op t a b) K
def xa1 (P : Program) (f : FuncId) : Bool := match P.funcs[f]? with
  | none => false
  | some fn => fn.name != "runtime.NumGoroutine" && fn.body.isSome
def FnK (P : Program) (f : FuncId) (args : Array Value) (K : Value → WP) : WP := fun w => xkd P K ((callFunc f args).run P w)
def xcx (P : Program) (l : Nat) (args : Array Value) (K : Value → WP) : WP := fun w => ∃ f tmps assign body, (Instr.yield l args).run P w = .ok (.round l f tmps assign body) w ∧ Jf P l f tmps assign body w fun
  | .returned v, w' => K v w'
  | _, _ => False
def XZ (P : Program) (fv : Value) (args : Array Value) (K : Value → WP) (other : WP) : WP := match fv with
  | .func (.func f) first cap => FnK P f (first ++ args ++ cap) K
  | .func (.yield l) first _ => xcx P l (first ++ args) K
  | _ => other
def opX (P : Program) (o : Op) (ty : TypeId) (e : Env) (K : Value → WP) : WP := match o with
  | .move x => K (ev e x)
  | .assign x => K (ev e x)
  | .pick c a b => X4 (ev e c) (ev e a) (ev e b) K
  | .unOp .not _ x => Yw (ev e x) K
  | .nilCheck x => Yv (ev e x) K
  | .extract x i => X1 (ev e x) i K
  | .binOp op t x y _ => XO P op t x y (ev e x) (ev e y) K
  | .convert s d x => xhR P s d (ev e x) K
  | .load t a => Xq P (Instr.loadAt t (ev e a)) K
  | .fieldAddr s x f => Xq P (Instr.fieldAt s (ev e x) f) K
  | .field t x f => Xq P (Instr.field t (ev e x) f) K
  | .indexAddr t x i => Xq P (Instr.indexAt t (ev e x) (ev e i)) K
  | .index t x i => Xq P (Instr.index t (ev e x) (ev e i)) K
  | .slice t x lo hi mx => Xq P (Instr.sliceAt t (ev e x) (lo.map (ev e)) (hi.map (ev e)) (mx.map (ev e))) K
  | .lookup t x i ok => Xq P (Instr.lookup t (ev e x) (ev e i) ok) K
  | .build t ps => Xq P (Instr.build t (ps.map fun (i, x) => (i, ev e x))) K
  | .makeInterface t x => Xq P (Instr.makeInterface t (ev e x)) K
  | .makeFunc fn first cap => K (.func fn (first.map (ev e)) (cap.map (ev e)))
  | .typeAssert x t a ok => Xq P (Instr.typeAssert (ev e x) t a ok) K
  | .store t a x => Xv P (Instr.storeAt t (ev e a) (ev e x)) K
  | .alloc t => Xt P (Instr.alloc t true (.tuple #[])) K
  | .box t x => Xt P (Instr.box t (ev e x)) K
  | .buildSlice t n ps => Xt P (Instr.buildSlice t n (ps.map fun (i, x) => (i, ev e x))) K
  | .makeMap t r => Xt P (Instr.makeMap t (r.map (ev e))) K
  | .makeChan t s => Xt P (Instr.makeChan t (ev e s)) K
  | .makeSlice t l c => Xt P (Instr.makeSlice t (ev e l) (ev e c)) K
  | .mapUpdate t m k x => Xv P (Instr.mapUpdate t (ev e m) (ev e k) (ev e x)) K
  | .call { callee := .value (.func f), args := as, .. } => FnK P f (as.map (ev e)) K
  | .call { callee := .value (.tmp t), args := as, argTypes := ts } => XZ P (e t) (as.map (ev e)) K (opR P (.call { callee := .value (.tmp t), args := as, argTypes := ts }) ty e K)
  | .call { callee := .builtin .len, args := as, argTypes := ts } => Xq P (Builtin.len_ ts ty (as.map (ev e))) K
  | .call { callee := .builtin .cap, args := as, argTypes := ts } => Xq P (Builtin.cap_ ts ty (as.map (ev e))) K
  | .call { callee := .builtin .min, args := as, argTypes := ts } => Xq P (Builtin.min_ ts ty (as.map (ev e))) K
  | .call { callee := .builtin .max, args := as, argTypes := ts } => Xq P (Builtin.max_ ts ty (as.map (ev e))) K
  | .call { callee := .builtin .append, args := as, argTypes := ts } => Xt P (Builtin.append_ ts ty (as.map (ev e))) K
  | .call { callee := .builtin .copy, args := as, argTypes := ts } => Xt P (Builtin.copy_ ts ty (as.map (ev e))) K
  | .call { callee := .builtin .clear, args := as, argTypes := ts } => Xt P (Builtin.clear_ ts ty (as.map (ev e))) K
  | o => opR P o ty e K
def gv (ops : Array Oper) (e : Env) (j : Nat) : Value := match (ops[j]?).bind (·.dst) with
  | some d => e d
  | none => undef
def xcD (v : Value) (want : Bool) (A B : WP) : WP := match v with
  | .bool b => if b = want then A else B
  | _ => B
def QB (ops : Array Oper) (e : Env) (g : Option (Nat × Bool)) (A B : WP) : WP := match g with
  | none => A
  | some (j, want) => xcD (gv ops e j) want A B
def opK (k : Env → WP) (e : Env) (d : Option Tmp) : Value → WP := fun v => k (put e d v)
def WL (P : Program) (ops : Array Oper) : List Oper → (Env → WP) → Env → WP
  | [], k, e => k e
  | o :: r, k, e => QB ops e o.guard (opX P o.op o.type e (opK (WL P ops r k) e o.dst)) (WL P ops r k (put e o.dst undef))
def xuL (o : Oper) (e : Env) : Value := match o.dst with
  | some d => e d
  | none => undef
def eqK (u : Value) (X : WP) : Value → WP := fun v w => v = u ∧ X w
def xu1 (P : Program) (ops : Array Oper) (e : Env) (c : Nat) (X : WP) : WP := match ops[c]? with
  | none => fun _ => False
  | some o => QB ops e o.guard (opX P o.op o.type e (eqK (xuL o e) X)) X
def chks (P : Program) (ops : Array Oper) (e : Env) : List Nat → WP → WP
  | [], X => X
  | c :: cs, X => xu1 P ops e c (chks P ops e cs X)
def Yq (P : Program) (ops : Array Oper) (chk : List Nat) (k : Env → WP) (e : Env) (d : Option Tmp) : Value → WP := fun v => chks P ops (put e d v) chk (k (put e d v))
def WD (P : Program) (ops : Array Oper) : Xj → (Env → WP) → Env → WP
  | .fin, k, e => k e
  | .st s r, k, e => match ops[s.i]? with
    | none => fun _ => False
    | some o => QB ops e o.guard (opX P o.op o.type e (Yq P ops s.chk (WD P ops r k) e o.dst)) (WD P ops r k (put e o.dst undef))
  | .br x y, k, e => fun w => WD P ops x k e w ∧ WD P ops y k e w
def xlF (v : Value) (A B : WP) : WP := match v with
  | .bool b => if b = true then A else B
  | _ => fun _ => False
def Yj (k : Env → WP) (Q : Jh) : Jh
  | .normal, e => k e
  | x, e => Q x e
def Yo (id : Nat) (Q : Jh) : Jh
  | .exit id', e => if id' = id then Q .normal e else Q (.exit id') e
  | x, e => Q x e
def X3 (B : Jh → Env → WP) (Q : Jh) (e : Env) : WP := fun w =>
  ∃ (I : Nat → Env → World → Prop), (∃ n, I n e w) ∧ ∀ n e w, I n e w → B (Yj (fun e' w' => ∃ m, m < n ∧ I m e' w') Q) e w
theorem xbo (p : Nat → Prop) (h : ∃ n, p n) : ∃ n, p n ∧ ∀ m, p m → n ≤ m := by
  obtain ⟨n, hn⟩ := h
  induction n using Nat.strongRecOn with
  | _ n ih =>
    by_cases h : ∃ m, m < n ∧ p m
    · obtain ⟨m, hm, hp⟩ := h; exact ih m hm hp
    · exact ⟨n, hn, fun m hm => Nat.le_of_not_lt fun hlt => h ⟨m, hlt, hm⟩⟩
noncomputable def xlP (p : Nat → Prop) : Nat := by
  classical exact if h : ∃ n, p n then (xbo p h).choose else 0
theorem xd6 {p : Nat → Prop} (h : ∃ n, p n) : p (xlP p) ∧ ∀ m, p m → xlP p ≤ m := by
  unfold xlP
  rw [dif_pos h]
  exact (xbo p h).choose_spec
def drewK (X : WP) : WP := fun w => X w.drew
def noG (Q : Jh) : Jh
  | .goto _, _ => fun _ => False
  | x, e => Q x e
def W (P : Program) (T : Nat → Xj) : Code → Jh → Env → WP
  | .skip, Q, e => Q .normal e
  | .label _, Q, e => Q .normal e
  | .region id ops d, Q, e => if d then drewK (WD P ops (T id) (Q .normal) e) else WL P ops ops.toList (Q .normal) e
  | .seq a b, Q, e => W P T a (Yj (W P T b Q) Q) e
  | .cond c x y, Q, e => xlF (ev e c) (W P T x Q e) (W P T y Q e)
  | .block id b, Q, e => W P T b (Yo id Q) e
  | .loop b, Q, e => X3 (W P T b) Q e
  | .exit id, Q, e => Q (.exit id) e
  | .goto l, Q, e => Q (.goto l) e
  | .ret, Q, e => Q .ret e
  | .scope b, Q, e => W P T b (noG Q) e
  | .rangeFunc .., _, _ => fun _ => False
  | .refuse _, _, _ => fun _ => False
def xaW (n : Nat) (o : Oper) : Bool := match o.dst with
  | some d => decide (d < n)
  | none => true
def Za (n : Nat) (T : Nat → Xj) : Code → Bool
  | .region id ops d => ops.toList.all (xaW n) && (!d || xeE ops n (T id))
  | .seq a b => Za n T a && Za n T b
  | .cond _ x y => Za n T x && Za n T y
  | .block _ b => Za n T b
  | .loop b => Za n T b
  | .scope b => Za n T b
  | .rangeFunc .. | .refuse _ => false
  | _ => true
section
variable {P : Program} {T : Nat → Xj} {n : Nat}
theorem xeT (a : Act) : ev (Y6 a) = a.eval := by funext x; cases x <;> rfl
theorem xh4 (ρ : Operand → Value) (o : Oper) : execOp ρ (JX o.op o.type) = execOp ρ o := by
  obtain ⟨dst, op, type, pos, after, guard⟩ := o
  cases op <;> rfl
theorem xav {a : Act} {o : Oper} {v : Value} (h : xaW n o = true) (hs : a.tmps.size = n) : Y6 (a.put o.dst v) = put (Y6 a) o.dst v := by
  unfold xaW at h
  cases hd : o.dst with
  | none => rfl
  | some d =>
    rw [hd] at h
    simp only [decide_eq_true_eq] at h
    funext t
    simp only [Y6, Act.put, put, upd]
    by_cases ht : t = d
    · subst ht; simp [hs, h]
    · simp [Array.getElem?_setIfInBounds_ne (Ne.symm ht), ht]
theorem Qz {a : Act} {ops : Array Oper} {o : Oper} (hs : a.tmps.size = n) (hops : ∀ (j : Nat) o, ops[j]? = some o → xaW n o = true) (A B : WP) (w : World) :
    QB ops (Y6 a) o.guard A B w → if Region.wanted o (yielded ops a.tmps) then A w else B w := by
  intro h
  unfold Region.wanted
  cases hg : o.guard with
  | none => rw [hg] at h; simp only [if_true]; exact h
  | some g =>
    obtain ⟨j, want⟩ := g
    rw [hg] at h
    simp only [QB] at h
    simp only
    unfold gv at h
    unfold yielded
    have hcase : (ops[j]?).bind (·.dst) = none ∨ ∃ d, (ops[j]?).bind (·.dst) = some d := by
      generalize (ops[j]?).bind (·.dst) = x
      cases x with
      | none => exact .inl rfl
      | some d => exact .inr ⟨d, rfl⟩
    rcases hcase with hj | ⟨d, hj⟩
    · simp only [hj] at h ⊢
      simpa [xcD, undef] using h
    · simp only [hj] at h ⊢
      have hd : d < n := by
        cases ho : ops[j]? with
        | none => rw [ho] at hj; cases hj
        | some oj =>
          rw [ho] at hj
          have := hops j oj ho
          unfold xaW at this
          have hj' : oj.dst = some d := hj
          rw [hj'] at this
          simpa using this
      have hget : a.tmps[d]? = some (Y6 a d) := by simp [Y6, hs, hd]
      simp only [Option.bind_some, hget]
      generalize Y6 a d = u at h
      cases u with
      | bool b =>
        simp only [xcD] at h
        by_cases hb : b = want
        · subst hb; simpa using h
        · rw [if_neg hb] at h
          have : (some b == some want) = false := by simp; exact hb
          rw [this]; exact h
      | _ => simpa [xcD] using h
theorem xeP {a : Act} {o : Oper} : execOp (ev (Y6 a)) (JX o.op o.type) = execOp a.eval o := by rw [xeT, xh4]
theorem xlo {a : Act} {o : Oper} {K : Value → WP} {next : Act → World → Prop} (hk : ∀ v w, K v w → next (a.put o.dst v) w) {r : Result Next} (h : xkd P K r) : Qh P o a next r := by
  cases r with
  | ok nx w' =>
    cases nx <;> simp only [xkd] at h <;> simp only [Qh] <;> first
      | exact hk _ _ h
      | (unfold XI at h; exact Calls.mono h fun e w'' he => by cases e <;> first | exact hk _ _ he | exact he.elim)
      | exact Rows.mono h fun u w'' he => hk _ _ he
      | exact Jf.mono h fun e w'' he => by cases e <;> first | exact hk _ _ he | exact he.elim
  | halt x w' => simp only [xkd] at h
theorem JI {α : Type} (P : Program) (s : Sem α) (f : α → Sem Next) (w w' : World) (v : α) (h : s.run P w = .ok v w') : (s >>= f).run P w = (f v).run P w' := by simp [h]
theorem xkc {o : Op} (h : Vp o = false) (ty : TypeId) (e : Env) (K : Value → WP) : opR P o ty e K = rdR P o ty e K := by simp [opR, h]
theorem Qy {o : Op} (h : Vp o = true) (ty : TypeId) (e : Env) (K : Value → WP) : opR P o ty e K = xew P o ty e K := by simp [opR, h]
theorem Jq {s : Sem Value} {o : Op} {ty : TypeId} {e : Env} {K : Value → WP} {w : World} (hs : execOp (ev e) (JX o ty) = (do let v ← s; pure (.value v))) (hn : Vp o = false) (h : Xq P s K w) : opR P o ty e K w := by
  obtain ⟨v, hr, hk⟩ := h
  rw [xkc hn]
  exact ⟨v, by rw [hs, JI P s _ w w v hr]; rfl, hk⟩
theorem Vc {s : Sem Value} {o : Op} {ty : TypeId} {e : Env} {K : Value → WP} {w : World} (hs : execOp (ev e) (JX o ty) = (do let v ← s; pure (.value v))) (hn : Vp o = true) (h : Xt P s K w) : opR P o ty e K w := by
  obtain ⟨v, w', hr, hk⟩ := h
  rw [Qy hn]
  unfold xew
  rw [hs, JI P s _ w w' v hr]
  exact hk
theorem xhF {s : Sem Unit} {o : Op} {ty : TypeId} {e : Env} {K : Value → WP} {w : World} (hs : execOp (ev e) (JX o ty) = (do s; pure .skip)) (hn : Vp o = true) (h : Xv P s K w) : opR P o ty e K w := by
  obtain ⟨w', hr, hk⟩ := h
  rw [Qy hn]
  unfold xew
  rw [hs, JI P s _ w w' () hr]
  exact hk
theorem Q6 {v : Value} {o : Op} {ty : TypeId} {e : Env} {K : Value → WP} {w : World} (hs : (execOp (ev e) (JX o ty)).run P w = .ok (.value v) w) (hn : Vp o = false) (h : K v w) : opR P o ty e K w := by
  rw [xkc hn]; exact ⟨v, hs, h⟩
theorem xss {v : Value} {o : Op} {ty : TypeId} {e : Env} {K : Value → WP} {w : World} (hs : (execOp (ev e) (JX o ty)).run P w = .ok (.value v) w) (h : K v w) : opR P o ty e K w := by
  cases hn : Vp o with
  | false => exact Q6 hs hn h
  | true => rw [Qy hn]; unfold xew; rw [hs]; exact h
theorem Qw {f : FuncId} (h : xa1 P f = true) (args : Array Value) (w : World) : (callFunc f args).run P w = .ok (.enter f args) w := by
  unfold xa1 at h
  cases hf : P.funcs[f]? with
  | none => rw [hf] at h; cases h
  | some fn =>
    rw [hf] at h
    simp only [Bool.and_eq_true, bne_iff_ne, ne_eq] at h
    obtain ⟨h1, h2⟩ := h
    obtain ⟨b, hb⟩ := Option.isSome_iff_exists.1 h2
    unfold callFunc
    simp [hf, h1, hb]
theorem xcm {o : Op} {ty : TypeId} {e : Env} {K : Value → WP} {w : World} (h : opX P o ty e K w) : opR P o ty e K w := by
  cases o
  case move x => exact Q6 rfl rfl h
  case assign x => exact xss rfl h
  case pick c a b =>
    simp only [opX] at h
    cases hc : ev e c with
    | bool x =>
      rw [hc] at h
      refine Q6 ?_ rfl h
      simp [execOp, JX, asBool, hc]
    | _ => rw [hc] at h; exact h.elim
  case unOp op t x =>
    cases op
    case not =>
      simp only [opX] at h
      cases hc : ev e x with
      | bool b =>
        rw [hc] at h
        refine Q6 ?_ rfl h
        simp [execOp, JX, Op.unary, hc]
      | _ => rw [hc] at h; exact h.elim
    all_goals exact h
  case nilCheck x =>
    simp only [opX] at h
    cases hc : ev e x with
    | pointer a =>
      cases a with
      | none => rw [hc] at h; exact h.elim
      | some a =>
        rw [hc] at h
        refine Q6 ?_ rfl h
        simp [execOp, JX, hc]
    | _ => rw [hc] at h; exact h.elim
  case extract x i =>
    simp only [opX] at h
    cases hc : ev e x with
    | tuple vs =>
      rw [hc] at h
      simp only [X1] at h
      cases hv : vs[i]? with
      | none => rw [hv] at h; exact h.elim
      | some v =>
        rw [hv] at h
        refine Q6 ?_ rfl h
        simp [execOp, JX, Instr.extract, hc, hv]
    | _ => rw [hc] at h; exact h.elim
  case binOp op t x y yt =>
    simp only [opX] at h
    have hgen : ∀ a b, ev e x = a → ev e y = b → Xq P (do eqGuard op t x y a b; binOp op t a b) K w → opR P (.binOp op t x y yt) ty e K w := fun a b ha hb h => by
      subst ha hb
      obtain ⟨v, hr, hk⟩ := h
      refine Q6 ?_ rfl hk
      simp only [execOp, JX]
      rw [JI P _ _ w w v hr]; rfl
    cases ha : ev e x with
    | int k m =>
      cases hb : ev e y with
      | int k' n =>
        rw [ha, hb] at h
        simp only [XO] at h
        split at h
        · rename_i hk
          subst hk
          have hg : Xq P (binOp op t (.int k m) (.int k n)) K w → opR P (.binOp op t x y yt) ty e K w := fun h => hgen _ _ ha hb (by
            obtain ⟨v, hr, hk⟩ := h
            exact ⟨v, by cases op <;> simpa [eqGuard] using hr, hk⟩)
          cases op <;> simp only [Je, VF] at h <;> first
            | exact hg h
            | (refine hg ⟨_, ?_, h⟩; simp [binOp, Op.intArith, Op.intCmp]; done)
            | (refine hg ⟨_, ?_, h⟩; simp only [binOp, Op.intCmp]; simp; rfl)
            | (by_cases hn : n = 0
               · rw [if_pos hn] at h; exact hg h
               · rw [if_neg hn] at h; refine hg ⟨_, ?_, h⟩; simp [binOp, Op.intDiv, hn])
        · exact h.elim
      | _ => rw [ha, hb] at h; exact hgen _ _ ha hb h
    | _ => rw [ha] at h; exact hgen _ _ ha rfl h
  case convert s d x =>
    have h' : xhR P s d (ev e x) K w := h
    unfold xhR at h'
    by_cases hsd : s = d
    · rw [if_pos hsd] at h'; exact Vc rfl (beq_iff_eq.2 hsd) h'
    · rw [if_neg hsd] at h'; exact Jq rfl (beq_eq_false_iff_ne.2 hsd) h'
  case load t a => exact Jq rfl rfl h
  case fieldAddr s x f => exact Jq rfl rfl h
  case field t x f => exact Jq rfl rfl h
  case indexAddr t x i => exact Jq rfl rfl h
  case index t x i => exact Jq rfl rfl h
  case slice t x lo hi mx => exact Jq rfl rfl h
  case lookup t x i ok => exact Jq rfl rfl h
  case build t ps => exact Jq rfl rfl h
  case makeInterface t x => exact Jq rfl rfl h
  case makeFunc fn first cap => exact Q6 rfl rfl h
  case typeAssert x t a ok => exact Jq rfl rfl h
  case store t a x => exact xhF rfl rfl h
  case alloc t => exact Vc rfl rfl h
  case box t x => exact Vc rfl rfl h
  case buildSlice t n ps => exact Vc rfl rfl h
  case makeMap t r => exact Vc rfl rfl h
  case makeChan t s => exact Vc rfl rfl h
  case makeSlice t l c => exact Vc rfl rfl h
  case mapUpdate t m k x => exact xhF rfl rfl h
  case call c =>
    obtain ⟨callee, as, ts⟩ := c
    have hcall : ∀ (f : FuncId) (args : Array Value), FnK P f args K w → (execOp (ev e) (JX (.call ⟨callee, as, ts⟩) ty)).run P w = (callFunc f args).run P w → Vp (.call ⟨callee, as, ts⟩) = true → opR P (.call ⟨callee, as, ts⟩) ty e K w := by
      intro f args hk he hi
      rw [Qy hi]
      unfold xew
      rw [he]
      exact hk
    cases callee with
    | invoke r m => exact h
    | value fo =>
      cases fo with
      | func f =>
        refine hcall f _ h ?_ rfl
        simp [execOp, JX, resolve, Deferred.ofValue, ev, invoke]
      | tmp t =>
        simp only [opX] at h
        cases hv : e t with
        | func fn first cap =>
          rw [hv] at h
          cases fn with
          | func f =>
            refine hcall f _ h ?_ rfl
            simp [execOp, JX, resolve, Deferred.ofValue, ev, invoke, hv]
          | yield l =>
            obtain ⟨f, tmps, assign, body, hy, hk⟩ := h
            rw [Qy rfl]
            unfold xew
            have he : (execOp (ev e) (JX (.call ⟨.value (.tmp t), as, ts⟩) ty)).run P w = (Instr.yield l (first ++ as.map (ev e))).run P w := by
              simp [execOp, JX, resolve, Deferred.ofValue, ev, invoke, hv]
            rw [he, hy]
            exact hk
          | _ => exact h
        | _ => rw [hv] at h; exact h
      | const v => exact h
      | global g => exact h
    | builtin b =>
      cases b
      case len => exact Jq (by simp [execOp, JX, resolve, invoke, builtin]) rfl h
      case cap => exact Jq (by simp [execOp, JX, resolve, invoke, builtin]) rfl h
      case min => exact Jq (by simp [execOp, JX, resolve, invoke, builtin]) rfl h
      case max => exact Jq (by simp [execOp, JX, resolve, invoke, builtin]) rfl h
      case append => exact Vc (by simp [execOp, JX, resolve, invoke, builtin]) rfl h
      case copy => exact Vc (by simp [execOp, JX, resolve, invoke, builtin]) rfl h
      case clear => exact Vc (by simp [execOp, JX, resolve, invoke, builtin]) rfl h
      all_goals exact h
  all_goals exact h
theorem xpv {o : Op} {ty : TypeId} {e : Env} {K : Value → WP} {w : World} (h : opR P o ty e K w) : ∀ c, o ≠ .defer c := by
  rintro c rfl
  rw [Qy rfl] at h
  unfold xew at h
  have he : execOp (ev e) (JX (.defer c) ty) = (do pure (.defer (← resolve (ev e) c ty))) := rfl
  rw [he] at h
  simp only [Sem.run_bind] at h
  cases hr : (resolve (ev e) c ty).run P w with
  | ok d w' => rw [hr] at h; simp [Result.andThen, xkd] at h
  | halt x w' => rw [hr] at h; simp [Result.andThen, xkd] at h
theorem xnM {a : Act} {o : Oper} {K : Value → WP} {next : Act → World → Prop} {Q : Exit → Act → World → Prop} {w : World} (hk : ∀ v w, K v w → next (a.put o.dst v) w)
    {ro : Option Nat} {m : Nat} (h' : opX P o.op o.type (Y6 a) K w) : o.wpIn (Fw ro) m P a w next Q := by
  have h := xcm h'
  have hd := xpv h
  unfold opR at h
  split at h
  · unfold xew at h
    rw [xeP] at h
    exact xdV hd (xlo hk h)
  · obtain ⟨v, hr, h'⟩ := h
    rw [xeP] at hr
    refine ⟨fun _ _ => trivial, ?_⟩
    rw [Oper.semAt_eq _ _ _ hd, hr]
    exact hk _ _ h'
theorem xey {ops : Array Oper} (hops : ∀ (j : Nat) o, ops[j]? = some o → xaW n o = true) {k : Env → WP} {Q : Exit → Act → World → Prop} {D : List Deferred} {ro : Option Nat} {m : Nat} (hQ : ∀ a w, a.tmps.size = n → a.defers = D → k (Y6 a) w → Q .normal a w) :
    ∀ (l : List Oper) (a : Act) (w : World), (∀ o ∈ l, xaW n o = true) → a.tmps.size = n → a.defers = D → WL P ops l k (Y6 a) w → wpListIn (Fw ro) m P ops Q l a w
  | [], a, w, _, hs, hd, h => hQ a w hs hd h
  | o :: r, a, w, hl, hs, hd, h => by
    have ho := hl o (by simp)
    simp only [WL] at h
    have h' := Qz hs hops _ _ w h
    have hput : ∀ v, (a.put o.dst v).tmps.size = n := fun v => by rw [xad]; exact hs
    have hdef : ∀ v, (a.put o.dst v).defers = D := fun v => by cases hdd : o.dst <;> exact hd
    unfold wpListIn
    split
    · rename_i hw
      rw [if_pos hw] at h'
      refine xnM (fun v w' hk => ?_) h'
      rw [opK, ← xav ho hs] at hk
      exact xey hops hQ r _ _ (fun o ho => hl o (by simp [ho])) (hput v) (hdef v) hk
    · rename_i hw
      rw [if_neg hw, ← xav ho hs] at h'
      exact ⟨fun _ _ => trivial, xey hops hQ r _ _ (fun o ho => hl o (by simp [ho])) (hput _) (hdef _) h'⟩
theorem xdP {ops : Array Oper} (hops : ∀ (j : Nat) o, ops[j]? = some o → xaW n o = true) (hdst : ∀ (j : Nat) o, ops[j]? = some o → Vp o.op = false → o.dst.isSome = true) {a : Act} (hs : a.tmps.size = n) :
    ∀ (cs : List Nat) (X : WP) (w : World), (∀ c ∈ cs, ∀ o, ops[c]? = some o → Vp o.op = false) → chks P ops (Y6 a) cs X w → (∀ c ∈ cs, Okc P ops c a w) ∧ X w
  | [], X, w, _, h => ⟨by simp, h⟩
  | c :: cs, X, w, hne, h => by
    simp only [chks, xu1] at h
    cases ho : ops[c]? with
    | none => rw [ho] at h; exact h.elim
    | some o =>
      rw [ho] at h
      have h' := Qz hs hops _ _ w h
      have fin : chks P ops (Y6 a) cs X w → Okc P ops c a w → (∀ c' ∈ c :: cs, Okc P ops c' a w) ∧ X w := fun h1 h2 => by
        obtain ⟨h3, h4⟩ := xdP hops hdst hs cs X w (fun c hc => hne c (by simp [hc])) h1
        exact ⟨fun c' hc' => by
          rcases List.mem_cons.1 hc' with rfl | hc'
          · exact h2
          · exact h3 c' hc', h4⟩
      split at h'
      · have h' := xcm h'
        rw [xkc (hne c (by simp) o ho)] at h'
        obtain ⟨v, hr, hv, hx⟩ := h'
        rw [xeP] at hr
        refine fin hx (fun oc hoc _ => ?_)
        obtain rfl : o = oc := Option.some.inj (ho.symm.trans hoc)
        obtain ⟨d, hd⟩ := Option.isSome_iff_exists.1 (hdst c o ho (hne c (by simp) o ho))
        refine ⟨d, hd, ?_⟩
        rw [hr, hv]
        simp [xuL, hd, Y6]
      · rename_i hw
        refine fin h' (fun oc hoc hwc => ?_)
        obtain rfl : o = oc := Option.some.inj (ho.symm.trans hoc)
        exact absurd hwc hw
theorem xaf {ops : Array Oper} (O : OpsFacts ops) (hops : ∀ (j : Nat) o, ops[j]? = some o → xaW n o = true) {k : Env → WP} {Q : Act → World → Prop} {D : List Deferred}
    (hQ : ∀ a w, a.tmps.size = n → a.defers = D → k (Y6 a) w → Q a w) :
    ∀ (r : Xj) (c : Bool) (path : Vj) (a : Act) (w : World), Zt ops n c path r = true → a.tmps.size = n → a.defers = D → WD P ops r k (Y6 a) w → GT P ops Q r a w
  | .fin, _, _, a, w, _, hs, hd, h => hQ a w hs hd h
  | .br x y, c, path, a, w, ht, hs, hd, h => by
    simp only [Zt, Bool.and_eq_true] at ht
    exact ⟨xaf O hops hQ x true path a w ht.1.2 hs hd h.1, xaf O hops hQ y true path a w ht.2 hs hd h.2⟩
  | .st s r, c, path, a, w, ht, hs, hd, h => by
    simp only [Zt, Bool.and_eq_true] at ht
    obtain ⟨⟨hn, _⟩, ht⟩ := ht
    simp only [xbO, Bool.and_eq_true, List.all_eq_true] at hn
    obtain ⟨⟨_, hst⟩, hck⟩ := hn
    simp only [WD] at h
    simp only [GT, opG]
    cases ho : ops[s.i]? with
    | none => rw [ho] at h; exact h.elim
    | some o =>
      rw [ho] at h
      simp only
      have hdo := hops s.i o ho
      have h' := Qz hs hops _ _ w h
      have heff : Vp o.op = s.eff := by
        obtain ⟨o', ho', h1⟩ := Zr hst
        obtain rfl : o = o' := Option.some.inj (ho.symm.trans ho')
        simp only [Bool.and_eq_true, beq_iff_eq] at h1
        exact h1.1.1.1.1
      have hput : ∀ v, (a.put o.dst v).tmps.size = n := fun v => by rw [xad]; exact hs
      have hdef : ∀ v, (a.put o.dst v).defers = D := fun v => by cases hdd : o.dst <;> exact hd
      have step : ∀ v w', Yq P ops s.chk (WD P ops r k) (Y6 a) o.dst v w' → (∀ c ∈ s.chk, Okc P ops c (a.put o.dst v) w') ∧ GT P ops Q r (a.put o.dst v) w' := fun v w' hk => by
        rw [Yq, ← xav hdo hs] at hk
        obtain ⟨h1, h2⟩ := xdP hops O.rdst (hput v) s.chk _ w' (fun c hcc oc hoc => by
          obtain ⟨o', ho', h1⟩ := Zr (hck c hcc).2
          obtain rfl : oc = o' := Option.some.inj (hoc.symm.trans ho')
          simpa using h1) hk
        exact ⟨h1, xaf O hops hQ r _ _ _ _ ht (hput v) (hdef v) h2⟩
      split
      · rename_i hw
        rw [if_pos hw] at h'
        have h' := xcm h'
        unfold opR at h'
        cases hse : s.eff with
        | true =>
          rw [heff, hse] at h'
          simp only [if_true] at h' ⊢
          unfold xew at h'
          rw [xeP] at h'
          exact xlo (fun v w' hk => ⟨fun c hcc _ => (step v w' hk).1 c hcc, (step v w' hk).2⟩) h'
        | false =>
          rw [heff, hse] at h'
          simp only [Bool.false_eq_true, if_false] at h' ⊢
          obtain ⟨v, hrun, hk⟩ := h'
          rw [xeP] at hrun
          exact ⟨v, hrun, (step v w hk).2⟩
      · rename_i hw
        rw [if_neg hw, ← xav hdo hs] at h'
        exact xaf O hops hQ r _ _ _ _ ht (hput _) (hdef _) h'
def xwG (n : Nat) (D : List Deferred) (Q : Jh) : Exit → Act → World → Prop := fun x a w => a.tmps.size = n ∧ a.defers = D ∧ Q x (Y6 a) w
def Y8 (T : Nat → Xj) : Code → Bool
  | .region _ _ _ => true
  | .seq a b => Y8 T a && Y8 T b
  | .cond _ x y => Y8 T x && Y8 T y
  | .block _ b => Y8 T b
  | .loop b => Y8 T b
  | .scope b => Y8 T b
  | _ => true
theorem xGn {F : Fence} {m : Nat} {Q : Exit → Act → World → Prop} {a : Act} {w : World} {c : Code} (h : c.wpIn F m P (Exit.noGoto Q) a w) : (Code.scope c).wpIn F m P Q a w := by
  intro b k cs hro hb hr
  have h0 : (lone (b.atR a (.code (.scope c) :: k)) cs w).fenced P F := fenced_calm hb hr rfl
  have s1 : step P (lone (b.atR a (.code (.scope c) :: k)) cs w) = .next (lone (b.atR a (.code c :: .inScope c :: k)) cs w) := step_lone_go (by simp [stepG, stepG.exec, Frame.atR])
  obtain ⟨e, a₁, w₁, hq, harr⟩ := h b (.inScope c :: k) cs hro hb hr
  have s2 : step P (lone (b.atR a₁ (.inScope c :: k)) cs w₁) = .next (lone (b.atR a₁ k) cs w₁) := step_lone_go (by simp [stepG, stepG.exec, Frame.atR])
  cases e with
  | normal => exact ⟨.normal, a₁, w₁, hq, .head h0 s1 (StepsIn.trans harr (.one (fenced_calm hb hr rfl) s2))⟩
  | exit id' =>
    have hx : exitTo id' (.inScope c :: k) = exitTo id' k := by simp [exitTo]
    exact ⟨.exit id', a₁, w₁, hq, fun k' hk => .head h0 s1 (harr.1 k' (by rw [hx]; exact hk)),
        fun hr' hk => let ⟨k₁, h1, h2⟩ := harr.2 hr' (by rw [hx]; exact hk); ⟨k₁, h1, .head h0 s1 h2⟩⟩
  | goto l => exact hq.elim
  | ret => exact ⟨_, a₁, w₁, hq, .of_steps (.one h0 s1) harr⟩
  | panic ch => exact ⟨_, a₁, w₁, hq, .of_steps (.one h0 s1) harr⟩
  | outgrown => exact ⟨_, a₁, w₁, hq, .of_steps (.one h0 s1) harr⟩
theorem xdo {ro : Option Nat} {m : Nat} (hm : P.follows .mixedOrders = true) {D : List Deferred} : ∀ (c : Code) (Q : Jh) (a : Act) (w : World), Za n T c = true → Y8 T c = true → a.tmps.size = n → a.defers = D → W P T c Q (Y6 a) w → c.wpIn (Fw ro) m P (xwG n D Q) a w := by
  intro c
  induction c with
  | skip => exact fun Q a w _ _ hs hd h => wpIn_skip ⟨hs, hd, h⟩
  | label l => exact fun Q a w _ _ hs hd h => wpIn_label ⟨hs, hd, h⟩
  | exit id => exact fun Q a w _ _ hs hd h => wpIn_exit ⟨hs, hd, h⟩
  | goto l => exact fun Q a w _ _ hs hd h => wpIn_goto ⟨hs, hd, h⟩
  | ret => exact fun Q a w _ _ hs hd h => wpIn_ret ⟨hs, hd, h⟩
  | scope b ih =>
    intro Q a w hok hok' hs hd h
    refine xGn (wpIn_mono (ih _ a w hok hok' hs hd h) fun x a w hx => ?_)
    cases x with
    | goto l => exact hx.2.2
    | _ => exact hx
  | rangeFunc => exact fun Q a w hok => by simp [Za] at hok
  | refuse => exact fun Q a w hok => by simp [Za] at hok
  | region id ops d =>
    intro Q a w hok hok' hs hd h
    simp only [Za, Bool.and_eq_true, List.all_eq_true] at hok
    have hops : ∀ (j : Nat) o, ops[j]? = some o → xaW n o = true := fun j o ho => hok.1 o (by
      have := Array.mem_of_getElem? ho
      exact Array.mem_toList_iff.2 this)
    cases d with
    | false =>
      simp only [W, Bool.false_eq_true, if_false] at h
      exact wpIn_region_list (xey hops (fun a w hs hd h => ⟨hs, hd, h⟩) ops.toList a w (fun o ho => hok.1 o ho) hs hd h)
    | true =>
      simp only [W, if_true, drewK] at h
      have hpl : xeE ops n (T id) = true := by simpa using hok.2
      have hpl' := hpl
      simp only [xeE, Bool.and_eq_true] at hpl'
      exact xeq hm hpl hs (xaf (xii hpl'.1) hops (D := D) (fun a w hs hd h _ => ⟨hs, hd, h⟩) (T id) false [] a _ hpl'.2 hs hd h)
  | seq x y ihx ihy =>
    intro Q a w hok hok' hs hd h
    simp only [Za, Y8, Bool.and_eq_true] at hok hok'
    simp only [W] at h
    refine wpIn_seq (wpIn_mono (ihx _ a w hok.1 hok'.1 hs hd h) fun e a w hl => ?_)
    obtain ⟨hs, hd, h⟩ := hl
    cases e with
    | normal => exact ihy Q a w hok.2 hok'.2 hs hd h
    | _ => exact ⟨hs, hd, h⟩
  | cond c x y ihx ihy =>
    intro Q a w hok hok' hs hd h
    simp only [Za, Y8, Bool.and_eq_true] at hok hok'
    simp only [W, xeT] at h
    cases hb : a.eval c with
    | bool b =>
      rw [hb] at h
      refine wpIn_cond (t := b) hb ?_
      cases b with
      | true => exact ihx Q a w hok.1 hok'.1 hs hd (by simpa [xlF] using h)
      | false => exact ihy Q a w hok.2 hok'.2 hs hd (by simpa [xlF] using h)
    | _ => rw [hb] at h; exact h.elim
  | block id b ih =>
    intro Q a w hok hok' hs hd h
    simp only [Za, Y8] at hok hok'
    simp only [W] at h
    refine wpIn_block (wpIn_mono (ih _ a w hok hok' hs hd h) fun e a w hl => ?_)
    obtain ⟨hs, hd, h⟩ := hl
    cases e with
    | exit id' =>
      simp only [Yo] at h
      simp only [Exit.inBlock]
      by_cases he : id' = id
      · rw [if_pos he] at h ⊢; exact ⟨hs, hd, h⟩
      · rw [if_neg he] at h ⊢; exact ⟨hs, hd, h⟩
    | _ => exact ⟨hs, hd, h⟩
  | loop b ih =>
    intro Q a w hok hok' hs hd h
    simp only [Za, Y8] at hok hok'
    simp only [W] at h
    obtain ⟨I, h0, hr⟩ := h
    refine wpIn_loop (fun a w => a.tmps.size = n ∧ a.defers = D ∧ ∃ n, I n (Y6 a) w) (fun a w => xlP fun n => I n (Y6 a) w) ⟨hs, hd, h0⟩ fun a w hI => ?_
    obtain ⟨hs, hd, hi⟩ := hI
    refine wpIn_mono (ih _ a w hok hok' hs hd (hr _ _ _ (xd6 hi).1)) fun e a' w' hl => ?_
    obtain ⟨hs', hd', h'⟩ := hl
    cases e with
    | normal =>
      obtain ⟨m, hm, hi'⟩ := h'
      exact ⟨⟨hs', hd', m, hi'⟩, Nat.lt_of_le_of_lt ((xd6 (p := fun n => I n (Y6 a') w') ⟨m, hi'⟩).2 m hi') hm⟩
    | _ => exact ⟨hs', hd', h'⟩
def xuF (P : Program) (rs : Array ResultVar) (e : Env) (K : Value → WP) : WP := fun w =>
  ∃ v, (do
    let vs ← rs.mapM fun
      | ResultVar.tmp t => (pure (e t) : Sem Value)
      | .cell a t => do loadVar t (← asAddr (e a))
    pure (if h : vs.size = 1 then vs[0] else .tuple vs)).run P w = .ok v w ∧ K v w
def xAW (P : Program) (rs : Array ResultVar) (K : Value → WP) : Jh
  | .normal, e => xuF P rs e K
  | .ret, e => xuF P rs e K
  | _, _ => fun _ => False
def Ya (P : Program) (e : Env) : List ResultVar → (List Value → WP) → WP
  | [], K => K []
  | .tmp t :: r, K => Ya P e r fun vs => K (e t :: vs)
  | .cell a t :: r, K => Xq P (Instr.loadAt t (e a)) fun v => Ya P e r fun vs => K (v :: vs)
def one (vs : List Value) : Value := match vs with
  | [v] => v
  | vs => .tuple vs.toArray
theorem xbm {P : Program} {e : Env} : ∀ (rs : List ResultVar) (K : List Value → WP) (w : World), Ya P e rs K w → ∃ vs, (rs.mapM fun
      | ResultVar.tmp t => (pure (e t) : Sem Value)
      | .cell a t => do loadVar t (← asAddr (e a))).run P w = .ok vs w ∧ K vs w
  | [], K, w, h => ⟨[], by simp, h⟩
  | .tmp t :: r, K, w, h => by
    obtain ⟨vs, h1, h2⟩ := xbm r _ w h
    exact ⟨e t :: vs, by simp only [List.mapM_cons, Sem.run_bind, Sem.run_pure, Result.andThen_ok, h1], h2⟩
  | .cell a t :: r, K, w, h => by
    obtain ⟨v, h0, h'⟩ := h
    obtain ⟨vs, h1, h2⟩ := xbm r _ w h'
    refine ⟨v :: vs, ?_, h2⟩
    have : (do loadVar t (← asAddr (e a)) : Sem Value).run P w = .ok v w := by
      unfold Instr.loadAt at h0
      cases ha : e a with
      | pointer x =>
        cases x with
        | none => rw [ha] at h0; simp [Instr.sureAddr] at h0
        | some x => rw [ha] at h0; simpa [Instr.sureAddr, asAddr] using h0
      | _ => rw [ha] at h0; simp [Instr.sureAddr] at h0
    rw [List.mapM_cons]
    simp only [Sem.run_bind]
    simp only [Sem.run_bind] at this
    rw [this]
    simp only [Result.andThen_ok, h1, Sem.run_pure]
theorem xmd {P : Program} {rs : List ResultVar} {e : Env} {K : Value → WP} {w : World} (h : Ya P e rs (fun vs => K (one vs)) w) : xuF P rs.toArray e K w := by
  obtain ⟨vs, h1, h2⟩ := xbm rs _ w h
  refine ⟨one vs, ?_, h2⟩
  rw [List.mapM_toArray]
  simp only [bind_map_left, Sem.run_bind, h1, Result.andThen_ok]
  match vs with
  | [] => rfl
  | [v] => rfl
  | _ :: _ :: _ => rfl
def xsW (n : Nat) (args : Array Value) : Env := Y6 { tmps := args ++ Array.replicate (n - args.size) undef, defers := [] }
def xc3 (u : Env) : Nat → List Value → Env
  | _, [] => u
  | i, v :: vs => xc3 (upd u i v) (i + 1) vs
theorem xfi (e : Env) : ∀ (vs : List Value) (i : Nat), (∀ j, (h : j < vs.length) → e (i + j) = vs[j]) → xc3 e i vs = e
  | [], _, _ => rfl
  | v :: vs, i, h => by
    have h0 : upd e i v = e := by
      funext j
      simp only [upd]
      split
      · rename_i he; subst he; exact (h 0 (by simp)).symm
      · rfl
    simp only [xc3, h0]
    exact xfi e vs (i + 1) fun j hj => by
      have := h (j + 1) (by simp; omega)
      rw [show i + 1 + j = i + (j + 1) by omega]; exact this
theorem xi0 (n : Nat) (args : List Value) : xsW n args.toArray = xc3 (xsW n args.toArray) 0 args :=
  (xfi _ args 0 fun j hj => by
    show (args.toArray ++ Array.replicate (n - args.toArray.size) undef).getD (0 + j) undef = args[j]
    rw [Nat.zero_add, Array.getD_eq_getD_getElem?, Array.getElem?_append_left (by simpa using hj)]
    simp [hj]).symm
structure xsB (P : Program) (f : FuncId) (fn : Func) (c : Code) (T : Nat → Xj) : Prop where
  func : P.funcs[f]? = some fn
  body : fn.body = some c
  ok : Za fn.ntmps T c = true
  ok' : Y8 T c = true
noncomputable def bd (F : Func) : Code := match F.body with
  | some c => c
  | none => .skip
class FnI (P : Program) (f : FuncId) (F : outParam Func) (T : outParam (Nat → Xj)) : Prop where
  h : xsB P f F (bd F) T
  n : xa1 P f = true
theorem FnI.k {P : Program} {f : FuncId} {F : Func} {T : Nat → Xj} (h : P.funcs[f]? = some F) (b : F.body = some (bd F) := by rfl) (h1 : Za F.ntmps T (bd F) = true := by kernel_rfl) (h2 : Y8 T (bd F) = true := by kernel_rfl)
    (h3 : xa1 P f = true := by kernel_rfl) : FnI P f F T := ⟨⟨h, b, h1, h2⟩, h3⟩
def Ys (P : Program) (rs : List ResultVar) (K : Value → WP) : Jh
  | .normal, e => Ya P e rs fun vs => K (one vs)
  | .ret, e => Ya P e rs fun vs => K (one vs)
  | _, _ => fun _ => False
theorem xiA (hm : P.follows .mixedOrders = true) {f : FuncId} {fn : Func} {c : Code} (F : xsB P f fn c T) {args : List Value} {K : Value → WP} {w : World} {rs : List ResultVar} (hrs : fn.results = rs.toArray) (ha : args.length ≤ fn.ntmps)
    (h : ∀ u, W P T c (Ys P rs K) (xc3 u 0 args) w) : XI P f args.toArray K w := by
  unfold XI
  refine callsIn_wide.1 (callsIn_of_wp (n := 0) F.func F.body trivial (wpIn_mono (xdo (ro := none) (m := 0) (D := []) hm c (Ys P rs K) _ w F.ok F.ok' (by simp; omega) rfl ?_) fun e a w hl => ?_) rfl)
  · have := h (xsW fn.ntmps args.toArray)
    rw [← xi0] at this
    exact this
  · obtain ⟨hs, hd, h⟩ := hl
    have fin : ∀ w, Ya P (Y6 a) rs (fun vs => K (one vs)) w → ∃ v, (results fn a.tmps).run P w = .ok v w ∧ K v w := fun w h => by
      obtain ⟨v, hr, hk⟩ := xmd h
      refine ⟨v, ?_, hk⟩
      rw [← hrs] at hr
      exact hr
    cases e with
    | normal => obtain ⟨v, hr, hk⟩ := fin w h; exact ⟨hd, v, hr, hk⟩
    | ret => obtain ⟨v, hr, hk⟩ := fin w h; exact ⟨hd, v, hr, hk⟩
    | exit id => exact h.elim
    | goto l => exact h.elim
    | panic ch => exact h.elim
    | outgrown => exact h.elim
end
theorem nr {α : Sort _} {a b : α} (h : a = b) : a = b := h
section
variable {P : Program} {T : Nat → Xj} {ops : Array Oper} {k : Env → WP} {K : Value → WP} {Q : Jh} {e : Env} {X A B : WP}
theorem xnX : W P T .skip Q e = Q .normal e := nr rfl
theorem xkP {l : Nat} : W P T (.label l) Q e = Q .normal e := nr rfl
theorem xoU {id : Nat} : W P T (.region id ops true) Q e = drewK (WD P ops (T id) (Q .normal) e) := nr rfl
theorem xov {id : Nat} {l : List Oper} : W P T (.region id l.toArray false) Q e = WL P l.toArray l (Q .normal) e := nr rfl
theorem xtW {a b : Code} : W P T (.seq a b) Q e = W P T a (Yj (W P T b Q) Q) e := nr rfl
def XV (P : Program) (T : Nat → Xj) (v : Value) (x y : Code) (Q : Jh) (e : Env) : WP := xlF v (W P T x Q e) (W P T y Q e)
theorem xqB {c : Operand} {x y : Code} : W P T (.cond c x y) Q e = XV P T (ev e c) x y Q e := nr rfl
theorem xl5 {x y : Code} : XV P T (.bool true) x y Q e = W P T x Q e := nr rfl
theorem xkO {x y : Code} : XV P T (.bool false) x y Q e = W P T y Q e := nr rfl
theorem xmf {id : Nat} {b : Code} : W P T (.block id b) Q e = W P T b (Yo id Q) e := nr rfl
theorem xKg {b : Code} : W P T (.scope b) Q e = W P T b (noG Q) e := nr rfl
theorem xJM : noG Q .normal e = Q .normal e := nr rfl
theorem xqm {b : Code} : W P T (.loop b) Q e = X3 (W P T b) Q e := nr rfl
theorem xpn {id : Nat} : W P T (.exit id) Q e = Q (.exit id) e := nr rfl
theorem xtg : W P T .ret Q e = Q .ret e := nr rfl
theorem xjZ : WL P ops [] k e = k e := nr rfl
theorem xqG {d : Option Tmp} {o : Op} {ty : TypeId} {pos : String} {af : Array Edge} {r : List Oper} : WL P ops (⟨d, o, ty, pos, af, none⟩ :: r) k e = opX P o ty e (opK (WL P ops r k) e d) := nr rfl
def Xw (P : Program) (v : Value) (want : Bool) (o : Op) (ty : TypeId) (e : Env) (K : Value → WP) (k : Env → WP) (d : Option Tmp) : WP := xcD v want (opX P o ty e K) (k (put e d undef))
theorem xe2 {o : Op} {ty : TypeId} {d : Option Tmp} : Xw P (.bool true) true o ty e K k d = opX P o ty e K := nr rfl
theorem xfT {o : Op} {ty : TypeId} {d : Option Tmp} : Xw P (.bool false) false o ty e K k d = opX P o ty e K := nr rfl
theorem xfN {o : Op} {ty : TypeId} {d : Option Tmp} : Xw P (.bool true) false o ty e K k d = k (put e d undef) := nr rfl
theorem xfP {o : Op} {ty : TypeId} {d : Option Tmp} : Xw P (.bool false) true o ty e K k d = k (put e d undef) := nr rfl
theorem xfL {o : Op} {ty : TypeId} {d : Option Tmp} {want : Bool} : Xw P undef want o ty e K k d = k (put e d undef) := nr rfl
theorem xpo {d : Option Tmp} {o : Op} {ty : TypeId} {pos : String} {af : Array Edge} {j : Nat} {want : Bool} {r : List Oper} : WL P ops (⟨d, o, ty, pos, af, some (j, want)⟩ :: r) k e =
    Xw P (gv ops e j) want o ty e (opK (WL P ops r k) e d) (WL P ops r k) d := nr rfl
theorem xpW : WD P ops .fin k e = k e := nr rfl
def WD1 (P : Program) (ops : Array Oper) (chk : List Nat) (r : Xj) (k : Env → WP) (e : Env) : Option Oper → WP
  | none => fun _ => False
  | some o => QB ops e o.guard (opX P o.op o.type e (Yq P ops chk (WD P ops r k) e o.dst)) (WD P ops r k (put e o.dst undef))
theorem xmy {i : Nat} {eff : Bool} {chk : List Nat} {r : Xj} : WD P ops (.st ⟨i, eff, chk⟩ r) k e = WD1 P ops chk r k e ops[i]? := by
  simp only [WD]
  cases ops[i]? <;> rfl
def BrK (X Y : WP) : WP := fun w => X w ∧ Y w
theorem xtR {x y : Xj} : WD P ops (.br x y) k e = BrK (WD P ops x k e) (WD P ops y k e) := nr rfl
theorem xqi {chk : List Nat} {r : Xj} {d : Option Tmp} {o : Op} {ty : TypeId} {pos : String} {af : Array Edge} : WD1 P ops chk r k e (some ⟨d, o, ty, pos, af, none⟩) = opX P o ty e (Yq P ops chk (WD P ops r k) e d) := nr rfl
theorem xlI {chk : List Nat} {r : Xj} {d : Option Tmp} {o : Op} {ty : TypeId} {pos : String} {af : Array Edge} {j : Nat} {want : Bool} : WD1 P ops chk r k e (some ⟨d, o, ty, pos, af, some (j, want)⟩) =
    Xw P (gv ops e j) want o ty e (Yq P ops chk (WD P ops r k) e d) (WD P ops r k) d := nr rfl
theorem xgp {d : Option Tmp} {v : Value} : opK k e d v = k (put e d v) := nr rfl
theorem xiE {d : Option Tmp} {v : Value} : Yq P ops [] k e d v = k (put e d v) := nr rfl
def Yk (P : Program) (ops : Array Oper) (cs : List Nat) (k : Env → WP) (e : Env) : WP := chks P ops e cs (k e)
theorem xfG {c : Nat} {cs : List Nat} {d : Option Tmp} {v : Value} : Yq P ops (c :: cs) k e d v = Yk P ops (c :: cs) k (put e d v) := nr rfl
theorem xhl : Yk P ops [] k e = k e := nr rfl
def eqR (P : Program) (ops : Array Oper) (cs : List Nat) (k : Env → WP) (e : Env) (u : Value) : Value → WP := eqK u (Yk P ops cs k e)
def xvt (P : Program) (ops : Array Oper) (cs : List Nat) (k : Env → WP) (e : Env) : Option Oper → WP
  | none => fun _ => False
  | some o => QB ops e o.guard (opX P o.op o.type e (eqR P ops cs k e (xuL o e))) (Yk P ops cs k e)
theorem xfl {c : Nat} {cs : List Nat} : Yk P ops (c :: cs) k e = xvt P ops cs k e ops[c]? := by
  unfold Yk
  simp only [chks, xu1]
  cases ops[c]? <;> rfl
def XC (P : Program) (v : Value) (want : Bool) (o : Op) (ty : TypeId) (e : Env) (K : Value → WP) (ops : Array Oper) (cs : List Nat) (k : Env → WP) : WP := xcD v want (opX P o ty e K) (Yk P ops cs k e)
theorem xe6 {o : Op} {ty : TypeId} {cs : List Nat} : XC P (.bool true) true o ty e K ops cs k = opX P o ty e K := nr rfl
theorem xfh {o : Op} {ty : TypeId} {cs : List Nat} : XC P (.bool false) false o ty e K ops cs k = opX P o ty e K := nr rfl
theorem xfY {o : Op} {ty : TypeId} {cs : List Nat} : XC P (.bool true) false o ty e K ops cs k = Yk P ops cs k e := nr rfl
theorem xfF {o : Op} {ty : TypeId} {cs : List Nat} : XC P (.bool false) true o ty e K ops cs k = Yk P ops cs k e := nr rfl
theorem xfI {o : Op} {ty : TypeId} {cs : List Nat} {want : Bool} : XC P undef want o ty e K ops cs k = Yk P ops cs k e := nr rfl
theorem xmo {d : Nat} {o : Op} {ty : TypeId} {pos : String} {af : Array Edge} {cs : List Nat} : xvt P ops cs k e (some ⟨some d, o, ty, pos, af, none⟩) = opX P o ty e (eqR P ops cs k e (e d)) := nr rfl
theorem xhy {d : Nat} {o : Op} {ty : TypeId} {pos : String} {af : Array Edge} {j : Nat} {want : Bool} {cs : List Nat} : xvt P ops cs k e (some ⟨some d, o, ty, pos, af, some (j, want)⟩) = XC P (gv ops e j) want o ty e (eqR P ops cs k e (e d)) ops cs k := nr rfl
theorem xid {i : Nat} {v : Value} : put e (some i) v = upd e i v := nr rfl
theorem xiL {v : Value} : put e none v = e := nr rfl
theorem xk5 {i j : Nat} {v : Value} : upd e i v j = if j = i then v else e j := nr rfl
theorem xrk {t : Tmp} : ev e (.tmp t) = e t := nr rfl
theorem xi6 {v : Value} : ev e (.const v) = v := nr rfl
theorem xkK {f : FuncId} : ev e (.func f) = .func (.func f) #[] #[] := nr rfl
theorem xe9 {g : Nat} : ev e (.global g) = .pointer (some ⟨g, 0, none⟩) := nr rfl
def gd (e : Env) : Option Oper → Value
  | none => undef
  | some o => match o.dst with
    | none => undef
    | some d => e d
theorem xtn {j : Nat} : gv ops e j = gd e ops[j]? := by
  unfold gv gd
  cases ops[j]? with
  | none => rfl
  | some o => cases h : o.dst <;> simp [h]
theorem xtE {d : Nat} {o : Op} {ty : TypeId} {pos : String} {af : Array Edge} {g : Option (Nat × Bool)} : gd e (some ⟨some d, o, ty, pos, af, g⟩) = e d := nr rfl
theorem xk9 {b : Bool} {x y : Value} : X4 (.bool b) x y K = K (if b = true then x else y) := nr rfl
theorem xph {b : Bool} : Yw (.bool b) K = K (.bool (!b)) := nr rfl
theorem xn8 {a : Addr} : Yv (.pointer (some a)) K = K (.pointer (some a)) := nr rfl
def YB (o : Option Value) (K : Value → WP) : WP := match o with
  | some v => K v
  | none => fun _ => False
theorem xlf {vs : Array Value} {i : Nat} : X1 (.tuple vs) i K = YB vs[i]? K := nr rfl
theorem xfJ {v : Value} : YB (some v) K = K v := nr rfl
theorem xig {t : TypeId} {x y : Operand} {k : IntKind} {m n : Int} : XO P .add t x y (.int k m) (.int k n) K = K (.int k (k.wrap (m + n))) := by simp [XO, Je, VF]
theorem xhJ {t : TypeId} {x y : Operand} {k : IntKind} {m n : Int} : XO P .sub t x y (.int k m) (.int k n) K = K (.int k (k.wrap (m - n))) := by simp [XO, Je, VF]
theorem xh3 {t : TypeId} {x y : Operand} {k : IntKind} {m n : Int} : XO P .mul t x y (.int k m) (.int k n) K = K (.int k (k.wrap (m * n))) := by simp [XO, Je, VF]
theorem xiR {t : TypeId} {x y : Operand} {k : IntKind} {m n : Int} : XO P .eql t x y (.int k m) (.int k n) K = K (.bool (decide (m = n))) := by simp [XO, Je, VF]
theorem xjb {t : TypeId} {x y : Operand} {k : IntKind} {m n : Int} : XO P .neq t x y (.int k m) (.int k n) K = K (.bool (!decide (m = n))) := by simp [XO, Je, VF]
theorem xie {t : TypeId} {x y : Operand} {k : IntKind} {m n : Int} : XO P .lss t x y (.int k m) (.int k n) K = K (.bool (decide (m < n))) := by simp [XO, Je, VF]
theorem xhH {t : TypeId} {x y : Operand} {k : IntKind} {m n : Int} : XO P .leq t x y (.int k m) (.int k n) K = K (.bool (decide (m ≤ n))) := by simp [XO, Je, VF]
theorem xiF {t : TypeId} {x y : Operand} {k : IntKind} {m n : Int} : XO P .gtr t x y (.int k m) (.int k n) K = K (.bool (decide (n < m))) := by simp [XO, Je, VF]
theorem xhn {t : TypeId} {x y : Operand} {k : IntKind} {m n : Int} : XO P .geq t x y (.int k m) (.int k n) K = K (.bool (decide (n ≤ m))) := by simp [XO, Je, VF]
theorem xnV : Yj k Q .normal e = k e := nr rfl
theorem xh1 : Yj k Q .ret e = Q .ret e := nr rfl
theorem xfy {i : Nat} : Yj k Q (.exit i) e = Q (.exit i) e := nr rfl
theorem xoI {id : Nat} : Yo id Q .normal e = Q .normal e := nr rfl
theorem xhu {id : Nat} : Yo id Q .ret e = Q .ret e := nr rfl
theorem xfE {id i : Nat} : Yo id Q (.exit i) e = if i = id then Q .normal e else Q (.exit i) e := nr rfl
theorem xon {rs : List ResultVar} : Ys P rs K .normal e = Ya P e rs (fun vs => K (one vs)) := nr rfl
theorem xhm {rs : List ResultVar} : Ys P rs K .ret e = Ya P e rs (fun vs => K (one vs)) := nr rfl
theorem xjn {K : List Value → WP} : Ya P e [] K = K [] := nr rfl
theorem xim {t : Tmp} {r : List ResultVar} {K : List Value → WP} : Ya P e (.tmp t :: r) K = Ya P e r fun vs => K (e t :: vs) := nr rfl
theorem xe3 {a : Tmp} {t : TypeId} {r : List ResultVar} {K : List Value → WP} : Ya P e (.cell a t :: r) K = Xq P (Instr.loadAt t (e a)) fun v => Ya P e r fun vs => K (v :: vs) := nr rfl
theorem xtV : one [] = .tuple #[] := nr rfl
theorem xtz {v : Value} : one [v] = v := nr rfl
theorem xtm {u v : Value} : one [u, v] = .tuple #[u, v] := nr rfl
theorem xtS {u v x : Value} : one [u, v, x] = .tuple #[u, v, x] := nr rfl
theorem xtI {u v x y : Value} : one [u, v, x, y] = .tuple #[u, v, x, y] := nr rfl
theorem xuz {f : FuncId} {args : Array Value} (h : xa1 P f = true) : FnK P f args K = XI P f args K := by funext w; unfold FnK; rw [Qw h]; rfl
theorem xry {l : Nat} {first cap args : Array Value} {o : WP} : XZ P (.func (.yield l) first cap) args K o = xcx P l (first ++ args) K := nr rfl
theorem xl9 {f : FuncId} {first cap args : Array Value} {o : WP} : XZ P (.func (.func f) first cap) args K o = FnK P f (first ++ args ++ cap) K := nr rfl
