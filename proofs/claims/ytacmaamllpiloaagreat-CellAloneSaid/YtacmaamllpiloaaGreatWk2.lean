import Derived.Test.YtacmaamllpiloaaGreatWk1
namespace Go.Wk
open Go
abbrev Env := Nat → Value
abbrev WP := World → Prop
abbrev Post := Exit → Env → WP
def upd (e : Env) (i : Nat) (v : Value) : Env := fun j => if j = i then v else e j
def put (e : Env) (d : Option Tmp) (v : Value) : Env := match d with
  | some i => upd e i v
  | none => e
def ev (e : Env) : Operand → Value
  | .tmp t => e t
  | .const v => v
  | .global g => .pointer (some ⟨g, 0, none⟩)
  | .func f => .func (.func f) #[] #[]
def envOf (a : Act) : Env := fun t => a.tmps.getD t undef
def oper (o : Op) (ty : TypeId) : Oper := { dst := none, op := o, type := ty, pos := "", after := #[], guard := none }
def rdR (P : Program) (o : Op) (ty : TypeId) (e : Env) (K : Value → WP) : WP := fun w => ∃ v, (execOp (ev e) (oper o ty)).run P w = .ok (.value v) w ∧ K v w
def CallK (P : Program) (f : FuncId) (args : Array Value) (K : Value → WP) : WP := fun w => Calls P f args w fun
  | .returned v, w' => K v w'
  | _, _ => False
def upon (P : Program) (K : Value → WP) : Result Next → Prop
  | .ok (.value v) w' => K v w'
  | .ok .skip w' => K undef w'
  | .ok (.enter f args) w' => CallK P f args K w'
  | .ok (.row row args) w' => Rows P row args w' fun v w'' => K v w''
  | .ok (.round l f tmps assign body) w' => RoundW P l f tmps assign body w' fun
      | .returned v, w'' => K v w''
      | _, _ => False
  | _ => False
def effR (P : Program) (o : Op) (ty : TypeId) (e : Env) (K : Value → WP) : WP := fun w => upon P K ((execOp (ev e) (oper o ty)).run P w)
def opR (P : Program) (o : Op) (ty : TypeId) (e : Env) (K : Value → WP) : WP := if isEff o then effR P o ty e K else rdR P o ty e K
def GenK (P : Program) (s : Sem Value) (K : Value → WP) : WP := fun w => ∃ v, s.run P w = .ok v w ∧ K v w
def EGenK (P : Program) (s : Sem Value) (K : Value → WP) : WP := fun w => ∃ v w', s.run P w = .ok v w' ∧ K v w'
def EUnitK (P : Program) (s : Sem Unit) (K : Value → WP) : WP := fun w => ∃ w', s.run P w = .ok () w' ∧ K undef w'
def PickK (c x y : Value) (K : Value → WP) : WP := match c with
  | .bool b => K (if b = true then x else y)
  | _ => fun _ => False
def NotK (x : Value) (K : Value → WP) : WP := match x with
  | .bool b => K (.bool (!b))
  | _ => fun _ => False
def NilK (x : Value) (K : Value → WP) : WP := match x with
  | .pointer (some a) => K (.pointer (some a))
  | _ => fun _ => False
def ExtrK (x : Value) (i : Nat) (K : Value → WP) : WP := match x with
  | .tuple vs => match vs[i]? with
    | some v => K v
    | none => fun _ => False
  | _ => fun _ => False
def ConvK (P : Program) (src dst : TypeId) (x : Value) (K : Value → WP) : WP := if src = dst then EGenK P (convert src dst x) K else GenK P (convert src dst x) K
def intBin (op : BinOp) (k : IntKind) (m n : Int) : Option Value := match op with
  | .add => some (.int k (k.wrap (m + n)))
  | .sub => some (.int k (k.wrap (m - n)))
  | .mul => some (.int k (k.wrap (m * n)))
  | .quo => if n = 0 then none else some (.int k (k.wrap (m.tdiv n)))
  | .rem => if n = 0 then none else some (.int k (m.tmod n))
  | .eql => some (.bool (decide (m = n)))
  | .neq => some (.bool (!decide (m = n)))
  | .lss => some (.bool (decide (m < n)))
  | .leq => some (.bool (decide (m ≤ n)))
  | .gtr => some (.bool (decide (n < m)))
  | .geq => some (.bool (decide (n ≤ m)))
  | _ => none
def someK (o : Option Value) (K : Value → WP) (X : WP) : WP := match o with
  | some v => K v
  | none => X
def BinK (P : Program) (op : BinOp) (t : TypeId) (x y : Operand) (a b : Value) (K : Value → WP) : WP := match a, b with
  | .int k m, .int k' n => if k = k' then someK (intBin op k m n) K (GenK P (binOp op t (.int k m) (.int k' n)) K) else fun _ => False
  | a, b => GenK P (do eqGuard op t x y a b; binOp op t a b) K
def isFnB (P : Program) (f : FuncId) : Bool := match P.funcs[f]? with
  | none => false
  | some fn => fn.name != "runtime.NumGoroutine" && fn.body.isSome
def FnK (P : Program) (f : FuncId) (args : Array Value) (K : Value → WP) : WP := fun w => isFnB P f = true ∧ CallK P f args K w
def YieldK (P : Program) (l : Nat) (args : Array Value) (K : Value → WP) : WP := fun w => ∃ f tmps assign body, (Instr.yield l args).run P w = .ok (.round l f tmps assign body) w ∧ RoundW P l f tmps assign body w fun
  | .returned v, w' => K v w'
  | _, _ => False
def CallV (P : Program) (fv : Value) (args : Array Value) (K : Value → WP) (other : WP) : WP := match fv with
  | .func (.func f) first cap => FnK P f (first ++ args ++ cap) K
  | .func (.yield l) first cap => YieldK P l (first ++ args) K
  | _ => other
def opX (P : Program) (o : Op) (ty : TypeId) (e : Env) (K : Value → WP) : WP := match o with
  | .move x => K (ev e x)
  | .assign x => K (ev e x)
  | .pick c a b => PickK (ev e c) (ev e a) (ev e b) K
  | .unOp .not _ x => NotK (ev e x) K
  | .nilCheck x => NilK (ev e x) K
  | .extract x i => ExtrK (ev e x) i K
  | .binOp op t x y _ => BinK P op t x y (ev e x) (ev e y) K
  | .convert s d x => ConvK P s d (ev e x) K
  | .load t a => GenK P (Instr.loadAt t (ev e a)) K
  | .fieldAddr s x f => GenK P (Instr.fieldAt s (ev e x) f) K
  | .field t x f => GenK P (Instr.field t (ev e x) f) K
  | .indexAddr t x i => GenK P (Instr.indexAt t (ev e x) (ev e i)) K
  | .index t x i => GenK P (Instr.index t (ev e x) (ev e i)) K
  | .slice t x lo hi mx => GenK P (Instr.sliceAt t (ev e x) (lo.map (ev e)) (hi.map (ev e)) (mx.map (ev e))) K
  | .lookup t x i ok => GenK P (Instr.lookup t (ev e x) (ev e i) ok) K
  | .build t ps => GenK P (Instr.build t (ps.map fun (i, x) => (i, ev e x))) K
  | .makeInterface t x => GenK P (Instr.makeInterface t (ev e x)) K
  | .makeFunc fn first cap => K (.func fn (first.map (ev e)) (cap.map (ev e)))
  | .typeAssert x t a ok => GenK P (Instr.typeAssert (ev e x) t a ok) K
  | .store t a x => EUnitK P (Instr.storeAt t (ev e a) (ev e x)) K
  | .alloc t => EGenK P (Instr.alloc t true (.tuple #[])) K
  | .box t x => EGenK P (Instr.box t (ev e x)) K
  | .buildSlice t n ps => EGenK P (Instr.buildSlice t n (ps.map fun (i, x) => (i, ev e x))) K
  | .makeMap t r => EGenK P (Instr.makeMap t (r.map (ev e))) K
  | .makeChan t s => EGenK P (Instr.makeChan t (ev e s)) K
  | .makeSlice t l c => EGenK P (Instr.makeSlice t (ev e l) (ev e c)) K
  | .mapUpdate t m k x => EUnitK P (Instr.mapUpdate t (ev e m) (ev e k) (ev e x)) K
  | .call { callee := .value (.func f), args := as, .. } => FnK P f (as.map (ev e)) K
  | .call { callee := .value (.tmp t), args := as, argTypes := ts } => CallV P (e t) (as.map (ev e)) K (opR P (.call { callee := .value (.tmp t), args := as, argTypes := ts }) ty e K)
  | .call { callee := .builtin .len, args := as, argTypes := ts } => GenK P (Builtin.len_ ts ty (as.map (ev e))) K
  | .call { callee := .builtin .cap, args := as, argTypes := ts } => GenK P (Builtin.cap_ ts ty (as.map (ev e))) K
  | .call { callee := .builtin .min, args := as, argTypes := ts } => GenK P (Builtin.min_ ts ty (as.map (ev e))) K
  | .call { callee := .builtin .max, args := as, argTypes := ts } => GenK P (Builtin.max_ ts ty (as.map (ev e))) K
  | .call { callee := .builtin .append, args := as, argTypes := ts } => EGenK P (Builtin.append_ ts ty (as.map (ev e))) K
  | .call { callee := .builtin .copy, args := as, argTypes := ts } => EGenK P (Builtin.copy_ ts ty (as.map (ev e))) K
  | .call { callee := .builtin .clear, args := as, argTypes := ts } => EGenK P (Builtin.clear_ ts ty (as.map (ev e))) K
  | o => opR P o ty e K
def gv (ops : Array Oper) (e : Env) (j : Nat) : Value := match (ops[j]?).bind (·.dst) with
  | some d => e d
  | none => undef
def GuardK (v : Value) (want : Bool) (A B : WP) : WP := match v with
  | .bool b => if b = want then A else B
  | _ => B
def guarded (ops : Array Oper) (e : Env) (g : Option (Nat × Bool)) (A B : WP) : WP := match g with
  | none => A
  | some (j, want) => GuardK (gv ops e j) want A B
def opK (k : Env → WP) (e : Env) (d : Option Tmp) : Value → WP := fun v => k (put e d v)
def WL (P : Program) (ops : Array Oper) : List Oper → (Env → WP) → Env → WP
  | [], k, e => k e
  | o :: r, k, e => guarded ops e o.guard (opX P o.op o.type e (opK (WL P ops r k) e o.dst)) (WL P ops r k (put e o.dst undef))
def slot (o : Oper) (e : Env) : Value := match o.dst with
  | some d => e d
  | none => undef
def eqK (u : Value) (X : WP) : Value → WP := fun v w => v = u ∧ X w
def chkK (P : Program) (ops : Array Oper) (e : Env) (c : Nat) (X : WP) : WP := match ops[c]? with
  | none => fun _ => False
  | some o => guarded ops e o.guard (opX P o.op o.type e (eqK (slot o e) X)) X
def chks (P : Program) (ops : Array Oper) (e : Env) : List Nat → WP → WP
  | [], X => X
  | c :: cs, X => chkK P ops e c (chks P ops e cs X)
def opKc (P : Program) (ops : Array Oper) (chk : List Nat) (k : Env → WP) (e : Env) (d : Option Tmp) : Value → WP := fun v => chks P ops (put e d v) chk (k (put e d v))
def WD (P : Program) (ops : Array Oper) : Plan → (Env → WP) → Env → WP
  | .fin, k, e => k e
  | .st s r, k, e => match ops[s.i]? with
    | none => fun _ => False
    | some o => guarded ops e o.guard (opX P o.op o.type e (opKc P ops s.chk (WD P ops r k) e o.dst)) (WD P ops r k (put e o.dst undef))
  | .br x y, k, e => fun w => WD P ops x k e w ∧ WD P ops y k e w
def CondK (v : Value) (A B : WP) : WP := match v with
  | .bool b => if b = true then A else B
  | _ => fun _ => False
def seqK (k : Env → WP) (Q : Post) : Post
  | .normal, e => k e
  | x, e => Q x e
def blkK (id : Nat) (Q : Post) : Post
  | .exit id', e => if id' = id then Q .normal e else Q (.exit id') e
  | x, e => Q x e
def LoopW (B : Post → Env → WP) (Q : Post) (e : Env) : WP := fun w =>
  ∃ (I : Nat → Env → World → Prop), (∃ n, I n e w) ∧ ∀ n e w, I n e w → B (seqK (fun e' w' => ∃ m, m < n ∧ I m e' w') Q) e w
theorem exists_least (p : Nat → Prop) (h : ∃ n, p n) : ∃ n, p n ∧ ∀ m, p m → n ≤ m := by
  obtain ⟨n, hn⟩ := h
  induction n using Nat.strongRecOn with
  | _ n ih =>
    by_cases h : ∃ m, m < n ∧ p m
    · obtain ⟨m, hm, hp⟩ := h; exact ih m hm hp
    · exact ⟨n, hn, fun m hm => Nat.le_of_not_lt fun hlt => h ⟨m, hlt, hm⟩⟩
noncomputable def least (p : Nat → Prop) : Nat := by
  classical exact if h : ∃ n, p n then (exists_least p h).choose else 0
theorem least_spec {p : Nat → Prop} (h : ∃ n, p n) : p (least p) ∧ ∀ m, p m → least p ≤ m := by
  unfold least
  rw [dif_pos h]
  exact (exists_least p h).choose_spec
def drewK (X : WP) : WP := fun w => X w.drew
def W (P : Program) (T : Nat → Plan) : Code → Post → Env → WP
  | .skip, Q, e => Q .normal e
  | .label _, Q, e => Q .normal e
  | .region id ops d, Q, e => if d then drewK (WD P ops (T id) (Q .normal) e) else WL P ops ops.toList (Q .normal) e
  | .seq a b, Q, e => W P T a (seqK (W P T b Q) Q) e
  | .cond c x y, Q, e => CondK (ev e c) (W P T x Q e) (W P T y Q e)
  | .block id b, Q, e => W P T b (blkK id Q) e
  | .loop b, Q, e => LoopW (W P T b) Q e
  | .exit id, Q, e => Q (.exit id) e
  | .goto l, Q, e => Q (.goto l) e
  | .ret, Q, e => Q .ret e
  | .scope _, _, _ => fun _ => False
  | .rangeFunc .., _, _ => fun _ => False
  | .refuse _, _, _ => fun _ => False
def dstOK (n : Nat) (o : Oper) : Bool := match o.dst with
  | some d => decide (d < n)
  | none => true
def codeOK (n : Nat) (T : Nat → Plan) : Code → Bool
  | .region id ops d => ops.toList.all (dstOK n) && (!d || planOK ops n (T id))
  | .seq a b => codeOK n T a && codeOK n T b
  | .cond _ x y => codeOK n T x && codeOK n T y
  | .block _ b => codeOK n T b
  | .loop b => codeOK n T b
  | .scope _ | .rangeFunc .. | .refuse _ => false
  | _ => true
section
variable {P : Program} {T : Nat → Plan} {n : Nat}
theorem ev_envOf (a : Act) : ev (envOf a) = a.eval := by funext x; cases x <;> rfl
theorem execOp_oper (ρ : Operand → Value) (o : Oper) : execOp ρ (oper o.op o.type) = execOp ρ o := by
  obtain ⟨dst, op, type, pos, after, guard⟩ := o
  cases op <;> rfl
theorem envOf_put {a : Act} {o : Oper} {v : Value} (h : dstOK n o = true) (hs : a.tmps.size = n) : envOf (a.put o.dst v) = put (envOf a) o.dst v := by
  unfold dstOK at h
  cases hd : o.dst with
  | none => rfl
  | some d =>
    rw [hd] at h
    simp only [decide_eq_true_eq] at h
    funext t
    simp only [envOf, Act.put, put, upd]
    by_cases ht : t = d
    · subst ht; simp [hs, h]
    · simp [Array.getElem?_setIfInBounds_ne (Ne.symm ht), ht]
theorem wanted_envOf {a : Act} {ops : Array Oper} {o : Oper} (hs : a.tmps.size = n) (hops : ∀ (j : Nat) o, ops[j]? = some o → dstOK n o = true) (A B : WP) (w : World) :
    guarded ops (envOf a) o.guard A B w → if Region.wanted o (yielded ops a.tmps) then A w else B w := by
  intro h
  unfold Region.wanted
  cases hg : o.guard with
  | none => rw [hg] at h; simp only [if_true]; exact h
  | some g =>
    obtain ⟨j, want⟩ := g
    rw [hg] at h
    simp only [guarded] at h
    simp only
    unfold gv at h
    unfold yielded
    have hcase : (ops[j]?).bind (·.dst) = none ∨ ∃ d, (ops[j]?).bind (·.dst) = some d := by
      generalize (ops[j]?).bind (·.dst) = x
      cases x with
      | none => exact .inl rfl
      | some d => exact .inr ⟨d, rfl⟩
    rcases hcase with hj | ⟨d, hj⟩
    · simp only [hj] at h ⊢
      simpa [GuardK, undef] using h
    · simp only [hj] at h ⊢
      have hd : d < n := by
        cases ho : ops[j]? with
        | none => rw [ho] at hj; cases hj
        | some oj =>
          rw [ho] at hj
          have := hops j oj ho
          unfold dstOK at this
          have hj' : oj.dst = some d := hj
          rw [hj'] at this
          simpa using this
      have hget : a.tmps[d]? = some (envOf a d) := by simp [envOf, hs, hd]
      simp only [Option.bind_some, hget]
      generalize envOf a d = u at h
      cases u with
      | bool b =>
        simp only [GuardK] at h
        by_cases hb : b = want
        · subst hb; simpa using h
        · rw [if_neg hb] at h
          have : (some b == some want) = false := by simp; exact hb
          rw [this]; exact h
      | _ => simpa [GuardK] using h
theorem run_op {a : Act} {o : Oper} : execOp (ev (envOf a)) (oper o.op o.type) = execOp a.eval o := by rw [ev_envOf, execOp_oper]
theorem effW_of {a : Act} {o : Oper} {K : Value → WP} {next : Act → World → Prop} (hk : ∀ v w, K v w → next (a.put o.dst v) w) {r : Result Next} (h : upon P K r) : effW P o a next r := by
  cases r with
  | ok nx w' =>
    cases nx <;> simp only [upon] at h <;> simp only [effW] <;> first
      | exact hk _ _ h
      | (unfold CallK at h; exact Calls.mono h fun e w'' he => by cases e <;> first | exact hk _ _ he | exact he.elim)
      | exact Rows.mono h fun u w'' he => hk _ _ he
      | exact RoundW.mono h fun e w'' he => by cases e <;> first | exact hk _ _ he | exact he.elim
  | halt x w' => simp only [upon] at h
theorem run_value_bind {α : Type} (P : Program) (s : Sem α) (f : α → Sem Next) (w w' : World) (v : α) (h : s.run P w = .ok v w') : (s >>= f).run P w = (f v).run P w' := by simp [h]
theorem opR_rd {o : Op} (h : isEff o = false) (ty : TypeId) (e : Env) (K : Value → WP) : opR P o ty e K = rdR P o ty e K := by simp [opR, h]
theorem opR_eff {o : Op} (h : isEff o = true) (ty : TypeId) (e : Env) (K : Value → WP) : opR P o ty e K = effR P o ty e K := by simp [opR, h]
theorem rd_gen {s : Sem Value} {o : Op} {ty : TypeId} {e : Env} {K : Value → WP} {w : World} (hs : execOp (ev e) (oper o ty) = (do let v ← s; pure (.value v))) (hn : isEff o = false) (h : GenK P s K w) : opR P o ty e K w := by
  obtain ⟨v, hr, hk⟩ := h
  rw [opR_rd hn]
  exact ⟨v, by rw [hs, run_value_bind P s _ w w v hr]; rfl, hk⟩
theorem eff_gen {s : Sem Value} {o : Op} {ty : TypeId} {e : Env} {K : Value → WP} {w : World} (hs : execOp (ev e) (oper o ty) = (do let v ← s; pure (.value v))) (hn : isEff o = true) (h : EGenK P s K w) : opR P o ty e K w := by
  obtain ⟨v, w', hr, hk⟩ := h
  rw [opR_eff hn]
  unfold effR
  rw [hs, run_value_bind P s _ w w' v hr]
  exact hk
theorem eff_unit {s : Sem Unit} {o : Op} {ty : TypeId} {e : Env} {K : Value → WP} {w : World} (hs : execOp (ev e) (oper o ty) = (do s; pure .skip)) (hn : isEff o = true) (h : EUnitK P s K w) : opR P o ty e K w := by
  obtain ⟨w', hr, hk⟩ := h
  rw [opR_eff hn]
  unfold effR
  rw [hs, run_value_bind P s _ w w' () hr]
  exact hk
theorem rd_val {v : Value} {o : Op} {ty : TypeId} {e : Env} {K : Value → WP} {w : World} (hs : (execOp (ev e) (oper o ty)).run P w = .ok (.value v) w) (hn : isEff o = false) (h : K v w) : opR P o ty e K w := by
  rw [opR_rd hn]; exact ⟨v, hs, h⟩
theorem eff_val {v : Value} {o : Op} {ty : TypeId} {e : Env} {K : Value → WP} {w : World} (hs : (execOp (ev e) (oper o ty)).run P w = .ok (.value v) w) (h : K v w) : opR P o ty e K w := by
  cases hn : isEff o with
  | false => exact rd_val hs hn h
  | true => rw [opR_eff hn]; unfold effR; rw [hs]; exact h
theorem run_callFunc {f : FuncId} (h : isFnB P f = true) (args : Array Value) (w : World) : (callFunc f args).run P w = .ok (.enter f args) w := by
  unfold isFnB at h
  cases hf : P.funcs[f]? with
  | none => rw [hf] at h; cases h
  | some fn =>
    rw [hf] at h
    simp only [Bool.and_eq_true, bne_iff_ne, ne_eq] at h
    obtain ⟨h1, h2⟩ := h
    obtain ⟨b, hb⟩ := Option.isSome_iff_exists.1 h2
    unfold callFunc
    simp [hf, h1, hb]
theorem opX_sound {o : Op} {ty : TypeId} {e : Env} {K : Value → WP} {w : World} (h : opX P o ty e K w) : opR P o ty e K w := by
  cases o
  case move x => exact rd_val rfl rfl h
  case assign x => exact eff_val rfl h
  case pick c a b =>
    simp only [opX] at h
    cases hc : ev e c with
    | bool x =>
      rw [hc] at h
      refine rd_val ?_ rfl h
      simp [execOp, oper, asBool, hc]
    | _ => rw [hc] at h; exact h.elim
  case unOp op t x =>
    cases op
    case not =>
      simp only [opX] at h
      cases hc : ev e x with
      | bool b =>
        rw [hc] at h
        refine rd_val ?_ rfl h
        simp [execOp, oper, Op.unary, hc]
      | _ => rw [hc] at h; exact h.elim
    all_goals exact h
  case nilCheck x =>
    simp only [opX] at h
    cases hc : ev e x with
    | pointer a =>
      cases a with
      | none => rw [hc] at h; exact h.elim
      | some a =>
        rw [hc] at h
        refine rd_val ?_ rfl h
        simp [execOp, oper, hc]
    | _ => rw [hc] at h; exact h.elim
  case extract x i =>
    simp only [opX] at h
    cases hc : ev e x with
    | tuple vs =>
      rw [hc] at h
      simp only [ExtrK] at h
      cases hv : vs[i]? with
      | none => rw [hv] at h; exact h.elim
      | some v =>
        rw [hv] at h
        refine rd_val ?_ rfl h
        simp [execOp, oper, Instr.extract, hc, hv]
    | _ => rw [hc] at h; exact h.elim
  case binOp op t x y yt =>
    simp only [opX] at h
    have hgen : ∀ a b, ev e x = a → ev e y = b → GenK P (do eqGuard op t x y a b; binOp op t a b) K w → opR P (.binOp op t x y yt) ty e K w := fun a b ha hb h => by
      subst ha hb
      obtain ⟨v, hr, hk⟩ := h
      refine rd_val ?_ rfl hk
      simp only [execOp, oper]
      rw [run_value_bind P _ _ w w v hr]; rfl
    cases ha : ev e x with
    | int k m =>
      cases hb : ev e y with
      | int k' n =>
        rw [ha, hb] at h
        simp only [BinK] at h
        split at h
        · rename_i hk
          subst hk
          have hg : GenK P (binOp op t (.int k m) (.int k n)) K w → opR P (.binOp op t x y yt) ty e K w := fun h => hgen _ _ ha hb (by
            obtain ⟨v, hr, hk⟩ := h
            exact ⟨v, by cases op <;> simpa [eqGuard] using hr, hk⟩)
          cases op <;> simp only [intBin, someK] at h <;> first
            | exact hg h
            | (refine hg ⟨_, ?_, h⟩; simp [binOp, Op.intArith, Op.intCmp]; done)
            | (refine hg ⟨_, ?_, h⟩; simp only [binOp, Op.intCmp]; simp; rfl)
            | (by_cases hn : n = 0
               · rw [if_pos hn] at h; exact hg h
               · rw [if_neg hn] at h; refine hg ⟨_, ?_, h⟩; simp [binOp, Op.intDiv, hn])
        · exact h.elim
      | _ => rw [ha, hb] at h; exact hgen _ _ ha hb h
    | _ => rw [ha] at h; exact hgen _ _ ha rfl h
  case convert s d x =>
    have h' : ConvK P s d (ev e x) K w := h
    unfold ConvK at h'
    by_cases hsd : s = d
    · rw [if_pos hsd] at h'; exact eff_gen rfl (beq_iff_eq.2 hsd) h'
    · rw [if_neg hsd] at h'; exact rd_gen rfl (beq_eq_false_iff_ne.2 hsd) h'
  case load t a => exact rd_gen rfl rfl h
  case fieldAddr s x f => exact rd_gen rfl rfl h
  case field t x f => exact rd_gen rfl rfl h
  case indexAddr t x i => exact rd_gen rfl rfl h
  case index t x i => exact rd_gen rfl rfl h
  case slice t x lo hi mx => exact rd_gen rfl rfl h
  case lookup t x i ok => exact rd_gen rfl rfl h
  case build t ps => exact rd_gen rfl rfl h
  case makeInterface t x => exact rd_gen rfl rfl h
  case makeFunc fn first cap => exact rd_val rfl rfl h
  case typeAssert x t a ok => exact rd_gen rfl rfl h
  case store t a x => exact eff_unit rfl rfl h
  case alloc t => exact eff_gen rfl rfl h
  case box t x => exact eff_gen rfl rfl h
  case buildSlice t n ps => exact eff_gen rfl rfl h
  case makeMap t r => exact eff_gen rfl rfl h
  case makeChan t s => exact eff_gen rfl rfl h
  case makeSlice t l c => exact eff_gen rfl rfl h
  case mapUpdate t m k x => exact eff_unit rfl rfl h
  case call c =>
    obtain ⟨callee, as, ts⟩ := c
    have hcall : ∀ (f : FuncId) (args : Array Value), isFnB P f = true → CallK P f args K w → (execOp (ev e) (oper (.call ⟨callee, as, ts⟩) ty)).run P w = (callFunc f args).run P w → isEff (.call ⟨callee, as, ts⟩) = true → opR P (.call ⟨callee, as, ts⟩) ty e K w := by
      intro f args hf hk he hi
      rw [opR_eff hi]
      unfold effR
      rw [he, run_callFunc hf]
      exact hk
    cases callee with
    | invoke r m => exact h
    | value fo =>
      cases fo with
      | func f =>
        obtain ⟨hf, hk⟩ := h
        refine hcall f _ hf hk ?_ rfl
        simp [execOp, oper, resolve, Deferred.ofValue, ev, invoke]
      | tmp t =>
        simp only [opX] at h
        cases hv : e t with
        | func fn first cap =>
          rw [hv] at h
          cases fn with
          | func f =>
            obtain ⟨hf, hk⟩ := h
            refine hcall f _ hf hk ?_ rfl
            simp [execOp, oper, resolve, Deferred.ofValue, ev, invoke, hv]
          | yield l =>
            obtain ⟨f, tmps, assign, body, hy, hk⟩ := h
            rw [opR_eff rfl]
            unfold effR
            have he : (execOp (ev e) (oper (.call ⟨.value (.tmp t), as, ts⟩) ty)).run P w = (Instr.yield l (first ++ as.map (ev e))).run P w := by
              simp [execOp, oper, resolve, Deferred.ofValue, ev, invoke, hv]
            rw [he, hy]
            exact hk
          | _ => exact h
        | _ => rw [hv] at h; exact h
      | const v => exact h
      | global g => exact h
    | builtin b =>
      cases b
      case len => exact rd_gen (by simp [execOp, oper, resolve, invoke, builtin]) rfl h
      case cap => exact rd_gen (by simp [execOp, oper, resolve, invoke, builtin]) rfl h
      case min => exact rd_gen (by simp [execOp, oper, resolve, invoke, builtin]) rfl h
      case max => exact rd_gen (by simp [execOp, oper, resolve, invoke, builtin]) rfl h
      case append => exact eff_gen (by simp [execOp, oper, resolve, invoke, builtin]) rfl h
      case copy => exact eff_gen (by simp [execOp, oper, resolve, invoke, builtin]) rfl h
      case clear => exact eff_gen (by simp [execOp, oper, resolve, invoke, builtin]) rfl h
      all_goals exact h
  all_goals exact h
theorem no_defer {o : Op} {ty : TypeId} {e : Env} {K : Value → WP} {w : World} (h : opR P o ty e K w) : ∀ c, o ≠ .defer c := by
  rintro c rfl
  rw [opR_eff rfl] at h
  unfold effR at h
  have he : execOp (ev e) (oper (.defer c) ty) = (do pure (.defer (← resolve (ev e) c ty))) := rfl
  rw [he] at h
  simp only [Sem.run_bind] at h
  cases hr : (resolve (ev e) c ty).run P w with
  | ok d w' => rw [hr] at h; simp [Result.andThen, upon] at h
  | halt x w' => rw [hr] at h; simp [Result.andThen, upon] at h
theorem wp_of_opR {a : Act} {o : Oper} {K : Value → WP} {next : Act → World → Prop} {Q : Exit → Act → World → Prop} {w : World} (hk : ∀ v w, K v w → next (a.put o.dst v) w)
    {ro : Option Nat} {m : Nat} (h' : opX P o.op o.type (envOf a) K w) : o.wpIn (Fw ro) m P a w next Q := by
  have h := opX_sound h'
  have hd := no_defer h
  unfold opR at h
  split at h
  · unfold effR at h
    rw [run_op] at h
    exact wp_of_effW hd (effW_of hk h)
  · obtain ⟨v, hr, h'⟩ := h
    rw [run_op] at hr
    refine ⟨fun _ _ => trivial, ?_⟩
    rw [Oper.semAt_eq _ _ _ hd, hr]
    exact hk _ _ h'
theorem WL_sound {ops : Array Oper} (hops : ∀ (j : Nat) o, ops[j]? = some o → dstOK n o = true) {k : Env → WP} {Q : Exit → Act → World → Prop} {D : List Deferred} {ro : Option Nat} {m : Nat} (hQ : ∀ a w, a.tmps.size = n → a.defers = D → k (envOf a) w → Q .normal a w) :
    ∀ (l : List Oper) (a : Act) (w : World), (∀ o ∈ l, dstOK n o = true) → a.tmps.size = n → a.defers = D → WL P ops l k (envOf a) w → wpListIn (Fw ro) m P ops Q l a w
  | [], a, w, _, hs, hd, h => hQ a w hs hd h
  | o :: r, a, w, hl, hs, hd, h => by
    have ho := hl o (by simp)
    simp only [WL] at h
    have h' := wanted_envOf hs hops _ _ w h
    have hput : ∀ v, (a.put o.dst v).tmps.size = n := fun v => by rw [size_put]; exact hs
    have hdef : ∀ v, (a.put o.dst v).defers = D := fun v => by cases hdd : o.dst <;> exact hd
    unfold wpListIn
    split
    · rename_i hw
      rw [if_pos hw] at h'
      refine wp_of_opR (fun v w' hk => ?_) h'
      rw [opK, ← envOf_put ho hs] at hk
      exact WL_sound hops hQ r _ _ (fun o ho => hl o (by simp [ho])) (hput v) (hdef v) hk
    · rename_i hw
      rw [if_neg hw, ← envOf_put ho hs] at h'
      exact ⟨fun _ _ => trivial, WL_sound hops hQ r _ _ (fun o ho => hl o (by simp [ho])) (hput _) (hdef _) h'⟩
theorem chks_sound {ops : Array Oper} (hops : ∀ (j : Nat) o, ops[j]? = some o → dstOK n o = true) (hdst : ∀ (j : Nat) o, ops[j]? = some o → isEff o.op = false → o.dst.isSome = true) {a : Act} (hs : a.tmps.size = n) :
    ∀ (cs : List Nat) (X : WP) (w : World), (∀ c ∈ cs, ∀ o, ops[c]? = some o → isEff o.op = false) → chks P ops (envOf a) cs X w → (∀ c ∈ cs, Okc P ops c a w) ∧ X w
  | [], X, w, _, h => ⟨by simp, h⟩
  | c :: cs, X, w, hne, h => by
    simp only [chks, chkK] at h
    cases ho : ops[c]? with
    | none => rw [ho] at h; exact h.elim
    | some o =>
      rw [ho] at h
      have h' := wanted_envOf hs hops _ _ w h
      have fin : chks P ops (envOf a) cs X w → Okc P ops c a w → (∀ c' ∈ c :: cs, Okc P ops c' a w) ∧ X w := fun h1 h2 => by
        obtain ⟨h3, h4⟩ := chks_sound hops hdst hs cs X w (fun c hc => hne c (by simp [hc])) h1
        exact ⟨fun c' hc' => by
          rcases List.mem_cons.1 hc' with rfl | hc'
          · exact h2
          · exact h3 c' hc', h4⟩
      split at h'
      · have h' := opX_sound h'
        rw [opR_rd (hne c (by simp) o ho)] at h'
        obtain ⟨v, hr, hv, hx⟩ := h'
        rw [run_op] at hr
        refine fin hx (fun oc hoc _ => ?_)
        obtain rfl : o = oc := Option.some.inj (ho.symm.trans hoc)
        obtain ⟨d, hd⟩ := Option.isSome_iff_exists.1 (hdst c o ho (hne c (by simp) o ho))
        refine ⟨d, hd, ?_⟩
        rw [hr, hv]
        simp [slot, hd, envOf]
      · rename_i hw
        refine fin h' (fun oc hoc hwc => ?_)
        obtain rfl : o = oc := Option.some.inj (ho.symm.trans hoc)
        exact absurd hwc hw
theorem WD_sound {ops : Array Oper} (O : OpsFacts ops) (hops : ∀ (j : Nat) o, ops[j]? = some o → dstOK n o = true) {k : Env → WP} {Q : Act → World → Prop} {D : List Deferred}
    (hQ : ∀ a w, a.tmps.size = n → a.defers = D → k (envOf a) w → Q a w) :
    ∀ (r : Plan) (c : Bool) (path : Line) (a : Act) (w : World), treeB ops n c path r = true → a.tmps.size = n → a.defers = D → WD P ops r k (envOf a) w → GT P ops Q r a w
  | .fin, _, _, a, w, _, hs, hd, h => hQ a w hs hd h
  | .br x y, c, path, a, w, ht, hs, hd, h => by
    simp only [treeB, Bool.and_eq_true] at ht
    exact ⟨WD_sound O hops hQ x true path a w ht.1.2 hs hd h.1, WD_sound O hops hQ y true path a w ht.2 hs hd h.2⟩
  | .st s r, c, path, a, w, ht, hs, hd, h => by
    simp only [treeB, Bool.and_eq_true] at ht
    obtain ⟨⟨hn, _⟩, ht⟩ := ht
    simp only [nextB, Bool.and_eq_true, List.all_eq_true] at hn
    obtain ⟨⟨_, hst⟩, hck⟩ := hn
    simp only [WD] at h
    simp only [GT, opG]
    cases ho : ops[s.i]? with
    | none => rw [ho] at h; exact h.elim
    | some o =>
      rw [ho] at h
      simp only
      have hdo := hops s.i o ho
      have h' := wanted_envOf hs hops _ _ w h
      have heff : isEff o.op = s.eff := by
        obtain ⟨o', ho', h1⟩ := opAt_spec hst
        obtain rfl : o = o' := Option.some.inj (ho.symm.trans ho')
        simp only [Bool.and_eq_true, beq_iff_eq] at h1
        exact h1.1.1.1.1
      have hput : ∀ v, (a.put o.dst v).tmps.size = n := fun v => by rw [size_put]; exact hs
      have hdef : ∀ v, (a.put o.dst v).defers = D := fun v => by cases hdd : o.dst <;> exact hd
      have step : ∀ v w', opKc P ops s.chk (WD P ops r k) (envOf a) o.dst v w' → (∀ c ∈ s.chk, Okc P ops c (a.put o.dst v) w') ∧ GT P ops Q r (a.put o.dst v) w' := fun v w' hk => by
        rw [opKc, ← envOf_put hdo hs] at hk
        obtain ⟨h1, h2⟩ := chks_sound hops O.rdst (hput v) s.chk _ w' (fun c hcc oc hoc => by
          obtain ⟨o', ho', h1⟩ := opAt_spec (hck c hcc).2
          obtain rfl : oc = o' := Option.some.inj (hoc.symm.trans ho')
          simpa using h1) hk
        exact ⟨h1, WD_sound O hops hQ r _ _ _ _ ht (hput v) (hdef v) h2⟩
      split
      · rename_i hw
        rw [if_pos hw] at h'
        have h' := opX_sound h'
        unfold opR at h'
        cases hse : s.eff with
        | true =>
          rw [heff, hse] at h'
          simp only [if_true] at h' ⊢
          unfold effR at h'
          rw [run_op] at h'
          exact effW_of (fun v w' hk => ⟨fun c hcc _ => (step v w' hk).1 c hcc, (step v w' hk).2⟩) h'
        | false =>
          rw [heff, hse] at h'
          simp only [Bool.false_eq_true, if_false] at h' ⊢
          obtain ⟨v, hrun, hk⟩ := h'
          rw [run_op] at hrun
          exact ⟨v, hrun, (step v w hk).2⟩
      · rename_i hw
        rw [if_neg hw, ← envOf_put hdo hs] at h'
        exact WD_sound O hops hQ r _ _ _ _ ht (hput _) (hdef _) h'
def lift (n : Nat) (D : List Deferred) (Q : Post) : Exit → Act → World → Prop := fun x a w => a.tmps.size = n ∧ a.defers = D ∧ Q x (envOf a) w
def codeOK' (T : Nat → Plan) : Code → Bool
  | .region _ _ _ => true
  | .seq a b => codeOK' T a && codeOK' T b
  | .cond _ x y => codeOK' T x && codeOK' T y
  | .block _ b => codeOK' T b
  | .loop b => codeOK' T b
  | _ => true
theorem W_sound {ro : Option Nat} {m : Nat} (hm : P.follows .mixedOrders = true) {D : List Deferred} : ∀ (c : Code) (Q : Post) (a : Act) (w : World), codeOK n T c = true → codeOK' T c = true → a.tmps.size = n → a.defers = D → W P T c Q (envOf a) w → c.wpIn (Fw ro) m P (lift n D Q) a w := by
  intro c
  induction c with
  | skip => exact fun Q a w _ _ hs hd h => wpIn_skip ⟨hs, hd, h⟩
  | label l => exact fun Q a w _ _ hs hd h => wpIn_label ⟨hs, hd, h⟩
  | exit id => exact fun Q a w _ _ hs hd h => wpIn_exit ⟨hs, hd, h⟩
  | goto l => exact fun Q a w _ _ hs hd h => wpIn_goto ⟨hs, hd, h⟩
  | ret => exact fun Q a w _ _ hs hd h => wpIn_ret ⟨hs, hd, h⟩
  | scope b => exact fun Q a w hok => by simp [codeOK] at hok
  | rangeFunc => exact fun Q a w hok => by simp [codeOK] at hok
  | refuse => exact fun Q a w hok => by simp [codeOK] at hok
  | region id ops d =>
    intro Q a w hok hok' hs hd h
    simp only [codeOK, Bool.and_eq_true, List.all_eq_true] at hok
    have hops : ∀ (j : Nat) o, ops[j]? = some o → dstOK n o = true := fun j o ho => hok.1 o (by
      have := Array.mem_of_getElem? ho
      exact Array.mem_toList_iff.2 this)
    cases d with
    | false =>
      simp only [W, Bool.false_eq_true, if_false] at h
      exact wpIn_region_list (WL_sound hops (fun a w hs hd h => ⟨hs, hd, h⟩) ops.toList a w (fun o ho => hok.1 o ho) hs hd h)
    | true =>
      simp only [W, if_true, drewK] at h
      have hpl : planOK ops n (T id) = true := by simpa using hok.2
      have hpl' := hpl
      simp only [planOK, Bool.and_eq_true] at hpl'
      exact wp_region_plan hm hpl hs (WD_sound (opsFacts hpl'.1) hops (D := D) (fun a w hs hd h _ => ⟨hs, hd, h⟩) (T id) false [] a _ hpl'.2 hs hd h)
  | seq x y ihx ihy =>
    intro Q a w hok hok' hs hd h
    simp only [codeOK, codeOK', Bool.and_eq_true] at hok hok'
    simp only [W] at h
    refine wpIn_seq (wpIn_mono (ihx _ a w hok.1 hok'.1 hs hd h) fun e a w hl => ?_)
    obtain ⟨hs, hd, h⟩ := hl
    cases e with
    | normal => exact ihy Q a w hok.2 hok'.2 hs hd h
    | _ => exact ⟨hs, hd, h⟩
  | cond c x y ihx ihy =>
    intro Q a w hok hok' hs hd h
    simp only [codeOK, codeOK', Bool.and_eq_true] at hok hok'
    simp only [W, ev_envOf] at h
    cases hb : a.eval c with
    | bool b =>
      rw [hb] at h
      refine wpIn_cond (t := b) hb ?_
      cases b with
      | true => exact ihx Q a w hok.1 hok'.1 hs hd (by simpa [CondK] using h)
      | false => exact ihy Q a w hok.2 hok'.2 hs hd (by simpa [CondK] using h)
    | _ => rw [hb] at h; exact h.elim
  | block id b ih =>
    intro Q a w hok hok' hs hd h
    simp only [codeOK, codeOK'] at hok hok'
    simp only [W] at h
    refine wpIn_block (wpIn_mono (ih _ a w hok hok' hs hd h) fun e a w hl => ?_)
    obtain ⟨hs, hd, h⟩ := hl
    cases e with
    | exit id' =>
      simp only [blkK] at h
      simp only [Exit.inBlock]
      by_cases he : id' = id
      · rw [if_pos he] at h ⊢; exact ⟨hs, hd, h⟩
      · rw [if_neg he] at h ⊢; exact ⟨hs, hd, h⟩
    | _ => exact ⟨hs, hd, h⟩
  | loop b ih =>
    intro Q a w hok hok' hs hd h
    simp only [codeOK, codeOK'] at hok hok'
    simp only [W] at h
    obtain ⟨I, h0, hr⟩ := h
    refine wpIn_loop (fun a w => a.tmps.size = n ∧ a.defers = D ∧ ∃ n, I n (envOf a) w) (fun a w => least fun n => I n (envOf a) w) ⟨hs, hd, h0⟩ fun a w hI => ?_
    obtain ⟨hs, hd, hi⟩ := hI
    refine wpIn_mono (ih _ a w hok hok' hs hd (hr _ _ _ (least_spec hi).1)) fun e a' w' hl => ?_
    obtain ⟨hs', hd', h'⟩ := hl
    cases e with
    | normal =>
      obtain ⟨m, hm, hi'⟩ := h'
      exact ⟨⟨hs', hd', m, hi'⟩, Nat.lt_of_le_of_lt ((least_spec (p := fun n => I n (envOf a') w') ⟨m, hi'⟩).2 m hi') hm⟩
    | _ => exact ⟨hs', hd', h'⟩
def resK (P : Program) (rs : Array ResultVar) (e : Env) (K : Value → WP) : WP := fun w =>
  ∃ v, (do
    let vs ← rs.mapM fun
      | ResultVar.tmp t => (pure (e t) : Sem Value)
      | .cell a t => do loadVar t (← asAddr (e a))
    pure (if h : vs.size = 1 then vs[0] else .tuple vs)).run P w = .ok v w ∧ K v w
def endK (P : Program) (rs : Array ResultVar) (K : Value → WP) : Post
  | .normal, e => resK P rs e K
  | .ret, e => resK P rs e K
  | _, _ => fun _ => False
def resL (P : Program) (e : Env) : List ResultVar → (List Value → WP) → WP
  | [], K => K []
  | .tmp t :: r, K => resL P e r fun vs => K (e t :: vs)
  | .cell a t :: r, K => GenK P (Instr.loadAt t (e a)) fun v => resL P e r fun vs => K (v :: vs)
def one (vs : List Value) : Value := match vs with
  | [v] => v
  | vs => .tuple vs.toArray
theorem resL_sound {P : Program} {e : Env} : ∀ (rs : List ResultVar) (K : List Value → WP) (w : World), resL P e rs K w → ∃ vs, (rs.mapM fun
      | ResultVar.tmp t => (pure (e t) : Sem Value)
      | .cell a t => do loadVar t (← asAddr (e a))).run P w = .ok vs w ∧ K vs w
  | [], K, w, h => ⟨[], by simp, h⟩
  | .tmp t :: r, K, w, h => by
    obtain ⟨vs, h1, h2⟩ := resL_sound r _ w h
    exact ⟨e t :: vs, by simp only [List.mapM_cons, Sem.run_bind, Sem.run_pure, Result.andThen_ok, h1], h2⟩
  | .cell a t :: r, K, w, h => by
    obtain ⟨v, h0, h'⟩ := h
    obtain ⟨vs, h1, h2⟩ := resL_sound r _ w h'
    refine ⟨v :: vs, ?_, h2⟩
    have : (do loadVar t (← asAddr (e a)) : Sem Value).run P w = .ok v w := by
      unfold Instr.loadAt at h0
      cases ha : e a with
      | pointer x =>
        cases x with
        | none => rw [ha] at h0; simp [Instr.sureAddr] at h0
        | some x => rw [ha] at h0; simpa [Instr.sureAddr, asAddr] using h0
      | _ => rw [ha] at h0; simp [Instr.sureAddr] at h0
    rw [List.mapM_cons]
    simp only [Sem.run_bind]
    simp only [Sem.run_bind] at this
    rw [this]
    simp only [Result.andThen_ok, h1, Sem.run_pure]
theorem resK_of {P : Program} {rs : List ResultVar} {e : Env} {K : Value → WP} {w : World} (h : resL P e rs (fun vs => K (one vs)) w) : resK P rs.toArray e K w := by
  obtain ⟨vs, h1, h2⟩ := resL_sound rs _ w h
  refine ⟨one vs, ?_, h2⟩
  rw [List.mapM_toArray]
  simp only [bind_map_left, Sem.run_bind, h1, Result.andThen_ok]
  match vs with
  | [] => rfl
  | [v] => rfl
  | _ :: _ :: _ => rfl
def env0 (n : Nat) (args : Array Value) : Env := envOf { tmps := args ++ Array.replicate (n - args.size) undef, defers := [] }
def argE (u : Env) : Nat → List Value → Env
  | _, [] => u
  | i, v :: vs => argE (upd u i v) (i + 1) vs
theorem argE_self (e : Env) : ∀ (vs : List Value) (i : Nat), (∀ j, (h : j < vs.length) → e (i + j) = vs[j]) → argE e i vs = e
  | [], _, _ => rfl
  | v :: vs, i, h => by
    have h0 : upd e i v = e := by
      funext j
      simp only [upd]
      split
      · rename_i he; subst he; exact (h 0 (by simp)).symm
      · rfl
    simp only [argE, h0]
    exact argE_self e vs (i + 1) fun j hj => by
      have := h (j + 1) (by simp; omega)
      rw [show i + 1 + j = i + (j + 1) by omega]; exact this
theorem env0_arg (n : Nat) (args : List Value) : env0 n args.toArray = argE (env0 n args.toArray) 0 args :=
  (argE_self _ args 0 fun j hj => by
    show (args.toArray ++ Array.replicate (n - args.toArray.size) undef).getD (0 + j) undef = args[j]
    rw [Nat.zero_add, Array.getD_eq_getD_getElem?, Array.getElem?_append_left (by simpa using hj)]
    simp [hj]).symm
structure FnOK (P : Program) (f : FuncId) (fn : Func) (c : Code) (T : Nat → Plan) : Prop where
  func : P.funcs[f]? = some fn
  body : fn.body = some c
  ok : codeOK fn.ntmps T c = true
  ok' : codeOK' T c = true
def endL (P : Program) (rs : List ResultVar) (K : Value → WP) : Post
  | .normal, e => resL P e rs fun vs => K (one vs)
  | .ret, e => resL P e rs fun vs => K (one vs)
  | _, _ => fun _ => False
theorem CallK_enter (hm : P.follows .mixedOrders = true) {f : FuncId} {fn : Func} {c : Code} (F : FnOK P f fn c T) {args : List Value} {K : Value → WP} {w : World} {rs : List ResultVar} (hrs : fn.results = rs.toArray) (ha : args.length ≤ fn.ntmps)
    (h : ∀ u, W P T c (endL P rs K) (argE u 0 args) w) : CallK P f args.toArray K w := by
  unfold CallK
  refine callsIn_wide.1 (callsIn_of_wp (n := 0) F.func F.body trivial (wpIn_mono (W_sound (ro := none) (m := 0) (D := []) hm c (endL P rs K) _ w F.ok F.ok' (by simp; omega) rfl ?_) fun e a w hl => ?_) rfl)
  · have := h (env0 fn.ntmps args.toArray)
    rw [← env0_arg] at this
    exact this
  · obtain ⟨hs, hd, h⟩ := hl
    have fin : ∀ w, resL P (envOf a) rs (fun vs => K (one vs)) w → ∃ v, (results fn a.tmps).run P w = .ok v w ∧ K v w := fun w h => by
      obtain ⟨v, hr, hk⟩ := resK_of h
      refine ⟨v, ?_, hk⟩
      rw [← hrs] at hr
      exact hr
    cases e with
    | normal => obtain ⟨v, hr, hk⟩ := fin w h; exact ⟨hd, v, hr, hk⟩
    | ret => obtain ⟨v, hr, hk⟩ := fin w h; exact ⟨hd, v, hr, hk⟩
    | exit id => exact h.elim
    | goto l => exact h.elim
    | panic ch => exact h.elim
    | outgrown => exact h.elim
end
theorem nr {α : Sort _} {a b : α} (h : a = b) : a = b := h
section
variable {P : Program} {T : Nat → Plan} {ops : Array Oper} {k : Env → WP} {K : Value → WP} {Q : Post} {e : Env} {X A B : WP}
theorem W_skip : W P T .skip Q e = Q .normal e := nr rfl
theorem W_label {l : Nat} : W P T (.label l) Q e = Q .normal e := nr rfl
theorem W_regD {id : Nat} : W P T (.region id ops true) Q e = drewK (WD P ops (T id) (Q .normal) e) := nr rfl
theorem W_reg {id : Nat} {l : List Oper} : W P T (.region id l.toArray false) Q e = WL P l.toArray l (Q .normal) e := nr rfl
theorem W_seq {a b : Code} : W P T (.seq a b) Q e = W P T a (seqK (W P T b Q) Q) e := nr rfl
def CondW (P : Program) (T : Nat → Plan) (v : Value) (x y : Code) (Q : Post) (e : Env) : WP := CondK v (W P T x Q e) (W P T y Q e)
theorem W_cond {c : Operand} {x y : Code} : W P T (.cond c x y) Q e = CondW P T (ev e c) x y Q e := nr rfl
theorem CondW_t {x y : Code} : CondW P T (.bool true) x y Q e = W P T x Q e := nr rfl
theorem CondW_f {x y : Code} : CondW P T (.bool false) x y Q e = W P T y Q e := nr rfl
theorem W_block {id : Nat} {b : Code} : W P T (.block id b) Q e = W P T b (blkK id Q) e := nr rfl
theorem W_loop {b : Code} : W P T (.loop b) Q e = LoopW (W P T b) Q e := nr rfl
theorem W_exit {id : Nat} : W P T (.exit id) Q e = Q (.exit id) e := nr rfl
theorem W_ret : W P T .ret Q e = Q .ret e := nr rfl
theorem WL_nil : WL P ops [] k e = k e := nr rfl
theorem WL_op {d : Option Tmp} {o : Op} {ty : TypeId} {pos : String} {af : Array Edge} {r : List Oper} : WL P ops (⟨d, o, ty, pos, af, none⟩ :: r) k e = opX P o ty e (opK (WL P ops r k) e d) := nr rfl
def GuardO (P : Program) (v : Value) (want : Bool) (o : Op) (ty : TypeId) (e : Env) (K : Value → WP) (k : Env → WP) (d : Option Tmp) : WP := GuardK v want (opX P o ty e K) (k (put e d undef))
theorem GuardO_tt {o : Op} {ty : TypeId} {d : Option Tmp} : GuardO P (.bool true) true o ty e K k d = opX P o ty e K := nr rfl
theorem GuardO_ff {o : Op} {ty : TypeId} {d : Option Tmp} : GuardO P (.bool false) false o ty e K k d = opX P o ty e K := nr rfl
theorem GuardO_tf {o : Op} {ty : TypeId} {d : Option Tmp} : GuardO P (.bool true) false o ty e K k d = k (put e d undef) := nr rfl
theorem GuardO_ft {o : Op} {ty : TypeId} {d : Option Tmp} : GuardO P (.bool false) true o ty e K k d = k (put e d undef) := nr rfl
theorem GuardO_un {o : Op} {ty : TypeId} {d : Option Tmp} {want : Bool} : GuardO P undef want o ty e K k d = k (put e d undef) := nr rfl
theorem WL_opg {d : Option Tmp} {o : Op} {ty : TypeId} {pos : String} {af : Array Edge} {j : Nat} {want : Bool} {r : List Oper} : WL P ops (⟨d, o, ty, pos, af, some (j, want)⟩ :: r) k e =
    GuardO P (gv ops e j) want o ty e (opK (WL P ops r k) e d) (WL P ops r k) d := nr rfl
theorem WD_nil : WD P ops .fin k e = k e := nr rfl
def WD1 (P : Program) (ops : Array Oper) (chk : List Nat) (r : Plan) (k : Env → WP) (e : Env) : Option Oper → WP
  | none => fun _ => False
  | some o => guarded ops e o.guard (opX P o.op o.type e (opKc P ops chk (WD P ops r k) e o.dst)) (WD P ops r k (put e o.dst undef))
theorem WD_cons {i : Nat} {eff : Bool} {chk : List Nat} {r : Plan} : WD P ops (.st ⟨i, eff, chk⟩ r) k e = WD1 P ops chk r k e ops[i]? := by
  simp only [WD]
  cases ops[i]? <;> rfl
def BrK (X Y : WP) : WP := fun w => X w ∧ Y w
theorem WD_br {x y : Plan} : WD P ops (.br x y) k e = BrK (WD P ops x k e) (WD P ops y k e) := nr rfl
theorem WD1_op {chk : List Nat} {r : Plan} {d : Option Tmp} {o : Op} {ty : TypeId} {pos : String} {af : Array Edge} : WD1 P ops chk r k e (some ⟨d, o, ty, pos, af, none⟩) = opX P o ty e (opKc P ops chk (WD P ops r k) e d) := nr rfl
theorem WD1_opg {chk : List Nat} {r : Plan} {d : Option Tmp} {o : Op} {ty : TypeId} {pos : String} {af : Array Edge} {j : Nat} {want : Bool} : WD1 P ops chk r k e (some ⟨d, o, ty, pos, af, some (j, want)⟩) =
    GuardO P (gv ops e j) want o ty e (opKc P ops chk (WD P ops r k) e d) (WD P ops r k) d := nr rfl
theorem opK_app {d : Option Tmp} {v : Value} : opK k e d v = k (put e d v) := nr rfl
theorem opKc_nil {d : Option Tmp} {v : Value} : opKc P ops [] k e d v = k (put e d v) := nr rfl
def chkR (P : Program) (ops : Array Oper) (cs : List Nat) (k : Env → WP) (e : Env) : WP := chks P ops e cs (k e)
theorem opKc_cons {c : Nat} {cs : List Nat} {d : Option Tmp} {v : Value} : opKc P ops (c :: cs) k e d v = chkR P ops (c :: cs) k (put e d v) := nr rfl
theorem chkR_nil : chkR P ops [] k e = k e := nr rfl
def eqR (P : Program) (ops : Array Oper) (cs : List Nat) (k : Env → WP) (e : Env) (u : Value) : Value → WP := eqK u (chkR P ops cs k e)
def chk1 (P : Program) (ops : Array Oper) (cs : List Nat) (k : Env → WP) (e : Env) : Option Oper → WP
  | none => fun _ => False
  | some o => guarded ops e o.guard (opX P o.op o.type e (eqR P ops cs k e (slot o e))) (chkR P ops cs k e)
theorem chkR_cons {c : Nat} {cs : List Nat} : chkR P ops (c :: cs) k e = chk1 P ops cs k e ops[c]? := by
  unfold chkR
  simp only [chks, chkK]
  cases ops[c]? <;> rfl
def GuardC (P : Program) (v : Value) (want : Bool) (o : Op) (ty : TypeId) (e : Env) (K : Value → WP) (ops : Array Oper) (cs : List Nat) (k : Env → WP) : WP := GuardK v want (opX P o ty e K) (chkR P ops cs k e)
theorem GuardC_tt {o : Op} {ty : TypeId} {cs : List Nat} : GuardC P (.bool true) true o ty e K ops cs k = opX P o ty e K := nr rfl
theorem GuardC_ff {o : Op} {ty : TypeId} {cs : List Nat} : GuardC P (.bool false) false o ty e K ops cs k = opX P o ty e K := nr rfl
theorem GuardC_tf {o : Op} {ty : TypeId} {cs : List Nat} : GuardC P (.bool true) false o ty e K ops cs k = chkR P ops cs k e := nr rfl
theorem GuardC_ft {o : Op} {ty : TypeId} {cs : List Nat} : GuardC P (.bool false) true o ty e K ops cs k = chkR P ops cs k e := nr rfl
theorem GuardC_un {o : Op} {ty : TypeId} {cs : List Nat} {want : Bool} : GuardC P undef want o ty e K ops cs k = chkR P ops cs k e := nr rfl
theorem chk1_op {d : Nat} {o : Op} {ty : TypeId} {pos : String} {af : Array Edge} {cs : List Nat} : chk1 P ops cs k e (some ⟨some d, o, ty, pos, af, none⟩) = opX P o ty e (eqR P ops cs k e (e d)) := nr rfl
theorem chk1_opg {d : Nat} {o : Op} {ty : TypeId} {pos : String} {af : Array Edge} {j : Nat} {want : Bool} {cs : List Nat} : chk1 P ops cs k e (some ⟨some d, o, ty, pos, af, some (j, want)⟩) = GuardC P (gv ops e j) want o ty e (eqR P ops cs k e (e d)) ops cs k := nr rfl
theorem put_some {i : Nat} {v : Value} : put e (some i) v = upd e i v := nr rfl
theorem put_none {v : Value} : put e none v = e := nr rfl
theorem upd_app {i j : Nat} {v : Value} : upd e i v j = if j = i then v else e j := nr rfl
theorem ev_tmp {t : Tmp} : ev e (.tmp t) = e t := nr rfl
theorem ev_const {v : Value} : ev e (.const v) = v := nr rfl
theorem ev_func {f : FuncId} : ev e (.func f) = .func (.func f) #[] #[] := nr rfl
theorem ev_global {g : Nat} : ev e (.global g) = .pointer (some ⟨g, 0, none⟩) := nr rfl
def gd (e : Env) : Option Oper → Value
  | none => undef
  | some o => match o.dst with
    | none => undef
    | some d => e d
theorem gv_eq {j : Nat} : gv ops e j = gd e ops[j]? := by
  unfold gv gd
  cases ops[j]? with
  | none => rfl
  | some o => cases h : o.dst <;> simp [h]
theorem gd_op {d : Nat} {o : Op} {ty : TypeId} {pos : String} {af : Array Edge} {g : Option (Nat × Bool)} : gd e (some ⟨some d, o, ty, pos, af, g⟩) = e d := nr rfl
theorem PickK_b {b : Bool} {x y : Value} : PickK (.bool b) x y K = K (if b = true then x else y) := nr rfl
theorem NotK_b {b : Bool} : NotK (.bool b) K = K (.bool (!b)) := nr rfl
theorem NilK_p {a : Addr} : NilK (.pointer (some a)) K = K (.pointer (some a)) := nr rfl
def getK (o : Option Value) (K : Value → WP) : WP := match o with
  | some v => K v
  | none => fun _ => False
theorem ExtrK_t {vs : Array Value} {i : Nat} : ExtrK (.tuple vs) i K = getK vs[i]? K := nr rfl
theorem getK_some {v : Value} : getK (some v) K = K v := nr rfl
theorem BinK_add {t : TypeId} {x y : Operand} {k : IntKind} {m n : Int} : BinK P .add t x y (.int k m) (.int k n) K = K (.int k (k.wrap (m + n))) := by simp [BinK, intBin, someK]
theorem BinK_sub {t : TypeId} {x y : Operand} {k : IntKind} {m n : Int} : BinK P .sub t x y (.int k m) (.int k n) K = K (.int k (k.wrap (m - n))) := by simp [BinK, intBin, someK]
theorem BinK_mul {t : TypeId} {x y : Operand} {k : IntKind} {m n : Int} : BinK P .mul t x y (.int k m) (.int k n) K = K (.int k (k.wrap (m * n))) := by simp [BinK, intBin, someK]
theorem BinK_eql {t : TypeId} {x y : Operand} {k : IntKind} {m n : Int} : BinK P .eql t x y (.int k m) (.int k n) K = K (.bool (decide (m = n))) := by simp [BinK, intBin, someK]
theorem BinK_neq {t : TypeId} {x y : Operand} {k : IntKind} {m n : Int} : BinK P .neq t x y (.int k m) (.int k n) K = K (.bool (!decide (m = n))) := by simp [BinK, intBin, someK]
theorem BinK_lss {t : TypeId} {x y : Operand} {k : IntKind} {m n : Int} : BinK P .lss t x y (.int k m) (.int k n) K = K (.bool (decide (m < n))) := by simp [BinK, intBin, someK]
theorem BinK_leq {t : TypeId} {x y : Operand} {k : IntKind} {m n : Int} : BinK P .leq t x y (.int k m) (.int k n) K = K (.bool (decide (m ≤ n))) := by simp [BinK, intBin, someK]
theorem BinK_gtr {t : TypeId} {x y : Operand} {k : IntKind} {m n : Int} : BinK P .gtr t x y (.int k m) (.int k n) K = K (.bool (decide (n < m))) := by simp [BinK, intBin, someK]
theorem BinK_geq {t : TypeId} {x y : Operand} {k : IntKind} {m n : Int} : BinK P .geq t x y (.int k m) (.int k n) K = K (.bool (decide (n ≤ m))) := by simp [BinK, intBin, someK]
theorem seqK_n : seqK k Q .normal e = k e := nr rfl
theorem seqK_ret : seqK k Q .ret e = Q .ret e := nr rfl
theorem seqK_exit {i : Nat} : seqK k Q (.exit i) e = Q (.exit i) e := nr rfl
theorem blkK_n {id : Nat} : blkK id Q .normal e = Q .normal e := nr rfl
theorem blkK_ret {id : Nat} : blkK id Q .ret e = Q .ret e := nr rfl
theorem blkK_exit {id i : Nat} : blkK id Q (.exit i) e = if i = id then Q .normal e else Q (.exit i) e := nr rfl
theorem endL_n {rs : List ResultVar} : endL P rs K .normal e = resL P e rs (fun vs => K (one vs)) := nr rfl
theorem endL_ret {rs : List ResultVar} : endL P rs K .ret e = resL P e rs (fun vs => K (one vs)) := nr rfl
theorem resL_nil {K : List Value → WP} : resL P e [] K = K [] := nr rfl
theorem resL_tmp {t : Tmp} {r : List ResultVar} {K : List Value → WP} : resL P e (.tmp t :: r) K = resL P e r fun vs => K (e t :: vs) := nr rfl
theorem resL_cell {a : Tmp} {t : TypeId} {r : List ResultVar} {K : List Value → WP} : resL P e (.cell a t :: r) K = GenK P (Instr.loadAt t (e a)) fun v => resL P e r fun vs => K (v :: vs) := nr rfl
theorem one_0 : one [] = .tuple #[] := nr rfl
theorem one_1 {v : Value} : one [v] = v := nr rfl
theorem one_2 {u v : Value} : one [u, v] = .tuple #[u, v] := nr rfl
theorem one_3 {u v x : Value} : one [u, v, x] = .tuple #[u, v, x] := nr rfl
theorem one_4 {u v x y : Value} : one [u, v, x, y] = .tuple #[u, v, x, y] := nr rfl
theorem FnK_eq {f : FuncId} {args : Array Value} (h : isFnB P f = true) : FnK P f args K = CallK P f args K := by unfold FnK; simp [h]
theorem CallV_y {l : Nat} {first cap args : Array Value} {o : WP} : CallV P (.func (.yield l) first cap) args K o = YieldK P l (first ++ args) K := nr rfl
theorem CallV_f {f : FuncId} {first cap args : Array Value} {o : WP} : CallV P (.func (.func f) first cap) args K o = FnK P f (first ++ args ++ cap) K := nr rfl
end
end Go.Wk
