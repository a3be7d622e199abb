import Derived.Test.YtacmaamllpiloaaGreatZ03
namespace Go.Wk
open Go
section
variable {P : Program} {ty : TypeId} {e : Env} {K : Value → WP}
theorem opX_move : ∀ x, opX P (.move x) ty e K = K (ev e x) := fun _ => nr rfl
theorem opX_assign : ∀ x, opX P (.assign x) ty e K = K (ev e x) := fun _ => nr rfl
theorem opX_pick : ∀ c a b, opX P (.pick c a b) ty e K = PickK (ev e c) (ev e a) (ev e b) K := fun _ _ _ => nr rfl
theorem opX_unOp : ∀ _u1 x, opX P (.unOp .not _u1 x) ty e K = NotK (ev e x) K := fun _ _ => nr rfl
theorem opX_nilCheck : ∀ x, opX P (.nilCheck x) ty e K = NilK (ev e x) K := fun _ => nr rfl
theorem opX_extract : ∀ x i, opX P (.extract x i) ty e K = ExtrK (ev e x) i K := fun _ _ => nr rfl
theorem opX_binOp : ∀ op t x y _u1, opX P (.binOp op t x y _u1) ty e K = BinK P op t x y (ev e x) (ev e y) K := fun _ _ _ _ _ => nr rfl
theorem opX_convert : ∀ s d x, opX P (.convert s d x) ty e K = ConvK P s d (ev e x) K := fun _ _ _ => nr rfl
theorem opX_load : ∀ t a, opX P (.load t a) ty e K = GenK P (Instr.loadAt t (ev e a)) K := fun _ _ => nr rfl
theorem opX_fieldAddr : ∀ s x f, opX P (.fieldAddr s x f) ty e K = GenK P (Instr.fieldAt s (ev e x) f) K := fun _ _ _ => nr rfl
theorem opX_field : ∀ t x f, opX P (.field t x f) ty e K = GenK P (Instr.field t (ev e x) f) K := fun _ _ _ => nr rfl
theorem opX_indexAddr : ∀ t x i, opX P (.indexAddr t x i) ty e K = GenK P (Instr.indexAt t (ev e x) (ev e i)) K := fun _ _ _ => nr rfl
theorem opX_index : ∀ t x i, opX P (.index t x i) ty e K = GenK P (Instr.index t (ev e x) (ev e i)) K := fun _ _ _ => nr rfl
theorem opX_slice : ∀ t x lo hi mx, opX P (.slice t x lo hi mx) ty e K = GenK P (Instr.sliceAt t (ev e x) (lo.map (ev e)) (hi.map (ev e)) (mx.map (ev e))) K := fun _ _ _ _ _ => nr rfl
theorem opX_lookup : ∀ t x i ok, opX P (.lookup t x i ok) ty e K = GenK P (Instr.lookup t (ev e x) (ev e i) ok) K := fun _ _ _ _ => nr rfl
theorem opX_build : ∀ t ps, opX P (.build t ps) ty e K = GenK P (Instr.build t (ps.map fun (i, x) => (i, ev e x))) K := fun _ _ => nr rfl
theorem opX_makeInterface : ∀ t x, opX P (.makeInterface t x) ty e K = GenK P (Instr.makeInterface t (ev e x)) K := fun _ _ => nr rfl
theorem opX_makeFunc : ∀ fn first cap, opX P (.makeFunc fn first cap) ty e K = K (.func fn (first.map (ev e)) (cap.map (ev e))) := fun _ _ _ => nr rfl
theorem opX_typeAssert : ∀ x t a ok, opX P (.typeAssert x t a ok) ty e K = GenK P (Instr.typeAssert (ev e x) t a ok) K := fun _ _ _ _ => nr rfl
theorem opX_store : ∀ t a x, opX P (.store t a x) ty e K = EUnitK P (Instr.storeAt t (ev e a) (ev e x)) K := fun _ _ _ => nr rfl
theorem opX_alloc : ∀ t, opX P (.alloc t) ty e K = EGenK P (Instr.alloc t true (.tuple #[])) K := fun _ => nr rfl
theorem opX_box : ∀ t x, opX P (.box t x) ty e K = EGenK P (Instr.box t (ev e x)) K := fun _ _ => nr rfl
theorem opX_buildSlice : ∀ t n ps, opX P (.buildSlice t n ps) ty e K = EGenK P (Instr.buildSlice t n (ps.map fun (i, x) => (i, ev e x))) K := fun _ _ _ => nr rfl
theorem opX_makeMap : ∀ t r, opX P (.makeMap t r) ty e K = EGenK P (Instr.makeMap t (r.map (ev e))) K := fun _ _ => nr rfl
theorem opX_makeChan : ∀ t s, opX P (.makeChan t s) ty e K = EGenK P (Instr.makeChan t (ev e s)) K := fun _ _ => nr rfl
theorem opX_makeSlice : ∀ t l c, opX P (.makeSlice t l c) ty e K = EGenK P (Instr.makeSlice t (ev e l) (ev e c)) K := fun _ _ _ => nr rfl
theorem opX_mapUpdate : ∀ t m k x, opX P (.mapUpdate t m k x) ty e K = EUnitK P (Instr.mapUpdate t (ev e m) (ev e k) (ev e x)) K := fun _ _ _ _ => nr rfl
theorem opX_fn : ∀ f as ts, opX P (.call { callee := .value (.func f), args := as, argTypes := ts }) ty e K = FnK P f (as.map (ev e)) K := fun _ _ _ => nr rfl
theorem opX_tm : ∀ t as ts, opX P (.call { callee := .value (.tmp t), args := as, argTypes := ts }) ty e K = CallV P (e t) (as.map (ev e)) K (opR P (.call { callee := .value (.tmp t), args := as, argTypes := ts }) ty e K) := fun _ _ _ => nr rfl
theorem opX_len : ∀ as ts, opX P (.call { callee := .builtin .len, args := as, argTypes := ts }) ty e K = GenK P (Builtin.len_ ts ty (as.map (ev e))) K := fun _ _ => nr rfl
theorem opX_cap : ∀ as ts, opX P (.call { callee := .builtin .cap, args := as, argTypes := ts }) ty e K = GenK P (Builtin.cap_ ts ty (as.map (ev e))) K := fun _ _ => nr rfl
theorem opX_min : ∀ as ts, opX P (.call { callee := .builtin .min, args := as, argTypes := ts }) ty e K = GenK P (Builtin.min_ ts ty (as.map (ev e))) K := fun _ _ => nr rfl
theorem opX_max : ∀ as ts, opX P (.call { callee := .builtin .max, args := as, argTypes := ts }) ty e K = GenK P (Builtin.max_ ts ty (as.map (ev e))) K := fun _ _ => nr rfl
theorem opX_append : ∀ as ts, opX P (.call { callee := .builtin .append, args := as, argTypes := ts }) ty e K = EGenK P (Builtin.append_ ts ty (as.map (ev e))) K := fun _ _ => nr rfl
theorem opX_copy : ∀ as ts, opX P (.call { callee := .builtin .copy, args := as, argTypes := ts }) ty e K = EGenK P (Builtin.copy_ ts ty (as.map (ev e))) K := fun _ _ => nr rfl
theorem opX_clear : ∀ as ts, opX P (.call { callee := .builtin .clear, args := as, argTypes := ts }) ty e K = EGenK P (Builtin.clear_ ts ty (as.map (ev e))) K := fun _ _ => nr rfl
theorem ConvK_eq {s d : TypeId} {x : Value} : ConvK P s d x K = if s = d then EGenK P (convert s d x) K else GenK P (convert s d x) K := nr rfl
end
theorem la_zero {a : Oper} {l r : List Oper} : (List.append (a :: l) r)[0]? = some a := nr rfl
theorem la_succ {a : Oper} {l r : List Oper} {i : Nat} : (List.append (a :: l) r)[i + 1]? = (List.append l r)[i]? := nr rfl
theorem la_nil {r : List Oper} {i : Nat} : (List.append [] r)[i]? = r[i]? := nr rfl
theorem argE_nil {e : Env} {i : Nat} : argE e i [] = e := nr rfl
theorem argE_cons {e : Env} {i : Nat} {v : Value} {vs : List Value} : argE e i (v :: vs) = argE (upd e i v) (i + 1) vs := nr rfl
theorem WKb : (∀ {P : Program} {T : Nat → Plan} {Q : Post} {e : Env}, W P T Code.skip Q e = Q Exit.normal e) ∧
  (∀ {P : Program} {T : Nat → Plan} {Q : Post} {e : Env} {l : Nat}, W P T (Code.label l) Q e = Q Exit.normal e) ∧
  (∀ {P : Program} {T : Nat → Plan} {ops : Array Oper} {Q : Post} {e : Env} {id : Nat}, W P T (Code.region id ops true) Q e = drewK (WD P ops (T id) (Q Exit.normal) e)) ∧
  (∀ {P : Program} {T : Nat → Plan} {Q : Post} {e : Env} {id : Nat} {l : List Oper}, W P T (Code.region id (List.toArray l) false) Q e = WL P (List.toArray l) l (Q Exit.normal) e) ∧
  (∀ {P : Program} {T : Nat → Plan} {Q : Post} {e : Env} {a b : Code}, W P T (Code.seq a b) Q e = W P T a (seqK (W P T b Q) Q) e) ∧
  (∀ {P : Program} {T : Nat → Plan} {Q : Post} {e : Env} {c : Operand} {x y : Code}, W P T (Code.cond c x y) Q e = CondW P T (ev e c) x y Q e) ∧
  (∀ {P : Program} {T : Nat → Plan} {Q : Post} {e : Env} {id : Nat} {b : Code}, W P T (Code.block id b) Q e = W P T b (blkK id Q) e) ∧
  (∀ {P : Program} {T : Nat → Plan} {Q : Post} {e : Env} {b : Code}, W P T (Code.loop b) Q e = LoopW (W P T b) Q e) ∧
  (∀ {P : Program} {T : Nat → Plan} {Q : Post} {e : Env} {id : Nat}, W P T (Code.exit id) Q e = Q (Exit.exit id) e) ∧
  (∀ {P : Program} {T : Nat → Plan} {Q : Post} {e : Env}, W P T Code.ret Q e = Q Exit.ret e) ∧
  (∀ {P : Program} {ops : Array Oper} {k : Env → WP} {e : Env}, WL P ops [] k e = k e) ∧
  (∀ {P : Program} {ops : Array Oper} {k : Env → WP} {e : Env} {d : Option Tmp} {o : Op} {ty : TypeId} {pos : String} {af : Array Edge} {r : List Oper}, WL P ops ({ dst := d, op := o, type := ty, pos := pos, after := af, guard := none } :: r) k e = opX P o ty e (opK (WL P ops r k) e d)) ∧
  (∀ {P : Program} {ops : Array Oper} {k : Env → WP} {e : Env} {d : Option Tmp} {o : Op} {ty : TypeId} {pos : String} {af : Array Edge} {j : Nat} {want : Bool} {r : List Oper}, WL P ops ({ dst := d, op := o, type := ty, pos := pos, after := af, guard := some (j, want) } :: r) k e = GuardO P (gv ops e j) want o ty e (opK (WL P ops r k) e d) (WL P ops r k) d) ∧
  (∀ {P : Program} {ops : Array Oper} {k : Env → WP} {e : Env}, WD P ops Plan.fin k e = k e) ∧
  (∀ {P : Program} {ops : Array Oper} {k : Env → WP} {e : Env} {i : Nat} {eff : Bool} {chk : List Nat} {r : Plan}, WD P ops (Plan.st { i := i, eff := eff, chk := chk } r) k e = WD1 P ops chk r k e ops[i]?) ∧
  (∀ {P : Program} {ops : Array Oper} {k : Env → WP} {e : Env} {x y : Plan}, WD P ops (Plan.br x y) k e = BrK (WD P ops x k e) (WD P ops y k e)) ∧
  (∀ {P : Program} {ops : Array Oper} {k : Env → WP} {e : Env} {chk : List Nat} {r : Plan} {d : Option Tmp} {o : Op} {ty : TypeId} {pos : String} {af : Array Edge}, WD1 P ops chk r k e (some { dst := d, op := o, type := ty, pos := pos, after := af, guard := none }) = opX P o ty e (opKc P ops chk (WD P ops r k) e d)) ∧
  (∀ {P : Program} {ops : Array Oper} {k : Env → WP} {e : Env} {chk : List Nat} {r : Plan} {d : Option Tmp} {o : Op} {ty : TypeId} {pos : String} {af : Array Edge} {j : Nat} {want : Bool}, WD1 P ops chk r k e (some { dst := d, op := o, type := ty, pos := pos, after := af, guard := some (j, want) }) = GuardO P (gv ops e j) want o ty e (opKc P ops chk (WD P ops r k) e d) (WD P ops r k) d) ∧
  (∀ {k : Env → WP} {e : Env} {d : Option Tmp} {v : Value}, opK k e d v = k (put e d v)) ∧
  (∀ {P : Program} {ops : Array Oper} {k : Env → WP} {e : Env} {d : Option Tmp} {v : Value}, opKc P ops [] k e d v = k (put e d v)) ∧
  (∀ {P : Program} {ops : Array Oper} {k : Env → WP} {e : Env} {c : Nat} {cs : List Nat} {d : Option Tmp} {v : Value}, opKc P ops (c :: cs) k e d v = chkR P ops (c :: cs) k (put e d v)) ∧
  (∀ {P : Program} {ops : Array Oper} {k : Env → WP} {e : Env}, chkR P ops [] k e = k e) ∧
  (∀ {P : Program} {ops : Array Oper} {k : Env → WP} {e : Env} {c : Nat} {cs : List Nat}, chkR P ops (c :: cs) k e = chk1 P ops cs k e ops[c]?) ∧
  (∀ {P : Program} {ops : Array Oper} {k : Env → WP} {e : Env} {d : Nat} {o : Op} {ty : TypeId} {pos : String} {af : Array Edge} {cs : List Nat}, chk1 P ops cs k e (some { dst := some d, op := o, type := ty, pos := pos, after := af, guard := none }) = opX P o ty e (eqR P ops cs k e (e d))) ∧
  (∀ {P : Program} {ops : Array Oper} {k : Env → WP} {e : Env} {d : Nat} {o : Op} {ty : TypeId} {pos : String} {af : Array Edge} {j : Nat} {want : Bool} {cs : List Nat}, chk1 P ops cs k e (some { dst := some d, op := o, type := ty, pos := pos, after := af, guard := some (j, want) }) = GuardC P (gv ops e j) want o ty e (eqR P ops cs k e (e d)) ops cs k) ∧
  (∀ {P : Program} {k : Env → WP} {K : Value → WP} {e : Env} {o : Op} {ty : TypeId} {d : Option Tmp}, GuardO P (Value.bool true) true o ty e K k d = opX P o ty e K) ∧
  (∀ {P : Program} {k : Env → WP} {K : Value → WP} {e : Env} {o : Op} {ty : TypeId} {d : Option Tmp}, GuardO P (Value.bool false) false o ty e K k d = opX P o ty e K) ∧
  (∀ {P : Program} {k : Env → WP} {K : Value → WP} {e : Env} {o : Op} {ty : TypeId} {d : Option Tmp}, GuardO P (Value.bool true) false o ty e K k d = k (put e d undef)) ∧
  (∀ {P : Program} {k : Env → WP} {K : Value → WP} {e : Env} {o : Op} {ty : TypeId} {d : Option Tmp}, GuardO P (Value.bool false) true o ty e K k d = k (put e d undef)) ∧
  (∀ {P : Program} {k : Env → WP} {K : Value → WP} {e : Env} {o : Op} {ty : TypeId} {d : Option Tmp} {want : Bool}, GuardO P undef want o ty e K k d = k (put e d undef)) ∧
  (∀ {P : Program} {ops : Array Oper} {k : Env → WP} {K : Value → WP} {e : Env} {o : Op} {ty : TypeId} {cs : List Nat}, GuardC P (Value.bool true) true o ty e K ops cs k = opX P o ty e K) ∧
  (∀ {P : Program} {ops : Array Oper} {k : Env → WP} {K : Value → WP} {e : Env} {o : Op} {ty : TypeId} {cs : List Nat}, GuardC P (Value.bool false) false o ty e K ops cs k = opX P o ty e K) ∧
  (∀ {P : Program} {ops : Array Oper} {k : Env → WP} {K : Value → WP} {e : Env} {o : Op} {ty : TypeId} {cs : List Nat}, GuardC P (Value.bool true) false o ty e K ops cs k = chkR P ops cs k e) ∧
  (∀ {P : Program} {ops : Array Oper} {k : Env → WP} {K : Value → WP} {e : Env} {o : Op} {ty : TypeId} {cs : List Nat}, GuardC P (Value.bool false) true o ty e K ops cs k = chkR P ops cs k e) ∧
  (∀ {P : Program} {ops : Array Oper} {k : Env → WP} {K : Value → WP} {e : Env} {o : Op} {ty : TypeId} {cs : List Nat} {want : Bool}, GuardC P undef want o ty e K ops cs k = chkR P ops cs k e) ∧
  (∀ {P : Program} {T : Nat → Plan} {Q : Post} {e : Env} {x y : Code}, CondW P T (Value.bool true) x y Q e = W P T x Q e) ∧
  (∀ {P : Program} {T : Nat → Plan} {Q : Post} {e : Env} {x y : Code}, CondW P T (Value.bool false) x y Q e = W P T y Q e) ∧
  (∀ {e : Env} {i : Nat} {v : Value}, put e (some i) v = upd e i v) ∧
  (∀ {e : Env} {v : Value}, put e none v = e) ∧
  (∀ {e : Env} {i j : Nat} {v : Value}, upd e i v j = if j = i then v else e j) ∧
  (∀ {e : Env} {t : Tmp}, ev e (Operand.tmp t) = e t) ∧
  (∀ {e : Env} {v : Value}, ev e (Operand.const v) = v) ∧
  (∀ {e : Env} {f : FuncId}, ev e (Operand.func f) = Value.func (Fn.func f) #[] #[]) ∧
  (∀ {e : Env} {g : Nat}, ev e (Operand.global g) = Value.pointer (some { block := g, off := 0 })) ∧
  (∀ {ops : Array Oper} {e : Env} {j : Nat}, gv ops e j = gd e ops[j]?) ∧
  (∀ {e : Env} {d : Nat} {o : Op} {ty : TypeId} {pos : String} {af : Array Edge} {g : Option (Nat × Bool)}, gd e (some { dst := some d, op := o, type := ty, pos := pos, after := af, guard := g }) = e d) ∧
  (∀ {K : Value → WP} {b : Bool} {x y : Value}, PickK (Value.bool b) x y K = K (if b = true then x else y)) ∧
  (∀ {K : Value → WP} {b : Bool}, NotK (Value.bool b) K = K (Value.bool !b)) ∧
  (∀ {K : Value → WP} {a : Addr}, NilK (Value.pointer (some a)) K = K (Value.pointer (some a))) ∧
  (∀ {K : Value → WP} {vs : Array Value} {i : Nat}, ExtrK (Value.tuple vs) i K = getK vs[i]? K) ∧
  (∀ {K : Value → WP} {v : Value}, getK (some v) K = K v) ∧
  (∀ {P : Program} {K : Value → WP} {t : TypeId} {x y : Operand} {k : IntKind} {m n : Int}, BinK P BinOp.add t x y (Value.int k m) (Value.int k n) K = K (Value.int k (IntKind.wrap k (m + n)))) ∧
  (∀ {P : Program} {K : Value → WP} {t : TypeId} {x y : Operand} {k : IntKind} {m n : Int}, BinK P BinOp.sub t x y (Value.int k m) (Value.int k n) K = K (Value.int k (IntKind.wrap k (m - n)))) ∧
  (∀ {P : Program} {K : Value → WP} {t : TypeId} {x y : Operand} {k : IntKind} {m n : Int}, BinK P BinOp.mul t x y (Value.int k m) (Value.int k n) K = K (Value.int k (IntKind.wrap k (m * n)))) ∧
  (∀ {P : Program} {K : Value → WP} {t : TypeId} {x y : Operand} {k : IntKind} {m n : Int}, BinK P BinOp.eql t x y (Value.int k m) (Value.int k n) K = K (Value.bool (decide (m = n)))) ∧
  (∀ {P : Program} {K : Value → WP} {t : TypeId} {x y : Operand} {k : IntKind} {m n : Int}, BinK P BinOp.neq t x y (Value.int k m) (Value.int k n) K = K (Value.bool !decide (m = n))) ∧
  (∀ {P : Program} {K : Value → WP} {t : TypeId} {x y : Operand} {k : IntKind} {m n : Int}, BinK P BinOp.lss t x y (Value.int k m) (Value.int k n) K = K (Value.bool (decide (m < n)))) ∧
  (∀ {P : Program} {K : Value → WP} {t : TypeId} {x y : Operand} {k : IntKind} {m n : Int}, BinK P BinOp.leq t x y (Value.int k m) (Value.int k n) K = K (Value.bool (decide (m ≤ n)))) ∧
  (∀ {P : Program} {K : Value → WP} {t : TypeId} {x y : Operand} {k : IntKind} {m n : Int}, BinK P BinOp.gtr t x y (Value.int k m) (Value.int k n) K = K (Value.bool (decide (n < m)))) ∧
  (∀ {P : Program} {K : Value → WP} {t : TypeId} {x y : Operand} {k : IntKind} {m n : Int}, BinK P BinOp.geq t x y (Value.int k m) (Value.int k n) K = K (Value.bool (decide (n ≤ m)))) ∧
  (∀ {k : Env → WP} {Q : Post} {e : Env}, seqK k Q Exit.normal e = k e) ∧
  (∀ {k : Env → WP} {Q : Post} {e : Env}, seqK k Q Exit.ret e = Q Exit.ret e) ∧
  (∀ {k : Env → WP} {Q : Post} {e : Env} {i : Nat}, seqK k Q (Exit.exit i) e = Q (Exit.exit i) e) ∧
  (∀ {Q : Post} {e : Env} {id : Nat}, blkK id Q Exit.normal e = Q Exit.normal e) ∧
  (∀ {Q : Post} {e : Env} {id : Nat}, blkK id Q Exit.ret e = Q Exit.ret e) ∧
  (∀ {Q : Post} {e : Env} {id i : Nat}, blkK id Q (Exit.exit i) e = if i = id then Q Exit.normal e else Q (Exit.exit i) e) ∧
  (∀ {P : Program} {K : Value → WP} {e : Env} {rs : List ResultVar}, endL P rs K Exit.normal e = resL P e rs fun vs => K (one vs)) ∧
  (∀ {P : Program} {K : Value → WP} {e : Env} {rs : List ResultVar}, endL P rs K Exit.ret e = resL P e rs fun vs => K (one vs)) ∧
  (∀ {P : Program} {e : Env} {K : List Value → WP}, resL P e [] K = K []) ∧
  (∀ {P : Program} {e : Env} {t : Tmp} {r : List ResultVar} {K : List Value → WP}, resL P e (ResultVar.tmp t :: r) K = resL P e r fun vs => K (e t :: vs)) ∧
  (∀ {P : Program} {e : Env} {a : Tmp} {t : TypeId} {r : List ResultVar} {K : List Value → WP}, resL P e (ResultVar.cell a t :: r) K = GenK P (Instr.loadAt t (e a)) fun v => resL P e r fun vs => K (v :: vs)) ∧ one [] = Value.tuple #[] ∧
  (∀ {v : Value}, one [v] = v) ∧
  (∀ {u v : Value}, one [u, v] = Value.tuple #[u, v]) ∧
  (∀ {u v x : Value}, one [u, v, x] = Value.tuple #[u, v, x]) ∧
  (∀ {u v x y : Value}, one [u, v, x, y] = Value.tuple #[u, v, x, y]) ∧
  (∀ {P : Program} {K : Value → WP} {f : FuncId} {first cap args : Array Value} {o : WP}, CallV P (Value.func (Fn.func f) first cap) args K o = FnK P f (first ++ args ++ cap) K) ∧
  (∀ (b o n : Nat), Addr.add { block := b, off := o } n = { block := b, off := o + n }) ∧
  (∀ (c : Prop) [inst : Decidable c] (x y : Bool), (if c then Value.bool x else Value.bool y) = Value.bool (if c then x else y)) ∧
  (∀ {e : Env} {s : Nat} {v : Value} {ss : List Nat} {vs : List Value}, upds e (s :: ss) (v :: vs) = upds (upd e s v) ss vs) ∧
  (∀ {e : Env} {vs : List Value}, upds e [] vs = e) ∧
  (∀ {P : Program} {T f off : Nat} [h : Fld P T f off] {b o : Nat} {K : Value → WP}, GenK P (Instr.fieldAt T (Value.pointer (some { block := b, off := o })) f) K = K (Value.pointer (some { block := b, off := o + off }))) ∧
  (∀ {P : Program} {T : Nat} [hT : PtrT P T] {x y : Operand} {a : Addr} {K : Value → WP}, BinK P BinOp.eql T x y (Value.pointer (some a)) (Value.pointer none) K = K (Value.bool false)) ∧
  (∀ {P : Program} {T : Nat} [hT : PtrT P T] {x y : Operand} {K : Value → WP}, BinK P BinOp.eql T x y (Value.pointer none) (Value.pointer none) K = K (Value.bool true)) ∧
  (∀ {P : Program} {T : Nat} [hT : PtrT P T] {x y : Operand} {a : Addr} {K : Value → WP}, BinK P BinOp.neq T x y (Value.pointer (some a)) (Value.pointer none) K = K (Value.bool true)) ∧
  (∀ {P : Program} {T : Nat} [hT : PtrT P T] {x y : Operand} {K : Value → WP}, BinK P BinOp.neq T x y (Value.pointer none) (Value.pointer none) K = K (Value.bool false)) ∧
  (∀ {P : Program} {T : Nat} [hT : BoolT P T] {x y : Operand} {a b : Bool} {K : Value → WP}, BinK P BinOp.eql T x y (Value.bool a) (Value.bool b) K = K (Value.bool (a == b))) ∧
  (∀ {P : Program} {T : Nat} [hT : BoolT P T] {x y : Operand} {a b : Bool} {K : Value → WP}, BinK P BinOp.neq T x y (Value.bool a) (Value.bool b) K = K (Value.bool !a == b)) ∧
  (∀ {P : Program} {ty T : Nat} {k k' : IntKind} {a b : Int} {K : Value → WP}, GenK P (Builtin.min_ #[T, T] ty #[Value.int k a, Value.int k' b]) K = K (Value.int k (if b < a then b else a))) ∧
  (∀ {P : Program} {T ty n : Nat} [hT : Slc P T n] {K : Value → WP}, GenK P (Builtin.len_ #[T] ty #[Value.slice none 0 0]) K = K (Value.int IntKind.i64 0)) ∧
  (∀ {cs : List Value} {i : Nat}, setL cs i [] = cs) ∧
  (∀ {cs vs : List Value} {i : Nat} {v : Value}, setL cs i (v :: vs) = setL (List.set cs i v) (i + 1) vs) ∧
  (∀ {P : Program} {f : FuncId} [h : IsFn P f] {args : Array Value} {K : Value → WP}, FnK P f args K = CallK P f args K) ∧
  (∀ {P : Program} {K : Value → WP} {s d : TypeId} {x : Value}, ConvK P s d x K = if s = d then EGenK P (convert s d x) K else GenK P (convert s d x) K) ∧
  (∀ {e : Env} {i : Nat}, argE e i [] = e) ∧
  (∀ {e : Env} {i : Nat} {v : Value} {vs : List Value}, argE e i (v :: vs) = argE (upd e i v) (i + 1) vs) ∧
  (∀ {a : Oper} {l r : List Oper}, (List.append (a :: l) r)[0]? = some a) ∧
  (∀ {a : Oper} {l r : List Oper} {i : Nat}, (List.append (a :: l) r)[i + 1]? = (List.append l r)[i]?) ∧
  (∀ {r : List Oper} {i : Nat}, (List.append [] r)[i]? = r[i]?) ∧
  (∀ {P : Program} {ty : TypeId} {e : Env} {K : Value → WP} (x : Operand), opX P (Op.move x) ty e K = K (ev e x)) ∧
  (∀ {P : Program} {ty : TypeId} {e : Env} {K : Value → WP} (x : Operand), opX P (Op.assign x) ty e K = K (ev e x)) ∧
  (∀ {P : Program} {ty : TypeId} {e : Env} {K : Value → WP} (c a b : Operand), opX P (Op.pick c a b) ty e K = PickK (ev e c) (ev e a) (ev e b) K) ∧
  (∀ {P : Program} {ty : TypeId} {e : Env} {K : Value → WP} (_u1 : TypeId) (x : Operand), opX P (Op.unOp UnOp.not _u1 x) ty e K = NotK (ev e x) K) ∧
  (∀ {P : Program} {ty : TypeId} {e : Env} {K : Value → WP} (x : Operand), opX P (Op.nilCheck x) ty e K = NilK (ev e x) K) ∧
  (∀ {P : Program} {ty : TypeId} {e : Env} {K : Value → WP} (x : Operand) (i : Nat), opX P (Op.extract x i) ty e K = ExtrK (ev e x) i K) ∧
  (∀ {P : Program} {ty : TypeId} {e : Env} {K : Value → WP} (op : BinOp) (t : TypeId) (x y : Operand) (_u1 : TypeId), opX P (Op.binOp op t x y _u1) ty e K = BinK P op t x y (ev e x) (ev e y) K) ∧
  (∀ {P : Program} {ty : TypeId} {e : Env} {K : Value → WP} (s d : TypeId) (x : Operand), opX P (Op.convert s d x) ty e K = ConvK P s d (ev e x) K) ∧
  (∀ {P : Program} {ty : TypeId} {e : Env} {K : Value → WP} (t : TypeId) (a : Operand), opX P (Op.load t a) ty e K = GenK P (Instr.loadAt t (ev e a)) K) ∧
  (∀ {P : Program} {ty : TypeId} {e : Env} {K : Value → WP} (s : TypeId) (x : Operand) (f : Nat), opX P (Op.fieldAddr s x f) ty e K = GenK P (Instr.fieldAt s (ev e x) f) K) ∧
  (∀ {P : Program} {ty : TypeId} {e : Env} {K : Value → WP} (t : TypeId) (x : Operand) (f : Nat), opX P (Op.field t x f) ty e K = GenK P (Instr.field t (ev e x) f) K) ∧
  (∀ {P : Program} {ty : TypeId} {e : Env} {K : Value → WP} (t : TypeId) (x i : Operand), opX P (Op.indexAddr t x i) ty e K = GenK P (Instr.indexAt t (ev e x) (ev e i)) K) ∧
  (∀ {P : Program} {ty : TypeId} {e : Env} {K : Value → WP} (t : TypeId) (x i : Operand), opX P (Op.index t x i) ty e K = GenK P (Instr.index t (ev e x) (ev e i)) K) ∧
  (∀ {P : Program} {ty : TypeId} {e : Env} {K : Value → WP} (t : TypeId) (x : Operand) (lo hi mx : Option Operand), opX P (Op.slice t x lo hi mx) ty e K = GenK P (Instr.sliceAt t (ev e x) (Option.map (ev e) lo) (Option.map (ev e) hi) (Option.map (ev e) mx)) K) ∧
  (∀ {P : Program} {ty : TypeId} {e : Env} {K : Value → WP} (t : TypeId) (x i : Operand) (ok : Bool), opX P (Op.lookup t x i ok) ty e K = GenK P (Instr.lookup t (ev e x) (ev e i) ok) K) ∧
  (∀ {P : Program} {ty : TypeId} {e : Env} {K : Value → WP} (t : TypeId) (ps : Array (Nat × Operand)), opX P (Op.build t ps) ty e K = GenK P (Instr.build t (Array.map (fun x => match x with | (i, x) => (i, ev e x)) ps)) K) ∧
  (∀ {P : Program} {ty : TypeId} {e : Env} {K : Value → WP} (t : TypeId) (x : Operand), opX P (Op.makeInterface t x) ty e K = GenK P (Instr.makeInterface t (ev e x)) K) ∧
  (∀ {P : Program} {ty : TypeId} {e : Env} {K : Value → WP} (fn : Fn) (first cap : Array Operand), opX P (Op.makeFunc fn first cap) ty e K = K (Value.func fn (Array.map (ev e) first) (Array.map (ev e) cap))) ∧
  (∀ {P : Program} {ty : TypeId} {e : Env} {K : Value → WP} (x : Operand) (t a : TypeId) (ok : Bool), opX P (Op.typeAssert x t a ok) ty e K = GenK P (Instr.typeAssert (ev e x) t a ok) K) ∧
  (∀ {P : Program} {ty : TypeId} {e : Env} {K : Value → WP} (t : TypeId) (a x : Operand), opX P (Op.store t a x) ty e K = EUnitK P (Instr.storeAt t (ev e a) (ev e x)) K) ∧
  (∀ {P : Program} {ty : TypeId} {e : Env} {K : Value → WP} (t : TypeId), opX P (Op.alloc t) ty e K = EGenK P (Instr.alloc t true (Value.tuple #[])) K) ∧
  (∀ {P : Program} {ty : TypeId} {e : Env} {K : Value → WP} (t : TypeId) (x : Operand), opX P (Op.box t x) ty e K = EGenK P (Instr.box t (ev e x)) K) ∧
  (∀ {P : Program} {ty : TypeId} {e : Env} {K : Value → WP} (t : TypeId) (n : Nat) (ps : Array (Nat × Operand)), opX P (Op.buildSlice t n ps) ty e K = EGenK P (Instr.buildSlice t n (Array.map (fun x => match x with | (i, x) => (i, ev e x)) ps)) K) ∧
  (∀ {P : Program} {ty : TypeId} {e : Env} {K : Value → WP} (t : TypeId) (r : Option Operand), opX P (Op.makeMap t r) ty e K = EGenK P (Instr.makeMap t (Option.map (ev e) r)) K) ∧
  (∀ {P : Program} {ty : TypeId} {e : Env} {K : Value → WP} (t : TypeId) (s : Operand), opX P (Op.makeChan t s) ty e K = EGenK P (Instr.makeChan t (ev e s)) K) ∧
  (∀ {P : Program} {ty : TypeId} {e : Env} {K : Value → WP} (t : TypeId) (l c : Operand), opX P (Op.makeSlice t l c) ty e K = EGenK P (Instr.makeSlice t (ev e l) (ev e c)) K) ∧
  (∀ {P : Program} {ty : TypeId} {e : Env} {K : Value → WP} (t : TypeId) (m k x : Operand), opX P (Op.mapUpdate t m k x) ty e K = EUnitK P (Instr.mapUpdate t (ev e m) (ev e k) (ev e x)) K) ∧
  (∀ {P : Program} {ty : TypeId} {e : Env} {K : Value → WP} (f : FuncId) (as : Array Operand) (ts : Array TypeId), opX P (Op.call { callee := Callee.value (Operand.func f), args := as, argTypes := ts }) ty e K = FnK P f (Array.map (ev e) as) K) ∧
  (∀ {P : Program} {ty : TypeId} {e : Env} {K : Value → WP} (t : Tmp) (as : Array Operand) (ts : Array TypeId), opX P (Op.call { callee := Callee.value (Operand.tmp t), args := as, argTypes := ts }) ty e K = CallV P (e t) (Array.map (ev e) as) K (opR P (Op.call { callee := Callee.value (Operand.tmp t), args := as, argTypes := ts }) ty e K)) ∧
  (∀ {P : Program} {ty : TypeId} {e : Env} {K : Value → WP} (as : Array Operand) (ts : Array TypeId), opX P (Op.call { callee := Callee.builtin Builtin.len, args := as, argTypes := ts }) ty e K = GenK P (Builtin.len_ ts ty (Array.map (ev e) as)) K) ∧
  (∀ {P : Program} {ty : TypeId} {e : Env} {K : Value → WP} (as : Array Operand) (ts : Array TypeId), opX P (Op.call { callee := Callee.builtin Builtin.cap, args := as, argTypes := ts }) ty e K = GenK P (Builtin.cap_ ts ty (Array.map (ev e) as)) K) ∧
  (∀ {P : Program} {ty : TypeId} {e : Env} {K : Value → WP} (as : Array Operand) (ts : Array TypeId), opX P (Op.call { callee := Callee.builtin Builtin.min, args := as, argTypes := ts }) ty e K = GenK P (Builtin.min_ ts ty (Array.map (ev e) as)) K) ∧
  (∀ {P : Program} {ty : TypeId} {e : Env} {K : Value → WP} (as : Array Operand) (ts : Array TypeId), opX P (Op.call { callee := Callee.builtin Builtin.max, args := as, argTypes := ts }) ty e K = GenK P (Builtin.max_ ts ty (Array.map (ev e) as)) K) ∧
  (∀ {P : Program} {ty : TypeId} {e : Env} {K : Value → WP} (as : Array Operand) (ts : Array TypeId), opX P (Op.call { callee := Callee.builtin Builtin.append, args := as, argTypes := ts }) ty e K = EGenK P (Builtin.append_ ts ty (Array.map (ev e) as)) K) ∧
  (∀ {P : Program} {ty : TypeId} {e : Env} {K : Value → WP} (as : Array Operand) (ts : Array TypeId), opX P (Op.call { callee := Callee.builtin Builtin.copy, args := as, argTypes := ts }) ty e K = EGenK P (Builtin.copy_ ts ty (Array.map (ev e) as)) K) ∧
  (∀ {P : Program} {ty : TypeId} {e : Env} {K : Value → WP} (as : Array Operand) (ts : Array TypeId), opX P (Op.call { callee := Callee.builtin Builtin.clear, args := as, argTypes := ts }) ty e K = EGenK P (Builtin.clear_ ts ty (Array.map (ev e) as)) K) ∧
  (∀ {α β : Type} {f : α → β} {a : α} {l : List α}, List.map f (a :: l) = f a :: List.map f l) ∧
  (∀ {α β : Type} {f : α → β}, List.map f [] = []) ∧
  (∀ {α β : Type} {f : α → β} {l : List α}, Array.map f (List.toArray l) = List.toArray (List.map f l)) ∧
  (∀ {α β : Type} (a : α) (f : α → β), Option.map f (some a) = some (f a)) ∧
  (∀ {α β : Type} (f : α → β), Option.map f none = none) ∧
  (∀ {α β : Type} {as : List α} (f : α → β), List.length (List.map f as) = List.length as) ∧
  (∀ {α : Type} {xs : List α} {i : Nat}, (List.toArray xs)[i]? = xs[i]?) ∧
  (∀ {α : Type} {a : α} {i : Nat} {l : List α}, (a :: l)[i + 1]? = l[i]?) ∧
  (∀ {α : Type} {a : α} {l : List α}, (a :: l)[0]? = some a) ∧
  (∀ {α : Type} (l₁ l₂ : List α), List.toArray l₁ ++ List.toArray l₂ = List.toArray (l₁ ++ l₂)) ∧
  (∀ {α : Type} {a : α} {as bs : List α}, a :: as ++ bs = a :: (as ++ bs)) ∧
  (∀ {α : Type} (as : List α), [] ++ as = as) ∧
  (∀ {α : Type} (as : List α), as ++ [] = as) ∧
  (∀ {α : Type} {a : α} {as : List α}, List.eraseIdx (a :: as) 0 = as) ∧
  (∀ {α : Type} {a : α} {as : List α} {i : Nat}, List.eraseIdx (a :: as) (i + 1) = a :: List.eraseIdx as i) ∧
  (∀ {α : Type} {x : α} {xs : List α} {a : α}, List.set (x :: xs) 0 a = a :: xs) ∧
  (∀ {α : Type} {x : α} {xs : List α} {i : Nat} {a : α}, List.set (x :: xs) (i + 1) a = x :: List.set xs i a) ∧
  (∀ {α : Type} {as : List α} {i : Nat} {a : α}, List.length (List.set as i a) = List.length as) ∧ (!true) = false ∧ (!false) = true ∧ (false = true) = False ∧
  (∀ (n : Nat), 0 + n = n) ∧
  (∀ (h : Decidable True), decide True = true) ∧
  (∀ (h : Decidable False), decide False = false) ∧
  (∀ {α : Type} {x : Decidable True} (t e : α), (if True then t else e) = t) ∧
  (∀ {α : Type} {x : Decidable False} (t e : α), (if False then t else e) = e) ∧
  (∀ {α : Type} (a : α), (a = a) = True) ∧ ∀ {α : Type} [inst : BEq α] [ReflBEq α] (a : α), (a == a) = true :=
  And.intro @W_skip (And.intro @W_label (And.intro @W_regD (And.intro @W_reg (And.intro @W_seq (And.intro @W_cond (And.intro @W_block (And.intro @W_loop (And.intro @W_exit (And.intro @W_ret (And.intro @WL_nil (And.intro @WL_op (And.intro @WL_opg (And.intro @WD_nil (And.intro @WD_cons (And.intro @WD_br (And.intro @WD1_op (And.intro @WD1_opg (And.intro @opK_app (And.intro @opKc_nil (And.intro @opKc_cons (And.intro @chkR_nil (And.intro @chkR_cons (And.intro @chk1_op (And.intro @chk1_opg (And.intro @GuardO_tt (And.intro @GuardO_ff (And.intro @GuardO_tf (And.intro @GuardO_ft (And.intro @GuardO_un (And.intro @GuardC_tt (And.intro @GuardC_ff (And.intro @GuardC_tf (And.intro @GuardC_ft (And.intro @GuardC_un (And.intro @CondW_t (And.intro @CondW_f (And.intro @put_some (And.intro @put_none (And.intro @upd_app (And.intro @ev_tmp (And.intro @ev_const (And.intro @ev_func (And.intro @ev_global (And.intro @gv_eq (And.intro @gd_op (And.intro @PickK_b (And.intro @NotK_b (And.intro @NilK_p (And.intro @ExtrK_t (And.intro @getK_some (And.intro @BinK_add (And.intro @BinK_sub (And.intro @BinK_mul (And.intro @BinK_eql (And.intro @BinK_neq (And.intro @BinK_lss (And.intro @BinK_leq (And.intro @BinK_gtr (And.intro @BinK_geq (And.intro @seqK_n (And.intro @seqK_ret (And.intro @seqK_exit (And.intro @blkK_n (And.intro @blkK_ret (And.intro @blkK_exit (And.intro @endL_n (And.intro @endL_ret (And.intro @resL_nil (And.intro @resL_tmp (And.intro @resL_cell (And.intro @one_0 (And.intro @one_1 (And.intro @one_2 (And.intro @one_3 (And.intro @one_4 (And.intro @CallV_f (And.intro @add_mk (And.intro @Value.ite_bool (And.intro @upds_cons (And.intro @upds_nil (And.intro @GenK_fieldAt (And.intro @BinK_ptr1 (And.intro @BinK_ptr0 (And.intro @BinK_nptr1 (And.intro @BinK_nptr0 (And.intro @BinK_beq (And.intro @BinK_bne (And.intro @min_int (And.intro @len_nilS (And.intro @setL_0 (And.intro @setL_1 (And.intro @FnK_c (And.intro @ConvK_eq (And.intro @argE_nil (And.intro @argE_cons (And.intro @la_zero (And.intro @la_succ (And.intro @la_nil (And.intro @opX_move (And.intro @opX_assign (And.intro @opX_pick (And.intro @opX_unOp (And.intro @opX_nilCheck (And.intro @opX_extract (And.intro @opX_binOp (And.intro @opX_convert (And.intro @opX_load (And.intro @opX_fieldAddr (And.intro @opX_field (And.intro @opX_indexAddr (And.intro @opX_index (And.intro @opX_slice (And.intro @opX_lookup (And.intro @opX_build (And.intro @opX_makeInterface (And.intro @opX_makeFunc (And.intro @opX_typeAssert (And.intro @opX_store (And.intro @opX_alloc (And.intro @opX_box (And.intro @opX_buildSlice (And.intro @opX_makeMap (And.intro @opX_makeChan (And.intro @opX_makeSlice (And.intro @opX_mapUpdate (And.intro @opX_fn (And.intro @opX_tm (And.intro @opX_len (And.intro @opX_cap (And.intro @opX_min (And.intro @opX_max (And.intro @opX_append (And.intro @opX_copy (And.intro @opX_clear (And.intro @List.map_cons.{0,0} (And.intro @List.map_nil.{0,0} (And.intro @List.map_toArray.{0,0} (And.intro @Option.map_some.{0,0} (And.intro @Option.map_none.{0,0} (And.intro @List.length_map.{0,0} (And.intro @List.getElem?_toArray.{0} (And.intro @List.getElem?_cons_succ.{0} (And.intro @List.getElem?_cons_zero.{0} (And.intro @List.append_toArray.{0} (And.intro @List.cons_append.{0} (And.intro @List.nil_append.{0} (And.intro @List.append_nil.{0} (And.intro @List.eraseIdx_cons_zero.{0} (And.intro @List.eraseIdx_cons_succ.{0} (And.intro @List.set_cons_zero.{0} (And.intro @List.set_cons_succ.{0} (And.intro @List.length_set.{0} (And.intro @Bool.not_true (And.intro @Bool.not_false (And.intro @Bool.false_eq_true (And.intro @Nat.zero_add (And.intro @decide_true (And.intro @decide_false (And.intro @if_true.{1} (And.intro @if_false.{1} (And.intro @eq_self.{1} (@beq_self_eq_true.{0}))))))))))))))))))))))))))))))))))))))))))))))))))))))))))))))))))))))))))))))))))))))))))))))))))))))))))))))))))))))))))))))))))))))))))))))))))))))))))))))))))
theorem WKs : (∀ {p : Prop} [inst : Decidable p], (decide p = true) = p) ∧
  (∀ {p : Prop} {x : Decidable p}, decide p = false ↔ ¬p) ∧
  (∀ (b : Bool), ((!b) = true) = (b = false)) ∧
  (∀ (b : Bool), ((!b) = false) = (b = true)) ∧
  (∀ (b : Bool), (¬b = true) = (b = false)) ∧
  (∀ (b : Bool), (¬b = false) = (b = true)) ∧
  (∀ (a b : Bool), ((a && b) = true) = (a = true ∧ b = true)) ∧
  (∀ (a b : Bool), ((a || b) = true) = (a = true ∨ b = true)) ∧
  (∀ {x y : Bool}, (x && y) = false ↔ x = true → y = false) ∧
  (∀ {x y : Bool}, (x || y) = false ↔ x = false ∧ y = false) ∧
  (∀ {a b : Int}, ¬a < b ↔ b ≤ a) ∧ ∀ {a b : Int}, ¬a ≤ b ↔ b < a :=
  And.intro @decide_eq_true_eq (And.intro @decide_eq_false_iff_not (And.intro @Bool.not_eq_true' (And.intro @Bool.not_eq_false' (And.intro @Bool.not_eq_true (And.intro @Bool.not_eq_false (And.intro @Bool.and_eq_true (And.intro @Bool.or_eq_true (And.intro @Bool.and_eq_false_imp (And.intro @Bool.or_eq_false_iff (And.intro @Int.not_lt (@Int.not_le)))))))))))
theorem WKl : (∀ {α β : Type} {as : List α} (f : α → β), List.length (List.map f as) = List.length as) ∧
  (∀ {α : Type} {as : List α} {i : Nat} {a : α}, List.length (List.set as i a) = List.length as) ∧
  (∀ {α : Type} {as bs : List α}, List.length (as ++ bs) = List.length as + List.length bs) ∧
  (∀ {α : Type} {i : Nat} {l : List α}, List.length (List.take i l) = min i (List.length l)) ∧
  (∀ {α : Type} {a : α} {as : List α}, List.length (a :: as) = List.length as + 1) ∧
  (∀ {α : Type}, List.length ([] : List α) = 0) ∧
  (∀ {α : Type} {n : Nat} {a : α}, List.length (List.replicate n a) = n) ∧ ∀ {α : Type} {i : Nat} {l : List α}, List.length (List.drop i l) = List.length l - i :=
  And.intro @List.length_map.{0,0} (And.intro @List.length_set.{0} (And.intro @List.length_append.{0} (And.intro @List.length_take.{0} (And.intro @List.length_cons.{0} (And.intro @List.length_nil.{0} (And.intro @List.length_replicate.{0} (@List.length_drop.{0})))))))
theorem WKe : (∀ {α : Type} {a : α} {as bs : List α}, a :: as ++ bs = a :: (as ++ bs)) ∧
  (∀ {α : Type} (as : List α), [] ++ as = as) ∧
  (∀ {α : Type} (as : List α), as ++ [] = as) ∧
  (∀ (n : Nat), Int.toNat ↑n = n) ∧
  (∀ (p : Prop), (p ∨ True) = True) ∧
  (∀ (p : Prop), (True ∨ p) = True) ∧
  (∀ (p : Prop), (p ∨ p) = p) ∧
  (∀ (p : Prop), (p ∨ False) = p) ∧
  (∀ (p : Prop), (False ∨ p) = p) ∧
  (∀ (p : Prop), (p ∧ True) = p) ∧
  (∀ (p : Prop), (True ∧ p) = p) ∧
  (∀ (p : Prop), (p ∧ p) = p) ∧
  (∀ (p : Prop), (p ∧ False) = False) ∧
  (∀ (p : Prop), (False ∧ p) = False) ∧
  (∀ {α : Type} {x : Decidable True} (t e : α), (if True then t else e) = t) ∧
  (∀ {α : Type} {x : Decidable False} (t e : α), (if False then t else e) = e) ∧ (¬True ↔ False) ∧ (¬False) = True ∧
  (∀ (b : Bool), (true && b) = b) ∧
  (∀ (b : Bool), (b && true) = b) ∧
  (∀ (b : Bool), (false && b) = false) ∧
  (∀ (b : Bool), (b && false) = false) ∧
  (∀ (b : Bool), (true || b) = true) ∧
  (∀ (b : Bool), (b || true) = true) ∧
  (∀ (b : Bool), (false || b) = b) ∧
  (∀ (b : Bool), (b || false) = b) ∧ (!true) = false ∧ (!false) = true ∧ (false = true) = False ∧
  (∀ (h : Decidable True), decide True = true) ∧ ∀ (h : Decidable False), decide False = false :=
  And.intro @List.cons_append.{0} (And.intro @List.nil_append.{0} (And.intro @List.append_nil.{0} (And.intro @Int.toNat_natCast (And.intro @or_true (And.intro @true_or (And.intro @or_self (And.intro @or_false (And.intro @false_or (And.intro @and_true (And.intro @true_and (And.intro @and_self (And.intro @and_false (And.intro @false_and (And.intro @if_true.{1} (And.intro @if_false.{1} (And.intro @not_true (And.intro @not_false_eq_true (And.intro @Bool.true_and (And.intro @Bool.and_true (And.intro @Bool.false_and (And.intro @Bool.and_false (And.intro @Bool.true_or (And.intro @Bool.or_true (And.intro @Bool.false_or (And.intro @Bool.or_false (And.intro @Bool.not_true (And.intro @Bool.not_false (And.intro @Bool.false_eq_true (And.intro @decide_true (@decide_false))))))))))))))))))))))))))))))
end Go.Wk
namespace Go.Wk
open Go
class IntT (P : Program) (T : Nat) (k : outParam IntKind) : Prop where
  h : P.underlying T = some (.int k)
class StrT (P : Program) (T : Nat) : Prop where
  h : P.underlying T = some .string
class BytT (P : Program) (T : Nat) : Prop where
  h : ∃ e, P.underlying T = some (.slice e) ∧ P.underlying e = some (.int .u8)
class ArrT (P : Program) (T : Nat) (n s : outParam Nat) : Prop where
  h : ∃ e, P.underlying T = some (.array n e) ∧ (P.info? e).map (·.size) = some s
def arrB (P : Program) (T : Nat) : Option (Nat × Nat) := match P.underlying T with
  | some (.array n e) => (P.info? e).map fun i => (n, i.size)
  | _ => none
theorem arrB_spec {P : Program} {T n s : Nat} (h : arrB P T = some (n, s)) : ArrT P T n s := ⟨by
  unfold arrB at h
  split at h
  · rename_i m e he
    cases hi : P.info? e with
    | none => rw [hi] at h; cases h
    | some i =>
      rw [hi] at h
      simp only [Option.map_some, Option.some.injEq, Prod.mk.injEq] at h
      obtain ⟨rfl, rfl⟩ := h
      exact ⟨e, he, by rw [hi]; rfl⟩
  · cases h⟩
section
variable {P : Program} {l : List Asrt} {K : Value → WP}
theorem GenK_conv {s d : Nat} {k k' kv : IntKind} [hs : IntT P s k] [hd : IntT P d k'] {n : Int} : GenK P (convert s d (.int kv n)) K = K (.int k' (k'.wrap n)) := by
  refine GenK_of (fun w => ?_) K
  simp [convert, run_underlying hs.h, run_underlying hd.h, Conv.intToInt]
theorem Tr.rem {t : TypeId} {x y : Operand} {k : IntKind} {m n : Int} (hn : n ≠ 0) (h : Tr l (K (.int k (m.tmod n)))) : Tr l (BinK P .rem t x y (.int k m) (.int k n) K) := by
  have : BinK P .rem t x y (.int k m) (.int k n) K = K (.int k (m.tmod n)) := by simp [BinK, intBin, someK, hn]
  rw [this]; exact h
theorem Tr.quo {t : TypeId} {x y : Operand} {k : IntKind} {m n : Int} (hn : n ≠ 0) (h : Tr l (K (.int k (k.wrap (m.tdiv n))))) : Tr l (BinK P .quo t x y (.int k m) (.int k n) K) := by
  have : BinK P .quo t x y (.int k m) (.int k n) K = K (.int k (k.wrap (m.tdiv n))) := by simp [BinK, intBin, someK, hn]
  rw [this]; exact h
theorem Tr.indexArr {T n s : Nat} [hT : ArrT P T n s] {b o : Nat} {k : IntKind} {i : Int} (h0 : 0 ≤ i) (hi : i < n) (hx : Tr l (K (.pointer (some ⟨b, o + i.toNat * s, none⟩)))) :
    Tr l (GenK P (Instr.indexAt T (.pointer (some ⟨b, o, none⟩)) (.int k i)) K) := fun w hw => by
  obtain ⟨e, hu, hs⟩ := hT.h
  refine ⟨_, ?_, hx w hw⟩
  cases hi' : P.info? e with
  | none => rw [hi'] at hs; cases hs
  | some inf =>
    rw [hi'] at hs
    simp only [Option.map_some, Option.some.injEq] at hs
    simp [Instr.indexAt, asIntOf, run_underlying hu, Instr.sureAddr, h0, hi, sizeOf, typeInfo, hi', hs, add_mk]
end
theorem G.rem {P : Program} {l : List Asrt} {K : Value → WP} {t : TypeId} {x y : Operand} {a b : Value} (h : Tr l (BinK P .rem t x y a b K)) : Tr l (BinK P .rem t x y a b K) := h
theorem G.quo {P : Program} {l : List Asrt} {K : Value → WP} {t : TypeId} {x y : Operand} {a b : Value} (h : Tr l (BinK P .quo t x y a b K)) : Tr l (BinK P .quo t x y a b K) := h
end Go.Wk
namespace Go.Wk
open Go
class Rd (l : List Asrt) (b : Nat) (cs : outParam (List Value)) : Prop where
  h : ∀ {off : Nat} {v : Value}, cs[off]? = some v → Cell l ⟨b, off, none⟩ v
instance rd_blk {b : Nat} {cs : List Value} {T : Nat} {fr : Nat × Nat} {l : List Asrt} : Rd (blk b (.cells cs.toArray T fr) :: l) b cs := ⟨Cell.blk⟩
instance (priority := 500) rd_next {A : Asrt} {l : List Asrt} {b : Nat} {cs : List Value} [h : Rd l b cs] : Rd (A :: l) b cs := ⟨fun e => (h.h e).next⟩
class HasS (l : List Asrt) (v : Value) (ro : outParam Bool) (α : outParam Type) (i : outParam (En α)) (xs : outParam (List α)) : Prop where
  h : Has l (sl ro v xs)
instance hass_here {l : List Asrt} {v : Value} {ro : Bool} {α : Type} {i : En α} {xs : List α} : HasS (sl ro v xs :: l) v ro α i xs := ⟨Has.here⟩
instance (priority := 500) hass_next {A : Asrt} {l : List Asrt} {v : Value} {ro : Bool} {α : Type} {i : En α} {xs : List α} [h : HasS l v ro α i xs] : HasS (A :: l) v ro α i xs := ⟨h.h.next⟩
class TkS (l : List Asrt) (v : Value) (α : outParam Type) (i : outParam (En α)) (xs : outParam (List α)) (F : outParam (List Asrt)) : Prop where
  h : TakeA l (sl false v xs) F
instance tks_here {l : List Asrt} {v : Value} {α : Type} {i : En α} {xs : List α} : TkS (sl false v xs :: l) v α i xs l := ⟨TakeA.here⟩
instance (priority := 500) tks_next {A : Asrt} {l F : List Asrt} {v : Value} {α : Type} {i : En α} {xs : List α} [h : TkS l v α i xs F] : TkS (A :: l) v α i xs (A :: F) := ⟨h.h.next⟩
class TkB (l : List Asrt) (b : Nat) (cs : outParam (List Value)) (T : outParam Nat) (F : outParam (List Asrt)) : Prop where
  h : TakeA l (blk b (.cells cs.toArray T (0, 0))) F
instance tkb_here {l : List Asrt} {b T : Nat} {cs : List Value} : TkB (blk b (.cells cs.toArray T (0, 0)) :: l) b cs T l := ⟨TakeA.here⟩
instance (priority := 500) tkb_next {A : Asrt} {l F : List Asrt} {b T : Nat} {cs : List Value} [h : TkB l b cs T F] : TkB (A :: l) b cs T (A :: F) := ⟨h.h.next⟩
class HasM (l : List Asrt) (m : Nat) (kvs : outParam (List (Int × Value))) : Prop where
  h : Has l (mp m kvs)
class TkM (l : List Asrt) (m : Nat) (kvs : outParam (List (Int × Value))) (F : outParam (List Asrt)) : Prop where
  h : TakeA l (mp m kvs) F
theorem cellsAt_of {l : List Asrt} {b off n : Nat} {cs vs : List Value} (hr : Rd l b cs) (h : (cs.drop off).take n = vs) (hl : vs.length = n) : CellsAt l ⟨b, off, none⟩ n vs := ⟨hl, fun w hw i hi => by
  subst h
  rw [add_mk]
  have h2 : off + i < cs.length := by simp at hi; omega
  have := hr.h (off := off + i) (v := cs[off + i]) (by simp [h2]) w hw
  rw [this]; simp⟩
section
variable {P : Program} {l F : List Asrt} {K : Value → WP} {T b off n : Nat} {cs vs : List Value} {v u : Value}
theorem A.ldW [Agg P T n] [hR : Rd l b cs] (hl : cs.length = n) (hx : Tr l (K (.agg cs.toArray))) : Tr l (GenK P (Instr.loadAt T (.pointer (some ⟨b, 0, none⟩))) K) :=
  Tr.loadN (cellsAt_of hR (by rw [List.drop_zero, ← hl, List.take_length]) hl) hx
theorem A.ld1 [Scal P T] [hR : Rd l b cs] (h : cs[off]? = some v) (hx : Tr l (K v)) : Tr l (GenK P (Instr.loadAt T (.pointer (some ⟨b, off, none⟩))) K) := Tr.load1 (hR.h h) hx
theorem A.ldN [Agg P T n] [hR : Rd l b cs] (h : (cs.drop off).take n = vs) (hl : vs.length = n) (hx : Tr l (K (.agg vs.toArray))) : Tr l (GenK P (Instr.loadAt T (.pointer (some ⟨b, off, none⟩))) K) :=
  Tr.loadN (cellsAt_of hR h hl) hx
theorem A.stW {T' : Nat} [Siz P T n] [hB : TkB l b cs T' F] (hvs : v.cells = vs.toArray) (hn : vs.length = n) (h1 : vs.all Value.oneCell' = true) (hl : cs.length = n) (hx : Tr (blk b (.cells vs.toArray T' (0, 0)) :: F) (K undef)) :
    Tr l (EUnitK P (Instr.storeAt T (.pointer (some ⟨b, 0, none⟩)) v) K) := (Tr.storeW hvs hn h1 Upd.here hl hx).imp hB.h
theorem A.st {T' : Nat} [Siz P T n] [hB : TkB l b cs T' F] (hvs : v.cells = vs.toArray) (hn : vs.length = n) (h1 : vs.all Value.oneCell' = true) (hl : off + n ≤ cs.length) (hx : Tr (blk b (.cells (setL cs off vs).toArray T' (0, 0)) :: F) (K undef)) :
    Tr l (EUnitK P (Instr.storeAt T (.pointer (some ⟨b, off, none⟩)) v) K) := (Tr.store hvs hn h1 Upd.here hl hx).imp hB.h
end
section
variable {P : Program} {l F : List Asrt} {K : Value → WP} {T n : Nat} {v u : Value} {ro : Bool} {α : Type} {iE : En α} {xs : List α}
theorem A.lS0 {i : Nat} {x : α} [Scal P T] [hs : HasS l v ro α iE xs] (hi : xs[i]? = some x) (hj : (En.enc x)[0]? = some u) (hx : Tr l (K u)) : Tr l (GenK P (Instr.loadAt T (.pointer (some ⟨(sb v).block, (sb v).off + i * En.sz α, none⟩))) K) :=
  Tr.load1 (Cell.sl0 hs.h hi hj) hx
theorem A.lS1 {i j : Nat} {x : α} [Scal P T] [hs : HasS l v ro α iE xs] (hi : xs[i]? = some x) (hj : (En.enc x)[j]? = some u) (hx : Tr l (K u)) : Tr l (GenK P (Instr.loadAt T (.pointer (some ⟨(sb v).block, (sb v).off + i * En.sz α + j, none⟩))) K) :=
  Tr.load1 (Cell.slj hs.h hi hj) hx
theorem A.lSW {i : Nat} {x : α} [Agg P T n] [hs : HasS l v ro α iE xs] (hi : xs[i]? = some x) (hl : (En.enc x).length = n) (hx : Tr l (K (.agg (En.enc x).toArray))) : Tr l (GenK P (Instr.loadAt T (.pointer (some ⟨(sb v).block, (sb v).off + i * En.sz α, none⟩))) K) :=
  Tr.loadN (CellsAt.sl0 hs.h hi hl) hx
theorem A.lSN {i j : Nat} {x : α} {us : List Value} [Agg P T n] [hs : HasS l v ro α iE xs] (hi : xs[i]? = some x) (hj : ((En.enc x).drop j).take n = us) (hl : us.length = n) (hx : Tr l (K (.agg us.toArray))) :
    Tr l (GenK P (Instr.loadAt T (.pointer (some ⟨(sb v).block, (sb v).off + i * En.sz α + j, none⟩))) K) := Tr.loadN (CellsAt.slj hs.h hi hj hl) hx
theorem A.stE {i : Int} {x : α} [Siz P T (En.sz α)] [hs : TkS l v α iE xs F] (hu : u.cells = (En.enc x).toArray) (h0 : 0 ≤ i) (hi : i < xs.length) (hx : Tr (sl false v (xs.set i.toNat x) :: F) (K undef)) :
    Tr l (EUnitK P (Instr.storeAt T (.pointer (some ⟨(sb v).block, (sb v).off + i.toNat * En.sz α, none⟩)) u) K) := Tr.storeElI hs.h hu h0 hi hx
theorem A.idx [Inhabited α] {i : Int} {k : IntKind} [Slc P T n] [hs : HasS l v ro α iE xs] (hne : n = En.sz α) (h0 : 0 ≤ i) (hi : i < xs.length) (hx : xs[i.toNat]? = some (ix xs i) → Tr l (K (.pointer (some ⟨(sb v).block, (sb v).off + i.toNat * En.sz α, none⟩)))) :
    Tr l (GenK P (Instr.indexAt T v (.int k i)) K) := Tr.indexI hs.h hne h0 hi hx
theorem A.len {ty : Nat} [Slc P T n] [hs : HasS l v ro α iE xs] (hx : Tr l (K (.int .i64 xs.length))) : Tr l (GenK P (Builtin.len_ #[T] ty #[v]) K) := Tr.len hs.h hx
theorem A.cutTo {hi : Int} {k2 : IntKind} [Slc P T n] [hs : HasS l v true α iE xs] (hne : n = En.sz α) (h1 : 0 ≤ hi) (h2 : hi ≤ xs.length) (hx : ∀ s : SV, Tr (sl true s.v (xs.take hi.toNat) :: l) (K s.v)) :
    Tr l (GenK P (Instr.sliceAt T v none (some (.int k2 hi)) none) K) := Tr.cutTo hs.h hne h1 h2 hx
theorem A.lenM {m ty : Nat} {ze : Value} {kvs : List (Int × Value)} [MapT P T ze] [hs : HasM l m kvs] (hx : Tr l (K (.int .i64 kvs.length))) : Tr l (GenK P (Builtin.len_ #[T] ty #[.map (some m)]) K) := Tr.lenMap hs.h hx
theorem A.look {m : Nat} {ze : Value} {kvs : List (Int × Value)} [MapT P T ze] {k : Int} {ok : Bool} [hs : HasM l m kvs] (hx : Tr l (K (if ok then .tuple #[(find k kvs).getD ze, .bool (find k kvs).isSome] else (find k kvs).getD ze))) :
    Tr l (GenK P (Instr.lookup T (.map (some m)) (.int .i64 k) ok) K) := Tr.lookup hs.h hx
theorem A.mapu {m : Nat} {ze : Value} {kvs : List (Int × Value)} [MapT P T ze] {k : Int} [hs : TkM l m kvs F] (hx : Tr (mp m (upsert k u kvs) :: F) (K undef)) : Tr l (EUnitK P (Instr.mapUpdate T (.map (some m)) (.int .i64 k) u) K) :=
  (Tr.mapUpdate UpdA.here hx).imp hs.h
theorem A.app {T2 ty e bytes : Nat} {z : List Value} {x : Value} {ys : List α} [hT : SlcT P T e bytes (En.sz α) z] [hT2 : Slc P T2 (En.sz α)] [ht : TkS l v α iE xs F] [hs : HasS F x ro α iE ys] (hz : z.length = En.sz α) (hb : 0 < bytes)
    (hlen : (2 * (xs.length + ys.length) + 1000) * bytes ≤ 2 ^ 48) (hk : ∀ s : SV, Tr (sl false s.v (xs ++ ys) :: F) (K s.v)) : Tr l (EGenK P (Builtin.append_ #[T, T2] ty #[v, x]) K) := Tr.append hz ht.h hs.h hb hlen hk
theorem A.app0 {T2 ty e bytes : Nat} {z : List Value} {x : Value} {ys : List α} [hT : SlcT P T e bytes (En.sz α) z] [hT2 : Slc P T2 (En.sz α)] [hs : HasS l x ro α iE ys] (hz : z.length = En.sz α) (hb : 0 < bytes)
    (hlen : (2 * ys.length + 1000) * bytes ≤ 2 ^ 48) (hk : ∀ s : SV, Tr (sl false s.v ys :: l) (K s.v)) : Tr l (EGenK P (Builtin.append_ #[T, T2] ty #[.slice none 0 0, x]) K) :=
  Tr.nilSl (α := α) (Tr.append (α := α) (xs := []) (ys := ys) hz TakeA.here hs.h hb (by simpa using hlen) hk)
end
theorem Tr.callC {P : Program} {f : FuncId} {args : Array Value} {pre : List Asrt} {post : Value → List Asrt → Prop} {l F : List Asrt} {K : Value → WP} (hp : TakeL l pre F) (h : Trip P f args pre post)
    (hk : ∀ v l', post v l' → Tr (l' ++ F) (K v)) : Tr l (CallK P f args K) := Tr.callT h hp hk
theorem G.prop {p : Prop} (h : p) : p := h
end Go.Wk
