import Derived.Test.YtkapfpliiaegfaaGreatZ01
import Derived.ProofKit
import Derived.Deep.Slices
import Derived.Carry
import Derived.Laws.BytesString
import Derived.Laws.IdiomStrings
import Derived.Laws.StructEq
import Derived.DefersIn
namespace Go.Wk
open Go
section
variable {P : Program} {ty : TypeId} {e : Env} {K : Value → WP}
theorem xhz : ∀ x, opX P (.move x) ty e K = K (ev e x) := fun _ => nr rfl
theorem xdM : ∀ x, opX P (.assign x) ty e K = K (ev e x) := fun _ => nr rfl
theorem xi2 : ∀ c a b, opX P (.pick c a b) ty e K = X4 (ev e c) (ev e a) (ev e b) K := fun _ _ _ => nr rfl
theorem xiP : ∀ _u1 x, opX P (.unOp .not _u1 x) ty e K = Yw (ev e x) K := fun _ _ => nr rfl
theorem xbT : ∀ x, opX P (.nilCheck x) ty e K = Yv (ev e x) K := fun _ => nr rfl
theorem xcY : ∀ x i, opX P (.extract x i) ty e K = X1 (ev e x) i K := fun _ _ => nr rfl
theorem xf1 : ∀ op t x y _u1, opX P (.binOp op t x y _u1) ty e K = XO P op t x y (ev e x) (ev e y) K := fun _ _ _ _ _ => nr rfl
theorem xcO : ∀ s d x, opX P (.convert s d x) ty e K = xhR P s d (ev e x) K := fun _ _ _ => nr rfl
theorem xi9 : ∀ t a, opX P (.load t a) ty e K = Xq P (Instr.loadAt t (ev e a)) K := fun _ _ => nr rfl
theorem xaX : ∀ s x f, opX P (.fieldAddr s x f) ty e K = Xq P (Instr.fieldAt s (ev e x) f) K := fun _ _ _ => nr rfl
theorem xfS : ∀ t x f, opX P (.field t x f) ty e K = Xq P (Instr.field t (ev e x) f) K := fun _ _ _ => nr rfl
theorem xaQ : ∀ t x i, opX P (.indexAddr t x i) ty e K = Xq P (Instr.indexAt t (ev e x) (ev e i)) K := fun _ _ _ => nr rfl
theorem xfB : ∀ t x i, opX P (.index t x i) ty e K = Xq P (Instr.index t (ev e x) (ev e i)) K := fun _ _ _ => nr rfl
theorem xf2 : ∀ t x lo hi mx, opX P (.slice t x lo hi mx) ty e K = Xq P (Instr.sliceAt t (ev e x) (lo.map (ev e)) (hi.map (ev e)) (mx.map (ev e))) K := fun _ _ _ _ _ => nr rfl
theorem xdG : ∀ t x i ok, opX P (.lookup t x i ok) ty e K = Xq P (Instr.lookup t (ev e x) (ev e i) ok) K := fun _ _ _ _ => nr rfl
theorem xfZ : ∀ t ps, opX P (.build t ps) ty e K = Xq P (Instr.build t (ps.map fun (i, x) => (i, ev e x))) K := fun _ _ => nr rfl
theorem Wv : ∀ t x, opX P (.makeInterface t x) ty e K = Xq P (Instr.makeInterface t (ev e x)) K := fun _ _ => nr rfl
theorem xbv : ∀ fn first cap, opX P (.makeFunc fn first cap) ty e K = K (.func fn (first.map (ev e)) (cap.map (ev e))) := fun _ _ _ => nr rfl
theorem xai : ∀ x t a ok, opX P (.typeAssert x t a ok) ty e K = Xq P (Instr.typeAssert (ev e x) t a ok) K := fun _ _ _ _ => nr rfl
theorem xfA : ∀ t a x, opX P (.store t a x) ty e K = Xv P (Instr.storeAt t (ev e a) (ev e x)) K := fun _ _ _ => nr rfl
theorem xfv : ∀ t, opX P (.alloc t) ty e K = Xt P (Instr.alloc t true (.tuple #[])) K := fun _ => nr rfl
theorem xlW : ∀ t x, opX P (.box t x) ty e K = Xt P (Instr.box t (ev e x)) K := fun _ _ => nr rfl
theorem xae : ∀ t n ps, opX P (.buildSlice t n ps) ty e K = Xt P (Instr.buildSlice t n (ps.map fun (i, x) => (i, ev e x))) K := fun _ _ _ => nr rfl
theorem xcV : ∀ t r, opX P (.makeMap t r) ty e K = Xt P (Instr.makeMap t (r.map (ev e))) K := fun _ _ => nr rfl
theorem xb4 : ∀ t s, opX P (.makeChan t s) ty e K = Xt P (Instr.makeChan t (ev e s)) K := fun _ _ => nr rfl
theorem xaV : ∀ t l c, opX P (.makeSlice t l c) ty e K = Xt P (Instr.makeSlice t (ev e l) (ev e c)) K := fun _ _ _ => nr rfl
theorem xaY : ∀ t m k x, opX P (.mapUpdate t m k x) ty e K = Xv P (Instr.mapUpdate t (ev e m) (ev e k) (ev e x)) K := fun _ _ _ _ => nr rfl
theorem xqH : ∀ f as ts, opX P (.call { callee := .value (.func f), args := as, argTypes := ts }) ty e K = FnK P f (as.map (ev e)) K := fun _ _ _ => nr rfl
theorem xos : ∀ t as ts, opX P (.call { callee := .value (.tmp t), args := as, argTypes := ts }) ty e K = XZ P (e t) (as.map (ev e)) K (opR P (.call { callee := .value (.tmp t), args := as, argTypes := ts }) ty e K) := fun _ _ _ => nr rfl
theorem xkQ : ∀ as ts, opX P (.call { callee := .builtin .len, args := as, argTypes := ts }) ty e K = Xq P (Builtin.len_ ts ty (as.map (ev e))) K := fun _ _ => nr rfl
theorem xmb : ∀ as ts, opX P (.call { callee := .builtin .cap, args := as, argTypes := ts }) ty e K = Xq P (Builtin.cap_ ts ty (as.map (ev e))) K := fun _ _ => nr rfl
theorem xk6 : ∀ as ts, opX P (.call { callee := .builtin .min, args := as, argTypes := ts }) ty e K = Xq P (Builtin.min_ ts ty (as.map (ev e))) K := fun _ _ => nr rfl
theorem xmx : ∀ as ts, opX P (.call { callee := .builtin .max, args := as, argTypes := ts }) ty e K = Xq P (Builtin.max_ ts ty (as.map (ev e))) K := fun _ _ => nr rfl
theorem xeF : ∀ as ts, opX P (.call { callee := .builtin .append, args := as, argTypes := ts }) ty e K = Xt P (Builtin.append_ ts ty (as.map (ev e))) K := fun _ _ => nr rfl
theorem xhp : ∀ as ts, opX P (.call { callee := .builtin .copy, args := as, argTypes := ts }) ty e K = Xt P (Builtin.copy_ ts ty (as.map (ev e))) K := fun _ _ => nr rfl
theorem xfr : ∀ as ts, opX P (.call { callee := .builtin .clear, args := as, argTypes := ts }) ty e K = Xt P (Builtin.clear_ ts ty (as.map (ev e))) K := fun _ _ => nr rfl
theorem xhx {s d : TypeId} {x : Value} : xhR P s d x K = if s = d then Xt P (convert s d x) K else Xq P (convert s d x) K := nr rfl
end
theorem xkY {a : Oper} {l r : List Oper} : (List.append (a :: l) r)[0]? = some a := nr rfl
theorem xlc {a : Oper} {l r : List Oper} {i : Nat} : (List.append (a :: l) r)[i + 1]? = (List.append l r)[i]? := nr rfl
theorem xoo {r : List Oper} {i : Nat} : (List.append [] r)[i]? = r[i]? := nr rfl
theorem xhj {e : Env} {i : Nat} : xc3 e i [] = e := nr rfl
theorem xfb {e : Env} {i : Nat} {v : Value} {vs : List Value} : xc3 e i (v :: vs) = xc3 (upd e i v) (i + 1) vs := nr rfl
theorem A8 {a b c d e f g h : Prop} (x1 : a) (x2 : b) (x3 : c) (x4 : d) (x5 : e) (x6 : f) (x7 : g) (x8 : h) : a ∧ b ∧ c ∧ d ∧ e ∧ f ∧ g ∧ h := ⟨x1, x2, x3, x4, x5, x6, x7, x8⟩
theorem xtu {i : Nat} : np i = .fin := nr rfl
theorem xwo {i : Nat} {t : Xj} : Xj.r i 0 t = t := nr rfl
theorem xwW {i n : Nat} {t : Xj} : Xj.r i (n + 1) t = .st ⟨i, false, []⟩ (Xj.r (i + 1) n t) := nr rfl
theorem xtH {i : Nat} {c : List Nat} {t : Xj} : Xj.e i c t = .st ⟨i, true, c⟩ t := nr rfl
theorem WKb : type_of% (A8 @xtu @xwo @xwW @xtH @xnX @xkP @xoU (A8 @xov @xtW @xqB @xmf @xqm @xpn @xtg (A8 @xjZ @xqG @xpo @xpW @xmy @xtR @xqi (A8 @xlI @xgp @xiE @xfG @xhl @xfl @xmo (A8 @xhy @xe2 @xfT @xfN @xfP @xfL @xe6 (A8 @xfh @xfY @xfF @xfI @xl5 @xkO @xid (A8 @xiL @xk5 @xrk @xi6 @xkK @xe9 @xtn (A8 @xtE @xk9 @xph @xn8 @xlf @xfJ @xig (A8 @xhJ @xh3 @xiR @xjb @xie @xhH @xiF (A8 @xhn @xnV @xh1 @xfy @xoI @xhu @xfE (A8 @xon @xhm @xjn @xim @xe3 @xtV @xtz (A8 @xtm @xtS @xtI @xl9 @ZG @Value.ite_bool @xfm (A8 @xih @xbr @xfc @xfX @xdI @xeg @xiI (A8 @xjf @xkW @xiB @xo1 @xom @xth @xhx (A8 @xhj @xfb @xkY @xlc @xoo @xhz @xdM (A8 @xi2 @xiP @xbT @xcY @xf1 @xcO @xi9 (A8 @xaX @xfS @xaQ @xfB @xf2 @xdG @xfZ (A8 @Wv @xbv @xai @xfA @xfv @xlW @xae (A8 @xcV @xb4 @xaV @xaY @xqH @xos @xkQ (A8 @xmb @xk6 @xmx @xeF @xhp @xfr @List.map_cons.{0,0} (A8 @List.map_nil.{0,0} @List.map_toArray.{0,0} @Option.map_some.{0,0} @Option.map_none.{0,0} @List.length_map.{0,0} @List.getElem?_toArray.{0} @List.getElem?_cons_succ.{0} (A8 @List.getElem?_cons_zero.{0} @List.append_toArray.{0} @List.cons_append.{0} @List.nil_append.{0} @List.append_nil.{0} @List.eraseIdx_cons_zero.{0} @List.eraseIdx_cons_succ.{0} (A8 @List.set_cons_zero.{0} @List.set_cons_succ.{0} @List.length_set.{0} @Bool.not_true @Bool.not_false @Bool.false_eq_true @Nat.zero_add (And.intro @decide_true (And.intro @decide_false (And.intro @if_true.{1} (And.intro @if_false.{1} (And.intro @eq_self.{1} @beq_self_eq_true.{0})))))))))))))))))))))))))))) :=
  A8 @xtu @xwo @xwW @xtH @xnX @xkP @xoU (A8 @xov @xtW @xqB @xmf @xqm @xpn @xtg (A8 @xjZ @xqG @xpo @xpW @xmy @xtR @xqi (A8 @xlI @xgp @xiE @xfG @xhl @xfl @xmo (A8 @xhy @xe2 @xfT @xfN @xfP @xfL @xe6 (A8 @xfh @xfY @xfF @xfI @xl5 @xkO @xid (A8 @xiL @xk5 @xrk @xi6 @xkK @xe9 @xtn (A8 @xtE @xk9 @xph @xn8 @xlf @xfJ @xig (A8 @xhJ @xh3 @xiR @xjb @xie @xhH @xiF (A8 @xhn @xnV @xh1 @xfy @xoI @xhu @xfE (A8 @xon @xhm @xjn @xim @xe3 @xtV @xtz (A8 @xtm @xtS @xtI @xl9 @ZG @Value.ite_bool @xfm (A8 @xih @xbr @xfc @xfX @xdI @xeg @xiI (A8 @xjf @xkW @xiB @xo1 @xom @xth @xhx (A8 @xhj @xfb @xkY @xlc @xoo @xhz @xdM (A8 @xi2 @xiP @xbT @xcY @xf1 @xcO @xi9 (A8 @xaX @xfS @xaQ @xfB @xf2 @xdG @xfZ (A8 @Wv @xbv @xai @xfA @xfv @xlW @xae (A8 @xcV @xb4 @xaV @xaY @xqH @xos @xkQ (A8 @xmb @xk6 @xmx @xeF @xhp @xfr @List.map_cons.{0,0} (A8 @List.map_nil.{0,0} @List.map_toArray.{0,0} @Option.map_some.{0,0} @Option.map_none.{0,0} @List.length_map.{0,0} @List.getElem?_toArray.{0} @List.getElem?_cons_succ.{0} (A8 @List.getElem?_cons_zero.{0} @List.append_toArray.{0} @List.cons_append.{0} @List.nil_append.{0} @List.append_nil.{0} @List.eraseIdx_cons_zero.{0} @List.eraseIdx_cons_succ.{0} (A8 @List.set_cons_zero.{0} @List.set_cons_succ.{0} @List.length_set.{0} @Bool.not_true @Bool.not_false @Bool.false_eq_true @Nat.zero_add (And.intro @decide_true (And.intro @decide_false (And.intro @if_true.{1} (And.intro @if_false.{1} (And.intro @eq_self.{1} @beq_self_eq_true.{0})))))))))))))))))))))))))))
theorem WKs : type_of% (A8 @decide_eq_true_eq @decide_eq_false_iff_not @Bool.not_eq_true' @Bool.not_eq_false' @Bool.not_eq_true @Bool.not_eq_false @Bool.and_eq_true (And.intro @Bool.or_eq_true (And.intro @Bool.and_eq_false_imp (And.intro @Bool.or_eq_false_iff (And.intro @Int.not_lt @Int.not_le))))) :=
  A8 @decide_eq_true_eq @decide_eq_false_iff_not @Bool.not_eq_true' @Bool.not_eq_false' @Bool.not_eq_true @Bool.not_eq_false @Bool.and_eq_true (And.intro @Bool.or_eq_true (And.intro @Bool.and_eq_false_imp (And.intro @Bool.or_eq_false_iff (And.intro @Int.not_lt @Int.not_le))))
theorem WKl : type_of% (A8 @List.length_map.{0,0} @List.length_set.{0} @List.length_append.{0} @List.length_take.{0} @List.length_cons.{0} @List.length_nil.{0} @List.length_replicate.{0} (@List.length_drop.{0})) :=
  A8 @List.length_map.{0,0} @List.length_set.{0} @List.length_append.{0} @List.length_take.{0} @List.length_cons.{0} @List.length_nil.{0} @List.length_replicate.{0} (@List.length_drop.{0})
theorem WKe : type_of% (A8 @List.cons_append.{0} @List.nil_append.{0} @List.append_nil.{0} @Int.toNat_natCast @or_true @true_or @or_self (A8 @or_false @false_or @and_true @true_and @and_self @and_false @false_and (A8 @if_true.{1} @if_false.{1} @not_true @not_false_eq_true @Bool.true_and @Bool.and_true @Bool.false_and (A8 @Bool.and_false @Bool.true_or @Bool.or_true @Bool.false_or @Bool.or_false @Bool.not_true @Bool.not_false (And.intro @Bool.false_eq_true (And.intro @decide_true @decide_false)))))) :=
  A8 @List.cons_append.{0} @List.nil_append.{0} @List.append_nil.{0} @Int.toNat_natCast @or_true @true_or @or_self (A8 @or_false @false_or @and_true @true_and @and_self @and_false @false_and (A8 @if_true.{1} @if_false.{1} @not_true @not_false_eq_true @Bool.true_and @Bool.and_true @Bool.false_and (A8 @Bool.and_false @Bool.true_or @Bool.or_true @Bool.false_or @Bool.or_false @Bool.not_true @Bool.not_false (And.intro @Bool.false_eq_true (And.intro @decide_true @decide_false)))))
class xqk (P : Program) (T : Nat) (k : outParam IntKind) : Prop where
  h : P.underlying T = some (.int k)
class xjE (P : Program) (T : Nat) : Prop where
  h : P.underlying T = some .string
class xo6 (P : Program) (T : Nat) : Prop where
  h : ∃ e, P.underlying T = some (.slice e) ∧ P.underlying e = some (.int .u8)
def xv5 (P : Program) (T : Nat) : Bool := match P.underlying T with
  | some (.slice e) => match P.underlying e with
    | some (.int .u8) => true
    | _ => false
  | _ => false
theorem xnp {P : Program} {T : Nat} (h : xv5 P T = true) : xo6 P T := ⟨by
  unfold xv5 at h
  split at h
  · rename_i e he
    split at h
    · rename_i hu; exact ⟨e, he, hu⟩
    · cases h
  · cases h⟩
class xuK (P : Program) (T : Nat) (n s : outParam Nat) : Prop where
  h : ∃ e, P.underlying T = some (.array n e) ∧ (P.info? e).map (·.size) = some s
section
variable {P : Program} {l : List Xc} {K : Value → WP}
theorem xfR {s d : Nat} {k k' kv : IntKind} [hs : xqk P s k] [hd : xqk P d k'] {n : Int} : Xq P (convert s d (.int kv n)) K = K (.int k' (k'.wrap n)) := by
  refine Zm (fun w => ?_) K
  simp [convert, run_underlying hs.h, run_underlying hd.h, Conv.intToInt]
theorem Tr.rem {t : TypeId} {x y : Operand} {k : IntKind} {m n : Int} (hn : n ≠ 0) (h : Tr l (K (.int k (m.tmod n)))) : Tr l (XO P .rem t x y (.int k m) (.int k n) K) := by
  have : XO P .rem t x y (.int k m) (.int k n) K = K (.int k (m.tmod n)) := by simp [XO, Je, VF, hn]
  rw [this]; exact h
theorem Tr.quo {t : TypeId} {x y : Operand} {k : IntKind} {m n : Int} (hn : n ≠ 0) (h : Tr l (K (.int k (k.wrap (m.tdiv n))))) : Tr l (XO P .quo t x y (.int k m) (.int k n) K) := by
  have : XO P .quo t x y (.int k m) (.int k n) K = K (.int k (k.wrap (m.tdiv n))) := by simp [XO, Je, VF, hn]
  rw [this]; exact h
theorem Tr.indexArr {T n s : Nat} [hT : xuK P T n s] {b o : Nat} {k : IntKind} {i : Int} (h0 : 0 ≤ i) (hi : i < n) (hx : Tr l (K (.pointer (some ⟨b, o + i.toNat * s, none⟩)))) :
    Tr l (Xq P (Instr.indexAt T (.pointer (some ⟨b, o, none⟩)) (.int k i)) K) := fun w hw => by
  obtain ⟨e, hu, hs⟩ := hT.h
  refine ⟨_, ?_, hx w hw⟩
  cases hi' : P.info? e with
  | none => rw [hi'] at hs; cases hs
  | some inf =>
    rw [hi'] at hs
    simp only [Option.map_some, Option.some.injEq] at hs
    simp [Instr.indexAt, asIntOf, run_underlying hu, Instr.sureAddr, h0, hi, sizeOf, typeInfo, hi', hs, ZG]
end
theorem G.rem {P : Program} {l : List Xc} {K : Value → WP} {t : TypeId} {x y : Operand} {a b : Value} (h : Tr l (XO P .rem t x y a b K)) : Tr l (XO P .rem t x y a b K) := h
theorem G.quo {P : Program} {l : List Xc} {K : Value → WP} {t : TypeId} {x y : Operand} {a b : Value} (h : Tr l (XO P .quo t x y a b K)) : Tr l (XO P .quo t x y a b K) := h
class Rd (l : List Xc) (b : Nat) (cs : outParam (List Value)) : Prop where
  h : ∀ {off : Nat} {v : Value}, cs[off]? = some v → X9 l ⟨b, off, none⟩ v
instance xxC {b : Nat} {cs : List Value} {T : Nat} {fr : Nat × Nat} {l : List Xc} : Rd (blk b (.cells cs.toArray T fr) :: l) b cs := ⟨X9.blk⟩
instance (priority := 500) xxl {A : Xc} {l : List Xc} {b : Nat} {cs : List Value} [h : Rd l b cs] : Rd (A :: l) b cs := ⟨fun e => (h.h e).next⟩
class ZV (l : List Xc) (v : Value) (ro : outParam Bool) (α : outParam Type) (i : outParam (En α)) (xs : outParam (List α)) : Prop where
  h : Has l (sl ro v xs)
instance xnl {l : List Xc} {v : Value} {ro : Bool} {α : Type} {i : En α} {xs : List α} : ZV (sl ro v xs :: l) v ro α i xs := ⟨Has.here⟩
instance (priority := 500) xnE {A : Xc} {l : List Xc} {v : Value} {ro : Bool} {α : Type} {i : En α} {xs : List α} [h : ZV l v ro α i xs] : ZV (A :: l) v ro α i xs := ⟨h.h.next⟩
class TkS (l : List Xc) (v : Value) (α : outParam Type) (i : outParam (En α)) (xs : outParam (List α)) (F : outParam (List Xc)) : Prop where
  h : Xm l (sl false v xs) F
instance xwK {l : List Xc} {v : Value} {α : Type} {i : En α} {xs : List α} : TkS (sl false v xs :: l) v α i xs l := ⟨Xm.here⟩
instance (priority := 500) xwx {A : Xc} {l F : List Xc} {v : Value} {α : Type} {i : En α} {xs : List α} [h : TkS l v α i xs F] : TkS (A :: l) v α i xs (A :: F) := ⟨h.h.next⟩
class TkB (l : List Xc) (b : Nat) (cs : outParam (List Value)) (T : outParam Nat) (F : outParam (List Xc)) : Prop where
  h : Xm l (blk b (.cells cs.toArray T (0, 0))) F
instance xwQ {l : List Xc} {b T : Nat} {cs : List Value} : TkB (blk b (.cells cs.toArray T (0, 0)) :: l) b cs T l := ⟨Xm.here⟩
instance (priority := 500) xw4 {A : Xc} {l F : List Xc} {b T : Nat} {cs : List Value} [h : TkB l b cs T F] : TkB (A :: l) b cs T (A :: F) := ⟨h.h.next⟩
class xwO (l : List Xc) (m : Nat) (kvs : outParam (List (Int × Value))) : Prop where
  h : Has l (mp m kvs)
class TkM (l : List Xc) (m : Nat) (kvs : outParam (List (Int × Value))) (F : outParam (List Xc)) : Prop where
  h : Xm l (mp m kvs) F
theorem xeS {l : List Xc} {b off n : Nat} {cs vs : List Value} (hr : Rd l b cs) (h : (cs.drop off).take n = vs) (hl : vs.length = n) : XP l ⟨b, off, none⟩ n vs := ⟨hl, fun w hw i hi => by
  subst h
  rw [ZG]
  have h2 : off + i < cs.length := by simp at hi; omega
  have := hr.h (off := off + i) (v := cs[off + i]) (by simp [h2]) w hw
  rw [this]; simp⟩
section
variable {P : Program} {l F : List Xc} {K : Value → WP} {T b off n : Nat} {cs vs : List Value} {v u : Value}
theorem A.ldW [Agg P T n] [hR : Rd l b cs] (hl : cs.length = n) (hx : Tr l (K (.agg cs.toArray))) : Tr l (Xq P (Instr.loadAt T (.pointer (some ⟨b, 0, none⟩))) K) :=
  Tr.loadN (xeS hR (by rw [List.drop_zero, ← hl, List.take_length]) hl) hx
theorem A.ld1 [YO P T] [hR : Rd l b cs] (h : cs[off]? = some v) (hx : Tr l (K v)) : Tr l (Xq P (Instr.loadAt T (.pointer (some ⟨b, off, none⟩))) K) := Tr.load1 (hR.h h) hx
theorem A.ldN [Agg P T n] [hR : Rd l b cs] (h : (cs.drop off).take n = vs) (hl : vs.length = n) (hx : Tr l (K (.agg vs.toArray))) : Tr l (Xq P (Instr.loadAt T (.pointer (some ⟨b, off, none⟩))) K) :=
  Tr.loadN (xeS hR h hl) hx
theorem A.stW {T' : Nat} [Siz P T n] [hB : TkB l b cs T' F] (hvs : v.cells = vs.toArray) (hn : vs.length = n) (h1 : vs.all Value.oneCell' = true) (hl : cs.length = n) (hx : Tr (blk b (.cells vs.toArray T' (0, 0)) :: F) (K undef)) :
    Tr l (Xv P (Instr.storeAt T (.pointer (some ⟨b, 0, none⟩)) v) K) := (Tr.storeW hvs hn h1 Upd.here hl hx).imp hB.h
theorem A.st {T' : Nat} [Siz P T n] [hB : TkB l b cs T' F] (hvs : v.cells = vs.toArray) (hn : vs.length = n) (h1 : vs.all Value.oneCell' = true) (hl : off + n ≤ cs.length) (hx : Tr (blk b (.cells (ZM cs off vs).toArray T' (0, 0)) :: F) (K undef)) :
    Tr l (Xv P (Instr.storeAt T (.pointer (some ⟨b, off, none⟩)) v) K) := (Tr.store hvs hn h1 Upd.here hl hx).imp hB.h
end
section
variable {P : Program} {l F : List Xc} {K : Value → WP} {T n : Nat} {v u : Value} {ro : Bool} {α : Type} {iE : En α} {xs : List α}
theorem A.lS0 {i : Nat} {x : α} [YO P T] [hs : ZV l v ro α iE xs] (hi : xs[i]? = some x) (hj : (En.enc x)[0]? = some u) (hx : Tr l (K u)) : Tr l (Xq P (Instr.loadAt T (.pointer (some ⟨(sb v).block, (sb v).off + i * En.sz α, none⟩))) K) :=
  Tr.load1 (X9.sl0 hs.h hi hj) hx
theorem A.lS1 {i j : Nat} {x : α} [YO P T] [hs : ZV l v ro α iE xs] (hi : xs[i]? = some x) (hj : (En.enc x)[j]? = some u) (hx : Tr l (K u)) : Tr l (Xq P (Instr.loadAt T (.pointer (some ⟨(sb v).block, (sb v).off + i * En.sz α + j, none⟩))) K) :=
  Tr.load1 (X9.slj hs.h hi hj) hx
theorem A.lSW {i : Nat} {x : α} [Agg P T n] [hs : ZV l v ro α iE xs] (hi : xs[i]? = some x) (hl : (En.enc x).length = n) (hx : Tr l (K (.agg (En.enc x).toArray))) : Tr l (Xq P (Instr.loadAt T (.pointer (some ⟨(sb v).block, (sb v).off + i * En.sz α, none⟩))) K) :=
  Tr.loadN (XP.sl0 hs.h hi hl) hx
theorem A.lSN {i j : Nat} {x : α} {us : List Value} [Agg P T n] [hs : ZV l v ro α iE xs] (hi : xs[i]? = some x) (hj : ((En.enc x).drop j).take n = us) (hl : us.length = n) (hx : Tr l (K (.agg us.toArray))) :
    Tr l (Xq P (Instr.loadAt T (.pointer (some ⟨(sb v).block, (sb v).off + i * En.sz α + j, none⟩))) K) := Tr.loadN (XP.slj hs.h hi hj hl) hx
theorem A.stE {i : Int} {x : α} [Siz P T (En.sz α)] [hs : TkS l v α iE xs F] (hu : u.cells = (En.enc x).toArray) (h0 : 0 ≤ i) (hi : i < xs.length) (hx : Tr (sl false v (xs.set i.toNat x) :: F) (K undef)) :
    Tr l (Xv P (Instr.storeAt T (.pointer (some ⟨(sb v).block, (sb v).off + i.toNat * En.sz α, none⟩)) u) K) := Tr.storeElI hs.h hu h0 hi hx
theorem A.idx [Inhabited α] {i : Int} {k : IntKind} [Slc P T n] [hs : ZV l v ro α iE xs] (hne : n = En.sz α) (h0 : 0 ≤ i) (hi : i < xs.length) (hx : xs[i.toNat]? = some (ix xs i) → Tr l (K (.pointer (some ⟨(sb v).block, (sb v).off + i.toNat * En.sz α, none⟩)))) :
    Tr l (Xq P (Instr.indexAt T v (.int k i)) K) := Tr.indexI hs.h hne h0 hi hx
theorem A.len {ty : Nat} [Slc P T n] [hs : ZV l v ro α iE xs] (hx : Tr l (K (.int .i64 xs.length))) : Tr l (Xq P (Builtin.len_ #[T] ty #[v]) K) := Tr.len hs.h hx
theorem A.cutTo {hi : Int} {k2 : IntKind} [Slc P T n] [hs : ZV l v true α iE xs] (hne : n = En.sz α) (h1 : 0 ≤ hi) (h2 : hi ≤ xs.length) (hx : ∀ s : SV, Tr (sl true s.v (xs.take hi.toNat) :: l) (K s.v)) :
    Tr l (Xq P (Instr.sliceAt T v none (some (.int k2 hi)) none) K) := Tr.cutTo hs.h hne h1 h2 hx
theorem A.lenM {m ty : Nat} {ze : Value} {kvs : List (Int × Value)} [xc2 P T ze] [hs : xwO l m kvs] (hx : Tr l (K (.int .i64 kvs.length))) : Tr l (Xq P (Builtin.len_ #[T] ty #[.map (some m)]) K) := Tr.lenMap hs.h hx
theorem A.look {m : Nat} {ze : Value} {kvs : List (Int × Value)} [xc2 P T ze] {k : Int} {ok : Bool} [hs : xwO l m kvs] (hx : Tr l (K (if ok then .tuple #[(find k kvs).getD ze, .bool (find k kvs).isSome] else (find k kvs).getD ze))) :
    Tr l (Xq P (Instr.lookup T (.map (some m)) (.int .i64 k) ok) K) := Tr.lookup hs.h hx
theorem A.mapu {m : Nat} {ze : Value} {kvs : List (Int × Value)} [xc2 P T ze] {k : Int} [hs : TkM l m kvs F] (hx : Tr (mp m (ZC k u kvs) :: F) (K undef)) : Tr l (Xv P (Instr.mapUpdate T (.map (some m)) (.int .i64 k) u) K) :=
  (Tr.mapUpdate V6.here hx).imp hs.h
theorem A.app {T2 ty e bytes : Nat} {z : List Value} {x : Value} {ys : List α} [hT : ZY P T e bytes (En.sz α) z] [hT2 : Slc P T2 (En.sz α)] [ht : TkS l v α iE xs F] [hs : ZV F x ro α iE ys] (hz : z.length = En.sz α) (hb : 0 < bytes)
    (hlen : (2 * (xs.length + ys.length) + 1000) * bytes ≤ 2 ^ 48) (hk : ∀ s : SV, Tr (sl false s.v (xs ++ ys) :: F) (K s.v)) : Tr l (Xt P (Builtin.append_ #[T, T2] ty #[v, x]) K) := Tr.append hz ht.h hs.h hb hlen hk
theorem A.app0 {T2 ty e bytes : Nat} {z : List Value} {x : Value} {ys : List α} [hT : ZY P T e bytes (En.sz α) z] [hT2 : Slc P T2 (En.sz α)] [hs : ZV l x ro α iE ys] (hz : z.length = En.sz α) (hb : 0 < bytes)
    (hlen : (2 * ys.length + 1000) * bytes ≤ 2 ^ 48) (hk : ∀ s : SV, Tr (sl false s.v ys :: l) (K s.v)) : Tr l (Xt P (Builtin.append_ #[T, T2] ty #[.slice none 0 0, x]) K) :=
  Tr.nilSl (α := α) (Tr.append (α := α) (xs := []) (ys := ys) hz Xm.here hs.h hb (by simpa using hlen) hk)
end
theorem Tr.callC {P : Program} {f : FuncId} {args : Array Value} {pre : List Xc} {post : Value → List Xc → Prop} {l F : List Xc} {K : Value → WP} (hp : YK l pre F) (h : Xb P f args pre post)
    (hk : ∀ v l', post v l' → Tr (l' ++ F) (K v)) : Tr l (XI P f args K) := Tr.callT h hp hk
theorem G.prop {p : Prop} (h : p) : p := h
section
open Go Go.ChangeShapes Go.WideShapes Go.RowKit
class Fz (α : Type) [En α] where
  fz : α → Xc
  dup : ∀ a, Dup (fz a)
instance : Fz Int := ⟨fun n => fact (-9223372036854775808 ≤ n ∧ n ≤ 9223372036854775807), fun _ => xBP _⟩
instance : Fz Bool := ⟨fun _ => fact True, fun _ => xBP _⟩
instance : Fz UInt8 := ⟨fun _ => fact True, fun _ => xBP _⟩
instance : En ByteArray := ⟨fun s => [.string s], 1, fun _ => rfl, fun _ => rfl, by decide⟩
instance : Fz ByteArray := ⟨fun s => fact (s.size ≤ 9223372036854775807), fun _ => xBP _⟩
structure SL (α : Type) where
  s : SV
  d : List α
instance {α : Type} : Inhabited (SL α) := ⟨⟨⟨none, 0, 0⟩, []⟩⟩
instance {α : Type} : En (SL α) := ⟨fun x => [x.s.v], 1, fun _ => rfl, fun _ => rfl, by decide⟩
def fzl {α : Type} [En α] [Fz α] (xs : List α) : Xc where
  h R _ w := ∀ x ∈ xs, (Fz.fz x).h R (fun _ => False) w
  loc := fun hR _ hk hs h x hx => (Fz.fz x).loc hR (fun _ h => h) (fun b hb => hb.elim (fun hb => hk b (.inl hb)) False.elim) hs (h x hx)
theorem xg2 {α : Type} [En α] [Fz α] (xs : List α) : Dup (fzl xs) := fun h => h
theorem XX {A B : Xc} (ha : Dup A) (hb : Dup B) : Dup (sep A B) := fun ⟨_, _, _, _, _, h1, h2⟩ => ⟨fun _ => False, fun _ => False, fun _ h => h, fun _ h => h, fun _ h _ => h, ha h1, hb h2⟩
instance {α : Type} [En α] [Fz α] : Fz (SL α) := ⟨fun x => sep (sl true x.s.v x.d) (fzl x.d), fun _ => XX (xek _ _) (xg2 _)⟩
theorem xfO {A B : Xc} {R : Jd} {w : World} : (sep A B).h R (fun _ => False) w → A.h R (fun _ => False) w := fun ⟨_, _, h1, _, _, h4, _⟩ => A.loc (fun _ h => h) h1 (fun _ _ => rfl) (xeX.refl w) h4
theorem VB {A B : Xc} {R : Jd} {w : World} : (sep A B).h R (fun _ => False) w → B.h R (fun _ => False) w := fun ⟨_, _, _, h2, _, _, h5⟩ => B.loc (fun _ h => h) h2 (fun _ _ => rfl) (xeX.refl w) h5
theorem xp5 {α : Type} [En α] [Fz α] {x : SL α} {R : Jd} {w : World} (h : (Fz.fz x).h R (fun _ => False) w) : (sl true x.s.v x.d).h R (fun _ => False) w := xfO h
theorem xfe {α : Type} [En α] [Fz α] {x : SL α} {R : Jd} {w : World} (h : (Fz.fz x).h R (fun _ => False) w) : (fzl x.d).h R (fun _ => False) w := VB h
class Inp (P : Program) (t : Nat) (α : Type) [En α] [Fz α] : Prop where
  h : ∀ {H : Type} {enc : TypeId × Value → H} {w : World} {base : Nat} {spare : Nat → Bool} {held : Bool} {fuel : Nat} {cs : List Value} {x : DataW H × List MemPlace}, (∀ b, spare b = true) → DataW.trod enc P w base spare held fuel t cs = some x →
    ∃ a : α, cs = En.enc a ∧ ∀ R : Jd, (∀ b, b < w.heap.size → R b) → (Fz.fz a).h R (fun _ => False) w
section
variable {P : Program}
theorem xKj {t : Nat} (ht : P.underlying t = some (.int .i64)) : Inp P t Int := ⟨fun _ h => by
  obtain ⟨n, rfl, _, hw⟩ := DataW.trod_int ht h
  refine ⟨n, rfl, fun _ _ => ?_⟩
  simp only [Lit.wf, Bool.and_eq_true, decide_eq_true_eq] at hw
  exact hw⟩
theorem xJy {t : Nat} (ht : P.underlying t = some .bool) : Inp P t Bool := ⟨fun _ h => by
  obtain ⟨b, rfl, _⟩ := DataW.trod_bool ht h
  exact ⟨b, rfl, fun _ _ => trivial⟩⟩
theorem xLf {t : Nat} (ht : P.underlying t = some (.int .u8)) : Inp P t UInt8 := ⟨fun _ h => by
  obtain ⟨n, rfl, _, hw⟩ := DataW.trod_int ht h
  simp only [Lit.wf, Bool.and_eq_true, decide_eq_true_eq] at hw
  have h1 : (0 : Int) ≤ n := hw.1
  have h2 : n ≤ 255 := hw.2
  refine ⟨UInt8.ofNat n.toNat, ?_, fun _ _ => trivial⟩
  have : ((UInt8.ofNat n.toNat).toNat : Int) = n := by
    rw [UInt8.toNat_ofNat']
    omega
  show [Value.int .u8 n] = [Value.int .u8 ((UInt8.ofNat n.toNat).toNat : Int)]
  rw [this]⟩
theorem xDE {α : Type} {p : Nat → α → Prop} : ∀ (n : Nat), (∀ i, i < n → ∃ x, p i x) → ∃ xs : List α, xs.length = n ∧ ∀ i x, xs[i]? = some x → p i x
  | 0, _ => ⟨[], rfl, fun i x h => by simp at h⟩
  | n + 1, h => by
    obtain ⟨xs, hl, hx⟩ := xDE n (fun i hi => h i (by omega))
    obtain ⟨y, hy⟩ := h n (by omega)
    refine ⟨xs ++ [y], by simp [hl], fun i x hi => ?_⟩
    by_cases hin : i < n
    · rw [List.getElem?_append_left (by omega)] at hi; exact hx i x hi
    · by_cases hie : i = n
      · subst hie
        rw [List.getElem?_append_right (by omega), hl, Nat.sub_self] at hi
        simp only [List.getElem?_cons_zero, Option.some.injEq] at hi
        subst hi; exact hy
      · rw [List.getElem?_eq_none (by simp; omega)] at hi; cases hi
theorem xGw {w : World} {a : Addr} {v : Value} (h : w.cell? a = some v) : a.spot = none ∧ ∃ cs T fr, w.heap[a.block]? = some (.cells cs T fr) := by
  cases hb : w.heap[a.block]? with
  | none => simp [World.cell?, hb] at h
  | some o =>
    cases o with
    | cells cs T fr =>
      refine ⟨?_, cs, T, fr, rfl⟩
      cases hs : a.spot with
      | none => rfl
      | some x => simp [World.cell?, hb, hs] at h
    | _ => simp [World.cell?, hb] at h
theorem xBQ {t e : Nat} {α : Type} [En α] [Fz α] [hI : Inp P e α] (ht : P.underlying t = some (.slice e)) (hc : P.cellsOf e = En.sz α) : Inp P t (SL α) := ⟨fun {H enc w base spare held fuel cs x} hsp h => by
  have mk : ∀ (s : SV) (d : List α), (∀ R : Jd, (∀ b, b < w.heap.size → R b) → (sl true s.v d).h R (fun _ => False) w) → (∀ R : Jd, (∀ b, b < w.heap.size → R b) → ∀ y ∈ d, (Fz.fz y).h R (fun _ => False) w) →
      ∀ R : Jd, (∀ b, b < w.heap.size → R b) → (Fz.fz (⟨s, d⟩ : SL α)).h R (fun _ => False) w := fun s d h1 h2 R hR =>
    ⟨fun _ => False, fun _ => False, fun _ h => h, fun _ h => h, fun _ h _ => h, h1 R hR, h2 R hR⟩
  rcases Go.Deep.open_slice ht h with ⟨rfl, _⟩ | ⟨a, len, cap, m, n, D, Pl, rfl, hb, hl, hm, hmm, hx, hi⟩
  · exact ⟨⟨⟨none, 0, 0⟩, []⟩, rfl, mk _ _ (fun _ _ => .inl ⟨.inl rfl, rfl⟩) (fun _ _ y hy => by cases hy)⟩
  · rw [hsp] at hmm
    simp only [if_true] at hmm
    subst hmm
    unfold maxLen at hm
    by_cases hc0 : m = 0
    · subst hc0
      have : len = 0 := by omega
      subst this
      exact ⟨⟨⟨some a, 0, 0⟩, []⟩, rfl, mk _ _ (fun _ _ => .inl ⟨.inr ⟨rfl, a, rfl⟩, rfl⟩) (fun _ _ y hy => by cases hy)⟩
    · obtain ⟨xs, hxl, hxs⟩ := xDE (p := fun i (y : α) => (w.cells? base (a.add (i * En.sz α)) (En.sz α) = some (En.enc y)) ∧ ∀ R : Jd, (∀ b, b < w.heap.size → R b) → (Fz.fz y).h R (fun _ => False) w) len (fun i hil => by
        obtain ⟨cs', h1, h2⟩ := hi i (by omega)
        obtain ⟨y, rfl, hy⟩ := hI.h hsp h2
        rw [hc] at h1
        exact ⟨y, h1, hy⟩)
      obtain ⟨cs0, h1, _⟩ := hi 0 (by omega)
      obtain ⟨_, hcl, hcg⟩ := World.cells?_some h1
      have hp := En.pos (α := α)
      have hcell := hcg 0 (by rw [hc]; exact hp)
      rw [List.getElem?_eq_getElem (by rw [hcl, hc]; exact hp)] at hcell
      rw [Nat.zero_mul, Go.Deep.add_add] at hcell
      have ha0 : a.add (0 + 0) = a := by simp [Addr.add]
      rw [ha0] at hcell
      obtain ⟨hs, cs, T, fr, hblk⟩ := xGw hcell
      obtain ⟨ab, ao, as⟩ := a
      simp only at hs hblk
      subst hs
      have hlt : ab < w.heap.size := by
        rcases Nat.lt_or_ge ab w.heap.size with h | h
        · exact h
        · rw [Array.getElem?_eq_none (by omega)] at hblk; cases hblk
      refine ⟨⟨⟨some ⟨ab, ao, none⟩, len, m⟩, xs⟩, rfl, mk _ _ (fun R hR => .inr ⟨ab, ao, m, cs.toList, T, fr, by simp [SV.v, hxl], ⟨by omega, by omega⟩, hR ab hlt, by simpa using hblk, ?_⟩) (fun R hR y hy => ?_)⟩
      · apply List.ext_getElem?
        intro i
        by_cases hil : i < len * En.sz α
        · have hq : i / En.sz α < len := by rw [Nat.div_lt_iff_lt_mul hp]; exact hil
          have hr : i % En.sz α < En.sz α := Nat.mod_lt _ hp
          have hqe : i / En.sz α * En.sz α + i % En.sz α = i := by rw [Nat.mul_comm]; exact Nat.div_add_mod i _
          have hxg : xs[i / En.sz α]? = some (xs[i / En.sz α]'(by omega)) := by simp [hxl, hq]
          obtain ⟨hce, _⟩ := hxs _ _ hxg
          obtain ⟨_, _, hcg2⟩ := World.cells?_some hce
          have h3 := hcg2 _ hr
          rw [Go.Deep.add_add, hqe] at h3
          have h4 := xen xs _ _ _ hxg hr
          rw [hqe] at h4
          rw [hxl, List.getElem?_take_of_lt hil, List.getElem?_drop, h4, ← h3, ZG]
          simp [World.cell?, hblk]
        · rw [hxl, List.getElem?_eq_none (by simp; omega), List.getElem?_eq_none (by rw [XD, hxl]; omega)]
      · obtain ⟨i, hi⟩ := List.getElem?_of_mem hy
        exact (hxs i y hi).2 R hR⟩
end
def pcs (cs : List Value) : Nat → List Nat → List Value
  | _, [] => []
  | off, k :: ks => (cs.drop off).take k ++ pcs cs (off + k) ks
theorem xB6 : ∀ (ks : List Nat) (off : Nat) (cs : List Value), cs.length = off + ks.sum → cs.drop off = pcs cs off ks
  | [], off, cs, h => by simp only [pcs]; exact List.drop_eq_nil_of_le (by simp at h; omega)
  | k :: ks, off, cs, h => by
    simp only [pcs]
    rw [← xB6 ks (off + k) cs (by simp at h; omega), ← List.drop_drop, List.take_append_drop]
theorem sepI {A B : Xc} {R : Jd} {w : World} (h1 : A.h R (fun _ => False) w) (h2 : B.h R (fun _ => False) w) : (sep A B).h R (fun _ => False) w :=
  ⟨fun _ => False, fun _ => False, fun _ h => h, fun _ h => h, fun _ h _ => h, h1, h2⟩
theorem xIX {W : World} : ∀ {l : List Xc} {U : Jd}, (∀ A ∈ l, ∀ R : Jd, (∀ b, b < W.heap.size → R b) → A.h R (fun _ => False) W) → Z7 (fun b => b < W.heap.size) W U l
  | [], _, _ => trivial
  | A :: _, _, h => ⟨fun _ => False, fun _ h => h.elim, h A (by simp) _ (fun _ h => h), xIX fun B hB => h B (by simp [hB])⟩
theorem xK4 (W : World) (R : Jd) (hR : ∀ b, b < W.heap.size → R b) : (old W).h R (fun _ => False) W := ⟨xeX.refl W, Nat.le_refl _, fun b hb => ⟨hR b hb, rfl⟩⟩
theorem xJs {P : Program} {f : FuncId} {args : Array Value} {pre : List Xc} {post : Value → List Xc → Prop} {r : Value} {W : World} (h : Xb P f args pre post) (hr : ∀ v l', post v l' → v = r)
    (hp : ∀ A ∈ pre, ∀ R : Jd, (∀ b, b < W.heap.size → R b) → A.h R (fun _ => False) W) : Calls P f args W fun e w' => e = .returned r ∧ Below W.heap.size W w' := by
  have hk : Tr (pre ++ [old W]) (XI P f args fun v w' => v = r ∧ Below W.heap.size W w') := h [old W] _ fun v l' hv w' hw => by
    refine ⟨hr v l' hv, ?_⟩
    have hw2 : Sat w' (old W :: l') := hw.perm List.perm_append_comm
    obtain ⟨R, _, S, _, ⟨h1, h2, h3⟩, _⟩ := hw2
    exact ⟨h1.1, h1.2.2, h1.2.1, h2, fun k hk => (h3 k hk).2⟩
  have hw : Sat W (pre ++ [old W]) := ⟨fun b => b < W.heap.size, fun _ h => h, xIX fun A hA => by
    rcases List.mem_append.1 hA with h | h
    · exact hp A h
    · simp only [List.mem_singleton] at h
      subst h; exact xK4 W⟩
  exact Calls.mono (hk W hw) fun e w' he => by
    cases e with
    | returned v => exact ⟨by rw [he.1], he.2⟩
    | _ => exact he.elim
section
variable {H : Type} {enc : TypeId × Value → H} {P : Program}
theorem xGZ {α : Type} [En α] [Fz α] {W : World} {r : Reach} {b t : Nat} {spare : Nat → Bool} {held : Bool} {base : Nat} {v : Value} {d : DataW H} {ps : List MemPlace} [hI : Inp P t α] {fs : Array Field} (hu : P.underlying t = some (.struct fs)) (hok : Value.okWide P W r b t v) (hsp : ∀ b, spare b = true)
    (h : DataW.Trod enc P W base spare held t v d ps) : ∃ a : α, v = .agg (En.enc a).toArray ∧ ∀ R : Jd, (∀ b, b < W.heap.size → R b) → (Fz.fz a).h R (fun _ => False) W := by
  obtain ⟨cs, rfl, _⟩ := okWide_struct hu hok
  obtain ⟨fuel, hf⟩ := h
  obtain ⟨a, ha, hz⟩ := hI.h hsp hf
  refine ⟨a, ?_, hz⟩
  rw [← ha]
  simp [Value.cells]
theorem xC7 (hl : laidOutB P = true) {W W' : World} (hb : Below W.heap.size W W') : ∀ {ts : List TypeId} {vs : List Value} {ds : List (DataW H)} {ps : List MemPlace}, ts.all (fun t => P.readableRec t && decide (t < P.types.size)) = true →
    DataW.TrodAll enc P W 0 (fun _ => true) true ts vs ds ps → (∀ x ∈ ps, x.block < W.heap.size) → DataW.TrodAll enc P W' 0 (fun b => decide (b < W.heap.size)) true ts vs ds ps
  | [], vs, ds, ps, _, h, _ => by
    obtain ⟨rfl, rfl, rfl⟩ := trodAll_nil h
    exact trodAll_mk0
  | t :: ts, vs, ds, ps, hr, h, hlt => by
    obtain ⟨v, vs', d, ds', p, q, rfl, rfl, rfl, h1, h2⟩ := trodAll_cons h
    simp only [List.all_cons, Bool.and_eq_true, decide_eq_true_eq] at hr
    exact ⟨p, q, Below.trod hl hr.1.1 hr.1.2 h1 hb (fun x hx => hlt x (by simp [hx])), xC7 hl hb hr.2 h2 (fun x hx => hlt x (by simp [hx])), rfl⟩
theorem xDH {w : World} {base : Nat} {spare : Nat → Bool} {held : Bool} : ∀ {ts : List TypeId} {vs : List Value} {ds : List (DataW H)} {ps : List MemPlace}, DataW.TrodAll enc P w base spare held ts vs ds ps → ds.length = ts.length
  | [], _, _, _, h => by obtain ⟨_, rfl, _⟩ := trodAll_nil h; rfl
  | _ :: _, _, _, _, h => by
    obtain ⟨_, _, _, _, _, _, _, rfl, _, _, h2⟩ := trodAll_cons h
    simp [xDH h2]
theorem xJP {f : Func} {s : ChangeSpec} {apart : Bool} {tb : TypeId} {W W' : World} {args : Array Value} {ds gs : List (DataW H)} {before : List MemPlace} (hl : laidOutB P = true) (hr : f.params.toList.all (fun t => P.readableRec t && decide (t < P.types.size)) = true)
    (hv : s.vars = []) (hrt : f.resultTypes = #[tb]) (htb : P.underlying tb = some .bool)
    (hs : ∀ ds : List (DataW H), ds.length = f.params.toList.length → (s.fn H ds).results = [.lit (.bool true)] ∧ (s.fn H ds).args = ds ∧ (s.fn H ds).vars = [])
    (hW : DataW.Whole enc P f.params.toList s.vars apart W args.toList ds gs before) (hb : Below W.heap.size W W') : s.post enc P f apart true false false W args (.bool true) W' := by
  have hlt : ∀ p ∈ before, p.block < W.heap.size := fun p hp => hW.lt p hp
  have hW0 := hW
  obtain ⟨p, q, hA, hV, rfl, _, _⟩ := hW
  rw [hv] at hV
  obtain ⟨rfl, rfl⟩ := trodVars_none hV
  have hds := hs ds (xDH hA)
  refine ⟨ds, [], p ++ [], [], p, [], hW0, ?_, ?_, ?_, ?_, fun h => by cases h⟩
  · rw [List.append_nil, hds.1, hrt]
    exact trodAll_mk1 (shut_bool htb true)
  · rw [List.append_nil, hds.2.1]
    exact xC7 hl hb hr hA (fun x hx => hlt x (by simp [hx]))
  · rw [List.append_nil, hds.2.2, hv]
    rfl
  · exact World.keptBut_mono (fun x hx => by simp at hx) (hb.frame (fun _ => False))
end
end
def Zh (bs : List UInt8) : ByteArray := ⟨bs.toArray⟩
theorem xfn (bs : List UInt8) : (Zh bs).data.toList = bs := rfl
theorem xcU (s : ByteArray) : s.toList = s.data.toList := by
  have gen : ∀ (n i : Nat) (r : List UInt8), n = s.size - i → i ≤ s.size → ByteArray.toList.loop s i r = r.reverse ++ s.data.toList.drop i := by
    intro n
    induction n with
    | zero =>
      intro i r hn hi
      unfold ByteArray.toList.loop
      rw [if_neg (by omega)]
      have : s.data.toList.drop i = [] := List.drop_eq_nil_of_le (by show s.data.toList.length ≤ i; simp [← ByteArray.size_data] at *; omega)
      rw [this, List.append_nil]
    | succ n ih =>
      intro i r hn hi
      unfold ByteArray.toList.loop
      rw [if_pos (by omega), ih (i + 1) _ (by omega) (by omega)]
      have hlt : i < s.data.toList.length := by simp [← ByteArray.size_data] at *; omega
      rw [List.drop_eq_getElem_cons hlt, List.reverse_cons, List.append_assoc]
      congr 1
      show [s.get! i] ++ _ = _
      have : s.get! i = s.data.toList[i] := by
        simp only [ByteArray.get!]
        rw [Array.getElem!_eq_getD, Array.getD_eq_getD_getElem?]
        simp at hlt
        simp [hlt]
      rw [this]; rfl
  have := gen (s.size - 0) 0 [] rfl (Nat.zero_le _)
  simp only [List.reverse_nil, List.nil_append, List.drop_zero] at this
  exact this
theorem xmG (a b : List UInt8) : ((Zh a).toList == (Zh b).toList) = decide (a = b) := by
  rw [xcU, xcU, xfn, xfn]
  by_cases h : a = b
  · simp [h]
  · simp [h]
theorem xeA : ∀ bs : List UInt8, XK bs = (bs.map fun b => (b.toNat : Int)).map (Value.int .u8)
  | [] => rfl
  | b :: bs => by
    have ih := xeA bs
    simp only [XK] at ih
    simp only [XK, List.flatMap_cons, List.map_cons, ih]
    rfl
section
variable {P : Program} {l F : List Xc} {K : Value → WP} {ro : Bool} {v : Value}
theorem Tr.bytesStr {S D : Nat} [hS : xo6 P S] [hD : xjE P D] {bs : List UInt8} (hs : Has l (sl ro v bs)) (hx : Tr l (K (.string (Zh bs)))) : Tr l (Xq P (convert S D v) K) := fun w hw => by
  obtain ⟨e, he, hu⟩ := hS.h
  obtain ⟨R, S', hA⟩ := hs.sat hw
  refine ⟨_, ?_, hx w hw⟩
  have hc := V7 (P := P) hA
  have hv : ∃ a c, v = .slice a bs.length c := xbw hs hw
  obtain ⟨a, c, rfl⟩ := hv
  rw [run_convert_bytes_string w S D e a _ _ he hu hD.h]
  cases a with
  | none =>
    have : bs = [] := by
      rcases Wh hA with ⟨_, h⟩ | ⟨b, off, cap, cs, T, fr, h, _⟩
      · exact h
      · cases h
    subst this
    rfl
  | some a =>
    have hf : XK bs = (bs.map fun b => (b.toNat : Int)).map (Value.int .u8) := by
      exact xeA bs
    have hl : (loadCells a bs.length).run P w = .ok ((bs.map fun b => (b.toNat : Int)).map (Value.int .u8)).toArray w := by
      rw [← hf]
      have h1 : En.sz UInt8 = 1 := rfl
      simpa [Builtin.firstCells, h1] using hc
    rw [run_bytesToString w a _ _ _ hl, foldl_push_byteCells]
    simp [Zh]
theorem xjk {t : TypeId} {x y : Operand} {a b : List UInt8} : XO P .eql t x y (.string (Zh a)) (.string (Zh b)) K = K (.bool (decide (a = b))) := by
  refine Zm (fun w => ?_) K
  simp [eqGuard, binOp, Op.stringOp, xmG]
theorem xix {t : TypeId} {x y : Operand} {a b : List UInt8} : XO P .neq t x y (.string (Zh a)) (.string (Zh b)) K = K (.bool (!decide (a = b))) := by
  refine Zm (fun w => ?_) K
  simp [eqGuard, binOp, Op.stringOp, xmG]
end
theorem G.conv {P : Program} {l : List Xc} {K : Value → WP} {s d : Nat} {v : Value} (h : Tr l (Xq P (convert s d v) K)) : Tr l (Xq P (convert s d v) K) := h
theorem Tr.fzAt {α : Type} [En α] [Fz α] {xs : List α} {i : Nat} {x : α} {l : List Xc} {X : WP} (hs : Has l (fzl xs)) (hi : xs[i]? = some x) (hx : Tr (Fz.fz x :: l) X) : Tr l X := fun w hw => by
  refine hx w ((hs.imp (B := Fz.fz x) fun {_ _ _} hA => ⟨_, hA x (List.mem_of_getElem? hi)⟩).add (Fz.dup x) hw)
def fam {α : Type} (A : α → Xc) : List α → Xc
  | [] => fact True
  | x :: xs => sep (A x) (fam A xs)
section
variable {α : Type} {A : α → Xc} {l : List Xc}
theorem xgb : Imp l (fam A [] :: l) := Imp.factI trivial
theorem xbC {x : α} {xs : List α} : Imp (fam A (x :: xs) :: l) (A x :: fam A xs :: l) := Imp.sep
theorem Qa {x : α} {xs : List α} : Imp (A x :: fam A xs :: l) (fam A (x :: xs) :: l) := Imp.sepI
theorem xk8 : ∀ {xs : List α} {i : Nat} {x : α} {l : List Xc}, xs[i]? = some x → Imp (fam A xs :: l) (A x :: fam A (xs.eraseIdx i) :: l)
  | [], _, _, _, h => by simp at h
  | y :: xs, 0, x, l, h => by
    simp only [List.getElem?_cons_zero, Option.some.injEq] at h
    subst h
    exact xbC
  | y :: xs, i + 1, x, l, h => by
    simp only [List.getElem?_cons_succ] at h
    simp only [List.eraseIdx_cons_succ]
    exact Imp.trans xbC (Imp.trans Imp.swap (Imp.trans (xk8 h) (Imp.cons (Imp.trans Imp.swap Qa))))
theorem xgz : ∀ {xs : List α} {i : Nat} {x : α} {l : List Xc}, i < xs.length → Imp (A x :: fam A (xs.eraseIdx i) :: l) (fam A (xs.set i x) :: l)
  | [], _, _, _, h => by simp at h
  | y :: xs, 0, x, l, _ => by
    simp only [List.eraseIdx_cons_zero, List.set_cons_zero]
    exact Qa
  | y :: xs, i + 1, x, l, h => by
    simp only [List.eraseIdx_cons_succ, List.set_cons_succ]
    refine Imp.trans (Imp.cons xbC) (Imp.trans Imp.swap (Imp.trans (Imp.cons (xgz (by simpa using h))) Qa))
theorem xjc : ∀ {xs : List α} {x : α} {l : List Xc}, Imp (A x :: fam A xs :: l) (fam A (xs ++ [x]) :: l)
  | [], _, _ => Imp.trans (Imp.cons Imp.tail) (Imp.trans (Imp.trans xgb Imp.swap) Qa)
  | _ :: _, _, _ => Imp.trans (Imp.cons xbC) (Imp.trans Imp.swap (Imp.trans (Imp.cons xjc) Qa))
end
theorem Xm.fam {α : Type} [Inhabited α] {A : α → Xc} {xs : List α} {k : Int} {l : List Xc} (h0 : 0 ≤ k) (h1 : k < xs.length) : Xm (fam A xs :: l) (A (ix xs k)) (fam A (xs.eraseIdx k.toNat) :: l) := xk8 (Yi h0 h1)
theorem Xd.famSame {α : Type} [Inhabited α] {A : α → Xc} {xs : List α} {k : Int} {d l l' l2 : List Xc} (ht : Xm l (Wk.fam A (xs.eraseIdx k.toNat)) l') (h0 : 0 ≤ k) (h1 : k < xs.length) (h : Xd d l' (A (ix xs k) :: l2)) : Xd d l (Wk.fam A xs :: l2) := by
  have h3 := Imp.trans (Imp.trans ht (Imp.cons h)) Imp.swap
  have h4 := Imp.trans h3 (xgz (by omega))
  have h5 : xs.set k.toNat (ix xs k) = xs := by
    have := Yi (xs := xs) h0 h1
    obtain ⟨hlt, he⟩ := List.getElem?_eq_some_iff.1 this
    rw [← he]; simp
  rw [h5] at h4; exact h4
theorem Xd.famSet {α : Type} {A : α → Xc} {xs : List α} {x : α} {k : Nat} {d l l' l2 : List Xc} (ht : Xm l (Wk.fam A (xs.eraseIdx k)) l') (h1 : k < xs.length) (h : Xd d l' (A x :: l2)) : Xd d l (Wk.fam A (xs.set k x) :: l2) :=
  Imp.trans (Imp.trans (Imp.trans ht (Imp.cons h)) Imp.swap) (xgz h1)
theorem Xd.famSnoc {α : Type} {A : α → Xc} {xs : List α} {x : α} {d l l' l2 : List Xc} (ht : Xm l (Wk.fam A xs) l') (h : Xd d l' (A x :: l2)) : Xd d l (Wk.fam A (xs ++ [x]) :: l2) :=
  Imp.trans (Imp.trans (Imp.trans ht (Imp.cons h)) Imp.swap) xjc
theorem Xd.famNil {α : Type} {A : α → Xc} {d l l2 : List Xc} (h : Xd d l l2) : Xd d l (Wk.fam A [] :: l2) := Imp.trans h xgb
theorem G.ec {A : Xc} {d l l2 : List Xc} (h : Xd d l (A :: l2)) : Xd d l (A :: l2) := h
theorem G.ef {α : Type} {A : α → Xc} {xs : List α} {d l l2 : List Xc} (h : Xd d l (Wk.fam A xs :: l2)) : Xd d l (Wk.fam A xs :: l2) := h
theorem Xm.famNil {α : Type} {A : α → Xc} {l : List Xc} : Xm l (Wk.fam A []) l := xgb
theorem Xm.nilS {α : Type} [En α] {ro : Bool} {l : List Xc} : Xm l (sl ro (.slice none 0 0) ([] : List α)) l := fun _ _ _ _ _ h => ⟨fun _ => False, fun _ h => h.elim, .inl ⟨.inl rfl, rfl⟩, h.weaken fun _ hb => hb.elim id False.elim⟩
theorem Xd.nilS {α : Type} [En α] {ro : Bool} {d l l2 : List Xc} (h : Xd d l l2) : Xd d l (sl ro (.slice none 0 0) ([] : List α) :: l2) := Imp.trans Xm.nilS (Imp.cons h)
class FzD (α : Type) [En α] [Fz α] [Inhabited α] : Prop where
  h : ∀ R w, (Fz.fz (default : α)).h R (fun _ => False) w
instance : FzD Int := ⟨fun _ _ => ⟨by decide, by decide⟩⟩
instance : Inhabited UInt8 := ⟨0⟩
instance : FzD UInt8 := ⟨fun _ _ => trivial⟩
instance : FzD Bool := ⟨fun _ _ => trivial⟩
instance {α : Type} [En α] [Fz α] : FzD (SL α) := ⟨fun _ _ => ⟨fun _ => False, fun _ => False, fun _ h => h, fun _ h => h, fun _ h _ => h, .inl ⟨.inl rfl, rfl⟩, fun x hx => by cases hx⟩⟩
class xaM {α : Type} [En α] [Fz α] (l : List Xc) (x : α) : Prop where
  h : Has l (Fz.fz x)
class J8 {α : Type} [En α] [Fz α] (l : List Xc) (xs : List α) : Prop where
  h : Has l (fzl xs)
section
variable {α : Type} [iE : En α] [iF : Fz α] {l : List Xc}
theorem Va {xs : List α} (h : ∀ (w : World) (R U : Jd), (∀ b, R b → b < w.heap.size) → (∀ b, R b → U b) → Z7 R w U l → ∀ x ∈ xs, (Fz.fz x).h R (fun _ => False) w) : J8 l xs := ⟨fun w R U h1 h2 h3 => ⟨fun _ => False, h w R U h1 h2 h3⟩⟩
theorem Vh {xs : List α} (hf : J8 l xs) {w : World} {R U : Jd} (h1 : ∀ b, R b → b < w.heap.size) (h2 : ∀ b, R b → U b) (h3 : Z7 R w U l) : ∀ x ∈ xs, (Fz.fz x).h R (fun _ => False) w := let ⟨_, h⟩ := hf.h w R U h1 h2 h3; h
theorem xdX {x : α} (hf : xaM l x) {w : World} {R U : Jd} (h1 : ∀ b, R b → b < w.heap.size) (h2 : ∀ b, R b → U b) (h3 : Z7 R w U l) : (Fz.fz x).h R (fun _ => False) w := let ⟨_, h⟩ := hf.h w R U h1 h2 h3; Fz.dup x h
instance xvG {x : α} : xaM (Fz.fz x :: l) x := ⟨Has.here⟩
instance (priority := 500) xvE {x : α} {A : Xc} [h : xaM l x] : xaM (A :: l) x := ⟨h.h.next⟩
instance xvD {xs : List α} : J8 (fzl xs :: l) xs := ⟨Has.here⟩
instance (priority := 500) xvz {xs : List α} {A : Xc} [h : J8 l xs] : J8 (A :: l) xs := ⟨h.h.next⟩
instance (priority := 800) xwb : J8 l ([] : List α) := Va fun _ _ _ _ _ _ x hx => by cases hx
instance (priority := 800) xvw {x : α} {xs : List α} [hz : xaM l x] [hf : J8 l xs] : J8 l (x :: xs) := Va fun w R U h1 h2 h3 y hy => by
  rcases List.mem_cons.1 hy with rfl | hy
  · exact xdX hz h1 h2 h3
  · exact Vh hf h1 h2 h3 y hy
instance (priority := 800) xvP {xs ys : List α} [hx : J8 l xs] [hy : J8 l ys] : J8 l (xs ++ ys) := Va fun w R U h1 h2 h3 y h => by
  rcases List.mem_append.1 h with h | h
  · exact Vh hx h1 h2 h3 y h
  · exact Vh hy h1 h2 h3 y h
instance (priority := 800) xxo [Inhabited α] [hd : FzD α] {xs : List α} {k : Int} [hx : J8 l xs] : xaM l (ix xs k) := ⟨fun w R U h1 h2 h3 => ⟨fun _ => False, by
  by_cases h : k.toNat < xs.length
  · have : ix xs k = xs[k.toNat] := by simp [ix, h]
    rw [this]; exact Vh hx h1 h2 h3 _ (List.getElem_mem h)
  · have : ix xs k = default := by simp [ix, Nat.le_of_not_lt h]
    rw [this]; exact hd.h R w⟩⟩
instance (priority := 800) xxn {x : SL α} [hz : xaM l x] : J8 l (SL.d x) := Va fun _ _ _ h1 h2 h3 y hy => xfe (xdX hz h1 h2 h3) y hy
instance (priority := 800) xrZ {x : SL α} [hz : xaM l x] : ZV l (SV.v (SL.s x)) true α iE (SL.d x) := ⟨hz.h.imp fun h => ⟨fun _ => False, xp5 (Fz.dup x h)⟩⟩
theorem xlU {s : SV} {d : List α} (hs : ZV l s.v true α iE d) (hf : J8 l d) : xaM l (SL.mk s d) := ⟨fun w R U h1 h2 h3 => ⟨fun _ => False, by
  obtain ⟨S, h⟩ := hs.h w R U h1 h2 h3
  exact sepI (xek _ _ h) (Vh hf h1 h2 h3)⟩⟩
instance (priority := 700) xxi {s : SV} {d : List α} [hs : ZV l s.v true α iE d] [hf : J8 l d] : xaM l (SL.mk s d) := xlU hs hf
instance (priority := 400) xwp {x : SL α} [hs : ZV l x.s.v true α iE x.d] [hf : J8 l x.d] : xaM l x := xlU hs hf
end
instance (priority := 900) xxg {l : List Xc} {xs : List UInt8} : J8 l xs := Va fun _ _ _ _ _ _ _ _ => trivial
section
variable {α : Type} [iE : En α] {l F l2 : List Xc} {d : List Xc}
theorem Xm.dupS {v : Value} {xs : List α} [hs : ZV l v true α iE xs] : Xm l (sl true v xs) l := hs.h.imps (xek v xs)
theorem Xm.dupF [Fz α] {xs : List α} [hs : J8 l xs] : Xm l (fzl xs) l := hs.h.imps (xg2 xs)
theorem Xd.dupS {v : Value} {xs : List α} [hs : ZV l v true α iE xs] (h : Xd d l l2) : Xd d l (sl true v xs :: l2) := Imp.trans (hs.h.imps (xek v xs)) (Imp.cons h)
theorem Xd.dupF [Fz α] {xs : List α} [hs : J8 l xs] (h : Xd d l l2) : Xd d l (fzl xs :: l2) := Imp.trans (hs.h.imps (xg2 xs)) (Imp.cons h)
theorem Xd.dupZ [Fz α] {x : α} [hs : xaM l x] (h : Xd d l l2) : Xd d l (Fz.fz x :: l2) := Imp.trans (hs.h.imps (Fz.dup x)) (Imp.cons h)
theorem Tr.freezeAt {v : Value} {xs : List α} {X : WP} (ht : Xm l (sl false v xs) F) (h : Tr (sl true v xs :: F) X) : Tr l X := (Tr.freezeSl h).imp ht
end
structure Pt where
  a : Option Nat
def Pt.v (p : Pt) : Value := .pointer (p.a.map fun b => ⟨b, 0, none⟩)
theorem Pt.v_some {b : Nat} : (Pt.mk (some b)).v = .pointer (some ⟨b, 0, none⟩) := rfl
theorem Pt.v_none : (Pt.mk none).v = .pointer none := rfl
section
variable {P : Program} {l F : List Xc} {K : Value → WP} {t : TypeId} {x y : Operand}
theorem xeN {T n : Nat} [h : Slc P T n] : ∃ e, P.underlying T = some (.slice e) := by
  obtain ⟨e, _, hu, _⟩ := Jk h.h
  exact ⟨e, hu⟩
theorem xd8 {T n : Nat} [h : Slc P T n] {s : SV} : XO P .eql T x y s.v (.slice none 0 0) K = K (.bool s.a.isNone) := by
  obtain ⟨e, he⟩ := xeN (P := P) (T := T)
  obtain ⟨a, n, c⟩ := s
  refine Zm (fun w => ?_) K
  have : (Op.equal T (.slice a n c) (.slice none 0 0)).run P w = .ok a.isNone w := Jw fun d => by
    cases a <;> simp [Op.equalIn, run_underlying he]
  simp [eqGuard, binOp, this, SV.v]
theorem xcX {T n : Nat} [h : Slc P T n] {s : SV} : XO P .neq T x y s.v (.slice none 0 0) K = K (.bool (!s.a.isNone)) := by
  obtain ⟨e, he⟩ := xeN (P := P) (T := T)
  obtain ⟨a, n, c⟩ := s
  refine Zm (fun w => ?_) K
  have : (Op.equal T (.slice a n c) (.slice none 0 0)).run P w = .ok a.isNone w := Jw fun d => by
    cases a <;> simp [Op.equalIn, run_underlying he]
  simp [eqGuard, binOp, this, SV.v]
theorem A.byStr {S D : Nat} [xo6 P S] [xjE P D] {ro : Bool} {v : Value} {bs : List UInt8} [hs : ZV l v ro UInt8 inferInstance bs] (hx : Tr l (K (.string (Zh bs)))) : Tr l (Xq P (convert S D v) K) := Tr.bytesStr hs.h hx
end
def xur (P : Program) (T : Nat) : Bool := match P.underlying T with
  | some (.interface _) => false
  | some _ => true
  | none => false
class xtd (P : Program) (T : Nat) : Prop where
  h : xur P T = true
def xtP (P : Program) (T : Nat) (m : String) : Option Nat := match P.info? T with
  | some i => match i.methods.find? (·.name == m) with
    | some md => match md.path.isEmpty, md.func, P.underlying T with
      | true, some (f, true), some (.pointer _) => some f
      | _, _, _ => none
    | none => none
  | none => none
class xjl (P : Program) (T : Nat) (m : String) (f : outParam Nat) : Prop where
  h : xtP P T m = some f
def xrT (P : Program) (r : Value) (m : String) (args : Array Value) (K : Value → WP) : WP := fun w => xkd P K ((callMethod r m args).run P w)
theorem xlN {P : Program} {r : Operand} {m : String} {as : Array Operand} {ts : Array TypeId} {ty : TypeId} {e : Env} {K : Value → WP} : opX P (.call ⟨.invoke r m, as, ts⟩) ty e K = xrT P (ev e r) m (as.map (ev e)) K := by
  funext w
  show opR P _ ty e K w = _
  rw [Qy rfl]
  unfold xew xrT
  have h0 : (#[ev e r] ++ as.map (ev e))[0]? = some (ev e r) := by rw [← Array.getElem?_toList]; simp
  have h1 : (#[ev e r] ++ as.map (ev e)).extract 1 (#[ev e r] ++ as.map (ev e)).size = as.map (ev e) := by
    apply Array.toList_inj.1
    simp [List.take_of_length_le]
  simp only [execOp, JX, resolve, invoke, Sem.run_bind, Sem.run_pure, Result.andThen_ok, h0, h1]
section
variable {P : Program} {l F : List Xc} {K : Value → WP}
theorem xhs {T : Nat} {m : String} {f : Nat} [hm : xjl P T m f] [hf : xqo P f] {v : Value} {args : Array Value} : xrT P (.iface T v) m args K = XI P f (#[v] ++ args) K := by
  funext w
  have h := hm.h
  unfold xtP at h
  split at h
  · rename_i i hi
    split at h
    · rename_i md hmd
      split at h
      · rename_i h1 h2 h3
        cases h
        have hrun : (callMethod (.iface T v) m args).run P w = .ok (.enter f (#[v] ++ args)) w := by
          have hmeth : ∀ n, (method (n + 1) T v m).run P w = .ok (f, v) w := fun n => by
            simp [method, typeInfo, hi, hmd, follow, (List.isEmpty_iff.1 (by simpa using h1) : md.path.toList = []), h2, receiverAt, run_underlying h3, Place.get]
          have hpos : 0 < Made.depth := by decide
          obtain ⟨n, hn⟩ : ∃ n, P.types.size + Made.depth = n + 1 := ⟨P.types.size + Made.depth - 1, by omega⟩
          simp only [callMethod, Sem.run_bind]
          have hp : (program).run P w = .ok P w := by simp [program, Sem.run]
          rw [hp]
          simp only [Result.andThen_ok, hn, hmeth n, Qw hf.h]
        unfold xrT
        rw [hrun]
        rfl
      · cases h
    · cases h
  · cases h
theorem xmh {T : Nat} [h : xtd P T] {v : Value} : Xq P (Instr.makeInterface T v) K = K (.iface T v) := by
  refine Zm (fun w => ?_) K
  have h := h.h
  unfold xur at h
  cases hu : P.underlying T with
  | none => rw [hu] at h; cases h
  | some d => rw [hu] at h; cases d <;> simp_all [Instr.makeInterface, run_underlying hu]
theorem xiQ {X T A : Nat} {z v : Value} [h : xtd P A] [hz : Zer P A z] : Xq P (Instr.typeAssert (.iface T v) X A true) K = K (if T = A then .tuple #[v, .bool true] else .tuple #[z, .bool false]) := by
  refine Zm (fun w => ?_) K
  have h := h.h
  have hz' : (zeroValue A).run P w = .ok z w := by
    have hz := hz.h
    unfold xby at hz
    cases hi : P.info? A with
    | none => rw [hi] at hz; cases hz
    | some i =>
      rw [hi] at hz
      have hz' : i.zero = some z := hz
      simp [zeroValue, typeInfo, hi, hz']
  unfold xur at h
  cases hu : P.underlying A with
  | none => rw [hu] at h; cases h
  | some d => rw [hu] at h; cases d <;> (by_cases ht : T = A <;> simp_all [Instr.typeAssert, run_underlying hu])
end
section
variable {P : Program} {α : Type} [iE : En α] {v : Value} {xs : List α} {l F : List Xc} {ro : Bool} {K : Value → WP}
theorem Wc (hs : Has l (sl ro v xs)) {w : World} (hw : Sat w l) : ∃ a c, v = .slice a xs.length c ∧ xs.length ≤ c := by
  obtain ⟨R, S, h⟩ := hs.sat hw
  rcases Wh h with ⟨hn, rfl⟩ | ⟨b, off, cap, cs, T0, fr, rfl, h2, _⟩
  · obtain ⟨a, rfl⟩ := hn.slice
    exact ⟨a, 0, rfl, Nat.le_refl _⟩
  · exact ⟨_, _, rfl, h2⟩
theorem Tr.slNil {s : SV} {X : WP} [hs : ZV l s.v ro α iE xs] (h : s.a.isNone = true) (hx : xs = [] → Tr l X) : Tr l X := fun w hw => hx (by
  obtain ⟨R, S, hA⟩ := hs.h.sat hw
  rcases Wh hA with ⟨_, rfl⟩ | ⟨b, off, cap, cs, T0, fr, he, _⟩
  · rfl
  · obtain ⟨a, n, c⟩ := s
    simp only [SV.v, Value.slice.injEq] at he
    rw [he.1] at h
    cases h) w hw
theorem xme {ty T : Nat} {k k' : IntKind} {a b : Int} : Xq P (Builtin.max_ #[T, T] ty #[.int k a, .int k' b]) K = K (.int k (if a < b then b else a)) := by
  refine Zm (fun w => ?_) K
  simp [Builtin.max_, Builtin.max2]
theorem A.mks {T e bytes : Nat} {β : Type} [_hE : ElT T β] [En β] [Inhabited β] {z : List Value} [hT : ZY P T e bytes (En.sz β) z] {n : Int} {k1 k2 : IntKind} (hz : z = En.enc (default : β)) (h0 : 0 ≤ n) (h1 : n ≤ 9223372036854775807) (hn : bytes * n ≤ 281474976710656)
    (hk : ∀ s : SV, Tr (sl false s.v (List.replicate n.toNat (default : β)) :: l) (K s.v)) : Tr l (Xt P (Instr.makeSlice T (.int k1 n) (.int k2 n)) K) := Tr.makeSlice hz h0 h1 hn hk
theorem A.cut {T n : Nat} {lo hi : Int} {k1 k2 : IntKind} [hT : Slc P T n] [hs : ZV l v true α iE xs] (hne : n = En.sz α) (h0 : 0 ≤ lo) (h1 : lo ≤ hi) (h2 : hi ≤ xs.length)
    (hx : ∀ s : SV, Tr (sl true s.v ((xs.take hi.toNat).drop lo.toNat) :: l) (K s.v)) : Tr l (Xq P (Instr.sliceAt T v (some (.int k1 lo)) (some (.int k2 hi)) none) K) := by
  subst hne; exact Tr.cut hs.h h0 h1 h2 hx
theorem A.cutFrom {T n : Nat} {lo : Int} {k1 : IntKind} [hT : Slc P T n] [hs : ZV l v true α iE xs] (hne : n = En.sz α) (h0 : 0 ≤ lo) (h1 : lo ≤ xs.length)
    (hx : ∀ s : SV, Tr (sl true s.v (xs.drop lo.toNat) :: l) (K s.v)) : Tr l (Xq P (Instr.sliceAt T v (some (.int k1 lo)) none none) K) := fun w hw => by
  subst hne
  obtain ⟨e, inf, hu, hin, hsz⟩ := Jk hT.h
  have key : (Instr.sliceAt T v (some (.int k1 lo)) none none).run P w = (Instr.sliceAt T v (some (.int k1 lo)) (some (.int .i64 xs.length)) none).run P w := by
    obtain ⟨a, c, rfl, hc⟩ := Wc hs.h hw
    have h3 : (xs.length : Int) ≤ c := by omega
    simp [Instr.sliceAt, run_underlying hu, Instr.slice, Instr.sliceBounds, Instr.sliceBound, asIntOf, hc]
  obtain ⟨v', hr, hk⟩ := Tr.cut (P := P) (T := T) (lo := lo) (hi := xs.length) (k1 := k1) (k2 := .i64) (K := K) hs.h h0 h1 (by omega) (fun s => by simpa using hx s) w hw
  exact ⟨v', by rw [key]; exact hr, hk⟩
end
theorem Ye {n : Int} (h0 : -9223372036854775808 ≤ n) (h1 : n ≤ 9223372036854775807) : IntKind.i64.wrap n = n := by apply Go.IntWalk.i64_in <;> omega
theorem Xo {k : Nat} (h : k < 9223372036854775807) : IntKind.i64.wrap ((k : Int) + 1) = ((k + 1 : Nat) : Int) := by rw [Ye (by omega) (by omega)]; rfl
section
variable {α β : Type} [Inhabited α] {xs : List α}
theorem Yz {k : Nat} (h : k < xs.length) : xs.take (k + 1) = xs.take k ++ [ix xs (k : Int)] := by
  rw [List.take_succ_eq_append_getElem h]; simp [ix, h]
theorem Xp [Inhabited β] {f : α → β} {k : Int} (h0 : 0 ≤ k) (h1 : k < xs.length) : ix (xs.map f) k = f (ix xs k) := by
  have h2 : k.toNat < xs.length := by omega
  simp [ix, h2]
end
class De (l : List Xc) {α : Type} [En α] (u : Value) (x : outParam α) : Prop where
  h : u.cells = (En.enc x).toArray
section
variable {l : List Xc}
instance xxx {n : Int} : De l (.int .i64 n) n := ⟨rfl⟩
instance xxr {α : Type} [En α] {x : α} : De l (.agg (En.enc x).toArray) x := ⟨rfl⟩
instance xyM {α : Type} {iE : En α} {s : SV} {xs : List α} [_hs : ZV l s.v true α iE xs] : De l s.v (SL.mk s xs) := ⟨rfl⟩
class DeL (l : List Xc) {α : Type} [En α] (i : Nat) (ps : List (Nat × Value)) (xs : outParam (List α)) : Prop where
  h : ∀ (pre mid : List Value), pre.length = i * En.sz α → xs.length * En.sz α ≤ mid.length → xaS (fun i => some (i * En.sz α, En.sz α)) (pre ++ mid) ps = some (pre ++ (XK xs ++ mid.drop (xs.length * En.sz α)))
instance xxc {α : Type} [En α] {i : Nat} : DeL l i [] ([] : List α) := ⟨fun pre mid _ _ => by simp [xaS, XK]⟩
theorem xo3 {α : Type} [En α] {i j : Nat} {u : Value} {x : α} {ps : List (Nat × Value)} {xs : List α} (hu : De l u x) (hj : j = i + 1) (h : DeL l j ps xs) : DeL l i ((i, u) :: ps) (x :: xs) := ⟨fun pre mid h1 h2 => by
  subst hj
  have hl : (En.enc x).length = En.sz α := En.len x
  have hm : En.sz α ≤ mid.length := by rw [List.length_cons, Nat.succ_mul] at h2; omega
  simp only [xaS, hu.h, List.size_toArray, hl]
  rw [if_pos ⟨trivial, by rw [List.length_append]; omega⟩]
  have hs := Wu pre mid (En.enc x) (by omega)
  rw [h1] at hs
  rw [hs]
  have := h.h (pre ++ En.enc x) (mid.drop (En.sz α)) (by rw [List.length_append, h1, hl, Nat.succ_mul]) (by rw [List.length_drop]; rw [List.length_cons, Nat.succ_mul] at h2; omega)
  rw [← List.append_assoc, hl, this, List.drop_drop]
  simp only [XK, List.flatMap_cons, List.append_assoc, List.length_cons, Nat.succ_mul]
  congr 4
  rw [Nat.add_comm]⟩
instance xwE {α : Type} [En α] {i : Nat} {u : Value} {x : α} {ps : List (Nat × Value)} {xs : List α} [hu : De l u x] [h : DeL l (i + 1) ps xs] : DeL l i ((i, u) :: ps) (x :: xs) := xo3 hu rfl h
end
section
variable {P : Program} {α : Type} [iE : En α] {v : Value} {xs : List α} {l F : List Xc} {ro : Bool} {K : Value → WP}
theorem A.buildL {T e bytes n : Nat} {β : Type} [_hE : ElT T β] [En β] [Inhabited β] {z : List Value} [hT : ZY P T e bytes (En.sz β) z] {ps : List (Nat × Value)} {ys : List β} [hp : DeL l 0 ps ys] (hz : z = En.enc (default : β)) (hn : ys.length = n) (hsm : n * En.sz β ≤ 16777216)
    (hk : ∀ s : SV, Tr (sl false s.v ys :: l) (K s.v)) : Tr l (Xt P (Instr.buildSlice T n ps.toArray) K) :=
  Tr.buildSlice (α := β) (xs := ys) (d := default) hz hn hsm (by
    have := hp.h [] (XK (List.replicate n (default : β))) (by simp) (by rw [XD, List.length_replicate, hn]; exact Nat.le_refl _)
    rw [List.nil_append, List.nil_append] at this
    rw [List.drop_of_length_le (by rw [XD, List.length_replicate, hn]; exact Nat.le_refl _), List.append_nil] at this
    exact this) hk
theorem A.stD {T : Nat} {i : Int} {u : Value} {x : α} [Siz P T (En.sz α)] [hs : TkS l v α iE xs F] [hu : De l u x] (h0 : 0 ≤ i) (hi : i < xs.length) (hx : Tr (sl false v (xs.set i.toNat x) :: F) (K undef)) :
    Tr l (Xv P (Instr.storeAt T (.pointer (some ⟨(sb v).block, (sb v).off + i.toNat * En.sz α, none⟩)) u) K) := A.stE hu.h h0 hi hx
end
theorem xqj {k : IntKind} {n : Int} : (Value.int k n).cells.toList = [.int k n] := rfl
theorem xlY {b : Bool} : (Value.bool b).cells.toList = [.bool b] := rfl
theorem xqy {s : ByteArray} : (Value.string s).cells.toList = [.string s] := rfl
theorem xti {s : SV} : s.v.cells.toList = [s.v] := rfl
theorem xqT {a : Option Addr} {n c : Nat} : (Value.slice a n c).cells.toList = [.slice a n c] := rfl
theorem xow {a : Option Addr} : (Value.pointer a).cells.toList = [.pointer a] := rfl
theorem xoH {a : Option Nat} : (Value.map a).cells.toList = [.map a] := rfl
theorem xmF {a : Option Nat} : (Value.chan a).cells.toList = [.chan a] := rfl
theorem xoL {t : Nat} {v : Value} : (Value.iface t v).cells.toList = [.iface t v] := rfl
theorem xl0 : Value.nilIface.cells.toList = [.nilIface] := rfl
theorem xq1 {l : List Value} : (Value.agg l.toArray).cells.toList = l := rfl
class DeA {α : Type} [En α] (u : Value) (x : outParam α) : Prop where
  h : u = .agg (En.enc x).toArray
theorem xjU {α : Type} {a : Array α} {i : Nat} {f : α → α} {x : α} (h : a[i]? = some x) : a.modify i f = a.setIfInBounds i (f x) := by
  apply Array.ext_getElem?
  intro j
  rw [Array.getElem?_modify, Array.getElem?_setIfInBounds]
  by_cases hj : i = j
  · subst hj
    have hlt : i < a.size := by
      rcases Nat.lt_or_ge i a.size with h' | h'
      · exact h'
      · rw [Array.getElem?_eq_none h'] at h; cases h
    rw [Array.getElem?_eq_getElem hlt] at h
    simp [hlt, Option.some.inj h]
  · simp [hj]
section
variable {P : Program} {l F : List Xc} {K : Value → WP} {v : Value}
theorem A.convB {T : Nat} [hT : xo6 P T] {xs : List UInt8} [hs : TkS l v UInt8 inferInstance xs F] (h0 : 0 < xs.length) (hx : Tr (sl true v xs :: F) (K v)) : Tr l (Xt P (convert T T v) K) := Tr.imp hs.h fun w hw => by
  obtain ⟨e, he, hu⟩ := hT.h
  rcases WA hw with ⟨rfl, rfl, hw'⟩ | ⟨b, off, cap, cs, T', e1, e2, e5, e7, hw'⟩
  · cases h0
  subst e1
  have hg := hw'.get
  have hlt := hw'.lt
  refine ⟨.slice (some ⟨b, off, none⟩) xs.length cap, w.freeze ⟨b, cs.length, none⟩ 1, ?_, hx _ ?_⟩
  · simp [convert, run_underlying he, run_underlying hu, markStringish, World.shape?, hg]
  · have hh : (w.freeze ⟨b, cs.length, none⟩ 1).heap = w.heap.setIfInBounds b (.cells cs.toArray T' (cs.length, cs.length + 1)) := by
      unfold World.freeze
      rw [if_neg (by decide)]
      dsimp only
      rw [xjU hg]
      simp
    have h3 := hw'.put (o' := .cells cs.toArray T' (cs.length, cs.length + 1)) hh ⟨rfl, rfl, rfl⟩
    exact Sat.mapHead (A := rob b (.cells cs.toArray T' (cs.length, cs.length + 1))) (fun _ _ (hb : _ ∧ _) => .inr ⟨b, off, cap, cs, T', _, rfl, e2, hb.1, hb.2, e7⟩) h3.freeze
end
theorem G.convE {P : Program} {l : List Xc} {K : Value → WP} {s d : Nat} {v : Value} (h : Tr l (Xt P (convert s d v) K)) : Tr l (Xt P (convert s d v) K) := h
theorem WKh : type_of% (A8 @xlN @xhs @xmh @xiQ @xd8 @xcX @xfR (A8 @xjk @xix @Pt.v_some @Pt.v_none @xme @xqj @xlY (A8 @xqy @xti @xqT @xow @xoH @xmF @xoL (And.intro @xl0 @xq1)))) :=
  A8 @xlN @xhs @xmh @xiQ @xd8 @xcX @xfR (A8 @xjk @xix @Pt.v_some @Pt.v_none @xme @xqj @xlY (A8 @xqy @xti @xqT @xow @xoH @xmF @xoL (And.intro @xl0 @xq1)))
theorem G.tr {l : List Xc} {X : WP} (h : Tr l X) : Tr l X := h
section
variable {P : Program} {l : List Xc} {K : Value → WP} {t : TypeId} {v : Value}
theorem G.box (h : Tr l (Xt P (Instr.box t v) K)) : Tr l (Xt P (Instr.box t v) K) := h
theorem G.alloc {b : Bool} (h : Tr l (Xt P (Instr.alloc t b v) K)) : Tr l (Xt P (Instr.alloc t b v) K) := h
theorem G.mkm {r : Option Value} (h : Tr l (Xt P (Instr.makeMap t r) K)) : Tr l (Xt P (Instr.makeMap t r) K) := h
theorem G.eqR {ops : Array Oper} {cs : List Nat} {k : Env → WP} {e : Env} {u : Value} (h : Tr l (eqR P ops cs k e u v)) : Tr l (eqR P ops cs k e u v) := h
end
theorem I3 {a b c : Prop} (x0 : a) (x1 : b) (x2 : c) : a ∧ b ∧ c := ⟨x0, x1, x2⟩
theorem I4 {a b c d : Prop} (x0 : a) (x1 : b) (x2 : c) (x3 : d) : a ∧ b ∧ c ∧ d := ⟨x0, x1, x2, x3⟩
theorem I5 {a b c d e : Prop} (x0 : a) (x1 : b) (x2 : c) (x3 : d) (x4 : e) : a ∧ b ∧ c ∧ d ∧ e := ⟨x0, x1, x2, x3, x4⟩
theorem I6 {a b c d e f : Prop} (x0 : a) (x1 : b) (x2 : c) (x3 : d) (x4 : e) (x5 : f) : a ∧ b ∧ c ∧ d ∧ e ∧ f := ⟨x0, x1, x2, x3, x4, x5⟩
theorem I7 {a b c d e f g : Prop} (x0 : a) (x1 : b) (x2 : c) (x3 : d) (x4 : e) (x5 : f) (x6 : g) : a ∧ b ∧ c ∧ d ∧ e ∧ f ∧ g := ⟨x0, x1, x2, x3, x4, x5, x6⟩
theorem I8 {a b c d e f g h : Prop} (x0 : a) (x1 : b) (x2 : c) (x3 : d) (x4 : e) (x5 : f) (x6 : g) (x7 : h) : a ∧ b ∧ c ∧ d ∧ e ∧ f ∧ g ∧ h := ⟨x0, x1, x2, x3, x4, x5, x6, x7⟩
theorem I9 {a b c d e f g h i : Prop} (x0 : a) (x1 : b) (x2 : c) (x3 : d) (x4 : e) (x5 : f) (x6 : g) (x7 : h) (x8 : i) : a ∧ b ∧ c ∧ d ∧ e ∧ f ∧ g ∧ h ∧ i := ⟨x0, x1, x2, x3, x4, x5, x6, x7, x8⟩
theorem S.r {α : Sort _} {a b : α} (h : a = b := by with_unfolding_all rfl) : a = b := h
theorem S.o {p : Prop} (h : p := by first | omega | assumption | (simp only [WKl]; omega) | fail) : p := h
theorem S.b {p : Prop} (h : p := by first | rfl | assumption | (simp only [WKs]; first | omega | assumption | fail) | fail) : p := h
theorem S.K {l F : List Xc} {A : Xc} (h : Xm l A F := by
    (first | ((repeat (first | with_reducible exact Xm.here | with_reducible apply Xm.next)); done) | ((repeat (first | exact Xm.here | apply Xm.next)); done) | fail)) : Xm l A F := h
theorem S.T {l m F : List Xc} (h : YK l m F := by
    (first | ((repeat (first | with_reducible exact YK.nil | (apply YK.cons; focus ((first | exact Xm.dupS | exact Xm.dupF | ((repeat (first | with_reducible exact Xm.here | exact Xm.fam (by omega) (by omega) | with_reducible apply Xm.next)); done) | ((repeat (first | exact Xm.here | apply Xm.next)); done) | exact Xm.famNil | exact Xm.nilS))) | fail)); done) | fail)) : YK l m F := h
theorem ap : type_of% (And.intro @List.cons_append.{0} @List.nil_append.{0}) := And.intro @List.cons_append.{0} @List.nil_append.{0}
theorem S.I {P : Program} {f : FuncId} {F : Func} {T : Nat → Xj} [hF : FnI P f F T] {X : Code} {args : List Value} {rs : List ResultVar} {K : Value → WP} {l : List Xc} (h : ∀ u, Tr l (W P T X (Ys P rs K) (xc3 u 0 args)))
    (hm : P.follows .mixedOrders = true := by exact mixed) (hrs : F.results = rs.toArray := by rfl) (ha : Nat.ble args.length F.ntmps = true := by rfl) (hX : bd F = X := by ((conv => lhs; whnf) <;> exact rfl)) : Tr l (XI P f args.toArray K) :=
  Tr.enter (c := X) hm (hX ▸ hF.h) hrs (Nat.le_of_ble_eq_true ha) h
theorem S.c {P : Program} {f : FuncId} {args : Array Value} {pre : List Xc} {post : Value → List Xc → Prop} {l F : List Xc} {K : Value → WP} (hk : ∀ v l', post v l' → Tr (l' ++ F) (K v)) (hp : YK l pre F := by exact S.T) (h : Xb P f args pre post) : Tr l (XI P f args K) := Tr.callC hp h hk
theorem S.p {p : Prop} (h : p := by first | omega | assumption | exact Nat.le_of_ble_eq_true rfl) : p := h
theorem S.e {d l l' m m' : List Xc} (hx : Xd d l' m') (h : Xd d l' m' → Xd d l m := by
    (intro h; refine G.ec ?_; (first | refine Xd.take S.K ?_ | refine Xd.dupS ?_ | refine Xd.dupF ?_ | refine Xd.dupZ ?_ | with_reducible refine Xd.famNil ?_ | refine Xd.nilS ?_ | with_reducible refine Xd.sep ?_ | with_reducible refine Xd.fact (by first | rfl | assumption | omega | simp) ?_ | fail); exact h)) : Xd d l m := h hx
theorem S.f {d l l' m m' : List Xc} (hx : Xd d l' m') (h : Xd d l' m' → Xd d l m := by
    (refine fun h => G.ef ?_; first | (refine Xd.famSet S.K (by omega) ?_; exact h) | (refine Xd.famSame S.K (by omega) (by omega) ?_; exact h) | (refine Xd.famSnoc S.K ?_; exact h) | fail)) : Xd d l m := h hx
theorem VL {a : List UInt8} : (Zh a).size = a.length := rfl
theorem xLG (s : ByteArray) : Zh s.data.toList = s := rfl
theorem xh5 (a b : List UInt8) : Zh a ++ Zh b = Zh (a ++ b) := by
  apply ByteArray.ext
  simp [Zh]
theorem QK (a : List UInt8) (i j : Nat) : (Zh a).extract i j = Zh ((a.take j).drop i) := by
  apply ByteArray.ext
  apply Array.toList_inj.1
  simp only [ByteArray.data_extract, Zh, Array.toList_extract, List.extract_eq_take_drop, List.drop_take]
def bix (a : List UInt8) (i : Int) : UInt8 := a.getD i.toNat 0
section
variable {P : Program} {l F : List Xc} {K : Value → WP}
theorem A.sidx {T : Nat} [h : xjE P T] {a : List UInt8} {k : IntKind} {i : Int} (h0 : 0 ≤ i) (hi : i < a.length) (hx : Tr l (K (.int .u8 ((bix a i).toNat : Int)))) : Tr l (Xq P (Instr.index T (.string (Zh a)) (.int k i)) K) := fun w hw => by
  refine ⟨_, ?_, hx w hw⟩
  have hlt : i.toNat < (Zh a).size := by rw [VL]; omega
  have hg : (Zh a)[i.toNat]? = some (bix a i) := by
    rw [getElem?_pos (Zh a) i.toNat hlt]
    have h2 : i.toNat < a.length := by omega
    simp [bix, h2, Zh, ByteArray.getElem_eq_getElem_data]
  simp [Instr.index, asIntOf, run_underlying h.h, h0, hg]
theorem G.sidx {T : Nat} {a : List UInt8} {v : Value} (h : Tr l (Xq P (Instr.index T (.string (Zh a)) v) K)) : Tr l (Xq P (Instr.index T (.string (Zh a)) v) K) := h
theorem A.scut {T : Nat} [h : xjE P T] {a : List UInt8} {k k' : IntKind} {lo hi : Int} (h0 : 0 ≤ lo) (h1 : lo ≤ hi) (h2 : hi ≤ a.length) (hx : Tr l (K (.string (Zh ((a.take hi.toNat).drop lo.toNat))))) :
    Tr l (Xq P (Instr.sliceAt T (.string (Zh a)) (some (.int k lo)) (some (.int k' hi)) none) K) := fun w hw => by
  refine ⟨_, ?_, hx w hw⟩
  simp [Instr.sliceAt, Instr.slice, run_underlying h.h, Instr.sliceBounds, Instr.sliceBound, asIntOf, VL, QK, h0, show 0 ≤ hi by omega, h2, show lo ≤ max hi 0 by omega]
theorem A.scutF {T : Nat} [h : xjE P T] {a : List UInt8} {k : IntKind} {lo : Int} (h0 : 0 ≤ lo) (h2 : lo ≤ a.length) (hx : Tr l (K (.string (Zh (a.drop lo.toNat))))) :
    Tr l (Xq P (Instr.sliceAt T (.string (Zh a)) (some (.int k lo)) none none) K) := fun w hw => by
  refine ⟨_, ?_, hx w hw⟩
  simp [Instr.sliceAt, Instr.slice, run_underlying h.h, Instr.sliceBounds, Instr.sliceBound, asIntOf, VL, QK, h0, h2]
theorem A.scutT {T : Nat} [h : xjE P T] {a : List UInt8} {k : IntKind} {hi : Int} (h0 : 0 ≤ hi) (h2 : hi ≤ a.length) (hx : Tr l (K (.string (Zh (a.take hi.toNat))))) :
    Tr l (Xq P (Instr.sliceAt T (.string (Zh a)) none (some (.int k hi)) none) K) := fun w hw => by
  refine ⟨_, ?_, hx w hw⟩
  simp [Instr.sliceAt, Instr.slice, run_underlying h.h, Instr.sliceBounds, Instr.sliceBound, asIntOf, VL, QK, h0, h2]
theorem G.scut {T : Nat} {a : List UInt8} {x y z : Option Value} (h : Tr l (Xq P (Instr.sliceAt T (.string (Zh a)) x y z) K)) : Tr l (Xq P (Instr.sliceAt T (.string (Zh a)) x y z) K) := h
theorem A.sadd {t : TypeId} {x y : Operand} {a b : List UInt8} (h : a.length + b.length ≤ 9223372036854775807) (hx : Tr l (K (.string (Zh (a ++ b))))) : Tr l (XO P .add t x y (.string (Zh a)) (.string (Zh b)) K) := fun w hw => by
  refine ⟨_, ?_, hx w hw⟩
  have hm : ((Zh a).size : Int) + ((Zh b).size : Int) ≤ 9223372036854775807 := by
    rw [VL, VL]; omega
  simp [eqGuard, binOp, Op.stringOp, hm, xh5]
theorem G.sadd {t : TypeId} {x y : Operand} {a b : List UInt8} (h : Tr l (XO P .add t x y (.string (Zh a)) (.string (Zh b)) K)) : Tr l (XO P .add t x y (.string (Zh a)) (.string (Zh b)) K) := h
def xKM (P : Program) (v : Value) (K : Value → WP) : WP := Xq P (Op.unary .neg v) K
theorem xLL {T : TypeId} {x : Operand} {ty : TypeId} {e : Env} : opX P (.unOp .neg T x) ty e K = xKM P (ev e x) K := by
  funext w
  show opR P _ ty e K w = _
  rw [xkc rfl]
  unfold rdR xKM Xq
  apply propext
  constructor
  · rintro ⟨v, hv, hk⟩
    refine ⟨v, ?_, hk⟩
    simp only [execOp, JX, Sem.run_bind] at hv
    cases hr : (Op.unary .neg (ev e x)).run P w with
    | ok u w' => rw [hr] at hv; simp at hv; obtain ⟨rfl, rfl⟩ := hv; rfl
    | halt a b => rw [hr] at hv; simp [Result.andThen] at hv
  · rintro ⟨v, hv, hk⟩
    exact ⟨v, by simp [execOp, JX, hv], hk⟩
theorem xLr {k : IntKind} {n : Int} : xKM P (.int k n) K = K (.int k (k.wrap (0 - n))) := by
  refine Zm (fun w => ?_) K
  simp [Op.unary, Op.intArith]
end
def xhb (P : Program) (T : Nat) : Bool := match P.underlying T with
  | some (.struct _) | some (.array _ _) => true
  | _ => false
def xoQ (P : Program) (T : Nat) : Option (Nat × Nat × Bool) := match P.underlying T with
  | some (.array n e) => match P.underlying e with
    | some _ => (P.info? e).map fun i => (n, i.size, xhb P e)
    | none => none
  | _ => none
class xuX (P : Program) (T : Nat) (n s : outParam Nat) (g : outParam Bool) : Prop where
  h : xoQ P T = some (n, s, g)
theorem xf4 {P : Program} {T n s : Nat} {g : Bool} (h : xoQ P T = some (n, s, g)) : ∃ e, P.underlying T = some (.array n e) ∧ (∀ w, (sizeOf e).run P w = .ok s w) ∧ ∀ w, (isAgg e).run P w = .ok g w := by
  unfold xoQ at h
  split at h
  · rename_i m e hu
    split at h
    · rename_i d hd
      cases hi : P.info? e with
      | none => rw [hi] at h; cases h
      | some i =>
        rw [hi] at h
        simp only [Option.map_some, Option.some.injEq, Prod.mk.injEq] at h
        obtain ⟨rfl, rfl, rfl⟩ := h
        refine ⟨e, hu, fun w => by simp [sizeOf, typeInfo, hi], fun w => ?_⟩
        unfold xhb
        cases d <;> simp [isAgg, run_underlying hd, hd]
    · cases h
  · cases h
section
variable {P : Program} {l : List Xc} {K : Value → WP}
theorem A.aidx {T n s : Nat} [hT : xuX P T n s false] {cs : List Value} {k : IntKind} {i : Int} {v : Value} (h0 : 0 ≤ i) (hi : i < n) (hv : cs[i.toNat * s]? = some v) (hx : Tr l (K v)) : Tr l (Xq P (Instr.index T (.agg cs.toArray) (.int k i)) K) := fun w hw => by
  obtain ⟨e, hu, hs, ha⟩ := xf4 hT.h
  refine ⟨_, ?_, hx w hw⟩
  have hs := hs w
  have ha := ha w
  generalize hsz : sizeOf e = sz at hs
  generalize hag : isAgg e = ag at ha
  simp [Instr.index, asIntOf, run_underlying hu, h0, hi, part, hsz, hag, hs, ha, hv]
theorem A.aidxG {T n s : Nat} [hT : xuX P T n s true] {cs : List Value} {k : IntKind} {i : Int} {v : List Value} (h0 : 0 ≤ i) (hi : i < n) (hv : (cs.take (i.toNat * s + s)).drop (i.toNat * s) = v) (hx : Tr l (K (.agg v.toArray))) : Tr l (Xq P (Instr.index T (.agg cs.toArray) (.int k i)) K) := fun w hw => by
  obtain ⟨e, hu, hs, ha⟩ := xf4 hT.h
  subst hv
  refine ⟨_, ?_, hx w hw⟩
  have hs := hs w
  have ha := ha w
  generalize hsz : sizeOf e = sz at hs
  generalize hag : isAgg e = ag at ha
  simp [Instr.index, asIntOf, run_underlying hu, h0, hi, part, hsz, hag, hs, ha, List.extract_eq_take_drop, List.drop_take]
theorem G.aidx {T : Nat} {cs : List Value} {v : Value} (h : Tr l (Xq P (Instr.index T (.agg cs.toArray) v) K)) : Tr l (Xq P (Instr.index T (.agg cs.toArray) v) K) := h
theorem xfC {α : Type} [En α] [Inhabited α] : ∀ (xs : List α) (i : Nat), i < xs.length → ((XK xs).take (i * En.sz α + En.sz α)).drop (i * En.sz α) = En.enc (ix xs (i : Int))
  | [], i, h => by simp at h
  | x :: xs, 0, _ => by
    have hl := En.len x
    have : (XK (x :: xs)).take (En.sz α) = En.enc x := by
      simp only [XK, List.flatMap_cons]
      rw [← hl, List.take_left']; rfl
    rw [Nat.zero_mul, Nat.zero_add, List.drop_zero, this]; rfl
  | x :: xs, i + 1, h => by
    have ih := xfC xs i (by simpa using h)
    have hl := En.len x
    have e1 : XK (x :: xs) = En.enc x ++ XK xs := by simp [XK]
    rw [e1, show (i + 1) * En.sz α = (En.enc x).length + i * En.sz α by rw [hl, Nat.succ_mul]; omega, Nat.add_assoc, List.take_length_add_append, List.drop_length_add_append, ih]
    rfl
theorem A.aidxE {α : Type} [En α] [Inhabited α] {T n s : Nat} [hT : xuX P T n s true] {xs : List α} {k : IntKind} {i : Int} (h0 : 0 ≤ i) (hi : i < n) (hn : n = xs.length) (hs : s = En.sz α) (hx : Tr l (K (.agg (En.enc (ix xs i)).toArray))) : Tr l (Xq P (Instr.index T (.agg (XK xs).toArray) (.int k i)) K) := by
  subst hs
  refine A.aidxG h0 hi (xfC xs i.toNat (by omega)) ?_
  rw [Int.toNat_of_nonneg h0]; exact hx
end
def xmE (P : Program) (T f : Nat) : Option (Nat × Nat × Bool) := match P.underlying T with
  | some (.struct fs) => match fs[f]? with
    | some fd => match P.underlying fd.type with
      | some _ => (P.info? fd.type).map fun i => (fd.offset, i.size, xhb P fd.type)
      | none => none
    | none => none
  | _ => none
class xqt (P : Program) (T f : Nat) (off sz : outParam Nat) (g : outParam Bool) : Prop where
  h : xmE P T f = some (off, sz, g)
theorem xe4 {P : Program} {T f off sz : Nat} {g : Bool} (h : xmE P T f = some (off, sz, g)) : ∃ fs fd, P.underlying T = some (.struct fs) ∧ fs[f]? = some fd ∧ fd.offset = off ∧ (∀ w, (sizeOf fd.type).run P w = .ok sz w) ∧ ∀ w, (isAgg fd.type).run P w = .ok g w := by
  unfold xmE at h
  split at h
  · rename_i fs hu
    split at h
    · rename_i fd hf
      split at h
      · rename_i d hd
        cases hi : P.info? fd.type with
        | none => rw [hi] at h; cases h
        | some i =>
          rw [hi] at h
          simp only [Option.map_some, Option.some.injEq, Prod.mk.injEq] at h
          obtain ⟨rfl, rfl, rfl⟩ := h
          refine ⟨fs, fd, hu, hf, rfl, fun w => by simp [sizeOf, typeInfo, hi], fun w => ?_⟩
          unfold xhb
          cases d <;> simp [isAgg, run_underlying hd, hd]
      · cases h
    · cases h
  · cases h
section
variable {P : Program} {l : List Xc} {K : Value → WP}
theorem A.fldv {T f off : Nat} [hT : xqt P T f off 1 false] {cs : List Value} {v : Value} (hv : cs[off]? = some v) (hx : Tr l (K v)) : Tr l (Xq P (Instr.field T (.agg cs.toArray) f) K) := fun w hw => by
  obtain ⟨fs, fd, hu, hf, rfl, hs, ha⟩ := xe4 hT.h
  refine ⟨_, ?_, hx w hw⟩
  have hs := hs w
  have ha := ha w
  generalize hsz : sizeOf fd.type = sz at hs
  generalize hag : isAgg fd.type = ag at ha
  simp [Instr.field, run_underlying hu, hf, asAgg, part, hag, ha, hv]
theorem A.fldvG {T f off s : Nat} [hT : xqt P T f off s true] {cs v : List Value} (hv : (cs.take (off + s)).drop off = v) (hx : Tr l (K (.agg v.toArray))) : Tr l (Xq P (Instr.field T (.agg cs.toArray) f) K) := fun w hw => by
  obtain ⟨fs, fd, hu, hf, rfl, hs, ha⟩ := xe4 hT.h
  subst hv
  refine ⟨_, ?_, hx w hw⟩
  have hs := hs w
  have ha := ha w
  generalize hsz : sizeOf fd.type = sz at hs
  generalize hag : isAgg fd.type = ag at ha
  simp [Instr.field, run_underlying hu, hf, asAgg, part, hsz, hag, hs, ha, List.extract_eq_take_drop, List.drop_take]
theorem G.fldv {T f : Nat} {v : Value} (h : Tr l (Xq P (Instr.field T v f) K)) : Tr l (Xq P (Instr.field T v f) K) := h
end
section
variable {P : Program} {K : Value → WP}
theorem xEf {t : TypeId} {cs : Array Value} {off : Nat} {v : Value} {w : World} (ha : (isAgg t).run P w = .ok false w) (h : cs[off]? = some v) : (part t cs off).run P w = .ok v w := by
  generalize hagg : isAgg t = ag at ha
  simp [part, hagg, ha, h]
end
def xtp (P : Program) (T : Nat) : Option Nat := match P.underlying T with
  | some (.array _ e) => (P.info? e).map (·.size)
  | _ => none
class xuC (P : Program) (T : Nat) (s : outParam Nat) (z : outParam (List Value)) : Prop where
  h : xtp P T = some s ∧ xby P T = some (.agg z.toArray)
section
variable {P : Program} {l : List Xc} {K : Value → WP}
theorem A.buildA {T s : Nat} {z cs : List Value} {parts : Array (Nat × Value)} [hT : xuC P T s z] (h : xaS (fun i => some (i * s, s)) z parts.toList = some cs) (hx : Tr l (K (.agg cs.toArray))) : Tr l (Xq P (Instr.build T parts) K) := fun w hw => by
  refine ⟨_, ?_, hx w hw⟩
  obtain ⟨h1, h2⟩ := hT.h
  unfold xtp at h1
  split at h1
  · rename_i n e hu
    have hz : (zeroValue T).run P w = .ok (.agg z.toArray) w := by
      unfold xby at h2
      cases hi : P.info? T with
      | none => rw [hi] at h2; cases h2
      | some i =>
        rw [hi] at h2
        have hz' : i.zero = some (.agg z.toArray) := h2
        simp [zeroValue, typeInfo, hi, hz']
    have hs : (sizeOf e).run P w = .ok s w := by
      cases hi : P.info? e with
      | none => rw [hi] at h1; cases h1
      | some i => rw [hi] at h1; simp at h1; simp [sizeOf, typeInfo, hi, h1]
    unfold Instr.build
    simp only [Sem.run_bind, hz, Result.andThen_ok, run_underlying hu, Value.cells, hs]
    rw [xeh _ _ _ _ h]
    simp
  · cases h1
theorem G.build {T : Nat} {ps : Array (Nat × Value)} (h : Tr l (Xq P (Instr.build T ps) K)) : Tr l (Xq P (Instr.build T ps) K) := h
end
theorem hX : True := trivial
structure Hd (Q : Prop) : Prop where
  h : Q
theorem S.l {Q P : Prop} (q : Q) (h : Hd Q → P := by
    intro q
    (first | ((with_reducible refine G.load ?_); first | (with_reducible refine A.ldW S.r ?_) | (with_reducible refine A.ld1 S.r ?_) | (with_reducible refine A.ldN S.r S.r ?_) | (with_reducible refine A.lS0 (by assumption) S.r ?_) | (with_reducible refine A.lS1 (by assumption) S.r ?_) | (with_reducible refine A.lSW (by assumption) S.r ?_) | (with_reducible refine A.lSN (by assumption) S.r S.r ?_)) | (with_reducible refine Tr.drewK ?_) | ((with_reducible refine G.eqR ?_); with_reducible refine Tr.eqR S.r ?_) | ((with_reducible refine G.store ?_); first | (with_reducible refine A.stW S.r S.r S.r S.r ?_) | (((with_reducible refine A.st S.r S.r S.r ?_ ?_); (focus (first | exact Nat.le_of_ble_eq_true rfl | (simp only [WKl, Zz, En.len]; omega))))) | ((with_reducible refine A.stD ?_ ?_ ?_); (focus exact S.o); (focus exact S.o)) | ((with_reducible refine A.stE S.r ?_ ?_ ?_); (focus exact S.o); (focus exact S.o))) | ((with_reducible refine G.cond ?_); first | ((with_reducible refine Tr.condT ?_ ?_); (focus exact S.b)) | ((with_reducible refine Tr.condF ?_ ?_); (focus exact S.b))) | ((with_reducible refine G.idx ?_); ((with_reducible refine Tr.indexArr ?_ ?_ ?_); (focus (omega)); (focus (omega)))) | ((with_reducible refine G.len ?_); first | (with_reducible refine A.len ?_) | (with_reducible refine A.lenM ?_) | (with_reducible refine Tr.lenMapNil ?_)) | ((with_reducible refine G.conv ?_); (with_reducible refine A.byStr ?_)) | ((with_reducible refine G.convE ?_); ((with_reducible refine A.convB ?_ ?_); (focus exact S.o))) | ((with_reducible refine G.look ?_); first | (with_reducible refine A.look ?_) | (with_reducible refine Tr.lookupNil ?_)) | ((with_reducible refine G.mapu ?_); (with_reducible refine A.mapu ?_)) | ((with_reducible refine G.rem ?_); ((with_reducible refine Tr.rem ?_ ?_); (focus (omega)))) | (((with_reducible refine G.guard ?_); first | ((with_reducible refine Tr.guardTT ?_ ?_); (focus exact S.b)) | ((with_reducible refine Tr.guardFF ?_ ?_); (focus exact S.b))); intro hb; (try simp only [hb]); clear hb) | ((with_reducible refine G.sidx ?_); ((with_reducible refine A.sidx ?_ ?_ ?_); (focus exact S.o); (focus exact S.o))) | ((with_reducible refine G.sadd ?_); ((with_reducible refine A.sadd ?_ ?_); (focus exact S.o))) | ((with_reducible refine G.scut ?_); first | ((with_reducible refine A.scut ?_ ?_ ?_ ?_); (focus exact S.o); (focus exact S.o); (focus exact S.o)) | ((with_reducible refine A.scutF ?_ ?_ ?_); (focus exact S.o); (focus exact S.o)) | ((with_reducible refine A.scutT ?_ ?_ ?_); (focus exact S.o); (focus exact S.o))) | ((with_reducible refine G.quo ?_); ((with_reducible refine Tr.quo ?_ ?_); (focus (omega)))) | ((with_reducible refine G.build ?_); first | with_reducible refine Tr.build S.r ?_ | with_reducible refine A.buildA S.r ?_) | ((with_reducible refine G.fldv ?_); first | with_reducible refine A.fldv S.r ?_ | with_reducible refine A.fldvG S.r ?_) | ((with_reducible refine G.aidx ?_); first | ((with_reducible refine A.aidxE ?_ ?_ S.r S.r ?_); (focus (first | omega | assumption)); (focus (first | omega | assumption))) | ((with_reducible refine A.aidx ?_ ?_ S.r ?_); (focus (first | omega | assumption)); (focus (first | omega | assumption))) | ((with_reducible refine A.aidxG ?_ ?_ S.r ?_); (focus (first | omega | assumption)); (focus (first | omega | assumption))))); exact q.h) : P := h ⟨q⟩
theorem S.w {Q P : Prop} (q : Q) (h : Hd Q → P := by
    intro q
    (first | ((with_reducible refine G.box ?_); with_reducible refine Tr.box S.r ?_) | ((with_reducible refine G.alloc ?_); with_reducible refine Tr.alloc S.r ?_) | ((with_reducible refine G.app ?_); first | ((with_reducible refine A.app0 S.r ?_ ?_ ?_); (focus (decide)); (focus exact S.o)) | ((with_reducible refine A.app S.r ?_ ?_ ?_); (focus (decide)); (focus exact S.o))) | ((with_reducible refine G.bs ?_); ((with_reducible refine A.buildL S.r S.r ?_ ?_); (focus (decide)))) | ((with_reducible refine G.cut ?_); first | ((with_reducible refine A.cutTo S.r ?_ ?_ ?_); (focus (omega)); (focus (omega))) | ((with_reducible refine A.cutFrom S.r ?_ ?_ ?_); (focus (omega)); (focus (omega))) | ((with_reducible refine A.cut S.r ?_ ?_ ?_ ?_); (focus (omega)); (focus (omega)); (focus (omega)))) | ((with_reducible refine G.mks ?_); ((with_reducible refine A.mks S.r ?_ ?_ ?_ ?_); (focus exact S.o); (focus exact S.o); (focus exact S.o))) | ((with_reducible refine G.mkm ?_); with_reducible refine Tr.makeMap ?_) | ((with_reducible refine G.idx ?_); ((with_reducible refine A.idx S.r ?_ ?_ ?_); (focus exact S.o); (focus exact S.o)))); exact q.h) : P := h ⟨q⟩
theorem S.x {Q P : Prop} (q : Q) (h : Hd Q → P := by
    intro q
    (first
    | (simp only [WKb, WKh, WKt, ↓reduceIte, Nat.reduceEqDiff, Nat.reduceAdd, Nat.reduceSub, Int.reduceEq, Int.reduceLT, Int.reduceLE, hX]; (repeat (refine S.l ?_; (try simp only [WKb, WKh, WKt, ↓reduceIte, Nat.reduceEqDiff, Nat.reduceAdd, Nat.reduceSub, Int.reduceEq, Int.reduceLT, Int.reduceLE, hX]))); (first | refine S.w ?_ | skip); exact q.h)
    | (refine S.l ?_; (try simp only [WKb, WKh, WKt, ↓reduceIte, Nat.reduceEqDiff, Nat.reduceAdd, Nat.reduceSub, Int.reduceEq, Int.reduceLT, Int.reduceLE, hX]); (repeat (refine S.l ?_; (try simp only [WKb, WKh, WKt, ↓reduceIte, Nat.reduceEqDiff, Nat.reduceAdd, Nat.reduceSub, Int.reduceEq, Int.reduceLT, Int.reduceLE, hX]))); (first | refine S.w ?_ | skip); exact q.h)
    | (refine S.w ?_; exact q.h))) : P := h ⟨q⟩
theorem S.h {Q P : Prop} (q : Hd Q) (h : Hd Q → P := by
    intro q
    intro hb; (try simp only [hb]); (try simp only [WKs] at hb); (try simp only [WKb, WKh, WKt, ↓reduceIte, Nat.reduceEqDiff, Nat.reduceAdd, Nat.reduceSub, Int.reduceEq, Int.reduceLT, Int.reduceLE, hX]); (try (have hq := Int.not_le.2 hb; revert hq)); (try (have hq := Int.not_lt.2 hb; revert hq)); revert hb; exact q.h) : P := h q
theorem S.y {A B P : Prop} (a : A) (b : B) (h : Hd A → Hd B → P := by
    intro a b
    first
    | ((first
      | ((with_reducible refine G.cond ?_); refine Tr.condS ?_ ?_)
      | ((with_reducible refine G.guard ?_); refine Tr.guardS ?_ ?_)
      | ((with_reducible refine G.guardC ?_); refine Tr.guardCS ?_ ?_)); (focus exact S.h a); (focus exact S.h b))
    | ((with_reducible refine Tr.brK ?_ ?_); exact a.h; exact b.h)) : P := h ⟨a⟩ ⟨b⟩
theorem Xd.famSameN {α : Type} [Inhabited α] {A : α → Xc} {xs : List α} {k : Nat} {d l l' l2 : List Xc} (ht : Xm l (Wk.fam A (xs.eraseIdx k)) l') (h1 : k < xs.length) (h : Xd d l' (A (ix xs (k : Int)) :: l2)) : Xd d l (Wk.fam A xs :: l2) :=
  Xd.famSame (k := (k : Int)) (by rw [Int.toNat_natCast]; exact ht) (by omega) (by omega) h
theorem S.E {d l m : List Xc} (h : Xd d l m := by
    ((try clear hK) <;> (try simp only [WKe, ↓reduceIte, reduceCtorEq, Int.reduceEq, hX, *]) <;> (repeat (first | with_reducible exact Xd.done | refine S.e ?_ | (refine S.f ?_ <;> (try simp only [WKe, ↓reduceIte, reduceCtorEq, Int.reduceEq, hX, *])) | ((with_reducible refine G.ef ?_); refine Xd.famSameN S.K (by omega) ?_ <;> (try simp only [WKe, ↓reduceIte, reduceCtorEq, Int.reduceEq, hX, *])) | with_reducible apply Xd.ex | refine Xd.drop (F := F) ?_ | refine Xd.drop ?_)) <;> (first | exact SV.mk none 0 0 | exact SL.mk ⟨none, 0, 0⟩ [] | fail))) : Xd d l m := h
theorem S.v {p : Prop} (h : p := by (first | rfl | (simp [*, hX]; done) | (simp only [WKe, ↓reduceIte, reduceCtorEq, Int.reduceEq, eq_self, hX, *]; done) | fail)) : p := h
theorem S.L {P : Prop} (h : P := by
    first
    | (refine Tr.fin hK ⟨S.v, rfl⟩ ?_; exact S.E)
    | (apply Tr.fin hK ⟨_, S.v, rfl⟩; exact S.E)
    | (apply Tr.fin hK ⟨_, _, S.v, rfl⟩; exact S.E)) : P := h
theorem S.V {α : Type} {a b : α} (h : a = b := by
    ((try clear hK) <;> first | rfl | (simp [*, hX]; done) | (simp [*, hX]; omega) | (simp [*, hX] <;> (try split) <;> simp_all <;> omega) | fail)) : a = b := h
theorem S.R {α : Type} {slots keep : List Nat} {V : α → List Value} {L : α → List Xc} {I : α → Prop} {μ : α → Nat} {a : α} {kv : List Value} {e' : Env} {l F : List Xc} (a' : α)
    (hk : keep.map e' = kv := by simp only [WKb, WKh, WKt, ↓reduceIte, Nat.reduceEqDiff, Nat.reduceAdd, Nat.reduceSub, hX]) (hV : slots.map e' = V a' := by ((try simp only [WKb, WKh, WKt, ↓reduceIte, Nat.reduceEqDiff, Nat.reduceAdd, Nat.reduceSub, hX]); (all_goals ((repeat (refine Jl S.V ?_)); rfl)); done))
    (hI : I a' := by (first | omega | assumption | (simp only []; omega) | (refine ⟨by omega, by assumption⟩) | ((try simp only []); (repeat' (first | omega | assumption | refine And.intro ?_ ?_)); done)))
    (hμ : μ a' < μ a := by (first | omega | (simp only []; omega))) (hL : Xd [] l (L a' ++ F) := by exact S.E) :
    Tr l (xcg keep kv slots V I μ L F a e') := Tr.againE a' hk hV hI hμ hL
theorem WKt : True := trivial
abbrev Dfr := FuncId × List Value
def xEV (d : Dfr) : Deferred := { target := .fn (.func d.1) #[], args := d.2.toArray }
def xC6 (ops : Array Oper) : Option (Option (Tmp × Operand) × FuncId × List Operand) := match ops.toList with
  | [⟨none, .defer ⟨.value (.func g), as, _⟩, _, _, _, none⟩] => some (none, g, as.toList)
  | [⟨some t, .move x, _, _, _, none⟩, ⟨none, .defer ⟨.value (.func g), as, _⟩, _, _, _, none⟩] => some (some (t, x), g, as.toList)
  | _ => none
def xLk (m : Option (Tmp × Operand)) (e : Env) : Env := match m with
  | none => e
  | some (t, x) => upd e t (ev e x)
def xLW (n : Nat) (m : Option (Tmp × Operand)) : Bool := match m with
  | none => true
  | some (t, _) => xaW n ⟨some t, .move (.tmp 0), 0, "", #[], none⟩
def xIs (r : Option (Option (Tmp × Operand) × FuncId × List Operand)) (Q : List Dfr → Jh) (ds : List Dfr) (e : Env) (X : WP) : WP := match r with
  | some (m, g, as) => Q ((g, as.map (ev (xLk m e))) :: ds) .normal (xLk m e)
  | none => X
def xKA (n : Nat) (T : Nat → Xj) (id : Nat) (ops : Array Oper) : Option (Option (Tmp × Operand) × FuncId × List Operand) → Bool
  | some (m, _) => xLW n m
  | none => Za n T (.region id ops false) && Y8 T (.region id ops false)
def WG (P : Program) (T : Nat → Xj) : Code → (List Dfr → Jh) → List Dfr → Env → WP
  | .seq a b, Q, ds, e => WG P T a (fun ds' => Yj (fun e' => WG P T b Q ds' e') (Q ds')) ds e
  | .region id ops false, Q, ds, e => xIs (xC6 ops) Q ds e (W P T (.region id ops false) (Q ds) e)
  | c, Q, ds, e => W P T c (Q ds) e
def xDS (n : Nat) (T : Nat → Xj) : Code → Bool
  | .seq a b => xDS n T a && xDS n T b
  | .region id ops false => xKA n T id ops (xC6 ops)
  | c => Za n T c && Y8 T c
def xHY (n : Nat) (Q : List Dfr → Jh) : Exit → Act → World → Prop := fun x a w => a.tmps.size = n ∧ ∃ ds, a.defers = ds.map xEV ∧ Q ds x (Y6 a) w
section
variable {P : Program} {T : Nat → Xj} {n : Nat}
theorem xJA {Q : List Dfr → Jh} {ds : List Dfr} (e : Exit) (a : Act) (w : World) (h : xwG n (ds.map xEV) (Q ds) e a w) : xHY n Q e a w := ⟨h.1, ds, h.2.1, h.2.2⟩
theorem xIM {ops : Array Oper} {mo : Option (Tmp × Operand)} {g : FuncId} {as : List Operand} (h : xC6 ops = some (mo, g, as)) : ∃ (a2 : Array Operand) (ts : Array TypeId) (ty : TypeId) (p : String) (f : Array Edge), a2.toList = as ∧
    ((mo = none ∧ ops.toList = [⟨none, .defer ⟨.value (.func g), a2, ts⟩, ty, p, f, none⟩]) ∨ ∃ t x ty1 p1 f1, mo = some (t, x) ∧ ops.toList = [⟨some t, .move x, ty1, p1, f1, none⟩, ⟨none, .defer ⟨.value (.func g), a2, ts⟩, ty, p, f, none⟩]) := by
  unfold xC6 at h
  split at h
  · rename_i hl
    simp only [Option.some.injEq, Prod.mk.injEq] at h
    obtain ⟨rfl, rfl, rfl⟩ := h
    exact ⟨_, _, _, _, _, rfl, .inl ⟨rfl, hl⟩⟩
  · rename_i hl
    simp only [Option.some.injEq, Prod.mk.injEq] at h
    obtain ⟨rfl, rfl, rfl⟩ := h
    exact ⟨_, _, _, _, _, rfl, .inr ⟨_, _, _, _, _, rfl, hl⟩⟩
  · cases h
theorem xGi {m : Nat} {ops : Array Oper} {g : FuncId} {a2 : Array Operand} {ts : Array TypeId} {ty : TypeId} {p : String} {f : Array Edge} {Q : List Dfr → Jh} {ds : List Dfr} {a : Act} {w : World} (hs : a.tmps.size = n) (hd : a.defers = ds.map xEV)
    (h : Q ((g, a2.toList.map (ev (Y6 a))) :: ds) .normal (Y6 a) w) : wpListIn (Fw none) m P ops (xHY n Q) [⟨none, .defer ⟨.value (.func g), a2, ts⟩, ty, p, f, none⟩] a w := by
  unfold wpListIn
  have hw : Region.wanted ⟨none, .defer ⟨.value (.func g), a2, ts⟩, ty, p, f, none⟩ (yielded ops a.tmps) = true := rfl
  rw [if_pos hw]
  refine ⟨fun _ _ => trivial, ?_⟩
  have he : a.eval (.func g) = .func (.func g) #[] #[] := rfl
  have hrun : ((⟨none, .defer ⟨.value (.func g), a2, ts⟩, ty, p, f, none⟩ : Oper).semAt (Fw none).round a.eval).run P w = .ok (.defer { target := .fn (.func g) #[], args := a2.map a.eval }) w := by
    show (Oper.semAt none a.eval _).run P w = _
    rw [Oper.semAt_none]
    simp [execOp, resolve, Deferred.ofValue, he]
  rw [hrun, Oper.uponIn_defer]
  refine ⟨hs, (g, a2.toList.map (ev (Y6 a))) :: ds, ?_, h⟩
  show { target := .fn (.func g) #[], args := a2.map a.eval } :: a.defers = _
  rw [hd, List.map_cons, xeT]
  congr 1
  unfold xEV
  congr 1
  apply Array.ext'
  simp
theorem xI1 (hm : P.follows .mixedOrders = true) {m : Nat} : ∀ (c : Code) (Q : List Dfr → Jh) (ds : List Dfr) (a : Act) (w : World), xDS n T c = true → a.tmps.size = n → a.defers = ds.map xEV → WG P T c Q ds (Y6 a) w → c.wpIn (Fw none) m P (xHY n Q) a w := by
  have base : ∀ (c : Code) (Q : List Dfr → Jh) (ds : List Dfr) (a : Act) (w : World), (Za n T c && Y8 T c) = true → a.tmps.size = n → a.defers = ds.map xEV → W P T c (Q ds) (Y6 a) w → c.wpIn (Fw none) m P (xHY n Q) a w := fun c Q ds a w hok hs hd h => by
    rw [Bool.and_eq_true] at hok
    exact wpIn_mono (xdo hm _ (Q ds) a w hok.1 hok.2 hs hd h) xJA
  intro c
  induction c with
  | seq x y ihx ihy =>
    intro Q ds a w hok hs hd h
    simp only [xDS, Bool.and_eq_true] at hok
    simp only [WG] at h
    refine wpIn_seq (wpIn_mono (ihx _ ds a w hok.1 hs hd h) fun e a w hl => ?_)
    obtain ⟨hs, ds', hd, h⟩ := hl
    cases e with
    | normal => exact ihy Q ds' a w hok.2 hs hd h
    | _ => exact ⟨hs, ds', hd, h⟩
  | region id ops d =>
    intro Q ds a w hok hs hd h
    cases d with
    | true => exact base _ Q ds a w hok hs hd h
    | false =>
      cases hr : xC6 ops with
      | none =>
        simp only [xDS, hr, xKA] at hok
        simp only [WG, hr, xIs] at h
        exact base _ Q ds a w hok hs hd h
      | some r =>
        obtain ⟨mo, g, as⟩ := r
        simp only [xDS, hr, xKA] at hok
        simp only [WG, hr, xIs] at h
        obtain ⟨a2, ts, ty, p, f, rfl, hl⟩ := xIM hr
        refine wpIn_region_list ?_
        rcases hl with ⟨rfl, hl⟩ | ⟨t, x, ty1, p1, f1, rfl, hl⟩
        · rw [hl]
          exact xGi hs hd h
        · rw [hl]
          unfold wpListIn
          have hw : Region.wanted ⟨some t, .move x, ty1, p1, f1, none⟩ (yielded ops a.tmps) = true := rfl
          rw [if_pos hw]
          refine ⟨fun _ _ => trivial, ?_⟩
          have hrun : ((⟨some t, .move x, ty1, p1, f1, none⟩ : Oper).semAt (Fw none).round a.eval).run P w = .ok (.value (a.eval x)) w := by
            show (Oper.semAt none a.eval _).run P w = _
            rw [Oper.semAt_none]
            simp [execOp]
          rw [hrun, Oper.uponIn_value]
          have hp : Y6 (a.put (some t) (a.eval x)) = upd (Y6 a) t (ev (Y6 a) x) := by
            have := xav (n := n) (a := a) (o := ⟨some t, .move (.tmp 0), 0, "", #[], none⟩) (v := a.eval x) hok hs
            rw [this, xeT]; rfl
          refine xGi (by rw [xad]; exact hs) hd ?_
          rw [hp]
          exact h
  | _ =>
    intro Q ds a w hok hs hd h
    exact base _ Q ds a w hok hs hd h
theorem xJ5 {gn : Func} {tmps : Array Value} {w : World} (hgr : gn.results = #[]) : (results gn tmps).run P w = .ok (.tuple #[]) w := by
  unfold results
  rw [hgr]
  simp
def xD8 (P : Program) : List Dfr → WP → WP
  | [], X => X
  | d :: ds, X => fun w => ∃ gn gT, FnI P d.1 gn gT ∧ gn.results = #[] ∧ d.2.length ≤ gn.ntmps ∧ ∀ u, W P gT (bd gn) (Ys P [] fun _ => xD8 P ds X) (xc3 u 0 d.2) w
def xLc (P : Program) (rs : List ResultVar) (K : Value → WP) (ds : List Dfr) : Jh
  | .normal, e => xD8 P ds (Ya P e rs fun vs => K (one vs))
  | .ret, e => xD8 P ds (Ya P e rs fun vs => K (one vs))
  | _, _ => fun _ => False
theorem xDZ (hm : P.follows .mixedOrders = true) {fn : Func} {tmps : Array Value} {rs : List ResultVar} {K : Value → WP} (hrs : fn.results = rs.toArray) :
    ∀ (ds : List Dfr) (w : World), xD8 P ds (Ya P (Y6 { tmps := tmps, defers := [] }) rs fun vs => K (one vs)) w → LeavesIn (Fw none) 0 P fn tmps (fun | .returned v, w' => K v w' | _, _ => False) (ds.map xEV) .returning w
  | [], w, h => by
    obtain ⟨v, hr, hk⟩ := xmd h
    rw [← hrs] at hr
    exact ⟨v, hr, hk⟩
  | d :: ds, w, h => by
    obtain ⟨gn, gT, G, hgr, hga, hD⟩ := h
    refine leavesIn_cons (by simp) (by intro h; cases h) (f := d.1) (args := d.2.toArray) ?_ (fun _ _ => trivial) ?_
    · have := Qw G.n d.2.toArray w
      simpa [invoke] using this
    · refine CallsDIn.mono (callsDIn_of_wp (n := 0) G.h.func G.h.body trivial (R := fun e w' => match e with
        | .returned _ => LeavesIn (Fw none) 0 P fn tmps (fun | .returned v, w' => K v w' | _, _ => False) (ds.map xEV) .returning w'
        | _ => False) (wpIn_mono (xdo (ro := none) (m := 0) (D := []) hm (bd gn) _ _ w G.h.ok G.h.ok' (by simp; omega) rfl (by
          have := hD (xsW gn.ntmps d.2.toArray)
          rw [← xi0] at this
          exact this)) fun y a3 w3 hy => ?_) rfl) fun e u' w' he => ?_
      · obtain ⟨_, hd3, hy⟩ := hy
        have fin2 : xD8 P ds (Ya P (Y6 { tmps := tmps, defers := [] }) rs fun vs => K (one vs)) w3 → bodyPost P gn (fun e w' => match e with
            | .returned _ => LeavesIn (Fw none) 0 P fn tmps (fun | .returned v, w' => K v w' | _, _ => False) (ds.map xEV) .returning w'
            | _ => False) .ret a3 w3 := fun hr => ⟨hd3, .tuple #[], xJ5 hgr, xDZ hm hrs ds w3 hr⟩
        cases y with
        | normal => exact fin2 hy
        | ret => exact fin2 hy
        | exit id => exact hy.elim
        | goto l => exact hy.elim
        | panic ch => exact hy.elim
        | outgrown => exact hy.elim
      · obtain ⟨rfl, he⟩ := he
        cases e with
        | returned v => exact he
        | panicked ch => exact he.elim
        | outgrown => exact he.elim
theorem Tr.enterG (hm : P.follows .mixedOrders = true) {f : FuncId} {fn : Func} {c : Code} (hf : P.funcs[f]? = some fn) (hb : fn.body = some c) (hok : xDS fn.ntmps T c = true)
    {args : List Value} {K : Value → WP} {l : List Xc} {rs : List ResultVar} (hrs : fn.results = rs.toArray) (ha : args.length ≤ fn.ntmps)
    (h : ∀ u, Tr l (WG P T c (xLc P rs K) [] (xc3 u 0 args))) : Tr l (XI P f args.toArray K) := fun w hw => by
  unfold XI
  have h0 := h (xsW fn.ntmps args.toArray) w hw
  rw [← xi0] at h0
  refine callsIn_wide.1 (callsIn_of_wp_defers (n := 0) (F := Fw none) hf hb trivial (wpIn_mono (xI1 hm c _ [] _ w hok (by simp; omega) rfl h0) fun x a w hl => ?_) rfl)
  obtain ⟨_, ds, hd, hx⟩ := hl
  have fin : xD8 P ds (Ya P (Y6 a) rs fun vs => K (one vs)) w → LeavesIn (Fw none) 0 P fn a.tmps (fun | .returned v, w' => K v w' | _, _ => False) a.defers .returning w := fun h => by
    rw [hd]; exact xDZ hm hrs ds w h
  cases x with
  | normal => exact fin hx
  | ret => exact fin hx
  | exit id => exact hx.elim
  | goto l => exact hx.elim
  | panic ch => exact hx.elim
  | outgrown => exact hx.elim
