/- Channels in one goroutine: codes one of whose regions selects; what a channel holds. -/
import Derived.Test.YtlhmbcmkpafjoaaWky
import Derived.Conc.LoneCalls
import Derived.Conc.LoneSelect
import Derived.Conc.LoneSelectN
namespace Go.Wk
open Go Go.Conc Go.RowKit

/-- A code from here on, whatever stands around it (an ordinary call's frame). -/
def CW (P : Program) (n : Nat) (c : Code) (Q : Post) : Env → WP := fun e w =>
  ∀ (a : Act), a.tmps.size = n → a.defers = [] → envOf a = e → ∀ (b : Frame) (k : List Item) (cs : List Frame), b.kind = .normal → ∃ x a' w', lift n [] Q x a' w' ∧ Arrives P (lone (b.at a (.code c :: k)) cs w) b k cs x a' w'
section
variable {P : Program} {n : Nat} {T : Nat → Plan}
theorem CW_W (hm : P.follows .mixedOrders = true) {c : Code} {Q : Post} {e : Env} {w : World} (hok : codeOK n T c = true) (hok' : codeOK' T c = true) (h : W P T c Q e w) : CW P n c Q e w := fun a hs hd he b k cs _ =>
  W_sound (T := T) hm c Q a w hok hok' hs hd (by rw [he]; exact h) b k cs
theorem CW_seq {x y : Code} {Q : Post} {e : Env} {w : World} (h : CW P n x (seqK (CW P n y Q) Q) e w) : CW P n (.seq x y) Q e w := by
  intro a hs hd he b k cs hb
  obtain ⟨z, a₁, w₁, ⟨hs1, hd1, hq⟩, harr⟩ := h a hs hd he b (.code y :: k) cs hb
  cases z with
  | normal =>
    obtain ⟨e₂, a₂, w₂, hq₂, harr₂⟩ := hq a₁ hs1 hd1 rfl b k cs hb
    exact ⟨e₂, a₂, w₂, hq₂, .of_steps (.head step_seq harr) harr₂⟩
  | exit id => exact ⟨_, a₁, w₁, ⟨hs1, hd1, hq⟩, .of_steps (.one step_seq) (.pass (x := .code y) rfl (fun _ _ => .inl (by simp)) harr)⟩
  | goto l => exact ⟨_, a₁, w₁, ⟨hs1, hd1, hq⟩, .of_steps (.one step_seq) (.pass (x := .code y) rfl (fun _ _ => .inl (by simp)) harr)⟩
  | ret => exact ⟨_, a₁, w₁, ⟨hs1, hd1, hq⟩, .of_steps (.one step_seq) (.pass (x := .code y) rfl (fun _ _ => .inl (by simp)) harr)⟩
  | panic ch => exact ⟨_, a₁, w₁, ⟨hs1, hd1, hq⟩, .of_steps (.one step_seq) (.pass (x := .code y) rfl (fun _ _ => .inl (by simp)) harr)⟩
  | outgrown => exact ⟨_, a₁, w₁, ⟨hs1, hd1, hq⟩, .of_steps (.one step_seq) (.pass (x := .code y) rfl (fun _ _ => .inl (by simp)) harr)⟩
theorem CW_call {f : FuncId} {fn : Func} {c : Code} {args : List Value} {K : Value → WP} {w : World} {rs : List ResultVar} (hf : P.funcs[f]? = some fn) (hb : fn.body = some c) (hrs : fn.results = rs.toArray) (ha : args.length ≤ fn.ntmps)
    (h : ∀ u, CW P fn.ntmps c (endL P rs K) (argE u 0 args) w) : CallK P f args.toArray K w := by
  unfold CallK
  intro cs
  let b : Frame := { (default : Frame) with fn := f, kind := .normal }
  have henter : Frame.enter P f args.toArray .normal = b.at { tmps := args.toArray ++ Array.replicate (fn.ntmps - args.toArray.size) undef, defers := [] } [.code c] := by
    simp [Frame.enter, Frame.at, hf, hb, b]
  have h0 := h (env0 fn.ntmps args.toArray)
  rw [← env0_arg] at h0
  obtain ⟨e, a', w', ⟨hs, hd, hq⟩, harr⟩ := h0 { tmps := args.toArray ++ Array.replicate (fn.ntmps - args.toArray.size) undef, defers := [] } (by simp; omega) rfl rfl b [] cs rfl
  rw [← henter] at harr
  have fin : ∀ w, resL P (envOf a') rs (fun vs => K (one vs)) w → ∃ v, (results fn a'.tmps).run P w = .ok v w ∧ K v w := fun w h => by
    obtain ⟨v, hr, hk⟩ := resK_of h
    refine ⟨v, ?_, hk⟩
    rw [← hrs] at hr
    exact hr
  cases e with
  | normal =>
    obtain ⟨v, hr, hR⟩ := fin _ hq
    exact ⟨.returned v, w', _, hR, Steps.trans harr (.one step_end), rfl, rfl, hd, rfl, fn, hf, hr⟩
  | ret =>
    obtain ⟨v, hr, hR⟩ := fin _ hq
    obtain ⟨todo, hst⟩ := harr
    exact ⟨.returned v, w', _, hR, hst, rfl, rfl, hd, rfl, fn, hf, hr⟩
  | panic chain => exact hq.elim
  | exit id => exact hq.elim
  | goto l => exact hq.elim
  | outgrown => exact hq.elim

/-- A select's operation, its index, and whether it is the first case. -/
def selOps (d1 d2 d3 : Nat) (cs : Array SelectCase) (ty1 ty2 ty3 ti tj : Nat) (p1 p2 p3 : String) (f1 f2 f3 : Array Edge) : Array Oper :=
  #[⟨some d1, .select cs false, ty1, p1, f1, none⟩, ⟨some d2, .extract (.tmp d1) 0, ty2, p2, f2, none⟩, ⟨some d3, .binOp .eql ti (.tmp d2) (.const (.int .i64 0)) tj, ty3, p3, f3, none⟩]
theorem eval_put_eq {a : Act} {d : Nat} {v : Value} (h : d < a.tmps.size) : (a.put (some d) v).eval (.tmp d) = v := by
  simp [Act.put, Act.eval, h]
/-- The region of a select: what the select hands over goes on. -/
theorem CW_sel {d1 d2 d3 : Nat} {cs : Array SelectCase} {ty1 ty2 ty3 ti tj : Nat} {p1 p2 p3 : String} {f1 f2 f3 : Array Edge} {id : Nat} {Q : Post} {e : Env} {w w₁ : World} {i : Int} {vs : List Value} (h1 : d1 < n) (h2 : d2 < n) (h3 : d3 < n)
    (hs : ∀ (a : Act) (b : Frame) (k : List Item) (fs : List Frame), envOf a = e → b.kind = .normal → step P (solo (G (b.at a (.inRegion (selOps d1 d2 d3 cs ty1 ty2 ty3 ti tj p1 p2 p3 f1 f2 f3) [0, 1, 2] :: k)) fs) w) = .next (solo (G ((b.at a (.inRegion (selOps d1 d2 d3 cs ty1 ty2 ty3 ti tj p1 p2 p3 f1 f2 f3) [0, 1, 2] :: k)).finish (.tuple (goInt i :: vs).toArray)) fs) w₁))
    (hQ : Q .normal (upd (upd (upd e d1 (.tuple (goInt i :: vs).toArray)) d2 (goInt i)) d3 (.bool (decide (i = 0)))) w₁) : CW P n (.region id (selOps d1 d2 d3 cs ty1 ty2 ty3 ti tj p1 p2 p3 f1 f2 f3) false) Q e w := by
  intro a hsz hd he b k fs hb
  have hbk : b.kind ≠ .early := by rw [hb]; decide
  let a1 := a.put (some d1) (.tuple (goInt i :: vs).toArray)
  let a2 := a1.put (some d2) (goInt i)
  let a3 := a2.put (some d3) (.bool (decide (i = 0)))
  have hs1 : a1.tmps.size = n := by rw [size_put]; exact hsz
  have hs2 : a2.tmps.size = n := by rw [size_put]; exact hs1
  have hr1 : (execOp a1.eval ⟨some d2, .extract (.tmp d1) 0, ty2, p2, f2, none⟩).run P w₁ = .ok (.value (goInt i)) w₁ := by
    have : a1.eval (.tmp d1) = .tuple (goInt i :: vs).toArray := eval_put_eq (by omega)
    simp [execOp, this, Instr.extract]
  have hr2 : (execOp a2.eval ⟨some d3, .binOp .eql ti (.tmp d2) (.const (.int .i64 0)) tj, ty3, p3, f3, none⟩).run P w₁ = .ok (.value (.bool (decide (i = 0)))) w₁ := by
    have h0 : a2.eval (.tmp d2) = .int .i64 i := eval_put_eq (by omega)
    have h1 : a2.eval (.const (.int .i64 0)) = .int .i64 0 := rfl
    have hx : opX P (.binOp .eql ti (.tmp d2) (.const (.int .i64 0)) tj) ty3 (envOf a2) (fun v _ => v = .bool (decide (i = 0))) w₁ := by
      simp only [opX, ev_envOf, h0, h1, BinK, if_true, intBin, someK]
    have hy := opX_sound hx
    rw [opR_rd rfl] at hy
    obtain ⟨v, hr, rfl⟩ := hy
    rw [ev_envOf] at hr
    exact hr
  have hl : LoneTo P (fun g' w' => g' = G (b.at a3 k) fs ∧ w' = w₁) (G (b.at a (.code (.region id (selOps d1 d2 d3 cs ty1 ty2 ty3 ti tj p1 p2 p3 f1 f2 f3) false) :: k)) fs) w := by
    refine LoneTo.goes (n := 1) ?_
    s_reg
    s_stop
    refine LoneTo.step (hs a b k fs he hb) ?_
    rw [Frame.finish_at]
    refine LoneTo.goes (n := 3) ?_
    s_in
    refine goes_oper_k rfl rfl hbk (fun K hK => ?_)
    change uponK ⟨some d2, .extract (.tmp d1) 0, ty2, p2, f2, none⟩ a1 K ((execOp a1.eval ⟨some d2, .extract (.tmp d1) 0, ty2, p2, f2, none⟩).run P w₁)
    rw [hr1]
    refine hK _ _ ⟨trivial, ?_⟩
    clear hK K
    s_in
    refine goes_oper_k rfl rfl hbk (fun K hK => ?_)
    change uponK ⟨some d3, .binOp .eql ti (.tmp d2) (.const (.int .i64 0)) tj, ty3, p3, f3, none⟩ a2 K ((execOp a2.eval ⟨some d3, .binOp .eql ti (.tmp d2) (.const (.int .i64 0)) tj, ty3, p3, f3, none⟩).run P w₁)
    rw [hr2]
    refine hK _ _ ⟨trivial, ?_⟩
    clear hK K
    s_c stepG_region_end
    s_stop
    exact LoneTo.done ⟨rfl, rfl⟩
  obtain ⟨g', w', hst, rfl, rfl⟩ := hl
  refine ⟨.normal, a3, w', ⟨by rw [size_put]; exact hs2, hd, ?_⟩, hst⟩
  have e1 : envOf a1 = upd e d1 (.tuple (goInt i :: vs).toArray) := by
    rw [← he]; exact envOf_put (n := n) (o := ⟨some d1, .move (.tmp 0), 0, "", #[], none⟩) (by simp [dstOK, h1]) hsz
  have e2 : envOf a2 = upd (envOf a1) d2 (goInt i) := envOf_put (n := n) (o := ⟨some d2, .move (.tmp 0), 0, "", #[], none⟩) (by simp [dstOK, h2]) hs1
  have e3 : envOf a3 = upd (envOf a2) d3 (.bool (decide (i = 0))) := envOf_put (n := n) (o := ⟨some d3, .move (.tmp 0), 0, "", #[], none⟩) (by simp [dstOK, h3]) hs2
  rw [e3, e2, e1]
  exact hQ

/-- A channel of one's own, open, with room for so many: what lies in it, the eldest first. -/
def chn (c cap : Nat) (buf : List Value) : Asrt := ex fun p : Nat × Nat => blk c (.chan cap buf.toArray false p.1 p.2 false)
theorem Sat.chnGet {w : World} {c cap : Nat} {buf : List Value} {l : List Asrt} (h : Sat w (chn c cap buf :: l)) : ∃ s r, Sat w (blk c (.chan cap buf.toArray false s r false) :: l) :=
  let ⟨p, h⟩ := Sat.ex_iff.1 h; ⟨p.1, p.2, h⟩
theorem Sat.chnSet {w : World} {c cap : Nat} {buf buf' : List Value} {s r s' r' : Nat} {l : List Asrt} (h : Sat w (blk c (.chan cap buf.toArray false s r false) :: l)) : Sat (w.setChan c cap buf'.toArray false s' r' false) (chn c cap buf' :: l) :=
  Sat.ex_iff.2 ⟨(s', r'), Sat.put (o' := .chan cap buf'.toArray false s' r' false) rfl ⟨rfl, rfl, rfl⟩ h⟩
theorem zer_run {T : Nat} {z : Value} [hz : Zer P T z] (w : World) : (zeroValue T).run P w = .ok z w := by
  have h := hz.h
  unfold zeroB at h
  cases hi : P.info? T with
  | none => rw [hi] at h; cases h
  | some i =>
    rw [hi] at h
    have hz' : i.zero = some z := h
    simp [zeroValue, typeInfo, hi, hz']
section
variable {d1 d2 d3 ca xa E : Nat} {ty1 ty2 ty3 ti tj : Nat} {p1 p2 p3 : String} {f1 f2 f3 : Array Edge} {id : Nat} {Q : Post} {e : Env} {c cap : Nat} {buf : List Value} {x z : Value} {l : List Asrt}
theorem Tr.selSend [hz : Zer P E z] (hc : e ca = .chan (some c)) (hx : e xa = x) (h1 : d1 < n) (h2 : d2 < n) (h3 : d3 < n)
    (hA : buf.length < cap → Tr (chn c cap (buf ++ [x]) :: l) (Q .normal (upd (upd (upd e d1 (.tuple #[.int .i64 0, .bool false])) d2 (.int .i64 0)) d3 (.bool true))))
    (hB : cap ≤ buf.length → Tr (chn c cap buf :: l) (Q .normal (upd (upd (upd e d1 (.tuple #[.int .i64 (-1), .bool false])) d2 (.int .i64 (-1))) d3 (.bool false)))) :
    Tr (chn c cap buf :: l) (CW P n (.region id (selOps d1 d2 d3 #[⟨.tmp ca, some (.tmp xa), E⟩] ty1 ty2 ty3 ti tj p1 p2 p3 f1 f2 f3) false) Q e) := by
  intro w hw
  obtain ⟨s, r, hb⟩ := Sat.chnGet hw
  have hch := hb.get
  have hrun : ∀ a : Act, envOf a = e → (execOp a.eval ⟨some d1, .select #[⟨.tmp ca, some (.tmp xa), E⟩] false, ty1, p1, f1, none⟩).run P w = .ok (.comm #[scase c x z] false .select) w := fun a he => by
    have e1 : a.eval (.tmp ca) = .chan (some c) := by rw [← ev_envOf, he]; exact hc
    have e2 : a.eval (.tmp xa) = x := by rw [← ev_envOf, he]; exact hx
    simp [execOp, e1, e2, scase, zer_run]
  by_cases hroom : buf.length < cap
  · refine CW_sel (i := 0) (vs := [.bool false]) h1 h2 h3 (w₁ := w.setChan c cap (buf ++ [x]).toArray false (s + 1) r false) (fun a b k fs he hk => ?_) (hA hroom _ (Sat.chnSet hb))
    have := step_lone_select_send_room (v := x) (z' := z) (stepG_comm (P := P) (main := true) (cs := fs) (b := b) (a := a) (k := k) (cases := #[scase c x z]) (blocking := false) (shape := .select) (w' := w) (i := 0) (rest := [1, 2]) (ops := selOps d1 d2 d3 #[⟨.tmp ca, some (.tmp xa), E⟩] ty1 ty2 ty3 ti tj p1 p2 p3 f1 f2 f3) rfl rfl (by rw [hk]; decide) (hrun a he)) hch (by simpa using hroom)
    simpa using this
  · refine CW_sel (i := -1) (vs := [.bool false]) h1 h2 h3 (w₁ := w) (fun a b k fs he hk => ?_) (hB (by omega) _ hw)
    exact step_lone_select_send_full (v := x) (z' := z) (stepG_comm (P := P) (cases := #[scase c x z]) (blocking := false) (shape := .select) (w' := w) rfl rfl (by rw [hk]; decide) (hrun a he)) hch (by simp; omega)
theorem Tr.selRecv [hz : Zer P E z] (hc : e ca = .chan (some c)) (h1 : d1 < n) (h2 : d2 < n) (h3 : d3 < n)
    (hA : ∀ x b2, buf = x :: b2 → Tr (chn c cap b2 :: l) (Q .normal (upd (upd (upd e d1 (.tuple #[.int .i64 0, .bool true, x])) d2 (.int .i64 0)) d3 (.bool true))))
    (hB : buf = [] → Tr (chn c cap [] :: l) (Q .normal (upd (upd (upd e d1 (.tuple #[.int .i64 (-1), .bool false, z])) d2 (.int .i64 (-1))) d3 (.bool false)))) :
    Tr (chn c cap buf :: l) (CW P n (.region id (selOps d1 d2 d3 #[⟨.tmp ca, none, E⟩] ty1 ty2 ty3 ti tj p1 p2 p3 f1 f2 f3) false) Q e) := by
  intro w hw
  obtain ⟨s, r, hb⟩ := Sat.chnGet hw
  have hch := hb.get
  have hrun : ∀ a : Act, envOf a = e → (execOp a.eval ⟨some d1, .select #[⟨.tmp ca, none, E⟩] false, ty1, p1, f1, none⟩).run P w = .ok (.comm #[rcase c z] false .select) w := fun a he => by
    have e1 : a.eval (.tmp ca) = .chan (some c) := by rw [← ev_envOf, he]; exact hc
    simp [execOp, e1, rcase, zer_run]
  cases buf with
  | cons x b2 =>
    refine CW_sel (i := 0) (vs := [.bool true, x]) h1 h2 h3 (w₁ := w.setChan c cap b2.toArray false s (r + 1) false) (fun a b k fs he hk => ?_) (hA x b2 rfl _ (Sat.chnSet hb))
    have := step_lone_select_recv_buf (z := z) (stepG_comm (P := P) (cases := #[rcase c z]) (blocking := false) (shape := .select) (w' := w) (main := true) (cs := fs) (b := b) (a := a) (k := k) (i := 0) (rest := [1, 2]) (ops := selOps d1 d2 d3 #[⟨.tmp ca, none, E⟩] ty1 ty2 ty3 ti tj p1 p2 p3 f1 f2 f3) rfl rfl (by rw [hk]; decide) (hrun a he)) hch (by simp)
    simpa using this
  | nil =>
    refine CW_sel (i := -1) (vs := [.bool false, z]) h1 h2 h3 (w₁ := w) (fun a b k fs he hk => ?_) (hB rfl _ hw)
    exact step_lone_select_default (z := z) (stepG_comm (P := P) (cases := #[rcase c z]) (blocking := false) (shape := .select) (w' := w) rfl rfl (by rw [hk]; decide) (hrun a he)) hch
end
theorem Tr.cwSeq {x y : Code} {Q : Post} {e : Env} {l : List Asrt} (h : Tr l (CW P n x (seqK (CW P n y Q) Q) e)) : Tr l (CW P n (.seq x y) Q e) := fun w hw => CW_seq (h w hw)
theorem Tr.cwW (T : Nat → Plan) (hm : P.follows .mixedOrders = true) {c : Code} {Q : Post} {e : Env} {l : List Asrt} (hok : codeOK n T c = true) (hok' : codeOK' T c = true) (h : Tr l (W P T c Q e)) : Tr l (CW P n c Q e) := fun w hw => CW_W hm hok hok' (h w hw)
theorem Tr.enterC {f : FuncId} {fn : Func} {c : Code} {args : List Value} {rs : List ResultVar} {K : Value → WP} {l : List Asrt} (hf : P.funcs[f]? = some fn) (hb : fn.body = some c) (hrs : fn.results = rs.toArray) (ha : args.length ≤ fn.ntmps)
    (h : ∀ u, Tr l (CW P fn.ntmps c (endL P rs K) (argE u 0 args))) : Tr l (CallK P f args.toArray K) := fun w hw => CW_call hf hb hrs ha fun u => h u w hw

/-! ### made, asked -/
class ChT (P : Program) (T : Nat) : Prop where
  h : ∃ dir e i, P.underlying T = some (.chan dir e) ∧ P.info? e = some i ∧ i.bytes ≤ 1000000
def chB (P : Program) (T : Nat) : Bool := match P.underlying T with
  | some (.chan _ e) => match P.info? e with
    | some i => decide (i.bytes ≤ 1000000)
    | none => false
  | _ => false
theorem chB_spec {T : Nat} (h : chB P T = true) : ChT P T := by
  unfold chB at h
  split at h
  · rename_i dir e he
    split at h
    · rename_i i hi; exact ⟨dir, e, i, he, hi, by simpa using h⟩
    · cases h
  · cases h
section
variable {T ty : Nat} [hT : ChT P T] {l : List Asrt} {K : Value → WP} {c cap : Nat} {buf : List Value}
theorem Tr.makeChan {k : Nat} (hk : k ≤ 100000) (hx : ∀ c, Tr (chn c k [] :: l) (K (.chan (some c)))) : Tr l (EGenK P (Instr.makeChan T (.int .i64 k)) K) := fun w hw => by
  obtain ⟨dir, e, i, ht, hi, hb⟩ := hT.h
  have hbi : i.bytes * k ≤ 1000000 * 100000 := Nat.mul_le_mul hb hk
  refine ⟨_, _, run_makeChan ht hi .i64 k (by omega) (by have : ((i.bytes * k : Nat) : Int) = (i.bytes : Int) * k := Int.natCast_mul _ _; omega), hx w.heap.size _ ?_⟩
  exact Sat.ex_iff.2 ⟨(0, 0), hw.alloc _⟩
theorem Tr.lenChan (hx : Tr (chn c cap buf :: l) (K (.int .i64 buf.length))) : Tr (chn c cap buf :: l) (GenK P (Builtin.len_ #[T] ty #[.chan (some c)]) K) := fun w hw => by
  obtain ⟨dir, e, i, ht, _, _⟩ := hT.h
  obtain ⟨s, r, hb⟩ := Sat.chnGet hw
  exact ⟨_, by simpa [goInt] using run_len_chan (P := P) T ty ht hb.get, hx w hw⟩
theorem Tr.capChan (hx : Tr (chn c cap buf :: l) (K (.int .i64 cap))) : Tr (chn c cap buf :: l) (GenK P (Builtin.cap_ #[T] ty #[.chan (some c)]) K) := fun w hw => by
  obtain ⟨dir, e, i, ht, _, _⟩ := hT.h
  obtain ⟨s, r, hb⟩ := Sat.chnGet hw
  exact ⟨_, by simpa [goInt] using run_cap_chan (P := P) T ty ht hb.get, hx w hw⟩
theorem BinK_chan1 {x y : Operand} {c : Nat} {K : Value → WP} : BinK P .eql T x y (.chan (some c)) (.chan none) K = K (.bool false) := by
  obtain ⟨dir, e, i, ht, _, _⟩ := hT.h
  refine GenK_of (fun w => ?_) K
  have : (Op.equal T (.chan (some c)) (.chan none)).run P w = .ok false w := run_equalIn fun d => by simp [Op.equalIn, run_underlying ht]
  simp [eqGuard, binOp, this]
end
end

/-! ### two pointers -/
class PtrTo (P : Program) (T : Nat) (e : outParam Nat) : Prop where
  h : P.underlying T = some (.pointer e)
theorem run_sameAddr_ne {P : Program} {w : World} {a b : Nat} {ca cb : Array Value} {Ta Tb : Nat} (hne : a ≠ b) (ha : w.heap[a]? = some (.cells ca Ta (0, 0))) (hb : w.heap[b]? = some (.cells cb Tb (0, 0))) :
    (sameAddr ⟨a, 0, none⟩ ⟨b, 0, none⟩).run P w = .ok false w := by
  have h1 : w.shape? a = some (Ta, ca.size) := by simp [World.shape?, ha]
  have h2 : w.shape? b = some (Tb, cb.size) := by simp [World.shape?, hb]
  simp [sameAddr, h1, h2, hne, World.frozen?, ha, hb, noView, viewAt, mayBeOne, stringish]
theorem siz_run {P : Program} {E n : Nat} [h : Siz P E n] (w : World) : (sizeOf E).run P w = .ok n w := by
  have hs := h.h
  cases hi : P.info? E with
  | none => rw [hi] at hs; cases hs
  | some i =>
    rw [hi] at hs
    have hz : i.size = n := by simpa using hs
    simp [sizeOf, typeInfo, hi, hz]
section
variable {P : Program} {T E n : Nat} {x y : Operand} {K : Value → WP}
theorem BinK_ptrSS [hT : PtrTo P T E] [hS : Siz P E n] {a : Nat} : BinK P .eql T x y (.pointer (some ⟨a, 0, none⟩)) (.pointer (some ⟨a, 0, none⟩)) K = K (.bool true) := by
  refine GenK_of (fun w => ?_) K
  have : (Op.equal T (.pointer (some ⟨a, 0, none⟩)) (.pointer (some ⟨a, 0, none⟩))).run P w = .ok true w := run_equalIn fun d => by
    simp [Op.equalIn, run_underlying hT.h, siz_run (E := E) w, sameAddr]
  simp [eqGuard, binOp, this]
theorem A.ptrNe [hT : PtrTo P T E] [hS : Siz P E n] {l F F' : List Asrt} {a b Ta Tb : Nat} {ca cb : List Value} (hn : n ≠ 0) [hA : TkB l a ca Ta F] [hB : TkB F b cb Tb F'] (hx : a ≠ b → Tr l (K (.bool false))) :
    Tr l (BinK P .eql T x y (.pointer (some ⟨a, 0, none⟩)) (.pointer (some ⟨b, 0, none⟩)) K) := fun w hw => by
  have h1 : Sat w (blk a (.cells ca.toArray Ta (0, 0)) :: blk b (.cells cb.toArray Tb (0, 0)) :: F') := (Imp.trans hA.h (Imp.cons hB.h)).sat hw
  have hne : a ≠ b := by
    obtain ⟨R, _, S1, _, ha, S2, h3, hb, _⟩ := h1
    intro e
    subst e
    exact (h3 a hb.1).2 (.inr ha.1)
  have ga := h1.get
  have gb := h1.tail.get
  have : (Op.equal T (.pointer (some ⟨a, 0, none⟩)) (.pointer (some ⟨b, 0, none⟩))).run P w = .ok false w := run_equalIn fun d => by
    simp [Op.equalIn, run_underlying hT.h, siz_run (E := E) w, hn, run_sameAddr_ne hne ga gb]
  exact ⟨_, by simp [eqGuard, binOp, this], hx hne w hw⟩
end
/-- A channel, to the front. -/
class TkC (l : List Asrt) (c : Nat) (cap : outParam Nat) (buf : outParam (List Value)) (F : outParam (List Asrt)) : Prop where
  h : TakeA l (chn c cap buf) F
instance tkc_here {l : List Asrt} {c cap : Nat} {buf : List Value} : TkC (chn c cap buf :: l) c cap buf l := ⟨TakeA.here⟩
instance (priority := 500) tkc_next {A : Asrt} {l F : List Asrt} {c cap : Nat} {buf : List Value} [h : TkC l c cap buf F] : TkC (A :: l) c cap buf (A :: F) := ⟨h.h.next⟩
theorem Tr.bringC (c : Nat) {l F : List Asrt} {cap : Nat} {buf : List Value} {X : WP} [h : TkC l c cap buf F] (hx : Tr (chn c cap buf :: F) X) : Tr l X := hx.imp h.h
end Go.Wk
