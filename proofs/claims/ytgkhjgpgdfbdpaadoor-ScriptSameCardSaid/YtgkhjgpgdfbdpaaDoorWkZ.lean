/- A range over a function, on assertions. -/
import Derived.Test.YtgkhjgpgdfbdpaaDoorWkY
import Derived.Test.YtgkhjgpgdfbdpaaDoorWkR
namespace Go.Wk
open Go
section
variable {P : Program} {T : Nat → Plan} {n : Nat} {l F : List Asrt} {Q : List Nat → Post} {ms : List Nat} {e : Env}
theorem Tr.enterM (hm : P.follows .mixedOrders = true) {f : FuncId} {fn : Func} {c : Code} (hf : P.funcs[f]? = some fn) (hb : fn.body = some c) (hok : codeM fn.ntmps T c = true) {args : List Value} {rs : List ResultVar} {K : Value → WP} (hrs : fn.results = rs.toArray) (ha : args.length ≤ fn.ntmps)
    (h : ∀ u, Tr l (WM P fn.ntmps T c (endM P rs K) [] (argE u 0 args))) : Tr l (CallK P f args.toArray K) := fun w hw => CallK_enterM hm hf hb hok hrs ha fun u => h u w hw
theorem WM_seq {a b : Code} : WM P n T (.seq a b) Q ms e = WM P n T a (fun ms' => seqK (fun e' => WM P n T b Q ms' e') (Q ms')) ms e := rfl
theorem WM_block {id : Nat} {b : Code} : WM P n T (.block id b) Q ms e = WM P n T b (fun ms' => blkK id (Q ms')) ms e := rfl
theorem WM_rf {g : Operand} {ps : Array Tmp} {a b : Code} : WM P n T (.rangeFunc g ps a b) Q ms e = RangeK P n g ps a b Q ms e := rfl
theorem WM_region {id : Nat} {ops : Array Oper} {d : Bool} : WM P n T (.region id ops d) Q ms e = W P T (.region id ops d) (Q ms) e := rfl
theorem WM_ret : WM P n T .ret Q ms e = Q ms .ret e := rfl
theorem WM_skip : WM P n T .skip Q ms e = Q ms .normal e := rfl
theorem endM_n {rs : List ResultVar} {K : Value → WP} : endM P rs K ms .normal e = marksK ms (resL P e rs fun vs => K (one vs)) := rfl
theorem endM_r {rs : List ResultVar} {K : Value → WP} : endM P rs K ms .ret e = marksK ms (resL P e rs fun vs => K (one vs)) := rfl
theorem marksK_nil {X : WP} : marksK [] X = X := rfl
/-- The block for the rounds' deferred calls is shut. -/
theorem Tr.mark {D : Nat} {X : WP} (ht : TakeA l (blk D (.deferred (some []))) F) (h : Tr F (marksK ms X)) : Tr l (marksK (D :: ms) X) := Tr.imp ht fun w hw => by
  have hg := hw.get
  have hp : Sat (w.putObj D (.deferred none)) (blk D (.deferred none) :: F) := hw.put rfl ⟨rfl, rfl, rfl⟩
  exact ⟨hg, h _ hp.tail⟩
end
/-- What the rounds of a loop promise: whatever else holds stays. -/
def Rounds {α : Type} (P : Program) (L : Nat) (encs : α → Array Value) (ok : α → Prop) (J Jx : List α → Asrt) (N : Nat) : Prop :=
  ∀ (pre : List α) (x : α) (G : List Asrt) (K : Value → WP), pre.length < N → ok x → Tr (J (pre ++ [x]) :: G) (K (.bool true)) → Tr (Jx (pre ++ [x]) :: G) (K (.bool false)) → Tr (J pre :: G) (YieldK P L (encs x) K)
/-- An iterator: it calls its loop's rounds one by one. -/
def IterT {α : Type} (P : Program) (gf : Nat) (lb : List Value) (encs : α → Array Value) (ok : α → Prop) (DL : List Asrt) (S Sp : List α → Prop) (N : Nat) : Prop :=
  ∀ (L : Nat) (J Jx : List α → Asrt), Rounds P L encs ok J Jx N → ∀ (F : List Asrt) (K : Value → WP), (∀ v xs, S xs → Tr (J xs :: (DL ++ F)) (K v)) → (∀ v pre, Sp pre → Tr (Jx pre :: (DL ++ F)) (K v)) →
    Tr (J [] :: (DL ++ F)) (CallK P gf (.func (.yield L) #[] #[] :: lb).toArray K)
section
variable {α : Type} {P : Program} {T : Nat → Plan} {n : Nat} {l F : List Asrt} {Q : List Nat → Post} {ms : List Nat} {e : Env}
theorem Tr.yield {L : Nat} {encs : α → Array Value} {ok : α → Prop} {J Jx : List α → Asrt} {N : Nat} {pre : List α} {K : Value → WP} (hR : Rounds P L encs ok J Jx N) (x : α) {as : Array Value} (ha : as = encs x) (hN : pre.length < N) (hx : ok x) (ht : TakeA l (J pre) F) (h1 : Tr (J (pre ++ [x]) :: F) (K (.bool true))) (h2 : Tr (Jx (pre ++ [x]) :: F) (K (.bool false))) :
    Tr l (YieldK P L as K) := by subst ha; exact Tr.imp ht (hR pre x F K hN hx h1 h2)
theorem sat_swap {w : World} {A B : Asrt} {l : List Asrt} (h : Sat w (A :: B :: l)) : Sat w (B :: A :: l) := h.perm (List.Perm.swap _ _ _)
theorem Tr.range {gf N : Nat} {lb : List Value} {g : Operand} {ps : Array Tmp} {assign body : Code} {encs : α → Array Value} {ok : α → Prop} {DL : List Asrt} {S Sp : List α → Prop} {I Ix : List α → Asrt} {a1 : α → Env} (hm : P.follows .mixedOrders = true)
    (hit : IterT P gf lb encs ok DL S Sp N) (hg : ev e g = .func (.func gf) #[] lb.toArray) (hf : isFnB P gf = true) (ht : TakeL l (I [] :: DL) F)
    (hsz : ∀ x, (encs x).size = ps.size) (hps : ∀ p ∈ ps.toList, p < n) (hok : codeOK n T assign = true) (hok' : codeOK' T assign = true) (hob : codeOK n T body = true) (hob' : codeOK' T body = true)
    (hasg : ∀ x X, W P T assign X (updsA e (ps.toList.zip (encs x).toList)) = X .normal (a1 x))
    (hbody : ∀ pre x G (R : Post), pre.length < N → ok x → (∀ u, Tr (I (pre ++ [x]) :: G) (R .normal u)) → (∀ u, Tr (Ix (pre ++ [x]) :: G) (R .ret u)) → Tr (I pre :: G) (W P T body R (a1 x)))
    (hdone : ∀ D xs, S xs → Tr (I xs :: blk D (.deferred (some [])) :: (DL ++ F)) (Q (D :: ms) .normal e))
    (hstop : ∀ D pre, Sp pre → Tr (Ix pre :: blk D (.deferred (some [])) :: (DL ++ F)) (Q (D :: ms) .ret e)) : Tr l (RangeK P n g ps assign body Q ms e) := fun w hw0 => by
  have hw : Sat w (I [] :: (DL ++ F)) := ht.sat hw0
  refine ⟨gf, lb.toArray, hg, hf, fun r hr1 hr2 hr3 hr4 hr5 hr6 hr7 => ?_⟩
  have h1 := hw.alloc (.deferred (some []))
  have h2 := h1.alloc (.loop r)
  have hL : (w.alloc (.deferred (some []))).heap.size = w.heap.size + 1 := by simp
  rw [hL] at h2
  have hrr : ({ r with state := .ready, pending := none } : Loop) = r := by rw [← hr1, ← hr2]
  have hround : Rounds P (w.heap.size + 1) encs ok (fun pre => sep (blk (w.heap.size + 1) (.loop r)) (I pre)) (fun pre => sep (blk (w.heap.size + 1) (.loop { r with state := .done, pending := some .ret })) (Ix pre)) N := by
    intro pre x G K hN hx hK1 hK2
    refine Tr.sep_iff.2 fun w1 hw1 => ?_
    have hl := hw1.get
    refine round_of (n := n) (T := T) (e := e) hm hl (by rw [hsz, hr3]) hr7 hr6 (by rw [hr3]; exact hps) (by rw [hr4]; exact hok) (by rw [hr4]; exact hok') (by rw [hr5]; exact hob) (by rw [hr5]; exact hob') ?_
    rw [hr3, hr4, hasg]
    refine ⟨_, run_beginRound hl hr1, ?_⟩
    subst hr5
    have hw2 : Sat (w1.putObj (w.heap.size + 1) (.loop { r with state := .busy })) (blk (w.heap.size + 1) (.loop { r with state := .busy }) :: I pre :: G) := hw1.put rfl ⟨rfl, rfl, rfl⟩
    refine hbody pre x (blk (w.heap.size + 1) (.loop { r with state := .busy }) :: G) _ hN hx (fun u w3 hw3 => ?_) (fun u w3 hw3 => ?_) _ (sat_swap hw2)
    · have hw3 := sat_swap hw3
      have hl3 := hw3.get
      refine ⟨_, _, run_endRound none hl3, ?_⟩
      refine hK1 _ (Imp.sepI.sat ?_)
      have : Sat (w3.putObj (w.heap.size + 1) (.loop { r with state := .ready, pending := none })) (blk (w.heap.size + 1) (.loop { r with state := .ready, pending := none }) :: I (pre ++ [x]) :: G) := hw3.put rfl ⟨rfl, rfl, rfl⟩
      rw [hrr] at this
      show Sat (w3.putObj (w.heap.size + 1) (.loop { r with state := .ready, pending := none })) _
      rw [hrr]; exact this
    · have hw3 := sat_swap hw3
      have hl3 := hw3.get
      refine ⟨_, _, run_endRound (some .ret) hl3, ?_⟩
      refine hK2 _ (Imp.sepI.sat ?_)
      exact hw3.put rfl ⟨rfl, rfl, rfl⟩
  have hshuf : ∀ {A B C : Asrt} {L1 L2 : List Asrt}, List.Perm (A :: B :: C :: (L1 ++ L2)) (A :: C :: (L1 ++ B :: L2)) := fun {A B C L1 L2} => by
    refine List.Perm.cons A ((List.Perm.swap C B _).trans (List.Perm.cons C ?_))
    exact (List.perm_middle (l₁ := L1) (l₂ := L2) (a := B)).symm
  have hst : Sat _ (sep (blk (w.heap.size + 1) (.loop r)) (I []) :: (DL ++ (blk w.heap.size (.deferred (some [])) :: F))) := Imp.sepI.sat (h2.perm hshuf)
  have happ : (#[.func (.yield (w.heap.size + 1)) #[] #[]] ++ lb.toArray : Array Value) = (.func (.yield (w.heap.size + 1)) #[] #[] :: lb).toArray := by simp
  rw [happ]
  refine hit (w.heap.size + 1) _ _ hround (blk w.heap.size (.deferred (some [])) :: F) _ (fun v xs hS => Tr.sep_iff.2 fun w3 hw3 => ?_) (fun v pre hS => Tr.sep_iff.2 fun w3 hw3 => ?_) _ hst
  · have hl3 := hw3.get
    refine ⟨none, .ready, by simp, by rw [hrr]; exact hl3, ?_⟩
    have hp : Sat (w3.putObj (w.heap.size + 1) (.loop { r with state := .exhausted, pending := none })) (blk (w.heap.size + 1) (.loop { r with state := .exhausted, pending := none }) :: I xs :: (DL ++ blk w.heap.size (.deferred (some [])) :: F)) := hw3.put rfl ⟨rfl, rfl, rfl⟩
    exact hdone _ xs hS _ (sat_swap (hp.perm hshuf.symm).tail)
  · have hl3 := hw3.get
    refine ⟨some .ret, .done, by simp, hl3, ?_⟩
    have hp : Sat (w3.putObj (w.heap.size + 1) (.loop { r with state := .exhausted, pending := some .ret })) (blk (w.heap.size + 1) (.loop { r with state := .exhausted, pending := some .ret }) :: Ix pre :: (DL ++ blk w.heap.size (.deferred (some [])) :: F)) := hw3.put rfl ⟨rfl, rfl, rfl⟩
    exact hstop _ pre hS _ (sat_swap (hp.perm hshuf.symm).tail)
end
end Go.Wk
