import Derived.Test.YtacmaamllpiloaaGreatZ18
import Derived.Test.YtacmaamllpiloaaGreatZ17
namespace Go.Proofs.YtacmaamllpiloaaGreat
open Go Go.Wk
set_option maxHeartbeats 3200000
set_option maxRecDepth 100000
theorem min_int3 {P : Program} {ty T : Nat} {k k2 k3 : IntKind} {a b c : Int} {K : Value → WP} : GenK P (Builtin.min_ #[T, T, T] ty #[.int k a, .int k2 b, .int k3 c]) K = K (.int k (if c < (if b < a then b else a) then c else (if b < a then b else a))) := by
 refine GenK_of (fun w => ?_) K
 simp [Builtin.min_, Builtin.min2]
def min3 (a b c : Int) : Int := if c < (if b < a then b else a) then c else (if b < a then b else a)
def ofA (gs : List OneS) (k : Int) : Int := if inR gs k then (ix gs k).has else 0
def spA (room : Int) (gs : List OneS) (k n : Int) : Int := if inR gs k then (if n < 1 then 0 else min3 n room (ix gs k).has) else 0
def spG (room : Int) (gs : List OneS) (k n : Int) : List OneS := if inR gs k then (if n < 1 then gs else gs.set k.toNat { ix gs k with has := (ix gs k).has - min3 n room (ix gs k).has }) else gs
theorem pt_set {α γ : Type} [Inhabited α] {f : α → γ} {xs : List α} {k : Int} {y : α} (h0 : 0 ≤ k) (h1 : k < xs.length) (h : f y = f (ix xs k)) : (xs.set k.toNat y).map f = xs.map f := by
 have hx := ix_some h0 h1
 rw [List.map_set, h]
 obtain ⟨hlt, he⟩ := List.getElem?_eq_some_iff.1 hx
 have e2 : f (ix xs k) = (xs.map f)[k.toNat]'(by rw [List.length_map]; exact hlt) := by rw [List.getElem_map, he]
 rw [e2, List.set_getElem_self]
theorem oneSl_open {g : OneS} {l : List Asrt} {X : WP} (h : Tr (blk g.b (.cells [.int .i64 g.has, .bool g.done].toArray 148 (0, 0)) :: l) X) : Tr (oneS g :: l) X := h
attribute [local irreducible] BrK GenK EGenK EUnitK CallK FnK CallV GuardO GuardC CondW opX opK opKc chkR eqR seqK blkK endL WL WD W LoopW BinK Tr drewK resL PickK NotK NilK ExtrK getK Instr.storeAt Instr.loadAt Instr.fieldAt Instr.indexAt Instr.lookup Instr.mapUpdate Instr.box Instr.alloc Instr.build Instr.buildSlice Instr.makeSlice Instr.makeMap Instr.sliceAt Instr.field Instr.index Instr.makeInterface Instr.typeAssert Builtin.len_ Builtin.append_ Builtin.cap_ Builtin.min_ Builtin.max_ Builtin.copy_ Builtin.clear_ convert binOp mp blk rob sl sep ex fact old
theorem of_ok {p : Nat} {room : Int} {s : SV} {gs : List OneS} {k : Int} : Trip Tryz.prog 40 [.pointer (some ⟨p, 0, none⟩), .int .i64 k].toArray [slkB p room s, fam oneS gs, sl false s.v (gs.map OneS.pt)]
  fun v l' => v = .int .i64 (ofA gs k) ∧ l' = [slkB p room s, fam oneS gs, sl false s.v (gs.map OneS.pt)] := by
 intro F K hK
 simp only [List.cons_append, List.nil_append]
 by_cases h : inR gs k
 ·have ⟨h0, h1⟩ := h
  refine Tr.famAt (A := oneS) k S.K h0 h1 (oneSl_open ?_)
  (refine Tr.enter (rs := [.tmp 4]) mixed fn40 rfl (by simp +arith [Tryz.ntmps40]) fun u => ?_; simp only [cd40, Tryz.f40])
  have hX := And.intro @pl40.eq_def @OneS.pt.eq_def; repeat' (first | refine S.x ?_ | (refine G.call 101 ?_; first | refine S.c ?_ (h := sfind_in (by omega) (by omega)) | fail) | rintro _ _ ⟨rfl, rfl⟩ | fail)
  all_goals
   have hX := And.intro @ofA.eq_def @oneS.eq_def
   exact S.L
 ·have h' := h
  unfold inR at h'
  (refine Tr.enter (rs := [.tmp 4]) mixed fn40 rfl (by simp +arith [Tryz.ntmps40]) fun u => ?_; simp only [cd40, Tryz.f40])
  have hX := @pl40.eq_def; repeat' (first | refine S.x ?_ | (refine G.call 101 ?_; first | refine S.c ?_ (h := sfind_out (by omega))) | rintro _ _ ⟨rfl, rfl⟩ | fail)
  all_goals
   have hX := @ofA.eq_def
   exact S.L
theorem sroom_ok {p : Nat} {room : Int} {s : SV} : Trip Tryz.prog 41 [.pointer (some ⟨p, 0, none⟩)].toArray [slkB p room s] fun v l' => v = .int .i64 room ∧ l' = [slkB p room s] := by
 intro F K hK
 simp only [List.cons_append, List.nil_append]
 (refine Tr.enter (rs := [.tmp 2]) mixed fn41 rfl (by simp +arith [Tryz.ntmps41]) fun u => ?_; simp only [cd41, Tryz.f41])
 have hX := @pl41.eq_def; repeat' (first | refine S.x ?_ | fail)
 all_goals exact S.L
theorem min3_le {a b c : Int} : min3 a b c ≤ a ∧ min3 a b c ≤ b ∧ min3 a b c ≤ c ∧ (0 ≤ a → 0 ≤ b → 0 ≤ c → 0 ≤ min3 a b c) := by
 unfold min3
 split <;> split <;> omega
theorem spend_ok {p : Nat} {room : Int} {s : SV} {gs : List OneS} {k n : Int} (hr : 0 ≤ room ∧ room ≤ 1000000000000) (hh : 0 ≤ (ix gs k).has ∧ (ix gs k).has ≤ 1000000000000) : Trip Tryz.prog 43 [.pointer (some ⟨p, 0, none⟩), .int .i64 k, .int .i64 n].toArray [slkB p room s, fam oneS gs, sl false s.v (gs.map OneS.pt)]
  fun v l' => v = .int .i64 (spA room gs k n) ∧ l' = [slkB p (room - spA room gs k n) s, fam oneS (spG room gs k n), sl false s.v ((spG room gs k n).map OneS.pt)] := by
 intro F K hK
 simp only [List.cons_append, List.nil_append]
 by_cases h : inR gs k
 ·have ⟨h0, h1⟩ := h
  have hsm : n < 1 → spA room gs k n = 0 ∧ spG room gs k n = gs := fun hn => by unfold spA spG; rw [if_pos h, if_pos h, if_pos hn, if_pos hn]; exact ⟨rfl, rfl⟩
  refine Tr.famAt (A := oneS) k S.K h0 h1 (oneSl_open ?_)
  by_cases hn : n < 1
  ·obtain ⟨e1, e2⟩ := hsm hn
   rw [e1, e2, Int.sub_zero] at hK
   (refine Tr.enter (rs := [.tmp 6]) mixed fn43 rfl (by simp +arith [Tryz.ntmps43]) fun u => ?_; simp only [cd43, Tryz.f43])
   have hX := And.intro @pl43.eq_def @OneS.pt.eq_def; repeat' (first | refine S.x ?_ | (refine G.call 101 ?_; first | refine S.c ?_ (h := sfind_in (by omega) (by omega)) | fail) | rintro _ _ ⟨rfl, rfl⟩ | fail)
   all_goals
    have hX := @oneS.eq_def
    exact S.L
  ·have e1 : spA room gs k n = min3 n room (ix gs k).has := by unfold spA; rw [if_pos h, if_neg hn]
   have e2 : spG room gs k n = gs.set k.toNat { ix gs k with has := (ix gs k).has - min3 n room (ix gs k).has } := by unfold spG; rw [if_pos h, if_neg hn]
   obtain ⟨m1, m2, m3, m4⟩ := @min3_le n room (ix gs k).has
   have m5 := m4 (by omega) hr.1 hh.1
   have hmm : (gs.set k.toNat { ix gs k with has := (ix gs k).has - min3 n room (ix gs k).has }).map OneS.pt = gs.map OneS.pt := pt_set h0 h1 rfl
   rw [e1, e2, hmm] at hK
   have m6 : ∀ P ty T K, GenK P (Builtin.min_ #[T, T, T] ty #[.int .i64 n, .int .i64 room, .int .i64 (ix gs k).has]) K = K (.int .i64 (min3 n room (ix gs k).has)) := fun P ty T K => min_int3
   generalize min3 n room (ix gs k).has = m at *
   have w1 : IntKind.i64.wrap ((ix gs k).has - m) = (ix gs k).has - m := wrapId (by omega) (by omega)
   have w2 : IntKind.i64.wrap (room - m) = room - m := wrapId (by omega) (by omega)
   (refine Tr.enter (rs := [.tmp 6]) mixed fn43 rfl (by simp +arith [Tryz.ntmps43]) fun u => ?_; simp only [cd43, Tryz.f43])
   have hX := And.intro @pl43.eq_def (And.intro @OneS.pt.eq_def (And.intro @m6 (And.intro @w1 @w2))); repeat' (first | refine S.x ?_ | (refine G.call 101 ?_; first | refine S.c ?_ (h := sfind_in (by omega) (by omega)) | fail) | rintro _ _ ⟨rfl, rfl⟩ | fail)
   all_goals
    have hX := @oneS.eq_def
    exact S.L
 ·have e1 : spA room gs k n = 0 := if_neg h
  have e2 : spG room gs k n = gs := if_neg h
  rw [e1, e2, Int.sub_zero] at hK
  have h' := h
  unfold inR at h'
  (refine Tr.enter (rs := [.tmp 6]) mixed fn43 rfl (by simp +arith [Tryz.ntmps43]) fun u => ?_; simp only [cd43, Tryz.f43])
  have hX := @pl43.eq_def; repeat' (first | refine S.x ?_ | (refine G.call 101 ?_; first | refine S.c ?_ (h := sfind_out (by omega))) | rintro _ _ ⟨rfl, rfl⟩ | fail)
  all_goals exact S.L
end Go.Proofs.YtacmaamllpiloaaGreat
namespace Go.Proofs.YtacmaamllpiloaaGreat
open Go Go.Wk
set_option maxHeartbeats 3200000
set_option maxRecDepth 100000
theorem CallV_y0 {P : Program} {l : Nat} {args : List Value} {K : Value → WP} {o : WP} : CallV P (.func (.yield l) #[] #[]) args.toArray K o = YieldK P l args.toArray K := by
 rw [CallV_y]; simp
def runL (ms : List (Int × Bool)) : List Int := (ms.filter fun m => !m.2).map fun m => m.1
def satS (xs : List Int) : Int := xs.foldl satA 0
def leftA (room : Int) (ms : List (Int × Bool)) : Int := if room < satS (runL ms) then room else satS (runL ms)
theorem runL_done {gs : List OneS} {k : Nat} (hk : k < gs.length) (h : (ix gs (k : Int)).done = true) : runL ((gs.map OneS.mo).take (k + 1)) = runL ((gs.map OneS.mo).take k) := by
 have e : (gs.map OneS.mo).take (k + 1) = (gs.map OneS.mo).take k ++ [(ix gs (k : Int)).mo] := by
  rw [← List.map_take, take_ix hk, List.map_append, List.map_take]; rfl
 unfold runL
 rw [e, List.filter_append]
 simp [OneS.mo, h]
theorem runL_more {gs : List OneS} {k : Nat} (hk : k < gs.length) (h : (ix gs (k : Int)).done = false) : runL ((gs.map OneS.mo).take (k + 1)) = runL ((gs.map OneS.mo).take k) ++ [(ix gs (k : Int)).has] := by
 have e : (gs.map OneS.mo).take (k + 1) = (gs.map OneS.mo).take k ++ [(ix gs (k : Int)).mo] := by
  rw [← List.map_take, take_ix hk, List.map_append, List.map_take]; rfl
 unfold runL
 rw [e, List.filter_append]
 simp [OneS.mo, h]
theorem runL_le {ms : List (Int × Bool)} (k : Nat) : (runL (ms.take k)).length ≤ (runL ms).length := by
 unfold runL
 rw [List.length_map, List.length_map]
 exact ((List.take_sublist k ms).filter _).length_le
theorem satA_ok {a b : Int} (h0 : 0 ≤ a) (h2 : 0 ≤ b) : 0 ≤ satA a b ∧ satA a b ≤ 9223372036854775807 := by unfold satA; split <;> omega
def encI (x : Int) : Array Value := [.int .i64 x].toArray
def okI (x : Int) : Prop := 0 ≤ x ∧ x ≤ 9223372036854775807
attribute [local irreducible] BrK GenK EGenK EUnitK CallK FnK CallV GuardO GuardC CondW opX opK opKc chkR eqR seqK blkK endL WL WD W LoopW BinK Tr drewK resL PickK NotK NilK ExtrK getK Instr.storeAt Instr.loadAt Instr.fieldAt Instr.indexAt Instr.lookup Instr.mapUpdate Instr.box Instr.alloc Instr.build Instr.buildSlice Instr.makeSlice Instr.makeMap Instr.sliceAt Instr.field Instr.index Instr.makeInterface Instr.typeAssert Builtin.len_ Builtin.append_ Builtin.cap_ Builtin.min_ Builtin.max_ Builtin.copy_ Builtin.clear_ convert binOp mp blk rob sl sep ex fact old
attribute [local irreducible] runL
theorem running_ok {p : Nat} : Trip Tryz.prog 102 [.pointer (some ⟨p, 0, none⟩)].toArray [] fun v l' => ∃ b, v = .func (.func 156) #[] [.pointer (some ⟨b, 0, none⟩)].toArray ∧ l' = [blk b (.cells [.pointer (some ⟨p, 0, none⟩)].toArray 37 (0, 0))] := by
 intro F K hK
 simp only [List.nil_append]
 (refine Tr.enter (rs := [.tmp 2]) mixed fn102 rfl (by simp +arith [Tryz.ntmps102]) fun u => ?_; simp only [cd102, Tryz.f102])
 have hX := And.intro @CallV_y0 @pl102.eq_def; repeat' (first | refine S.x ?_ | intro hb | fail)
 all_goals exact S.L
theorem siter_ok {p cb : Nat} {room : Int} {s : SV} {gs : List OneS} (hh : ∀ k : Nat, k < gs.length → okI (ix gs (k : Int)).has) (hl : gs.length ≤ 100000) :
  IterT Tryz.prog 156 [.pointer (some ⟨cb, 0, none⟩)] encI okI [blk cb (.cells [.pointer (some ⟨p, 0, none⟩)].toArray 37 (0, 0)), slkB p room s, sl false s.v (gs.map OneS.pt), fam oneS gs]
   (fun xs => xs = runL (gs.map OneS.mo)) (fun _ => True) (runL (gs.map OneS.mo)).length := by
 intro L J Jx hR F K hdone hstop
 simp only [List.cons_append, List.nil_append] at hdone hstop ⊢
 have hlm : (gs.map OneS.pt).length = gs.length := List.length_map _
 have h00 : runL ((gs.map OneS.mo).take 0) = [] := by unfold runL; rfl
 (refine Tr.enter (rs := []) mixed fn156 rfl (by simp +arith [Tryz.ntmps156]) fun u => ?_; simp only [cd156, Tryz.f156])
 have hX := And.intro @CallV_y0 @pl156.eq_def; repeat' (first | refine S.x ?_ | fail)
 refine Tr.loopE (α := Nat) [10] [0, 8, 9] (fun k => [.int .i64 k]) (fun k => [J (runL ((gs.map OneS.mo).take k)), blk cb (.cells [.pointer (some ⟨p, 0, none⟩)].toArray 37 (0, 0)), slkB p room s, sl false s.v (gs.map OneS.pt), fam oneS gs]) (fun k => k ≤ gs.length) (fun k => gs.length - k) 0 (by simp only [h00]; exact S.T) rfl (Nat.zero_le _) fun k u hk => ?_
 by_cases hin : k < gs.length
 ·have hw := wrapSucc (k := k) (by omega)
  have hm := ix_map (f := OneS.pt) (xs := gs) (k := (k : Int)) (by omega) (by omega)
  have hok := hh k hin
  simp only [List.cons_append, List.nil_append]
  refine Tr.famAt (xs := gs) (k : Int) S.K (by omega) (by omega) ?_
  refine Tr.imp Imp.refl (oneSl_open ?_)
  cases hd : (ix gs (k : Int)).done with
  | true =>
   have hz := runL_done hin hd
   have hX := And.intro @CallV_y0 (And.intro @pl156.eq_def (And.intro hw (And.intro hm @OneS.pt.eq_def))); repeat' (first | refine S.x ?_ | intro hb | fail)
   all_goals
    have hX := And.intro hz @oneS.eq_def
    exact S.R (k + 1)
  | false =>
   have hz2 := (runL_more hin hd).symm
   have hN : (runL ((gs.map OneS.mo).take k)).length < (runL (gs.map OneS.mo)).length := by
    have := runL_le (ms := gs.map OneS.mo) (k + 1)
    rw [← hz2, List.length_append, List.length_singleton] at this
    omega
   have hX := And.intro @CallV_y0 (And.intro @pl156.eq_def (And.intro hw (And.intro hm (And.intro @OneS.pt.eq_def hz2)))); repeat' (first | (refine Tr.yield hR _ rfl (by assumption) (by assumption) S.K ?_ ?_) | refine S.x ?_ | intro hb | fail)
   all_goals first
    | (have hX := @oneS.eq_def; exact S.R (k + 1))
    | (refine Tr.ent2 ?_ (hstop _ (runL ((gs.map OneS.mo).take (k + 1))) trivial); have hX := @oneS.eq_def; exact S.E)
 ·have hke : k = gs.length := by omega
  subst hke
  have hz : (gs.map OneS.mo).take gs.length = gs.map OneS.mo := List.take_of_length_le (by rw [List.length_map]; exact Nat.le_refl _)
  have hX := And.intro @CallV_y0 (And.intro @pl156.eq_def hz); repeat' (first | refine S.x ?_ | fail)
  all_goals
   refine Tr.ent2 ?_ (hdone _ _ rfl)
   exact S.E
end Go.Proofs.YtacmaamllpiloaaGreat
namespace Go.Proofs.YtacmaamllpiloaaGreat
open Go Go.Wk
set_option maxHeartbeats 3200000
set_option maxRecDepth 100000
noncomputable def cdL : Code := match Tryz.f42.body with
 | some c => c
 | none => .skip
theorem cdL_body : Tryz.f42.body = some cdL := by kernel_rfl
def plL : Nat → Plan
 | 7 => .st ⟨0, false, []⟩ (.st ⟨1, false, []⟩ (.st ⟨2, false, []⟩ (.st ⟨3, false, []⟩ (.st ⟨4, false, []⟩ (.st ⟨5, false, []⟩ (.st ⟨6, false, []⟩ .fin))))))
 | _ => .fin
theorem cdL_ok : codeM Tryz.f42.ntmps plL cdL = true := by kernel_rfl
def numA (b : Nat) (pre : List Int) : Asrt := sep (fact (0 ≤ satS pre ∧ satS pre ≤ 9223372036854775807)) (blk b (.cells [.int .i64 (satS pre)].toArray 3 (0, 0)))
theorem numA_open {b : Nat} {pre : List Int} {l : List Asrt} {X : WP} (h : 0 ≤ satS pre → satS pre ≤ 9223372036854775807 → Tr (blk b (.cells [.int .i64 (satS pre)].toArray 3 (0, 0)) :: l) X) : Tr (numA b pre :: l) X :=
 Tr.sep_iff.2 (Tr.fact_iff.2 fun h0 => h h0.1 h0.2)
theorem numA_mk {b : Nat} {pre : List Int} {l l2 : List Asrt} {X : WP} (h0 : 0 ≤ satS pre ∧ satS pre ≤ 9223372036854775807) (h2 : TakeA l (blk b (.cells [.int .i64 (satS pre)].toArray 3 (0, 0))) l2) (h : Tr (numA b pre :: l2) X) : Tr l X :=
 Tr.ent2 (EntR.sep (EntR.fact h0 (EntR.take h2 EntR.done))) h
theorem satS_snoc {pre : List Int} {x : Int} : satS (pre ++ [x]) = satA (satS pre) x := by simp [satS]
attribute [local irreducible] BrK GenK EGenK EUnitK CallK FnK CallV GuardO GuardC CondW opX opK opKc chkR eqR seqK blkK endL WL WD W LoopW BinK Tr drewK resL PickK NotK NilK ExtrK getK Instr.storeAt Instr.loadAt Instr.fieldAt Instr.indexAt Instr.lookup Instr.mapUpdate Instr.box Instr.alloc Instr.build Instr.buildSlice Instr.makeSlice Instr.makeMap Instr.sliceAt Instr.field Instr.index Instr.makeInterface Instr.typeAssert Builtin.len_ Builtin.append_ Builtin.cap_ Builtin.min_ Builtin.max_ Builtin.copy_ Builtin.clear_ convert binOp mp blk rob sl sep ex fact old
attribute [local irreducible] runL WM RangeK satA
theorem left_ok {p : Nat} {room : Int} {s : SV} {gs : List OneS} (hh : ∀ k : Nat, k < gs.length → okI (ix gs (k : Int)).has) (hl : gs.length ≤ 100000) :
  Trip Tryz.prog 42 [.pointer (some ⟨p, 0, none⟩)].toArray [slkB p room s, sl false s.v (gs.map OneS.pt), fam oneS gs]
  fun v l' => v = .int .i64 (leftA room (gs.map OneS.mo)) ∧ l' = [slkB p room s, sl false s.v (gs.map OneS.pt), fam oneS gs] := by
 intro F K hK
 simp only [List.cons_append, List.nil_append]
 refine Tr.enterM (T := plL) (rs := [.tmp 2]) mixed Tryz.func42 cdL_body cdL_ok rfl (by simp +arith [Tryz.ntmps42]) fun u => ?_
 simp only [cdL, Tryz.f42]
 (try simp only [WKb, WM_seq, WM_block, WM_rf, WM_region, WM_ret, WM_cond])
 have hX := And.intro @WM_seq (And.intro @WM_block (And.intro @WM_rf (And.intro @WM_region (And.intro @WM_ret (And.intro @WM_skip @WM_cond))))); repeat' (first | intro (nb : Nat) | refine S.x ?_ | (refine G.call 102 ?_; refine S.c ?_ (h := running_ok)) | rintro _ _ ⟨_, rfl, rfl⟩ | fail)
 rename_i cb
 refine numA_mk (b := nb) (pre := []) ⟨Int.le_refl 0, by decide⟩ S.K ?_
 apply Tr.range (T := plL) (I := numA nb) (Ix := fun _ => fact False) mixed (siter_ok (p := p) (cb := cb) (room := room) (s := s) hh hl) rfl (by kernel_rfl) S.T (fun x => rfl) (by decide) (by kernel_rfl) (by kernel_rfl) (by kernel_rfl) (by kernel_rfl)
 case hasg =>
  intro x X
  simp only [W_reg, WL_op, WL_nil, opX, opK_app]
  rfl
 case hbody =>
  intro pre x Gl R hN hx h1 h2
  obtain ⟨x0, x1⟩ := hx
  refine numA_open fun p0 p1 => ?_
  have hq := satA_ok p0 x0
  have hs := (@satS_snoc pre x).symm
  have hX := hs; repeat' (first | refine S.x ?_ | (refine G.call 103 ?_; refine S.c ?_ (h := sat_ok ?_ ?_ ?_ ?_)) | rintro _ _ ⟨rfl, rfl⟩ | (refine G.prop ?_; assumption) | fail)
  all_goals
   refine numA_mk (pre := pre ++ [x]) (by rw [satS_snoc]; exact hq) S.K ?_
   exact h1 _
 case hdone =>
  intro D xs hS
  subst hS
  refine numA_open fun p0 p1 => ?_
  have hX := And.intro @plL.eq_def (And.intro @WM_seq (And.intro @WM_block (And.intro @WM_rf (And.intro @WM_region (And.intro @WM_ret (And.intro @WM_skip (And.intro @WM_cond (And.intro @endM_n @endM_r)))))))); repeat' (first | refine S.x ?_ | fail)
  all_goals
   refine Tr.mark S.K ?_
   rw [marksK_nil]
   repeat' (first | refine S.x ?_ | refine S.y ?_ ?_ | (refine G.call 103 ?_; refine S.c ?_ (h := sat_ok ?_ ?_ ?_ ?_)) | rintro _ _ ⟨rfl, rfl⟩ | (refine G.prop ?_; assumption) | intro hb | ((fail_if_success refine G.tr ?_); exact G.prop S.p) | fail)
   all_goals
    refine Tr.fin hK ⟨rfl, rfl⟩ ?_
    exact S.E
 case hstop =>
  intro D pre hS
  exact Tr.fact_iff.2 fun h => h.elim
end Go.Proofs.YtacmaamllpiloaaGreat
namespace Go.Proofs.YtacmaamllpiloaaGreat
open Go Go.Wk
set_option maxHeartbeats 3200000
set_option maxRecDepth 100000
def finG (gs : List OneS) (k : Int) : List OneS := if inR gs k then gs.set k.toNat { ix gs k with done := true } else gs
def newS (c : ProcC) : Int × Bool := (if 0 < c.cost then c.cost else 0, false)
theorem ix_set {α : Type} [Inhabited α] {xs : List α} {i j : Nat} {y : α} (hi : i < xs.length) : ix (xs.set i y) (j : Int) = if i = j then y else ix xs (j : Int) := by
 unfold ix
 simp only [Int.toNat_natCast, List.getD_eq_getElem?_getD, List.getElem?_set]
 split
 ·simp []
 ·rfl
theorem famSetT {α : Type} {A : α → Asrt} {xs : List α} {x : α} {k : Nat} {l l1 l2 : List Asrt} {X : WP} (hk : k < xs.length) (h1 : TakeA l (A x) l1) (h2 : TakeA l1 (fam A (xs.eraseIdx k)) l2) (h : Tr (fam A (xs.set k x) :: l2) X) : Tr l X :=
 h.imp (Imp.trans h1 (Imp.trans (Imp.cons h2) (fam_in hk)))
attribute [local irreducible] BrK GenK EGenK EUnitK CallK FnK CallV GuardO GuardC CondW opX opK opKc chkR eqR seqK blkK endL WL WD W LoopW BinK Tr drewK resL PickK NotK NilK ExtrK getK Instr.storeAt Instr.loadAt Instr.fieldAt Instr.indexAt Instr.lookup Instr.mapUpdate Instr.box Instr.alloc Instr.build Instr.buildSlice Instr.makeSlice Instr.makeMap Instr.sliceAt Instr.field Instr.index Instr.makeInterface Instr.typeAssert Builtin.len_ Builtin.append_ Builtin.cap_ Builtin.min_ Builtin.max_ Builtin.copy_ Builtin.clear_ convert binOp mp blk rob sl sep ex fact old
attribute [local irreducible] leftA
theorem finish_ok {p : Nat} {room : Int} {s : SV} {gs : List OneS} {k : Int} (hh : ∀ k : Nat, k < gs.length → okI (ix gs (k : Int)).has) (hl : gs.length ≤ 100000) :
  Trip Tryz.prog 155 [.pointer (some ⟨p, 0, none⟩), .int .i64 k].toArray [slkB p room s, sl false s.v (gs.map OneS.pt), fam oneS gs]
  fun v l' => ∃ n : Int, v = .int .i64 n ∧ l' = [slkB p room s, sl false s.v ((finG gs k).map OneS.pt), fam oneS (finG gs k)] := by
 intro F K hK
 simp only [List.cons_append, List.nil_append]
 by_cases h : inR gs k
 ·have ⟨h0, h1⟩ := h
  have e2 : finG gs k = gs.set k.toNat { ix gs k with done := true } := if_pos h
  have hmm : (gs.set k.toNat { ix gs k with done := true }).map OneS.pt = gs.map OneS.pt := pt_set h0 h1 rfl
  have hh2 : ∀ j : Nat, j < (gs.set k.toNat { ix gs k with done := true }).length → okI (ix (gs.set k.toNat { ix gs k with done := true }) (j : Int)).has := fun j hj => by
   rw [List.length_set] at hj
   rw [ix_set (by omega)]
   split
   ·have := hh k.toNat (by omega)
    rwa [show ((k.toNat : Nat) : Int) = k from by omega] at this
   ·exact hh j hj
  have hl2 : (gs.set k.toNat { ix gs k with done := true }).length ≤ 100000 := by rw [List.length_set]; exact hl
  rw [e2, hmm] at hK
  (refine Tr.enter (rs := [.tmp 4]) mixed fn155 rfl (by simp +arith [Tryz.ntmps155]) fun u => ?_; simp only [cd155, Tryz.f155])
  (repeat' (first | refine S.x ?_ | (refine G.call 101 ?_; refine S.c ?_ (h := sfind_in h0 h1)) | (refine G.call 42 ?_; refine S.c ?_ (h := left_ok hh hl)) | rintro _ _ ⟨rfl, rfl⟩ | fail))
  refine Tr.famAt (A := oneS) k S.K h0 h1 (oneSl_open ?_)
  refine S.x ?_
  refine famSetT (A := oneS) (xs := gs) (x := { ix gs k with done := true }) (k := k.toNat) (by omega) S.K S.K ?_
  (repeat' (first | refine S.x ?_ | (refine G.call 42 ?_; rw [← hmm]; refine S.c ?_ (h := left_ok hh2 hl2)) | rintro _ _ ⟨rfl, rfl⟩ | fail))
  rw [hmm]
  exact Tr.fin hK ⟨_, rfl, rfl⟩ S.E
 ·have e2 : finG gs k = gs := if_neg h
  rw [e2] at hK
  have h' := h
  unfold inR at h'
  (refine Tr.enter (rs := [.tmp 4]) mixed fn155 rfl (by simp +arith [Tryz.ntmps155]) fun u => ?_; simp only [cd155, Tryz.f155])
  have hX := @pl155.eq_def; repeat' (first | refine S.x ?_ | (refine G.call 101 ?_; first | refine S.c ?_ (h := sfind_out (by omega))) | rintro _ _ ⟨rfl, rfl⟩ | fail)
  all_goals exact S.L
theorem snew_ok {u0 : Value} {c : PartD} [hd : DeA u0 c] (hn : c.procs.d.length ≤ 100000) : Trip Tryz.prog 32 [u0].toArray [sl true c.procs.s.v c.procs.d]
  fun v l' => ∃ (b : Nat) (s : SV) (gs : List OneS), gs.map OneS.mo = c.procs.d.map newS ∧ v = .pointer (some ⟨b, 0, none⟩) ∧ l' = [slkB b (if 0 < c.cap then c.cap else 0) s, sl false s.v (gs.map OneS.pt), fam oneS gs] := by
 obtain rfl := hd.h
 intro F K hK
 simp only [List.cons_append, List.nil_append]
 (refine Tr.enter (rs := [.tmp 2]) mixed fn32 rfl (by simp +arith [Tryz.ntmps32]) fun u => ?_; simp only [cd32, Tryz.f32])
 have hX := @pl32.eq_def; repeat' (first | intro (nb : Nat) | refine S.x ?_ | fail)
 refine Tr.loopE (α := Nat × SV × List OneS) [14] [2, 3, 12, 13] (fun x => [.int .i64 x.1]) (fun x => [slkB nb (if 0 < c.cap then c.cap else 0) x.2.1, sl false x.2.1.v (x.2.2.map OneS.pt), fam oneS x.2.2]) (fun x => x.1 ≤ c.procs.d.length ∧ x.2.2.length = x.1 ∧ x.2.2.map OneS.mo = (c.procs.d.take x.1).map newS) (fun x => c.procs.d.length - x.1) (0, ⟨none, 0, 0⟩, []) S.T rfl ⟨Nat.zero_le _, rfl, rfl⟩ fun x u hx => ?_
 obtain ⟨k, s, gs⟩ := x
 obtain ⟨hk, hl, hm⟩ := hx
 simp only at hk hl hm ⊢
 have hlm : (gs.map OneS.pt).length = k := by rw [List.length_map]; exact hl
 by_cases hin : k < c.procs.d.length
 ·have hw := wrapSucc (k := k) (by omega)
  have hmk : ∀ b, (gs ++ ([⟨b, if 0 < (ix c.procs.d (k : Int)).cost then (ix c.procs.d (k : Int)).cost else 0, false⟩] : List OneS)).map OneS.mo = (c.procs.d.take (k + 1)).map newS := fun b => by rw [take_ix hin, List.map_append, List.map_append, hm]; rfl
  have hX := And.intro @pl32.eq_def hw; repeat' (first | intro (nc : Nat) | intro (sv : SV) | refine S.x ?_ | intro hb | fail)
  all_goals
   have hmk' := hmk nc
   have hln : (gs ++ ([⟨nc, if 0 < (ix c.procs.d (k : Int)).cost then (ix c.procs.d (k : Int)).cost else 0, false⟩] : List OneS)).length = k + 1 := by rw [List.length_append, hl]; rfl
   have hpt : (gs ++ ([⟨nc, if 0 < (ix c.procs.d (k : Int)).cost then (ix c.procs.d (k : Int)).cost else 0, false⟩] : List OneS)).map OneS.pt = gs.map OneS.pt ++ [Pt.mk (some nc)] := by rw [List.map_append]; rfl
   have hX := And.intro hpt @oneS.eq_def
   exact S.R (k + 1, sv, gs ++ [⟨nc, if 0 < (ix c.procs.d (k : Int)).cost then (ix c.procs.d (k : Int)).cost else 0, false⟩])
 ·have hke : k = c.procs.d.length := by omega
  have hX := @pl32.eq_def; repeat' (first | refine S.x ?_ | fail)
  all_goals
   refine Tr.fin hK ⟨_, s, gs, by rw [hm, hke, List.take_length], rfl, rfl⟩ ?_
   exact S.E
end Go.Proofs.YtacmaamllpiloaaGreat
namespace Go.Proofs.YtacmaamllpiloaaGreat
open Go Go.Wk
set_option maxHeartbeats 3200000
set_option maxRecDepth 100000
def putB (m : RegM) (a : Int) (b : List UInt8) : RegM := { m with d := m.d.take (a - m.base).toNat ++ b ++ m.d.drop ((a - m.base).toNat + b.length) }
def stB (ms : List RegM) (a : Int) (b : List UInt8) : List RegM := match fI ms a b.length true with
 | some k => ms.set k (putB (ix ms (k : Int)) a b)
 | none => ms
def RegG.put (g : RegG) (a : Int) (b : List UInt8) : RegG := { g with d := g.d.take (a - g.base).toNat ++ b ++ g.d.drop ((a - g.base).toNat + b.length) }
theorem put_mo {g : RegG} {a : Int} {b : List UInt8} : (g.put a b).mo = putB g.mo a b := rfl
theorem put_okR {g : RegG} {a : Int} {b : List UInt8} {wr : Bool} (h : okR g.mo) (hb : hasB g.mo a b.length wr = true) : okR (g.put a b).mo := by
 obtain ⟨h1, h2, h3⟩ := h
 obtain ⟨p0, p1, p2, p3⟩ := hasB_dec hb
 refine ⟨h1, h2, ?_⟩
 simp only [RegG.put, RegG.mo, List.length_append, List.length_take, List.length_drop] at *
 omega
attribute [local irreducible] BrK GenK EGenK EUnitK CallK FnK CallV GuardO GuardC CondW opX opK opKc chkR eqR seqK blkK endL WL WD W LoopW BinK Tr drewK resL PickK NotK NilK ExtrK getK Instr.storeAt Instr.loadAt Instr.fieldAt Instr.indexAt Instr.lookup Instr.mapUpdate Instr.box Instr.alloc Instr.build Instr.buildSlice Instr.makeSlice Instr.makeMap Instr.sliceAt Instr.field Instr.index Instr.makeInterface Instr.typeAssert Builtin.len_ Builtin.append_ Builtin.cap_ Builtin.min_ Builtin.max_ Builtin.copy_ Builtin.clear_ convert binOp mp blk rob sl sep ex fact old
attribute [local irreducible] hasB fI
theorem mstore_ok {p : Nat} {s : SV} {gs : List RegG} {a : Int} {sb : SV} {b : List UInt8} (hr : ∀ g ∈ gs, okR g.mo) (ha : a ≤ 9223372036854775807) (ha2 : -9223372036854775808 ≤ a) :
  Trip Tryz.prog 152 [.pointer (some ⟨p, 0, none⟩), .int .i64 a, sb.v].toArray (sl true sb.v b :: memL p s gs)
  fun v l' => ∃ gs2 : List RegG, v = .bool (stO (gs.map RegG.mo) a b.length) ∧ gs2.map RegG.mo = stB (gs.map RegG.mo) a b ∧ (∀ g ∈ gs2, okR g.mo) ∧ l' = memL p s gs2 := by
 intro F K hK
 simp only [List.cons_append, List.nil_append] at hK ⊢
 (refine Tr.enter (rs := [.tmp 6]) mixed fn152 rfl (by simp +arith [Tryz.ntmps152]) fun u => ?_; simp only [cd152, Tryz.f152])
 cases hf : fI (gs.map RegG.mo) a b.length true with
 | none =>
  have e1 : stO (gs.map RegG.mo) a b.length = false := by unfold stO; rw [hf]; rfl
  have e2 : stB (gs.map RegG.mo) a b = gs.map RegG.mo := by unfold stB; rw [hf]
  rw [e1, e2] at hK
  have hX := And.intro @pl152.eq_def (And.intro hf @rgP.eq_def); repeat' (first | refine S.x ?_ | (refine G.call 228 ?_; refine S.c ?_ (h := mof_ok (by assumption) (by assumption) (by assumption))) | rintro _ _ ⟨rfl, rfl⟩ | fail)
  all_goals exact Tr.fin hK ⟨_, rfl, rfl, hr, rfl⟩ S.E
 | some k =>
  obtain ⟨hk, hb0⟩ := fI_some hf
  rw [List.length_map] at hk
  have e1 : stO (gs.map RegG.mo) a b.length = true := by unfold stO; rw [hf]; rfl
  have e2 : stB (gs.map RegG.mo) a b = (gs.set k ((ix gs (k : Int)).put a b)).map RegG.mo := by unfold stB; rw [hf]; simp only []; rw [mo_ix hk, ← put_mo, List.map_set]
  rw [mo_ix hk] at hb0
  have hr2 : ∀ g ∈ gs.set k ((ix gs (k : Int)).put a b), okR g.mo := fun g hg => by
   rcases List.mem_or_eq_of_mem_set hg with h | rfl
   ·exact hr g h
   ·exact put_okR (hr _ (ix_memR hk)) hb0
  rw [e1, e2] at hK
  have hpt : (gs.set k ((ix gs (k : Int)).put a b)).map RegG.pt = gs.map RegG.pt := by
   have := pt_set (f := RegG.pt) (xs := gs) (k := (k : Int)) (y := (ix gs (k : Int)).put a b) (by omega) (by omega) rfl
   simpa using this
  obtain ⟨p0, p1, p2, p3⟩ := hasB_dec hb0
  obtain ⟨b0, b1, hl⟩ := hr _ (ix_memR hk)
  simp only [RegG.mo] at p1 p2 p3 b0 b1 hl
  have hw1 : IntKind.i64.wrap (a - (ix gs (k : Int)).base) = a - (ix gs (k : Int)).base := wrapId (by omega) (by omega)
  have hX := And.intro @pl152.eq_def (And.intro hf @rgP.eq_def); repeat' (first | refine S.x ?_ | (refine G.call 228 ?_; refine S.c ?_ (h := mof_ok (by assumption) (by assumption) (by assumption))) | rintro _ _ ⟨rfl, rfl⟩ | fail)
  refine Tr.famAt (xs := gs) (k : Int) S.K (by omega) (by omega) (regA_open ?_)
  have hX := And.intro @pl152.eq_def hw1; repeat' (first | refine S.x ?_ | (refine G.cut ?_; refine A.ccFrom rfl (by omega) (by omega) ?_) | refine A.copyCut (by omega) rfl ?_ | fail)
  all_goals
   refine Tr.fin hK ⟨_, rfl, rfl, hr2, rfl⟩ ?_
   simp only [List.cons_append, List.nil_append]
   rw [hpt]
   have hX := And.intro @regA.eq_def @RegG.put.eq_def
   exact S.E
end Go.Proofs.YtacmaamllpiloaaGreat
