import Derived.Test.YtacmaamllpiloaaGreatZ19
namespace Go.Proofs.YtacmaamllpiloaaGreat
open Go Go.Wk
set_option maxHeartbeats 3200000
set_option maxRecDepth 100000
theorem GenK_pure {P : Program} {m : Sem Value} {v : Value} {K : Value → WP} (h : m = pure v) : GenK P m K = K v := by
 subst h
 funext w
 simp [GenK]
theorem bk_shl {P : Program} {t : TypeId} {x y : Operand} {a b : Int} {K : Value → WP} (h0 : 0 ≤ b) (h1 : b ≤ 64) : BinK P .shl t x y (.int .i64 a) (.int .i64 b) K = K (.int .i64 (IntKind.i64.wrap (a * 2 ^ b.toNat))) := by
 simp only [BinK, intBin, someK, if_true]
 exact GenK_pure (shift_shl .i64 .i64 a b h0 h1)
theorem bk_shr {P : Program} {t : TypeId} {x y : Operand} {a b : Int} {K : Value → WP} (h0 : 0 ≤ b) (h1 : b ≤ 64) : BinK P .shr t x y (.int .i64 a) (.int .i64 b) K = K (.int .i64 (a / 2 ^ b.toNat)) := by
 simp only [BinK, intBin, someK, if_true]
 exact GenK_pure (shift_shr .i64 .i64 a b h0 h1)
theorem or_i64 {a b i : Nat} (h : b < 2 ^ i) (hs : a * 2 ^ i + b < 9223372036854775808) : bits .or .i64 (b : Int) ((a * 2 ^ i : Nat) : Int) = ((b + a * 2 ^ i : Nat) : Int) := by
 have hx : b ||| a * 2 ^ i = b + a * 2 ^ i := by rw [Nat.or_comm, Nat.mul_comm a, ← Nat.two_pow_add_eq_or_of_lt h]; omega
 have h1 : (BitVec.ofInt 64 (b : Int)).toNat = b := by
  rw [BitVec.ofInt_natCast, BitVec.toNat_ofNat]; exact Nat.mod_eq_of_lt (by omega)
 have h2 : (BitVec.ofInt 64 ((a * 2 ^ i : Nat) : Int)).toNat = a * 2 ^ i := by
  rw [BitVec.ofInt_natCast, BitVec.toNat_ofNat]; exact Nat.mod_eq_of_lt (by omega)
 show IntKind.i64.wrap ((BitVec.ofInt 64 (b : Int) ||| BitVec.ofInt 64 ((a * 2 ^ i : Nat) : Int)).toNat : Int) = _
 rw [BitVec.toNat_or, h1, h2, hx]
 exact wrapId (by omega) (by omega)
theorem bk_or {P : Program} {t : TypeId} {x y : Operand} {a b : Int} {K : Value → WP} : BinK P .or t x y (.int .i64 a) (.int .i64 b) K = K (.int .i64 (bits .or .i64 a b)) := by
 simp only [BinK, intBin, someK, if_true]
 exact GenK_pure (intBits_or .i64 a b)
def wN : List UInt8 → Nat
 | [] => 0
 | x :: xs => x.toNat + 256 * wN xs
theorem wN_lt : ∀ xs : List UInt8, wN xs < 2 ^ (8 * xs.length)
 | [] => by decide
 | x :: xs => by
  have h := wN_lt xs
  have h2 := x.toNat_lt
  have e : 2 ^ (8 * (xs.length + 1)) = 256 * 2 ^ (8 * xs.length) := by rw [Nat.mul_succ, Nat.pow_add]; omega
  simp only [wN, List.length_cons, e]
  omega
theorem wN_snoc : ∀ (xs : List UInt8) (x : UInt8), wN (xs ++ [x]) = wN xs + x.toNat * 2 ^ (8 * xs.length)
 | [], x => by simp [wN]
 | y :: ys, x => by
  have e : 2 ^ (8 * (ys.length + 1)) = 256 * 2 ^ (8 * ys.length) := by rw [Nat.mul_succ, Nat.pow_add]; omega
  simp only [List.cons_append, wN, wN_snoc ys x, List.length_cons, e]
  rw [Nat.mul_add, Nat.mul_left_comm]
  omega
theorem wN_step {b : List UInt8} {k : Nat} (hk : k < b.length) : wN (b.take (k + 1)) = wN (b.take k) + (b[k]).toNat * 2 ^ (8 * k) := by
 rw [List.take_succ_eq_append_getElem hk, wN_snoc, List.length_take, Nat.min_eq_left (by omega)]
def wdB (ms : List RegM) (a : Int) : Int := (wN (ldB ms a 4) : Nat)
attribute [local irreducible] BrK GenK EGenK EUnitK CallK FnK CallV GuardO GuardC CondW opX opK opKc chkR eqR seqK blkK endL WL WD W LoopW BinK Tr drewK resL PickK NotK NilK ExtrK getK Instr.storeAt Instr.loadAt Instr.fieldAt Instr.indexAt Instr.lookup Instr.mapUpdate Instr.box Instr.alloc Instr.build Instr.buildSlice Instr.makeSlice Instr.makeMap Instr.sliceAt Instr.field Instr.index Instr.makeInterface Instr.typeAssert Builtin.len_ Builtin.append_ Builtin.cap_ Builtin.min_ Builtin.max_ Builtin.copy_ Builtin.clear_ convert binOp mp blk rob sl sep ex fact old
attribute [local irreducible] ldB ldO
theorem mword_ok {p : Nat} {s : SV} {gs : List RegG} {a : Int} (hr : ∀ g ∈ gs, okR g.mo) (hl4 : (ldB (gs.map RegG.mo) a 4).length ≤ 4) (ha : a ≤ 9223372036854775807) (ha2 : -9223372036854775808 ≤ a) :
  Trip Tryz.prog 183 [.pointer (some ⟨p, 0, none⟩), .int .i64 a].toArray (memL p s gs)
  fun v l' => v = .tuple [.int .i64 (wdB (gs.map RegG.mo) a), .bool (ldO (gs.map RegG.mo) a 4)].toArray ∧ l' = memL p s gs := by
 intro F K hK
 simp only [List.cons_append, List.nil_append] at hK ⊢
 unfold wdB at hK
 (refine Tr.enter (rs := [.tmp 4, .tmp 5]) mixed fn183 rfl (by simp +arith [Tryz.ntmps183]) fun u => ?_; simp only [cd183, Tryz.f183])
 have hX := @pl183.eq_def; repeat' (first | refine S.x ?_ | (refine G.call 231 ?_; first | refine S.c ?_ (h := mload_ok (by assumption) (by assumption) (by assumption)) | fail) | rintro _ _ ⟨_, rfl, rfl⟩ | fail)
 rename_i sv
 generalize ldB (gs.map RegG.mo) a 4 = bs at *
 refine Tr.loopE (α := Nat) [8, 19] [4, 5, 7, 17, 18] (fun k => [.int .i64 (wN (bs.take k) : Nat), .int .i64 k]) (fun k => memB p s :: sl false s.v (gs.map RegG.pt) :: fam regA gs :: [sl true sv.v bs]) (fun k => k ≤ bs.length) (fun k => bs.length - k) 0 S.T rfl (Nat.zero_le _) fun k u hk => ?_
 simp only [List.cons_append, List.nil_append]
 by_cases hin : k < bs.length
 ·have hw := wrapSucc (k := k) (by omega)
  have hx : ix bs (k : Int) = bs[k] := by simp [ix, hin]
  have hlt := bs[k].toNat_lt
  have e1 : IntKind.i64.wrap ((bs[k].toNat : Nat) : Int) = (bs[k].toNat : Nat) := wrapId (by omega) (by omega)
  have e2 : IntKind.i64.wrap (8 * (k : Int)) = ((8 * k : Nat) : Int) := by rw [show 8 * (k : Int) = ((8 * k : Nat) : Int) by omega]; exact wrapId (by omega) (by omega)
  have hk4 : k = 0 ∨ k = 1 ∨ k = 2 ∨ k = 3 := by omega
  have hpw : 2 ^ (8 * k) ≤ 16777216 := by rcases hk4 with rfl | rfl | rfl | rfl <;> decide
  have hmul : bs[k].toNat * 2 ^ (8 * k) ≤ 255 * 16777216 := Nat.mul_le_mul (by omega) hpw
  have e3 : ∀ P t x y K, BinK P .shl t x y (.int .i64 (bs[k].toNat : Nat)) (.int .i64 ((8 * k : Nat) : Int)) K = K (.int .i64 ((bs[k].toNat * 2 ^ (8 * k) : Nat) : Int)) := fun P t x y K => by
   rw [bk_shl (by omega) (by omega), Int.toNat_natCast]
   congr 2
   rw [show ((bs[k].toNat : Nat) : Int) * 2 ^ (8 * k) = ((bs[k].toNat * 2 ^ (8 * k) : Nat) : Int) by simp]
   exact wrapId (by omega) (by omega)
  have hlw := wN_lt (bs.take k)
  rw [List.length_take, Nat.min_eq_left (by omega)] at hlw
  have e4 : ∀ P t x y K, BinK P .or t x y (.int .i64 (wN (bs.take k) : Nat)) (.int .i64 ((bs[k].toNat * 2 ^ (8 * k) : Nat) : Int)) K = K (.int .i64 (wN (bs.take (k + 1)) : Nat)) := fun P t x y K => by
   rw [bk_or, or_i64 hlw (by omega), wN_step hin]
  clear hlw hmul hpw hk4 hlt
  have hX := And.intro @pl183.eq_def (And.intro hw (And.intro hx (And.intro @e1 (And.intro @e2 (And.intro @e3 @e4))))); repeat' (first | refine S.x ?_ | intro hb | fail)
  all_goals exact S.R (k + 1)
 ·have hke : k = bs.length := by omega
  subst hke
  have e1 : bs.take bs.length = bs := List.take_length
  have hX := And.intro @pl183.eq_def @e1; repeat' (first | refine S.x ?_ | fail)
  all_goals exact S.L
end Go.Proofs.YtacmaamllpiloaaGreat
namespace Go.Proofs.YtacmaamllpiloaaGreat
open Go Go.Wk
set_option maxHeartbeats 3200000
set_option maxRecDepth 100000
def byteAt (n : Int) (k : Nat) : UInt8 := UInt8.ofNat ((n / 2 ^ (8 * k)) % 256).toNat
def b4 (n : Int) : List UInt8 := [byteAt n 0, byteAt n 1, byteAt n 2, byteAt n 3]
def b4p (n : Int) (k : Nat) : List UInt8 := (b4 n).take k ++ List.replicate (4 - k) 0
theorem b4p_set {n : Int} {k : Nat} (h : k < 4) : (b4p n k).set k (byteAt n k) = b4p n (k + 1) := by
 rcases (by omega : k = 0 ∨ k = 1 ∨ k = 2 ∨ k = 3) with rfl | rfl | rfl | rfl <;> rfl
theorem b4p_len {n : Int} {k : Nat} (h : k ≤ 4) : (b4p n k).length = 4 := by
 rcases (by omega : k = 0 ∨ k = 1 ∨ k = 2 ∨ k = 3 ∨ k = 4) with rfl | rfl | rfl | rfl | rfl <;> rfl
theorem byteAt_wrap {n : Int} {k : Nat} : IntKind.u8.wrap (n / 2 ^ (8 * k)) = ((byteAt n k).toNat : Int) := by
 have h1 : (byteAt n k).toNat = ((n / 2 ^ (8 * k)) % 256).toNat % 256 := UInt8.toNat_ofNat
 rw [h1, IntKind.wrap_u8]
 omega
attribute [local irreducible] BrK GenK EGenK EUnitK CallK FnK CallV GuardO GuardC CondW opX opK opKc chkR eqR seqK blkK endL WL WD W LoopW BinK Tr drewK resL PickK NotK NilK ExtrK getK Instr.storeAt Instr.loadAt Instr.fieldAt Instr.indexAt Instr.lookup Instr.mapUpdate Instr.box Instr.alloc Instr.build Instr.buildSlice Instr.makeSlice Instr.makeMap Instr.sliceAt Instr.field Instr.index Instr.makeInterface Instr.typeAssert Builtin.len_ Builtin.append_ Builtin.cap_ Builtin.min_ Builtin.max_ Builtin.copy_ Builtin.clear_ convert binOp mp blk rob sl sep ex fact old
attribute [local irreducible] b4 b4p byteAt
theorem mput_ok {p : Nat} {s : SV} {gs : List RegG} {a n : Int} (hr : ∀ g ∈ gs, okR g.mo) (ha : a ≤ 9223372036854775807) (ha2 : -9223372036854775808 ≤ a) :
  Trip Tryz.prog 184 [.pointer (some ⟨p, 0, none⟩), .int .i64 a, .int .i64 n].toArray (memL p s gs)
  fun v l' => ∃ gs2 : List RegG, v = .bool (stO (gs.map RegG.mo) a 4) ∧ gs2.map RegG.mo = stB (gs.map RegG.mo) a (b4 n) ∧ (∀ g ∈ gs2, okR g.mo) ∧ l' = memL p s gs2 := by
 intro F K hK
 simp only [List.cons_append, List.nil_append] at hK ⊢
 (refine Tr.enter (rs := [.tmp 6]) mixed fn184 rfl (by simp +arith [Tryz.ntmps184]) fun u => ?_; simp only [cd184, Tryz.f184])
 have hX := @pl184.eq_def; repeat' (first | refine S.x ?_ | intro hb | fail)
 have h0 : (List.replicate (4 : Int).toNat default : List UInt8) = b4p n 0 := by unfold b4p b4; rfl
 have hl4 : (b4p n 0).length = 4 := b4p_len (by omega)
 rw [h0, hl4]
 refine Tr.loopE (α := Nat) [12] [0, 1, 2, 6, 7, 11] (fun k => [.int .i64 k]) (fun k => sl false hb.v (b4p n k) :: memB p s :: sl false s.v (gs.map RegG.pt) :: [fam regA gs]) (fun k => k ≤ 4) (fun k => 4 - k) 0 S.T rfl (Nat.zero_le _) fun k u hk => ?_
 simp only [List.cons_append, List.nil_append]
 have hlk := b4p_len (n := n) hk
 by_cases hin : k < 4
 ·have hw := wrapSucc (k := k) (by omega)
  have e2 : IntKind.i64.wrap (8 * (k : Int)) = ((8 * k : Nat) : Int) := by rw [show 8 * (k : Int) = ((8 * k : Nat) : Int) by omega]; exact wrapId (by omega) (by omega)
  have e3 : ∀ P t x y K, BinK P .shr t x y (.int .i64 n) (.int .i64 ((8 * k : Nat) : Int)) K = K (.int .i64 (n / 2 ^ (8 * k))) := fun P t x y K => by
   rw [bk_shr (by omega) (by omega), Int.toNat_natCast]
  have e4 := byteAt_wrap (n := n) (k := k)
  have e5 : (b4p n k).set (k : Int).toNat (byteAt n k) = b4p n (k + 1) := b4p_set hin
  have hlk2 := b4p_len (n := n) (k := k + 1) (by omega)
  have hX := And.intro @pl184.eq_def (And.intro hw (And.intro @e2 (And.intro @e3 @e4))); repeat' (first | refine S.x ?_ | intro hb | fail)
  all_goals
   have hX := And.intro e5 (b4p_set (n := n) hin)
   exact S.R (k + 1)
 ·have hke : k = 4 := by omega
  subst hke
  have e1 : b4p n 4 = b4 n := by unfold b4p b4; rfl
  have e6 : (b4 n).length = 4 := by unfold b4; rfl
  rw [e1]
  refine Tr.freezeAt S.K ?_
  have hX := @pl184.eq_def; repeat' (first | refine S.x ?_ | (refine G.call 152 ?_; first | refine S.c ?_ (h := mstore_ok (by assumption) (by assumption) (by assumption)) | fail) | rintro _ _ ⟨_, rfl, _, _, rfl⟩ | fail)
  all_goals exact Tr.fin hK ⟨_, by rw [e6]; rfl, by assumption, by assumption, rfl⟩ S.E
end Go.Proofs.YtacmaamllpiloaaGreat
namespace Go.Proofs.YtacmaamllpiloaaGreat
open Go Go.Wk
set_option maxHeartbeats 3200000
set_option maxRecDepth 100000
def RegM.clr (m : RegM) : RegM := { m with d := List.replicate m.d.length 0 }
def RegG.clr (g : RegG) : RegG := { g with d := List.replicate g.d.length 0 }
theorem clr_mo {gs : List RegG} : (gs.map RegG.clr).map RegG.mo = (gs.map RegG.mo).map RegM.clr := by
 simp only [List.map_map]
 rfl
theorem clr_okR {gs : List RegG} (h : ∀ g ∈ gs, okR g.mo) : ∀ g ∈ gs.map RegG.clr, okR g.mo := fun g hg => by
 obtain ⟨x, hx, rfl⟩ := List.mem_map.1 hg
 obtain ⟨h1, h2, h3⟩ := h x hx
 exact ⟨h1, h2, by simpa [RegG.clr, RegG.mo] using h3⟩
attribute [local irreducible] BrK GenK EGenK EUnitK CallK FnK CallV GuardO GuardC CondW opX opK opKc chkR eqR seqK blkK endL WL WD W LoopW BinK Tr drewK resL PickK NotK NilK ExtrK getK Instr.storeAt Instr.loadAt Instr.fieldAt Instr.indexAt Instr.lookup Instr.mapUpdate Instr.box Instr.alloc Instr.build Instr.buildSlice Instr.makeSlice Instr.makeMap Instr.sliceAt Instr.field Instr.index Instr.makeInterface Instr.typeAssert Builtin.len_ Builtin.append_ Builtin.cap_ Builtin.min_ Builtin.max_ Builtin.copy_ Builtin.clear_ convert binOp mp blk rob sl sep ex fact old
theorem mclear_ok {p : Nat} {s : SV} {gs : List RegG} :
  Trip Tryz.prog 224 [.pointer (some ⟨p, 0, none⟩)].toArray (memL p s gs)
  fun v l' => v = .tuple #[] ∧ l' = memL p s (gs.map RegG.clr) := by
 intro F K hK
 simp only [List.cons_append, List.nil_append] at hK ⊢
 have hpm : (gs.map RegG.clr).map RegG.pt = gs.map RegG.pt := by simp only [List.map_map]; rfl
 simp only [memL, hpm] at hK
 refine Tr.bound (ro := false) (v := s.v) (xs := gs.map RegG.pt) (by (repeat (first | exact Has.here | apply Has.next)); done) fun hbd => ?_
 have hlm : (gs.map RegG.pt).length = gs.length := List.length_map _
 (refine Tr.enter (rs := []) mixed fn224 rfl (by simp +arith [Tryz.ntmps224]) fun u => ?_; simp only [cd224, Tryz.f224])
 have hX := @pl224.eq_def; repeat' (first | refine S.x ?_ | fail)
 refine Tr.loopE (α := Nat) [11] [9, 10] (fun k => [.int .i64 k]) (fun k => memB p s :: sl false s.v (gs.map RegG.pt) :: [fam regA (upto RegG.clr gs k)]) (fun k => k ≤ gs.length) (fun k => gs.length - k) 0 S.T rfl (Nat.zero_le _) fun k u hk => ?_
 simp only [List.cons_append, List.nil_append]
 by_cases hin : k < gs.length
 ·have hw := wrapSucc (k := k) (by omega)
  have hm := ix_map (f := RegG.pt) (xs := gs) (k := (k : Int)) (by omega) (by omega)
  have hul := upto_len (f := RegG.clr) (xs := gs) (k := k)
  have hui := upto_ix (f := RegG.clr) (xs := gs) (k := k) hin
  have hus := upto_set (f := RegG.clr) (xs := gs) (k := k) hin
  refine Tr.famAt (xs := upto RegG.clr gs k) (k : Int) S.K (by omega) (by omega) (regA_open ?_)
  rw [hui]
  have hX := And.intro @pl224.eq_def (And.intro hw (And.intro hm @RegG.pt.eq_def)); repeat' (first | refine S.x ?_ | intro hb | (refine G.clr ?_; refine A.clearV (0 : UInt8) rfl ?_) | fail)
  all_goals
   have hX := And.intro hus.symm (And.intro @regA.eq_def @RegG.clr.eq_def)
   clear hus
   exact S.R (k + 1)
 ·have hke : k = gs.length := by omega
  subst hke
  have e1 := upto_all (f := RegG.clr) (xs := gs)
  have hX := And.intro @pl224.eq_def @e1; repeat' (first | refine S.x ?_ | fail)
  all_goals exact S.L
end Go.Proofs.YtacmaamllpiloaaGreat
namespace Go.Proofs.YtacmaamllpiloaaGreat
open Go Go.Wk
set_option maxHeartbeats 3200000
set_option maxRecDepth 100000
def csz (x : Int) : Int := if 0 < (if 256 < x then 256 else x) then (if 256 < x then 256 else x) else 0
theorem csz_b (x : Int) : 0 ≤ csz x ∧ csz x ≤ 256 := by unfold csz; split <;> split at * <;> omega
def newR (c : RegC) : RegM := ⟨c.base, c.size, c.w, List.replicate (csz c.size).toNat default⟩
def RegG.new (b : Nat) (s : SV) (c : RegC) : RegG := ⟨b, c.base, c.size, c.w, s, List.replicate (csz c.size).toNat default⟩
theorem newR_ok {c : RegC} (h : 0 ≤ c.base ∧ c.base ≤ 1048576) : okR (newR c) := ⟨h.1, h.2, by have := csz_b c.size; simp only [newR, List.length_replicate]; omega⟩
attribute [local irreducible] BrK GenK EGenK EUnitK CallK FnK CallV GuardO GuardC CondW opX opK opKc chkR eqR seqK blkK endL WL WD W LoopW BinK Tr drewK resL PickK NotK NilK ExtrK getK Instr.storeAt Instr.loadAt Instr.fieldAt Instr.indexAt Instr.lookup Instr.mapUpdate Instr.box Instr.alloc Instr.build Instr.buildSlice Instr.makeSlice Instr.makeMap Instr.sliceAt Instr.field Instr.index Instr.makeInterface Instr.typeAssert Builtin.len_ Builtin.append_ Builtin.cap_ Builtin.min_ Builtin.max_ Builtin.copy_ Builtin.clear_ convert binOp mp blk rob sl sep ex fact old
attribute [local irreducible] csz
theorem mmnew_ok {s0 : SV} {cs : List RegC} : Trip Tryz.prog 52 [s0.v].toArray [sl true s0.v cs]
  fun v l' => ∃ (b : Nat) (s : SV) (gs : List RegG), gs.map RegG.mo = (cs.take 4).map newR ∧ v = .pointer (some ⟨b, 0, none⟩) ∧ l' = memL b s gs := by
 intro F K hK
 simp only [List.cons_append, List.nil_append]
 refine Tr.bound (ro := true) (v := s0.v) (xs := cs) (by (repeat (first | exact Has.here | fail)); done) fun hbd => ?_
 have hc : ∀ x, (if 0 < (if 256 < x then 256 else x) then (if 256 < x then 256 else x) else 0) = csz x := fun x => by unfold csz; rfl
 (refine Tr.enter (rs := [.tmp 2]) mixed fn52 rfl (by simp +arith [Tryz.ntmps52]) fun u => ?_; simp only [cd52, Tryz.f52])
 have hX := And.intro @pl52.eq_def hc; repeat' (first | intro (nb : Nat) | refine S.x ?_ | intro hb | fail)
 have ht : cs.take (if (4 : Int) < cs.length then (4 : Int) else cs.length).toNat = cs.take 4 := by
  split
  ·rfl
  ·rw [Int.toNat_natCast, List.take_length, List.take_of_length_le (by omega)]
 have hl4 : (cs.take 4).length ≤ 4 := by simp; omega
 rw [ht]
 clear ht
 generalize cs.take 4 = ds at *
 refine Tr.loopE (α := Nat × SV × List RegG) [14] [2, 3, 12, 13] (fun x => [.int .i64 x.1]) (fun x => memB nb x.2.1 :: sl false x.2.1.v (x.2.2.map RegG.pt) :: fam regA x.2.2 :: [sl true hb.v ds]) (fun x => x.1 ≤ ds.length ∧ x.2.2.length = x.1 ∧ x.2.2.map RegG.mo = (ds.take x.1).map newR) (fun x => ds.length - x.1) (0, ⟨none, 0, 0⟩, []) S.T rfl ⟨Nat.zero_le _, rfl, rfl⟩ fun x u hx => ?_
 obtain ⟨k, s, gs⟩ := x
 obtain ⟨hk, hl, hm⟩ := hx
 simp only at hk hl hm ⊢
 simp only [List.cons_append, List.nil_append]
 have hlm : (gs.map RegG.pt).length = k := by rw [List.length_map]; exact hl
 by_cases hin : k < ds.length
 ·have hw := wrapSucc (k := k) (by omega)
  have hsz := csz_b (ix ds (k : Int)).size
  have hmk : ∀ b s, (gs ++ [RegG.new b s (ix ds (k : Int))]).map RegG.mo = (ds.take (k + 1)).map newR := fun b s => by rw [take_ix hin, List.map_append, List.map_append, hm]; rfl
  have hX := And.intro @pl52.eq_def (And.intro hw hc); repeat' (first | intro (nc : Nat) | intro (sv : SV) | refine S.x ?_ | intro hb | fail)
  all_goals
   rename_i nr sm sq
   have hmk' := hmk nc sm
   have hln : (gs ++ [RegG.new nc sm (ix ds (k : Int))]).length = k + 1 := by rw [List.length_append, hl]; rfl
   have hpt : (gs ++ [RegG.new nc sm (ix ds (k : Int))]).map RegG.pt = gs.map RegG.pt ++ [Pt.mk (some nc)] := by rw [List.map_append]; rfl
   have hen : ∀ v : Value, (setL [Value.int IntKind.i64 0, Value.int IntKind.i64 0, Value.bool false, Value.slice none 0 0] 0 (En.enc (ix ds (k : Int)))).set 3 v = [.int .i64 (ix ds (k : Int)).base, .int .i64 (ix ds (k : Int)).size, .bool (ix ds (k : Int)).w, v] := fun v => rfl
   have hra : regA (RegG.new nc sm (ix ds (k : Int))) = sep (blk nc (.cells [.int .i64 (ix ds (k : Int)).base, .int .i64 (ix ds (k : Int)).size, .bool (ix ds (k : Int)).w, sm.v].toArray 176 (0, 0))) (sl false sm.v (List.replicate (csz (ix ds (k : Int)).size).toNat default)) := rfl
   have hX := And.intro hen (And.intro hpt hra)
   exact S.R (k + 1, sv, gs ++ [RegG.new nc sm (ix ds (k : Int))])
 ·have hke : k = ds.length := by omega
  have hX := @pl52.eq_def; repeat' (first | refine S.x ?_ | fail)
  all_goals
   refine Tr.fin hK ⟨_, s, gs, by rw [hm, hke, List.take_length], rfl, rfl⟩ ?_
   exact S.E
end Go.Proofs.YtacmaamllpiloaaGreat
namespace Go.Proofs.YtacmaamllpiloaaGreat
open Go Go.Wk
set_option maxHeartbeats 3200000
set_option maxRecDepth 100000
def RegM.conf (m : RegM) : RegC := ⟨m.base, m.size, m.w⟩
abbrev rmB (r : Nat) (s1 s2 : SV) : Asrt := blk r (.cells [s1.v, s2.v].toArray 135 (0, 0))
abbrev rmL (r : Nat) (s1 s2 : SV) (ms : List RegM) (xs : List Msg) : List Asrt := [rmB r s1 s2, sl false s1.v (ms.map RegM.conf), sl false s2.v xs, fzl xs]
instance elt_regc : ElT 23 RegC := ⟨⟩
attribute [local irreducible] BrK GenK EGenK EUnitK CallK FnK CallV GuardO GuardC CondW opX opK opKc chkR eqR seqK blkK endL WL WD W LoopW BinK Tr drewK resL PickK NotK NilK ExtrK getK Instr.storeAt Instr.loadAt Instr.fieldAt Instr.indexAt Instr.lookup Instr.mapUpdate Instr.box Instr.alloc Instr.build Instr.buildSlice Instr.makeSlice Instr.makeMap Instr.sliceAt Instr.field Instr.index Instr.makeInterface Instr.typeAssert Builtin.len_ Builtin.append_ Builtin.cap_ Builtin.min_ Builtin.max_ Builtin.copy_ Builtin.clear_ convert binOp mp blk rob sl sep ex fact old
attribute [local irreducible] hasB fI
end Go.Proofs.YtacmaamllpiloaaGreat
namespace Go.Proofs.YtacmaamllpiloaaGreat
open Go Go.Wk
set_option maxHeartbeats 3200000
set_option maxRecDepth 100000
theorem ld_none {ms : List RegM} {a n : Int} (h : fI ms a n false = none) : ldO ms a n = false ∧ ldB ms a n = [] := by unfold ldO ldB; rw [h]; exact ⟨rfl, rfl⟩
theorem ld_some {ms : List RegM} {a n : Int} {k : Nat} (h : fI ms a n false = some k) : ldO ms a n = true ∧ ldB ms a n = ((ix ms (k : Int)).d.take ((a - (ix ms (k : Int)).base).toNat + n.toNat)).drop (a - (ix ms (k : Int)).base).toNat := by unfold ldO ldB; rw [h]; exact ⟨rfl, rfl⟩
attribute [local irreducible] BrK GenK EGenK EUnitK CallK FnK CallV GuardO GuardC CondW opX opK opKc chkR eqR seqK blkK endL WL WD W LoopW BinK Tr drewK resL PickK NotK NilK ExtrK getK Instr.storeAt Instr.loadAt Instr.fieldAt Instr.indexAt Instr.lookup Instr.mapUpdate Instr.box Instr.alloc Instr.build Instr.buildSlice Instr.makeSlice Instr.makeMap Instr.sliceAt Instr.field Instr.index Instr.makeInterface Instr.typeAssert Builtin.len_ Builtin.append_ Builtin.cap_ Builtin.min_ Builtin.max_ Builtin.copy_ Builtin.clear_ convert binOp mp blk rob sl sep ex fact old
attribute [local irreducible] hasB fI ldO ldB stO stB
end Go.Proofs.YtacmaamllpiloaaGreat
namespace Go.Proofs.YtacmaamllpiloaaGreat
open Go Go.Wk
set_option maxHeartbeats 3200000
set_option maxRecDepth 100000
theorem ldB_len {ms : List RegM} {a n : Int} (h : ldO ms a n = true) : ((ldB ms a n).length : Int) = n := by
 cases hf : fI ms a n false with
 | none => rw [(ld_none hf).1] at h; cases h
 | some k =>
  obtain ⟨hk, hb⟩ := fI_some hf
  obtain ⟨p0, p1, p2, p3⟩ := hasB_dec hb
  rw [(ld_some hf).2, List.length_drop, List.length_take]
  omega
theorem ldB_nil {ms : List RegM} {a n : Int} (h : ldO ms a n = false) : ldB ms a n = [] := by
 cases hf : fI ms a n false with
 | none => exact (ld_none hf).2
 | some k => rw [(ld_some hf).1] at h; cases h
theorem ldB_4 {ms : List RegM} {a : Int} : (ldB ms a 4).length ≤ 4 := by
 cases h : ldO ms a 4
 ·rw [ldB_nil h]; decide
 ·have := ldB_len h; omega
theorem csz_0 {x : Int} (h : x < 0) : csz x = 0 := by unfold csz; split <;> split at * <;> omega
theorem csz_256 {x : Int} (h : 256 < x) : csz x = 256 := by unfold csz; split <;> split at * <;> omega
theorem csz_x {x : Int} (h : 0 ≤ x) (h2 : x ≤ 256) : csz x = x := by unfold csz; split <;> split at * <;> omega
theorem newR_d {c : RegC} {z : Int} (h : csz c.size = z) : List.replicate z.toNat default = (newR c).d := by unfold newR; rw [h]
attribute [local irreducible] BrK GenK EGenK EUnitK CallK FnK CallV GuardO GuardC CondW opX opK opKc chkR eqR seqK blkK endL WL WD W LoopW BinK Tr drewK resL PickK NotK NilK ExtrK getK Instr.storeAt Instr.loadAt Instr.fieldAt Instr.indexAt Instr.lookup Instr.mapUpdate Instr.box Instr.alloc Instr.build Instr.buildSlice Instr.makeSlice Instr.makeMap Instr.sliceAt Instr.field Instr.index Instr.makeInterface Instr.typeAssert Builtin.len_ Builtin.append_ Builtin.cap_ Builtin.min_ Builtin.max_ Builtin.copy_ Builtin.clear_ convert binOp mp blk rob sl sep ex fact old
attribute [local irreducible] hasB fI ldO ldB stO stB
theorem rmnew_ok {s0 : SV} {cs : List RegC} : Trip Tryz.prog 61 [s0.v].toArray [sl true s0.v cs]
  fun v l' => ∃ (b : Nat) (s1 s2 : SV) (xs : List Msg), xs.map SL.d = ((cs.take 4).map newR).map RegM.d ∧ v = .pointer (some ⟨b, 0, none⟩) ∧ l' = rmL b s1 s2 ((cs.take 4).map newR) xs := by
 intro F K hK
 simp only [List.cons_append, List.nil_append]
 refine Tr.bound (ro := true) (v := s0.v) (xs := cs) (by (repeat (first | exact Has.here | fail)); done) fun hbd => ?_
 have hpm : ((cs.take 4).map newR).map RegM.conf = cs.take 4 := by
  have : (fun c => (newR c).conf) = id := rfl
  rw [List.map_map]
  show (cs.take 4).map (fun c => (newR c).conf) = _
  rw [this, List.map_id]
 simp only [rmL, hpm] at hK
 (refine Tr.enter (rs := [.tmp 2]) mixed fn61 rfl (by simp +arith [Tryz.ntmps61]) fun u => ?_; simp only [cd61, Tryz.f61])
 have hX := @pl61.eq_def; repeat' (first | intro (nb : Nat) | refine S.x ?_ | fail)
 refine Tr.loopE (α := Nat × SV × SV × List Msg) [4] [0, 2, 3] (fun x => [.int .i64 x.1]) (fun x => rmB nb x.2.1 x.2.2.1 :: sl false x.2.1.v (cs.take x.1) :: sl false x.2.2.1.v x.2.2.2 :: [fzl x.2.2.2]) (fun x => x.1 ≤ cs.length ∧ x.1 ≤ 4 ∧ x.2.2.2.length = x.1 ∧ x.2.2.2.map SL.d = ((cs.take x.1).map newR).map RegM.d) (fun x => cs.length - x.1) (0, ⟨none, 0, 0⟩, ⟨none, 0, 0⟩, []) S.T rfl ⟨Nat.zero_le _, Nat.zero_le _, rfl, rfl⟩ fun x u hx => ?_
 obtain ⟨k, s1, s2, xs⟩ := x
 obtain ⟨hk, hk4, hl, hm⟩ := hx
 simp only at hk hk4 hl hm ⊢
 simp only [List.cons_append, List.nil_append]
 have hlt : (cs.take k).length = k := by rw [List.length_take]; omega
 by_cases hin : k < cs.length ∧ k < 4
 ·obtain ⟨hin, hin4⟩ := hin
  have hw := wrapSucc (k := k) (by omega)
  have c1 : decide ((k : Int) < 4) = true := by simp; omega
  have hsz := csz_b (ix cs (k : Int)).size
  have hX := And.intro @pl61.eq_def (And.intro hw @c1); repeat' (first | intro (sv : SV) | refine S.x ?_ | refine S.y ?_ ?_ | intro hb | fail)
  all_goals
   rename_i sa
   first
   | rw [newR_d (c := ix cs (k : Int)) (z := 0) (csz_0 (by omega))]
   | rw [newR_d (c := ix cs (k : Int)) (z := 256) (csz_256 (by omega))]
   | rw [newR_d (c := ix cs (k : Int)) (z := (ix cs (k : Int)).size) (csz_x (by omega) (by omega))]
   refine Tr.freezeAt (α := UInt8) (xs := (newR (ix cs (k : Int))).d) S.K ?_
   have hX := And.intro @pl61.eq_def hw; repeat' (first | intro (sb2 : SV) | refine S.x ?_ | fail)
   have hts : cs.take (k + 1) = cs.take k ++ [ix cs (k : Int)] := take_ix hin
   have hm2 : (xs ++ [(⟨sv, (newR (ix cs (k : Int))).d⟩ : Msg)]).map SL.d = ((cs.take (k + 1)).map newR).map RegM.d := by rw [hts, List.map_append, List.map_append, List.map_append, hm]; rfl
   have hl2 : (xs ++ [(⟨sv, (newR (ix cs (k : Int))).d⟩ : Msg)]).length = k + 1 := by rw [List.length_append, hl]; rfl
   rw [← hts]
   clear hts
   exact S.R (k + 1, sa, sb2, xs ++ [⟨sv, (newR (ix cs (k : Int))).d⟩])
 ·have hke : cs.take k = cs.take 4 := by
   by_cases e : k = 4
   ·rw [e]
   ·rw [List.take_of_length_le (by omega), List.take_of_length_le (by omega)]
  rw [hke] at hm ⊢
  by_cases h4 : k < 4
  ·have c1 : decide ((k : Int) < cs.length) = false := by simp; omega
   have hX := And.intro @pl61.eq_def @c1; repeat' (first | refine S.x ?_ | fail)
   all_goals exact Tr.fin hK ⟨_, _, _, _, hm, rfl, rfl⟩ S.E
  ·have c1 : decide ((k : Int) < 4) = false := by simp; omega
   have hX := And.intro @pl61.eq_def @c1; repeat' (first | refine S.x ?_ | refine S.y ?_ ?_ | intro hb | fail)
   all_goals exact Tr.fin hK ⟨_, _, _, _, hm, rfl, rfl⟩ S.E
end Go.Proofs.YtacmaamllpiloaaGreat
