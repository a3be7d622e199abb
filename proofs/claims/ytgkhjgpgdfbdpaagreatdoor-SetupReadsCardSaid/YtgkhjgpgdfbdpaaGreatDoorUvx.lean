import Derived.Test.YtgkhjgpgdfbdpaaGreatDoorTb2
import Derived.Test.YtgkhjgpgdfbdpaaGreatDoorSh
import Derived.Shelf.Strings.Builder1
import Derived.Test.YtgkhjgpgdfbdpaaGreatDoorSt
import Derived.Test.YtgkhjgpgdfbdpaaGreatDoorWkX
import Derived.Test.YtgkhjgpgdfbdpaaGreatDoorWkY
/- The builder's own check, where the builder is a struct's first field (the shelf's proof of 'Builder_copyCheck_fresh', with another type of the block). -/
namespace Go.Proofs.YtgkhjgpgdfbdpaaGreatDoor
open Go Go.Proofs Go.Shelf Go.RowKit
variable {P : Program} {ρ : Ren}
set_option maxHeartbeats 1000000 in
set_option maxRecDepth 100000 in
theorem copy_fresh {e0 : Nat} (L : Lays.n240 P ρ) (X : Builder.X72 P ρ) (hlies : liesAt P P.depth e0 (2 / P.cellsOf e0) 0 (ρ.t 72) 1 = true) (b : Nat) (w : World) (h0 : w.cell? ⟨b, 0, none⟩ = some (.pointer none)) (hsh : w.shape? b = some (e0, 2)) (hfz : w.frozen? ⟨b, 0, none⟩ = false) :
    Calls P (ρ.f 240) #[.pointer (some ⟨b, 0, none⟩)] w fun e w' => e = .returned (.tuple #[]) ∧ w' = w.setCell ⟨b, 0, none⟩ (.pointer (some ⟨b, 0, none⟩)) := by
  obtain ⟨j, hj, hjs⟩ := Option.map_eq_some_iff.1 X.sizeBuilder
  have mixed := L.mixed
  have t72 := L.t72; have a72 := L.a72; have z72 := L.z72; have v72 := L.v72; have u72 := run_underlying L.t72
  have t70 := L.t70; have a70 := L.a70; have z70 := L.z70; have v70 := L.v70; have u70 := run_underlying L.t70
  have t9 := L.t9; have a9 := L.a9; have z9 := L.z9; have v9 := L.v9; have u9 := run_underlying L.t9
  have t4 := L.t4; have a4 := L.a4; have z4 := L.z4; have v4 := L.v4; have u4 := run_underlying L.t4
  have t164 := L.t164; have a164 := L.a164; have z164 := L.z164; have v164 := L.v164; have u164 := run_underlying L.t164
  go_enter L.f240, Body.n240_ntmps ρ
  go_wp2
  rw [Lib.run_to_unsafe w ⟨b, 0, none⟩ L.t70 L.t164 hj (by rw [hjs]; decide) hsh (Nat.zero_lt_succ 1)]
  simp only [Result.andThen]
  rw [Oper.upon_value]
  go_wp2
  rw [run_callFunc_extern L.f276 (by kernel_rfl) (by kernel_rfl) (by kernel_rfl) (e := Extern.AbiNoEscape.same) (by kernel_rfl)]
  rw [Lib.run_noEscape]
  simp only [Result.andThen]
  rw [Oper.upon_value]
  go_wp2
  rw [Lib.run_from_unsafe w ⟨b, 0, none⟩ L.t164 L.t70 hj hsh hlies]
  simp only [Result.andThen]
  rw [Oper.upon_value]
  go_wp2
  go_end0
  exact ⟨rfl, rfl⟩
end Go.Proofs.YtgkhjgpgdfbdpaaGreatDoor

namespace Go.Proofs.YtgkhjgpgdfbdpaaGreatDoor
open Go Go.Wk
set_option maxHeartbeats 6400000
set_option maxRecDepth 100000


instance : ElT 63 UInt8 := ⟨⟩
abbrev bldW (b : Nat) (bs : List UInt8) : Asrt := bldB 67 5 b bs
theorem wcopy_ok {b : Nat} {p : Option Addr} {v : Value} (hp : p = none ∨ p = some ⟨b, 0, none⟩) : Trip Tryz.prog 95 [.pointer (some ⟨b, 0, none⟩)].toArray [blk b (.cells [.pointer p, v].toArray 67 (0, 0))] fun u l' => u = .tuple #[] ∧ l' = [blk b (.cells [.pointer (some ⟨b, 0, none⟩), v].toArray 67 (0, 0))] :=
  trip_copy (Go.Proofs.Any.Builder_copyCheck_used Tryz.lays240W Tryz.x72W) (copy_fresh Tryz.lays240W Tryz.x72W (by kernel_rfl)) hp


attribute [local irreducible] BrK GenK EGenK EUnitK CallK FnK CallV GuardO GuardC CondW opX opK opKc chkR eqR seqK blkK endL WL WD W LoopW BinK Tr drewK resL PickK NotK NilK ExtrK getK Instr.storeAt Instr.loadAt Instr.fieldAt Instr.indexAt Instr.lookup Instr.mapUpdate Instr.box Instr.alloc Instr.build Instr.buildSlice Instr.makeSlice Instr.makeMap Instr.sliceAt Instr.field Instr.index Instr.makeInterface Instr.typeAssert Builtin.len_ Builtin.append_ Builtin.cap_ Builtin.min_ Builtin.max_ Builtin.copy_ Builtin.clear_ convert binOp mp blk rob sl sep ex fact old
attribute [local irreducible] NegK mxV bufT
theorem uwstr_ok {b : Nat} {bs x : List UInt8} (hl : bs.length + x.length ≤ 100000000) : Trip Tryz.prog 65 [.pointer (some ⟨b, 0, none⟩), .string (bstr x)].toArray [bldW b bs] fun v l' => v = .tuple #[.int .i64 (x.length : Int), .nilIface] ∧ l' = [bldW b (bs ++ x)] := by
  intro F K hK
  simp only [List.cons_append, List.nil_append]
  refine bld_open fun p t hps => ?_
  (refine Tr.enter (rs := [.tmp 4, .tmp 5]) mixed fn65 rfl (by simp +arith [Tryz.ntmps65]) fun u => ?_; simp only [cd65, Tryz.f65])
  ((try simp only [WKb, ↓reduceIte, Nat.reduceEqDiff, Nat.reduceAdd]) <;> (repeat' ((first
    | (refine G.tr ?_; first | (refine G.app ?_; refine A.appS rfl (by (repeat (first | exact TakeA.here | apply TakeA.next)); done) (by decide) (by omega) fun t2 => ?_) | refine S.a ?_ | refine S.t ?_ | refine Tr.brK ?_ ?_ | (refine G.call 95 ?_; refine S.c ?_ (h := wcopy_ok (by assumption))) | refine S.n fun _ => ?_ | refine S.i fun hix => ?_ | (refine S.g fun hb => ?_; (try simp only [hb])) | (refine S.s (fun hb => ?_) (fun hb => ?_) <;> ((try simp only [hb]) <;> (try (have hp := hb; simp only [WKs] at hp; (try have hq := Int.not_le.2 hp); (try have hq := Int.not_lt.2 hp))))))
    | rintro _ _ ⟨rfl, rfl⟩
    | ((fail_if_success refine G.tr ?_); exact G.prop S.p)
    | fail) <;> (try simp only [WKb, ↓reduceIte, Nat.reduceEqDiff, Nat.reduceAdd, WKt]))))
  all_goals
    refine Tr.fin hK ⟨rfl, rfl⟩ ?_
    show EntR [] _ (bldW b _ :: F)
    refine bld_mk _ t2 (.inr rfl) ?_
    ((try clear hK) <;> (try simp only [WKe, ↓reduceIte, reduceCtorEq, Int.reduceEq, *]) <;> repeat (first | with_reducible exact EntR.done | refine S.e ?_ | (refine S.f ?_ <;> (try simp only [WKe, ↓reduceIte, reduceCtorEq, Int.reduceEq, *])) | with_reducible apply EntR.ex | refine EntR.drop (F := F) ?_ | refine EntR.drop ?_))


theorem uwbyte_ok {b : Nat} {bs : List UInt8} {c : UInt8} (hl : bs.length + 1 ≤ 100000000) : Trip Tryz.prog 66 [.pointer (some ⟨b, 0, none⟩), .int .u8 (c.toNat : Int)].toArray [bldW b bs] fun v l' => v = .nilIface ∧ l' = [bldW b (bs ++ [c])] := by
  intro F K hK
  simp only [List.cons_append, List.nil_append]
  refine bld_open fun p t hps => ?_
  (refine Tr.enter (rs := [.tmp 4]) mixed fn66 rfl (by simp +arith [Tryz.ntmps66]) fun u => ?_; simp only [cd66, Tryz.f66])
  ((try simp only [WKb, ↓reduceIte, Nat.reduceEqDiff, Nat.reduceAdd]) <;> (repeat' ((first
    | (refine G.tr ?_; first | (refine G.bs ?_; refine Tr.build1 c rfl rfl (by decide) fun _ => ?_) | (refine G.app ?_; refine A.appY rfl (by (repeat (first | exact TakeA.here | apply TakeA.next)); done) (by (repeat (first | exact Has.here | apply Has.next)); done) (by decide) (by simp only [List.length_singleton]; omega) fun t2 => ?_) | refine S.a ?_ | refine S.t ?_ | refine Tr.brK ?_ ?_ | (refine G.call 95 ?_; refine S.c ?_ (h := wcopy_ok (by assumption))) | refine S.n fun _ => ?_ | refine S.i fun hix => ?_ | (refine S.g fun hb => ?_; (try simp only [hb])) | (refine S.s (fun hb => ?_) (fun hb => ?_) <;> ((try simp only [hb]) <;> (try (have hp := hb; simp only [WKs] at hp; (try have hq := Int.not_le.2 hp); (try have hq := Int.not_lt.2 hp))))))
    | rintro _ _ ⟨rfl, rfl⟩
    | ((fail_if_success refine G.tr ?_); exact G.prop S.p)
    | fail) <;> (try simp only [WKb, ↓reduceIte, Nat.reduceEqDiff, Nat.reduceAdd]))))
  all_goals
    refine Tr.fin hK ⟨rfl, rfl⟩ ?_
    show EntR [] _ (bldW b _ :: F)
    refine bld_mk _ t2 (.inr rfl) ?_
    ((try clear hK) <;> (try simp only [WKe, ↓reduceIte, reduceCtorEq, Int.reduceEq, *]) <;> repeat (first | with_reducible exact EntR.done | refine S.e ?_ | (refine S.f ?_ <;> (try simp only [WKe, ↓reduceIte, reduceCtorEq, Int.reduceEq, *])) | with_reducible apply EntR.ex | refine EntR.drop (F := F) ?_ | refine EntR.drop ?_))


theorem ublen_ok {b : Nat} {bs : List UInt8} : Trip Tryz.prog 18 [.pointer (some ⟨b, 0, none⟩)].toArray [bldW b bs] fun v l' => v = .int .i64 (bs.length : Int) ∧ l' = [bldW b bs] := by
  intro F K hK
  simp only [List.cons_append, List.nil_append]
  refine bld_open fun p t hps => ?_
  (refine Tr.enter (rs := [.tmp 2]) mixed fn18 rfl (by simp +arith [Tryz.ntmps18]) fun u => ?_; simp only [cd18, Tryz.f18])
  ((try simp only [WKb, ↓reduceIte, Nat.reduceEqDiff]) <;> (repeat' ((first
    | (refine G.tr ?_; first | (refine G.len ?_; refine Tr.bufLen (by (repeat (first | exact Has.here | apply Has.next)); done) ?_) | refine S.a ?_ | refine S.t ?_ | refine Tr.brK ?_ ?_ | refine S.n fun _ => ?_ | refine S.i fun hix => ?_ | (refine S.g fun hb => ?_; (try simp only [hb])) | (refine S.s (fun hb => ?_) (fun hb => ?_) <;> ((try simp only [hb]) <;> (try (have hp := hb; simp only [WKs] at hp; (try have hq := Int.not_le.2 hp); (try have hq := Int.not_lt.2 hp))))))
    | ((fail_if_success refine G.tr ?_); exact G.prop S.p)
    | fail) <;> (try simp only [WKb, ↓reduceIte]))))
  all_goals
    refine Tr.fin hK ⟨rfl, rfl⟩ ?_
    show EntR [] _ (bldW b _ :: F)
    refine bld_mk _ t hps ?_
    ((try clear hK) <;> (try simp only [WKe, ↓reduceIte, reduceCtorEq, Int.reduceEq, *]) <;> repeat (first | with_reducible exact EntR.done | refine S.e ?_ | (refine S.f ?_ <;> (try simp only [WKe, ↓reduceIte, reduceCtorEq, Int.reduceEq, *])) | with_reducible apply EntR.ex | refine EntR.drop (F := F) ?_ | refine EntR.drop ?_))


theorem ubstr_ok {b : Nat} {bs : List UInt8} : Trip Tryz.prog 19 [.pointer (some ⟨b, 0, none⟩)].toArray [bldW b bs] fun v l' => v = .string (bstr bs) ∧ l' = [] := by
  intro F K hK
  simp only [List.cons_append, List.nil_append]
  refine bld_open fun p t hps => ?_
  (refine Tr.enter (rs := [.tmp 2]) mixed fn19 rfl (by simp +arith [Tryz.ntmps19]) fun u => ?_; simp only [cd19, Tryz.f19])
  ((try simp only [WKb, ↓reduceIte, Nat.reduceEqDiff, WKt, pl19]) <;> (repeat' ((first
    | (refine G.tr ?_; first | (refine G.len ?_; refine Tr.bufLen (by (repeat (first | exact Has.here | apply Has.next)); done) ?_) | (refine G.usd ?_; refine A.usd (by (repeat (first | exact Has.here | apply Has.next)); done) ?_) | (refine G.ust ?_; refine A.ust rfl rfl (by (repeat (first | exact TakeA.here | apply TakeA.next)); done) ?_) | refine S.a ?_ | refine S.t ?_ | refine Tr.brK ?_ ?_ | refine S.n fun _ => ?_ | refine S.i fun hix => ?_ | (refine S.g fun hb => ?_; (try simp only [hb])) | (refine S.s (fun hb => ?_) (fun hb => ?_) <;> ((try simp only [hb]) <;> (try (have hp := hb; simp only [WKs] at hp; (try have hq := Int.not_le.2 hp); (try have hq := Int.not_lt.2 hp))))))
    | ((fail_if_success refine G.tr ?_); exact G.prop S.p)
    | fail) <;> (try simp only [WKb, ↓reduceIte, Nat.reduceEqDiff, opX_usd, opX_ust]))))
  all_goals
    refine Tr.fin hK ⟨rfl, rfl⟩ ?_
    ((try clear hK) <;> (try simp only [WKe, *]) <;> repeat (first | with_reducible exact EntR.done | refine S.e ?_ | (refine S.f ?_ <;> (try simp only [WKe, ↓reduceIte, reduceCtorEq, Int.reduceEq, *])) | with_reducible apply EntR.ex | refine EntR.drop (F := F) ?_ | refine EntR.drop ?_))


end Go.Proofs.YtgkhjgpgdfbdpaaGreatDoor
