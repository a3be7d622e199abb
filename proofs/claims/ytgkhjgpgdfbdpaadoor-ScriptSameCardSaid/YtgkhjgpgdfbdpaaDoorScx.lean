import Derived.Test.YtgkhjgpgdfbdpaaDoorSax
namespace Go.Proofs.YtgkhjgpgdfbdpaaDoor
open Go Go.Wk
set_option maxHeartbeats 6400000
set_option maxRecDepth 100000

noncomputable def cdP : Code := match Tryd.f30.body with
  | some c => c
  | none => .skip
theorem cdP_body : Tryd.f30.body = some cdP := by kernel_rfl
def plP : Nat → Plan := fun _ => .fin
theorem cdP_ok : codeM Tryd.f30.ntmps plP cdP = true := by kernel_rfl
def printS (l : List (List UInt8)) : List UInt8 × Int := if 65536 < (textL l).length then ([], 3) else (textL l, 0)
def iA (b r2 r3 : Nat) (pre : List (List UInt8)) : Asrt := sep (bld b (textL pre)) (sep (fact ((textL pre).length ≤ 65536)) (sep (blk r2 (.cells [.string (bstr [])].toArray 9 (0, 0))) (blk r3 (.cells [.int .i64 0].toArray 24 (0, 0)))))
def iX (_b r2 r3 : Nat) (pre : List (List UInt8)) : Asrt := sep (fact (65536 < (textL pre).length)) (sep (blk r2 (.cells [.string (bstr [])].toArray 9 (0, 0))) (blk r3 (.cells [.int .i64 3].toArray 24 (0, 0))))
theorem bldInit {T e b : Nat} {l F : List Asrt} {X : WP} (ht : TakeA l (blk b (.cells [.pointer none, .slice none 0 0].toArray T (0, 0))) F) (h : Tr (bldB T e b [] :: F) X) : Tr l X := Tr.imp ht (bld_init h)
theorem iA_mk {b r2 r3 : Nat} {pre : List (List UInt8)} {l l1 l2 l3 : List Asrt} {X : WP} (h0 : (textL pre).length ≤ 65536) (h1 : TakeA l (bld b (textL pre)) l1) (h2 : TakeA l1 (blk r2 (.cells [.string (bstr [])].toArray 9 (0, 0))) l2) (h3 : TakeA l2 (blk r3 (.cells [.int .i64 0].toArray 24 (0, 0))) l3) (h : Tr (iA b r2 r3 pre :: l3) X) : Tr l X :=
  Tr.ent2 (EntR.sep (EntR.take h1 (EntR.sep (EntR.fact h0 (EntR.sep (EntR.take h2 (EntR.take h3 EntR.done))))))) h
theorem iX_mk {b r2 r3 : Nat} {pre : List (List UInt8)} {l l2 l3 : List Asrt} {X : WP} (h0 : 65536 < (textL pre).length) (h2 : TakeA l (blk r2 (.cells [.string (bstr [])].toArray 9 (0, 0))) l2) (h3 : TakeA l2 (blk r3 (.cells [.int .i64 3].toArray 24 (0, 0))) l3) (h : Tr (iX b r2 r3 pre :: l3) X) : Tr l X :=
  Tr.ent2 (EntR.sep (EntR.fact h0 (EntR.sep (EntR.take h2 (EntR.take h3 EntR.done))))) h
theorem iA_open {b r2 r3 : Nat} {pre : List (List UInt8)} {l : List Asrt} {X : WP} (h : (textL pre).length ≤ 65536 → Tr (bld b (textL pre) :: blk r2 (.cells [.string (bstr [])].toArray 9 (0, 0)) :: blk r3 (.cells [.int .i64 0].toArray 24 (0, 0)) :: l) X) : Tr (iA b r2 r3 pre :: l) X := by
  unfold iA
  refine Tr.sep_iff.2 fun w hw => ?_
  have hw2 := sat_swap hw
  exact (Tr.sep_iff.2 (Tr.fact_iff.2 fun h0 => Tr.sep_iff.2 fun w hw => h h0 w (hw.perm ((List.Perm.cons _ (List.Perm.swap _ _ _)).trans (List.Perm.swap _ _ _))))) w hw2
theorem iX_open {b r2 r3 : Nat} {pre : List (List UInt8)} {l : List Asrt} {X : WP} (h : 65536 < (textL pre).length → Tr (blk r2 (.cells [.string (bstr [])].toArray 9 (0, 0)) :: blk r3 (.cells [.int .i64 3].toArray 24 (0, 0)) :: l) X) : Tr (iX b r2 r3 pre :: l) X := by
  unfold iX
  exact Tr.sep_iff.2 (Tr.fact_iff.2 fun h0 => Tr.sep_iff.2 (h h0))
attribute [local irreducible] BrK GenK EGenK EUnitK CallK FnK CallV GuardO GuardC CondW opX opK opKc chkR eqR seqK blkK endL WL WD W LoopW BinK Tr drewK resL PickK NotK NilK ExtrK getK Instr.storeAt Instr.loadAt Instr.fieldAt Instr.indexAt Instr.lookup Instr.mapUpdate Instr.box Instr.alloc Instr.build Instr.buildSlice Instr.makeSlice Instr.makeMap Instr.sliceAt Instr.field Instr.index Instr.makeInterface Instr.typeAssert Builtin.len_ Builtin.append_ Builtin.cap_ Builtin.min_ Builtin.max_ Builtin.copy_ Builtin.clear_ convert binOp mp blk rob sl sep ex fact old
attribute [local irreducible] NegK mxV bufT bldB WM RangeK
theorem sprint_ok {ro : Bool} {ps fs : SV} {progs : List ProgS} {frames : List FrameC} (hps : ∀ p ∈ progs, ∀ q ∈ p.d, ∀ s ∈ q.d, s.ok) (hfs : ∀ f ∈ frames, f.ok) :
    Trip Tryd.prog 30 [.agg [ps.v, fs.v].toArray].toArray [sl ro ps.v progs, famProg ro progs, sl ro fs.v frames]
      fun v l' => v = .tuple #[.string (bstr (printS (linesL (progsD progs) frames)).1), .int .i64 (printS (linesL (progsD progs) frames)).2] ∧ l' = [sl ro ps.v progs, famProg ro progs, sl ro fs.v frames] := by
  intro F K hK
  simp only [List.cons_append, List.nil_append]
  refine Tr.enterM (T := plP) (rs := [.cell 2 9, .cell 3 24]) mixed Tryd.func30 cdP_body cdP_ok rfl (by simp) fun u => ?_
  simp only [cdP, Tryd.f30]
  
  ((try simp only [WKb, ↓reduceIte, WKt, WM_seq, WM_block, WM_rf, WM_region, WM_ret]) <;> (repeat' ((first
    | (refine G.tr ?_; first | refine S.a ?_ | refine S.t ?_ | refine Tr.brK ?_ ?_ | (refine G.call 66 ?_; refine S.c ?_ (h := lines_ok)) | refine S.n fun _ => ?_ | refine S.i fun hix => ?_ | (refine S.g fun hb => ?_; (try simp only [hb])) | (refine S.s (fun hb => ?_) (fun hb => ?_) <;> ((try simp only [hb]) <;> (try (have hp := hb; simp only [WKs] at hp; (try have hq := Int.not_le.2 hp); (try have hq := Int.not_lt.2 hp))))))
    | rintro _ _ ⟨_, rfl, rfl⟩
    | ((fail_if_success refine G.tr ?_); exact G.prop S.p)
    | fail) <;> (try simp only [WKb, ↓reduceIte, Nat.reduceEqDiff, WKt]))))
  rename_i sb r2 r3 b cb
  refine bldInit (e := 5) (b := b) (by (repeat (first | exact TakeA.here | apply TakeA.next)); done) ?_
  refine iA_mk (b := b) (r2 := r2) (r3 := r3) (pre := []) (by decide) (by (repeat (first | exact TakeA.here | apply TakeA.next)); done) (by (repeat (first | exact TakeA.here | apply TakeA.next)); done) (by (repeat (first | exact TakeA.here | apply TakeA.next)); done) ?_
  refine Tr.range (T := plP) (a1 := fun x => upd (upd (upd (upd (upd (upd (upd (upd (upd u 0 (.agg [ps.v, fs.v].toArray)) 1 (.pointer (some ⟨sb, 0, none⟩))) 2 (.pointer (some ⟨r2, 0, none⟩))) 3 (.pointer (some ⟨r3, 0, none⟩))) 4 (.pointer (some ⟨b, 0, none⟩))) 6 (.agg [ps.v, fs.v].toArray)) 7 (.func (.func 99) #[] [.pointer (some ⟨cb, 0, none⟩)].toArray)) 8 (.string (bstr x))) 5 (.string (bstr x))) (I := iA b r2 r3) (Ix := iX b r2 r3) mixed (iter_ok (b := cb) hps hfs) rfl (by kernel_rfl) (by (repeat (first | exact TakeL.nil | (apply TakeL.cons; focus ((first | exact TakeA.dupS | exact TakeA.dupF | ((repeat (first | with_reducible exact TakeA.here | exact TakeA.fam (by omega) (by omega) | with_reducible apply TakeA.next)); done) | ((repeat (first | exact TakeA.here | apply TakeA.next)); done) | exact TakeA.famNil | exact TakeA.nilS))) | fail)); done) (fun x => rfl) (by decide) (by kernel_rfl) (by kernel_rfl) (by kernel_rfl) (by kernel_rfl) (fun x X => ?hasg) ?hbody ?hdone ?hstop
  case hasg =>
    simp only [W_reg, WL_op, WL_nil, opX, opK_app]
    rfl
  case hbody =>
    intro pre x Gl R hN hx h1 h2
    have hx : x.length ≤ 1000 := hx
    refine iA_open fun h0 => ?_
    have hsn := (textL_snoc pre x).symm
    have hln := congrArg List.length hsn
    simp only [List.length_append, List.length_singleton] at hln
    have hln2 : (textL pre ++ x).length + 1 ≤ 100000000 := by rw [List.length_append]; omega
    
    by_cases hbig : 65536 < (textL (pre ++ [x])).length
    · ((try simp only [WKb, ↓reduceIte, Nat.reduceEqDiff]) <;> (repeat' ((first
    | (refine G.tr ?_; first | refine S.a ?_ | refine S.t ?_ | refine Tr.brK ?_ ?_ | (refine G.call 45 ?_; refine S.c ?_ (h := wstr_ok ?_)) | (refine G.call 46 ?_; refine S.c ?_ (h := wbyte_ok (c := 10) ?_)) | (refine G.call 47 ?_; refine S.c ?_ (h := blen_ok)) | refine S.n fun _ => ?_ | refine S.i fun hix => ?_ | (refine S.g fun hb => ?_; (try simp only [hb])) | (refine S.s (fun hb => ?_) (fun hb => ?_) <;> ((try simp only [hb]) <;> (try (have hp := hb; simp only [WKs] at hp; (try have hq := Int.not_le.2 hp); (try have hq := Int.not_lt.2 hp))))))
    | rintro _ _ ⟨rfl, rfl⟩
    | ((fail_if_success refine G.tr ?_); exact G.prop S.p)
    | fail) <;> (try simp only [WKb, ↓reduceIte, Nat.reduceEqDiff, hsn]))))
      all_goals
        refine iX_mk (b := b) (pre := pre ++ [x]) hbig (by (repeat (first | exact TakeA.here | apply TakeA.next)); done) (by (repeat (first | exact TakeA.here | apply TakeA.next)); done) ?_
        refine Tr.ent2 ?_ (h2 _)
        ((try clear hK) <;> (try simp only [WKe, ↓reduceIte, reduceCtorEq, Int.reduceEq, *]) <;> repeat (first | with_reducible exact EntR.done | refine S.e ?_ | (refine S.f ?_ <;> (try simp only [WKe, ↓reduceIte, reduceCtorEq, Int.reduceEq, *])) | with_reducible apply EntR.ex | refine EntR.drop (F := F) ?_ | refine EntR.drop ?_))
    · ((try simp only [WKb, ↓reduceIte, Nat.reduceEqDiff]) <;> (repeat' ((first
    | (refine G.tr ?_; first | refine S.a ?_ | refine S.t ?_ | refine Tr.brK ?_ ?_ | (refine G.call 45 ?_; refine S.c ?_ (h := wstr_ok ?_)) | (refine G.call 46 ?_; refine S.c ?_ (h := wbyte_ok (c := 10) ?_)) | (refine G.call 47 ?_; refine S.c ?_ (h := blen_ok)) | refine S.n fun _ => ?_ | refine S.i fun hix => ?_ | (refine S.g fun hb => ?_; (try simp only [hb])) | (refine S.s (fun hb => ?_) (fun hb => ?_) <;> ((try simp only [hb]) <;> (try (have hp := hb; simp only [WKs] at hp; (try have hq := Int.not_le.2 hp); (try have hq := Int.not_lt.2 hp))))))
    | rintro _ _ ⟨rfl, rfl⟩
    | ((fail_if_success refine G.tr ?_); exact G.prop S.p)
    | fail) <;> (try simp only [WKb, ↓reduceIte, Nat.reduceEqDiff, hsn]))))
      all_goals
        refine iA_mk (pre := pre ++ [x]) (by omega) (by (repeat (first | exact TakeA.here | apply TakeA.next)); done) (by (repeat (first | exact TakeA.here | apply TakeA.next)); done) (by (repeat (first | exact TakeA.here | apply TakeA.next)); done) ?_
        refine Tr.ent2 ?_ (h1 _)
        ((try clear hK) <;> (try simp only [WKe, ↓reduceIte, reduceCtorEq, Int.reduceEq, *]) <;> repeat (first | with_reducible exact EntR.done | refine S.e ?_ | (refine S.f ?_ <;> (try simp only [WKe, ↓reduceIte, reduceCtorEq, Int.reduceEq, *])) | with_reducible apply EntR.ex | refine EntR.drop (F := F) ?_ | refine EntR.drop ?_))
  case hdone =>
    intro D xs hS
    subst hS
    refine iA_open fun h0 => ?_
    have hp2 : printS (linesL (progsD progs) frames) = (textL (linesL (progsD progs) frames), 0) := if_neg (by omega)
    
    ((try simp only [WKb, ↓reduceIte, Nat.reduceEqDiff, endM_r]) <;> (repeat' ((first
    | (refine G.tr ?_; first | refine S.a ?_ | refine S.t ?_ | refine Tr.brK ?_ ?_ | (refine G.call 48 ?_; refine S.c ?_ (h := bstr_ok)) | refine S.n fun _ => ?_ | refine S.i fun hix => ?_ | (refine S.g fun hb => ?_; (try simp only [hb])) | (refine S.s (fun hb => ?_) (fun hb => ?_) <;> ((try simp only [hb]) <;> (try (have hp := hb; simp only [WKs] at hp; (try have hq := Int.not_le.2 hp); (try have hq := Int.not_lt.2 hp))))))
    | rintro _ _ ⟨rfl, rfl⟩
    | ((fail_if_success refine G.tr ?_); exact G.prop S.p)
    | fail) <;> (try simp only [WKb, ↓reduceIte, Nat.reduceEqDiff]))))
    all_goals
      refine Tr.mark (by (repeat (first | exact TakeA.here | apply TakeA.next)); done) ?_
      rw [marksK_nil]
      ((try simp only [WKb, WKh, ↓reduceIte, Nat.reduceEqDiff, Nat.reduceAdd, Nat.reduceSub, Int.reduceEq, Int.reduceLT, Int.reduceLE, WKt]) <;> (repeat' ((first
    | (refine G.tr ?_; first | refine S.a ?_ | refine S.t ?_ | refine Tr.brK ?_ ?_ | (refine G.call 48 ?_; refine S.c ?_ (h := bstr_ok)) | refine S.n fun _ => ?_ | refine S.i fun hix => ?_ | (refine S.g fun hb => ?_; (try simp only [hb])) | (refine S.s (fun hb => ?_) (fun hb => ?_) <;> ((try simp only [hb]) <;> (try (have hp := hb; simp only [WKs] at hp; (try have hq := Int.not_le.2 hp); (try have hq := Int.not_lt.2 hp))))))
    | rintro _ _ ⟨rfl, rfl⟩
    | ((fail_if_success refine G.tr ?_); exact G.prop S.p)
    | fail) <;> (try simp only [WKb, WKh, ↓reduceIte, Nat.reduceEqDiff, Nat.reduceAdd, Nat.reduceSub, Int.reduceEq, Int.reduceLT, Int.reduceLE, WKt]))))
      all_goals
        refine Tr.fin hK ⟨by rw [hp2]; try rfl, rfl⟩ ?_
        ((try clear hK) <;> (try simp only [WKe, *]) <;> repeat (first | with_reducible exact EntR.done | refine S.e ?_ | (refine S.f ?_ <;> (try simp only [WKe, ↓reduceIte, reduceCtorEq, Int.reduceEq, *])) | with_reducible apply EntR.ex | refine EntR.drop (F := F) ?_ | refine EntR.drop ?_))
  case hstop =>
    intro D pre hS
    refine iX_open fun h0 => ?_
    have hp2 : printS (linesL (progsD progs) frames) = ([], 3) := if_pos (by have := textL_pre hS; omega)
    ((try simp only [WKb, ↓reduceIte, Nat.reduceEqDiff, endM_r]) <;> (repeat' ((first
    | (refine G.tr ?_; first | refine S.a ?_ | refine S.t ?_ | refine Tr.brK ?_ ?_ | (refine G.call 48 ?_; refine S.c ?_ (h := bstr_ok)) | refine S.n fun _ => ?_ | refine S.i fun hix => ?_ | (refine S.g fun hb => ?_; (try simp only [hb])) | (refine S.s (fun hb => ?_) (fun hb => ?_) <;> ((try simp only [hb]) <;> (try (have hp := hb; simp only [WKs] at hp; (try have hq := Int.not_le.2 hp); (try have hq := Int.not_lt.2 hp))))))
    | rintro _ _ ⟨rfl, rfl⟩
    | ((fail_if_success refine G.tr ?_); exact G.prop S.p)
    | fail) <;> (try simp only [WKb, WKh, ↓reduceIte, Nat.reduceEqDiff, Nat.reduceAdd, Nat.reduceSub, Int.reduceEq, Int.reduceLT, Int.reduceLE, WKt, WM_seq, WM_block, WM_rf, WM_region, WM_ret, endM_n, endM_r]))))
    all_goals
      refine Tr.mark (by (repeat (first | exact TakeA.here | apply TakeA.next)); done) ?_
      rw [marksK_nil]
      ((try simp only [WKb, WKh, ↓reduceIte, Nat.reduceEqDiff, Nat.reduceAdd, Nat.reduceSub, Int.reduceEq, Int.reduceLT, Int.reduceLE, WKt]) <;> (repeat' ((first
    | (refine G.tr ?_; first | refine S.a ?_ | refine S.t ?_ | refine Tr.brK ?_ ?_ | (refine G.call 48 ?_; refine S.c ?_ (h := bstr_ok)) | refine S.n fun _ => ?_ | refine S.i fun hix => ?_ | (refine S.g fun hb => ?_; (try simp only [hb])) | (refine S.s (fun hb => ?_) (fun hb => ?_) <;> ((try simp only [hb]) <;> (try (have hp := hb; simp only [WKs] at hp; (try have hq := Int.not_le.2 hp); (try have hq := Int.not_lt.2 hp))))))
    | rintro _ _ ⟨rfl, rfl⟩
    | ((fail_if_success refine G.tr ?_); exact G.prop S.p)
    | fail) <;> (try simp only [WKb, WKh, ↓reduceIte, Nat.reduceEqDiff, Nat.reduceAdd, Nat.reduceSub, Int.reduceEq, Int.reduceLT, Int.reduceLE, WKt]))))
      all_goals
        refine Tr.fin hK ⟨by rw [hp2]; try rfl, rfl⟩ ?_
        ((try clear hK) <;> (try simp only [WKe, *]) <;> repeat (first | with_reducible exact EntR.done | refine S.e ?_ | (refine S.f ?_ <;> (try simp only [WKe, ↓reduceIte, reduceCtorEq, Int.reduceEq, *])) | with_reducible apply EntR.ex | refine EntR.drop (F := F) ?_ | refine EntR.drop ?_))

end Go.Proofs.YtgkhjgpgdfbdpaaDoor

namespace Go.Proofs.YtgkhjgpgdfbdpaaDoor
open Go Go.Wk
set_option maxHeartbeats 6400000
set_option maxRecDepth 100000

instance {x1 x2 x3 x4 : Int} : DeA (.agg [.int .i64 x1, .int .i64 x2, .int .i64 x3, .int .i64 x4].toArray) (FrameC.mk x1 x2 x3 x4) := ⟨rfl⟩
attribute [local irreducible] BrK GenK EGenK EUnitK CallK FnK CallV GuardO GuardC CondW opX opK opKc chkR eqR seqK blkK endL WL WD W LoopW BinK Tr drewK resL PickK NotK NilK ExtrK getK Instr.storeAt Instr.loadAt Instr.fieldAt Instr.indexAt Instr.lookup Instr.mapUpdate Instr.box Instr.alloc Instr.build Instr.buildSlice Instr.makeSlice Instr.makeMap Instr.sliceAt Instr.field Instr.index Instr.makeInterface Instr.typeAssert Builtin.len_ Builtin.append_ Builtin.cap_ Builtin.min_ Builtin.max_ Builtin.copy_ Builtin.clear_ convert binOp mp blk rob sl sep ex fact old
attribute [local irreducible] NegK mxV bufT bldB
theorem frameR_ok {u0 : Value} {f : FrameC} [hd : DeA u0 f] (hf : f.ok) : Trip Tryd.prog 68 [u0].toArray [] fun v l' => v = .string (bstr (frameL f)) ∧ l' = [] := by
  obtain rfl := hd.h
  intro F K hK
  simp only [List.nil_append]
  obtain ⟨o1, o2, o3, o4⟩ := hf
  have d1 := decA_len o1
  have d2 := decA_len o2
  have d3 := decA_len o3
  have d4 := decA_len o4
  (refine Tr.enter (rs := [.tmp 2]) mixed fn68 rfl (by simp +arith [Tryd.ntmps68]) fun u => ?_; simp only [cd68, Tryd.f68])
  ((try simp only [WKb, ↓reduceIte, WKt]) <;> (repeat' ((first
    | (refine G.tr ?_; first | refine S.a ?_ | refine S.t ?_ | refine Tr.brK ?_ ?_ | (refine G.call 62 ?_; first | refine S.c ?_ (h := decimalR_ok (by assumption)) | refine S.c ?_ (h := decimalR_ok ?_)) | refine S.n fun _ => ?_ | refine S.i fun hix => ?_ | (refine S.g fun hb => ?_; (try simp only [hb])) | (refine S.s (fun hb => ?_) (fun hb => ?_) <;> ((try simp only [hb]) <;> (try (have hp := hb; simp only [WKs] at hp; (try have hq := Int.not_le.2 hp); (try have hq := Int.not_lt.2 hp))))))
    | rintro _ _ ⟨rfl, rfl⟩
    | ((fail_if_success refine G.tr ?_); exact G.prop S.p)
    | fail) <;> (try simp only [WKb, ↓reduceIte, Nat.reduceEqDiff, pl68]))))
  all_goals
    refine Tr.fin hK ⟨by simp [frameL, frameW, joinA, frameB], rfl⟩ ?_
    ((try clear hK) <;> (try simp only [WKe, *]) <;> repeat (first | with_reducible exact EntR.done | refine S.e ?_ | (refine S.f ?_ <;> (try simp only [WKe, ↓reduceIte, reduceCtorEq, Int.reduceEq, *])) | with_reducible apply EntR.ex | refine EntR.drop (F := F) ?_ | refine EntR.drop ?_))

theorem text29_ok {ro : Bool} {ps fs : SV} {progs : List ProgS} {frames : List FrameC} (hps : ∀ p ∈ progs, ∀ q ∈ p.d, ∀ s ∈ q.d, s.ok) (hfs : ∀ f ∈ frames, f.ok) (hlen : (textL (linesL (progsD progs) frames)).length ≤ 100000000) :
    Trip Tryd.prog 67 [.agg [ps.v, fs.v].toArray].toArray [sl ro ps.v progs, famProg ro progs, sl ro fs.v frames]
      fun v l' => v = .string (bstr (textL (linesL (progsD progs) frames))) ∧ l' = [sl ro ps.v progs, famProg ro progs, sl ro fs.v frames] := by
  intro F K hK
  simp only [List.cons_append, List.nil_append]
  refine Tr.bound (ro := ro) (v := ps.v) (xs := progs) (by (repeat (first | exact Has.here | apply Has.next)); done) fun hbd => ?_
  refine Tr.bound (ro := ro) (v := fs.v) (xs := frames) (by (repeat (first | exact Has.here | apply Has.next)); done) fun hbd3 => ?_
  have hpl : ∀ {pre : List (List UInt8)}, pre <+: linesL (progsD progs) frames → (textL pre).length ≤ 100000000 := fun h => Nat.le_trans (textL_pre h) hlen
  (refine Tr.enter (rs := [.tmp 2]) mixed fn67 rfl (by simp +arith [Tryd.ntmps67]) fun u => ?_; simp only [cd67, Tryd.f67])
  ((try simp only [WKb, ↓reduceIte, WKt]) <;> (repeat' ((first
    | (refine G.tr ?_; first | refine S.a ?_ | refine S.t ?_ | refine Tr.brK ?_ ?_ | (refine G.call 102 ?_; refine S.c ?_ (h := printR_ok ?_)) | (refine G.call 68 ?_; refine S.c ?_ (h := frameR_ok (by assumption))) | refine S.n fun _ => ?_ | refine S.i fun hix => ?_ | (refine S.g fun hb => ?_; (try simp only [hb])) | (refine S.s (fun hb => ?_) (fun hb => ?_) <;> ((try simp only [hb]) <;> (try (have hp := hb; simp only [WKs] at hp; (try have hq := Int.not_le.2 hp); (try have hq := Int.not_lt.2 hp))))))
    | rintro _ _ ⟨rfl, rfl⟩
    | ((fail_if_success refine G.tr ?_); exact G.prop S.p)
    | fail) <;> (try simp only [WKb]))))
  rename_i sb
  refine Tr.loopE (α := Nat) [3, 4] [1, 2] (fun k => [.string (bstr (textL (preA progs k))), .int .i64 k]) (fun _ => [blk sb (.cells [ps.v, fs.v].toArray 48 (0, 0)), sl ro ps.v progs, famProg ro progs, sl ro fs.v frames]) (fun k => k ≤ progs.length) (fun k => progs.length - k) 0 (by (repeat (first | exact TakeL.nil | (apply TakeL.cons; focus ((first | exact TakeA.dupS | exact TakeA.dupF | ((repeat (first | with_reducible exact TakeA.here | exact TakeA.fam (by omega) (by omega) | with_reducible apply TakeA.next)); done) | ((repeat (first | exact TakeA.here | apply TakeA.next)); done) | exact TakeA.famNil | exact TakeA.nilS))) | fail)); done) rfl (Nat.zero_le _) fun k u hk => ?_
  have hla := hpl (preA_pre (frames := frames) k)
  by_cases hin : k < progs.length
  · have hw := wrapSucc (k := k) (by omega)
    have hz : textL (preA progs k) ++ [112, 97, 114, 116, 10] = textL (preB progs k 0) := by rw [← preB_zero, textL_snoc, List.append_assoc]; rfl
    have hlb := hpl (preB_pre (frames := frames) hin 0)
    simp only [List.cons_append, List.nil_append]
    refine Tr.famAt (xs := progs) (k : Int) (by (repeat (first | exact TakeA.here | apply TakeA.next)); done) (by omega) (by omega) ?_
    refine Tr.sep_iff.2 ?_
    refine Tr.bound (ro := ro) (v := (ix progs (k : Int)).s.v) (xs := (ix progs (k : Int)).d) (by (repeat (first | exact Has.here | apply Has.next)); done) fun hbd1 => ?_
    ((try simp only [WKb, ↓reduceIte, Nat.reduceEqDiff]) <;> (repeat' ((first
    | (refine G.tr ?_; first | refine S.a ?_ | refine S.t ?_ | refine Tr.brK ?_ ?_ | (refine G.call 102 ?_; refine S.c ?_ (h := printR_ok ?_)) | (refine G.call 68 ?_; refine S.c ?_ (h := frameR_ok (by assumption))) | refine S.n fun _ => ?_ | refine S.i fun hix => ?_ | (refine S.g fun hb => ?_; (try simp only [hb])) | (refine S.s (fun hb => ?_) (fun hb => ?_) <;> ((try simp only [hb]) <;> (try (have hp := hb; simp only [WKs] at hp; (try have hq := Int.not_le.2 hp); (try have hq := Int.not_lt.2 hp))))))
    | rintro _ _ ⟨rfl, rfl⟩
    | ((fail_if_success refine G.tr ?_); exact G.prop S.p)
    | fail) <;> (try simp only [WKb, ↓reduceIte, Nat.reduceEqDiff, hz]))))
    refine Tr.loopE (α := Nat) [3, 5] [1, 2, 4] (fun j => [.string (bstr (textL (preB progs k j))), .int .i64 j]) (fun j => [blk sb (.cells [ps.v, fs.v].toArray 48 (0, 0)), sl ro ps.v progs, sl ro (ix progs (k : Int)).s.v (ix progs (k : Int)).d, famProc ro (ix progs (k : Int)).d]) (fun j => j ≤ (ix progs (k : Int)).d.length) (fun j => (ix progs (k : Int)).d.length - j) 0 (by (repeat (first | exact TakeL.nil | (apply TakeL.cons; focus ((first | exact TakeA.dupS | exact TakeA.dupF | ((repeat (first | with_reducible exact TakeA.here | exact TakeA.fam (by omega) (by omega) | with_reducible apply TakeA.next)); done) | ((repeat (first | exact TakeA.here | apply TakeA.next)); done) | exact TakeA.famNil | exact TakeA.nilS))) | fail)); done) rfl (Nat.zero_le _) fun j u hj => ?_
    have hlb := hpl (preB_pre (frames := frames) hin j)
    by_cases hin1 : j < (ix progs (k : Int)).d.length
    · have hwk := hw
      have hw := wrapSucc (k := j) (by omega)
      have hz1 : textL (preB progs k j) ++ [112, 114, 111, 99, 10] = textL (preC progs k j 0) := by rw [← preC_zero, textL_snoc, List.append_assoc]; rfl
      simp only [List.cons_append, List.nil_append]
      refine Tr.famAt (xs := (ix progs (k : Int)).d) (j : Int) (by (repeat (first | exact TakeA.here | apply TakeA.next)); done) (by omega) (by omega) ?_
      refine Tr.bound (ro := ro) (v := (ix (ix progs (k : Int)).d (j : Int)).s.v) (xs := (ix (ix progs (k : Int)).d (j : Int)).d) (by (repeat (first | exact Has.here | apply Has.next)); done) fun hbd2 => ?_
      ((try simp only [WKb, ↓reduceIte, Nat.reduceEqDiff]) <;> (repeat' ((first
    | (refine G.tr ?_; first | refine S.a ?_ | refine S.t ?_ | refine Tr.brK ?_ ?_ | (refine G.call 102 ?_; refine S.c ?_ (h := printR_ok ?_)) | (refine G.call 68 ?_; refine S.c ?_ (h := frameR_ok (by assumption))) | refine S.n fun _ => ?_ | refine S.i fun hix => ?_ | (refine S.g fun hb => ?_; (try simp only [hb])) | (refine S.s (fun hb => ?_) (fun hb => ?_) <;> ((try simp only [hb]) <;> (try (have hp := hb; simp only [WKs] at hp; (try have hq := Int.not_le.2 hp); (try have hq := Int.not_lt.2 hp))))))
    | rintro _ _ ⟨rfl, rfl⟩
    | ((fail_if_success refine G.tr ?_); exact G.prop S.p)
    | fail) <;> (try simp only [WKb, ↓reduceIte, Nat.reduceEqDiff, hz1]))))
      refine Tr.loopE (α := Nat) [3, 6] [1, 2, 4, 5] (fun i => [.string (bstr (textL (preC progs k j i))), .int .i64 i]) (fun i => [blk sb (.cells [ps.v, fs.v].toArray 48 (0, 0)), sl ro ps.v progs, sl ro (ix progs (k : Int)).s.v (ix progs (k : Int)).d, sl ro (ix (ix progs (k : Int)).d (j : Int)).s.v (ix (ix progs (k : Int)).d (j : Int)).d]) (fun i => i ≤ (ix (ix progs (k : Int)).d (j : Int)).d.length) (fun i => (ix (ix progs (k : Int)).d (j : Int)).d.length - i) 0 (by (repeat (first | exact TakeL.nil | (apply TakeL.cons; focus ((first | exact TakeA.dupS | exact TakeA.dupF | ((repeat (first | with_reducible exact TakeA.here | exact TakeA.fam (by omega) (by omega) | with_reducible apply TakeA.next)); done) | ((repeat (first | exact TakeA.here | apply TakeA.next)); done) | exact TakeA.famNil | exact TakeA.nilS))) | fail)); done) rfl (Nat.zero_le _) fun i u hi => ?_
      have hlc := hpl (preC_pre (frames := frames) hin hin1 i)
      by_cases hin2 : i < (ix (ix progs (k : Int)).d (j : Int)).d.length
      · have hwj := hw
        have hw := wrapSucc (k := i) (by omega)
        have hxo : (ix (ix (ix progs (k : Int)).d (j : Int)).d (i : Int)).ok := hps _ (ix_mem hin) _ (ix_mem hin1) _ (ix_mem hin2)
        have hxl : (printA (ix (ix (ix progs (k : Int)).d (j : Int)).d (i : Int))).length ≤ 1000 := Nat.le_trans (printA_len hxo) (by decide)
        have hz2 : textL (preC progs k j i) ++ printA (ix (ix (ix progs (k : Int)).d (j : Int)).d (i : Int)) ++ [10] = textL (preC progs k j (i + 1)) := by rw [← preC_next hin2, textL_snoc]
        ((try simp only [WKb, ↓reduceIte, Nat.reduceEqDiff]) <;> (repeat' ((first
    | (refine G.tr ?_; first | refine S.a ?_ | refine S.t ?_ | refine Tr.brK ?_ ?_ | (refine G.call 102 ?_; refine S.c ?_ (h := printR_ok ?_)) | (refine G.call 68 ?_; refine S.c ?_ (h := frameR_ok (by assumption))) | refine S.n fun _ => ?_ | refine S.i fun hix => ?_ | (refine S.g fun hb => ?_; (try simp only [hb])) | (refine S.s (fun hb => ?_) (fun hb => ?_) <;> ((try simp only [hb]) <;> (try (have hp := hb; simp only [WKs] at hp; (try have hq := Int.not_le.2 hp); (try have hq := Int.not_lt.2 hp))))))
    | rintro _ _ ⟨rfl, rfl⟩
    | ((fail_if_success refine G.tr ?_); exact G.prop S.p)
    | fail) <;> (try simp only [WKb, ↓reduceIte, Nat.reduceEqDiff, hw, hz2]))))
        all_goals (apply Tr.againE (i + 1); (focus (simp only [WKb, ↓reduceIte, Nat.reduceEqDiff])); (focus ((try simp only [WKb, ↓reduceIte, Nat.reduceEqDiff]); (all_goals ((repeat (refine cons_eq (by first | rfl | (simp [*]; done)) ?_)); rfl)); done)); (focus (first | omega | assumption | (simp only []; omega) | (refine ⟨by omega, by assumption⟩) | (simp only []; refine ⟨by omega, by assumption⟩) | ((try simp only []); (repeat' (first | omega | assumption | refine And.intro ?_ ?_)); done))); (focus (first | omega | (simp only []; omega))); (focus (((try clear hK) <;> (try simp only [WKe, *]) <;> repeat (first | with_reducible exact EntR.done | refine S.e ?_ | (refine S.f ?_ <;> (try simp only [WKe, ↓reduceIte, reduceCtorEq, Int.reduceEq, *])) | with_reducible apply EntR.ex | refine EntR.drop (F := F) ?_ | refine EntR.drop ?_)))))
      · have hie : i = (ix (ix progs (k : Int)).d (j : Int)).d.length := by omega
        subst hie
        have hz3 := preB_next (progs := progs) hin1
        ((try simp only [WKb, ↓reduceIte, Nat.reduceEqDiff, hz3]) <;> (repeat' ((first
    | (refine G.tr ?_; first | refine S.a ?_ | refine S.t ?_ | refine Tr.brK ?_ ?_ | (refine G.call 102 ?_; refine S.c ?_ (h := printR_ok ?_)) | (refine G.call 68 ?_; refine S.c ?_ (h := frameR_ok (by assumption))) | refine S.n fun _ => ?_ | refine S.i fun hix => ?_ | (refine S.g fun hb => ?_; (try simp only [hb])) | (refine S.s (fun hb => ?_) (fun hb => ?_) <;> ((try simp only [hb]) <;> (try (have hp := hb; simp only [WKs] at hp; (try have hq := Int.not_le.2 hp); (try have hq := Int.not_lt.2 hp))))))
    | rintro _ _ ⟨rfl, rfl⟩
    | ((fail_if_success refine G.tr ?_); exact G.prop S.p)
    | fail) <;> (try simp only [WKb, ↓reduceIte, Nat.reduceEqDiff, hw]))))
        all_goals
          refine foldProc hin1 (by (repeat (first | exact TakeA.here | apply TakeA.next)); done) (by (repeat (first | exact TakeA.here | apply TakeA.next)); done) ?_
          (apply Tr.againE (j + 1); (focus (simp only [WKb, ↓reduceIte, Nat.reduceEqDiff])); (focus ((try simp only [WKb, ↓reduceIte, Nat.reduceEqDiff]); (all_goals ((repeat (refine cons_eq (by first | rfl | (simp [*]; done)) ?_)); rfl)); done)); (focus (first | omega | assumption | (simp only []; omega) | (refine ⟨by omega, by assumption⟩) | (simp only []; refine ⟨by omega, by assumption⟩) | ((try simp only []); (repeat' (first | omega | assumption | refine And.intro ?_ ?_)); done))); (focus (first | omega | (simp only []; omega))); (focus (((try clear hK) <;> (try simp only [WKe, *]) <;> repeat (first | with_reducible exact EntR.done | refine S.e ?_ | (refine S.f ?_ <;> (try simp only [WKe, ↓reduceIte, reduceCtorEq, Int.reduceEq, *])) | with_reducible apply EntR.ex | refine EntR.drop (F := F) ?_ | refine EntR.drop ?_)))))
    · have hje : j = (ix progs (k : Int)).d.length := by omega
      subst hje
      have hz3 := preA_next hin
      ((try simp only [WKb, ↓reduceIte, Nat.reduceEqDiff, hz3]) <;> (repeat' ((first
    | (refine G.tr ?_; first | refine S.a ?_ | refine S.t ?_ | refine Tr.brK ?_ ?_ | (refine G.call 102 ?_; refine S.c ?_ (h := printR_ok ?_)) | (refine G.call 68 ?_; refine S.c ?_ (h := frameR_ok (by assumption))) | refine S.n fun _ => ?_ | refine S.i fun hix => ?_ | (refine S.g fun hb => ?_; (try simp only [hb])) | (refine S.s (fun hb => ?_) (fun hb => ?_) <;> ((try simp only [hb]) <;> (try (have hp := hb; simp only [WKs] at hp; (try have hq := Int.not_le.2 hp); (try have hq := Int.not_lt.2 hp))))))
    | rintro _ _ ⟨rfl, rfl⟩
    | ((fail_if_success refine G.tr ?_); exact G.prop S.p)
    | fail) <;> (try simp only [WKb, ↓reduceIte, Nat.reduceEqDiff, hw]))))
      all_goals
        refine foldProg hin (by (repeat (first | exact TakeA.here | apply TakeA.next)); done) (by (repeat (first | exact TakeA.here | apply TakeA.next)); done) (by (repeat (first | exact TakeA.here | apply TakeA.next)); done) ?_
        (apply Tr.againE (k + 1); (focus (simp only [WKb, ↓reduceIte, Nat.reduceEqDiff])); (focus ((try simp only [WKb, ↓reduceIte, Nat.reduceEqDiff]); (all_goals ((repeat (refine cons_eq (by first | rfl | (simp [*]; done)) ?_)); rfl)); done)); (focus (first | omega | assumption | (simp only []; omega) | (refine ⟨by omega, by assumption⟩) | (simp only []; refine ⟨by omega, by assumption⟩) | ((try simp only []); (repeat' (first | omega | assumption | refine And.intro ?_ ?_)); done))); (focus (first | omega | (simp only []; omega))); (focus (((try clear hK) <;> (try simp only [WKe, *]) <;> repeat (first | with_reducible exact EntR.done | refine S.e ?_ | (refine S.f ?_ <;> (try simp only [WKe, ↓reduceIte, reduceCtorEq, Int.reduceEq, *])) | with_reducible apply EntR.ex | refine EntR.drop (F := F) ?_ | refine EntR.drop ?_)))))
  · have hke : k = progs.length := by omega
    subst hke
    have hf0 := preF_zero (progs := progs) (frames := frames)
    ((try simp only [WKb, ↓reduceIte, Nat.reduceEqDiff]) <;> (repeat' ((first
    | (refine G.tr ?_; first | refine S.a ?_ | refine S.t ?_ | refine Tr.brK ?_ ?_ | (refine G.call 102 ?_; refine S.c ?_ (h := printR_ok ?_)) | (refine G.call 68 ?_; refine S.c ?_ (h := frameR_ok (by assumption))) | refine S.n fun _ => ?_ | refine S.i fun hix => ?_ | (refine S.g fun hb => ?_; (try simp only [hb])) | (refine S.s (fun hb => ?_) (fun hb => ?_) <;> ((try simp only [hb]) <;> (try (have hp := hb; simp only [WKs] at hp; (try have hq := Int.not_le.2 hp); (try have hq := Int.not_lt.2 hp))))))
    | rintro _ _ ⟨rfl, rfl⟩
    | ((fail_if_success refine G.tr ?_); exact G.prop S.p)
    | fail) <;> (try simp only [WKb, ↓reduceIte, Nat.reduceEqDiff]))))
    rw [← hf0]
    refine Tr.loopE (α := Nat) [3, 7] [1, 2] (fun m => [.string (bstr (textL (preF progs frames m))), .int .i64 m]) (fun m => [blk sb (.cells [ps.v, fs.v].toArray 48 (0, 0)), sl ro fs.v frames]) (fun m => m ≤ frames.length) (fun m => frames.length - m) 0 (by (repeat (first | exact TakeL.nil | (apply TakeL.cons; focus ((first | exact TakeA.dupS | exact TakeA.dupF | ((repeat (first | with_reducible exact TakeA.here | exact TakeA.fam (by omega) (by omega) | with_reducible apply TakeA.next)); done) | ((repeat (first | exact TakeA.here | apply TakeA.next)); done) | exact TakeA.famNil | exact TakeA.nilS))) | fail)); done) rfl (Nat.zero_le _) fun m u hm => ?_
    have hlf := hpl (preF_pre (progs := progs) (frames := frames) m)
    by_cases hin4 : m < frames.length
    · have hw := wrapSucc (k := m) (by omega)
      have hfo := hfs _ (ix_mem hin4)
      have hfl := frameL_len hfo
      have hz4 : textL (preF progs frames m) ++ frameL (ix frames (m : Int)) ++ [10] = textL (preF progs frames (m + 1)) := by rw [← preF_next hin4, textL_snoc]
      ((try simp only [WKb, ↓reduceIte, Nat.reduceEqDiff]) <;> (repeat' ((first
    | (refine G.tr ?_; first | refine S.a ?_ | refine S.t ?_ | refine Tr.brK ?_ ?_ | (refine G.call 102 ?_; refine S.c ?_ (h := printR_ok ?_)) | (refine G.call 68 ?_; refine S.c ?_ (h := frameR_ok (by assumption))) | refine S.n fun _ => ?_ | refine S.i fun hix => ?_ | (refine S.g fun hb => ?_; (try simp only [hb])) | (refine S.s (fun hb => ?_) (fun hb => ?_) <;> ((try simp only [hb]) <;> (try (have hp := hb; simp only [WKs] at hp; (try have hq := Int.not_le.2 hp); (try have hq := Int.not_lt.2 hp))))))
    | rintro _ _ ⟨rfl, rfl⟩
    | ((fail_if_success refine G.tr ?_); exact G.prop S.p)
    | fail) <;> (try simp only [WKb, ↓reduceIte, Nat.reduceEqDiff, hw, hz4]))))
      all_goals
        clear hf0
        (apply Tr.againE (m + 1); (focus (simp only [WKb, ↓reduceIte, Nat.reduceEqDiff])); (focus ((try simp only [WKb, ↓reduceIte, Nat.reduceEqDiff]); (all_goals ((repeat (refine cons_eq (by first | rfl | (simp [*]; done)) ?_)); rfl)); done)); (focus (first | omega | assumption | (simp only []; omega) | (refine ⟨by omega, by assumption⟩) | (simp only []; refine ⟨by omega, by assumption⟩) | ((try simp only []); (repeat' (first | omega | assumption | refine And.intro ?_ ?_)); done))); (focus (first | omega | (simp only []; omega))); (focus (((try clear hK) <;> (try simp only [WKe, *]) <;> repeat (first | with_reducible exact EntR.done | refine S.e ?_ | (refine S.f ?_ <;> (try simp only [WKe, ↓reduceIte, reduceCtorEq, Int.reduceEq, *])) | with_reducible apply EntR.ex | refine EntR.drop (F := F) ?_ | refine EntR.drop ?_)))))
    · have hme : m = frames.length := by omega
      subst hme
      have hz5 := preF_end (progs := progs) (frames := frames)
      ((try simp only [WKb, ↓reduceIte, Nat.reduceEqDiff, hz5]) <;> (repeat' ((first
    | (refine G.tr ?_; first | refine S.a ?_ | refine S.t ?_ | refine Tr.brK ?_ ?_ | (refine G.call 102 ?_; refine S.c ?_ (h := printR_ok ?_)) | (refine G.call 68 ?_; refine S.c ?_ (h := frameR_ok (by assumption))) | refine S.n fun _ => ?_ | refine S.i fun hix => ?_ | (refine S.g fun hb => ?_; (try simp only [hb])) | (refine S.s (fun hb => ?_) (fun hb => ?_) <;> ((try simp only [hb]) <;> (try (have hp := hb; simp only [WKs] at hp; (try have hq := Int.not_le.2 hp); (try have hq := Int.not_lt.2 hp))))))
    | rintro _ _ ⟨rfl, rfl⟩
    | ((fail_if_success refine G.tr ?_); exact G.prop S.p)
    | fail) <;> (try simp only [WKb, ↓reduceIte, Nat.reduceEqDiff]))))
      all_goals
        refine Tr.fin hK ⟨rfl, rfl⟩ ?_
        clear hf0
        ((try clear hK) <;> (try simp only [WKe, *]) <;> repeat (first | with_reducible exact EntR.done | refine S.e ?_ | (refine S.f ?_ <;> (try simp only [WKe, ↓reduceIte, reduceCtorEq, Int.reduceEq, *])) | with_reducible apply EntR.ex | refine EntR.drop (F := F) ?_ | refine EntR.drop ?_))

theorem print29_ok {ro : Bool} {ps fs : SV} {progs : List ProgS} {frames : List FrameC} (hps : ∀ p ∈ progs, ∀ q ∈ p.d, ∀ s ∈ q.d, s.ok) (hfs : ∀ f ∈ frames, f.ok) (hlen : (textL (linesL (progsD progs) frames)).length ≤ 100000000) :
    Trip Tryd.prog 31 [.agg [ps.v, fs.v].toArray].toArray [sl ro ps.v progs, famProg ro progs, sl ro fs.v frames]
      fun v l' => v = .tuple #[.string (bstr (printS (linesL (progsD progs) frames)).1), .int .i64 (printS (linesL (progsD progs) frames)).2] ∧ l' = [sl ro ps.v progs, famProg ro progs, sl ro fs.v frames] := by
  intro F K hK
  simp only [List.cons_append, List.nil_append]
  (refine Tr.enter (rs := [.tmp 2, .tmp 3]) mixed fn31 rfl (by simp +arith [Tryd.ntmps31]) fun u => ?_; simp only [cd31, Tryd.f31])
  by_cases hbig : 65536 < (textL (linesL (progsD progs) frames)).length
  · have hp2 : printS (linesL (progsD progs) frames) = ([], 3) := if_pos hbig
    ((try simp only [WKb, ↓reduceIte, WKt]) <;> (repeat' ((first
    | (refine G.tr ?_; first | refine S.a ?_ | refine S.t ?_ | refine Tr.brK ?_ ?_ | (refine G.call 67 ?_; refine S.c ?_ (h := text29_ok (by assumption) (by assumption) (by assumption))) | refine S.n fun _ => ?_ | refine S.i fun hix => ?_ | (refine S.g fun hb => ?_; (try simp only [hb])) | (refine S.s (fun hb => ?_) (fun hb => ?_) <;> ((try simp only [hb]) <;> (try (have hp := hb; simp only [WKs] at hp; (try have hq := Int.not_le.2 hp); (try have hq := Int.not_lt.2 hp))))))
    | rintro _ _ ⟨rfl, rfl⟩
    | ((fail_if_success refine G.tr ?_); exact G.prop S.p)
    | fail) <;> (try simp only [WKb, ↓reduceIte, Nat.reduceEqDiff, WKt]))))
    all_goals
      refine Tr.fin hK ⟨by rw [hp2], rfl⟩ ?_
      ((try clear hK) <;> (try simp only [WKe, *]) <;> repeat (first | with_reducible exact EntR.done | refine S.e ?_ | (refine S.f ?_ <;> (try simp only [WKe, ↓reduceIte, reduceCtorEq, Int.reduceEq, *])) | with_reducible apply EntR.ex | refine EntR.drop (F := F) ?_ | refine EntR.drop ?_))
  · have hp2 : printS (linesL (progsD progs) frames) = (textL (linesL (progsD progs) frames), 0) := if_neg hbig
    ((try simp only [WKb, ↓reduceIte, WKt]) <;> (repeat' ((first
    | (refine G.tr ?_; first | refine S.a ?_ | refine S.t ?_ | refine Tr.brK ?_ ?_ | (refine G.call 67 ?_; refine S.c ?_ (h := text29_ok (by assumption) (by assumption) (by assumption))) | refine S.n fun _ => ?_ | refine S.i fun hix => ?_ | (refine S.g fun hb => ?_; (try simp only [hb])) | (refine S.s (fun hb => ?_) (fun hb => ?_) <;> ((try simp only [hb]) <;> (try (have hp := hb; simp only [WKs] at hp; (try have hq := Int.not_le.2 hp); (try have hq := Int.not_lt.2 hp))))))
    | rintro _ _ ⟨rfl, rfl⟩
    | ((fail_if_success refine G.tr ?_); exact G.prop S.p)
    | fail) <;> (try simp only [WKb, ↓reduceIte, Nat.reduceEqDiff, WKt]))))
    all_goals
      refine Tr.fin hK ⟨by rw [hp2], rfl⟩ ?_
      ((try clear hK) <;> (try simp only [WKe, *]) <;> repeat (first | with_reducible exact EntR.done | refine S.e ?_ | (refine S.f ?_ <;> (try simp only [WKe, ↓reduceIte, reduceCtorEq, Int.reduceEq, *])) | with_reducible apply EntR.ex | refine EntR.drop (F := F) ?_ | refine EntR.drop ?_))

end Go.Proofs.YtgkhjgpgdfbdpaaDoor
