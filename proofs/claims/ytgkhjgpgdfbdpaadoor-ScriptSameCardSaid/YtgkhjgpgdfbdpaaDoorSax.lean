import Derived.Test.YtgkhjgpgdfbdpaaDoorXM
import Derived.Test.YtgkhjgpgdfbdpaaDoorYcx
import Derived.Test.YtgkhjgpgdfbdpaaDoorWkZ
namespace Go.Proofs.YtgkhjgpgdfbdpaaDoor
open Go Go.Wk
set_option maxHeartbeats 6400000
set_option maxRecDepth 100000
/-! ### scripts -/
structure FrameC where
  reading : Int
  mode : Int
  drift : Int
  choice : Int
  deriving DecidableEq
instance : Inhabited FrameC := ⟨⟨0, 0, 0, 0⟩⟩
instance : En FrameC := ⟨fun s => [.int .i64 s.reading, .int .i64 s.mode, .int .i64 s.drift, .int .i64 s.choice], 4, fun _ => rfl, fun _ => rfl, by decide⟩
def FrameC.ok (f : FrameC) : Prop := I64 f.reading ∧ I64 f.mode ∧ I64 f.drift ∧ I64 f.choice
def partB : List UInt8 := [112, 97, 114, 116]
def procB : List UInt8 := [112, 114, 111, 99]
def frameB : List UInt8 := [102, 114, 97, 109, 101]
def frameW (f : FrameC) : List (List UInt8) := [frameB, decA f.reading, decA f.mode, decA f.drift, decA f.choice]
def frameL (f : FrameC) : List UInt8 := joinA 32 (frameW f)
def procL (s : List StepC) : List (List UInt8) := procB :: s.map printA
def progL (p : List (List StepC)) : List (List UInt8) := partB :: p.flatMap procL
def linesL (progs : List (List (List StepC))) (frames : List FrameC) : List (List UInt8) := progs.flatMap progL ++ frames.map frameL
def textL (l : List (List UInt8)) : List UInt8 := l.flatMap fun x => x ++ [10]
theorem textL_snoc (l : List (List UInt8)) (x : List UInt8) : textL (l ++ [x]) = textL l ++ x ++ [10] := by simp [textL]
theorem textL_app (l r : List (List UInt8)) : textL (l ++ r) = textL l ++ textL r := by simp [textL]
theorem textL_pre {l r : List (List UInt8)} (h : l <+: r) : (textL l).length ≤ (textL r).length := by
  obtain ⟨t, rfl⟩ := h
  rw [textL_app, List.length_append]; omega
theorem frameL_len {f : FrameC} (h : f.ok) : (frameL f).length ≤ 105 := by
  obtain ⟨h1, h2, h3, h4⟩ := h
  have := joinA_bound (c := 32) (n := 20) (ws := frameW f) fun w hw => by
    simp only [frameW, List.mem_cons, List.mem_nil_iff, or_false] at hw
    rcases hw with rfl | rfl | rfl | rfl | rfl
    · decide
    · exact decA_len h1
    · exact decA_len h2
    · exact decA_len h3
    · exact decA_len h4
  have hl : (frameW f).length = 5 := rfl
  unfold frameL; omega
/-! ### how a script lies -/
abbrev ProcS := SL StepC
abbrev ProgS := SL ProcS
abbrev famProc (ro : Bool) (ps : List ProcS) : Asrt := fam (fun x : ProcS => sl ro x.s.v x.d) ps
abbrev famProg (ro : Bool) (ps : List ProgS) : Asrt := fam (fun x : ProgS => sep (sl ro x.s.v x.d) (famProc ro x.d)) ps
def progsD (ps : List ProgS) : List (List (List StepC)) := ps.map fun p => p.d.map SL.d
theorem foldProc {ro : Bool} {xs : List ProcS} {k : Nat} {l l1 l2 : List Asrt} {X : WP} (hk : k < xs.length) (h1 : TakeA l (sl ro (ix xs (k : Int)).s.v (ix xs (k : Int)).d) l1) (h2 : TakeA l1 (fam (fun x : ProcS => sl ro x.s.v x.d) (xs.eraseIdx (k : Int).toNat)) l2) (h : Tr (famProc ro xs :: l2) X) : Tr l X := by
  have hf := fam_in (A := fun x : ProcS => sl ro x.s.v x.d) (xs := xs) (i := k) (x := ix xs (k : Int)) (l := l2) hk
  have hs : xs.set k (ix xs (k : Int)) = xs := by
    have := ix_some (xs := xs) (k := (k : Int)) (by omega) (by omega)
    rw [Int.toNat_natCast] at this
    obtain ⟨hlt, he⟩ := List.getElem?_eq_some_iff.1 this
    rw [← he]; simp
  rw [hs] at hf
  exact h.imp (Imp.trans h1 (Imp.trans (Imp.cons h2) hf))
theorem foldProg {ro : Bool} {xs : List ProgS} {k : Nat} {l l1 l2 l3 : List Asrt} {X : WP} (hk : k < xs.length) (h1 : TakeA l (sl ro (ix xs (k : Int)).s.v (ix xs (k : Int)).d) l1) (h3 : TakeA l1 (famProc ro (ix xs (k : Int)).d) l3) (h2 : TakeA l3 (fam (fun x : ProgS => sep (sl ro x.s.v x.d) (famProc ro x.d)) (xs.eraseIdx (k : Int).toNat)) l2) (h : Tr (famProg ro xs :: l2) X) : Tr l X := by
  have hf := fam_in (A := fun x : ProgS => sep (sl ro x.s.v x.d) (famProc ro x.d)) (xs := xs) (i := k) (x := ix xs (k : Int)) (l := l2) hk
  have hs : xs.set k (ix xs (k : Int)) = xs := by
    have := ix_some (xs := xs) (k := (k : Int)) (by omega) (by omega)
    rw [Int.toNat_natCast] at this
    obtain ⟨hlt, he⟩ := List.getElem?_eq_some_iff.1 this
    rw [← he]; simp
  rw [hs] at hf
  exact h.imp (Imp.trans h1 (Imp.trans (Imp.cons h3) (Imp.trans Imp.sepI (Imp.trans (Imp.cons h2) hf))))
theorem ix_mem {α : Type} [Inhabited α] {xs : List α} {k : Nat} (h : k < xs.length) : ix xs (k : Int) ∈ xs := List.mem_of_getElem? (ix_some (by omega) (by omega))
def preA (progs : List ProgS) (k : Nat) : List (List UInt8) := (progsD (progs.take k)).flatMap progL
def preB (progs : List ProgS) (k j : Nat) : List (List UInt8) := preA progs k ++ partB :: (((ix progs (k : Int)).d.take j).map SL.d).flatMap procL
def preC (progs : List ProgS) (k j i : Nat) : List (List UInt8) := preB progs k j ++ procB :: ((ix (ix progs (k : Int)).d (j : Int)).d.take i).map printA
def preF (progs : List ProgS) (frames : List FrameC) (m : Nat) : List (List UInt8) := preA progs progs.length ++ (frames.take m).map frameL
theorem take_ix {α : Type} [Inhabited α] {xs : List α} {k : Nat} (h : k < xs.length) : xs.take (k + 1) = xs.take k ++ [ix xs (k : Int)] := by
  rw [List.take_succ_eq_append_getElem h]
  have := ix_some (xs := xs) (k := (k : Int)) (by omega) (by omega)
  rw [Int.toNat_natCast, List.getElem?_eq_getElem h] at this
  rw [Option.some.inj this]
theorem preA_next {progs : List ProgS} {k : Nat} (h : k < progs.length) : preB progs k (ix progs (k : Int)).d.length = preA progs (k + 1) := by
  unfold preB preA progsD
  rw [take_ix h, List.take_length]
  simp [progL]
theorem preB_zero {progs : List ProgS} {k : Nat} : preA progs k ++ [partB] = preB progs k 0 := by simp [preB]
theorem preB_next {progs : List ProgS} {k j : Nat} (h : j < (ix progs (k : Int)).d.length) : preC progs k j (ix (ix progs (k : Int)).d (j : Int)).d.length = preB progs k (j + 1) := by
  unfold preC preB
  rw [take_ix h, List.take_length]
  simp [procL]
theorem preC_zero {progs : List ProgS} {k j : Nat} : preB progs k j ++ [procB] = preC progs k j 0 := by simp [preC]
theorem preC_next {progs : List ProgS} {k j i : Nat} (h : i < (ix (ix progs (k : Int)).d (j : Int)).d.length) : preC progs k j i ++ [printA (ix (ix (ix progs (k : Int)).d (j : Int)).d (i : Int))] = preC progs k j (i + 1) := by
  unfold preC
  rw [take_ix h]
  simp
theorem preF_next {progs : List ProgS} {frames : List FrameC} {m : Nat} (h : m < frames.length) : preF progs frames m ++ [frameL (ix frames (m : Int))] = preF progs frames (m + 1) := by
  unfold preF
  rw [take_ix h]
  simp
theorem preF_end {progs : List ProgS} {frames : List FrameC} : preF progs frames frames.length = linesL (progsD progs) frames := by
  unfold preF preA linesL
  rw [List.take_length, List.take_length]
theorem preF_zero {progs : List ProgS} {frames : List FrameC} : preF progs frames 0 = preA progs progs.length := by simp [preF]
theorem flatMap_pre {α β : Type} (f : α → List β) (l r : List α) : l.flatMap f <+: (l ++ r).flatMap f := by rw [List.flatMap_append]; exact List.prefix_append _ _
theorem preA_pre {progs : List ProgS} {frames : List FrameC} (k : Nat) : preA progs k <+: linesL (progsD progs) frames := by
  unfold preA linesL
  have h : progsD progs = progsD (progs.take k) ++ progsD (progs.drop k) := by
    unfold progsD; rw [← List.map_append, List.take_append_drop]
  have h2 := flatMap_pre progL (progsD (progs.take k)) (progsD (progs.drop k))
  rw [← h] at h2
  exact h2.trans (List.prefix_append _ _)
theorem preB_pre {progs : List ProgS} {frames : List FrameC} {k : Nat} (h : k < progs.length) (j : Nat) : preB progs k j <+: linesL (progsD progs) frames := by
  refine List.IsPrefix.trans ?_ (preA_pre (k + 1))
  rw [← preA_next h]
  unfold preB
  refine (List.prefix_append_right_inj _).2 ?_
  refine (List.prefix_cons_inj _).2 ?_
  rw [List.take_length]
  have := flatMap_pre procL (((ix progs (k : Int)).d.take j).map SL.d) (((ix progs (k : Int)).d.drop j).map SL.d)
  rw [← List.map_append, List.take_append_drop] at this
  exact this
theorem preC_pre {progs : List ProgS} {frames : List FrameC} {k j : Nat} (h : k < progs.length) (h2 : j < (ix progs (k : Int)).d.length) (i : Nat) : preC progs k j i <+: linesL (progsD progs) frames := by
  refine List.IsPrefix.trans ?_ (preB_pre h (j + 1))
  rw [← preB_next h2]
  unfold preC
  refine (List.prefix_append_right_inj _).2 ?_
  refine (List.prefix_cons_inj _).2 ?_
  rw [List.take_length]
  have := List.prefix_append (((ix (ix progs (k : Int)).d (j : Int)).d.take i).map printA) (((ix (ix progs (k : Int)).d (j : Int)).d.drop i).map printA)
  rw [← List.map_append, List.take_append_drop] at this
  exact this
theorem preF_pre {progs : List ProgS} {frames : List FrameC} (m : Nat) : preF progs frames m <+: linesL (progsD progs) frames := by
  rw [← preF_end]
  unfold preF
  refine (List.prefix_append_right_inj _).2 ?_
  rw [List.take_length]
  have := List.prefix_append ((frames.take m).map frameL) ((frames.drop m).map frameL)
  rw [← List.map_append, List.take_append_drop] at this
  exact this
theorem pre_lt {pre : List (List UInt8)} {x : List UInt8} {l : List (List UInt8)} (h : pre ++ [x] <+: l) : pre.length < l.length := by
  have := h.length_le
  rw [List.length_append, List.length_singleton] at this; omega
instance : ElT 45 ProgS := ⟨⟩
instance : ElT 52 ProcS := ⟨⟩
instance : ElT 53 StepC := ⟨⟩
instance : ElT 46 FrameC := ⟨⟩
end Go.Proofs.YtgkhjgpgdfbdpaaDoor

namespace Go.Proofs.YtgkhjgpgdfbdpaaDoor
open Go Go.Wk
set_option maxHeartbeats 6400000
set_option maxRecDepth 100000
theorem CallV_y0 {P : Program} {l : Nat} {args : List Value} {K : Value → WP} {o : WP} : CallV P (.func (.yield l) #[] #[]) args.toArray K o = YieldK P l args.toArray K := by
  rw [CallV_y]; simp

def encS (x : List UInt8) : Array Value := [.string (bstr x)].toArray
theorem tscript_dec {n : Int} (hn : I64 n) : Trip Tryd.prog 101 [.int .i64 n].toArray [] fun v l' => v = .string (bstr (decA n)) ∧ l' = [] := decimalC_ok hn

attribute [local irreducible] BrK GenK EGenK EUnitK CallK FnK CallV GuardO GuardC CondW opX opK opKc chkR eqR seqK blkK endL WL WD W LoopW BinK Tr drewK resL PickK NotK NilK ExtrK getK Instr.storeAt Instr.loadAt Instr.fieldAt Instr.indexAt Instr.lookup Instr.mapUpdate Instr.box Instr.alloc Instr.build Instr.buildSlice Instr.makeSlice Instr.makeMap Instr.sliceAt Instr.field Instr.index Instr.makeInterface Instr.typeAssert Builtin.len_ Builtin.append_ Builtin.cap_ Builtin.min_ Builtin.max_ Builtin.copy_ Builtin.clear_ convert binOp mp blk rob sl sep ex fact old
attribute [local irreducible] NegK mxV bufT bldB
theorem lines_ok {ps fs : SV} : Trip Tryd.prog 66 [.agg [ps.v, fs.v].toArray].toArray [] fun v l' => ∃ b, v = .func (.func 99) #[] [.pointer (some ⟨b, 0, none⟩)].toArray ∧ l' = [blk b (.cells [ps.v, fs.v].toArray 48 (0, 0))] := by
  intro F K hK
  simp only [List.nil_append]
  (refine Tr.enter (rs := [.tmp 2]) mixed fn66 rfl (by simp +arith [Tryd.ntmps66]) fun u => ?_; simp only [cd66, Tryd.f66])
  ((try simp only [WKb, ↓reduceIte]) <;> (repeat' ((first
    | (refine G.tr ?_; first | refine S.a ?_ | refine S.t ?_ | refine Tr.brK ?_ ?_ | refine S.n fun _ => ?_ | refine S.i fun hix => ?_ | (refine S.g fun hb => ?_; (try simp only [hb])) | (refine S.s (fun hb => ?_) (fun hb => ?_) <;> ((try simp only [hb]) <;> (try (have hp := hb; simp only [WKs] at hp; (try have hq := Int.not_le.2 hp); (try have hq := Int.not_lt.2 hp))))))
    | ((fail_if_success refine G.tr ?_); exact G.prop S.p)
    | fail) <;> (try simp only [WKb, ↓reduceIte, Nat.reduceEqDiff]))))
  all_goals
    apply Tr.fin hK ⟨_, rfl, rfl⟩
    ((try clear hK) <;> (try simp only [WKe, *]) <;> repeat (first | with_reducible exact EntR.done | refine S.e ?_ | (refine S.f ?_ <;> (try simp only [WKe, ↓reduceIte, reduceCtorEq, Int.reduceEq, *])) | with_reducible apply EntR.ex | refine EntR.drop (F := F) ?_ | refine EntR.drop ?_))

theorem iter_ok {ro : Bool} {ps fs : SV} {progs : List ProgS} {frames : List FrameC} {b : Nat} (hps : ∀ p ∈ progs, ∀ q ∈ p.d, ∀ s ∈ q.d, s.ok) (hfs : ∀ f ∈ frames, f.ok) :
    IterT Tryd.prog 99 [.pointer (some ⟨b, 0, none⟩)] encS (fun x => x.length ≤ 1000) [blk b (.cells [ps.v, fs.v].toArray 48 (0, 0)), sl ro ps.v progs, famProg ro progs, sl ro fs.v frames]
      (fun xs => xs = linesL (progsD progs) frames) (fun pre => pre <+: linesL (progsD progs) frames) (linesL (progsD progs) frames).length := by
  intro L J Jx hR F K hdone hstop
  simp only [List.cons_append, List.nil_append] at hdone hstop ⊢
  have fin : ∀ (l : List Asrt) (pre : List (List UInt8)), pre <+: linesL (progsD progs) frames → EntR [] l (Jx pre :: blk b (.cells [ps.v, fs.v].toArray 48 (0, 0)) :: sl ro ps.v progs :: famProg ro progs :: sl ro fs.v frames :: F) → Tr l (K (.tuple #[])) := fun l pre h he => Tr.ent2 he (hstop _ pre h)
  (refine Tr.enter (rs := []) mixed fn99 rfl (by simp +arith [Tryd.ntmps99]) fun u => ?_; simp only [cd99, Tryd.f99])
  ((try simp only [WKb, ↓reduceIte, Nat.reduceAdd, WKt]) <;> (repeat' ((first
    | (refine G.tr ?_; first | refine S.a ?_ | refine S.t ?_ | refine Tr.brK ?_ ?_ | (refine G.call 100 ?_; refine S.c ?_ (h := print_ok ?_)) | (refine G.call 101 ?_; refine S.c ?_ (h := decimalC_ok (by assumption))) | (refine G.call 86 ?_; refine S.c ?_ (h := join_ok ?_ ?_ ?_)) | refine S.n fun _ => ?_ | refine S.i fun hix => ?_ | (refine S.g fun hb => ?_; (try simp only [hb])) | (refine S.s (fun hb => ?_) (fun hb => ?_) <;> ((try simp only [hb]) <;> (try (have hp := hb; simp only [WKs] at hp; (try have hq := Int.not_le.2 hp); (try have hq := Int.not_lt.2 hp))))))
    | rintro _ _ ⟨rfl, rfl⟩
    | ((fail_if_success refine G.tr ?_); exact G.prop S.p)
    | fail) <;> (try simp only [WKb, ↓reduceIte]))))
  refine Tr.bound (ro := ro) (v := ps.v) (xs := progs) (by (repeat (first | exact Has.here | apply Has.next)); done) fun hbd => ?_
  refine Tr.loopE (α := Nat) [14] [0, 1, 12, 13] (fun k => [.int .i64 k]) (fun k => [J (preA progs k), blk b (.cells [ps.v, fs.v].toArray 48 (0, 0)), sl ro ps.v progs, famProg ro progs, sl ro fs.v frames]) (fun k => k ≤ progs.length) (fun k => progs.length - k) 0 (by (repeat (first | exact TakeL.nil | (apply TakeL.cons; focus ((first | exact TakeA.dupS | exact TakeA.dupF | ((repeat (first | with_reducible exact TakeA.here | exact TakeA.fam (by omega) (by omega) | with_reducible apply TakeA.next)); done) | ((repeat (first | exact TakeA.here | apply TakeA.next)); done) | exact TakeA.famNil | exact TakeA.nilS))) | fail)); done) rfl (Nat.zero_le _) fun k u hk => ?_
  by_cases hin : k < progs.length
  · have hw := wrapSucc (k := k) (by omega)
    have hz : preA progs k ++ [[112, 97, 114, 116]] = preB progs k 0 := preB_zero
    have hp0 := preB_pre (frames := frames) hin 0
    have hl0 := pre_lt (hz ▸ hp0)
    simp only [List.cons_append, List.nil_append]
    refine Tr.famAt (xs := progs) (k : Int) (by (repeat (first | exact TakeA.here | apply TakeA.next)); done) (by omega) (by omega) ?_
    refine Tr.sep_iff.2 ?_
    refine Tr.bound (ro := ro) (v := (ix progs (k : Int)).s.v) (xs := (ix progs (k : Int)).d) (by (repeat (first | exact Has.here | apply Has.next)); done) fun hbd1 => ?_
    ((try simp only [WKb, ↓reduceIte, Nat.reduceEqDiff]) <;> (repeat' ((first
    | (refine G.tr ?_; first | (refine Tr.yield hR _ rfl (by assumption) (by first | assumption | decide) (by (repeat (first | exact TakeA.here | apply TakeA.next)); done) ?_ ?_) | refine S.a ?_ | refine S.t ?_ | refine Tr.brK ?_ ?_ | (refine G.call 100 ?_; refine S.c ?_ (h := print_ok ?_)) | (refine G.call 101 ?_; refine S.c ?_ (h := decimalC_ok (by assumption))) | (refine G.call 86 ?_; refine S.c ?_ (h := join_ok ?_ ?_ ?_)) | refine S.n fun _ => ?_ | refine S.i fun hix => ?_ | (refine S.g fun hb => ?_; (try simp only [hb])) | (refine S.s (fun hb => ?_) (fun hb => ?_) <;> ((try simp only [hb]) <;> (try (have hp := hb; simp only [WKs] at hp; (try have hq := Int.not_le.2 hp); (try have hq := Int.not_lt.2 hp))))))
    | rintro _ _ ⟨rfl, rfl⟩
    | ((fail_if_success refine G.tr ?_); exact G.prop S.p)
    | fail) <;> (try simp only [WKb, ↓reduceIte, Nat.reduceEqDiff, CallV_y0, hz]))))
    · refine Tr.loopE (α := Nat) [23] [0, 1, 12, 13, 14, 21, 22] (fun j => [.int .i64 j]) (fun j => [J (preB progs k j), sl ro (ix progs (k : Int)).s.v (ix progs (k : Int)).d, famProc ro (ix progs (k : Int)).d]) (fun j => j ≤ (ix progs (k : Int)).d.length) (fun j => (ix progs (k : Int)).d.length - j) 0 (by (repeat (first | exact TakeL.nil | (apply TakeL.cons; focus ((first | exact TakeA.dupS | exact TakeA.dupF | ((repeat (first | with_reducible exact TakeA.here | exact TakeA.fam (by omega) (by omega) | with_reducible apply TakeA.next)); done) | ((repeat (first | exact TakeA.here | apply TakeA.next)); done) | exact TakeA.famNil | exact TakeA.nilS))) | fail)); done) rfl (Nat.zero_le _) fun j u hj => ?_
      by_cases hin1 : j < (ix progs (k : Int)).d.length
      · have hwk := hw
        have hw := wrapSucc (k := j) (by omega)
        have hz1 : preB progs k j ++ [[112, 114, 111, 99]] = preC progs k j 0 := preC_zero
        have hp1 := preC_pre (frames := frames) hin hin1 0
        have hl1 := pre_lt (hz1 ▸ hp1)
        simp only [List.cons_append, List.nil_append]
        refine Tr.famAt (xs := (ix progs (k : Int)).d) (j : Int) (by (repeat (first | exact TakeA.here | apply TakeA.next)); done) (by omega) (by omega) ?_
        refine Tr.bound (ro := ro) (v := (ix (ix progs (k : Int)).d (j : Int)).s.v) (xs := (ix (ix progs (k : Int)).d (j : Int)).d) (by (repeat (first | exact Has.here | apply Has.next)); done) fun hbd2 => ?_
        ((try simp only [WKb, ↓reduceIte, Nat.reduceEqDiff]) <;> (repeat' ((first
    | (refine G.tr ?_; first | (refine Tr.yield hR _ rfl (by assumption) (by first | assumption | decide) (by (repeat (first | exact TakeA.here | apply TakeA.next)); done) ?_ ?_) | refine S.a ?_ | refine S.t ?_ | refine Tr.brK ?_ ?_ | (refine G.call 100 ?_; refine S.c ?_ (h := print_ok ?_)) | (refine G.call 101 ?_; refine S.c ?_ (h := decimalC_ok (by assumption))) | (refine G.call 86 ?_; refine S.c ?_ (h := join_ok ?_ ?_ ?_)) | refine S.n fun _ => ?_ | refine S.i fun hix => ?_ | (refine S.g fun hb => ?_; (try simp only [hb])) | (refine S.s (fun hb => ?_) (fun hb => ?_) <;> ((try simp only [hb]) <;> (try (have hp := hb; simp only [WKs] at hp; (try have hq := Int.not_le.2 hp); (try have hq := Int.not_lt.2 hp))))))
    | rintro _ _ ⟨rfl, rfl⟩
    | ((fail_if_success refine G.tr ?_); exact G.prop S.p)
    | fail) <;> (try simp only [WKb, ↓reduceIte, Nat.reduceEqDiff, CallV_y0, hz1]))))
        · refine Tr.loopE (α := Nat) [32] [0, 1, 12, 13, 14, 21, 22, 23, 30, 31] (fun i => [.int .i64 i]) (fun i => [J (preC progs k j i), sl ro (ix (ix progs (k : Int)).d (j : Int)).s.v (ix (ix progs (k : Int)).d (j : Int)).d]) (fun i => i ≤ (ix (ix progs (k : Int)).d (j : Int)).d.length) (fun i => (ix (ix progs (k : Int)).d (j : Int)).d.length - i) 0 (by (repeat (first | exact TakeL.nil | (apply TakeL.cons; focus ((first | exact TakeA.dupS | exact TakeA.dupF | ((repeat (first | with_reducible exact TakeA.here | exact TakeA.fam (by omega) (by omega) | with_reducible apply TakeA.next)); done) | ((repeat (first | exact TakeA.here | apply TakeA.next)); done) | exact TakeA.famNil | exact TakeA.nilS))) | fail)); done) rfl (Nat.zero_le _) fun i u hi => ?_
          by_cases hin2 : i < (ix (ix progs (k : Int)).d (j : Int)).d.length
          · have hwj := hw
            have hw := wrapSucc (k := i) (by omega)
            have hz2 := preC_next (progs := progs) hin2
            have hp2 := preC_pre (frames := frames) hin hin1 (i + 1)
            have hl2 := pre_lt (hz2 ▸ hp2)
            have hxo : (ix (ix (ix progs (k : Int)).d (j : Int)).d (i : Int)).ok := hps _ (ix_mem hin) _ (ix_mem hin1) _ (ix_mem hin2)
            have hxl : (printA (ix (ix (ix progs (k : Int)).d (j : Int)).d (i : Int))).length ≤ 1000 := Nat.le_trans (printA_len hxo) (by decide)
            ((try simp only [WKb, ↓reduceIte, Nat.reduceEqDiff]) <;> (repeat' ((first
    | (refine G.tr ?_; first | (refine Tr.yield hR _ rfl (by assumption) (by first | assumption | decide) (by (repeat (first | exact TakeA.here | apply TakeA.next)); done) ?_ ?_) | refine S.a ?_ | refine S.t ?_ | refine Tr.brK ?_ ?_ | (refine G.call 100 ?_; refine S.c ?_ (h := print_ok ?_)) | (refine G.call 101 ?_; refine S.c ?_ (h := decimalC_ok (by assumption))) | (refine G.call 86 ?_; refine S.c ?_ (h := join_ok ?_ ?_ ?_)) | refine S.n fun _ => ?_ | refine S.i fun hix => ?_ | (refine S.g fun hb => ?_; (try simp only [hb])) | (refine S.s (fun hb => ?_) (fun hb => ?_) <;> ((try simp only [hb]) <;> (try (have hp := hb; simp only [WKs] at hp; (try have hq := Int.not_le.2 hp); (try have hq := Int.not_lt.2 hp))))))
    | rintro _ _ ⟨rfl, rfl⟩
    | ((fail_if_success refine G.tr ?_); exact G.prop S.p)
    | fail) <;> (try simp only [WKb, ↓reduceIte, Nat.reduceEqDiff, CallV_y0, hw, hz2]))))
            · (apply Tr.againE (i + 1); (focus (simp only [WKb, ↓reduceIte, Nat.reduceEqDiff])); (focus ((try simp only [WKb, ↓reduceIte]); (all_goals ((repeat (refine cons_eq (by first | rfl | (simp [*]; done)) ?_)); rfl)); done)); (focus (first | omega | assumption | (simp only []; omega) | (refine ⟨by omega, by assumption⟩) | (simp only []; refine ⟨by omega, by assumption⟩) | ((try simp only []); (repeat' (first | omega | assumption | refine And.intro ?_ ?_)); done))); (focus (first | omega | (simp only []; omega))); (focus (((try clear hK) <;> (try simp only [WKe, *]) <;> repeat (first | with_reducible exact EntR.done | refine S.e ?_ | (refine S.f ?_ <;> (try simp only [WKe, ↓reduceIte, reduceCtorEq, Int.reduceEq, *])) | with_reducible apply EntR.ex | refine EntR.drop (F := F) ?_ | refine EntR.drop ?_)))))
            · refine foldProc hin1 (by (repeat (first | exact TakeA.here | apply TakeA.next)); done) (by (repeat (first | exact TakeA.here | apply TakeA.next)); done) ?_
              refine foldProg hin (by (repeat (first | exact TakeA.here | apply TakeA.next)); done) (by (repeat (first | exact TakeA.here | apply TakeA.next)); done) (by (repeat (first | exact TakeA.here | apply TakeA.next)); done) ?_
              refine fin _ _ hp2 ?_
              ((try clear hK) <;> (try simp only [WKe, ↓reduceIte, reduceCtorEq, Int.reduceEq, *]) <;> repeat (first | with_reducible exact EntR.done | refine S.e ?_ | (refine S.f ?_ <;> (try simp only [WKe, ↓reduceIte, reduceCtorEq, Int.reduceEq, *])) | with_reducible apply EntR.ex | refine EntR.drop (F := F) ?_ | refine EntR.drop ?_))
          · have hie : i = (ix (ix progs (k : Int)).d (j : Int)).d.length := by omega
            subst hie
            have hz3 := preB_next (progs := progs) hin1
            ((try simp only [WKb, ↓reduceIte, Nat.reduceEqDiff, hz3]) <;> (repeat' ((first
    | (refine G.tr ?_; first | refine S.a ?_ | refine S.t ?_ | refine Tr.brK ?_ ?_ | (refine G.call 100 ?_; refine S.c ?_ (h := print_ok ?_)) | (refine G.call 101 ?_; refine S.c ?_ (h := decimalC_ok (by assumption))) | (refine G.call 86 ?_; refine S.c ?_ (h := join_ok ?_ ?_ ?_)) | refine S.n fun _ => ?_ | refine S.i fun hix => ?_ | (refine S.g fun hb => ?_; (try simp only [hb])) | (refine S.s (fun hb => ?_) (fun hb => ?_) <;> ((try simp only [hb]) <;> (try (have hp := hb; simp only [WKs] at hp; (try have hq := Int.not_le.2 hp); (try have hq := Int.not_lt.2 hp))))))
    | rintro _ _ ⟨rfl, rfl⟩
    | ((fail_if_success refine G.tr ?_); exact G.prop S.p)
    | fail) <;> (try simp only [WKb, ↓reduceIte, Nat.reduceEqDiff, hw]))))
            all_goals
              refine foldProc hin1 (by (repeat (first | exact TakeA.here | apply TakeA.next)); done) (by (repeat (first | exact TakeA.here | apply TakeA.next)); done) ?_
              (apply Tr.againE (j + 1); (focus (simp only [WKb, ↓reduceIte, Nat.reduceEqDiff])); (focus ((try simp only [WKb, ↓reduceIte]); (all_goals ((repeat (refine cons_eq (by first | rfl | (simp [*]; done)) ?_)); rfl)); done)); (focus (first | omega | assumption | (simp only []; omega) | (refine ⟨by omega, by assumption⟩) | (simp only []; refine ⟨by omega, by assumption⟩) | ((try simp only []); (repeat' (first | omega | assumption | refine And.intro ?_ ?_)); done))); (focus (first | omega | (simp only []; omega))); (focus (((try clear hK) <;> (try simp only [WKe, *]) <;> repeat (first | with_reducible exact EntR.done | refine S.e ?_ | (refine S.f ?_ <;> (try simp only [WKe, ↓reduceIte, reduceCtorEq, Int.reduceEq, *])) | with_reducible apply EntR.ex | refine EntR.drop (F := F) ?_ | refine EntR.drop ?_)))))
        · refine foldProc hin1 (by (repeat (first | exact TakeA.here | apply TakeA.next)); done) (by (repeat (first | exact TakeA.here | apply TakeA.next)); done) ?_
          refine foldProg hin (by (repeat (first | exact TakeA.here | apply TakeA.next)); done) (by (repeat (first | exact TakeA.here | apply TakeA.next)); done) (by (repeat (first | exact TakeA.here | apply TakeA.next)); done) ?_
          refine fin _ _ hp1 ?_
          ((try clear hK) <;> (try simp only [WKe, ↓reduceIte, reduceCtorEq, Int.reduceEq, *]) <;> repeat (first | with_reducible exact EntR.done | refine S.e ?_ | (refine S.f ?_ <;> (try simp only [WKe, ↓reduceIte, reduceCtorEq, Int.reduceEq, *])) | with_reducible apply EntR.ex | refine EntR.drop (F := F) ?_ | refine EntR.drop ?_))
      · have hje : j = (ix progs (k : Int)).d.length := by omega
        subst hje
        have hz3 := preA_next hin
        ((try simp only [WKb, ↓reduceIte, Nat.reduceEqDiff, hz3]) <;> (repeat' ((first
    | (refine G.tr ?_; first | refine S.a ?_ | refine S.t ?_ | refine Tr.brK ?_ ?_ | (refine G.call 100 ?_; refine S.c ?_ (h := print_ok ?_)) | (refine G.call 101 ?_; refine S.c ?_ (h := decimalC_ok (by assumption))) | (refine G.call 86 ?_; refine S.c ?_ (h := join_ok ?_ ?_ ?_)) | refine S.n fun _ => ?_ | refine S.i fun hix => ?_ | (refine S.g fun hb => ?_; (try simp only [hb])) | (refine S.s (fun hb => ?_) (fun hb => ?_) <;> ((try simp only [hb]) <;> (try (have hp := hb; simp only [WKs] at hp; (try have hq := Int.not_le.2 hp); (try have hq := Int.not_lt.2 hp))))))
    | rintro _ _ ⟨rfl, rfl⟩
    | ((fail_if_success refine G.tr ?_); exact G.prop S.p)
    | fail) <;> (try simp only [WKb, ↓reduceIte, Nat.reduceEqDiff, hw]))))
        all_goals
          refine foldProg hin (by (repeat (first | exact TakeA.here | apply TakeA.next)); done) (by (repeat (first | exact TakeA.here | apply TakeA.next)); done) (by (repeat (first | exact TakeA.here | apply TakeA.next)); done) ?_
          (apply Tr.againE (k + 1); (focus (simp only [WKb, ↓reduceIte, Nat.reduceEqDiff])); (focus ((try simp only [WKb, ↓reduceIte]); (all_goals ((repeat (refine cons_eq (by first | rfl | (simp [*]; done)) ?_)); rfl)); done)); (focus (first | omega | assumption | (simp only []; omega) | (refine ⟨by omega, by assumption⟩) | (simp only []; refine ⟨by omega, by assumption⟩) | ((try simp only []); (repeat' (first | omega | assumption | refine And.intro ?_ ?_)); done))); (focus (first | omega | (simp only []; omega))); (focus (((try clear hK) <;> (try simp only [WKe, *]) <;> repeat (first | with_reducible exact EntR.done | refine S.e ?_ | (refine S.f ?_ <;> (try simp only [WKe, ↓reduceIte, reduceCtorEq, Int.reduceEq, *])) | with_reducible apply EntR.ex | refine EntR.drop (F := F) ?_ | refine EntR.drop ?_)))))
    · refine foldProg hin (by (repeat (first | exact TakeA.here | apply TakeA.next)); done) (by (repeat (first | exact TakeA.here | apply TakeA.next)); done) (by (repeat (first | exact TakeA.here | apply TakeA.next)); done) ?_
      refine fin _ _ hp0 ?_
      ((try clear hK) <;> (try simp only [WKe, ↓reduceIte, reduceCtorEq, Int.reduceEq, *]) <;> repeat (first | with_reducible exact EntR.done | refine S.e ?_ | (refine S.f ?_ <;> (try simp only [WKe, ↓reduceIte, reduceCtorEq, Int.reduceEq, *])) | with_reducible apply EntR.ex | refine EntR.drop (F := F) ?_ | refine EntR.drop ?_))
  · have hke : k = progs.length := by omega
    subst hke
    refine Tr.bound (ro := ro) (v := fs.v) (xs := frames) (by (repeat (first | exact Has.here | apply Has.next)); done) fun hbd3 => ?_
    have hf0 := preF_zero (progs := progs) (frames := frames)
    ((try simp only [WKb, ↓reduceIte, Nat.reduceEqDiff]) <;> (repeat' ((first
    | (refine G.tr ?_; first | refine S.a ?_ | refine S.t ?_ | refine Tr.brK ?_ ?_ | (refine G.call 100 ?_; refine S.c ?_ (h := print_ok ?_)) | (refine G.call 101 ?_; refine S.c ?_ (h := decimalC_ok (by assumption))) | (refine G.call 86 ?_; refine S.c ?_ (h := join_ok ?_ ?_ ?_)) | refine S.n fun _ => ?_ | refine S.i fun hix => ?_ | (refine S.g fun hb => ?_; (try simp only [hb])) | (refine S.s (fun hb => ?_) (fun hb => ?_) <;> ((try simp only [hb]) <;> (try (have hp := hb; simp only [WKs] at hp; (try have hq := Int.not_le.2 hp); (try have hq := Int.not_lt.2 hp))))))
    | rintro _ _ ⟨rfl, rfl⟩
    | ((fail_if_success refine G.tr ?_); exact G.prop S.p)
    | fail) <;> (try simp only [WKb, ↓reduceIte, Nat.reduceEqDiff]))))
    rw [← hf0]
    refine Tr.loopE (α := Nat) [47] [0, 1, 45, 46] (fun m => [.int .i64 m]) (fun m => [J (preF progs frames m), sl ro fs.v frames]) (fun m => m ≤ frames.length) (fun m => frames.length - m) 0 (by (repeat (first | exact TakeL.nil | (apply TakeL.cons; focus ((first | exact TakeA.dupS | exact TakeA.dupF | ((repeat (first | with_reducible exact TakeA.here | exact TakeA.fam (by omega) (by omega) | with_reducible apply TakeA.next)); done) | ((repeat (first | exact TakeA.here | apply TakeA.next)); done) | exact TakeA.famNil | exact TakeA.nilS))) | fail)); done) rfl (Nat.zero_le _) fun m u hm => ?_
    by_cases hin4 : m < frames.length
    · have hw := wrapSucc (k := m) (by omega)
      have hz4 := preF_next (progs := progs) hin4
      have hp4 := preF_pre (progs := progs) (frames := frames) (m + 1)
      have hl4 := pre_lt (hz4 ▸ hp4)
      have hfo := hfs _ (ix_mem hin4)
      have hfl := frameL_len hfo
      have hj3 : (joinA 32 (([⟨[102, 114, 97, 109, 101]⟩, ⟨decA (ix frames (m : Int)).reading⟩, ⟨decA (ix frames (m : Int)).mode⟩, ⟨decA (ix frames (m : Int)).drift⟩, ⟨decA (ix frames (m : Int)).choice⟩] : List Str).map Str.d)).length ≤ 140737488355328 := Nat.le_trans hfl (by decide)
      have hj4 : joinA 32 [[102, 114, 97, 109, 101], decA (ix frames (m : Int)).reading, decA (ix frames (m : Int)).mode, decA (ix frames (m : Int)).drift, decA (ix frames (m : Int)).choice] = frameL (ix frames (m : Int)) := rfl
      have hfl2 : (frameL (ix frames (m : Int))).length ≤ 1000 := Nat.le_trans hfl (by decide)
      obtain ⟨o1, o2, o3, o4⟩ := hfo
      ((try simp only [WKb, ↓reduceIte, Nat.reduceEqDiff]) <;> (repeat' ((first
    | (refine G.tr ?_; first | (refine Tr.yield hR _ rfl (by assumption) (by first | assumption | decide) (by (repeat (first | exact TakeA.here | apply TakeA.next)); done) ?_ ?_) | refine S.a ?_ | refine S.t ?_ | refine Tr.brK ?_ ?_ | (refine G.call 100 ?_; refine S.c ?_ (h := print_ok ?_)) | (refine G.call 101 ?_; refine S.c ?_ (h := decimalC_ok (by assumption))) | (refine G.call 86 ?_; refine S.c ?_ (h := join_ok ?_ ?_ ?_)) | refine S.n fun _ => ?_ | refine S.i fun hix => ?_ | (refine S.g fun hb => ?_; (try simp only [hb])) | (refine S.s (fun hb => ?_) (fun hb => ?_) <;> ((try simp only [hb]) <;> (try (have hp := hb; simp only [WKs] at hp; (try have hq := Int.not_le.2 hp); (try have hq := Int.not_lt.2 hp))))))
    | rintro _ _ ⟨rfl, rfl⟩
    | ((fail_if_success refine G.tr ?_); exact G.prop S.p)
    | fail) <;> (try simp only [WKb, ↓reduceIte, Nat.reduceEqDiff, CallV_y0, pl99, hw, hj4, hz4]))))
      · (apply Tr.againE (m + 1); (focus (simp only [WKb, ↓reduceIte, Nat.reduceEqDiff])); (focus ((try simp only [WKb, ↓reduceIte]); (all_goals ((repeat (refine cons_eq (by first | rfl | (simp [*]; done)) ?_)); rfl)); done)); (focus (first | omega | assumption | (simp only []; omega) | (refine ⟨by omega, by assumption⟩) | (simp only []; refine ⟨by omega, by assumption⟩) | ((try simp only []); (repeat' (first | omega | assumption | refine And.intro ?_ ?_)); done))); (focus (first | omega | (simp only []; omega))); (focus (((try clear hK) <;> (try simp only [WKe, *]) <;> repeat (first | with_reducible exact EntR.done | refine S.e ?_ | (refine S.f ?_ <;> (try simp only [WKe, ↓reduceIte, reduceCtorEq, Int.reduceEq, *])) | with_reducible apply EntR.ex | refine EntR.drop (F := F) ?_ | refine EntR.drop ?_)))))
      · refine fin _ _ hp4 ?_
        ((try clear hK) <;> (try simp only [WKe, ↓reduceIte, reduceCtorEq, Int.reduceEq, *]) <;> repeat (first | with_reducible exact EntR.done | refine S.e ?_ | (refine S.f ?_ <;> (try simp only [WKe, ↓reduceIte, reduceCtorEq, Int.reduceEq, *])) | with_reducible apply EntR.ex | refine EntR.drop (F := F) ?_ | refine EntR.drop ?_))
    · have hme : m = frames.length := by omega
      subst hme
      have hz5 := preF_end (progs := progs) (frames := frames)
      rw [hz5]
      ((try simp only [WKb, ↓reduceIte, Nat.reduceEqDiff]) <;> (repeat' ((first
    | (refine G.tr ?_; first | refine S.a ?_ | refine S.t ?_ | refine Tr.brK ?_ ?_ | (refine G.call 100 ?_; refine S.c ?_ (h := print_ok ?_)) | (refine G.call 101 ?_; refine S.c ?_ (h := decimalC_ok (by assumption))) | (refine G.call 86 ?_; refine S.c ?_ (h := join_ok ?_ ?_ ?_)) | refine S.n fun _ => ?_ | refine S.i fun hix => ?_ | (refine S.g fun hb => ?_; (try simp only [hb])) | (refine S.s (fun hb => ?_) (fun hb => ?_) <;> ((try simp only [hb]) <;> (try (have hp := hb; simp only [WKs] at hp; (try have hq := Int.not_le.2 hp); (try have hq := Int.not_lt.2 hp))))))
    | rintro _ _ ⟨rfl, rfl⟩
    | ((fail_if_success refine G.tr ?_); exact G.prop S.p)
    | fail) <;> (try simp only [WKb, ↓reduceIte]))))
      all_goals
        refine Tr.ent2 ?_ (hdone _ _ rfl)
        ((try clear hK) <;> (try simp only [WKe, hz5, ↓reduceIte, reduceCtorEq, Int.reduceEq, *]) <;> repeat (first | with_reducible exact EntR.done | refine S.e ?_ | (refine S.f ?_ <;> (try simp only [WKe, hz5, ↓reduceIte, reduceCtorEq, Int.reduceEq, *])) | with_reducible apply EntR.ex | refine EntR.drop (F := F) ?_ | refine EntR.drop ?_))
end Go.Proofs.YtgkhjgpgdfbdpaaDoor
