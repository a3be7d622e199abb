import Derived.Test.YtgkhjgpgdfbdpaaDoorSsx
namespace Go.Proofs.YtgkhjgpgdfbdpaaDoor
open Go Go.Wk
set_option maxHeartbeats 6400000
set_option maxRecDepth 100000

noncomputable def tinyP (a b : SV) : List ProgS := [⟨a, [⟨b, [tinyS]⟩]⟩]
theorem tinyP_d (a b : SV) : progsD (tinyP a b) = [[[tinyS]]] := rfl
theorem tinyP_of {progs : List ProgS} (h : progsD progs = [[[tinyS]]]) : ∃ a b, progs = tinyP a b := by
  cases progs with
  | nil => exact absurd h (by simp [progsD])
  | cons p r =>
    cases r with
    | cons q r => exact absurd h (by simp [progsD])
    | nil =>
      obtain ⟨a, d⟩ := p
      cases d with
      | nil => exact absurd h (by simp [progsD])
      | cons q r =>
        cases r with
        | cons q r => exact absurd h (by simp [progsD])
        | nil =>
          obtain ⟨b, e⟩ := q
          simp only [progsD, List.map_cons, List.map_nil, List.cons.injEq, and_true] at h
          subst h
          exact ⟨a, b, rfl⟩
theorem tinyP_norm (a b : SV) : normD (progsD (tinyP a b)) = [[[tinyS]]] := by
  show [[[normS tinyS]]] = _
  rw [tiny_norm]
theorem tinyP_steps (a b : SV) : stepsN (tinyP a b) = 1 := by simp [stepsN, tinyP, sumP]
theorem tinyP_okP (a b : SV) : ∀ p ∈ tinyP a b, ∀ q ∈ p.d, ∀ s ∈ q.d, s.ok := fun p hp q hq s hs => by
  rw [List.mem_singleton.1 hp] at hq
  rw [List.mem_singleton.1 hq] at hs
  rw [List.mem_singleton.1 hs]; exact tiny_ok
theorem tinyP_less (a b : SV) : lessS (tinyP a b) := ⟨by simp [tinyP], fun p hp => by
  rw [List.mem_singleton.1 hp]
  exact ⟨by simp, fun q hq => by rw [List.mem_singleton.1 hq]; simp⟩⟩
theorem no_frames : ∀ f ∈ ([] : List FrameC), f.ok := fun f hf => by cases hf
attribute [local irreducible] BrK GenK EGenK EUnitK CallK FnK CallV GuardO GuardC CondW opX opK opKc chkR eqR seqK blkK endL WL WD W LoopW BinK Tr drewK resL PickK NotK NilK ExtrK getK Instr.storeAt Instr.loadAt Instr.fieldAt Instr.indexAt Instr.lookup Instr.mapUpdate Instr.box Instr.alloc Instr.build Instr.buildSlice Instr.makeSlice Instr.makeMap Instr.sliceAt Instr.field Instr.index Instr.makeInterface Instr.typeAssert Builtin.len_ Builtin.append_ Builtin.cap_ Builtin.min_ Builtin.max_ Builtin.copy_ Builtin.clear_ convert binOp mp blk rob sl sep ex fact old
attribute [local irreducible] NegK mxV bufT bldB nz stB stepsN tinyP
theorem tread_ok {m : Int} : Trip Tryd.prog 36 [.string (bstr [112, 97, 114, 116, 10, 112, 114, 111, 99, 10, 53, 32, 103, 101, 116, 45, 116, 105, 109, 101, 10])].toArray [mxB m]
    fun v l' => ∃ (p f a b : SV), v = .tuple #[.agg [p.v, f.v].toArray, .int .i64 0, .int .i64 0] ∧ l' = [sl false p.v (tinyP a b), famProg false (tinyP a b), sl false f.v ([] : List FrameC)] :=
  (sread_ok (s := tinyT)).mono fun v l' ⟨p, f, progs, h, hv, hl⟩ => by
    rw [tiny_read] at h hv hl
    obtain ⟨a, b, rfl⟩ := tinyP_of h
    exact ⟨p, f, a, b, hv, hl⟩
theorem tpr29_ok {ro : Bool} {ps fs a b : SV} : Trip Tryd.prog 30 [.agg [ps.v, fs.v].toArray].toArray [sl ro ps.v (tinyP a b), famProg ro (tinyP a b), sl ro fs.v ([] : List FrameC)]
    fun v l' => v = .tuple #[.string (bstr [112, 97, 114, 116, 10, 112, 114, 111, 99, 10, 53, 32, 103, 101, 116, 45, 116, 105, 109, 101, 10]), .int .i64 0] ∧ l' = [sl ro ps.v (tinyP a b), famProg ro (tinyP a b), sl ro fs.v ([] : List FrameC)] :=
  (sprint_ok (tinyP_okP a b) no_frames).mono fun v l' ⟨hv, hl⟩ => by
    rw [tinyP_d, tiny_printS] at hv
    exact ⟨hv, hl⟩
theorem tsteps_ok {ro : Bool} {ps fs a b : SV} : Trip Tryd.prog 35 [.agg [ps.v, fs.v].toArray].toArray [sl ro ps.v (tinyP a b), famProg ro (tinyP a b)]
    fun v l' => v = .int .i64 1 ∧ l' = [sl ro ps.v (tinyP a b), famProg ro (tinyP a b)] :=
  (steps_ok (by rw [tinyP_steps]; decide)).mono fun v l' ⟨hv, hl⟩ => by
    rw [tinyP_steps] at hv
    exact ⟨hv, hl⟩
theorem tnorm_ok {ro : Bool} {ps fs a b : SV} : Trip Tryd.prog 33 [.agg [ps.v, fs.v].toArray].toArray [sl ro ps.v (tinyP a b), famProg ro (tinyP a b), sl ro fs.v ([] : List FrameC)]
    fun v l' => ∃ (o c x y : SV), v = .agg [o.v, c.v].toArray ∧ l' = [sl false o.v (tinyP x y), famProg false (tinyP x y), sl false c.v ([] : List FrameC), sl ro ps.v (tinyP a b), famProg ro (tinyP a b), sl ro fs.v ([] : List FrameC)] :=
  (snormAll_ok (tinyP_less a b) (by simp)).mono fun v l' ⟨o, c, outs, h, hv, hl⟩ => by
    rw [tinyP_norm] at h
    obtain ⟨x, y, rfl⟩ := tinyP_of h
    exact ⟨o, c, x, y, hv, hl⟩
theorem tsame_ok {p1 f1 p2 f2 a b x y : SV} : Trip Tryd.prog 38 [.agg [p1.v, f1.v].toArray, .agg [p2.v, f2.v].toArray].toArray [sl false p1.v (tinyP a b), famProg false (tinyP a b), sl false f1.v ([] : List FrameC), sl false p2.v (tinyP x y), famProg false (tinyP x y), sl false f2.v ([] : List FrameC)]
    fun u l' => u = .bool true ∧ l' = [sl false p1.v (tinyP a b), famProg false (tinyP a b), sl false f1.v ([] : List FrameC), sl false p2.v (tinyP x y), famProg false (tinyP x y), sl false f2.v ([] : List FrameC)] :=
  (ssame_ok (xs := tinyP a b) (ys := tinyP x y) (fx := []) (fy := [])).mono fun v l' ⟨hv, hl⟩ => by
    rw [decide_eq_true (show sameS (tinyP a b) (tinyP x y) [] [] from ⟨by rw [tinyP_d, tinyP_d], rfl⟩)] at hv
    exact ⟨hv, hl⟩
theorem tsame0_ok {p1 f1 a b : SV} : Trip Tryd.prog 38 [.agg [p1.v, f1.v].toArray, .agg [.slice none 0 0, .slice none 0 0].toArray].toArray [sl false p1.v (tinyP a b), famProg false (tinyP a b), sl false f1.v ([] : List FrameC)]
    fun u l' => u = .bool false ∧ l' = [sl false p1.v (tinyP a b), famProg false (tinyP a b), sl false f1.v ([] : List FrameC), sl false (.slice none 0 0) ([] : List ProgS), famProg false [], sl false (.slice none 0 0) ([] : List FrameC)] :=
  ((ssame_ok (r1 := false) (xs := tinyP a b) (fx := []) (r2 := false) (p2 := ⟨none, 0, 0⟩) (f2 := ⟨none, 0, 0⟩) (ys := []) (fy := [])).pre fun F => by
    simp only [List.cons_append, List.nil_append]
    refine EntR.take TakeA.here ?_
    refine EntR.take TakeA.here ?_
    refine EntR.take TakeA.here ?_
    refine EntR.take TakeA.nilS ?_
    refine EntR.take TakeA.famNil ?_
    refine EntR.take TakeA.nilS ?_
    exact EntR.done).mono fun v l' ⟨hv, hl⟩ => by
    rw [decide_eq_false (fun hs : sameS (tinyP a b) [] [] [] => by
      have := hs.1
      rw [tinyP_d] at this
      cases this)] at hv
    exact ⟨hv, hl⟩






theorem works29_ok {m : Int} : Trip Tryd.prog 29 [].toArray [mxB m] fun v l' => v = .bool true ∧ l' = [] := by
  intro F K hK
  simp only [List.cons_append, List.nil_append]
  (refine Tr.enter (rs := [.tmp 0]) mixed fn29 rfl (by simp +arith [Tryd.ntmps29]) fun u => ?_; simp only [cd29, Tryd.f29])
  ((try simp only [WKb, WKt]) <;> (repeat' ((first
    | (refine G.tr ?_; first | refine S.a ?_ | refine S.t ?_ | refine Tr.brK ?_ ?_ | (refine G.call 36 ?_; first | refine S.c ?_ (h := tread_ok) | refine S.c ?_ (h := sread_ok)) | (refine G.call 30 ?_; first | refine S.c ?_ (h := tpr29_ok) | refine S.c ?_ (h := sprintR_ok (by assumption) (by assumption)) | refine S.c ?_ (h := sprint_ok (by assumption) (by assumption))) | (refine G.call 35 ?_; first | refine S.c ?_ (h := tsteps_ok) | refine S.c ?_ (h := steps_ok ?_)) | (refine G.call 33 ?_; first | refine S.c ?_ (h := tnorm_ok) | refine S.c ?_ (h := snormAll_ok (by first | assumption | exact norm_less (by assumption) (by assumption)) (by omega)) | refine S.c ?_ (h := snormAll_ok (by assumption) (by omega))) | (refine G.call 38 ?_; first | refine S.c ?_ (h := tsame0_ok) | refine S.c ?_ (h := tsame_ok) | refine S.c ?_ (h := ssame_ok)) | refine S.n fun _ => ?_ | refine S.i fun hix => ?_ | (refine S.g fun hb => ?_; (try simp only [hb])) | (refine S.s (fun hb => ?_) (fun hb => ?_) <;> ((try simp only [hb]) <;> (try (have hp := hb; simp only [WKs] at hp; (try have hq := Int.not_le.2 hp); (try have hq := Int.not_lt.2 hp))))))
    | rintro _ _ ⟨rfl, rfl⟩
    | rintro _ _ ⟨_, _, _, _, rfl, rfl⟩
    | rintro _ _ ⟨_, _, _, hrp, rfl, rfl⟩
    | rintro _ _ ⟨_, _, _, hnmA, rfl, rfl⟩
    | rintro _ _ ⟨_, _, _, (hnmA : progsD _ = _), rfl, rfl⟩
    | ((fail_if_success refine G.tr ?_); exact G.prop S.p)
    | fail) <;> (try simp only [WKb, WKh, ↓reduceIte, Nat.reduceEqDiff, pl29]))))
  all_goals
    refine Tr.fin hK ⟨rfl, rfl⟩ ?_
    ((try clear hK) <;> (try simp only [WKe, *]) <;> repeat (first | with_reducible exact EntR.done | refine S.e ?_ | (refine S.f ?_ <;> (try simp only [WKe, ↓reduceIte, reduceCtorEq, Int.reduceEq, *])) | with_reducible apply EntR.ex | refine EntR.drop (F := F) ?_ | refine EntR.drop ?_))

end Go.Proofs.YtgkhjgpgdfbdpaaDoor

namespace Go.Proofs.YtgkhjgpgdfbdpaaDoor
open Go Go.Wk
set_option maxHeartbeats 6400000
set_option maxRecDepth 100000
/-! ### plain laws of the four statements -/
def lessD (P : List (List (List StepC))) : Prop := P.length ≤ 100000 ∧ ∀ p ∈ P, p.length ≤ 100000 ∧ ∀ q ∈ p, q.length ≤ 100000
theorem lessS_iff {progs : List ProgS} : lessS progs ↔ lessD (progsD progs) := by
  constructor
  · intro h
    refine ⟨by unfold progsD; rw [List.length_map]; exact h.1, fun p hp => ?_⟩
    obtain ⟨x, hx, rfl⟩ := List.mem_map.1 hp
    refine ⟨by rw [List.length_map]; exact (h.2 x hx).1, fun q hq => ?_⟩
    obtain ⟨y, hy, rfl⟩ := List.mem_map.1 hq
    exact (h.2 x hx).2 y hy
  · intro h
    have h1 := h.1
    unfold progsD at h1
    rw [List.length_map] at h1
    refine ⟨h1, fun x hx => ?_⟩
    have h2 := h.2 _ (List.mem_map_of_mem (f := fun p : ProgS => p.d.map SL.d) hx)
    rw [List.length_map] at h2
    exact ⟨h2.1, fun y hy => h2.2 _ (List.mem_map_of_mem (f := SL.d) hy)⟩
theorem lessD_norm {P : List (List (List StepC))} (h : lessD P) : lessD (normD P) := by
  refine ⟨by unfold normD; rw [List.length_map]; exact h.1, fun p hp => ?_⟩
  obtain ⟨x, hx, rfl⟩ := List.mem_map.1 hp
  refine ⟨by rw [List.length_map]; exact (h.2 x hx).1, fun q hq => ?_⟩
  obtain ⟨y, hy, rfl⟩ := List.mem_map.1 hq
  rw [List.length_map]
  exact (h.2 x hx).2 y hy
theorem norm_less {progs outs : List ProgS} (h : progsD outs = normD (progsD progs)) (hl : lessS progs) : lessS outs :=
  lessS_iff.2 (by rw [h]; exact lessD_norm (lessS_iff.1 hl))
theorem normS_twice (s : StepC) : normS (normS s) = normS s := by
  unfold normS
  simp only
  congr 1 <;> split <;> simp_all
theorem normD_twice (P : List (List (List StepC))) : normD (normD P) = normD P := by
  simp only [normD, List.map_map]
  refine List.map_congr_left fun p _ => ?_
  simp only [Function.comp_apply, List.map_map]
  refine List.map_congr_left fun q _ => ?_
  simp only [Function.comp_apply, List.map_map]
  exact List.map_congr_left fun s _ => normS_twice s
theorem norm_same {progs a b : List ProgS} {f : List FrameC} (h1 : progsD a = normD (progsD progs)) (h2 : progsD b = normD (progsD a)) : sameS a b f f := ⟨by rw [h2, h1, normD_twice], rfl⟩
theorem readT_cases {s : List UInt8} : ((readT s).2.2 = 0 ∧ (readT s).2.1 = 0 ∧ textL (linesL (readT s).1.1 (readT s).1.2) = s ∧ okT (readT s).1 ∧ s.length ≤ 65536) ∨ ((readT s).2.2 ≠ 0 ∧ (readT s).1 = ([], [])) := by
  by_cases h : ∃ st, readT s = (st, 0, 0)
  · obtain ⟨st, h⟩ := h
    obtain ⟨h1, h2, h3⟩ := readT_inv h
    rw [h]
    exact .inl ⟨rfl, rfl, h2, h3, h1⟩
  · right
    unfold readT
    split
    · exact ⟨by decide, rfl⟩
    · split
      · rename_i h1 h2
        exact absurd ⟨_, by unfold readT; rw [if_neg h1, if_pos h2]⟩ h
      · exact ⟨fun h => absurd (show (13 : Int) = 0 from h) (by decide), rfl⟩
theorem frames_ok {s : List UInt8} : ∀ f ∈ (readT s).1.2, f.ok := by
  rcases @readT_cases s with ⟨_, _, _, h, _⟩ | ⟨_, h⟩
  · exact h.2
  · rw [h]; exact no_frames
/-- What is read without an error. -/
def goodT (s : List UInt8) : Prop := textL (linesL (readT s).1.1 (readT s).1.2) = s ∧ okT (readT s).1 ∧ s.length ≤ 65536
theorem sprintR_ok {s : List UInt8} {ps fs : SV} {progs : List ProgS} (hg : goodT s) (hp : progsD progs = (readT s).1.1) :
    Trip Tryd.prog 30 [.agg [ps.v, fs.v].toArray].toArray [sl false ps.v progs, famProg false progs, sl false fs.v (readT s).1.2]
      fun v l' => v = .tuple #[.string (bstr s), .int .i64 0] ∧ l' = [sl false ps.v progs, famProg false progs, sl false fs.v (readT s).1.2] :=
  (sprint_ok (okT_progs (frames := (readT s).1.2) (by rw [hp]; exact hg.2.1)) hg.2.1.2).mono fun v l' ⟨hv, hl⟩ => by
    have h : printS (linesL (progsD progs) (readT s).1.2) = (s, 0) := by
      rw [hp]
      unfold printS
      rw [if_neg (by rw [hg.1]; have := hg.2.2; omega), hg.1]
    rw [h] at hv
    exact ⟨hv, hl⟩
theorem dup_procs : ∀ (xs : List ProcS), Dup (famProc true xs)
  | [] => dup_fact _
  | _ :: xs => dup_sep (dup_sl _ _) (dup_procs xs)
theorem dup_progs : ∀ (xs : List ProgS), Dup (famProg true xs)
  | [] => dup_fact _
  | _ :: xs => dup_sep (dup_sep (dup_sl _ _) (dup_procs _)) (dup_progs xs)
theorem Tr.dupProg {xs : List ProgS} {l l1 : List Asrt} {X : WP} (h : TakeA l (famProg true xs) l1) (hx : Tr (famProg true xs :: famProg true xs :: l1) X) : Tr l X := fun w hw => hx w (Sat.dup (dup_progs xs) (Imp.sat h hw))















end Go.Proofs.YtgkhjgpgdfbdpaaDoor
