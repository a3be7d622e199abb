import Derived.Test.YtgkhjgpgdfbdpaaDoorSR
import Derived.Test.YtgkhjgpgdfbdpaaDoorYP
namespace Go.Proofs.YtgkhjgpgdfbdpaaDoor
open Go Go.Wk
set_option maxHeartbeats 6400000
set_option maxRecDepth 100000
/-! ### what is printed is read, and what is read is printed -/
theorem frameW_no32 (f : FrameC) : ∀ w ∈ frameW f, (32 : UInt8) ∉ w := fun w hw => by
  simp only [frameW, List.mem_cons, List.mem_nil_iff, or_false] at hw
  rcases hw with rfl | rfl | rfl | rfl | rfl
  · decide
  · exact dec_no32 _
  · exact dec_no32 _
  · exact dec_no32 _
  · exact dec_no32 _
theorem words_frame (f : FrameC) : wordsS (frameL f) = (frameW f).map Str.mk := by
  unfold wordsS frameL
  rw [words_join (by simp [frameW]) (frameW_no32 f)]
theorem frame_back {f : FrameC} (h : f.ok) : frameA (frameL f) = some f := by
  obtain ⟨h1, h2, h3, h4⟩ := h
  unfold frameA
  rw [words_frame]
  simp only [frameW, List.map_cons, List.map_nil]
  rw [if_pos trivial, numA_some.2 ⟨h1, rfl⟩, numA_some.2 ⟨h2, rfl⟩, numA_some.2 ⟨h3, rfl⟩, numA_some.2 ⟨h4, rfl⟩]
theorem frame_inv {t : List UInt8} {f : FrameC} (h : frameA t = some f) : f.ok ∧ frameL f = t := by
  unfold frameA at h
  split at h
  · rename_i w a b c d hw
    split at h
    · rename_i hf
      split at h
      · rename_i n1 n2 n3 n4 e1 e2 e3 e4
        obtain rfl := Option.some.inj h
        obtain ⟨i1, j1⟩ := numA_some.1 e1
        obtain ⟨i2, j2⟩ := numA_some.1 e2
        obtain ⟨i3, j3⟩ := numA_some.1 e3
        obtain ⟨i4, j4⟩ := numA_some.1 e4
        refine ⟨⟨i1, i2, i3, i4⟩, ?_⟩
        have hm : (wordsS t).map Str.d = frameW ⟨n1, n2, n3, n4⟩ := by
          rw [hw]
          simp only [List.map_cons, List.map_nil, frameW, hf, j1, j2, j3, j4]
        unfold frameL
        rw [← hm]
        unfold wordsS
        rw [mk_d, join_words]
      · cases h
    · cases h
  · cases h
theorem words_one {w : List UInt8} (h : (32 : UInt8) ∉ w) : wordsS w = [⟨w⟩] := by
  unfold wordsS
  rw [wordsA_miss h]; rfl
theorem frame_part : frameA partB = none := by
  unfold frameA
  rw [words_one (by decide)]
theorem frame_proc : frameA procB = none := by
  unfold frameA
  rw [words_one (by decide)]
theorem frame_step (s : StepC) : frameA (printA s) = none := by
  cases h : frameA (printA s) with
  | none => rfl
  | some f =>
    have h1 := (frame_inv h).2
    have h2 := congrArg wordsS h1
    rw [words_frame, words_print] at h2
    have h3 : (frameW f).head? = (stepW s).head? := by
      have := congrArg (fun l => (l.map Str.d).head?) h2
      simpa [Function.comp_def] using this
    have h4 : (stepW s).head? = some (decA s.cycles) := by
      unfold stepW headW
      split <;> rfl
    rw [h4] at h3
    have h5 : frameB = decA s.cycles := Option.some.inj h3
    have h6 : (102 : UInt8) ∈ decA s.cycles := by rw [← h5]; decide
    exact absurd (decA_mem h6) (by decide)
theorem step_words (s : StepC) : 1 < (wordsS (printA s)).length := by
  rw [words_print, List.length_map]
  unfold stepW headW
  split <;> simp
theorem step_ne {s : StepC} {w : List UInt8} (h : (32 : UInt8) ∉ w) : printA s ≠ w := fun e => by
  have := step_words s
  rw [e, words_one h] at this
  simp at this
theorem go_step {P : List (List (List StepC))} {s : StepC} {q : List StepC} {p : List (List StepC)} (hs : s.ok) : takeS (P ++ [p ++ [q]], []) (printA s) = some (P ++ [p ++ [q ++ [normS s]]], []) := by
  have hput : ∀ (P : List (List (List StepC))) (x y : List (List StepC)), putL (P ++ [x]) y = P ++ [y] := fun P x y => by simp [putL]
  have hput2 : ∀ (P : List (List StepC)) (x y : List StepC), putL (P ++ [x]) y = P ++ [y] := fun P x y => by simp [putL]
  rw [takeS_step (frame_step s) (by simp) (step_ne (by decide)) (step_ne (by decide)) (by rw [lastL_snoc]; simp) (read_back hs)]
  rw [lastL_snoc, lastL_snoc, hput2, hput]
theorem go_proc {P : List (List (List StepC))} {p : List (List StepC)} : takeS (P ++ [p], []) procB = some (P ++ [p ++ [[]]], []) := by
  have hput : ∀ (P : List (List (List StepC))) (x y : List (List StepC)), putL (P ++ [x]) y = P ++ [y] := fun P x y => by simp [putL]
  rw [takeS_proc frame_proc (by simp) rfl, lastL_snoc, hput]
theorem go_part {P : List (List (List StepC))} : takeS (P, []) partB = some (P ++ [[]], []) := takeS_part frame_part rfl
theorem go_frame {P : List (List (List StepC))} {F : List FrameC} {f : FrameC} (h : f.ok) : takeS (P, F) (frameL f) = some (P, F ++ [f]) := takeS_frame (frame_back h)
theorem goS_trans {st s1 s2 : StT} {ws r : List (List UInt8)} (h1 : goS st ws = (s1, ws.length)) (h2 : goS s1 r = (s2, r.length)) : goS st (ws ++ r) = (s2, (ws ++ r).length) := by
  rw [goS_app h1, h2, List.length_append]
theorem goS_one {st s1 s2 : StT} {w : List UInt8} {r : List (List UInt8)} (h1 : takeS st w = some s1) (h2 : goS s1 r = (s2, r.length)) : goS st (w :: r) = (s2, (w :: r).length) := by
  rw [goS_some h1, h2]; rfl
theorem go_steps {P : List (List (List StepC))} {p : List (List StepC)} : ∀ {q q0 : List StepC}, (∀ s ∈ q, s.ok) → goS (P ++ [p ++ [q0]], []) (q.map printA) = ((P ++ [p ++ [q0 ++ q.map normS]], []), (q.map printA).length)
  | [], q0, _ => by simp [goS]
  | s :: q, q0, h => by
    rw [List.map_cons]
    refine goS_one (go_step (h s (List.mem_cons_self ..))) ?_
    rw [go_steps fun x hx => h x (List.mem_cons_of_mem _ hx), List.map_cons, List.append_assoc]; rfl
theorem go_procL {P : List (List (List StepC))} {p : List (List StepC)} {q : List StepC} (h : ∀ s ∈ q, s.ok) : goS (P ++ [p], []) (procL q) = ((P ++ [p ++ [q.map normS]], []), (procL q).length) := by
  unfold procL
  refine goS_one go_proc ?_
  rw [go_steps h]; rfl
theorem go_procs {P : List (List (List StepC))} : ∀ {qs p : List (List StepC)}, (∀ q ∈ qs, ∀ s ∈ q, s.ok) → goS (P ++ [p], []) (qs.flatMap procL) = ((P ++ [p ++ qs.map fun q => q.map normS], []), (qs.flatMap procL).length)
  | [], p, _ => by simp [goS]
  | q :: qs, p, h => by
    rw [List.flatMap_cons]
    refine goS_trans (go_procL (h q (List.mem_cons_self ..))) ?_
    rw [go_procs fun x hx => h x (List.mem_cons_of_mem _ hx), List.map_cons, List.append_assoc]; rfl
theorem go_progL {P : List (List (List StepC))} {p : List (List StepC)} (h : ∀ q ∈ p, ∀ s ∈ q, s.ok) : goS (P, []) (progL p) = ((P ++ [p.map fun q => q.map normS], []), (progL p).length) := by
  unfold progL
  refine goS_one go_part ?_
  rw [go_procs h]; rfl
theorem go_progs : ∀ {ps P : List (List (List StepC))}, (∀ p ∈ ps, ∀ q ∈ p, ∀ s ∈ q, s.ok) → goS (P, []) (ps.flatMap progL) = ((P ++ normD ps, []), (ps.flatMap progL).length)
  | [], P, _ => by simp [goS, normD]
  | p :: ps, P, h => by
    rw [List.flatMap_cons]
    refine goS_trans (go_progL (h p (List.mem_cons_self ..))) ?_
    rw [go_progs fun x hx => h x (List.mem_cons_of_mem _ hx), List.append_assoc]; rfl
theorem go_frames {P : List (List (List StepC))} : ∀ {fs F : List FrameC}, (∀ f ∈ fs, f.ok) → goS (P, F) (fs.map frameL) = ((P, F ++ fs), (fs.map frameL).length)
  | [], F, _ => by simp [goS]
  | f :: fs, F, h => by
    rw [List.map_cons]
    refine goS_one (go_frame (h f (List.mem_cons_self ..))) ?_
    rw [go_frames fun x hx => h x (List.mem_cons_of_mem _ hx), List.append_assoc]; rfl
theorem go_lines {ps : List (List (List StepC))} {fs : List FrameC} (h : ∀ p ∈ ps, ∀ q ∈ p, ∀ s ∈ q, s.ok) (hf : ∀ f ∈ fs, f.ok) : goS ([], []) (linesL ps fs) = ((normD ps, fs), (linesL ps fs).length) := by
  unfold linesL
  exact goS_trans (go_progs h) (go_frames hf)
end Go.Proofs.YtgkhjgpgdfbdpaaDoor

namespace Go.Proofs.YtgkhjgpgdfbdpaaDoor
open Go Go.Wk
set_option maxHeartbeats 6400000
set_option maxRecDepth 100000
def okP (ps : List (List (List StepC))) : Prop := ∀ p ∈ ps, ∀ q ∈ p, ∀ s ∈ q, s.ok
def okT (st : StT) : Prop := okP st.1 ∧ ∀ f ∈ st.2, f.ok
theorem split_last {α : Type} {l : List (List α)} (h : l ≠ []) : ∃ a, l = a ++ [lastL l] := by
  obtain ⟨a, x, rfl⟩ := (List.eq_nil_or_concat l).resolve_left h
  exact ⟨a, by rw [List.concat_eq_append, lastL_snoc]⟩
theorem putL_snoc {α : Type} {a : List (List α)} {x y : List α} : putL (a ++ [x]) y = a ++ [y] := by simp [putL]
/-- A line that is taken is just what is printed more. -/
theorem take_lines {st st' : StT} {w : List UInt8} (h : takeS st w = some st') : linesL st'.1 st'.2 = linesL st.1 st.2 ++ [w] ∧ (okT st → okT st') := by
  obtain ⟨P, F⟩ := st
  cases hf : frameA w with
  | some f =>
    rw [takeS_frame hf] at h
    obtain rfl := Option.some.inj h
    obtain ⟨h1, h2⟩ := frame_inv hf
    refine ⟨?_, fun ho => ⟨ho.1, fun x hx => ?_⟩⟩
    · unfold linesL
      rw [List.map_append, List.append_assoc, ← h2]; rfl
    · rcases List.mem_append.1 hx with hx | hx
      · exact ho.2 x hx
      · rw [List.mem_singleton.1 hx]; exact h1
  | none =>
    by_cases hF : F = []
    · subst hF
      by_cases hp : w = partB
      · rw [takeS_part hf hp] at h
        obtain rfl := Option.some.inj h
        refine ⟨by rw [hp]; simp [linesL, progL], fun ho => ⟨fun p hx => ?_, ho.2⟩⟩
        rcases List.mem_append.1 hx with hx | hx
        · exact ho.1 p hx
        · rw [List.mem_singleton.1 hx]; intro q hq; cases hq
      · by_cases hP : P = []
        · subst hP; rw [takeS_first hf hp] at h; cases h
        · obtain ⟨a, ha⟩ := split_last hP
          by_cases hq : w = procB
          · rw [takeS_proc hf hP hq] at h
            obtain rfl := Option.some.inj h
            generalize lastL P = p at ha
            subst ha
            refine ⟨by rw [hq]; simp only [putL_snoc, linesL]; simp [progL, procL], fun ho => ⟨fun p' hx => ?_, ho.2⟩⟩
            simp only [putL_snoc] at hx
            rcases List.mem_append.1 hx with hx | hx
            · exact ho.1 p' (List.mem_append_left _ hx)
            · rw [List.mem_singleton.1 hx]
              intro q hq
              rcases List.mem_append.1 hq with hq | hq
              · exact ho.1 p (by simp) q hq
              · rw [List.mem_singleton.1 hq]; intro s hs; cases hs
          · cases hr : readA (wordsS w) with
            | none => rw [takeS_say hf hP hp hq hr] at h; cases h
            | some x =>
              by_cases hl : lastL P = []
              · rw [takeS_lone hf hP hp hq hl] at h; cases h
              · rw [takeS_step hf hP hp hq hl hr] at h
                obtain rfl := Option.some.inj h
                obtain ⟨h1, h2⟩ := print_read hr
                obtain ⟨b, hb⟩ := split_last hl
                generalize lastL P = p at ha hb hl
                subst ha
                generalize lastL p = q at hb
                subst hb
                refine ⟨by simp only [putL_snoc, linesL]; simp [progL, procL, h2], fun ho => ⟨fun p' hx => ?_, ho.2⟩⟩
                simp only [putL_snoc] at hx
                rcases List.mem_append.1 hx with hx | hx
                · exact ho.1 p' (List.mem_append_left _ hx)
                · rw [List.mem_singleton.1 hx]
                  intro q' hq'
                  rcases List.mem_append.1 hq' with hq' | hq'
                  · exact ho.1 (b ++ [q]) (by simp) q' (List.mem_append_left _ hq')
                  · rw [List.mem_singleton.1 hq']
                    intro s hs
                    rcases List.mem_append.1 hs with hs | hs
                    · exact ho.1 (b ++ [q]) (by simp) q (by simp) s hs
                    · rw [List.mem_singleton.1 hs]; exact h1
    · rw [takeS_late hf hF] at h; cases h
theorem go_inv : ∀ {ws : List (List UInt8)} {st st' : StT}, goS st ws = (st', ws.length) → linesL st'.1 st'.2 = linesL st.1 st.2 ++ ws ∧ (okT st → okT st')
  | [], st, st', h => by
    obtain rfl : st = st' := congrArg Prod.fst h
    exact ⟨by simp, id⟩
  | w :: ws, st, st', h => by
    cases ht : takeS st w with
    | none =>
      rw [goS_none ht] at h
      have := congrArg Prod.snd h
      simp at this
    | some s1 =>
      rw [goS_some ht] at h
      have h1 : (goS s1 ws).1 = st' := congrArg Prod.fst h
      have h2 : (goS s1 ws).2 + 1 = ws.length + 1 := congrArg Prod.snd h
      obtain ⟨e1, o1⟩ := take_lines ht
      obtain ⟨e2, o2⟩ := go_inv (st := s1) (st' := st') (ws := ws) (Prod.ext h1 (by omega))
      exact ⟨by rw [e2, e1, List.append_assoc]; rfl, fun ho => o2 (o1 ho)⟩
end Go.Proofs.YtgkhjgpgdfbdpaaDoor

namespace Go.Proofs.YtgkhjgpgdfbdpaaDoor
open Go Go.Wk
set_option maxHeartbeats 6400000
set_option maxRecDepth 100000
theorem textL_lines : ∀ {l : List (List UInt8)}, (∀ w ∈ l, (10 : UInt8) ∉ w) → wordsA 10 (textL l) = l ++ [[]]
  | [], _ => rfl
  | w :: l, h => by
    have ih := textL_lines fun x hx => h x (List.mem_cons_of_mem _ hx)
    show wordsA 10 ((w ++ [10]) ++ textL l) = _
    rw [List.append_assoc, List.singleton_append, wordsA_hit (h w (List.mem_cons_self ..)), ih]; rfl
theorem joinA_no {c b : UInt8} (hcb : b ≠ c) : ∀ {ws : List (List UInt8)}, (∀ w ∈ ws, b ∉ w) → b ∉ joinA c ws
  | [], _ => by simp [joinA]
  | [w], h => by simpa [joinA] using h w (by simp)
  | w :: v :: r, h => by
    have ih := joinA_no hcb (ws := v :: r) fun x hx => h x (List.mem_cons_of_mem _ hx)
    show b ∉ w ++ c :: joinA c (v :: r)
    intro hm
    rcases List.mem_append.1 hm with hm | hm
    · exact h w (List.mem_cons_self ..) hm
    · rcases List.mem_cons.1 hm with hm | hm
      · exact hcb hm
      · exact ih hm
theorem name_no10 (no : Int) : (10 : UInt8) ∉ nameA no := by
  by_cases h : isA no
  · obtain ⟨b, r, _, _, _, h⟩ := name_head h; exact h
  · unfold nameA; rw [kindA_no h]; simp
theorem step_no10 (s : StepC) : (10 : UInt8) ∉ printA s := by
  refine joinA_no (by decide) fun w hw => ?_
  unfold stepW headW at hw
  rcases List.mem_append.1 hw with hw | hw
  · split at hw <;> simp only [List.mem_cons, List.mem_nil_iff, or_false] at hw
    · rcases hw with rfl | rfl
      · exact dec_no10 _
      · exact name_no10 _
    · rcases hw with rfl | rfl | rfl
      · exact dec_no10 _
      · decide
      · exact dec_no10 _
  · obtain ⟨x, _, rfl⟩ := List.mem_map.1 hw
    exact dec_no10 _
theorem frame_no10 (f : FrameC) : (10 : UInt8) ∉ frameL f := by
  refine joinA_no (by decide) fun w hw => ?_
  simp only [frameW, List.mem_cons, List.mem_nil_iff, or_false] at hw
  rcases hw with rfl | rfl | rfl | rfl | rfl
  · decide
  · exact dec_no10 _
  · exact dec_no10 _
  · exact dec_no10 _
  · exact dec_no10 _
theorem lines_no10 {ps : List (List (List StepC))} {fs : List FrameC} : ∀ w ∈ linesL ps fs, (10 : UInt8) ∉ w := fun w hw => by
  unfold linesL at hw
  rcases List.mem_append.1 hw with hw | hw
  · obtain ⟨p, _, hw⟩ := List.mem_flatMap.1 hw
    unfold progL at hw
    rcases List.mem_cons.1 hw with rfl | hw
    · decide
    · obtain ⟨q, _, hw⟩ := List.mem_flatMap.1 hw
      unfold procL at hw
      rcases List.mem_cons.1 hw with rfl | hw
      · decide
      · obtain ⟨s, _, rfl⟩ := List.mem_map.1 hw
        exact step_no10 s
  · obtain ⟨f, _, rfl⟩ := List.mem_map.1 hw
    exact frame_no10 f
/-- What is printed is read as it is without numbers that nobody reads. -/
theorem readT_print {ps : List (List (List StepC))} {fs : List FrameC} (h : okT (ps, fs)) (hl : (textL (linesL ps fs)).length ≤ 65536) : readT (textL (linesL ps fs)) = ((normD ps, fs), 0, 0) := by
  unfold readT
  rw [if_neg (by omega), textL_lines lines_no10, List.dropLast_concat, List.getLast?_concat, go_lines h.1 h.2, if_pos ⟨rfl, rfl⟩]
theorem okT_nil : okT ([], []) := ⟨fun p hp => (by cases hp), fun f hf => (by cases hf)⟩
theorem textL_join {l : List (List UInt8)} : textL l = joinA 10 (l ++ [[]]) := by
  induction l with
  | nil => rfl
  | cons w l ih =>
    cases l with
    | nil => show (w ++ [10]) ++ [] = w ++ 10 :: []; simp
    | cons v r =>
      show (w ++ [10]) ++ textL (v :: r) = w ++ 10 :: joinA 10 (v :: (r ++ [[]]))
      rw [ih, List.append_assoc]; rfl
/-- What is read is printed just so. -/
theorem readT_inv {s : List UInt8} {st : StT} (h : readT s = (st, 0, 0)) : s.length ≤ 65536 ∧ textL (linesL st.1 st.2) = s ∧ okT st := by
  unfold readT at h
  split at h
  · simp at h
  · rename_i hs
    split at h
    · rename_i hg
      have h1 : (goS ([], []) (wordsA 10 s).dropLast).1 = st := congrArg Prod.fst h
      obtain ⟨e, o⟩ := go_inv (st := ([], [])) (st' := st) (ws := (wordsA 10 s).dropLast) (Prod.ext h1 hg.1)
      refine ⟨by omega, ?_, o okT_nil⟩
      rw [e]
      show textL ([] ++ _) = s
      rw [List.nil_append, textL_join]
      have hx : (wordsA 10 s).dropLast ++ [[]] = wordsA 10 s := by
        obtain ⟨a, hz⟩ := List.getLast?_eq_some_iff.1 hg.2
        rw [hz, List.dropLast_concat]
      rw [hx, join_words]
    · simp at h
end Go.Proofs.YtgkhjgpgdfbdpaaDoor

namespace Go.Proofs.YtgkhjgpgdfbdpaaDoor
open Go Go.Wk
set_option maxHeartbeats 6400000
set_option maxRecDepth 100000
theorem textL_len {n : Nat} : ∀ {l : List (List UInt8)}, (∀ w ∈ l, w.length ≤ n) → (textL l).length ≤ l.length * (n + 1)
  | [], _ => Nat.zero_le _
  | w :: l, h => by
    have ih := textL_len fun x hx => h x (List.mem_cons_of_mem _ hx)
    have hw := h w (List.mem_cons_self ..)
    show ((w ++ [10]) ++ textL l).length ≤ _
    rw [List.length_append, List.length_append, List.length_singleton, List.length_cons, Nat.succ_mul]
    omega
theorem flatMap_len {α β : Type} {f : α → List β} {n : Nat} : ∀ {l : List α}, (∀ x ∈ l, (f x).length ≤ n) → (l.flatMap f).length ≤ l.length * n
  | [], _ => Nat.zero_le _
  | x :: l, h => by
    have ih := flatMap_len fun y hy => h y (List.mem_cons_of_mem _ hy)
    have hx := h x (List.mem_cons_self ..)
    rw [List.flatMap_cons, List.length_append, List.length_cons, Nat.succ_mul]
    omega
theorem lines_len {ps : List (List (List StepC))} {fs : List FrameC} {a b c d : Nat} (h1 : ps.length ≤ a) (h2 : ∀ p ∈ ps, p.length ≤ b ∧ ∀ q ∈ p, q.length ≤ c) (h3 : fs.length ≤ d) : (linesL ps fs).length ≤ a * (b * (c + 1) + 1) + d := by
  unfold linesL
  rw [List.length_append, List.length_map]
  have hp : (ps.flatMap progL).length ≤ ps.length * (b * (c + 1) + 1) := flatMap_len fun p hp => by
    unfold progL
    rw [List.length_cons]
    have hq : (p.flatMap procL).length ≤ p.length * (c + 1) := flatMap_len fun q hq => by
      unfold procL
      rw [List.length_cons, List.length_map]
      have := (h2 p hp).2 q hq; omega
    have := Nat.mul_le_mul_right (c + 1) (h2 p hp).1
    omega
  have := Nat.mul_le_mul_right (b * (c + 1) + 1) h1
  omega
theorem lines_wlen {ps : List (List (List StepC))} {fs : List FrameC} (h : okT (ps, fs)) : ∀ w ∈ linesL ps fs, w.length ≤ 147 := fun w hw => by
  unfold linesL at hw
  rcases List.mem_append.1 hw with hw | hw
  · obtain ⟨p, hp, hw⟩ := List.mem_flatMap.1 hw
    unfold progL at hw
    rcases List.mem_cons.1 hw with rfl | hw
    · decide
    · obtain ⟨q, hq, hw⟩ := List.mem_flatMap.1 hw
      unfold procL at hw
      rcases List.mem_cons.1 hw with rfl | hw
      · decide
      · obtain ⟨s, hs, rfl⟩ := List.mem_map.1 hw
        exact printA_len (h.1 p hp q hq s hs)
  · obtain ⟨f, hf, rfl⟩ := List.mem_map.1 hw
    exact Nat.le_trans (frameL_len (h.2 f hf)) (by decide)
theorem few_len {progs : List ProgS} {frames : List FrameC} (h : fewS progs frames) (ho : okT (progsD progs, frames)) : (textL (linesL (progsD progs) frames)).length ≤ 100000000 := by
  have h1 := textL_len (lines_wlen ho)
  have h2 := lines_len (ps := progsD progs) (fs := frames) (a := 40) (b := 40) (c := 200) (d := 3000) (by unfold progsD; rw [List.length_map]; exact h.1) (fun p hp => by
    obtain ⟨p', hp', rfl⟩ := List.mem_map.1 hp
    obtain ⟨e1, e2⟩ := h.2.2 p' hp'
    refine ⟨by rw [List.length_map]; exact e1, fun q hq => ?_⟩
    obtain ⟨q', hq', rfl⟩ := List.mem_map.1 hq
    exact e2 q' hq') h.2.1
  omega
theorem okT_of {progs : List ProgS} {frames : List FrameC} (hps : ∀ p ∈ progs, ∀ q ∈ p.d, ∀ s ∈ q.d, s.ok) (hfs : ∀ f ∈ frames, f.ok) : okT (progsD progs, frames) := ⟨fun p hp q hq s hs => by
  obtain ⟨p', hp', rfl⟩ := List.mem_map.1 hp
  obtain ⟨q', hq', rfl⟩ := List.mem_map.1 hq
  exact hps p' hp' q' hq' s hs, hfs⟩
theorem okT_progs {progs : List ProgS} {frames : List FrameC} (h : okT (progsD progs, frames)) : ∀ p ∈ progs, ∀ q ∈ p.d, ∀ s ∈ q.d, s.ok := fun _p hp _q hq => h.1 _ (List.mem_map_of_mem hp) _ (List.mem_map_of_mem hq)
end Go.Proofs.YtgkhjgpgdfbdpaaDoor

namespace Go.Proofs.YtgkhjgpgdfbdpaaDoor
open Go Go.Wk
set_option maxHeartbeats 6400000
set_option maxRecDepth 100000
theorem tiny_find : ∃ k : Nat, k < 27 ∧ nameA ((k + 1 : Nat) : Int) = [103, 101, 116, 45, 116, 105, 109, 101] ∧ argsA ((k + 1 : Nat) : Int) = 0 := by decide +kernel
noncomputable def tinyS : StepC := ⟨5, ((Classical.choose tiny_find + 1 : Nat) : Int), 0, 0, 0, 0⟩
def tinyT : List UInt8 := [112, 97, 114, 116, 10, 112, 114, 111, 99, 10, 53, 32, 103, 101, 116, 45, 116, 105, 109, 101, 10]
theorem tiny_ok : tinyS.ok := by
  have := (Classical.choose_spec tiny_find).1
  unfold StepC.ok tinyS I64; simp; omega
theorem tiny_print : printA tinyS = [53, 32, 103, 101, 116, 45, 116, 105, 109, 101] := by
  obtain ⟨h1, hn, ha⟩ := Classical.choose_spec tiny_find
  have hi : isA ((Classical.choose tiny_find + 1 : Nat) : Int) := by unfold isA; omega
  unfold printA stepW headW tinyS
  simp only [if_pos hi, ha, hn, dec_w.1]
  rfl
theorem tiny_norm : normS tinyS = tinyS := by
  obtain ⟨h1, hn, ha⟩ := Classical.choose_spec tiny_find
  unfold normS tinyS
  simp only [ha]; rfl
theorem tiny_text : textL (linesL [[[tinyS]]] []) = tinyT := by
  have : linesL [[[tinyS]]] [] = [partB, procB, printA tinyS] := rfl
  rw [this, tiny_print]; rfl
theorem tiny_okT : okT ([[[tinyS]]], []) := ⟨fun p hp q hq s hs => by
  rw [List.mem_singleton.1 hp] at hq
  rw [List.mem_singleton.1 hq] at hs
  rw [List.mem_singleton.1 hs]; exact tiny_ok, fun f hf => (by cases hf)⟩
theorem tiny_read : readT tinyT = (([[[tinyS]]], []), 0, 0) := by
  have h := readT_print tiny_okT (by rw [tiny_text]; decide)
  rw [tiny_text] at h
  rw [h]
  show (([[[normS tinyS]]], []), _, _) = _
  rw [tiny_norm]
theorem tiny_printS : printS (linesL [[[tinyS]]] []) = (tinyT, 0) := by
  have h : (textL (linesL [[[tinyS]]] [])).length ≤ 65536 := by rw [tiny_text]; decide
  unfold printS
  rw [if_neg (by omega), tiny_text]
end Go.Proofs.YtgkhjgpgdfbdpaaDoor
