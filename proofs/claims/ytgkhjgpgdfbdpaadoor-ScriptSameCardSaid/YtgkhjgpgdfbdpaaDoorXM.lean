import Derived.Test.YtgkhjgpgdfbdpaaDoorXL
namespace Go.Proofs.YtgkhjgpgdfbdpaaDoor
open Go Go.Wk
set_option maxRecDepth 100000
theorem name_no32 (no : Int) : (32 : UInt8) ∉ nameA no := by
  by_cases h : isA no
  · obtain ⟨k, hk, rfl⟩ := isA_cases h
    have : ∀ k, k < 27 → (32 : UInt8) ∉ nameA ((k + 1 : Nat) : Int) := by decide +kernel
    exact this k hk
  · unfold nameA; rw [kindA_no h]; simp
theorem name_nocall {no : Int} (h : isA no) : nameA no ≠ [99, 97, 108, 108] := by
  obtain ⟨k, hk, rfl⟩ := isA_cases h
  have : ∀ k, k < 27 → nameA ((k + 1 : Nat) : Int) ≠ [99, 97, 108, 108] := by decide +kernel
  exact this k hk
theorem dec_no32 (n : Int) : (32 : UInt8) ∉ decA n := fun h => absurd (decA_mem h).1 (by decide)
theorem stepW_no32 (s : StepC) : ∀ w ∈ stepW s, (32 : UInt8) ∉ w := fun w hw => by
  unfold stepW headW at hw
  rcases List.mem_append.1 hw with hw | hw
  · split at hw <;> simp only [List.mem_cons, List.mem_nil_iff, or_false] at hw
    · rcases hw with rfl | rfl
      · exact dec_no32 _
      · exact name_no32 _
    · rcases hw with rfl | rfl | rfl
      · exact dec_no32 _
      · decide
      · exact dec_no32 _
  · obtain ⟨x, _, rfl⟩ := List.mem_map.1 hw
    exact dec_no32 _
theorem words_print (s : StepC) : wordsS (printA s) = (stepW s).map Str.mk := by
  unfold wordsS printA
  rw [words_join ?_ (stepW_no32 s)]
  unfold stepW headW
  split <;> simp
/-- A step without numbers of which its call is not. -/
def normS (s : StepC) : StepC := ⟨s.cycles, s.call, if argsA s.call < 1 then 0 else s.a, if argsA s.call < 2 then 0 else s.b, if argsA s.call < 3 then 0 else s.c, if argsA s.call < 4 then 0 else s.d⟩
theorem nth_take {l : List Int} (hl : ∀ x ∈ l, I64 x) (i : Nat) : nthN ((l.map decA).map Str.mk) i = l.getD i 0 ∧ (i < l.length → (numA (ix ((l.map decA).map Str.mk) (i : Int)).d).isSome = true) := by
  by_cases h : i < l.length
  · have he : ix ((l.map decA).map Str.mk) (i : Int) = ⟨decA l[i]⟩ := by simp [ix, h]
    have hn := numA_dec (hl l[i] (List.getElem_mem h))
    unfold nthN
    rw [he]
    simp only [hn]
    exact ⟨by simp [h], fun _ => rfl⟩
  · unfold nthN
    rw [ix_out (by simp; omega), numA_nil]
    exact ⟨by simp [List.getElem?_eq_none (Nat.le_of_not_lt h)], fun h' => absurd h' h⟩
theorem read_print {s : StepC} (hs : s.ok) : readA ((stepW s).map Str.mk) = some (normS s) := by
  obtain ⟨h1, h2, h3, h4, h5, h6⟩ := hs
  have h4' := argsA_le s.call
  obtain ⟨n, hn4, hn⟩ : ∃ n : Nat, n ≤ 4 ∧ argsA s.call = (n : Int) := ⟨(argsA s.call).toNat, by omega, by omega⟩
  have hall : ∀ x ∈ [s.a, s.b, s.c, s.d].take n, I64 x := fun x hx => by
    have := List.mem_of_mem_take hx
    simp only [List.mem_cons, List.mem_nil_iff, or_false] at this
    rcases this with rfl | rfl | rfl | rfl <;> assumption
  have hlen : ([s.a, s.b, s.c, s.d].take n).length = n := by rw [List.length_take]; simp; omega
  have hgood : goodW ((([s.a, s.b, s.c, s.d].take n).map decA).map Str.mk) (argsA s.call) := by
    refine ⟨by rw [hn, List.length_map, List.length_map, hlen], fun i hi => (nth_take hall i).2 (by simpa using hi)⟩
  have hnt : ∀ i, nthN ((([s.a, s.b, s.c, s.d].take n).map decA).map Str.mk) i = ([s.a, s.b, s.c, s.d].take n).getD i 0 := fun i => (nth_take hall i).1
  have hfin : (⟨s.cycles, s.call, nthN ((([s.a, s.b, s.c, s.d].take n).map decA).map Str.mk) 0, nthN ((([s.a, s.b, s.c, s.d].take n).map decA).map Str.mk) 1, nthN ((([s.a, s.b, s.c, s.d].take n).map decA).map Str.mk) 2, nthN ((([s.a, s.b, s.c, s.d].take n).map decA).map Str.mk) 3⟩ : StepC) = normS s := by
    rw [hnt, hnt, hnt, hnt]
    unfold normS
    rw [hn]
    rcases n with _ | _ | _ | _ | _ | n <;> first | omega | rfl
  unfold stepW headW
  rw [hn, Int.toNat_natCast]
  by_cases hi : isA s.call
  · rw [if_pos hi]
    have hcl : ¬ (ix ((([decA s.cycles, nameA s.call] ++ ([s.a, s.b, s.c, s.d].take n).map decA).map Str.mk).drop 1) 0).d = [99, 97, 108, 108] := name_nocall hi
    rw [readA_some (ws := ([decA s.cycles, nameA s.call] ++ ([s.a, s.b, s.c, s.d].take n).map decA).map Str.mk) (c := s.cycles) (k := s.call) (rest := (([s.a, s.b, s.c, s.d].take n).map decA).map Str.mk) (numA_dec h1) ?_ ?_ hgood, hfin]
    · rw [callA_name hcl]
      have : numberA (ix ((([decA s.cycles, nameA s.call] ++ ([s.a, s.b, s.c, s.d].take n).map decA).map Str.mk).drop 1) 0).d = s.call := numberA_eq hi rfl
      rw [this]
      rw [if_neg (by have := hi.1; omega)]
    · rw [callA_name hcl]; rfl
  · rw [if_neg hi]
    have hcall : callA ((([decA s.cycles, [99, 97, 108, 108], decA s.call] ++ ([s.a, s.b, s.c, s.d].take n).map decA).map Str.mk).drop 1) = (some s.call, (([s.a, s.b, s.c, s.d].take n).map decA).map Str.mk) := by
      rw [callA_call rfl]
      have : numA (ix (((([decA s.cycles, [99, 97, 108, 108], decA s.call] ++ ([s.a, s.b, s.c, s.d].take n).map decA).map Str.mk).drop 1).drop 1) 0).d = some s.call := numA_dec h2
      rw [this]
      simp only [if_neg hi]
      rfl
    rw [readA_some (ws := ([decA s.cycles, [99, 97, 108, 108], decA s.call] ++ ([s.a, s.b, s.c, s.d].take n).map decA).map Str.mk) (c := s.cycles) (k := s.call) (rest := (([s.a, s.b, s.c, s.d].take n).map decA).map Str.mk) (numA_dec h1) (by rw [hcall]) (by rw [hcall]) hgood, hfin]
theorem read_back {s : StepC} (hs : s.ok) : readA (wordsS (printA s)) = some (normS s) := by rw [words_print]; exact read_print hs
theorem nthN_I64 (ws : List Str) (i : Nat) : I64 (nthN ws i) := by
  unfold nthN
  cases h : numA (ix ws (i : Int)).d with
  | none => unfold I64; simp
  | some n => exact (numA_some.1 h).1
theorem nthN_dec {ws : List Str} {i : Nat} (h : (numA (ix ws (i : Int)).d).isSome = true) : (ix ws (i : Int)).d = decA (nthN ws i) := by
  unfold nthN
  cases hn : numA (ix ws (i : Int)).d with
  | none => rw [hn] at h; cases h
  | some n => exact (numA_some.1 hn).2.symm
/-- What is read of words is what they say. -/
theorem read_inv {ws : List Str} {s : StepC} (h : readA ws = some s) : s.ok ∧ ws.map Str.d = stepW s := by
  unfold readA at h
  split at h
  · rename_i c k hc hk
    split at h
    · rename_i hg
      obtain rfl := Option.some.inj h
      obtain ⟨hc1, hc2⟩ := numA_some.1 hc
      have hn4 := argsA_le k
      have key : ∀ rest : List Str, goodW rest (argsA k) → rest.map Str.d = ([nthN rest 0, nthN rest 1, nthN rest 2, nthN rest 3].take (argsA k).toNat).map decA := fun rest hgd => by
        obtain ⟨n, hn, he⟩ : ∃ n : Nat, n ≤ 4 ∧ argsA k = (n : Int) := ⟨(argsA k).toNat, by omega, by omega⟩
        have hgl := hgd.1
        rw [he] at hgl
        have hx : ∀ i : Nat, i < rest.length → (ix rest (i : Int)).d = decA (nthN rest i) := fun i hi => nthN_dec (hgd.2 i hi)
        rw [he, Int.toNat_natCast]
        apply List.ext_getElem?
        intro i
        by_cases hi : i < rest.length
        · have h1 : (rest.map Str.d)[i]? = some (ix rest (i : Int)).d := by simp [ix, hi]
          rw [h1, hx i hi]
          have hin : i < n := by omega
          rcases i with _ | _ | _ | _ | i <;> first | (simp [hin]; done) | omega
        · rw [List.getElem?_eq_none (by rw [List.length_map]; omega), List.getElem?_eq_none (by rw [List.length_map, List.length_take]; simp; omega)]
      have hlen0 : 0 < ws.length := by
        rcases Nat.eq_zero_or_pos ws.length with h0 | h0
        · have := ix_out (ws := ws) (r := 0) (by omega)
          rw [show ((0 : Nat) : Int) = 0 from rfl] at this
          rw [this, numA_nil] at hc; cases hc
        · exact h0
      obtain ⟨w0, r, rfl⟩ : ∃ w0 r, ws = w0 :: r := by
        cases ws with
        | nil => simp at hlen0
        | cons a b => exact ⟨a, b, rfl⟩
      have hw0 : w0.d = decA c := hc2.symm
      have hd1 : (w0 :: r).drop 1 = r := rfl
      rw [hd1] at hk hg ⊢
      by_cases hcl : (ix r 0).d = [99, 97, 108, 108]
      · rw [callA_call hcl] at hk hg ⊢
        simp only at hk hg ⊢
        cases h2 : numA (ix (r.drop 1) 0).d with
        | none => rw [h2] at hk; cases hk
        | some k' =>
          rw [h2] at hk
          simp only at hk
          split at hk
          · cases hk
          · rename_i hni
            obtain rfl := Option.some.inj hk
            obtain ⟨hk1, hk2⟩ := numA_some.1 h2
            refine ⟨⟨hc1, hk1, nthN_I64 _ _, nthN_I64 _ _, nthN_I64 _ _, nthN_I64 _ _⟩, ?_⟩
            have hk3 := key _ hg
            obtain ⟨w1, w2, r2, rfl⟩ : ∃ w1 w2 r2, r = w1 :: w2 :: r2 := by
              rcases r with _ | ⟨a, _ | ⟨b, r2⟩⟩
              · cases hcl
              · exfalso
                have : (ix ([a].drop 1) 0).d = [] := rfl
                rw [this] at hk2; exact decA_ne _ hk2
              · exact ⟨a, b, r2, rfl⟩
            have e1 : w1.d = [99, 97, 108, 108] := hcl
            have e2 : w2.d = decA k' := hk2.symm
            unfold stepW headW
            rw [if_neg hni]
            simp only [List.map_cons, hw0, e1, e2, List.cons_append, List.nil_append]
            rw [show ((w1 :: w2 :: r2).drop 1).drop 1 = r2 from rfl] at hk3 ⊢
            rw [hk3]
      · rw [callA_name hcl] at hk hg ⊢
        simp only at hk hg ⊢
        split at hk
        · cases hk
        · rename_i hnz
          obtain rfl := Option.some.inj hk
          rcases numberA_spec (ix r 0).d with ⟨h0, _⟩ | ⟨hi1, hi2⟩
          · exact absurd h0 hnz
          · refine ⟨⟨hc1, (show I64 (numberA (ix r 0).d) from by have := hi1.1; have := hi1.2; unfold I64; omega), nthN_I64 _ _, nthN_I64 _ _, nthN_I64 _ _, nthN_I64 _ _⟩, ?_⟩
            have hk3 := key _ hg
            obtain ⟨w1, r2, rfl⟩ : ∃ w1 r2, r = w1 :: r2 := by
              rcases r with _ | ⟨a, r2⟩
              · exact absurd hi2 (by rw [ix_nil0]; exact name_ne hi1)
              · exact ⟨a, r2, rfl⟩
            have e1 : (ix (w1 :: r2) 0).d = w1.d := rfl
            rw [e1] at hi1 hi2 hk3 ⊢
            unfold stepW headW
            rw [if_pos hi1]
            simp only [List.map_cons, hw0, hi2, List.cons_append, List.nil_append]
            rw [show (w1 :: r2).drop 1 = r2 from rfl] at hk3 ⊢
            rw [hk3]
    · cases h
  · cases h
theorem print_read {t : List UInt8} {s : StepC} (h : readA (wordsS t) = some s) : s.ok ∧ printA s = t := by
  obtain ⟨h1, h2⟩ := read_inv h
  refine ⟨h1, ?_⟩
  unfold printA
  rw [← h2]
  unfold wordsS
  rw [mk_d, join_words]
theorem dec_w : decA 5 = [53] ∧ decA 0 = [48] ∧ decA 16 = [49, 54] ∧ decA 4 = [52] ∧ decA (-1) = [45, 49] := by
  have e : digA 1 = [49] := digA_lt (by omega)
  refine ⟨?_, ?_, ?_, ?_, ?_⟩
  · rw [decA_pos (by omega)]; exact digA_lt (by decide)
  · rw [decA_pos (by omega)]; exact digA_lt (by decide)
  · rw [decA_pos (by omega)]
    show digA 16 = _
    rw [digA_ge (by omega)]
    show digA 1 ++ _ = _
    rw [e]; rfl
  · rw [decA_pos (by omega)]; exact digA_lt (by decide)
  · rw [decA_neg (by omega)]
    show 45 :: digA 1 = _
    rw [e]
def workS : StepC := ⟨5, 11, 0, 16, 4, -1⟩
def workT : List UInt8 := [53, 32, 115, 101, 110, 100, 32, 48, 32, 49, 54, 32, 52, 32, 45, 49]
theorem workS_ok : workS.ok := by unfold StepC.ok workS I64; simp
theorem work_print : printA workS = workT := by
  obtain ⟨h1, h2, h3, h4, h5⟩ := dec_w
  have hi : isA 11 := by decide
  have ha : argsA 11 = 4 := by decide +kernel
  have hn : nameA 11 = [115, 101, 110, 100] := by decide +kernel
  unfold printA stepW headW workS
  simp only [if_pos hi, ha, hn, h1]
  show joinA 32 ([[53], [115, 101, 110, 100]] ++ [decA 0, decA 16, decA 4, decA (-1)]) = _
  rw [h2, h3, h4, h5]; rfl
theorem work_norm : normS workS = workS := by
  have ha : argsA 11 = 4 := by decide +kernel
  unfold normS workS
  simp only [ha]; rfl
theorem work_read : readA (wordsS workT) = some workS := by rw [← work_print, read_back workS_ok, work_norm]
theorem name_one : nameA 1 = [112, 101, 114, 105, 111, 100, 105, 99, 45, 119, 97, 105, 116] := by decide +kernel
end Go.Proofs.YtgkhjgpgdfbdpaaDoor
