import Derived.Test.YtlmcoiloepoggaaPG
namespace Go.Proofs.Ytlmcoiloepoggaa
open Go Go.Wk
set_option maxHeartbeats 3200000
set_option maxRecDepth 10000
def OneG.conf (g : OneG) : PortC := ⟨g.q, g.i, g.size, g.depth⟩
theorem mk0_conf {b c : Nat} {x : PortC} : (OneG.mk0 b c x).conf = x := rfl
theorem mk0_pt {b c : Nat} {x : PortC} : (OneG.mk0 b c x).pt = ⟨some b⟩ := rfl
theorem mk0_core {b c : Nat} {x : PortC} : (OneG.mk0 b c x).core = portM x := rfl
theorem ix_set_self {xs : List OneG} {k : Nat} {x : OneG} (h : k < xs.length) : ix (xs.set k x) (k : Int) = x := by rw [ix_nat (by simpa using h)]; simp
theorem ix_set_ne {xs : List OneG} {k j : Nat} {x : OneG} (h : j ≠ k) (hj : j < xs.length) : ix (xs.set k x) (j : Int) = ix xs (j : Int) := by
  rw [ix_nat (by simpa using hj), ix_nat hj, List.getElem_set_ne (Ne.symm h)]
theorem oneA_conf {g : OneG} : oneA g = oneA g := rfl
theorem one_open {g : OneG} {l : List Asrt} {X : WP} (hx : ∀ v0, Tr (onB g.b g.q g.i g.size g.depth v0 g.lost :: l) X) : Tr (oneA g :: l) X := by
  cases hq : g.q
  · refine oneS_open hq ?_
    have := hx (.iface 167 (.pointer (some ⟨g.c, 0, none⟩)))
    rw [hq] at this
    exact this.imp (Imp.cons (Imp.trans Imp.tail Imp.tail))
  · refine oneQ_open hq ?_
    have := hx (.iface 164 (.pointer (some ⟨g.c, 0, none⟩)))
    rw [hq] at this
    exact this.imp (Imp.cons (Imp.trans Imp.tail (Imp.trans Imp.tail Imp.tail)))
theorem clear_core {gs g2 : List OneG} (hl : g2.length = gs.length) (_hcf : g2.map OneG.conf = gs.map OneG.conf) (h : ∀ j : Nat, j < gs.length → (ix g2 (j : Int)).core = portM (ix gs (j : Int)).conf) : g2.map OneG.core = gs.map fun g => portM g.conf :=
  List.ext_getElem (by simp [hl]) fun i h1 h2 => by
    have h1' : i < gs.length := by simpa using h2
    have := h i h1'
    rw [ix_nat (by omega), ix_nat h1'] at this
    simpa using this
attribute [local irreducible] BrK GenK EGenK EUnitK CallK FnK CallV GuardO GuardC CondW opX opK opKc chkR eqR seqK blkK endL WL WD W LoopW BinK Tr drewK resL PickK NotK NilK ExtrK getK Instr.storeAt Instr.loadAt Instr.fieldAt Instr.indexAt Instr.lookup Instr.mapUpdate Instr.box Instr.alloc Instr.build Instr.buildSlice Instr.makeSlice Instr.makeMap Instr.sliceAt Instr.field Instr.index Instr.makeInterface Instr.typeAssert Builtin.len_ Builtin.append_ Builtin.cap_ Builtin.min_ Builtin.max_ Builtin.copy_ Builtin.clear_ convert binOp mp blk rob sl sep ex fact old
theorem pclear_ok {p : Nat} {s : SV} {gs : List OneG} : Trip Try.prog 56 [.pointer (some ⟨p, 0, none⟩)].toArray [poB p s, fam oneA gs, sl false s.v (gs.map OneG.pt)]
    fun v l' => ∃ gs', gs'.map OneG.pt = gs.map OneG.pt ∧ gs'.map OneG.core = gs.map (fun g => portM g.conf) ∧ v = .tuple #[] ∧ l' = [poB p s, fam oneA gs', sl false s.v (gs.map OneG.pt)] := by
  intro F K hK
  simp only [List.cons_append, List.nil_append]
  refine Tr.bound (xs := gs.map OneG.pt) (Has.next (Has.next Has.here)) fun hbx => ?_
  have hlp : (gs.map OneG.pt).length = gs.length := List.length_map _
  (refine Tr.enter (rs := []) mixed fn56 rfl (by simp +arith [Try.ntmps56]) fun u => ?_; simp only [cd56, Try.f56])
  ((try simp only [WKb, ↓reduceIte, Nat.reduceEqDiff]) <;> (repeat' ((first
    | (refine G.tr ?_; first | refine S.a ?_ | refine Tr.brK ?_ ?_ | (refine G.call 92 ?_; refine S.c ?_ (h := fill_ok)) | refine S.n fun _ => ?_ | refine S.i fun hix => ?_ | (refine S.g fun hb => ?_; (try simp only [hb])) | (refine S.s (fun hb => ?_) (fun hb => ?_) <;> ((try simp only [hb]) <;> (try (have hp := hb; simp only [WKs] at hp; (try have hq := Int.not_le.2 hp); (try have hq := Int.not_lt.2 hp))))))
    | rintro _ _ ⟨_, rfl, rfl⟩
    | ((fail_if_success refine G.tr ?_); exact G.prop S.p)
    | fail) <;> (try simp only [WKb, ↓reduceIte]))))
  refine Tr.loopE (α := Nat × List OneG) [11] [9, 10] (fun x => [.int .i64 x.1]) (fun x => [fam oneA x.2])
    (fun x => x.1 ≤ gs.length ∧ x.2.length = gs.length ∧ x.2.map OneG.pt = gs.map OneG.pt ∧ x.2.map OneG.conf = gs.map OneG.conf ∧ ∀ j : Nat, j < x.1 → (ix x.2 (j : Int)).core = portM (ix gs (j : Int)).conf) (fun x => gs.length - x.1) (0, gs) (by (repeat (first | exact TakeL.nil | (apply TakeL.cons; focus ((first | exact TakeA.dupS | exact TakeA.dupF | ((repeat (first | with_reducible exact TakeA.here | exact TakeA.fam (by omega) (by omega) | with_reducible apply TakeA.next)); done) | ((repeat (first | exact TakeA.here | apply TakeA.next)); done) | exact TakeA.famNil | exact TakeA.nilS))) | fail)); done) rfl ⟨by omega, rfl, rfl, rfl, fun j hj => by omega⟩ fun x u hx => ?_
  obtain ⟨k, g2⟩ := x
  simp only at hx ⊢
  obtain ⟨hk, hl, hpt, hcf, hco⟩ := hx
  by_cases hkn : k < gs.length
  · have hw := wrapSucc (k := k) (by omega)
    have hm : ix (gs.map OneG.pt) (k : Int) = (ix gs (k : Int)).pt := ix_map (f := OneG.pt) (by omega) (by omega)
    have hm2 : ix (gs.map OneG.pt) (k : Int) = ⟨some (ix g2 (k : Int)).b⟩ := by rw [← hpt, ix_map (f := OneG.pt) (by omega) (by omega)]; rfl
    have hlp2 : (gs.map OneG.pt).length = gs.length := List.length_map _
    have hc2 : (ix g2 (k : Int)).conf = (ix gs (k : Int)).conf := by rw [← ix_map (f := OneG.conf) (by omega) (by omega), hcf, ix_map (f := OneG.conf) (by omega) (by omega)]
    simp only [List.cons_append, List.nil_append]
    refine Tr.famAt (A := oneA) k (by (repeat (first | exact TakeA.here | apply TakeA.next)); done) (by omega) (by omega) ?_
    refine one_open fun v0 => ?_
    ((try simp only [WKb, ↓reduceIte, Nat.reduceEqDiff]) <;> (repeat' ((first
    | (refine G.tr ?_; first | refine S.a ?_ | refine Tr.brK ?_ ?_ | (refine G.call 92 ?_; refine S.c ?_ (h := fill_ok)) | refine S.n fun _ => ?_ | refine S.i fun hix => ?_ | (refine S.g fun hb => ?_; (try simp only [hb])) | (refine S.s (fun hb => ?_) (fun hb => ?_) <;> ((try simp only [hb]) <;> (try (have hp := hb; simp only [WKs] at hp; (try have hq := Int.not_le.2 hp); (try have hq := Int.not_lt.2 hp))))))
    | rintro _ _ ⟨_, rfl, rfl⟩
    | ((fail_if_success refine G.tr ?_); exact G.prop S.p)
    | fail) <;> (try simp only [WKb, WKh, ↓reduceIte, Nat.reduceEqDiff, hw, hm2]))))
    all_goals
      rename_i w
      have hA : (g2.set k (OneG.mk0 (ix g2 (k : Int)).b w (ix g2 (k : Int)).conf)).length = gs.length := by simp [hl]
      have hB : (g2.set k (OneG.mk0 (ix g2 (k : Int)).b w (ix g2 (k : Int)).conf)).map OneG.pt = gs.map OneG.pt := by
        rw [← hpt]; exact map_same (f := OneG.pt) (k := (k : Int)) (by omega) (by omega) _ rfl
      have hC : (g2.set k (OneG.mk0 (ix g2 (k : Int)).b w (ix g2 (k : Int)).conf)).map OneG.conf = gs.map OneG.conf := by
        rw [← hcf]; exact map_same (f := OneG.conf) (k := (k : Int)) (by omega) (by omega) _ rfl
      have hD : ∀ j : Nat, j < k + 1 → (ix (g2.set k (OneG.mk0 (ix g2 (k : Int)).b w (ix g2 (k : Int)).conf)) (j : Int)).core = portM (ix gs (j : Int)).conf := fun j hj => by
        by_cases he : j = k
        · subst he
          rw [ix_set_self (by omega), mk0_core, hc2]
        · rw [ix_set_ne he (by omega)]
          exact hco j (by omega)
      clear hm2 hm hpt hcf
      (apply Tr.againE (k + 1, g2.set k (OneG.mk0 (ix g2 (k : Int)).b w (ix g2 (k : Int)).conf)); (focus (simp only [WKb, ↓reduceIte, Nat.reduceEqDiff])); (focus ((try simp only [WKb, ↓reduceIte]); (all_goals ((repeat (refine cons_eq (by first | rfl | ((try clear hK) <;> first | (simp [*, OneG.conf]; done) | (simp [*, OneG.conf]; omega) | (simp [*, OneG.conf] <;> (try split) <;> simp_all <;> omega))) ?_)); rfl)); done)); (focus (first | omega | assumption | (simp only []; omega) | (refine ⟨by omega, by assumption⟩) | (simp only []; refine ⟨by omega, by assumption⟩) | ((try simp only []); (repeat' (first | omega | assumption | apply hD | refine And.intro ?_ ?_)); done))); (focus (first | omega | (simp only []; omega))); (focus (((try clear hK) <;> (try simp only [WKe, OneG.conf, *]) <;> repeat (first | with_reducible exact EntR.done | refine S.e ?_ | (refine S.f ?_ <;> (try simp only [WKe, OneG.conf, ↓reduceIte, reduceCtorEq, Int.reduceEq, *])) | with_reducible apply EntR.ex | refine EntR.drop (F := F) ?_ | refine EntR.drop ?_)))))
  · have hkk : k = gs.length := by omega
    ((try simp only [WKb, ↓reduceIte, Nat.reduceEqDiff]) <;> (repeat' ((first
    | (refine G.tr ?_; first | refine S.a ?_ | refine Tr.brK ?_ ?_ | (refine G.call 92 ?_; refine S.c ?_ (h := fill_ok)) | refine S.n fun _ => ?_ | refine S.i fun hix => ?_ | (refine S.g fun hb => ?_; (try simp only [hb])) | (refine S.s (fun hb => ?_) (fun hb => ?_) <;> ((try simp only [hb]) <;> (try (have hp := hb; simp only [WKs] at hp; (try have hq := Int.not_le.2 hp); (try have hq := Int.not_lt.2 hp))))))
    | rintro _ _ ⟨_, rfl, rfl⟩
    | ((fail_if_success refine G.tr ?_); exact G.prop S.p)
    | fail) <;> (try simp only [WKb, ↓reduceIte]))))
    all_goals
      apply Tr.fin hK ⟨g2, hpt, clear_core hl hcf (fun j hj => hco j (by omega)), rfl, rfl⟩
      ((try clear hK) <;> (try simp only [WKe, *]) <;> repeat (first | with_reducible exact EntR.done | refine S.e ?_ | (refine S.f ?_ <;> (try simp only [WKe, ↓reduceIte, reduceCtorEq, Int.reduceEq, *])) | with_reducible apply EntR.ex | refine EntR.drop (F := F) ?_ | refine EntR.drop ?_))
theorem pclear0_ok : Trip Try.prog 56 [.pointer none].toArray [] fun v l' => v = .tuple #[] ∧ l' = [] := by
  intro F K hK
  simp only [List.nil_append]
  (refine Tr.enter (rs := []) mixed fn56 rfl (by simp +arith [Try.ntmps56]) fun u => ?_; simp only [cd56, Try.f56])
  ((try simp only [WKb, ↓reduceIte]) <;> (repeat' ((first
    | (refine G.tr ?_; first | refine S.a ?_ | refine Tr.brK ?_ ?_ | (refine G.call 92 ?_; refine S.c ?_ (h := fill_ok)) | refine S.n fun _ => ?_ | refine S.i fun hix => ?_ | (refine S.g fun hb => ?_; (try simp only [hb])) | (refine S.s (fun hb => ?_) (fun hb => ?_) <;> ((try simp only [hb]) <;> (try (have hp := hb; simp only [WKs] at hp; (try have hq := Int.not_le.2 hp); (try have hq := Int.not_lt.2 hp))))))
    | rintro _ _ ⟨_, rfl, rfl⟩
    | ((fail_if_success refine G.tr ?_); exact G.prop S.p)
    | fail) <;> (try simp only [WKb, WKh, ↓reduceIte, Nat.reduceEqDiff, Nat.reduceAdd, Nat.reduceSub, Int.reduceEq, Int.reduceLT, Int.reduceLE, pl56]))))
  all_goals
    refine Tr.fin hK ⟨rfl, rfl⟩ ?_
    ((try clear hK) <;> (try simp only [WKe, *]) <;> repeat (first | with_reducible exact EntR.done | refine S.e ?_ | (refine S.f ?_ <;> (try simp only [WKe, ↓reduceIte, reduceCtorEq, Int.reduceEq, *])) | with_reducible apply EntR.ex | refine EntR.drop (F := F) ?_ | refine EntR.drop ?_))

theorem pcan0_ok {k : Int} {q i : Bool} : Trip Try.prog 59 [.pointer none, .int .i64 k, .bool q, .bool i].toArray [] fun v l' => v = .bool false ∧ l' = [] := by
  intro F K hK
  simp only [List.nil_append]
  (refine Tr.enter (rs := [.tmp 8]) mixed fn59 rfl (by simp +arith [Try.ntmps59]) fun u => ?_; simp only [cd59, Try.f59])
  ((try simp only [WKb, ↓reduceIte, Nat.reduceEqDiff, Nat.reduceAdd]) <;> (repeat' ((first
    | (refine G.tr ?_; first | refine S.a ?_ | refine Tr.brK ?_ ?_ | (refine G.call 93 ?_; first | refine S.c ?_ (h := find_none) | refine S.c ?_ (h := find_in (by omega) (by omega)) | refine S.c ?_ (h := find_out (by omega))) | refine S.n fun _ => ?_ | refine S.i fun hix => ?_ | (refine S.g fun hb => ?_; (try simp only [hb])) | (refine S.s (fun hb => ?_) (fun hb => ?_) <;> ((try simp only [hb]) <;> (try (have hp := hb; simp only [WKs] at hp; (try have hq := Int.not_le.2 hp); (try have hq := Int.not_lt.2 hp))))))
    | rintro _ _ ⟨rfl, rfl⟩
    | ((fail_if_success refine G.tr ?_); exact G.prop S.p)
    | fail) <;> (try simp only [WKb, ↓reduceIte, Nat.reduceEqDiff]))))
  all_goals
    refine Tr.fin hK ⟨rfl, rfl⟩ ?_
    ((try clear hK) <;> (try simp only [WKe, *]) <;> repeat (first | with_reducible exact EntR.done | refine S.e ?_ | (refine S.f ?_ <;> (try simp only [WKe, ↓reduceIte, reduceCtorEq, Int.reduceEq, *])) | with_reducible apply EntR.ex | refine EntR.drop (F := F) ?_ | refine EntR.drop ?_))

theorem psize0_ok {k : Int} : Trip Try.prog 58 [.pointer none, .int .i64 k].toArray [] fun v l' => v = .int .i64 0 ∧ l' = [] := by
  intro F K hK
  simp only [List.nil_append]
  (refine Tr.enter (rs := [.tmp 4]) mixed fn58 rfl (by simp +arith [Try.ntmps58]) fun u => ?_; simp only [cd58, Try.f58])
  ((try simp only [WKb, ↓reduceIte, Nat.reduceEqDiff, Nat.reduceAdd]) <;> (repeat' ((first
    | (refine G.tr ?_; first | refine S.a ?_ | refine Tr.brK ?_ ?_ | (refine G.call 93 ?_; first | refine S.c ?_ (h := find_none) | refine S.c ?_ (h := find_in (by omega) (by omega)) | refine S.c ?_ (h := find_out (by omega))) | refine S.n fun _ => ?_ | refine S.i fun hix => ?_ | (refine S.g fun hb => ?_; (try simp only [hb])) | (refine S.s (fun hb => ?_) (fun hb => ?_) <;> ((try simp only [hb]) <;> (try (have hp := hb; simp only [WKs] at hp; (try have hq := Int.not_le.2 hp); (try have hq := Int.not_lt.2 hp))))))
    | rintro _ _ ⟨rfl, rfl⟩
    | ((fail_if_success refine G.tr ?_); exact G.prop S.p)
    | fail) <;> (try simp only [WKb, ↓reduceIte]))))
  all_goals
    refine Tr.fin hK ⟨rfl, rfl⟩ ?_
    ((try clear hK) <;> (try simp only [WKe, *]) <;> repeat (first | with_reducible exact EntR.done | refine S.e ?_ | (refine S.f ?_ <;> (try simp only [WKe, ↓reduceIte, reduceCtorEq, Int.reduceEq, *])) | with_reducible apply EntR.ex | refine EntR.drop (F := F) ?_ | refine EntR.drop ?_))

theorem plen0_ok {k : Int} : Trip Try.prog 50 [.pointer none, .int .i64 k].toArray [] fun v l' => v = .int .i64 0 ∧ l' = [] := by
  intro F K hK
  simp only [List.nil_append]
  (refine Tr.enter (rs := [.tmp 4]) mixed fn50 rfl (by simp +arith [Try.ntmps50]) fun u => ?_; simp only [cd50, Try.f50])
  ((try simp only [WKb, ↓reduceIte, Nat.reduceEqDiff, Nat.reduceAdd]) <;> (repeat' ((first
    | (refine G.tr ?_; first | refine S.a ?_ | refine Tr.brK ?_ ?_ | (refine G.call 93 ?_; first | refine S.c ?_ (h := find_none) | refine S.c ?_ (h := find_in (by omega) (by omega)) | refine S.c ?_ (h := find_out (by omega))) | (refine G.call 155 ?_; refine S.c ?_ (h := qlen_ok)) | (refine G.call 157 ?_; refine S.c ?_ (h := slen_ok)) | refine S.n fun _ => ?_ | refine S.i fun hix => ?_ | (refine S.g fun hb => ?_; (try simp only [hb])) | (refine S.s (fun hb => ?_) (fun hb => ?_) <;> ((try simp only [hb]) <;> (try (have hp := hb; simp only [WKs] at hp; (try have hq := Int.not_le.2 hp); (try have hq := Int.not_lt.2 hp))))))
    | rintro _ _ ⟨rfl, rfl⟩
    | ((fail_if_success refine G.tr ?_); exact G.prop S.p)
    | fail) <;> (try simp only [WKb, ↓reduceIte]))))
  all_goals
    refine Tr.fin hK ⟨rfl, rfl⟩ ?_
    ((try clear hK) <;> (try simp only [WKe, *]) <;> repeat (first | with_reducible exact EntR.done | refine S.e ?_ | (refine S.f ?_ <;> (try simp only [WKe, ↓reduceIte, reduceCtorEq, Int.reduceEq, *])) | with_reducible apply EntR.ex | refine EntR.drop (F := F) ?_ | refine EntR.drop ?_))

theorem plost0_ok {k : Int} : Trip Try.prog 57 [.pointer none, .int .i64 k].toArray [] fun v l' => v = .int .i64 0 ∧ l' = [] := by
  intro F K hK
  simp only [List.nil_append]
  (refine Tr.enter (rs := [.tmp 4]) mixed fn57 rfl (by simp +arith [Try.ntmps57]) fun u => ?_; simp only [cd57, Try.f57])
  ((try simp only [WKb, ↓reduceIte, Nat.reduceEqDiff, Nat.reduceAdd]) <;> (repeat' ((first
    | (refine G.tr ?_; first | refine S.a ?_ | refine Tr.brK ?_ ?_ | (refine G.call 93 ?_; first | refine S.c ?_ (h := find_none) | refine S.c ?_ (h := find_in (by omega) (by omega)) | refine S.c ?_ (h := find_out (by omega))) | refine S.n fun _ => ?_ | refine S.i fun hix => ?_ | (refine S.g fun hb => ?_; (try simp only [hb])) | (refine S.s (fun hb => ?_) (fun hb => ?_) <;> ((try simp only [hb]) <;> (try (have hp := hb; simp only [WKs] at hp; (try have hq := Int.not_le.2 hp); (try have hq := Int.not_lt.2 hp))))))
    | rintro _ _ ⟨rfl, rfl⟩
    | ((fail_if_success refine G.tr ?_); exact G.prop S.p)
    | fail) <;> (try simp only [WKb, ↓reduceIte]))))
  all_goals
    refine Tr.fin hK ⟨rfl, rfl⟩ ?_
    ((try clear hK) <;> (try simp only [WKe, *]) <;> repeat (first | with_reducible exact EntR.done | refine S.e ?_ | (refine S.f ?_ <;> (try simp only [WKe, ↓reduceIte, reduceCtorEq, Int.reduceEq, *])) | with_reducible apply EntR.ex | refine EntR.drop (F := F) ?_ | refine EntR.drop ?_))

theorem pinto0_ok {k : Int} {q : Bool} {v0 : Value} : Trip Try.prog 94 [.pointer none, .int .i64 k, .bool q, v0].toArray [] fun v l' => v = .int .i64 3 ∧ l' = [] := by
  intro F K hK
  simp only [List.nil_append]
  (refine Tr.enter (rs := [.tmp 8]) mixed fn94 rfl (by simp +arith [Try.ntmps94]) fun u => ?_; simp only [cd94, Try.f94])
  ((try simp only [WKb, ↓reduceIte, Nat.reduceEqDiff, Nat.reduceAdd]) <;> (repeat' ((first
    | (refine G.tr ?_; first | refine S.a ?_ | refine Tr.brK ?_ ?_ | (refine G.call 59 ?_; first | refine S.c ?_ (h := pcan0_ok) | refine S.c ?_ (h := can_ok)) | (refine G.call 156 ?_; refine S.c ?_ (h := qput_ok ?_ ?_)) | (refine G.call 158 ?_; refine S.c ?_ (h := sput_ok ?_)) | refine S.n fun _ => ?_ | refine S.i fun hix => ?_ | (refine S.g fun hb => ?_; (try simp only [hb])) | (refine S.s (fun hb => ?_) (fun hb => ?_) <;> ((try simp only [hb]) <;> (try (have hp := hb; simp only [WKs] at hp; (try have hq := Int.not_le.2 hp); (try have hq := Int.not_lt.2 hp))))))
    | rintro _ _ ⟨rfl, rfl⟩
    | rintro _ _ ⟨_, rfl, rfl⟩
    | rintro _ _ ⟨_, _, rfl, rfl⟩
    | ((fail_if_success refine G.tr ?_); exact G.prop S.p)
    | fail) <;> (try simp only [WKb, ↓reduceIte]))))
  all_goals
    refine Tr.fin hK ⟨rfl, rfl⟩ ?_
    ((try clear hK) <;> (try simp only [WKe, *]) <;> repeat (first | with_reducible exact EntR.done | refine S.e ?_ | (refine S.f ?_ <;> (try simp only [WKe, ↓reduceIte, reduceCtorEq, Int.reduceEq, *])) | with_reducible apply EntR.ex | refine EntR.drop (F := F) ?_ | refine EntR.drop ?_))

theorem pwrite0_ok {k : Int} {v0 : Value} : Trip Try.prog 52 [.pointer none, .int .i64 k, v0].toArray [] fun v l' => v = .int .i64 3 ∧ l' = [] := by
  intro F K hK
  simp only [List.nil_append]
  (refine Tr.enter (rs := [.tmp 6]) mixed fn52 rfl (by simp +arith [Try.ntmps52]) fun u => ?_; simp only [cd52, Try.f52])
  ((try simp only [WKb, ↓reduceIte, Nat.reduceEqDiff, Nat.reduceAdd]) <;> (repeat' ((first
    | (refine G.tr ?_; first | refine S.a ?_ | refine Tr.brK ?_ ?_ | (refine G.call 94 ?_; first | refine S.c ?_ (h := pinto0_ok) | refine S.c ?_ (h := into_ok ?_ ?_)) | refine S.n fun _ => ?_ | refine S.i fun hix => ?_ | (refine S.g fun hb => ?_; (try simp only [hb])) | (refine S.s (fun hb => ?_) (fun hb => ?_) <;> ((try simp only [hb]) <;> (try (have hp := hb; simp only [WKs] at hp; (try have hq := Int.not_le.2 hp); (try have hq := Int.not_lt.2 hp))))))
    | rintro _ _ ⟨rfl, rfl⟩
    | rintro _ _ ⟨_, _, rfl, rfl⟩
    | ((fail_if_success refine G.tr ?_); exact G.prop S.p)
    | fail) <;> (try simp only [WKb, ↓reduceIte]))))
  all_goals
    refine Tr.fin hK ⟨rfl, rfl⟩ ?_
    ((try clear hK) <;> (try simp only [WKe, *]) <;> repeat (first | with_reducible exact EntR.done | refine S.e ?_ | (refine S.f ?_ <;> (try simp only [WKe, ↓reduceIte, reduceCtorEq, Int.reduceEq, *])) | with_reducible apply EntR.ex | refine EntR.drop (F := F) ?_ | refine EntR.drop ?_))

theorem psend0_ok {k : Int} {v0 : Value} : Trip Try.prog 46 [.pointer none, .int .i64 k, v0].toArray [] fun v l' => v = .int .i64 3 ∧ l' = [] := by
  intro F K hK
  simp only [List.nil_append]
  (refine Tr.enter (rs := [.tmp 6]) mixed fn46 rfl (by simp +arith [Try.ntmps46]) fun u => ?_; simp only [cd46, Try.f46])
  ((try simp only [WKb, ↓reduceIte, Nat.reduceEqDiff, Nat.reduceAdd]) <;> (repeat' ((first
    | (refine G.tr ?_; first | refine S.a ?_ | refine Tr.brK ?_ ?_ | (refine G.call 94 ?_; first | refine S.c ?_ (h := pinto0_ok) | refine S.c ?_ (h := into_ok ?_ ?_)) | refine S.n fun _ => ?_ | refine S.i fun hix => ?_ | (refine S.g fun hb => ?_; (try simp only [hb])) | (refine S.s (fun hb => ?_) (fun hb => ?_) <;> ((try simp only [hb]) <;> (try (have hp := hb; simp only [WKs] at hp; (try have hq := Int.not_le.2 hp); (try have hq := Int.not_lt.2 hp))))))
    | rintro _ _ ⟨rfl, rfl⟩
    | rintro _ _ ⟨_, _, rfl, rfl⟩
    | ((fail_if_success refine G.tr ?_); exact G.prop S.p)
    | fail) <;> (try simp only [WKb, ↓reduceIte]))))
  all_goals
    refine Tr.fin hK ⟨rfl, rfl⟩ ?_
    ((try clear hK) <;> (try simp only [WKe, *]) <;> repeat (first | with_reducible exact EntR.done | refine S.e ?_ | (refine S.f ?_ <;> (try simp only [WKe, ↓reduceIte, reduceCtorEq, Int.reduceEq, *])) | with_reducible apply EntR.ex | refine EntR.drop (F := F) ?_ | refine EntR.drop ?_))

theorem pout0_ok {k : Int} {q : Bool} : Trip Try.prog 95 [.pointer none, .int .i64 k, .bool q].toArray [] fun v l' => v = .tuple #[.slice none 0 0, .int .i64 3] ∧ l' = [] := by
  intro F K hK
  simp only [List.nil_append]
  (refine Tr.enter (rs := [.tmp 6, .tmp 7]) mixed fn95 rfl (by simp +arith [Try.ntmps95]) fun u => ?_; simp only [cd95, Try.f95])
  ((try simp only [WKb, ↓reduceIte, Nat.reduceEqDiff, Nat.reduceAdd]) <;> (repeat' ((first
    | (refine G.tr ?_; first | refine S.a ?_ | refine Tr.brK ?_ ?_ | (refine G.call 59 ?_; first | refine S.c ?_ (h := pcan0_ok) | refine S.c ?_ (h := can_ok)) | (refine G.call 132 ?_; first | refine S.c ?_ (h := firstq_ok) | refine S.c ?_ (h := firsts_ok ?_)) | refine S.n fun _ => ?_ | refine S.i fun hix => ?_ | (refine S.g fun hb => ?_; (try simp only [hb])) | (refine S.s (fun hb => ?_) (fun hb => ?_) <;> ((try simp only [hb]) <;> (try (have hp := hb; simp only [WKs] at hp; (try have hq := Int.not_le.2 hp); (try have hq := Int.not_lt.2 hp))))))
    | rintro _ _ ⟨rfl, rfl⟩
    | rintro _ _ ⟨_, rfl, rfl⟩
    | ((fail_if_success refine G.tr ?_); exact G.prop S.p)
    | fail) <;> (try simp only [WKb, ↓reduceIte, Nat.reduceEqDiff]))))
  all_goals
    refine Tr.fin hK ⟨rfl, rfl⟩ ?_
    ((try clear hK) <;> (try simp only [WKe, *]) <;> repeat (first | with_reducible exact EntR.done | refine S.e ?_ | (refine S.f ?_ <;> (try simp only [WKe, ↓reduceIte, reduceCtorEq, Int.reduceEq, *])) | with_reducible apply EntR.ex | refine EntR.drop (F := F) ?_ | refine EntR.drop ?_))

theorem pread0_ok {k : Int} : Trip Try.prog 51 [.pointer none, .int .i64 k].toArray [] fun v l' => v = .tuple #[.slice none 0 0, .int .i64 3] ∧ l' = [] := by
  intro F K hK
  simp only [List.nil_append]
  (refine Tr.enter (rs := [.tmp 4, .tmp 5]) mixed fn51 rfl (by simp +arith [Try.ntmps51]) fun u => ?_; simp only [cd51, Try.f51])
  ((try simp only [WKb, ↓reduceIte, Nat.reduceEqDiff, Nat.reduceAdd]) <;> (repeat' ((first
    | (refine G.tr ?_; first | refine S.a ?_ | refine Tr.brK ?_ ?_ | (refine G.call 95 ?_; first | refine S.c ?_ (h := pout0_ok) | refine S.c ?_ (h := out_ok ?_)) | refine S.n fun _ => ?_ | refine S.i fun hix => ?_ | (refine S.g fun hb => ?_; (try simp only [hb])) | (refine S.s (fun hb => ?_) (fun hb => ?_) <;> ((try simp only [hb]) <;> (try (have hp := hb; simp only [WKs] at hp; (try have hq := Int.not_le.2 hp); (try have hq := Int.not_lt.2 hp))))))
    | rintro _ _ ⟨rfl, rfl⟩
    | rintro _ _ ⟨_, _, hrd, rfl, rfl⟩
    | ((fail_if_success refine G.tr ?_); exact G.prop S.p)
    | fail) <;> (try simp only [WKb, ↓reduceIte, Nat.reduceEqDiff]))))
  all_goals
    refine Tr.fin hK ⟨rfl, rfl⟩ ?_
    ((try clear hK) <;> (try simp only [WKe, *]) <;> repeat (first | with_reducible exact EntR.done | refine S.e ?_ | (refine S.f ?_ <;> (try simp only [WKe, ↓reduceIte, reduceCtorEq, Int.reduceEq, *])) | with_reducible apply EntR.ex | refine EntR.drop (F := F) ?_ | refine EntR.drop ?_))

theorem preceive0_ok {k : Int} : Trip Try.prog 47 [.pointer none, .int .i64 k].toArray [] fun v l' => v = .tuple #[.slice none 0 0, .int .i64 3] ∧ l' = [] := by
  intro F K hK
  simp only [List.nil_append]
  (refine Tr.enter (rs := [.tmp 4, .tmp 5]) mixed fn47 rfl (by simp +arith [Try.ntmps47]) fun u => ?_; simp only [cd47, Try.f47])
  ((try simp only [WKb, ↓reduceIte, Nat.reduceEqDiff, Nat.reduceAdd]) <;> (repeat' ((first
    | (refine G.tr ?_; first | refine S.a ?_ | refine Tr.brK ?_ ?_ | (refine G.call 95 ?_; first | refine S.c ?_ (h := pout0_ok) | refine S.c ?_ (h := out_ok ?_)) | refine S.n fun _ => ?_ | refine S.i fun hix => ?_ | (refine S.g fun hb => ?_; (try simp only [hb])) | (refine S.s (fun hb => ?_) (fun hb => ?_) <;> ((try simp only [hb]) <;> (try (have hp := hb; simp only [WKs] at hp; (try have hq := Int.not_le.2 hp); (try have hq := Int.not_lt.2 hp))))))
    | rintro _ _ ⟨rfl, rfl⟩
    | rintro _ _ ⟨_, _, hrd, rfl, rfl⟩
    | ((fail_if_success refine G.tr ?_); exact G.prop S.p)
    | fail) <;> (try simp only [WKb, ↓reduceIte, Nat.reduceEqDiff]))))
  all_goals
    refine Tr.fin hK ⟨rfl, rfl⟩ ?_
    ((try clear hK) <;> (try simp only [WKe, *]) <;> repeat (first | with_reducible exact EntR.done | refine S.e ?_ | (refine S.f ?_ <;> (try simp only [WKe, ↓reduceIte, reduceCtorEq, Int.reduceEq, *])) | with_reducible apply EntR.ex | refine EntR.drop (F := F) ?_ | refine EntR.drop ?_))

theorem pdrain0_ok {k : Int} : Trip Try.prog 49 [.pointer none, .int .i64 k].toArray [] fun v l' => v = .slice none 0 0 ∧ l' = [] := by
  intro F K hK
  simp only [List.nil_append]
  (refine Tr.enter (rs := [.tmp 4]) mixed fn49 rfl (by simp +arith [Try.ntmps49]) fun u => ?_; simp only [cd49, Try.f49])
  ((try simp only [WKb, ↓reduceIte, Nat.reduceEqDiff, Nat.reduceAdd]) <;> (repeat' ((first
    | (refine G.tr ?_; first | refine S.a ?_ | refine Tr.brK ?_ ?_ | (refine G.call 93 ?_; first | refine S.c ?_ (h := find_none) | refine S.c ?_ (h := find_in (by omega) (by omega)) | refine S.c ?_ (h := find_out (by omega))) | (refine G.call 85 ?_; refine S.c ?_ (h := clone_ok (by omega))) | refine S.n fun _ => ?_ | refine S.i fun hix => ?_ | (refine S.g fun hb => ?_; (try simp only [hb])) | (refine S.s (fun hb => ?_) (fun hb => ?_) <;> ((try simp only [hb]) <;> (try (have hp := hb; simp only [WKs] at hp; (try have hq := Int.not_le.2 hp); (try have hq := Int.not_lt.2 hp))))))
    | rintro _ _ ⟨rfl, rfl⟩
    | rintro _ _ ⟨_, rfl, rfl⟩
    | ((fail_if_success refine G.tr ?_); exact G.prop S.p)
    | fail) <;> (try simp only [WKb, ↓reduceIte, Nat.reduceEqDiff]))))
  all_goals
    refine Tr.fin hK ⟨rfl, rfl⟩ ?_
    ((try clear hK) <;> (try simp only [WKe, *]) <;> repeat (first | with_reducible exact EntR.done | refine S.e ?_ | (refine S.f ?_ <;> (try simp only [WKe, ↓reduceIte, reduceCtorEq, Int.reduceEq, *])) | with_reducible apply EntR.ex | refine EntR.drop (F := F) ?_ | refine EntR.drop ?_))

theorem pdeliver0_ok {k : Int} {v0 : Value} : Trip Try.prog 45 [.pointer none, .int .i64 k, v0].toArray [] fun v l' => v = .bool false ∧ l' = [] := by
  intro F K hK
  simp only [List.nil_append]
  (refine Tr.enter (rs := [.tmp 6]) mixed fn45 rfl (by simp +arith [Try.ntmps45]) fun u => ?_; simp only [cd45, Try.f45])
  ((try simp only [WKb, ↓reduceIte, Nat.reduceEqDiff, Nat.reduceAdd]) <;> (repeat' ((first
    | (refine G.tr ?_; first | refine S.a ?_ | refine Tr.brK ?_ ?_ | (refine G.call 93 ?_; first | refine S.c ?_ (h := find_none) | refine S.c ?_ (h := find_in (by omega) (by omega)) | refine S.c ?_ (h := find_out (by omega))) | (refine G.call 156 ?_; refine S.c ?_ (h := qput_ok ?_ ?_)) | (refine G.call 158 ?_; refine S.c ?_ (h := sput_ok ?_)) | refine S.n fun _ => ?_ | refine S.i fun hix => ?_ | (refine S.g fun hb => ?_; (try simp only [hb])) | (refine S.s (fun hb => ?_) (fun hb => ?_) <;> ((try simp only [hb]) <;> (try (have hp := hb; simp only [WKs] at hp; (try have hq := Int.not_le.2 hp); (try have hq := Int.not_lt.2 hp))))))
    | rintro _ _ ⟨rfl, rfl⟩
    | rintro _ _ ⟨_, rfl, rfl⟩
    | rintro _ _ ⟨_, _, rfl, rfl⟩
    | ((fail_if_success refine G.tr ?_); exact G.prop S.p)
    | fail) <;> (try simp only [WKb, ↓reduceIte, Nat.reduceEqDiff]))))
  all_goals
    refine Tr.fin hK ⟨rfl, rfl⟩ ?_
    ((try clear hK) <;> (try simp only [WKe, *]) <;> repeat (first | with_reducible exact EntR.done | refine S.e ?_ | (refine S.f ?_ <;> (try simp only [WKe, ↓reduceIte, reduceCtorEq, Int.reduceEq, *])) | with_reducible apply EntR.ex | refine EntR.drop (F := F) ?_ | refine EntR.drop ?_))

theorem inR_nil18 {α : Type} {k : Int} : inR ([] : List α) k = False := by unfold inR; simp
theorem pnil1 {k : Int} {q i : Bool} : canB [] k q i = false := by simp [canB, inR_nil18]
theorem pnil2 {k : Int} : sizeP [] k = 0 ∧ lenP [] k = 0 ∧ lostP [] k = 0 ∧ drainD [] k = [] ∧ drainG [] k = [] ∧ delB [] k = false := by simp [sizeP, lenP, lostP, drainD, drainG, delB, inR_nil18]
theorem pnil3 {k : Int} {q : Bool} : outC [] k q = 3 ∧ outD [] k q = [] := by simp [outD, outC, canB, inR_nil18]
theorem pnil4 {k : Int} {q : Bool} {s : SV} : outG [] k q s = [] := by simp [outG, canB, inR_nil18]
theorem pnil5 {k : Int} {q : Bool} {n : Nat} : intoC [] k q n = 3 := by simp [intoC, canB, inR_nil18]
theorem pnil6 {k : Int} {q : Bool} {s : SV} {m : Msg} : intoG [] k q s m = [] := by simp [intoG, canB, inR_nil18]
theorem pnil7 {k : Int} {s : SV} {m : Msg} : delG [] k s m = [] := by simp [delG, inR_nil18]
theorem pnil8 {k : Int} : (ix ([] : List OneG) k).ms = [] ∧ (ix ([] : List OneG) k).m.d = [] := by
  have : ix ([] : List OneG) k = default := by simp [ix]
  rw [this]; exact ⟨rfl, rfl⟩
theorem pnilsz : ([] : List OneG).map OneG.pt = [] ∧ (([] : List UInt8).length : Int) = 0 ∧ (([] : List Msg).length : Int) = 0 ∧ IntKind.i64.wrap (0 + 0) = 0 := ⟨rfl, rfl, rfl, rfl⟩
theorem pclear1_ok {b : Nat} : Trip Try.prog 56 [.pointer (some ⟨b, 0, none⟩)].toArray [blk b (.cells [.slice none 0 0].toArray 100 (0, 0))]
    fun v l' => v = .tuple #[] ∧ l' = [poB b ⟨none, 0, 0⟩, fam oneA [], sl false (SV.v ⟨none, 0, 0⟩) ([] : List Pt)] := by
  intro F K hK
  refine Tr.imp (l' := [poB b ⟨none, 0, 0⟩, fam oneA [], sl false (SV.v ⟨none, 0, 0⟩) (([] : List OneG).map OneG.pt)] ++ F) ?_ ?_
  · exact Imp.cons (Imp.trans TakeA.nilS TakeA.famNil)
  · refine pclear_ok F K fun v l' h => ?_
    obtain ⟨gs', h1, h2, rfl, rfl⟩ := h
    have e1 : gs' = [] := by simpa using h1
    subst e1
    exact hK _ _ ⟨rfl, rfl⟩

theorem pdrain1_ok {p : Nat} {s : SV} {k : Int} : Trip Try.prog 49 [.pointer (some ⟨p, 0, none⟩), .int .i64 k].toArray [poB p s, fam oneA [], sl false s.v ([] : List Pt)]
    fun v l' => ∃ s2, v = SV.v s2 ∧ l' = [poB p s, fam oneA [], sl false s.v ([] : List Pt), sl false (SV.v s2) ([] : List Msg), fzl ([] : List Msg)] := by
  have := drain0_ok (p := p) (s := s) (gs := []) (k := k) pnil2.2.2.2.1 (by rw [pnil8.2]; simp)
  rw [show drainG [] k = [] from pnil2.2.2.2.2.1] at this
  exact this

instance : ElT 101 Pt := ⟨⟩
structure Act18 where
  act : Int
  k : Int
  b : Msg
instance : Inhabited Act18 := ⟨⟨0, 0, default⟩⟩
instance : En Act18 := ⟨fun d => [.int .i64 d.act, .int .i64 d.k, d.b.s.v], 3, fun _ => rfl, fun _ => rfl, by decide⟩
theorem ix_none (b : Nat) : ix [Pt.mk none, Pt.mk (some b)] ((0 : Nat) : Int) = Pt.mk none ∧ ix [Pt.mk none, Pt.mk (some b)] ((1 : Nat) : Int) = Pt.mk (some b) := ⟨rfl, rfl⟩
theorem none18_ok {a : Act18} : Trip Try.prog 12 [.agg [.int .i64 a.act, .int .i64 a.k, a.b.s.v].toArray].toArray [sl true a.b.s.v a.b.d] fun v l' => v = .bool true ∧ l' = [] := by
  intro F K hK
  obtain ⟨act, k0, ⟨s0, xs⟩⟩ := a
  simp only [List.cons_append, List.nil_append]
  (refine Tr.enter (rs := [.tmp 2]) mixed fn12 rfl (by simp +arith [Try.ntmps12]) fun u => ?_; simp only [cd12, Try.f12])
  ((try simp only [WKb, ↓reduceIte]) <;> (repeat' ((first
    | (refine G.tr ?_; first | refine S.a ?_ | refine Tr.brK ?_ ?_ | (refine G.call 44 ?_; refine S.c ?_ (h := works18_ok)) | (refine G.call 56 ?_; first | refine S.c ?_ (h := pclear0_ok) | refine S.c ?_ (h := pclear1_ok)) | (refine G.call 51 ?_; first | refine S.c ?_ (h := pread0_ok) | refine S.c ?_ (h := read2_ok ?_)) | (refine G.call 47 ?_; first | refine S.c ?_ (h := preceive0_ok) | refine S.c ?_ (h := receive2_ok ?_)) | (refine G.call 52 ?_; first | refine S.c ?_ (h := pwrite0_ok) | refine S.c ?_ (h := write_ok ?_ ?_)) | (refine G.call 46 ?_; first | refine S.c ?_ (h := psend0_ok) | refine S.c ?_ (h := send_ok ?_ ?_)) | (refine G.call 49 ?_; first | refine S.c ?_ (h := pdrain1_ok) | refine S.c ?_ (h := pdrain0_ok) | refine S.c ?_ (h := drain0_ok (by rfl) ?_) | refine S.c ?_ (h := drain1_ok ?_)) | (refine G.call 50 ?_; first | refine S.c ?_ (h := plen0_ok) | refine S.c ?_ (h := plen_ok)) | (refine G.call 57 ?_; first | refine S.c ?_ (h := plost0_ok) | refine S.c ?_ (h := plost_ok)) | (refine G.call 58 ?_; first | refine S.c ?_ (h := psize0_ok) | refine S.c ?_ (h := psize_ok)) | (refine G.call 45 ?_; first | refine S.c ?_ (h := pdeliver0_ok) | refine S.c ?_ (h := deliver_ok ?_ ?_)) | (refine G.call 59 ?_; first | refine S.c ?_ (h := pcan0_ok) | refine S.c ?_ (h := can_ok)) | refine S.n fun _ => ?_ | refine S.i fun hix => ?_ | (refine S.g fun hb => ?_; (try simp only [hb])) | (refine S.s (fun hb => ?_) (fun hb => ?_) <;> ((try simp only [hb]) <;> (try (have hp := hb; simp only [WKs] at hp; (try have hq := Int.not_le.2 hp); (try have hq := Int.not_lt.2 hp))))))
    | rintro _ _ ⟨rfl, rfl⟩
    | rintro _ _ ⟨_, rfl, rfl⟩
    | rintro _ _ ⟨_, _, rfl, rfl⟩
    | rintro _ _ ⟨_, _, hrd, rfl, rfl⟩
    | ((fail_if_success refine G.tr ?_); exact G.prop S.p)
    | fail) <;> (try simp only [WKb, ↓reduceIte, Nat.reduceEqDiff]))))
  · refine Tr.fin hK ⟨rfl, rfl⟩ ?_
    ((try clear hK) <;> (try simp only [WKe, *]) <;> repeat (first | with_reducible exact EntR.done | refine S.e ?_ | (refine S.f ?_ <;> (try simp only [WKe, ↓reduceIte, reduceCtorEq, Int.reduceEq, *])) | with_reducible apply EntR.ex | refine EntR.drop (F := F) ?_ | refine EntR.drop ?_))
  rename_i b sA
  refine Tr.loopE (α := Nat) [2, 5] [1, 4] (fun k => [.bool false, .int .i64 k]) (fun k => if k < 2 then [blk b (.cells [.slice none 0 0].toArray 100 (0, 0))] else []) (fun k => k ≤ 2) (fun k => 2 - k) 0 (by (repeat (first | exact TakeL.nil | (apply TakeL.cons; focus ((first | exact TakeA.dupS | exact TakeA.dupF | ((repeat (first | with_reducible exact TakeA.here | exact TakeA.fam (by omega) (by omega) | with_reducible apply TakeA.next)); done) | ((repeat (first | exact TakeA.here | apply TakeA.next)); done) | exact TakeA.famNil | exact TakeA.nilS))) | fail)); done) rfl (by omega) fun k u hk => ?_
  have h3 : k = 0 ∨ k = 1 ∨ k = 2 := by omega
  have hin := ix_none b
  rcases h3 with rfl | rfl | rfl
  · simp only [show (0 : Nat) < 2 from by omega, if_true, List.cons_append, List.nil_append]
    ((try simp only [WKb, ↓reduceIte, Nat.reduceEqDiff]) <;> (repeat' ((first
    | (refine G.tr ?_; first | refine S.a ?_ | refine Tr.brK ?_ ?_ | (refine G.call 44 ?_; refine S.c ?_ (h := works18_ok)) | (refine G.call 56 ?_; first | refine S.c ?_ (h := pclear0_ok) | refine S.c ?_ (h := pclear1_ok)) | (refine G.call 51 ?_; first | refine S.c ?_ (h := pread0_ok) | refine S.c ?_ (h := read2_ok ?_)) | (refine G.call 47 ?_; first | refine S.c ?_ (h := preceive0_ok) | refine S.c ?_ (h := receive2_ok ?_)) | (refine G.call 52 ?_; first | refine S.c ?_ (h := pwrite0_ok) | refine S.c ?_ (h := write_ok ?_ ?_)) | (refine G.call 46 ?_; first | refine S.c ?_ (h := psend0_ok) | refine S.c ?_ (h := send_ok ?_ ?_)) | (refine G.call 49 ?_; first | refine S.c ?_ (h := pdrain1_ok) | refine S.c ?_ (h := pdrain0_ok) | refine S.c ?_ (h := drain0_ok (by rfl) ?_) | refine S.c ?_ (h := drain1_ok ?_)) | (refine G.call 50 ?_; first | refine S.c ?_ (h := plen0_ok) | refine S.c ?_ (h := plen_ok)) | (refine G.call 57 ?_; first | refine S.c ?_ (h := plost0_ok) | refine S.c ?_ (h := plost_ok)) | (refine G.call 58 ?_; first | refine S.c ?_ (h := psize0_ok) | refine S.c ?_ (h := psize_ok)) | (refine G.call 45 ?_; first | refine S.c ?_ (h := pdeliver0_ok) | refine S.c ?_ (h := deliver_ok ?_ ?_)) | (refine G.call 59 ?_; first | refine S.c ?_ (h := pcan0_ok) | refine S.c ?_ (h := can_ok)) | refine S.n fun _ => ?_ | refine S.i fun hix => ?_ | (refine S.g fun hb => ?_; (try simp only [hb])) | (refine S.s (fun hb => ?_) (fun hb => ?_) <;> ((try simp only [hb]) <;> (try (have hp := hb; simp only [WKs] at hp; (try have hq := Int.not_le.2 hp); (try have hq := Int.not_lt.2 hp))))))
    | rintro _ _ ⟨rfl, rfl⟩
    | rintro _ _ ⟨_, rfl, rfl⟩
    | rintro _ _ ⟨_, _, rfl, rfl⟩
    | rintro _ _ ⟨_, _, hrd, rfl, rfl⟩
    | ((fail_if_success refine G.tr ?_); exact G.prop S.p)
    | fail) <;> (try simp only [WKb, WKh, ↓reduceIte, Nat.reduceEqDiff, pl12, hin, pnilsz]))))
    all_goals (apply Tr.againE (1); (focus (simp only [WKb, ↓reduceIte, Nat.reduceEqDiff])); (focus ((try simp only [WKb, ↓reduceIte, Nat.reduceEqDiff, Nat.reduceAdd, Nat.reduceSub, hw]); (all_goals ((repeat (refine cons_eq (by first | rfl | (simp [*]; done)) ?_)); rfl)); done)); (focus (first | omega | assumption | (simp only []; omega) | (refine ⟨by omega, by assumption⟩) | (simp only []; refine ⟨by omega, by assumption⟩) | ((try simp only []); (repeat' (first | omega | assumption | refine And.intro ?_ ?_)); done))); (focus (first | omega | (simp only []; omega))); (focus (((try clear hK) <;> (try simp only [WKe, ↓reduceIte, reduceCtorEq, Int.reduceEq, *]) <;> repeat (first | with_reducible exact EntR.done | refine S.e ?_ | (refine S.f ?_ <;> (try simp only [WKe, ↓reduceIte, reduceCtorEq, Int.reduceEq, *])) | with_reducible apply EntR.ex | refine EntR.drop (F := F) ?_ | refine EntR.drop ?_)))))
  · simp only [show (1 : Nat) < 2 from by omega, if_true, List.cons_append, List.nil_append]
    ((try simp only [WKb, ↓reduceIte, Nat.reduceEqDiff]) <;> (repeat' ((first
    | (refine G.tr ?_; first | refine S.a ?_ | refine Tr.brK ?_ ?_ | (refine G.call 44 ?_; refine S.c ?_ (h := works18_ok)) | (refine G.call 56 ?_; first | refine S.c ?_ (h := pclear0_ok) | refine S.c ?_ (h := pclear1_ok)) | (refine G.call 51 ?_; first | refine S.c ?_ (h := pread0_ok) | refine S.c ?_ (h := read2_ok ?_)) | (refine G.call 47 ?_; first | refine S.c ?_ (h := preceive0_ok) | refine S.c ?_ (h := receive2_ok ?_)) | (refine G.call 52 ?_; first | refine S.c ?_ (h := pwrite0_ok) | refine S.c ?_ (h := write_ok ?_ ?_)) | (refine G.call 46 ?_; first | refine S.c ?_ (h := psend0_ok) | refine S.c ?_ (h := send_ok ?_ ?_)) | (refine G.call 49 ?_; first | refine S.c ?_ (h := pdrain1_ok) | refine S.c ?_ (h := pdrain0_ok) | refine S.c ?_ (h := drain0_ok (by rfl) ?_) | refine S.c ?_ (h := drain1_ok ?_)) | (refine G.call 50 ?_; first | refine S.c ?_ (h := plen0_ok) | refine S.c ?_ (h := plen_ok)) | (refine G.call 57 ?_; first | refine S.c ?_ (h := plost0_ok) | refine S.c ?_ (h := plost_ok)) | (refine G.call 58 ?_; first | refine S.c ?_ (h := psize0_ok) | refine S.c ?_ (h := psize_ok)) | (refine G.call 45 ?_; first | refine S.c ?_ (h := pdeliver0_ok) | refine S.c ?_ (h := deliver_ok ?_ ?_)) | (refine G.call 59 ?_; first | refine S.c ?_ (h := pcan0_ok) | refine S.c ?_ (h := can_ok)) | refine S.n fun _ => ?_ | refine S.i fun hix => ?_ | (refine S.g fun hb => ?_; (try simp only [hb])) | (refine S.s (fun hb => ?_) (fun hb => ?_) <;> ((try simp only [hb]) <;> (try (have hp := hb; simp only [WKs] at hp; (try have hq := Int.not_le.2 hp); (try have hq := Int.not_lt.2 hp))))))
    | rintro _ _ ⟨rfl, rfl⟩
    | rintro _ _ ⟨_, rfl, rfl⟩
    | rintro _ _ ⟨_, _, rfl, rfl⟩
    | rintro _ _ ⟨_, _, hrd, rfl, rfl⟩
    | ((fail_if_success refine G.tr ?_); exact G.prop S.p)
    | fail) <;> (try simp only [WKb, WKh, ↓reduceIte, Nat.reduceEqDiff, pl12, hin, pnil1, pnil2, pnil3, pnil4, pnil5, pnil6, pnil7, pnil8, pnilsz]))))
    all_goals (apply Tr.againE (2); (focus (simp only [WKb, ↓reduceIte, Nat.reduceEqDiff])); (focus ((try simp only [WKb, ↓reduceIte, Nat.reduceEqDiff, Nat.reduceAdd, Nat.reduceSub, hw]); (all_goals ((repeat (refine cons_eq (by first | rfl | ((try clear hK) <;> first | (simp [*, show ¬ (2 : Nat) < 2 from by omega]; done) | (simp [*, show ¬ (2 : Nat) < 2 from by omega]; omega) | (simp [*, show ¬ (2 : Nat) < 2 from by omega] <;> (try split) <;> simp_all <;> omega))) ?_)); rfl)); done)); (focus (first | omega | assumption | (simp only []; omega) | (refine ⟨by omega, by assumption⟩) | (simp only []; refine ⟨by omega, by assumption⟩) | ((try simp only []); (repeat' (first | omega | assumption | refine And.intro ?_ ?_)); done))); (focus (first | omega | (simp only []; omega))); (focus (((try clear hK) <;> (try simp only [WKe, show ¬ (2 : Nat) < 2 from by omega, ↓reduceIte, *]) <;> repeat (first | with_reducible exact EntR.done | refine S.e ?_ | (refine S.f ?_ <;> (try simp only [WKe, show ¬ (2 : Nat) < 2 from by omega, ↓reduceIte, reduceCtorEq, Int.reduceEq, *])) | with_reducible apply EntR.ex | refine EntR.drop (F := F) ?_ | refine EntR.drop ?_)))))
  · simp only [show ¬ (2 : Nat) < 2 from by omega, if_false, List.nil_append]
    ((try simp only [WKb, ↓reduceIte, Nat.reduceEqDiff]) <;> (repeat' ((first
    | (refine G.tr ?_; first | refine S.a ?_ | refine Tr.brK ?_ ?_ | (refine G.call 44 ?_; refine S.c ?_ (h := works18_ok)) | (refine G.call 56 ?_; first | refine S.c ?_ (h := pclear0_ok) | refine S.c ?_ (h := pclear1_ok)) | (refine G.call 51 ?_; first | refine S.c ?_ (h := pread0_ok) | refine S.c ?_ (h := read2_ok ?_)) | (refine G.call 47 ?_; first | refine S.c ?_ (h := preceive0_ok) | refine S.c ?_ (h := receive2_ok ?_)) | (refine G.call 52 ?_; first | refine S.c ?_ (h := pwrite0_ok) | refine S.c ?_ (h := write_ok ?_ ?_)) | (refine G.call 46 ?_; first | refine S.c ?_ (h := psend0_ok) | refine S.c ?_ (h := send_ok ?_ ?_)) | (refine G.call 49 ?_; first | refine S.c ?_ (h := pdrain1_ok) | refine S.c ?_ (h := pdrain0_ok) | refine S.c ?_ (h := drain0_ok (by rfl) ?_) | refine S.c ?_ (h := drain1_ok ?_)) | (refine G.call 50 ?_; first | refine S.c ?_ (h := plen0_ok) | refine S.c ?_ (h := plen_ok)) | (refine G.call 57 ?_; first | refine S.c ?_ (h := plost0_ok) | refine S.c ?_ (h := plost_ok)) | (refine G.call 58 ?_; first | refine S.c ?_ (h := psize0_ok) | refine S.c ?_ (h := psize_ok)) | (refine G.call 45 ?_; first | refine S.c ?_ (h := pdeliver0_ok) | refine S.c ?_ (h := deliver_ok ?_ ?_)) | (refine G.call 59 ?_; first | refine S.c ?_ (h := pcan0_ok) | refine S.c ?_ (h := can_ok)) | refine S.n fun _ => ?_ | refine S.i fun hix => ?_ | (refine S.g fun hb => ?_; (try simp only [hb])) | (refine S.s (fun hb => ?_) (fun hb => ?_) <;> ((try simp only [hb]) <;> (try (have hp := hb; simp only [WKs] at hp; (try have hq := Int.not_le.2 hp); (try have hq := Int.not_lt.2 hp))))))
    | rintro _ _ ⟨rfl, rfl⟩
    | rintro _ _ ⟨_, rfl, rfl⟩
    | rintro _ _ ⟨_, _, rfl, rfl⟩
    | rintro _ _ ⟨_, _, hrd, rfl, rfl⟩
    | ((fail_if_success refine G.tr ?_); exact G.prop S.p)
    | fail) <;> (try simp only [WKb, ↓reduceIte, Nat.reduceEqDiff]))))
    all_goals
      refine Tr.fin hK ⟨rfl, rfl⟩ ?_
      ((try clear hK) <;> (try simp only [WKe, *]) <;> repeat (first | with_reducible exact EntR.done | refine S.e ?_ | (refine S.f ?_ <;> (try simp only [WKe, ↓reduceIte, reduceCtorEq, Int.reduceEq, *])) | with_reducible apply EntR.ex | refine EntR.drop (F := F) ?_ | refine EntR.drop ?_))
end Go.Proofs.Ytlmcoiloepoggaa
