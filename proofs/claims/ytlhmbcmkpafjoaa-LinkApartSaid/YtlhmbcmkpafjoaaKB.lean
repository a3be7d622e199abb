import Derived.Test.YtlhmbcmkpafjoaaPbx
import Derived.Test.YtlhmbcmkpafjoaaKA
namespace Go.Proofs.Ytlhmbcmkpafjoaa
open Go Go.Wk
set_option maxHeartbeats 6400000
set_option maxRecDepth 100000
/-- A message: its words, and what its bytes are. -/
structure MsgC where
  ch : Int
  win : Int
  d : Msg
instance : Inhabited MsgC := ⟨⟨0, 0, default⟩⟩
instance : En MsgC := ⟨fun d => [.int .i64 d.ch, .int .i64 d.win, d.d.s.v], 3, fun _ => rfl, fun _ => rfl, by decide⟩
instance : Fz MsgC := ⟨fun p => Fz.fz p.d, fun p => Fz.dup p.d⟩
instance : FzD MsgC := ⟨fun R w => FzD.h (α := Msg) R w⟩
instance (priority := 700) hass_msgc {l : List Asrt} {x : MsgC} [hz : HasZ l x] : HasS l x.d.s.v true UInt8 inferInstance x.d.d := ⟨hz.h.imp fun h => ⟨fun _ => False, sl_of_fz (Fz.dup x.d h)⟩⟩
instance (priority := 800) hasz_msgc {l : List Asrt} {a b : Int} {x : Msg} [hz : HasZ l x] : HasZ l (MsgC.mk a b x) := ⟨hz.h⟩
instance (priority := 700) hasz_msgd {l : List Asrt} {x : MsgC} [hz : HasZ l x] : HasZ l (MsgC.d x) := ⟨hz.h⟩
def MsgC.ab (m : MsgC) : Int × Int × List UInt8 := (m.ch, m.win, m.d.d)
def MsgC.w (m : MsgC) : MsgW := ⟨m.ch, m.win, m.d.s⟩
instance {l : List Asrt} {a b : Int} {s : SV} {d : List UInt8} [_hs : HasS l s.v true UInt8 inferInstance d] : De l (.agg [.int .i64 a, .int .i64 b, s.v].toArray) (MsgC.mk a b ⟨s, d⟩) := ⟨rfl⟩
instance : ElT 69 MsgC := ⟨⟩
instance : ElT 22 Int := ⟨⟩
def outsN (chs : List ChanC) (part : Int) (n : Nat) : List Int := ((List.range n).filter fun k : Nat => decide ((ix chs (k : Int)).fp = part)).map fun k : Nat => (k : Int)
def outsA (chs : List ChanC) (part : Int) : List Int := outsN chs part (min chs.length 16)
theorem outsN_succ {chs : List ChanC} {part : Int} {n : Nat} : outsN chs part (n + 1) = outsN chs part n ++ (if (ix chs (n : Int)).fp = part then [(n : Int)] else []) := by
  unfold outsN
  rw [List.range_succ, List.filter_append, List.map_append]
  congr 1
  by_cases h : (ix chs (n : Int)).fp = part <;> simp [h]
theorem outsN_len {chs : List ChanC} {part : Int} {n : Nat} : (outsN chs part n).length ≤ n := by
  unfold outsN
  rw [List.length_map]
  exact Nat.le_trans (List.length_filter_le _ _) (by simp)
theorem take16 {chs : List ChanC} : (chs.take 16).length = min chs.length 16 := by rw [List.length_take]; omega
theorem ix_take16 {chs : List ChanC} {k : Nat} (h : k < min chs.length 16) : ix (chs.take 16) (k : Int) = ix chs (k : Int) := by unfold ix; simp only [List.getD_eq_getElem?_getD, List.getElem?_take, Int.toNat_natCast]; rw [if_pos (by omega)]
def inCh (chs : List ChanC) (k : Int) : Prop := 0 ≤ k ∧ k < (min chs.length 16 : Nat)
instance (chs : List ChanC) (k : Int) : Decidable (inCh chs k) := by unfold inCh; infer_instance
def findC (chs : List ChanC) (k : Int) : ChanC := if inCh chs k then ix chs k else default
attribute [local irreducible] BrK GenK EGenK EUnitK CallK FnK CallV GuardO GuardC CondW opX opK opKc chkR eqR seqK blkK endL WL WD W LoopW BinK Tr drewK resL PickK NotK NilK ExtrK getK Instr.storeAt Instr.loadAt Instr.fieldAt Instr.indexAt Instr.lookup Instr.mapUpdate Instr.box Instr.alloc Instr.build Instr.buildSlice Instr.makeSlice Instr.makeMap Instr.sliceAt Instr.field Instr.index Instr.makeInterface Instr.typeAssert Builtin.len_ Builtin.append_ Builtin.cap_ Builtin.min_ Builtin.max_ Builtin.copy_ Builtin.clear_ convert binOp mp blk rob sl sep ex fact old
theorem channels_ok {u0 : Value} {c : ConfC} [hd : DeA u0 c] {chs : List ChanC} : Trip Try.prog 59 [u0].toArray [sl true c.chans.v chs]
    fun v l' => ∃ s : SV, v = s.v ∧ l' = [sl true s.v (chs.take 16)] := by
  obtain rfl := hd.h
  intro F K hK
  simp only [List.cons_append, List.nil_append]
  obtain ⟨c1, c2, c3, c4, c5, c6, c7, c8, c9, c10, c11, c12, c13⟩ := c
  have hm : (if (16 : Int) < (chs.length : Int) then (16 : Int) else (chs.length : Int)) = ((min chs.length 16 : Nat) : Int) := by split <;> omega
  have ht : chs.take ((min chs.length 16 : Nat) : Int).toNat = chs.take 16 := by rw [Int.toNat_natCast, Nat.min_comm]; exact List.take_eq_take_min.symm
  have ht2 : chs.take (min chs.length 16) = chs.take 16 := by rw [Nat.min_comm]; exact List.take_eq_take_min.symm
  (refine Tr.enter (rs := [.tmp 2]) mixed fn59 rfl (by simp +arith [Try.ntmps59]) fun u => ?_; simp only [cd59, Try.f59])
  ((try simp only [WKb, ↓reduceIte]) <;> (repeat' ((first
    | (refine G.tr ?_; first | refine S.a ?_ | refine Tr.brK ?_ ?_ | refine S.n fun _ => ?_ | refine S.i fun hix => ?_ | (refine S.g fun hb => ?_; (try simp only [hb])) | (refine S.s (fun hb => ?_) (fun hb => ?_) <;> ((try simp only [hb]) <;> (try (have hp := hb; simp only [WKs] at hp; (try have hq := Int.not_le.2 hp); (try have hq := Int.not_lt.2 hp))))))
    | ((fail_if_success refine G.tr ?_); exact G.prop S.p)
    | fail) <;> (try simp only [WKb, ↓reduceIte, Nat.reduceEqDiff, hm]))))
  all_goals
    apply Tr.fin hK ⟨_, rfl, rfl⟩
    ((try clear hK) <;> (try simp only [WKe, *]) <;> repeat (first | with_reducible exact EntR.done | refine S.e ?_ | (refine S.f ?_ <;> (try simp only [WKe, ht, ht2, ↓reduceIte, reduceCtorEq, Int.reduceEq, *])) | with_reducible apply EntR.ex | refine EntR.drop (F := F) ?_ | refine EntR.drop ?_))

theorem outs_ok {u0 : Value} {c : ConfC} [hd : DeA u0 c] {chs : List ChanC} {part : Int} : Trip Try.prog 28 [u0, .int .i64 part].toArray [sl true c.chans.v chs]
    fun v l' => ∃ s : SV, v = s.v ∧ l' = [sl false s.v (outsA chs part)] := by
  obtain rfl := hd.h
  intro F K hK
  simp only [List.cons_append, List.nil_append]
  obtain ⟨c1, c2, c3, c4, c5, c6, c7, c8, c9, c10, c11, c12, c13⟩ := c
  have h16 := take16 (chs := chs)
  (refine Tr.enter (rs := [.tmp 4]) mixed fn28 rfl (by simp +arith [Try.ntmps28]) fun u => ?_; simp only [cd28, Try.f28])
  ((try simp only [WKb, ↓reduceIte, Nat.reduceEqDiff, Nat.reduceAdd]) <;> (repeat' ((first
    | (refine G.tr ?_; first | refine S.a ?_ | refine Tr.brK ?_ ?_ | (refine G.call 59 ?_; refine S.c ?_ (h := channels_ok)) | refine S.n fun _ => ?_ | refine S.i fun hix => ?_ | (refine S.g fun hb => ?_; (try simp only [hb])) | (refine S.s (fun hb => ?_) (fun hb => ?_) <;> ((try simp only [hb]) <;> (try (have hp := hb; simp only [WKs] at hp; (try have hq := Int.not_le.2 hp); (try have hq := Int.not_lt.2 hp))))))
    | rintro _ _ ⟨_, rfl, rfl⟩
    | ((fail_if_success refine G.tr ?_); exact G.prop S.p)
    | fail) <;> (try simp only [WKb, ↓reduceIte, Nat.reduceEqDiff]))))
  refine Tr.nilSl (α := Int) ?_
  refine Tr.loopE (α := Nat × SV) [5, 11] [1, 4, 9, 10] (fun x => [x.2.v, .int .i64 x.1]) (fun x => [sl false x.2.v (outsN chs part x.1)]) (fun x => x.1 ≤ min chs.length 16) (fun x => min chs.length 16 - x.1) (0, ⟨none, 0, 0⟩) (by (repeat (first | exact TakeL.nil | (apply TakeL.cons; focus ((first | exact TakeA.dupS | exact TakeA.dupF | ((repeat (first | with_reducible exact TakeA.here | exact TakeA.fam (by omega) (by omega) | with_reducible apply TakeA.next)); done) | ((repeat (first | exact TakeA.here | apply TakeA.next)); done) | exact TakeA.famNil | exact TakeA.nilS))) | fail)); done) rfl (by simp) fun x u hx => ?_
  obtain ⟨k, s⟩ := x
  simp only at hx ⊢
  have hw := wrapSucc (k := k) (by omega)
  have hol := outsN_len (chs := chs) (part := part) (n := k)
  by_cases hin : k < min chs.length 16
  · have hxc := ix_take16 hin
    by_cases hp : (ix chs (k : Int)).fp = part
    · have hs : outsN chs part (k + 1) = outsN chs part k ++ [(k : Int)] := by rw [outsN_succ, if_pos hp]
      ((try simp only [WKb, ↓reduceIte, Nat.reduceEqDiff]) <;> (repeat' ((first
    | (refine G.tr ?_; first | refine S.a ?_ | refine Tr.brK ?_ ?_ | (refine G.call 59 ?_; refine S.c ?_ (h := channels_ok)) | refine S.n fun _ => ?_ | refine S.i fun hix => ?_ | (refine S.g fun hb => ?_; (try simp only [hb])) | (refine S.s (fun hb => ?_) (fun hb => ?_) <;> ((try simp only [hb]) <;> (try (have hp := hb; simp only [WKs] at hp; (try have hq := Int.not_le.2 hp); (try have hq := Int.not_lt.2 hp))))))
    | rintro _ _ ⟨_, rfl, rfl⟩
    | ((fail_if_success refine G.tr ?_); exact G.prop S.p)
    | fail) <;> (try simp only [WKb, ↓reduceIte, Nat.reduceEqDiff, hw, hxc]))))
      all_goals (apply Tr.againE ((k + 1, _)); (focus (simp only [WKb, ↓reduceIte, Nat.reduceEqDiff])); (focus ((try simp only [WKb, ↓reduceIte, Nat.reduceEqDiff]); (all_goals ((repeat (refine cons_eq (by first | rfl | ((try clear hK) <;> first | (simp [*, hs]; done) | (simp [*, hs]; omega) | (simp [*, hs] <;> (try split) <;> simp_all <;> omega))) ?_)); rfl)); done)); (focus (first | omega | assumption | (simp only []; omega) | (refine ⟨by omega, by assumption⟩) | (simp only []; refine ⟨by omega, by assumption⟩) | ((try simp only []); (repeat' (first | omega | assumption | refine And.intro ?_ ?_)); done))); (focus (first | omega | (simp only []; omega))); (focus (((try clear hK) <;> (try simp only [WKe, *]) <;> repeat (first | with_reducible exact EntR.done | refine S.e ?_ | (refine S.f ?_ <;> (try simp only [WKe, hs, ↓reduceIte, reduceCtorEq, Int.reduceEq, *])) | with_reducible apply EntR.ex | refine EntR.drop (F := F) ?_ | refine EntR.drop ?_)))))
    · have hs : outsN chs part (k + 1) = outsN chs part k := by rw [outsN_succ, if_neg hp, List.append_nil]
      ((try simp only [WKb, ↓reduceIte, Nat.reduceEqDiff]) <;> (repeat' ((first
    | (refine G.tr ?_; first | refine S.a ?_ | refine Tr.brK ?_ ?_ | (refine G.call 59 ?_; refine S.c ?_ (h := channels_ok)) | refine S.n fun _ => ?_ | refine S.i fun hix => ?_ | (refine S.g fun hb => ?_; (try simp only [hb])) | (refine S.s (fun hb => ?_) (fun hb => ?_) <;> ((try simp only [hb]) <;> (try (have hp := hb; simp only [WKs] at hp; (try have hq := Int.not_le.2 hp); (try have hq := Int.not_lt.2 hp))))))
    | rintro _ _ ⟨_, rfl, rfl⟩
    | ((fail_if_success refine G.tr ?_); exact G.prop S.p)
    | fail) <;> (try simp only [WKb, ↓reduceIte, Nat.reduceEqDiff, hw, hxc]))))
      all_goals (apply Tr.againE ((k + 1, _)); (focus (simp only [WKb, ↓reduceIte, Nat.reduceEqDiff])); (focus ((try simp only [WKb, ↓reduceIte, Nat.reduceEqDiff]); (all_goals ((repeat (refine cons_eq (by first | rfl | ((try clear hK) <;> first | (simp [*, hs]; done) | (simp [*, hs]; omega) | (simp [*, hs] <;> (try split) <;> simp_all <;> omega))) ?_)); rfl)); done)); (focus (first | omega | assumption | (simp only []; omega) | (refine ⟨by omega, by assumption⟩) | (simp only []; refine ⟨by omega, by assumption⟩) | ((try simp only []); (repeat' (first | omega | assumption | refine And.intro ?_ ?_)); done))); (focus (first | omega | (simp only []; omega))); (focus (((try clear hK) <;> (try simp only [WKe, *]) <;> repeat (first | with_reducible exact EntR.done | refine S.e ?_ | (refine S.f ?_ <;> (try simp only [WKe, hs, ↓reduceIte, reduceCtorEq, Int.reduceEq, *])) | with_reducible apply EntR.ex | refine EntR.drop (F := F) ?_ | refine EntR.drop ?_)))))
  · have hk : k = min chs.length 16 := by omega
    subst hk
    ((try simp only [WKb, ↓reduceIte, Nat.reduceEqDiff]) <;> (repeat' ((first
    | (refine G.tr ?_; first | refine S.a ?_ | refine Tr.brK ?_ ?_ | (refine G.call 59 ?_; refine S.c ?_ (h := channels_ok)) | refine S.n fun _ => ?_ | refine S.i fun hix => ?_ | (refine S.g fun hb => ?_; (try simp only [hb])) | (refine S.s (fun hb => ?_) (fun hb => ?_) <;> ((try simp only [hb]) <;> (try (have hp := hb; simp only [WKs] at hp; (try have hq := Int.not_le.2 hp); (try have hq := Int.not_lt.2 hp))))))
    | rintro _ _ ⟨_, rfl, rfl⟩
    | ((fail_if_success refine G.tr ?_); exact G.prop S.p)
    | fail) <;> (try simp only [WKb, ↓reduceIte, Nat.reduceEqDiff]))))
    all_goals
      apply Tr.fin hK ⟨_, rfl, rfl⟩
      ((try clear hK) <;> (try simp only [WKe, outsA, *]) <;> repeat (first | with_reducible exact EntR.done | refine S.e ?_ | (refine S.f ?_ <;> (try simp only [WKe, outsA, ↓reduceIte, reduceCtorEq, Int.reduceEq, *])) | with_reducible apply EntR.ex | refine EntR.drop (F := F) ?_ | refine EntR.drop ?_))

theorem find_ok {u0 : Value} {c : ConfC} [hd : DeA u0 c] {chs : List ChanC} {k : Int} : Trip Try.prog 62 [u0, .int .i64 k].toArray [sl true c.chans.v chs]
    fun v l' => v = .tuple #[.agg [.int .i64 (findC chs k).fp, .int .i64 (findC chs k).fo, .int .i64 (findC chs k).tp, .int .i64 (findC chs k).to].toArray, .bool (decide (inCh chs k))] ∧ l' = [] := by
  obtain rfl := hd.h
  intro F K hK
  simp only [List.cons_append, List.nil_append]
  obtain ⟨c1, c2, c3, c4, c5, c6, c7, c8, c9, c10, c11, c12, c13⟩ := c
  have h16 := take16 (chs := chs)
  (refine Tr.enter (rs := [.cell 4 78, .tmp 5]) mixed fn62 rfl (by simp +arith [Try.ntmps62]) fun u => ?_; simp only [cd62, Try.f62])
  by_cases h : inCh chs k
  · have ⟨h0, h1⟩ := h
    have hf : findC chs k = ix chs k := if_pos h
    have hxc : ix (chs.take 16) k = ix chs k := by have := ix_take16 (chs := chs) (k := k.toNat) (by omega); rwa [Int.toNat_of_nonneg h0] at this
    ((try simp only [WKb, ↓reduceIte, Nat.reduceEqDiff, Nat.reduceAdd]) <;> (repeat' ((first
    | (refine G.tr ?_; first | refine S.a ?_ | refine Tr.brK ?_ ?_ | (refine G.call 59 ?_; refine S.c ?_ (h := channels_ok)) | refine S.n fun _ => ?_ | refine S.i fun hix => ?_ | (refine S.g fun hb => ?_; (try simp only [hb])) | (refine S.s (fun hb => ?_) (fun hb => ?_) <;> ((try simp only [hb]) <;> (try (have hp := hb; simp only [WKs] at hp; (try have hq := Int.not_le.2 hp); (try have hq := Int.not_lt.2 hp))))))
    | rintro _ _ ⟨_, rfl, rfl⟩
    | ((fail_if_success refine G.tr ?_); exact G.prop S.p)
    | fail) <;> (try simp only [WKb, ↓reduceIte, Nat.reduceEqDiff, hxc]))))
    all_goals
      refine Tr.fin hK ⟨(by first | (simp [*]; done) | (simp only [WKe, *]; done) | (simp only [WKe, *]; rfl)), rfl⟩ ?_
      ((try clear hK) <;> (try simp only [WKe, *]) <;> repeat (first | with_reducible exact EntR.done | refine S.e ?_ | (refine S.f ?_ <;> (try simp only [WKe, ↓reduceIte, reduceCtorEq, Int.reduceEq, *])) | with_reducible apply EntR.ex | refine EntR.drop (F := F) ?_ | refine EntR.drop ?_))
  · have hf : findC chs k = default := if_neg h
    have hz : (default : ChanC) = ⟨0, 0, 0, 0⟩ := rfl
    have h' := h
    unfold inCh at h'
    ((try simp only [WKb, ↓reduceIte, Nat.reduceEqDiff, Nat.reduceAdd]) <;> (repeat' ((first
    | (refine G.tr ?_; first | refine S.a ?_ | refine Tr.brK ?_ ?_ | (refine G.call 59 ?_; refine S.c ?_ (h := channels_ok)) | refine S.n fun _ => ?_ | refine S.i fun hix => ?_ | (refine S.g fun hb => ?_; (try simp only [hb])) | (refine S.s (fun hb => ?_) (fun hb => ?_) <;> ((try simp only [hb]) <;> (try (have hp := hb; simp only [WKs] at hp; (try have hq := Int.not_le.2 hp); (try have hq := Int.not_lt.2 hp))))))
    | rintro _ _ ⟨_, rfl, rfl⟩
    | ((fail_if_success refine G.tr ?_); exact G.prop S.p)
    | fail) <;> (try simp only [WKb, ↓reduceIte, Nat.reduceEqDiff]))))
    all_goals
      refine Tr.fin hK ⟨(by first | (simp [*]; done) | (simp only [WKe, ↓reduceIte, reduceCtorEq, Int.reduceEq, eq_self, *, hf, h, hz]; done) | (simp only [WKe, ↓reduceIte, reduceCtorEq, Int.reduceEq, *, hf, h, hz]; rfl)), rfl⟩ ?_
      ((try clear hK) <;> (try simp only [WKe, *]) <;> repeat (first | with_reducible exact EntR.done | refine S.e ?_ | (refine S.f ?_ <;> (try simp only [WKe, ↓reduceIte, reduceCtorEq, Int.reduceEq, *])) | with_reducible apply EntR.ex | refine EntR.drop (F := F) ?_ | refine EntR.drop ?_))

def insOK (chs : List ChanC) (part : Int) (m : Int × Int × List UInt8) : Bool := decide (inCh chs m.1) && decide ((ix chs m.1).tp = part)
def insA (chs : List ChanC) (part : Int) (l : List (Int × Int × List UInt8)) : List (Int × Int × List UInt8) := l.filter (insOK chs part)
theorem insA_snoc {chs : List ChanC} {part : Int} {l : List (Int × Int × List UInt8)} {m : Int × Int × List UInt8} : insA chs part (l ++ [m]) = insA chs part l ++ (if insOK chs part m = true then [m] else []) := by
  unfold insA
  rw [List.filter_append]; congr 1
  cases h : insOK chs part m <;> simp [h]
theorem msgc_set {m : MsgC} {v : Value} : (En.enc m).set 2 v = [.int .i64 m.ch, .int .i64 m.win, v] := rfl
theorem ins_ok {u0 : Value} {c : ConfC} [hd : DeA u0 c] {chs : List ChanC} {part : Int} {s : SV} {ms : List MsgC} (hn : ms.length ≤ 10000) (hb : ∀ k : Nat, k < ms.length → (ix ms (k : Int)).d.d.length ≤ 1000) :
    Trip Try.prog 35 [u0, .int .i64 part, s.v].toArray [sl true c.chans.v chs, sl true s.v ms, fzl ms]
    fun v l' => ∃ (s2 : SV) (m2 : List MsgC), m2.map MsgC.ab = insA chs part (ms.map MsgC.ab) ∧ v = s2.v ∧ l' = [sl false s2.v m2, fzl m2] := by
  obtain rfl := hd.h
  intro F K hK
  simp only [List.cons_append, List.nil_append]
  obtain ⟨c1, c2, c3, c4, c5, c6, c7, c8, c9, c10, c11, c12, c13⟩ := c
  (refine Tr.enter (rs := [.tmp 6]) mixed fn35 rfl (by simp +arith [Try.ntmps35]) fun u => ?_; simp only [cd35, Try.f35])
  ((try simp only [WKb, ↓reduceIte, Nat.reduceEqDiff, Nat.reduceAdd]) <;> (repeat' ((first
    | (refine G.tr ?_; first | refine S.a ?_ | refine Tr.brK ?_ ?_ | (refine G.call 62 ?_; refine S.c ?_ (h := find_ok)) | (refine G.call 57 ?_; refine S.c ?_ (h := clone_ok (by omega))) | refine S.n fun _ => ?_ | refine S.i fun hix => ?_ | (refine S.g fun hb => ?_; (try simp only [hb])) | (refine S.s (fun hb => ?_) (fun hb => ?_) <;> ((try simp only [hb]) <;> (try (have hp := hb; simp only [WKs] at hp; (try have hq := Int.not_le.2 hp); (try have hq := Int.not_lt.2 hp))))))
    | rintro _ _ ⟨rfl, rfl⟩
    | rintro _ _ ⟨_, rfl, rfl⟩
    | ((fail_if_success refine G.tr ?_); exact G.prop S.p)
    | fail) <;> (try simp only [WKb, ↓reduceIte, Nat.reduceEqDiff]))))
  refine Tr.nilSl (α := MsgC) ?_
  refine Tr.loopE (α := Nat × SV × List MsgC) [7, 14] [1, 3, 6, 12, 13] (fun x => [x.2.1.v, .int .i64 x.1]) (fun x => [sl false x.2.1.v x.2.2, fzl x.2.2]) (fun x => x.1 ≤ ms.length ∧ x.2.2.length ≤ x.1 ∧ x.2.2.map MsgC.ab = insA chs part ((ms.take x.1).map MsgC.ab)) (fun x => ms.length - x.1) (0, ⟨none, 0, 0⟩, []) (by (repeat (first | exact TakeL.nil | (apply TakeL.cons; focus ((first | exact TakeA.dupS | exact TakeA.dupF | ((repeat (first | with_reducible exact TakeA.here | exact TakeA.fam (by omega) (by omega) | with_reducible apply TakeA.next)); done) | ((repeat (first | exact TakeA.here | apply TakeA.next)); done) | exact TakeA.famNil | exact TakeA.nilS))) | fail)); done) rfl (by simp [insA]) fun x u hx => ?_
  obtain ⟨k, t, m2⟩ := x
  simp only at hx ⊢
  obtain ⟨hk, hl2, hm2⟩ := hx
  have hw := wrapSucc (k := k) (by omega)
  by_cases hin : k < ms.length
  · have hbk := hb k hin
    have htk : (ms.take (k + 1)).map MsgC.ab = (ms.take k).map MsgC.ab ++ [(ix ms (k : Int)).ab] := by rw [take_ix hin, List.map_append]; rfl
    by_cases hp : inCh chs (ix ms (k : Int)).ch ∧ (ix chs (ix ms (k : Int)).ch).tp = part
    · obtain ⟨hp1, hp2⟩ := hp
      have hf : findC chs (ix ms (k : Int)).ch = ix chs (ix ms (k : Int)).ch := if_pos hp1
      have hd1 : decide (inCh chs (ix ms (k : Int)).ch) = true := by simpa using hp1
      have hok : insOK chs part (ix ms (k : Int)).ab = true := by simp [insOK, MsgC.ab, hp1, hp2]
      have hnx : ∀ t2 : SV, (m2 ++ [(⟨(ix ms (k : Int)).ch, (ix ms (k : Int)).win, ⟨t2, (ix ms (k : Int)).d.d⟩⟩ : MsgC)]).map MsgC.ab = insA chs part ((ms.take (k + 1)).map MsgC.ab) := fun t2 => by
        rw [htk, insA_snoc, if_pos hok, List.map_append, hm2]; rfl
      have hl3 : ∀ x : MsgC, (m2 ++ [x]).length ≤ k + 1 := fun x => by simp; omega
      ((try simp only [WKb, ↓reduceIte, Nat.reduceEqDiff]) <;> (repeat' ((first
    | (refine G.tr ?_; first | refine S.a ?_ | refine Tr.brK ?_ ?_ | (refine G.call 62 ?_; refine S.c ?_ (h := find_ok)) | (refine G.call 57 ?_; refine S.c ?_ (h := clone_ok (by omega))) | refine S.n fun _ => ?_ | refine S.i fun hix => ?_ | (refine S.g fun hb => ?_; (try simp only [hb])) | (refine S.s (fun hb => ?_) (fun hb => ?_) <;> ((try simp only [hb]) <;> (try (have hp := hb; simp only [WKs] at hp; (try have hq := Int.not_le.2 hp); (try have hq := Int.not_lt.2 hp))))))
    | rintro _ _ ⟨rfl, rfl⟩
    | rintro _ _ ⟨_, rfl, rfl⟩
    | ((fail_if_success refine G.tr ?_); exact G.prop S.p)
    | fail) <;> (try simp only [WKb, ↓reduceIte, Nat.reduceEqDiff, Nat.reduceAdd, hw, hf, hd1, msgc_set]))))
      all_goals (apply Tr.againE ((k + 1, _, _)); (focus (simp only [WKb, ↓reduceIte, Nat.reduceEqDiff])); (focus ((try simp only [WKb, ↓reduceIte, Nat.reduceEqDiff]); (all_goals ((repeat (refine cons_eq (by first | rfl | (simp [*]; done)) ?_)); rfl)); done)); rotate_left 2; (focus (((try clear hK) <;> (try simp only [WKe, *]) <;> repeat (first | with_reducible exact EntR.done | refine S.e ?_ | (refine S.f ?_ <;> (try simp only [WKe, ↓reduceIte, reduceCtorEq, Int.reduceEq, *])) | with_reducible apply EntR.ex | refine EntR.drop (F := F) ?_ | refine EntR.drop ?_)))); (focus (first | omega | assumption | (simp only []; omega) | (refine ⟨by omega, by assumption⟩) | (simp only []; refine ⟨by omega, by assumption⟩) | ((try simp only []); (repeat' (first | omega | assumption | apply hnx | apply hl3 | refine And.intro ?_ ?_)); done))); (focus (first | omega | (simp only []; omega))))
    · have hok : insOK chs part (ix ms (k : Int)).ab = false := by
        cases h : insOK chs part (ix ms (k : Int)).ab with
        | false => rfl
        | true => simp only [insOK, MsgC.ab, Bool.and_eq_true] at h; exact absurd ⟨of_decide_eq_true h.1, of_decide_eq_true h.2⟩ hp
      have hnx : m2.map MsgC.ab = insA chs part ((ms.take (k + 1)).map MsgC.ab) := by
        rw [htk, insA_snoc, hok, hm2]; simp
      have hlx : m2.length ≤ k + 1 := by omega
      by_cases hp1 : inCh chs (ix ms (k : Int)).ch
      · have hp2 : ¬ (ix chs (ix ms (k : Int)).ch).tp = part := fun h => hp ⟨hp1, h⟩
        have hf : findC chs (ix ms (k : Int)).ch = ix chs (ix ms (k : Int)).ch := if_pos hp1
        have hd1 : decide (inCh chs (ix ms (k : Int)).ch) = true := by simpa using hp1
        ((try simp only [WKb, ↓reduceIte, Nat.reduceEqDiff]) <;> (repeat' ((first
    | (refine G.tr ?_; first | refine S.a ?_ | refine Tr.brK ?_ ?_ | (refine G.call 62 ?_; refine S.c ?_ (h := find_ok)) | (refine G.call 57 ?_; refine S.c ?_ (h := clone_ok (by omega))) | refine S.n fun _ => ?_ | refine S.i fun hix => ?_ | (refine S.g fun hb => ?_; (try simp only [hb])) | (refine S.s (fun hb => ?_) (fun hb => ?_) <;> ((try simp only [hb]) <;> (try (have hp := hb; simp only [WKs] at hp; (try have hq := Int.not_le.2 hp); (try have hq := Int.not_lt.2 hp))))))
    | rintro _ _ ⟨rfl, rfl⟩
    | rintro _ _ ⟨_, rfl, rfl⟩
    | ((fail_if_success refine G.tr ?_); exact G.prop S.p)
    | fail) <;> (try simp only [WKb, ↓reduceIte, Nat.reduceEqDiff, Nat.reduceAdd, hw, hf, hd1]))))
        all_goals (apply Tr.againE ((k + 1, _, _)); (focus (simp only [WKb, ↓reduceIte, Nat.reduceEqDiff])); (focus ((try simp only [WKb, ↓reduceIte, Nat.reduceEqDiff]); (all_goals ((repeat (refine cons_eq (by first | rfl | (simp [*]; done)) ?_)); rfl)); done)); (focus (first | omega | assumption | (simp only []; omega) | (refine ⟨by omega, by assumption⟩) | (simp only []; refine ⟨by omega, by assumption⟩) | ((try simp only []); (repeat' (first | omega | assumption | apply hnx | apply hlx | refine And.intro ?_ ?_)); done))); (focus (first | omega | (simp only []; omega))); (focus (((try clear hK) <;> (try simp only [WKe, *]) <;> repeat (first | with_reducible exact EntR.done | refine S.e ?_ | (refine S.f ?_ <;> (try simp only [WKe, ↓reduceIte, reduceCtorEq, Int.reduceEq, *])) | with_reducible apply EntR.ex | refine EntR.drop (F := F) ?_ | refine EntR.drop ?_)))))
      · have hd1 : decide (inCh chs (ix ms (k : Int)).ch) = false := by simpa using hp1
        ((try simp only [WKb, ↓reduceIte, Nat.reduceEqDiff]) <;> (repeat' ((first
    | (refine G.tr ?_; first | refine S.a ?_ | refine Tr.brK ?_ ?_ | (refine G.call 62 ?_; refine S.c ?_ (h := find_ok)) | (refine G.call 57 ?_; refine S.c ?_ (h := clone_ok (by omega))) | refine S.n fun _ => ?_ | refine S.i fun hix => ?_ | (refine S.g fun hb => ?_; (try simp only [hb])) | (refine S.s (fun hb => ?_) (fun hb => ?_) <;> ((try simp only [hb]) <;> (try (have hp := hb; simp only [WKs] at hp; (try have hq := Int.not_le.2 hp); (try have hq := Int.not_lt.2 hp))))))
    | rintro _ _ ⟨rfl, rfl⟩
    | rintro _ _ ⟨_, rfl, rfl⟩
    | ((fail_if_success refine G.tr ?_); exact G.prop S.p)
    | fail) <;> (try simp only [WKb, ↓reduceIte, Nat.reduceEqDiff, hw, hd1]))))
        all_goals (apply Tr.againE ((k + 1, _, _)); (focus (simp only [WKb, ↓reduceIte, Nat.reduceEqDiff])); (focus ((try simp only [WKb, ↓reduceIte, Nat.reduceEqDiff]); (all_goals ((repeat (refine cons_eq (by first | rfl | (simp [*]; done)) ?_)); rfl)); done)); (focus (first | omega | assumption | (simp only []; omega) | (refine ⟨by omega, by assumption⟩) | (simp only []; refine ⟨by omega, by assumption⟩) | ((try simp only []); (repeat' (first | omega | assumption | apply hnx | apply hlx | refine And.intro ?_ ?_)); done))); (focus (first | omega | (simp only []; omega))); (focus (((try clear hK) <;> (try simp only [WKe, *]) <;> repeat (first | with_reducible exact EntR.done | refine S.e ?_ | (refine S.f ?_ <;> (try simp only [WKe, ↓reduceIte, reduceCtorEq, Int.reduceEq, *])) | with_reducible apply EntR.ex | refine EntR.drop (F := F) ?_ | refine EntR.drop ?_)))))
  · have hk' : k = ms.length := by omega
    subst hk'
    have hfin : m2.map MsgC.ab = insA chs part (ms.map MsgC.ab) := by rw [hm2, List.take_length]
    ((try simp only [WKb, ↓reduceIte, Nat.reduceEqDiff]) <;> (repeat' ((first
    | (refine G.tr ?_; first | refine S.a ?_ | refine Tr.brK ?_ ?_ | (refine G.call 62 ?_; refine S.c ?_ (h := find_ok)) | (refine G.call 57 ?_; refine S.c ?_ (h := clone_ok (by omega))) | refine S.n fun _ => ?_ | refine S.i fun hix => ?_ | (refine S.g fun hb => ?_; (try simp only [hb])) | (refine S.s (fun hb => ?_) (fun hb => ?_) <;> ((try simp only [hb]) <;> (try (have hp := hb; simp only [WKs] at hp; (try have hq := Int.not_le.2 hp); (try have hq := Int.not_lt.2 hp))))))
    | rintro _ _ ⟨rfl, rfl⟩
    | rintro _ _ ⟨_, rfl, rfl⟩
    | ((fail_if_success refine G.tr ?_); exact G.prop S.p)
    | fail) <;> (try simp only [WKb, ↓reduceIte, Nat.reduceEqDiff]))))
    all_goals
      apply Tr.fin hK ⟨_, _, hfin, rfl, rfl⟩
      ((try clear hK) <;> (try simp only [WKe, *]) <;> repeat (first | with_reducible exact EntR.done | refine S.e ?_ | (refine S.f ?_ <;> (try simp only [WKe, ↓reduceIte, reduceCtorEq, Int.reduceEq, *])) | with_reducible apply EntR.ex | refine EntR.drop (F := F) ?_ | refine EntR.drop ?_))

end Go.Proofs.Ytlhmbcmkpafjoaa
